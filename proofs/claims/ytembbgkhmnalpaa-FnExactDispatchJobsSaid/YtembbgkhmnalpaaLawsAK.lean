/- The exact law on dispatching: the program's DispatchJobs returns what the reference's returns. Conditions: none. -/
import Derived.Test.YtembbgkhmnalpaaDisI
import Derived.Test.YtembbgkhmnalpaaDisS
import Derived.Test.YtembbgkhmnalpaaSltM
import Derived.Test.YtembbgkhmnalpaaLift
namespace Go.Proofs.Ytembbgkhmnalpaa
open Go.ChangeShapes Go.WideShapes Go.ChangeAt Go.RowKit Go.Joins Go.Deep
set_option linter.unusedVariables false
set_option linter.unusedSimpArgs false

namespace fnExactDispatchJobs
set_option maxRecDepth 100000 in
set_option maxHeartbeats 40000000 in
theorem walk (w : World) (J : List Jb) (A : Option Addr) (c : Nat) (r_J : RdJ w A J) (q_J : J.length ≤ c ∧ c ≤ maxLen) (k_J : ∀ x ∈ J, x.Ok) (rule : Int) (w_rule : (Lit.int .i64 rule).wf = true) :
    Calls Try.prog 6 #[.slice A J.length c, .int .i64 rule] w fun e w' => e = .returned (.bool true) ∧ Grew w w' := by
  have hRl : ((dispF J rule).1).length ≤ 4194304 := Nat.le_trans (disp_le J rule) (by decide)
  have hq_J := q_J
  unfold maxLen at hq_J
  go_enter Try.func6, Try.ntmps6
  go_wp2_with fail
  refine (szJobS_any J A c _ _ (r_J.grew (by (repeat (with_reducible first | exact Grew.refl _ | assumption | apply Grew.alloc | apply Grew.drew | apply Grew.drewN | (refine Grew.setCell ?_ (by simp; try omega) _) | (refine Grew.trans ?_ (by assumption)))))) k_J (by omega) (by omega) (by simp only [maxLen]; omega)).mono ?_; rintro e w1 ⟨r1, rfl, hle1, hr1, h1⟩
  by_cases hr0_1 : r1 < 0
  · go_wp2_with fail
    go_ret
    go_light
    refine ⟨rfl, ?_⟩
    (repeat (with_reducible first | exact Grew.refl _ | assumption | apply Grew.alloc | apply Grew.drew | apply Grew.drewN | (refine Grew.setCell ?_ (by simp; try omega) _) | (refine Grew.trans ?_ (by assumption))))
  have hn_J := hr1 (by omega)
  go_wp2_with fail
  refine (toJobS_any J A c _ (r_J.grew (by (repeat (with_reducible first | exact Grew.refl _ | assumption | apply Grew.alloc | apply Grew.drew | apply Grew.drewN | (refine Grew.setCell ?_ (by simp; try omega) _) | (refine Grew.trans ?_ (by assumption)))))) (by omega) (fun m hm => by have := hn_J.2.1 m hm; omega)).mono ?_; rintro e w2 ⟨rfl, os_J, h2⟩
  go_wp2_with fail
  refine (dispatch_spec J _ _ rule _ (os_J.grew (by (repeat (with_reducible first | exact Grew.refl _ | assumption | apply Grew.alloc | apply Grew.drew | apply Grew.drewN | (refine Grew.setCell ?_ (by simp; try omega) _) | (refine Grew.trans ?_ (by assumption)))))).rd (JSm.of k_J) (by omega)).mono ?_; rintro e w3 ⟨As, cs, rfl, os, h3⟩
  go_wp2_with fail
  refine (toJobS_any J A c _ (r_J.grew (by (repeat (with_reducible first | exact Grew.refl _ | assumption | apply Grew.alloc | apply Grew.drew | apply Grew.drewN | (refine Grew.setCell ?_ (by simp; try omega) _) | (refine Grew.trans ?_ (by assumption)))))) (by omega) (fun m hm => by have := hn_J.2.1 m hm; omega)).mono ?_; rintro e w4 ⟨rfl, oi_J, h4⟩
  go_wp2_with fail
  refine (dispatch_impl J _ _ rule _ (oi_J.grew (by (repeat (with_reducible first | exact Grew.refl _ | assumption | apply Grew.alloc | apply Grew.drew | apply Grew.drewN | (refine Grew.setCell ?_ (by simp; try omega) _) | (refine Grew.trans ?_ (by assumption)))))).rd (JSm.of k_J) (by omega)).mono ?_; rintro e w5 ⟨Ag, cg, rfl, og, h5⟩
  go_wp2_with fail
  refine (eqSlotS_any ((dispF J rule).1) ((dispF J rule).1) _ _ _ _ _ (og.grew (by (repeat (with_reducible first | exact Grew.refl _ | assumption | apply Grew.alloc | apply Grew.drew | apply Grew.drewN | (refine Grew.setCell ?_ (by simp; try omega) _) | (refine Grew.trans ?_ (by assumption)))))).rd (os.grew (by (repeat (with_reducible first | exact Grew.refl _ | assumption | apply Grew.alloc | apply Grew.drew | apply Grew.drewN | (refine Grew.setCell ?_ (by simp; try omega) _) | (refine Grew.trans ?_ (by assumption)))))).rd hRl hRl).mono ?_; rintro e w6 ⟨rfl, h6⟩
  go_wp2_with fail
  refine (toJobS_any J A c _ (r_J.grew (by (repeat (with_reducible first | exact Grew.refl _ | assumption | apply Grew.alloc | apply Grew.drew | apply Grew.drewN | (refine Grew.setCell ?_ (by simp; try omega) _) | (refine Grew.trans ?_ (by assumption)))))) (by omega) (fun m hm => by have := hn_J.2.1 m hm; omega)).mono ?_; rintro e w7 ⟨rfl, oe_J, h7⟩
  go_wp2_with fail
  refine (eqJobS_any J J _ _ _ _ _ (oi_J.grew (by (repeat (with_reducible first | exact Grew.refl _ | assumption | apply Grew.alloc | apply Grew.drew | apply Grew.drewN | (refine Grew.setCell ?_ (by simp; try omega) _) | (refine Grew.trans ?_ (by assumption)))))).rd (oe_J.grew (by (repeat (with_reducible first | exact Grew.refl _ | assumption | apply Grew.alloc | apply Grew.drew | apply Grew.drewN | (refine Grew.setCell ?_ (by simp; try omega) _) | (refine Grew.trans ?_ (by assumption)))))).rd (by omega) (by omega) (fun m hm => by have := hn_J.2.1 m hm; omega) (fun m hm => by have := hn_J.2.1 m hm; omega)).mono ?_; rintro e w8 ⟨rfl, h8⟩
  go_wp2_with fail
  refine (markJobS_any J _ _ _ _ _ oi_J (by (repeat (with_reducible first | exact Grew.refl _ | assumption | apply Grew.alloc | apply Grew.drew | apply Grew.drewN | (refine Grew.setCell ?_ (by simp; try omega) _) | (refine Grew.trans ?_ (by assumption))))) (by omega) hn_J.2).mono ?_; rintro e w9 ⟨rfl, om9, hr9⟩
  have h9 : Grew w3 w9 := hr9.2 w3 (by (repeat (with_reducible first | exact Grew.refl _ | assumption | apply Grew.alloc | apply Grew.drew | apply Grew.drewN | (refine Grew.setCell ?_ (by simp; try omega) _) | (refine Grew.trans ?_ (by assumption))))) (show Grew w3 w3 by (repeat (with_reducible first | exact Grew.refl _ | assumption | apply Grew.alloc | apply Grew.drew | apply Grew.drewN | (refine Grew.setCell ?_ (by simp; try omega) _) | (refine Grew.trans ?_ (by assumption))))).le
  have og9 := (og.grew (by (repeat (with_reducible first | exact Grew.refl _ | assumption | apply Grew.alloc | apply Grew.drew | apply Grew.drewN | (refine Grew.setCell ?_ (by simp; try omega) _) | (refine Grew.trans ?_ (by assumption)))))).kept3 hr9.1 (show Grew w4 w4 by (repeat (with_reducible first | exact Grew.refl _ | assumption | apply Grew.alloc | apply Grew.drew | apply Grew.drewN | (refine Grew.setCell ?_ (by simp; try omega) _) | (refine Grew.trans ?_ (by assumption))))).le
  go_wp2_with fail
  refine (eqSlotS_any ((dispF J rule).1) ((dispF J rule).1) _ _ _ _ _ (og9.grew (by (repeat (with_reducible first | exact Grew.refl _ | assumption | apply Grew.alloc | apply Grew.drew | apply Grew.drewN | (refine Grew.setCell ?_ (by simp; try omega) _) | (refine Grew.trans ?_ (by assumption)))))).rd (os.grew (by (repeat (with_reducible first | exact Grew.refl _ | assumption | apply Grew.alloc | apply Grew.drew | apply Grew.drewN | (refine Grew.setCell ?_ (by simp; try omega) _) | (refine Grew.trans ?_ (by assumption)))))).rd hRl hRl).mono ?_; rintro e w10 ⟨rfl, h10⟩
  go_wp2_with fail
  refine (markSlotS_any ((dispF J rule).1) _ _ _ _ _ (og9.grew (by (repeat (with_reducible first | exact Grew.refl _ | assumption | apply Grew.alloc | apply Grew.drew | apply Grew.drewN | (refine Grew.setCell ?_ (by simp; try omega) _) | (refine Grew.trans ?_ (by assumption)))))) (by omega) (by omega) (by omega)).mono ?_; rintro e w11 ⟨rfl, omg, hr11⟩
  have h11 : Grew w3 w11 := Grew.app (by (repeat (with_reducible first | exact Grew.refl _ | assumption | apply Grew.alloc | apply Grew.drew | apply Grew.drewN | (refine Grew.setCell ?_ (by simp; try omega) _) | (refine Grew.trans ?_ (by assumption))))) (og9.grew (by (repeat (with_reducible first | exact Grew.refl _ | assumption | apply Grew.alloc | apply Grew.drew | apply Grew.drewN | (refine Grew.setCell ?_ (by simp; try omega) _) | (refine Grew.trans ?_ (by assumption)))))) (show Grew w3 w4 by (repeat (with_reducible first | exact Grew.refl _ | assumption | apply Grew.alloc | apply Grew.drew | apply Grew.drewN | (refine Grew.setCell ?_ (by simp; try omega) _) | (refine Grew.trans ?_ (by assumption))))).le hr11
  go_wp2_with fail
  refine (heldSlotS_any ((dispF J rule).1).length _ _ _ _ (own_up omg (by (repeat (with_reducible first | exact Grew.refl _ | assumption | apply Grew.alloc | apply Grew.drew | apply Grew.drewN | (refine Grew.setCell ?_ (by simp; try omega) _) | (refine Grew.trans ?_ (by assumption))))) (upSlt_length _ _)) (by omega) (by omega) hRl).mono ?_; rintro e w12 ⟨rfl, h12⟩
  go_wp2_with fail
  refine (toJobS_any J A c _ (r_J.grew (by (repeat (with_reducible first | exact Grew.refl _ | assumption | apply Grew.alloc | apply Grew.drew | apply Grew.drewN | (refine Grew.setCell ?_ (by simp; try omega) _) | (refine Grew.trans ?_ (by assumption)))))) (by omega) (fun m hm => by have := hn_J.2.1 m hm; omega)).mono ?_; rintro e w13 ⟨rfl, oh_J, h13⟩
  go_wp2_with fail
  refine (dispatch_impl J _ _ rule _ (oh_J.grew (by (repeat (with_reducible first | exact Grew.refl _ | assumption | apply Grew.alloc | apply Grew.drew | apply Grew.drewN | (refine Grew.setCell ?_ (by simp; try omega) _) | (refine Grew.trans ?_ (by assumption)))))).rd (JSm.of k_J) (by omega)).mono ?_; rintro e w14 ⟨Ah, ch, rfl, oh, h14⟩
  go_wp2_with fail
  refine (eqSlotS_any ((dispF J rule).1) ((dispF J rule).1) _ _ _ _ _ (oh.grew (by (repeat (with_reducible first | exact Grew.refl _ | assumption | apply Grew.alloc | apply Grew.drew | apply Grew.drewN | (refine Grew.setCell ?_ (by simp; try omega) _) | (refine Grew.trans ?_ (by assumption)))))).rd (os.grew (by (repeat (with_reducible first | exact Grew.refl _ | assumption | apply Grew.alloc | apply Grew.drew | apply Grew.drewN | (refine Grew.setCell ?_ (by simp; try omega) _) | (refine Grew.trans ?_ (by assumption)))))).rd hRl hRl).mono ?_; rintro e w15 ⟨rfl, h15⟩
  go_wp2_with fail
  refine (heldSlotS_any ((dispF J rule).1).length _ _ _ _ (own_up omg (by (repeat (with_reducible first | exact Grew.refl _ | assumption | apply Grew.alloc | apply Grew.drew | apply Grew.drewN | (refine Grew.setCell ?_ (by simp; try omega) _) | (refine Grew.trans ?_ (by assumption))))) (upSlt_length _ _)) (by omega) (by omega) hRl).mono ?_; rintro e w16 ⟨rfl, h16⟩
  go_wp2_with fail
  go_ret
  go_light
  refine ⟨rfl, ?_⟩
  (repeat (with_reducible first | exact Grew.refl _ | assumption | apply Grew.alloc | apply Grew.drew | apply Grew.drewN | (refine Grew.setCell ?_ (by simp; try omega) _) | (refine Grew.trans ?_ (by assumption))))

set_option maxRecDepth 100000 in
theorem lifted (os : Os) (started : os.Started) (H : Type) (enc : TypeId × Value → H) :
    ReturnsInHanded {} Try.checked os 6 .any (Rows.fnExactDispatchJobsSpec.pre6 enc Try.prog Try.f6 Rows.fnExactDispatchJobsRow.domain false) (Rows.fnExactDispatchJobsSpec.post enc Try.prog Try.f6 false true false false) := by
  refine returnsInHanded_of_change (C := Try.checked) own started (by kernel_rfl) Try.func6
    (ChangeSpec.witness6 (enc := enc) (C := Try.checked) false ⟨#[], #[.slice none 0 0, .int .i64 0], []⟩ 8 (by kernel_rfl) (by kernel_rfl) (by kernel_rfl) (by kernel_rfl)) ?_
  intro W base args ds gs before hval0 hW hcnd _
  have hval : ∀ (j : Nat) t v, Try.f6.params[j]? = some t → args[j]? = some v → Value.okWide Try.prog W .any base t v := hval0
  have hW' := hW
  obtain ⟨p, q, hA0, hV, rfl, hfz, hnd⟩ := hW
  have hA : DataW.TrodAll enc Try.prog W 0 (fun _ => true) true Try.f6.params.toList args.toList ds p := hA0
  rw [Try.params6] at hA hval
  obtain ⟨v0, vs0, d0, ds0, p0, q0, hargs, rfl, rfl, h0, r0⟩ := trodAll_cons hA
  obtain ⟨v1, vs1, d1, ds1, p1, q1, rfl, rfl, rfl, h1, r1⟩ := trodAll_cons r0
  obtain ⟨rfl, rfl, rfl⟩ := trodAll_nil r1
  obtain rfl : args = #[v0, v1] := by cases args; simp_all
  obtain ⟨J, A, c, rfl, r_J, q1_J, q2_J, k_J⟩ := Jb.open_ (hval 0 38 v0 rfl rfl) h0
  obtain ⟨rule, rfl, _, _, w_rule⟩ := open_int Try.underlying3 (hval 1 3 v1 rfl rfl) h1
  refine (walk W J A c r_J ⟨q1_J, q2_J⟩ k_J rule w_rule).mono fun e W' ⟨he, hg⟩ => ?_
  subst he
  exact ⟨_, rfl, law_step (tb := 4) laidOut (by rw [Try.params6]; exact pars_of (by kernel_rfl)) rfl hW' rfl rfl rfl (by kernel_rfl) Try.underlying4 hg⟩

theorem over : Rows.fnExactDispatchJobsRow.holds Try.pinned (OpenSpec.ofChange Rows.fnExactDispatchJobsSpec) :=
  OpenClaim.holds_of_wide 6 Try.f6 rfl rfl rfl rfl rfl rfl rfl ⟨rfl, rfl, rfl, rfl, rfl⟩ rfl rfl rfl rfl rfl (by kernel_rfl) Try.func6 (by kernel_rfl)
    (of_decide_eq_true (by kernel_rfl)) (by unfold Func.isWrapper; first | (rw [if_pos (by decide +kernel)]; kernel_rfl) | (rw [if_neg (by decide +kernel)]; exact ⟨rfl, rfl⟩))
    (fun os started H enc _ => lifted os started H enc)

theorem proved : Rows.FnExactDispatchJobsSaid := over
end fnExactDispatchJobs
end Go.Proofs.Ytembbgkhmnalpaa
