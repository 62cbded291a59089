/- The exact law on lots taken: the program's TakeLots returns what the reference's returns. Conditions: none. -/
import Derived.Test.YtcphlancaahihaaTakeS
namespace Go.Proofs.Ytcphlancaahihaa
open Go.ChangeShapes Go.WideShapes Go.ChangeAt Go.RowKit Go.Joins Go.Deep
set_option linter.unusedVariables false
set_option linter.unusedSimpArgs false

namespace fnExactTakeLots
set_option maxRecDepth 100000 in
set_option maxHeartbeats 40000000 in
theorem walk (w : World) (l : List Lt) (A : Option Addr) (c : Nat) (r_l : Rd Lt.E w A l) (q_l : l.length ≤ c ∧ c ≤ maxLen) (k_l : ∀ x ∈ l, x.Ok) (p : List Nd) (B : Option Addr) (d : Nat) (r_p : Rd Nd.E w B p) (q_p : p.length ≤ d ∧ d ≤ maxLen) (k_p : ∀ x ∈ p, x.Ok) :
    Calls Try.prog 7 #[.slice A l.length c, .slice B p.length d] w fun e w' => e = .returned (.bool true) ∧ Grew w w' := by
  have hRl : ((takeF l p).1).length ≤ 4194304 := takeF_len _ _
  have hq_p := q_p
  unfold maxLen at hq_p
  have hq_l := q_l
  unfold maxLen at hq_l
  go_enter Try.func7, Try.ntmps7
  go_wp2_with fail
  refine (szLotS_any l A c _ _ (r_l.grew (by (repeat (with_reducible first | exact Grew.refl _ | assumption | apply Grew.alloc | apply Grew.drew | apply Grew.drewN | (refine Grew.setCell ?_ (by simp; try omega) _) | (refine Grew.trans ?_ (by assumption)))))) k_l (by omega) (by omega) (by simp only [maxLen]; omega)).mono ?_; rintro e w1 ⟨r1, rfl, hle1, hr1, h1⟩
  by_cases hr0_1 : r1 < 0
  · go_wp2_with fail
    go_ret
    go_light
    refine ⟨rfl, ?_⟩
    (repeat (with_reducible first | exact Grew.refl _ | assumption | apply Grew.alloc | apply Grew.drew | apply Grew.drewN | (refine Grew.setCell ?_ (by simp; try omega) _) | (refine Grew.trans ?_ (by assumption))))
  have hn_l := hr1 (by omega)
  go_wp2_with fail
  refine (szNeedS_any p B d r1 _ (r_p.grew (by (repeat (with_reducible first | exact Grew.refl _ | assumption | apply Grew.alloc | apply Grew.drew | apply Grew.drewN | (refine Grew.setCell ?_ (by simp; try omega) _) | (refine Grew.trans ?_ (by assumption)))))) k_p (by omega) (by omega) (by simp only [maxLen]; omega)).mono ?_; rintro e w2 ⟨r2, rfl, hle2, hr2, h2⟩
  by_cases hr0_2 : r2 < 0
  · go_wp2_with fail
    go_ret
    go_light
    refine ⟨rfl, ?_⟩
    (repeat (with_reducible first | exact Grew.refl _ | assumption | apply Grew.alloc | apply Grew.drew | apply Grew.drewN | (refine Grew.setCell ?_ (by simp; try omega) _) | (refine Grew.trans ?_ (by assumption))))
  have hn_p := hr2 (by omega)
  go_wp2_with fail
  refine (toLotS_any l A c _ (r_l.grew (by (repeat (with_reducible first | exact Grew.refl _ | assumption | apply Grew.alloc | apply Grew.drew | apply Grew.drewN | (refine Grew.setCell ?_ (by simp; try omega) _) | (refine Grew.trans ?_ (by assumption)))))) (by omega)).mono ?_; rintro e w3 ⟨rfl, os_l, h3⟩
  go_wp2_with fail
  refine (toNeedS_any p B d _ (r_p.grew (by (repeat (with_reducible first | exact Grew.refl _ | assumption | apply Grew.alloc | apply Grew.drew | apply Grew.drewN | (refine Grew.setCell ?_ (by simp; try omega) _) | (refine Grew.trans ?_ (by assumption)))))) (by omega)).mono ?_; rintro e w4 ⟨rfl, os_p, h4⟩
  go_wp2_with fail
  refine (takeLots_spec l _ _ p _ _ _ (os_l.grew (by (repeat (with_reducible first | exact Grew.refl _ | assumption | apply Grew.alloc | apply Grew.drew | apply Grew.drewN | (refine Grew.setCell ?_ (by simp; try omega) _) | (refine Grew.trans ?_ (by assumption)))))).rd k_l (by omega) (os_p.grew (by (repeat (with_reducible first | exact Grew.refl _ | assumption | apply Grew.alloc | apply Grew.drew | apply Grew.drewN | (refine Grew.setCell ?_ (by simp; try omega) _) | (refine Grew.trans ?_ (by assumption)))))).rd (by omega)).mono ?_; rintro e w5 ⟨As, cs, rfl, os, h5⟩
  go_wp2_with fail
  refine (toLotS_any l A c _ (r_l.grew (by (repeat (with_reducible first | exact Grew.refl _ | assumption | apply Grew.alloc | apply Grew.drew | apply Grew.drewN | (refine Grew.setCell ?_ (by simp; try omega) _) | (refine Grew.trans ?_ (by assumption)))))) (by omega)).mono ?_; rintro e w6 ⟨rfl, oi_l, h6⟩
  go_wp2_with fail
  refine (toNeedS_any p B d _ (r_p.grew (by (repeat (with_reducible first | exact Grew.refl _ | assumption | apply Grew.alloc | apply Grew.drew | apply Grew.drewN | (refine Grew.setCell ?_ (by simp; try omega) _) | (refine Grew.trans ?_ (by assumption)))))) (by omega)).mono ?_; rintro e w7 ⟨rfl, oi_p, h7⟩
  go_wp2_with fail
  refine (takeLots_impl l _ _ p _ _ _ (oi_l.grew (by (repeat (with_reducible first | exact Grew.refl _ | assumption | apply Grew.alloc | apply Grew.drew | apply Grew.drewN | (refine Grew.setCell ?_ (by simp; try omega) _) | (refine Grew.trans ?_ (by assumption)))))).rd k_l (by omega) (oi_p.grew (by (repeat (with_reducible first | exact Grew.refl _ | assumption | apply Grew.alloc | apply Grew.drew | apply Grew.drewN | (refine Grew.setCell ?_ (by simp; try omega) _) | (refine Grew.trans ?_ (by assumption)))))).rd (by omega)).mono ?_; rintro e w8 ⟨Ag, cg, rfl, og, h8⟩
  go_wp2_with fail
  refine (eqLotS_any ((takeF l p).1) ((takeF l p).1) _ _ _ _ _ (og.grew (by (repeat (with_reducible first | exact Grew.refl _ | assumption | apply Grew.alloc | apply Grew.drew | apply Grew.drewN | (refine Grew.setCell ?_ (by simp; try omega) _) | (refine Grew.trans ?_ (by assumption)))))).rd (os.grew (by (repeat (with_reducible first | exact Grew.refl _ | assumption | apply Grew.alloc | apply Grew.drew | apply Grew.drewN | (refine Grew.setCell ?_ (by simp; try omega) _) | (refine Grew.trans ?_ (by assumption)))))).rd hRl hRl).mono ?_; rintro e w9 ⟨rfl, h9⟩
  go_wp2_with fail
  refine (toLotS_any l A c _ (r_l.grew (by (repeat (with_reducible first | exact Grew.refl _ | assumption | apply Grew.alloc | apply Grew.drew | apply Grew.drewN | (refine Grew.setCell ?_ (by simp; try omega) _) | (refine Grew.trans ?_ (by assumption)))))) (by omega)).mono ?_; rintro e w10 ⟨rfl, oe_l, h10⟩
  go_wp2_with fail
  refine (eqLotS_any l l _ _ _ _ _ (oi_l.grew (by (repeat (with_reducible first | exact Grew.refl _ | assumption | apply Grew.alloc | apply Grew.drew | apply Grew.drewN | (refine Grew.setCell ?_ (by simp; try omega) _) | (refine Grew.trans ?_ (by assumption)))))).rd (oe_l.grew (by (repeat (with_reducible first | exact Grew.refl _ | assumption | apply Grew.alloc | apply Grew.drew | apply Grew.drewN | (refine Grew.setCell ?_ (by simp; try omega) _) | (refine Grew.trans ?_ (by assumption)))))).rd (by omega) (by omega)).mono ?_; rintro e w11 ⟨rfl, h11⟩
  go_wp2_with fail
  refine (toNeedS_any p B d _ (r_p.grew (by (repeat (with_reducible first | exact Grew.refl _ | assumption | apply Grew.alloc | apply Grew.drew | apply Grew.drewN | (refine Grew.setCell ?_ (by simp; try omega) _) | (refine Grew.trans ?_ (by assumption)))))) (by omega)).mono ?_; rintro e w12 ⟨rfl, oe_p, h12⟩
  go_wp2_with fail
  refine (eqNeedS_any p p _ _ _ _ _ (oi_p.grew (by (repeat (with_reducible first | exact Grew.refl _ | assumption | apply Grew.alloc | apply Grew.drew | apply Grew.drewN | (refine Grew.setCell ?_ (by simp; try omega) _) | (refine Grew.trans ?_ (by assumption)))))).rd (oe_p.grew (by (repeat (with_reducible first | exact Grew.refl _ | assumption | apply Grew.alloc | apply Grew.drew | apply Grew.drewN | (refine Grew.setCell ?_ (by simp; try omega) _) | (refine Grew.trans ?_ (by assumption)))))).rd (by omega) (by omega)).mono ?_; rintro e w13 ⟨rfl, h13⟩
  go_wp2_with fail
  refine (markLotS_any l _ _ _ _ _ (oi_l.grew (by (repeat (with_reducible first | exact Grew.refl _ | assumption | apply Grew.alloc | apply Grew.drew | apply Grew.drewN | (refine Grew.setCell ?_ (by simp; try omega) _) | (refine Grew.trans ?_ (by assumption)))))) (by omega) (by omega) (by omega)).mono ?_; rintro e w14 ⟨rfl, om14, hr14⟩
  have h14 : Grew w5 w14 := Grew.app (by (repeat (with_reducible first | exact Grew.refl _ | assumption | apply Grew.alloc | apply Grew.drew | apply Grew.drewN | (refine Grew.setCell ?_ (by simp; try omega) _) | (refine Grew.trans ?_ (by assumption))))) (oi_l.grew (by (repeat (with_reducible first | exact Grew.refl _ | assumption | apply Grew.alloc | apply Grew.drew | apply Grew.drewN | (refine Grew.setCell ?_ (by simp; try omega) _) | (refine Grew.trans ?_ (by assumption)))))) (show Grew w5 w5 by (repeat (with_reducible first | exact Grew.refl _ | assumption | apply Grew.alloc | apply Grew.drew | apply Grew.drewN | (refine Grew.setCell ?_ (by simp; try omega) _) | (refine Grew.trans ?_ (by assumption))))).le hr14
  have og14 := (og.grew (by (repeat (with_reducible first | exact Grew.refl _ | assumption | apply Grew.alloc | apply Grew.drew | apply Grew.drewN | (refine Grew.setCell ?_ (by simp; try omega) _) | (refine Grew.trans ?_ (by assumption)))))).kept hr14 (own_ne oi_l og (show Grew w6 w7 by (repeat (with_reducible first | exact Grew.refl _ | assumption | apply Grew.alloc | apply Grew.drew | apply Grew.drewN | (refine Grew.setCell ?_ (by simp; try omega) _) | (refine Grew.trans ?_ (by assumption))))).le)
  have oj14_p := (oi_p.grew (by (repeat (with_reducible first | exact Grew.refl _ | assumption | apply Grew.alloc | apply Grew.drew | apply Grew.drewN | (refine Grew.setCell ?_ (by simp; try omega) _) | (refine Grew.trans ?_ (by assumption)))))).kept hr14 (own_ne oi_l oi_p (show Grew w6 w6 by (repeat (with_reducible first | exact Grew.refl _ | assumption | apply Grew.alloc | apply Grew.drew | apply Grew.drewN | (refine Grew.setCell ?_ (by simp; try omega) _) | (refine Grew.trans ?_ (by assumption))))).le)
  go_wp2_with fail
  refine (markNeedS_any p _ _ _ _ _ (oj14_p.grew (by (repeat (with_reducible first | exact Grew.refl _ | assumption | apply Grew.alloc | apply Grew.drew | apply Grew.drewN | (refine Grew.setCell ?_ (by simp; try omega) _) | (refine Grew.trans ?_ (by assumption)))))) (by omega) (by omega) (by omega)).mono ?_; rintro e w15 ⟨rfl, om15, hr15⟩
  have h15 : Grew w5 w15 := Grew.app (by (repeat (with_reducible first | exact Grew.refl _ | assumption | apply Grew.alloc | apply Grew.drew | apply Grew.drewN | (refine Grew.setCell ?_ (by simp; try omega) _) | (refine Grew.trans ?_ (by assumption))))) (oj14_p.grew (by (repeat (with_reducible first | exact Grew.refl _ | assumption | apply Grew.alloc | apply Grew.drew | apply Grew.drewN | (refine Grew.setCell ?_ (by simp; try omega) _) | (refine Grew.trans ?_ (by assumption)))))) (show Grew w5 w6 by (repeat (with_reducible first | exact Grew.refl _ | assumption | apply Grew.alloc | apply Grew.drew | apply Grew.drewN | (refine Grew.setCell ?_ (by simp; try omega) _) | (refine Grew.trans ?_ (by assumption))))).le hr15
  have og15 := (og14.grew (by (repeat (with_reducible first | exact Grew.refl _ | assumption | apply Grew.alloc | apply Grew.drew | apply Grew.drewN | (refine Grew.setCell ?_ (by simp; try omega) _) | (refine Grew.trans ?_ (by assumption)))))).kept hr15 (own_ne oi_p og14 (show Grew w7 w7 by (repeat (with_reducible first | exact Grew.refl _ | assumption | apply Grew.alloc | apply Grew.drew | apply Grew.drewN | (refine Grew.setCell ?_ (by simp; try omega) _) | (refine Grew.trans ?_ (by assumption))))).le)
  go_wp2_with fail
  refine (eqLotS_any ((takeF l p).1) ((takeF l p).1) _ _ _ _ _ (og15.grew (by (repeat (with_reducible first | exact Grew.refl _ | assumption | apply Grew.alloc | apply Grew.drew | apply Grew.drewN | (refine Grew.setCell ?_ (by simp; try omega) _) | (refine Grew.trans ?_ (by assumption)))))).rd (os.grew (by (repeat (with_reducible first | exact Grew.refl _ | assumption | apply Grew.alloc | apply Grew.drew | apply Grew.drewN | (refine Grew.setCell ?_ (by simp; try omega) _) | (refine Grew.trans ?_ (by assumption)))))).rd hRl hRl).mono ?_; rintro e w16 ⟨rfl, h16⟩
  go_wp2_with fail
  refine (markLotS_any ((takeF l p).1) _ _ _ _ _ (og15.grew (by (repeat (with_reducible first | exact Grew.refl _ | assumption | apply Grew.alloc | apply Grew.drew | apply Grew.drewN | (refine Grew.setCell ?_ (by simp; try omega) _) | (refine Grew.trans ?_ (by assumption)))))) (by omega) (by omega) (by omega)).mono ?_; rintro e w17 ⟨rfl, omg, hr17⟩
  have h17 : Grew w5 w17 := Grew.app (by (repeat (with_reducible first | exact Grew.refl _ | assumption | apply Grew.alloc | apply Grew.drew | apply Grew.drewN | (refine Grew.setCell ?_ (by simp; try omega) _) | (refine Grew.trans ?_ (by assumption))))) (og15.grew (by (repeat (with_reducible first | exact Grew.refl _ | assumption | apply Grew.alloc | apply Grew.drew | apply Grew.drewN | (refine Grew.setCell ?_ (by simp; try omega) _) | (refine Grew.trans ?_ (by assumption)))))) (show Grew w5 w7 by (repeat (with_reducible first | exact Grew.refl _ | assumption | apply Grew.alloc | apply Grew.drew | apply Grew.drewN | (refine Grew.setCell ?_ (by simp; try omega) _) | (refine Grew.trans ?_ (by assumption))))).le hr17
  go_wp2_with fail
  refine (heldLotS_any ((takeF l p).1).length _ _ _ _ (own_up omg (by (repeat (with_reducible first | exact Grew.refl _ | assumption | apply Grew.alloc | apply Grew.drew | apply Grew.drewN | (refine Grew.setCell ?_ (by simp; try omega) _) | (refine Grew.trans ?_ (by assumption))))) (upLt_length _ _)) (by omega) (by omega) hRl).mono ?_; rintro e w18 ⟨rfl, h18⟩
  go_wp2_with fail
  refine (toLotS_any l A c _ (r_l.grew (by (repeat (with_reducible first | exact Grew.refl _ | assumption | apply Grew.alloc | apply Grew.drew | apply Grew.drewN | (refine Grew.setCell ?_ (by simp; try omega) _) | (refine Grew.trans ?_ (by assumption)))))) (by omega)).mono ?_; rintro e w19 ⟨rfl, oh_l, h19⟩
  go_wp2_with fail
  refine (toNeedS_any p B d _ (r_p.grew (by (repeat (with_reducible first | exact Grew.refl _ | assumption | apply Grew.alloc | apply Grew.drew | apply Grew.drewN | (refine Grew.setCell ?_ (by simp; try omega) _) | (refine Grew.trans ?_ (by assumption)))))) (by omega)).mono ?_; rintro e w20 ⟨rfl, oh_p, h20⟩
  go_wp2_with fail
  refine (takeLots_impl l _ _ p _ _ _ (oh_l.grew (by (repeat (with_reducible first | exact Grew.refl _ | assumption | apply Grew.alloc | apply Grew.drew | apply Grew.drewN | (refine Grew.setCell ?_ (by simp; try omega) _) | (refine Grew.trans ?_ (by assumption)))))).rd k_l (by omega) (oh_p.grew (by (repeat (with_reducible first | exact Grew.refl _ | assumption | apply Grew.alloc | apply Grew.drew | apply Grew.drewN | (refine Grew.setCell ?_ (by simp; try omega) _) | (refine Grew.trans ?_ (by assumption)))))).rd (by omega)).mono ?_; rintro e w21 ⟨Ah, ch, rfl, oh, h21⟩
  go_wp2_with fail
  refine (eqLotS_any ((takeF l p).1) ((takeF l p).1) _ _ _ _ _ (oh.grew (by (repeat (with_reducible first | exact Grew.refl _ | assumption | apply Grew.alloc | apply Grew.drew | apply Grew.drewN | (refine Grew.setCell ?_ (by simp; try omega) _) | (refine Grew.trans ?_ (by assumption)))))).rd (os.grew (by (repeat (with_reducible first | exact Grew.refl _ | assumption | apply Grew.alloc | apply Grew.drew | apply Grew.drewN | (refine Grew.setCell ?_ (by simp; try omega) _) | (refine Grew.trans ?_ (by assumption)))))).rd hRl hRl).mono ?_; rintro e w22 ⟨rfl, h22⟩
  go_wp2_with fail
  refine (heldLotS_any ((takeF l p).1).length _ _ _ _ (own_up omg (by (repeat (with_reducible first | exact Grew.refl _ | assumption | apply Grew.alloc | apply Grew.drew | apply Grew.drewN | (refine Grew.setCell ?_ (by simp; try omega) _) | (refine Grew.trans ?_ (by assumption))))) (upLt_length _ _)) (by omega) (by omega) hRl).mono ?_; rintro e w23 ⟨rfl, h23⟩
  go_wp2_with fail
  go_ret
  go_light
  refine ⟨rfl, ?_⟩
  (repeat (with_reducible first | exact Grew.refl _ | assumption | apply Grew.alloc | apply Grew.drew | apply Grew.drewN | (refine Grew.setCell ?_ (by simp; try omega) _) | (refine Grew.trans ?_ (by assumption))))

set_option maxRecDepth 100000 in
theorem lifted (os : Os) (started : os.Started) (H : Type) (enc : TypeId × Value → H) :
    ReturnsInHanded {} Try.checked os 7 .any (Rows.fnExactTakeLotsSpec.pre6 enc Try.prog Try.f7 Rows.fnExactTakeLotsRow.domain false) (Rows.fnExactTakeLotsSpec.post enc Try.prog Try.f7 false true false false) := by
  refine returnsInHanded_of_change (C := Try.checked) own started (by kernel_rfl) Try.func7
    (ChangeSpec.witness6 (enc := enc) (C := Try.checked) false ⟨#[], #[.slice none 0 0, .slice none 0 0], []⟩ 8 (by kernel_rfl) (by kernel_rfl) (by kernel_rfl) (by kernel_rfl)) ?_
  intro W base args ds gs before hval0 hW hcnd _
  have hval : ∀ (j : Nat) t v, Try.f7.params[j]? = some t → args[j]? = some v → Value.okWide Try.prog W .any base t v := hval0
  have hW' := hW
  obtain ⟨p, q, hA0, hV, rfl, hfz, hnd⟩ := hW
  have hA : DataW.TrodAll enc Try.prog W 0 (fun _ => true) true Try.f7.params.toList args.toList ds p := hA0
  rw [Try.params7] at hA hval
  obtain ⟨v0, vs0, d0, ds0, p0, q0, hargs, rfl, rfl, h0, r0⟩ := trodAll_cons hA
  obtain ⟨v1, vs1, d1, ds1, p1, q1, rfl, rfl, rfl, h1, r1⟩ := trodAll_cons r0
  obtain ⟨rfl, rfl, rfl⟩ := trodAll_nil r1
  obtain rfl : args = #[v0, v1] := by cases args; simp_all
  obtain ⟨l, A, c, rfl, r_l, q1_l, q2_l, k_l⟩ := Lt.open_ (hval 0 22 v0 rfl rfl) h0
  obtain ⟨p, B, d, rfl, r_p, q1_p, q2_p, k_p⟩ := Nd.open_ (hval 1 45 v1 rfl rfl) h1
  refine (walk W l A c r_l ⟨q1_l, q2_l⟩ k_l p B d r_p ⟨q1_p, q2_p⟩ k_p).mono fun e W' ⟨he, hg⟩ => ?_
  subst he
  exact ⟨_, rfl, law_step (tb := 4) laidOut (by rw [Try.params7]; exact pars_of (by kernel_rfl)) rfl hW' rfl rfl rfl (by kernel_rfl) Try.underlying4 hg⟩

theorem over : Rows.fnExactTakeLotsRow.holds Try.pinned (OpenSpec.ofChange Rows.fnExactTakeLotsSpec) :=
  OpenClaim.holds_of_wide 7 Try.f7 rfl rfl rfl rfl rfl rfl rfl ⟨rfl, rfl, rfl, rfl, rfl⟩ rfl rfl rfl rfl rfl (by kernel_rfl) Try.func7 (by kernel_rfl)
    (of_decide_eq_true (by kernel_rfl)) (by unfold Func.isWrapper; first | (rw [if_pos (by decide +kernel)]; kernel_rfl) | (rw [if_neg (by decide +kernel)]; exact ⟨rfl, rfl⟩))
    (fun os started H enc _ => lifted os started H enc)

theorem proved : Rows.FnExactTakeLotsSaid := over
end fnExactTakeLots
end Go.Proofs.Ytcphlancaahihaa
