/- The exact law on slots: the program's MovedOf returns what the reference's returns. Conditions: none. -/
import Derived.Test.YtembbgkhmnalpaaMoved
namespace Go.Proofs.Ytembbgkhmnalpaa
open Go.ChangeShapes Go.WideShapes Go.ChangeAt Go.RowKit Go.Joins Go.Deep
set_option linter.unusedVariables false
set_option linter.unusedSimpArgs false

namespace fnExactMovedOf
set_option maxHeartbeats 1000000 in
theorem walk (w : World) (l : List Slt) (A : Option Addr) (c : Nat) (r_l : Rd Slt.E w A l) (q_l : l.length ≤ c ∧ c ≤ maxLen) (k_l : ∀ x ∈ l, x.Ok) (m : List Slt) (B : Option Addr) (d : Nat) (r_m : Rd Slt.E w B m) (q_m : m.length ≤ d ∧ d ≤ maxLen) (k_m : ∀ x ∈ m, x.Ok) :
    Calls Try.prog 4 #[.slice A l.length c, .slice B m.length d] w fun e w' => e = .returned (.bool true) ∧ Grew w w' := by
  have hq_m := q_m
  unfold maxLen at hq_m
  have hq_l := q_l
  unfold maxLen at hq_l
  go_enter Try.func4, Try.ntmps4
  go_wp2_with fail
  refine (szSlotS_any l A c _ _ (r_l.grew (by (repeat (with_reducible first | exact Grew.refl _ | assumption | apply Grew.alloc | apply Grew.drew | apply Grew.drewN | (refine Grew.setCell ?_ (by simp; try omega) _) | (refine Grew.trans ?_ (by assumption)))))) k_l (by omega) (by omega) (by simp only [maxLen]; omega)).mono ?_; rintro e w1 ⟨r1, rfl, hle1, hr1, h1⟩
  by_cases hr0_1 : r1 < 0
  · go_wp2_with fail
    go_ret
    go_light
    refine ⟨rfl, ?_⟩
    (repeat (with_reducible first | exact Grew.refl _ | assumption | apply Grew.alloc | apply Grew.drew | apply Grew.drewN | (refine Grew.setCell ?_ (by simp; try omega) _) | (refine Grew.trans ?_ (by assumption))))
  have hn_l := hr1 (by omega)
  go_wp2_with fail
  refine (szSlotS_any m B d r1 _ (r_m.grew (by (repeat (with_reducible first | exact Grew.refl _ | assumption | apply Grew.alloc | apply Grew.drew | apply Grew.drewN | (refine Grew.setCell ?_ (by simp; try omega) _) | (refine Grew.trans ?_ (by assumption)))))) k_m (by omega) (by omega) (by simp only [maxLen]; omega)).mono ?_; rintro e w2 ⟨r2, rfl, hle2, hr2, h2⟩
  by_cases hr0_2 : r2 < 0
  · go_wp2_with fail
    go_ret
    go_light
    refine ⟨rfl, ?_⟩
    (repeat (with_reducible first | exact Grew.refl _ | assumption | apply Grew.alloc | apply Grew.drew | apply Grew.drewN | (refine Grew.setCell ?_ (by simp; try omega) _) | (refine Grew.trans ?_ (by assumption))))
  have hn_m := hr2 (by omega)
  go_wp2_with fail
  refine (toSlotS_any l A c _ (r_l.grew (by (repeat (with_reducible first | exact Grew.refl _ | assumption | apply Grew.alloc | apply Grew.drew | apply Grew.drewN | (refine Grew.setCell ?_ (by simp; try omega) _) | (refine Grew.trans ?_ (by assumption)))))) (by omega)).mono ?_; rintro e w3 ⟨rfl, os_l, h3⟩
  go_wp2_with fail
  refine (toSlotS_any m B d _ (r_m.grew (by (repeat (with_reducible first | exact Grew.refl _ | assumption | apply Grew.alloc | apply Grew.drew | apply Grew.drewN | (refine Grew.setCell ?_ (by simp; try omega) _) | (refine Grew.trans ?_ (by assumption)))))) (by omega)).mono ?_; rintro e w4 ⟨rfl, os_m, h4⟩
  go_wp2_with fail
  refine (movedOf_spec l _ _ m _ _ _ (os_l.grew (by (repeat (with_reducible first | exact Grew.refl _ | assumption | apply Grew.alloc | apply Grew.drew | apply Grew.drewN | (refine Grew.setCell ?_ (by simp; try omega) _) | (refine Grew.trans ?_ (by assumption)))))).rd (by omega) (os_m.grew (by (repeat (with_reducible first | exact Grew.refl _ | assumption | apply Grew.alloc | apply Grew.drew | apply Grew.drewN | (refine Grew.setCell ?_ (by simp; try omega) _) | (refine Grew.trans ?_ (by assumption)))))).rd (by omega)).mono ?_; rintro e w5 ⟨rfl, h5⟩
  go_wp2_with fail
  refine (toSlotS_any l A c _ (r_l.grew (by (repeat (with_reducible first | exact Grew.refl _ | assumption | apply Grew.alloc | apply Grew.drew | apply Grew.drewN | (refine Grew.setCell ?_ (by simp; try omega) _) | (refine Grew.trans ?_ (by assumption)))))) (by omega)).mono ?_; rintro e w6 ⟨rfl, oi_l, h6⟩
  go_wp2_with fail
  refine (toSlotS_any m B d _ (r_m.grew (by (repeat (with_reducible first | exact Grew.refl _ | assumption | apply Grew.alloc | apply Grew.drew | apply Grew.drewN | (refine Grew.setCell ?_ (by simp; try omega) _) | (refine Grew.trans ?_ (by assumption)))))) (by omega)).mono ?_; rintro e w7 ⟨rfl, oi_m, h7⟩
  go_wp2_with fail
  refine (movedOf_impl l _ _ m _ _ _ (oi_l.grew (by (repeat (with_reducible first | exact Grew.refl _ | assumption | apply Grew.alloc | apply Grew.drew | apply Grew.drewN | (refine Grew.setCell ?_ (by simp; try omega) _) | (refine Grew.trans ?_ (by assumption)))))).rd (by omega) (oi_m.grew (by (repeat (with_reducible first | exact Grew.refl _ | assumption | apply Grew.alloc | apply Grew.drew | apply Grew.drewN | (refine Grew.setCell ?_ (by simp; try omega) _) | (refine Grew.trans ?_ (by assumption)))))).rd (by omega)).mono ?_; rintro e w8 ⟨rfl, h8⟩
  go_wp2_with fail
  refine (toSlotS_any l A c _ (r_l.grew (by (repeat (with_reducible first | exact Grew.refl _ | assumption | apply Grew.alloc | apply Grew.drew | apply Grew.drewN | (refine Grew.setCell ?_ (by simp; try omega) _) | (refine Grew.trans ?_ (by assumption)))))) (by omega)).mono ?_; rintro e w9 ⟨rfl, oe_l, h9⟩
  go_wp2_with fail
  refine (eqSlotS_any l l _ _ _ _ _ (oi_l.grew (by (repeat (with_reducible first | exact Grew.refl _ | assumption | apply Grew.alloc | apply Grew.drew | apply Grew.drewN | (refine Grew.setCell ?_ (by simp; try omega) _) | (refine Grew.trans ?_ (by assumption)))))).rd (oe_l.grew (by (repeat (with_reducible first | exact Grew.refl _ | assumption | apply Grew.alloc | apply Grew.drew | apply Grew.drewN | (refine Grew.setCell ?_ (by simp; try omega) _) | (refine Grew.trans ?_ (by assumption)))))).rd (by omega) (by omega)).mono ?_; rintro e w10 ⟨rfl, h10⟩
  go_wp2_with fail
  refine (toSlotS_any m B d _ (r_m.grew (by (repeat (with_reducible first | exact Grew.refl _ | assumption | apply Grew.alloc | apply Grew.drew | apply Grew.drewN | (refine Grew.setCell ?_ (by simp; try omega) _) | (refine Grew.trans ?_ (by assumption)))))) (by omega)).mono ?_; rintro e w11 ⟨rfl, oe_m, h11⟩
  go_wp2_with fail
  refine (eqSlotS_any m m _ _ _ _ _ (oi_m.grew (by (repeat (with_reducible first | exact Grew.refl _ | assumption | apply Grew.alloc | apply Grew.drew | apply Grew.drewN | (refine Grew.setCell ?_ (by simp; try omega) _) | (refine Grew.trans ?_ (by assumption)))))).rd (oe_m.grew (by (repeat (with_reducible first | exact Grew.refl _ | assumption | apply Grew.alloc | apply Grew.drew | apply Grew.drewN | (refine Grew.setCell ?_ (by simp; try omega) _) | (refine Grew.trans ?_ (by assumption)))))).rd (by omega) (by omega)).mono ?_; rintro e w12 ⟨rfl, h12⟩
  go_wp2_with fail
  go_ret
  go_light
  refine ⟨rfl, ?_⟩
  (repeat (with_reducible first | exact Grew.refl _ | assumption | apply Grew.alloc | apply Grew.drew | apply Grew.drewN | (refine Grew.setCell ?_ (by simp; try omega) _) | (refine Grew.trans ?_ (by assumption))))

set_option maxRecDepth 100000 in
theorem lifted (os : Os) (started : os.Started) (H : Type) (enc : TypeId × Value → H) :
    ReturnsInHanded {} Try.checked os 4 .any (Rows.fnExactMovedOfSpec.pre6 enc Try.prog Try.f4 Rows.fnExactMovedOfRow.domain false) (Rows.fnExactMovedOfSpec.post enc Try.prog Try.f4 false true false false) := by
  refine returnsInHanded_of_change (C := Try.checked) own started (by kernel_rfl) Try.func4
    (ChangeSpec.witness6 (enc := enc) (C := Try.checked) false ⟨#[], #[.slice none 0 0, .slice none 0 0], []⟩ 8 (by kernel_rfl) (by kernel_rfl) (by kernel_rfl) (by kernel_rfl)) ?_
  intro W base args ds gs before hval0 hW hcnd _
  have hval : ∀ (j : Nat) t v, Try.f4.params[j]? = some t → args[j]? = some v → Value.okWide Try.prog W .any base t v := hval0
  have hW' := hW
  obtain ⟨p, q, hA0, hV, rfl, hfz, hnd⟩ := hW
  have hA : DataW.TrodAll enc Try.prog W 0 (fun _ => true) true Try.f4.params.toList args.toList ds p := hA0
  rw [Try.params4] at hA hval
  obtain ⟨v0, vs0, d0, ds0, p0, q0, hargs, rfl, rfl, h0, r0⟩ := trodAll_cons hA
  obtain ⟨v1, vs1, d1, ds1, p1, q1, rfl, rfl, rfl, h1, r1⟩ := trodAll_cons r0
  obtain ⟨rfl, rfl, rfl⟩ := trodAll_nil r1
  obtain rfl : args = #[v0, v1] := by cases args; simp_all
  obtain ⟨l, A, c, rfl, r_l, q1_l, q2_l, k_l⟩ := Slt.open_ (hval 0 29 v0 rfl rfl) h0
  obtain ⟨m, B, d, rfl, r_m, q1_m, q2_m, k_m⟩ := Slt.open_ (hval 1 29 v1 rfl rfl) h1
  refine (walk W l A c r_l ⟨q1_l, q2_l⟩ k_l m B d r_m ⟨q1_m, q2_m⟩ k_m).mono fun e W' ⟨he, hg⟩ => ?_
  subst he
  exact ⟨_, rfl, law_step (tb := 4) laidOut (by rw [Try.params4]; exact pars_of (by kernel_rfl)) rfl hW' rfl rfl rfl (by kernel_rfl) Try.underlying4 hg⟩

theorem over : Rows.fnExactMovedOfRow.holds Try.pinned (OpenSpec.ofChange Rows.fnExactMovedOfSpec) :=
  OpenClaim.holds_of_wide 4 Try.f4 rfl rfl rfl rfl rfl rfl rfl ⟨rfl, rfl, rfl, rfl, rfl⟩ rfl rfl rfl rfl rfl (by kernel_rfl) Try.func4 (by kernel_rfl)
    (of_decide_eq_true (by kernel_rfl)) (by unfold Func.isWrapper; first | (rw [if_pos (by decide +kernel)]; kernel_rfl) | (rw [if_neg (by decide +kernel)]; exact ⟨rfl, rfl⟩))
    (fun os started H enc _ => lifted os started H enc)

theorem proved : Rows.FnExactMovedOfSaid := over
end fnExactMovedOf
end Go.Proofs.Ytembbgkhmnalpaa
