/- The exact law on the set-up time of an order: the program's function returns what the reference's returns. Conditions: none. -/
import Derived.Test.YtfplgagdjdhopaaSetI
namespace Go.Proofs.Ytfplgagdjdhopaa
open Go.ChangeShapes Go.WideShapes Go.ChangeAt Go.RowKit Go.Joins Go.Deep
set_option linter.unusedVariables false
set_option linter.unusedSimpArgs false

namespace fnExactSetupIn
set_option maxHeartbeats 1000000 in
theorem walk (w : World) (L : List (List Int)) (A : Option Addr) (c : Nat) (r_L : RdR w A L) (q_L : L.length ≤ c ∧ c ≤ maxLen) (k_L : ∀ m ∈ L, m.length ≤ maxLen) (m : List IntS) (B : Option Addr) (d : Nat) (r_m : Rd IntS.E w B m) (q_m : m.length ≤ d ∧ d ≤ maxLen) (k_m : ∀ x ∈ m, x.Ok) :
    Calls Try.prog 4 #[.slice A L.length c, .slice B m.length d] w fun e w' => e = .returned (.bool true) ∧ Grew w w' := by
  have hq_m := q_m
  unfold maxLen at hq_m
  have hq_L := q_L
  unfold maxLen at hq_L
  go_enter Try.func4, Try.ntmps4
  by_cases hs_m : (1048576 : Int) < (m.length : Int)
  · go_wp2_with fail
    go_ret
    go_light
    refine ⟨rfl, ?_⟩
    (repeat (with_reducible first | exact Grew.refl _ | assumption | apply Grew.alloc | apply Grew.drew | apply Grew.drewN | (refine Grew.setCell ?_ (by simp; try omega) _) | (refine Grew.trans ?_ (by assumption))))
  have hn_m : m.length ≤ 1048576 := by omega
  go_wp2_with fail
  refine (szIntSS_any L A c _ _ (r_L.grew (by (repeat (with_reducible first | exact Grew.refl _ | assumption | apply Grew.alloc | apply Grew.drew | apply Grew.drewN | (refine Grew.setCell ?_ (by simp; try omega) _) | (refine Grew.trans ?_ (by assumption)))))) k_L (by omega) (by omega) (by simp only [maxLen]; omega)).mono ?_; rintro e w1 ⟨r1, rfl, hle1, hr1, h1⟩
  by_cases hr0_1 : r1 < 0
  · go_wp2_with fail
    go_ret
    go_light
    refine ⟨rfl, ?_⟩
    (repeat (with_reducible first | exact Grew.refl _ | assumption | apply Grew.alloc | apply Grew.drew | apply Grew.drewN | (refine Grew.setCell ?_ (by simp; try omega) _) | (refine Grew.trans ?_ (by assumption))))
  have hn_L := hr1 (by omega)
  go_wp2_with fail
  refine (toIntSS_any L A c _ (r_L.grew (by (repeat (with_reducible first | exact Grew.refl _ | assumption | apply Grew.alloc | apply Grew.drew | apply Grew.drewN | (refine Grew.setCell ?_ (by simp; try omega) _) | (refine Grew.trans ?_ (by assumption)))))) (by omega) (fun m hm => by have := hn_L.2 m hm; omega)).mono ?_; rintro e w2 ⟨rfl, os_L, h2⟩
  go_wp2_with fail
  refine (toIntS_any m B d _ (r_m.grew (by (repeat (with_reducible first | exact Grew.refl _ | assumption | apply Grew.alloc | apply Grew.drew | apply Grew.drewN | (refine Grew.setCell ?_ (by simp; try omega) _) | (refine Grew.trans ?_ (by assumption)))))) (by omega)).mono ?_; rintro e w3 ⟨rfl, os_m, h3⟩
  go_wp2_with fail
  refine (setupIn_spec L _ _ m _ _ _ (os_L.grew (by (repeat (with_reducible first | exact Grew.refl _ | assumption | apply Grew.alloc | apply Grew.drew | apply Grew.drewN | (refine Grew.setCell ?_ (by simp; try omega) _) | (refine Grew.trans ?_ (by assumption)))))).rd k_L (by omega) (os_m.grew (by (repeat (with_reducible first | exact Grew.refl _ | assumption | apply Grew.alloc | apply Grew.drew | apply Grew.drewN | (refine Grew.setCell ?_ (by simp; try omega) _) | (refine Grew.trans ?_ (by assumption)))))).rd k_m (by omega)).mono ?_; rintro e w4 ⟨rfl, h4⟩
  go_wp2_with fail
  refine (toIntSS_any L A c _ (r_L.grew (by (repeat (with_reducible first | exact Grew.refl _ | assumption | apply Grew.alloc | apply Grew.drew | apply Grew.drewN | (refine Grew.setCell ?_ (by simp; try omega) _) | (refine Grew.trans ?_ (by assumption)))))) (by omega) (fun m hm => by have := hn_L.2 m hm; omega)).mono ?_; rintro e w5 ⟨rfl, oi_L, h5⟩
  go_wp2_with fail
  refine (toIntS_any m B d _ (r_m.grew (by (repeat (with_reducible first | exact Grew.refl _ | assumption | apply Grew.alloc | apply Grew.drew | apply Grew.drewN | (refine Grew.setCell ?_ (by simp; try omega) _) | (refine Grew.trans ?_ (by assumption)))))) (by omega)).mono ?_; rintro e w6 ⟨rfl, oi_m, h6⟩
  go_wp2_with fail
  refine (setupIn_impl L _ _ m _ _ _ (oi_L.grew (by (repeat (with_reducible first | exact Grew.refl _ | assumption | apply Grew.alloc | apply Grew.drew | apply Grew.drewN | (refine Grew.setCell ?_ (by simp; try omega) _) | (refine Grew.trans ?_ (by assumption)))))).rd k_L (by omega) (oi_m.grew (by (repeat (with_reducible first | exact Grew.refl _ | assumption | apply Grew.alloc | apply Grew.drew | apply Grew.drewN | (refine Grew.setCell ?_ (by simp; try omega) _) | (refine Grew.trans ?_ (by assumption)))))).rd k_m (by omega)).mono ?_; rintro e w7 ⟨rfl, h7⟩
  go_wp2_with fail
  refine (toIntSS_any L A c _ (r_L.grew (by (repeat (with_reducible first | exact Grew.refl _ | assumption | apply Grew.alloc | apply Grew.drew | apply Grew.drewN | (refine Grew.setCell ?_ (by simp; try omega) _) | (refine Grew.trans ?_ (by assumption)))))) (by omega) (fun m hm => by have := hn_L.2 m hm; omega)).mono ?_; rintro e w8 ⟨rfl, oe_L, h8⟩
  go_wp2_with fail
  refine (eqIntSS_any L L _ _ _ _ _ (oi_L.grew (by (repeat (with_reducible first | exact Grew.refl _ | assumption | apply Grew.alloc | apply Grew.drew | apply Grew.drewN | (refine Grew.setCell ?_ (by simp; try omega) _) | (refine Grew.trans ?_ (by assumption)))))).rd (oe_L.grew (by (repeat (with_reducible first | exact Grew.refl _ | assumption | apply Grew.alloc | apply Grew.drew | apply Grew.drewN | (refine Grew.setCell ?_ (by simp; try omega) _) | (refine Grew.trans ?_ (by assumption)))))).rd (by omega) (by omega) (fun m hm => by have := hn_L.2 m hm; omega) (fun m hm => by have := hn_L.2 m hm; omega)).mono ?_; rintro e w9 ⟨rfl, h9⟩
  go_wp2_with fail
  refine (toIntS_any m B d _ (r_m.grew (by (repeat (with_reducible first | exact Grew.refl _ | assumption | apply Grew.alloc | apply Grew.drew | apply Grew.drewN | (refine Grew.setCell ?_ (by simp; try omega) _) | (refine Grew.trans ?_ (by assumption)))))) (by omega)).mono ?_; rintro e w10 ⟨rfl, oe_m, h10⟩
  go_wp2_with fail
  refine (eqIntS_any m m _ _ _ _ _ (oi_m.grew (by (repeat (with_reducible first | exact Grew.refl _ | assumption | apply Grew.alloc | apply Grew.drew | apply Grew.drewN | (refine Grew.setCell ?_ (by simp; try omega) _) | (refine Grew.trans ?_ (by assumption)))))).rd (oe_m.grew (by (repeat (with_reducible first | exact Grew.refl _ | assumption | apply Grew.alloc | apply Grew.drew | apply Grew.drewN | (refine Grew.setCell ?_ (by simp; try omega) _) | (refine Grew.trans ?_ (by assumption)))))).rd (by omega) (by omega)).mono ?_; rintro e w11 ⟨rfl, h11⟩
  go_wp2_with fail
  go_ret
  go_light
  refine ⟨rfl, ?_⟩
  (repeat (with_reducible first | exact Grew.refl _ | assumption | apply Grew.alloc | apply Grew.drew | apply Grew.drewN | (refine Grew.setCell ?_ (by simp; try omega) _) | (refine Grew.trans ?_ (by assumption))))

set_option maxRecDepth 100000 in
theorem lifted (os : Os) (started : os.Started) (H : Type) (enc : TypeId × Value → H) :
    ReturnsInHanded {} Try.checked os 4 .any (Rows.fnExactSetupInSpec.pre6 enc Try.prog Try.f4 Rows.fnExactSetupInRow.domain false) (Rows.fnExactSetupInSpec.post enc Try.prog Try.f4 false true false false) := by
  refine returnsInHanded_of_change (C := Try.checked) own started (by kernel_rfl) Try.func4
    (ChangeSpec.witness6 (enc := enc) (C := Try.checked) false ⟨#[], #[.slice none 0 0, .slice none 0 0], []⟩ 8 (by kernel_rfl) (by kernel_rfl) (by kernel_rfl) (by kernel_rfl)) ?_
  intro W base args ds gs before hval0 hW hcnd _
  have hval : ∀ (j : Nat) t v, Try.f4.params[j]? = some t → args[j]? = some v → Value.okWide Try.prog W .any base t v := hval0
  have hW' := hW
  obtain ⟨p, q, hA0, hV, rfl, hfz, hnd⟩ := hW
  have hA : DataW.TrodAll enc Try.prog W 0 (fun _ => true) true Try.f4.params.toList args.toList ds p := hA0
  rw [Try.params4] at hA hval
  obtain ⟨v0, vs0, d0, ds0, p0, q0, hargs, rfl, rfl, h0, r0⟩ := trodAll_cons hA
  obtain ⟨v1, vs1, d1, ds1, p1, q1, rfl, rfl, rfl, h1, r1⟩ := trodAll_cons r0
  obtain ⟨rfl, rfl, rfl⟩ := trodAll_nil r1
  obtain rfl : args = #[v0, v1] := by cases args; simp_all
  obtain ⟨L, A, c, rfl, r_L, q1_L, q2_L, k_L⟩ := IntSS.open_ (hval 0 22 v0 rfl rfl) h0
  obtain ⟨m, B, d, rfl, r_m, q1_m, q2_m, k_m⟩ := IntS.open_ (hval 1 27 v1 rfl rfl) h1
  refine (walk W L A c r_L ⟨q1_L, q2_L⟩ k_L m B d r_m ⟨q1_m, q2_m⟩ k_m).mono fun e W' ⟨he, hg⟩ => ?_
  subst he
  exact ⟨_, rfl, law_step (tb := 4) laidOut (by rw [Try.params4]; exact pars_of (by kernel_rfl)) rfl hW' rfl rfl rfl (by kernel_rfl) Try.underlying4 hg⟩

theorem over : Rows.fnExactSetupInRow.holds Try.pinned (OpenSpec.ofChange Rows.fnExactSetupInSpec) :=
  OpenClaim.holds_of_wide 4 Try.f4 rfl rfl rfl rfl rfl rfl rfl ⟨rfl, rfl, rfl, rfl, rfl⟩ rfl rfl rfl rfl rfl (by kernel_rfl) Try.func4 (by kernel_rfl)
    (of_decide_eq_true (by kernel_rfl)) (by unfold Func.isWrapper; first | (rw [if_pos (by decide +kernel)]; kernel_rfl) | (rw [if_neg (by decide +kernel)]; exact ⟨rfl, rfl⟩))
    (fun os started H enc _ => lifted os started H enc)

theorem proved : Rows.FnExactSetupInSaid := over
end fnExactSetupIn
end Go.Proofs.Ytfplgagdjdhopaa
