/- The exact laws on holdings: the program's functions return what the reference's return. Conditions: none. -/
import Derived.Test.YtfbfhccgohmeiaaHoldQ
namespace Go.Proofs.Ytfbfhccgohmeiaa
open Go.ChangeShapes Go.WideShapes Go.ChangeAt Go.RowKit Go.Joins Go.Deep
set_option linter.unusedVariables false
set_option linter.unusedSimpArgs false

namespace fnExactAreHoldings
set_option maxHeartbeats 1000000 in
theorem walk (w : World) (l : List Hold) (A : Option Addr) (c : Nat) (r_l : Rd Hold.E w A l) (q_l : l.length ≤ c ∧ c ≤ maxLen) (k_l : ∀ x ∈ l, x.Ok) :
    Calls Try.prog 4 #[.slice A l.length c] w fun e w' => e = .returned (.bool true) ∧ Grew w w' := by
  have hq_l := q_l
  unfold maxLen at hq_l
  go_enter Try.func4, Try.ntmps4
  go_wp2_with fail
  refine (szHoldingS_any l A c _ _ (r_l.grew (by (repeat (with_reducible first | exact Grew.refl _ | assumption | apply Grew.alloc | apply Grew.drew | apply Grew.drewN | (refine Grew.setCell ?_ (by simp; try omega) _) | (refine Grew.trans ?_ (by assumption)))))) k_l (by omega) (by omega) (by simp only [maxLen]; omega)).mono ?_; rintro e w1 ⟨r1, rfl, hle1, hr1, h1⟩
  by_cases hr0_1 : r1 < 0
  · go_wp2_with fail
    go_ret
    go_light
    refine ⟨rfl, ?_⟩
    (repeat (with_reducible first | exact Grew.refl _ | assumption | apply Grew.alloc | apply Grew.drew | apply Grew.drewN | (refine Grew.setCell ?_ (by simp; try omega) _) | (refine Grew.trans ?_ (by assumption))))
  have hn_l := hr1 (by omega)
  go_wp2_with fail
  refine (toHoldingS_any l A c _ (r_l.grew (by (repeat (with_reducible first | exact Grew.refl _ | assumption | apply Grew.alloc | apply Grew.drew | apply Grew.drewN | (refine Grew.setCell ?_ (by simp; try omega) _) | (refine Grew.trans ?_ (by assumption)))))) (by omega)).mono ?_; rintro e w2 ⟨rfl, os_l, h2⟩
  go_wp2_with fail
  refine (areHoldings_spec l _ _ _ (os_l.grew (by (repeat (with_reducible first | exact Grew.refl _ | assumption | apply Grew.alloc | apply Grew.drew | apply Grew.drewN | (refine Grew.setCell ?_ (by simp; try omega) _) | (refine Grew.trans ?_ (by assumption)))))).rd k_l (by omega)).mono ?_; rintro e w3 ⟨rfl, h3⟩
  go_wp2_with fail
  refine (toHoldingS_any l A c _ (r_l.grew (by (repeat (with_reducible first | exact Grew.refl _ | assumption | apply Grew.alloc | apply Grew.drew | apply Grew.drewN | (refine Grew.setCell ?_ (by simp; try omega) _) | (refine Grew.trans ?_ (by assumption)))))) (by omega)).mono ?_; rintro e w4 ⟨rfl, oi_l, h4⟩
  go_wp2_with fail
  refine (areHoldings_impl l _ _ _ (oi_l.grew (by (repeat (with_reducible first | exact Grew.refl _ | assumption | apply Grew.alloc | apply Grew.drew | apply Grew.drewN | (refine Grew.setCell ?_ (by simp; try omega) _) | (refine Grew.trans ?_ (by assumption)))))).rd k_l (by omega)).mono ?_; rintro e w5 ⟨rfl, h5⟩
  go_wp2_with fail
  refine (toHoldingS_any l A c _ (r_l.grew (by (repeat (with_reducible first | exact Grew.refl _ | assumption | apply Grew.alloc | apply Grew.drew | apply Grew.drewN | (refine Grew.setCell ?_ (by simp; try omega) _) | (refine Grew.trans ?_ (by assumption)))))) (by omega)).mono ?_; rintro e w6 ⟨rfl, oe_l, h6⟩
  go_wp2_with fail
  refine (eqHoldingS_any l l _ _ _ _ _ (oi_l.grew (by (repeat (with_reducible first | exact Grew.refl _ | assumption | apply Grew.alloc | apply Grew.drew | apply Grew.drewN | (refine Grew.setCell ?_ (by simp; try omega) _) | (refine Grew.trans ?_ (by assumption)))))).rd (oe_l.grew (by (repeat (with_reducible first | exact Grew.refl _ | assumption | apply Grew.alloc | apply Grew.drew | apply Grew.drewN | (refine Grew.setCell ?_ (by simp; try omega) _) | (refine Grew.trans ?_ (by assumption)))))).rd (by omega) (by omega)).mono ?_; rintro e w7 ⟨rfl, h7⟩
  go_wp2_with fail
  go_ret
  go_light
  refine ⟨rfl, ?_⟩
  (repeat (with_reducible first | exact Grew.refl _ | assumption | apply Grew.alloc | apply Grew.drew | apply Grew.drewN | (refine Grew.setCell ?_ (by simp; try omega) _) | (refine Grew.trans ?_ (by assumption))))

set_option maxRecDepth 100000 in
theorem lifted (os : Os) (started : os.Started) (H : Type) (enc : TypeId × Value → H) :
    ReturnsInHanded {} Try.checked os 4 .any (Rows.fnExactAreHoldingsSpec.pre6 enc Try.prog Try.f4 Rows.fnExactAreHoldingsRow.domain false) (Rows.fnExactAreHoldingsSpec.post enc Try.prog Try.f4 false true false false) := by
  refine returnsInHanded_of_change (C := Try.checked) own started (by kernel_rfl) Try.func4
    (ChangeSpec.witness6 (enc := enc) (C := Try.checked) false ⟨#[], #[.slice none 0 0], []⟩ 8 (by kernel_rfl) (by kernel_rfl) (by kernel_rfl) (by kernel_rfl)) ?_
  intro W base args ds gs before hval0 hW hcnd _
  have hval : ∀ (j : Nat) t v, Try.f4.params[j]? = some t → args[j]? = some v → Value.okWide Try.prog W .any base t v := hval0
  have hW' := hW
  obtain ⟨p, q, hA0, hV, rfl, hfz, hnd⟩ := hW
  have hA : DataW.TrodAll enc Try.prog W 0 (fun _ => true) true Try.f4.params.toList args.toList ds p := hA0
  rw [Try.params4] at hA hval
  obtain ⟨v0, vs0, d0, ds0, p0, q0, hargs, rfl, rfl, h0, r0⟩ := trodAll_cons hA
  obtain ⟨rfl, rfl, rfl⟩ := trodAll_nil r0
  obtain rfl : args = #[v0] := by cases args; simp_all
  obtain ⟨l, A, c, rfl, r_l, q1_l, q2_l, k_l⟩ := Hold.open_ (hval 0 29 v0 rfl rfl) h0
  refine (walk W l A c r_l ⟨q1_l, q2_l⟩ k_l).mono fun e W' ⟨he, hg⟩ => ?_
  subst he
  exact ⟨_, rfl, law_step (tb := 4) laidOut (by rw [Try.params4]; exact pars_of (by kernel_rfl)) rfl hW' rfl rfl rfl (by kernel_rfl) Try.underlying4 hg⟩

theorem over : Rows.fnExactAreHoldingsRow.holds Try.pinned (OpenSpec.ofChange Rows.fnExactAreHoldingsSpec) :=
  OpenClaim.holds_of_wide 4 Try.f4 rfl rfl rfl rfl rfl rfl rfl ⟨rfl, rfl, rfl, rfl, rfl⟩ rfl rfl rfl rfl rfl (by kernel_rfl) Try.func4 (by kernel_rfl)
    (of_decide_eq_true (by kernel_rfl)) (by unfold Func.isWrapper; first | (rw [if_pos (by decide +kernel)]; kernel_rfl) | (rw [if_neg (by decide +kernel)]; exact ⟨rfl, rfl⟩))
    (fun os started H enc _ => lifted os started H enc)

theorem proved : Rows.FnExactAreHoldingsSaid := over
end fnExactAreHoldings
namespace fnExactQuantityAt
set_option maxHeartbeats 1000000 in
theorem walk (w : World) (l : List Hold) (A : Option Addr) (c : Nat) (r_l : Rd Hold.E w A l) (q_l : l.length ≤ c ∧ c ≤ maxLen) (k_l : ∀ x ∈ l, x.Ok) (it : ByteArray) (w_it : it.size ≤ maxLen) (ba : ByteArray) (w_ba : ba.size ≤ maxLen) (pl : ByteArray) (w_pl : pl.size ≤ maxLen) :
    Calls Try.prog 5 #[.slice A l.length c, .string it, .string ba, .string pl] w fun e w' => e = .returned (.bool true) ∧ Grew w w' := by
  have hq_l := q_l
  unfold maxLen at hq_l
  go_enter Try.func5, Try.ntmps5
  by_cases hs_it : (1048576 : Int) < (it.size : Int)
  · go_wp2_with fail
    go_ret
    go_light
    refine ⟨rfl, ?_⟩
    (repeat (with_reducible first | exact Grew.refl _ | assumption | apply Grew.alloc | apply Grew.drew | apply Grew.drewN | (refine Grew.setCell ?_ (by simp; try omega) _) | (refine Grew.trans ?_ (by assumption))))
  by_cases hs_ba : (1048576 : Int) < (ba.size : Int)
  · go_wp2_with fail
    go_ret
    go_light
    refine ⟨rfl, ?_⟩
    (repeat (with_reducible first | exact Grew.refl _ | assumption | apply Grew.alloc | apply Grew.drew | apply Grew.drewN | (refine Grew.setCell ?_ (by simp; try omega) _) | (refine Grew.trans ?_ (by assumption))))
  by_cases hs_pl : (1048576 : Int) < (pl.size : Int)
  · go_wp2_with fail
    go_ret
    go_light
    refine ⟨rfl, ?_⟩
    (repeat (with_reducible first | exact Grew.refl _ | assumption | apply Grew.alloc | apply Grew.drew | apply Grew.drewN | (refine Grew.setCell ?_ (by simp; try omega) _) | (refine Grew.trans ?_ (by assumption))))
  go_wp2_with fail
  refine (szHoldingS_any l A c _ _ (r_l.grew (by (repeat (with_reducible first | exact Grew.refl _ | assumption | apply Grew.alloc | apply Grew.drew | apply Grew.drewN | (refine Grew.setCell ?_ (by simp; try omega) _) | (refine Grew.trans ?_ (by assumption)))))) k_l (by omega) (by omega) (by simp only [maxLen]; omega)).mono ?_; rintro e w1 ⟨r1, rfl, hle1, hr1, h1⟩
  by_cases hr0_1 : r1 < 0
  · go_wp2_with fail
    go_ret
    go_light
    refine ⟨rfl, ?_⟩
    (repeat (with_reducible first | exact Grew.refl _ | assumption | apply Grew.alloc | apply Grew.drew | apply Grew.drewN | (refine Grew.setCell ?_ (by simp; try omega) _) | (refine Grew.trans ?_ (by assumption))))
  have hn_l := hr1 (by omega)
  go_wp2_with fail
  refine (toHoldingS_any l A c _ (r_l.grew (by (repeat (with_reducible first | exact Grew.refl _ | assumption | apply Grew.alloc | apply Grew.drew | apply Grew.drewN | (refine Grew.setCell ?_ (by simp; try omega) _) | (refine Grew.trans ?_ (by assumption)))))) (by omega)).mono ?_; rintro e w2 ⟨rfl, os_l, h2⟩
  go_wp2_with fail
  refine (quantityAt_spec l _ _ it ba pl _ (os_l.grew (by (repeat (with_reducible first | exact Grew.refl _ | assumption | apply Grew.alloc | apply Grew.drew | apply Grew.drewN | (refine Grew.setCell ?_ (by simp; try omega) _) | (refine Grew.trans ?_ (by assumption)))))).rd k_l (by omega)).mono ?_; rintro e w3 ⟨rfl, h3⟩
  go_wp2_with fail
  refine (toHoldingS_any l A c _ (r_l.grew (by (repeat (with_reducible first | exact Grew.refl _ | assumption | apply Grew.alloc | apply Grew.drew | apply Grew.drewN | (refine Grew.setCell ?_ (by simp; try omega) _) | (refine Grew.trans ?_ (by assumption)))))) (by omega)).mono ?_; rintro e w4 ⟨rfl, oi_l, h4⟩
  go_wp2_with fail
  refine (quantityAt_impl l _ _ it ba pl _ (oi_l.grew (by (repeat (with_reducible first | exact Grew.refl _ | assumption | apply Grew.alloc | apply Grew.drew | apply Grew.drewN | (refine Grew.setCell ?_ (by simp; try omega) _) | (refine Grew.trans ?_ (by assumption)))))).rd k_l (by omega)).mono ?_; rintro e w5 ⟨rfl, h5⟩
  go_wp2_with fail
  refine (toHoldingS_any l A c _ (r_l.grew (by (repeat (with_reducible first | exact Grew.refl _ | assumption | apply Grew.alloc | apply Grew.drew | apply Grew.drewN | (refine Grew.setCell ?_ (by simp; try omega) _) | (refine Grew.trans ?_ (by assumption)))))) (by omega)).mono ?_; rintro e w6 ⟨rfl, oe_l, h6⟩
  go_wp2_with fail
  refine (eqHoldingS_any l l _ _ _ _ _ (oi_l.grew (by (repeat (with_reducible first | exact Grew.refl _ | assumption | apply Grew.alloc | apply Grew.drew | apply Grew.drewN | (refine Grew.setCell ?_ (by simp; try omega) _) | (refine Grew.trans ?_ (by assumption)))))).rd (oe_l.grew (by (repeat (with_reducible first | exact Grew.refl _ | assumption | apply Grew.alloc | apply Grew.drew | apply Grew.drewN | (refine Grew.setCell ?_ (by simp; try omega) _) | (refine Grew.trans ?_ (by assumption)))))).rd (by omega) (by omega)).mono ?_; rintro e w7 ⟨rfl, h7⟩
  go_wp2_with fail
  go_ret
  go_light
  refine ⟨rfl, ?_⟩
  (repeat (with_reducible first | exact Grew.refl _ | assumption | apply Grew.alloc | apply Grew.drew | apply Grew.drewN | (refine Grew.setCell ?_ (by simp; try omega) _) | (refine Grew.trans ?_ (by assumption))))

set_option maxRecDepth 100000 in
theorem lifted (os : Os) (started : os.Started) (H : Type) (enc : TypeId × Value → H) :
    ReturnsInHanded {} Try.checked os 5 .any (Rows.fnExactQuantityAtSpec.pre6 enc Try.prog Try.f5 Rows.fnExactQuantityAtRow.domain false) (Rows.fnExactQuantityAtSpec.post enc Try.prog Try.f5 false true false false) := by
  refine returnsInHanded_of_change (C := Try.checked) own started (by kernel_rfl) Try.func5
    (ChangeSpec.witness6 (enc := enc) (C := Try.checked) false ⟨#[], #[.slice none 0 0, .string ByteArray.empty, .string ByteArray.empty, .string ByteArray.empty], []⟩ 8 (by kernel_rfl) (by kernel_rfl) (by kernel_rfl) (by kernel_rfl)) ?_
  intro W base args ds gs before hval0 hW hcnd _
  have hval : ∀ (j : Nat) t v, Try.f5.params[j]? = some t → args[j]? = some v → Value.okWide Try.prog W .any base t v := hval0
  have hW' := hW
  obtain ⟨p, q, hA0, hV, rfl, hfz, hnd⟩ := hW
  have hA : DataW.TrodAll enc Try.prog W 0 (fun _ => true) true Try.f5.params.toList args.toList ds p := hA0
  rw [Try.params5] at hA hval
  obtain ⟨v0, vs0, d0, ds0, p0, q0, hargs, rfl, rfl, h0, r0⟩ := trodAll_cons hA
  obtain ⟨v1, vs1, d1, ds1, p1, q1, rfl, rfl, rfl, h1, r1⟩ := trodAll_cons r0
  obtain ⟨v2, vs2, d2, ds2, p2, q2, rfl, rfl, rfl, h2, r2⟩ := trodAll_cons r1
  obtain ⟨v3, vs3, d3, ds3, p3, q3, rfl, rfl, rfl, h3, r3⟩ := trodAll_cons r2
  obtain ⟨rfl, rfl, rfl⟩ := trodAll_nil r3
  obtain rfl : args = #[v0, v1, v2, v3] := by cases args; simp_all
  obtain ⟨l, A, c, rfl, r_l, q1_l, q2_l, k_l⟩ := Hold.open_ (hval 0 29 v0 rfl rfl) h0
  obtain ⟨it, rfl, _, _, w_it⟩ := Go.ChangeMaps.open_string Try.underlying9 (hval 1 9 v1 rfl rfl) h1
  obtain ⟨ba, rfl, _, _, w_ba⟩ := Go.ChangeMaps.open_string Try.underlying9 (hval 2 9 v2 rfl rfl) h2
  obtain ⟨pl, rfl, _, _, w_pl⟩ := Go.ChangeMaps.open_string Try.underlying9 (hval 3 9 v3 rfl rfl) h3
  refine (walk W l A c r_l ⟨q1_l, q2_l⟩ k_l it w_it ba w_ba pl w_pl).mono fun e W' ⟨he, hg⟩ => ?_
  subst he
  exact ⟨_, rfl, law_step (tb := 4) laidOut (by rw [Try.params5]; exact pars_of (by kernel_rfl)) rfl hW' rfl rfl rfl (by kernel_rfl) Try.underlying4 hg⟩

theorem over : Rows.fnExactQuantityAtRow.holds Try.pinned (OpenSpec.ofChange Rows.fnExactQuantityAtSpec) :=
  OpenClaim.holds_of_wide 5 Try.f5 rfl rfl rfl rfl rfl rfl rfl ⟨rfl, rfl, rfl, rfl, rfl⟩ rfl rfl rfl rfl rfl (by kernel_rfl) Try.func5 (by kernel_rfl)
    (of_decide_eq_true (by kernel_rfl)) (by unfold Func.isWrapper; first | (rw [if_pos (by decide +kernel)]; kernel_rfl) | (rw [if_neg (by decide +kernel)]; exact ⟨rfl, rfl⟩))
    (fun os started H enc _ => lifted os started H enc)

theorem proved : Rows.FnExactQuantityAtSaid := over
end fnExactQuantityAt
namespace fnExactFlowIn
set_option maxHeartbeats 1000000 in
theorem walk (w : World) (l : List Mv) (A : Option Addr) (c : Nat) (r_l : Rd Mv.E w A l) (q_l : l.length ≤ c ∧ c ≤ maxLen) (k_l : ∀ x ∈ l, x.Ok) (it : ByteArray) (w_it : it.size ≤ maxLen) (ba : ByteArray) (w_ba : ba.size ≤ maxLen) (pl : ByteArray) (w_pl : pl.size ≤ maxLen) :
    Calls Try.prog 6 #[.slice A l.length c, .string it, .string ba, .string pl] w fun e w' => e = .returned (.bool true) ∧ Grew w w' := by
  have hq_l := q_l
  unfold maxLen at hq_l
  go_enter Try.func6, Try.ntmps6
  by_cases hs_it : (1048576 : Int) < (it.size : Int)
  · go_wp2_with fail
    go_ret
    go_light
    refine ⟨rfl, ?_⟩
    (repeat (with_reducible first | exact Grew.refl _ | assumption | apply Grew.alloc | apply Grew.drew | apply Grew.drewN | (refine Grew.setCell ?_ (by simp; try omega) _) | (refine Grew.trans ?_ (by assumption))))
  by_cases hs_ba : (1048576 : Int) < (ba.size : Int)
  · go_wp2_with fail
    go_ret
    go_light
    refine ⟨rfl, ?_⟩
    (repeat (with_reducible first | exact Grew.refl _ | assumption | apply Grew.alloc | apply Grew.drew | apply Grew.drewN | (refine Grew.setCell ?_ (by simp; try omega) _) | (refine Grew.trans ?_ (by assumption))))
  by_cases hs_pl : (1048576 : Int) < (pl.size : Int)
  · go_wp2_with fail
    go_ret
    go_light
    refine ⟨rfl, ?_⟩
    (repeat (with_reducible first | exact Grew.refl _ | assumption | apply Grew.alloc | apply Grew.drew | apply Grew.drewN | (refine Grew.setCell ?_ (by simp; try omega) _) | (refine Grew.trans ?_ (by assumption))))
  go_wp2_with fail
  refine (szMoveS_any l A c _ _ (r_l.grew (by (repeat (with_reducible first | exact Grew.refl _ | assumption | apply Grew.alloc | apply Grew.drew | apply Grew.drewN | (refine Grew.setCell ?_ (by simp; try omega) _) | (refine Grew.trans ?_ (by assumption)))))) k_l (by omega) (by omega) (by simp only [maxLen]; omega)).mono ?_; rintro e w1 ⟨r1, rfl, hle1, hr1, h1⟩
  by_cases hr0_1 : r1 < 0
  · go_wp2_with fail
    go_ret
    go_light
    refine ⟨rfl, ?_⟩
    (repeat (with_reducible first | exact Grew.refl _ | assumption | apply Grew.alloc | apply Grew.drew | apply Grew.drewN | (refine Grew.setCell ?_ (by simp; try omega) _) | (refine Grew.trans ?_ (by assumption))))
  have hn_l := hr1 (by omega)
  go_wp2_with fail
  refine (toMoveS_any l A c _ (r_l.grew (by (repeat (with_reducible first | exact Grew.refl _ | assumption | apply Grew.alloc | apply Grew.drew | apply Grew.drewN | (refine Grew.setCell ?_ (by simp; try omega) _) | (refine Grew.trans ?_ (by assumption)))))) (by omega)).mono ?_; rintro e w2 ⟨rfl, os_l, h2⟩
  go_wp2_with fail
  refine (flowIn_spec l _ _ it ba pl _ (os_l.grew (by (repeat (with_reducible first | exact Grew.refl _ | assumption | apply Grew.alloc | apply Grew.drew | apply Grew.drewN | (refine Grew.setCell ?_ (by simp; try omega) _) | (refine Grew.trans ?_ (by assumption)))))).rd k_l (by omega)).mono ?_; rintro e w3 ⟨rfl, h3⟩
  go_wp2_with fail
  refine (toMoveS_any l A c _ (r_l.grew (by (repeat (with_reducible first | exact Grew.refl _ | assumption | apply Grew.alloc | apply Grew.drew | apply Grew.drewN | (refine Grew.setCell ?_ (by simp; try omega) _) | (refine Grew.trans ?_ (by assumption)))))) (by omega)).mono ?_; rintro e w4 ⟨rfl, oi_l, h4⟩
  go_wp2_with fail
  refine (flowIn_impl l _ _ it ba pl _ (oi_l.grew (by (repeat (with_reducible first | exact Grew.refl _ | assumption | apply Grew.alloc | apply Grew.drew | apply Grew.drewN | (refine Grew.setCell ?_ (by simp; try omega) _) | (refine Grew.trans ?_ (by assumption)))))).rd k_l (by omega)).mono ?_; rintro e w5 ⟨rfl, h5⟩
  go_wp2_with fail
  refine (toMoveS_any l A c _ (r_l.grew (by (repeat (with_reducible first | exact Grew.refl _ | assumption | apply Grew.alloc | apply Grew.drew | apply Grew.drewN | (refine Grew.setCell ?_ (by simp; try omega) _) | (refine Grew.trans ?_ (by assumption)))))) (by omega)).mono ?_; rintro e w6 ⟨rfl, oe_l, h6⟩
  go_wp2_with fail
  refine (eqMoveS_any l l _ _ _ _ _ (oi_l.grew (by (repeat (with_reducible first | exact Grew.refl _ | assumption | apply Grew.alloc | apply Grew.drew | apply Grew.drewN | (refine Grew.setCell ?_ (by simp; try omega) _) | (refine Grew.trans ?_ (by assumption)))))).rd (oe_l.grew (by (repeat (with_reducible first | exact Grew.refl _ | assumption | apply Grew.alloc | apply Grew.drew | apply Grew.drewN | (refine Grew.setCell ?_ (by simp; try omega) _) | (refine Grew.trans ?_ (by assumption)))))).rd (by omega) (by omega)).mono ?_; rintro e w7 ⟨rfl, h7⟩
  go_wp2_with fail
  go_ret
  go_light
  refine ⟨rfl, ?_⟩
  (repeat (with_reducible first | exact Grew.refl _ | assumption | apply Grew.alloc | apply Grew.drew | apply Grew.drewN | (refine Grew.setCell ?_ (by simp; try omega) _) | (refine Grew.trans ?_ (by assumption))))

set_option maxRecDepth 100000 in
theorem lifted (os : Os) (started : os.Started) (H : Type) (enc : TypeId × Value → H) :
    ReturnsInHanded {} Try.checked os 6 .any (Rows.fnExactFlowInSpec.pre6 enc Try.prog Try.f6 Rows.fnExactFlowInRow.domain false) (Rows.fnExactFlowInSpec.post enc Try.prog Try.f6 false true false false) := by
  refine returnsInHanded_of_change (C := Try.checked) own started (by kernel_rfl) Try.func6
    (ChangeSpec.witness6 (enc := enc) (C := Try.checked) false ⟨#[], #[.slice none 0 0, .string ByteArray.empty, .string ByteArray.empty, .string ByteArray.empty], []⟩ 8 (by kernel_rfl) (by kernel_rfl) (by kernel_rfl) (by kernel_rfl)) ?_
  intro W base args ds gs before hval0 hW hcnd _
  have hval : ∀ (j : Nat) t v, Try.f6.params[j]? = some t → args[j]? = some v → Value.okWide Try.prog W .any base t v := hval0
  have hW' := hW
  obtain ⟨p, q, hA0, hV, rfl, hfz, hnd⟩ := hW
  have hA : DataW.TrodAll enc Try.prog W 0 (fun _ => true) true Try.f6.params.toList args.toList ds p := hA0
  rw [Try.params6] at hA hval
  obtain ⟨v0, vs0, d0, ds0, p0, q0, hargs, rfl, rfl, h0, r0⟩ := trodAll_cons hA
  obtain ⟨v1, vs1, d1, ds1, p1, q1, rfl, rfl, rfl, h1, r1⟩ := trodAll_cons r0
  obtain ⟨v2, vs2, d2, ds2, p2, q2, rfl, rfl, rfl, h2, r2⟩ := trodAll_cons r1
  obtain ⟨v3, vs3, d3, ds3, p3, q3, rfl, rfl, rfl, h3, r3⟩ := trodAll_cons r2
  obtain ⟨rfl, rfl, rfl⟩ := trodAll_nil r3
  obtain rfl : args = #[v0, v1, v2, v3] := by cases args; simp_all
  obtain ⟨l, A, c, rfl, r_l, q1_l, q2_l, k_l⟩ := Mv.open_ (hval 0 38 v0 rfl rfl) h0
  obtain ⟨it, rfl, _, _, w_it⟩ := Go.ChangeMaps.open_string Try.underlying9 (hval 1 9 v1 rfl rfl) h1
  obtain ⟨ba, rfl, _, _, w_ba⟩ := Go.ChangeMaps.open_string Try.underlying9 (hval 2 9 v2 rfl rfl) h2
  obtain ⟨pl, rfl, _, _, w_pl⟩ := Go.ChangeMaps.open_string Try.underlying9 (hval 3 9 v3 rfl rfl) h3
  refine (walk W l A c r_l ⟨q1_l, q2_l⟩ k_l it w_it ba w_ba pl w_pl).mono fun e W' ⟨he, hg⟩ => ?_
  subst he
  exact ⟨_, rfl, law_step (tb := 4) laidOut (by rw [Try.params6]; exact pars_of (by kernel_rfl)) rfl hW' rfl rfl rfl (by kernel_rfl) Try.underlying4 hg⟩

theorem over : Rows.fnExactFlowInRow.holds Try.pinned (OpenSpec.ofChange Rows.fnExactFlowInSpec) :=
  OpenClaim.holds_of_wide 6 Try.f6 rfl rfl rfl rfl rfl rfl rfl ⟨rfl, rfl, rfl, rfl, rfl⟩ rfl rfl rfl rfl rfl (by kernel_rfl) Try.func6 (by kernel_rfl)
    (of_decide_eq_true (by kernel_rfl)) (by unfold Func.isWrapper; first | (rw [if_pos (by decide +kernel)]; kernel_rfl) | (rw [if_neg (by decide +kernel)]; exact ⟨rfl, rfl⟩))
    (fun os started H enc _ => lifted os started H enc)

theorem proved : Rows.FnExactFlowInSaid := over
end fnExactFlowIn
end Go.Proofs.Ytfbfhccgohmeiaa
