/- What each function on purchases returns, as a plain Lean function. Conditions: none. -/
import Derived.Test.YtjihfklhfldplaaBase
namespace Go.Proofs.Ytjihfklhfldplaa
open Go.RowKit
set_option linter.unusedVariables false

def purB (q p t r i d : Int) : Bool :=
  inB q 1 100000 && inB p 0 10000 && inB t 0 100 && inB r 0 q && inB i 0 r && inB d 0 2000000000 && decide (wrap64 (d * 100) ≤ wrap64 (wrap64 (i * p) * wrap64 (100 + t)))

theorem purB_bounds {q p t r i d : Int} (h : purB q p t r i d = true) :
    1 ≤ q ∧ q ≤ 100000 ∧ 0 ≤ p ∧ p ≤ 10000 ∧ 0 ≤ t ∧ t ≤ 100 ∧ 0 ≤ r ∧ r ≤ q ∧ 0 ≤ i ∧ i ≤ r ∧ 0 ≤ d ∧ d ≤ 2000000000 := by
  simp only [purB, Bool.and_eq_true, inB_iff] at h
  omega

abbrev purV (q p t r i d : Int) (c : Bool) : Value := .agg #[.int .i64 q, .int .i64 p, .int .i64 t, .int .i64 r, .int .i64 i, .int .i64 d, .bool c]

set_option maxHeartbeats 400000 in
theorem isPurchase_impl (q p t r i d : Int) (c : Bool) (w : World) :
    Calls Try.prog 12 #[purV q p t r i d c] w fun e w' => e = .returned (.bool (purB q p t r i d)) ∧ Grew w w' := by
  go_enter Try.func12, Try.ntmps12
  go_wp2_with (go_at_call 27; refine (in_any _ _ _ _).mono ?_; rintro e w' ⟨rfl, rfl⟩)
  all_goals go_ret
  all_goals go_light
  all_goals exact ⟨ret_bool (by simp_all [purB]), (Grew.refl _).alloc _⟩

set_option maxHeartbeats 400000 in
theorem isPurchase_spec (q p t r i d : Int) (c : Bool) (w : World) :
    Calls Try.prog 10 #[purV q p t r i d c] w fun e w' => e = .returned (.bool (purB q p t r i d)) ∧ Grew w w' := by
  go_enter Try.func10, Try.ntmps10
  go_wp2_with (go_at_call 26; refine (l1In_any _ _ _ _).mono ?_; rintro e w' ⟨rfl, rfl⟩)
  all_goals go_ret
  all_goals go_light
  all_goals exact ⟨ret_bool (by simp_all [purB]), (Grew.refl _).alloc _⟩

set_option maxHeartbeats 400000 in
theorem toPurchase_any (q p t r i d : Int) (c : Bool) (w : World) :
    Calls Try.prog 11 #[purV q p t r i d c] w fun e w' => e = .returned (purV q p t r i d c) ∧ Grew w w' := by
  go_enter Try.func11, Try.ntmps11
  go_wp2
  exact bodyPost_ret (v := purV q p t r i d c) (by simp [results, Try.results11, go_sem]) rfl ⟨rfl, (((Grew.refl _).alloc _).alloc _).alloc _⟩

set_option maxHeartbeats 1000000 in
theorem eqPurchase_any (q p t r i d : Int) (c : Bool) (q' p' t' r' i' d' : Int) (c' : Bool) (w : World) :
    Calls Try.prog 17 #[purV q p t r i d c, purV q' p' t' r' i' d' c'] w fun e w' =>
      e = .returned (.bool (decide (q = q' ∧ p = p' ∧ t = t' ∧ r = r' ∧ i = i' ∧ d = d' ∧ c = c'))) ∧ Grew w w' := by
  go_enter Try.func17, Try.ntmps17
  go_wp2
  all_goals go_ret
  all_goals refine ⟨ret_bool ?_, ((Grew.refl _).alloc _).alloc _⟩
  all_goals go_light
  all_goals (simp_all; try omega)

def gapF (q p t r i d : Int) : Int := if purB q p t r i d then wrap64 (d - wrap64 (i * p)) else 0

set_option maxHeartbeats 400000 in
theorem priceGap_impl (q p t r i d : Int) (c : Bool) (w : World) :
    Calls Try.prog 14 #[purV q p t r i d c] w fun e w' => e = .returned (.int .i64 (gapF q p t r i d)) ∧ Grew w w' := by
  go_enter Try.func14, Try.ntmps14
  go_wp2_with (go_at_call 12; refine (isPurchase_impl _ _ _ _ _ _ _ _).mono ?_; rintro e w1 ⟨rfl, h1⟩; obtain ⟨hc1, hf1⟩ := h1.rules)
  all_goals go_ret
  all_goals go_light
  all_goals exact ⟨ret_int (by simp_all [gapF]), ((Grew.refl _).alloc _).trans h1⟩
end Go.Proofs.Ytjihfklhfldplaa
