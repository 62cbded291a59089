/- Purchases: PriceGap of the reference, OrderGoods and MatchInvoice of the program and of the reference return what plain functions return. Conditions: none. -/
import Derived.Test.YtjihfklhfldplaaPurB
namespace Go.Proofs.Ytjihfklhfldplaa
open Go.RowKit
set_option linter.unusedVariables false
set_option linter.unusedSimpArgs false

set_option maxHeartbeats 400000 in
theorem priceGap_spec (q p t r i d : Int) (c : Bool) (w : World) :
    Calls Try.prog 13 #[purV q p t r i d c] w fun e w' => e = .returned (.int .i64 (gapF q p t r i d)) ∧ Grew w w' := by
  go_enter Try.func13, Try.ntmps13
  go_wp2_with (go_at_call 10; refine (isPurchase_spec _ _ _ _ _ _ _ _).mono ?_; rintro e w1 ⟨rfl, h1⟩; obtain ⟨hc1, hf1⟩ := h1.rules)
  all_goals go_ret
  all_goals go_light
  all_goals exact ⟨ret_int (by simp_all [gapF]), ((Grew.refl _).alloc _).trans h1⟩

set_option maxHeartbeats 1000000 in
theorem order_impl (q p t : Int) (w : World) :
    Calls Try.prog 16 #[.int .i64 q, .int .i64 p, .int .i64 t] w fun e w' =>
      e = .returned (.tuple #[if purB q p t 0 0 0 then purV q p t 0 0 0 false else purV 0 0 0 0 0 0 false, .bool (purB q p t 0 0 0)]) ∧ Grew w w' := by
  cases hp : purB q p t 0 0 0
  all_goals
    go_enter Try.func16, Try.ntmps16
    go_wp2_with (go_at_call 12; refine (isPurchase_impl _ _ _ _ _ _ _ _).mono ?_; rintro e w1 ⟨rfl, h1⟩; have hz_w1_0 : w.heap.size < w1.heap.size := Nat.lt_of_lt_of_le (by first | (simp +arith; done) | (simp; omega) | omega) h1.le; have hb_w1_0 := fun o => h1.rules.1 w.heap.size o (by first | (simp +arith; done) | (simp; omega) | omega); have hf_w1_0 := fun o => h1.rules.2 w.heap.size o (by first | (simp +arith; done) | (simp; omega) | omega); (try simp [World.cell?_alloc_past, World.frozen?_alloc_past, Nat.lt_add_right] at hb_w1_0 hf_w1_0); have hz_w1_1 : (w.heap.size + 1) < w1.heap.size := Nat.lt_of_lt_of_le (by first | (simp +arith; done) | (simp; omega) | omega) h1.le; have hb_w1_1 := fun o => h1.rules.1 (w.heap.size + 1) o (by first | (simp +arith; done) | (simp; omega) | omega); have hf_w1_1 := fun o => h1.rules.2 (w.heap.size + 1) o (by first | (simp +arith; done) | (simp; omega) | omega); (try simp [World.cell?_alloc_past, World.frozen?_alloc_past, Nat.lt_add_right] at hb_w1_1 hf_w1_1))
    go_light
  · refine bodyPost_ret (v := .tuple #[purV 0 0 0 0 0 0 false, .bool false]) (by simp [results, Try.results16, go_sem, hb_w1_0, hb_w1_1, hz_w1_0, hz_w1_1]) rfl ⟨rfl, ?_⟩
    (repeat (with_reducible first | exact Grew.refl _ | assumption | apply Grew.alloc | apply Grew.drew | apply Grew.drewN | (refine Grew.setCell ?_ (by simp; try omega) _) | (refine Grew.trans ?_ (by assumption))))
  · refine bodyPost_ret (v := .tuple #[purV q p t 0 0 0 false, .bool true]) (by simp [results, Try.results16, go_sem, hb_w1_0, hb_w1_1, hz_w1_0, hz_w1_1]) rfl ⟨rfl, ?_⟩
    (repeat (with_reducible first | exact Grew.refl _ | assumption | apply Grew.alloc | apply Grew.drew | apply Grew.drewN | (refine Grew.setCell ?_ (by simp; try omega) _) | (refine Grew.trans ?_ (by assumption))))

set_option maxHeartbeats 2000000 in
theorem inv_impl (q p t r i d : Int) (c : Bool) (k m : Int) (w : World) :
    Calls Try.prog 23 #[purV q p t r i d c, .int .i64 k, .int .i64 m] w fun e w' =>
      e = .returned (.tuple #[purV q p t r (invF q p t r i d c k m).1 (invF q p t r i d c k m).2.1 c, .int .i64 (invF q p t r i d c k m).2.2]) ∧ Grew w w' := by
  cases hp : purB q p t r i d
  · have HF : Hid (invF q p t r i d c k m = (i, d, 1)) := Lib.hid (by simp [invF, hp])
    go_enter Try.func23, Try.ntmps23
    go_wp2_with (go_at_call 12; refine (isPurchase_impl _ _ _ _ _ _ _ _).mono ?_; rintro e w1 ⟨rfl, h1⟩; have hz_w1_0 : w.heap.size < w1.heap.size := Nat.lt_of_lt_of_le (by first | (simp +arith; done) | (simp; omega) | omega) h1.le; have hb_w1_0 := fun o => h1.rules.1 w.heap.size o (by first | (simp +arith; done) | (simp; omega) | omega); have hf_w1_0 := fun o => h1.rules.2 w.heap.size o (by first | (simp +arith; done) | (simp; omega) | omega); (try simp [World.cell?_alloc_past, World.frozen?_alloc_past, Nat.lt_add_right] at hb_w1_0 hf_w1_0); have hz_w1_1 : (w.heap.size + 1) < w1.heap.size := Nat.lt_of_lt_of_le (by first | (simp +arith; done) | (simp; omega) | omega) h1.le; have hb_w1_1 := fun o => h1.rules.1 (w.heap.size + 1) o (by first | (simp +arith; done) | (simp; omega) | omega); have hf_w1_1 := fun o => h1.rules.2 (w.heap.size + 1) o (by first | (simp +arith; done) | (simp; omega) | omega); (try simp [World.cell?_alloc_past, World.frozen?_alloc_past, Nat.lt_add_right] at hb_w1_1 hf_w1_1))
    go_light
    refine bodyPost_ret (v := .tuple #[purV q p t r i d c, .int .i64 1]) (by simp [results, Try.results23, go_sem, hb_w1_0, hb_w1_1, hz_w1_0, hz_w1_1]) rfl ⟨by rw [HF.out], ?_⟩
    (repeat (with_reducible first | exact Grew.refl _ | assumption | apply Grew.alloc | apply Grew.drew | apply Grew.drewN | (refine Grew.setCell ?_ (by simp; try omega) _) | (refine Grew.trans ?_ (by assumption))))
  have hb := purB_bounds hp
  cases hk : inB k 1 100000
  · have HF : Hid (invF q p t r i d c k m = (i, d, 1)) := Lib.hid (by simp [invF, hk])
    go_enter Try.func23, Try.ntmps23
    go_wp2_with (first | (go_at_call 12; refine (isPurchase_impl _ _ _ _ _ _ _ _).mono ?_; rintro e w1 ⟨rfl, h1⟩; have hz_w1_0 : w.heap.size < w1.heap.size := Nat.lt_of_lt_of_le (by first | (simp +arith; done) | (simp; omega) | omega) h1.le; have hb_w1_0 := fun o => h1.rules.1 w.heap.size o (by first | (simp +arith; done) | (simp; omega) | omega); have hf_w1_0 := fun o => h1.rules.2 w.heap.size o (by first | (simp +arith; done) | (simp; omega) | omega); (try simp [World.cell?_alloc_past, World.frozen?_alloc_past, Nat.lt_add_right] at hb_w1_0 hf_w1_0); have hz_w1_1 : (w.heap.size + 1) < w1.heap.size := Nat.lt_of_lt_of_le (by first | (simp +arith; done) | (simp; omega) | omega) h1.le; have hb_w1_1 := fun o => h1.rules.1 (w.heap.size + 1) o (by first | (simp +arith; done) | (simp; omega) | omega); have hf_w1_1 := fun o => h1.rules.2 (w.heap.size + 1) o (by first | (simp +arith; done) | (simp; omega) | omega); (try simp [World.cell?_alloc_past, World.frozen?_alloc_past, Nat.lt_add_right] at hb_w1_1 hf_w1_1)) | (go_at_call 27; refine (in_any _ _ _ _).mono ?_; rintro e w' ⟨rfl, rfl⟩))
    go_light
    refine bodyPost_ret (v := .tuple #[purV q p t r i d c, .int .i64 1]) (by simp [results, Try.results23, go_sem, hb_w1_0, hb_w1_1, hz_w1_0, hz_w1_1]) rfl ⟨by rw [HF.out], ?_⟩
    (repeat (with_reducible first | exact Grew.refl _ | assumption | apply Grew.alloc | apply Grew.drew | apply Grew.drewN | (refine Grew.setCell ?_ (by simp; try omega) _) | (refine Grew.trans ?_ (by assumption))))
  have hkb := inB_iff.1 hk
  cases hm : inB m 0 2000000000
  · have HF : Hid (invF q p t r i d c k m = (i, d, 1)) := Lib.hid (by simp [invF, hm])
    go_enter Try.func23, Try.ntmps23
    go_wp2_with (first | (go_at_call 12; refine (isPurchase_impl _ _ _ _ _ _ _ _).mono ?_; rintro e w1 ⟨rfl, h1⟩; have hz_w1_0 : w.heap.size < w1.heap.size := Nat.lt_of_lt_of_le (by first | (simp +arith; done) | (simp; omega) | omega) h1.le; have hb_w1_0 := fun o => h1.rules.1 w.heap.size o (by first | (simp +arith; done) | (simp; omega) | omega); have hf_w1_0 := fun o => h1.rules.2 w.heap.size o (by first | (simp +arith; done) | (simp; omega) | omega); (try simp [World.cell?_alloc_past, World.frozen?_alloc_past, Nat.lt_add_right] at hb_w1_0 hf_w1_0); have hz_w1_1 : (w.heap.size + 1) < w1.heap.size := Nat.lt_of_lt_of_le (by first | (simp +arith; done) | (simp; omega) | omega) h1.le; have hb_w1_1 := fun o => h1.rules.1 (w.heap.size + 1) o (by first | (simp +arith; done) | (simp; omega) | omega); have hf_w1_1 := fun o => h1.rules.2 (w.heap.size + 1) o (by first | (simp +arith; done) | (simp; omega) | omega); (try simp [World.cell?_alloc_past, World.frozen?_alloc_past, Nat.lt_add_right] at hb_w1_1 hf_w1_1)) | (go_at_call 27; refine (in_any _ _ _ _).mono ?_; rintro e w' ⟨rfl, rfl⟩))
    go_light
    refine bodyPost_ret (v := .tuple #[purV q p t r i d c, .int .i64 1]) (by simp [results, Try.results23, go_sem, hb_w1_0, hb_w1_1, hz_w1_0, hz_w1_1]) rfl ⟨by rw [HF.out], ?_⟩
    (repeat (with_reducible first | exact Grew.refl _ | assumption | apply Grew.alloc | apply Grew.drew | apply Grew.drewN | (refine Grew.setCell ?_ (by simp; try omega) _) | (refine Grew.trans ?_ (by assumption))))
  have hmb := inB_iff.1 hm
  have e0 : 0 ≤ k * p := Int.mul_nonneg (by omega) (by omega)
  have e1 : k * p ≤ 1000000000 := by
    have := Int.mul_le_mul (a := k) (b := p) (c := 100000) (d := 10000) (by omega) (by omega) (by omega) (by omega); omega
  have e2 : 0 ≤ k * p * (100 - t) := Int.mul_nonneg e0 (by omega)
  have e3 : k * p * (100 - t) ≤ 100000000000 := by
    have := Int.mul_le_mul (a := k * p) (b := 100 - t) (c := 1000000000) (d := 100) (by omega) (by omega) (by omega) (by omega); omega
  have e4 : 0 ≤ k * p * (100 + t) := Int.mul_nonneg e0 (by omega)
  have e5 : k * p * (100 + t) ≤ 200000000000 := by
    have := Int.mul_le_mul (a := k * p) (b := 100 + t) (c := 1000000000) (d := 200) (by omega) (by omega) (by omega) (by omega); omega
  cases c
  · by_cases hi : r < i + k
    · have HF : Hid (invF q p t r i d false k m = (i, d, 3)) := Lib.hid (by simp [invF, hk, hp, hm, hi])
      have hi2 : r - i < k := by omega
      go_enter Try.func23, Try.ntmps23
      go_wp2_with (first | (go_at_call 12; refine (isPurchase_impl _ _ _ _ _ _ _ _).mono ?_; rintro e w1 ⟨rfl, h1⟩; have hz_w1_0 : w.heap.size < w1.heap.size := Nat.lt_of_lt_of_le (by first | (simp +arith; done) | (simp; omega) | omega) h1.le; have hb_w1_0 := fun o => h1.rules.1 w.heap.size o (by first | (simp +arith; done) | (simp; omega) | omega); have hf_w1_0 := fun o => h1.rules.2 w.heap.size o (by first | (simp +arith; done) | (simp; omega) | omega); (try simp [World.cell?_alloc_past, World.frozen?_alloc_past, Nat.lt_add_right] at hb_w1_0 hf_w1_0); have hz_w1_1 : (w.heap.size + 1) < w1.heap.size := Nat.lt_of_lt_of_le (by first | (simp +arith; done) | (simp; omega) | omega) h1.le; have hb_w1_1 := fun o => h1.rules.1 (w.heap.size + 1) o (by first | (simp +arith; done) | (simp; omega) | omega); have hf_w1_1 := fun o => h1.rules.2 (w.heap.size + 1) o (by first | (simp +arith; done) | (simp; omega) | omega); (try simp [World.cell?_alloc_past, World.frozen?_alloc_past, Nat.lt_add_right] at hb_w1_1 hf_w1_1)) | (go_at_call 27; refine (in_any _ _ _ _).mono ?_; rintro e w' ⟨rfl, rfl⟩))
      go_light
      refine bodyPost_ret (v := .tuple #[purV q p t r i d false, .int .i64 3]) (by simp [results, Try.results23, go_sem, hb_w1_0, hb_w1_1, hz_w1_0, hz_w1_1]) rfl ⟨by rw [HF.out], ?_⟩
      (repeat (with_reducible first | exact Grew.refl _ | assumption | apply Grew.alloc | apply Grew.drew | apply Grew.drewN | (refine Grew.setCell ?_ (by simp; try omega) _) | (refine Grew.trans ?_ (by assumption))))
    have hi2 : ¬ r - i < k := by omega
    cases ha : inB (m * 100) (k * p * (100 - t)) (k * p * (100 + t))
    · have HF : Hid (invF q p t r i d false k m = (i, d, 4)) := Lib.hid (by simp [invF, hk, hp, hm, hi, ha])
      have ha2 : m * 100 < k * p * (100 - t) ∨ k * p * (100 + t) < m * 100 := inB_not.1 ha
      rcases (show k * p * (100 + t) < m * 100 ∨ (¬ k * p * (100 + t) < m * 100 ∧ m * 100 < k * p * (100 - t)) by omega) with ha3 | ⟨ha3, ha4⟩
      all_goals
          go_enter Try.func23, Try.ntmps23
          go_wp2_with (first | (go_at_call 12; refine (isPurchase_impl _ _ _ _ _ _ _ _).mono ?_; rintro e w1 ⟨rfl, h1⟩; have hz_w1_0 : w.heap.size < w1.heap.size := Nat.lt_of_lt_of_le (by first | (simp +arith; done) | (simp; omega) | omega) h1.le; have hb_w1_0 := fun o => h1.rules.1 w.heap.size o (by first | (simp +arith; done) | (simp; omega) | omega); have hf_w1_0 := fun o => h1.rules.2 w.heap.size o (by first | (simp +arith; done) | (simp; omega) | omega); (try simp [World.cell?_alloc_past, World.frozen?_alloc_past, Nat.lt_add_right] at hb_w1_0 hf_w1_0); have hz_w1_1 : (w.heap.size + 1) < w1.heap.size := Nat.lt_of_lt_of_le (by first | (simp +arith; done) | (simp; omega) | omega) h1.le; have hb_w1_1 := fun o => h1.rules.1 (w.heap.size + 1) o (by first | (simp +arith; done) | (simp; omega) | omega); have hf_w1_1 := fun o => h1.rules.2 (w.heap.size + 1) o (by first | (simp +arith; done) | (simp; omega) | omega); (try simp [World.cell?_alloc_past, World.frozen?_alloc_past, Nat.lt_add_right] at hb_w1_1 hf_w1_1)) | (go_at_call 27; refine (in_any _ _ _ _).mono ?_; rintro e w' ⟨rfl, rfl⟩))
          go_light
          refine bodyPost_ret (v := .tuple #[purV q p t r i d false, .int .i64 4]) (by simp [results, Try.results23, go_sem, hb_w1_0, hb_w1_1, hz_w1_0, hz_w1_1]) rfl ⟨by rw [HF.out], ?_⟩
          (repeat (with_reducible first | exact Grew.refl _ | assumption | apply Grew.alloc | apply Grew.drew | apply Grew.drewN | (refine Grew.setCell ?_ (by simp; try omega) _) | (refine Grew.trans ?_ (by assumption))))
    · have HF : Hid (invF q p t r i d false k m = (i + k, d + m, 0)) := Lib.hid (by simp [invF, hk, hp, hm, hi, ha])
      have ha2 : k * p * (100 - t) ≤ m * 100 ∧ m * 100 ≤ k * p * (100 + t) := inB_iff.1 ha
      obtain ⟨ha2, ha3⟩ := ha2
      go_enter Try.func23, Try.ntmps23
      go_wp2_with (first | (go_at_call 12; refine (isPurchase_impl _ _ _ _ _ _ _ _).mono ?_; rintro e w1 ⟨rfl, h1⟩; have hz_w1_0 : w.heap.size < w1.heap.size := Nat.lt_of_lt_of_le (by first | (simp +arith; done) | (simp; omega) | omega) h1.le; have hb_w1_0 := fun o => h1.rules.1 w.heap.size o (by first | (simp +arith; done) | (simp; omega) | omega); have hf_w1_0 := fun o => h1.rules.2 w.heap.size o (by first | (simp +arith; done) | (simp; omega) | omega); (try simp [World.cell?_alloc_past, World.frozen?_alloc_past, Nat.lt_add_right] at hb_w1_0 hf_w1_0); have hz_w1_1 : (w.heap.size + 1) < w1.heap.size := Nat.lt_of_lt_of_le (by first | (simp +arith; done) | (simp; omega) | omega) h1.le; have hb_w1_1 := fun o => h1.rules.1 (w.heap.size + 1) o (by first | (simp +arith; done) | (simp; omega) | omega); have hf_w1_1 := fun o => h1.rules.2 (w.heap.size + 1) o (by first | (simp +arith; done) | (simp; omega) | omega); (try simp [World.cell?_alloc_past, World.frozen?_alloc_past, Nat.lt_add_right] at hb_w1_1 hf_w1_1)) | (go_at_call 27; refine (in_any _ _ _ _).mono ?_; rintro e w' ⟨rfl, rfl⟩))
      go_light
      refine bodyPost_ret (v := .tuple #[purV q p t r (i + k) (d + m) false, .int .i64 0]) (by simp [results, Try.results23, go_sem, hb_w1_0, hb_w1_1, hz_w1_0, hz_w1_1]) rfl ⟨by rw [HF.out], ?_⟩
      (repeat (with_reducible first | exact Grew.refl _ | assumption | apply Grew.alloc | apply Grew.drew | apply Grew.drewN | (refine Grew.setCell ?_ (by simp; try omega) _) | (refine Grew.trans ?_ (by assumption))))
  · have HF : Hid (invF q p t r i d true k m = (i, d, 2)) := Lib.hid (by simp [invF, hk, hp, hm])
    go_enter Try.func23, Try.ntmps23
    go_wp2_with (first | (go_at_call 12; refine (isPurchase_impl _ _ _ _ _ _ _ _).mono ?_; rintro e w1 ⟨rfl, h1⟩; have hz_w1_0 : w.heap.size < w1.heap.size := Nat.lt_of_lt_of_le (by first | (simp +arith; done) | (simp; omega) | omega) h1.le; have hb_w1_0 := fun o => h1.rules.1 w.heap.size o (by first | (simp +arith; done) | (simp; omega) | omega); have hf_w1_0 := fun o => h1.rules.2 w.heap.size o (by first | (simp +arith; done) | (simp; omega) | omega); (try simp [World.cell?_alloc_past, World.frozen?_alloc_past, Nat.lt_add_right] at hb_w1_0 hf_w1_0); have hz_w1_1 : (w.heap.size + 1) < w1.heap.size := Nat.lt_of_lt_of_le (by first | (simp +arith; done) | (simp; omega) | omega) h1.le; have hb_w1_1 := fun o => h1.rules.1 (w.heap.size + 1) o (by first | (simp +arith; done) | (simp; omega) | omega); have hf_w1_1 := fun o => h1.rules.2 (w.heap.size + 1) o (by first | (simp +arith; done) | (simp; omega) | omega); (try simp [World.cell?_alloc_past, World.frozen?_alloc_past, Nat.lt_add_right] at hb_w1_1 hf_w1_1)) | (go_at_call 27; refine (in_any _ _ _ _).mono ?_; rintro e w' ⟨rfl, rfl⟩))
    go_light
    refine bodyPost_ret (v := .tuple #[purV q p t r i d true, .int .i64 2]) (by simp [results, Try.results23, go_sem, hb_w1_0, hb_w1_1, hz_w1_0, hz_w1_1]) rfl ⟨by rw [HF.out], ?_⟩
    (repeat (with_reducible first | exact Grew.refl _ | assumption | apply Grew.alloc | apply Grew.drew | apply Grew.drewN | (refine Grew.setCell ?_ (by simp; try omega) _) | (refine Grew.trans ?_ (by assumption))))
set_option maxHeartbeats 1000000 in
theorem order_spec (q p t : Int) (w : World) :
    Calls Try.prog 15 #[.int .i64 q, .int .i64 p, .int .i64 t] w fun e w' =>
      e = .returned (.tuple #[if purB q p t 0 0 0 then purV q p t 0 0 0 false else purV 0 0 0 0 0 0 false, .bool (purB q p t 0 0 0)]) ∧ Grew w w' := by
  cases hp : purB q p t 0 0 0
  all_goals
    go_enter Try.func15, Try.ntmps15
    go_wp2_with (go_at_call 10; refine (isPurchase_spec _ _ _ _ _ _ _ _).mono ?_; rintro e w1 ⟨rfl, h1⟩; have hz_w1_0 : w.heap.size < w1.heap.size := Nat.lt_of_lt_of_le (by first | (simp +arith; done) | (simp; omega) | omega) h1.le; have hb_w1_0 := fun o => h1.rules.1 w.heap.size o (by first | (simp +arith; done) | (simp; omega) | omega); have hf_w1_0 := fun o => h1.rules.2 w.heap.size o (by first | (simp +arith; done) | (simp; omega) | omega); (try simp [World.cell?_alloc_past, World.frozen?_alloc_past, Nat.lt_add_right] at hb_w1_0 hf_w1_0); have hz_w1_1 : (w.heap.size + 1) < w1.heap.size := Nat.lt_of_lt_of_le (by first | (simp +arith; done) | (simp; omega) | omega) h1.le; have hb_w1_1 := fun o => h1.rules.1 (w.heap.size + 1) o (by first | (simp +arith; done) | (simp; omega) | omega); have hf_w1_1 := fun o => h1.rules.2 (w.heap.size + 1) o (by first | (simp +arith; done) | (simp; omega) | omega); (try simp [World.cell?_alloc_past, World.frozen?_alloc_past, Nat.lt_add_right] at hb_w1_1 hf_w1_1))
    go_light
  · refine bodyPost_ret (v := .tuple #[purV 0 0 0 0 0 0 false, .bool false]) (by simp [results, Try.results15, go_sem, hb_w1_0, hb_w1_1, hz_w1_0, hz_w1_1]) rfl ⟨rfl, ?_⟩
    (repeat (with_reducible first | exact Grew.refl _ | assumption | apply Grew.alloc | apply Grew.drew | apply Grew.drewN | (refine Grew.setCell ?_ (by simp; try omega) _) | (refine Grew.trans ?_ (by assumption))))
  · refine bodyPost_ret (v := .tuple #[purV q p t 0 0 0 false, .bool true]) (by simp [results, Try.results15, go_sem, hb_w1_0, hb_w1_1, hz_w1_0, hz_w1_1]) rfl ⟨rfl, ?_⟩
    (repeat (with_reducible first | exact Grew.refl _ | assumption | apply Grew.alloc | apply Grew.drew | apply Grew.drewN | (refine Grew.setCell ?_ (by simp; try omega) _) | (refine Grew.trans ?_ (by assumption))))

set_option maxHeartbeats 2000000 in
theorem inv_spec (q p t r i d : Int) (c : Bool) (k m : Int) (w : World) :
    Calls Try.prog 22 #[purV q p t r i d c, .int .i64 k, .int .i64 m] w fun e w' =>
      e = .returned (.tuple #[purV q p t r (invF q p t r i d c k m).1 (invF q p t r i d c k m).2.1 c, .int .i64 (invF q p t r i d c k m).2.2]) ∧ Grew w w' := by
  cases hp : purB q p t r i d
  · have HF : Hid (invF q p t r i d c k m = (i, d, 1)) := Lib.hid (by simp [invF, hp])
    go_enter Try.func22, Try.ntmps22
    go_wp2_with (go_at_call 10; refine (isPurchase_spec _ _ _ _ _ _ _ _).mono ?_; rintro e w1 ⟨rfl, h1⟩; have hz_w1_0 : w.heap.size < w1.heap.size := Nat.lt_of_lt_of_le (by first | (simp +arith; done) | (simp; omega) | omega) h1.le; have hb_w1_0 := fun o => h1.rules.1 w.heap.size o (by first | (simp +arith; done) | (simp; omega) | omega); have hf_w1_0 := fun o => h1.rules.2 w.heap.size o (by first | (simp +arith; done) | (simp; omega) | omega); (try simp [World.cell?_alloc_past, World.frozen?_alloc_past, Nat.lt_add_right] at hb_w1_0 hf_w1_0); have hz_w1_1 : (w.heap.size + 1) < w1.heap.size := Nat.lt_of_lt_of_le (by first | (simp +arith; done) | (simp; omega) | omega) h1.le; have hb_w1_1 := fun o => h1.rules.1 (w.heap.size + 1) o (by first | (simp +arith; done) | (simp; omega) | omega); have hf_w1_1 := fun o => h1.rules.2 (w.heap.size + 1) o (by first | (simp +arith; done) | (simp; omega) | omega); (try simp [World.cell?_alloc_past, World.frozen?_alloc_past, Nat.lt_add_right] at hb_w1_1 hf_w1_1))
    go_light
    refine bodyPost_ret (v := .tuple #[purV q p t r i d c, .int .i64 1]) (by simp [results, Try.results22, go_sem, hb_w1_0, hb_w1_1, hz_w1_0, hz_w1_1]) rfl ⟨by rw [HF.out], ?_⟩
    (repeat (with_reducible first | exact Grew.refl _ | assumption | apply Grew.alloc | apply Grew.drew | apply Grew.drewN | (refine Grew.setCell ?_ (by simp; try omega) _) | (refine Grew.trans ?_ (by assumption))))
  have hb := purB_bounds hp
  cases hk : inB k 1 100000
  · have HF : Hid (invF q p t r i d c k m = (i, d, 1)) := Lib.hid (by simp [invF, hk])
    go_enter Try.func22, Try.ntmps22
    go_wp2_with (first | (go_at_call 10; refine (isPurchase_spec _ _ _ _ _ _ _ _).mono ?_; rintro e w1 ⟨rfl, h1⟩; have hz_w1_0 : w.heap.size < w1.heap.size := Nat.lt_of_lt_of_le (by first | (simp +arith; done) | (simp; omega) | omega) h1.le; have hb_w1_0 := fun o => h1.rules.1 w.heap.size o (by first | (simp +arith; done) | (simp; omega) | omega); have hf_w1_0 := fun o => h1.rules.2 w.heap.size o (by first | (simp +arith; done) | (simp; omega) | omega); (try simp [World.cell?_alloc_past, World.frozen?_alloc_past, Nat.lt_add_right] at hb_w1_0 hf_w1_0); have hz_w1_1 : (w.heap.size + 1) < w1.heap.size := Nat.lt_of_lt_of_le (by first | (simp +arith; done) | (simp; omega) | omega) h1.le; have hb_w1_1 := fun o => h1.rules.1 (w.heap.size + 1) o (by first | (simp +arith; done) | (simp; omega) | omega); have hf_w1_1 := fun o => h1.rules.2 (w.heap.size + 1) o (by first | (simp +arith; done) | (simp; omega) | omega); (try simp [World.cell?_alloc_past, World.frozen?_alloc_past, Nat.lt_add_right] at hb_w1_1 hf_w1_1)) | (go_at_call 26; refine (l1In_any _ _ _ _).mono ?_; rintro e w' ⟨rfl, rfl⟩))
    go_light
    refine bodyPost_ret (v := .tuple #[purV q p t r i d c, .int .i64 1]) (by simp [results, Try.results22, go_sem, hb_w1_0, hb_w1_1, hz_w1_0, hz_w1_1]) rfl ⟨by rw [HF.out], ?_⟩
    (repeat (with_reducible first | exact Grew.refl _ | assumption | apply Grew.alloc | apply Grew.drew | apply Grew.drewN | (refine Grew.setCell ?_ (by simp; try omega) _) | (refine Grew.trans ?_ (by assumption))))
  have hkb := inB_iff.1 hk
  cases hm : inB m 0 2000000000
  · have HF : Hid (invF q p t r i d c k m = (i, d, 1)) := Lib.hid (by simp [invF, hm])
    go_enter Try.func22, Try.ntmps22
    go_wp2_with (first | (go_at_call 10; refine (isPurchase_spec _ _ _ _ _ _ _ _).mono ?_; rintro e w1 ⟨rfl, h1⟩; have hz_w1_0 : w.heap.size < w1.heap.size := Nat.lt_of_lt_of_le (by first | (simp +arith; done) | (simp; omega) | omega) h1.le; have hb_w1_0 := fun o => h1.rules.1 w.heap.size o (by first | (simp +arith; done) | (simp; omega) | omega); have hf_w1_0 := fun o => h1.rules.2 w.heap.size o (by first | (simp +arith; done) | (simp; omega) | omega); (try simp [World.cell?_alloc_past, World.frozen?_alloc_past, Nat.lt_add_right] at hb_w1_0 hf_w1_0); have hz_w1_1 : (w.heap.size + 1) < w1.heap.size := Nat.lt_of_lt_of_le (by first | (simp +arith; done) | (simp; omega) | omega) h1.le; have hb_w1_1 := fun o => h1.rules.1 (w.heap.size + 1) o (by first | (simp +arith; done) | (simp; omega) | omega); have hf_w1_1 := fun o => h1.rules.2 (w.heap.size + 1) o (by first | (simp +arith; done) | (simp; omega) | omega); (try simp [World.cell?_alloc_past, World.frozen?_alloc_past, Nat.lt_add_right] at hb_w1_1 hf_w1_1)) | (go_at_call 26; refine (l1In_any _ _ _ _).mono ?_; rintro e w' ⟨rfl, rfl⟩))
    go_light
    refine bodyPost_ret (v := .tuple #[purV q p t r i d c, .int .i64 1]) (by simp [results, Try.results22, go_sem, hb_w1_0, hb_w1_1, hz_w1_0, hz_w1_1]) rfl ⟨by rw [HF.out], ?_⟩
    (repeat (with_reducible first | exact Grew.refl _ | assumption | apply Grew.alloc | apply Grew.drew | apply Grew.drewN | (refine Grew.setCell ?_ (by simp; try omega) _) | (refine Grew.trans ?_ (by assumption))))
  have hmb := inB_iff.1 hm
  have e0 : 0 ≤ k * p := Int.mul_nonneg (by omega) (by omega)
  have e1 : k * p ≤ 1000000000 := by
    have := Int.mul_le_mul (a := k) (b := p) (c := 100000) (d := 10000) (by omega) (by omega) (by omega) (by omega); omega
  have e2 : 0 ≤ k * p * (100 - t) := Int.mul_nonneg e0 (by omega)
  have e3 : k * p * (100 - t) ≤ 100000000000 := by
    have := Int.mul_le_mul (a := k * p) (b := 100 - t) (c := 1000000000) (d := 100) (by omega) (by omega) (by omega) (by omega); omega
  have e4 : 0 ≤ k * p * (100 + t) := Int.mul_nonneg e0 (by omega)
  have e5 : k * p * (100 + t) ≤ 200000000000 := by
    have := Int.mul_le_mul (a := k * p) (b := 100 + t) (c := 1000000000) (d := 200) (by omega) (by omega) (by omega) (by omega); omega
  cases c
  · by_cases hi : r < i + k
    · have HF : Hid (invF q p t r i d false k m = (i, d, 3)) := Lib.hid (by simp [invF, hk, hp, hm, hi])
      have hi2 : r - i < k := by omega
      go_enter Try.func22, Try.ntmps22
      go_wp2_with (first | (go_at_call 10; refine (isPurchase_spec _ _ _ _ _ _ _ _).mono ?_; rintro e w1 ⟨rfl, h1⟩; have hz_w1_0 : w.heap.size < w1.heap.size := Nat.lt_of_lt_of_le (by first | (simp +arith; done) | (simp; omega) | omega) h1.le; have hb_w1_0 := fun o => h1.rules.1 w.heap.size o (by first | (simp +arith; done) | (simp; omega) | omega); have hf_w1_0 := fun o => h1.rules.2 w.heap.size o (by first | (simp +arith; done) | (simp; omega) | omega); (try simp [World.cell?_alloc_past, World.frozen?_alloc_past, Nat.lt_add_right] at hb_w1_0 hf_w1_0); have hz_w1_1 : (w.heap.size + 1) < w1.heap.size := Nat.lt_of_lt_of_le (by first | (simp +arith; done) | (simp; omega) | omega) h1.le; have hb_w1_1 := fun o => h1.rules.1 (w.heap.size + 1) o (by first | (simp +arith; done) | (simp; omega) | omega); have hf_w1_1 := fun o => h1.rules.2 (w.heap.size + 1) o (by first | (simp +arith; done) | (simp; omega) | omega); (try simp [World.cell?_alloc_past, World.frozen?_alloc_past, Nat.lt_add_right] at hb_w1_1 hf_w1_1)) | (go_at_call 26; refine (l1In_any _ _ _ _).mono ?_; rintro e w' ⟨rfl, rfl⟩))
      go_light
      refine bodyPost_ret (v := .tuple #[purV q p t r i d false, .int .i64 3]) (by simp [results, Try.results22, go_sem, hb_w1_0, hb_w1_1, hz_w1_0, hz_w1_1]) rfl ⟨by rw [HF.out], ?_⟩
      (repeat (with_reducible first | exact Grew.refl _ | assumption | apply Grew.alloc | apply Grew.drew | apply Grew.drewN | (refine Grew.setCell ?_ (by simp; try omega) _) | (refine Grew.trans ?_ (by assumption))))
    have hi2 : ¬ r - i < k := by omega
    cases ha : inB (m * 100) (k * p * (100 - t)) (k * p * (100 + t))
    · have HF : Hid (invF q p t r i d false k m = (i, d, 4)) := Lib.hid (by simp [invF, hk, hp, hm, hi, ha])
      have ha2 : m * 100 < k * p * (100 - t) ∨ k * p * (100 + t) < m * 100 := inB_not.1 ha
      rcases (show k * p * (100 + t) < m * 100 ∨ (¬ k * p * (100 + t) < m * 100 ∧ m * 100 < k * p * (100 - t)) by omega) with ha3 | ⟨ha3, ha4⟩
      all_goals
          go_enter Try.func22, Try.ntmps22
          go_wp2_with (first | (go_at_call 10; refine (isPurchase_spec _ _ _ _ _ _ _ _).mono ?_; rintro e w1 ⟨rfl, h1⟩; have hz_w1_0 : w.heap.size < w1.heap.size := Nat.lt_of_lt_of_le (by first | (simp +arith; done) | (simp; omega) | omega) h1.le; have hb_w1_0 := fun o => h1.rules.1 w.heap.size o (by first | (simp +arith; done) | (simp; omega) | omega); have hf_w1_0 := fun o => h1.rules.2 w.heap.size o (by first | (simp +arith; done) | (simp; omega) | omega); (try simp [World.cell?_alloc_past, World.frozen?_alloc_past, Nat.lt_add_right] at hb_w1_0 hf_w1_0); have hz_w1_1 : (w.heap.size + 1) < w1.heap.size := Nat.lt_of_lt_of_le (by first | (simp +arith; done) | (simp; omega) | omega) h1.le; have hb_w1_1 := fun o => h1.rules.1 (w.heap.size + 1) o (by first | (simp +arith; done) | (simp; omega) | omega); have hf_w1_1 := fun o => h1.rules.2 (w.heap.size + 1) o (by first | (simp +arith; done) | (simp; omega) | omega); (try simp [World.cell?_alloc_past, World.frozen?_alloc_past, Nat.lt_add_right] at hb_w1_1 hf_w1_1)) | (go_at_call 26; refine (l1In_any _ _ _ _).mono ?_; rintro e w' ⟨rfl, rfl⟩))
          go_light
          refine bodyPost_ret (v := .tuple #[purV q p t r i d false, .int .i64 4]) (by simp [results, Try.results22, go_sem, hb_w1_0, hb_w1_1, hz_w1_0, hz_w1_1]) rfl ⟨by rw [HF.out], ?_⟩
          (repeat (with_reducible first | exact Grew.refl _ | assumption | apply Grew.alloc | apply Grew.drew | apply Grew.drewN | (refine Grew.setCell ?_ (by simp; try omega) _) | (refine Grew.trans ?_ (by assumption))))
    · have HF : Hid (invF q p t r i d false k m = (i + k, d + m, 0)) := Lib.hid (by simp [invF, hk, hp, hm, hi, ha])
      have ha2 : k * p * (100 - t) ≤ m * 100 ∧ m * 100 ≤ k * p * (100 + t) := inB_iff.1 ha
      obtain ⟨ha2, ha3⟩ := ha2
      go_enter Try.func22, Try.ntmps22
      go_wp2_with (first | (go_at_call 10; refine (isPurchase_spec _ _ _ _ _ _ _ _).mono ?_; rintro e w1 ⟨rfl, h1⟩; have hz_w1_0 : w.heap.size < w1.heap.size := Nat.lt_of_lt_of_le (by first | (simp +arith; done) | (simp; omega) | omega) h1.le; have hb_w1_0 := fun o => h1.rules.1 w.heap.size o (by first | (simp +arith; done) | (simp; omega) | omega); have hf_w1_0 := fun o => h1.rules.2 w.heap.size o (by first | (simp +arith; done) | (simp; omega) | omega); (try simp [World.cell?_alloc_past, World.frozen?_alloc_past, Nat.lt_add_right] at hb_w1_0 hf_w1_0); have hz_w1_1 : (w.heap.size + 1) < w1.heap.size := Nat.lt_of_lt_of_le (by first | (simp +arith; done) | (simp; omega) | omega) h1.le; have hb_w1_1 := fun o => h1.rules.1 (w.heap.size + 1) o (by first | (simp +arith; done) | (simp; omega) | omega); have hf_w1_1 := fun o => h1.rules.2 (w.heap.size + 1) o (by first | (simp +arith; done) | (simp; omega) | omega); (try simp [World.cell?_alloc_past, World.frozen?_alloc_past, Nat.lt_add_right] at hb_w1_1 hf_w1_1)) | (go_at_call 26; refine (l1In_any _ _ _ _).mono ?_; rintro e w' ⟨rfl, rfl⟩))
      go_light
      refine bodyPost_ret (v := .tuple #[purV q p t r (i + k) (d + m) false, .int .i64 0]) (by simp [results, Try.results22, go_sem, hb_w1_0, hb_w1_1, hz_w1_0, hz_w1_1]) rfl ⟨by rw [HF.out], ?_⟩
      (repeat (with_reducible first | exact Grew.refl _ | assumption | apply Grew.alloc | apply Grew.drew | apply Grew.drewN | (refine Grew.setCell ?_ (by simp; try omega) _) | (refine Grew.trans ?_ (by assumption))))
  · have HF : Hid (invF q p t r i d true k m = (i, d, 2)) := Lib.hid (by simp [invF, hk, hp, hm])
    go_enter Try.func22, Try.ntmps22
    go_wp2_with (first | (go_at_call 10; refine (isPurchase_spec _ _ _ _ _ _ _ _).mono ?_; rintro e w1 ⟨rfl, h1⟩; have hz_w1_0 : w.heap.size < w1.heap.size := Nat.lt_of_lt_of_le (by first | (simp +arith; done) | (simp; omega) | omega) h1.le; have hb_w1_0 := fun o => h1.rules.1 w.heap.size o (by first | (simp +arith; done) | (simp; omega) | omega); have hf_w1_0 := fun o => h1.rules.2 w.heap.size o (by first | (simp +arith; done) | (simp; omega) | omega); (try simp [World.cell?_alloc_past, World.frozen?_alloc_past, Nat.lt_add_right] at hb_w1_0 hf_w1_0); have hz_w1_1 : (w.heap.size + 1) < w1.heap.size := Nat.lt_of_lt_of_le (by first | (simp +arith; done) | (simp; omega) | omega) h1.le; have hb_w1_1 := fun o => h1.rules.1 (w.heap.size + 1) o (by first | (simp +arith; done) | (simp; omega) | omega); have hf_w1_1 := fun o => h1.rules.2 (w.heap.size + 1) o (by first | (simp +arith; done) | (simp; omega) | omega); (try simp [World.cell?_alloc_past, World.frozen?_alloc_past, Nat.lt_add_right] at hb_w1_1 hf_w1_1)) | (go_at_call 26; refine (l1In_any _ _ _ _).mono ?_; rintro e w' ⟨rfl, rfl⟩))
    go_light
    refine bodyPost_ret (v := .tuple #[purV q p t r i d true, .int .i64 2]) (by simp [results, Try.results22, go_sem, hb_w1_0, hb_w1_1, hz_w1_0, hz_w1_1]) rfl ⟨by rw [HF.out], ?_⟩
    (repeat (with_reducible first | exact Grew.refl _ | assumption | apply Grew.alloc | apply Grew.drew | apply Grew.drewN | (refine Grew.setCell ?_ (by simp; try omega) _) | (refine Grew.trans ?_ (by assumption))))
end Go.Proofs.Ytjihfklhfldplaa
