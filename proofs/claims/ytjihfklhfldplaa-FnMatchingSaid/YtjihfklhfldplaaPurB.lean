/- Purchases: OrderGoods, ClosePurchase, ReceiveGoods, MatchInvoice of the program and of the reference return what plain functions return. Conditions: none. -/
import Derived.Test.YtjihfklhfldplaaPur
namespace Go.Proofs.Ytjihfklhfldplaa
open Go.RowKit
set_option linter.unusedVariables false
set_option linter.unusedSimpArgs false

def closeF (q p t r i d : Int) (c : Bool) : Bool × Int :=
  if purB q p t r i d then (if c then (c, 2) else if i < r then (c, 3) else (true, 0)) else (c, 1)
def recvF (q p t r i d : Int) (c : Bool) (k : Int) : Int × Int :=
  if purB q p t r i d && inB k 1 100000 then (if c then (r, 2) else if q < r + k then (r, 3) else (r + k, 0)) else (r, 1)
def invF (q p t r i d : Int) (c : Bool) (k m : Int) : Int × Int × Int :=
  if purB q p t r i d && inB k 1 100000 && inB m 0 2000000000 then
    (if c then (i, d, 2) else if r < i + k then (i, d, 3) else if inB (m * 100) (k * p * (100 - t)) (k * p * (100 + t)) then (i + k, d + m, 0) else (i, d, 4)) else (i, d, 1)


set_option maxHeartbeats 1000000 in
theorem close_impl (q p t r i d : Int) (c : Bool) (w : World) :
    Calls Try.prog 19 #[purV q p t r i d c] w fun e w' =>
      e = .returned (.tuple #[purV q p t r i d (closeF q p t r i d c).1, .int .i64 (closeF q p t r i d c).2]) ∧ Grew w w' := by
  cases hp : purB q p t r i d <;> cases c
  all_goals by_cases hi : i < r
  all_goals
    go_enter Try.func19, Try.ntmps19
    go_wp2_with (go_at_call 12; refine (isPurchase_impl _ _ _ _ _ _ _ _).mono ?_; rintro e w1 ⟨rfl, h1⟩; have hz_w1_0 : w.heap.size < w1.heap.size := Nat.lt_of_lt_of_le (by first | (simp +arith; done) | (simp; omega) | omega) h1.le; have hb_w1_0 := fun o => h1.rules.1 w.heap.size o (by first | (simp +arith; done) | (simp; omega) | omega); have hf_w1_0 := fun o => h1.rules.2 w.heap.size o (by first | (simp +arith; done) | (simp; omega) | omega); (try simp [World.cell?_alloc_past, World.frozen?_alloc_past, Nat.lt_add_right] at hb_w1_0 hf_w1_0); have hz_w1_1 : (w.heap.size + 1) < w1.heap.size := Nat.lt_of_lt_of_le (by first | (simp +arith; done) | (simp; omega) | omega) h1.le; have hb_w1_1 := fun o => h1.rules.1 (w.heap.size + 1) o (by first | (simp +arith; done) | (simp; omega) | omega); have hf_w1_1 := fun o => h1.rules.2 (w.heap.size + 1) o (by first | (simp +arith; done) | (simp; omega) | omega); (try simp [World.cell?_alloc_past, World.frozen?_alloc_past, Nat.lt_add_right] at hb_w1_1 hf_w1_1))
  all_goals go_light
  all_goals refine bodyPost_ret (v := .tuple #[purV q p t r i d (closeF q p t r i d _).1, .int .i64 (closeF q p t r i d _).2]) (by first | (simp [results, Try.results19, go_sem, hb_w1_0, hb_w1_1, hz_w1_0, hz_w1_1, closeF, hp, hi]; done) | (simp [results, Try.results19, go_sem, hb_w1_0, hb_w1_1, hz_w1_0, hz_w1_1, closeF, hp, Int.not_lt.2 hi]; done)) rfl ⟨rfl, ?_⟩
  all_goals (repeat (with_reducible first | exact Grew.refl _ | assumption | apply Grew.alloc | apply Grew.drew | apply Grew.drewN | (refine Grew.setCell ?_ (by simp; try omega) _) | (refine Grew.trans ?_ (by assumption))))

set_option maxHeartbeats 2000000 in
theorem recv_impl (q p t r i d : Int) (c : Bool) (k : Int) (w : World) :
    Calls Try.prog 21 #[purV q p t r i d c, .int .i64 k] w fun e w' =>
      e = .returned (.tuple #[purV q p t (recvF q p t r i d c k).1 i d c, .int .i64 (recvF q p t r i d c k).2]) ∧ Grew w w' := by
  cases hp : purB q p t r i d
  · have HF : Hid (recvF q p t r i d c k = (r, 1)) := Lib.hid (by simp [recvF, hp])
    go_enter Try.func21, Try.ntmps21
    go_wp2_with (go_at_call 12; refine (isPurchase_impl _ _ _ _ _ _ _ _).mono ?_; rintro e w1 ⟨rfl, h1⟩; have hz_w1_0 : w.heap.size < w1.heap.size := Nat.lt_of_lt_of_le (by first | (simp +arith; done) | (simp; omega) | omega) h1.le; have hb_w1_0 := fun o => h1.rules.1 w.heap.size o (by first | (simp +arith; done) | (simp; omega) | omega); have hf_w1_0 := fun o => h1.rules.2 w.heap.size o (by first | (simp +arith; done) | (simp; omega) | omega); (try simp [World.cell?_alloc_past, World.frozen?_alloc_past, Nat.lt_add_right] at hb_w1_0 hf_w1_0); have hz_w1_1 : (w.heap.size + 1) < w1.heap.size := Nat.lt_of_lt_of_le (by first | (simp +arith; done) | (simp; omega) | omega) h1.le; have hb_w1_1 := fun o => h1.rules.1 (w.heap.size + 1) o (by first | (simp +arith; done) | (simp; omega) | omega); have hf_w1_1 := fun o => h1.rules.2 (w.heap.size + 1) o (by first | (simp +arith; done) | (simp; omega) | omega); (try simp [World.cell?_alloc_past, World.frozen?_alloc_past, Nat.lt_add_right] at hb_w1_1 hf_w1_1))
    go_light
    refine bodyPost_ret (v := .tuple #[purV q p t r i d c, .int .i64 1]) (by simp [results, Try.results21, go_sem, hb_w1_0, hb_w1_1, hz_w1_0, hz_w1_1]) rfl ⟨by rw [HF.out], ?_⟩
    (repeat (with_reducible first | exact Grew.refl _ | assumption | apply Grew.alloc | apply Grew.drew | apply Grew.drewN | (refine Grew.setCell ?_ (by simp; try omega) _) | (refine Grew.trans ?_ (by assumption))))
  have hb := purB_bounds hp
  cases hk : inB k 1 100000
  · have HF : Hid (recvF q p t r i d c k = (r, 1)) := Lib.hid (by simp [recvF, hk])
    go_enter Try.func21, Try.ntmps21
    go_wp2_with (first | (go_at_call 12; refine (isPurchase_impl _ _ _ _ _ _ _ _).mono ?_; rintro e w1 ⟨rfl, h1⟩; have hz_w1_0 : w.heap.size < w1.heap.size := Nat.lt_of_lt_of_le (by first | (simp +arith; done) | (simp; omega) | omega) h1.le; have hb_w1_0 := fun o => h1.rules.1 w.heap.size o (by first | (simp +arith; done) | (simp; omega) | omega); have hf_w1_0 := fun o => h1.rules.2 w.heap.size o (by first | (simp +arith; done) | (simp; omega) | omega); (try simp [World.cell?_alloc_past, World.frozen?_alloc_past, Nat.lt_add_right] at hb_w1_0 hf_w1_0); have hz_w1_1 : (w.heap.size + 1) < w1.heap.size := Nat.lt_of_lt_of_le (by first | (simp +arith; done) | (simp; omega) | omega) h1.le; have hb_w1_1 := fun o => h1.rules.1 (w.heap.size + 1) o (by first | (simp +arith; done) | (simp; omega) | omega); have hf_w1_1 := fun o => h1.rules.2 (w.heap.size + 1) o (by first | (simp +arith; done) | (simp; omega) | omega); (try simp [World.cell?_alloc_past, World.frozen?_alloc_past, Nat.lt_add_right] at hb_w1_1 hf_w1_1)) | (go_at_call 27; refine (in_any _ _ _ _).mono ?_; rintro e w' ⟨rfl, rfl⟩))
    go_light
    refine bodyPost_ret (v := .tuple #[purV q p t r i d c, .int .i64 1]) (by simp [results, Try.results21, go_sem, hb_w1_0, hb_w1_1, hz_w1_0, hz_w1_1]) rfl ⟨by rw [HF.out], ?_⟩
    (repeat (with_reducible first | exact Grew.refl _ | assumption | apply Grew.alloc | apply Grew.drew | apply Grew.drewN | (refine Grew.setCell ?_ (by simp; try omega) _) | (refine Grew.trans ?_ (by assumption))))
  have hkb := inB_iff.1 hk
  cases c
  · by_cases hi : q < r + k
    · have HF : Hid (recvF q p t r i d false k = (r, 3)) := Lib.hid (by simp [recvF, hk, hp, hi])
      have hi2 : q - r < k := by omega
      go_enter Try.func21, Try.ntmps21
      go_wp2_with (first | (go_at_call 12; refine (isPurchase_impl _ _ _ _ _ _ _ _).mono ?_; rintro e w1 ⟨rfl, h1⟩; have hz_w1_0 : w.heap.size < w1.heap.size := Nat.lt_of_lt_of_le (by first | (simp +arith; done) | (simp; omega) | omega) h1.le; have hb_w1_0 := fun o => h1.rules.1 w.heap.size o (by first | (simp +arith; done) | (simp; omega) | omega); have hf_w1_0 := fun o => h1.rules.2 w.heap.size o (by first | (simp +arith; done) | (simp; omega) | omega); (try simp [World.cell?_alloc_past, World.frozen?_alloc_past, Nat.lt_add_right] at hb_w1_0 hf_w1_0); have hz_w1_1 : (w.heap.size + 1) < w1.heap.size := Nat.lt_of_lt_of_le (by first | (simp +arith; done) | (simp; omega) | omega) h1.le; have hb_w1_1 := fun o => h1.rules.1 (w.heap.size + 1) o (by first | (simp +arith; done) | (simp; omega) | omega); have hf_w1_1 := fun o => h1.rules.2 (w.heap.size + 1) o (by first | (simp +arith; done) | (simp; omega) | omega); (try simp [World.cell?_alloc_past, World.frozen?_alloc_past, Nat.lt_add_right] at hb_w1_1 hf_w1_1)) | (go_at_call 27; refine (in_any _ _ _ _).mono ?_; rintro e w' ⟨rfl, rfl⟩))
      go_light
      refine bodyPost_ret (v := .tuple #[purV q p t r i d false, .int .i64 3]) (by simp [results, Try.results21, go_sem, hb_w1_0, hb_w1_1, hz_w1_0, hz_w1_1]) rfl ⟨by rw [HF.out], ?_⟩
      (repeat (with_reducible first | exact Grew.refl _ | assumption | apply Grew.alloc | apply Grew.drew | apply Grew.drewN | (refine Grew.setCell ?_ (by simp; try omega) _) | (refine Grew.trans ?_ (by assumption))))
    · have HF : Hid (recvF q p t r i d false k = (r + k, 0)) := Lib.hid (by simp [recvF, hk, hp, hi])
      have hi2 : ¬ q - r < k := by omega
      go_enter Try.func21, Try.ntmps21
      go_wp2_with (first | (go_at_call 12; refine (isPurchase_impl _ _ _ _ _ _ _ _).mono ?_; rintro e w1 ⟨rfl, h1⟩; have hz_w1_0 : w.heap.size < w1.heap.size := Nat.lt_of_lt_of_le (by first | (simp +arith; done) | (simp; omega) | omega) h1.le; have hb_w1_0 := fun o => h1.rules.1 w.heap.size o (by first | (simp +arith; done) | (simp; omega) | omega); have hf_w1_0 := fun o => h1.rules.2 w.heap.size o (by first | (simp +arith; done) | (simp; omega) | omega); (try simp [World.cell?_alloc_past, World.frozen?_alloc_past, Nat.lt_add_right] at hb_w1_0 hf_w1_0); have hz_w1_1 : (w.heap.size + 1) < w1.heap.size := Nat.lt_of_lt_of_le (by first | (simp +arith; done) | (simp; omega) | omega) h1.le; have hb_w1_1 := fun o => h1.rules.1 (w.heap.size + 1) o (by first | (simp +arith; done) | (simp; omega) | omega); have hf_w1_1 := fun o => h1.rules.2 (w.heap.size + 1) o (by first | (simp +arith; done) | (simp; omega) | omega); (try simp [World.cell?_alloc_past, World.frozen?_alloc_past, Nat.lt_add_right] at hb_w1_1 hf_w1_1)) | (go_at_call 27; refine (in_any _ _ _ _).mono ?_; rintro e w' ⟨rfl, rfl⟩))
      go_light
      refine bodyPost_ret (v := .tuple #[purV q p t (r + k) i d false, .int .i64 0]) (by simp [results, Try.results21, go_sem, hb_w1_0, hb_w1_1, hz_w1_0, hz_w1_1]) rfl ⟨by rw [HF.out], ?_⟩
      (repeat (with_reducible first | exact Grew.refl _ | assumption | apply Grew.alloc | apply Grew.drew | apply Grew.drewN | (refine Grew.setCell ?_ (by simp; try omega) _) | (refine Grew.trans ?_ (by assumption))))
  · have HF : Hid (recvF q p t r i d true k = (r, 2)) := Lib.hid (by simp [recvF, hk, hp])
    go_enter Try.func21, Try.ntmps21
    go_wp2_with (first | (go_at_call 12; refine (isPurchase_impl _ _ _ _ _ _ _ _).mono ?_; rintro e w1 ⟨rfl, h1⟩; have hz_w1_0 : w.heap.size < w1.heap.size := Nat.lt_of_lt_of_le (by first | (simp +arith; done) | (simp; omega) | omega) h1.le; have hb_w1_0 := fun o => h1.rules.1 w.heap.size o (by first | (simp +arith; done) | (simp; omega) | omega); have hf_w1_0 := fun o => h1.rules.2 w.heap.size o (by first | (simp +arith; done) | (simp; omega) | omega); (try simp [World.cell?_alloc_past, World.frozen?_alloc_past, Nat.lt_add_right] at hb_w1_0 hf_w1_0); have hz_w1_1 : (w.heap.size + 1) < w1.heap.size := Nat.lt_of_lt_of_le (by first | (simp +arith; done) | (simp; omega) | omega) h1.le; have hb_w1_1 := fun o => h1.rules.1 (w.heap.size + 1) o (by first | (simp +arith; done) | (simp; omega) | omega); have hf_w1_1 := fun o => h1.rules.2 (w.heap.size + 1) o (by first | (simp +arith; done) | (simp; omega) | omega); (try simp [World.cell?_alloc_past, World.frozen?_alloc_past, Nat.lt_add_right] at hb_w1_1 hf_w1_1)) | (go_at_call 27; refine (in_any _ _ _ _).mono ?_; rintro e w' ⟨rfl, rfl⟩))
    go_light
    refine bodyPost_ret (v := .tuple #[purV q p t r i d true, .int .i64 2]) (by simp [results, Try.results21, go_sem, hb_w1_0, hb_w1_1, hz_w1_0, hz_w1_1]) rfl ⟨by rw [HF.out], ?_⟩
    (repeat (with_reducible first | exact Grew.refl _ | assumption | apply Grew.alloc | apply Grew.drew | apply Grew.drewN | (refine Grew.setCell ?_ (by simp; try omega) _) | (refine Grew.trans ?_ (by assumption))))

set_option maxHeartbeats 1000000 in
theorem close_spec (q p t r i d : Int) (c : Bool) (w : World) :
    Calls Try.prog 18 #[purV q p t r i d c] w fun e w' =>
      e = .returned (.tuple #[purV q p t r i d (closeF q p t r i d c).1, .int .i64 (closeF q p t r i d c).2]) ∧ Grew w w' := by
  cases hp : purB q p t r i d <;> cases c
  all_goals by_cases hi : i < r
  all_goals
    go_enter Try.func18, Try.ntmps18
    go_wp2_with (go_at_call 10; refine (isPurchase_spec _ _ _ _ _ _ _ _).mono ?_; rintro e w1 ⟨rfl, h1⟩; have hz_w1_0 : w.heap.size < w1.heap.size := Nat.lt_of_lt_of_le (by first | (simp +arith; done) | (simp; omega) | omega) h1.le; have hb_w1_0 := fun o => h1.rules.1 w.heap.size o (by first | (simp +arith; done) | (simp; omega) | omega); have hf_w1_0 := fun o => h1.rules.2 w.heap.size o (by first | (simp +arith; done) | (simp; omega) | omega); (try simp [World.cell?_alloc_past, World.frozen?_alloc_past, Nat.lt_add_right] at hb_w1_0 hf_w1_0); have hz_w1_1 : (w.heap.size + 1) < w1.heap.size := Nat.lt_of_lt_of_le (by first | (simp +arith; done) | (simp; omega) | omega) h1.le; have hb_w1_1 := fun o => h1.rules.1 (w.heap.size + 1) o (by first | (simp +arith; done) | (simp; omega) | omega); have hf_w1_1 := fun o => h1.rules.2 (w.heap.size + 1) o (by first | (simp +arith; done) | (simp; omega) | omega); (try simp [World.cell?_alloc_past, World.frozen?_alloc_past, Nat.lt_add_right] at hb_w1_1 hf_w1_1))
  all_goals go_light
  all_goals refine bodyPost_ret (v := .tuple #[purV q p t r i d (closeF q p t r i d _).1, .int .i64 (closeF q p t r i d _).2]) (by first | (simp [results, Try.results18, go_sem, hb_w1_0, hb_w1_1, hz_w1_0, hz_w1_1, closeF, hp, hi]; done) | (simp [results, Try.results18, go_sem, hb_w1_0, hb_w1_1, hz_w1_0, hz_w1_1, closeF, hp, Int.not_lt.2 hi]; done)) rfl ⟨rfl, ?_⟩
  all_goals (repeat (with_reducible first | exact Grew.refl _ | assumption | apply Grew.alloc | apply Grew.drew | apply Grew.drewN | (refine Grew.setCell ?_ (by simp; try omega) _) | (refine Grew.trans ?_ (by assumption))))

set_option maxHeartbeats 2000000 in
theorem recv_spec (q p t r i d : Int) (c : Bool) (k : Int) (w : World) :
    Calls Try.prog 20 #[purV q p t r i d c, .int .i64 k] w fun e w' =>
      e = .returned (.tuple #[purV q p t (recvF q p t r i d c k).1 i d c, .int .i64 (recvF q p t r i d c k).2]) ∧ Grew w w' := by
  cases hp : purB q p t r i d
  · have HF : Hid (recvF q p t r i d c k = (r, 1)) := Lib.hid (by simp [recvF, hp])
    go_enter Try.func20, Try.ntmps20
    go_wp2_with (go_at_call 10; refine (isPurchase_spec _ _ _ _ _ _ _ _).mono ?_; rintro e w1 ⟨rfl, h1⟩; have hz_w1_0 : w.heap.size < w1.heap.size := Nat.lt_of_lt_of_le (by first | (simp +arith; done) | (simp; omega) | omega) h1.le; have hb_w1_0 := fun o => h1.rules.1 w.heap.size o (by first | (simp +arith; done) | (simp; omega) | omega); have hf_w1_0 := fun o => h1.rules.2 w.heap.size o (by first | (simp +arith; done) | (simp; omega) | omega); (try simp [World.cell?_alloc_past, World.frozen?_alloc_past, Nat.lt_add_right] at hb_w1_0 hf_w1_0); have hz_w1_1 : (w.heap.size + 1) < w1.heap.size := Nat.lt_of_lt_of_le (by first | (simp +arith; done) | (simp; omega) | omega) h1.le; have hb_w1_1 := fun o => h1.rules.1 (w.heap.size + 1) o (by first | (simp +arith; done) | (simp; omega) | omega); have hf_w1_1 := fun o => h1.rules.2 (w.heap.size + 1) o (by first | (simp +arith; done) | (simp; omega) | omega); (try simp [World.cell?_alloc_past, World.frozen?_alloc_past, Nat.lt_add_right] at hb_w1_1 hf_w1_1))
    go_light
    refine bodyPost_ret (v := .tuple #[purV q p t r i d c, .int .i64 1]) (by simp [results, Try.results20, go_sem, hb_w1_0, hb_w1_1, hz_w1_0, hz_w1_1]) rfl ⟨by rw [HF.out], ?_⟩
    (repeat (with_reducible first | exact Grew.refl _ | assumption | apply Grew.alloc | apply Grew.drew | apply Grew.drewN | (refine Grew.setCell ?_ (by simp; try omega) _) | (refine Grew.trans ?_ (by assumption))))
  have hb := purB_bounds hp
  cases hk : inB k 1 100000
  · have HF : Hid (recvF q p t r i d c k = (r, 1)) := Lib.hid (by simp [recvF, hk])
    go_enter Try.func20, Try.ntmps20
    go_wp2_with (first | (go_at_call 10; refine (isPurchase_spec _ _ _ _ _ _ _ _).mono ?_; rintro e w1 ⟨rfl, h1⟩; have hz_w1_0 : w.heap.size < w1.heap.size := Nat.lt_of_lt_of_le (by first | (simp +arith; done) | (simp; omega) | omega) h1.le; have hb_w1_0 := fun o => h1.rules.1 w.heap.size o (by first | (simp +arith; done) | (simp; omega) | omega); have hf_w1_0 := fun o => h1.rules.2 w.heap.size o (by first | (simp +arith; done) | (simp; omega) | omega); (try simp [World.cell?_alloc_past, World.frozen?_alloc_past, Nat.lt_add_right] at hb_w1_0 hf_w1_0); have hz_w1_1 : (w.heap.size + 1) < w1.heap.size := Nat.lt_of_lt_of_le (by first | (simp +arith; done) | (simp; omega) | omega) h1.le; have hb_w1_1 := fun o => h1.rules.1 (w.heap.size + 1) o (by first | (simp +arith; done) | (simp; omega) | omega); have hf_w1_1 := fun o => h1.rules.2 (w.heap.size + 1) o (by first | (simp +arith; done) | (simp; omega) | omega); (try simp [World.cell?_alloc_past, World.frozen?_alloc_past, Nat.lt_add_right] at hb_w1_1 hf_w1_1)) | (go_at_call 26; refine (l1In_any _ _ _ _).mono ?_; rintro e w' ⟨rfl, rfl⟩))
    go_light
    refine bodyPost_ret (v := .tuple #[purV q p t r i d c, .int .i64 1]) (by simp [results, Try.results20, go_sem, hb_w1_0, hb_w1_1, hz_w1_0, hz_w1_1]) rfl ⟨by rw [HF.out], ?_⟩
    (repeat (with_reducible first | exact Grew.refl _ | assumption | apply Grew.alloc | apply Grew.drew | apply Grew.drewN | (refine Grew.setCell ?_ (by simp; try omega) _) | (refine Grew.trans ?_ (by assumption))))
  have hkb := inB_iff.1 hk
  cases c
  · by_cases hi : q < r + k
    · have HF : Hid (recvF q p t r i d false k = (r, 3)) := Lib.hid (by simp [recvF, hk, hp, hi])
      have hi2 : q - r < k := by omega
      go_enter Try.func20, Try.ntmps20
      go_wp2_with (first | (go_at_call 10; refine (isPurchase_spec _ _ _ _ _ _ _ _).mono ?_; rintro e w1 ⟨rfl, h1⟩; have hz_w1_0 : w.heap.size < w1.heap.size := Nat.lt_of_lt_of_le (by first | (simp +arith; done) | (simp; omega) | omega) h1.le; have hb_w1_0 := fun o => h1.rules.1 w.heap.size o (by first | (simp +arith; done) | (simp; omega) | omega); have hf_w1_0 := fun o => h1.rules.2 w.heap.size o (by first | (simp +arith; done) | (simp; omega) | omega); (try simp [World.cell?_alloc_past, World.frozen?_alloc_past, Nat.lt_add_right] at hb_w1_0 hf_w1_0); have hz_w1_1 : (w.heap.size + 1) < w1.heap.size := Nat.lt_of_lt_of_le (by first | (simp +arith; done) | (simp; omega) | omega) h1.le; have hb_w1_1 := fun o => h1.rules.1 (w.heap.size + 1) o (by first | (simp +arith; done) | (simp; omega) | omega); have hf_w1_1 := fun o => h1.rules.2 (w.heap.size + 1) o (by first | (simp +arith; done) | (simp; omega) | omega); (try simp [World.cell?_alloc_past, World.frozen?_alloc_past, Nat.lt_add_right] at hb_w1_1 hf_w1_1)) | (go_at_call 26; refine (l1In_any _ _ _ _).mono ?_; rintro e w' ⟨rfl, rfl⟩))
      go_light
      refine bodyPost_ret (v := .tuple #[purV q p t r i d false, .int .i64 3]) (by simp [results, Try.results20, go_sem, hb_w1_0, hb_w1_1, hz_w1_0, hz_w1_1]) rfl ⟨by rw [HF.out], ?_⟩
      (repeat (with_reducible first | exact Grew.refl _ | assumption | apply Grew.alloc | apply Grew.drew | apply Grew.drewN | (refine Grew.setCell ?_ (by simp; try omega) _) | (refine Grew.trans ?_ (by assumption))))
    · have HF : Hid (recvF q p t r i d false k = (r + k, 0)) := Lib.hid (by simp [recvF, hk, hp, hi])
      have hi2 : ¬ q - r < k := by omega
      go_enter Try.func20, Try.ntmps20
      go_wp2_with (first | (go_at_call 10; refine (isPurchase_spec _ _ _ _ _ _ _ _).mono ?_; rintro e w1 ⟨rfl, h1⟩; have hz_w1_0 : w.heap.size < w1.heap.size := Nat.lt_of_lt_of_le (by first | (simp +arith; done) | (simp; omega) | omega) h1.le; have hb_w1_0 := fun o => h1.rules.1 w.heap.size o (by first | (simp +arith; done) | (simp; omega) | omega); have hf_w1_0 := fun o => h1.rules.2 w.heap.size o (by first | (simp +arith; done) | (simp; omega) | omega); (try simp [World.cell?_alloc_past, World.frozen?_alloc_past, Nat.lt_add_right] at hb_w1_0 hf_w1_0); have hz_w1_1 : (w.heap.size + 1) < w1.heap.size := Nat.lt_of_lt_of_le (by first | (simp +arith; done) | (simp; omega) | omega) h1.le; have hb_w1_1 := fun o => h1.rules.1 (w.heap.size + 1) o (by first | (simp +arith; done) | (simp; omega) | omega); have hf_w1_1 := fun o => h1.rules.2 (w.heap.size + 1) o (by first | (simp +arith; done) | (simp; omega) | omega); (try simp [World.cell?_alloc_past, World.frozen?_alloc_past, Nat.lt_add_right] at hb_w1_1 hf_w1_1)) | (go_at_call 26; refine (l1In_any _ _ _ _).mono ?_; rintro e w' ⟨rfl, rfl⟩))
      go_light
      refine bodyPost_ret (v := .tuple #[purV q p t (r + k) i d false, .int .i64 0]) (by simp [results, Try.results20, go_sem, hb_w1_0, hb_w1_1, hz_w1_0, hz_w1_1]) rfl ⟨by rw [HF.out], ?_⟩
      (repeat (with_reducible first | exact Grew.refl _ | assumption | apply Grew.alloc | apply Grew.drew | apply Grew.drewN | (refine Grew.setCell ?_ (by simp; try omega) _) | (refine Grew.trans ?_ (by assumption))))
  · have HF : Hid (recvF q p t r i d true k = (r, 2)) := Lib.hid (by simp [recvF, hk, hp])
    go_enter Try.func20, Try.ntmps20
    go_wp2_with (first | (go_at_call 10; refine (isPurchase_spec _ _ _ _ _ _ _ _).mono ?_; rintro e w1 ⟨rfl, h1⟩; have hz_w1_0 : w.heap.size < w1.heap.size := Nat.lt_of_lt_of_le (by first | (simp +arith; done) | (simp; omega) | omega) h1.le; have hb_w1_0 := fun o => h1.rules.1 w.heap.size o (by first | (simp +arith; done) | (simp; omega) | omega); have hf_w1_0 := fun o => h1.rules.2 w.heap.size o (by first | (simp +arith; done) | (simp; omega) | omega); (try simp [World.cell?_alloc_past, World.frozen?_alloc_past, Nat.lt_add_right] at hb_w1_0 hf_w1_0); have hz_w1_1 : (w.heap.size + 1) < w1.heap.size := Nat.lt_of_lt_of_le (by first | (simp +arith; done) | (simp; omega) | omega) h1.le; have hb_w1_1 := fun o => h1.rules.1 (w.heap.size + 1) o (by first | (simp +arith; done) | (simp; omega) | omega); have hf_w1_1 := fun o => h1.rules.2 (w.heap.size + 1) o (by first | (simp +arith; done) | (simp; omega) | omega); (try simp [World.cell?_alloc_past, World.frozen?_alloc_past, Nat.lt_add_right] at hb_w1_1 hf_w1_1)) | (go_at_call 26; refine (l1In_any _ _ _ _).mono ?_; rintro e w' ⟨rfl, rfl⟩))
    go_light
    refine bodyPost_ret (v := .tuple #[purV q p t r i d true, .int .i64 2]) (by simp [results, Try.results20, go_sem, hb_w1_0, hb_w1_1, hz_w1_0, hz_w1_1]) rfl ⟨by rw [HF.out], ?_⟩
    (repeat (with_reducible first | exact Grew.refl _ | assumption | apply Grew.alloc | apply Grew.drew | apply Grew.drewN | (refine Grew.setCell ?_ (by simp; try omega) _) | (refine Grew.trans ?_ (by assumption))))
end Go.Proofs.Ytjihfklhfldplaa
