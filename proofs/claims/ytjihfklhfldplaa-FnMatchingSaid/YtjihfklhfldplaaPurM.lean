/- What the functions on purchases answer: plain facts. Conditions: none. -/
import Derived.Test.YtjihfklhfldplaaPurC
namespace Go.Proofs.Ytjihfklhfldplaa
open Go.RowKit
set_option linter.unusedVariables false
set_option linter.unusedSimpArgs false

theorem ip_bound {i p : Int} (h0 : 0 ≤ i) (h1 : i ≤ 100000) (h2 : 0 ≤ p) (h3 : p ≤ 10000) : 0 ≤ i * p ∧ i * p ≤ 1000000000 := by
  refine ⟨Int.mul_nonneg h0 h2, ?_⟩
  have := Int.mul_le_mul (a := i) (b := p) (c := 100000) (d := 10000) h1 h3 h2 (by omega)
  omega
theorem ipt_bound {a s : Int} (h0 : 0 ≤ a) (h1 : a ≤ 1000000000) (h2 : 0 ≤ s) (h3 : s ≤ 200) : 0 ≤ a * s ∧ a * s ≤ 200000000000 := by
  refine ⟨Int.mul_nonneg h0 h2, ?_⟩
  have := Int.mul_le_mul (a := a) (b := s) (c := 1000000000) (d := 200) h1 h3 h2 (by omega)
  omega
theorem purB_iff {q p t r i d : Int} : purB q p t r i d = true ↔ (1 ≤ q ∧ q ≤ 100000 ∧ 0 ≤ p ∧ p ≤ 10000 ∧ 0 ≤ t ∧ t ≤ 100 ∧ 0 ≤ r ∧ r ≤ q ∧ 0 ≤ i ∧ i ≤ r ∧ 0 ≤ d ∧ d ≤ 2000000000) ∧ d * 100 ≤ i * p * (100 + t) := by
  constructor
  · intro h
    have hb := purB_bounds h
    refine ⟨hb, ?_⟩
    simp only [purB, Bool.and_eq_true, decide_eq_true_eq] at h
    have h1 := h.2
    have h2 := ip_bound (i := i) (p := p) (by omega) (by omega) (by omega) (by omega)
    have h3 := ipt_bound (a := i * p) (s := 100 + t) h2.1 h2.2 (by omega) (by omega)
    rw [IntWalk.wrap64_in (d * 100) ⟨by omega, by omega⟩, IntWalk.wrap64_in (i * p) ⟨by omega, by omega⟩, IntWalk.wrap64_in (100 + t) ⟨by omega, by omega⟩, IntWalk.wrap64_in _ ⟨by omega, by omega⟩] at h1
    exact h1
  · rintro ⟨hb, h1⟩
    have h2 := ip_bound (i := i) (p := p) (by omega) (by omega) (by omega) (by omega)
    have h3 := ipt_bound (a := i * p) (s := 100 + t) h2.1 h2.2 (by omega) (by omega)
    simp only [purB, Bool.and_eq_true, decide_eq_true_eq, inB_iff]
    rw [IntWalk.wrap64_in (d * 100) ⟨by omega, by omega⟩, IntWalk.wrap64_in (i * p) ⟨by omega, by omega⟩, IntWalk.wrap64_in (100 + t) ⟨by omega, by omega⟩, IntWalk.wrap64_in _ ⟨by omega, by omega⟩]
    exact ⟨⟨⟨⟨⟨⟨by omega, by omega⟩, by omega⟩, by omega⟩, by omega⟩, by omega⟩, h1⟩
theorem inv_bad {q p t r i d k m : Int} {c : Bool} (h : purB q p t r i d = false) : invF q p t r i d c k m = (i, d, 1) := by simp [invF, h]
theorem recv_bad {q p t r i d k : Int} {c : Bool} (h : purB q p t r i d = false) : recvF q p t r i d c k = (r, 1) := by simp [recvF, h]
theorem close_bad {q p t r i d : Int} {c : Bool} (h : purB q p t r i d = false) : closeF q p t r i d c = (c, 1) := by simp [closeF, h]
/-- An invoice is turned down, and nothing has changed; or it is accepted. -/
theorem inv_cases {q p t r i d k m : Int} {c : Bool} (h : purB q p t r i d = true) : (∃ b, b ≠ 0 ∧ invF q p t r i d c k m = (i, d, b)) ∨
    (invF q p t r i d c k m = (i + k, d + m, 0) ∧ c = false ∧ 1 ≤ k ∧ k ≤ 100000 ∧ 0 ≤ m ∧ m ≤ 2000000000 ∧ i + k ≤ r ∧ k * p * (100 - t) ≤ m * 100 ∧ m * 100 ≤ k * p * (100 + t)) := by
  cases h1 : inB k 1 100000
  · exact .inl ⟨1, by decide, by simp [invF, h1]⟩
  cases h2 : inB m 0 2000000000
  · exact .inl ⟨1, by decide, by simp [invF, h2]⟩
  cases c
  · by_cases h3 : r < i + k
    · exact .inl ⟨3, by decide, by simp [invF, h, h1, h2, h3]⟩
    · cases h4 : inB (m * 100) (k * p * (100 - t)) (k * p * (100 + t))
      · exact .inl ⟨4, by decide, by simp [invF, h, h1, h2, h3, h4]⟩
      · have e1 := inB_iff.1 h1
        have e2 := inB_iff.1 h2
        have e4 := inB_iff.1 h4
        exact .inr ⟨by simp [invF, h, h1, h2, h3, h4], rfl, e1.1, e1.2, e2.1, e2.2, by omega, e4.1, e4.2⟩
  · exact .inl ⟨2, by decide, by simp [invF, h, h1, h2]⟩
theorem recv_cases {q p t r i d k : Int} {c : Bool} (h : purB q p t r i d = true) : (∃ b, b ≠ 0 ∧ recvF q p t r i d c k = (r, b)) ∨ (recvF q p t r i d c k = (r + k, 0) ∧ purB q p t (r + k) i d = true) := by
  cases h1 : inB k 1 100000
  · exact .inl ⟨1, by decide, by simp [recvF, h1]⟩
  cases c
  · by_cases h3 : q < r + k
    · exact .inl ⟨3, by decide, by simp [recvF, h, h1, h3]⟩
    · have e1 := inB_iff.1 h1
      have e2 := purB_iff.1 h
      exact .inr ⟨by simp [recvF, h, h1, h3], purB_iff.2 ⟨by omega, e2.2⟩⟩
  · exact .inl ⟨2, by decide, by simp [recvF, h, h1]⟩
theorem close_cases {q p t r i d : Int} {c : Bool} (h : purB q p t r i d = true) : (∃ b, b ≠ 0 ∧ closeF q p t r i d c = (c, b)) ∨ (closeF q p t r i d c = (true, 0) ∧ c = false ∧ i = r) := by
  cases c
  · by_cases h3 : i < r
    · exact .inl ⟨3, by decide, by simp [closeF, h, h3]⟩
    · have e2 := purB_bounds h
      exact .inr ⟨by simp [closeF, h, h3], rfl, by omega⟩
  · exact .inl ⟨2, by decide, by simp [closeF, h]⟩
theorem inv_closed {q p t r i d : Int} (h : purB q p t r i d = true) : invF q p t r i d true 1 0 = (i, d, 2) := by
  have h1 : inB 1 1 100000 = true := by decide
  have h2 : inB 0 0 2000000000 = true := by decide
  simp [invF, h, h1, h2]
theorem recv_closed {q p t r i d : Int} (h : purB q p t r i d = true) : recvF q p t r i d true 1 = (r, 2) := by
  have h1 : inB 1 1 100000 = true := by decide
  simp [recvF, h, h1]
theorem gap_eq {q p t r i d : Int} (h : purB q p t r i d = true) : gapF q p t r i d = d - i * p := by
  have hb := purB_bounds h
  have h2 := ip_bound (i := i) (p := p) (by omega) (by omega) (by omega) (by omega)
  simp only [gapF, h, if_true]
  rw [IntWalk.wrap64_in (i * p) ⟨by omega, by omega⟩, IntWalk.wrap64_in _ ⟨by omega, by omega⟩]
/-- An accepted invoice: the purchase stays right, and the gap grows by no more than the tolerance. -/
theorem inv_ok {q p t r i d k m : Int} (h : purB q p t r i d = true) (h1 : 1 ≤ k) (h2 : k ≤ 100000) (h3 : 0 ≤ m) (h5 : i + k ≤ r) (h6 : k * p * (100 - t) ≤ m * 100) (h7 : m * 100 ≤ k * p * (100 + t)) :
    purB q p t r (i + k) (d + m) = true ∧ ∃ a b : Int, gapF q p t r (i + k) (d + m) = a ∧ gapF q p t r i d = b ∧ -3000000000 ≤ a ∧ a ≤ 3000000000 ∧ -3000000000 ≤ b ∧ b ≤ 3000000000 ∧ ¬ k * p * t < (a - b) * 100 ∧ ¬ k * p * t < -(a - b) * 100 ∧ 0 ≤ k * p ∧ k * p ≤ 1000000000 ∧ 0 ≤ k * p * t ∧ k * p * t ≤ 200000000000 := by
  obtain ⟨hb, hc⟩ := purB_iff.1 h
  have e1 : (i + k) * p * (100 + t) = i * p * (100 + t) + k * p * (100 + t) := by rw [Int.add_mul, Int.add_mul]
  have b1 := ip_bound (i := i + k) (p := p) (by omega) (by omega) (by omega) (by omega)
  have b2 := ipt_bound (a := (i + k) * p) (s := 100 + t) b1.1 b1.2 (by omega) (by omega)
  have b3 := ip_bound (i := k) (p := p) (by omega) (by omega) (by omega) (by omega)
  have b4 := ipt_bound (a := k * p) (s := t) b3.1 b3.2 (by omega) (by omega)
  have b5 := ip_bound (i := i) (p := p) (by omega) (by omega) (by omega) (by omega)
  have hp : purB q p t r (i + k) (d + m) = true := purB_iff.2 ⟨by omega, by rw [e1]; omega⟩
  refine ⟨hp, _, _, gap_eq hp, gap_eq h, ?_⟩
  have e2 : (i + k) * p = i * p + k * p := by rw [Int.add_mul]
  have e3 : k * p * (100 - t) = k * p * 100 - k * p * t := by rw [Int.mul_sub]
  have e4 : k * p * (100 + t) = k * p * 100 + k * p * t := by rw [Int.mul_add]
  rw [e2]
  rw [e3] at h6
  rw [e4] at h7
  have hd2 := (purB_iff.1 hp).1
  generalize i * p = ip at *
  generalize k * p * t = kpt at *
  generalize k * p = kp at *
  omega
theorem invG {q p t r i d k m i' d' b : Int} {c : Bool} (hv : invF q p t r i d c k m = (i', d', b)) (w : World) : Calls Try.prog 23 #[purV q p t r i d c, .int .i64 k, .int .i64 m] w fun e w' => e = .returned (.tuple #[purV q p t r i' d' c, .int .i64 b]) ∧ Grew w w' := by
  have := inv_impl q p t r i d c k m w
  rw [hv] at this
  exact this
theorem recvG {q p t r i d k r' b : Int} {c : Bool} (hv : recvF q p t r i d c k = (r', b)) (w : World) : Calls Try.prog 21 #[purV q p t r i d c, .int .i64 k] w fun e w' => e = .returned (.tuple #[purV q p t r' i d c, .int .i64 b]) ∧ Grew w w' := by
  have := recv_impl q p t r i d c k w
  rw [hv] at this
  exact this
theorem closeG {q p t r i d b : Int} {c c' : Bool} (hv : closeF q p t r i d c = (c', b)) (w : World) : Calls Try.prog 19 #[purV q p t r i d c] w fun e w' => e = .returned (.tuple #[purV q p t r i d c', .int .i64 b]) ∧ Grew w w' := by
  have := close_impl q p t r i d c w
  rw [hv] at this
  exact this
theorem gapG {q p t r i d a : Int} {c : Bool} (hv : gapF q p t r i d = a) (w : World) : Calls Try.prog 14 #[purV q p t r i d c] w fun e w' => e = .returned (.int .i64 a) ∧ Grew w w' := hv ▸ priceGap_impl q p t r i d c w
theorem isG {q p t r i d : Int} {c v : Bool} (hv : purB q p t r i d = v) (w : World) : Calls Try.prog 10 #[purV q p t r i d c] w fun e w' => e = .returned (.bool v) ∧ Grew w w' := hv ▸ isPurchase_spec q p t r i d c w
end Go.Proofs.Ytjihfklhfldplaa
