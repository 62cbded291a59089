/- Price breaks: PriceFor and BuyCost of the program and of the reference return what plain functions return. Conditions: none. -/
import Derived.Test.YtlaiemjeoceehaaBrkF
namespace Go.Proofs.Ytlaiemjeoceehaa
open Go.RowKit
set_option linter.unusedVariables false
set_option linter.unusedSimpArgs false

/-- The price at a quantity: of the last break that begins at or below it. -/
def priceTo (l : List Brk) (q : Int) : Nat → Int
  | 0 => 0
  | k + 1 => if (l.getD k brk0).f ≤ q then (l.getD k brk0).p else priceTo l q k
def priceF (l : List Brk) (q : Int) : Int × Bool :=
  if areB l && inB q 1 100000 then (priceTo l q l.length, true) else (0, false)
def costF (l : List Brk) (q : Int) : Int × Bool := (wrap64 ((priceF l q).1 * q), (priceF l q).2)

theorem areB_len {l : List Brk} (h : areB l = true) : 1 ≤ l.length ∧ l.length ≤ 6 := by
  simp only [areB, Bool.and_eq_true, inB_iff] at h
  omega
theorem areB_first {l : List Brk} (h : areB l = true) : (l.getD 0 brk0).f = 1 := by
  simp only [areB, Bool.and_eq_true, decide_eq_true_eq] at h
  exact h.2
theorem areB_at {l : List Brk} (h : areB l = true) {k : Nat} (hk : k < l.length) : 1 ≤ (l.getD k brk0).f ∧ (l.getD k brk0).f ≤ 100000 ∧ 0 ≤ (l.getD k brk0).p ∧ (l.getD k brk0).p ≤ 10000 := by
  simp only [areB, Bool.and_eq_true, allTo_iff] at h
  have := h.1.1 k hk
  simp only [brkOk, Bool.and_eq_true, inB_iff] at this
  omega

set_option maxHeartbeats 1000000 in
theorem priceFor_impl (l : List Brk) (A : Option Addr) (c : Nat) (q : Int) (w : World) (h : Rd Brk.E w A l) (hn : l.length ≤ 4194304) :
    Calls Try.prog 16 #[.slice A l.length c, .int .i64 q] w fun e w' => e = .returned (.tuple #[.int .i64 (priceF l q).1, .bool (priceF l q).2]) ∧ Grew w w' := by
  cases hb : areB l
  · have HF := Lib.hid (show priceF l q = (0, false) by simp [priceF, hb])
    go_enter Try.func16, Try.ntmps16
    go_wp2_with fail
    refine (areBreaks_impl l _ _ _ h hn).mono ?_; rintro e w1 ⟨rfl, h1⟩
    go_wp2_with fail
    go_ret2
    go_light
    exact ⟨by rw [HF.out]; rfl, h1⟩
  cases hq : inB q 1 100000
  · have HF := Lib.hid (show priceF l q = (0, false) by simp [priceF, hq])
    go_enter Try.func16, Try.ntmps16
    go_wp2_with fail
    refine (areBreaks_impl l _ _ _ h hn).mono ?_; rintro e w1 ⟨rfl, h1⟩
    go_wp2_with fail
    refine (in_any _ _ _ _).mono ?_; rintro e w2 ⟨rfl, rfl⟩
    go_wp2_with fail
    go_ret2
    go_light
    exact ⟨by rw [HF.out]; rfl, h1⟩
  have HF := Lib.hid (show priceF l q = (priceTo l q l.length, true) by simp [priceF, hb, hq])
  have HB := Lib.hid hb
  have HQ := Lib.hid (inB_iff.1 hq)
  have hl := areB_len hb
  have hl0 : (0 : Int) < (l.length : Int) := by omega
  obtain ⟨x0, hx0⟩ : ∃ x, l[0]? = some x := ⟨_, List.getElem?_eq_getElem (by omega)⟩
  obtain ⟨b, o, rfl, hbw, hc0⟩ := h.at_ (k := 0) (by omega)
  obtain ⟨ha0, ha1⟩ := Brk.at_ hc0 hx0
  simp only [Nat.zero_mul, Nat.add_zero] at ha0 ha1
  have HX0 := Lib.hid hx0
  have HC0 := Lib.hid hc0
  have HP1 : Hid (priceTo l q 1 = x0.p) := Lib.hid (by
    have h2 := areB_first hb
    have h3 : l.getD 0 brk0 = x0 := by rw [List.getD_eq_getElem?_getD, hx0]; rfl
    have h4 := (inB_iff.1 hq).1
    rw [h3] at h2
    simp only [priceTo, h3]
    rw [if_pos (by omega)])
  clear hx0 hc0
  go_enter Try.func16, Try.ntmps16
  go_wp2_with fail
  refine (areBreaks_impl l _ _ _ h hn).mono ?_; rintro e w1 ⟨rfl, h1⟩
  go_wp2_with fail
  refine (in_any _ _ _ _).mono ?_; rintro e w2 ⟨rfl, rfl⟩
  have hb0 := (h1.rules.1 b o hbw).trans ha0
  have hb1 := (h1.rules.1 b (o + 1) hbw).trans ha1
  go_wp2_with fail
  go_loopw [6, 19] (fun p i wr => ∃ k : Nat, 0 ≤ k ∧ k ≤ l.length ∧ i = .int .i64 k ∧ p = .int .i64 (priceTo l q k) ∧ Grew w wr) (fun _ i _ => l.length - (intOf i).toNat)
  case atStart => exact ⟨0, Nat.le_refl _, by omega, rfl, by first | rfl | rw [HP1.out], h1⟩
  case round =>
    obtain ⟨k, hk1, hk, rfl, rfl, hg⟩ := hrel
    have HG := Lib.hid hg
    by_cases hlt : k < l.length
    · obtain ⟨x, hx⟩ : ∃ x, l[k]? = some x := ⟨_, List.getElem?_eq_getElem hlt⟩
      obtain ⟨e0, e1⟩ := Brk.at_ HC0.out hx
      have f0 := (hg.rules.1 b _ hbw).trans e0
      have f1 := (hg.rules.1 b _ hbw).trans e1
      have HK := Lib.hid (show priceTo l q (k + 1) = if x.f ≤ q then x.p else priceTo l q k by simp [priceTo, List.getD_eq_getElem?_getD, hx])
      clear hx hg h h1 e0 e1 ha0 ha1 hb0 hb1
      by_cases hxq : x.f ≤ q
      all_goals
        go_wp2_with fail
        go_roundw
        case rel =>
          go_light
          exact ⟨k + 1, by omega, by omega, by go_num, by rw [HK.out]; first | rw [if_pos hxq] | rw [if_neg hxq], ((HG.out.alloc _))⟩
        case measure => go_light; simp [intOf]; omega
    · obtain rfl : k = l.length := by omega
      clear h h1 ha0 ha1 hb0 hb1
      go_wp2_with fail
      go_ret2
      go_light
      exact ⟨by rw [HF.out]; rfl, HG.out⟩

set_option maxHeartbeats 1000000 in
theorem buyCost_impl (l : List Brk) (A : Option Addr) (c : Nat) (q : Int) (w : World) (h : Rd Brk.E w A l) (hn : l.length ≤ 4194304) :
    Calls Try.prog 18 #[.slice A l.length c, .int .i64 q] w fun e w' => e = .returned (.tuple #[.int .i64 (costF l q).1, .bool (costF l q).2]) ∧ Grew w w' := by
  go_enter Try.func18, Try.ntmps18
  go_wp2_with fail
  refine (priceFor_impl l _ _ _ _ h hn).mono ?_; rintro e w1 ⟨rfl, h1⟩
  go_wp2_with fail
  go_ret2
  go_light
  exact ⟨rfl, h1⟩
set_option maxHeartbeats 1000000 in
theorem priceFor_spec (l : List Brk) (A : Option Addr) (c : Nat) (q : Int) (w : World) (h : Rd Brk.E w A l) (hn : l.length ≤ 4194304) :
    Calls Try.prog 15 #[.slice A l.length c, .int .i64 q] w fun e w' => e = .returned (.tuple #[.int .i64 (priceF l q).1, .bool (priceF l q).2]) ∧ Grew w w' := by
  cases hb : areB l
  · have HF := Lib.hid (show priceF l q = (0, false) by simp [priceF, hb])
    go_enter Try.func15, Try.ntmps15
    go_wp2_with fail
    refine (areBreaks_spec l _ _ _ h hn).mono ?_; rintro e w1 ⟨rfl, h1⟩
    go_wp2_with fail
    go_ret2
    go_light
    exact ⟨by rw [HF.out]; rfl, h1⟩
  cases hq : inB q 1 100000
  · have HF := Lib.hid (show priceF l q = (0, false) by simp [priceF, hq])
    go_enter Try.func15, Try.ntmps15
    go_wp2_with fail
    refine (areBreaks_spec l _ _ _ h hn).mono ?_; rintro e w1 ⟨rfl, h1⟩
    go_wp2_with fail
    refine (l1In_any _ _ _ _).mono ?_; rintro e w2 ⟨rfl, rfl⟩
    go_wp2_with fail
    go_ret2
    go_light
    exact ⟨by rw [HF.out]; rfl, h1⟩
  have HF := Lib.hid (show priceF l q = (priceTo l q l.length, true) by simp [priceF, hb, hq])
  have HB := Lib.hid hb
  have HQ := Lib.hid (inB_iff.1 hq)
  have hl := areB_len hb
  have hl0 : (0 : Int) < (l.length : Int) := by omega
  obtain ⟨x0, hx0⟩ : ∃ x, l[0]? = some x := ⟨_, List.getElem?_eq_getElem (by omega)⟩
  obtain ⟨b, o, rfl, hbw, hc0⟩ := h.at_ (k := 0) (by omega)
  obtain ⟨ha0, ha1⟩ := Brk.at_ hc0 hx0
  simp only [Nat.zero_mul, Nat.add_zero] at ha0 ha1
  have HX0 := Lib.hid hx0
  have HC0 := Lib.hid hc0
  have HP1 : Hid (priceTo l q 1 = x0.p) := Lib.hid (by
    have h2 := areB_first hb
    have h3 : l.getD 0 brk0 = x0 := by rw [List.getD_eq_getElem?_getD, hx0]; rfl
    have h4 := (inB_iff.1 hq).1
    rw [h3] at h2
    simp only [priceTo, h3]
    rw [if_pos (by omega)])
  clear hx0 hc0
  go_enter Try.func15, Try.ntmps15
  go_wp2_with fail
  refine (areBreaks_spec l _ _ _ h hn).mono ?_; rintro e w1 ⟨rfl, h1⟩
  go_wp2_with fail
  refine (l1In_any _ _ _ _).mono ?_; rintro e w2 ⟨rfl, rfl⟩
  have hb0 := (h1.rules.1 b o hbw).trans ha0
  have hb1 := (h1.rules.1 b (o + 1) hbw).trans ha1
  go_wp2_with fail
  go_loopw [6, 7] (fun p i wr => ∃ k : Nat, 1 ≤ k ∧ k ≤ l.length ∧ i = .int .i64 k ∧ p = .int .i64 (priceTo l q k) ∧ Grew w wr) (fun _ i _ => l.length - (intOf i).toNat)
  case atStart => exact ⟨1, Nat.le_refl _, by omega, rfl, by first | rfl | rw [HP1.out], h1⟩
  case round =>
    obtain ⟨k, hk1, hk, rfl, rfl, hg⟩ := hrel
    have HG := Lib.hid hg
    by_cases hlt : k < l.length
    · obtain ⟨x, hx⟩ : ∃ x, l[k]? = some x := ⟨_, List.getElem?_eq_getElem hlt⟩
      obtain ⟨e0, e1⟩ := Brk.at_ HC0.out hx
      have f0 := (hg.rules.1 b _ hbw).trans e0
      have f1 := (hg.rules.1 b _ hbw).trans e1
      have HK := Lib.hid (show priceTo l q (k + 1) = if x.f ≤ q then x.p else priceTo l q k by simp [priceTo, List.getD_eq_getElem?_getD, hx])
      clear hx hg h h1 e0 e1 ha0 ha1 hb0 hb1
      by_cases hxq : x.f ≤ q
      all_goals
        go_wp2_with fail
        go_roundw
        case rel =>
          go_light
          exact ⟨k + 1, by omega, by omega, by go_num, by rw [HK.out]; first | rw [if_pos hxq] | rw [if_neg hxq], (HG.out)⟩
        case measure => go_light; simp [intOf]; omega
    · obtain rfl : k = l.length := by omega
      clear h h1 ha0 ha1 hb0 hb1
      go_wp2_with fail
      go_ret2
      go_light
      exact ⟨by rw [HF.out]; rfl, HG.out⟩

set_option maxHeartbeats 1000000 in
theorem buyCost_spec (l : List Brk) (A : Option Addr) (c : Nat) (q : Int) (w : World) (h : Rd Brk.E w A l) (hn : l.length ≤ 4194304) :
    Calls Try.prog 17 #[.slice A l.length c, .int .i64 q] w fun e w' => e = .returned (.tuple #[.int .i64 (costF l q).1, .bool (costF l q).2]) ∧ Grew w w' := by
  go_enter Try.func17, Try.ntmps17
  go_wp2_with fail
  refine (priceFor_spec l _ _ _ _ h hn).mono ?_; rintro e w1 ⟨rfl, h1⟩
  go_wp2_with fail
  go_ret2
  go_light
  exact ⟨rfl, h1⟩
end Go.Proofs.Ytlaiemjeoceehaa
