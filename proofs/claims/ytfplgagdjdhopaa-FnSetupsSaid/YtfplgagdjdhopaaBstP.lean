/- The best order by sets of families is the one that the search through all orders finds. Conditions: none. -/
import Derived.Test.YtfplgagdjdhopaaBstI
namespace Go.Proofs.Ytfplgagdjdhopaa
open Go.RowKit Go.ChangeShapes Go.WideShapes Go.Deep
set_option linter.unusedVariables false
set_option linter.unusedSimpArgs false

theorem tb_sub {l k : Nat} (h : l.testBit k = true) (j : Nat) : (l - 2 ^ k).testBit j = (l.testBit j && decide (j ≠ k)) := by
  have hp : 0 < 2 ^ k := Nat.two_pow_pos k
  have h1 : (l / 2 ^ k) % 2 = 1 := by simpa [Nat.testBit_eq_decide_div_mod_eq] using h
  obtain ⟨a, ha⟩ : ∃ a, l / 2 ^ k = 2 * a + 1 := ⟨l / 2 ^ k / 2, by omega⟩
  have hr : l % 2 ^ k < 2 ^ k := Nat.mod_lt _ hp
  have e1 : l = 2 ^ k * (2 * a + 1) + l % 2 ^ k := by
    have := Nat.div_add_mod l (2 ^ k)
    rw [ha] at this
    exact this.symm
  have e2 : l - 2 ^ k = 2 ^ k * (2 * a) + l % 2 ^ k := by rw [Nat.mul_add] at e1; omega
  rw [e2, Nat.testBit_two_pow_mul_add _ hr]
  conv => rhs; rw [e1]
  rw [Nat.testBit_two_pow_mul_add _ hr]
  by_cases hj : j < k
  · rw [if_pos hj, if_pos hj]
    have : decide (j ≠ k) = true := decide_eq_true (by omega)
    rw [this, Bool.and_true]
  · rw [if_neg hj, if_neg hj]
    rcases Nat.eq_or_lt_of_not_lt hj with e | e
    · subst e
      simp
    · obtain ⟨i, hi⟩ : ∃ i, j - k = i + 1 := ⟨j - k - 1, by omega⟩
      have : decide (j ≠ k) = true := decide_eq_true (by omega)
      rw [hi, Nat.testBit_succ, Nat.testBit_succ, this, Bool.and_true]
      congr 1
      omega
theorem tb_le {l k : Nat} (h : l.testBit k = true) : 2 ^ k ≤ l := Nat.ge_two_pow_of_testBit h

/-- The least value among the first k that are in; -1 if there is none. -/
def fm (has : Nat → Bool) (g : Nat → Int) : Nat → Int
  | 0 => -1
  | k + 1 => if has k = false then fm has g k else if fm has g k < 0 ∨ g k < fm has g k then g k else fm has g k
def ag (has : Nat → Bool) (g : Nat → Int) : Nat → Nat
  | 0 => 0
  | k + 1 => if has k = false then ag has g k else if fm has g k < 0 ∨ g k < fm has g k then k else ag has g k
theorem fm_congr {has : Nat → Bool} {g g' : Nat → Int} : ∀ {k : Nat}, (∀ j, j < k → has j = true → g j = g' j) → fm has g k = fm has g' k
  | 0, _ => rfl
  | k + 1, h => by
    have ih := fm_congr (k := k) (fun j hj => h j (by omega))
    simp only [fm, ih]
    cases hk : has k
    · rfl
    · rw [h k (by omega) hk]
theorem fm_ok {has : Nat → Bool} {g : Nat → Int} (hg : ∀ j, has j = true → 0 ≤ g j) : ∀ k, (-1 ≤ fm has g k) ∧
    (fm has g k < 0 → ∀ j, j < k → has j = false) ∧ (0 ≤ fm has g k → ag has g k < k ∧ has (ag has g k) = true ∧ g (ag has g k) = fm has g k ∧ (∀ j, j < k → has j = true → fm has g k ≤ g j) ∧ ∀ j, j < ag has g k → has j = true → fm has g k < g j)
  | 0 => ⟨by simp [fm], fun _ j hj => by omega, fun h => by simp [fm] at h⟩
  | k + 1 => by
    obtain ⟨h1, h2, h3⟩ := fm_ok hg k
    simp only [fm, ag]
    cases hk : has k
    · simp only [if_true]
      refine ⟨h1, fun h j hj => ?_, fun h => ?_⟩
      · rcases Nat.lt_succ_iff_lt_or_eq.1 hj with h4 | rfl
        · exact h2 h j h4
        · exact hk
      · obtain ⟨a1, a2, a3, a4, a5⟩ := h3 h
        refine ⟨by omega, a2, a3, fun j hj hh => ?_, a5⟩
        rcases Nat.lt_succ_iff_lt_or_eq.1 hj with h4 | rfl
        · exact a4 j h4 hh
        · rw [hk] at hh; cases hh
    · have h0 := hg k hk
      simp only [Bool.true_eq_false, if_false]
      split
      · rename_i hc
        refine ⟨by omega, fun h => by omega, fun _ => ⟨by omega, hk, rfl, fun j hj hh => ?_, fun j hj hh => ?_⟩⟩
        · rcases Nat.lt_succ_iff_lt_or_eq.1 hj with h4 | rfl
          · rcases hc with hc | hc
            · rw [h2 hc j h4] at hh; cases hh
            · by_cases hp : fm has g k < 0
              · rw [h2 hp j h4] at hh; cases hh
              · have := (h3 (by omega)).2.2.2.1 j h4 hh; omega
          · exact Int.le_refl _
        · rcases hc with hc | hc
          · rw [h2 hc j hj] at hh; cases hh
          · by_cases hp : fm has g k < 0
            · rw [h2 hp j hj] at hh; cases hh
            · have := (h3 (by omega)).2.2.2.1 j hj hh; omega
      · rename_i hc
        have hp : 0 ≤ fm has g k := by omega
        obtain ⟨a1, a2, a3, a4, a5⟩ := h3 hp
        refine ⟨h1, fun h => by omega, fun _ => ⟨by omega, a2, a3, fun j hj hh => ?_, a5⟩⟩
        rcases Nat.lt_succ_iff_lt_or_eq.1 hj with h4 | rfl
        · exact a4 j h4 hh
        · omega

/-- The fewest minutes for the families in left, behind at. -/
def dp (L : List (List Int)) (n : Nat) : Nat → Nat → Nat → Int
  | 0, _, _ => 0
  | f + 1, at_, left => if left = 0 then 0 else fm left.testBit (fun k => cellF L at_ k + dp L n f k (left - 2 ^ k)) n
theorem dp_fuel (L : List (List Int)) (n : Nat) : ∀ (f f' a l : Nat), l ≤ f → l ≤ f' → dp L n f a l = dp L n f' a l
  | 0, 0, _, _, _, _ => rfl
  | 0, f' + 1, a, l, h, _ => by
    obtain rfl : l = 0 := by omega
    simp [dp]
  | f + 1, 0, a, l, _, h => by
    obtain rfl : l = 0 := by omega
    simp [dp]
  | f + 1, f' + 1, a, l, h1, h2 => by
    simp only [dp]
    split
    · rfl
    · refine fm_congr fun j _ hj => ?_
      have hp := tb_le hj
      have hq : 0 < 2 ^ j := Nat.two_pow_pos j
      rw [dp_fuel L n f f' j (l - 2 ^ j) (by omega) (by omega)]
def dD (L : List (List Int)) (n a l : Nat) : Int := dp L n l a l
def gD (L : List (List Int)) (n a l : Nat) : Nat → Int := fun k => cellF L a k + dD L n k (l - 2 ^ k)
theorem dD_zero (L : List (List Int)) (n a : Nat) : dD L n a 0 = 0 := rfl
theorem dD_eq (L : List (List Int)) (n a : Nat) {l : Nat} (hl : 0 < l) : dD L n a l = fm l.testBit (gD L n a l) n := by
  obtain ⟨m, rfl⟩ : ∃ m, l = m + 1 := ⟨l - 1, by omega⟩
  unfold dD
  simp only [dp]
  rw [if_neg (by omega)]
  refine fm_congr fun j _ hj => ?_
  have hp := tb_le hj
  have hq : 0 < 2 ^ j := Nat.two_pow_pos j
  unfold gD dD
  rw [dp_fuel L n m (m + 1 - 2 ^ j) j _ (by omega) (by omega)]
/-- The first order with the fewest minutes. -/
def pth (L : List (List Int)) (n : Nat) : Nat → Nat → Nat → List Int
  | 0, _, _ => []
  | f + 1, a, l => if l = 0 then [] else (ag l.testBit (gD L n a l) n : Int) :: pth L n f (ag l.testBit (gD L n a l) n) (l - 2 ^ (ag l.testBit (gD L n a l) n))

theorem cell_ok {L : List (List Int)} {n : Nat} (hs : setB L = true) (hL : L.length = n + 1) {a k : Nat} (ha : a ≤ n) (hk : k < n) : 0 ≤ cellF L a k ∧ cellF L a k ≤ 1000 := by
  have := ((setB_at hs).2.2 a (by omega)).2 k (by omega)
  simpa [cellF] using this
theorem bit_ex {l : Nat} (h : 0 < l) : ∃ k, l.testBit k = true := by
  obtain ⟨k, hk⟩ := Nat.exists_testBit_of_ne_zero (x := l) (by omega)
  exact ⟨k, hk⟩
theorem dD_ok {L : List (List Int)} {n : Nat} (hs : setB L = true) (hL : L.length = n + 1) : ∀ (m l a : Nat), l ≤ m → (∀ k, l.testBit k = true → k < n) → a ≤ n → 0 ≤ dD L n a l
  | 0, l, a, h, _, _ => by
    obtain rfl : l = 0 := by omega
    exact Int.le_refl _
  | m + 1, l, a, h, hb, ha => by
    by_cases h0 : l = 0
    · subst h0; exact Int.le_refl _
    · have hg : ∀ j, l.testBit j = true → 0 ≤ gD L n a l j := fun j hj => by
        have h1 := (cell_ok hs hL ha (hb j hj)).1
        have hp := tb_le hj
        have hq : 0 < 2 ^ j := Nat.two_pow_pos j
        have h2 := dD_ok hs hL m (l - 2 ^ j) j (by omega) (fun k hk => hb k (by rw [tb_sub hj] at hk; simp at hk; exact hk.1)) (by have := hb j hj; omega)
        unfold gD
        omega
      rw [dD_eq L n a (by omega)]
      obtain ⟨k, hk⟩ := bit_ex (l := l) (by omega)
      obtain ⟨h1, h2, _⟩ := fm_ok hg n
      by_cases hf : fm l.testBit (gD L n a l) n < 0
      · rw [h2 hf k (hb k hk)] at hk; cases hk
      · omega
theorem fr_app {L : List (List Int)} {b : List Int} {x : Int} : ∀ {k : Nat}, k ≤ b.length → fr L (b ++ [x]) k = fr L b k
  | 0, _ => rfl
  | k + 1, h => by simp only [fr, List.getD_eq_getElem?_getD]; rw [List.getElem?_append_left (by omega)]
theorem sm_app {L : List (List Int)} {b : List Int} {x : Int} : ∀ {k : Nat}, k ≤ b.length → sm L (b ++ [x]) k = sm L b k
  | 0, _ => rfl
  | k + 1, h => by simp only [sm]; rw [sm_app (by omega), fr_app (by omega), List.getD_eq_getElem?_getD, List.getElem?_append_left (by omega), ← List.getD_eq_getElem?_getD]
theorem sm_snoc (L : List (List Int)) (b : List Int) (x : Int) : sm L (b ++ [x]) (b.length + 1) = sm L b b.length + cellF L (fr L b b.length) x := by
  simp only [sm]
  rw [sm_app (Nat.le_refl _), fr_app (Nat.le_refl _), List.getD_eq_getElem?_getD, List.getElem?_append_right (Nat.le_refl _)]
  simp
theorem fr_snoc (L : List (List Int)) (b : List Int) (x : Int) : fr L (b ++ [x]) (b.length + 1) = x := by
  simp only [fr]
  rw [List.getD_eq_getElem?_getD, List.getElem?_append_right (Nat.le_refl _)]
  simp
/-- b are different families of n; the others are in l. -/
structure Lf (n : Nat) (b : List Int) (l : Nat) : Prop where
  bit : ∀ k : Nat, l.testBit k = (decide (k < n) && !b.contains (k : Int))
  nd : b.Nodup
  rng : ∀ x ∈ b, 0 ≤ x ∧ x < (n : Int)
theorem Lf.lt {n : Nat} {b : List Int} {l : Nat} (h : Lf n b l) {k : Nat} (hk : l.testBit k = true) : k < n ∧ b.contains (k : Int) = false := by
  rw [h.bit] at hk
  simpa using hk
theorem Lf.step {n : Nat} {b : List Int} {l k : Nat} (h : Lf n b l) (hk : l.testBit k = true) : Lf n (b ++ [(k : Int)]) (l - 2 ^ k) := by
  have h1 := h.lt hk
  refine ⟨fun j => ?_, ?_, fun x hx => ?_⟩
  · rw [tb_sub hk, h.bit]
    by_cases e : j = k
    · subst e; simp
    · have e2 : (j : Int) ≠ (k : Int) := by omega
      simp [e, e2]
  · rw [List.nodup_append]
    refine ⟨h.nd, by simp, fun a ha c hc e => ?_⟩
    obtain rfl : c = (k : Int) := by simpa using hc
    subst e
    have := h1.2
    simp at this
    exact this ha
  · rcases List.mem_append.1 hx with hx | hx
    · exact h.rng x hx
    · obtain rfl : x = (k : Int) := by simpa using hx
      omega
theorem Lf.done {n : Nat} {b : List Int} {l : Nat} (h : Lf n b l) (hb : b.length = n) : l = 0 ∧ ordB b (n : Int) = true := by
  have hin : ∀ x, 0 ≤ x ∧ x < (n : Int) → x ∈ (List.range n).map (fun (i : Nat) => (i : Int)) := fun x hx => by
    rw [List.mem_map]
    exact ⟨x.toNat, by rw [List.mem_range]; omega, by omega⟩
  refine ⟨?_, ?_⟩
  · by_cases h0 : l = 0
    · exact h0
    · obtain ⟨k, hk⟩ := bit_ex (l := l) (by omega)
      have h1 := h.step hk
      have h2 := nodup_len h1.nd (fun x hx => hin x (h1.rng x hx))
      simp at h2
      omega
  · simp only [ordB, Bool.and_eq_true, decide_eq_true_eq, allTo_iff]
    refine ⟨by omega, fun i hi => ?_⟩
    have hx : b.getD i 0 = b[i] := by rw [List.getD_eq_getElem?_getD, List.getElem?_eq_getElem hi]; rfl
    have h1 := h.rng b[i] (List.getElem_mem hi)
    simp only [ordOk, Bool.and_eq_true, inB_iff, hx]
    refine ⟨by omega, ?_⟩
    simp only [Bool.not_eq_true', List.contains_eq_mem, decide_eq_false_iff_not]
    intro hm
    obtain ⟨j, hj, hj2⟩ := mem_take.1 hm
    have hjl : j < b.length := by omega
    rw [List.getElem?_eq_getElem hjl] at hj2
    have := (List.getElem_inj h.nd).1 (Option.some.inj hj2)
    omega
theorem Lf.more {n : Nat} {b : List Int} {l : Nat} (h : Lf n b l) (hb : b.length < n) : 0 < l := by
  rcases Nat.eq_zero_or_pos l with rfl | h0
  · have h1 : ((List.range n).map (fun (i : Nat) => (i : Int))).Nodup := by
      rw [List.nodup_iff_pairwise_ne, List.pairwise_map]
      exact List.nodup_range.imp (fun hne e => hne (by omega))
    have h2 := nodup_len (m := b) h1 (fun x hx => by
      obtain ⟨i, hi, rfl⟩ := List.mem_map.1 hx
      have h3 := h.bit i
      rw [List.mem_range] at hi
      simp [hi] at h3
      exact h3)
    simp at h2
    omega
  · exact h0

theorem srch_eq {L : List (List Int)} {n : Nat} (hs : setB L = true) (hL : L.length = n + 1) : ∀ (f : Nat) (b : List Int) (l a : Nat) (st : List Int × Int), b.length + f = n → Lf n b l → fr L b b.length = (a : Int) → a ≤ n → 0 ≤ sm L b b.length →
    srch L n f b st = if st.2 < 0 ∨ sm L b b.length + dD L n a l < st.2 then (b ++ pth L n f a l, sm L b b.length + dD L n a l) else st
  | 0, b, l, a, st, hf, hl, ha, han, hc0 => by
    obtain ⟨rfl, ho⟩ := hl.done (by omega)
    have e : setupF L b = (sm L b b.length, true) := by
      have : okS L b = true := by simp only [okS, hs, Bool.true_and]; rw [show (L.length : Int) - 1 = (n : Int) by omega]; exact ho
      simp [setupF, this]
    simp only [srch, leafF, e, dD_zero, Int.add_zero, pth, List.append_nil]
  | f + 1, b, l, a, st, hf, hl, ha, han, hc0 => by
    obtain ⟨c, hc⟩ : ∃ c, sm L b b.length = c := ⟨_, rfl⟩
    rw [hc] at hc0
    have hg : ∀ j, l.testBit j = true → 0 ≤ gD L n a l j := fun j hj => by
      have h1 := (cell_ok hs hL han (hl.lt hj).1).1
      have h2 := dD_ok hs hL (l - 2 ^ j) (l - 2 ^ j) j (Nat.le_refl _) (fun k hk => (hl.lt (by rw [tb_sub hj] at hk; simp at hk; exact hk.1)).1) (by have := (hl.lt hj).1; omega)
      unfold gD
      omega
    have key : ∀ k, k ≤ n → srK L n f b st k = if fm l.testBit (gD L n a l) k < 0 then st else if st.2 < 0 ∨ c + fm l.testBit (gD L n a l) k < st.2 then
        (b ++ (ag l.testBit (gD L n a l) k : Int) :: pth L n f (ag l.testBit (gD L n a l) k) (l - 2 ^ (ag l.testBit (gD L n a l) k)), c + fm l.testBit (gD L n a l) k) else st := by
      intro k
      induction k with
      | zero => intro _; simp [srK, fm]
      | succ k ih =>
        intro hk
        have ih := ih (by omega)
        rw [srK_succ]
        have hbit := hl.bit k
        rw [decide_eq_true (by omega : k < n), Bool.true_and] at hbit
        simp only [fm, ag]
        rcases (Bool.eq_false_or_eq_true (l.testBit k)).symm with hb | hb
        · rw [hb] at hbit
          have hbc : b.contains (k : Int) = true := by simpa using hbit.symm
          rw [if_pos hbc, ih]
          simp only [hb, if_true]
        · rw [hb] at hbit
          have hbc : ¬ b.contains (k : Int) = true := by simpa using hbit.symm
          rw [if_neg hbc]
          have hgk := hg k hb
          have hst := hl.step hb
          have e1 := srch_eq hs hL f (b ++ [(k : Int)]) (l - 2 ^ k) k (srK L n f b st k) (by simp; omega) hst (by simp only [List.length_append, List.length_cons, List.length_nil, Nat.zero_add]; exact fr_snoc L b k) (by omega) (by simp only [List.length_append, List.length_cons, List.length_nil, Nat.zero_add]; rw [sm_snoc, ha, hc]; have := (cell_ok hs hL han (hl.lt hb).1).1; omega)
          have e2 : sm L (b ++ [(k : Int)]) (b ++ [(k : Int)]).length + dD L n k (l - 2 ^ k) = c + gD L n a l k := by
            simp only [List.length_append, List.length_cons, List.length_nil, Nat.zero_add]
            rw [sm_snoc, ha, hc]
            unfold gD
            omega
          rw [e2] at e1
          rw [e1, ih]
          simp only [hb, Bool.true_eq_false, if_false, List.append_assoc, List.cons_append, List.nil_append]
          obtain ⟨h1, h2, h3⟩ := fm_ok hg k
          by_cases hm : fm l.testBit (gD L n a l) k < 0
          · simp only [hm, if_true, true_or]
            rw [if_neg (by omega : ¬ gD L n a l k < 0)]
          · simp only [hm, if_false, false_or]
            by_cases hlt : gD L n a l k < fm l.testBit (gD L n a l) k
            · simp only [hlt, if_true]
              rw [if_neg (by omega : ¬ gD L n a l k < 0)]
              by_cases hst2 : st.2 < 0 ∨ c + fm l.testBit (gD L n a l) k < st.2
              · rw [if_pos hst2]
                simp only
                rw [if_pos (by omega), if_pos (by omega)]
              · rw [if_neg hst2]
            · simp only [hlt, if_false]
              rw [if_neg hm]
              by_cases hst2 : st.2 < 0 ∨ c + fm l.testBit (gD L n a l) k < st.2
              · rw [if_pos hst2]
                simp only
                rw [if_neg (by omega)]
              · rw [if_neg hst2, if_neg (by omega)]
    have hfin := key n (Nat.le_refl _)
    have hl0 : 0 < l := hl.more (by omega)
    rw [show srch L n (f + 1) b st = srK L n f b st n from rfl, hfin, hc, dD_eq L n a hl0]
    obtain ⟨h1, h2, h3⟩ := fm_ok hg n
    obtain ⟨k, hk⟩ := bit_ex hl0
    have hm : ¬ fm l.testBit (gD L n a l) n < 0 := fun hm => by rw [h2 hm k (hl.lt hk).1] at hk; cases hk
    rw [if_neg hm]
    simp only [pth]
    rw [if_neg (by omega : ¬ l = 0)]

theorem best_eq {L : List (List Int)} {n : Nat} (hs : setB L = true) (hL : L.length = n + 1) : bestF L = (pth L n n n (2 ^ n - 1), dD L n n (2 ^ n - 1), true) := by
  have hl : Lf n [] (2 ^ n - 1) := ⟨fun k => by rw [Nat.testBit_two_pow_sub_one]; simp, by simp, by simp⟩
  have h := srch_eq hs hL n [] (2 ^ n - 1) n ([], -1) (by simp) hl (by simp only [List.length_nil, fr]; omega) (Nat.le_refl _) (by simp [sm])
  rw [if_pos (.inl (by decide))] at h
  simp only [bestF, hs, if_true, hL, Nat.add_sub_cancel, h, List.length_nil, sm, List.nil_append, Int.zero_add]
/-- No order has fewer minutes than the best one, which is an order with so many. -/
theorem best_least {L : List (List Int)} {n : Nat} (hs : setB L = true) (hL : L.length = n + 1) : ∀ (f : Nat) (b o : List Int) (l a : Nat), b.length + f = n → Lf n b l → fr L b b.length = (a : Int) → a ≤ n → Lf n (b ++ o) 0 → sm L b b.length + dD L n a l ≤ sm L (b ++ o) (b ++ o).length
  | 0, b, o, l, a, hf, hl, ha, han, ho => by
    obtain ⟨rfl, _⟩ := hl.done (by omega)
    have : (b ++ o).length ≤ n := by
      have h2 := nodup_len (m := (List.range n).map (fun (i : Nat) => (i : Int))) ho.nd (fun x hx => by
        have := ho.rng x hx
        rw [List.mem_map]
        exact ⟨x.toNat, by rw [List.mem_range]; omega, by omega⟩)
      simpa using h2
    rw [List.length_append] at this
    have : o = [] := List.eq_nil_of_length_eq_zero (by omega)
    subst this
    rw [List.append_nil, dD_zero]
    omega
  | f + 1, b, o, l, a, hf, hl, ha, han, ho => by
    have hl0 : 0 < l := hl.more (by omega)
    match o, ho with
    | [], ho => 
      rw [List.append_nil] at ho
      exact absurd (ho.more (by omega)) (by omega)
    | x :: o, ho =>
      have hx := ho.rng x (by simp)
      obtain ⟨k, rfl⟩ := Int.eq_ofNat_of_zero_le hx.1
      have hbit : l.testBit k = true := by
        have h1 : b.contains (k : Int) = false := by
          have := (List.nodup_append.1 ho.nd).2.2
          simp only [List.contains_eq_mem, decide_eq_false_iff_not]
          exact fun hm => this _ hm (k : Int) (by simp) rfl
        rw [hl.bit, h1, decide_eq_true (by omega : k < n)]
        rfl
      have hst := hl.step hbit
      have ih := best_least hs hL f (b ++ [(k : Int)]) o (l - 2 ^ k) k (by simp; omega) hst (by simp only [List.length_append, List.length_cons, List.length_nil, Nat.zero_add]; exact fr_snoc L b k) (by omega) (by simpa using ho)
      have e1 : sm L (b ++ [(k : Int)]) (b ++ [(k : Int)]).length = sm L b b.length + cellF L a k := by
        simp only [List.length_append, List.length_cons, List.length_nil, Nat.zero_add]
        rw [sm_snoc, ha]
      rw [e1] at ih
      have hg : ∀ j, l.testBit j = true → 0 ≤ gD L n a l j := fun j hj => by
        have h1 := (cell_ok hs hL han (hl.lt hj).1).1
        have h2 := dD_ok hs hL (l - 2 ^ j) (l - 2 ^ j) j (Nat.le_refl _) (fun k hk => (hl.lt (by rw [tb_sub hj] at hk; simp at hk; exact hk.1)).1) (by have := (hl.lt hj).1; omega)
        unfold gD
        omega
      obtain ⟨h1, h2, h3⟩ := fm_ok hg n
      have hm : ¬ fm l.testBit (gD L n a l) n < 0 := fun hm => by rw [h2 hm k (hl.lt hbit).1] at hbit; cases hbit
      have h4 := (h3 (by omega)).2.2.2.1 k (hl.lt hbit).1 hbit
      rw [dD_eq L n a hl0]
      have e2 : b ++ (k : Int) :: o = b ++ [(k : Int)] ++ o := by simp
      rw [e2]
      unfold gD at h4 ⊢
      omega
end Go.Proofs.Ytfplgagdjdhopaa
