/- Holdings changed at one place: the program's way and the reference's way give the same list. Conditions: none. -/
import Derived.Test.YtfbfhccgohmeiaaChg
import Derived.Test.YtfbfhccgohmeiaaLess
namespace Go.Proofs.Ytfbfhccgohmeiaa
open Go.RowKit
set_option linter.unusedVariables false
set_option linter.unusedSimpArgs false

theorem befH_trans {x y z : Hold} (h : befH x y = true) (k : befH y z = true) : befH x z = true := by
  unfold befH lessB at *
  by_cases h1 : x.it.toList = y.it.toList <;> by_cases h2 : y.it.toList = z.it.toList
  · rw [if_pos h1] at h
    rw [if_pos h2] at k
    rw [if_pos (h1.trans h2)]
    by_cases h3 : x.ba.toList = y.ba.toList <;> by_cases h4 : y.ba.toList = z.ba.toList
    · rw [if_pos h3] at h
      rw [if_pos h4] at k
      rw [if_pos (h3.trans h4)]
      exact bl_trans h k
    · rw [if_neg h4] at k
      rw [if_neg (by rw [h3]; exact h4), h3]
      exact k
    · rw [if_neg h3] at h
      rw [if_neg (by rw [← h4]; exact h3), ← h4]
      exact h
    · rw [if_neg h3] at h
      rw [if_neg h4] at k
      have h5 := bl_trans h k
      rw [if_neg (fun e => by rw [e, bl_irrefl] at h5; cases h5)]
      exact h5
  · rw [if_neg h2] at k
    rw [if_neg (by rw [h1]; exact h2), h1]
    exact k
  · rw [if_neg h1] at h
    rw [if_neg (by rw [← h2]; exact h1), ← h2]
    exact h
  · rw [if_neg h1] at h
    rw [if_neg h2] at k
    have h5 := bl_trans h k
    rw [if_neg (fun e => by rw [e, bl_irrefl] at h5; cases h5)]
    exact h5
theorem befH_irrefl (x : Hold) : befH x x = false := by simp [befH, lessB, bl_irrefl]
theorem befH_asymm {x y : Hold} (h : befH x y = true) : befH y x = false := by
  cases k : befH y x
  · rfl
  · have := befH_trans h k
    rw [befH_irrefl] at this
    cases this
theorem sameH_iff {x y : Hold} : sameH x y = true ↔ y.it = x.it ∧ y.ba = x.ba ∧ y.pl = x.pl := by
  simp [sameH, matchH, ba_inj, and_assoc]
theorem befH_tri {x y : Hold} (h : befH x y = false) (k : befH y x = false) : sameH x y = true := by
  unfold befH lessB at *
  by_cases h1 : x.it.toList = y.it.toList
  · rw [if_pos h1] at h
    rw [if_pos h1.symm] at k
    by_cases h2 : x.ba.toList = y.ba.toList
    · rw [if_pos h2] at h
      rw [if_pos h2.symm] at k
      exact sameH_iff.2 ⟨(ba_inj.1 h1).symm, (ba_inj.1 h2).symm, (ba_inj.1 (bl_tri h k)).symm⟩
    · rw [if_neg h2] at h
      rw [if_neg (fun e => h2 e.symm)] at k
      exact absurd (bl_tri h k) h2
  · rw [if_neg h1] at h
    rw [if_neg (fun e => h1 e.symm)] at k
    exact absurd (bl_tri h k) h1
theorem sameH_bef {x y : Hold} (h : sameH x y = true) : befH x y = false ∧ befH y x = false := by
  obtain ⟨h1, h2, h3⟩ := sameH_iff.1 h
  unfold befH lessB
  rw [h1, h2, h3]
  simp [bl_irrefl]

/-- Ascending, and each quantity is positive. -/
def Asc (l : List Hold) : Prop := l.Pairwise (fun a b => befH a b = true) ∧ ∀ y ∈ l, 0 < y.q
theorem Asc.tail {y : Hold} {l : List Hold} (h : Asc (y :: l)) : Asc l := ⟨(List.pairwise_cons.1 h.1).2, fun z hz => h.2 z (List.mem_cons_of_mem _ hz)⟩
theorem Asc.head {y : Hold} {l : List Hold} (h : Asc (y :: l)) : ∀ z ∈ l, befH y z = true := (List.pairwise_cons.1 h.1).1

def chgR (x : Hold) : Bool → List Hold → List Hold
  | p, [] => if p then [] else [x]
  | p, y :: t => (if !p && befH x y then [x] else []) ++ (if 0 < (if sameH x y then y.q + x.q else y.q) then [⟨y.it, y.ba, y.pl, if sameH x y then y.q + x.q else y.q⟩] else []) ++ chgR x (p || befH x y || sameH x y) t
theorem chg_fold (x : Hold) : ∀ (l : List Hold) (s : List Hold × Bool), (l.foldl (chgStep x) s).1 ++ (if (l.foldl (chgStep x) s).2 then [] else [x]) = s.1 ++ chgR x s.2 l
  | [], s => rfl
  | y :: t, s => by
    rw [List.foldl_cons, chg_fold x t]
    simp only [chgStep, chgR, List.append_assoc]
theorem chgF_eq (x : Hold) (l : List Hold) : chgF x l = chgR x false l := by
  have := chg_fold x l ([], false)
  simp only [List.nil_append] at this
  rw [← this]
  simp [chgF, chgTo]
theorem chgR_rest {x : Hold} : ∀ {l : List Hold}, Asc l → (∀ y ∈ l, befH x y = true) → chgR x true l = l
  | [], _, _ => rfl
  | y :: t, h, hx => by
    have h1 := hx y (List.mem_cons_self ..)
    have h2 : sameH x y = false := by
      cases k : sameH x y
      · rfl
      · rw [(sameH_bef k).1] at h1; cases h1
    have h3 := h.2 y (List.mem_cons_self ..)
    simp only [chgR, h2, h1, Bool.not_true, Bool.false_and, Bool.true_or, Bool.false_eq_true, if_false, List.nil_append]
    rw [if_pos h3, chgR_rest h.tail (fun z hz => hx z (List.mem_cons_of_mem _ hz))]
    rfl
def putR (x : Hold) : List Hold → List Hold
  | [] => insH x
  | y :: t => if befH y x then y :: putR x t else if befH x y then insH x ++ y :: t else insH ⟨x.it, x.ba, x.pl, x.q + y.q⟩ ++ t
theorem putF_eq (x : Hold) : ∀ l, putF x l = putR x l
  | [] => rfl
  | y :: t => by
    have ih := putF_eq x t
    unfold putF at ih ⊢
    by_cases h : befH y x = true
    · have e : firstN (fun y => befH y x) (y :: t) = firstN (fun y => befH y x) t + 1 := by simp [firstN, List.takeWhile_cons, h]
      rw [e]
      simp only [List.take_succ_cons, List.getElem?_cons_succ, List.drop_succ_cons, List.cons_append, putR, h, if_true]
      rw [ih]
    · have e : firstN (fun y => befH y x) (y :: t) = 0 := by simp [firstN, List.takeWhile_cons, h]
      rw [e]
      simp only [List.take_zero, List.getElem?_cons_zero, List.drop_zero, List.drop_succ_cons, List.nil_append, putR]
      rw [if_neg h]
/-- Nothing is put into the place outside. -/
theorem putR_outside {x : Hold} (hx : x.pl.toList = []) : ∀ {l : List Hold}, (∀ y ∈ l, y.pl.toList ≠ []) → putR x l = l
  | [], _ => by simp [putR, insH, hx]
  | y :: t, h => by
    have ih := putR_outside hx (l := t) (fun z hz => h z (List.mem_cons_of_mem _ hz))
    simp only [putR]
    split
    · rw [ih]
    · split
      · simp [insH, hx]
      · rename_i h1 h2
        have h3 := befH_tri (x := x) (y := y) (by simpa using h2) (by simpa using h1)
        have h4 := (sameH_iff.1 h3).2.2
        exact absurd (by rw [h4, hx]) (h y (List.mem_cons_self ..))
theorem chg_put {x : Hold} (hp : x.pl.toList ≠ []) : ∀ {l : List Hold}, Asc l → (∀ y ∈ l, sameH x y = true → 0 ≤ y.q + x.q) → ((∃ y ∈ l, sameH x y = true) ∨ 0 < x.q) → chgR x false l = putR x l
  | [], _, _, h => by
    have : 0 < x.q := by
      rcases h with ⟨y, hy, _⟩ | h
      · simp at hy
      · exact h
    have e : insH x = [x] := by simp only [insH]; rw [if_pos ⟨by omega, hp⟩]
    simp [chgR, putR, e]
  | y :: t, ha, hs, hm => by
    have hy := ha.2 y (List.mem_cons_self ..)
    by_cases h1 : befH y x = true
    · have h2 := befH_asymm h1
      have h3 : sameH x y = false := by
        cases k : sameH x y
        · rfl
        · rw [(sameH_bef k).2] at h1; cases h1
      have ih := chg_put hp ha.tail (fun z hz => hs z (List.mem_cons_of_mem _ hz)) (by
        rcases hm with ⟨z, hz, hzs⟩ | h
        · rcases List.mem_cons.1 hz with rfl | hz
          · rw [h3] at hzs; cases hzs
          · exact .inl ⟨z, hz, hzs⟩
        · exact .inr h)
      simp only [chgR, putR, h1, h2, h3, if_true, Bool.not_false, Bool.true_and, Bool.or_false, Bool.false_eq_true, if_false, List.nil_append]
      rw [if_pos hy, ih]
      rfl
    · have h1' : befH y x = false := by simpa using h1
      by_cases h2 : befH x y = true
      · have h3 : sameH x y = false := by
          cases k : sameH x y
          · rfl
          · rw [(sameH_bef k).1] at h2; cases h2
        have h4 : 0 < x.q := by
          rcases hm with ⟨z, hz, hzs⟩ | h
          · rcases List.mem_cons.1 hz with rfl | hz
            · rw [h3] at hzs; cases hzs
            · have := befH_trans h2 (ha.head z hz)
              rw [(sameH_bef hzs).1] at this
              cases this
          · exact h
        simp only [chgR, putR, h1', h2, h3, if_true, Bool.not_false, Bool.true_and, Bool.or_true, Bool.true_or, Bool.false_eq_true, if_false, insH]
        rw [if_pos hy, if_pos ⟨by omega, hp⟩, chgR_rest ha.tail (fun z hz => befH_trans h2 (ha.head z hz))]
        rfl
      · have h2' : befH x y = false := by simpa using h2
        have h3 := befH_tri h2' h1'
        have h5 := hs y (List.mem_cons_self ..) h3
        obtain ⟨e1, e2, e3⟩ := sameH_iff.1 h3
        have h6 : chgR x true t = t := chgR_rest ha.tail (fun z hz => by
          have := ha.head z hz
          unfold befH at this ⊢
          rwa [e1, e2, e3] at this)
        simp only [chgR, putR, h1', h2', h3, if_true, Bool.not_false, Bool.true_and, Bool.or_true, Bool.false_eq_true, if_false, List.nil_append, insH, h6]
        rw [e1, e2, e3, Int.add_comm x.q y.q]
        by_cases h7 : 0 < y.q + x.q
        · rw [if_pos h7, if_pos ⟨by omega, hp⟩]
        · rw [if_neg h7, if_neg (fun h => h.1 (by omega))]
/-- What is put in stays in order. -/
theorem putR_mem {x : Hold} : ∀ {l : List Hold} {z : Hold}, z ∈ putR x l → z ∈ l ∨ (z.it = x.it ∧ z.ba = x.ba ∧ z.pl = x.pl)
  | [], z, h => by
    simp only [putR, insH] at h
    split at h
    · right; obtain rfl : z = x := by simpa using h
      exact ⟨rfl, rfl, rfl⟩
    · simp at h
  | y :: t, z, h => by
    simp only [putR] at h
    split at h
    · rcases List.mem_cons.1 h with rfl | h
      · exact .inl (List.mem_cons_self ..)
      · rcases putR_mem h with h | h
        · exact .inl (List.mem_cons_of_mem _ h)
        · exact .inr h
    · split at h
      · rcases List.mem_append.1 h with h | h
        · simp only [insH] at h
          split at h
          · right; obtain rfl : z = x := by simpa using h
            exact ⟨rfl, rfl, rfl⟩
          · simp at h
        · exact .inl h
      · rcases List.mem_append.1 h with h | h
        · simp only [insH] at h
          split at h
          · right; obtain rfl : z = _ := by simpa using h
            exact ⟨rfl, rfl, rfl⟩
          · simp at h
        · exact .inl (List.mem_cons_of_mem _ h)
theorem areH_ok {l : List Hold} (h : areH l = true) {i : Nat} {y : Hold} (hy : l[i]? = some y) : codeB y.it = true ∧ codeB y.ba = true ∧ codeB y.pl = true ∧ 1 ≤ y.q ∧ y.q ≤ 1000000000 ∧ ∀ z, 0 < i → l[i - 1]? = some z → befH z y = true := by
  simp only [areH, Bool.and_eq_true, allTo_iff] at h
  have h1 := h.1 i (List.getElem?_eq_some_iff.1 hy).1
  simp only [holdOk, List.getD_eq_getElem?_getD, hy, Option.getD_some, Bool.and_eq_true, inB_iff] at h1
  obtain ⟨⟨⟨⟨a1, a2⟩, a3⟩, a4⟩, a5⟩ := h1
  refine ⟨a1, a2, a3, a4.1, a4.2, fun z hi hz => ?_⟩
  rw [if_neg (by omega), hz] at a5
  exact a5
theorem areH_len {l : List Hold} (h : areH l = true) : l.length ≤ 60 := by
  simp only [areH, Bool.and_eq_true, decide_eq_true_eq] at h
  omega
theorem codeB_ne {s : ByteArray} (h : codeB s = true) : s.toList ≠ [] := fun e => by
  have h1 : s.size = 0 := by
    rw [ByteArray.toList_eq] at e
    have : s.data = #[] := Array.toList_eq_nil_iff.1 e
    show s.data.size = 0
    rw [this]; rfl
  rw [codeB_empty h1] at h
  cases h
theorem areH_asc {l : List Hold} (h : areH l = true) : Asc l := by
  have key : ∀ (j i : Nat) (a b : Hold), i < j → l[i]? = some a → l[j]? = some b → befH a b = true := by
    intro j
    induction j with
    | zero => intro i a b hi; omega
    | succ j ih =>
      intro i a b hi ha hb
      obtain ⟨c, hc⟩ : ∃ c, l[j]? = some c := ⟨_, List.getElem?_eq_getElem (by have := (List.getElem?_eq_some_iff.1 hb).1; omega)⟩
      have h1 := (areH_ok h hb).2.2.2.2.2 c (by omega) hc
      rcases Nat.lt_succ_iff_lt_or_eq.1 hi with h2 | rfl
      · exact befH_trans (ih i a c h2 ha hc) h1
      · rw [ha] at hc
        obtain rfl : a = c := by simpa using hc
        exact h1
  refine ⟨List.pairwise_iff_getElem.2 fun i j hi hj hij => key j i _ _ hij (List.getElem?_eq_getElem hi) (List.getElem?_eq_getElem hj), fun y hy => ?_⟩
  obtain ⟨i, hi⟩ := List.mem_iff_getElem?.1 hy
  have := (areH_ok h hi).2.2.2.1
  omega
theorem areH_mem {l : List Hold} (h : areH l = true) {y : Hold} (hy : y ∈ l) : y.pl.toList ≠ [] ∧ 1 ≤ y.q ∧ y.q ≤ 1000000000 := by
  obtain ⟨i, hi⟩ := List.mem_iff_getElem?.1 hy
  have := areH_ok h hi
  exact ⟨codeB_ne this.2.2.1, this.2.2.2.1, this.2.2.2.2.1⟩
theorem firstQ_asc {it ba pl : ByteArray} : ∀ {l : List Hold}, Asc l → ∀ y ∈ l, matchH it ba pl y = true → firstQ (matchH it ba pl) l = y.q
  | [], _, _, h, _ => by simp at h
  | z :: t, ha, y, hy, hm => by
    simp only [firstQ]
    rcases List.mem_cons.1 hy with rfl | hy
    · rw [if_pos hm]
    · rw [if_neg, firstQ_asc ha.tail y hy hm]
      intro hz
      have h1 := ha.head y hy
      have h2 : sameH y z = true := by
        have h3 : sameH ⟨it, ba, pl, 0⟩ z = true := hz
        have h4 : sameH ⟨it, ba, pl, 0⟩ y = true := hm
        obtain ⟨a1, a2, a3⟩ := sameH_iff.1 h3
        obtain ⟨b1, b2, b3⟩ := sameH_iff.1 h4
        exact sameH_iff.2 ⟨a1.trans b1.symm, a2.trans b2.symm, a3.trans b3.symm⟩
      rw [(sameH_bef h2).2] at h1
      cases h1
theorem firstQ_pos {m : Hold → Bool} : ∀ {l : List Hold}, firstQ m l ≠ 0 → ∃ y ∈ l, m y = true
  | [], h => by simp [firstQ] at h
  | z :: t, h => by
    simp only [firstQ] at h
    by_cases hz : m z = true
    · exact ⟨z, List.mem_cons_self .., hz⟩
    · rw [if_neg hz] at h
      obtain ⟨y, hy, hm⟩ := firstQ_pos h
      exact ⟨y, List.mem_cons_of_mem _ hy, hm⟩
theorem putR_small {x : Hold} {B C : Int} : ∀ {l : List Hold} {z : Hold}, (∀ y ∈ l, -B ≤ y.q ∧ y.q ≤ B) → (-C ≤ x.q ∧ x.q ≤ C) → 0 ≤ B → 0 ≤ C → z ∈ putR x l → -(B + C) ≤ z.q ∧ z.q ≤ B + C
  | [], z, _, hx, h1, h2, h => by
    simp only [putR, insH] at h
    split at h
    · obtain rfl : z = x := by simpa using h
      omega
    · simp at h
  | y :: t, z, hl, hx, h1, h2, h => by
    have hy := hl y (List.mem_cons_self ..)
    have ht : ∀ y ∈ t, -B ≤ y.q ∧ y.q ≤ B := fun w hw => hl w (List.mem_cons_of_mem _ hw)
    simp only [putR] at h
    split at h
    · rcases List.mem_cons.1 h with rfl | h
      · omega
      · exact putR_small ht hx h1 h2 h
    · split at h
      · rcases List.mem_append.1 h with h | h
        · simp only [insH] at h
          split at h
          · obtain rfl : z = x := by simpa using h
            omega
          · simp at h
        · have := hl z h
          omega
      · rcases List.mem_append.1 h with h | h
        · simp only [insH] at h
          split at h
          · obtain rfl : z = _ := by simpa using h
            simp only
            omega
          · simp at h
        · have := ht z h
          omega
theorem putR_len {x : Hold} : ∀ l : List Hold, (putR x l).length ≤ l.length + 1
  | [] => by simp only [putR, insH]; split <;> simp
  | y :: t => by
    have ih := putR_len (x := x) t
    have h1 : ∀ z : Hold, (insH z).length ≤ 1 := fun z => by simp only [insH]; split <;> simp
    have h2 := h1 x
    have h3 := h1 ⟨x.it, x.ba, x.pl, x.q + y.q⟩
    simp only [putR]
    split
    · simp only [List.length_cons]; omega
    · split <;> simp only [List.length_append, List.length_cons] <;> omega
theorem putR_asc {x : Hold} : ∀ {l : List Hold}, Asc l → (∀ y ∈ l, sameH x y = true → 0 ≤ y.q + x.q) → ((∃ y ∈ l, sameH x y = true) ∨ 0 < x.q) → Asc (putR x l)
  | [], _, _, h => by
    simp only [putR, insH]
    split
    · have : 0 < x.q := by
        rcases h with ⟨y, hy, _⟩ | h
        · simp at hy
        · exact h
      exact ⟨by simp, by simp; exact this⟩
    · exact ⟨by simp, by simp⟩
  | y :: t, ha, hs, hm => by
    have hy := ha.2 y (List.mem_cons_self ..)
    simp only [putR]
    split
    · rename_i h1
      have h3 : sameH x y = false := by
        cases k : sameH x y
        · rfl
        · rw [(sameH_bef k).2] at h1; cases h1
      have ih := putR_asc ha.tail (fun z hz => hs z (List.mem_cons_of_mem _ hz)) (by
        rcases hm with ⟨z, hz, hzs⟩ | h
        · rcases List.mem_cons.1 hz with rfl | hz
          · rw [h3] at hzs; cases hzs
          · exact .inl ⟨z, hz, hzs⟩
        · exact .inr h)
      refine ⟨List.pairwise_cons.2 ⟨fun z hz => ?_, ih.1⟩, fun z hz => ?_⟩
      · rcases putR_mem hz with h | ⟨e1, e2, e3⟩
        · exact ha.head z h
        · unfold befH at h1 ⊢
          rwa [e1, e2, e3]
      · rcases List.mem_cons.1 hz with rfl | hz
        · exact hy
        · exact ih.2 z hz
    · rename_i h1
      have h1' : befH y x = false := by simpa using h1
      split
      · rename_i h2
        have h3 : sameH x y = false := by
          cases k : sameH x y
          · rfl
          · rw [(sameH_bef k).1] at h2; cases h2
        have h4 : 0 < x.q := by
          rcases hm with ⟨z, hz, hzs⟩ | h
          · rcases List.mem_cons.1 hz with rfl | hz
            · rw [h3] at hzs; cases hzs
            · have := befH_trans h2 (ha.head z hz)
              rw [(sameH_bef hzs).1] at this
              cases this
          · exact h
        simp only [insH]
        split
        · refine ⟨List.pairwise_cons.2 ⟨fun z hz => ?_, ha.1⟩, fun z hz => ?_⟩
          · rcases List.mem_cons.1 hz with rfl | hz
            · exact h2
            · exact befH_trans h2 (ha.head z hz)
          · rcases List.mem_cons.1 hz with rfl | hz
            · exact h4
            · exact ha.2 z hz
        · exact ha
      · rename_i h2
        have h2' : befH x y = false := by simpa using h2
        have h3 := befH_tri h2' h1'
        have h5 := hs y (List.mem_cons_self ..) h3
        obtain ⟨e1, e2, e3⟩ := sameH_iff.1 h3
        simp only [insH]
        split
        · rename_i h6
          refine ⟨List.pairwise_cons.2 ⟨fun z hz => ?_, ha.tail.1⟩, fun z hz => ?_⟩
          · have := ha.head z hz
            unfold befH at this ⊢
            rwa [e1, e2, e3] at this
          · rcases List.mem_cons.1 hz with rfl | hz
            · have := h6.1
              simp only at this ⊢
              omega
            · exact ha.2 z (List.mem_cons_of_mem _ hz)
        · exact ha.tail

/-- What a move makes of the holdings. -/
def preMv (l : List Hold) (x : Mv) : Bool := areH l && mvOk x.day x.it x.ba x.ff x.tt x.q && (x.ff.toList.isEmpty || !decide (qtyF l x.it x.ba x.ff < x.q))
def mvOne (l : List Hold) (x : Mv) : List Hold := putF ⟨x.it, x.ba, x.ff, -x.q⟩ l
def mvF (l : List Hold) (x : Mv) : List Hold := putF ⟨x.it, x.ba, x.tt, x.q⟩ (mvOne l x)
def canMv (l : List Hold) (x : Mv) : Bool := preMv l x && areH (mvF l x)
def applyF (l : List Hold) (x : Mv) : List Hold × Bool := (if canMv l x then mvF l x else [], canMv l x)
theorem mvOk_at {x : Mv} (h : mvOk x.day x.it x.ba x.ff x.tt x.q = true) : codeB x.it = true ∧ codeB x.ba = true ∧ (x.ff.toList = [] ∨ codeB x.ff = true) ∧ (x.tt.toList = [] ∨ codeB x.tt = true) ∧ x.ff.toList ≠ x.tt.toList ∧ 1 ≤ x.q ∧ x.q ≤ 100000 := by
  simp only [mvOk, Bool.and_eq_true, Bool.or_eq_true, inB_iff, Bool.not_eq_true', decide_eq_false_iff_not, List.isEmpty_iff] at h
  obtain ⟨⟨⟨⟨⟨⟨a, b⟩, c⟩, d⟩, e⟩, f⟩, g⟩ := h
  exact ⟨b, c, d, e, f, g⟩
structure MvFacts (l : List Hold) (x : Mv) : Prop where
  len : l.length ≤ 60
  q1 : 1 ≤ x.q
  q2 : x.q ≤ 100000
  small : ∀ y ∈ l, smallQ y.q
  one_chg : x.ff.toList ≠ [] → chgF ⟨x.it, x.ba, x.ff, -x.q⟩ l = mvOne l x
  one_id : x.ff.toList = [] → mvOne l x = l
  len1 : (mvOne l x).length ≤ 61
  small1 : ∀ y ∈ mvOne l x, smallQ y.q
  two_chg : x.tt.toList ≠ [] → chgF ⟨x.it, x.ba, x.tt, x.q⟩ (mvOne l x) = mvF l x
  two_id : x.tt.toList = [] → mvF l x = mvOne l x
  len2 : (mvF l x).length ≤ 62
  keys : ∀ y ∈ mvF l x, y ∈ l ∨ (∃ z ∈ l, y.it = z.it ∧ y.ba = z.ba ∧ y.pl = z.pl) ∨ (y.it = x.it ∧ y.ba = x.ba ∧ (y.pl = x.ff ∨ y.pl = x.tt))
  small2 : ∀ y ∈ mvF l x, smallQ y.q
theorem mv_facts {l : List Hold} {x : Mv} (h : preMv l x = true) : MvFacts l x := by
  simp only [preMv, Bool.and_eq_true] at h
  obtain ⟨⟨ha, hm⟩, hq⟩ := h
  obtain ⟨c1, c2, c3, c4, c5, q1, q2⟩ := mvOk_at hm
  have hasc := areH_asc ha
  have hlen := areH_len ha
  have hb : ∀ y ∈ l, -1000000000 ≤ y.q ∧ y.q ≤ 1000000000 := fun y hy => by have := areH_mem ha hy; omega
  have hpl : ∀ y ∈ l, y.pl.toList ≠ [] := fun y hy => (areH_mem ha hy).1
  have e1 : mvOne l x = putR ⟨x.it, x.ba, x.ff, -x.q⟩ l := putF_eq _ _
  have e2 : mvF l x = putR ⟨x.it, x.ba, x.tt, x.q⟩ (mvOne l x) := putF_eq _ _
  have b1 : ∀ y ∈ mvOne l x, -1000100000 ≤ y.q ∧ y.q ≤ 1000100000 := fun y hy => by
    have := putR_small (x := ⟨x.it, x.ba, x.ff, -x.q⟩) (B := 1000000000) (C := 100000) hb (by simp only; omega) (by omega) (by omega) (e1 ▸ hy)
    omega
  have b2 : ∀ y ∈ mvF l x, -1000200000 ≤ y.q ∧ y.q ≤ 1000200000 := fun y hy => by
    have := putR_small (x := ⟨x.it, x.ba, x.tt, x.q⟩) (B := 1000100000) (C := 100000) b1 (by simp only; omega) (by omega) (by omega) (e2 ▸ hy)
    omega
  have l1 : (mvOne l x).length ≤ 61 := by have := putR_len (x := ⟨x.it, x.ba, x.ff, -x.q⟩) l; rw [e1]; omega
  have hmat : x.ff.toList ≠ [] → (∃ y ∈ l, sameH ⟨x.it, x.ba, x.ff, -x.q⟩ y = true) ∧ ∀ y ∈ l, sameH ⟨x.it, x.ba, x.ff, -x.q⟩ y = true → 0 ≤ y.q + -x.q := by
    intro hf
    have h1 : ¬ qtyF l x.it x.ba x.ff < x.q := by
      simpa [hf] using hq
    have h2 : qtyF l x.it x.ba x.ff = firstQ (matchH x.it x.ba x.ff) l := by simp [qtyF, ha]
    rw [h2] at h1
    refine ⟨firstQ_pos (m := matchH x.it x.ba x.ff) (by omega), fun y hy hs => ?_⟩
    have := firstQ_asc (it := x.it) (ba := x.ba) (pl := x.ff) hasc y hy hs
    omega
  have hone : x.ff.toList = [] → mvOne l x = l := fun hf => by rw [e1]; exact putR_outside hf hpl
  have hasc1 : Asc (mvOne l x) := by
    by_cases hf : x.ff.toList = []
    · rw [hone hf]; exact hasc
    · rw [e1]; exact putR_asc hasc (hmat hf).2 (.inl (hmat hf).1)
  have hpl1 : ∀ y ∈ mvOne l x, y.pl.toList ≠ [] := fun y hy => by
    by_cases hf : x.ff.toList = []
    · rw [hone hf] at hy; exact hpl y hy
    · rw [e1] at hy
      rcases putR_mem hy with h | ⟨_, _, h⟩
      · exact hpl y h
      · rw [h]; exact hf
  refine ⟨hlen, q1, q2, fun y hy => ?_, fun hf => ?_, hone, l1, fun y hy => ?_, fun ht => ?_, fun ht => ?_, ?_, fun y hy => ?_, fun y hy => ?_⟩
  · have := hb y hy; exact ⟨by omega, by omega⟩
  · rw [chgF_eq, e1]; exact chg_put hf hasc (hmat hf).2 (.inl (hmat hf).1)
  · have := b1 y hy; exact ⟨by omega, by omega⟩
  · rw [chgF_eq, e2]; exact chg_put ht hasc1 (fun y hy _ => by have := hasc1.2 y hy; simp only; omega) (.inr (by simp only; omega))
  · rw [e2]; exact putR_outside ht hpl1
  · have := putR_len (x := ⟨x.it, x.ba, x.tt, x.q⟩) (mvOne l x); rw [e2]; omega
  · rw [e2] at hy
    rcases putR_mem hy with h | ⟨h1, h2, h3⟩
    · rw [e1] at h
      rcases putR_mem h with h | ⟨h1, h2, h3⟩
      · exact .inl h
      · exact .inr (.inr ⟨h1, h2, .inl h3⟩)
    · exact .inr (.inr ⟨h1, h2, .inr h3⟩)
  · have := b2 y hy; exact ⟨by omega, by omega⟩
theorem mv_ok {l : List Hold} {x : Mv} (h : preMv l x = true) (hl : ∀ y ∈ l, y.Ok) (hx : x.Ok) : ∀ y ∈ mvF l x, y.Ok := fun y hy => by
  have hf := mv_facts h
  obtain ⟨s1, s2⟩ := hf.small2 y hy
  have hw : (Lit.int .i64 y.q).wf = true := by
    unfold Lit.wf
    rw [Bool.and_eq_true, decide_eq_true_eq, decide_eq_true_eq]
    exact ⟨by show (-9223372036854775808 : Int) ≤ _; omega, by show _ ≤ (9223372036854775807 : Int); omega⟩
  rcases hf.keys y hy with h | ⟨z, hz, e1, e2, e3⟩ | ⟨e1, e2, e3⟩
  · exact hl y h
  · obtain ⟨_, a1, a2, a3, _⟩ := hl z hz
    exact ⟨trivial, e1 ▸ a1, e2 ▸ a2, e3 ▸ a3, hw, trivial⟩
  · obtain ⟨_, a1, a2, a3, a4, _⟩ := hx
    refine ⟨trivial, e1 ▸ a1, e2 ▸ a2, ?_, hw, trivial⟩
    rcases e3 with e | e
    · exact e ▸ a3
    · exact e ▸ a4
end Go.Proofs.Ytfbfhccgohmeiaa
