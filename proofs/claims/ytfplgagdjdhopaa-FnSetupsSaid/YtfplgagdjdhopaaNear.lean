/- The nearest order: what it is, and that it is an order. Conditions: none. -/
import Derived.Test.YtfplgagdjdhopaaSetI
import Derived.Test.YtfplgagdjdhopaaApp
import Derived.Test.YtfplgagdjdhopaaOwn
namespace Go.Proofs.Ytfplgagdjdhopaa
open Go.RowKit Go.ChangeShapes Go.WideShapes Go.Deep
set_option linter.unusedVariables false
set_option linter.unusedSimpArgs false

theorem nodup_len {α : Type} [DecidableEq α] : ∀ {l m : List α}, l.Nodup → (∀ x ∈ l, x ∈ m) → l.length ≤ m.length
  | [], _, _, _ => Nat.zero_le _
  | x :: l, m, hd, hs => by
    rw [List.nodup_cons] at hd
    have h1 : x ∈ m := hs x List.mem_cons_self
    have h2 := nodup_len (l := l) (m := m.erase x) hd.2 (fun y hy => by
      have hne : y ≠ x := fun e => hd.1 (e ▸ hy)
      exact (List.mem_erase_of_ne hne).2 (hs y (List.mem_cons_of_mem _ hy)))
    rw [List.length_erase_of_mem h1] at h2
    have h3 : 0 < m.length := List.length_pos_of_mem h1
    simp only [List.length_cons]
    omega
/-- The family that is nearest among the first k that are not in out; -1 if there is none. -/
def bst (L : List (List Int)) (a : Int) (out : List Int) : Nat → Int
  | 0 => -1
  | k + 1 => if out.contains (k : Int) = false ∧ (bst L a out k < 0 ∨ cellF L a (k : Int) < cellF L a (bst L a out k)) then (k : Int) else bst L a out k
def nearTo (L : List (List Int)) (n : Nat) : Nat → List Int × Int
  | 0 => ([], n)
  | j + 1 => ((nearTo L n j).1 ++ [bst L (nearTo L n j).2 (nearTo L n j).1 n], bst L (nearTo L n j).2 (nearTo L n j).1 n)
def nearF (L : List (List Int)) : List Int × Bool := if setB L then ((nearTo L (L.length - 1) (L.length - 1)).1, true) else ([], false)
theorem bst_ok (L : List (List Int)) (a : Int) (out : List Int) : ∀ k, -1 ≤ bst L a out k ∧ bst L a out k < (k : Int) ∧ (0 ≤ bst L a out k → out.contains (bst L a out k) = false) ∧ (bst L a out k < 0 → ∀ i : Nat, i < k → out.contains (i : Int) = true)
  | 0 => ⟨by simp [bst], by simp [bst], by simp [bst], fun _ i hi => by omega⟩
  | k + 1 => by
    obtain ⟨h1, h2, h3, h4⟩ := bst_ok L a out k
    simp only [bst]
    split
    · rename_i h
      exact ⟨by omega, by omega, fun _ => h.1, fun h5 => by omega⟩
    · rename_i h
      refine ⟨h1, by omega, h3, fun h5 i hi => ?_⟩
      rcases Nat.lt_succ_iff_lt_or_eq.1 hi with h6 | rfl
      · exact h4 h5 i h6
      · cases h7 : out.contains (i : Int)
        · exact absurd ⟨h7, .inl h5⟩ h
        · rfl
theorem bst_full {L : List (List Int)} {a : Int} {out : List Int} {n : Nat} (h : out.length < n) : 0 ≤ bst L a out n := by
  rcases Int.lt_or_le (bst L a out n) 0 with h1 | h1
  · have h2 := (bst_ok L a out n).2.2.2 h1
    have h3 := nodup_len (l := (List.range n).map (fun (i : Nat) => (i : Int))) (m := out) (by
      unfold List.Nodup
      rw [List.pairwise_map]
      exact List.Pairwise.imp (fun hab e => hab (by omega)) List.nodup_range) (fun x hx => by
      obtain ⟨i, hi, rfl⟩ := List.mem_map.1 hx
      have := h2 i (List.mem_range.1 hi)
      simpa using this)
    simp at h3
    omega
  · exact h1
/-- What holds of the first j steps. -/
structure NearOk (n j : Nat) (s : List Int × Int) : Prop where
  len : s.1.length = j
  nd : s.1.Nodup
  rng : ∀ x ∈ s.1, 0 ≤ x ∧ x < n
  lo : 0 ≤ s.2
  hi : s.2 ≤ n
theorem near_ok (L : List (List Int)) (n : Nat) : ∀ j, j ≤ n → NearOk n j (nearTo L n j)
  | 0, _ => ⟨rfl, List.nodup_nil, by simp [nearTo], by simp [nearTo], by simp [nearTo]⟩
  | j + 1, hj => by
    have ih := near_ok L n j (by omega)
    have h1 := bst_ok L (nearTo L n j).2 (nearTo L n j).1 n
    have h2 := bst_full (L := L) (a := (nearTo L n j).2) (out := (nearTo L n j).1) (n := n) (by rw [ih.len]; omega)
    have h3 := h1.2.2.1 h2
    refine ⟨by simp [nearTo, ih.len], ?_, fun x hx => ?_, h2, by simp only [nearTo]; omega⟩
    · simp only [nearTo]
      rw [List.nodup_append]
      refine ⟨ih.nd, by simp, fun a ha b hb e => ?_⟩
      obtain rfl : b = _ := by simpa using hb
      subst e
      simp at h3
      exact h3 ha
    · simp only [nearTo, List.mem_append, List.mem_singleton] at hx
      rcases hx with hx | rfl
      · exact ih.rng x hx
      · omega
def usedL (n : Nat) (out : List Int) : List Value := (List.range n).map fun (j : Nat) => Value.bool (out.contains (j : Int))
theorem usedL_get {n j : Nat} {out : List Int} (hj : j < n) : (usedL n out)[j]? = some (.bool (out.contains (j : Int))) := by
  simp [usedL, List.getElem?_map, List.getElem?_range hj]
theorem usedL_zero (n : Nat) : usedL n [] = (madeCells (Value.cells (.bool false)) (n * 1)).toList := by
  apply List.ext_getElem?
  intro i
  by_cases h : i < n
  · rw [usedL_get h]
    simp [madeCells, Value.cells, h, Nat.mod_one]
  · simp [usedL, madeCells, h]
theorem usedL_set {n q : Nat} {out : List Int} (hq : q < n) : (usedL n out).set q (.bool true) = usedL n (out ++ [(q : Int)]) := by
  apply List.ext_getElem?
  intro i
  by_cases h : i < n
  · rw [List.getElem?_set, usedL_get h, usedL_get h]
    by_cases hi : q = i
    · subst hi
      simp [usedL, h]
    · rw [if_neg hi]
      simp
      intro h9
      omega
  · simp [usedL, h]
theorem setB_at {L : List (List Int)} (h : setB L = true) : 1 ≤ L.length ∧ L.length ≤ 8 ∧ ∀ i, i < L.length → (L.getD i []).length = L.length - 1 ∧ ∀ j, j < L.length - 1 → 0 ≤ (L.getD i []).getD j 0 ∧ (L.getD i []).getD j 0 ≤ 1000 := by
  simp only [setB, Bool.and_eq_true, allTo_iff, inB_iff] at h
  refine ⟨by omega, by omega, fun i hi => ?_⟩
  have h2 := h.2 i hi
  simp only [rowB, Bool.and_eq_true, decide_eq_true_eq, allTo_iff] at h2
  refine ⟨by omega, fun j hj => ?_⟩
  have h3 := h2.2 j (by omega)
  simp only [cellOk, inB_iff] at h3
  exact h3
/-- Row f of the table at A, as memory: its header and its cells. -/
theorem RdR.row {w : World} {A : Option Addr} {L : List (List Int)} (h : RdR w A L) {f : Nat} (hf : f < L.length) : ∃ b o X c, A = some ⟨b, o, none⟩ ∧ b < w.heap.size ∧ w.cell? ⟨b, o + f, none⟩ = some (.slice X (L.getD f []).length c) ∧ Rd IntS.E w X (L.getD f []) := by
  obtain ⟨b, o, X, c, e, hb, hc, hr⟩ := h.at_ (List.getElem?_eq_getElem hf)
  have e2 : L.getD f [] = L[f] := by simp [List.getD_eq_getElem?_getD, List.getElem?_eq_getElem hf]
  rw [e2]
  exact ⟨b, o, X, c, e, hb, hc, hr⟩
theorem IntS.cell {w : World} {b o : Nat} {l : List Int} (h : Rd IntS.E w (some ⟨b, o, none⟩) l) {k : Nat} (hk : k < l.length) : w.cell? ⟨b, o + k, none⟩ = some (.int .i64 (l.getD k 0)) := by
  obtain ⟨b', o', e, _, hc⟩ := h.at_ hk
  simp only [Option.some.injEq, Addr.mk.injEq, and_true] at e
  obtain ⟨rfl, rfl⟩ := e
  exact IntS.at_ hc (by rw [List.getD_eq_getElem?_getD, List.getElem?_eq_getElem hk]; rfl)
end Go.Proofs.Ytfplgagdjdhopaa
