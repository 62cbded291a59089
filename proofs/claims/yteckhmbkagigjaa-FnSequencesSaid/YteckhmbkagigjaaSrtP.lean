/- Insertion from the back, as a plain function on lists. Conditions: none. -/
import Derived.Test.YteckhmbkagigjaaIntsM
import Derived.Test.YteckhmbkagigjaaApp
import Derived.Test.YteckhmbkagigjaaOwn
namespace Go.Proofs.Yteckhmbkagigjaa
open Go.RowKit Go.ChangeShapes Go.WideShapes Go.Deep
set_option linter.unusedVariables false
set_option linter.unusedSimpArgs false

section
variable {T : Type}
/-- The place behind the last element that does not answer to p. -/
def backN (p : T → Bool) (l : List T) : Nat := l.length - (l.reverse.takeWhile p).length
theorem backN_le (p : T → Bool) (l : List T) : backN p l ≤ l.length := Nat.sub_le _ _
theorem twN_take (p : T → Bool) : ∀ (l : List T) (i : Nat) (y : T), i < (l.takeWhile p).length → l[i]? = some y → p y = true
  | [], i, y, h, _ => by simp at h
  | z :: l, i, y, h, hy => by
    simp only [List.takeWhile_cons] at h
    split at h
    · rename_i hp
      cases i with
      | zero => simp at hy; exact hy ▸ hp
      | succ i => exact twN_take p l i y (by simpa using h) (by simpa using hy)
    · simp at h
theorem twN_stop (p : T → Bool) : ∀ (l : List T) (y : T), l[(l.takeWhile p).length]? = some y → p y = false
  | [], y, h => by simp at h
  | z :: l, y, h => by
    simp only [List.takeWhile_cons] at h
    by_cases hp : p z = true
    · rw [if_pos hp] at h
      exact twN_stop p l y (by simpa using h)
    · rw [if_neg hp] at h
      simp at h
      subst h
      simpa using hp
theorem backN_in {p : T → Bool} {l : List T} {i : Nat} {y : T} (h : backN p l ≤ i) (hy : l[i]? = some y) : p y = true := by
  have hi : i < l.length := (List.getElem?_eq_some_iff.1 hy).1
  have hl := (List.takeWhile_sublist p (l := l.reverse)).length_le
  rw [List.length_reverse] at hl
  unfold backN at h
  refine twN_take p l.reverse (l.length - 1 - i) y (by omega) ?_
  rw [List.getElem?_reverse (by omega), show l.length - 1 - (l.length - 1 - i) = i by omega]
  exact hy
theorem backN_out {p : T → Bool} {l : List T} {i : Nat} {y : T} (h : backN p l = i + 1) (hy : l[i]? = some y) : p y = false := by
  have hi : i < l.length := (List.getElem?_eq_some_iff.1 hy).1
  have hl := (List.takeWhile_sublist p (l := l.reverse)).length_le
  rw [List.length_reverse] at hl
  unfold backN at h
  refine twN_stop p l.reverse y ?_
  rw [List.getElem?_reverse (by omega), show l.length - 1 - (l.reverse.takeWhile p).length = i by omega]
  exact hy
def insB (lt : T → T → Bool) (s : List T) (x : T) : List T := s.take (backN (lt x) s) ++ [x] ++ s.drop (backN (lt x) s)
def sortB (lt : T → T → Bool) (l : List T) : List T := l.foldl (insB lt) []
theorem insB_length (lt : T → T → Bool) (s : List T) (x : T) : (insB lt s x).length = s.length + 1 := by
  have := backN_le (lt x) s
  simp [insB]; omega
theorem insB_perm (lt : T → T → Bool) (s : List T) (x : T) : (insB lt s x).Perm (x :: s) := by
  unfold insB
  have h := List.perm_middle (a := x) (l₁ := s.take (backN (lt x) s)) (l₂ := s.drop (backN (lt x) s))
  rw [List.take_append_drop] at h
  simpa using h
theorem sortB_snoc (lt : T → T → Bool) (l : List T) (x : T) : sortB lt (l ++ [x]) = insB lt (sortB lt l) x := by simp [sortB]
theorem sortB_perm (lt : T → T → Bool) (l : List T) : (sortB lt l).Perm l := by
  suffices h : ∀ (l s : List T), (l.foldl (insB lt) s).Perm (s ++ l) by simpa [sortB] using h l []
  intro l
  induction l with
  | nil => intro s; simp
  | cons x l ih =>
    intro s
    refine (ih (insB lt s x)).trans ?_
    exact ((insB_perm lt s x).append_right l).trans (by simpa using (List.perm_middle (a := x) (l₁ := s) (l₂ := l)).symm)
theorem sortB_length (lt : T → T → Bool) (l : List T) : (sortB lt l).length = l.length := (sortB_perm lt l).length_eq
theorem sortB_mem {lt : T → T → Bool} {l : List T} {x : T} : x ∈ sortB lt l ↔ x ∈ l := (sortB_perm lt l).mem_iff
/-- What an exchange with the element ahead does to a list of which one element is on its way to its place. -/
theorem midB_swap {s r : List T} {x y : T} {j : Nat} (hj : j < s.length) (hy : s[j]? = some y) :
    ((s.take (j + 1) ++ [x] ++ s.drop (j + 1) ++ r).set (j + 1) y).set j x = s.take j ++ [x] ++ s.drop j ++ r := by
  obtain ⟨h1, h2⟩ := List.getElem?_eq_some_iff.1 hy
  have e1 : s.take (j + 1) = s.take j ++ [y] := by rw [List.take_add_one, hy]; rfl
  have e2 : s.drop j = y :: s.drop (j + 1) := by rw [List.drop_eq_getElem_cons hj, h2]
  have l1 : (s.take j).length = j := by rw [List.length_take]; omega
  rw [e1, e2]
  simp only [List.append_assoc, List.cons_append, List.nil_append]
  rw [List.set_append_right _ _ (by omega), l1, show j + 1 - j = 1 by omega, List.set_append_right _ _ (by omega), l1, Nat.sub_self]
  rfl
theorem midB_at {s r : List T} {x : T} {j : Nat} (hj : j ≤ s.length) : (s.take j ++ [x] ++ s.drop j ++ r)[j]? = some x := by
  have l1 : (s.take j).length = j := by rw [List.length_take]; omega
  simp only [List.append_assoc, List.cons_append, List.nil_append]
  rw [List.getElem?_append_right (by omega), l1, Nat.sub_self]
  rfl
theorem midB_prev {s r : List T} {x : T} {j : Nat} (hj : j < s.length) : (s.take (j + 1) ++ [x] ++ s.drop (j + 1) ++ r)[j]? = s[j]? := by
  have l1 : (s.take (j + 1)).length = j + 1 := by rw [List.length_take]; omega
  simp only [List.append_assoc, List.cons_append, List.nil_append]
  rw [List.getElem?_append_left (by omega), List.getElem?_take, if_pos (by omega)]
theorem midB_len {s r : List T} {x : T} {j : Nat} : (s.take j ++ [x] ++ s.drop j ++ r).length = s.length + 1 + r.length := by
  have := congrArg List.length (List.take_append_drop j s)
  simp only [List.length_append] at this ⊢
  simp; omega
end
end Go.Proofs.Yteckhmbkagigjaa
