/- One element of a slice of the call's own set anew. Conditions: none. -/
import Derived.Test.YtembbgkhmnalpaaApp
namespace Go.Proofs.Ytembbgkhmnalpaa
open Go.RowKit Go.ChangeShapes Go.WideShapes Go.Deep
set_option linter.unusedVariables false
set_option linter.unusedSimpArgs false

section
variable {T : Type} {E : Enc T} {t : TypeId} {w w' : World} {base g n c : Nat} {l : List T}
theorem flat_set {E : Enc T} {x x' : T} {j : Nat} {u : Value} (henc : (E.enc x).set j u = E.enc x') (hj : j < E.sz) : ∀ {l : List T} {i : Nat}, l[i]? = some x → (flat E l).set (i * E.sz + j) u = flat E (l.set i x')
  | [], i, h => by simp at h
  | y :: l, 0, h => by
    obtain rfl : y = x := by simpa using h
    have e : ∀ z, flat E (z :: l) = E.enc z ++ flat E l := fun z => by simp [flat]
    rw [List.set_cons_zero, e, e, Nat.zero_mul, Nat.zero_add, List.set_append_left _ _ (by rw [E.len]; exact hj), henc]
  | y :: l, i + 1, h => by
    have ih := flat_set (E := E) henc hj (l := l) (i := i) (by simpa using h)
    have e : ∀ l : List T, flat E (y :: l) = E.enc y ++ flat E l := fun l => by simp [flat]
    rw [List.set_cons_succ, e, e, List.set_append_right _ _ (by rw [E.len, Nat.succ_mul]; omega), E.len, show (i + 1) * E.sz + j - E.sz = i * E.sz + j by rw [Nat.succ_mul]; omega, ih]
theorem Own.set_ {x x' : T} {i j : Nat} {u : Value} (h : Own E t w base (.slice (some ⟨g, 0, none⟩) n c) l) (hx : l[i]? = some x) (henc : (E.enc x).set j u = E.enc x') (hj : j < E.sz) :
    Own E t (w.setCell ⟨g, i * E.sz + j, none⟩ u) base (.slice (some ⟨g, 0, none⟩) n c) (l.set i x') := by
  have hn := h.cap.1
  subst hn
  have := (World.ownsRow.stored h (i * E.sz + j) u).1
  rw [flat_set henc hj hx] at this
  unfold Own
  rw [List.length_set]
  exact this
theorem Own.at_ {x : T} {i j : Nat} {u : Value} (h : Own E t w base (.slice (some ⟨g, 0, none⟩) n c) l) (hx : l[i]? = some x) (hu : (E.enc x)[j]? = some u) : w.cell? ⟨g, i * E.sz + j, none⟩ = some u := by
  have hn := h.cap.1
  subst hn
  have h1 : i < l.length := (List.getElem?_eq_some_iff.1 hx).1
  have h2 : j < E.sz := by rw [← E.len x]; exact (List.getElem?_eq_some_iff.1 hu).1
  have h3 : i * E.sz + j < l.length * E.sz := by
    have : (i + 1) * E.sz ≤ l.length * E.sz := Nat.mul_le_mul_right _ h1
    rw [Nat.succ_mul] at this
    omega
  rw [World.ownsRow.cellAt h _ h3]
  exact flat_get E l i x hx j u hu
theorem Own.frozen (h : Own E t w base (.slice (some ⟨g, 0, none⟩) n c) l) : ∀ j, w.frozen? ⟨g, j, none⟩ = false := fun j => by
  have hn := h.cap.1
  subst hn
  exact World.ownsRow.frozenAt h j
theorem Own.addr {v : Value} (h : Own E t w base v l) (hl : 0 < l.length) : ∃ g c, v = .slice (some ⟨g, 0, none⟩) l.length c ∧ base ≤ g ∧ g < w.heap.size := World.ownsRow.form h hl
end
end Go.Proofs.Ytembbgkhmnalpaa
