/- Lots taken: what is left, as a plain function; TakeLots of the program returns what it says. Conditions: none. -/
import Derived.Test.YtcphlancaahihaaPick
import Derived.Test.YtcphlancaahihaaOwn
import Derived.Deep.RegionWith
namespace Go.Proofs.Ytcphlancaahihaa
open Go.RowKit Go.ChangeShapes Go.WideShapes Go.Deep
set_option linter.unusedVariables false
set_option linter.unusedSimpArgs false

theorem findF_lt {b : ByteArray} : ∀ (l : List Lt) (n : Nat), findF b l n = -1 ∨ ∃ i x, findF b l n = ((n + i : Nat) : Int) ∧ l[i]? = some x ∧ x.ba.toList = b.toList
  | [], n => .inl rfl
  | y :: l, n => by
    by_cases h : y.ba.toList = b.toList
    · exact .inr ⟨0, y, by simp [findF, h], rfl, h⟩
    · rcases findF_lt l (n + 1) with h1 | ⟨i, x, h1, h2, h3⟩
      · exact .inl (by simp only [findF, if_neg h]; exact h1)
      · exact .inr ⟨i + 1, x, by simp only [findF, if_neg h]; rw [h1]; push_cast; omega, by simpa using h2, h3⟩
/-- One pick taken away; none if there is not so much. -/
def takeStep (s : Option (List Lt)) (p : Nd) : Option (List Lt) :=
  match s with
  | none => none
  | some m => if findF p.cd m 0 < 0 then none else
    if inB p.q 1 (m.getD (findF p.cd m 0).toNat lt0).q then some (m.set (findF p.cd m 0).toNat ⟨(m.getD (findF p.cd m 0).toNat lt0).ba, (m.getD (findF p.cd m 0).toNat lt0).ex, (m.getD (findF p.cd m 0).toNat lt0).q - p.q⟩) else none
def takeTo (l : List Lt) (ps : List Nd) (k : Nat) : Option (List Lt) := (ps.take k).foldl takeStep (some l)
def posL (x : Lt) : Bool := decide (0 < x.q)
def takeF (l : List Lt) (ps : List Nd) : List Lt × Bool :=
  if areL l && decide ((ps.length : Int) ≤ 20) then (match takeTo l ps ps.length with | none => ([], false) | some m => (m.filter posL, true)) else ([], false)
theorem takeTo_step {l : List Lt} {ps : List Nd} {k : Nat} {p : Nd} (h : ps[k]? = some p) : takeTo l ps (k + 1) = takeStep (takeTo l ps k) p := by
  simp only [takeTo, List.take_add_one, h, Option.toList_some, List.foldl_append, List.foldl_cons, List.foldl_nil]
theorem takeStep_none (ps : List Nd) : ps.foldl takeStep none = none := by
  induction ps with
  | nil => rfl
  | cons p ps ih => simpa [takeStep] using ih
theorem takeTo_none {l : List Lt} {ps : List Nd} {k : Nat} (h : takeTo l ps k = none) : takeTo l ps ps.length = none := by
  simp only [takeTo] at h ⊢
  rw [List.take_length, ← List.take_append_drop k ps, List.foldl_append, h]
  exact takeStep_none _
/-- Lots of which some may be taken. -/
def LotsOk (n : Nat) (m : List Lt) : Prop := m.length = n ∧ ∀ x ∈ m, 0 ≤ x.q ∧ x.q ≤ 100000
theorem areL_len {l : List Lt} (h : areL l = true) : l.length ≤ 20 := by
  simp only [areL, Bool.and_eq_true, decide_eq_true_eq] at h
  omega
theorem lots_ok {l : List Lt} (h : areL l = true) : LotsOk l.length l := ⟨rfl, fun x hx => by
  obtain ⟨i, hi, rfl⟩ := List.getElem_of_mem hx
  have := areL_at h hi
  rw [show l.getD i lt0 = l[i] by simp [List.getD_eq_getElem?_getD, List.getElem?_eq_getElem hi]] at this
  omega⟩
theorem LotsOk.set {n : Nat} {m : List Lt} (h : LotsOk n m) {i : Nat} {x : Lt} (hx : m[i]? = some x) {p : Int} (h1 : 1 ≤ p) (h2 : p ≤ x.q) : LotsOk n (m.set i ⟨x.ba, x.ex, x.q - p⟩) := by
  refine ⟨by rw [List.length_set]; exact h.1, fun y hy => ?_⟩
  rcases List.mem_or_eq_of_mem_set hy with hy | rfl
  · exact h.2 y hy
  · have := h.2 x (List.mem_of_getElem? hx)
    simp only
    omega
theorem filter_take {l : List Lt} {k : Nat} {x : Lt} (h : l[k]? = some x) : (l.take (k + 1)).filter posL = (l.take k).filter posL ++ (if 0 < x.q then [x] else []) := by
  rw [List.take_add_one, h, List.filter_append]
  by_cases h0 : 0 < x.q
  · simp [posL, h0]
  · simp [posL, h0]
theorem takeF_len (l : List Lt) (ps : List Nd) : (takeF l ps).1.length ≤ 4194304 := by
  unfold takeF
  split
  · rename_i h
    simp only [Bool.and_eq_true] at h
    have h20 := areL_len h.1
    have key : ∀ k, k ≤ ps.length → ∀ m, takeTo l ps k = some m → m.length = l.length := by
      intro k
      induction k with
      | zero => intro _ m hm; simp [takeTo] at hm; rw [hm]
      | succ k ih =>
        intro hk m hm
        rw [takeTo_step (List.getElem?_eq_getElem (by omega))] at hm
        cases ht : takeTo l ps k with
        | none => rw [ht] at hm; simp [takeStep] at hm
        | some m0 =>
          have h3 := ih (by omega) m0 ht
          rw [ht] at hm
          simp only [takeStep] at hm
          split at hm
          · cases hm
          · split at hm
            · injection hm with hm; rw [← hm, List.length_set]; exact h3
            · cases hm
    cases ht : takeTo l ps ps.length with
    | none => simp
    | some m =>
      have h3 := key _ (Nat.le_refl _) m ht
      have h4 := List.length_filter_le posL m
      simp only
      omega
  · simp
end Go.Proofs.Ytcphlancaahihaa
