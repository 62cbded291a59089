/- A lot added: what comes of it, as a plain function. Conditions: none. -/
import Derived.Test.YtcphlancaahihaaTakeS
namespace Go.Proofs.Ytcphlancaahihaa
open Go.RowKit Go.ChangeShapes Go.WideShapes Go.Deep
set_option linter.unusedVariables false
set_option linter.unusedSimpArgs false

def frontN (p : Lt → Bool) (l : List Lt) : Nat := (l.takeWhile p).length
theorem frontN_le (p : Lt → Bool) (l : List Lt) : frontN p l ≤ l.length := (List.takeWhile_sublist p).length_le
theorem frontN_take (p : Lt → Bool) : ∀ (l : List Lt) (i : Nat) (y : Lt), i < frontN p l → l[i]? = some y → p y = true
  | [], i, y, h, _ => by simp [frontN] at h
  | z :: l, i, y, h, hy => by
    simp only [frontN, List.takeWhile_cons] at h
    split at h
    · rename_i hp
      cases i with
      | zero => simp at hy; exact hy ▸ hp
      | succ i => exact frontN_take p l i y (by simpa [frontN] using h) (by simpa using hy)
    · simp at h
theorem frontN_stop (p : Lt → Bool) : ∀ (l : List Lt) (y : Lt), l[frontN p l]? = some y → p y = false
  | [], y, h => by simp at h
  | z :: l, y, h => by
    simp only [frontN, List.takeWhile_cons] at h
    by_cases hp : p z = true
    · rw [if_pos hp] at h
      exact frontN_stop p l y (by simpa [frontN] using h)
    · rw [if_neg hp] at h
      simp at h
      subst h
      simpa using hp

/-- The lots with one more: added to its batch, or put in at its place. -/
def addOut (l : List Lt) (x : Lt) : List Lt :=
  if 0 ≤ findF x.ba l 0 then l.set (findF x.ba l 0).toNat ⟨(l.getD (findF x.ba l 0).toNat lt0).ba, (l.getD (findF x.ba l 0).toNat lt0).ex, (l.getD (findF x.ba l 0).toNat lt0).q + x.q⟩
  else l.take (frontN (fun y => befL y x) l) ++ [x] ++ l.drop (frontN (fun y => befL y x) l)
def preAdd (l : List Lt) (x : Lt) : Bool := areL l && areL [x] && (decide (findF x.ba l 0 < 0) || decide ((l.getD (findF x.ba l 0).toNat lt0).ex = x.ex))
def addF (l : List Lt) (x : Lt) : List Lt × Bool := (if preAdd l x && areL (addOut l x) then addOut l x else [], preAdd l x && areL (addOut l x))
theorem addOut_len (l : List Lt) (x : Lt) : (addOut l x).length ≤ l.length + 1 := by
  have := frontN_le (fun y => befL y x) l
  unfold addOut
  split
  · simp
  · simp; omega
theorem areOne_impl (x : Lt) (A : Option Addr) (c : Nat) (w : World) (h : Rd Lt.E w A [x]) (hx : x.Ok) :
    Calls Try.prog 12 #[.slice A 1 c] w fun e w' => e = .returned (.bool (areL [x])) ∧ Grew w w' :=
  areLots_impl [x] A c w h (fun y hy => by obtain rfl : y = x := (by simpa using hy); exact hx) (by simp)
theorem areOneE_impl {x : Lt} {v : Bool} (hv : areL [x] = v) (A : Option Addr) (c : Nat) (w : World) (h : Rd Lt.E w A [x]) (hx : x.Ok) :
    Calls Try.prog 12 #[.slice A 1 c] w fun e w' => e = .returned (.bool v) ∧ Grew w w' := hv ▸ areOne_impl x A c w h hx
theorem areOne_spec (x : Lt) (A : Option Addr) (c : Nat) (w : World) (h : Rd Lt.E w A [x]) (hx : x.Ok) :
    Calls Try.prog 10 #[.slice A 1 c] w fun e w' => e = .returned (.bool (areL [x])) ∧ Grew w w' :=
  areLots_spec [x] A c w h (fun y hy => by obtain rfl : y = x := (by simpa using hy); exact hx) (by simp)
theorem areOneE_spec {x : Lt} {v : Bool} (hv : areL [x] = v) (A : Option Addr) (c : Nat) (w : World) (h : Rd Lt.E w A [x]) (hx : x.Ok) :
    Calls Try.prog 10 #[.slice A 1 c] w fun e w' => e = .returned (.bool v) ∧ Grew w w' := hv ▸ areOne_spec x A c w h hx
theorem addOut_ok {l : List Lt} {x : Lt} (h : preAdd l x = true) (hok : ∀ y ∈ l, y.Ok) (hx : x.Ok) : (∀ y ∈ addOut l x, y.Ok) ∧ (addOut l x).length ≤ 21 := by
  simp only [preAdd, Bool.and_eq_true] at h
  have h20 := areL_len h.1.1
  refine ⟨?_, by have := addOut_len l x; omega⟩
  intro y hy
  unfold addOut at hy
  split at hy
  · rename_i h0
    rcases findF_lt (b := x.ba) l 0 with h1 | ⟨i, z, h1, h2, _⟩
    · omega
    · rw [h1, Nat.zero_add, Int.toNat_natCast, show l.getD i lt0 = z by simp [List.getD_eq_getElem?_getD, h2]] at hy
      rcases List.mem_or_eq_of_mem_set hy with hy | rfl
      · exact hok y hy
      · have hz := hok z (List.mem_of_getElem? h2)
        have hq := (lots_ok h.1.1).2 z (List.mem_of_getElem? h2)
        have hq2 := (lots_ok h.1.2).2 x (by simp)
        unfold Lt.Ok at hz ⊢
        refine ⟨trivial, hz.2.1, hz.2.2.1, ?_, trivial⟩
        unfold Lit.wf
        simp only [Bool.and_eq_true, decide_eq_true_eq]
        exact ⟨by show (-9223372036854775808 : Int) ≤ z.q + x.q; omega, by show z.q + x.q ≤ (9223372036854775807 : Int); omega⟩
  · simp only [List.mem_append, List.mem_singleton] at hy
    rcases hy with (hy | rfl) | hy
    · exact hok y (List.mem_of_mem_take hy)
    · exact hx
    · exact hok y (List.mem_of_mem_drop hy)
end Go.Proofs.Ytcphlancaahihaa
