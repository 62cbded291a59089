/- The way back from a batch that was reached: plain part. Conditions: none. -/
import Derived.Test.YtbmfhdncifcieaaUseS
namespace Go.Proofs.Ytbmfhdncifcieaa
open Go.RowKit Go.ChangeShapes Go.WideShapes Go.Deep
set_option linter.unusedVariables false
set_option linter.unusedSimpArgs false

/-- Every batch found was found from an earlier one. -/
def BkOk (s : Trc) : Prop := ∀ j, j < s.2.length → -1 ≤ s.2.getD j (-1) ∧ s.2.getD j (-1) < (j : Int)
theorem trStep_bk {up : Bool} {c : ByteArray} {i : Nat} {s : Trc} {x : Use} (h : BkOk s) (hl : s.2.length = s.1.length) (hi : i < s.1.length) : BkOk (trStep up c i s x) := by
  unfold trStep
  split
  · intro j hj
    simp only [List.length_append, List.length_cons, List.length_nil] at hj
    by_cases hjl : j < s.2.length
    · have := h j hjl
      simpa [List.getD_eq_getElem?_getD, List.getElem?_append_left hjl] using this
    · obtain rfl : j = s.2.length := by omega
      simp [List.getD_eq_getElem?_getD]
      omega
  · exact h
theorem trScan_bk {up : Bool} {l : List Use} {b c : ByteArray} {i : Nat} {s : Trc} (h : BkOk s) (ho : TrOk up l b s) (hi : i < s.1.length) : ∀ k, k ≤ l.length → BkOk (trScan up l c i s k)
  | 0, _ => by simpa [trScan] using h
  | k + 1, hk => by
    have hx : l[k]? = some l[k] := List.getElem?_eq_getElem (by omega)
    rw [trScan_step hx]
    exact trStep_bk (trScan_bk h ho hi k (by omega)) (trScan_ok ho k (by omega)).len (Nat.lt_of_lt_of_le hi (trScan_keep (up := up) (l := l) (b := c) (i := i) hi k (by omega)).1)
theorem trTo_bk (up : Bool) (l : List Use) (b : ByteArray) : ∀ i, BkOk (trTo up l b i)
  | 0 => fun j hj => by
    obtain rfl : j = 0 := by simpa [trTo] using hj
    simp [trTo]
  | i + 1 => by
    have ih := trTo_bk up l b i
    simp only [trTo]
    split
    · rename_i h; exact trScan_bk ih (trTo_ok up l b i) h _ (Nat.le_refl _)
    · exact ih
def chF (s : Trc) : Nat → Int → List ByteArray
  | 0, _ => []
  | n + 1, k => if k < 0 then [] else s.1.getD k.toNat str0 :: chF s n (s.2.getD k.toNat (-1))
def chain (s : Trc) (k : Int) : List ByteArray := chF s (k + 1).toNat k
theorem chF_neg {s : Trc} {k : Int} (h : k < 0) : ∀ n, chF s n k = []
  | 0 => rfl
  | n + 1 => by rw [chF, if_pos h]
theorem chF_more {s : Trc} (hb : BkOk s) : ∀ (n : Nat) (k : Int) (m : Nat), k < (s.2.length : Int) → (k + 1).toNat ≤ n → n ≤ m → chF s m k = chF s n k
  | 0, k, m, _, h1, _ => by rw [chF_neg (by omega), chF]
  | n + 1, k, 0, _, _, h2 => by omega
  | n + 1, k, m + 1, hk, h1, h2 => by
    rw [chF, chF]
    split
    · rfl
    · have h3 := hb k.toNat (by omega)
      rw [chF_more hb n _ m (by omega) (by omega) (by omega)]
theorem chain_neg {s : Trc} {k : Int} (h : k < 0) : chain s k = [] := chF_neg h _
theorem chain_step {s : Trc} (hb : BkOk s) {k : Nat} (hk : k < s.2.length) : chain s (k : Int) = s.1.getD k str0 :: chain s (s.2.getD k (-1)) := by
  have h3 := hb k hk
  have h1 : ((k : Int) + 1).toNat = k + 1 := by omega
  have h2 : (k : Int).toNat = k := by omega
  simp only [chain]
  rw [h1, chF, if_neg (by omega), h2]
  congr 1
  exact chF_more hb _ _ _ (by omega) (Nat.le_refl _) (by omega)
theorem chain_len {s : Trc} : ∀ (n : Nat) (k : Int), (chF s n k).length ≤ n
  | 0, _ => Nat.le_refl _
  | n + 1, k => by
    rw [chF]
    split
    · exact Nat.zero_le _
    · rw [List.length_cons]; have := chain_len (s := s) n (s.2.getD k.toNat (-1)); omega
def canPath (l : List Use) (a b : ByteArray) : Bool := areU l && !(a.toList == b.toList) && decide (fnd b (trF false l a).1 < (trF false l a).1.length)
def pathF (l : List Use) (a b : ByteArray) : List ByteArray × Bool := (if canPath l a b then (chain (trF false l a) (fnd b (trF false l a).1 : Int)).reverse else [], canPath l a b)
theorem trF_bk (l : List Use) (a : ByteArray) : BkOk (trF false l a) := trTo_bk false l a _
theorem trF_ok (l : List Use) (a : ByteArray) : TrOk false l a (trF false l a) := trTo_ok false l a _
theorem pathF_len (l : List Use) (a b : ByteArray) : (pathF l a b).1.length ≤ l.length + 1 := by
  unfold pathF
  split
  · rename_i h
    have h1 : fnd b (trF false l a).1 < (trF false l a).1.length := by simp only [canPath, Bool.and_eq_true, decide_eq_true_eq] at h; exact h.2
    have h2 := (trF_ok l a).le
    rw [List.length_reverse]
    have h3 := chain_len (s := trF false l a) (((fnd b (trF false l a).1 : Nat) : Int) + 1).toNat (fnd b (trF false l a).1 : Int)
    simp only [chain]
    omega
  · simp
end Go.Proofs.Ytbmfhdncifcieaa
