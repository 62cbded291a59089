/- The numbers below n, in order; parts of slices. Conditions: none. -/
import Derived.Test.YtfplgagdjdhopaaNearI
import Derived.Deep.RegionHeld3
namespace Go.Proofs.Ytfplgagdjdhopaa
open Go.RowKit Go.ChangeShapes Go.WideShapes Go.Deep
set_option linter.unusedVariables false
set_option linter.unusedSimpArgs false

/-- The numbers below n, in order. -/
def idxs (n : Nat) : List Int := (List.range n).map fun (i : Nat) => (i : Int)
theorem idxs_len (n : Nat) : (idxs n).length = n := by simp [idxs]
theorem idxs_succ (n : Nat) : idxs (n + 1) = idxs n ++ [(n : Int)] := by simp [idxs, List.range_succ]
theorem idxs_mem {n : Nat} {a : Int} : a ∈ idxs n ↔ ∃ k : Nat, k < n ∧ a = k := by
  simp only [idxs, List.mem_map, List.mem_range]
  exact ⟨fun ⟨k, h1, h2⟩ => ⟨k, h1, h2.symm⟩, fun ⟨k, h1, h2⟩ => ⟨k, h1, h2.symm⟩⟩
theorem idxs_nodup (n : Nat) : (idxs n).Nodup := by
  unfold idxs
  rw [List.Nodup, List.pairwise_map]
  exact List.nodup_range.imp fun h e => h (by omega)
theorem Rd.drop_at {T : Type} {E : Enc T} {w : World} {b o o' : Nat} {l : List T} {k c : Nat} (h : Rd E w (some ⟨b, o, none⟩) l) (ho : o' = o + k * E.sz) (hc : l.length ≤ c) : Rd E w (if c = k then some ⟨b, o, none⟩ else some ⟨b, o', none⟩) (l.drop k) := by
  subst ho
  intro hl
  rw [List.length_drop] at hl
  rw [if_neg (by omega)]
  exact Rd.drop (k := k) h (fun _ => rfl) (by rw [List.length_drop]; exact hl)
end Go.Proofs.Ytfplgagdjdhopaa
