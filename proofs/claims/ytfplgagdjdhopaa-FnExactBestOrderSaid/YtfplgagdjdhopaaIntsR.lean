/- Results that are slices of int: the laws' marks on them. Conditions: none. -/
import Derived.Test.YtfplgagdjdhopaaIntsM
import Derived.Test.YtfplgagdjdhopaaApp
import Derived.Test.YtfplgagdjdhopaaOwn
namespace Go.Proofs.Ytfplgagdjdhopaa
open Go.RowKit Go.ChangeShapes Go.WideShapes Go.Deep
set_option linter.unusedVariables false
set_option linter.unusedSimpArgs false

theorem upIntR_length (k : Int) (n : Nat) : (upTo k n).length = n := by simp [upTo]
theorem eqIntRS_any (l m : List IntS) (A B : Option Addr) (c d : Nat) (w : World) (h : Rd IntS.E w A l) (h' : Rd IntS.E w B m) (hn : l.length ≤ 4194304) (hm : m.length ≤ 4194304) :
    Calls Try.prog 16 #[.slice A l.length c, .slice B m.length d] w fun e w' => e = .returned (.bool (decide (l = m))) ∧ Grew w w' := eqIntS_any l m A B c d w h h' hn hm
theorem markIntRS_any (l : List Int) (base : Nat) (A : Option Addr) (c : Nat) (k : Int) (w : World) (h : Own IntS.E 3 w base (.slice A l.length c) l) (h0 : 0 ≤ k) (hk : k ≤ 1073741824) (hn : l.length ≤ 4194304) :
    Calls Try.prog 20 #[.slice A l.length c, .int .i64 k] w fun e w' => e = .returned (.int .i64 (k + l.length)) ∧
      Own IntS.E 3 w' base (.slice A l.length c) (upTo k l.length) ∧ w.grownBy w' (Value.ownBlock (.slice A l.length c)) := by
  rcases Nat.eq_zero_or_pos l.length with hl0 | hl0
  · obtain rfl : l = [] := List.eq_nil_of_length_eq_zero hl0
    refine (markIntS_nil A c k w h0).mono ?_
    rintro e w' ⟨rfl, rfl⟩
    exact ⟨by simp, by simpa [upTo] using h, World.grownBy.refl _ _⟩
  · obtain ⟨g, d, hv, _, _⟩ := h.addr hl0
    simp only [Value.slice.injEq, true_and] at hv
    obtain ⟨rfl, rfl⟩ := hv
    exact markIntS_any l base g c k w h h0 (by omega) hn
theorem heldIntRS_any (n : Nat) (A : Option Addr) (c : Nat) (k : Int) (w : World) (h : Rd IntS.E w A (upTo k n)) (h0 : 0 ≤ k) (hk : k ≤ 1073741824) (hn : n ≤ 4194304) :
    Calls Try.prog 21 #[.slice A n c, .int .i64 k] w fun e w' => e = .returned (.int .i64 (k + n)) ∧ Grew w w' :=
  (heldIntS_any n A c k w h h0 (by omega) hn).mono fun e w' ⟨h1, h2⟩ => ⟨h1, h2 ▸ Grew.refl _⟩
end Go.Proofs.Ytfplgagdjdhopaa
