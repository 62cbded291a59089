/- Slices of int: the marks that the laws write into a result's own memory, and their reading back. Conditions: none. -/
import Derived.Test.YtfplgagdjdhopaaInts
namespace Go.Proofs.Ytfplgagdjdhopaa
open Go.RowKit Go.ChangeShapes Go.WideShapes Go.Deep
set_option linter.unusedVariables false
set_option linter.unusedSimpArgs false

theorem flat_ints (l : List Int) : flat IntS.E l = l.map (Value.int .i64) := by
  induction l with
  | nil => rfl
  | cons x l ih => simp [flat, IntS.E] at ih ⊢; exact ih
def upTo (k : Int) (n : Nat) : List Int := (List.range n).map fun (i : Nat) => k + i
/-- The first j elements marked. -/
def mkd (k : Int) (l : List Int) (j : Nat) : List Int := upTo k j ++ l.drop j
theorem mkd_length {k : Int} {l : List Int} {j : Nat} (hj : j ≤ l.length) : (mkd k l j).length = l.length := by simp [mkd, upTo]; omega
theorem mkd_set {k : Int} {l : List Int} {j : Nat} (hj : j < l.length) : (mkd k l j).set j (k + j) = mkd k l (j + 1) := by
  have h1 : (upTo k j).length = j := by simp [upTo]
  simp only [mkd]
  rw [List.set_append_right _ _ (by omega), h1, Nat.sub_self, List.drop_eq_getElem_cons hj, List.set_cons_zero]
  simp [upTo, List.range_succ]

set_option maxHeartbeats 1000000 in
theorem markIntS_any (l : List Int) (base g c : Nat) (k : Int) (w : World) (h : Own IntS.E 3 w base (.slice (some ⟨g, 0, none⟩) l.length c) l) (h0 : 0 ≤ k) (hk : k ≤ 1099511627776) (hn : l.length ≤ 4194304) :
    Calls Try.prog 20 #[.slice (some ⟨g, 0, none⟩) l.length c, .int .i64 k] w fun e w' => e = .returned (.int .i64 (k + l.length)) ∧
      Own IntS.E 3 w' base (.slice (some ⟨g, 0, none⟩) l.length c) (upTo k l.length) ∧ w.grownBy w' (some g) := by
  have H := Lib.hid h
  clear h
  go_enter Try.func20, Try.ntmps20
  go_wp2_with fail
  go_loopw [1, 5] (fun t i wr => ∃ j : Nat, j ≤ l.length ∧ i = .int .i64 j ∧ t = .int .i64 (k + j) ∧ wr.ownsRow base 3 1 (.slice (some ⟨g, 0, none⟩) l.length c) l.length (flat IntS.E (mkd k l j)) ∧ w.grownBy wr (some g)) (fun _ i _ => l.length - (intOf i).toNat)
  case atStart => exact ⟨0, Nat.zero_le _, rfl, by simp, by have h9 := H.out; unfold Own at h9; rw [show mkd k l 0 = l by simp [mkd, upTo]]; exact h9, World.grownBy.refl _ _⟩
  case round =>
    obtain ⟨j, hj, rfl, rfl, hown, hgr⟩ := hrel
    have HO := Lib.hid hown
    have HG := Lib.hid hgr
    clear hown hgr
    by_cases hlt : j < l.length
    · have HE := Lib.hid (show flat IntS.E (mkd k l (j + 1)) = (flat IntS.E (mkd k l j)).set j (.int .i64 (k + j)) by rw [flat_ints, flat_ints, ← List.map_set, mkd_set hlt])
      obtain ⟨u0, hu0⟩ : ∃ u, wr.cell? ⟨g, j, none⟩ = some u := by
        rw [HO.out.cellAt j (by omega)]
        exact ⟨_, List.getElem?_eq_getElem (by rw [flat_length, mkd_length hj]; simp [IntS.E]; omega)⟩
      have hf2 : ∀ j, wr.frozen? ⟨g, j, none⟩ = false := fun j => HO.out.frozenAt j
      go_wp2_with fail
      go_roundw
      case rel =>
        go_light
        have h5 := HO.out.stored j (.int .i64 (k + j))
        refine ⟨j + 1, by omega, by go_num, by congr 1; push_cast; omega, ?_, HG.out.trans h5.2⟩
        rw [HE.out]
        exact h5.1
      case measure => go_light; simp [intOf]; omega
    · obtain rfl : j = l.length := by omega
      go_wp2_with fail
      go_ret
      go_light
      refine ⟨rfl, ?_, HG.out⟩
      have := HO.out
      simp only [mkd, List.drop_length, List.append_nil] at this
      have hl : (upTo k l.length).length = l.length := by simp [upTo]
      unfold Own
      rw [hl]
      exact this

set_option maxHeartbeats 1000000 in
theorem heldIntS_any (n : Nat) (A : Option Addr) (c : Nat) (k : Int) (w : World) (h : Rd IntS.E w A (upTo k n)) (h0 : 0 ≤ k) (hk : k ≤ 1099511627776) (hn : n ≤ 4194304) :
    Calls Try.prog 21 #[.slice A n c, .int .i64 k] w fun e w' => e = .returned (.int .i64 (k + n)) ∧ w = w' := by
  have H := Lib.hid h
  clear h
  go_enter Try.func21, Try.ntmps21
  go_wp2_with fail
  go_loopw [1, 5] (fun t i wr => ∃ j : Nat, j ≤ n ∧ i = .int .i64 j ∧ t = .int .i64 (k + j) ∧ wr = w) (fun _ i _ => n - (intOf i).toNat)
  case atStart => exact ⟨0, Nat.zero_le _, rfl, by simp, rfl⟩
  case round =>
    obtain ⟨j, hj, rfl, rfl, rfl⟩ := hrel
    by_cases hlt : j < n
    · have hx : (upTo k n)[j]? = some (k + j) := by simp [upTo, List.getElem?_range hlt]
      obtain ⟨b, o, rfl, hb, hc⟩ := H.out.at_ (k := j) (by simpa [upTo] using hlt)
      have hc0 := IntS.at_ hc hx
      clear hx hc
      go_wp2_with fail
      go_roundw
      case rel => go_light; exact ⟨j + 1, by omega, by go_num, by congr 1; push_cast; omega, by first | rfl | trivial⟩
      case measure => go_light; simp [intOf]; omega
    · obtain rfl : j = n := by omega
      go_wp2_with fail
      go_ret
      go_light
      exact ⟨rfl, rfl⟩

set_option maxHeartbeats 400000 in
theorem markIntS_nil (A : Option Addr) (c : Nat) (k : Int) (w : World) (h0 : 0 ≤ k) :
    Calls Try.prog 20 #[.slice A 0 c, .int .i64 k] w fun e w' => e = .returned (.int .i64 k) ∧ w = w' := by
  go_enter Try.func20, Try.ntmps20
  go_wp2_with fail
  go_loopw [1, 5] (fun t i wr => i = .int .i64 0 ∧ t = .int .i64 k ∧ wr = w) (fun _ i _ => 0)
  case atStart => exact ⟨rfl, rfl, rfl⟩
  case round =>
    obtain ⟨rfl, rfl, rfl⟩ := hrel
    go_wp2_with fail
    go_ret
    go_light
    exact ⟨rfl, rfl⟩
end Go.Proofs.Ytfplgagdjdhopaa
