/- slices.Reverse on strings of the call's own. Conditions: none. -/
import Derived.Test.YtbmfhdncifcieaaPath
import Derived.Test.YtbmfhdncifcieaaOwn
namespace Go.Proofs.Ytbmfhdncifcieaa
open Go.RowKit Go.ChangeShapes Go.WideShapes Go.Deep
set_option linter.unusedVariables false
set_option linter.unusedSimpArgs false

/-- r is l with its first k and last k elements changed about. -/
def RevTo {T : Type} (l r : List T) (k : Nat) : Prop := r.length = l.length ∧ ∀ j, j < l.length → r[j]? = if j < k ∨ l.length - k ≤ j then l[l.length - 1 - j]? else l[j]?
theorem RevTo.start {T : Type} (l : List T) : RevTo l l 0 := ⟨rfl, fun j hj => by rw [if_neg (by omega)]⟩
theorem RevTo.done {T : Type} {l r : List T} {k : Nat} (h : RevTo l r k) (hk : l.length ≤ 2 * k + 1) : r = l.reverse := by
  apply List.ext_getElem?
  intro j
  by_cases hj : j < l.length
  · rw [h.2 j hj, List.getElem?_reverse hj]
    split
    · rfl
    · have : j = l.length - 1 - j := by omega
      rw [← this]
  · rw [List.getElem?_eq_none (by rw [h.1]; omega), List.getElem?_eq_none (by rw [List.length_reverse]; omega)]
theorem RevTo.step {T : Type} {l r : List T} {k m : Nat} {x y : T} (h : RevTo l r k) (hm : m + k + 1 = l.length) (hk : k < m) (hx : r[k]? = some x) (hy : r[m]? = some y) : RevTo l ((r.set k y).set m x) (k + 1) := by
  refine ⟨by simp [h.1], fun j hj => ?_⟩
  have h1 := h.2 k (by omega)
  have h2 := h.2 m (by omega)
  rw [if_neg (by omega), hx] at h1
  rw [if_neg (by omega), hy] at h2
  by_cases e1 : j = m
  · subst e1
    rw [List.getElem?_set_self (by simp [h.1]; omega), if_pos (by omega), show l.length - 1 - j = k by omega, h1]
  · rw [List.getElem?_set_ne (by omega)]
    by_cases e2 : j = k
    · subst e2
      rw [List.getElem?_set_self (by rw [h.1]; omega), if_pos (by omega), show l.length - 1 - j = m by omega, h2]
    · rw [List.getElem?_set_ne (by omega), h.2 j hj]
      by_cases e3 : j < k ∨ l.length - k ≤ j
      · rw [if_pos e3, if_pos (by omega)]
      · rw [if_neg e3, if_neg (by omega)]
theorem grownBy_set {w w' : World} {row : Option Nat} {g i : Nat} {u : Value} (h : w.grownBy w' row) (hr : row = some g) : w.grownBy (w'.setCell ⟨g, i, none⟩ u) row := by
  refine h.trans ?_
  exact ⟨rfl, rfl, rfl, by simp, fun k _ hk => heap_setCell_other w' ⟨g, i, none⟩ k u (fun e => hk (by rw [hr, e]))⟩

set_option maxHeartbeats 4000000 in
theorem reverse_any (l : List ByteArray) (A : Option Addr) (c base : Nat) (w : World) (h : Own Str.E 9 w base (.slice A l.length c) l) (hn : l.length ≤ 4194305) :
    Calls Try.prog 42 #[.slice A l.length c] w fun e w' => ∃ v, e = .returned v ∧ Own Str.E 9 w' base (.slice A l.length c) l.reverse ∧ w.grownBy w' (Value.ownBlock (.slice A l.length c)) := by
  rcases Nat.eq_zero_or_pos l.length with h0 | h0
  · obtain rfl : l = [] := List.eq_nil_of_length_eq_zero h0
    have HO := Lib.hid h
    clear h h0
    go_enter Try.func42, Try.ntmps42
    go_wp2_with fail
    go_loopw [2, 3] (fun i j wr => i = .int .i64 0 ∧ j = .int .i64 (-1) ∧ w = wr) (fun _ _ _ => 0)
    case atStart => exact ⟨rfl, rfl, rfl⟩
    case round =>
      obtain ⟨rfl, rfl, rfl⟩ := hrel
      go_wp2_with fail
      (try simp only [Exit.inBlock, Exit.then])
      refine bodyPost_end (results_none rfl _ _ _) rfl ?_
      go_light
      exact ⟨_, rfl, HO.out, World.grownBy.refl _ _⟩
  obtain ⟨g, c', e, hbg, hgw⟩ := h.addr h0
  simp only [Value.slice.injEq, true_and] at e
  obtain ⟨rfl, rfl⟩ := e
  have HO0 := Lib.hid h
  clear h
  go_enter Try.func42, Try.ntmps42
  go_wp2_with fail
  go_loopw [2, 3] (fun i j wr => ∃ (k m : Nat) (r : List ByteArray), i = .int .i64 k ∧ j = .int .i64 m ∧ m + k + 1 = l.length ∧ k ≤ m + 1 ∧ RevTo l r k ∧ Own Str.E 9 wr base (.slice (some ⟨g, 0, none⟩) l.length c) r ∧ w.grownBy wr (some g)) (fun i j _ => (intOf j).toNat)
  case atStart => exact ⟨0, l.length - 1, l, rfl, by go_num, by omega, by omega, RevTo.start l, HO0.out, World.grownBy.refl _ _⟩
  case round =>
    obtain ⟨k, m, r, rfl, rfl, hm, hkm, hr, hown, hg⟩ := hrel
    have HR := Lib.hid hr
    have HO := Lib.hid hown
    have HG := Lib.hid hg
    have hrl : r.length = l.length := hr.1
    clear hr hown hg
    by_cases hlt : k < m
    · obtain ⟨x, hx⟩ : ∃ x, r[k]? = some x := ⟨_, List.getElem?_eq_getElem (by omega)⟩
      obtain ⟨y, hy⟩ : ∃ y, r[m]? = some y := ⟨_, List.getElem?_eq_getElem (by omega)⟩
      have hc0 : wr.cell? ⟨g, k, none⟩ = some (.string x) := by have := HO.out.at_ hx (j := 0) (u := .string x) rfl; simpa [Str.E] using this
      have hc1 : wr.cell? ⟨g, m, none⟩ = some (.string y) := by have := HO.out.at_ hy (j := 0) (u := .string y) rfl; simpa [Str.E] using this
      have hf := HO.out.frozen
      have HS := Lib.hid (HR.out.step hm hlt hx hy)
      have HX := Lib.hid hx
      have HY := Lib.hid hy
      have hi1 : (k : Int) < (l.length : Int) := by omega
      have hi2 : (m : Int) < (l.length : Int) := by omega
      clear hx hy hrl
      go_wp2_with fail
      go_region
      have hs1 := HO.out.set_ (i := k) (j := 0) (x' := y) (u := .string y) HX.out rfl (by decide)
      rw [show k * Str.E.sz + 0 = k by simp [Str.E]] at hs1
      have hs2 := hs1.set_ (i := m) (j := 0) (x := y) (x' := x) (u := .string x) (by rw [List.getElem?_set_ne (by omega)]; exact HY.out) rfl (by decide)
      rw [show m * Str.E.sz + 0 = m by simp [Str.E]] at hs2
      have HS2 := Lib.hid hs2
      have HG2 := Lib.hid (grownBy_set (i := m) (u := .string x) (grownBy_set (i := k) (u := .string y) HG.out rfl) rfl)
      clear hs1 hs2 hc0 hc1 hf
      go_wp2_with fail
      go_roundw
      case rel => go_light; exact ⟨k + 1, m - 1, _, by go_num, by go_num, by omega, by omega, HS.out, HS2.out.drew, ⟨HG2.out.os, HG2.out.tape, HG2.out.output, HG2.out.size, HG2.out.block⟩⟩
      case measure => go_light; simp [intOf]; omega
    · have HE := Lib.hid (HR.out.done (by omega))
      clear hrl
      go_wp2_with fail
      (try simp only [Exit.inBlock, Exit.then])
      refine bodyPost_end (results_none rfl _ _ _) rfl ?_
      go_light
      exact ⟨_, rfl, by rw [← HE.out]; exact HO.out, HG.out⟩
end Go.Proofs.Ytbmfhdncifcieaa
