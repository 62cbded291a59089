/- Moves undone, moves one after the other: UndoMove and ApplyMoves of the program and of the reference return what plain functions return. Conditions: none. -/
import Derived.Test.YtfbfhccgohmeiaaApl
namespace Go.Proofs.Ytfbfhccgohmeiaa
open Go.RowKit Go.ChangeShapes Go.WideShapes Go.Deep
set_option linter.unusedVariables false
set_option linter.unusedSimpArgs false

theorem applyF_len (l : List Hold) (x : Mv) : (applyF l x).1.length ≤ 60 := by
  simp only [applyF]
  split
  · rename_i h
    simp only [canMv, Bool.and_eq_true] at h
    exact areH_len h.2
  · simp
theorem applyF_ok {l : List Hold} {x : Mv} (hl : ∀ y ∈ l, y.Ok) (hx : x.Ok) : ∀ y ∈ (applyF l x).1, y.Ok := by
  simp only [applyF]
  split
  · rename_i h
    simp only [canMv, Bool.and_eq_true] at h
    exact mv_ok h.1 hl hx
  · simp
def backM (x : Mv) : Mv := ⟨x.day, x.it, x.ba, x.tt, x.ff, x.q⟩
def undoF (l : List Hold) (x : Mv) : List Hold × Bool := applyF l (backM x)
theorem backM_ok {x : Mv} (h : x.Ok) : (backM x).Ok := by
  obtain ⟨a, b, c, d, e, f, g, i⟩ := h
  exact ⟨a, b, c, e, d, f, g, i⟩

set_option maxHeartbeats 2000000 in
theorem undoMove_impl (l : List Hold) (A : Option Addr) (c : Nat) (x : Mv) (w : World) (h : Rd Hold.E w A l) (hok : ∀ y ∈ l, y.Ok) (hn : l.length ≤ 4194304) (hx : x.Ok) :
    Calls Try.prog 33 #[.slice A l.length c, x.v] w fun e w' => ∃ A' c', e = .returned (.tuple #[.slice A' (undoF l x).1.length c', .bool (undoF l x).2]) ∧ Own Hold.E 60 w' w.heap.size (.slice A' (undoF l x).1.length c') (undoF l x).1 ∧ Grew w w' := by
  have HL := Lib.hid h
  have HOK := Lib.hid hok
  have HXO := Lib.hid hx
  clear h hok hx
  go_enter Try.func33, Try.ntmps33
  go_wp2_with fail
  refine (applyMove_impl l _ _ (backM x) _ (HL.out.grew (by (repeat (with_reducible first | exact Grew.refl _ | assumption | apply Grew.alloc | apply Grew.drew | apply Grew.drewN | (refine Grew.setCell ?_ (by simp; try omega) _) | (refine Grew.trans ?_ (by assumption)))))) HOK.out hn (backM_ok HXO.out)).mono ?_; rintro e w1 ⟨A1, c1, rfl, ho, h1⟩
  have HO := Lib.hid ho
  have H1 := Lib.hid h1
  clear ho h1
  go_wp2_with fail
  go_ret2
  go_light
  exact ⟨A1, c1, rfl, HO.out.mono (by simp), Grew.trans (by (repeat (with_reducible first | exact Grew.refl _ | assumption | apply Grew.alloc | apply Grew.drew | apply Grew.drewN | (refine Grew.setCell ?_ (by simp; try omega) _) | (refine Grew.trans ?_ (by assumption))))) H1.out⟩
set_option maxHeartbeats 2000000 in
theorem undoMove_spec (l : List Hold) (A : Option Addr) (c : Nat) (x : Mv) (w : World) (h : Rd Hold.E w A l) (hok : ∀ y ∈ l, y.Ok) (hn : l.length ≤ 4194304) (hx : x.Ok) (hlc : l.length ≤ c) (hcm : c ≤ maxLen) :
    Calls Try.prog 32 #[.slice A l.length c, x.v] w fun e w' => ∃ A' c', e = .returned (.tuple #[.slice A' (undoF l x).1.length c', .bool (undoF l x).2]) ∧ Own Hold.E 60 w' w.heap.size (.slice A' (undoF l x).1.length c') (undoF l x).1 ∧ Grew w w' := by
  have HL := Lib.hid h
  have HOK := Lib.hid hok
  have HXO := Lib.hid hx
  clear h hok hx
  go_enter Try.func32, Try.ntmps32
  go_wp2_with fail
  refine (applyMove_spec l _ _ (backM x) _ (HL.out.grew (by (repeat (with_reducible first | exact Grew.refl _ | assumption | apply Grew.alloc | apply Grew.drew | apply Grew.drewN | (refine Grew.setCell ?_ (by simp; try omega) _) | (refine Grew.trans ?_ (by assumption)))))) HOK.out hn (backM_ok HXO.out) hlc hcm).mono ?_; rintro e w1 ⟨A1, c1, rfl, ho, h1⟩
  have HO := Lib.hid ho
  have H1 := Lib.hid h1
  clear ho h1
  go_wp2_with fail
  go_ret2
  go_light
  exact ⟨A1, c1, rfl, HO.out.mono (by simp; try omega), Grew.trans (by (repeat (with_reducible first | exact Grew.refl _ | assumption | apply Grew.alloc | apply Grew.drew | apply Grew.drewN | (refine Grew.setCell ?_ (by simp; try omega) _) | (refine Grew.trans ?_ (by assumption))))) H1.out⟩

/-- Moves one after the other from nothing on; what fails is left out and counted. -/
def amTo (l : List Mv) : Nat → List Hold × Int
  | 0 => ([], 0)
  | k + 1 => if (applyF (amTo l k).1 (l.getD k mv0)).2 then ((applyF (amTo l k).1 (l.getD k mv0)).1, (amTo l k).2) else ((amTo l k).1, (amTo l k).2 + 1)
def amF (l : List Mv) : List Hold × Int := if (l.length : Int) ≤ 60 then amTo l l.length else ([], 0)
theorem amTo_len (l : List Mv) : ∀ k, (amTo l k).1.length ≤ 60
  | 0 => by simp [amTo]
  | k + 1 => by
    simp only [amTo]
    split
    · exact applyF_len _ _
    · exact amTo_len l k
theorem amF_len (l : List Mv) : (amF l).1.length ≤ 60 := by
  unfold amF
  split
  · exact amTo_len l _
  · simp
theorem amTo_cnt (l : List Mv) : ∀ k, 0 ≤ (amTo l k).2 ∧ (amTo l k).2 ≤ k
  | 0 => by simp [amTo]
  | k + 1 => by
    have := amTo_cnt l k
    simp only [amTo]
    split <;> simp only <;> omega
theorem amTo_ok {l : List Mv} (h : ∀ x ∈ l, x.Ok) : ∀ k, k ≤ l.length → ∀ y ∈ (amTo l k).1, y.Ok
  | 0, _ => by simp [amTo]
  | k + 1, hk => by
    have ih := amTo_ok h k (by omega)
    simp only [amTo]
    split
    · refine applyF_ok ih ?_
      have hx : l[k]? = some l[k] := List.getElem?_eq_getElem (by omega)
      rw [List.getD_eq_getElem?_getD, hx]
      exact h _ (List.getElem_mem _)
    · exact ih

set_option maxHeartbeats 4000000 in
theorem applyMoves_impl (l : List Mv) (A : Option Addr) (c : Nat) (w : World) (h : Rd Mv.E w A l) (hok : ∀ y ∈ l, y.Ok) (hn : l.length ≤ 4194304) :
    Calls Try.prog 35 #[.slice A l.length c] w fun e w' => ∃ A' c', e = .returned (.tuple #[.slice A' (amF l).1.length c', .int .i64 (amF l).2]) ∧ Own Hold.E 60 w' w.heap.size (.slice A' (amF l).1.length c') (amF l).1 ∧ Grew w w' := by
  have HL := Lib.hid h
  have HOK := Lib.hid hok
  clear h hok
  by_cases hl : (60 : Int) < (l.length : Int)
  · have HF := Lib.hid (show amF l = ([], 0) by simp only [amF]; rw [if_neg (by omega)])
    have hl2 : decide ((l.length : Int) ≤ 60) = false := by simp; omega
    have hl3 : decide ((0 : Int) < (l.length : Int)) = true := by simp; omega
    go_enter Try.func35, Try.ntmps35
    go_wp2_with fail
    first
    | (go_ret2
       go_light
       exact ⟨none, 0, by rw [HF.out]; rfl, by rw [HF.out]; exact Own.none_, Grew.refl _⟩)
    | (go_loopw [4, 5, 6] (fun v f i wr => i = .int .i64 0 ∧ f = .int .i64 0 ∧ v = .slice (some ⟨w.heap.size, 0, none⟩) 0 0 ∧ wr = w.alloc (.cells #[] 60)) (fun _ _ _ _ => 0)
       case atStart => exact ⟨rfl, rfl, rfl, rfl⟩
       case round =>
         obtain ⟨rfl, rfl, rfl, rfl⟩ := hrel
         go_wp2_with fail
         go_ret2
         go_light
         exact ⟨some ⟨w.heap.size, 0, none⟩, 0, by rw [HF.out]; rfl, by rw [HF.out]; exact Own.new_ (Nat.le_refl _), (Grew.refl _).alloc _⟩)
  have HF := Lib.hid (show amF l = amTo l l.length by simp only [amF]; rw [if_pos (by omega)])
  have HLE := Lib.hid (amTo_len l)
  have HCN := Lib.hid (amTo_cnt l)
  have HAO := Lib.hid (amTo_ok HOK.out)
  have hl2 : decide ((l.length : Int) ≤ 60) = true := by simp; omega
  go_enter Try.func35, Try.ntmps35
  go_wp2_with fail
  go_loopw [4, 5, 16] (fun v f i wr => ∃ k : Nat, k ≤ l.length ∧ i = .int .i64 k ∧ f = .int .i64 (amTo l k).2 ∧ Own Hold.E 60 wr w.heap.size v (amTo l k).1 ∧ Grew w wr) (fun _ _ i _ => l.length - (intOf i).toNat)
  case atStart => exact ⟨0, Nat.zero_le _, rfl, rfl, Own.new_ (Nat.le_refl _), (Grew.refl _).alloc _⟩
  case round =>
    obtain ⟨k, hk, rfl, rfl, hown, hg⟩ := hrel
    have HO' := Lib.hid hown
    have HG := Lib.hid hg
    have hle := HLE.out k
    have hc1 := (HCN.out k).1
    have hc2 := (HCN.out k).2
    have HAOK := Lib.hid (HAO.out k hk)
    clear hown hg
    by_cases hlt : k < l.length
    · obtain ⟨x, hx⟩ : ∃ x, l[k]? = some x := ⟨_, List.getElem?_eq_getElem hlt⟩
      have HK : Hid (amTo l (k + 1) = if (applyF (amTo l k).1 x).2 then ((applyF (amTo l k).1 x).1, (amTo l k).2) else ((amTo l k).1, (amTo l k).2 + 1)) := Lib.hid (by simp [amTo, List.getD_eq_getElem?_getD, hx])
      have HXO := Lib.hid (HOK.out x (List.mem_of_getElem? hx))
      obtain ⟨b, o, rfl, hb, hc⟩ := (HL.out.grew HG.out).at_ hlt
      obtain ⟨hc0, hc1', hc2', hc3, hc4, hc5⟩ := Mv.at_ hc hx
      clear hx hc
      generalize amTo l k = r at *
      obtain ⟨out, n⟩ := r
      simp only at *
      obtain ⟨A0, c0, rfl⟩ := HO'.out.slice
      have HO := HO'
      have hd : decide ((k : Int) < (l.length : Int)) = true := by simp; omega
      have hi1 : (0 : Int) ≤ (k : Int) := by omega
      have hi2 : (k : Int) < (l.length : Int) := by omega
      go_wp2_with fail
      refine (applyMove_impl out _ _ x _ (HO.out.rd.grew (by (repeat (with_reducible first | exact Grew.refl _ | assumption | apply Grew.alloc | apply Grew.drew | apply Grew.drewN | (refine Grew.setCell ?_ (by simp; try omega) _) | (refine Grew.trans ?_ (by assumption)))))) HAOK.out (by omega) HXO.out ).mono ?_; rintro e w1 ⟨A1, c1, rfl, ho1, h1⟩
      have HO1 := Lib.hid (ho1.mono (HG.out.alloc _).le)
      have H1 := Lib.hid h1
      clear ho1 hc0 hc1' hc2' hc3 hc4 hc5 hb
      cases hz : (applyF out x).2
      · go_wp2_with fail
        go_roundw
        case rel =>
          go_light
          exact ⟨k + 1, by omega, by go_num, by rw [HK.out, if_neg (by rw [hz]; decide)], by rw [HK.out, if_neg (by rw [hz]; decide)]; exact (Own.grew (HO.out.alloc _) H1.out), (HG.out.alloc _).trans H1.out⟩
        case measure => go_light; simp [intOf]; omega
      · go_wp2_with fail
        go_roundw
        case rel =>
          go_light
          exact ⟨k + 1, by omega, by go_num, by rw [HK.out, if_pos hz], by rw [HK.out, if_pos hz]; exact HO1.out, (HG.out.alloc _).trans H1.out⟩
        case measure => go_light; simp [intOf]; omega
    · obtain rfl : k = l.length := by omega
      have hd : decide ((l.length : Int) < (l.length : Int)) = false := by simp
      obtain ⟨A0, c0, rfl⟩ := HO'.out.slice
      go_wp2_with fail
      go_ret2
      go_light
      exact ⟨A0, c0, by rw [HF.out]; rfl, by rw [HF.out]; exact HO'.out, HG.out⟩
set_option maxHeartbeats 4000000 in
theorem applyMoves_spec (l : List Mv) (A : Option Addr) (c : Nat) (w : World) (h : Rd Mv.E w A l) (hok : ∀ y ∈ l, y.Ok) (hn : l.length ≤ 4194304) :
    Calls Try.prog 34 #[.slice A l.length c] w fun e w' => ∃ A' c', e = .returned (.tuple #[.slice A' (amF l).1.length c', .int .i64 (amF l).2]) ∧ Own Hold.E 60 w' w.heap.size (.slice A' (amF l).1.length c') (amF l).1 ∧ Grew w w' := by
  have HL := Lib.hid h
  have HOK := Lib.hid hok
  clear h hok
  by_cases hl : (60 : Int) < (l.length : Int)
  · have HF := Lib.hid (show amF l = ([], 0) by simp only [amF]; rw [if_neg (by omega)])
    have hl2 : decide ((l.length : Int) ≤ 60) = false := by simp; omega
    have hl3 : decide ((0 : Int) < (l.length : Int)) = true := by simp; omega
    go_enter Try.func34, Try.ntmps34
    go_wp2_with fail
    first
    | (go_ret2
       go_light
       exact ⟨none, 0, by rw [HF.out]; rfl, by rw [HF.out]; exact Own.none_, Grew.refl _⟩)
    | (go_loopw [4, 5, 6] (fun v f i wr => i = .int .i64 0 ∧ f = .int .i64 0 ∧ v = .slice (some ⟨w.heap.size, 0, none⟩) 0 0 ∧ wr = w.alloc (.cells #[] 60)) (fun _ _ _ _ => 0)
       case atStart => exact ⟨rfl, rfl, rfl, rfl⟩
       case round =>
         obtain ⟨rfl, rfl, rfl, rfl⟩ := hrel
         go_wp2_with fail
         go_ret2
         go_light
         exact ⟨some ⟨w.heap.size, 0, none⟩, 0, by rw [HF.out]; rfl, by rw [HF.out]; exact Own.new_ (Nat.le_refl _), (Grew.refl _).alloc _⟩)
  have HF := Lib.hid (show amF l = amTo l l.length by simp only [amF]; rw [if_pos (by omega)])
  have HLE := Lib.hid (amTo_len l)
  have HCN := Lib.hid (amTo_cnt l)
  have HAO := Lib.hid (amTo_ok HOK.out)
  have hl2 : decide ((l.length : Int) ≤ 60) = true := by simp; omega
  go_enter Try.func34, Try.ntmps34
  go_wp2_with fail
  go_loopw [4, 5, 6] (fun v f i wr => ∃ k : Nat, k ≤ l.length ∧ i = .int .i64 k ∧ f = .int .i64 (amTo l k).2 ∧ Own Hold.E 60 wr w.heap.size v (amTo l k).1 ∧ Grew w wr) (fun _ _ i _ => l.length - (intOf i).toNat)
  case atStart => exact ⟨0, Nat.zero_le _, rfl, rfl, Own.new_ (Nat.le_refl _), (Grew.refl _).alloc _⟩
  case round =>
    obtain ⟨k, hk, rfl, rfl, hown, hg⟩ := hrel
    have HO' := Lib.hid hown
    have HG := Lib.hid hg
    have hle := HLE.out k
    have hc1 := (HCN.out k).1
    have hc2 := (HCN.out k).2
    have HAOK := Lib.hid (HAO.out k hk)
    clear hown hg
    by_cases hlt : k < l.length
    · obtain ⟨x, hx⟩ : ∃ x, l[k]? = some x := ⟨_, List.getElem?_eq_getElem hlt⟩
      have HK : Hid (amTo l (k + 1) = if (applyF (amTo l k).1 x).2 then ((applyF (amTo l k).1 x).1, (amTo l k).2) else ((amTo l k).1, (amTo l k).2 + 1)) := Lib.hid (by simp [amTo, List.getD_eq_getElem?_getD, hx])
      have HXO := Lib.hid (HOK.out x (List.mem_of_getElem? hx))
      obtain ⟨b, o, rfl, hb, hc⟩ := (HL.out.grew HG.out).at_ hlt
      obtain ⟨hc0, hc1', hc2', hc3, hc4, hc5⟩ := Mv.at_ hc hx
      clear hx hc
      generalize amTo l k = r at *
      obtain ⟨out, n⟩ := r
      simp only at *
      obtain ⟨A0, c0, rfl⟩ := HO'.out.slice
      have HO := HO'
      have hd : decide ((k : Int) < (l.length : Int)) = true := by simp; omega
      have hi1 : (0 : Int) ≤ (k : Int) := by omega
      have hi2 : (k : Int) < (l.length : Int) := by omega
      go_wp2_with fail
      refine (applyMove_spec out _ _ x _ (HO.out.rd.grew (by (repeat (with_reducible first | exact Grew.refl _ | assumption | apply Grew.alloc | apply Grew.drew | apply Grew.drewN | (refine Grew.setCell ?_ (by simp; try omega) _) | (refine Grew.trans ?_ (by assumption)))))) HAOK.out (by omega) HXO.out HO.out.cap.2.1 HO.out.cap.2.2).mono ?_; rintro e w1 ⟨A1, c1, rfl, ho1, h1⟩
      have HO1 := Lib.hid (ho1.mono (HG.out).le)
      have H1 := Lib.hid h1
      clear ho1 hc0 hc1' hc2' hc3 hc4 hc5 hb
      cases hz : (applyF out x).2
      · go_wp2_with fail
        go_roundw
        case rel =>
          go_light
          exact ⟨k + 1, by omega, by go_num, by rw [HK.out, if_neg (by rw [hz]; decide)], by rw [HK.out, if_neg (by rw [hz]; decide)]; exact (Own.grew (HO.out) H1.out), (HG.out).trans H1.out⟩
        case measure => go_light; simp [intOf]; omega
      · go_wp2_with fail
        go_roundw
        case rel =>
          go_light
          exact ⟨k + 1, by omega, by go_num, by rw [HK.out, if_pos hz], by rw [HK.out, if_pos hz]; exact HO1.out, (HG.out).trans H1.out⟩
        case measure => go_light; simp [intOf]; omega
    · obtain rfl : k = l.length := by omega
      have hd : decide ((l.length : Int) < (l.length : Int)) = false := by simp
      obtain ⟨A0, c0, rfl⟩ := HO'.out.slice
      go_wp2_with fail
      go_ret2
      go_light
      exact ⟨A0, c0, by rw [HF.out]; rfl, by rw [HF.out]; exact HO'.out, HG.out⟩
end Go.Proofs.Ytfbfhccgohmeiaa
