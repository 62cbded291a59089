/- TracePath of the program returns what a plain function returns. Conditions: none. -/
import Derived.Test.YtbmfhdncifcieaaRev
namespace Go.Proofs.Ytbmfhdncifcieaa
open Go.RowKit Go.ChangeShapes Go.WideShapes Go.Deep
set_option linter.unusedVariables false
set_option linter.unusedSimpArgs false

theorem areUsesE_impl {l : List Use} {v : Bool} (hv : areU l = v) (A : Option Addr) (c : Nat) (w : World) (h : Rd Use.E w A l) (hok : ∀ x ∈ l, x.Ok) (hn : l.length ≤ 4194304) :
    Calls Try.prog 10 #[.slice A l.length c] w fun e w' => e = .returned (.bool v) ∧ Grew w w' := hv ▸ areUses_impl l A c w h hok hn
theorem areUsesE_spec {l : List Use} {v : Bool} (hv : areU l = v) (A : Option Addr) (c : Nat) (w : World) (h : Rd Use.E w A l) (hok : ∀ x ∈ l, x.Ok) (hn : l.length ≤ 4194304) :
    Calls Try.prog 8 #[.slice A l.length c] w fun e w' => e = .returned (.bool v) ∧ Grew w w' := hv ▸ areUses_spec l A c w h hok hn
theorem canPath_no {l : List Use} {a b : ByteArray} (h : canPath l a b = false) : areU l = false ∨ (areU l = true ∧ (a.toList == b.toList) = true) ∨ (areU l = true ∧ (a.toList == b.toList) = false ∧ ¬ fnd b (trF false l a).1 < (trF false l a).1.length) := by
  unfold canPath at h
  cases h1 : areU l
  · exact .inl rfl
  · cases h2 : a.toList == b.toList
    · refine .inr (.inr ⟨rfl, rfl, fun h3 => ?_⟩)
      rw [h1, h2, decide_eq_true h3] at h
      cases h
    · exact .inr (.inl ⟨rfl, rfl⟩)
theorem canPath_yes {l : List Use} {a b : ByteArray} (h : canPath l a b = true) : areU l = true ∧ (a.toList == b.toList) = false ∧ fnd b (trF false l a).1 < (trF false l a).1.length := by
  unfold canPath at h
  simp only [Bool.and_eq_true, Bool.not_eq_true', decide_eq_true_eq] at h
  exact ⟨h.1.1, h.1.2, h.2⟩
theorem areU_len {l : List Use} (h : areU l = true) : l.length ≤ 24 := by
  simp only [areU, Bool.and_eq_true, decide_eq_true_eq] at h
  omega

set_option maxHeartbeats 4000000 in
theorem tracePath_impl (l : List Use) (A : Option Addr) (c : Nat) (a b : ByteArray) (w : World) (h : Rd Use.E w A l) (hok : ∀ x ∈ l, x.Ok) (hn : l.length ≤ 4194304) :
    Calls Try.prog 18 #[.slice A l.length c, .string a, .string b] w fun e w' => ∃ A' c', e = .returned (.tuple #[.slice A' (pathF l a b).1.length c', .bool (pathF l a b).2]) ∧ Own Str.E 9 w' w.heap.size (.slice A' (pathF l a b).1.length c') (pathF l a b).1 ∧ Grew w w' := by
  have HL := Lib.hid h
  have HOK := Lib.hid hok
  clear h hok
  have HLE := Lib.hid (trF_len false l a)
  cases hp : canPath l a b
  · have HF := Lib.hid (show pathF l a b = ([], false) by simp [pathF, hp])
    rcases canPath_no hp with a1 | ⟨a1, a2⟩ | ⟨a1, a2, a3⟩
    all_goals first
      | have hfi : decide (findI b (trF false l a).1 < 0) = true := decide_eq_true (findI_neg.2 a3)
      | skip
    all_goals
      clear hp
      go_enter Try.func18, Try.ntmps18
      go_wp2_with (first | (go_at_call 10; refine (areUsesE_impl a1 _ _ _ (HL.out.grew (by (repeat (with_reducible first | exact Grew.refl _ | assumption | apply Grew.alloc | apply Grew.drew | apply Grew.drewN | (refine Grew.setCell ?_ (by simp; try omega) _) | (refine Grew.trans ?_ (by assumption)))))) HOK.out hn).mono ?_; rintro e w1 ⟨rfl, h1⟩) | (go_at_call 36; refine (reach_impl false l _ _ a _ (HL.out.grew (by (repeat (with_reducible first | exact Grew.refl _ | assumption | apply Grew.alloc | apply Grew.drew | apply Grew.drewN | (refine Grew.setCell ?_ (by simp; try omega) _) | (refine Grew.trans ?_ (by assumption)))))) hn).mono ?_; rintro e w2 ⟨A1, c1, A2, c2, rfl, ho1, ho2, h2⟩) | (go_at_call 37; refine (find_impl b (trF false l a).1 _ _ _ ho1.rd (by have := HLE.out; omega)).mono ?_; rintro e w' ⟨rfl, rfl⟩))
      go_ret2
      go_light
      exact ⟨none, 0, by rw [HF.out]; rfl, by rw [HF.out]; exact Own.none_, by (repeat (with_reducible first | exact Grew.refl _ | assumption | apply Grew.alloc | apply Grew.drew | apply Grew.drewN | (refine Grew.setCell ?_ (by simp; try omega) _) | (refine Grew.trans ?_ (by assumption))))⟩
  obtain ⟨a1, a2, a3⟩ := canPath_yes hp
  have hfi : decide (findI b (trF false l a).1 < 0) = false := decide_eq_false (fun hh => findI_neg.1 hh a3)
  have HFI := Lib.hid (show findI b (trF false l a).1 = ((fnd b (trF false l a).1 : Nat) : Int) by rw [findI, if_pos a3])
  have HF := Lib.hid (show pathF l a b = ((chain (trF false l a) (fnd b (trF false l a).1 : Int)).reverse, true) by simp [pathF, hp])
  have HPL := Lib.hid (pathF_len l a b)
  have HA3 := Lib.hid a3
  have HBK := Lib.hid (trF_bk l a)
  have HTO := Lib.hid (trF_ok l a).len
  have h24 := areU_len a1
  have HCH := Lib.hid (show (chain (trF false l a) (fnd b (trF false l a).1 : Int)).length ≤ l.length + 1 by have h7 := HPL.out; rw [HF.out] at h7; simpa using h7)
  clear hp a3
  go_enter Try.func18, Try.ntmps18
  go_wp2_with (first | (go_at_call 10; refine (areUsesE_impl a1 _ _ _ (HL.out.grew (by (repeat (with_reducible first | exact Grew.refl _ | assumption | apply Grew.alloc | apply Grew.drew | apply Grew.drewN | (refine Grew.setCell ?_ (by simp; try omega) _) | (refine Grew.trans ?_ (by assumption)))))) HOK.out hn).mono ?_; rintro e w1 ⟨rfl, h1⟩) | (go_at_call 36; refine (reach_impl false l _ _ a _ (HL.out.grew (by (repeat (with_reducible first | exact Grew.refl _ | assumption | apply Grew.alloc | apply Grew.drew | apply Grew.drewN | (refine Grew.setCell ?_ (by simp; try omega) _) | (refine Grew.trans ?_ (by assumption)))))) hn).mono ?_; rintro e w2 ⟨A1, c1, A2, c2, rfl, ho1, ho2, h2⟩) | (go_at_call 37; refine (find_impl b (trF false l a).1 _ _ _ ho1.rd (by have := HLE.out; omega)).mono ?_; rintro e w' ⟨rfl, rfl⟩))
  have HG2 := Lib.hid (h1.trans h2)
  have HO1 := Lib.hid ho1
  have HO2 := Lib.hid ho2
  clear h1 h2 ho1 ho2 hfi
  generalize trF false l a = s at *
  go_loopw [10, 11] (fun i v wr => ∃ (k : Int) (out : List ByteArray), i = .int .i64 k ∧ -1 ≤ k ∧ k < (s.1.length : Int) ∧ out ++ chain s k = chain s (fnd b s.1 : Int) ∧ Own Str.E 9 wr w2.heap.size v out ∧ Grew w2 wr) (fun i _ _ => (intOf i + 1).toNat)
  case atStart => exact ⟨fnd b s.1, [], by rw [HFI.out], by omega, by have := HA3.out; omega, rfl, Own.new_ (Nat.le_refl _), (Grew.refl w2).alloc _⟩
  case round =>
    obtain ⟨k, out, rfl, hk1, hk2, hch, hown, hg⟩ := hrel
    have HC := Lib.hid hch
    have HO := Lib.hid hown
    have HG := Lib.hid hg
    have hol : out.length ≤ l.length + 1 := by have h7 := congrArg List.length hch; rw [List.length_append] at h7; have := HCH.out; omega
    clear hch hown hg
    obtain ⟨A0, c0, rfl⟩ := HO.out.slice
    by_cases hk0 : 0 ≤ k
    · obtain ⟨n, rfl⟩ := Int.eq_ofNat_of_zero_le hk0
      have hns : n < s.1.length := by omega
      have hns2 : n < s.2.length := by rw [HTO.out]; exact hns
      have HST := Lib.hid (chain_step HBK.out hns2)
      have hb1 := (HBK.out n hns2).1
      have hb2 := (HBK.out n hns2).2
      have HLL := Lib.hid HTO.out
      obtain ⟨b1, o1, e1, hbb1, hcc1⟩ := HO1.out.rd.at_ hns
      obtain ⟨b2, o2, e2, hbb2, hcc2⟩ := HO2.out.rd.at_ hns2
      have hq1 := Str.at_ hcc1 (k := n) (x := s.1.getD n str0) (by rw [List.getD_eq_getElem?_getD, List.getElem?_eq_getElem hns]; rfl)
      have hq2 := Num.at_ hcc2 (k := n) (x := s.2.getD n (-1)) (by rw [List.getD_eq_getElem?_getD, List.getElem?_eq_getElem hns2]; rfl)
      have hd1 := (HG.out.rules.1 b1 _ hbb1).trans hq1
      cases e1
      cases e2
      clear hcc1 hcc2
      generalize hy : s.1.getD n str0 = y at *
      generalize hz : s.2.getD n (-1) = z at *
      go_wp2_with (at_builtin; refine wpList_append_rd _ rfl (.tmp 38) (.tmp 43) _ rfl sl_Str w2.heap.size _ _ _ out rfl (Own.alloc HO.out _) _ _ _ [y] rfl rfl (rd_new (E := Str.E) _ y _ rfl) (by simp only [List.length_cons, List.length_nil]; omega) (le_al HG.out rfl) ?_; intro A5 c5 w5 ho5 hgr5 hat5; have hG5 := (HG.out.alloc _).app (Own.alloc HO.out _) (Nat.le_refl _) hgr5; have hd6 := (hG5.rules.1 b2 _ hbb2).trans hq2)
      go_roundw
      case rel => go_light; exact ⟨z, out ++ [y], rfl, hb1, by omega, by rw [List.append_assoc, List.singleton_append, ← HST.out]; exact HC.out, ho5, hG5⟩
      case measure => go_light; simp [intOf]; omega
    · have hkn : k < 0 := by omega
      have HE := Lib.hid (show out = chain s (fnd b s.1 : Int) by have := HC.out; rwa [chain_neg hkn, List.append_nil] at this)
      go_wp2_with (go_at_call 42; refine (reverse_any out _ _ w2.heap.size _ HO.out (by omega)).mono ?_; rintro e w5 ⟨v, rfl, ho5, hgr5⟩)
      go_ret2
      go_light
      refine ⟨A0, c0, ?_, ?_, (HG2.out.trans HG.out).app (HO.out.mono HG2.out.le) (Nat.le_refl _) hgr5⟩
      · rw [HF.out, ← HE.out]; simp
      · rw [HF.out, ← HE.out]; have := ho5.mono HG2.out.le; simpa using this
end Go.Proofs.Ytbmfhdncifcieaa
