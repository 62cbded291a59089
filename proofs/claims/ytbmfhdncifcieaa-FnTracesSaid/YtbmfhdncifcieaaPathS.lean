/- TracePath of the reference returns what a plain function returns. Conditions: none. -/
import Derived.Test.YtbmfhdncifcieaaPathI
namespace Go.Proofs.Ytbmfhdncifcieaa
open Go.RowKit Go.ChangeShapes Go.WideShapes Go.Deep
set_option linter.unusedVariables false
set_option linter.unusedSimpArgs false

set_option maxRecDepth 100000 in
set_option maxHeartbeats 4000000 in
theorem tracePath_spec (l : List Use) (A : Option Addr) (c : Nat) (a b : ByteArray) (w : World) (h : Rd Use.E w A l) (hok : ∀ x ∈ l, x.Ok) (hn : l.length ≤ 4194304) :
    Calls Try.prog 17 #[.slice A l.length c, .string a, .string b] w fun e w' => ∃ A' c', e = .returned (.tuple #[.slice A' (pathF l a b).1.length c', .bool (pathF l a b).2]) ∧ Own Str.E 9 w' w.heap.size (.slice A' (pathF l a b).1.length c') (pathF l a b).1 ∧ Grew w w' := by
  have HL := Lib.hid h
  have HOK_ := Lib.hid hok
  clear h hok
  by_cases hcase : areU l = true ∧ (a.toList == b.toList) = false
  case neg =>
    have HF := Lib.hid (show pathF l a b = ([], false) by
      have : canPath l a b = false := by
        cases h1 : canPath l a b
        · rfl
        · exact absurd ⟨(canPath_yes h1).1, (canPath_yes h1).2.1⟩ hcase
      simp [pathF, this])
    have hor : areU l = false ∨ (areU l = true ∧ (a.toList == b.toList) = true) := by
      cases h1 : areU l
      · exact .inl rfl
      · cases h2 : a.toList == b.toList
        · exact absurd ⟨h1, h2⟩ hcase
        · exact .inr ⟨rfl, rfl⟩
    clear hcase
    rcases hor with a1 | ⟨a1, a2⟩
    all_goals
      go_enter Try.func17, Try.ntmps17
      go_wp2_with (go_at_call 8; refine (areUsesE_spec a1 _ _ _ (HL.out.grew (by (repeat (with_reducible first | exact Grew.refl _ | assumption | apply Grew.alloc | apply Grew.drew | apply Grew.drewN | (refine Grew.setCell ?_ (by simp; try omega) _) | (refine Grew.trans ?_ (by assumption)))))) HOK_.out hn).mono ?_; rintro e w1 ⟨rfl, h1⟩)
      go_ret2
      go_light
      exact ⟨(some ⟨_, 0, none⟩), 0, by rw [HF.out]; rfl, by rw [HF.out]; exact Own.new_ h1.le, h1.alloc _⟩
  obtain ⟨a1, a2⟩ := hcase
  have HEND := Lib.hid (fun i => trTo_end (up := false) (l := l) (b := a) (i := i))
  have HOK := Lib.hid (fun i => (trTo_ok false l a i))
  have HLEF := Lib.hid (trF_len false l a)
  go_enter Try.func17, Try.ntmps17
  go_wp2_with (go_at_call 8; refine (areUsesE_spec a1 _ _ _ (HL.out.grew (by (repeat (with_reducible first | exact Grew.refl _ | assumption | apply Grew.alloc | apply Grew.drew | apply Grew.drewN | (refine Grew.setCell ?_ (by simp; try omega) _) | (refine Grew.trans ?_ (by assumption)))))) HOK_.out hn).mono ?_; rintro e w1 ⟨rfl, h1⟩)
  have HG1 := Lib.hid h1
  clear h1
  go_loopw [8, 9, 10] (fun v u i wr => ∃ n : Nat, i = .int .i64 n ∧ n ≤ (trTo false l a n).1.length ∧ Own Str.E 9 wr w.heap.size v (trTo false l a n).1 ∧ Own Num.E 3 wr w.heap.size u (trTo false l a n).2 ∧ Sep v u ∧ Grew w wr) (fun _ _ i _ => l.length + 1 - (intOf i).toNat)
  case atStart => exact ⟨0, rfl, by simp, (Own.one HG1.out.le a).alloc _, (by have := Own.one (E := Num.E) (t := 3) (w := w1.alloc (.cells #[.string a] 9)) (base := w.heap.size) (le_al HG1.out rfl) (-1); rwa [show (w1.alloc (.cells #[.string a] 9)).heap.size = w1.heap.size + 1 by simp] at this), by intro k h1 h2; simp [Value.ownBlock] at h1 h2; omega, (HG1.out.alloc _).alloc _⟩
  clear HG1
  case round =>
    obtain ⟨n, rfl, hnl, hown, hown2, hsep, hg⟩ := hrel
    have HO := Lib.hid hown
    have HP := Lib.hid hown2
    have HSP := Lib.hid hsep
    have HG := Lib.hid hg
    have hbd := (HOK.out n).le
    have HT := Lib.hid (show n < (trTo false l a n).1.length → trTo false l a (n + 1) = trScan false l ((trTo false l a n).1.getD n str0) n (trTo false l a n) l.length from fun hh => by rw [trTo, if_pos hh])
    have HE := Lib.hid (HEND.out n)
    have HKP := Lib.hid (fun (hh : n < (trTo false l a n).1.length) k hk => trScan_keep (up := false) (l := l) (b := (trTo false l a n).1.getD n str0) (i := n) hh k hk)
    have HSO := Lib.hid (fun k hk => (trScan_ok (c := (trTo false l a n).1.getD n str0) (i := n) (HOK.out n) k hk))
    clear hown hown2 hsep hg
    generalize hs : trTo false l a n = s at *
    obtain ⟨A0, c0, rfl⟩ := HO.out.slice
    obtain ⟨B0, d0, rfl⟩ := HP.out.slice
    by_cases hlt : n < s.1.length
    · generalize hcb : s.1.getD n str0 = cb at *
      go_wp2_with fail
      go_loopw [8, 9, 11] (fun v u i wr => ∃ k : Nat, k ≤ l.length ∧ i = .int .i64 k ∧ Own Str.E 9 wr w.heap.size v (trScan false l cb n s k).1 ∧ Own Num.E 3 wr w.heap.size u (trScan false l cb n s k).2 ∧ Sep v u ∧ Grew w wr) (fun _ _ i _ => l.length - (intOf i).toNat)
      case atStart => exact ⟨0, Nat.zero_le _, rfl, by simpa [trScan] using HO.out, by simpa [trScan] using HP.out, HSP.out, HG.out⟩
      case round =>
        obtain ⟨k, hk, rfl, hown, hown2, hsep, hg⟩ := hrel
        have HO2 := Lib.hid hown
        have HP2 := Lib.hid hown2
        have HSP2 := Lib.hid hsep
        have HG2 := Lib.hid hg
        obtain ⟨hkp1, hkp2⟩ := HKP.out hlt k hk
        have hbd2 := (HSO.out k hk).le
        have HBL := Lib.hid (HSO.out k hk).len
        clear hown hown2 hsep hg
        by_cases hkl : k < l.length
        · obtain ⟨x, hx⟩ : ∃ x, l[k]? = some x := ⟨_, List.getElem?_eq_getElem hkl⟩
          have HS := Lib.hid (trScan_step (up := false) (b := cb) (i := n) (s := s) hx)
          obtain ⟨bl, o, rfl, hb, hc⟩ := (HL.out.grew HG2.out).at_ hkl
          obtain ⟨hc0, hc1, hc2⟩ := Use.at_ hc hx
          clear hx hc
          generalize trScan false l cb n s k = r at *
          obtain ⟨A1, c1, rfl⟩ := HO2.out.slice
          obtain ⟨B1, d1, rfl⟩ := HP2.out.slice
          have hnr : n < r.1.length := by omega
          obtain ⟨b2, o2, e2, hb2, hcc⟩ := HO2.out.rd.at_ hnr
          have hy : r.1[n]? = some cb := by rw [← hkp2, List.getD_eq_getElem?_getD, List.getElem?_eq_getElem hnr]; rfl
          have hcy := Str.at_ hcc hy
          cases e2
          have hi3 : (k : Int) < (l.length : Int) := by omega
          have hi4 : (n : Int) < (r.1.length : Int) := by omega
          clear hcc hy
          by_cases heq : x.fr.toList = cb.toList
          · have hdd : (x.fr.toList == cb.toList) = true := by simpa using heq
            by_cases hf : fnd x.nt r.1 < r.1.length
            · have HC := Lib.hid (show trStep false cb n r x = r by simp only [trStep]; rw [if_neg (fun hh => hh.2 hf)])
              have hfi : decide (findI x.nt r.1 < 0) = false := decide_eq_false (fun hh => findI_neg.1 hh hf)
              clear heq hf
              go_wp2_with fail
              (refine wp_region_grow_lit (by kernel_rfl) (by kernel_rfl) ?_; repeat (any_goals (first | go_big_quiet_step ((go_at_call 31; exact quiet_same (find_spec _ r.1 _ _ _ (HO2.out.rd.gw _) (by omega)))) | quiet_step ((go_at_call 31; exact quiet_same (find_spec _ r.1 _ _ _ (HO2.out.rd.gw _) (by omega)))) | (refine wpQuiet_step (fun K hK => ?_); go_simp; split <;> rename_i hsp <;> (refine hK _ ?_; clear hK K) <;> (try first | simp only [hsp, decide_true, decide_false, Bool.not_true, Bool.not_false] | simp only [Int.not_le.2 hsp, decide_false, Bool.not_false] | simp only [Int.not_lt.2 hsp, decide_false, Bool.not_false] | simp only [Nat.not_le.2 hsp, decide_false, Bool.not_false] | simp only [Nat.not_lt.2 hsp, decide_false, Bool.not_false])))))
              all_goals (refine wpQuiet_nil ?_; intro w1 h1)
              all_goals
                have hg3 : Grew wr w1 := h1
                have hcz3 := (hg3.rules.1 bl _ hb).trans hc1
                have HG3 := Lib.hid (HG2.out.trans hg3)
                have HO3 := Lib.hid (HO2.out.grew hg3)
                have HP3 := Lib.hid (HP2.out.grew hg3)
                clear hg3 h1 hcy hc0 hc1 hc2
                go_wp2_with fail
                go_roundw
                case rel => go_light; exact ⟨k + 1, by omega, by go_num, by rw [HS.out, HC.out]; exact HO3.out, by rw [HS.out, HC.out]; exact HP3.out, HSP2.out, HG3.out⟩
                case measure => go_light; simp [intOf]; omega
            · have HC := Lib.hid (show trStep false cb n r x = (r.1 ++ [x.nt], r.2 ++ [(n : Int)]) by simp only [trStep]; rw [if_pos ⟨heq, hf⟩]; rfl)
              have hfi : decide (findI x.nt r.1 < 0) = true := decide_eq_true (findI_neg.2 hf)
              clear heq hf
              go_wp2_with fail
              (refine wp_region_grow_lit (by kernel_rfl) (by kernel_rfl) ?_; repeat (any_goals (first | go_big_quiet_step ((go_at_call 31; exact quiet_same (find_spec _ r.1 _ _ _ (HO2.out.rd.gw _) (by omega)))) | quiet_step ((go_at_call 31; exact quiet_same (find_spec _ r.1 _ _ _ (HO2.out.rd.gw _) (by omega)))) | (refine wpQuiet_step (fun K hK => ?_); go_simp; split <;> rename_i hsp <;> (refine hK _ ?_; clear hK K) <;> (try first | simp only [hsp, decide_true, decide_false, Bool.not_true, Bool.not_false] | simp only [Int.not_le.2 hsp, decide_false, Bool.not_false] | simp only [Int.not_lt.2 hsp, decide_false, Bool.not_false] | simp only [Nat.not_le.2 hsp, decide_false, Bool.not_false] | simp only [Nat.not_lt.2 hsp, decide_false, Bool.not_false])))))
              all_goals (refine wpQuiet_nil ?_; intro w1 h1)
              all_goals
                have hg3 : Grew wr w1 := h1
                have hcz3 := (hg3.rules.1 bl _ hb).trans hc1
                have HG3 := Lib.hid (HG2.out.trans hg3)
                have HO3 := Lib.hid (HO2.out.grew hg3)
                have HP3 := Lib.hid (HP2.out.grew hg3)
                clear hg3 h1 hcy hc0 hc1 hc2
                go_wp2_with (first
                  | (at_builtin; refine wpList_append_rd _ rfl (.tmp 58) (.tmp 64) _ rfl sl_Str w.heap.size _ _ _ r.1 rfl (Own.alloc HO3.out _) _ _ _ [x.nt] rfl rfl (rd_new (E := Str.E) _ x.nt _ rfl) (by simp only [List.length_cons, List.length_nil]; omega) (le_al HG3.out rfl) ?_; intro A5 c5 w5 ho5 hgr5 hat5
                     have HO5 := Lib.hid ho5
                     have HS5 := Lib.hid (HSP2.out.at_ (n := w1.heap.size + 1) (fun kk hkk => Nat.lt_succ_of_lt (HP3.out.block kk hkk).2) (by simpa using hat5))
                     have HP5 := Lib.hid ((Own.alloc HP3.out _).kept hgr5 HSP2.out.symm.ne)
                     have HG5 := Lib.hid ((HG3.out.alloc _).app (Own.alloc HO3.out _) (Nat.le_refl _) hgr5)
                     clear ho5 hat5 hgr5)
                  | (at_builtin; refine wpList_append_rd _ rfl (.tmp 66) (.tmp 68) _ rfl sl_Num w.heap.size _ _ _ r.2 rfl (Own.alloc HP5.out _) _ _ _ [(n : Int)] rfl rfl (rd_new (E := Num.E) _ (n : Int) _ rfl) (by have := HBL.out; simp only [List.length_cons, List.length_nil]; omega) (le_al HG5.out rfl) ?_; intro A6 c6 w6 ho6 hgr6 hat6))
                go_roundw
                case rel => go_light; exact ⟨k + 1, by omega, by go_num, by rw [HS.out, HC.out]; exact (Own.alloc HO5.out _).kept hgr6 HS5.out.ne, by rw [HS.out, HC.out]; exact ho6, (HS5.out.symm.at_ (n := w5.heap.size + 1) (fun kk hkk => Nat.lt_succ_of_lt (HO5.out.block kk hkk).2) (by simpa using hat6)).symm, (HG5.out.alloc _).app (Own.alloc HP5.out _) (Nat.le_refl _) hgr6⟩
                case measure => go_light; simp [intOf]; omega
          · have hdd : (x.fr.toList == cb.toList) = false := by simpa using heq
            have HC := Lib.hid (show trStep false cb n r x = r by simp only [trStep]; rw [if_neg (fun hh => heq hh.1)])
            clear heq
            go_wp2_with fail
            (refine wp_region_grow_lit (by kernel_rfl) (by kernel_rfl) ?_; repeat (any_goals (first | go_big_quiet_step ((go_at_call 31; exact quiet_same (find_spec _ r.1 _ _ _ (HO2.out.rd.gw _) (by omega)))) | quiet_step ((go_at_call 31; exact quiet_same (find_spec _ r.1 _ _ _ (HO2.out.rd.gw _) (by omega)))) | (refine wpQuiet_step (fun K hK => ?_); go_simp; split <;> rename_i hsp <;> (refine hK _ ?_; clear hK K) <;> (try first | simp only [hsp, decide_true, decide_false, Bool.not_true, Bool.not_false] | simp only [Int.not_le.2 hsp, decide_false, Bool.not_false] | simp only [Int.not_lt.2 hsp, decide_false, Bool.not_false] | simp only [Nat.not_le.2 hsp, decide_false, Bool.not_false] | simp only [Nat.not_lt.2 hsp, decide_false, Bool.not_false])))))
            all_goals (refine wpQuiet_nil ?_; intro w1 h1)
            all_goals
              have hg3 : Grew wr w1 := h1
              have hcz3 := (hg3.rules.1 bl _ hb).trans hc1
              have HG3 := Lib.hid (HG2.out.trans hg3)
              have HO3 := Lib.hid (HO2.out.grew hg3)
              have HP3 := Lib.hid (HP2.out.grew hg3)
              clear hg3 h1 hcy hc0 hc1 hc2
              go_wp2_with fail
              go_roundw
              case rel => go_light; exact ⟨k + 1, by omega, by go_num, by rw [HS.out, HC.out]; exact HO3.out, by rw [HS.out, HC.out]; exact HP3.out, HSP2.out, HG3.out⟩
              case measure => go_light; simp [intOf]; omega
        · obtain rfl : k = l.length := by omega
          have HX := Lib.hid (HT.out hlt)
          obtain ⟨A1, c1, rfl⟩ := HO2.out.slice
          obtain ⟨B1, d1, rfl⟩ := HP2.out.slice
          go_wp2_with fail
          go_roundw
          case rel => go_light; exact ⟨n + 1, by go_num, by rw [HX.out]; omega, by rw [HX.out]; exact HO2.out, by rw [HX.out]; exact HP2.out, HSP2.out, HG2.out⟩
          case measure => go_light; simp [intOf]; omega
    · have HX := Lib.hid (HE.out (by omega) hlt)
      have HBK := Lib.hid (show BkOk s by have := trF_bk l a; rwa [HX.out] at this)
      have HTO := Lib.hid (show s.2.length = s.1.length by have := (trF_ok l a).len; rwa [HX.out] at this)
      clear HT HKP HSO HE HLEF hs
      by_cases hf : fnd b s.1 < s.1.length
      · have hcan : canPath l a b = true := by simp only [canPath, a1, a2, HX.out, decide_eq_true hf]; rfl
        have HF := Lib.hid (show pathF l a b = ((chain s (fnd b s.1 : Int)).reverse, true) by simp [pathF, hcan, HX.out])
        have hfi : decide (findI b s.1 < 0) = false := decide_eq_false (fun hh => findI_neg.1 hh hf)
        have HFI := Lib.hid (show findI b s.1 = ((fnd b s.1 : Nat) : Int) by rw [findI, if_pos hf])
        have HA3 := Lib.hid hf
        have HCH := Lib.hid (show (chain s (fnd b s.1 : Int)).length ≤ l.length + 1 by have h7 := pathF_len l a b; rw [HF.out] at h7; simpa using h7)
        clear hcan hf HX
        go_wp2_with (go_at_call 31; refine (find_spec b s.1 _ _ _ HO.out.rd (by omega)).mono ?_; rintro e w' ⟨rfl, rfl⟩)
        clear hfi
        obtain ⟨w2, rfl⟩ : ∃ w2 : World, w2 = wr := ⟨_, rfl⟩
        go_loopw [12, 13] (fun i v wr => ∃ (k : Int) (out : List ByteArray), i = .int .i64 k ∧ -1 ≤ k ∧ k < (s.1.length : Int) ∧ (chain s k).reverse ++ out = (chain s (fnd b s.1 : Int)).reverse ∧ Own Str.E 9 wr w2.heap.size v out ∧ Grew w2 wr) (fun i _ _ => (intOf i + 1).toNat)
        case atStart => exact ⟨fnd b s.1, [], by rw [HFI.out], by omega, by have := HA3.out; omega, by simp, Own.new_ (Nat.le_refl _), (Grew.refl w2).alloc _⟩
        case round =>
          obtain ⟨k, out, rfl, hk1, hk2, hch, hown, hg⟩ := hrel
          have HC := Lib.hid hch
          have HO5 := Lib.hid hown
          have HG5 := Lib.hid hg
          have hol : out.length ≤ l.length + 1 := by have h7 := congrArg List.length hch; rw [List.length_append, List.length_reverse, List.length_reverse] at h7; have := HCH.out; omega
          clear hch hown hg
          obtain ⟨A3, c3, rfl⟩ := HO5.out.slice
          by_cases hk0 : 0 ≤ k
          · obtain ⟨n, rfl⟩ := Int.eq_ofNat_of_zero_le hk0
            have hns : n < s.1.length := by omega
            have hns2 : n < s.2.length := by rw [HTO.out]; exact hns
            have HST := Lib.hid (chain_step HBK.out hns2)
            have hb1 := (HBK.out n hns2).1
            have hb2 := (HBK.out n hns2).2
            obtain ⟨b1, o1, e1, hbb1, hcc1⟩ := HO.out.rd.at_ hns
            obtain ⟨b2, o2, e2, hbb2, hcc2⟩ := HP.out.rd.at_ hns2
            have hq1 := Str.at_ hcc1 (k := n) (x := s.1.getD n str0) (by rw [List.getD_eq_getElem?_getD, List.getElem?_eq_getElem hns]; rfl)
            have hq2 := Num.at_ hcc2 (k := n) (x := s.2.getD n (-1)) (by rw [List.getD_eq_getElem?_getD, List.getElem?_eq_getElem hns2]; rfl)
            have hd1 := (HG5.out.rules.1 b1 _ hbb1).trans hq1
            cases e1
            cases e2
            clear hcc1 hcc2
            generalize hy : s.1.getD n str0 = y at *
            generalize hz : s.2.getD n (-1) = z at *
            go_wp2_with (at_builtin; refine wpList_append_rd _ rfl (.tmp 83) (.tmp 84) _ rfl sl_Str w2.heap.size _ _ _ [y] rfl (Own.one (E := Str.E) HG5.out.le y) _ _ _ out rfl rfl (HO5.out.rd.grew ((Grew.refl _).alloc _)) (by simp only [List.length_cons, List.length_nil]; omega) (le_al HG5.out rfl) ?_; intro A6 c6 w6 ho6 hgr6 hat6; have hG6 := (HG5.out.alloc _).app (Own.one (E := Str.E) HG5.out.le y) (Nat.le_refl _) hgr6; have hd6 := (hG6.rules.1 b2 _ hbb2).trans hq2)
            go_roundw
            case rel => go_light; exact ⟨z, [y] ++ out, rfl, hb1, by omega, by have h7 := HC.out; rw [HST.out, List.reverse_cons, List.append_assoc] at h7; exact h7, ho6, hG6⟩
            case measure => go_light; simp [intOf]; omega
          · have hkn : k < 0 := by omega
            have HE := Lib.hid (show out = (chain s (fnd b s.1 : Int)).reverse by have := HC.out; rwa [chain_neg hkn, List.reverse_nil, List.nil_append] at this)
            go_wp2_with fail
            go_ret2
            go_light
            refine ⟨A3, c3, ?_, ?_, HG.out.trans HG5.out⟩
            · rw [HF.out, ← HE.out]; rfl
            · rw [HF.out, ← HE.out]; exact HO5.out.mono HG.out.le
      · have hcan : canPath l a b = false := by simp only [canPath, a1, a2, HX.out, decide_eq_false hf]; rfl
        have HF := Lib.hid (show pathF l a b = ([], false) by simp [pathF, hcan])
        have hfi : decide (findI b s.1 < 0) = true := decide_eq_true (findI_neg.2 hf)
        clear hcan hf HX
        go_wp2_with (go_at_call 31; refine (find_spec b s.1 _ _ _ HO.out.rd (by omega)).mono ?_; rintro e w' ⟨rfl, rfl⟩)
        go_ret2
        go_light
        exact ⟨(some ⟨_, 0, none⟩), 0, by rw [HF.out]; rfl, by rw [HF.out]; exact Own.new_ HG.out.le, HG.out.alloc _⟩
end Go.Proofs.Ytbmfhdncifcieaa
