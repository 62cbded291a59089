/- NearestOrder of the program returns what a plain function returns. Conditions: none. -/
import Derived.Test.YtfplgagdjdhopaaNear
namespace Go.Proofs.Ytfplgagdjdhopaa
open Go.RowKit Go.ChangeShapes Go.WideShapes Go.Deep
set_option linter.unusedVariables false
set_option linter.unusedSimpArgs false

theorem sl_Int : SlInf Try.prog IntS.E 27 3 := info_sl Try.underlying27 info_int rfl rfl (by decide)
theorem isSetupsE_impl {L : List (List Int)} {v : Bool} {m : Nat} (hv : setB L = v) (hm : L.length = m) (A : Option Addr) (c : Nat) (w : World) (h : RdR w A L) (hr : ∀ m ∈ L, m.length ≤ maxLen) (hn : L.length ≤ 4194304) :
    Calls Try.prog 11 #[.slice A m c] w fun e w' => e = .returned (.bool v) ∧ Grew w w' := hm ▸ hv ▸ isSetups_impl L A c w h hr hn
theorem isSetupsE_spec {L : List (List Int)} {v : Bool} {m : Nat} (hv : setB L = v) (hm : L.length = m) (A : Option Addr) (c : Nat) (w : World) (h : RdR w A L) (hr : ∀ m ∈ L, m.length ≤ maxLen) (hn : L.length ≤ 4194304) :
    Calls Try.prog 9 #[.slice A m c] w fun e w' => e = .returned (.bool v) ∧ Grew w w' := hm ▸ hv ▸ isSetups_spec L A c w h hr hn
set_option maxRecDepth 100000 in
set_option maxHeartbeats 4000000 in
theorem nearest_impl (L : List (List Int)) (A : Option Addr) (c : Nat) (w : World) (h : RdR w A L) (hr : ∀ m ∈ L, m.length ≤ maxLen) (hn : L.length ≤ 4194304) :
    Calls Try.prog 18 #[.slice A L.length c] w fun e w' => ∃ A' c', e = .returned (.tuple #[.slice A' (nearF L).1.length c', .bool (nearF L).2]) ∧ Own IntS.E 3 w' w.heap.size (.slice A' (nearF L).1.length c') (nearF L).1 ∧ Grew w w' := by
  have HL := Lib.hid h
  have HR := Lib.hid hr
  clear h hr
  cases ha : setB L
  · have HF := Lib.hid (show nearF L = ([], false) by simp [nearF, ha])
    have HA := Lib.hid ha
    clear ha
    go_enter Try.func18, Try.ntmps18
    go_wp2_with (go_at_call 11; refine (isSetupsE_impl HA.out rfl _ _ _ HL.out HR.out hn).mono ?_; rintro e w1 ⟨rfl, h1⟩)
    go_ret2
    go_light
    exact ⟨none, 0, by rw [HF.out]; rfl, by rw [HF.out]; exact Own.none_, h1⟩
  obtain ⟨n, hnL⟩ : ∃ n, L.length = n + 1 := ⟨L.length - 1, by have := (setB_at ha).1; omega⟩
  have h7 : n ≤ 7 := by have := (setB_at ha).2.1; omega
  have HF := Lib.hid (show nearF L = ((nearTo L n n).1, true) by simp [nearF, ha, hnL])
  have HA := Lib.hid ha
  have HAT := Lib.hid (setB_at ha).2.2
  have HNL := Lib.hid hnL
  have HOK := Lib.hid (near_ok L n)
  rw [hnL]
  clear ha hnL hn
  obtain ⟨i0, hi0, hz0, hz1, hz2⟩ := info_parts info_bool
  go_enter Try.func18, Try.ntmps18
  go_wp2_with (first
    | (go_at_call 11; refine (isSetupsE_impl HA.out HNL.out _ _ _ HL.out HR.out (by have := HNL.out; omega)).mono ?_; rintro e w1 ⟨rfl, h1⟩)
    | (at_make; refine wpList_make_full _ rfl _ _ _ rfl w1.heap.size 4 i0 _ 1 Try.underlying44 hi0 hz0 hz1 _ _ _ _ n rfl rfl rfl rfl (by rw [hz2]; omega) (by simp only [maxLen]; omega) (Nat.le_refl _) ?_; intro w2 hown2 hgr2))
  have HG2 := Lib.hid (h1.grown hgr2 (by simp))
  have hub : w1.heap.size < w2.heap.size := (hown2.lt _ rfl).2
  have HS1 := Lib.hid h1.le
  have HU2 := Lib.hid (show w2.ownsRow w1.heap.size 4 1 (.slice (some ⟨w1.heap.size, 0, none⟩) n n) n (usedL n []) by rw [usedL_zero]; exact hown2)
  clear h1 hgr2 hown2 hi0 hz0 hz1 hz2
  generalize w1.heap.size = ub at *
  go_loopw [6, 7] (fun v f wr => ∃ j : Nat, j ≤ n ∧ f = .int .i64 (nearTo L n j).2 ∧ Own IntS.E 3 wr (ub + 1) v (nearTo L n j).1 ∧ wr.ownsRow ub 4 1 (.slice (some ⟨ub, 0, none⟩) n n) n (usedL n (nearTo L n j).1) ∧ Grew w wr) (fun v _ _ => match v with | .slice _ m _ => n - m | _ => 0)
  case atStart => exact ⟨0, Nat.zero_le _, by simp [nearTo], Own.new_ (by omega), ownsRow_grew HU2.out ((Grew.refl _).alloc _), HG2.out.alloc _⟩
  case round =>
    obtain ⟨j, hj, rfl, hown, hus, hg⟩ := hrel
    have HO := Lib.hid hown
    have HU := Lib.hid hus
    have HG := Lib.hid hg
    have hok := HOK.out j hj
    have HSTEP := Lib.hid (show nearTo L n (j + 1) = ((nearTo L n j).1 ++ [bst L (nearTo L n j).2 (nearTo L n j).1 n], bst L (nearTo L n j).2 (nearTo L n j).1 n) from rfl)
    have HLEN := Lib.hid hok.len
    have hlo := hok.lo
    have hhi := hok.hi
    clear hown hus hg hok
    generalize hs : nearTo L n j = s at *
    have HS := Lib.hid hs
    clear hs
    obtain ⟨out, f⟩ := s
    simp only at *
    obtain ⟨fn, rfl⟩ := Int.eq_ofNat_of_zero_le hlo
    obtain ⟨B, d, rfl⟩ := HO.out.slice
    have hol : out.length ≤ n := by have := HLEN.out; omega
    by_cases hlt : out.length < n
    · have hlti : (out.length : Int) < (n : Int) := by omega
      have HBO := Lib.hid (bst_ok L (fn : Int) out)
      have HBF := Lib.hid (bst_full (L := L) (a := (fn : Int)) hlt)
      have hfl : (fn : Int) < (n : Int) + 1 := by omega
      have hflN : fn < L.length := by rw [HNL.out]; omega
      have HROWS := Lib.hid (fun (w' : World) (hw : Grew w w') => (HL.out.grew hw).row hflN)
      have HRN := Lib.hid (show (L.getD fn []).length = n by have := (HAT.out fn hflN).1; rw [HNL.out] at this; omega)
      have HCF := Lib.hid (fun (i : Nat) => (show cellF L (fn : Int) (i : Int) = (L.getD fn []).getD i 0 by simp [cellF]))
      clear hflN
      generalize L.getD fn [] = R at *
      go_wp2_with fail
      go_loopw [8, 26] (fun bv i wr2 => ∃ k : Nat, k ≤ n ∧ i = .int .i64 k ∧ bv = .int .i64 (bst L (fn : Int) out k) ∧ Grew wr wr2) (fun _ i _ => n - (intOf i).toNat)
      case atStart => exact ⟨0, Nat.zero_le _, rfl, rfl, Grew.refl _⟩
      case round =>
        obtain ⟨k, hk, rfl, rfl, hg2⟩ := hrel
        have HG2 := Lib.hid hg2
        obtain ⟨hb0, hb1, hb2, hb3⟩ := HBO.out k
        clear hg2 hb2 hb3
        by_cases hkn : k < n
        · have HBS := Lib.hid (show bst L (fn : Int) out (k + 1) = if out.contains (k : Int) = false ∧ (bst L (fn : Int) out k < 0 ∨ cellF L (fn : Int) (k : Int) < cellF L (fn : Int) (bst L (fn : Int) out k)) then (k : Int) else bst L (fn : Int) out k from rfl)
          obtain ⟨b, o, X, c', rfl, hbb, hrc, hrd⟩ := HROWS.out wr (HG.out.trans HG2.out)
          obtain ⟨b2, o2, rfl, hbb2, _⟩ := hrd.at_ (k := k) (by rw [HRN.out]; exact hkn)
          have hck := IntS.cell hrd (k := k) (by rw [HRN.out]; exact hkn)
          have HCQ := Lib.hid (fun (q : Nat) (hq : q < n) => IntS.cell hrd (k := q) (by rw [HRN.out]; exact hq))
          rw [HRN.out] at hrc
          have huc : wr.cell? ⟨ub, k, none⟩ = some (.bool (out.contains (k : Int))) := by
            rw [(ownsRow_grew HU.out HG2.out).cellAt k (by omega), usedL_get hkn]
          have hk1 : (k : Int) < (n : Int) := by omega
          have hk2 : (0 : Int) ≤ (k : Int) := by omega
          have HK1 := Lib.hid (HCF.out k)
          clear hrd
          generalize bst L (fn : Int) out k = bv at *
          generalize hcc : R.getD k 0 = ck at *
          clear hcc
          cases hct : out.contains (k : Int)
          · rw [hct] at huc HBS
            by_cases hbn : bv < 0
            · have hd1 : decide (bv < 0) = true := by simpa using hbn
              have HE := Lib.hid (show bst L (fn : Int) out (k + 1) = (k : Int) by rw [HBS.out, if_pos ⟨rfl, .inl hbn⟩])
              clear hct
              go_wp2_with fail
              (refine wp_region_grow_lit (by kernel_rfl) (by kernel_rfl) ?_; repeat (any_goals (first | go_big_quiet_step ((fail)) | quiet_step ((fail)) | (refine wpQuiet_step (fun K hK => ?_); go_simp; split <;> rename_i hsp <;> (refine hK _ ?_; clear hK K) <;> (try first | simp only [hsp, decide_true, decide_false, Bool.not_true, Bool.not_false] | simp only [Int.not_le.2 hsp, decide_false, Bool.not_false] | simp only [Int.not_lt.2 hsp, decide_false, Bool.not_false] | simp only [Nat.not_le.2 hsp, decide_false, Bool.not_false] | simp only [Nat.not_lt.2 hsp, decide_false, Bool.not_false])))))
              all_goals (refine wpQuiet_nil ?_; intro w1 h1)
              go_wp2_with fail
              go_roundw
              case rel => go_light; exact ⟨k + 1, by omega, by go_num, by rw [HE.out], HG2.out.trans h1⟩
              case measure => go_light; simp [intOf]; omega
            · have hd1 : decide (bv < 0) = false := by simpa using hbn
              obtain ⟨q, rfl⟩ := Int.eq_ofNat_of_zero_le (show 0 ≤ bv by omega)
              have hq1 : (q : Int) < (n : Int) := by omega
              have hq2 : (0 : Int) ≤ (q : Int) := by omega
              have hcq := HCQ.out q (by omega)
              have HK2 := Lib.hid (HCF.out q)
              generalize hcc2 : R.getD q 0 = cq at *
              clear hcc2
              by_cases hlc : ck < cq
              · have hd2 : decide (ck < cq) = true := by simpa using hlc
                have HE := Lib.hid (show bst L (fn : Int) out (k + 1) = (k : Int) by rw [HBS.out, if_pos ⟨rfl, .inr (by rw [HK1.out, HK2.out]; exact hlc)⟩])
                clear hct
                go_wp2_with fail
                (refine wp_region_grow_lit (by kernel_rfl) (by kernel_rfl) ?_; repeat (any_goals (first | go_big_quiet_step ((fail)) | quiet_step ((fail)) | (refine wpQuiet_step (fun K hK => ?_); go_simp; split <;> rename_i hsp <;> (refine hK _ ?_; clear hK K) <;> (try first | simp only [hsp, decide_true, decide_false, Bool.not_true, Bool.not_false] | simp only [Int.not_le.2 hsp, decide_false, Bool.not_false] | simp only [Int.not_lt.2 hsp, decide_false, Bool.not_false] | simp only [Nat.not_le.2 hsp, decide_false, Bool.not_false] | simp only [Nat.not_lt.2 hsp, decide_false, Bool.not_false])))))
                all_goals (refine wpQuiet_nil ?_; intro w1 h1)
                go_wp2_with fail
                go_roundw
                case rel => go_light; exact ⟨k + 1, by omega, by go_num, by rw [HE.out], HG2.out.trans h1⟩
                case measure => go_light; simp [intOf]; omega
              · have hd2 : decide (ck < cq) = false := by simpa using hlc
                have HE := Lib.hid (show bst L (fn : Int) out (k + 1) = (q : Int) by rw [HBS.out, if_neg (by rintro ⟨_, h | h⟩; omega; rw [HK1.out, HK2.out] at h; exact hlc h)])
                clear hct
                go_wp2_with fail
                (refine wp_region_grow_lit (by kernel_rfl) (by kernel_rfl) ?_; repeat (any_goals (first | go_big_quiet_step ((fail)) | quiet_step ((fail)) | (refine wpQuiet_step (fun K hK => ?_); go_simp; split <;> rename_i hsp <;> (refine hK _ ?_; clear hK K) <;> (try first | simp only [hsp, decide_true, decide_false, Bool.not_true, Bool.not_false] | simp only [Int.not_le.2 hsp, decide_false, Bool.not_false] | simp only [Int.not_lt.2 hsp, decide_false, Bool.not_false] | simp only [Nat.not_le.2 hsp, decide_false, Bool.not_false] | simp only [Nat.not_lt.2 hsp, decide_false, Bool.not_false])))))
                all_goals (refine wpQuiet_nil ?_; intro w1 h1)
                go_wp2_with fail
                go_roundw
                case rel => go_light; exact ⟨k + 1, by omega, by go_num, by rw [HE.out], HG2.out.trans h1⟩
                case measure => go_light; simp [intOf]; omega
          · rw [hct] at huc HBS
            have HE := Lib.hid (show bst L (fn : Int) out (k + 1) = bv by rw [HBS.out, if_neg (by rintro ⟨h, _⟩; cases h)])
            clear hct
            go_wp2_with fail
            (refine wp_region_grow_lit (by kernel_rfl) (by kernel_rfl) ?_; repeat (any_goals (first | go_big_quiet_step ((fail)) | quiet_step ((fail)) | (refine wpQuiet_step (fun K hK => ?_); go_simp; split <;> rename_i hsp <;> (refine hK _ ?_; clear hK K) <;> (try first | simp only [hsp, decide_true, decide_false, Bool.not_true, Bool.not_false] | simp only [Int.not_le.2 hsp, decide_false, Bool.not_false] | simp only [Int.not_lt.2 hsp, decide_false, Bool.not_false] | simp only [Nat.not_le.2 hsp, decide_false, Bool.not_false] | simp only [Nat.not_lt.2 hsp, decide_false, Bool.not_false])))))
            all_goals (refine wpQuiet_nil ?_; intro w1 h1)
            go_wp2_with fail
            go_roundw
            case rel => go_light; exact ⟨k + 1, by omega, by go_num, by rw [HE.out], HG2.out.trans h1⟩
            case measure => go_light; simp [intOf]; omega
        · obtain rfl : k = n := by omega
          obtain ⟨q, hq⟩ := Int.eq_ofNat_of_zero_le HBF.out
          have HST := Lib.hid (show nearTo L k (j + 1) = (out ++ [(q : Int)], (q : Int)) by rw [HSTEP.out, hq])
          rw [hq] at hb1 ⊢
          have hqn : q < k := by omega
          have HU3 := Lib.hid (ownsRow_grew HU.out HG2.out)
          have HO3 := Lib.hid (HO.out.grew HG2.out)
          have huc : wr.cell? ⟨ub, q, none⟩ = some (.bool (out.contains (q : Int))) := by
            rw [HU3.out.cellAt q (by omega), usedL_get hqn]
          have huf : ∀ i, wr.frozen? ⟨ub, i, none⟩ = false := fun i => HU3.out.frozenAt i
          have hq1 : (q : Int) < (k : Int) := by omega
          have HUS := Lib.hid (show (wr.setCell ⟨ub, q, none⟩ (.bool true)).ownsRow ub 4 1 (.slice (some ⟨ub, 0, none⟩) k k) k (usedL k (out ++ [(q : Int)])) by
            have h5 := (HU3.out.stored q (.bool true)).1
            rwa [usedL_set hqn] at h5)
          have hne9 : (Value.slice B out.length d).ownBlock ≠ some ub := HO3.out.ne_ (.inl (by omega))
          have HOS := Lib.hid (HO3.out.far (p := ⟨ub, q, none⟩) hne9 (.bool true))
          have HGS := Lib.hid ((HG.out.trans HG2.out).setCell (p := ⟨ub, q, none⟩) HS1.out (.bool true))
          have hsz : ub < wr.heap.size := (World.ownsRow.lt HU3.out ub rfl).2
          clear hb0 hb1
          go_wp2_with (at_builtin; refine wpList_append_rd _ rfl (.tmp 60) (.tmp 62) _ rfl sl_Int (ub + 1) _ _ _ out rfl (Own.alloc HOS.out _) _ _ _ [(q : Int)] rfl rfl (rd_new (E := IntS.E) _ (q : Int) _ (by simp)) (by simp only [List.length_cons, List.length_nil]; omega) (by simp; omega) ?_; intro A5 c5 w5 ho5 hgr5 hat5)
          go_roundw
          case rel =>
            go_light
            refine ⟨j + 1, by have := HLEN.out; omega, by rw [HST.out], by rw [HST.out]; exact ho5, ?_, ((HGS.out.alloc _).app (Own.alloc HOS.out _) (by have := HS1.out; omega) hgr5)⟩
            rw [HST.out]
            exact World.ownsRow.kept (ownsRow_grew HUS.out ((Grew.refl _).alloc _)) hgr5 (.inr (fun e => hne9 e.symm))
          case measure => go_light; simp; omega
    · obtain rfl : n = out.length := by omega
      have HFIN := Lib.hid (show (nearTo L out.length out.length).1 = out by have := HS.out; rw [show j = out.length from HLEN.out.symm] at this; rw [this])
      go_wp2_with fail
      go_ret2
      go_light
      refine ⟨B, d, by rw [HF.out, HFIN.out]; rfl, by rw [HF.out, HFIN.out]; exact HO.out.mono (by have := HS1.out; omega), HG.out⟩
end Go.Proofs.Ytfplgagdjdhopaa
