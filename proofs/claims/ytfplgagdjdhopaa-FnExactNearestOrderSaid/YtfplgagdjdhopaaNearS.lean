/- NearestOrder of the reference returns what a plain function returns. Conditions: none. -/
import Derived.Test.YtfplgagdjdhopaaNearI
namespace Go.Proofs.Ytfplgagdjdhopaa
open Go.RowKit Go.ChangeShapes Go.WideShapes Go.Deep
set_option linter.unusedVariables false
set_option linter.unusedSimpArgs false

theorem has_take {l : List Int} {m : Nat} {x k : Int} (hx : l[m]? = some x) : (l.take (m + 1)).contains k = ((l.take m).contains k || (x == k)) := by
  rw [List.take_add_one, hx, Bool.eq_iff_iff]
  simp only [Option.toList_some, List.contains_eq_mem, List.mem_append, List.mem_singleton, decide_eq_true_eq, Bool.or_eq_true, beq_iff_eq]
  constructor
  · rintro (h | h)
    · exact .inl h
    · exact .inr h.symm
  · rintro (h | h)
    · exact .inl h
    · exact .inr h.symm
set_option maxRecDepth 100000 in
set_option maxHeartbeats 4000000 in
theorem nearest_spec (L : List (List Int)) (A : Option Addr) (c : Nat) (w : World) (h : RdR w A L) (hr : ∀ m ∈ L, m.length ≤ maxLen) (hn : L.length ≤ 4194304) :
    Calls Try.prog 17 #[.slice A L.length c] w fun e w' => ∃ A' c', e = .returned (.tuple #[.slice A' (nearF L).1.length c', .bool (nearF L).2]) ∧ Own IntS.E 3 w' w.heap.size (.slice A' (nearF L).1.length c') (nearF L).1 ∧ Grew w w' := by
  have HL := Lib.hid h
  have HR := Lib.hid hr
  clear h hr
  cases ha : setB L
  · have HF := Lib.hid (show nearF L = ([], false) by simp [nearF, ha])
    have HA := Lib.hid ha
    clear ha
    go_enter Try.func17, Try.ntmps17
    go_wp2_with (go_at_call 9; refine (isSetupsE_spec HA.out rfl _ _ _ HL.out HR.out hn).mono ?_; rintro e w1 ⟨rfl, h1⟩)
    go_ret2
    go_light
    exact ⟨(some ⟨_, 0, none⟩), 0, by rw [HF.out]; rfl, by rw [HF.out]; exact Own.new_ h1.le, h1.alloc _⟩
  obtain ⟨n, hnL⟩ : ∃ n, L.length = n + 1 := ⟨L.length - 1, by have := (setB_at ha).1; omega⟩
  have h7 : n ≤ 7 := by have := (setB_at ha).2.1; omega
  have HF := Lib.hid (show nearF L = ((nearTo L n n).1, true) by simp [nearF, ha, hnL])
  have HA := Lib.hid ha
  have HAT := Lib.hid (setB_at ha).2.2
  have HNL := Lib.hid hnL
  have HOK := Lib.hid (near_ok L n)
  rw [hnL]
  clear ha hnL hn
  go_enter Try.func17, Try.ntmps17
  go_wp2_with (go_at_call 9; refine (isSetupsE_spec HA.out HNL.out _ _ _ HL.out HR.out (by have := HNL.out; omega)).mono ?_; rintro e w1 ⟨rfl, h1⟩)
  have HG1 := Lib.hid h1
  have HS1 := Lib.hid h1.le
  clear h1
  go_loopw [4, 5] (fun v f wr => ∃ j : Nat, j ≤ n ∧ f = .int .i64 (nearTo L n j).2 ∧ Own IntS.E 3 wr w.heap.size v (nearTo L n j).1 ∧ Grew w wr) (fun v _ _ => match v with | .slice _ m _ => n - m | _ => 0)
  case atStart => exact ⟨0, Nat.zero_le _, by simp [nearTo], Own.new_ HS1.out, HG1.out.alloc _⟩
  case round =>
    obtain ⟨j, hj, rfl, hown, hg⟩ := hrel
    have HO := Lib.hid hown
    have HG := Lib.hid hg
    have hok := HOK.out j hj
    have HSTEP := Lib.hid (show nearTo L n (j + 1) = ((nearTo L n j).1 ++ [bst L (nearTo L n j).2 (nearTo L n j).1 n], bst L (nearTo L n j).2 (nearTo L n j).1 n) from rfl)
    have HLEN := Lib.hid hok.len
    have hlo := hok.lo
    have hhi := hok.hi
    clear hown hg hok
    generalize hs : nearTo L n j = s at *
    have HS := Lib.hid hs
    clear hs
    obtain ⟨out, f⟩ := s
    simp only at *
    obtain ⟨fn, rfl⟩ := Int.eq_ofNat_of_zero_le hlo
    obtain ⟨B, d, rfl⟩ := HO.out.slice
    have hol : out.length ≤ n := by have := HLEN.out; omega
    by_cases hlt : out.length < n
    · have hlti : (out.length : Int) < (n : Int) := by omega
      have HBO := Lib.hid (bst_ok L (fn : Int) out)
      have HBF := Lib.hid (bst_full (L := L) (a := (fn : Int)) hlt)
      have hfl : (fn : Int) < (n : Int) + 1 := by omega
      have hflN : fn < L.length := by rw [HNL.out]; omega
      have HROWS := Lib.hid (fun (w' : World) (hw : Grew w w') => (HL.out.grew hw).row hflN)
      have HRN := Lib.hid (show (L.getD fn []).length = n by have := (HAT.out fn hflN).1; rw [HNL.out] at this; omega)
      have HCF := Lib.hid (fun (i : Nat) => (show cellF L (fn : Int) (i : Int) = (L.getD fn []).getD i 0 by simp [cellF]))
      clear hflN
      generalize L.getD fn [] = R at *
      go_wp2_with fail
      go_loopw [6, 7] (fun bv i wr2 => ∃ k : Nat, k ≤ n ∧ i = .int .i64 k ∧ bv = .int .i64 (bst L (fn : Int) out k) ∧ Grew wr wr2) (fun _ i _ => n - (intOf i).toNat)
      case atStart => exact ⟨0, Nat.zero_le _, rfl, rfl, Grew.refl _⟩
      case round =>
        obtain ⟨k, hk, rfl, rfl, hg2⟩ := hrel
        have HG2 := Lib.hid hg2
        obtain ⟨hb0, hb1, hb2, hb3⟩ := HBO.out k
        clear hg2 hb2 hb3
        by_cases hkn : k < n
        · have HBS := Lib.hid (show bst L (fn : Int) out (k + 1) = if out.contains (k : Int) = false ∧ (bst L (fn : Int) out k < 0 ∨ cellF L (fn : Int) (k : Int) < cellF L (fn : Int) (bst L (fn : Int) out k)) then (k : Int) else bst L (fn : Int) out k from rfl)
          obtain ⟨b, o, X, c', rfl, hbb, hrc, hrd⟩ := HROWS.out wr (HG.out.trans HG2.out)
          obtain ⟨b2, o2, rfl, hbb2, _⟩ := hrd.at_ (k := k) (by rw [HRN.out]; exact hkn)
          have hck := IntS.cell hrd (k := k) (by rw [HRN.out]; exact hkn)
          have HCQ := Lib.hid (fun (q : Nat) (hq : q < n) => IntS.cell hrd (k := q) (by rw [HRN.out]; exact hq))
          rw [HRN.out] at hrc
          have hk1 : (k : Int) < (n : Int) := by omega
          have hk2 : (0 : Int) ≤ (k : Int) := by omega
          have HK1 := Lib.hid (HCF.out k)
          clear hrd
          generalize bst L (fn : Int) out k = bv at *
          generalize hcc : R.getD k 0 = ck at *
          clear hcc
          have HRO := Lib.hid (HO.out.grew HG2.out).rd
          go_wp2_with fail
          go_loopw [8, 9] (fun uv i wr3 => ∃ m : Nat, m ≤ out.length ∧ i = .int .i64 m ∧ uv = .bool ((out.take m).contains (k : Int)) ∧ wr3 = wr) (fun _ i _ => out.length - (intOf i).toNat)
          case atStart => exact ⟨0, Nat.zero_le _, rfl, by simp, rfl⟩
          case round =>
            obtain ⟨m, hm, rfl, rfl, rfl⟩ := hrel
            by_cases hml : m < out.length
            · obtain ⟨x, hx⟩ : ∃ x, out[m]? = some x := ⟨_, List.getElem?_eq_getElem hml⟩
              obtain ⟨b3, o3, rfl, hb3, hc3⟩ := HRO.out.at_ hml
              have hcx := IntS.at_ hc3 hx
              have HX := Lib.hid (has_take (k := (k : Int)) hx)
              have hm1 : (m : Int) < (out.length : Int) := by omega
              clear hx hc3
              cases hct0 : (out.take m).contains (k : Int)
              · cases hxk : ((x : Int) == (k : Int))
                all_goals
                  have HX2 := Lib.hid (HX.out.trans (by rw [hct0, hxk]))
                  clear hct0
                  go_wp2_with fail
                  go_roundw
                  case rel => go_light; exact ⟨m + 1, by omega, by go_num, (congrArg Value.bool HX2.out).symm, by first | rfl | trivial⟩
                  case measure => go_light; simp [intOf]; omega
              · have HX2 := Lib.hid (show (out.take (m + 1)).contains (k : Int) = true by rw [HX.out, hct0, Bool.true_or])
                clear hct0
                go_wp2_with fail
                go_roundw
                case rel => go_light; exact ⟨m + 1, by omega, by go_num, (congrArg Value.bool HX2.out).symm, by first | rfl | trivial⟩
                case measure => go_light; simp [intOf]; omega
            · obtain rfl : m = out.length := by omega
              rw [List.take_length]
              have HG3 := Lib.hid HG2.out
              cases hct : out.contains (k : Int)
              · rw [hct] at HBS
                by_cases hbn : bv < 0
                · have hd1 : decide (bv < 0) = true := by simpa using hbn
                  have HE := Lib.hid (show bst L (fn : Int) out (k + 1) = (k : Int) by rw [HBS.out, if_pos ⟨rfl, .inl hbn⟩])
                  go_wp2_with fail
                  (refine wp_region_grow_lit (by kernel_rfl) (by kernel_rfl) ?_; repeat (any_goals (first | go_big_quiet_step ((fail)) | quiet_step ((fail)) | (refine wpQuiet_step (fun K hK => ?_); go_simp; split <;> rename_i hsp <;> (refine hK _ ?_; clear hK K) <;> (try first | simp only [hsp, decide_true, decide_false, Bool.not_true, Bool.not_false] | simp only [Int.not_le.2 hsp, decide_false, Bool.not_false] | simp only [Int.not_lt.2 hsp, decide_false, Bool.not_false] | simp only [Nat.not_le.2 hsp, decide_false, Bool.not_false] | simp only [Nat.not_lt.2 hsp, decide_false, Bool.not_false])))))
                  all_goals (refine wpQuiet_nil ?_; intro w1 h1)
                  go_wp2_with fail
                  go_roundw
                  case rel => go_light; exact ⟨k + 1, by omega, by go_num, by rw [HE.out], HG3.out.trans h1⟩
                  case measure => go_light; simp [intOf]; omega
                · have hd1 : decide (bv < 0) = false := by simpa using hbn
                  obtain ⟨q, rfl⟩ := Int.eq_ofNat_of_zero_le (show 0 ≤ bv by omega)
                  have hq1 : (q : Int) < (n : Int) := by omega
                  have hq2 : (0 : Int) ≤ (q : Int) := by omega
                  have hcq := HCQ.out q (by omega)
                  have HK2 := Lib.hid (HCF.out q)
                  generalize hcc2 : R.getD q 0 = cq at *
                  clear hcc2
                  by_cases hlc : ck < cq
                  · have hd2 : decide (ck < cq) = true := by simpa using hlc
                    have HE := Lib.hid (show bst L (fn : Int) out (k + 1) = (k : Int) by rw [HBS.out, if_pos ⟨rfl, .inr (by rw [HK1.out, HK2.out]; exact hlc)⟩])
                    go_wp2_with fail
                    (refine wp_region_grow_lit (by kernel_rfl) (by kernel_rfl) ?_; repeat (any_goals (first | go_big_quiet_step ((fail)) | quiet_step ((fail)) | (refine wpQuiet_step (fun K hK => ?_); go_simp; split <;> rename_i hsp <;> (refine hK _ ?_; clear hK K) <;> (try first | simp only [hsp, decide_true, decide_false, Bool.not_true, Bool.not_false] | simp only [Int.not_le.2 hsp, decide_false, Bool.not_false] | simp only [Int.not_lt.2 hsp, decide_false, Bool.not_false] | simp only [Nat.not_le.2 hsp, decide_false, Bool.not_false] | simp only [Nat.not_lt.2 hsp, decide_false, Bool.not_false])))))
                    all_goals (refine wpQuiet_nil ?_; intro w1 h1)
                    go_wp2_with fail
                    go_roundw
                    case rel => go_light; exact ⟨k + 1, by omega, by go_num, by rw [HE.out], HG3.out.trans h1⟩
                    case measure => go_light; simp [intOf]; omega
                  · have hd2 : decide (ck < cq) = false := by simpa using hlc
                    have HE := Lib.hid (show bst L (fn : Int) out (k + 1) = (q : Int) by rw [HBS.out, if_neg (by rintro ⟨_, h | h⟩; omega; rw [HK1.out, HK2.out] at h; exact hlc h)])
                    go_wp2_with fail
                    (refine wp_region_grow_lit (by kernel_rfl) (by kernel_rfl) ?_; repeat (any_goals (first | go_big_quiet_step ((fail)) | quiet_step ((fail)) | (refine wpQuiet_step (fun K hK => ?_); go_simp; split <;> rename_i hsp <;> (refine hK _ ?_; clear hK K) <;> (try first | simp only [hsp, decide_true, decide_false, Bool.not_true, Bool.not_false] | simp only [Int.not_le.2 hsp, decide_false, Bool.not_false] | simp only [Int.not_lt.2 hsp, decide_false, Bool.not_false] | simp only [Nat.not_le.2 hsp, decide_false, Bool.not_false] | simp only [Nat.not_lt.2 hsp, decide_false, Bool.not_false])))))
                    all_goals (refine wpQuiet_nil ?_; intro w1 h1)
                    go_wp2_with fail
                    go_roundw
                    case rel => go_light; exact ⟨k + 1, by omega, by go_num, by rw [HE.out], HG3.out.trans h1⟩
                    case measure => go_light; simp [intOf]; omega
              · rw [hct] at HBS
                have HE := Lib.hid (show bst L (fn : Int) out (k + 1) = bv by rw [HBS.out, if_neg (by rintro ⟨h, _⟩; cases h)])
                go_wp2_with fail
                (refine wp_region_grow_lit (by kernel_rfl) (by kernel_rfl) ?_; repeat (any_goals (first | go_big_quiet_step ((fail)) | quiet_step ((fail)) | (refine wpQuiet_step (fun K hK => ?_); go_simp; split <;> rename_i hsp <;> (refine hK _ ?_; clear hK K) <;> (try first | simp only [hsp, decide_true, decide_false, Bool.not_true, Bool.not_false] | simp only [Int.not_le.2 hsp, decide_false, Bool.not_false] | simp only [Int.not_lt.2 hsp, decide_false, Bool.not_false] | simp only [Nat.not_le.2 hsp, decide_false, Bool.not_false] | simp only [Nat.not_lt.2 hsp, decide_false, Bool.not_false])))))
                all_goals (refine wpQuiet_nil ?_; intro w1 h1)
                go_wp2_with fail
                go_roundw
                case rel => go_light; exact ⟨k + 1, by omega, by go_num, by rw [HE.out], HG3.out.trans h1⟩
                case measure => go_light; simp [intOf]; omega
        · obtain rfl : k = n := by omega
          obtain ⟨q, hq⟩ := Int.eq_ofNat_of_zero_le HBF.out
          have HST := Lib.hid (show nearTo L k (j + 1) = (out ++ [(q : Int)], (q : Int)) by rw [HSTEP.out, hq])
          rw [hq] at hb1 ⊢
          have hqn : q < k := by omega
          have HO3 := Lib.hid (HO.out.grew HG2.out)
          have hq1 : (q : Int) < (k : Int) := by omega
          have HGS := Lib.hid (HG.out.trans HG2.out)
          clear hb0 hb1
          go_wp2_with (at_builtin; refine wpList_append_rd _ rfl (.tmp 70) (.tmp 72) _ rfl sl_Int w.heap.size _ _ _ out rfl (Own.alloc HO3.out _) _ _ _ [(q : Int)] rfl rfl (rd_new (E := IntS.E) _ (q : Int) _ (by simp)) (by simp only [List.length_cons, List.length_nil]; omega) (le_al HGS.out rfl) ?_; intro A5 c5 w5 ho5 hgr5 hat5)
          go_roundw
          case rel =>
            go_light
            exact ⟨j + 1, by have := HLEN.out; omega, by rw [HST.out], by rw [HST.out]; exact ho5, ((HGS.out.alloc _).app (Own.alloc HO3.out _) (Nat.le_refl _) hgr5)⟩
          case measure => go_light; simp; omega
    · obtain rfl : n = out.length := by omega
      have HFIN := Lib.hid (show (nearTo L out.length out.length).1 = out by have := HS.out; rw [show j = out.length from HLEN.out.symm] at this; rw [this])
      go_wp2_with fail
      go_ret2
      go_light
      refine ⟨B, d, by rw [HF.out, HFIN.out]; rfl, by rw [HF.out, HFIN.out]; exact HO.out, HG.out⟩
end Go.Proofs.Ytfplgagdjdhopaa
