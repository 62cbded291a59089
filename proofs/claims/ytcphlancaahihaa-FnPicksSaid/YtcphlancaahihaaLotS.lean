/- AreLots of the reference and FreeOn of the program and of the reference return what plain functions return. Conditions: none. -/
import Derived.Test.YtcphlancaahihaaLot
namespace Go.Proofs.Ytcphlancaahihaa
open Go.RowKit Go.ChangeShapes Go.WideShapes Go.Deep
set_option linter.unusedVariables false
set_option linter.unusedSimpArgs false

set_option maxHeartbeats 4000000 in
theorem areLots_spec (l : List Lt) (A : Option Addr) (c : Nat) (w : World) (h : Rd Lt.E w A l) (hok : ∀ x ∈ l, x.Ok) (hn : l.length ≤ 4194304) :
    Calls Try.prog 10 #[.slice A l.length c] w fun e w' => e = .returned (.bool (areL l)) ∧ Grew w w' := by
  have HA := Lib.hid (show areL l = (allTo (lotOk l) l.length && decide ((l.length : Int) ≤ 20)) from rfl)
  have HOK := Lib.hid hok
  clear hok
  by_cases hl : (20 : Int) < (l.length : Int)
  · have hlp : 0 < l.length := by omega
    have HF : Hid (areL l = false) := Lib.hid (by rw [HA.out]; simp; omega)
    clear h
    go_enter Try.func10, Try.ntmps10
    go_wp2_with fail
    go_loopw [3] (fun i wr => i = .int .i64 0 ∧ w = wr) (fun _ _ => 0)
    case atStart => exact ⟨rfl, rfl⟩
    case round =>
      obtain ⟨rfl, rfl⟩ := hrel
      go_wp2_with fail
      go_ret
      go_light
      exact ⟨ret_bool (by rw [HF.out]; simp; omega), Grew.refl _⟩
  go_enter Try.func10, Try.ntmps10
  go_wp2_with fail
  go_loopw [3] (fun i wr => ∃ k : Nat, k ≤ l.length ∧ i = .int .i64 k ∧ Grew w wr ∧ allTo (lotOk l) k = true) (fun i _ => l.length - (intOf i).toNat)
  case atStart => exact ⟨0, Nat.zero_le _, rfl, Grew.refl _, rfl⟩
  case round =>
    obtain ⟨k, hk, rfl, hg, hall⟩ := hrel
    have HALL := Lib.hid hall
    have HG := Lib.hid hg
    clear hall
    by_cases hlt : k < l.length
    · obtain ⟨x, hx⟩ : ∃ x, l[k]? = some x := ⟨_, List.getElem?_eq_getElem hlt⟩
      obtain ⟨b, o, rfl, hb, hc⟩ := (h.grew hg).at_ hlt
      obtain ⟨hc0, hc1, hc2⟩ := Lt.at_ hc hx
      have HC := Lib.hid hc
      obtain ⟨_, hs1, _⟩ := HOK.out x (List.mem_of_getElem? hx)
      have HX := Lib.hid hx
      have HFI := Lib.hid (findF_is l 0 k x hx rfl)
      have HK1 := Lib.hid (show lotOk l k = true → codeB x.ba = true ∧ inB x.ex 0 999 = true ∧ inB x.q 1 100000 = true ∧ findF x.ba l 0 = (k : Int) ∧ (0 < k → befL (l.getD (k - 1) lt0) x = true) from by
        intro hh
        simp only [lotOk, List.getD_eq_getElem?_getD, hx, Option.getD_some, Bool.and_eq_true, decide_eq_true_eq] at hh
        obtain ⟨⟨⟨⟨a1, a2⟩, a3⟩, a4⟩, a5⟩ := hh
        refine ⟨a1, a2, a3, a4, fun h0 => ?_⟩
        rw [if_neg (by omega)] at a5
        simpa [List.getD_eq_getElem?_getD] using a5)
      have HK2 := Lib.hid (show codeB x.ba = true → inB x.ex 0 999 = true → inB x.q 1 100000 = true → findF x.ba l 0 = (k : Int) → (0 < k → befL (l.getD (k - 1) lt0) x = true) → lotOk l k = true from by
        intro a1 a2 a3 a4 a5
        simp only [lotOk, List.getD_eq_getElem?_getD, hx, Option.getD_some, Bool.and_eq_true, decide_eq_true_eq]
        refine ⟨⟨⟨⟨a1, a2⟩, a3⟩, a4⟩, ?_⟩
        split
        · rfl
        · rename_i h0
          simpa [List.getD_eq_getElem?_getD] using a5 (by omega))
      clear hx hc hg h
      cases hq1 : codeB x.ba
      · go_wp2_with (first | (go_at_call 35; refine (l1In_any _ _ _ _).mono ?_; rintro e w' ⟨rfl, rfl⟩) | (go_at_call 34; refine (isCode_spec _ _ (by with_reducible assumption)).mono ?_; rintro e w' ⟨rfl, rfl⟩))
        go_ret
        go_light
        exact ⟨ret_bool (by rw [HA.out, allTo_not hlt (by cases hh : lotOk l k; rfl; rw [(HK1.out hh).1] at hq1; cases hq1)]; rfl), HG.out⟩
      cases hq2 : inB x.ex 0 999
      · go_wp2_with (first | (go_at_call 35; refine (l1In_any _ _ _ _).mono ?_; rintro e w' ⟨rfl, rfl⟩) | (go_at_call 34; refine (isCode_spec _ _ (by with_reducible assumption)).mono ?_; rintro e w' ⟨rfl, rfl⟩))
        go_ret
        go_light
        exact ⟨ret_bool (by rw [HA.out, allTo_not hlt (by cases hh : lotOk l k; rfl; rw [(HK1.out hh).2.1] at hq2; cases hq2)]; rfl), HG.out⟩
      cases hq3 : inB x.q 1 100000
      · go_wp2_with (first | (go_at_call 35; refine (l1In_any _ _ _ _).mono ?_; rintro e w' ⟨rfl, rfl⟩) | (go_at_call 34; refine (isCode_spec _ _ (by with_reducible assumption)).mono ?_; rintro e w' ⟨rfl, rfl⟩))
        go_ret
        go_light
        exact ⟨ret_bool (by rw [HA.out, allTo_not hlt (by cases hh : lotOk l k; rfl; rw [(HK1.out hh).2.2.1] at hq3; cases hq3)]; rfl), HG.out⟩
      go_wp2_with (first | (go_at_call 35; refine (l1In_any _ _ _ _).mono ?_; rintro e w' ⟨rfl, rfl⟩) | (go_at_call 34; refine (isCode_spec _ _ (by with_reducible assumption)).mono ?_; rintro e w' ⟨rfl, rfl⟩))
      obtain ⟨wo, rfl⟩ : ∃ wo : World, wo = wr := ⟨_, rfl⟩
      go_loopw [4] (fun i wr => ∃ j : Nat, j ≤ k ∧ i = .int .i64 j ∧ Grew wo wr ∧ ∀ i, i < j → (l.getD i lt0).ba.toList ≠ x.ba.toList) (fun i _ => k - (intOf i).toNat)
      case atStart => exact ⟨0, Nat.zero_le _, rfl, Grew.refl _, fun i hi => absurd hi (by omega)⟩
      case round =>
        obtain ⟨j, hj, rfl, hgj, hne⟩ := hrel
        have HNE := Lib.hid hne
        have HGJ := Lib.hid hgj
        have e0 := (hgj.rules.1 b _ hb).trans hc0
        have e1 := (hgj.rules.1 b _ hb).trans hc1
        have e2 := (hgj.rules.1 b _ hb).trans hc2
        by_cases hjk : j < k
        · obtain ⟨y, hy⟩ : ∃ y, l[j]? = some y := ⟨_, List.getElem?_eq_getElem (by omega)⟩
          obtain ⟨d0, _, _⟩ := Lt.at_ HC.out hy
          have f0 := (hgj.rules.1 b _ hb).trans d0
          have HY := Lib.hid hy
          have hyb : (l.getD j lt0).ba.toList = y.ba.toList := by simp [List.getD_eq_getElem?_getD, hy]
          have HYB := Lib.hid hyb
          clear hy hne hgj hc0 hc1 hc2 d0 hyb
          have hi1 : (0 : Int) ≤ (j : Int) := by omega
          have hi2 : (j : Int) < (l.length : Int) := by omega
          have hi3 : (k : Int) < (l.length : Int) := by omega
          by_cases heq : y.ba.toList = x.ba.toList
          · have hdd : (y.ba.toList == x.ba.toList) = true := by simpa using heq
            have HE := Lib.hid heq
            clear heq
            go_wp2_with fail
            (refine wp_region_grow_lit (by kernel_rfl) (by kernel_rfl) ?_; repeat (any_goals (first | go_big_quiet_step ((fail)) | quiet_step ((fail)) | (refine wpQuiet_step (fun K hK => ?_); go_simp; split <;> rename_i hsp <;> (refine hK _ ?_; clear hK K) <;> (try first | simp only [hsp, decide_true, decide_false, Bool.not_true, Bool.not_false] | simp only [Int.not_le.2 hsp, decide_false, Bool.not_false] | simp only [Int.not_lt.2 hsp, decide_false, Bool.not_false] | simp only [Nat.not_le.2 hsp, decide_false, Bool.not_false] | simp only [Nat.not_lt.2 hsp, decide_false, Bool.not_false])))))
            all_goals (refine wpQuiet_nil ?_; intro w1 h1)
            all_goals go_wp2_with fail
            all_goals first
              | (exfalso; have := HE.out; contradiction)
              | (go_ret
                 go_light
                 exact ⟨ret_bool (by rw [HA.out, allTo_not hlt (by cases hh : lotOk l k; rfl; exact absurd (HYB.out.trans HE.out) (HFI.out.1 (by rw [(HK1.out hh).2.2.2.1]; omega) j hjk))]; rfl), (HG.out.trans HGJ.out).trans h1⟩)
          · have hdd : (y.ba.toList == x.ba.toList) = false := by simpa using heq
            have HE := Lib.hid heq
            clear heq
            go_wp2_with fail
            (refine wp_region_grow_lit (by kernel_rfl) (by kernel_rfl) ?_; repeat (any_goals (first | go_big_quiet_step ((fail)) | quiet_step ((fail)) | (refine wpQuiet_step (fun K hK => ?_); go_simp; split <;> rename_i hsp <;> (refine hK _ ?_; clear hK K) <;> (try first | simp only [hsp, decide_true, decide_false, Bool.not_true, Bool.not_false] | simp only [Int.not_le.2 hsp, decide_false, Bool.not_false] | simp only [Int.not_lt.2 hsp, decide_false, Bool.not_false] | simp only [Nat.not_le.2 hsp, decide_false, Bool.not_false] | simp only [Nat.not_lt.2 hsp, decide_false, Bool.not_false])))))
            all_goals (refine wpQuiet_nil ?_; intro w1 h1)
            all_goals go_wp2_with fail
            all_goals first
              | (exfalso; have := HE.out; contradiction)
              | (go_roundw
                 case rel =>
                   go_light
                   refine ⟨j + 1, by omega, by go_num, HGJ.out.trans h1, fun i hi => ?_⟩
                   rcases Nat.lt_succ_iff_lt_or_eq.1 hi with h2 | rfl
                   · exact HNE.out i h2
                   · rw [HYB.out]; exact HE.out
                 case measure => go_light; simp [intOf]; omega)
        · obtain rfl : j = k := by omega
          have HF : Hid (findF x.ba l 0 = (j : Int)) := Lib.hid (by have := HFI.out.2 HNE.out; rw [this]; omega)
          clear hne hgj hc0 hc1 hc2
          have hi3 : (j : Int) < (l.length : Int) := by omega
          rcases Nat.eq_zero_or_pos j with hj0 | hj0
          · have hkg : decide (0 < j) = false := by simp [hj0]
            have HZ := Lib.hid hj0
            clear hj0
            go_wp2_with fail
            (refine wp_region_grow_lit (by kernel_rfl) (by kernel_rfl) ?_; repeat (any_goals (first | go_big_quiet_step ((fail)) | quiet_step ((fail)) | (refine wpQuiet_step (fun K hK => ?_); go_simp; split <;> rename_i hsp <;> (refine hK _ ?_; clear hK K) <;> (try first | simp only [hsp, decide_true, decide_false, Bool.not_true, Bool.not_false] | simp only [Int.not_le.2 hsp, decide_false, Bool.not_false] | simp only [Int.not_lt.2 hsp, decide_false, Bool.not_false] | simp only [Nat.not_le.2 hsp, decide_false, Bool.not_false] | simp only [Nat.not_lt.2 hsp, decide_false, Bool.not_false])))))
            all_goals (refine wpQuiet_nil ?_; intro w1 h1)
            all_goals go_wp2_with fail
            all_goals
              go_roundw
              case rel => go_light; exact ⟨j + 1, by omega, by go_num, (HG.out.trans HGJ.out).trans h1, allTo_step HALL.out (HK2.out hq1 hq2 hq3 HF.out (fun h0 => absurd h0 (by have := HZ.out; omega)))⟩
              case measure => go_light; simp [intOf]; omega
          · obtain ⟨y, hy⟩ : ∃ y, l[j - 1]? = some y := ⟨_, List.getElem?_eq_getElem (by omega)⟩
            obtain ⟨d0, d1, d2⟩ := Lt.at_ HC.out hy
            have f0 := ((HGJ.out).rules.1 b _ hb).trans d0
            have f1 := ((HGJ.out).rules.1 b _ hb).trans d1
            have f2 := ((HGJ.out).rules.1 b _ hb).trans d2
            have HYB := Lib.hid (show l.getD (j - 1) lt0 = y by simp [List.getD_eq_getElem?_getD, hy])
            have hkg : decide (0 < j) = true := by simp [hj0]
            have hkw : IntKind.i64.wrap ((j : Int) - 1) = (j : Int) - 1 := IntWalk.i64_in _ (by omega)
            clear hy d0 d1 d2
            cases hbf : befL y x
            all_goals
              go_wp2_with fail
              (refine wp_region_grow_lit (by kernel_rfl) (by kernel_rfl) ?_; repeat (any_goals (first | go_big_quiet_step ((go_at_call 36; exact quiet_grew (before_spec y x _))) | quiet_step ((go_at_call 36; exact quiet_grew (before_spec y x _))) | (refine wpQuiet_step (fun K hK => ?_); go_simp; split <;> rename_i hsp <;> (refine hK _ ?_; clear hK K) <;> (try first | simp only [hsp, decide_true, decide_false, Bool.not_true, Bool.not_false] | simp only [Int.not_le.2 hsp, decide_false, Bool.not_false] | simp only [Int.not_lt.2 hsp, decide_false, Bool.not_false] | simp only [Nat.not_le.2 hsp, decide_false, Bool.not_false] | simp only [Nat.not_lt.2 hsp, decide_false, Bool.not_false])))))
              all_goals (refine wpQuiet_nil ?_; intro w1 h1)
              all_goals go_wp2_with fail
            · go_ret
              go_light
              exact ⟨ret_bool (by rw [HA.out, allTo_not hlt (by cases hh : lotOk l j; rfl; have h9 := (HK1.out hh).2.2.2.2 hj0; rw [HYB.out, hbf] at h9; cases h9)]; rfl), (HG.out.trans HGJ.out).trans h1⟩
            · go_roundw
              case rel => go_light; exact ⟨j + 1, by omega, by go_num, (HG.out.trans HGJ.out).trans h1, allTo_step HALL.out (HK2.out hq1 hq2 hq3 HF.out (fun h0 => by rw [HYB.out]; exact hbf))⟩
              case measure => go_light; simp [intOf]; omega
    · obtain rfl : k = l.length := by omega
      clear h
      go_wp2_with fail
      go_ret
      go_light
      exact ⟨ret_bool (by rw [HA.out, HALL.out]; simp; omega), HG.out⟩
end Go.Proofs.Ytcphlancaahihaa
