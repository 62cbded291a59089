/- Orders: IsOrder of the reference returns what a plain function returns. Conditions: none. -/
import Derived.Test.YtfplgagdjdhopaaOrd
namespace Go.Proofs.Ytfplgagdjdhopaa
open Go.RowKit Go.ChangeShapes Go.WideShapes Go.Deep
set_option linter.unusedVariables false
set_option linter.unusedSimpArgs false

theorem mem_take {l : List Int} {k : Nat} {x : Int} : x ∈ l.take k ↔ ∃ j, j < k ∧ l[j]? = some x := by
  rw [List.mem_iff_getElem?]
  constructor
  · rintro ⟨j, hj⟩
    rw [List.getElem?_take] at hj
    split at hj
    · rename_i h; exact ⟨j, h, hj⟩
    · cases hj
  · rintro ⟨j, h, hj⟩
    exact ⟨j, by rw [List.getElem?_take, if_pos h]; exact hj⟩

set_option maxHeartbeats 2000000 in
theorem isOrder_spec (l : List IntS) (A : Option Addr) (c : Nat) (n : Int) (w : World) (h : Rd IntS.E w A l) (hn : l.length ≤ 4194304) :
    Calls Try.prog 30 #[.slice A l.length c, .int .i64 n] w fun e w' => e = .returned (.bool (ordB l n)) ∧ Grew w w' := by
  by_cases hln : (l.length : Int) = n
  case neg =>
    have HF := Lib.hid (show ordB l n = false by simp [ordB, hln])
    have hne : ((l.length : Int) != n) = true := by simpa using hln
    clear h
    go_enter Try.func30, Try.ntmps30
    go_wp2_with fail
    go_ret
    go_light
    exact ⟨ret_bool HF.out.symm, Grew.refl _⟩
  subst hln
  have HF := Lib.hid (show ordB l l.length = allTo (ordOk l) l.length by simp [ordB])
  go_enter Try.func30, Try.ntmps30
  go_wp2_with fail
  go_loopw [5] (fun i wr => ∃ k : Nat, k ≤ l.length ∧ i = .int .i64 k ∧ Grew w wr ∧ allTo (ordOk l) k = true) (fun i _ => l.length - (intOf i).toNat)
  case atStart => exact ⟨0, Nat.zero_le _, rfl, Grew.refl _, rfl⟩
  case round =>
    obtain ⟨k, hk, rfl, hg, hall⟩ := hrel
    have HALL := Lib.hid hall
    have HG := Lib.hid hg
    clear hall
    by_cases hlt : k < l.length
    · obtain ⟨x, hx⟩ : ∃ x, l[k]? = some x := ⟨_, List.getElem?_eq_getElem hlt⟩
      obtain ⟨b, o, rfl, hb, hc⟩ := (h.grew hg).at_ hlt
      have hc0 := IntS.at_ hc hx
      have HC := Lib.hid hc
      have HK := Lib.hid (show ordOk l k = (inB x 0 ((l.length : Int) - 1) && !((l.take k).contains x)) by simp [ordOk, List.getD_eq_getElem?_getD, hx])
      clear hx hc hg h
      cases hin : inB x 0 ((l.length : Int) - 1)
      · go_wp2_with (go_at_call 28; refine (l1In_any _ _ _ _).mono ?_; rintro e w' ⟨rfl, rfl⟩)
        go_ret
        go_light
        exact ⟨ret_bool (by rw [HF.out, allTo_not hlt (by rw [HK.out, hin]; rfl)]), HG.out⟩
      go_wp2_with (go_at_call 28; refine (l1In_any _ _ _ _).mono ?_; rintro e w' ⟨rfl, rfl⟩)
      obtain ⟨wo, rfl⟩ : ∃ wo : World, wo = wr := ⟨_, rfl⟩
      go_loopw [6] (fun i wr => ∃ j : Nat, j ≤ k ∧ i = .int .i64 j ∧ Grew wo wr ∧ ∀ i, i < j → l[i]? ≠ some x) (fun i _ => k - (intOf i).toNat)
      case atStart => exact ⟨0, Nat.zero_le _, rfl, Grew.refl _, fun i hi => absurd hi (by omega)⟩
      case round =>
        obtain ⟨j, hj, rfl, hgj, hne⟩ := hrel
        have HNE := Lib.hid hne
        have HGJ := Lib.hid hgj
        have e0 := (hgj.rules.1 b _ hb).trans hc0
        by_cases hjk : j < k
        · obtain ⟨y, hy⟩ : ∃ y, l[j]? = some y := ⟨_, List.getElem?_eq_getElem (by omega)⟩
          have d0 := IntS.at_ HC.out hy
          have f0 := (hgj.rules.1 b _ hb).trans d0
          have HY := Lib.hid hy
          clear hy hne hgj hc0 d0
          have hi1 : (0 : Int) ≤ (j : Int) := by omega
          have hi2 : (j : Int) < (l.length : Int) := by omega
          have hi3 : (k : Int) < (l.length : Int) := by omega
          cases hdd : (y == x)
          · go_wp2_with fail
            (refine wp_region_grow_lit (by kernel_rfl) (by kernel_rfl) ?_; repeat (any_goals (first | go_big_quiet_step ((fail)) | quiet_step ((fail)) | (refine wpQuiet_step (fun K hK => ?_); go_simp; split <;> rename_i hsp <;> (refine hK _ ?_; clear hK K) <;> (try first | simp only [hsp, decide_true, decide_false, Bool.not_true, Bool.not_false] | simp only [Int.not_le.2 hsp, decide_false, Bool.not_false] | simp only [Int.not_lt.2 hsp, decide_false, Bool.not_false] | simp only [Nat.not_le.2 hsp, decide_false, Bool.not_false] | simp only [Nat.not_lt.2 hsp, decide_false, Bool.not_false])))))
            all_goals (refine wpQuiet_nil ?_; intro w1 h1)
            go_wp2_with fail
            go_roundw
            case rel =>
              go_light
              refine ⟨j + 1, by omega, by go_num, HGJ.out.trans h1, fun i hi => ?_⟩
              rcases Nat.lt_succ_iff_lt_or_eq.1 hi with h2 | rfl
              · exact HNE.out i h2
              · rw [HY.out]; intro h3; injection h3 with h3; simp [h3] at hdd
            case measure => go_light; simp [intOf]; omega
          · go_wp2_with fail
            (refine wp_region_grow_lit (by kernel_rfl) (by kernel_rfl) ?_; repeat (any_goals (first | go_big_quiet_step ((fail)) | quiet_step ((fail)) | (refine wpQuiet_step (fun K hK => ?_); go_simp; split <;> rename_i hsp <;> (refine hK _ ?_; clear hK K) <;> (try first | simp only [hsp, decide_true, decide_false, Bool.not_true, Bool.not_false] | simp only [Int.not_le.2 hsp, decide_false, Bool.not_false] | simp only [Int.not_lt.2 hsp, decide_false, Bool.not_false] | simp only [Nat.not_le.2 hsp, decide_false, Bool.not_false] | simp only [Nat.not_lt.2 hsp, decide_false, Bool.not_false])))))
            all_goals (refine wpQuiet_nil ?_; intro w1 h1)
            go_wp2_with fail
            go_ret
            go_light
            exact ⟨ret_bool (by rw [HF.out, allTo_not hlt (by rw [HK.out, hin]; simp; exact mem_take.2 ⟨j, hjk, by rw [HY.out]; simpa using hdd⟩)]), (HG.out.trans HGJ.out).trans h1⟩
        · obtain rfl : j = k := by omega
          clear hne hgj hc0 e0
          go_wp2_with fail
          go_roundw
          case rel =>
            go_light
            refine ⟨j + 1, by omega, by go_num, HG.out.trans HGJ.out, allTo_step HALL.out (by rw [HK.out, hin]; simp; intro h3; obtain ⟨i, hi, he⟩ := mem_take.1 h3; exact HNE.out i hi he)⟩
          case measure => go_light; simp [intOf]; omega
    · obtain rfl : k = l.length := by omega
      clear h
      go_wp2_with fail
      go_ret
      go_light
      exact ⟨ret_bool (by rw [HF.out, HALL.out]), HG.out⟩
end Go.Proofs.Ytfplgagdjdhopaa
