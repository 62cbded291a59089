/- AreJobs of the program and of the reference return what a plain function returns. Conditions: none. -/
import Derived.Test.YtembbgkhmnalpaaJob
namespace Go.Proofs.Ytembbgkhmnalpaa
open Go.RowKit Go.ChangeShapes Go.WideShapes Go.Deep
set_option linter.unusedVariables false
set_option linter.unusedSimpArgs false

def wk0 : Wk := ⟨ByteArray.empty, 0⟩
def jb0 : Jb := ⟨0, 0, []⟩
def wkB (y : Wk) : Bool := codeB y.ce && inB y.mi 1 1000
def wkOk (l : List Wk) (k : Nat) : Bool := wkB (l.getD k wk0)
def jobB (x : Jb) : Bool := inB x.rl 0 100000 && inB x.du 0 100000 && decide (x.st.length ≤ 5) && allTo (wkOk x.st) x.st.length
def jobOk (J : List Jb) (i : Nat) : Bool := jobB (J.getD i jb0)
def areJ (J : List Jb) : Bool := allTo (jobOk J) J.length && decide (J.length ≤ 6)
/-- No text is too long for a machine. -/
def JSm (J : List Jb) : Prop := ∀ x ∈ J, x.st.length ≤ maxLen ∧ ∀ y ∈ x.st, y.ce.size ≤ maxLen
theorem JSm.of {J : List Jb} (h : ∀ x ∈ J, x.Ok) : JSm J := fun x hx => ⟨(h x hx).1, fun y hy => ((h x hx).2.1 y hy).2.1⟩

set_option maxHeartbeats 4000000 in
theorem areJobs_impl (J : List Jb) (A : Option Addr) (c : Nat) (w : World) (h : RdJ w A J) (hs : JSm J) (hn : J.length ≤ 4194304) :
    Calls Try.prog 45 #[.slice A J.length c] w fun e w' => e = .returned (.bool (areJ J)) ∧ Grew w w' := by
  have HA := Lib.hid (show areJ J = (allTo (jobOk J) J.length && decide (J.length ≤ 6)) from rfl)
  have H := Lib.hid h
  have HS := Lib.hid hs
  clear h hs
  go_enter Try.func45, Try.ntmps45
  go_wp2_with fail
  go_loopw [9] (fun i wr => ∃ k : Nat, k ≤ J.length ∧ i = .int .i64 k ∧ Grew w wr ∧ allTo (jobOk J) k = true) (fun i _ => J.length - (intOf i).toNat)
  case atStart => exact ⟨0, Nat.zero_le _, rfl, Grew.refl _, rfl⟩
  case round =>
    obtain ⟨k, hk, rfl, hg, hall⟩ := hrel
    have HALL := Lib.hid hall
    clear hall
    by_cases hlt : k < J.length
    · obtain ⟨x, hx⟩ : ∃ x, J[k]? = some x := ⟨_, List.getElem?_eq_getElem hlt⟩
      obtain ⟨b, o, B, d, rfl, hb, ⟨hc0, hc1, hc2⟩, hrd⟩ := (H.out.grew hg).at_ hx
      have HXS := Lib.hid (HS.out x (List.mem_of_getElem? hx))
      have hsl := HXS.out.1
      unfold maxLen at hsl
      have HK := Lib.hid (show jobOk J k = (inB x.rl 0 100000 && inB x.du 0 100000 && decide (x.st.length ≤ 5) && allTo (wkOk x.st) x.st.length) by simp [jobOk, jobB, List.getD_eq_getElem?_getD, hx])
      have HRD := Lib.hid hrd
      have HG := Lib.hid hg
      clear hx hrd hg
      obtain ⟨rl, du, st⟩ := x
      simp only at *
      have HG1 := Lib.hid (HG.out.alloc (.cells #[.int .i64 rl, .int .i64 du, .slice B st.length d] 72))
      cases h1 : inB rl 0 100000
      · go_wp2_with (go_at_call 36; refine (in_any _ _ _ _).mono ?_; rintro e w' ⟨rfl, rfl⟩)
        go_ret
        go_light
        exact ⟨ret_bool (by rw [HA.out, allTo_not hlt (by rw [HK.out, h1]; rfl)]; rfl), HG1.out⟩
      cases h2 : inB du 0 100000
      · go_wp2_with (go_at_call 36; refine (in_any _ _ _ _).mono ?_; rintro e w' ⟨rfl, rfl⟩)
        go_ret
        go_light
        exact ⟨ret_bool (by rw [HA.out, allTo_not hlt (by rw [HK.out, h1, h2]; rfl)]; rfl), HG1.out⟩
      by_cases h3 : st.length ≤ 5
      · have h3i : ¬ ((5 : Int) < (st.length : Int)) := by omega
        go_wp2_with (go_at_call 36; refine (in_any _ _ _ _).mono ?_; rintro e w' ⟨rfl, rfl⟩)
        go_loopw [32] (fun i w2 => ∃ j : Nat, j ≤ st.length ∧ i = .int .i64 j ∧ Grew w w2 ∧ Grew wr w2 ∧ allTo (wkOk st) j = true) (fun i _ => st.length - (intOf i).toNat)
        case atStart => exact ⟨0, Nat.zero_le _, rfl, HG1.out, (Grew.refl _).alloc _, rfl⟩
        case round =>
          obtain ⟨j, hj, rfl, hg2, hg3, hall2⟩ := hrel
          have HG2 := Lib.hid hg2
          have HG3 := Lib.hid hg3
          have HALL2 := Lib.hid hall2
          clear hall2
          by_cases hjt : j < st.length
          · obtain ⟨y, hy⟩ : ∃ y, st[j]? = some y := ⟨_, List.getElem?_eq_getElem hjt⟩
            obtain ⟨b2, o2, rfl, hb2, hcc⟩ := (HRD.out.grew hg3).at_ hjt
            obtain ⟨hd0, hd1⟩ := Wk.at_ hcc hy
            have hce := HXS.out.2 y (List.mem_of_getElem? hy)
            have HY := Lib.hid (show wkOk st j = (codeB y.ce && inB y.mi 1 1000) by simp [wkOk, wkB, List.getD_eq_getElem?_getD, hy])
            clear hy hcc hg2 hg3
            obtain ⟨ce, mi⟩ := y
            simp only at *
            have HG4 := Lib.hid (HG2.out.alloc (.cells #[.string ce, .int .i64 mi] 74))
            have HG5 := Lib.hid (HG3.out.alloc (.cells #[.string ce, .int .i64 mi] 74))
            cases h4 : codeB ce
            · go_wp2_with (first | (go_at_call 36; refine (in_any _ _ _ _).mono ?_; rintro e w' ⟨rfl, rfl⟩) | (go_at_call 35; refine (isCode_impl _ _ (by assumption)).mono ?_; rintro e w' ⟨rfl, rfl⟩))
              go_ret
              go_light
              exact ⟨ret_bool (by rw [HA.out, allTo_not hlt (by rw [HK.out, allTo_not hjt (by rw [HY.out, h4]; rfl)]; simp)]; rfl), HG4.out⟩
            cases h5 : inB mi 1 1000
            all_goals go_wp2_with (first | (go_at_call 36; refine (in_any _ _ _ _).mono ?_; rintro e w' ⟨rfl, rfl⟩) | (go_at_call 35; refine (isCode_impl _ _ (by assumption)).mono ?_; rintro e w' ⟨rfl, rfl⟩))
            · go_ret
              go_light
              exact ⟨ret_bool (by rw [HA.out, allTo_not hlt (by rw [HK.out, allTo_not hjt (by rw [HY.out, h4, h5]; rfl)]; simp)]; rfl), HG4.out⟩
            · go_roundw
              case rel => go_light; exact ⟨j + 1, by omega, by go_num, HG4.out, HG5.out, allTo_step HALL2.out (by rw [HY.out, h4, h5]; rfl)⟩
              case measure => go_light; simp [intOf]; omega
          · obtain rfl : j = st.length := by omega
            go_wp2_with fail
            go_roundw
            case rel => go_light; exact ⟨k + 1, by omega, by go_num, HG2.out, allTo_step HALL.out (by rw [HK.out, HALL2.out, h1, h2]; simp [h3])⟩
            case measure => go_light; simp [intOf]; omega
      · have h3i : (5 : Int) < (st.length : Int) := by omega
        go_wp2_with (go_at_call 36; refine (in_any _ _ _ _).mono ?_; rintro e w' ⟨rfl, rfl⟩)
        go_ret
        go_light
        exact ⟨ret_bool (by rw [HA.out, allTo_not hlt (by rw [HK.out]; simp [h3])]; rfl), HG1.out⟩
    · obtain rfl : k = J.length := by omega
      go_wp2_with fail
      go_ret
      go_light
      exact ⟨ret_bool (by rw [HA.out, HALL.out]; simp; try omega), hg⟩

set_option maxHeartbeats 4000000 in
theorem areJobs_spec (J : List Jb) (A : Option Addr) (c : Nat) (w : World) (h : RdJ w A J) (hs : JSm J) (hn : J.length ≤ 4194304) :
    Calls Try.prog 42 #[.slice A J.length c] w fun e w' => e = .returned (.bool (areJ J)) ∧ Grew w w' := by
  have HA := Lib.hid (show areJ J = (allTo (jobOk J) J.length && decide (J.length ≤ 6)) from rfl)
  have H := Lib.hid h
  have HS := Lib.hid hs
  clear h hs
  go_enter Try.func42, Try.ntmps42
  go_wp2_with fail
  go_loopw [3, 4] (fun i _ wr => ∃ k : Nat, k ≤ J.length ∧ i = .int .i64 k ∧ wr = w ∧ allTo (jobOk J) k = true) (fun i _ _ => J.length - (intOf i).toNat)
  case atStart => exact ⟨0, Nat.zero_le _, rfl, rfl, rfl⟩
  case round =>
    obtain ⟨k, hk, rfl, rfl, hall⟩ := hrel
    have HALL := Lib.hid hall
    clear hall
    by_cases hlt : k < J.length
    · obtain ⟨x, hx⟩ : ∃ x, J[k]? = some x := ⟨_, List.getElem?_eq_getElem hlt⟩
      obtain ⟨b, o, B, d, rfl, hb, ⟨hc0, hc1, hc2⟩, hrd⟩ := H.out.at_ hx
      have HXS := Lib.hid (HS.out x (List.mem_of_getElem? hx))
      have hsl := HXS.out.1
      unfold maxLen at hsl
      have HK := Lib.hid (show jobOk J k = (inB x.rl 0 100000 && inB x.du 0 100000 && decide (x.st.length ≤ 5) && allTo (wkOk x.st) x.st.length) by simp [jobOk, jobB, List.getD_eq_getElem?_getD, hx])
      have HRD := Lib.hid hrd
      clear hx hrd
      obtain ⟨rl, du, st⟩ := x
      simp only at *
      cases h1 : inB rl 0 100000
      · go_wp2_with (go_at_call 34; refine (l1In_any _ _ _ _).mono ?_; rintro e w' ⟨rfl, rfl⟩)
        go_ret
        go_light
        exact ⟨ret_bool (by rw [HA.out, allTo_not hlt (by rw [HK.out, h1]; rfl)]; rfl), Grew.refl _⟩
      cases h2 : inB du 0 100000
      · go_wp2_with (go_at_call 34; refine (l1In_any _ _ _ _).mono ?_; rintro e w' ⟨rfl, rfl⟩)
        go_ret
        go_light
        exact ⟨ret_bool (by rw [HA.out, allTo_not hlt (by rw [HK.out, h1, h2]; rfl)]; rfl), Grew.refl _⟩
      by_cases h3 : st.length ≤ 5
      · have h3i : ¬ ((5 : Int) < (st.length : Int)) := by omega
        go_wp2_with (go_at_call 34; refine (l1In_any _ _ _ _).mono ?_; rintro e w' ⟨rfl, rfl⟩)
        go_loopw [4] (fun i w2 => ∃ j : Nat, j ≤ st.length ∧ i = .int .i64 j ∧ w2 = wr ∧ allTo (wkOk st) j = true) (fun i _ => st.length - (intOf i).toNat)
        case atStart => exact ⟨0, Nat.zero_le _, rfl, rfl, rfl⟩
        case round =>
          obtain ⟨j, hj, rfl, rfl, hall2⟩ := hrel
          have HALL2 := Lib.hid hall2
          clear hall2
          by_cases hjt : j < st.length
          · obtain ⟨y, hy⟩ : ∃ y, st[j]? = some y := ⟨_, List.getElem?_eq_getElem hjt⟩
            obtain ⟨b2, o2, rfl, hb2, hcc⟩ := HRD.out.at_ hjt
            obtain ⟨hd0, hd1⟩ := Wk.at_ hcc hy
            have hce := HXS.out.2 y (List.mem_of_getElem? hy)
            have HY := Lib.hid (show wkOk st j = (codeB y.ce && inB y.mi 1 1000) by simp [wkOk, wkB, List.getD_eq_getElem?_getD, hy])
            clear hy hcc
            obtain ⟨ce, mi⟩ := y
            simp only at *
            cases h4 : codeB ce
            · go_wp2_with (first | (go_at_call 34; refine (l1In_any _ _ _ _).mono ?_; rintro e w' ⟨rfl, rfl⟩) | (go_at_call 33; refine (isCode_spec _ _ (by assumption)).mono ?_; rintro e w' ⟨rfl, rfl⟩))
              go_ret
              go_light
              exact ⟨ret_bool (by rw [HA.out, allTo_not hlt (by rw [HK.out, allTo_not hjt (by rw [HY.out, h4]; rfl)]; simp)]; rfl), Grew.refl _⟩
            cases h5 : inB mi 1 1000
            all_goals go_wp2_with (first | (go_at_call 34; refine (l1In_any _ _ _ _).mono ?_; rintro e w' ⟨rfl, rfl⟩) | (go_at_call 33; refine (isCode_spec _ _ (by assumption)).mono ?_; rintro e w' ⟨rfl, rfl⟩))
            · go_ret
              go_light
              exact ⟨ret_bool (by rw [HA.out, allTo_not hlt (by rw [HK.out, allTo_not hjt (by rw [HY.out, h4, h5]; rfl)]; simp)]; rfl), Grew.refl _⟩
            · go_roundw
              case rel => go_light; exact ⟨j + 1, by omega, by go_num, by first | rfl | trivial, allTo_step HALL2.out (by rw [HY.out, h4, h5]; rfl)⟩
              case measure => go_light; simp [intOf]; omega
          · obtain rfl : j = st.length := by omega
            go_wp2_with fail
            go_roundw
            case rel => go_light; exact ⟨k + 1, by omega, by go_num, by first | rfl | trivial, allTo_step HALL.out (by rw [HK.out, HALL2.out, h1, h2]; simp [h3])⟩
            case measure => go_light; simp [intOf]; omega
      · have h3i : (5 : Int) < (st.length : Int) := by omega
        go_wp2_with (go_at_call 34; refine (l1In_any _ _ _ _).mono ?_; rintro e w' ⟨rfl, rfl⟩)
        go_ret
        go_light
        exact ⟨ret_bool (by rw [HA.out, allTo_not hlt (by rw [HK.out]; simp [h3])]; rfl), Grew.refl _⟩
    · obtain rfl : k = J.length := by omega
      go_wp2_with fail
      go_ret
      go_light
      exact ⟨ret_bool (by rw [HA.out, HALL.out]; simp; try omega), Grew.refl _⟩
end Go.Proofs.Ytembbgkhmnalpaa
