/- Set-up tables: IsSetups of the program and of the reference return what a plain function returns. Conditions: none. -/
import Derived.Test.YtfplgagdjdhopaaGrid
namespace Go.Proofs.Ytfplgagdjdhopaa
open Go.RowKit Go.ChangeShapes Go.WideShapes Go.Deep
set_option linter.unusedVariables false
set_option linter.unusedSimpArgs false

def cellOk (m : List Int) (k : Nat) : Bool := inB (m.getD k 0) 0 1000
def rowB (m : List Int) (n : Int) : Bool := decide ((m.length : Int) = n) && allTo (cellOk m) m.length
def setB (L : List (List Int)) : Bool := inB ((L.length : Int) - 1) 0 7 && allTo (fun i => rowB (L.getD i []) ((L.length : Int) - 1)) L.length

set_option maxHeartbeats 2000000 in
theorem isSetups_impl (L : List (List Int)) (A : Option Addr) (c : Nat) (w : World) (h : RdR w A L) (hr : ∀ m ∈ L, m.length ≤ maxLen) (hn : L.length ≤ 4194304) :
    Calls Try.prog 11 #[.slice A L.length c] w fun e w' => e = .returned (.bool (setB L)) ∧ Grew w w' := by
  have HA := Lib.hid (show setB L = (inB ((L.length : Int) - 1) 0 7 && allTo (fun i => rowB (L.getD i []) ((L.length : Int) - 1)) L.length) from rfl)
  have H := Lib.hid h
  have HR := Lib.hid hr
  clear h hr
  cases hin : inB ((L.length : Int) - 1) 0 7
  · go_enter Try.func11, Try.ntmps11
    go_wp2_with (go_at_call 29; refine (in_any _ _ _ _).mono ?_; rintro e w' ⟨rfl, rfl⟩)
    go_ret
    go_light
    exact ⟨ret_bool (by rw [HA.out, hin]; rfl), Grew.refl _⟩
  have HIN := Lib.hid hin
  go_enter Try.func11, Try.ntmps11
  go_wp2_with (go_at_call 29; refine (in_any _ _ _ _).mono ?_; rintro e w' ⟨rfl, rfl⟩)
  go_loopw [16] (fun i wr => ∃ k : Nat, k ≤ L.length ∧ i = .int .i64 k ∧ wr = w ∧ allTo (fun i => rowB (L.getD i []) ((L.length : Int) - 1)) k = true) (fun i _ => L.length - (intOf i).toNat)
  case atStart => exact ⟨0, Nat.zero_le _, rfl, rfl, rfl⟩
  case round =>
    obtain ⟨k, hk, rfl, rfl, hall⟩ := hrel
    have HALL := Lib.hid hall
    clear hall
    by_cases hlt : k < L.length
    · obtain ⟨m, hm⟩ : ∃ m, L[k]? = some m := ⟨_, List.getElem?_eq_getElem hlt⟩
      obtain ⟨b, o, B, c', rfl, hb, hc, hrd⟩ := H.out.at_ hm
      have hml := HR.out m (List.mem_of_getElem? hm)
      unfold maxLen at hml
      have HK := Lib.hid (show rowB (L.getD k []) ((L.length : Int) - 1) = (decide ((m.length : Int) = (L.length : Int) - 1) && allTo (cellOk m) m.length) by simp [rowB, List.getD_eq_getElem?_getD, hm])
      have HRD := Lib.hid hrd
      clear hm hrd
      by_cases hlen : (m.length : Int) = (L.length : Int) - 1
      · have hne : ((m.length : Int) != (L.length : Int) - 1) = false := by simpa using hlen
        have HLEN := Lib.hid hlen
        clear hlen
        go_wp2_with fail
        go_loopw [26] (fun i w2 => ∃ j : Nat, j ≤ m.length ∧ i = .int .i64 j ∧ w2 = wr ∧ allTo (cellOk m) j = true) (fun i _ => m.length - (intOf i).toNat)
        case atStart => exact ⟨0, Nat.zero_le _, rfl, rfl, rfl⟩
        case round =>
          obtain ⟨j, hj, rfl, rfl, hall2⟩ := hrel
          have HALL2 := Lib.hid hall2
          clear hall2
          by_cases hjt : j < m.length
          · obtain ⟨x, hx⟩ : ∃ x, m[j]? = some x := ⟨_, List.getElem?_eq_getElem hjt⟩
            obtain ⟨b2, o2, rfl, hb2, hc2⟩ := HRD.out.at_ hjt
            have hd0 := IntS.at_ hc2 hx
            have HX := Lib.hid (show cellOk m j = inB x 0 1000 by simp [cellOk, List.getD_eq_getElem?_getD, hx])
            clear hx hc2
            cases hcx : inB x 0 1000
            all_goals go_wp2_with (go_at_call 29; refine (in_any _ _ _ _).mono ?_; rintro e w' ⟨rfl, rfl⟩)
            · go_ret
              go_light
              exact ⟨ret_bool (by rw [HA.out, HIN.out, allTo_not hlt (by rw [HK.out, allTo_not hjt (by rw [HX.out, hcx])]; simp)]; rfl), Grew.refl _⟩
            · go_roundw
              case rel => go_light; exact ⟨j + 1, by omega, by go_num, by first | rfl | trivial, allTo_step HALL2.out (by rw [HX.out, hcx])⟩
              case measure => go_light; simp [intOf]; omega
          · obtain rfl : j = m.length := by omega
            go_wp2_with fail
            go_roundw
            case rel => go_light; exact ⟨k + 1, by omega, by go_num, by first | rfl | trivial, allTo_step HALL.out (by rw [HK.out, HALL2.out]; simp [HLEN.out])⟩
            case measure => go_light; simp [intOf]; omega
      · have hne : ((m.length : Int) != (L.length : Int) - 1) = true := by simpa using hlen
        go_wp2_with fail
        go_ret
        go_light
        exact ⟨ret_bool (by rw [HA.out, allTo_not hlt (by rw [HK.out]; simp [hlen])]; simp), Grew.refl _⟩
    · obtain rfl : k = L.length := by omega
      go_wp2_with fail
      go_ret
      go_light
      exact ⟨ret_bool (by rw [HA.out, HALL.out, HIN.out]; rfl), Grew.refl _⟩
set_option maxHeartbeats 2000000 in
theorem isSetups_spec (L : List (List Int)) (A : Option Addr) (c : Nat) (w : World) (h : RdR w A L) (hr : ∀ m ∈ L, m.length ≤ maxLen) (hn : L.length ≤ 4194304) :
    Calls Try.prog 9 #[.slice A L.length c] w fun e w' => e = .returned (.bool (setB L)) ∧ Grew w w' := by
  have HA := Lib.hid (show setB L = (inB ((L.length : Int) - 1) 0 7 && allTo (fun i => rowB (L.getD i []) ((L.length : Int) - 1)) L.length) from rfl)
  have H := Lib.hid h
  have HR := Lib.hid hr
  clear h hr
  go_enter Try.func9, Try.ntmps9
  go_wp2_with fail
  go_loopw [4] (fun i wr => ∃ k : Nat, k ≤ L.length ∧ i = .int .i64 k ∧ wr = w ∧ allTo (fun i => rowB (L.getD i []) ((L.length : Int) - 1)) k = true) (fun i _ => L.length - (intOf i).toNat)
  case atStart => exact ⟨0, Nat.zero_le _, rfl, rfl, rfl⟩
  case round =>
    obtain ⟨k, hk, rfl, rfl, hall⟩ := hrel
    have HALL := Lib.hid hall
    clear hall
    by_cases hlt : k < L.length
    · obtain ⟨m, hm⟩ : ∃ m, L[k]? = some m := ⟨_, List.getElem?_eq_getElem hlt⟩
      obtain ⟨b, o, B, c', rfl, hb, hc, hrd⟩ := H.out.at_ hm
      have hml := HR.out m (List.mem_of_getElem? hm)
      unfold maxLen at hml
      have HK := Lib.hid (show rowB (L.getD k []) ((L.length : Int) - 1) = (decide ((m.length : Int) = (L.length : Int) - 1) && allTo (cellOk m) m.length) by simp [rowB, List.getD_eq_getElem?_getD, hm])
      have HRD := Lib.hid hrd
      clear hm hrd
      by_cases hlen : (m.length : Int) = (L.length : Int) - 1
      · have hne : ((m.length : Int) != (L.length : Int) - 1) = false := by simpa using hlen
        have HLEN := Lib.hid hlen
        go_wp2_with fail
        go_loopw [5] (fun i w2 => ∃ j : Nat, j ≤ m.length ∧ i = .int .i64 j ∧ w2 = wr ∧ allTo (cellOk m) j = true) (fun i _ => m.length - (intOf i).toNat)
        case atStart => exact ⟨0, Nat.zero_le _, rfl, rfl, rfl⟩
        case round =>
          obtain ⟨j, hj, rfl, rfl, hall2⟩ := hrel
          have HALL2 := Lib.hid hall2
          clear hall2
          by_cases hjt : j < m.length
          · obtain ⟨x, hx⟩ : ∃ x, m[j]? = some x := ⟨_, List.getElem?_eq_getElem hjt⟩
            obtain ⟨b2, o2, rfl, hb2, hc2⟩ := HRD.out.at_ hjt
            have hd0 := IntS.at_ hc2 hx
            have HX := Lib.hid (show cellOk m j = inB x 0 1000 by simp [cellOk, List.getD_eq_getElem?_getD, hx])
            clear hx hc2
            cases hcx : inB x 0 1000
            all_goals go_wp2_with (go_at_call 28; refine (l1In_any _ _ _ _).mono ?_; rintro e w' ⟨rfl, rfl⟩)
            · go_ret
              go_light
              exact ⟨ret_bool (by rw [HA.out, allTo_not hlt (by rw [HK.out, allTo_not hjt (by rw [HX.out, hcx])]; simp)]; simp), Grew.refl _⟩
            · go_roundw
              case rel => go_light; exact ⟨j + 1, by omega, by go_num, by first | rfl | trivial, allTo_step HALL2.out (by rw [HX.out, hcx])⟩
              case measure => go_light; simp [intOf]; omega
          · obtain rfl : j = m.length := by omega
            go_wp2_with fail
            go_roundw
            case rel => go_light; exact ⟨k + 1, by omega, by go_num, by first | rfl | trivial, allTo_step HALL.out (by rw [HK.out, HALL2.out]; simp [HLEN.out])⟩
            case measure => go_light; simp [intOf]; omega
      · have hne : ((m.length : Int) != (L.length : Int) - 1) = true := by simpa using hlen
        go_wp2_with fail
        go_ret
        go_light
        exact ⟨ret_bool (by rw [HA.out, allTo_not hlt (by rw [HK.out]; simp [hlen])]; simp), Grew.refl _⟩
    · obtain rfl : k = L.length := by omega
      go_wp2_with (go_at_call 28; refine (l1In_any _ _ _ _).mono ?_; rintro e w' ⟨rfl, rfl⟩)
      go_ret
      go_light
      exact ⟨ret_bool (by rw [HA.out, HALL.out]; simp), Grew.refl _⟩
end Go.Proofs.Ytfplgagdjdhopaa
