/- IsCode of the program and of the reference return what one plain function returns. Conditions: none. -/
import Derived.Test.YtembbgkhmnalpaaBase
namespace Go.Proofs.Ytembbgkhmnalpaa
open Go.RowKit
set_option linter.unusedVariables false
set_option linter.unusedSimpArgs false

def okCh (c : Int) (i : Nat) : Bool :=
  (decide (65 ≤ c) && decide (c ≤ 90)) || (!(decide (i = 0)) && ((decide (48 ≤ c) && decide (c ≤ 57)) || decide (c = 45)))
def okC (s : ByteArray) (i : Nat) : Bool := if h : i < s.size then okCh (s[i].toNat : Int) i else true
def codeB (s : ByteArray) : Bool := allTo (okC s) s.size && decide ((1 : Int) ≤ (s.size : Int)) && decide ((s.size : Int) ≤ 8)
theorem codeB_empty {s : ByteArray} (h : s.size = 0) : codeB s = false := by simp [codeB, h]

set_option maxHeartbeats 1000000 in
theorem isCode_impl (s : ByteArray) (w : World) (hs : s.size ≤ maxLen) :
    Calls Try.prog 35 #[.string s] w fun e w' => e = .returned (.bool (codeB s)) ∧ w = w' := by
  unfold maxLen at hs
  go_enter Try.func35, Try.ntmps35
  go_wp2_with fail
  go_loop [3] (fun i => ∃ k : Nat, k ≤ s.size ∧ i = .int .i64 k ∧ allTo (okC s) k = true) (fun i => s.size - (intOf i).toNat)
  case atStart => exact ⟨0, Nat.zero_le _, rfl, rfl⟩
  case round =>
    obtain ⟨k, hk, rfl, hall⟩ := hrel
    have HALL := Lib.hid hall
    clear hall
    by_cases hlt : k < s.size
    · have HK := Lib.hid (show okC s k = okCh (s[k].toNat : Int) k by simp [okC, hlt])
      rcases Nat.eq_zero_or_pos k with hk0 | hk0
      · have hkb : ((k : Int) == 0) = true := by simp [hk0]
        have HZ := Lib.hid hk0
        clear hk0
        go_wp2_with fail
        all_goals first
          | (go_ret; go_light; exact ⟨ret_bool (by unfold codeB; rw [allTo_not hlt (by rw [HK.out]; have := HZ.out; simp_all [okCh]; try omega)]; simp), rfl⟩)
          | (go_round
             case rel => go_light; exact ⟨k + 1, by omega, by go_num, allTo_step HALL.out (by rw [HK.out]; have := HZ.out; simp_all [okCh]; try omega)⟩
             case measure => go_light; simp [intOf]; omega)
      · have hkb : ((k : Int) == 0) = false := by simp; omega
        go_wp2_with fail
        all_goals first
          | (go_ret; go_light; exact ⟨ret_bool (by unfold codeB; rw [allTo_not hlt (by rw [HK.out]; simp_all [okCh]; try omega)]; simp), rfl⟩)
          | (go_round
             case rel => go_light; exact ⟨k + 1, by omega, by go_num, allTo_step HALL.out (by rw [HK.out]; simp_all [okCh]; try omega)⟩
             case measure => go_light; simp [intOf]; omega)
    · obtain rfl : k = s.size := by omega
      go_wp2_with fail
      all_goals (go_ret; go_light; exact ⟨ret_bool (by unfold codeB; rw [HALL.out]; simp_all; try omega), rfl⟩)
set_option maxHeartbeats 1000000 in
theorem isCode_spec (s : ByteArray) (w : World) (hs : s.size ≤ maxLen) :
    Calls Try.prog 33 #[.string s] w fun e w' => e = .returned (.bool (codeB s)) ∧ w = w' := by
  unfold maxLen at hs
  go_enter Try.func33, Try.ntmps33
  go_wp2_with fail
  go_loop [3] (fun i => ∃ k : Nat, k ≤ s.size ∧ i = .int .i64 k ∧ allTo (okC s) k = true) (fun i => s.size - (intOf i).toNat)
  case atStart => exact ⟨0, Nat.zero_le _, rfl, rfl⟩
  case round =>
    obtain ⟨k, hk, rfl, hall⟩ := hrel
    have HALL := Lib.hid hall
    clear hall
    by_cases hlt : k < s.size
    · have HK := Lib.hid (show okC s k = okCh (s[k].toNat : Int) k by simp [okC, hlt])
      rcases Nat.eq_zero_or_pos k with hk0 | hk0
      · have hkb : ((k : Int) == 0) = true := by simp [hk0]
        have HZ := Lib.hid hk0
        clear hk0
        go_wp2_with fail
        all_goals first
          | (go_ret; go_light; exact ⟨ret_bool (by unfold codeB; rw [allTo_not hlt (by rw [HK.out]; have := HZ.out; simp_all [okCh]; try omega)]; simp), rfl⟩)
          | (go_round
             case rel => go_light; exact ⟨k + 1, by omega, by go_num, allTo_step HALL.out (by rw [HK.out]; have := HZ.out; simp_all [okCh]; try omega)⟩
             case measure => go_light; simp [intOf]; omega)
      · have hkb : ((k : Int) == 0) = false := by simp; omega
        go_wp2_with fail
        all_goals first
          | (go_ret; go_light; exact ⟨ret_bool (by unfold codeB; rw [allTo_not hlt (by rw [HK.out]; simp_all [okCh]; try omega)]; simp), rfl⟩)
          | (go_round
             case rel => go_light; exact ⟨k + 1, by omega, by go_num, allTo_step HALL.out (by rw [HK.out]; simp_all [okCh]; try omega)⟩
             case measure => go_light; simp [intOf]; omega)
    · obtain rfl : k = s.size := by omega
      go_wp2_with fail
      all_goals (go_ret; go_light; exact ⟨ret_bool (by unfold codeB; rw [HALL.out]; simp_all; try omega), rfl⟩)
end Go.Proofs.Ytembbgkhmnalpaa
