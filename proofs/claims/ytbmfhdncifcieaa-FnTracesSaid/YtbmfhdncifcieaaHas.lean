/- The laws' search for a string. Conditions: none. -/
import Derived.Test.YtbmfhdncifcieaaClo
namespace Go.Proofs.Ytbmfhdncifcieaa
open Go.RowKit Go.ChangeShapes Go.WideShapes Go.Deep
set_option linter.unusedVariables false
set_option linter.unusedSimpArgs false

set_option maxHeartbeats 1000000 in
theorem hasText_any (s : ByteArray) (l : List ByteArray) (A : Option Addr) (c : Nat) (w : World) (h : Rd Str.E w A l) (hn : l.length ≤ 1099511627776) :
    Calls Try.prog 25 #[.slice A l.length c, .string s] w fun e w' => e = .returned (.bool (decide (fnd s l < l.length))) ∧ w = w' := by
  go_enter Try.func25, Try.ntmps25
  go_wp2_with fail
  go_loopw [5] (fun i wr => ∃ k : Nat, k ≤ l.length ∧ i = .int .i64 k ∧ w = wr ∧ ∀ i, i < k → (l.getD i str0).toList ≠ s.toList) (fun i _ => l.length - (intOf i).toNat)
  case atStart => exact ⟨0, Nat.zero_le _, rfl, rfl, fun i hi => absurd hi (by omega)⟩
  case round =>
    obtain ⟨k, hk, rfl, rfl, hne⟩ := hrel
    have HNE := Lib.hid hne
    clear hne
    by_cases hlt : k < l.length
    · obtain ⟨x, hx⟩ : ∃ x, l[k]? = some x := ⟨_, List.getElem?_eq_getElem hlt⟩
      obtain ⟨b, o, rfl, hb, hc⟩ := h.at_ hlt
      have hc0 := Str.at_ hc hx
      have HK := Lib.hid (show (l.getD k str0) = x by simp [List.getD_eq_getElem?_getD, hx])
      clear hx hc h
      by_cases heq : x.toList = s.toList
      · have hdd : (x.toList == s.toList) = true := by simpa using heq
        have HE := Lib.hid heq
        clear heq
        go_wp2_with fail
        go_ret
        go_light
        have h9 := fnd_first hlt (by rw [HK.out]; exact HE.out) HNE.out
        exact ⟨ret_bool (by rw [h9]; simp [hlt]), rfl⟩
      · have hdd : (x.toList == s.toList) = false := by simpa using heq
        have HE := Lib.hid heq
        clear heq
        go_wp2_with fail
        go_roundw
        case rel =>
          go_light
          refine ⟨k + 1, by omega, by go_num, trivial, fun i hi => ?_⟩
          rcases Nat.lt_succ_iff_lt_or_eq.1 hi with h2 | rfl
          · exact HNE.out i h2
          · rw [HK.out]; exact HE.out
        case measure => go_light; simp [intOf]; omega
    · obtain rfl : k = l.length := by omega
      clear h
      go_wp2_with fail
      go_ret
      go_light
      have h9 := fnd_all HNE.out
      exact ⟨ret_bool (by rw [h9]; simp), rfl⟩
end Go.Proofs.Ytbmfhdncifcieaa
