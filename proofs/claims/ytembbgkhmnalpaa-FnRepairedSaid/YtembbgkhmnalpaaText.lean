/- The laws' marks: the text of a number. Conditions: none. -/
import Derived.Test.YtembbgkhmnalpaaBase
import Derived.Laws.IdiomStrings
import Derived.Laws.Concat
namespace Go.Proofs.Ytembbgkhmnalpaa
open Go.RowKit
set_option linter.unusedVariables false
set_option linter.unusedSimpArgs false

/-- The decimal digits of a number, none of 0. -/
def mdig (n : Nat) : List UInt8 := if h : n = 0 then [] else mdig (n / 10) ++ [48 + UInt8.ofNat (n % 10)]
termination_by n
decreasing_by omega
def mtext (k : Int) : ByteArray := if k ≤ 0 then ⟨#[109, 48]⟩ else ⟨#[109] ++ (mdig k.toNat).toArray⟩
theorem mdig_zero : mdig 0 = [] := by rw [mdig]; simp
theorem mdig_step {n : Nat} (h : 0 < n) : mdig n = mdig (n / 10) ++ [48 + UInt8.ofNat (n % 10)] := by rw [mdig]; simp [show n ≠ 0 by omega]
theorem mdig_len : ∀ (j n : Nat), n < 10 ^ j → (mdig n).length ≤ j
  | 0, n, h => by
    obtain rfl : n = 0 := by simpa using h
    simp [mdig_zero]
  | j + 1, n, h => by
    rcases Nat.eq_zero_or_pos n with rfl | hn
    · simp [mdig_zero]
    · rw [mdig_step hn, List.length_append]
      have := mdig_len j (n / 10) (by rw [Nat.pow_succ] at h; omega)
      simp only [List.length_cons, List.length_nil]
      omega

theorem ba_app (a b : Array UInt8) : (⟨a⟩ ++ ⟨b⟩ : ByteArray) = ⟨a ++ b⟩ := by
  apply ByteArray.ext
  simp
theorem cells_u8 : Try.prog.cellsOf 5 = 1 := by kernel_rfl
theorem byte_text (w : World) (x : Nat) (hx : x < 256) :
    (convert 50 9 (.slice (some ⟨w.heap.size, 0, none⟩) 1 1)).run Try.prog (w.alloc (.cells #[.int .u8 (x : Int)] 5)) = .ok (.string ⟨#[UInt8.ofNat x]⟩) (w.alloc (.cells #[.int .u8 (x : Int)] 5)) := by
  have h := run_convert_bytes_back (P := Try.prog) (w.alloc (.cells #[.int .u8 (x : Int)] 5)) 50 9 5 ⟨w.heap.size, 0, none⟩ 1 [UInt8.ofNat x] Try.underlying50 Try.underlying5 Try.underlying9 (fun j hj => by
    have hj0 : j = 0 := by simpa using hj
    subst hj0
    have := cell_one_new w (.int .u8 (x : Int)) 5 0 _ rfl
    rw [this]
    simp [Nat.mod_eq_of_lt hx])
  exact h

set_option maxHeartbeats 1000000 in
theorem markText_any (k : Int) (w : World) (hk : k ≤ 1099511627776) :
    Calls Try.prog 49 #[.int .i64 k] w fun e w' => e = .returned (.string (mtext k)) ∧ Grew w w' := by
  by_cases h0 : k ≤ 0
  · have HT := Lib.hid (show mtext k = ⟨#[109, 48]⟩ by simp [mtext, h0])
    go_enter Try.func49, Try.ntmps49
    go_wp2_with fail
    go_ret
    go_light
    exact ⟨by rw [HT.out]; rfl, Grew.refl _⟩
  have HT := Lib.hid (show mtext k = ⟨#[109] ++ (mdig k.toNat).toArray⟩ by simp [mtext, h0])
  obtain ⟨m, rfl⟩ := Int.eq_ofNat_of_zero_le (show 0 ≤ k by omega)
  go_enter Try.func49, Try.ntmps49
  go_wp2_with fail
  go_loopw [0, 3] (fun t s wr => ∃ (n : Nat) (l : List UInt8), n ≤ 1099511627776 ∧ t = .int .i64 n ∧ s = .string ⟨l.toArray⟩ ∧ mdig n ++ l = mdig m ∧ Grew w wr) (fun t _ _ => (intOf t).toNat)
  case atStart => exact ⟨m, [], by omega, rfl, rfl, by simp, Grew.refl _⟩
  case round =>
    obtain ⟨n, l, hn, rfl, rfl, hd, hg⟩ := hrel
    have HD := Lib.hid hd
    have hll : l.length ≤ 13 := by
      have h1 := mdig_len 13 m (by omega)
      rw [← hd, List.length_append] at h1
      omega
    clear hd
    rcases Nat.eq_zero_or_pos n with hn0 | hn0
    · subst hn0
      go_wp2_with fail
      go_ret
      go_light
      refine ⟨?_, hg⟩
      have h1 := HD.out
      rw [mdig_zero, List.nil_append] at h1
      refine (ret_val ?_).trans (congrArg Ending.returned (congrArg Value.string HT.out.symm))
      show Value.string (⟨#[109]⟩ ++ ⟨l.toArray⟩) = _
      rw [ba_app, h1]
      rfl
    · have kc : ∀ w : World, (convert 50 9 (.slice (some ⟨w.heap.size, 0, none⟩) 1 1)).run Try.prog (w.alloc (.cells #[.int .u8 (48 + (n : Int) % 10)] 5)) = .ok (.string ⟨#[UInt8.ofNat (48 + n % 10)]⟩) (w.alloc (.cells #[.int .u8 (48 + (n : Int) % 10)] 5)) := fun w => by
        have := byte_text w (48 + n % 10) (by omega)
        push_cast at this
        exact this
      go_wp2_with fail
      go_roundw
      case rel =>
        go_light
        refine ⟨n / 10, (48 + UInt8.ofNat (n % 10)) :: l, by omega, by go_num, ?_, ?_, hg.alloc _⟩
        · rw [ba_app]
          simp
        · rw [← HD.out, mdig_step hn0]
          simp
      case measure => go_light; simp [intOf]; omega
end Go.Proofs.Ytembbgkhmnalpaa
