/- MovedOf of the program and of the reference return what a plain function returns. Conditions: none. -/
import Derived.Test.YtembbgkhmnalpaaStop
namespace Go.Proofs.Ytembbgkhmnalpaa
open Go.RowKit Go.ChangeShapes Go.WideShapes Go.Deep
set_option linter.unusedVariables false
set_option linter.unusedSimpArgs false

def movedTo (l m : List Slt) : Nat → Int
  | 0 => 0
  | k + 1 => movedTo l m k + (if (l.getD k slt0).st = (m.getD k slt0).st then 0 else 1)
def movedF (l m : List Slt) : Int := movedTo l m (min l.length m.length)
theorem moved_bound (l m : List Slt) : ∀ k : Nat, 0 ≤ movedTo l m k ∧ movedTo l m k ≤ (k : Int) := by
  intro k
  induction k with
  | zero => simp [movedTo]
  | succ k ih => simp only [movedTo]; split <;> omega

set_option maxHeartbeats 2000000 in
theorem movedOf_impl (l : List Slt) (A : Option Addr) (c : Nat) (m : List Slt) (B : Option Addr) (d : Nat) (w : World) (h : Rd Slt.E w A l) (hn : l.length ≤ 4194304) (h' : Rd Slt.E w B m) (hm : m.length ≤ 4194304) :
    Calls Try.prog 16 #[.slice A l.length c, .slice B m.length d] w fun e w' => e = .returned (.int .i64 (movedF l m)) ∧ Grew w w' := by
  have HF := Lib.hid (show movedF l m = movedTo l m (min l.length m.length) from rfl)
  go_enter Try.func16, Try.ntmps16
  go_wp2_with fail
  go_loopw [5, 6] (fun s i wr => ∃ k : Nat, k ≤ l.length ∧ k ≤ m.length ∧ i = .int .i64 k ∧ s = .int .i64 (movedTo l m k) ∧ Grew w wr) (fun _ i _ => l.length - (intOf i).toNat)
  case atStart => exact ⟨0, Nat.zero_le _, Nat.zero_le _, rfl, rfl, Grew.refl _⟩
  case round =>
    obtain ⟨k, hk, hk', rfl, rfl, hg⟩ := hrel
    have HG := Lib.hid hg
    by_cases hlt : k < l.length ∧ k < m.length
    · obtain ⟨hl1, hl2⟩ := hlt
      obtain ⟨x, hx⟩ : ∃ x, l[k]? = some x := ⟨_, List.getElem?_eq_getElem hl1⟩
      obtain ⟨y, hy⟩ : ∃ y, m[k]? = some y := ⟨_, List.getElem?_eq_getElem hl2⟩
      obtain ⟨b, o, rfl, hb, hc⟩ := (h.grew hg).at_ hl1
      obtain ⟨b', o', rfl, hb', hc'⟩ := (h'.grew hg).at_ hl2
      obtain ⟨hc0, hc1, hc2, hc3, hc4⟩ := Slt.at_ hc hx
      obtain ⟨hd0, hd1, hd2, hd3, hd4⟩ := Slt.at_ hc' hy
      have hbd := moved_bound l m k
      have HK : Hid (movedTo l m (k + 1) = movedTo l m k + (if x.st = y.st then 0 else 1)) := Lib.hid (by simp [movedTo, List.getD_eq_getElem?_getD, hx, hy])
      clear hx hy hc hc' hg h h' hc0 hc1 hc2 hc4 hd0 hd1 hd2 hd4
      have hi1 : (0 : Int) ≤ (k : Int) := by omega
      have hi2 : (k : Int) < (l.length : Int) := by omega
      have hi3 : (k : Int) < (m.length : Int) := by omega
      generalize movedTo l m k = n at *
      go_wp2_with fail
      (refine wp_region_grow_lit (by kernel_rfl) (by kernel_rfl) ?_; repeat (any_goals (first | go_big_quiet_step ((fail)) | quiet_step ((fail)) | (refine wpQuiet_step (fun K hK => ?_); go_simp; split <;> rename_i hsp <;> (refine hK _ ?_; clear hK K) <;> (try first | simp only [hsp, decide_true, decide_false, Bool.not_true, Bool.not_false] | simp only [Int.not_le.2 hsp, decide_false, Bool.not_false] | simp only [Int.not_lt.2 hsp, decide_false, Bool.not_false] | simp only [Nat.not_le.2 hsp, decide_false, Bool.not_false] | simp only [Nat.not_lt.2 hsp, decide_false, Bool.not_false])))))
      all_goals (refine wpQuiet_nil ?_; intro w1 h1)
      all_goals go_wp2_with fail
      all_goals
        go_roundw
        case rel => go_light; exact ⟨k + 1, by omega, by omega, by go_num, by rw [HK.out]; congr 1; first | (simp_all; done) | (simp_all; omega), HG.out.trans h1⟩
        case measure => go_light; simp [intOf]; omega
    · have HM : Hid (min l.length m.length = k) := Lib.hid (by omega)
      clear h h'
      by_cases hl1 : k < l.length
      all_goals
        go_wp2_with fail
        go_ret
        go_light
        exact ⟨ret_int (by rw [HF.out, HM.out]), HG.out⟩
set_option maxHeartbeats 2000000 in
theorem movedOf_spec (l : List Slt) (A : Option Addr) (c : Nat) (m : List Slt) (B : Option Addr) (d : Nat) (w : World) (h : Rd Slt.E w A l) (hn : l.length ≤ 4194304) (h' : Rd Slt.E w B m) (hm : m.length ≤ 4194304) :
    Calls Try.prog 14 #[.slice A l.length c, .slice B m.length d] w fun e w' => e = .returned (.int .i64 (movedF l m)) ∧ Grew w w' := by
  have HF := Lib.hid (show movedF l m = movedTo l m (min l.length m.length) from rfl)
  go_enter Try.func14, Try.ntmps14
  go_wp2_with fail
  go_loopw [5, 6] (fun s i wr => ∃ k : Nat, k ≤ l.length ∧ k ≤ m.length ∧ i = .int .i64 k ∧ s = .int .i64 (movedTo l m k) ∧ Grew w wr) (fun _ i _ => l.length - (intOf i).toNat)
  case atStart => exact ⟨0, Nat.zero_le _, Nat.zero_le _, rfl, rfl, Grew.refl _⟩
  case round =>
    obtain ⟨k, hk, hk', rfl, rfl, hg⟩ := hrel
    have HG := Lib.hid hg
    by_cases hlt : k < l.length ∧ k < m.length
    · obtain ⟨hl1, hl2⟩ := hlt
      obtain ⟨x, hx⟩ : ∃ x, l[k]? = some x := ⟨_, List.getElem?_eq_getElem hl1⟩
      obtain ⟨y, hy⟩ : ∃ y, m[k]? = some y := ⟨_, List.getElem?_eq_getElem hl2⟩
      obtain ⟨b, o, rfl, hb, hc⟩ := (h.grew hg).at_ hl1
      obtain ⟨b', o', rfl, hb', hc'⟩ := (h'.grew hg).at_ hl2
      obtain ⟨hc0, hc1, hc2, hc3, hc4⟩ := Slt.at_ hc hx
      obtain ⟨hd0, hd1, hd2, hd3, hd4⟩ := Slt.at_ hc' hy
      have hbd := moved_bound l m k
      have HK : Hid (movedTo l m (k + 1) = movedTo l m k + (if x.st = y.st then 0 else 1)) := Lib.hid (by simp [movedTo, List.getD_eq_getElem?_getD, hx, hy])
      clear hx hy hc hc' hg h h' hc0 hc1 hc2 hc4 hd0 hd1 hd2 hd4
      have hi1 : (0 : Int) ≤ (k : Int) := by omega
      have hi2 : (k : Int) < (l.length : Int) := by omega
      have hi3 : (k : Int) < (m.length : Int) := by omega
      generalize movedTo l m k = n at *
      go_wp2_with fail
      (refine wp_region_grow_lit (by kernel_rfl) (by kernel_rfl) ?_; repeat (any_goals (first | go_big_quiet_step ((fail)) | quiet_step ((fail)) | (refine wpQuiet_step (fun K hK => ?_); go_simp; split <;> rename_i hsp <;> (refine hK _ ?_; clear hK K) <;> (try first | simp only [hsp, decide_true, decide_false, Bool.not_true, Bool.not_false] | simp only [Int.not_le.2 hsp, decide_false, Bool.not_false] | simp only [Int.not_lt.2 hsp, decide_false, Bool.not_false] | simp only [Nat.not_le.2 hsp, decide_false, Bool.not_false] | simp only [Nat.not_lt.2 hsp, decide_false, Bool.not_false])))))
      all_goals (refine wpQuiet_nil ?_; intro w1 h1)
      all_goals go_wp2_with fail
      all_goals
        go_roundw
        case rel => go_light; exact ⟨k + 1, by omega, by omega, by go_num, by rw [HK.out]; congr 1; first | (simp_all; done) | (simp_all; omega), HG.out.trans h1⟩
        case measure => go_light; simp [intOf]; omega
    · have HM : Hid (min l.length m.length = k) := Lib.hid (by omega)
      clear h h'
      by_cases hl1 : k < l.length
      all_goals
        go_wp2_with fail
        go_ret
        go_light
        exact ⟨ret_int (by rw [HF.out, HM.out]), HG.out⟩
end Go.Proofs.Ytembbgkhmnalpaa
