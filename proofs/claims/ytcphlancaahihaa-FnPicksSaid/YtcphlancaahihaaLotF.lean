/- FreeOn of the program and of the reference return what a plain function returns. Conditions: none. -/
import Derived.Test.YtcphlancaahihaaLotS
namespace Go.Proofs.Ytcphlancaahihaa
open Go.RowKit Go.ChangeShapes Go.WideShapes Go.Deep
set_option linter.unusedVariables false
set_option linter.unusedSimpArgs false

def freeTo (l : List Lt) (day : Int) : Nat → Int
  | 0 => 0
  | k + 1 => freeTo l day k + (if day ≤ (l.getD k lt0).ex then (l.getD k lt0).q else 0)
def freeF (l : List Lt) (day : Int) : Int := if areL l then freeTo l day l.length else 0
theorem areL_at {l : List Lt} (h : areL l = true) {k : Nat} (hk : k < l.length) : 1 ≤ (l.getD k lt0).q ∧ (l.getD k lt0).q ≤ 100000 ∧ l.length ≤ 20 := by
  simp only [areL, Bool.and_eq_true, allTo_iff, decide_eq_true_eq] at h
  have := h.1 k hk
  simp only [lotOk, Bool.and_eq_true, inB_iff] at this
  omega
theorem free_bound {l : List Lt} (h : areL l = true) (day : Int) : ∀ k : Nat, k ≤ l.length → 0 ≤ freeTo l day k ∧ freeTo l day k ≤ 100000 * (k : Int) := by
  intro k
  induction k with
  | zero => simp [freeTo]
  | succ k ih =>
    intro hk
    have := areL_at h (k := k) (by omega)
    have := ih (by omega)
    simp only [freeTo]
    split <;> omega

set_option maxHeartbeats 2000000 in
theorem freeOn_impl (l : List Lt) (A : Option Addr) (c : Nat) (day : Int) (w : World) (h : Rd Lt.E w A l) (hok : ∀ x ∈ l, x.Ok) (hn : l.length ≤ 4194304) :
    Calls Try.prog 15 #[.slice A l.length c, .int .i64 day] w fun e w' => e = .returned (.int .i64 (freeF l day)) ∧ Grew w w' := by
  cases ha : areL l
  · have HF := Lib.hid (show freeF l day = 0 by simp [freeF, ha])
    go_enter Try.func15, Try.ntmps15
    go_wp2_with fail
    refine (areLots_impl l _ _ _ h hok hn).mono ?_; rintro e w1 ⟨rfl, h1⟩
    go_wp2_with fail
    go_ret
    go_light
    exact ⟨ret_int HF.out.symm, h1⟩
  have HF := Lib.hid (show freeF l day = freeTo l day l.length by simp [freeF, ha])
  have HAA := Lib.hid ha
  go_enter Try.func15, Try.ntmps15
  go_wp2_with fail
  refine (areLots_impl l _ _ _ h hok hn).mono ?_; rintro e w1 ⟨rfl, h1⟩
  clear hok
  go_wp2_with fail
  go_loopw [5, 13] (fun s i wr => ∃ k : Nat, k ≤ l.length ∧ i = .int .i64 k ∧ s = .int .i64 (freeTo l day k) ∧ Grew w wr) (fun _ i _ => l.length - (intOf i).toNat)
  case atStart => exact ⟨0, Nat.zero_le _, rfl, rfl, h1⟩
  case round =>
    obtain ⟨k, hk, rfl, rfl, hg⟩ := hrel
    have HG := Lib.hid hg
    by_cases hlt : k < l.length
    · obtain ⟨x, hx⟩ : ∃ x, l[k]? = some x := ⟨_, List.getElem?_eq_getElem hlt⟩
      have hd : l.getD k lt0 = x := by rw [List.getD_eq_getElem?_getD, hx]; rfl
      have hbd := free_bound HAA.out day k hk
      have hbx := areL_at HAA.out hlt
      rw [hd] at hbx
      have HK : Hid (freeTo l day (k + 1) = freeTo l day k + (if day ≤ x.ex then x.q else 0)) := Lib.hid (by simp only [freeTo, hd])
      obtain ⟨b, o, rfl, hb, hc⟩ := (h.grew hg).at_ hlt
      obtain ⟨hc0, hc1, hc2⟩ := Lt.at_ hc hx
      clear hx hd hc hg h h1
      generalize freeTo l day k = n at *
      by_cases hdx : day ≤ x.ex
      all_goals
        go_wp2_with fail
        go_roundw
        case rel => go_light; exact ⟨k + 1, by omega, by go_num, by rw [HK.out]; first | rw [if_pos hdx] | (rw [if_neg (by omega), Int.add_zero]), HG.out.alloc _⟩
        case measure => go_light; simp [intOf]; omega
    · obtain rfl : k = l.length := by omega
      clear h
      go_wp2_with fail
      go_ret
      go_light
      exact ⟨ret_int HF.out.symm, HG.out⟩

set_option maxHeartbeats 2000000 in
theorem freeOn_spec (l : List Lt) (A : Option Addr) (c : Nat) (day : Int) (w : World) (h : Rd Lt.E w A l) (hok : ∀ x ∈ l, x.Ok) (hn : l.length ≤ 4194304) :
    Calls Try.prog 14 #[.slice A l.length c, .int .i64 day] w fun e w' => e = .returned (.int .i64 (freeF l day)) ∧ Grew w w' := by
  have HOK := Lib.hid hok
  clear hok
  have HF := Lib.hid (show areL l = true → freeF l day = freeTo l day l.length from fun ha => by simp [freeF, ha])
  have HN := Lib.hid (show areL l = false → freeF l day = 0 from fun ha => by simp [freeF, ha])
  go_enter Try.func14, Try.ntmps14
  go_wp2_with fail
  go_loopw [5, 6] (fun s i wr => ∃ k : Nat, k ≤ l.length ∧ i = .int .i64 k ∧ s = .int .i64 (freeTo l day k) ∧ (areL l = false → k = 0) ∧ Grew w wr) (fun _ i _ => l.length - (intOf i).toNat)
  case atStart => exact ⟨0, Nat.zero_le _, rfl, rfl, fun _ => rfl, Grew.refl _⟩
  case round =>
    obtain ⟨k, hk, rfl, rfl, hz, hg⟩ := hrel
    have HG := Lib.hid hg
    have HZ := Lib.hid hz
    clear hz
    by_cases hlt : k < l.length
    · obtain ⟨x, hx⟩ : ∃ x, l[k]? = some x := ⟨_, List.getElem?_eq_getElem hlt⟩
      have hd : l.getD k lt0 = x := by rw [List.getD_eq_getElem?_getD, hx]; rfl
      obtain ⟨b, o, rfl, hb, hc⟩ := (h.grew hg).at_ hlt
      obtain ⟨hc0, hc1, hc2⟩ := Lt.at_ hc hx
      cases ha : areL l
      · have HAA := Lib.hid ha
        have HZ0 := Lib.hid (HZ.out ha)
        clear hx hd hc hc0 hc1 hc2
        go_wp2_with fail
        refine (areLots_spec l _ _ _ (h.grew hg) HOK.out hn).mono ?_; rintro e w1 ⟨rfl, h1⟩
        go_wp2_with fail
        go_ret
        go_light
        exact ⟨ret_int (by rw [HN.out HAA.out, HZ0.out]; rfl), HG.out.trans h1⟩
      · have HAA := Lib.hid ha
        have hbd := free_bound ha day k hk
        have hbx := areL_at ha hlt
        rw [hd] at hbx
        have HK : Hid (freeTo l day (k + 1) = freeTo l day k + (if day ≤ x.ex then x.q else 0)) := Lib.hid (by simp only [freeTo, hd])
        clear hx hd hc
        generalize freeTo l day k = n at *
        by_cases hdx : day ≤ x.ex
        all_goals
          go_wp2_with fail
          refine (areLots_spec l _ _ _ (h.grew hg) HOK.out hn).mono ?_; rintro e w1 ⟨rfl, h1⟩
          have e1 := (h1.rules.1 b _ hb).trans hc1
          have e2 := (h1.rules.1 b _ hb).trans hc2
          clear hc0 hc1 hc2 h hg
          go_wp2_with fail
          go_roundw
          case rel => go_light; exact ⟨k + 1, by omega, by go_num, by rw [HK.out]; first | rw [if_pos hdx] | (rw [if_neg (by omega), Int.add_zero]), (fun hh => by first | (cases hh; done) | (rw [HAA.out] at hh; cases hh)), HG.out.trans h1⟩
          case measure => go_light; simp [intOf]; omega
    · obtain rfl : k = l.length := by omega
      clear h
      go_wp2_with fail
      go_ret
      go_light
      refine ⟨ret_int ?_, HG.out⟩
      cases ha : areL l
      · rw [HN.out ha, HZ.out ha]; rfl
      · rw [HF.out ha]
end Go.Proofs.Ytcphlancaahihaa
