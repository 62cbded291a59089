/- Price breaks: AreBreaks of the program and of the reference return what a plain function returns. Conditions: none. -/
import Derived.Test.YtlaiemjeoceehaaBrk
namespace Go.Proofs.Ytlaiemjeoceehaa
open Go.RowKit
set_option linter.unusedVariables false
set_option linter.unusedSimpArgs false

def brk0 : Brk := ⟨0, 0⟩
def brkOk (l : List Brk) (i : Nat) : Bool :=
  inB (l.getD i brk0).f 1 100000 && inB (l.getD i brk0).p 0 10000 && (if i = 0 then true else decide ((l.getD (i - 1) brk0).f < (l.getD i brk0).f) && decide ((l.getD i brk0).p ≤ (l.getD (i - 1) brk0).p))
def brkOkI (l : List Brk) (i : Nat) : Bool := brkOk l i && (if i = 0 then decide ((l.getD i brk0).f = 1) else true)
def areB (l : List Brk) : Bool := allTo (brkOk l) l.length && inB l.length 1 6 && decide ((l.getD 0 brk0).f = 1)
theorem areB_I (l : List Brk) : areB l = (allTo (brkOkI l) l.length && inB l.length 1 6) := by
  rw [Bool.eq_iff_iff]
  simp only [areB, Bool.and_eq_true, allTo_iff, inB_iff, decide_eq_true_eq, brkOkI]
  constructor
  · rintro ⟨⟨h1, h2⟩, h3⟩
    exact ⟨fun k hk => ⟨h1 k hk, by split <;> simp_all⟩, h2⟩
  · rintro ⟨h1, h2⟩
    refine ⟨⟨fun k hk => (h1 k hk).1, h2⟩, ?_⟩
    have := (h1 0 (by omega)).2
    simpa using this

set_option maxHeartbeats 2000000 in
theorem areBreaks_impl (l : List Brk) (A : Option Addr) (c : Nat) (w : World) (h : Rd Brk.E w A l) (hn : l.length ≤ 4194304) :
    Calls Try.prog 13 #[.slice A l.length c] w fun e w' => e = .returned (.bool (areB l)) ∧ Grew w w' := by
  have HA := Lib.hid (areB_I l)
  go_enter Try.func13, Try.ntmps13
  go_wp2_with fail
  go_loopw [7] (fun i wr => ∃ k : Nat, k ≤ l.length ∧ i = .int .i64 k ∧ Grew w wr ∧ allTo (brkOkI l) k = true) (fun i _ => l.length - (intOf i).toNat)
  case atStart => exact ⟨0, Nat.zero_le _, rfl, Grew.refl _, rfl⟩
  case round =>
    obtain ⟨k, hk, rfl, hg, hall⟩ := hrel
    have HALL := Lib.hid hall
    clear hall
    by_cases hlt : k < l.length
    · obtain ⟨x, hx⟩ : ∃ x, l[k]? = some x := ⟨_, List.getElem?_eq_getElem hlt⟩
      obtain ⟨b, o, rfl, hb, hc⟩ := (h.grew hg).at_ hlt
      obtain ⟨hc0, hc1⟩ := Brk.at_ hc hx
      have HG := Lib.hid hg
      rcases Nat.eq_zero_or_pos k with hk0 | hk0
      · have HK := Lib.hid (show brkOkI l k = (inB x.f 1 100000 && inB x.p 0 10000 && decide (x.f = 1)) by simp [brkOkI, brkOk, hk0, List.getD_eq_getElem?_getD, hk0 ▸ hx])
        have hkb : ((k : Int) == 0) = true := by simp [hk0]
        have hkg : decide (0 < k) = false := by simp [hk0]
        clear hx hc hg h hk0
        go_wp2_with fail
        (refine wp_region_grow_lit (by kernel_rfl) (by kernel_rfl) ?_; repeat (any_goals (first | go_big_quiet_step ((go_at_call 31; exact quiet_same (in_any _ _ _ _))) | quiet_step ((go_at_call 31; exact quiet_same (in_any _ _ _ _))) | (refine wpQuiet_step (fun K hK => ?_); go_simp; split <;> rename_i hsp <;> (refine hK _ ?_; clear hK K) <;> (try first | simp only [hsp, decide_true, decide_false, Bool.not_true, Bool.not_false] | simp only [Int.not_le.2 hsp, decide_false, Bool.not_false] | simp only [Int.not_lt.2 hsp, decide_false, Bool.not_false] | simp only [Nat.not_le.2 hsp, decide_false, Bool.not_false] | simp only [Nat.not_lt.2 hsp, decide_false, Bool.not_false])))))
        all_goals (refine wpQuiet_nil ?_; intro w1 h1)
        all_goals go_wp2_with fail
        all_goals first
          | (go_ret; go_light; exact ⟨ret_bool (by rw [HA.out, allTo_not hlt (by rw [HK.out]; first | (simp_all; done) | (simp_all; omega))]; simp), (HG.out.alloc _).trans h1⟩)
          | (go_roundw
             case rel => go_light; exact ⟨k + 1, by omega, by go_num, (HG.out.alloc _).trans h1, allTo_step HALL.out (by rw [HK.out]; first | (simp_all; done) | (simp_all; omega))⟩
             case measure => go_light; simp [intOf]; omega)
      · obtain ⟨y, hy⟩ : ∃ y, l[k - 1]? = some y := ⟨_, List.getElem?_eq_getElem (by omega)⟩
        obtain ⟨hd0, hd1⟩ := Brk.at_ hc hy
        have HK := Lib.hid (show brkOkI l k = (inB x.f 1 100000 && inB x.p 0 10000 && (decide (y.f < x.f) && decide (x.p ≤ y.p))) by simp [brkOkI, brkOk, show k ≠ 0 by omega, List.getD_eq_getElem?_getD, hx, hy])
        have hkb : ((k : Int) == 0) = false := by simp; omega
        have hkg : decide (0 < k) = true := by simp [hk0]
        have hkw : IntKind.i64.wrap ((k : Int) - 1) = (k : Int) - 1 := IntWalk.i64_in _ (by omega)
        clear hx hc hg h hy
        go_wp2_with fail
        (refine wp_region_grow_lit (by kernel_rfl) (by kernel_rfl) ?_; repeat (any_goals (first | go_big_quiet_step ((go_at_call 31; exact quiet_same (in_any _ _ _ _))) | quiet_step ((go_at_call 31; exact quiet_same (in_any _ _ _ _))) | (refine wpQuiet_step (fun K hK => ?_); go_simp; split <;> rename_i hsp <;> (refine hK _ ?_; clear hK K) <;> (try first | simp only [hsp, decide_true, decide_false, Bool.not_true, Bool.not_false] | simp only [Int.not_le.2 hsp, decide_false, Bool.not_false] | simp only [Int.not_lt.2 hsp, decide_false, Bool.not_false] | simp only [Nat.not_le.2 hsp, decide_false, Bool.not_false] | simp only [Nat.not_lt.2 hsp, decide_false, Bool.not_false])))))
        all_goals (refine wpQuiet_nil ?_; intro w1 h1)
        all_goals go_wp2_with fail
        all_goals first
          | (go_ret; go_light; exact ⟨ret_bool (by rw [HA.out, allTo_not hlt (by rw [HK.out]; first | (simp_all; done) | (simp_all; omega))]; simp), (HG.out.alloc _).trans h1⟩)
          | (go_roundw
             case rel => go_light; exact ⟨k + 1, by omega, by go_num, (HG.out.alloc _).trans h1, allTo_step HALL.out (by rw [HK.out]; first | (simp_all; done) | (simp_all; omega))⟩
             case measure => go_light; simp [intOf]; omega)
    · obtain rfl : k = l.length := by omega
      go_wp2_with (go_at_call 31; refine (in_any _ _ _ _).mono ?_; rintro e w' ⟨rfl, rfl⟩)
      go_ret
      go_light
      exact ⟨ret_bool (by rw [HA.out, HALL.out]; rfl), hg⟩

set_option maxHeartbeats 2000000 in
theorem areBreaks_spec (l : List Brk) (A : Option Addr) (c : Nat) (w : World) (h : Rd Brk.E w A l) (hn : l.length ≤ 4194304) :
    Calls Try.prog 11 #[.slice A l.length c] w fun e w' => e = .returned (.bool (areB l)) ∧ Grew w w' := by
  have HA := Lib.hid (show areB l = (allTo (brkOk l) l.length && inB l.length 1 6 && decide ((l.getD 0 brk0).f = 1)) from rfl)
  go_enter Try.func11, Try.ntmps11
  go_wp2_with fail
  go_loopw [3] (fun i wr => ∃ k : Nat, k ≤ l.length ∧ i = .int .i64 k ∧ Grew w wr ∧ allTo (brkOk l) k = true) (fun i _ => l.length - (intOf i).toNat)
  case atStart => exact ⟨0, Nat.zero_le _, rfl, Grew.refl _, rfl⟩
  case round =>
    obtain ⟨k, hk, rfl, hg, hall⟩ := hrel
    have HALL := Lib.hid hall
    clear hall
    by_cases hlt : k < l.length
    · obtain ⟨x, hx⟩ : ∃ x, l[k]? = some x := ⟨_, List.getElem?_eq_getElem hlt⟩
      obtain ⟨b, o, rfl, hb, hc⟩ := (h.grew hg).at_ hlt
      obtain ⟨hc0, hc1⟩ := Brk.at_ hc hx
      have HG := Lib.hid hg
      rcases Nat.eq_zero_or_pos k with hk0 | hk0
      · have HK := Lib.hid (show brkOk l k = (inB x.f 1 100000 && inB x.p 0 10000) by simp [brkOk, hk0, List.getD_eq_getElem?_getD, hk0 ▸ hx])
        have hkg : decide (0 < k) = false := by simp [hk0]
        clear hx hc hg h hk0
        go_wp2_with fail
        (refine wp_region_grow_lit (by kernel_rfl) (by kernel_rfl) ?_; repeat (any_goals (first | go_big_quiet_step ((go_at_call 29; exact quiet_same (l1In_any _ _ _ _))) | quiet_step ((go_at_call 29; exact quiet_same (l1In_any _ _ _ _))) | (refine wpQuiet_step (fun K hK => ?_); go_simp; split <;> rename_i hsp <;> (refine hK _ ?_; clear hK K) <;> (try first | simp only [hsp, decide_true, decide_false, Bool.not_true, Bool.not_false] | simp only [Int.not_le.2 hsp, decide_false, Bool.not_false] | simp only [Int.not_lt.2 hsp, decide_false, Bool.not_false] | simp only [Nat.not_le.2 hsp, decide_false, Bool.not_false] | simp only [Nat.not_lt.2 hsp, decide_false, Bool.not_false])))))
        all_goals (refine wpQuiet_nil ?_; intro w1 h1)
        all_goals go_wp2_with fail
        all_goals first
          | (go_ret; go_light; exact ⟨ret_bool (by rw [HA.out, allTo_not hlt (by rw [HK.out]; first | (simp_all; done) | (simp_all; omega))]; simp), HG.out.trans h1⟩)
          | (go_roundw
             case rel => go_light; exact ⟨k + 1, by omega, by go_num, HG.out.trans h1, allTo_step HALL.out (by rw [HK.out]; first | (simp_all; done) | (simp_all; omega))⟩
             case measure => go_light; simp [intOf]; omega)
      · obtain ⟨y, hy⟩ : ∃ y, l[k - 1]? = some y := ⟨_, List.getElem?_eq_getElem (by omega)⟩
        obtain ⟨hd0, hd1⟩ := Brk.at_ hc hy
        have HK := Lib.hid (show brkOk l k = (inB x.f 1 100000 && inB x.p 0 10000 && (decide (y.f < x.f) && decide (x.p ≤ y.p))) by simp [brkOk, show k ≠ 0 by omega, List.getD_eq_getElem?_getD, hx, hy])
        have hkg : decide (0 < k) = true := by simp [hk0]
        have hkw : IntKind.i64.wrap ((k : Int) - 1) = (k : Int) - 1 := IntWalk.i64_in _ (by omega)
        clear hx hc hg h hy
        go_wp2_with fail
        (refine wp_region_grow_lit (by kernel_rfl) (by kernel_rfl) ?_; repeat (any_goals (first | go_big_quiet_step ((go_at_call 29; exact quiet_same (l1In_any _ _ _ _))) | quiet_step ((go_at_call 29; exact quiet_same (l1In_any _ _ _ _))) | (refine wpQuiet_step (fun K hK => ?_); go_simp; split <;> rename_i hsp <;> (refine hK _ ?_; clear hK K) <;> (try first | simp only [hsp, decide_true, decide_false, Bool.not_true, Bool.not_false] | simp only [Int.not_le.2 hsp, decide_false, Bool.not_false] | simp only [Int.not_lt.2 hsp, decide_false, Bool.not_false] | simp only [Nat.not_le.2 hsp, decide_false, Bool.not_false] | simp only [Nat.not_lt.2 hsp, decide_false, Bool.not_false])))))
        all_goals (refine wpQuiet_nil ?_; intro w1 h1)
        all_goals go_wp2_with fail
        all_goals first
          | (go_ret; go_light; exact ⟨ret_bool (by rw [HA.out, allTo_not hlt (by rw [HK.out]; first | (simp_all; done) | (simp_all; omega))]; simp), HG.out.trans h1⟩)
          | (go_roundw
             case rel => go_light; exact ⟨k + 1, by omega, by go_num, HG.out.trans h1, allTo_step HALL.out (by rw [HK.out]; first | (simp_all; done) | (simp_all; omega))⟩
             case measure => go_light; simp [intOf]; omega)
    · obtain rfl : k = l.length := by omega
      rcases Nat.eq_zero_or_pos l.length with hl0 | hl0
      · have hin : inB (l.length : Int) 1 6 = false := by simp [inB, hl0]
        go_wp2_with (go_at_call 29; refine (l1In_any _ _ _ _).mono ?_; rintro e w' ⟨rfl, rfl⟩)
        go_ret
        go_light
        exact ⟨ret_bool (by rw [HA.out, hin]; simp), hg⟩
      · obtain ⟨x, hx⟩ : ∃ x, l[0]? = some x := ⟨_, List.getElem?_eq_getElem hl0⟩
        obtain ⟨b, o, rfl, hb, hc⟩ := (h.grew hg).at_ hl0
        obtain ⟨hc0, hc1⟩ := Brk.at_ hc hx
        simp only [Nat.zero_mul, Nat.add_zero] at hc0
        have HX := Lib.hid hx
        have HG := Lib.hid hg
        clear hx hc hg h
        cases hin : inB (l.length : Int) 1 6
        all_goals
          go_wp2_with (go_at_call 29; refine (l1In_any _ _ _ _).mono ?_; rintro e w' ⟨rfl, rfl⟩)
          go_ret
          go_light
          exact ⟨ret_bool (by rw [HA.out, HALL.out, hin, List.getD_eq_getElem?_getD, HX.out]; simp [Bool.beq_eq_decide_eq]), HG.out⟩
end Go.Proofs.Ytlaiemjeoceehaa
