/- QuantityAt and FlowIn of the program and of the reference return what plain functions return. Conditions: none. -/
import Derived.Test.YtfbfhccgohmeiaaHold
import Derived.Test.YtfbfhccgohmeiaaMove
namespace Go.Proofs.Ytfbfhccgohmeiaa
open Go.RowKit Go.ChangeShapes Go.WideShapes Go.Deep
set_option linter.unusedVariables false
set_option linter.unusedSimpArgs false

def matchH (it ba pl : ByteArray) (x : Hold) : Bool := decide (x.it.toList = it.toList) && decide (x.ba.toList = ba.toList) && decide (x.pl.toList = pl.toList)
def firstQ (m : Hold → Bool) : List Hold → Int
  | [] => 0
  | x :: l => if m x then x.q else firstQ m l
def qtyF (l : List Hold) (it ba pl : ByteArray) : Int := if areH l then firstQ (matchH it ba pl) l else 0
theorem firstQ_step {m : Hold → Bool} {l : List Hold} {k : Nat} {x : Hold} (h : l[k]? = some x) : firstQ m (l.drop k) = if m x then x.q else firstQ m (l.drop (k + 1)) := by
  have hk : k < l.length := (List.getElem?_eq_some_iff.1 h).1
  have hx : l[k] = x := (List.getElem?_eq_some_iff.1 h).2
  rw [List.drop_eq_getElem_cons hk, hx]
  rfl

set_option maxHeartbeats 1000000 in
theorem quantityAt_impl (l : List Hold) (A : Option Addr) (c : Nat) (it ba pl : ByteArray) (w : World) (h : Rd Hold.E w A l) (hok : ∀ x ∈ l, x.Ok) (hn : l.length ≤ 4194304) :
    Calls Try.prog 22 #[.slice A l.length c, .string it, .string ba, .string pl] w fun e w' => e = .returned (.int .i64 (qtyF l it ba pl)) ∧ Grew w w' := by
  cases ha : areH l
  · have HF := Lib.hid (show qtyF l it ba pl = 0 by simp [qtyF, ha])
    go_enter Try.func22, Try.ntmps22
    go_wp2_with fail
    refine (areHoldings_impl l _ _ _ h hok hn).mono ?_; rintro e w1 ⟨rfl, h1⟩
    go_wp2_with fail
    go_ret
    go_light
    exact ⟨ret_int HF.out.symm, h1⟩
  have HF := Lib.hid (show qtyF l it ba pl = firstQ (matchH it ba pl) l by simp [qtyF, ha])
  go_enter Try.func22, Try.ntmps22
  go_wp2_with fail
  refine (areHoldings_impl l _ _ _ h hok hn).mono ?_; rintro e w1 ⟨rfl, h1⟩
  clear hok
  go_wp2_with fail
  go_loopw [16] (fun i wr => ∃ k : Nat, k ≤ l.length ∧ i = .int .i64 k ∧ Grew w wr ∧ qtyF l it ba pl = firstQ (matchH it ba pl) (l.drop k)) (fun i _ => l.length - (intOf i).toNat)
  case atStart => exact ⟨0, Nat.zero_le _, rfl, h1, HF.out⟩
  case round =>
    obtain ⟨k, hk, rfl, hg, hq⟩ := hrel
    have HQ := Lib.hid hq
    have HG := Lib.hid hg
    clear hq
    by_cases hlt : k < l.length
    · obtain ⟨x, hx⟩ : ∃ x, l[k]? = some x := ⟨_, List.getElem?_eq_getElem hlt⟩
      obtain ⟨b, o, rfl, hb, hc⟩ := (h.grew hg).at_ hlt
      obtain ⟨hc0, hc1, hc2, hc3⟩ := Hold.at_ hc hx
      have HK := Lib.hid (firstQ_step (m := matchH it ba pl) hx)
      clear hx hc hg h h1
      go_wp2_with fail
      all_goals first
        | (go_ret; go_light; exact ⟨ret_int (by rw [HQ.out, HK.out, if_pos (by simp_all [matchH])]), HG.out.alloc _⟩)
        | (go_roundw
           case rel => go_light; exact ⟨k + 1, by omega, by go_num, HG.out.alloc _, by rw [HQ.out, HK.out, if_neg (by simp_all [matchH])]⟩
           case measure => go_light; simp [intOf]; omega)
    · obtain rfl : k = l.length := by omega
      go_wp2_with fail
      go_ret
      go_light
      exact ⟨ret_int (by rw [HQ.out, List.drop_length]; rfl), HG.out⟩

set_option maxHeartbeats 1000000 in
theorem quantityAt_spec (l : List Hold) (A : Option Addr) (c : Nat) (it ba pl : ByteArray) (w : World) (h : Rd Hold.E w A l) (hok : ∀ x ∈ l, x.Ok) (hn : l.length ≤ 4194304) :
    Calls Try.prog 21 #[.slice A l.length c, .string it, .string ba, .string pl] w fun e w' => e = .returned (.int .i64 (qtyF l it ba pl)) ∧ Grew w w' := by
  have HF := Lib.hid (show areH l = true → qtyF l it ba pl = firstQ (matchH it ba pl) l from fun ha => by simp [qtyF, ha])
  have HN := Lib.hid (show areH l = false → qtyF l it ba pl = 0 from fun ha => by simp [qtyF, ha])
  have HOK := Lib.hid hok
  clear hok
  go_enter Try.func21, Try.ntmps21
  go_wp2_with fail
  go_loopw [9] (fun i wr => ∃ k : Nat, k ≤ l.length ∧ i = .int .i64 k ∧ Grew w wr ∧ (areH l = true → qtyF l it ba pl = firstQ (matchH it ba pl) (l.drop k))) (fun i _ => l.length - (intOf i).toNat)
  case atStart => exact ⟨0, Nat.zero_le _, rfl, Grew.refl _, HF.out⟩
  case round =>
    obtain ⟨k, hk, rfl, hg, hq⟩ := hrel
    have HQ := Lib.hid hq
    have HG := Lib.hid hg
    clear hq
    by_cases hlt : k < l.length
    · obtain ⟨x, hx⟩ : ∃ x, l[k]? = some x := ⟨_, List.getElem?_eq_getElem hlt⟩
      obtain ⟨b, o, rfl, hb, hc⟩ := (h.grew hg).at_ hlt
      obtain ⟨hc0, hc1, hc2, hc3⟩ := Hold.at_ hc hx
      have HK := Lib.hid (firstQ_step (m := matchH it ba pl) hx)
      clear hx hc
      cases ha : areH l
      · go_wp2_with fail
        refine (areHoldings_spec l _ _ _ (h.grew hg) HOK.out hn).mono ?_; rintro e w1 ⟨rfl, h1⟩
        go_wp2_with fail
        go_ret
        go_light
        exact ⟨ret_int (HN.out ha).symm, HG.out.trans h1⟩
      · go_wp2_with fail
        refine (areHoldings_spec l _ _ _ (h.grew hg) HOK.out hn).mono ?_; rintro e w1 ⟨rfl, h1⟩
        have e0 := (h1.rules.1 b _ hb).trans hc0
        have e1 := (h1.rules.1 b _ hb).trans hc1
        have e2 := (h1.rules.1 b _ hb).trans hc2
        have e3 := (h1.rules.1 b _ hb).trans hc3
        have HA := Lib.hid ha
        clear hc0 hc1 hc2 hc3 h hg
        go_wp2_with fail
        all_goals first
          | (go_ret; go_light; exact ⟨ret_int (by rw [HQ.out HA.out, HK.out, if_pos (by simp_all [matchH])]), HG.out.trans h1⟩)
          | (go_roundw
             case rel => go_light; exact ⟨k + 1, by omega, by go_num, HG.out.trans h1, fun hh => by rw [HQ.out HA.out, HK.out, if_neg (by simp_all [matchH])]⟩
             case measure => go_light; simp [intOf]; omega)
    · obtain rfl : k = l.length := by omega
      clear h
      go_wp2_with fail
      go_ret
      go_light
      refine ⟨ret_int ?_, HG.out⟩
      cases ha : areH l
      · exact (HN.out ha).symm
      · rw [HQ.out ha, List.drop_length]; rfl

def mv0 : Mv := ⟨0, ByteArray.empty, ByteArray.empty, ByteArray.empty, ByteArray.empty, 0⟩
def deltaF (it ba pl : ByteArray) (x : Mv) : Int :=
  if mvOk x.day x.it x.ba x.ff x.tt x.q && decide (x.it.toList = it.toList) && decide (x.ba.toList = ba.toList) then (if x.tt.toList = pl.toList then x.q else 0) - (if x.ff.toList = pl.toList then x.q else 0) else 0
def flowTo (l : List Mv) (it ba pl : ByteArray) : Nat → Int
  | 0 => 0
  | k + 1 => flowTo l it ba pl k + deltaF it ba pl (l.getD k mv0)
def flowF (l : List Mv) (it ba pl : ByteArray) : Int := if (l.length : Int) ≤ 60 then flowTo l it ba pl l.length else 0
theorem delta_bound (it ba pl : ByteArray) (x : Mv) : -100000 ≤ deltaF it ba pl x ∧ deltaF it ba pl x ≤ 100000 := by
  unfold deltaF
  split
  · rename_i h
    simp only [mvOk, Bool.and_eq_true, inB_iff] at h
    split <;> split <;> omega
  · omega
theorem flow_bound (l : List Mv) (it ba pl : ByteArray) : ∀ k : Nat, -100000 * (k : Int) ≤ flowTo l it ba pl k ∧ flowTo l it ba pl k ≤ 100000 * (k : Int) := by
  intro k
  induction k with
  | zero => simp [flowTo]
  | succ k ih =>
    have := delta_bound it ba pl (l.getD k mv0)
    simp only [flowTo]
    omega

set_option maxHeartbeats 2000000 in
theorem flowIn_impl (l : List Mv) (A : Option Addr) (c : Nat) (it ba pl : ByteArray) (w : World) (h : Rd Mv.E w A l) (hok : ∀ x ∈ l, x.Ok) (hn : l.length ≤ 4194304) :
    Calls Try.prog 26 #[.slice A l.length c, .string it, .string ba, .string pl] w fun e w' => e = .returned (.int .i64 (flowF l it ba pl)) ∧ Grew w w' := by
  by_cases hl : (60 : Int) < (l.length : Int)
  · have HF := Lib.hid (show flowF l it ba pl = 0 by simp only [flowF]; rw [if_neg (by omega)])
    clear h hok
    go_enter Try.func26, Try.ntmps26
    go_wp2_with fail
    go_ret
    go_light
    exact ⟨ret_int HF.out.symm, Grew.refl _⟩
  have HF := Lib.hid (show flowF l it ba pl = flowTo l it ba pl l.length by simp only [flowF]; rw [if_pos (by omega)])
  have HOK := Lib.hid hok
  clear hok
  go_enter Try.func26, Try.ntmps26
  go_wp2_with fail
  go_loopw [9, 17] (fun s i wr => ∃ k : Nat, k ≤ l.length ∧ i = .int .i64 k ∧ s = .int .i64 (flowTo l it ba pl k) ∧ Grew w wr) (fun _ i _ => l.length - (intOf i).toNat)
  case atStart => exact ⟨0, Nat.zero_le _, rfl, rfl, Grew.refl _⟩
  case round =>
    obtain ⟨k, hk, rfl, rfl, hg⟩ := hrel
    have HG := Lib.hid hg
    by_cases hlt : k < l.length
    · obtain ⟨x, hx⟩ : ∃ x, l[k]? = some x := ⟨_, List.getElem?_eq_getElem hlt⟩
      have hbd := flow_bound l it ba pl k
      have HK : Hid (flowTo l it ba pl (k + 1) = flowTo l it ba pl k + deltaF it ba pl x) := Lib.hid (by simp [flowTo, List.getD_eq_getElem?_getD, hx])
      obtain ⟨b, o, rfl, hb, hc⟩ := (h.grew hg).at_ hlt
      obtain ⟨hc0, hc1, hc2, hc3, hc4, hc5⟩ := Mv.at_ hc hx
      obtain ⟨_, s1, s2, s3, s4, _⟩ := HOK.out x (List.mem_of_getElem? hx)
      clear hx hc hg h
      generalize flowTo l it ba pl k = n at *
      cases hm : mvOk x.day x.it x.ba x.ff x.tt x.q
      · go_wp2_with fail
        refine (isMove_impl x _ s1 s2 s3 s4).mono ?_; rintro e w1 ⟨rfl, h1⟩
        have hz_w1_0 : wr.heap.size < w1.heap.size := Nat.lt_of_lt_of_le (by first | (simp +arith; done) | (simp; omega) | omega) h1.le; have hb_w1_0 := fun o => h1.rules.1 wr.heap.size o (by first | (simp +arith; done) | (simp; omega) | omega); have hf_w1_0 := fun o => h1.rules.2 wr.heap.size o (by first | (simp +arith; done) | (simp; omega) | omega); (try simp [World.cell?_alloc_past, World.frozen?_alloc_past, Nat.lt_add_right] at hb_w1_0 hf_w1_0)
        go_wp2_with fail
        go_roundw
        case rel => go_light; exact ⟨k + 1, by omega, by go_num, by rw [HK.out]; simp [deltaF, hm], (HG.out.alloc _).trans h1⟩
        case measure => go_light; simp [intOf]; omega
      · have hq : 1 ≤ x.q ∧ x.q ≤ 100000 := by simp only [mvOk, Bool.and_eq_true, inB_iff] at hm; exact hm.2
        go_wp2_with fail
        refine (isMove_impl x _ s1 s2 s3 s4).mono ?_; rintro e w1 ⟨rfl, h1⟩
        have hz_w1_0 : wr.heap.size < w1.heap.size := Nat.lt_of_lt_of_le (by first | (simp +arith; done) | (simp; omega) | omega) h1.le; have hb_w1_0 := fun o => h1.rules.1 wr.heap.size o (by first | (simp +arith; done) | (simp; omega) | omega); have hf_w1_0 := fun o => h1.rules.2 wr.heap.size o (by first | (simp +arith; done) | (simp; omega) | omega); (try simp [World.cell?_alloc_past, World.frozen?_alloc_past, Nat.lt_add_right] at hb_w1_0 hf_w1_0)
        go_wp2_with fail
        all_goals
          go_roundw
          case rel => go_light; exact ⟨k + 1, by omega, by go_num, by rw [HK.out]; congr 1; simp_all [deltaF] <;> omega, (HG.out.alloc _).trans h1⟩
          case measure => go_light; simp [intOf]; omega
    · obtain rfl : k = l.length := by omega
      clear h
      go_wp2_with fail
      go_ret
      go_light
      exact ⟨ret_int HF.out.symm, HG.out⟩
set_option maxHeartbeats 2000000 in
theorem flowIn_spec (l : List Mv) (A : Option Addr) (c : Nat) (it ba pl : ByteArray) (w : World) (h : Rd Mv.E w A l) (hok : ∀ x ∈ l, x.Ok) (hn : l.length ≤ 4194304) :
    Calls Try.prog 24 #[.slice A l.length c, .string it, .string ba, .string pl] w fun e w' => e = .returned (.int .i64 (flowF l it ba pl)) ∧ Grew w w' := by
  by_cases hl : (60 : Int) < (l.length : Int)
  · have hlp : 0 < l.length := by omega
    have HF := Lib.hid (show flowF l it ba pl = 0 by simp only [flowF]; rw [if_neg (by omega)])
    clear h hok
    go_enter Try.func24, Try.ntmps24
    go_wp2_with fail
    go_loopw [9, 10] (fun s i wr => i = .int .i64 0 ∧ s = .int .i64 0 ∧ w = wr) (fun _ _ _ => 0)
    case atStart => exact ⟨rfl, rfl, rfl⟩
    case round =>
      obtain ⟨rfl, rfl, rfl⟩ := hrel
      go_wp2_with fail
      go_ret
      go_light
      exact ⟨ret_int HF.out.symm, Grew.refl _⟩
  have HF := Lib.hid (show flowF l it ba pl = flowTo l it ba pl l.length by simp only [flowF]; rw [if_pos (by omega)])
  have HOK := Lib.hid hok
  clear hok
  go_enter Try.func24, Try.ntmps24
  go_wp2_with fail
  go_loopw [9, 10] (fun s i wr => ∃ k : Nat, k ≤ l.length ∧ i = .int .i64 k ∧ s = .int .i64 (flowTo l it ba pl k) ∧ Grew w wr) (fun _ i _ => l.length - (intOf i).toNat)
  case atStart => exact ⟨0, Nat.zero_le _, rfl, rfl, Grew.refl _⟩
  case round =>
    obtain ⟨k, hk, rfl, rfl, hg⟩ := hrel
    have HG := Lib.hid hg
    by_cases hlt : k < l.length
    · obtain ⟨x, hx⟩ : ∃ x, l[k]? = some x := ⟨_, List.getElem?_eq_getElem hlt⟩
      have hbd := flow_bound l it ba pl k
      have HK : Hid (flowTo l it ba pl (k + 1) = flowTo l it ba pl k + deltaF it ba pl x) := Lib.hid (by simp [flowTo, List.getD_eq_getElem?_getD, hx])
      obtain ⟨b, o, rfl, hb, hc⟩ := (h.grew hg).at_ hlt
      obtain ⟨hc0, hc1, hc2, hc3, hc4, hc5⟩ := Mv.at_ hc hx
      obtain ⟨_, s1, s2, s3, s4, _⟩ := HOK.out x (List.mem_of_getElem? hx)
      clear hx hc hg h
      generalize flowTo l it ba pl k = n at *
      cases hm : mvOk x.day x.it x.ba x.ff x.tt x.q
      · go_wp2_with fail
        refine (isMove_spec x _ s1 s2 s3 s4).mono ?_; rintro e w1 ⟨rfl, h1⟩
        have e0 := (h1.rules.1 b _ hb).trans hc0
        have e1 := (h1.rules.1 b _ hb).trans hc1
        have e2 := (h1.rules.1 b _ hb).trans hc2
        have e3 := (h1.rules.1 b _ hb).trans hc3
        have e4 := (h1.rules.1 b _ hb).trans hc4
        have e5 := (h1.rules.1 b _ hb).trans hc5
        clear hc0 hc1 hc2 hc3 hc4 hc5
        go_wp2_with fail
        go_roundw
        case rel => go_light; exact ⟨k + 1, by omega, by go_num, by rw [HK.out]; simp [deltaF, hm], HG.out.trans h1⟩
        case measure => go_light; simp [intOf]; omega
      · have hq : 1 ≤ x.q ∧ x.q ≤ 100000 := by simp only [mvOk, Bool.and_eq_true, inB_iff] at hm; exact hm.2
        go_wp2_with fail
        refine (isMove_spec x _ s1 s2 s3 s4).mono ?_; rintro e w1 ⟨rfl, h1⟩
        have e0 := (h1.rules.1 b _ hb).trans hc0
        have e1 := (h1.rules.1 b _ hb).trans hc1
        have e2 := (h1.rules.1 b _ hb).trans hc2
        have e3 := (h1.rules.1 b _ hb).trans hc3
        have e4 := (h1.rules.1 b _ hb).trans hc4
        have e5 := (h1.rules.1 b _ hb).trans hc5
        clear hc0 hc1 hc2 hc3 hc4 hc5
        go_wp2_with fail
        all_goals
          go_roundw
          case rel => go_light; exact ⟨k + 1, by omega, by go_num, by rw [HK.out]; congr 1; simp_all [deltaF] <;> omega, HG.out.trans h1⟩
          case measure => go_light; simp [intOf]; omega
    · obtain rfl : k = l.length := by omega
      clear h
      go_wp2_with fail
      go_ret
      go_light
      exact ⟨ret_int HF.out.symm, HG.out⟩
end Go.Proofs.Ytfbfhccgohmeiaa
