/- Price breaks: BestBuy of the program and of the reference return what a plain function returns. Conditions: none. -/
import Derived.Test.YtlaiemjeoceehaaBrkG
namespace Go.Proofs.Ytlaiemjeoceehaa
open Go.RowKit
set_option linter.unusedVariables false
set_option linter.unusedSimpArgs false

theorem areB_asc {l : List Brk} (h : areB l = true) : ∀ (j k : Nat), k < j → j < l.length → (l.getD k brk0).f < (l.getD j brk0).f := by
  intro j
  induction j with
  | zero => intro k hk; omega
  | succ j ih =>
    intro k hk hj
    have h1 : (l.getD j brk0).f < (l.getD (j + 1) brk0).f := by
      simp only [areB, Bool.and_eq_true, allTo_iff] at h
      have := h.1.1 (j + 1) hj
      simp only [brkOk, Bool.and_eq_true] at this
      have h2 := this.2
      simp only [Nat.add_eq_zero_iff, Nat.one_ne_zero, and_false, if_false, Nat.add_sub_cancel, Bool.and_eq_true, decide_eq_true_eq] at h2
      exact h2.1
    rcases Nat.lt_succ_iff_lt_or_eq.1 hk with h2 | rfl
    · have := ih k h2 (by omega); omega
    · exact h1
theorem priceTo_at {l : List Brk} (h : areB l = true) {k : Nat} (hk : k < l.length) : ∀ n, k < n → n ≤ l.length → priceTo l (l.getD k brk0).f n = (l.getD k brk0).p := by
  intro n
  induction n with
  | zero => intro h; omega
  | succ n ih =>
    intro h1 h2
    rcases Nat.lt_succ_iff_lt_or_eq.1 h1 with h3 | rfl
    · rw [priceTo, if_neg (by have := areB_asc h n k h3 (by omega); omega), ih h3 (by omega)]
    · rw [priceTo, if_pos (by omega)]
theorem priceTo_bound {l : List Brk} (h : areB l = true) (q : Int) : ∀ n, n ≤ l.length → 0 ≤ priceTo l q n ∧ priceTo l q n ≤ 10000 := by
  intro n
  induction n with
  | zero => intro _; simp [priceTo]
  | succ n ih =>
    intro hn
    have := areB_at h (k := n) (by omega)
    have := ih (by omega)
    simp only [priceTo]
    split <;> omega
theorem mul_bound {a b : Int} (h1 : 0 ≤ a) (h2 : a ≤ 100000) (h3 : 0 ≤ b) (h4 : b ≤ 10000) : 0 ≤ a * b ∧ a * b ≤ 1000000000 :=
  ⟨Int.mul_nonneg h1 h3, by have := Int.mul_le_mul (a := a) (b := b) (c := 100000) (d := 10000) (by omega) (by omega) (by omega) (by omega); omega⟩
theorem wrap_small {a : Int} (h : 0 ≤ a ∧ a ≤ 1000000000) : wrap64 a = a := IntWalk.wrap64_in _ ⟨by omega, by omega⟩
theorem cost_at {l : List Brk} (h : areB l = true) {k : Nat} (hk : k < l.length) : (costF l (l.getD k brk0).f).1 = (l.getD k brk0).f * (l.getD k brk0).p := by
  have hb := areB_at h hk
  have hq : inB (l.getD k brk0).f 1 100000 = true := inB_iff.2 (by omega)
  simp only [costF, priceF, h, hq, Bool.and_self, if_true]
  rw [priceTo_at h hk l.length hk (Nat.le_refl _), wrap_small, Int.mul_comm]
  rw [Int.mul_comm]
  exact mul_bound (by omega) (by omega) (by omega) (by omega)
def bestTo (l : List Brk) (q : Int) : Nat → Int × Int
  | 0 => (q, (costF l q).1)
  | k + 1 => if q < (l.getD k brk0).f ∧ (l.getD k brk0).f * (l.getD k brk0).p < (bestTo l q k).2 then ((l.getD k brk0).f, (l.getD k brk0).f * (l.getD k brk0).p) else bestTo l q k
def bestF (l : List Brk) (q : Int) : Int × Int × Bool := if (costF l q).2 then ((bestTo l q l.length).1, (bestTo l q l.length).2, true) else (0, 0, false)
theorem cost_ok {l : List Brk} {q : Int} (h : (costF l q).2 = true) : areB l = true ∧ 1 ≤ q ∧ q ≤ 100000 := by
  simp only [costF, priceF] at h
  split at h
  · rename_i h1
    simp only [Bool.and_eq_true, inB_iff] at h1
    exact h1
  · cases h

set_option maxHeartbeats 2000000 in
theorem bestBuy_impl (l : List Brk) (A : Option Addr) (c : Nat) (q : Int) (w : World) (h : Rd Brk.E w A l) (hn : l.length ≤ 4194304) :
    Calls Try.prog 20 #[.slice A l.length c, .int .i64 q] w fun e w' => e = .returned (.tuple #[.int .i64 (bestF l q).1, .int .i64 (bestF l q).2.1, .bool (bestF l q).2.2]) ∧ Grew w w' := by
  cases hb : (costF l q).2
  · have HF := Lib.hid (show bestF l q = (0, 0, false) by simp [bestF, hb])
    go_enter Try.func20, Try.ntmps20
    go_wp2_with fail
    refine (buyCost_impl l _ _ _ _ h hn).mono ?_; rintro e w1 ⟨rfl, h1⟩
    go_wp2_with fail
    go_ret3
    go_light
    exact ⟨by rw [HF.out]; rfl, h1⟩
  have HF := Lib.hid (show bestF l q = ((bestTo l q l.length).1, (bestTo l q l.length).2, true) by simp [bestF, hb])
  obtain ⟨ha, hq1, hq2⟩ := cost_ok hb
  have HA := Lib.hid ha
  clear ha
  have H := Lib.hid h
  go_enter Try.func20, Try.ntmps20
  go_wp2_with fail
  refine (buyCost_impl l _ _ _ _ h hn).mono ?_; rintro e w1 ⟨rfl, h1⟩
  go_wp2_with fail
  go_loopw [9, 7, 25] (fun bq bc i wr => ∃ k : Nat, k ≤ l.length ∧ i = .int .i64 k ∧ bq = .int .i64 (bestTo l q k).1 ∧ bc = .int .i64 (bestTo l q k).2 ∧ Grew w wr) (fun _ _ i _ => l.length - (intOf i).toNat)
  case atStart => exact ⟨0, Nat.zero_le _, rfl, rfl, rfl, h1⟩
  case round =>
    obtain ⟨k, hk, rfl, rfl, rfl, hg⟩ := hrel
    have HG := Lib.hid hg
    by_cases hlt : k < l.length
    · obtain ⟨x, hx⟩ : ∃ x, l[k]? = some x := ⟨_, List.getElem?_eq_getElem hlt⟩
      have hd : l.getD k brk0 = x := by rw [List.getD_eq_getElem?_getD, hx]; rfl
      have hbx := areB_at HA.out hlt
      rw [hd] at hbx
      have hmb := mul_bound (a := x.f) (b := x.p) (by omega) (by omega) (by omega) (by omega)
      have HC : Hid ((costF l x.f).1 = x.f * x.p) := Lib.hid (by have := cost_at HA.out hlt; rwa [hd] at this)
      have HK : Hid (bestTo l q (k + 1) = if q < x.f ∧ x.f * x.p < (bestTo l q k).2 then (x.f, x.f * x.p) else bestTo l q k) := Lib.hid (by simp only [bestTo, hd])
      obtain ⟨b, o, rfl, hbw, hc⟩ := (h.grew hg).at_ hlt
      obtain ⟨f0, f1⟩ := Brk.at_ hc hx
      clear hx hd hc hg h1 h
      generalize hbt : bestTo l q k = bt at *
      clear hbt
      obtain ⟨bq, bc⟩ := bt
      simp only at *
      by_cases h1 : q < x.f
      · by_cases h2 : x.f * x.p < bc
        · go_wp2_with fail
          refine (buyCost_impl l _ _ _ _ (((H.out.grew HG.out).grew ((Grew.refl _).alloc _))) hn).mono ?_; rintro e w2 ⟨rfl, h3⟩
          rw [HC.out]
          have hz_w2_0 : wr.heap.size < w2.heap.size := Nat.lt_of_lt_of_le (by first | (simp +arith; done) | (simp; omega) | omega) h3.le; have hb_w2_0 := fun o => h3.rules.1 wr.heap.size o (by first | (simp +arith; done) | (simp; omega) | omega); have hf_w2_0 := fun o => h3.rules.2 wr.heap.size o (by first | (simp +arith; done) | (simp; omega) | omega); (try simp [World.cell?_alloc_past, World.frozen?_alloc_past, Nat.lt_add_right] at hb_w2_0 hf_w2_0)
          go_wp2_with fail
          go_roundw
          case rel => go_light; exact ⟨k + 1, by omega, by go_num, by rw [HK.out, if_pos ⟨h1, h2⟩], by rw [HK.out, if_pos ⟨h1, h2⟩], (HG.out.alloc _).trans h3⟩
          case measure => go_light; simp [intOf]; omega
        · go_wp2_with fail
          refine (buyCost_impl l _ _ _ _ (((H.out.grew HG.out).grew ((Grew.refl _).alloc _))) hn).mono ?_; rintro e w2 ⟨rfl, h3⟩
          rw [HC.out]
          have hz_w2_0 : wr.heap.size < w2.heap.size := Nat.lt_of_lt_of_le (by first | (simp +arith; done) | (simp; omega) | omega) h3.le; have hb_w2_0 := fun o => h3.rules.1 wr.heap.size o (by first | (simp +arith; done) | (simp; omega) | omega); have hf_w2_0 := fun o => h3.rules.2 wr.heap.size o (by first | (simp +arith; done) | (simp; omega) | omega); (try simp [World.cell?_alloc_past, World.frozen?_alloc_past, Nat.lt_add_right] at hb_w2_0 hf_w2_0)
          go_wp2_with fail
          go_roundw
          case rel => go_light; exact ⟨k + 1, by omega, by go_num, by rw [HK.out, if_neg (by omega)], by rw [HK.out, if_neg (by omega)], (HG.out.alloc _).trans h3⟩
          case measure => go_light; simp [intOf]; omega
      · go_wp2_with fail
        go_roundw
        case rel => go_light; exact ⟨k + 1, by omega, by go_num, by rw [HK.out, if_neg (by omega)], by rw [HK.out, if_neg (by omega)], HG.out.alloc _⟩
        case measure => go_light; simp [intOf]; omega
    · obtain rfl : k = l.length := by omega
      clear h h1
      go_wp2_with fail
      go_ret3
      go_light
      exact ⟨by rw [HF.out]; rfl, HG.out⟩

set_option maxHeartbeats 2000000 in
theorem bestBuy_spec (l : List Brk) (A : Option Addr) (c : Nat) (q : Int) (w : World) (h : Rd Brk.E w A l) (hn : l.length ≤ 4194304) :
    Calls Try.prog 19 #[.slice A l.length c, .int .i64 q] w fun e w' => e = .returned (.tuple #[.int .i64 (bestF l q).1, .int .i64 (bestF l q).2.1, .bool (bestF l q).2.2]) ∧ Grew w w' := by
  cases hb : (costF l q).2
  · have HF := Lib.hid (show bestF l q = (0, 0, false) by simp [bestF, hb])
    go_enter Try.func19, Try.ntmps19
    go_wp2_with fail
    refine (buyCost_spec l _ _ _ _ h hn).mono ?_; rintro e w1 ⟨rfl, h1⟩
    go_wp2_with fail
    go_ret3
    go_light
    exact ⟨by rw [HF.out]; rfl, h1⟩
  have HF := Lib.hid (show bestF l q = ((bestTo l q l.length).1, (bestTo l q l.length).2, true) by simp [bestF, hb])
  obtain ⟨ha, hq1, hq2⟩ := cost_ok hb
  have HA := Lib.hid ha
  clear ha
  have H := Lib.hid h
  go_enter Try.func19, Try.ntmps19
  go_wp2_with fail
  refine (buyCost_spec l _ _ _ _ h hn).mono ?_; rintro e w1 ⟨rfl, h1⟩
  go_wp2_with fail
  go_loopw [9, 7, 10] (fun bq bc i wr => ∃ k : Nat, k ≤ l.length ∧ i = .int .i64 k ∧ bq = .int .i64 (bestTo l q k).1 ∧ bc = .int .i64 (bestTo l q k).2 ∧ Grew w wr) (fun _ _ i _ => l.length - (intOf i).toNat)
  case atStart => exact ⟨0, Nat.zero_le _, rfl, rfl, rfl, h1⟩
  case round =>
    obtain ⟨k, hk, rfl, rfl, rfl, hg⟩ := hrel
    have HG := Lib.hid hg
    by_cases hlt : k < l.length
    · obtain ⟨x, hx⟩ : ∃ x, l[k]? = some x := ⟨_, List.getElem?_eq_getElem hlt⟩
      have hd : l.getD k brk0 = x := by rw [List.getD_eq_getElem?_getD, hx]; rfl
      have hbx := areB_at HA.out hlt
      rw [hd] at hbx
      have hmb := mul_bound (a := x.f) (b := x.p) (by omega) (by omega) (by omega) (by omega)
      have HC : Hid ((costF l x.f).1 = x.f * x.p) := Lib.hid (by have := cost_at HA.out hlt; rwa [hd] at this)
      have HK : Hid (bestTo l q (k + 1) = if q < x.f ∧ x.f * x.p < (bestTo l q k).2 then (x.f, x.f * x.p) else bestTo l q k) := Lib.hid (by simp only [bestTo, hd])
      obtain ⟨b, o, rfl, hbw, hc⟩ := (h.grew hg).at_ hlt
      obtain ⟨f0, f1⟩ := Brk.at_ hc hx
      clear hx hd hc hg h1 h
      generalize hbt : bestTo l q k = bt at *
      clear hbt
      obtain ⟨bq, bc⟩ := bt
      simp only at *
      by_cases h1 : q < x.f
      · have h1b : decide (q < x.f) = true := by simp [h1]
        by_cases h2 : x.f * x.p < bc
        · go_wp2_with fail
          (refine wp_region_grow_lit (by kernel_rfl) (by kernel_rfl) ?_; repeat (any_goals (first | go_big_quiet_step ((fail)) | quiet_step ((fail)) | (refine wpQuiet_step (fun K hK => ?_); go_simp; split <;> rename_i hsp <;> (refine hK _ ?_; clear hK K) <;> (try first | simp only [hsp, decide_true, decide_false, Bool.not_true, Bool.not_false] | simp only [Int.not_le.2 hsp, decide_false, Bool.not_false] | simp only [Int.not_lt.2 hsp, decide_false, Bool.not_false] | simp only [Nat.not_le.2 hsp, decide_false, Bool.not_false] | simp only [Nat.not_lt.2 hsp, decide_false, Bool.not_false])))))
          all_goals (refine wpQuiet_nil ?_; intro waa haa)
          have g0 := (haa.rules.1 b _ hbw).trans f0
          have g1 := (haa.rules.1 b _ hbw).trans f1
          go_wp2_with fail
          (refine wp_region_grow_lit (by kernel_rfl) (by kernel_rfl) ?_; repeat (any_goals (first | go_big_quiet_step ((fail)) | quiet_step ((fail)) | (refine wpQuiet_step (fun K hK => ?_); go_simp; split <;> rename_i hsp <;> (refine hK _ ?_; clear hK K) <;> (try first | simp only [hsp, decide_true, decide_false, Bool.not_true, Bool.not_false] | simp only [Int.not_le.2 hsp, decide_false, Bool.not_false] | simp only [Int.not_lt.2 hsp, decide_false, Bool.not_false] | simp only [Nat.not_le.2 hsp, decide_false, Bool.not_false] | simp only [Nat.not_lt.2 hsp, decide_false, Bool.not_false])))))
          all_goals (refine wpQuiet_nil ?_; intro wbb hbb)
          go_wp2_with fail
          go_roundw
          case rel => go_light; exact ⟨k + 1, by omega, by go_num, by rw [HK.out, if_pos ⟨h1, h2⟩], by rw [HK.out, if_pos ⟨h1, h2⟩], (HG.out.trans haa).trans hbb⟩
          case measure => go_light; simp [intOf]; omega
        · go_wp2_with fail
          (refine wp_region_grow_lit (by kernel_rfl) (by kernel_rfl) ?_; repeat (any_goals (first | go_big_quiet_step ((fail)) | quiet_step ((fail)) | (refine wpQuiet_step (fun K hK => ?_); go_simp; split <;> rename_i hsp <;> (refine hK _ ?_; clear hK K) <;> (try first | simp only [hsp, decide_true, decide_false, Bool.not_true, Bool.not_false] | simp only [Int.not_le.2 hsp, decide_false, Bool.not_false] | simp only [Int.not_lt.2 hsp, decide_false, Bool.not_false] | simp only [Nat.not_le.2 hsp, decide_false, Bool.not_false] | simp only [Nat.not_lt.2 hsp, decide_false, Bool.not_false])))))
          all_goals (refine wpQuiet_nil ?_; intro waa haa)
          go_wp2_with fail
          go_roundw
          case rel => go_light; exact ⟨k + 1, by omega, by go_num, by rw [HK.out, if_neg (by omega)], by rw [HK.out, if_neg (by omega)], HG.out.trans haa⟩
          case measure => go_light; simp [intOf]; omega
      · have h1b : decide (q < x.f) = false := by simp [h1]
        go_wp2_with fail
        (refine wp_region_grow_lit (by kernel_rfl) (by kernel_rfl) ?_; repeat (any_goals (first | go_big_quiet_step ((fail)) | quiet_step ((fail)) | (refine wpQuiet_step (fun K hK => ?_); go_simp; split <;> rename_i hsp <;> (refine hK _ ?_; clear hK K) <;> (try first | simp only [hsp, decide_true, decide_false, Bool.not_true, Bool.not_false] | simp only [Int.not_le.2 hsp, decide_false, Bool.not_false] | simp only [Int.not_lt.2 hsp, decide_false, Bool.not_false] | simp only [Nat.not_le.2 hsp, decide_false, Bool.not_false] | simp only [Nat.not_lt.2 hsp, decide_false, Bool.not_false])))))
        all_goals (refine wpQuiet_nil ?_; intro waa haa)
        go_wp2_with fail
        go_roundw
        case rel => go_light; exact ⟨k + 1, by omega, by go_num, by rw [HK.out, if_neg (by omega)], by rw [HK.out, if_neg (by omega)], HG.out.trans haa⟩
        case measure => go_light; simp [intOf]; omega
    · obtain rfl : k = l.length := by omega
      clear h h1
      go_wp2_with fail
      go_ret3
      go_light
      exact ⟨by rw [HF.out]; rfl, HG.out⟩
end Go.Proofs.Ytlaiemjeoceehaa
