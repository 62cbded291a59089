/- The law on matching: no more is invoiced than received, no more received than ordered, and no invoice leaves its tolerance. Conditions: none. -/
import Derived.Test.YtjihfklhfldplaaPurG
import Derived.Test.YtjihfklhfldplaaPurM
namespace Go.Proofs.Ytjihfklhfldplaa
open Go.ChangeShapes Go.WideShapes Go.ChangeAt Go.RowKit Go.Joins Go.Deep
set_option linter.unusedVariables false
set_option linter.unusedSimpArgs false

theorem big_any (l : List UInt8) (A : Option Addr) (c : Nat) (w : World) (hl : l.length ≤ maxLen) :
    Calls Try.prog 24 #[.slice A l.length c] w fun e w' => e = .returned (.bool (decide ((1048576 : Int) < l.length))) ∧ w = w' := by
  unfold maxLen at hl
  go_enter Try.func24, Try.ntmps24
  go_wp2_with fail
  go_ret
  go_light
  exact ⟨rfl, rfl⟩
/-- What the three calls answer. -/
theorem three {q p t r i d k m : Int} {c : Bool} : ∃ (i' d' b1 r' b2 : Int) (c' : Bool) (b3 : Int), invF q p t r i d c k m = (i', d', b1) ∧ recvF q p t r i d c k = (r', b2) ∧ closeF q p t r i d c = (c', b3) := ⟨_, _, _, _, _, _, _, rfl, rfl, rfl⟩

namespace fnMatching
set_option maxRecDepth 100000 in
set_option maxHeartbeats 40000000 in
theorem walk (w : World) (code : List UInt8) (A : Option Addr) (cc : Nat) (r_code : Rd Byt.E w A code) (q_code : code.length ≤ cc ∧ cc ≤ maxLen) :
    Calls Try.prog 9 #[.slice A code.length cc] w fun e w' => e = .returned (.bool true) ∧ Grew w w' := by
  have hql := q_code
  by_cases hbig : (1048576 : Int) < (code.length : Int)
  · have hb : decide ((1048576 : Int) < (code.length : Int)) = true := by simpa using hbig
    go_enter Try.func9, Try.ntmps9
    go_wp2_with fail
    refine (big_any code _ _ _ (by omega)).mono ?_; rintro e w0 ⟨rfl, rfl⟩
    go_wp2_with fail
    go_ret
    go_light
    exact ⟨rfl, Grew.refl _⟩
  have hb : decide ((1048576 : Int) < (code.length : Int)) = false := by simpa using hbig
  have HR := Lib.hid r_code
  clear r_code
  go_enter Try.func9, Try.ntmps9
  go_wp2_with fail
  refine (big_any code _ _ _ (by omega)).mono ?_; rintro e w0 ⟨rfl, rfl⟩
  go_wp2_with fail
  refine (drawMatchInvoice_any _ _ _ code HR.out (by omega)).mono ?_; rintro e w1 ⟨⟨q, p, t, r, i, d, c, k, m, rfl⟩, hg1⟩
  have HG1 := Lib.hid hg1
  clear hg1
  obtain ⟨i', d', b1, r', b2, c', b3, hI, hV, hW⟩ := three (q := q) (p := p) (t := t) (r := r) (i := i) (d := d) (c := c) (k := k) (m := m)
  have HI := Lib.hid hI
  have HV := Lib.hid hV
  have HW := Lib.hid hW
  clear hI hV hW
  have HX3 := Lib.hid (Bx.new_ (E := Pu.E) w1 ⟨q, p, t, r, i, d, c⟩ 25)
  go_wp2_with fail
  refine (invG HI.out _).mono ?_; rintro e w2 ⟨rfl, hw2⟩
  have HX3 := Lib.hid (HX3.out.grew hw2)
  have HG2 := Lib.hid ((HG1.out.alloc _).trans hw2)
  clear hw2
  have HX6 := Lib.hid (Bx.new_ (E := Pu.E) w2 ⟨q, p, t, r, i', d', c⟩ 25)
  obtain ⟨g3_0, g3_1, g3_2, g3_3, g3_4, g3_5, g3_6, g3_7, g3_8⟩ := Pu.bx HX3.out
  go_wp2_with fail
  refine (recvG HV.out _).mono ?_; rintro e w3 ⟨rfl, hw3⟩
  clear g3_0 g3_1 g3_2 g3_3 g3_4 g3_5 g3_6 g3_7 g3_8
  have HX3 := Lib.hid ((HX3.out.alloc _).grew hw3)
  have HX6 := Lib.hid (HX6.out.grew hw3)
  have HG3 := Lib.hid ((HG2.out.alloc _).trans hw3)
  clear hw3
  have HX8 := Lib.hid (Bx.new_ (E := Pu.E) w3 ⟨q, p, t, r', i, d, c⟩ 25)
  obtain ⟨g3_0, g3_1, g3_2, g3_3, g3_4, g3_5, g3_6, g3_7, g3_8⟩ := Pu.bx HX3.out
  obtain ⟨g6_0, g6_1, g6_2, g6_3, g6_4, g6_5, g6_6, g6_7, g6_8⟩ := Pu.bx HX6.out
  go_wp2_with fail
  refine (closeG HW.out _).mono ?_; rintro e w4 ⟨rfl, hw4⟩
  clear g3_0 g3_1 g3_2 g3_3 g3_4 g3_5 g3_6 g3_7 g3_8 g6_0 g6_1 g6_2 g6_3 g6_4 g6_5 g6_6 g6_7 g6_8
  have HX3 := Lib.hid ((HX3.out.alloc _).grew hw4)
  have HX6 := Lib.hid ((HX6.out.alloc _).grew hw4)
  have HX8 := Lib.hid (HX8.out.grew hw4)
  have HG4 := Lib.hid ((HG3.out.alloc _).trans hw4)
  clear hw4
  have HX10 := Lib.hid (Bx.new_ (E := Pu.E) w4 ⟨q, p, t, r, i, d, c'⟩ 25)
  obtain ⟨g3_0, g3_1, g3_2, g3_3, g3_4, g3_5, g3_6, g3_7, g3_8⟩ := Pu.bx HX3.out
  obtain ⟨g6_0, g6_1, g6_2, g6_3, g6_4, g6_5, g6_6, g6_7, g6_8⟩ := Pu.bx HX6.out
  obtain ⟨g8_0, g8_1, g8_2, g8_3, g8_4, g8_5, g8_6, g8_7, g8_8⟩ := Pu.bx HX8.out
  go_upto_region 7 with fail
  obtain ⟨w5, hw5⟩ : ∃ w5, w5 = w4.alloc (.cells #[.int .i64 q, .int .i64 p, .int .i64 t, .int .i64 r, .int .i64 i, .int .i64 d, .bool c'] 25) := ⟨_, rfl⟩
  rw [← hw5]
  replace HX3 : Hid (Bx Pu.E w5 _ ⟨q, p, t, r, i, d, c⟩) := Lib.hid (by rw [hw5]; exact HX3.out.alloc _)
  replace HX6 : Hid (Bx Pu.E w5 _ ⟨q, p, t, r, i', d', c⟩) := Lib.hid (by rw [hw5]; exact HX6.out.alloc _)
  replace HX8 : Hid (Bx Pu.E w5 _ ⟨q, p, t, r', i, d, c⟩) := Lib.hid (by rw [hw5]; exact HX8.out.alloc _)
  replace HX10 : Hid (Bx Pu.E w5 _ ⟨q, p, t, r, i, d, c'⟩) := Lib.hid (by rw [hw5]; exact HX10.out)
  have HG : Hid (Grew w w5) := Lib.hid (by rw [hw5]; exact HG4.out.alloc _)
  clear hw5
  generalize w1.heap.size = bk3 at *
  generalize w2.heap.size = bk6 at *
  generalize w3.heap.size = bk8 at *
  generalize w4.heap.size = bk10 at *
  clear g3_0 g3_1 g3_2 g3_3 g3_4 g3_5 g3_6 g3_7 g3_8 g6_0 g6_1 g6_2 g6_3 g6_4 g6_5 g6_6 g6_7 g6_8 g8_0 g8_1 g8_2 g8_3 g8_4 g8_5 g8_6 g8_7 g8_8
  cases hpx : purB q p t r i d
  · have e1 := inv_bad (k := k) (m := m) (c := c) hpx
    have e2 := recv_bad (k := k) (c := c) hpx
    have e3 := close_bad (c := c) hpx
    rw [HI.out] at e1
    rw [HV.out] at e2
    rw [HW.out] at e3
    simp only [Prod.mk.injEq] at e1 e2 e3
    obtain ⟨rfl, rfl, rfl⟩ := e1
    obtain ⟨rfl, rfl⟩ := e2
    obtain ⟨rfl, rfl⟩ := e3
    have HP := Lib.hid hpx
    clear hpx
    obtain ⟨g3_0, g3_1, g3_2, g3_3, g3_4, g3_5, g3_6, g3_7, g3_8⟩ := Pu.bx HX3.out
    obtain ⟨g6_0, g6_1, g6_2, g6_3, g6_4, g6_5, g6_6, g6_7, g6_8⟩ := Pu.bx HX6.out
    obtain ⟨g8_0, g8_1, g8_2, g8_3, g8_4, g8_5, g8_6, g8_7, g8_8⟩ := Pu.bx HX8.out
    obtain ⟨g10_0, g10_1, g10_2, g10_3, g10_4, g10_5, g10_6, g10_7, g10_8⟩ := Pu.bx HX10.out
    go_wp2_with (go_at_call 10; refine (isG HP.out _).mono ?_; rintro e w9 ⟨rfl, h9⟩; have HG9 := Lib.hid (HG.out.trans h9); clear h9)
    go_ret
    go_light
    exact ⟨rfl, HG9.out⟩
  have HP := Lib.hid hpx
  obtain ⟨hbd1, hbd2, hbd3, hbd4, hbd5, hbd6, hbd7, hbd8, hbd9, hbd10, hbd11, hbd12⟩ := purB_bounds hpx
  have hib := ip_bound (i := i) (p := p) (by omega) (by omega) (by omega) (by omega)
  have HCI := Lib.hid (inv_closed hpx)
  have HCV := Lib.hid (recv_closed hpx)
  have F1 := Lib.hid (inv_cases (k := k) (m := m) (c := c) hpx)
  have F2 := Lib.hid (recv_cases (k := k) (c := c) hpx)
  have F3 := Lib.hid (close_cases (c := c) hpx)
  rw [HI.out] at F1
  rw [HV.out] at F2
  rw [HW.out] at F3
  have G1 : Hid ((b1 ≠ 0 ∧ i' = i ∧ d' = d) ∨ (b1 = 0 ∧ i' = i + k ∧ d' = d + m ∧ c = false ∧ 1 ≤ k ∧ k ≤ 100000 ∧ 0 ≤ m ∧ m ≤ 2000000000 ∧ i + k ≤ r ∧ k * p * (100 - t) ≤ m * 100 ∧ m * 100 ≤ k * p * (100 + t))) := Lib.hid (by
    rcases F1.out with ⟨b, hb, e⟩ | ⟨e, h⟩
    · simp only [Prod.mk.injEq] at e; obtain ⟨rfl, rfl, rfl⟩ := e; exact .inl ⟨hb, rfl, rfl⟩
    · simp only [Prod.mk.injEq] at e; obtain ⟨rfl, rfl, rfl⟩ := e; exact .inr ⟨rfl, rfl, rfl, h⟩)
  have G2 : Hid ((b2 ≠ 0 ∧ r' = r) ∨ (b2 = 0 ∧ purB q p t r' i d = true)) := Lib.hid (by
    rcases F2.out with ⟨b, hb, e⟩ | ⟨e, h⟩
    · simp only [Prod.mk.injEq] at e; obtain ⟨rfl, rfl⟩ := e; exact .inl ⟨hb, rfl⟩
    · simp only [Prod.mk.injEq] at e; obtain ⟨rfl, rfl⟩ := e; exact .inr ⟨rfl, h⟩)
  have G3 : Hid ((b3 ≠ 0 ∧ c' = c) ∨ (b3 = 0 ∧ c' = true ∧ i = r)) := Lib.hid (by
    rcases F3.out with ⟨b, hb, e⟩ | ⟨e, h⟩
    · simp only [Prod.mk.injEq] at e; obtain ⟨rfl, rfl⟩ := e; exact .inl ⟨hb, rfl⟩
    · simp only [Prod.mk.injEq] at e; obtain ⟨rfl, rfl⟩ := e; exact .inr ⟨rfl, rfl, h.2⟩)
  have HY : Hid (purB q p t r i' d' = true) := Lib.hid (by
    rcases G1.out with ⟨_, rfl, rfl⟩ | ⟨_, rfl, rfl, rfl, h1, h2, h3, h4, h5, h6, h7⟩
    · exact hpx
    · exact (inv_ok hpx h1 h2 h3 h5 h6 h7).1)
  have HZ : Hid (purB q p t r' i d = true) := Lib.hid (by
    rcases G2.out with ⟨_, rfl⟩ | ⟨_, h⟩
    · exact hpx
    · exact h)
  clear hpx
  obtain ⟨g3_0, g3_1, g3_2, g3_3, g3_4, g3_5, g3_6, g3_7, g3_8⟩ := Pu.bx HX3.out
  obtain ⟨g6_0, g6_1, g6_2, g6_3, g6_4, g6_5, g6_6, g6_7, g6_8⟩ := Pu.bx HX6.out
  obtain ⟨g8_0, g8_1, g8_2, g8_3, g8_4, g8_5, g8_6, g8_7, g8_8⟩ := Pu.bx HX8.out
  obtain ⟨g10_0, g10_1, g10_2, g10_3, g10_4, g10_5, g10_6, g10_7, g10_8⟩ := Pu.bx HX10.out
  go_cut [67] (fun s wx => s = .bool false ∧ Bx Pu.E wx bk3 ⟨q, p, t, r, i, d, c⟩ ∧ Bx Pu.E wx bk6 ⟨q, p, t, r, i', d', c⟩ ∧ Bx Pu.E wx bk8 ⟨q, p, t, r', i, d, c⟩ ∧ Bx Pu.E wx bk10 ⟨q, p, t, r, i, d, c'⟩ ∧ Grew w wx)
  case first =>
    rcases G1.out with ⟨hb1, rfl, rfl⟩ | ⟨hb1, _⟩
    all_goals rcases G2.out with ⟨hb2, rfl⟩ | ⟨hb2, _⟩
    all_goals rcases G3.out with ⟨hb3, rfl⟩ | ⟨hb3, _⟩
    all_goals
      (first | (have eb1 : (b1 != 0) = true := by simpa using hb1) | (have eb1 : (b1 != 0) = false := by simpa using hb1))
      (first | (have eb2 : (b2 != 0) = true := by simpa using hb2) | (have eb2 : (b2 != 0) = false := by simpa using hb2))
      (first | (have eb3 : (b3 != 0) = true := by simpa using hb3) | (have eb3 : (b3 != 0) = false := by simpa using hb3))
      clear hb1 hb2 hb3
      go_wp2_with fail
      go_meet
      exact ⟨rfl, HX3.out, HX6.out, HX8.out, HX10.out, HG.out⟩
  case rest =>
    clear g3_0 g3_1 g3_2 g3_3 g3_4 g3_5 g3_6 g3_7 g3_8 g6_0 g6_1 g6_2 g6_3 g6_4 g6_5 g6_6 g6_7 g6_8 g8_0 g8_1 g8_2 g8_3 g8_4 g8_5 g8_6 g8_7 g8_8 g10_0 g10_1 g10_2 g10_3 g10_4 g10_5 g10_6 g10_7 g10_8
    clear HG HX3 HX6 HX8 HX10
    obtain ⟨rfl, hx3, hx6, hx8, hx10, hg⟩ := hcut
    have HX3 := Lib.hid hx3
    have HX6 := Lib.hid hx6
    have HX8 := Lib.hid hx8
    have HX10 := Lib.hid hx10
    have HG := Lib.hid hg
    clear hg hx3 hx6 hx8 hx10
    obtain ⟨g3_0, g3_1, g3_2, g3_3, g3_4, g3_5, g3_6, g3_7, g3_8⟩ := Pu.bx HX3.out
    obtain ⟨g6_0, g6_1, g6_2, g6_3, g6_4, g6_5, g6_6, g6_7, g6_8⟩ := Pu.bx HX6.out
    obtain ⟨g8_0, g8_1, g8_2, g8_3, g8_4, g8_5, g8_6, g8_7, g8_8⟩ := Pu.bx HX8.out
    obtain ⟨g10_0, g10_1, g10_2, g10_3, g10_4, g10_5, g10_6, g10_7, g10_8⟩ := Pu.bx HX10.out
    go_upto_if 82 with (go_at_call 10; refine (isG HP.out _).mono ?_; rintro e w9 ⟨rfl, h9⟩; have HG9 := Lib.hid (HG.out.trans h9); have HY3 := Lib.hid (HX3.out.grew h9); have HY6 := Lib.hid (HX6.out.grew h9); have HY8 := Lib.hid (HX8.out.grew h9); have HY10 := Lib.hid (HX10.out.grew h9); clear g3_0 g3_1 g3_2 g3_3 g3_4 g3_5 g3_6 g3_7 g3_8 g6_0 g6_1 g6_2 g6_3 g6_4 g6_5 g6_6 g6_7 g6_8 g8_0 g8_1 g8_2 g8_3 g8_4 g8_5 g8_6 g8_7 g8_8 g10_0 g10_1 g10_2 g10_3 g10_4 g10_5 g10_6 g10_7 g10_8; clear h9; replace HX3 := HY3; replace HX6 := HY6; replace HX8 := HY8; replace HX10 := HY10; obtain ⟨g3_0, g3_1, g3_2, g3_3, g3_4, g3_5, g3_6, g3_7, g3_8⟩ := Pu.bx HX3.out; obtain ⟨g6_0, g6_1, g6_2, g6_3, g6_4, g6_5, g6_6, g6_7, g6_8⟩ := Pu.bx HX6.out; obtain ⟨g8_0, g8_1, g8_2, g8_3, g8_4, g8_5, g8_6, g8_7, g8_8⟩ := Pu.bx HX8.out; obtain ⟨g10_0, g10_1, g10_2, g10_3, g10_4, g10_5, g10_6, g10_7, g10_8⟩ := Pu.bx HX10.out)
    go_cut [12] (fun s wx => Bx Pu.E wx bk3 ⟨q, p, t, r, i, d, c⟩ ∧ Bx Pu.E wx bk6 ⟨q, p, t, r, i', d', c⟩ ∧ Bx Pu.E wx bk8 ⟨q, p, t, r', i, d, c⟩ ∧ Bx Pu.E wx bk10 ⟨q, p, t, r, i, d, c'⟩ ∧ Grew w wx)
    case first =>
      rcases G1.out with ⟨hb1, _⟩ | ⟨hb1, rfl, rfl, rfl, hk1, hk2, hm1, hm2, hik, hlo, hhi⟩
      · have eb1 : (b1 == 0) = false := by simpa using hb1
        clear hb1
        go_wp2_with fail
        go_meet
        exact ⟨HX3.out, HX6.out, HX8.out, HX10.out, HG9.out⟩
      · subst hb1
        obtain ⟨_, ga, gb, hga, hgb, hga0, hga1, hgb0, hgb1, hgg1, hgg2, hkp0, hkp1, hkpt0, hkpt1⟩ := inv_ok HP.out hk1 hk2 hm1 hik hlo hhi
        have HGA := Lib.hid hga
        have HGB := Lib.hid hgb
        clear hga hgb hlo hhi
        go_wp2_with fail
        (refine wp_region_grow_lit (by kernel_rfl) (by kernel_rfl) ?_; repeat (any_goals (first | go_big_quiet_step (((first | (go_at_call 14; with_reducible exact quiet_grew (gapG HGA.out _)) | (go_at_call 14; with_reducible exact quiet_grew (gapG HGB.out _))))) | quiet_step (((first | (go_at_call 14; with_reducible exact quiet_grew (gapG HGA.out _)) | (go_at_call 14; with_reducible exact quiet_grew (gapG HGB.out _))))) | (refine wpQuiet_step (fun K hK => ?_); go_simp; split <;> rename_i hsp <;> (refine hK _ ?_; clear hK K) <;> (try first | simp only [hsp, decide_true, decide_false, Bool.not_true, Bool.not_false] | simp only [Int.not_le.2 hsp, decide_false, Bool.not_false] | simp only [Int.not_lt.2 hsp, decide_false, Bool.not_false] | simp only [Nat.not_le.2 hsp, decide_false, Bool.not_false] | simp only [Nat.not_lt.2 hsp, decide_false, Bool.not_false])))))
        all_goals (refine wpQuiet_nil ?_; intro wqq hqq)
        have HGq := Lib.hid (HG9.out.trans hqq)
        replace HX3 := Lib.hid (HX3.out.grew hqq)
        replace HX6 := Lib.hid (HX6.out.grew hqq)
        replace HX8 := Lib.hid (HX8.out.grew hqq)
        replace HX10 := Lib.hid (HX10.out.grew hqq)
        clear hqq
        clear g3_0 g3_1 g3_2 g3_3 g3_4 g3_5 g3_6 g3_7 g3_8 g6_0 g6_1 g6_2 g6_3 g6_4 g6_5 g6_6 g6_7 g6_8 g8_0 g8_1 g8_2 g8_3 g8_4 g8_5 g8_6 g8_7 g8_8 g10_0 g10_1 g10_2 g10_3 g10_4 g10_5 g10_6 g10_7 g10_8
        obtain ⟨g3_0, g3_1, g3_2, g3_3, g3_4, g3_5, g3_6, g3_7, g3_8⟩ := Pu.bx HX3.out
        obtain ⟨g6_0, g6_1, g6_2, g6_3, g6_4, g6_5, g6_6, g6_7, g6_8⟩ := Pu.bx HX6.out
        obtain ⟨g8_0, g8_1, g8_2, g8_3, g8_4, g8_5, g8_6, g8_7, g8_8⟩ := Pu.bx HX8.out
        obtain ⟨g10_0, g10_1, g10_2, g10_3, g10_4, g10_5, g10_6, g10_7, g10_8⟩ := Pu.bx HX10.out
        have hw1 : wrap64 (d + m) = d + m := IntWalk.wrap64_in _ ⟨by omega, by omega⟩
        have hw2 : wrap64 (i + k) = i + k := IntWalk.wrap64_in _ ⟨by omega, by omega⟩
        by_cases hmx : ga - gb < -(ga - gb)
        all_goals
          go_wp2_with fail
          go_meet
          exact ⟨HX3.out, HX6.out, HX8.out, HX10.out, HGq.out⟩
    case rest =>
      clear g3_0 g3_1 g3_2 g3_3 g3_4 g3_5 g3_6 g3_7 g3_8 g6_0 g6_1 g6_2 g6_3 g6_4 g6_5 g6_6 g6_7 g6_8 g8_0 g8_1 g8_2 g8_3 g8_4 g8_5 g8_6 g8_7 g8_8 g10_0 g10_1 g10_2 g10_3 g10_4 g10_5 g10_6 g10_7 g10_8
      clear HG HG9 HX3 HX6 HX8 HX10
      obtain ⟨hx3, hx6, hx8, hx10, hg⟩ := hcut
      have HX3 := Lib.hid hx3
      have HX6 := Lib.hid hx6
      have HX8 := Lib.hid hx8
      have HX10 := Lib.hid hx10
      have HG := Lib.hid hg
      clear hg hx3 hx6 hx8 hx10
      obtain ⟨g3_0, g3_1, g3_2, g3_3, g3_4, g3_5, g3_6, g3_7, g3_8⟩ := Pu.bx HX3.out
      obtain ⟨g6_0, g6_1, g6_2, g6_3, g6_4, g6_5, g6_6, g6_7, g6_8⟩ := Pu.bx HX6.out
      obtain ⟨g8_0, g8_1, g8_2, g8_3, g8_4, g8_5, g8_6, g8_7, g8_8⟩ := Pu.bx HX8.out
      obtain ⟨g10_0, g10_1, g10_2, g10_3, g10_4, g10_5, g10_6, g10_7, g10_8⟩ := Pu.bx HX10.out
      go_upto_if 124 with fail
      go_cut [13, 14, 15, 16] (fun s1 s2 s3 s4 wx => Bx Pu.E wx bk3 ⟨q, p, t, r, i, d, c⟩ ∧ Bx Pu.E wx bk6 ⟨q, p, t, r, i', d', c⟩ ∧ Bx Pu.E wx bk8 ⟨q, p, t, r', i, d, c⟩ ∧ Bx Pu.E wx bk10 ⟨q, p, t, r, i, d, c'⟩ ∧ Grew w wx)
      case first =>
        rcases G3.out with ⟨hb3, _⟩ | ⟨hb3, rfl, hir⟩
        · have eb3 : (b3 == 0) = false := by simpa using hb3
          clear hb3
          go_wp2_with fail
          go_meet
          exact ⟨HX3.out, HX6.out, HX8.out, HX10.out, HG.out⟩
        · subst hb3
          have hir2 : (i != r) = false := by simp [hir]
          clear hir
          go_wp2_with fail
          refine (invG HCI.out _).mono ?_; rintro e w5 ⟨rfl, h5⟩
          have HG5 := Lib.hid (HG.out.trans h5)
          replace HX3 := Lib.hid (HX3.out.grew h5)
          replace HX6 := Lib.hid (HX6.out.grew h5)
          replace HX8 := Lib.hid (HX8.out.grew h5)
          replace HX10 := Lib.hid (HX10.out.grew h5)
          clear h5
          clear g3_0 g3_1 g3_2 g3_3 g3_4 g3_5 g3_6 g3_7 g3_8 g6_0 g6_1 g6_2 g6_3 g6_4 g6_5 g6_6 g6_7 g6_8 g8_0 g8_1 g8_2 g8_3 g8_4 g8_5 g8_6 g8_7 g8_8 g10_0 g10_1 g10_2 g10_3 g10_4 g10_5 g10_6 g10_7 g10_8
          obtain ⟨g3_0, g3_1, g3_2, g3_3, g3_4, g3_5, g3_6, g3_7, g3_8⟩ := Pu.bx HX3.out
          obtain ⟨g6_0, g6_1, g6_2, g6_3, g6_4, g6_5, g6_6, g6_7, g6_8⟩ := Pu.bx HX6.out
          obtain ⟨g8_0, g8_1, g8_2, g8_3, g8_4, g8_5, g8_6, g8_7, g8_8⟩ := Pu.bx HX8.out
          obtain ⟨g10_0, g10_1, g10_2, g10_3, g10_4, g10_5, g10_6, g10_7, g10_8⟩ := Pu.bx HX10.out
          go_wp2_with fail
          refine (recvG HCV.out _).mono ?_; rintro e w6 ⟨rfl, h6⟩
          have HG6 := Lib.hid ((HG5.out.alloc _).trans h6)
          replace HX3 := Lib.hid ((HX3.out.alloc _).grew h6)
          replace HX6 := Lib.hid ((HX6.out.alloc _).grew h6)
          replace HX8 := Lib.hid ((HX8.out.alloc _).grew h6)
          replace HX10 := Lib.hid ((HX10.out.alloc _).grew h6)
          clear h6
          clear g3_0 g3_1 g3_2 g3_3 g3_4 g3_5 g3_6 g3_7 g3_8 g6_0 g6_1 g6_2 g6_3 g6_4 g6_5 g6_6 g6_7 g6_8 g8_0 g8_1 g8_2 g8_3 g8_4 g8_5 g8_6 g8_7 g8_8 g10_0 g10_1 g10_2 g10_3 g10_4 g10_5 g10_6 g10_7 g10_8
          obtain ⟨g3_0, g3_1, g3_2, g3_3, g3_4, g3_5, g3_6, g3_7, g3_8⟩ := Pu.bx HX3.out
          obtain ⟨g6_0, g6_1, g6_2, g6_3, g6_4, g6_5, g6_6, g6_7, g6_8⟩ := Pu.bx HX6.out
          obtain ⟨g8_0, g8_1, g8_2, g8_3, g8_4, g8_5, g8_6, g8_7, g8_8⟩ := Pu.bx HX8.out
          obtain ⟨g10_0, g10_1, g10_2, g10_3, g10_4, g10_5, g10_6, g10_7, g10_8⟩ := Pu.bx HX10.out
          have HQ := Lib.hid (fun (w7 : World) (h7 : Grew w6 w7) => (show Bx Pu.E w7 bk3 ⟨q, p, t, r, i, d, c⟩ ∧ Bx Pu.E w7 bk6 ⟨q, p, t, r, i', d', c⟩ ∧ Bx Pu.E w7 bk8 ⟨q, p, t, r', i, d, c⟩ ∧ Bx Pu.E w7 bk10 ⟨q, p, t, r, i, d, true⟩ ∧ Grew w w7 from ⟨HX3.out.grew h7, HX6.out.grew h7, HX8.out.grew h7, HX10.out.grew h7, HG6.out.trans h7⟩))
          go_wp2_with fail
          go_meet
          exact HQ.out _ ((Grew.refl _).alloc _)
      case rest =>
        clear g3_0 g3_1 g3_2 g3_3 g3_4 g3_5 g3_6 g3_7 g3_8 g6_0 g6_1 g6_2 g6_3 g6_4 g6_5 g6_6 g6_7 g6_8 g8_0 g8_1 g8_2 g8_3 g8_4 g8_5 g8_6 g8_7 g8_8 g10_0 g10_1 g10_2 g10_3 g10_4 g10_5 g10_6 g10_7 g10_8
        clear HG HX3 HX6 HX8 HX10
        obtain ⟨hx3, hx6, hx8, hx10, hg⟩ := hcut
        have HX3 := Lib.hid hx3
        have HX6 := Lib.hid hx6
        have HX8 := Lib.hid hx8
        have HX10 := Lib.hid hx10
        have HG := Lib.hid hg
        clear hg hx3 hx6 hx8 hx10
        obtain ⟨g3_0, g3_1, g3_2, g3_3, g3_4, g3_5, g3_6, g3_7, g3_8⟩ := Pu.bx HX3.out
        obtain ⟨g6_0, g6_1, g6_2, g6_3, g6_4, g6_5, g6_6, g6_7, g6_8⟩ := Pu.bx HX6.out
        obtain ⟨g8_0, g8_1, g8_2, g8_3, g8_4, g8_5, g8_6, g8_7, g8_8⟩ := Pu.bx HX8.out
        obtain ⟨g10_0, g10_1, g10_2, g10_3, g10_4, g10_5, g10_6, g10_7, g10_8⟩ := Pu.bx HX10.out
        go_wp2_with fail
        (with_reducible refine (isG HY.out _).mono ?_); rintro e w5 ⟨rfl, h5⟩
        replace HG := Lib.hid (HG.out.trans h5)
        replace HX3 := Lib.hid (HX3.out.grew h5)
        replace HX6 := Lib.hid (HX6.out.grew h5)
        replace HX8 := Lib.hid (HX8.out.grew h5)
        replace HX10 := Lib.hid (HX10.out.grew h5)
        clear h5
        clear g3_0 g3_1 g3_2 g3_3 g3_4 g3_5 g3_6 g3_7 g3_8 g6_0 g6_1 g6_2 g6_3 g6_4 g6_5 g6_6 g6_7 g6_8 g8_0 g8_1 g8_2 g8_3 g8_4 g8_5 g8_6 g8_7 g8_8 g10_0 g10_1 g10_2 g10_3 g10_4 g10_5 g10_6 g10_7 g10_8
        obtain ⟨g3_0, g3_1, g3_2, g3_3, g3_4, g3_5, g3_6, g3_7, g3_8⟩ := Pu.bx HX3.out
        obtain ⟨g6_0, g6_1, g6_2, g6_3, g6_4, g6_5, g6_6, g6_7, g6_8⟩ := Pu.bx HX6.out
        obtain ⟨g8_0, g8_1, g8_2, g8_3, g8_4, g8_5, g8_6, g8_7, g8_8⟩ := Pu.bx HX8.out
        obtain ⟨g10_0, g10_1, g10_2, g10_3, g10_4, g10_5, g10_6, g10_7, g10_8⟩ := Pu.bx HX10.out
        go_wp2_with fail
        (with_reducible refine (isG HZ.out _).mono ?_); rintro e w6 ⟨rfl, h6⟩
        replace HG := Lib.hid (HG.out.trans h6)
        replace HX3 := Lib.hid (HX3.out.grew h6)
        replace HX6 := Lib.hid (HX6.out.grew h6)
        replace HX8 := Lib.hid (HX8.out.grew h6)
        replace HX10 := Lib.hid (HX10.out.grew h6)
        clear h6
        clear g3_0 g3_1 g3_2 g3_3 g3_4 g3_5 g3_6 g3_7 g3_8 g6_0 g6_1 g6_2 g6_3 g6_4 g6_5 g6_6 g6_7 g6_8 g8_0 g8_1 g8_2 g8_3 g8_4 g8_5 g8_6 g8_7 g8_8 g10_0 g10_1 g10_2 g10_3 g10_4 g10_5 g10_6 g10_7 g10_8
        obtain ⟨g3_0, g3_1, g3_2, g3_3, g3_4, g3_5, g3_6, g3_7, g3_8⟩ := Pu.bx HX3.out
        obtain ⟨g6_0, g6_1, g6_2, g6_3, g6_4, g6_5, g6_6, g6_7, g6_8⟩ := Pu.bx HX6.out
        obtain ⟨g8_0, g8_1, g8_2, g8_3, g8_4, g8_5, g8_6, g8_7, g8_8⟩ := Pu.bx HX8.out
        obtain ⟨g10_0, g10_1, g10_2, g10_3, g10_4, g10_5, g10_6, g10_7, g10_8⟩ := Pu.bx HX10.out
        go_wp2_with fail
        (with_reducible refine (isG HP.out _).mono ?_); rintro e w7 ⟨rfl, h7⟩
        replace HG := Lib.hid (HG.out.trans h7)
        replace HX3 := Lib.hid (HX3.out.grew h7)
        replace HX6 := Lib.hid (HX6.out.grew h7)
        replace HX8 := Lib.hid (HX8.out.grew h7)
        replace HX10 := Lib.hid (HX10.out.grew h7)
        clear h7
        clear g3_0 g3_1 g3_2 g3_3 g3_4 g3_5 g3_6 g3_7 g3_8 g6_0 g6_1 g6_2 g6_3 g6_4 g6_5 g6_6 g6_7 g6_8 g8_0 g8_1 g8_2 g8_3 g8_4 g8_5 g8_6 g8_7 g8_8 g10_0 g10_1 g10_2 g10_3 g10_4 g10_5 g10_6 g10_7 g10_8
        obtain ⟨g3_0, g3_1, g3_2, g3_3, g3_4, g3_5, g3_6, g3_7, g3_8⟩ := Pu.bx HX3.out
        obtain ⟨g6_0, g6_1, g6_2, g6_3, g6_4, g6_5, g6_6, g6_7, g6_8⟩ := Pu.bx HX6.out
        obtain ⟨g8_0, g8_1, g8_2, g8_3, g8_4, g8_5, g8_6, g8_7, g8_8⟩ := Pu.bx HX8.out
        obtain ⟨g10_0, g10_1, g10_2, g10_3, g10_4, g10_5, g10_6, g10_7, g10_8⟩ := Pu.bx HX10.out
        go_wp2_with fail
        go_ret
        go_light
        exact ⟨rfl, HG.out⟩

set_option maxRecDepth 100000 in
theorem lifted (os : Os) (started : os.Started) (H : Type) (enc : TypeId × Value → H) :
    ReturnsInHanded {} Try.checked os 9 .any (Rows.fnMatchingSpec.pre6 enc Try.prog Try.f9 Rows.fnMatchingRow.domain false) (Rows.fnMatchingSpec.post enc Try.prog Try.f9 false true false false) := by
  refine returnsInHanded_of_change (C := Try.checked) own started (by kernel_rfl) Try.func9
    (ChangeSpec.witness6 (enc := enc) (C := Try.checked) false ⟨#[], #[.slice none 0 0], []⟩ 8 (by kernel_rfl) (by kernel_rfl) (by kernel_rfl) (by kernel_rfl)) ?_
  intro W base args ds gs before hval0 hW hcnd _
  have hval : ∀ (j : Nat) t v, Try.f9.params[j]? = some t → args[j]? = some v → Value.okWide Try.prog W .any base t v := hval0
  have hW' := hW
  obtain ⟨p, q, hA0, hV, rfl, hfz, hnd⟩ := hW
  have hA : DataW.TrodAll enc Try.prog W 0 (fun _ => true) true Try.f9.params.toList args.toList ds p := hA0
  rw [Try.params9] at hA hval
  obtain ⟨v0, vs0, d0, ds0, p0, q0, hargs, rfl, rfl, h0, r0⟩ := trodAll_cons hA
  obtain ⟨rfl, rfl, rfl⟩ := trodAll_nil r0
  obtain rfl : args = #[v0] := by cases args; simp_all
  obtain ⟨code, A, cc, rfl, r_code, q1_code, q2_code⟩ := Byt.open_ (hval 0 39 v0 rfl rfl) h0
  refine (walk W code A cc r_code ⟨q1_code, q2_code⟩).mono fun e W' ⟨he, hg⟩ => ?_
  subst he
  exact ⟨_, rfl, law_step (tb := 4) laidOut (by rw [Try.params9]; exact pars_of (by kernel_rfl)) rfl hW' rfl rfl rfl (by kernel_rfl) Try.underlying4 hg⟩

theorem over : Rows.fnMatchingRow.holds Try.pinned (OpenSpec.ofChange Rows.fnMatchingSpec) :=
  OpenClaim.holds_of_wide 9 Try.f9 rfl rfl rfl rfl rfl rfl rfl ⟨rfl, rfl, rfl, rfl, rfl⟩ rfl rfl rfl rfl rfl (by kernel_rfl) Try.func9 (by kernel_rfl)
    (of_decide_eq_true (by kernel_rfl)) (by unfold Func.isWrapper; first | (rw [if_pos (by decide +kernel)]; kernel_rfl) | (rw [if_neg (by decide +kernel)]; exact ⟨rfl, rfl⟩))
    (fun os started H enc _ => lifted os started H enc)

theorem proved : Rows.FnMatchingSaid := over
end fnMatching
end Go.Proofs.Ytjihfklhfldplaa
