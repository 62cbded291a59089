/- Orders of tasks: the lateness, the late and the waiting of the reference return what a plain function returns. Conditions: none. -/
import Derived.Test.YteckhmbkagigjaaEndsF
namespace Go.Proofs.Yteckhmbkagigjaa
open Go.RowKit Go.ChangeShapes Go.WideShapes Go.Deep
set_option linter.unusedVariables false
set_option linter.unusedSimpArgs false

set_option maxHeartbeats 1000000 in
theorem latenessIn_spec (l : List Tsk) (A : Option Addr) (c : Nat) (o : List IntS) (B : Option Addr) (d : Nat) (w : World) (h : Rd Tsk.E w A l) (hn : l.length ≤ 4194304) (h' : Rd IntS.E w B o) (hm : o.length ≤ 4194304) :
    Calls Try.prog 23 #[.slice A l.length c, .slice B o.length d] w fun e w' => e = .returned (.tuple #[.int .i64 (sumF max (-100000) gLns l o).1, .bool (sumF max (-100000) gLns l o).2]) ∧ Grew w w' := by
  cases hok : okO l o
  · have HF := Lib.hid (show sumF max (-100000) gLns l o = (0, false) by simp [sumF, hok])
    cases ha : areT l
    · go_enter Try.func23, Try.ntmps23
      go_wp2_with fail
      refine (areTasks_spec l _ _ _ h hn).mono ?_; rintro e w1 ⟨rfl, h1⟩
      go_wp2_with fail
      go_ret2
      go_light
      exact ⟨by rw [HF.out]; rfl, h1⟩
    · have hb : ordB o l.length = false := by simpa [okO, ha] using hok
      go_enter Try.func23, Try.ntmps23
      go_wp2_with fail
      refine (areTasks_spec l _ _ _ h hn).mono ?_; rintro e w1 ⟨rfl, h1⟩
      go_wp2_with fail
      refine (isOrder_spec o _ _ _ _ (h'.grew h1) hm).mono ?_; rintro e w2 ⟨rfl, h2⟩
      go_wp2_with fail
      go_ret2
      go_light
      exact ⟨by rw [HF.out]; rfl, h1.trans h2⟩
  have HF := Lib.hid (show sumF max (-100000) gLns l o = (goT max (-100000) (fun i => gLns (tm l o (i + 1)) (tk l (o.getD i 0))) o.length, true) by rw [ord_sum max_op (-100000) gLns hok]; simp [sumF, hok])
  have HOK := Lib.hid hok
  obtain ⟨hol0, hl8, -, -⟩ := okO_at hok
  have HOL := Lib.hid hol0
  clear hol0
  have ha : areT l = true := by simp only [okO, Bool.and_eq_true] at hok; exact hok.1
  have hb : ordB o l.length = true := by simp only [okO, Bool.and_eq_true] at hok; exact hok.2
  clear hok
  go_enter Try.func23, Try.ntmps23
  go_wp2_with fail
  refine (areTasks_spec l _ _ _ h hn).mono ?_; rintro e w1 ⟨rfl, h1⟩
  go_wp2_with fail
  refine (isOrder_spec o _ _ _ _ (h'.grew h1) hm).mono ?_; rintro e w2 ⟨rfl, h2⟩
  go_wp2_with fail
  have H := Lib.hid (h.grew (h1.trans h2))
  have H' := Lib.hid (h'.grew (h1.trans h2))
  have H12 := Lib.hid (h1.trans h2)
  clear h h' h1 h2
  go_loopw [6, 7, 8] (fun t u i wr => ∃ k : Nat, k ≤ o.length ∧ i = .int .i64 k ∧ u = .int .i64 (tm l o k) ∧ t = .int .i64 (goT max (-100000) (fun i => gLns (tm l o (i + 1)) (tk l (o.getD i 0))) k) ∧ Grew w2 wr) (fun _ _ i _ => o.length - (intOf i).toNat)
  case atStart => exact ⟨0, Nat.zero_le _, rfl, rfl, rfl, Grew.refl _⟩
  case round =>
    obtain ⟨k, hk, rfl, rfl, rfl, hg⟩ := hrel
    have HG := Lib.hid hg
    by_cases hlt : k < o.length
    · obtain ⟨x, hx⟩ : ∃ x, o[k]? = some x := ⟨_, List.getElem?_eq_getElem hlt⟩
      obtain ⟨b, p, rfl, hb0, hc⟩ := (H'.out.grew hg).at_ hlt
      have hc0 := IntS.at_ hc hx
      have hol := HOL.out
      have hgd : o.getD k 0 = x := by simp [List.getD_eq_getElem?_getD, hx]
      obtain ⟨hx0, hx1, hx2⟩ := okO_in HOK.out hlt
      rw [hgd] at hx0 hx1 hx2
      obtain ⟨m, rfl⟩ := Int.eq_ofNat_of_zero_le hx0
      have hml : m < l.length := by omega
      obtain ⟨y, hy⟩ : ∃ y, l[m]? = some y := ⟨_, List.getElem?_eq_getElem hml⟩
      obtain ⟨b', p', rfl, hb1, hd⟩ := (H.out.grew hg).at_ hml
      obtain ⟨hd0, hd1, hd2⟩ := Tsk.at_ hd hy
      have hyd : l.getD m tsk0 = y := by simp [List.getD_eq_getElem?_getD, hy]
      have hyb := tsk_at HOK.out hml
      rw [hyd] at hyb
      have hyk : tk l (o.getD k 0) = y := by simp only [tk, hgd]; rw [Int.toNat_natCast, hyd]
      have HT := Lib.hid (show tm l o (k + 1) = tm l o k + y.m by simp only [tm, hyk])
      have htb := tm_bound HOK.out k hk
      have hvb := max_bound (fun i => gLns (tm l o (i + 1)) (tk l (o.getD i 0))) k (fun i hi => by
        have h1 := tm_bound HOK.out (i + 1) (by omega)
        have h2 := tsk_at HOK.out (okO_in HOK.out (i := i) (by omega)).2.2
        simp only [gLns, gLt, gWt, tk]
        first | omega | (split <;> omega) | exact mul_bnd h1.1 (by omega) (by omega) (by omega))
      have htb1 := htb.1
      have htb2 : tm l o k ≤ 7000 := by omega
      have hvb1 := hvb.1
      have hvb2 : goT max (-100000) (fun i => gLns (tm l o (i + 1)) (tk l (o.getD i 0))) k ≤ 8000000 := by have := hvb.2; omega
      have HV := Lib.hid (show goT max (-100000) (fun i => gLns (tm l o (i + 1)) (tk l (o.getD i 0))) (k + 1) = max (goT max (-100000) (fun i => gLns (tm l o (i + 1)) (tk l (o.getD i 0))) k) (gLns (tm l o k + y.m) y) by simp only [goT]; rw [HT.out, hyk])
      clear htb hvb hx hy hc hd hg hgd hyd hyk hol
      generalize goT max (-100000) (fun i => gLns (tm l o (i + 1)) (tk l (o.getD i 0))) k = tv at *
      generalize tm l o k = tt at *
      have HV2 := Lib.hid (show max tv (gLns (tt + y.m) y) = max tv (tt + y.m - y.d) from rfl)
      have hi1 : (0 : Int) ≤ (k : Int) := by omega
      have hi2 : (k : Int) < (o.length : Int) := by omega
      have hi3 : (m : Int) < (l.length : Int) := by omega
      skip
      skip
      all_goals
        go_wp2_with fail
        go_roundw
        case rel =>
          go_light
          refine ⟨k + 1, by omega, by go_num, by rw [HT.out], ?_, HG.out⟩
          rw [HV.out, HV2.out]
          all_goals first | rfl | (congr 1 <;> first | omega | (split <;> omega) | skip)
        case measure => go_light; simp [intOf]; omega
    · obtain rfl : k = o.length := by omega
      go_wp2_with fail
      go_ret2
      go_light
      exact ⟨by rw [HF.out]; try rfl, H12.out.trans HG.out⟩
set_option maxHeartbeats 1000000 in
theorem lateIn_spec (l : List Tsk) (A : Option Addr) (c : Nat) (o : List IntS) (B : Option Addr) (d : Nat) (w : World) (h : Rd Tsk.E w A l) (hn : l.length ≤ 4194304) (h' : Rd IntS.E w B o) (hm : o.length ≤ 4194304) :
    Calls Try.prog 25 #[.slice A l.length c, .slice B o.length d] w fun e w' => e = .returned (.tuple #[.int .i64 (sumF (· + ·) 0 gLt l o).1, .bool (sumF (· + ·) 0 gLt l o).2]) ∧ Grew w w' := by
  cases hok : okO l o
  · have HF := Lib.hid (show sumF (· + ·) 0 gLt l o = (0, false) by simp [sumF, hok])
    cases ha : areT l
    · go_enter Try.func25, Try.ntmps25
      go_wp2_with fail
      refine (areTasks_spec l _ _ _ h hn).mono ?_; rintro e w1 ⟨rfl, h1⟩
      go_wp2_with fail
      go_ret2
      go_light
      exact ⟨by rw [HF.out]; rfl, h1⟩
    · have hb : ordB o l.length = false := by simpa [okO, ha] using hok
      go_enter Try.func25, Try.ntmps25
      go_wp2_with fail
      refine (areTasks_spec l _ _ _ h hn).mono ?_; rintro e w1 ⟨rfl, h1⟩
      go_wp2_with fail
      refine (isOrder_spec o _ _ _ _ (h'.grew h1) hm).mono ?_; rintro e w2 ⟨rfl, h2⟩
      go_wp2_with fail
      go_ret2
      go_light
      exact ⟨by rw [HF.out]; rfl, h1.trans h2⟩
  have HF := Lib.hid (show sumF (· + ·) 0 gLt l o = (goT (· + ·) 0 (fun i => gLt (tm l o (i + 1)) (tk l (o.getD i 0))) o.length, true) by rw [ord_sum add_op 0 gLt hok]; simp [sumF, hok])
  have HOK := Lib.hid hok
  obtain ⟨hol0, hl8, -, -⟩ := okO_at hok
  have HOL := Lib.hid hol0
  clear hol0
  have ha : areT l = true := by simp only [okO, Bool.and_eq_true] at hok; exact hok.1
  have hb : ordB o l.length = true := by simp only [okO, Bool.and_eq_true] at hok; exact hok.2
  clear hok
  go_enter Try.func25, Try.ntmps25
  go_wp2_with fail
  refine (areTasks_spec l _ _ _ h hn).mono ?_; rintro e w1 ⟨rfl, h1⟩
  go_wp2_with fail
  refine (isOrder_spec o _ _ _ _ (h'.grew h1) hm).mono ?_; rintro e w2 ⟨rfl, h2⟩
  go_wp2_with fail
  have H := Lib.hid (h.grew (h1.trans h2))
  have H' := Lib.hid (h'.grew (h1.trans h2))
  have H12 := Lib.hid (h1.trans h2)
  clear h h' h1 h2
  go_loopw [6, 7, 8] (fun t u i wr => ∃ k : Nat, k ≤ o.length ∧ i = .int .i64 k ∧ u = .int .i64 (tm l o k) ∧ t = .int .i64 (goT (· + ·) 0 (fun i => gLt (tm l o (i + 1)) (tk l (o.getD i 0))) k) ∧ Grew w2 wr) (fun _ _ i _ => o.length - (intOf i).toNat)
  case atStart => exact ⟨0, Nat.zero_le _, rfl, rfl, rfl, Grew.refl _⟩
  case round =>
    obtain ⟨k, hk, rfl, rfl, rfl, hg⟩ := hrel
    have HG := Lib.hid hg
    by_cases hlt : k < o.length
    · obtain ⟨x, hx⟩ : ∃ x, o[k]? = some x := ⟨_, List.getElem?_eq_getElem hlt⟩
      obtain ⟨b, p, rfl, hb0, hc⟩ := (H'.out.grew hg).at_ hlt
      have hc0 := IntS.at_ hc hx
      have hol := HOL.out
      have hgd : o.getD k 0 = x := by simp [List.getD_eq_getElem?_getD, hx]
      obtain ⟨hx0, hx1, hx2⟩ := okO_in HOK.out hlt
      rw [hgd] at hx0 hx1 hx2
      obtain ⟨m, rfl⟩ := Int.eq_ofNat_of_zero_le hx0
      have hml : m < l.length := by omega
      obtain ⟨y, hy⟩ : ∃ y, l[m]? = some y := ⟨_, List.getElem?_eq_getElem hml⟩
      obtain ⟨b', p', rfl, hb1, hd⟩ := (H.out.grew hg).at_ hml
      obtain ⟨hd0, hd1, hd2⟩ := Tsk.at_ hd hy
      have hyd : l.getD m tsk0 = y := by simp [List.getD_eq_getElem?_getD, hy]
      have hyb := tsk_at HOK.out hml
      rw [hyd] at hyb
      have hyk : tk l (o.getD k 0) = y := by simp only [tk, hgd]; rw [Int.toNat_natCast, hyd]
      have HT := Lib.hid (show tm l o (k + 1) = tm l o k + y.m by simp only [tm, hyk])
      have htb := tm_bound HOK.out k hk
      have hvb := add_bound (fun i => gLt (tm l o (i + 1)) (tk l (o.getD i 0))) k (fun i hi => by
        have h1 := tm_bound HOK.out (i + 1) (by omega)
        have h2 := tsk_at HOK.out (okO_in HOK.out (i := i) (by omega)).2.2
        simp only [gLns, gLt, gWt, tk]
        first | omega | (split <;> omega) | exact mul_bnd h1.1 (by omega) (by omega) (by omega))
      have htb1 := htb.1
      have htb2 : tm l o k ≤ 7000 := by omega
      have hvb1 := hvb.1
      have hvb2 : goT (· + ·) 0 (fun i => gLt (tm l o (i + 1)) (tk l (o.getD i 0))) k ≤ 8000000 := by have := hvb.2; omega
      have HV := Lib.hid (show goT (· + ·) 0 (fun i => gLt (tm l o (i + 1)) (tk l (o.getD i 0))) (k + 1) = (· + ·) (goT (· + ·) 0 (fun i => gLt (tm l o (i + 1)) (tk l (o.getD i 0))) k) (gLt (tm l o k + y.m) y) by simp only [goT]; rw [HT.out, hyk])
      clear htb hvb hx hy hc hd hg hgd hyd hyk hol
      generalize goT (· + ·) 0 (fun i => gLt (tm l o (i + 1)) (tk l (o.getD i 0))) k = tv at *
      generalize tm l o k = tt at *
      have HV2 := Lib.hid (show (· + ·) tv (gLt (tt + y.m) y) = tv + (if y.d < tt + y.m then 1 else 0) from rfl)
      have hi1 : (0 : Int) ≤ (k : Int) := by omega
      have hi2 : (k : Int) < (o.length : Int) := by omega
      have hi3 : (m : Int) < (l.length : Int) := by omega
      skip
      cases hdx : decide (y.d < tt + y.m)
      all_goals
        go_wp2_with fail
        go_roundw
        case rel =>
          go_light
          refine ⟨k + 1, by omega, by go_num, by rw [HT.out], ?_, HG.out⟩
          rw [HV.out, HV2.out]
          all_goals first | rfl | (congr 1 <;> first | omega | (split <;> omega) | (have := of_decide_eq_false hdx; rw [if_neg this]; omega) | (have := of_decide_eq_true hdx; rw [if_pos this]))
        case measure => go_light; simp [intOf]; omega
    · obtain rfl : k = o.length := by omega
      go_wp2_with fail
      go_ret2
      go_light
      exact ⟨by rw [HF.out]; try rfl, H12.out.trans HG.out⟩
set_option maxHeartbeats 1000000 in
theorem waitIn_spec (l : List Tsk) (A : Option Addr) (c : Nat) (o : List IntS) (B : Option Addr) (d : Nat) (w : World) (h : Rd Tsk.E w A l) (hn : l.length ≤ 4194304) (h' : Rd IntS.E w B o) (hm : o.length ≤ 4194304) :
    Calls Try.prog 21 #[.slice A l.length c, .slice B o.length d] w fun e w' => e = .returned (.tuple #[.int .i64 (sumF (· + ·) 0 gWt l o).1, .bool (sumF (· + ·) 0 gWt l o).2]) ∧ Grew w w' := by
  cases hok : okO l o
  · have HF := Lib.hid (show sumF (· + ·) 0 gWt l o = (0, false) by simp [sumF, hok])
    cases ha : areT l
    · go_enter Try.func21, Try.ntmps21
      go_wp2_with fail
      refine (areTasks_spec l _ _ _ h hn).mono ?_; rintro e w1 ⟨rfl, h1⟩
      go_wp2_with fail
      go_ret2
      go_light
      exact ⟨by rw [HF.out]; rfl, h1⟩
    · have hb : ordB o l.length = false := by simpa [okO, ha] using hok
      go_enter Try.func21, Try.ntmps21
      go_wp2_with fail
      refine (areTasks_spec l _ _ _ h hn).mono ?_; rintro e w1 ⟨rfl, h1⟩
      go_wp2_with fail
      refine (isOrder_spec o _ _ _ _ (h'.grew h1) hm).mono ?_; rintro e w2 ⟨rfl, h2⟩
      go_wp2_with fail
      go_ret2
      go_light
      exact ⟨by rw [HF.out]; rfl, h1.trans h2⟩
  have HF := Lib.hid (show sumF (· + ·) 0 gWt l o = (goT (· + ·) 0 (fun i => gWt (tm l o (i + 1)) (tk l (o.getD i 0))) o.length, true) by rw [ord_sum add_op 0 gWt hok]; simp [sumF, hok])
  have HOK := Lib.hid hok
  obtain ⟨hol0, hl8, -, -⟩ := okO_at hok
  have HOL := Lib.hid hol0
  clear hol0
  have ha : areT l = true := by simp only [okO, Bool.and_eq_true] at hok; exact hok.1
  have hb : ordB o l.length = true := by simp only [okO, Bool.and_eq_true] at hok; exact hok.2
  clear hok
  go_enter Try.func21, Try.ntmps21
  go_wp2_with fail
  refine (areTasks_spec l _ _ _ h hn).mono ?_; rintro e w1 ⟨rfl, h1⟩
  go_wp2_with fail
  refine (isOrder_spec o _ _ _ _ (h'.grew h1) hm).mono ?_; rintro e w2 ⟨rfl, h2⟩
  go_wp2_with fail
  have H := Lib.hid (h.grew (h1.trans h2))
  have H' := Lib.hid (h'.grew (h1.trans h2))
  have H12 := Lib.hid (h1.trans h2)
  clear h h' h1 h2
  go_loopw [6, 7, 8] (fun t u i wr => ∃ k : Nat, k ≤ o.length ∧ i = .int .i64 k ∧ u = .int .i64 (tm l o k) ∧ t = .int .i64 (goT (· + ·) 0 (fun i => gWt (tm l o (i + 1)) (tk l (o.getD i 0))) k) ∧ Grew w2 wr) (fun _ _ i _ => o.length - (intOf i).toNat)
  case atStart => exact ⟨0, Nat.zero_le _, rfl, rfl, rfl, Grew.refl _⟩
  case round =>
    obtain ⟨k, hk, rfl, rfl, rfl, hg⟩ := hrel
    have HG := Lib.hid hg
    by_cases hlt : k < o.length
    · obtain ⟨x, hx⟩ : ∃ x, o[k]? = some x := ⟨_, List.getElem?_eq_getElem hlt⟩
      obtain ⟨b, p, rfl, hb0, hc⟩ := (H'.out.grew hg).at_ hlt
      have hc0 := IntS.at_ hc hx
      have hol := HOL.out
      have hgd : o.getD k 0 = x := by simp [List.getD_eq_getElem?_getD, hx]
      obtain ⟨hx0, hx1, hx2⟩ := okO_in HOK.out hlt
      rw [hgd] at hx0 hx1 hx2
      obtain ⟨m, rfl⟩ := Int.eq_ofNat_of_zero_le hx0
      have hml : m < l.length := by omega
      obtain ⟨y, hy⟩ : ∃ y, l[m]? = some y := ⟨_, List.getElem?_eq_getElem hml⟩
      obtain ⟨b', p', rfl, hb1, hd⟩ := (H.out.grew hg).at_ hml
      obtain ⟨hd0, hd1, hd2⟩ := Tsk.at_ hd hy
      have hyd : l.getD m tsk0 = y := by simp [List.getD_eq_getElem?_getD, hy]
      have hyb := tsk_at HOK.out hml
      rw [hyd] at hyb
      have hyk : tk l (o.getD k 0) = y := by simp only [tk, hgd]; rw [Int.toNat_natCast, hyd]
      have HT := Lib.hid (show tm l o (k + 1) = tm l o k + y.m by simp only [tm, hyk])
      have htb := tm_bound HOK.out k hk
      have hvb := add_bound (fun i => gWt (tm l o (i + 1)) (tk l (o.getD i 0))) k (fun i hi => by
        have h1 := tm_bound HOK.out (i + 1) (by omega)
        have h2 := tsk_at HOK.out (okO_in HOK.out (i := i) (by omega)).2.2
        simp only [gLns, gLt, gWt, tk]
        first | omega | (split <;> omega) | exact mul_bnd h1.1 (by omega) (by omega) (by omega))
      have htb1 := htb.1
      have htb2 : tm l o k ≤ 7000 := by omega
      have hvb1 := hvb.1
      have hvb2 : goT (· + ·) 0 (fun i => gWt (tm l o (i + 1)) (tk l (o.getD i 0))) k ≤ 8000000 := by have := hvb.2; omega
      have HV := Lib.hid (show goT (· + ·) 0 (fun i => gWt (tm l o (i + 1)) (tk l (o.getD i 0))) (k + 1) = (· + ·) (goT (· + ·) 0 (fun i => gWt (tm l o (i + 1)) (tk l (o.getD i 0))) k) (gWt (tm l o k + y.m) y) by simp only [goT]; rw [HT.out, hyk])
      clear htb hvb hx hy hc hd hg hgd hyd hyk hol
      generalize goT (· + ·) 0 (fun i => gWt (tm l o (i + 1)) (tk l (o.getD i 0))) k = tv at *
      generalize tm l o k = tt at *
      have HV2 := Lib.hid (show (· + ·) tv (gWt (tt + y.m) y) = tv + (tt + y.m) * y.wt from rfl)
      have hi1 : (0 : Int) ≤ (k : Int) := by omega
      have hi2 : (k : Int) < (o.length : Int) := by omega
      have hi3 : (m : Int) < (l.length : Int) := by omega
      (have hmb := mul_bnd (a := tt + y.m) (by omega) (by omega) (show 0 ≤ y.wt by omega) (show y.wt ≤ 100 by omega)); have hmb1 := hmb.1; have hmb2 := hmb.2
      skip
      all_goals
        go_wp2_with fail
        go_roundw
        case rel =>
          go_light
          refine ⟨k + 1, by omega, by go_num, by rw [HT.out], ?_, HG.out⟩
          rw [HV.out, HV2.out]
          all_goals first | rfl | (congr 1 <;> first | omega | (split <;> omega) | skip)
        case measure => go_light; simp [intOf]; omega
    · obtain rfl : k = o.length := by omega
      go_wp2_with fail
      go_ret2
      go_light
      exact ⟨by rw [HF.out]; try rfl, H12.out.trans HG.out⟩
end Go.Proofs.Yteckhmbkagigjaa
