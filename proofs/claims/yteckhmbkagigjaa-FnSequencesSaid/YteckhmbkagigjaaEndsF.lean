/- Orders of tasks: the lateness, the late and the waiting of the program and of the reference return what a plain function returns. Conditions: none. -/
import Derived.Test.YteckhmbkagigjaaEnds
namespace Go.Proofs.Yteckhmbkagigjaa
open Go.RowKit Go.ChangeShapes Go.WideShapes Go.Deep
set_option linter.unusedVariables false
set_option linter.unusedSimpArgs false

theorem ord_sum {op : Int → Int → Int} (hop : ∀ a b c, op (op a b) c = op (op a c) b) (z : Int) (g : Int → Tsk → Int) {l : List Tsk} {o : List Int} (h : okO l o = true) :
    goT op z (fun i => g (tm l o (i + 1)) (tk l (o.getD i 0))) o.length = goT op z (fun k => g ((eL l o o.length).getD k 0) (l.getD k tsk0)) l.length := by
  rw [← goT_perm hop z (fun k => g ((eL l o o.length).getD k 0) (l.getD k tsk0)) (okO_at h).1 (okO_at h).2.2.2]
  refine goT_congr _ (fun i hi => ?_)
  show g (tm l o (i + 1)) _ = g _ _
  rw [eL_at h o.length (Nat.le_refl _) hi]
  rfl
def gLns (e : Int) (t : Tsk) : Int := e - t.d
def gLt (e : Int) (t : Tsk) : Int := if t.d < e then 1 else 0
def gWt (e : Int) (t : Tsk) : Int := e * t.wt
def sumF (op : Int → Int → Int) (z : Int) (g : Int → Tsk → Int) (l : List Tsk) (o : List Int) : Int × Bool :=
  if okO l o then (goT op z (fun k => g ((eL l o o.length).getD k 0) (l.getD k tsk0)) l.length, true) else (0, false)
theorem add_op (a b c : Int) : (a + b) + c = (a + c) + b := by omega
theorem max_op (a b c : Int) : max (max a b) c = max (max a c) b := by omega
theorem gLt_bound (f : Nat → Int) (hf : ∀ i, 0 ≤ f i ∧ f i ≤ 800000) : ∀ k, 0 ≤ goT (· + ·) 0 f k ∧ goT (· + ·) 0 f k ≤ 800000 * k
  | 0 => by simp [goT]
  | k + 1 => by
    have := gLt_bound f hf k
    have := hf k
    simp only [goT]
    omega
theorem max_bound (f : Nat → Int) : ∀ k, (∀ i, i < k → -100000 ≤ f i ∧ f i ≤ 8000) → -100000 ≤ goT max (-100000) f k ∧ goT max (-100000) f k ≤ 8000
  | 0, _ => by simp [goT]
  | k + 1, hf => by
    have := max_bound f k (fun i hi => hf i (by omega))
    have := hf k (by omega)
    simp only [goT]
    omega
theorem add_bound (f : Nat → Int) : ∀ k, (∀ i, i < k → 0 ≤ f i ∧ f i ≤ 800000) → 0 ≤ goT (· + ·) 0 f k ∧ goT (· + ·) 0 f k ≤ 800000 * k
  | 0, _ => by simp [goT]
  | k + 1, hf => by
    have := add_bound f k (fun i hi => hf i (by omega))
    have := hf k (by omega)
    simp only [goT]
    omega

set_option maxHeartbeats 1000000 in
theorem latenessIn_impl (l : List Tsk) (A : Option Addr) (c : Nat) (o : List IntS) (B : Option Addr) (d : Nat) (w : World) (h : Rd Tsk.E w A l) (hn : l.length ≤ 4194304) (h' : Rd IntS.E w B o) (hm : o.length ≤ 4194304) :
    Calls Try.prog 24 #[.slice A l.length c, .slice B o.length d] w fun e w' => e = .returned (.tuple #[.int .i64 (sumF max (-100000) gLns l o).1, .bool (sumF max (-100000) gLns l o).2]) ∧ Grew w w' := by
  cases hok : okO l o
  · have HF := Lib.hid (show sumF max (-100000) gLns l o = (0, false) by simp [sumF, hok])
    go_enter Try.func24, Try.ntmps24
    go_wp2_with fail
    refine (ends_impl l _ _ o _ _ _ h hn h' hm).mono ?_; rintro e w1 ⟨C, c', rfl, h1, hg1⟩
    rw [hok]
    go_wp2_with fail
    go_ret2
    go_light
    exact ⟨by rw [HF.out]; rfl, hg1⟩
  have HF := Lib.hid (show sumF max (-100000) gLns l o = (goT max (-100000) (fun k => gLns ((eL l o o.length).getD k 0) (l.getD k tsk0)) l.length, true) by simp [sumF, hok])
  have HE := Lib.hid (show endsF l o = eL l o o.length by simp [endsF, hok])
  have HOK := Lib.hid hok
  have H := Lib.hid h
  go_enter Try.func24, Try.ntmps24
  go_wp2_with fail
  refine (ends_impl l _ _ o _ _ _ h hn h' hm).mono ?_; rintro e w1 ⟨C, c', rfl, h1, hg1⟩
  rw [hok]
  rw [HE.out] at h1 ⊢
  have H1 := Lib.hid h1
  have HG1 := Lib.hid hg1
  clear h h' h1 hok
  go_wp2_with fail
  go_loopw [8, 21] (fun t i wr => ∃ k : Nat, k ≤ l.length ∧ i = .int .i64 k ∧ t = .int .i64 (goT max (-100000) (fun k => gLns ((eL l o o.length).getD k 0) (l.getD k tsk0)) k) ∧ Grew w1 wr) (fun _ i _ => l.length - (intOf i).toNat)
  case atStart => exact ⟨0, Nat.zero_le _, rfl, rfl, Grew.refl _⟩
  case round =>
    obtain ⟨k, hk, rfl, rfl, hg⟩ := hrel
    have HG := Lib.hid hg
    by_cases hlt : k < l.length
    · obtain ⟨y, hy⟩ : ∃ y, l[k]? = some y := ⟨_, List.getElem?_eq_getElem hlt⟩
      obtain ⟨b', p', rfl, hb1, hd⟩ := (H.out.grew (hg1.trans hg)).at_ hlt
      obtain ⟨hd0, hd1, hd2⟩ := Tsk.at_ hd hy
      have hyd : l.getD k tsk0 = y := by simp [List.getD_eq_getElem?_getD, hy]
      have hyb := tsk_at HOK.out hlt
      rw [hyd] at hyb
      have hlt2 : k < (eL l o o.length).length := by rw [eL_length]; exact hlt
      obtain ⟨x, hx⟩ : ∃ x, (eL l o o.length)[k]? = some x := ⟨_, List.getElem?_eq_getElem hlt2⟩
      obtain ⟨b, p, rfl, hb0, hc⟩ := (H1.out.grew hg).at_ hlt2
      have hc0 := IntS.at_ hc hx
      have hxd : (eL l o o.length).getD k 0 = x := by simp [List.getD_eq_getElem?_getD, hx]
      have hxb := eL_bound HOK.out o.length (Nat.le_refl _) k
      rw [hxd] at hxb
      have htb := max_bound (fun k => gLns ((eL l o o.length).getD k 0) (l.getD k tsk0)) k (fun i hi => by
        have h1 := eL_bound HOK.out o.length (Nat.le_refl _) i
        have h2 := tsk_at HOK.out (i := i) (by omega)
        simp only [gLns]; omega)
      have HT := Lib.hid (show goT max (-100000) (fun k => gLns ((eL l o o.length).getD k 0) (l.getD k tsk0)) (k + 1) = max (goT max (-100000) (fun k => gLns ((eL l o o.length).getD k 0) (l.getD k tsk0)) k) (x - y.d) by simp only [goT, gLns, hxd, hyd])
      have hi1 : (0 : Int) ≤ (k : Int) := by omega
      have hi2 : (k : Int) < (l.length : Int) := by omega
      clear hx hy hc hd hg hg1 hxd hyd
      generalize goT max (-100000) (fun k => gLns ((eL l o o.length).getD k 0) (l.getD k tsk0)) k = tk at *
      go_wp2_with fail
      (refine wp_region_grow_lit (by kernel_rfl) (by kernel_rfl) ?_; repeat (any_goals (first | go_big_quiet_step ((fail)) | quiet_step ((fail)) | (refine wpQuiet_step (fun K hK => ?_); go_simp; split <;> rename_i hsp <;> (refine hK _ ?_; clear hK K) <;> (try first | simp only [hsp, decide_true, decide_false, Bool.not_true, Bool.not_false] | simp only [Int.not_le.2 hsp, decide_false, Bool.not_false] | simp only [Int.not_lt.2 hsp, decide_false, Bool.not_false] | simp only [Nat.not_le.2 hsp, decide_false, Bool.not_false] | simp only [Nat.not_lt.2 hsp, decide_false, Bool.not_false])))))
      all_goals (refine wpQuiet_nil ?_; intro w1 h1)
      go_wp2_with fail
      go_roundw
      case rel =>
        go_light
        refine ⟨k + 1, by omega, by go_num, ?_, HG.out.trans (((Grew.refl _).alloc _).trans h1)⟩
        rw [HT.out]
        congr 1
        split <;> omega
      case measure => go_light; simp [intOf]; omega
    · obtain rfl : k = l.length := by omega
      go_wp2_with fail
      go_ret2
      go_light
      exact ⟨by rw [HF.out]; try rfl, HG1.out.trans HG.out⟩

theorem sumF_ends (op : Int → Int → Int) (g : Int → Tsk → Int) (l : List Tsk) (o : List Int) :
    sumF op 0 g l o = (goT op 0 (fun k => g ((endsF l o).getD k 0) (l.getD k tsk0)) (endsF l o).length, okO l o) := by
  cases h : okO l o <;> simp [sumF, endsF, h, goT]
theorem mul_bnd {a b : Int} (h1 : 0 ≤ a) (h2 : a ≤ 8000) (h3 : 0 ≤ b) (h4 : b ≤ 100) : 0 ≤ a * b ∧ a * b ≤ 800000 :=
  ⟨Int.mul_nonneg h1 h3, by have := Int.mul_le_mul (a := a) (b := b) (c := 8000) (d := 100) (by omega) (by omega) (by omega) (by omega); omega⟩

set_option maxHeartbeats 1000000 in
theorem lateIn_impl (l : List Tsk) (A : Option Addr) (c : Nat) (o : List IntS) (B : Option Addr) (d : Nat) (w : World) (h : Rd Tsk.E w A l) (hn : l.length ≤ 4194304) (h' : Rd IntS.E w B o) (hm : o.length ≤ 4194304) :
    Calls Try.prog 26 #[.slice A l.length c, .slice B o.length d] w fun e w' => e = .returned (.tuple #[.int .i64 (sumF (· + ·) 0 gLt l o).1, .bool (sumF (· + ·) 0 gLt l o).2]) ∧ Grew w w' := by
  have HF := Lib.hid (sumF_ends (· + ·) gLt l o)
  have HEN := Lib.hid (show ∀ k, k < (endsF l o).length → okO l o = true ∧ (endsF l o) = eL l o o.length by
    intro k hk
    cases hok : okO l o
    · simp [endsF, hok] at hk
    · exact ⟨rfl, by simp [endsF, hok]⟩)
  have H := Lib.hid h
  go_enter Try.func26, Try.ntmps26
  go_wp2_with fail
  refine (ends_impl l _ _ o _ _ _ h hn h' hm).mono ?_; rintro e w1 ⟨C, c', rfl, h1, hg1⟩
  have H1 := Lib.hid h1
  have HG1 := Lib.hid hg1
  clear h h' h1
  go_wp2_with fail
  go_loopw [8, 18] (fun t i wr => ∃ k : Nat, k ≤ (endsF l o).length ∧ i = .int .i64 k ∧ t = .int .i64 (goT (· + ·) 0 (fun k => gLt ((endsF l o).getD k 0) (l.getD k tsk0)) k) ∧ Grew w1 wr) (fun _ i _ => (endsF l o).length - (intOf i).toNat)
  case atStart => exact ⟨0, Nat.zero_le _, rfl, rfl, Grew.refl _⟩
  case round =>
    obtain ⟨k, hk, rfl, rfl, hg⟩ := hrel
    have HG := Lib.hid hg
    by_cases hlt : k < (endsF l o).length
    · obtain ⟨hok, hel⟩ := HEN.out k hlt
      have hll : k < l.length := by rw [hel, eL_length] at hlt; exact hlt
      obtain ⟨y, hy⟩ : ∃ y, l[k]? = some y := ⟨_, List.getElem?_eq_getElem hll⟩
      obtain ⟨b', p', rfl, hb1, hd⟩ := (H.out.grew (hg1.trans hg)).at_ hll
      obtain ⟨hd0, hd1, hd2⟩ := Tsk.at_ hd hy
      have hyd : l.getD k tsk0 = y := by simp [List.getD_eq_getElem?_getD, hy]
      have hyb := tsk_at hok hll
      rw [hyd] at hyb
      obtain ⟨x, hx⟩ : ∃ x, (endsF l o)[k]? = some x := ⟨_, List.getElem?_eq_getElem hlt⟩
      obtain ⟨b, p, rfl, hb0, hc⟩ := (H1.out.grew hg).at_ hlt
      have hc0 := IntS.at_ hc hx
      have hxd : (endsF l o).getD k 0 = x := by simp [List.getD_eq_getElem?_getD, hx]
      have hxb := eL_bound hok o.length (Nat.le_refl _) k
      rw [← hel, hxd] at hxb
      have h8 := (okO_at hok).2.1
      have htb := add_bound (fun k => gLt ((endsF l o).getD k 0) (l.getD k tsk0)) k (fun i hi => by
        have h1 := eL_bound hok o.length (Nat.le_refl _) i
        have h2 := tsk_at hok (i := i) (by omega)
        rw [← hel] at h1
        simp only [gLt, gWt]
        first | (split <;> omega) | exact mul_bnd h1.1 h1.2 (by omega) (by omega))
      have HT := Lib.hid (show goT (· + ·) 0 (fun k => gLt ((endsF l o).getD k 0) (l.getD k tsk0)) (k + 1) = goT (· + ·) 0 (fun k => gLt ((endsF l o).getD k 0) (l.getD k tsk0)) k + (if y.d < x then 1 else 0) by simp only [goT, gLt, gWt, hxd, hyd])
      have hi1 : (0 : Int) ≤ (k : Int) := by omega
      have hi2 : (k : Int) < ((endsF l o).length : Int) := by omega
      have hi3 : (k : Int) < (l.length : Int) := by omega
      skip
      clear hx hy hc hd hg hg1 hxd hyd hel hok
      generalize goT (· + ·) 0 (fun k => gLt ((endsF l o).getD k 0) (l.getD k tsk0)) k = tk at *
      cases hdx : decide (y.d < x)
      all_goals
        go_wp2_with fail
        (refine wp_region_grow_lit (by kernel_rfl) (by kernel_rfl) ?_; repeat (any_goals (first | go_big_quiet_step ((fail)) | quiet_step ((fail)) | (refine wpQuiet_step (fun K hK => ?_); go_simp; split <;> rename_i hsp <;> (refine hK _ ?_; clear hK K) <;> (try first | simp only [hsp, decide_true, decide_false, Bool.not_true, Bool.not_false] | simp only [Int.not_le.2 hsp, decide_false, Bool.not_false] | simp only [Int.not_lt.2 hsp, decide_false, Bool.not_false] | simp only [Nat.not_le.2 hsp, decide_false, Bool.not_false] | simp only [Nat.not_lt.2 hsp, decide_false, Bool.not_false])))))
        all_goals (refine wpQuiet_nil ?_; intro w1 h1)
        go_wp2_with fail
        go_roundw
        case rel =>
          go_light
          refine ⟨k + 1, by omega, by go_num, ?_, by first | exact HG.out | exact HG.out.trans h1⟩
          rw [HT.out]
          all_goals first | rfl | (congr 1 <;> first | omega | (have := of_decide_eq_false hdx; rw [if_neg this]; omega) | (have := of_decide_eq_true hdx; rw [if_pos this]))
        case measure => go_light; simp [intOf]; omega
    · obtain rfl : k = (endsF l o).length := by omega
      go_wp2_with fail
      go_ret2
      go_light
      exact ⟨by rw [HF.out]; try rfl, HG1.out.trans HG.out⟩
set_option maxHeartbeats 1000000 in
theorem waitIn_impl (l : List Tsk) (A : Option Addr) (c : Nat) (o : List IntS) (B : Option Addr) (d : Nat) (w : World) (h : Rd Tsk.E w A l) (hn : l.length ≤ 4194304) (h' : Rd IntS.E w B o) (hm : o.length ≤ 4194304) :
    Calls Try.prog 22 #[.slice A l.length c, .slice B o.length d] w fun e w' => e = .returned (.tuple #[.int .i64 (sumF (· + ·) 0 gWt l o).1, .bool (sumF (· + ·) 0 gWt l o).2]) ∧ Grew w w' := by
  have HF := Lib.hid (sumF_ends (· + ·) gWt l o)
  have HEN := Lib.hid (show ∀ k, k < (endsF l o).length → okO l o = true ∧ (endsF l o) = eL l o o.length by
    intro k hk
    cases hok : okO l o
    · simp [endsF, hok] at hk
    · exact ⟨rfl, by simp [endsF, hok]⟩)
  have H := Lib.hid h
  go_enter Try.func22, Try.ntmps22
  go_wp2_with fail
  refine (ends_impl l _ _ o _ _ _ h hn h' hm).mono ?_; rintro e w1 ⟨C, c', rfl, h1, hg1⟩
  have H1 := Lib.hid h1
  have HG1 := Lib.hid hg1
  clear h h' h1
  go_wp2_with fail
  go_loopw [8, 18] (fun t i wr => ∃ k : Nat, k ≤ (endsF l o).length ∧ i = .int .i64 k ∧ t = .int .i64 (goT (· + ·) 0 (fun k => gWt ((endsF l o).getD k 0) (l.getD k tsk0)) k) ∧ Grew w1 wr) (fun _ i _ => (endsF l o).length - (intOf i).toNat)
  case atStart => exact ⟨0, Nat.zero_le _, rfl, rfl, Grew.refl _⟩
  case round =>
    obtain ⟨k, hk, rfl, rfl, hg⟩ := hrel
    have HG := Lib.hid hg
    by_cases hlt : k < (endsF l o).length
    · obtain ⟨hok, hel⟩ := HEN.out k hlt
      have hll : k < l.length := by rw [hel, eL_length] at hlt; exact hlt
      obtain ⟨y, hy⟩ : ∃ y, l[k]? = some y := ⟨_, List.getElem?_eq_getElem hll⟩
      obtain ⟨b', p', rfl, hb1, hd⟩ := (H.out.grew (hg1.trans hg)).at_ hll
      obtain ⟨hd0, hd1, hd2⟩ := Tsk.at_ hd hy
      have hyd : l.getD k tsk0 = y := by simp [List.getD_eq_getElem?_getD, hy]
      have hyb := tsk_at hok hll
      rw [hyd] at hyb
      obtain ⟨x, hx⟩ : ∃ x, (endsF l o)[k]? = some x := ⟨_, List.getElem?_eq_getElem hlt⟩
      obtain ⟨b, p, rfl, hb0, hc⟩ := (H1.out.grew hg).at_ hlt
      have hc0 := IntS.at_ hc hx
      have hxd : (endsF l o).getD k 0 = x := by simp [List.getD_eq_getElem?_getD, hx]
      have hxb := eL_bound hok o.length (Nat.le_refl _) k
      rw [← hel, hxd] at hxb
      have h8 := (okO_at hok).2.1
      have htb := add_bound (fun k => gWt ((endsF l o).getD k 0) (l.getD k tsk0)) k (fun i hi => by
        have h1 := eL_bound hok o.length (Nat.le_refl _) i
        have h2 := tsk_at hok (i := i) (by omega)
        rw [← hel] at h1
        simp only [gLt, gWt]
        first | (split <;> omega) | exact mul_bnd h1.1 h1.2 (by omega) (by omega))
      have HT := Lib.hid (show goT (· + ·) 0 (fun k => gWt ((endsF l o).getD k 0) (l.getD k tsk0)) (k + 1) = goT (· + ·) 0 (fun k => gWt ((endsF l o).getD k 0) (l.getD k tsk0)) k + x * y.wt by simp only [goT, gLt, gWt, hxd, hyd])
      have hi1 : (0 : Int) ≤ (k : Int) := by omega
      have hi2 : (k : Int) < ((endsF l o).length : Int) := by omega
      have hi3 : (k : Int) < (l.length : Int) := by omega
      have hmb := mul_bnd hxb.1 hxb.2 (b := y.wt) (by omega) (by omega)
      clear hx hy hc hd hg hg1 hxd hyd hel hok
      generalize goT (· + ·) 0 (fun k => gWt ((endsF l o).getD k 0) (l.getD k tsk0)) k = tk at *
      skip
      all_goals
        go_wp2_with fail
        (refine wp_region_grow_lit (by kernel_rfl) (by kernel_rfl) ?_; repeat (any_goals (first | go_big_quiet_step ((fail)) | quiet_step ((fail)) | (refine wpQuiet_step (fun K hK => ?_); go_simp; split <;> rename_i hsp <;> (refine hK _ ?_; clear hK K) <;> (try first | simp only [hsp, decide_true, decide_false, Bool.not_true, Bool.not_false] | simp only [Int.not_le.2 hsp, decide_false, Bool.not_false] | simp only [Int.not_lt.2 hsp, decide_false, Bool.not_false] | simp only [Nat.not_le.2 hsp, decide_false, Bool.not_false] | simp only [Nat.not_lt.2 hsp, decide_false, Bool.not_false])))))
        all_goals (refine wpQuiet_nil ?_; intro w1 h1)
        go_wp2_with fail
        go_roundw
        case rel =>
          go_light
          refine ⟨k + 1, by omega, by go_num, ?_, by first | exact HG.out | exact HG.out.trans h1⟩
          rw [HT.out]
          all_goals first | rfl | (congr 1 <;> first | omega | rfl)
        case measure => go_light; simp [intOf]; omega
    · obtain rfl : k = (endsF l o).length := by omega
      go_wp2_with fail
      go_ret2
      go_light
      exact ⟨by rw [HF.out]; try rfl, HG1.out.trans HG.out⟩
end Go.Proofs.Yteckhmbkagigjaa
