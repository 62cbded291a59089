/- Set-up tables: SetupIn of the program and of the reference return what a plain function returns. Conditions: none. -/
import Derived.Test.YtfplgagdjdhopaaSet
import Derived.Test.YtfplgagdjdhopaaOrdS
namespace Go.Proofs.Ytfplgagdjdhopaa
open Go.RowKit Go.ChangeShapes Go.WideShapes Go.Deep
set_option linter.unusedVariables false
set_option linter.unusedSimpArgs false

def fr (L : List (List Int)) (o : List Int) : Nat → Int
  | 0 => (L.length : Int) - 1
  | k + 1 => o.getD k 0
def cellF (L : List (List Int)) (i j : Int) : Int := (L.getD i.toNat []).getD j.toNat 0
def sm (L : List (List Int)) (o : List Int) : Nat → Int
  | 0 => 0
  | k + 1 => sm L o k + cellF L (fr L o k) (o.getD k 0)
def okS (L : List (List Int)) (o : List Int) : Bool := setB L && ordB o ((L.length : Int) - 1)
def setupF (L : List (List Int)) (o : List Int) : Int × Bool := if okS L o then (sm L o o.length, true) else (0, false)
theorem okS_at {L : List (List Int)} {o : List Int} (h : okS L o = true) : 1 ≤ L.length ∧ L.length ≤ 8 ∧ (o.length : Int) = (L.length : Int) - 1 ∧ (∀ i, i < L.length → rowB (L.getD i []) ((L.length : Int) - 1) = true) ∧ (∀ i, i < o.length → ordOk o i = true) := by
  simp only [okS, setB, ordB, Bool.and_eq_true, decide_eq_true_eq, allTo_iff, inB_iff] at h
  exact ⟨by omega, by omega, h.2.1, h.1.2, h.2.2⟩
theorem okS_ord {L : List (List Int)} {o : List Int} (h : okS L o = true) {k : Nat} (hk : k < o.length) : 0 ≤ o.getD k 0 ∧ o.getD k 0 < (o.length : Int) := by
  have := (okS_at h).2.2.2.2 k hk
  simp only [ordOk, Bool.and_eq_true, inB_iff] at this
  omega
theorem okS_fr {L : List (List Int)} {o : List Int} (h : okS L o = true) {k : Nat} (hk : k ≤ o.length) : 0 ≤ fr L o k ∧ fr L o k < (L.length : Int) := by
  have h1 := okS_at h
  match k, hk with
  | 0, _ => simp only [fr]; omega
  | k + 1, hk => have := okS_ord h (k := k) (by omega); simp only [fr]; omega
theorem okS_row {L : List (List Int)} {o : List Int} (h : okS L o = true) {i : Nat} (hi : i < L.length) : (L.getD i []).length = o.length ∧ ∀ j, j < o.length → 0 ≤ (L.getD i []).getD j 0 ∧ (L.getD i []).getD j 0 ≤ 1000 := by
  have h1 := okS_at h
  have := h1.2.2.2.1 i hi
  simp only [rowB, Bool.and_eq_true, decide_eq_true_eq, allTo_iff] at this
  refine ⟨by omega, fun j hj => ?_⟩
  have h2 := this.2 j (by omega)
  simp only [cellOk, inB_iff] at h2
  exact h2
theorem sm_bound {L : List (List Int)} {o : List Int} (h : okS L o = true) : ∀ k, k ≤ o.length → 0 ≤ sm L o k ∧ sm L o k ≤ 1000 * k
  | 0, _ => by simp [sm]
  | k + 1, hk => by
    have h1 := sm_bound h k (by omega)
    have h2 := okS_fr h (k := k) (by omega)
    have h3 := okS_ord h (k := k) (by omega)
    have h4 := (okS_row h (i := (fr L o k).toNat) (by omega)).2 (o.getD k 0).toNat (by omega)
    simp only [sm, cellF]
    omega

set_option maxHeartbeats 1000000 in
theorem setupIn_impl (L : List (List Int)) (A : Option Addr) (c : Nat) (o : List IntS) (B : Option Addr) (d : Nat) (w : World) (h : RdR w A L) (hr : ∀ m ∈ L, m.length ≤ maxLen) (hn : L.length ≤ 4194304) (h' : Rd IntS.E w B o) (hko : ∀ x ∈ o, IntS.Ok x) (hm : o.length ≤ 4194304) :
    Calls Try.prog 15 #[.slice A L.length c, .slice B o.length d] w fun e w' => e = .returned (.tuple #[.int .i64 (setupF L o).1, .bool (setupF L o).2]) ∧ Grew w w' := by
  clear hko
  cases hok : okS L o
  · have HF := Lib.hid (show setupF L o = (0, false) by simp [setupF, hok])
    cases ha : setB L
    · go_enter Try.func15, Try.ntmps15
      go_wp2_with fail
      refine (isSetups_impl L _ _ _ h hr hn).mono ?_; rintro e w1 ⟨rfl, h1⟩
      go_wp2_with fail
      go_ret2
      go_light
      exact ⟨by rw [HF.out]; rfl, h1⟩
    · have hb : ordB o ((L.length : Int) - 1) = false := by simpa [okS, ha] using hok
      go_enter Try.func15, Try.ntmps15
      go_wp2_with fail
      refine (isSetups_impl L _ _ _ h hr hn).mono ?_; rintro e w1 ⟨rfl, h1⟩
      go_wp2_with fail
      refine (isOrder_impl o _ _ _ _ (h'.grew h1) hm).mono ?_; rintro e w2 ⟨rfl, h2⟩
      go_wp2_with fail
      go_ret2
      go_light
      exact ⟨by rw [HF.out]; rfl, h1.trans h2⟩
  have HF := Lib.hid (show setupF L o = (sm L o o.length, true) by simp [setupF, hok])
  have HOK := Lib.hid hok
  have ha : setB L = true := by simp only [okS, Bool.and_eq_true] at hok; exact hok.1
  have hb : ordB o ((L.length : Int) - 1) = true := by simp only [okS, Bool.and_eq_true] at hok; exact hok.2
  have HL := Lib.hid (okS_at hok)
  clear hok
  go_enter Try.func15, Try.ntmps15
  go_wp2_with fail
  refine (isSetups_impl L _ _ _ h hr hn).mono ?_; rintro e w1 ⟨rfl, h1⟩
  go_wp2_with fail
  refine (isOrder_impl o _ _ _ _ (h'.grew h1) hm).mono ?_; rintro e w2 ⟨rfl, h2⟩
  go_wp2_with fail
  have H := Lib.hid (h.grew (h1.trans h2))
  have H' := Lib.hid (h'.grew (h1.trans h2))
  have H12 := Lib.hid (h1.trans h2)
  clear h h' h1 h2
  go_loopw [6, 7, 26] (fun t u i wr => ∃ k : Nat, k ≤ o.length ∧ i = .int .i64 k ∧ u = .int .i64 (fr L o k) ∧ t = .int .i64 (sm L o k) ∧ Grew w2 wr) (fun _ _ i _ => o.length - (intOf i).toNat)
  case atStart => exact ⟨0, Nat.zero_le _, rfl, rfl, rfl, Grew.refl _⟩
  case round =>
    obtain ⟨k, hk, rfl, rfl, rfl, hg⟩ := hrel
    have HG := Lib.hid hg
    by_cases hlt : k < o.length
    · obtain ⟨x, hx⟩ : ∃ x, o[k]? = some x := ⟨_, List.getElem?_eq_getElem hlt⟩
      obtain ⟨b, p, rfl, hb0, hc⟩ := (H'.out.grew hg).at_ hlt
      have hc0 := IntS.at_ hc hx
      have hgd : o.getD k 0 = x := by simp [List.getD_eq_getElem?_getD, hx]
      obtain ⟨hx0, hx1⟩ := okS_ord HOK.out hlt
      obtain ⟨hf0, hf1⟩ := okS_fr HOK.out hk
      obtain ⟨hs0, hs1⟩ := sm_bound HOK.out k hk
      have HFR := Lib.hid (show fr L o (k + 1) = x from hgd)
      have HSM := Lib.hid (show sm L o (k + 1) = sm L o k + cellF L (fr L o k) x by simp only [sm, hgd])
      rw [hgd] at hx0 hx1
      generalize fr L o k = f at *
      obtain ⟨g, rfl⟩ := Int.eq_ofNat_of_zero_le hf0
      obtain ⟨m, rfl⟩ := Int.eq_ofNat_of_zero_le hx0
      have hgl : g < L.length := by omega
      have hml : m < o.length := by omega
      obtain ⟨R, hR⟩ : ∃ R, L[g]? = some R := ⟨_, List.getElem?_eq_getElem hgl⟩
      obtain ⟨b', p', X, c', rfl, hb1, hd, hrd⟩ := (H.out.grew hg).at_ hR
      have hRd : L.getD g [] = R := by simp [List.getD_eq_getElem?_getD, hR]
      obtain ⟨hRl, hRb⟩ := okS_row HOK.out hgl
      rw [hRd] at hRl hRb
      have hmR : m < R.length := by omega
      obtain ⟨y, hy⟩ : ∃ y, R[m]? = some y := ⟨_, List.getElem?_eq_getElem hmR⟩
      obtain ⟨b'', p'', rfl, hb2, he⟩ := hrd.at_ hmR
      have he0 := IntS.at_ he hy
      have hyd : R.getD m 0 = y := by simp [List.getD_eq_getElem?_getD, hy]
      obtain ⟨hy0, hy1⟩ := hRb m hml
      rw [hyd] at hy0 hy1
      have HT := Lib.hid (show sm L o (k + 1) = sm L o k + y by rw [HSM.out]; simp only [cellF, Int.toNat_natCast, hRd, hyd])
      have h8 : o.length ≤ 8 := by have := HL.out; omega
      have hs2 : sm L o k ≤ 8000 := by omega
      have hi1 : (0 : Int) ≤ (k : Int) := by omega
      have hi2 : (k : Int) < (o.length : Int) := by omega
      have hi3 : (g : Int) < (L.length : Int) := by omega
      have hi4 : (m : Int) < (R.length : Int) := by omega
      have hi5 : (0 : Int) ≤ (m : Int) := by omega
      have hi6 : (0 : Int) ≤ (g : Int) := by omega
      clear hx hc hR hrd hRd hRb hRl hy he hyd hgd hg hs1
      generalize sm L o k = tv at *
      go_wp2_with fail
      go_roundw
      case rel =>
        go_light
        refine ⟨k + 1, by omega, by go_num, by rw [HFR.out], by rw [HT.out], by first | exact HG.out | exact HG.out.trans h1⟩
      case measure => go_light; simp [intOf]; omega
    · obtain rfl : k = o.length := by omega
      go_wp2_with fail
      go_ret2
      go_light
      exact ⟨by rw [HF.out]; try rfl, H12.out.trans HG.out⟩

set_option maxHeartbeats 1000000 in
theorem setupIn_spec (L : List (List Int)) (A : Option Addr) (c : Nat) (o : List IntS) (B : Option Addr) (d : Nat) (w : World) (h : RdR w A L) (hr : ∀ m ∈ L, m.length ≤ maxLen) (hn : L.length ≤ 4194304) (h' : Rd IntS.E w B o) (hko : ∀ x ∈ o, IntS.Ok x) (hm : o.length ≤ 4194304) :
    Calls Try.prog 13 #[.slice A L.length c, .slice B o.length d] w fun e w' => e = .returned (.tuple #[.int .i64 (setupF L o).1, .bool (setupF L o).2]) ∧ Grew w w' := by
  clear hko
  cases hok : okS L o
  · have HF := Lib.hid (show setupF L o = (0, false) by simp [setupF, hok])
    cases ha : setB L
    · go_enter Try.func13, Try.ntmps13
      go_wp2_with fail
      refine (isSetups_spec L _ _ _ h hr hn).mono ?_; rintro e w1 ⟨rfl, h1⟩
      go_wp2_with fail
      go_ret2
      go_light
      exact ⟨by rw [HF.out]; rfl, h1⟩
    · have hb : ordB o ((L.length : Int) - 1) = false := by simpa [okS, ha] using hok
      go_enter Try.func13, Try.ntmps13
      go_wp2_with fail
      refine (isSetups_spec L _ _ _ h hr hn).mono ?_; rintro e w1 ⟨rfl, h1⟩
      go_wp2_with fail
      refine (isOrder_spec o _ _ _ _ (h'.grew h1) hm).mono ?_; rintro e w2 ⟨rfl, h2⟩
      go_wp2_with fail
      go_ret2
      go_light
      exact ⟨by rw [HF.out]; rfl, h1.trans h2⟩
  have HF := Lib.hid (show setupF L o = (sm L o o.length, true) by simp [setupF, hok])
  have HOK := Lib.hid hok
  have ha : setB L = true := by simp only [okS, Bool.and_eq_true] at hok; exact hok.1
  have hb : ordB o ((L.length : Int) - 1) = true := by simp only [okS, Bool.and_eq_true] at hok; exact hok.2
  have HL := Lib.hid (okS_at hok)
  clear hok
  go_enter Try.func13, Try.ntmps13
  go_wp2_with fail
  refine (isSetups_spec L _ _ _ h hr hn).mono ?_; rintro e w1 ⟨rfl, h1⟩
  go_wp2_with fail
  refine (isOrder_spec o _ _ _ _ (h'.grew h1) hm).mono ?_; rintro e w2 ⟨rfl, h2⟩
  go_wp2_with fail
  have H := Lib.hid (h.grew (h1.trans h2))
  have H' := Lib.hid (h'.grew (h1.trans h2))
  have H12 := Lib.hid (h1.trans h2)
  clear h h' h1 h2
  go_loopw [6, 7, 8] (fun t u i wr => ∃ k : Nat, k ≤ o.length ∧ i = .int .i64 k ∧ u = .int .i64 (fr L o k) ∧ t = .int .i64 (sm L o k) ∧ Grew w2 wr) (fun _ _ i _ => o.length - (intOf i).toNat)
  case atStart => exact ⟨0, Nat.zero_le _, rfl, rfl, rfl, Grew.refl _⟩
  case round =>
    obtain ⟨k, hk, rfl, rfl, rfl, hg⟩ := hrel
    have HG := Lib.hid hg
    by_cases hlt : k < o.length
    · obtain ⟨x, hx⟩ : ∃ x, o[k]? = some x := ⟨_, List.getElem?_eq_getElem hlt⟩
      obtain ⟨b, p, rfl, hb0, hc⟩ := (H'.out.grew hg).at_ hlt
      have hc0 := IntS.at_ hc hx
      have hgd : o.getD k 0 = x := by simp [List.getD_eq_getElem?_getD, hx]
      obtain ⟨hx0, hx1⟩ := okS_ord HOK.out hlt
      obtain ⟨hf0, hf1⟩ := okS_fr HOK.out hk
      obtain ⟨hs0, hs1⟩ := sm_bound HOK.out k hk
      have HFR := Lib.hid (show fr L o (k + 1) = x from hgd)
      have HSM := Lib.hid (show sm L o (k + 1) = sm L o k + cellF L (fr L o k) x by simp only [sm, hgd])
      rw [hgd] at hx0 hx1
      generalize fr L o k = f at *
      obtain ⟨g, rfl⟩ := Int.eq_ofNat_of_zero_le hf0
      obtain ⟨m, rfl⟩ := Int.eq_ofNat_of_zero_le hx0
      have hgl : g < L.length := by omega
      have hml : m < o.length := by omega
      obtain ⟨R, hR⟩ : ∃ R, L[g]? = some R := ⟨_, List.getElem?_eq_getElem hgl⟩
      obtain ⟨b', p', X, c', rfl, hb1, hd, hrd⟩ := (H.out.grew hg).at_ hR
      have hRd : L.getD g [] = R := by simp [List.getD_eq_getElem?_getD, hR]
      obtain ⟨hRl, hRb⟩ := okS_row HOK.out hgl
      rw [hRd] at hRl hRb
      have hmR : m < R.length := by omega
      obtain ⟨y, hy⟩ : ∃ y, R[m]? = some y := ⟨_, List.getElem?_eq_getElem hmR⟩
      obtain ⟨b'', p'', rfl, hb2, he⟩ := hrd.at_ hmR
      have he0 := IntS.at_ he hy
      have hyd : R.getD m 0 = y := by simp [List.getD_eq_getElem?_getD, hy]
      obtain ⟨hy0, hy1⟩ := hRb m hml
      rw [hyd] at hy0 hy1
      have HT := Lib.hid (show sm L o (k + 1) = sm L o k + y by rw [HSM.out]; simp only [cellF, Int.toNat_natCast, hRd, hyd])
      have h8 : o.length ≤ 8 := by have := HL.out; omega
      have hs2 : sm L o k ≤ 8000 := by omega
      have hi1 : (0 : Int) ≤ (k : Int) := by omega
      have hi2 : (k : Int) < (o.length : Int) := by omega
      have hi3 : (g : Int) < (L.length : Int) := by omega
      have hi4 : (m : Int) < (R.length : Int) := by omega
      have hi5 : (0 : Int) ≤ (m : Int) := by omega
      have hi6 : (0 : Int) ≤ (g : Int) := by omega
      clear hx hc hR hrd hRd hRb hRl hy he hyd hgd hg hs1
      generalize sm L o k = tv at *
      go_wp2_with fail
      (refine wp_region_grow_lit (by kernel_rfl) (by kernel_rfl) ?_; repeat (any_goals (first | go_big_quiet_step ((fail)) | quiet_step ((fail)) | (refine wpQuiet_step (fun K hK => ?_); go_simp; split <;> rename_i hsp <;> (refine hK _ ?_; clear hK K) <;> (try first | simp only [hsp, decide_true, decide_false, Bool.not_true, Bool.not_false] | simp only [Int.not_le.2 hsp, decide_false, Bool.not_false] | simp only [Int.not_lt.2 hsp, decide_false, Bool.not_false] | simp only [Nat.not_le.2 hsp, decide_false, Bool.not_false] | simp only [Nat.not_lt.2 hsp, decide_false, Bool.not_false])))))
      all_goals (refine wpQuiet_nil ?_; intro w1 h1)
      have hc1 := (h1.rules.1 b _ hb0).trans hc0
      go_wp2_with fail
      go_roundw
      case rel =>
        go_light
        refine ⟨k + 1, by omega, by go_num, by rw [HFR.out], by rw [HT.out], by first | exact HG.out | exact HG.out.trans h1⟩
      case measure => go_light; simp [intOf]; omega
    · obtain rfl : k = o.length := by omega
      go_wp2_with fail
      go_ret2
      go_light
      exact ⟨by rw [HF.out]; try rfl, H12.out.trans HG.out⟩
end Go.Proofs.Ytfplgagdjdhopaa
