/- The library's stable sort of at most 30 numbers, by a comparison in the program's closure. Conditions: none. -/
import Derived.Test.YtembbgkhmnalpaaMrgG
namespace Go.Proofs.Ytembbgkhmnalpaa
open Go.RowKit Go.ChangeShapes Go.WideShapes Go.Deep
set_option linter.unusedVariables false
set_option linter.unusedSimpArgs false

/-- What the comparison of a number with one ahead of it tells of the order. -/
def okp (lt : Int → Int → Prop) (cmp : Int → Int → Int) (x y : Int) : Prop := (cmp y x < 0 → lt y x) ∧ (¬ cmp y x < 0 → lt x y)

set_option maxRecDepth 100000 in
set_option maxHeartbeats 8000000 in
theorem ins_any (w0 : World) (Sp : Int → Prop) (cmp : Int → Int → Int) (lt : Int → Int → Prop) (p : Addr) (hc : CmpIs Sp cmp p w0) (tr : ∀ a b c, lt a b → lt b c → lt a c) (P l S : List Int) (ho : l.Pairwise (okp lt cmp)) (hl : ∀ x ∈ l, Sp x) (g n c : Nat) (hn : n = (P ++ (l ++ S)).length) (h30 : n ≤ 1000) (a b : Nat) (ha : a = P.length) (hb : b = P.length + l.length)
    (w : World) (hg : Grew w0 w) (hown : Own IntS.E 3 w w0.heap.size (.slice (some ⟨g, 0, none⟩) n c) (P ++ (l ++ S))) :
    Calls Try.prog 72 #[.slice (some ⟨g, 0, none⟩) n c, .int .i64 a, .int .i64 b, clo p] w fun e w' =>
      e = .returned (.tuple #[]) ∧ (∃ M : List Int, M.Perm l ∧ M.Pairwise lt ∧ Own IntS.E 3 w' w0.heap.size (.slice (some ⟨g, 0, none⟩) n c) (P ++ (M ++ S))) ∧ Grew w0 w' := by
  have HO := Lib.hid hown
  have HG := Lib.hid hg
  have HC := Lib.hid hc
  have HR := Lib.hid ho
  have HL := Lib.hid hl
  have HTR := Lib.hid tr
  have HA := Lib.hid ha
  have HB := Lib.hid (show b = a + l.length by omega)
  have hbn : b ≤ n := by rw [hn, hb]; simp only [List.length_append]; omega
  have hab : a ≤ b := by omega
  clear hown hg hc ho hl tr ha hb hn
  go_enter Try.func72, Try.ntmps72
  go_wp2_with fail
  go_loopw [8] (fun i wr => ∃ (k : Nat) (M : List Int), 1 ≤ k ∧ (k = 1 ∨ k ≤ l.length) ∧ i = .int .i64 ((a + k : Nat) : Int) ∧ M.Perm (l.take k) ∧ M.Pairwise lt ∧ Grew w0 wr ∧ Own IntS.E 3 wr w0.heap.size (.slice (some ⟨g, 0, none⟩) n c) (P ++ (M ++ (l.drop k ++ S)))) (fun i _ => b + 1 - (intOf i).toNat)
  case atStart =>
    refine ⟨1, l.take 1, Nat.le_refl _, .inl rfl, congrArg (Value.int .i64) (by omega), List.Perm.refl _, ?_, HG.out, ?_⟩
    · match l with
      | [] => exact List.Pairwise.nil
      | x :: l => exact List.pairwise_singleton _ _
    · rw [← List.append_assoc (l.take 1), List.take_append_drop]
      exact HO.out
  case round =>
    obtain ⟨k, M, hk1, hk, rfl, hpm, hsm, hgk, hok⟩ := hrel
    have HGK := Lib.hid hgk
    have HOK := Lib.hid hok
    have HPM := Lib.hid hpm
    have HSM := Lib.hid hsm
    clear hgk hok hpm hsm HO HG
    obtain ⟨i0, hi0⟩ : ∃ i, i = a + k := ⟨_, rfl⟩
    rw [← hi0]
    have HI0 := Lib.hid hi0
    clear hi0
    by_cases hlt : k < l.length
    · have hib : i0 < b := by have := HB.out; have := HI0.out; omega
      obtain ⟨x, hx⟩ : ∃ x, l[k]? = some x := ⟨_, List.getElem?_eq_getElem hlt⟩
      have HX := Lib.hid hx
      have HXM := Lib.hid (List.mem_of_getElem? hx)
      have HML := Lib.hid (show M.length = k by rw [HPM.out.length_eq, List.length_take]; omega)
      have HD := Lib.hid (show l.drop k = x :: l.drop (k + 1) by rw [List.drop_eq_getElem_cons hlt]; congr 1; exact (List.getElem?_eq_some_iff.1 hx).2)
      have HOP := Lib.hid (show ∀ y ∈ M, okp lt cmp y x from fun y hy => by
        obtain ⟨t, ht, hy⟩ := mem_take_lt (HPM.out.mem_iff.1 hy)
        have h1 := List.pairwise_iff_getElem.1 HR.out t k (List.getElem?_eq_some_iff.1 hy).1 hlt ht
        rw [(List.getElem?_eq_some_iff.1 hy).2, (List.getElem?_eq_some_iff.1 hx).2] at h1
        exact h1)
      have HYS := Lib.hid (show ∀ y ∈ M, Sp y from fun y hy => HL.out y (List.mem_of_mem_take (HPM.out.mem_iff.1 hy)))
      obtain ⟨R, hR⟩ : ∃ R, R = l.drop (k + 1) ++ S := ⟨_, rfl⟩
      have HRR := Lib.hid hR
      have HOB := Lib.hid (show Own IntS.E 3 wr w0.heap.size (.slice (some ⟨g, 0, none⟩) n c) (P ++ (M.take k ++ (x :: (M.drop k ++ R)))) by
        have h1 := HOK.out
        rw [HD.out] at h1
        rw [List.take_of_length_le (by rw [HML.out]; exact Nat.le_refl _), List.drop_eq_nil_of_le (by rw [HML.out]; exact Nat.le_refl _), hR]
        simpa using h1)
      clear hx HOK hR hlt
      go_wp2_with fail
      obtain ⟨wo, hwo⟩ : ∃ wo : World, wo = wr := ⟨_, rfl⟩
      subst hwo
      go_loopw [9] (fun i wr => ∃ j : Nat, j ≤ k ∧ i = .int .i64 ((a + j : Nat) : Int) ∧ (∀ y ∈ M.drop j, lt x y) ∧ Grew w0 wr ∧ Own IntS.E 3 wr w0.heap.size (.slice (some ⟨g, 0, none⟩) n c) (P ++ (M.take j ++ (x :: (M.drop j ++ R))))) (fun i _ => (intOf i).toNat)
      case atStart => exact ⟨k, Nat.le_refl _, by rw [HI0.out], (fun y hy => by rw [List.drop_eq_nil_of_le (by rw [HML.out]; exact Nat.le_refl _)] at hy; cases hy), HGK.out, HOB.out⟩
      case round =>
        obtain ⟨j, hj, rfl, hab2, hgj, hoj⟩ := hrel
        have HGJ := Lib.hid hgj
        have HOJ := Lib.hid hoj
        have HAB := Lib.hid hab2
        clear hgj hoj hab2 HGK HOB
        have HEND := Lib.hid (show (∀ y ∈ M.take j, lt y x) → (M.take j ++ x :: M.drop j).Perm (l.take (k + 1)) ∧ (M.take j ++ x :: M.drop j).Pairwise lt ∧ P ++ (M.take j ++ (x :: (M.drop j ++ R))) = P ++ ((M.take j ++ x :: M.drop j) ++ (l.drop (k + 1) ++ S)) from fun h => by
          refine ⟨?_, put_sorted HSM.out h HAB.out HTR.out, ?_⟩
          · refine put_perm.trans ?_
            rw [List.take_add_one, HX.out]
            exact (List.Perm.cons x HPM.out).trans (List.perm_append_singleton x _).symm
          · rw [HRR.out]; simp)
        rcases Nat.eq_zero_or_pos j with h0 | h0
        · subst h0
          have HE := Lib.hid (HEND.out (fun y hy => by rw [List.take_zero] at hy; cases hy))
          clear HEND
          rw [Nat.add_zero]
          go_wp2_with fail
          (refine wp_region_grow_lit (by kernel_rfl) (by kernel_rfl) ?_; repeat (any_goals (first | go_big_quiet_step ((fail)) | quiet_step ((fail)) | (refine wpQuiet_step (fun K hK => ?_); go_simp; split <;> rename_i hsp <;> (refine hK _ ?_; clear hK K) <;> (try first | simp only [hsp, decide_true, decide_false, Bool.not_true, Bool.not_false] | simp only [Int.not_le.2 hsp, decide_false, Bool.not_false] | simp only [Int.not_lt.2 hsp, decide_false, Bool.not_false] | simp only [Nat.not_le.2 hsp, decide_false, Bool.not_false] | simp only [Nat.not_lt.2 hsp, decide_false, Bool.not_false])))))
          all_goals (refine wpQuiet_nil ?_; intro w1 h1)
          go_wp2_with fail
          go_roundw
          case rel =>
            go_light
            refine ⟨k + 1, _, by omega, .inr (by have := HB.out; have := HI0.out; omega), congrArg (Value.int .i64) (by have := HI0.out; omega), HE.out.1, HE.out.2.1, HGJ.out.trans h1, ?_⟩
            rw [← HE.out.2.2]
            exact HOJ.out.grew h1
          case measure => go_light; simp [intOf]; omega
        · obtain ⟨r, rfl⟩ : ∃ r, j = r + 1 := ⟨j - 1, by omega⟩
          have hrb : r < M.length := by have := HML.out; omega
          obtain ⟨y, hy⟩ : ∃ y, M[r]? = some y := ⟨_, List.getElem?_eq_getElem hrb⟩
          obtain ⟨k', hk'⟩ : ∃ k', k' = a + r := ⟨_, rfl⟩
          have hdz : M.drop r = y :: M.drop (r + 1) := by rw [List.drop_eq_getElem_cons hrb]; congr 1; exact (List.getElem?_eq_some_iff.1 hy).2
          have e1 : P ++ (M.take (r + 1) ++ (x :: (M.drop (r + 1) ++ R))) = (P ++ M.take r) ++ y :: ([] ++ x :: (M.drop (r + 1) ++ R)) := by rw [List.take_add_one, hy]; simp
          have e2 : P ++ (M.take r ++ (x :: (M.drop r ++ R))) = (P ++ M.take r) ++ x :: ([] ++ y :: (M.drop (r + 1) ++ R)) := by rw [hdz]; simp
          have hla : (P ++ M.take r).length = k' := by rw [List.length_append, List.length_take]; have := HA.out; omega
          have hlb : (P ++ M.take r).length + 1 + ([] : List Int).length = k' + 1 := by rw [hla]; rfl
          have g1 := get_mid (P ++ M.take r) [] ([] ++ x :: (M.drop (r + 1) ++ R)) y
          have g2 := get_mid2 (P ++ M.take r) [] (M.drop (r + 1) ++ R) y x
          rw [hla] at g1
          rw [hlb] at g2
          have HO3 := Lib.hid (e1 ▸ HOJ.out)
          have hc0 : wr.cell? ⟨g, k', none⟩ = some (.int .i64 y) := by have := HO3.out.at_ g1 (j := 0) (u := .int .i64 y) rfl; simpa [IntS.E] using this
          have hc1 : wr.cell? ⟨g, k' + 1, none⟩ = some (.int .i64 x) := by have := HO3.out.at_ g2 (j := 0) (u := .int .i64 x) rfl; simpa [IntS.E] using this
          have HYM := Lib.hid (List.mem_of_getElem? hy)
          have HY := Lib.hid hy
          have HG1 := Lib.hid g1
          have HG2 := Lib.hid g2
          have HSW := Lib.hid (show ((P ++ M.take r ++ y :: ([] ++ x :: (M.drop (r + 1) ++ R))).set (k' + 1) y).set k' x = P ++ (M.take r ++ (x :: (M.drop r ++ R))) by rw [swap_at2 hla hlb, ← e2])
          have HDZ := Lib.hid hdz
          have HK := Lib.hid hk'
          have hiz : ((a + (r + 1) : Nat) : Int) = (k' : Int) + 1 := by omega
          rw [hiz]
          have hk3 : k' + 1 < n := by have := HI0.out; omega
          have hk4 : a ≤ k' := by omega
          clear hiz hdz e1 e2 hla hlb g1 g2 hk' hy hrb
          have hz1 : IntKind.i64.wrap ((k' : Int) + 1 - 1) = (k' : Int) := by rw [IntKind.wrap_i64]; omega
          have hz2 : ((k' : Int) + 1).toNat = k' + 1 := by omega
          have hz3 : (0 : Int) ≤ (k' : Int) + 1 := by omega
          have hz4 : (k' : Int) + 1 < (n : Int) := by omega
          have hz5 : (k' : Int) < (n : Int) := by omega
          have hz6 : (0 : Int) ≤ (k' : Int) := by omega
          have hz7 : decide ((a : Int) < (k' : Int) + 1) = true := decide_eq_true (by omega)
          obtain ⟨v, hv⟩ : ∃ v, cmp x y = v := ⟨_, rfl⟩
          have HV := Lib.hid hv
          by_cases hneg : v < 0
          · have hd : decide (v < 0) = true := decide_eq_true hneg
            have HB2 := Lib.hid (show ∀ z ∈ M.drop r, lt x z from fun z hz => by
              have hxy := (HOP.out y HYM.out).1 (by rw [HV.out]; exact hneg)
              rw [HDZ.out] at hz
              rcases List.mem_cons.1 hz with rfl | hz
              · exact hxy
              · exact HAB.out z hz)
            clear hv hneg HEND
            go_wp2_with fail
            (refine wp_region_grow_lit (by kernel_rfl) (by kernel_rfl) ?_; repeat (any_goals (first | go_big_quiet_step ((go_at_call 53; exact quiet_grew (HC.out.at_ HV.out (HL.out x HXM.out) (HYS.out y HYM.out) (HGJ.out.trans (gw_grew _ _))))) | quiet_step ((go_at_call 53; exact quiet_grew (HC.out.at_ HV.out (HL.out x HXM.out) (HYS.out y HYM.out) (HGJ.out.trans (gw_grew _ _))))) | (refine wpQuiet_step (fun K hK => ?_); go_simp; split <;> rename_i hsp <;> (refine hK _ ?_; clear hK K) <;> (try first | simp only [hsp, decide_true, decide_false, Bool.not_true, Bool.not_false] | simp only [Int.not_le.2 hsp, decide_false, Bool.not_false] | simp only [Int.not_lt.2 hsp, decide_false, Bool.not_false] | simp only [Nat.not_le.2 hsp, decide_false, Bool.not_false] | simp only [Nat.not_lt.2 hsp, decide_false, Bool.not_false])))))
            all_goals (refine wpQuiet_nil ?_; intro w1 h1)
            have HO1 := Lib.hid (HO3.out.grew h1)
            have HGN := Lib.hid (HGJ.out.trans h1)
            clear hc0 hc1 h1 hd hz7
            have hc0 : w1.cell? ⟨g, k', none⟩ = some (.int .i64 y) := by have := HO1.out.at_ HG1.out (j := 0) (u := .int .i64 y) rfl; simpa [IntS.E] using this
            have hc1 : w1.cell? ⟨g, k' + 1, none⟩ = some (.int .i64 x) := by have := HO1.out.at_ HG2.out (j := 0) (u := .int .i64 x) rfl; simpa [IntS.E] using this
            have hf := HO1.out.frozen
            go_wp2_with fail
            go_region
            have hs1 := HO1.out.set_ (i := k' + 1) (j := 0) (x' := y) (u := .int .i64 y) HG2.out rfl (by decide)
            rw [show (k' + 1) * IntS.E.sz + 0 = k' + 1 by simp [IntS.E]] at hs1
            have hs2 := hs1.set_ (i := k') (j := 0) (x := y) (x' := x) (u := .int .i64 x) (by rw [List.getElem?_set_ne (by omega)]; exact HG1.out) rfl (by decide)
            rw [show k' * IntS.E.sz + 0 = k' by simp [IntS.E], HSW.out] at hs2
            have HS2 := Lib.hid hs2
            have hgb := (HO1.out.block g rfl).1
            have HG4 := Lib.hid ((HGN.out.setCell (p := ⟨g, k' + 1, none⟩) hgb (.int .i64 y)).setCell (p := ⟨g, k', none⟩) hgb (.int .i64 x))
            clear hs1 hs2 hc0 hc1 hf hgb
            go_wp2_with fail
            go_roundw
            case rel => go_light; exact ⟨r, by omega, congrArg (Value.int .i64) (by have := HK.out; omega), HB2.out, HG4.out.drew, HS2.out.drew⟩
            case measure => go_light; simp [intOf] <;> omega
          · have hd : decide (v < 0) = false := decide_eq_false hneg
            have HE := Lib.hid (HEND.out (fun z hz => by
              have hyx := (HOP.out y HYM.out).2 (by rw [HV.out]; exact hneg)
              rcases last_take HSM.out hz (by rw [Nat.add_sub_cancel]; exact HY.out) with rfl | h
              · exact hyx
              · exact HTR.out _ _ _ h hyx))
            clear hv hneg HEND
            go_wp2_with fail
            (refine wp_region_grow_lit (by kernel_rfl) (by kernel_rfl) ?_; repeat (any_goals (first | go_big_quiet_step ((go_at_call 53; exact quiet_grew (HC.out.at_ HV.out (HL.out x HXM.out) (HYS.out y HYM.out) (HGJ.out.trans (gw_grew _ _))))) | quiet_step ((go_at_call 53; exact quiet_grew (HC.out.at_ HV.out (HL.out x HXM.out) (HYS.out y HYM.out) (HGJ.out.trans (gw_grew _ _))))) | (refine wpQuiet_step (fun K hK => ?_); go_simp; split <;> rename_i hsp <;> (refine hK _ ?_; clear hK K) <;> (try first | simp only [hsp, decide_true, decide_false, Bool.not_true, Bool.not_false] | simp only [Int.not_le.2 hsp, decide_false, Bool.not_false] | simp only [Int.not_lt.2 hsp, decide_false, Bool.not_false] | simp only [Nat.not_le.2 hsp, decide_false, Bool.not_false] | simp only [Nat.not_lt.2 hsp, decide_false, Bool.not_false])))))
            all_goals (refine wpQuiet_nil ?_; intro w1 h1)
            go_wp2_with fail
            go_roundw
            case rel =>
              go_light
              refine ⟨k + 1, _, by omega, .inr (by have := HB.out; have := HI0.out; omega), congrArg (Value.int .i64) (by have := HI0.out; omega), HE.out.1, HE.out.2.1, HGJ.out.trans h1, ?_⟩
              rw [← HE.out.2.2]
              exact HOJ.out.grew h1
            case measure => go_light; simp [intOf]; omega
    · have hib : ¬ (i0 < b) := by have := HB.out; have := HI0.out; omega
      have HT := Lib.hid (show l.take k = l from List.take_of_length_le (by omega))
      have HD := Lib.hid (show l.drop k = [] from List.drop_eq_nil_of_le (by omega))
      clear hlt
      go_wp2_with fail
      (try simp only [Exit.inBlock, Exit.then])
      refine bodyPost_end (results_none rfl _ _ _) rfl ?_
      go_light
      exact ⟨rfl, ⟨M, by rw [← HT.out]; exact HPM.out, HSM.out, by have := HOK.out; rw [HD.out] at this; exact this⟩, HGK.out⟩

set_option maxRecDepth 100000 in
set_option maxHeartbeats 8000000 in
theorem ins_nil (A : Option Addr) (c : Nat) (V : Value) (w : World) :
    Calls Try.prog 72 #[.slice A 0 c, .int .i64 0, .int .i64 0, V] w fun e w' => e = .returned (.tuple #[]) ∧ w = w' := by
  go_enter Try.func72, Try.ntmps72
  go_wp2_with fail
  go_loopw [8] (fun i wr => i = .int .i64 1 ∧ w = wr) (fun _ _ => 0)
  case atStart => exact ⟨rfl, rfl⟩
  case round =>
    obtain ⟨rfl, rfl⟩ := hrel
    go_wp2_with fail
    (try simp only [Exit.inBlock, Exit.then])
    refine bodyPost_end (results_none rfl _ _ _) rfl ?_
    go_light
    exact ⟨rfl, rfl⟩

/-- The comparison and the order, on all that is sorted. -/
structure Srt (w0 : World) (Sp : Int → Prop) (cmp : Int → Int → Int) (lt : Int → Int → Prop) (p : Addr) (l : List Int) : Prop where
  c : CmpIs Sp cmp p w0
  tr : ∀ a b c, lt a b → lt b c → lt a c
  o : l.Pairwise (okp lt cmp)
  s : ∀ x ∈ l, Sp x

/-- The insertion sort of fewer than 20 numbers, or none. -/
theorem ins_few (w0 : World) (Sp : Int → Prop) (cmp : Int → Int → Int) (lt : Int → Int → Prop) (p : Addr) (l : List Int) (H : Srt w0 Sp cmp lt p l) (A : Option Addr) (n c : Nat) (hn : n = l.length) (h30 : n ≤ 1000)
    (w : World) (hg : Grew w0 w) (hown : Own IntS.E 3 w w0.heap.size (.slice A n c) l) :
    Calls Try.prog 72 #[.slice A n c, .int .i64 0, .int .i64 n, clo p] w fun e w' =>
      e = .returned (.tuple #[]) ∧ (∃ M : List Int, M.Perm l ∧ M.Pairwise lt ∧ Own IntS.E 3 w' w0.heap.size (.slice A n c) M) ∧ Grew w0 w' := by
  subst hn
  rcases Nat.eq_zero_or_pos l.length with h0 | h0
  · obtain rfl : l = [] := List.eq_nil_of_length_eq_zero h0
    refine (ins_nil A c _ w).mono ?_
    rintro e w' ⟨rfl, rfl⟩
    exact ⟨rfl, ⟨[], List.Perm.refl _, List.Pairwise.nil, hown⟩, hg⟩
  · obtain ⟨g, c', e, _, _⟩ := hown.addr h0
    simp only [Value.slice.injEq, true_and] at e
    obtain ⟨rfl, rfl⟩ := e
    have h := ins_any w0 Sp cmp lt p H.c H.tr [] l [] H.o H.s g l.length c (by simp) h30 0 l.length rfl (by simp) w hg (by simpa using hown)
    refine h.mono ?_
    rintro e w' ⟨he, ⟨M, h1, h2, h3⟩, h4⟩
    exact ⟨he, ⟨M, h1, h2, by simpa using h3⟩, h4⟩

theorem okp_ordr {lt : Int → Int → Prop} {cmp : Int → Int → Int} {l A B : List Int} {k : Nat} (tr : ∀ a b c, lt a b → lt b c → lt a c) (ho : l.Pairwise (okp lt cmp)) (pa : A.Perm (l.take k)) (pb : B.Perm (l.drop k)) (sa : A.Pairwise lt) (sb : B.Pairwise lt) : Ordr lt cmp A B := by
  have h : ∀ x ∈ A, ∀ y ∈ B, okp lt cmp x y := fun x hx y hy => pw_split ho (pa.mem_iff.1 hx) (pb.mem_iff.1 hy)
  exact ⟨tr, sa, sb, fun x hx y hy => (h x hx y hy).1, fun x hx y hy => (h x hx y hy).2⟩

set_option maxRecDepth 100000 in
set_option maxHeartbeats 8000000 in
theorem stable_few (w0 : World) (Sp : Int → Prop) (cmp : Int → Int → Int) (lt : Int → Int → Prop) (p : Addr) (l : List Int) (H : Srt w0 Sp cmp lt p l) (A : Option Addr) (n c : Nat) (hn : n = l.length) (h20 : n < 20)
    (w : World) (hg : Grew w0 w) (hown : Own IntS.E 3 w w0.heap.size (.slice A n c) l) :
    Calls Try.prog 62 #[.slice A n c, .int .i64 n, clo p] w fun e w' =>
      e = .returned (.tuple #[]) ∧ (∃ M : List Int, M.Perm l ∧ M.Pairwise lt ∧ Own IntS.E 3 w' w0.heap.size (.slice A n c) M) ∧ Grew w0 w' := by
  have HT := Lib.hid (ins_few w0 Sp cmp lt p l H A n c hn (by omega) w hg hown)
  clear hg hown H hn
  go_enter Try.func62, Try.ntmps62
  go_wp2_with fail
  go_loopw [7, 8] (fun a b wr => a = .int .i64 0 ∧ b = .int .i64 20 ∧ w = wr) (fun _ _ _ => 0)
  case atStart => exact ⟨rfl, rfl, rfl⟩
  case round =>
    obtain ⟨rfl, rfl, rfl⟩ := hrel
    go_wp2_with fail
    refine HT.out.mono ?_
    rintro e w1 ⟨rfl, hm, hg1⟩
    have HM := Lib.hid hm
    have HG1 := Lib.hid hg1
    clear hm hg1
    go_wp2_with fail
    go_loopw [6] (fun b wr => b = .int .i64 20 ∧ w1 = wr) (fun _ _ => 0)
    case atStart => exact ⟨rfl, rfl⟩
    case round =>
      obtain ⟨rfl, rfl⟩ := hrel
      go_wp2_with fail
      (try simp only [Exit.inBlock, Exit.then])
      refine bodyPost_end (results_none rfl _ _ _) rfl ?_
      go_light
      exact ⟨rfl, HM.out, HG1.out⟩

set_option maxRecDepth 100000 in
set_option maxHeartbeats 8000000 in
theorem stable_two (w0 : World) (Sp : Int → Prop) (cmp : Int → Int → Int) (lt : Int → Int → Prop) (p : Addr) (l : List Int) (H : Srt w0 Sp cmp lt p l) (g n c : Nat) (hn : n = l.length) (h20 : 20 ≤ n) (h30 : n ≤ 30)
    (w : World) (hg : Grew w0 w) (hown : Own IntS.E 3 w w0.heap.size (.slice (some ⟨g, 0, none⟩) n c) l) :
    Calls Try.prog 62 #[.slice (some ⟨g, 0, none⟩) n c, .int .i64 n, clo p] w fun e w' =>
      e = .returned (.tuple #[]) ∧ (∃ M : List Int, M.Perm l ∧ M.Pairwise lt ∧ Own IntS.E 3 w' w0.heap.size (.slice (some ⟨g, 0, none⟩) n c) M) ∧ Grew w0 w' := by
  have hl : (l.take 20).length = 20 := by rw [List.length_take]; omega
  have hd : (l.drop 20).length = n - 20 := by rw [List.length_drop]; omega
  have HT1 := Lib.hid (ins_any w0 Sp cmp lt p H.c H.tr [] (l.take 20) (l.drop 20) (H.o.sublist (List.take_sublist _ _)) (fun x hx => H.s x (List.mem_of_mem_take hx)) g n c (by rw [List.nil_append, List.take_append_drop]; exact hn) (by omega) 0 20 rfl (by rw [hl]; rfl) w hg (by rw [List.nil_append, List.take_append_drop]; exact hown))
  have HT2 := Lib.hid (show ∀ M1 : List Int, M1.Perm (l.take 20) → ∀ w1, Grew w0 w1 → Own IntS.E 3 w1 w0.heap.size (.slice (some ⟨g, 0, none⟩) n c) ([] ++ (M1 ++ l.drop 20)) → Calls Try.prog 72 #[.slice (some ⟨g, 0, none⟩) n c, .int .i64 20, .int .i64 n, clo p] w1 fun e w' =>
      e = .returned (.tuple #[]) ∧ (∃ M2 : List Int, M2.Perm (l.drop 20) ∧ M2.Pairwise lt ∧ Own IntS.E 3 w' w0.heap.size (.slice (some ⟨g, 0, none⟩) n c) (M1 ++ M2)) ∧ Grew w0 w' from fun M1 hp w1 hg1 ho1 => by
    have hm : M1.length = 20 := by rw [hp.length_eq, hl]
    refine (ins_any w0 Sp cmp lt p H.c H.tr M1 (l.drop 20) [] (H.o.sublist (List.drop_sublist _ _)) (fun x hx => H.s x (List.mem_of_mem_drop hx)) g n c (by rw [List.append_nil, List.length_append, hm, hd]; omega) (by omega) 20 n hm.symm (by rw [hm, hd]; omega) w1 hg1 (by simpa using ho1)).mono ?_
    rintro e w' ⟨he, ⟨M, h1, h2, h3⟩, h4⟩
    exact ⟨he, ⟨M, h1, h2, by simpa using h3⟩, h4⟩)
  have HT3 := Lib.hid (show 20 < n → ∀ M1 M2 : List Int, M1.Perm (l.take 20) → M2.Perm (l.drop 20) → M1.Pairwise lt → M2.Pairwise lt → ∀ w1, Grew w0 w1 → Own IntS.E 3 w1 w0.heap.size (.slice (some ⟨g, 0, none⟩) n c) (M1 ++ M2) → Calls Try.prog 73 #[.slice (some ⟨g, 0, none⟩) n c, .int .i64 0, .int .i64 20, .int .i64 n, clo p] w1 fun e w' =>
      e = .returned (.tuple #[]) ∧ (∃ M : List Int, M.Perm l ∧ M.Pairwise lt ∧ Own IntS.E 3 w' w0.heap.size (.slice (some ⟨g, 0, none⟩) n c) M) ∧ Grew w0 w' from fun h M1 M2 p1 p2 s1 s2 w1 hg1 ho1 => by
    have hm : M1.length = 20 := by rw [p1.length_eq, hl]
    have hm2 : M2.length = n - 20 := by rw [p2.length_eq, hd]
    refine (merge_any w0 Sp cmp lt p H.c 30 [] M1 M2 [] (by omega) (okp_ordr H.tr H.o p1 p2 s1 s2) (fun x hx => H.s x (List.mem_of_mem_take (p1.mem_iff.1 hx))) (fun x hx => H.s x (List.mem_of_mem_drop (p2.mem_iff.1 hx))) (by omega) (by omega) g n c (by simp only [List.length_append, List.length_nil]; omega) (by omega) 0 20 n rfl (by rw [hm]; rfl) (by rw [hm, hm2]; simp only [List.length_nil]; omega) w1 hg1 (by simpa using ho1)).mono ?_
    rintro e w' ⟨he, ⟨M, h1, h2, h3⟩, h4⟩
    refine ⟨he, ⟨M, ?_, h2, by simpa using h3⟩, h4⟩
    have h5 := h1.trans (p1.append p2)
    rw [List.take_append_drop] at h5
    exact h5)
  have HE := Lib.hid (show ¬ 20 < n → ∀ M1 M2 : List Int, M1.Perm (l.take 20) → M2.Perm (l.drop 20) → M1.Pairwise lt → M2.Pairwise lt → (M1 ++ M2).Perm l ∧ (M1 ++ M2).Pairwise lt from fun h M1 M2 p1 p2 s1 s2 => by
    have hm2 : M2 = [] := List.eq_nil_of_length_eq_zero (by rw [p2.length_eq, hd]; omega)
    subst hm2
    rw [List.append_nil]
    rw [List.take_of_length_le (by omega)] at p1
    exact ⟨p1, s1⟩)
  clear hg hown H hl hd hn
  go_enter Try.func62, Try.ntmps62
  go_wp2_with fail
  go_loopw [7, 8] (fun a b wr => (a = .int .i64 0 ∧ b = .int .i64 20 ∧ w = wr) ∨ (a = .int .i64 20 ∧ b = .int .i64 40 ∧ ∃ M1 : List Int, M1.Perm (l.take 20) ∧ M1.Pairwise lt ∧ Grew w0 wr ∧ Own IntS.E 3 wr w0.heap.size (.slice (some ⟨g, 0, none⟩) n c) ([] ++ (M1 ++ l.drop 20)))) (fun _ b _ => 100 - (intOf b).toNat)
  case atStart => exact .inl ⟨rfl, rfl, rfl⟩
  case round =>
    rcases hrel with ⟨rfl, rfl, rfl⟩ | ⟨rfl, rfl, M1, hp1, hs1, hg1, ho1⟩
    · go_wp2_with fail
      refine HT1.out.mono ?_
      rintro e w1 ⟨rfl, ⟨M1, hp1, hs1, ho1⟩, hg1⟩
      have HP1 := Lib.hid hp1
      have HS1 := Lib.hid hs1
      have HO1 := Lib.hid ho1
      have HG1 := Lib.hid hg1
      clear hp1 hs1 ho1 hg1
      go_wp2_with fail
      go_roundw
      case rel => go_light; exact .inr ⟨rfl, rfl, M1, HP1.out, HS1.out, HG1.out, HO1.out⟩
      case measure => go_light; simp [intOf]
    · have HP1 := Lib.hid hp1
      have HS1 := Lib.hid hs1
      have HO1 := Lib.hid ho1
      have HG1 := Lib.hid hg1
      clear hp1 hs1 ho1 hg1
      go_wp2_with fail
      refine (HT2.out M1 HP1.out _ HG1.out HO1.out).mono ?_
      rintro e w1 ⟨rfl, ⟨M2, hp2, hs2, ho2⟩, hg2⟩
      have HP2 := Lib.hid hp2
      have HS2 := Lib.hid hs2
      have HO2 := Lib.hid ho2
      have HG2 := Lib.hid hg2
      clear hp2 hs2 ho2 hg2
      go_wp2_with fail
      go_loopw [6] (fun b wr => (b = .int .i64 20 ∧ w1 = wr) ∨ (b = .int .i64 40 ∧ (∃ M : List Int, M.Perm l ∧ M.Pairwise lt ∧ Own IntS.E 3 wr w0.heap.size (.slice (some ⟨g, 0, none⟩) n c) M) ∧ Grew w0 wr)) (fun b _ => 100 - (intOf b).toNat)
      case atStart => exact .inl ⟨rfl, rfl⟩
      case round =>
        rcases hrel with ⟨rfl, rfl⟩ | ⟨rfl, hm, hg3⟩
        · by_cases h2 : 20 < n
          · have HM := Lib.hid (HT3.out h2 M1 M2 HP1.out HP2.out HS1.out HS2.out)
            clear HT1 HT2 HT3 HE
            go_wp2_with fail
            obtain ⟨wo, hwo⟩ : ∃ wo : World, wo = w1 := ⟨_, rfl⟩
            subst hwo
            go_loopw [7, 8] (fun a b wr => a = .int .i64 0 ∧ b = .int .i64 40 ∧ wo = wr) (fun _ _ _ => 0)
            case atStart => exact ⟨rfl, rfl, rfl⟩
            case round =>
              obtain ⟨rfl, rfl, rfl⟩ := hrel
              go_wp2_with fail
              refine (HM.out _ HG2.out HO2.out).mono ?_
              rintro e w2 ⟨rfl, hm, hg3⟩
              have HM3 := Lib.hid hm
              have HG3 := Lib.hid hg3
              clear hm hg3
              go_wp2_with fail
              go_roundw
              case rel => go_light; exact .inr ⟨rfl, HM3.out, HG3.out⟩
              case measure => go_light; simp [intOf]
          · have HM := Lib.hid (HE.out h2 M1 M2 HP1.out HP2.out HS1.out HS2.out)
            go_wp2_with fail
            (try simp only [Exit.inBlock, Exit.then])
            refine bodyPost_end (results_none rfl _ _ _) rfl ?_
            go_light
            exact ⟨rfl, ⟨_, HM.out.1, HM.out.2, HO2.out⟩, HG2.out⟩
        · have HM := Lib.hid hm
          have HG3 := Lib.hid hg3
          clear hm hg3
          go_wp2_with fail
          (try simp only [Exit.inBlock, Exit.then])
          refine bodyPost_end (results_none rfl _ _ _) rfl ?_
          go_light
          exact ⟨rfl, HM.out, HG3.out⟩

/-- The stable sort of at most 30 numbers: the sorted permutation. -/
theorem stable_any (w0 : World) (Sp : Int → Prop) (cmp : Int → Int → Int) (lt : Int → Int → Prop) (p : Addr) (l : List Int) (H : Srt w0 Sp cmp lt p l) (A : Option Addr) (n c : Nat) (hn : n = l.length) (h30 : n ≤ 30)
    (w : World) (hg : Grew w0 w) (hown : Own IntS.E 3 w w0.heap.size (.slice A n c) l) :
    Calls Try.prog 62 #[.slice A n c, .int .i64 n, clo p] w fun e w' =>
      e = .returned (.tuple #[]) ∧ (∃ M : List Int, M.Perm l ∧ M.Pairwise lt ∧ Own IntS.E 3 w' w0.heap.size (.slice A n c) M) ∧ Grew w0 w' := by
  rcases Nat.lt_or_ge n 20 with h | h
  · exact stable_few w0 Sp cmp lt p l H A n c hn h w hg hown
  · subst hn
    obtain ⟨g, c', e, _, _⟩ := hown.addr (by omega)
    simp only [Value.slice.injEq, true_and] at e
    obtain ⟨rfl, rfl⟩ := e
    exact stable_two w0 Sp cmp lt p l H g l.length c rfl h h30 w hg hown

set_option maxRecDepth 100000 in
set_option maxHeartbeats 8000000 in
theorem sortStable_any (w0 : World) (Sp : Int → Prop) (cmp : Int → Int → Int) (lt : Int → Int → Prop) (p : Addr) (l : List Int) (H : Srt w0 Sp cmp lt p l) (A : Option Addr) (n c : Nat) (hn : n = l.length) (h30 : n ≤ 30)
    (w : World) (hg : Grew w0 w) (hown : Own IntS.E 3 w w0.heap.size (.slice A n c) l) :
    Calls Try.prog 52 #[.slice A n c, clo p] w fun e w' =>
      e = .returned (.tuple #[]) ∧ (∃ M : List Int, M.Perm l ∧ M.Pairwise lt ∧ Own IntS.E 3 w' w0.heap.size (.slice A n c) M) ∧ Grew w0 w' := by
  have HT := Lib.hid (stable_any w0 Sp cmp lt p l H A n c hn h30 w hg hown)
  clear hg hown H hn
  go_enter Try.func52, Try.ntmps52
  go_wp2_with fail
  refine HT.out.mono ?_
  rintro e w1 ⟨rfl, hm, hg1⟩
  go_wp2_with fail
  (try simp only [Exit.inBlock, Exit.then])
  refine bodyPost_end (results_none rfl _ _ _) rfl ?_
  go_light
  exact ⟨rfl, hm, hg1⟩
end Go.Proofs.Ytembbgkhmnalpaa
