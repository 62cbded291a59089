/- The library's symMerge on numbers: two sorted parts of a slice become one. Conditions: none. -/
import Derived.Test.YtembbgkhmnalpaaSwp
namespace Go.Proofs.Ytembbgkhmnalpaa
open Go.RowKit Go.ChangeShapes Go.WideShapes Go.Deep
set_option linter.unusedVariables false
set_option linter.unusedSimpArgs false

/-- A comparison of numbers of S by the closure, at every world that has grown out of w0. -/
def CmpIs (S : Int → Prop) (cmp : Int → Int → Int) (p : Addr) (w0 : World) : Prop :=
  ∀ a b, S a → S b → ∀ w', Grew w0 w' → Calls Try.prog 53 #[.int .i64 a, .int .i64 b, .pointer (some p)] w' fun e w'' => e = .returned (.int .i64 (cmp a b)) ∧ Grew w' w''
theorem CmpIs.at_ {S : Int → Prop} {cmp : Int → Int → Int} {p : Addr} {w0 : World} (h : CmpIs S cmp p w0) {a b v : Int} (hv : cmp a b = v) (ha : S a) (hb : S b) {w' : World} (hg : Grew w0 w') :
    Calls Try.prog 53 #[.int .i64 a, .int .i64 b, .pointer (some p)] w' fun e w'' => e = .returned (.int .i64 v) ∧ Grew w' w'' := hv ▸ h a b ha hb w' hg
abbrev clo (p : Addr) : Value := .func (.func 53) #[] #[.pointer (some p)]
/-- What is asked of the order: it is one, and across the parts the comparison tells it. -/
structure Ordr (lt : Int → Int → Prop) (cmp : Int → Int → Int) (A B : List Int) : Prop where
  tr : ∀ a b c, lt a b → lt b c → lt a c
  sa : A.Pairwise lt
  sb : B.Pairwise lt
  c1 : ∀ x ∈ A, ∀ y ∈ B, cmp y x < 0 → lt y x
  c2 : ∀ x ∈ A, ∀ y ∈ B, ¬ cmp y x < 0 → lt x y
theorem pw_at {lt : Int → Int → Prop} {A : List Int} (h : A.Pairwise lt) {i j : Nat} {x y : Int} (hx : A[i]? = some x) (hy : A[j]? = some y) (hij : i < j) : lt x y := by
  have h1 := List.pairwise_iff_getElem.1 h i j (List.getElem?_eq_some_iff.1 hx).1 (List.getElem?_eq_some_iff.1 hy).1 hij
  rw [(List.getElem?_eq_some_iff.1 hx).2, (List.getElem?_eq_some_iff.1 hy).2] at h1
  exact h1
theorem put_sorted {lt : Int → Int → Prop} {B : List Int} {x : Int} {t : Nat} (hb : B.Pairwise lt) (h1 : ∀ y ∈ B.take t, lt y x) (h2 : ∀ y ∈ B.drop t, lt x y) (tr : ∀ a b c, lt a b → lt b c → lt a c) : (B.take t ++ x :: B.drop t).Pairwise lt := by
  rw [List.pairwise_append]
  refine ⟨hb.sublist (List.take_sublist _ _), List.pairwise_cons.2 ⟨h2, hb.sublist (List.drop_sublist _ _)⟩, fun a ha b hb2 => ?_⟩
  rcases List.mem_cons.1 hb2 with rfl | hb2
  · exact h1 a ha
  · exact tr a x b (h1 a ha) (h2 b hb2)
theorem put_perm {B : List Int} {x : Int} {t : Nat} : (B.take t ++ x :: B.drop t).Perm (x :: B) := by
  have := List.perm_middle (a := x) (l₁ := B.take t) (l₂ := B.drop t)
  rw [List.take_append_drop] at this
  exact this
theorem mem_take_lt {B : List Int} {t : Nat} {y : Int} (h : y ∈ B.take t) : ∃ i, i < t ∧ B[i]? = some y := by
  obtain ⟨i, hi⟩ := List.mem_iff_getElem?.1 h
  rw [List.getElem?_take] at hi
  split at hi
  · exact ⟨i, by assumption, hi⟩
  · cases hi
theorem mem_drop_ge {B : List Int} {t : Nat} {y : Int} (h : y ∈ B.drop t) : ∃ i, t ≤ i ∧ B[i]? = some y := by
  obtain ⟨i, hi⟩ := List.mem_iff_getElem?.1 h
  rw [List.getElem?_drop] at hi
  exact ⟨t + i, by omega, hi⟩

set_option maxRecDepth 100000 in
set_option maxHeartbeats 8000000 in
theorem merge_one (w0 : World) (Sp : Int → Prop) (cmp : Int → Int → Int) (lt : Int → Int → Prop) (p : Addr) (hc : CmpIs Sp cmp p w0) (P B S : List Int) (x : Int) (ho : Ordr lt cmp [x] B) (hx : Sp x) (hB : ∀ y ∈ B, Sp y) (hB0 : 0 < B.length) (g n c : Nat) (hn : n = (P ++ (x :: (B ++ S))).length) (h30 : n ≤ 1000) (a m b : Nat) (ha : a = P.length) (hm : m = P.length + 1) (hb : b = P.length + 1 + B.length)
    (w : World) (hg : Grew w0 w) (hown : Own IntS.E 3 w w0.heap.size (.slice (some ⟨g, 0, none⟩) n c) (P ++ (x :: (B ++ S)))) :
    Calls Try.prog 73 #[.slice (some ⟨g, 0, none⟩) n c, .int .i64 a, .int .i64 m, .int .i64 b, clo p] w fun e w' =>
      e = .returned (.tuple #[]) ∧ (∃ M : List Int, M.Perm (x :: B) ∧ M.Pairwise lt ∧ Own IntS.E 3 w' w0.heap.size (.slice (some ⟨g, 0, none⟩) n c) (P ++ (M ++ S))) ∧ Grew w0 w' := by
  have HO := Lib.hid hown
  have HG := Lib.hid hg
  have HC := Lib.hid hc
  have HR := Lib.hid ho
  have HSX := Lib.hid hx
  have HSB := Lib.hid hB
  have hbn : b ≤ n := by rw [hn, hb]; simp only [List.length_append, List.length_cons]; omega
  have HA := Lib.hid ha
  have HM := Lib.hid hm
  have HB := Lib.hid hb
  have hsub : (m : Int) - (a : Int) = 1 := by omega
  have HBM := Lib.hid (show b = m + B.length by omega)
  have hmb : m < b := by omega
  have HMA := Lib.hid (show m = a + 1 by omega)
  have ham : a < m := by omega
  clear hown hg hc ho hx hB ha hm hb hn
  go_enter Try.func73, Try.ntmps73
  go_wp2_with fail
  go_loopw [10, 11, 12] (fun iv jv _ wr => ∃ u v : Nat, m ≤ u ∧ u ≤ v ∧ v ≤ b ∧ iv = .int .i64 u ∧ jv = .int .i64 v ∧ (∀ t y, m + t < u → B[t]? = some y → lt y x) ∧ (∀ t y, v ≤ m + t → B[t]? = some y → lt x y) ∧ Own IntS.E 3 wr w0.heap.size (.slice (some ⟨g, 0, none⟩) n c) (P ++ (x :: (B ++ S))) ∧ Grew w0 wr) (fun iv jv _ _ => (intOf jv).toNat - (intOf iv).toNat)
  case atStart => exact ⟨m, b, Nat.le_refl _, by omega, Nat.le_refl _, rfl, rfl, fun t y h => by omega, fun t y h hy => by have := (List.getElem?_eq_some_iff.1 hy).1; have := HBM.out; omega, HO.out, HG.out⟩
  case round =>
    obtain ⟨u, v, hu, huv, hv, rfl, rfl, hlo, hhi, hown, hg⟩ := hrel
    have HLO := Lib.hid hlo
    have HHI := Lib.hid hhi
    have HOW := Lib.hid hown
    have HGW := Lib.hid hg
    clear hlo hhi hown hg HO HG
    by_cases hlt : u < v
    · obtain ⟨h, hh⟩ : ∃ h, h = (u + v) / 2 := ⟨_, rfl⟩
      have hhu : u ≤ h ∧ h < v := by omega
      obtain ⟨hhu1, hhu2⟩ := hhu
      have hhi2 : ((u : Int) + (v : Int)) / 2 = (h : Int) := by omega
      have hhb : h - m < B.length := by have := HBM.out; omega
      obtain ⟨y, hy⟩ : ∃ y, B[h - m]? = some y := ⟨_, List.getElem?_eq_getElem hhb⟩
      have gx : (P ++ (x :: (B ++ S)))[a]? = some x := by rw [HA.out]; exact get_mid P [] (B ++ S) x
      have gy : (P ++ (x :: (B ++ S)))[h]? = some y := by
        have e : h = P.length + 1 + (h - m) := by have := HA.out; have := HMA.out; omega
        rw [e, List.getElem?_append_right (by omega), show P.length + 1 + (h - m) - P.length = (h - m) + 1 by omega, List.getElem?_cons_succ, List.getElem?_append_left hhb]
        exact hy
      have hcx := IntS.at_ (w := wr) (b := g) (o := 0) (l := P ++ (x :: (B ++ S))) (fun i z hz j u hu => by have := HOW.out.at_ hz hu; simpa using this) gx
      have hcy := IntS.at_ (w := wr) (b := g) (o := 0) (l := P ++ (x :: (B ++ S))) (fun i z hz j u hu => by have := HOW.out.at_ hz hu; simpa using this) gy
      rw [Nat.zero_add] at hcx hcy
      have hb1 : (h : Int) < (n : Int) := by omega
      have hb2 : (a : Int) < (n : Int) := by omega
      have HY := Lib.hid hy
      obtain ⟨cv, hcv⟩ : ∃ cv, cmp y x = cv := ⟨_, rfl⟩
      have HCV := Lib.hid hcv
      have HYM := Lib.hid (List.mem_of_getElem? hy)
      clear hy gx gy hcv hh
      by_cases hneg : cv < 0
      · have hd : decide (cv < 0) = true := decide_eq_true hneg
        have hlt2 : lt y x := HR.out.c1 x (List.mem_singleton_self x) y HYM.out (by rw [HCV.out]; exact hneg)
        have HN := Lib.hid (show ∀ t z, m + t < h + 1 → B[t]? = some z → lt z x from fun t z ht hz => by
          rcases Nat.lt_or_ge t (h - m) with h9 | h9
          · exact HR.out.tr _ _ _ (pw_at HR.out.sb hz HY.out h9) hlt2
          · obtain rfl : t = h - m := by omega
            rw [HY.out] at hz
            obtain rfl : y = z := Option.some.inj hz
            exact hlt2)
        clear hlt2
        go_wp2_with fail
        (refine wp_region_grow_lit (by kernel_rfl) (by kernel_rfl) ?_; repeat (any_goals (first | go_big_quiet_step ((go_at_call 53; exact quiet_grew (HC.out.at_ HCV.out (HSB.out y HYM.out) HSX.out (HGW.out.trans (gw_grew _ _))))) | quiet_step ((go_at_call 53; exact quiet_grew (HC.out.at_ HCV.out (HSB.out y HYM.out) HSX.out (HGW.out.trans (gw_grew _ _))))) | (refine wpQuiet_step (fun K hK => ?_); go_simp; split <;> rename_i hsp <;> (refine hK _ ?_; clear hK K) <;> (try first | simp only [hsp, decide_true, decide_false, Bool.not_true, Bool.not_false] | simp only [Int.not_le.2 hsp, decide_false, Bool.not_false] | simp only [Int.not_lt.2 hsp, decide_false, Bool.not_false] | simp only [Nat.not_le.2 hsp, decide_false, Bool.not_false] | simp only [Nat.not_lt.2 hsp, decide_false, Bool.not_false])))))
        all_goals (refine wpQuiet_nil ?_; intro w1 h1)
        go_wp2_with fail
        go_roundw
        case rel => go_light; exact ⟨h + 1, v, by omega, by omega, hv, by go_num, rfl, HN.out, HHI.out, HOW.out.grew h1, HGW.out.trans h1⟩
        case measure => go_light; simp [intOf]; omega
      · have hd : decide (cv < 0) = false := decide_eq_false hneg
        have hlt2 : lt x y := HR.out.c2 x (List.mem_singleton_self x) y HYM.out (by rw [HCV.out]; exact hneg)
        have HN := Lib.hid (show ∀ t z, h ≤ m + t → B[t]? = some z → lt x z from fun t z ht hz => by
          rcases Nat.lt_or_ge (h - m) t with h9 | h9
          · exact HR.out.tr _ _ _ hlt2 (pw_at HR.out.sb HY.out hz h9)
          · obtain rfl : t = h - m := by omega
            rw [HY.out] at hz
            obtain rfl : y = z := Option.some.inj hz
            exact hlt2)
        clear hlt2
        go_wp2_with fail
        (refine wp_region_grow_lit (by kernel_rfl) (by kernel_rfl) ?_; repeat (any_goals (first | go_big_quiet_step ((go_at_call 53; exact quiet_grew (HC.out.at_ HCV.out (HSB.out y HYM.out) HSX.out (HGW.out.trans (gw_grew _ _))))) | quiet_step ((go_at_call 53; exact quiet_grew (HC.out.at_ HCV.out (HSB.out y HYM.out) HSX.out (HGW.out.trans (gw_grew _ _))))) | (refine wpQuiet_step (fun K hK => ?_); go_simp; split <;> rename_i hsp <;> (refine hK _ ?_; clear hK K) <;> (try first | simp only [hsp, decide_true, decide_false, Bool.not_true, Bool.not_false] | simp only [Int.not_le.2 hsp, decide_false, Bool.not_false] | simp only [Int.not_lt.2 hsp, decide_false, Bool.not_false] | simp only [Nat.not_le.2 hsp, decide_false, Bool.not_false] | simp only [Nat.not_lt.2 hsp, decide_false, Bool.not_false])))))
        all_goals (refine wpQuiet_nil ?_; intro w1 h1)
        go_wp2_with fail
        go_roundw
        case rel => go_light; exact ⟨u, h, hu, by omega, by omega, rfl, rfl, HLO.out, HN.out, HOW.out.grew h1, HGW.out.trans h1⟩
        case measure => go_light; simp [intOf]; omega
    · obtain rfl : u = v := by omega
      obtain ⟨t, ht⟩ : ∃ t, t = u - m := ⟨_, rfl⟩
      have hut : u = m + t := by omega
      have htl : t ≤ B.length := by have := HBM.out; omega
      have HSO := Lib.hid (put_sorted (t := t) HR.out.sb (fun y hy => by obtain ⟨i, hi, hy⟩ := mem_take_lt hy; exact HLO.out i y (by omega) hy) (fun y hy => by obtain ⟨i, hi, hy⟩ := mem_drop_ge hy; exact HHI.out i y (by omega) hy) HR.out.tr)
      have HUT := Lib.hid hut
      clear ht hut
      go_wp2_with fail
      go_loopw [13] (fun kv wr2 => ∃ q : Nat, q ≤ t ∧ kv = .int .i64 ((a + q : Nat) : Int) ∧ Own IntS.E 3 wr2 w0.heap.size (.slice (some ⟨g, 0, none⟩) n c) (P ++ (B.take q ++ (x :: (B.drop q ++ S)))) ∧ Grew w0 wr2) (fun kv _ => a + t - (intOf kv).toNat)
      case atStart => exact ⟨0, Nat.zero_le _, rfl, by simpa using HOW.out, HGW.out⟩
      case round =>
        obtain ⟨q, hq, rfl, hown, hg⟩ := hrel
        have HO2 := Lib.hid hown
        have HG2 := Lib.hid hg
        clear hown hg
        obtain ⟨k, hk⟩ : ∃ k, k = a + q := ⟨_, rfl⟩
        rw [← hk]
        by_cases hqt : q < t
        · obtain ⟨y, hy⟩ : ∃ y, B[q]? = some y := ⟨_, List.getElem?_eq_getElem (by omega)⟩
          have hqb : q < B.length := by omega
          have hdy : B.drop q = y :: B.drop (q + 1) := by rw [List.drop_eq_getElem_cons hqb]; congr 1; exact (List.getElem?_eq_some_iff.1 hy).2
          have e1 : P ++ (B.take q ++ (x :: (B.drop q ++ S))) = (P ++ B.take q) ++ x :: ([] ++ y :: (B.drop (q + 1) ++ S)) := by rw [hdy]; simp
          have e2 : P ++ (B.take (q + 1) ++ (x :: (B.drop (q + 1) ++ S))) = (P ++ B.take q) ++ y :: ([] ++ x :: (B.drop (q + 1) ++ S)) := by rw [List.take_add_one, hy]; simp
          have hla : (P ++ B.take q).length = k := by rw [List.length_append, List.length_take, hk, HA.out]; omega
          have hlb : (P ++ B.take q).length + 1 + ([] : List Int).length = k + 1 := by rw [hla]; rfl
          have g1 := get_mid (P ++ B.take q) [] ([] ++ y :: (B.drop (q + 1) ++ S)) x
          have g2 := get_mid2 (P ++ B.take q) [] (B.drop (q + 1) ++ S) x y
          rw [hla] at g1
          rw [hlb] at g2
          have HO3 := Lib.hid (e1 ▸ HO2.out)
          have hc0 : wr.cell? ⟨g, k, none⟩ = some (.int .i64 x) := by have := HO3.out.at_ g1 (j := 0) (u := .int .i64 x) rfl; simpa [IntS.E] using this
          have hc1 : wr.cell? ⟨g, k + 1, none⟩ = some (.int .i64 y) := by have := HO3.out.at_ g2 (j := 0) (u := .int .i64 y) rfl; simpa [IntS.E] using this
          have hf := HO3.out.frozen
          have hs1 := HO3.out.set_ (i := k) (j := 0) (x' := y) (u := .int .i64 y) g1 rfl (by decide)
          rw [show k * IntS.E.sz + 0 = k by simp [IntS.E]] at hs1
          have hs2 := hs1.set_ (i := k + 1) (j := 0) (x := y) (x' := x) (u := .int .i64 x) (by rw [List.getElem?_set_ne (by omega)]; exact g2) rfl (by decide)
          rw [show (k + 1) * IntS.E.sz + 0 = k + 1 by simp [IntS.E], swap_at hla hlb, ← e2] at hs2
          have HS2 := Lib.hid hs2
          have hgb := (HO3.out.block g rfl).1
          have HG3 := Lib.hid ((HG2.out.setCell (p := ⟨g, k, none⟩) hgb (.int .i64 y)).setCell (p := ⟨g, k + 1, none⟩) hgb (.int .i64 x))
          have hz1 : ((k : Int) + 1).toNat = k + 1 := by omega
          have hz3 : (k : Int) + 1 < (n : Int) := by have := HMA.out; have := HBM.out; have := HUT.out; omega
          have hz4 : (k : Int) < (n : Int) := by omega
          have hz5 : (0 : Int) ≤ (k : Int) + 1 := by omega
          have hz6 : (k : Int) < (u : Int) - 1 := by have := HMA.out; have := HUT.out; omega
          have HKQ := Lib.hid hk
          clear hy hdy e1 e2 hla hlb g1 g2 hs1 hs2 hk
          go_wp2_with fail
          go_region
          go_wp2_with fail
          go_roundw
          case rel => go_light; exact ⟨q + 1, by omega, congrArg (Value.int .i64) (by have := HKQ.out; push_cast; omega), HS2.out.drew, HG3.out.drew⟩
          case measure => go_light; simp [intOf]; have := HKQ.out; omega
        · obtain rfl : q = t := by omega
          have hz6 : ¬ ((k : Int) < (u : Int) - 1) := by have := HMA.out; have := HUT.out; omega
          clear hk
          go_wp2_with fail
          refine bodyPost_ret (results_none rfl _ _ _) rfl ?_
          exact ⟨rfl, ⟨_, put_perm, HSO.out, by simpa using HO2.out⟩, HG2.out⟩

theorem swap_at2 {T : Type} {P Q S : List T} {x y : T} {a b : Nat} (ha : P.length = a) (hb : P.length + 1 + Q.length = b) : ((P ++ x :: (Q ++ y :: S)).set b x).set a y = P ++ y :: (Q ++ x :: S) := by
  rw [List.set_comm _ _ (by omega)]
  exact swap_at ha hb
set_option maxRecDepth 100000 in
set_option maxHeartbeats 8000000 in
theorem merge_last (w0 : World) (Sp : Int → Prop) (cmp : Int → Int → Int) (lt : Int → Int → Prop) (p : Addr) (hc : CmpIs Sp cmp p w0) (P A S : List Int) (y : Int) (ho : Ordr lt cmp A [y]) (hy : Sp y) (hA : ∀ x ∈ A, Sp x) (hA0 : 2 ≤ A.length) (g n c : Nat) (hn : n = (P ++ (A ++ (y :: S))).length) (h30 : n ≤ 1000) (a m b : Nat) (ha : a = P.length) (hm : m = P.length + A.length) (hb : b = P.length + A.length + 1)
    (w : World) (hg : Grew w0 w) (hown : Own IntS.E 3 w w0.heap.size (.slice (some ⟨g, 0, none⟩) n c) (P ++ (A ++ (y :: S)))) :
    Calls Try.prog 73 #[.slice (some ⟨g, 0, none⟩) n c, .int .i64 a, .int .i64 m, .int .i64 b, clo p] w fun e w' =>
      e = .returned (.tuple #[]) ∧ (∃ M : List Int, M.Perm (A ++ [y]) ∧ M.Pairwise lt ∧ Own IntS.E 3 w' w0.heap.size (.slice (some ⟨g, 0, none⟩) n c) (P ++ (M ++ S))) ∧ Grew w0 w' := by
  have HO := Lib.hid hown
  have HG := Lib.hid hg
  have HC := Lib.hid hc
  have HR := Lib.hid ho
  have HSY := Lib.hid hy
  have HSA := Lib.hid hA
  have hbn : b ≤ n := by rw [hn, hb]; simp only [List.length_append, List.length_cons]; omega
  have HA := Lib.hid ha
  have HMA := Lib.hid (show m = a + A.length by omega)
  have hsub : (b : Int) - (m : Int) = 1 := by omega
  have hma : (((m : Int) - (a : Int)) == 1) = false := by simp; omega
  have hmb : m < b := by omega
  have ham : a < m := by omega
  clear hown hg hc ho hy hA ha hm hb hn
  go_enter Try.func73, Try.ntmps73
  go_wp2_with fail
  go_loopw [14, 15, 16] (fun iv jv _ wr => ∃ u v : Nat, a ≤ u ∧ u ≤ v ∧ v ≤ m ∧ iv = .int .i64 u ∧ jv = .int .i64 v ∧ (∀ t z, a + t < u → A[t]? = some z → lt z y) ∧ (∀ t z, v ≤ a + t → A[t]? = some z → lt y z) ∧ Own IntS.E 3 wr w0.heap.size (.slice (some ⟨g, 0, none⟩) n c) (P ++ (A ++ (y :: S))) ∧ Grew w0 wr) (fun iv jv _ _ => (intOf jv).toNat - (intOf iv).toNat)
  case atStart => exact ⟨a, m, Nat.le_refl _, by omega, Nat.le_refl _, rfl, rfl, fun t z h => by omega, fun t z h hz => by have := (List.getElem?_eq_some_iff.1 hz).1; have := HMA.out; omega, HO.out, HG.out⟩
  case round =>
    obtain ⟨u, v, hu, huv, hv, rfl, rfl, hlo, hhi, hown, hg⟩ := hrel
    have HLO := Lib.hid hlo
    have HHI := Lib.hid hhi
    have HOW := Lib.hid hown
    have HGW := Lib.hid hg
    clear hlo hhi hown hg HO HG
    by_cases hlt : u < v
    · obtain ⟨h, hh⟩ : ∃ h, h = (u + v) / 2 := ⟨_, rfl⟩
      have hhu : u ≤ h ∧ h < v := by omega
      obtain ⟨hhu1, hhu2⟩ := hhu
      have hhi2 : ((u : Int) + (v : Int)) / 2 = (h : Int) := by omega
      have hhb : h - a < A.length := by have := HMA.out; omega
      obtain ⟨z, hz⟩ : ∃ z, A[h - a]? = some z := ⟨_, List.getElem?_eq_getElem hhb⟩
      have gy : (P ++ (A ++ (y :: S)))[m]? = some y := by
        have := get_mid (P ++ A) [] S y
        rw [List.length_append, ← HA.out, ← HMA.out] at this
        simpa using this
      have gz : (P ++ (A ++ (y :: S)))[h]? = some z := by
        have e : h = P.length + (h - a) := by have := HA.out; omega
        rw [e, List.getElem?_append_right (by omega), show P.length + (h - a) - P.length = h - a by omega, List.getElem?_append_left hhb]
        exact hz
      have hcy := IntS.at_ (w := wr) (b := g) (o := 0) (l := P ++ (A ++ (y :: S))) (fun i z hz j u hu => by have := HOW.out.at_ hz hu; simpa using this) gy
      have hcz := IntS.at_ (w := wr) (b := g) (o := 0) (l := P ++ (A ++ (y :: S))) (fun i z hz j u hu => by have := HOW.out.at_ hz hu; simpa using this) gz
      rw [Nat.zero_add] at hcy hcz
      have hb1 : (h : Int) < (n : Int) := by omega
      have hb2 : (m : Int) < (n : Int) := by omega
      have HZ := Lib.hid hz
      obtain ⟨cv, hcv⟩ : ∃ cv, cmp y z = cv := ⟨_, rfl⟩
      have HCV := Lib.hid hcv
      have HZM := Lib.hid (List.mem_of_getElem? hz)
      clear hz gy gz hcv hh
      by_cases hneg : cv < 0
      · have hd : decide (cv < 0) = true := decide_eq_true hneg
        have hlt2 : lt y z := HR.out.c1 z HZM.out y (List.mem_singleton_self y) (by rw [HCV.out]; exact hneg)
        have HN := Lib.hid (show ∀ t x, h ≤ a + t → A[t]? = some x → lt y x from fun t x ht hx => by
          rcases Nat.lt_or_ge (h - a) t with h9 | h9
          · exact HR.out.tr _ _ _ hlt2 (pw_at HR.out.sa HZ.out hx h9)
          · obtain rfl : t = h - a := by omega
            rw [HZ.out] at hx
            obtain rfl : z = x := Option.some.inj hx
            exact hlt2)
        clear hlt2
        go_wp2_with fail
        (refine wp_region_grow_lit (by kernel_rfl) (by kernel_rfl) ?_; repeat (any_goals (first | go_big_quiet_step ((go_at_call 53; exact quiet_grew (HC.out.at_ HCV.out HSY.out (HSA.out z HZM.out) (HGW.out.trans (gw_grew _ _))))) | quiet_step ((go_at_call 53; exact quiet_grew (HC.out.at_ HCV.out HSY.out (HSA.out z HZM.out) (HGW.out.trans (gw_grew _ _))))) | (refine wpQuiet_step (fun K hK => ?_); go_simp; split <;> rename_i hsp <;> (refine hK _ ?_; clear hK K) <;> (try first | simp only [hsp, decide_true, decide_false, Bool.not_true, Bool.not_false] | simp only [Int.not_le.2 hsp, decide_false, Bool.not_false] | simp only [Int.not_lt.2 hsp, decide_false, Bool.not_false] | simp only [Nat.not_le.2 hsp, decide_false, Bool.not_false] | simp only [Nat.not_lt.2 hsp, decide_false, Bool.not_false])))))
        all_goals (refine wpQuiet_nil ?_; intro w1 h1)
        go_wp2_with fail
        go_roundw
        case rel => go_light; exact ⟨u, h, hu, by omega, by omega, rfl, rfl, HLO.out, HN.out, HOW.out.grew h1, HGW.out.trans h1⟩
        case measure => go_light; simp [intOf]; omega
      · have hd : decide (cv < 0) = false := decide_eq_false hneg
        have hlt2 : lt z y := HR.out.c2 z HZM.out y (List.mem_singleton_self y) (by rw [HCV.out]; exact hneg)
        have HN := Lib.hid (show ∀ t x, a + t < h + 1 → A[t]? = some x → lt x y from fun t x ht hx => by
          rcases Nat.lt_or_ge t (h - a) with h9 | h9
          · exact HR.out.tr _ _ _ (pw_at HR.out.sa hx HZ.out h9) hlt2
          · obtain rfl : t = h - a := by omega
            rw [HZ.out] at hx
            obtain rfl : z = x := Option.some.inj hx
            exact hlt2)
        clear hlt2
        go_wp2_with fail
        (refine wp_region_grow_lit (by kernel_rfl) (by kernel_rfl) ?_; repeat (any_goals (first | go_big_quiet_step ((go_at_call 53; exact quiet_grew (HC.out.at_ HCV.out HSY.out (HSA.out z HZM.out) (HGW.out.trans (gw_grew _ _))))) | quiet_step ((go_at_call 53; exact quiet_grew (HC.out.at_ HCV.out HSY.out (HSA.out z HZM.out) (HGW.out.trans (gw_grew _ _))))) | (refine wpQuiet_step (fun K hK => ?_); go_simp; split <;> rename_i hsp <;> (refine hK _ ?_; clear hK K) <;> (try first | simp only [hsp, decide_true, decide_false, Bool.not_true, Bool.not_false] | simp only [Int.not_le.2 hsp, decide_false, Bool.not_false] | simp only [Int.not_lt.2 hsp, decide_false, Bool.not_false] | simp only [Nat.not_le.2 hsp, decide_false, Bool.not_false] | simp only [Nat.not_lt.2 hsp, decide_false, Bool.not_false])))))
        all_goals (refine wpQuiet_nil ?_; intro w1 h1)
        go_wp2_with fail
        go_roundw
        case rel => go_light; exact ⟨h + 1, v, by omega, by omega, hv, by go_num, rfl, HN.out, HHI.out, HOW.out.grew h1, HGW.out.trans h1⟩
        case measure => go_light; simp [intOf]; omega
    · obtain rfl : u = v := by omega
      obtain ⟨t, ht⟩ : ∃ t, t = u - a := ⟨_, rfl⟩
      have hut : u = a + t := by omega
      have htl : t ≤ A.length := by have := HMA.out; omega
      have HSO := Lib.hid (put_sorted (t := t) HR.out.sa (fun x hx => by obtain ⟨i, hi, hx⟩ := mem_take_lt hx; exact HLO.out i x (by omega) hx) (fun x hx => by obtain ⟨i, hi, hx⟩ := mem_drop_ge hx; exact HHI.out i x (by omega) hx) HR.out.tr)
      have HUT := Lib.hid hut
      clear ht hut
      go_wp2_with fail
      go_loopw [17] (fun kv wr2 => ∃ q : Nat, t ≤ q ∧ q ≤ A.length ∧ kv = .int .i64 ((a + q : Nat) : Int) ∧ Own IntS.E 3 wr2 w0.heap.size (.slice (some ⟨g, 0, none⟩) n c) (P ++ (A.take q ++ (y :: (A.drop q ++ S)))) ∧ Grew w0 wr2) (fun kv _ => (intOf kv).toNat)
      case atStart => exact ⟨A.length, htl, Nat.le_refl _, congrArg (Value.int .i64) (by have := HMA.out; omega), by simpa using HOW.out, HGW.out⟩
      case round =>
        obtain ⟨q, hq, hql, rfl, hown, hg⟩ := hrel
        have HO2 := Lib.hid hown
        have HG2 := Lib.hid hg
        clear hown hg
        obtain ⟨k, hk⟩ : ∃ k, k = a + q := ⟨_, rfl⟩
        rw [← hk]
        by_cases hqt : t < q
        · obtain ⟨r, rfl⟩ : ∃ r, q = r + 1 := ⟨q - 1, by omega⟩
          have hqb : r < A.length := by omega
          obtain ⟨z, hz⟩ : ∃ z, A[r]? = some z := ⟨_, List.getElem?_eq_getElem hqb⟩
          obtain ⟨k', rfl⟩ : ∃ k', k = k' + 1 := ⟨k - 1, by omega⟩
          have hdz : A.drop r = z :: A.drop (r + 1) := by rw [List.drop_eq_getElem_cons hqb]; congr 1; exact (List.getElem?_eq_some_iff.1 hz).2
          have e1 : P ++ (A.take (r + 1) ++ (y :: (A.drop (r + 1) ++ S))) = (P ++ A.take r) ++ z :: ([] ++ y :: (A.drop (r + 1) ++ S)) := by rw [List.take_add_one, hz]; simp
          have e2 : P ++ (A.take r ++ (y :: (A.drop r ++ S))) = (P ++ A.take r) ++ y :: ([] ++ z :: (A.drop (r + 1) ++ S)) := by rw [hdz]; simp
          have hla : (P ++ A.take r).length = k' := by rw [List.length_append, List.length_take]; have := HA.out; omega
          have hlb : (P ++ A.take r).length + 1 + ([] : List Int).length = k' + 1 := by rw [hla]; rfl
          have g1 := get_mid (P ++ A.take r) [] ([] ++ y :: (A.drop (r + 1) ++ S)) z
          have g2 := get_mid2 (P ++ A.take r) [] (A.drop (r + 1) ++ S) z y
          rw [hla] at g1
          rw [hlb] at g2
          have HO3 := Lib.hid (e1 ▸ HO2.out)
          have hc0 : wr.cell? ⟨g, k', none⟩ = some (.int .i64 z) := by have := HO3.out.at_ g1 (j := 0) (u := .int .i64 z) rfl; simpa [IntS.E] using this
          have hc1 : wr.cell? ⟨g, k' + 1, none⟩ = some (.int .i64 y) := by have := HO3.out.at_ g2 (j := 0) (u := .int .i64 y) rfl; simpa [IntS.E] using this
          have hf := HO3.out.frozen
          have hs1 := HO3.out.set_ (i := k' + 1) (j := 0) (x' := z) (u := .int .i64 z) g2 rfl (by decide)
          rw [show (k' + 1) * IntS.E.sz + 0 = k' + 1 by simp [IntS.E]] at hs1
          have hs2 := hs1.set_ (i := k') (j := 0) (x := z) (x' := y) (u := .int .i64 y) (by rw [List.getElem?_set_ne (by omega)]; exact g1) rfl (by decide)
          rw [show k' * IntS.E.sz + 0 = k' by simp [IntS.E], swap_at2 hla hlb, ← e2] at hs2
          have HS2 := Lib.hid hs2
          have hgb := (HO3.out.block g rfl).1
          have HG3 := Lib.hid ((HG2.out.setCell (p := ⟨g, k' + 1, none⟩) hgb (.int .i64 z)).setCell (p := ⟨g, k', none⟩) hgb (.int .i64 y))
          have hpc : ((k' + 1 : Nat) : Int) = (k' : Int) + 1 := by omega
          rw [hpc]
          have hz0 : IntKind.i64.wrap ((k' : Int) + 1 - 1) = (k' : Int) := by rw [IntKind.wrap_i64]; have := HMA.out; omega
          have hz1 : ((k' : Int) + 1).toNat = k' + 1 := by omega
          have hz3 : (k' : Int) + 1 < (n : Int) := by have := HMA.out; omega
          have hz4 : (k' : Int) < (n : Int) := by omega
          have hz5 : (0 : Int) ≤ (k' : Int) + 1 := by omega
          have hz6 : (u : Int) < (k' : Int) + 1 := by have := HUT.out; omega
          have HKQ := Lib.hid hk
          clear hz hdz e1 e2 hla hlb g1 g2 hs1 hs2 hk hpc
          go_wp2_with fail
          go_region
          go_wp2_with fail
          go_roundw
          case rel => go_light; exact ⟨r, by omega, by omega, congrArg (Value.int .i64) (by have := HKQ.out; omega), HS2.out.drew, HG3.out.drew⟩
          case measure => go_light; simp [intOf] <;> omega
        · obtain rfl : q = t := by omega
          have hz6 : ¬ ((u : Int) < (k : Int)) := by have := HUT.out; omega
          clear hk
          go_wp2_with fail
          refine bodyPost_ret (results_none rfl _ _ _) rfl ?_
          exact ⟨rfl, ⟨_, put_perm.trans (List.perm_append_singleton y A).symm, HSO.out, by simpa using HO2.out⟩, HG2.out⟩
end Go.Proofs.Ytembbgkhmnalpaa
