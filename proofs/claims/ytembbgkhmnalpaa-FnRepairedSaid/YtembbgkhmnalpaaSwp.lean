/- The library's swapRange and rotate on numbers: parts of a slice change places. Conditions: none. -/
import Derived.Test.YtembbgkhmnalpaaBef
import Derived.Test.YtembbgkhmnalpaaOwn
namespace Go.Proofs.Ytembbgkhmnalpaa
open Go.RowKit Go.ChangeShapes Go.WideShapes Go.Deep
set_option linter.unusedVariables false
set_option linter.unusedSimpArgs false

theorem get_mid {T : Type} (P X S : List T) (x : T) : (P ++ x :: S)[P.length]? = some x := by
  rw [List.getElem?_append_right (Nat.le_refl _)]; simp
theorem set_mid {T : Type} (P S : List T) (x y : T) : (P ++ x :: S).set P.length y = P ++ y :: S := by
  rw [List.set_append_right _ _ (Nat.le_refl _)]; simp
/-- One swap of two places. -/
theorem swap_mid {T : Type} (P Q S : List T) (x y : T) : ((P ++ x :: (Q ++ y :: S)).set P.length y).set (P.length + 1 + Q.length) x = P ++ y :: (Q ++ x :: S) := by
  rw [set_mid]
  have h := set_mid (P ++ y :: Q) S y x
  simp only [List.length_append, List.length_cons] at h
  have e : P.length + (Q.length + 1) = P.length + 1 + Q.length := by omega
  rw [e] at h
  simpa using h
theorem swap_at {T : Type} {P Q S : List T} {x y : T} {a b : Nat} (ha : P.length = a) (hb : P.length + 1 + Q.length = b) : ((P ++ x :: (Q ++ y :: S)).set a y).set b x = P ++ y :: (Q ++ x :: S) := by
  subst ha; subst hb; exact swap_mid P Q S x y
theorem get_mid2 {T : Type} (P Q S : List T) (x y : T) : (P ++ x :: (Q ++ y :: S))[P.length + 1 + Q.length]? = some y := by
  have h := get_mid (P ++ x :: Q) [] S y
  simp only [List.length_append, List.length_cons] at h
  have e : P.length + (Q.length + 1) = P.length + 1 + Q.length := by omega
  rw [e] at h
  simpa using h

set_option maxRecDepth 100000 in
set_option maxHeartbeats 8000000 in
theorem swap_any (w0 : World) (f : Value) (P X Q Y S : List Int) (hXY : X.length = Y.length) (g n c : Nat) (hn : n = (P ++ (X ++ (Q ++ (Y ++ S)))).length) (h30 : n ≤ 1000) (a b k : Nat) (ha : a = P.length) (hb : b = P.length + X.length + Q.length) (hk : k = X.length)
    (w : World) (hg : Grew w0 w) (hown : Own IntS.E 3 w w0.heap.size (.slice (some ⟨g, 0, none⟩) n c) (P ++ (X ++ (Q ++ (Y ++ S))))) :
    Calls Try.prog 77 #[.slice (some ⟨g, 0, none⟩) n c, .int .i64 a, .int .i64 b, .int .i64 k, f] w fun e w' =>
      e = .returned (.tuple #[]) ∧ Own IntS.E 3 w' w0.heap.size (.slice (some ⟨g, 0, none⟩) n c) (P ++ (Y ++ (Q ++ (X ++ S)))) ∧ Grew w0 w' := by
  have HO := Lib.hid hown
  have HG := Lib.hid hg
  have HXY := Lib.hid hXY
  have hnb : a + k ≤ n ∧ b + k ≤ n ∧ a + k ≤ b := by
    rw [hn, ha, hb, hk]
    simp only [List.length_append]
    omega
  have HA := Lib.hid ha
  have HB := Lib.hid hb
  have HK := Lib.hid hk
  clear hown hg hXY ha hb hk hn
  obtain ⟨hn1, hn2, hn3⟩ := hnb
  go_enter Try.func77, Try.ntmps77
  go_wp2_with fail
  go_loopw [10] (fun i wr => ∃ j : Nat, j ≤ k ∧ i = .int .i64 j ∧ Grew w0 wr ∧ Own IntS.E 3 wr w0.heap.size (.slice (some ⟨g, 0, none⟩) n c) ((P ++ Y.take j) ++ (X.drop j ++ ((Q ++ X.take j) ++ (Y.drop j ++ S))))) (fun i _ => k - (intOf i).toNat)
  case atStart => exact ⟨0, Nat.zero_le _, rfl, HG.out, by simpa using HO.out⟩
  case round =>
    obtain ⟨j, hj, rfl, hg, hown⟩ := hrel
    have HGJ := Lib.hid hg
    have HOJ := Lib.hid hown
    clear hg hown HO HG
    by_cases hlt : j < k
    · have hxl : j < X.length := by have := HK.out; omega
      have hyl : j < Y.length := by have := HXY.out; omega
      obtain ⟨x, hx⟩ : ∃ x, X[j]? = some x := ⟨_, List.getElem?_eq_getElem hxl⟩
      obtain ⟨y, hy⟩ : ∃ y, Y[j]? = some y := ⟨_, List.getElem?_eq_getElem hyl⟩
      have hdx : X.drop j = x :: X.drop (j + 1) := by rw [List.drop_eq_getElem_cons hxl]; congr 1; exact (List.getElem?_eq_some_iff.1 hx).2
      have hdy : Y.drop j = y :: Y.drop (j + 1) := by rw [List.drop_eq_getElem_cons hyl]; congr 1; exact (List.getElem?_eq_some_iff.1 hy).2
      have e1 : (P ++ Y.take j) ++ (X.drop j ++ ((Q ++ X.take j) ++ (Y.drop j ++ S))) = (P ++ Y.take j) ++ x :: ((X.drop (j + 1) ++ (Q ++ X.take j)) ++ y :: (Y.drop (j + 1) ++ S)) := by rw [hdx, hdy]; simp
      have e2 : (P ++ Y.take (j + 1)) ++ (X.drop (j + 1) ++ ((Q ++ X.take (j + 1)) ++ (Y.drop (j + 1) ++ S))) = (P ++ Y.take j) ++ y :: ((X.drop (j + 1) ++ (Q ++ X.take j)) ++ x :: (Y.drop (j + 1) ++ S)) := by
        rw [List.take_add_one, List.take_add_one, hx, hy]; simp
      obtain ⟨P', hP'⟩ : ∃ P', P' = P ++ Y.take j := ⟨_, rfl⟩
      obtain ⟨Q', hQ'⟩ : ∃ Q', Q' = X.drop (j + 1) ++ (Q ++ X.take j) := ⟨_, rfl⟩
      obtain ⟨S', hS'⟩ : ∃ S', S' = Y.drop (j + 1) ++ S := ⟨_, rfl⟩
      have hla : P'.length = a + j := by rw [hP', List.length_append, List.length_take, HA.out]; omega
      have hlb : P'.length + 1 + Q'.length = b + j := by rw [hla, hQ', HB.out, HA.out]; simp only [List.length_append, List.length_drop, List.length_take]; omega
      have e1' := HOJ.out
      rw [e1, ← hP', ← hQ', ← hS'] at e1'
      rw [← hP', ← hQ', ← hS'] at e2
      have g1 := get_mid P' [] (Q' ++ y :: S') x
      have g2 := get_mid2 P' Q' S' x y
      rw [hla] at g1
      rw [hlb] at g2
      have HO1 := Lib.hid e1'
      have hc0 : wr.cell? ⟨g, a + j, none⟩ = some (.int .i64 x) := by have := HO1.out.at_ g1 (j := 0) (u := .int .i64 x) rfl; simpa [IntS.E] using this
      have hc1 : wr.cell? ⟨g, b + j, none⟩ = some (.int .i64 y) := by have := HO1.out.at_ g2 (j := 0) (u := .int .i64 y) rfl; simpa [IntS.E] using this
      have hf := HO1.out.frozen
      have hs1 := HO1.out.set_ (i := a + j) (j := 0) (x' := y) (u := .int .i64 y) g1 rfl (by decide)
      rw [show (a + j) * IntS.E.sz + 0 = a + j by simp [IntS.E]] at hs1
      have hs2 := hs1.set_ (i := b + j) (j := 0) (x := y) (x' := x) (u := .int .i64 x) (by rw [List.getElem?_set_ne (by omega)]; exact g2) rfl (by decide)
      rw [show (b + j) * IntS.E.sz + 0 = b + j by simp [IntS.E], swap_at hla hlb, ← e2] at hs2
      rw [hS'] at hs2
      have HS2 := Lib.hid hs2
      have hgb := (HO1.out.block g rfl).1
      have HG2 := Lib.hid ((HGJ.out.setCell (p := ⟨g, a + j, none⟩) hgb (.int .i64 y)).setCell (p := ⟨g, b + j, none⟩) hgb (.int .i64 x))
      have hz1 : ((a : Int) + (j : Int)).toNat = a + j := by omega
      have hz2 : ((b : Int) + (j : Int)).toNat = b + j := by omega
      have hz3 : (a : Int) + (j : Int) < (n : Int) := by omega
      have hz4 : (b : Int) + (j : Int) < (n : Int) := by omega
      have hz5 : (0 : Int) ≤ (a : Int) + (j : Int) := by omega
      have hz6 : (0 : Int) ≤ (b : Int) + (j : Int) := by omega
      clear hx hy hdx hdy e1 e2 hP' hQ' hS' hla hlb e1' g1 g2 hs1 hs2
      go_wp2_with fail
      go_region
      go_wp2_with fail
      go_roundw
      case rel => go_light; exact ⟨j + 1, by omega, by go_num, HG2.out.drew, HS2.out.drew⟩
      case measure => go_light; simp [intOf]; omega
    · obtain rfl : j = k := by omega
      have hfin : (P ++ Y.take j) ++ (X.drop j ++ ((Q ++ X.take j) ++ (Y.drop j ++ S))) = P ++ (Y ++ (Q ++ (X ++ S))) := by
        rw [List.take_of_length_le (by rw [← HXY.out, ← HK.out]; exact Nat.le_refl _), List.drop_eq_nil_of_le (by rw [← HK.out]; exact Nat.le_refl _), List.take_of_length_le (by rw [← HK.out]; exact Nat.le_refl _), List.drop_eq_nil_of_le (by rw [← HXY.out, ← HK.out]; exact Nat.le_refl _)]
        simp
      have HFI := Lib.hid hfin
      clear hfin
      go_wp2_with fail
      refine bodyPost_end (results_none rfl _ _ _) rfl ?_
      exact ⟨rfl, by rw [← HFI.out]; exact HOJ.out, HGJ.out⟩

set_option maxRecDepth 100000 in
set_option maxHeartbeats 8000000 in
theorem rotate_any (w0 : World) (f : Value) (P X Y S : List Int) (hX : 0 < X.length) (hY : 0 < Y.length) (g n c : Nat) (hn : n = (P ++ (X ++ (Y ++ S))).length) (h30 : n ≤ 1000) (a m b : Nat) (ha : a = P.length) (hm : m = P.length + X.length) (hb : b = P.length + X.length + Y.length)
    (w : World) (hg : Grew w0 w) (hown : Own IntS.E 3 w w0.heap.size (.slice (some ⟨g, 0, none⟩) n c) (P ++ (X ++ (Y ++ S)))) :
    Calls Try.prog 76 #[.slice (some ⟨g, 0, none⟩) n c, .int .i64 a, .int .i64 m, .int .i64 b, f] w fun e w' =>
      e = .returned (.tuple #[]) ∧ Own IntS.E 3 w' w0.heap.size (.slice (some ⟨g, 0, none⟩) n c) (P ++ (Y ++ (X ++ S))) ∧ Grew w0 w' := by
  obtain ⟨R, hR⟩ : ∃ R, R = P ++ (Y ++ (X ++ S)) := ⟨_, rfl⟩
  rw [← hR]
  have HSTART := Lib.hid (show ∃ (P' X' Y' S' : List Int), 0 < X'.length ∧ 0 < Y'.length ∧ P'.length + X'.length = m ∧ X'.length = X.length ∧ Y'.length = Y.length ∧ n = (P' ++ (X' ++ (Y' ++ S'))).length ∧ P' ++ (Y' ++ (X' ++ S')) = R ∧ Own IntS.E 3 w w0.heap.size (.slice (some ⟨g, 0, none⟩) n c) (P' ++ (X' ++ (Y' ++ S'))) from ⟨P, X, Y, S, hX, hY, hm.symm, rfl, rfl, hn, hR.symm, hown⟩)
  have HG := Lib.hid hg
  have hmn : m ≤ n ∧ b ≤ n ∧ a ≤ m ∧ m ≤ b := by
    rw [hn, hm, hb, ha]
    simp only [List.length_append]
    omega
  have hma : m - a = X.length := by omega
  have hbm : b - m = Y.length := by omega
  clear hX hY hn ha hm hb hown hg hR
  obtain ⟨hmn1, hmn2, hmn3, hmn4⟩ := hmn
  obtain ⟨i0, hi0⟩ : ∃ i, i = X.length := ⟨_, rfl⟩
  obtain ⟨j0, hj0⟩ : ∃ i, i = Y.length := ⟨_, rfl⟩
  rw [← hi0] at HSTART hma
  rw [← hj0] at HSTART hbm
  have hsub1 : (m : Int) - (a : Int) = (i0 : Int) := by omega
  have hsub2 : (b : Int) - (m : Int) = (j0 : Int) := by omega
  clear hi0 hj0
  go_enter Try.func76, Try.ntmps76
  go_wp2_with fail
  go_loopw [10, 11] (fun iv jv wr => ∃ (i j : Nat) (P' X' Y' S' : List Int), iv = .int .i64 i ∧ jv = .int .i64 j ∧ 0 < i ∧ 0 < j ∧ X'.length = i ∧ Y'.length = j ∧ P'.length + i = m ∧ n = (P' ++ (X' ++ (Y' ++ S'))).length ∧ P' ++ (Y' ++ (X' ++ S')) = R ∧ Own IntS.E 3 wr w0.heap.size (.slice (some ⟨g, 0, none⟩) n c) (P' ++ (X' ++ (Y' ++ S'))) ∧ Grew w0 wr) (fun iv jv _ => (intOf iv).toNat + (intOf jv).toNat)
  case atStart =>
    obtain ⟨P', X', Y', S', h1, h2, h3, h4, h5, h6, h7, h8⟩ := HSTART.out
    exact ⟨i0, j0, P', X', Y', S', rfl, rfl, by omega, by omega, h4, h5, by omega, h6, h7, h8, HG.out⟩
  case round =>
    obtain ⟨i, j, P', X', Y', S', rfl, rfl, hi, hj, hxl, hyl, hpm, hnl, hR, hown, hg⟩ := hrel
    have HO := Lib.hid hown
    have HGR := Lib.hid hg
    have HXL := Lib.hid hxl
    have HYL := Lib.hid hyl
    have HPM := Lib.hid hpm
    have HNL := Lib.hid hnl
    have HRR := Lib.hid hR
    have hlen : m + j ≤ n := by
      rw [hnl]
      simp only [List.length_append]
      omega
    have him : i ≤ m := by omega
    clear hown hg hxl hyl hpm hnl hR HSTART HG
    have hs1 : (m : Int) - (i : Int) = ((m - i : Nat) : Int) := by omega
    rcases Nat.lt_trichotomy i j with hij | rfl | hij
    · have hne : ((i : Int) != (j : Int)) = true := by simp; omega
      have hgt : ¬ ((j : Int) < (i : Int)) := by omega
      have hs2 : (m : Int) + (j : Int) - (i : Int) = ((m + j - i : Nat) : Int) := by omega
      have HT := Lib.hid (swap_any w0 f P' X' (Y'.take (j - i)) (Y'.drop (j - i)) S' (by rw [List.length_drop, HXL.out, HYL.out]; omega) g n c (by
          rw [HNL.out]; simp only [List.length_append, List.length_take, List.length_drop]; have := HYL.out; omega) h30 (m - i) (m + j - i) i (by have := HPM.out; omega) (by rw [List.length_take, HXL.out, HYL.out]; have := HPM.out; omega) HXL.out.symm)
      have HOE := Lib.hid (show P' ++ (X' ++ (Y' ++ S')) = P' ++ (X' ++ (Y'.take (j - i) ++ (Y'.drop (j - i) ++ S'))) by rw [← List.append_assoc (Y'.take (j - i)), List.take_append_drop])
      go_wp2_with (go_at_call 77; refine (HT.out _ HGR.out (HOE.out ▸ HO.out)).mono ?_; rintro e w1 ⟨rfl, ho1, hg1⟩)
      go_roundw
      case rel =>
        go_light
        refine ⟨i, j - i, P', Y'.drop (j - i), Y'.take (j - i), X' ++ S', rfl, by go_num, hi, by omega, by rw [List.length_drop, HYL.out]; omega, by rw [List.length_take, HYL.out]; omega, HPM.out, ?_, ?_, by simpa using ho1, hg1⟩
        · rw [HNL.out]; simp only [List.length_append, List.length_take, List.length_drop]; have := HYL.out; omega
        · rw [← HRR.out, ← List.append_assoc (Y'.take (j - i)), List.take_append_drop]
      case measure => go_light; simp [intOf]; omega
    · have hne : ((i : Int) != (i : Int)) = false := by simp
      have HT := Lib.hid (swap_any w0 f P' X' [] Y' S' (by rw [HXL.out, HYL.out]) g n c (by rw [HNL.out]; simp) h30 (m - i) m i (by have := HPM.out; omega) (by rw [HXL.out]; have := HPM.out; simp; omega) HXL.out.symm)
      go_wp2_with (go_at_call 77; refine (HT.out _ HGR.out (by simpa using HO.out)).mono ?_; rintro e w1 ⟨rfl, ho1, hg1⟩)
      refine bodyPost_end (results_none rfl _ _ _) rfl ?_
      exact ⟨rfl, by rw [← HRR.out]; simpa using ho1, hg1⟩
    · have hne : ((i : Int) != (j : Int)) = true := by simp; omega
      have hgt : (j : Int) < (i : Int) := by omega
      have HT := Lib.hid (swap_any w0 f P' (X'.take j) (X'.drop j) Y' S' (by rw [List.length_take, HXL.out, HYL.out]; omega) g n c (by
          rw [HNL.out]; simp only [List.length_append, List.length_take, List.length_drop]; have := HXL.out; omega) h30 (m - i) m j (by have := HPM.out; omega) (by rw [List.length_take, List.length_drop, HXL.out]; have := HPM.out; omega) (by rw [List.length_take, HXL.out]; omega))
      have HOE := Lib.hid (show P' ++ (X' ++ (Y' ++ S')) = P' ++ (X'.take j ++ (X'.drop j ++ (Y' ++ S'))) by rw [← List.append_assoc (X'.take j), List.take_append_drop])
      go_wp2_with (go_at_call 77; refine (HT.out _ HGR.out (HOE.out ▸ HO.out)).mono ?_; rintro e w1 ⟨rfl, ho1, hg1⟩)
      go_roundw
      case rel =>
        go_light
        refine ⟨i - j, j, P' ++ Y', X'.drop j, X'.take j, S', by go_num, rfl, by omega, hj, by rw [List.length_drop, HXL.out], by rw [List.length_take, HXL.out]; omega, by rw [List.length_append, HYL.out]; have := HPM.out; omega, ?_, ?_, by simpa using ho1, hg1⟩
        · rw [HNL.out]; simp only [List.length_append, List.length_take, List.length_drop]; have := HXL.out; omega
        · rw [← HRR.out, List.append_assoc, ← List.append_assoc (X'.take j), List.take_append_drop]
      case measure => go_light; simp [intOf]; omega
end Go.Proofs.Ytembbgkhmnalpaa
