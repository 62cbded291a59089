/- The program's order with the fewest late tasks returns what the plain function returns. Conditions: none. -/
import Derived.Test.YteckhmbkagigjaaFewP
import Derived.Test.YteckhmbkagigjaaLayC
import Derived.Shelf.Slices.Delete
namespace Go.Proofs.Yteckhmbkagigjaa
open Go.RowKit Go.ChangeShapes Go.WideShapes Go.Deep Go.Sort
set_option linter.unusedVariables false
set_option linter.unusedSimpArgs false

theorem take_putI (cur : Array Value) (ts : List Int) (h : ts.length ≤ cur.size) : (putCells (Value.int .i64) 0 ts.toArray cur).toList.take ts.length = ts.map (Value.int .i64) := by
  apply List.ext_getElem?
  intro j
  by_cases hj : j < ts.length
  · rw [List.getElem?_take_of_lt hj, Array.getElem?_toList]
    simp [putCells, hj, show j < cur.size by omega]
  · rw [List.getElem?_take_eq_none (by omega), List.getElem?_eq_none (by simp; omega)]
theorem delete_any (l : List Int) (i g c base : Nat) (w : World) (h : Own IntS.E 3 w base (.slice (some ⟨g, 0, none⟩) l.length c) l) (hi : i < l.length) :
    Calls Try.prog 48 #[.slice (some ⟨g, 0, none⟩) l.length c, .int .i64 i, .int .i64 (i + 1 : Nat)] w fun e w' => e = .returned (.slice (some ⟨g, 0, none⟩) (l.length - 1) c) ∧
      Own IntS.E 3 w' base (.slice (some ⟨g, 0, none⟩) (l.length - 1) c) (l.eraseIdx i) ∧ w.grownBy w' (some g) := by
  obtain ⟨h0, h1⟩ := h
  rcases h1 with ⟨he, hz⟩ | ⟨g', cap, cur, he, hbg, hb, hnc, hcm, hcs, ht⟩
  · simp at he
  simp only [Value.slice.injEq, Option.some.injEq, Addr.mk.injEq, true_and, and_true] at he
  obtain ⟨rfl, rfl⟩ := he
  have hsz : IntS.E.sz = 1 := rfl
  rw [hsz, Nat.mul_one] at ht hcs
  rw [flat_ints] at ht
  have hH : Holds (Value.int .i64) w g 0 l.toArray := by
    intro j hj
    have hj' : j < l.length := by simpa using hj
    refine ⟨?_, by simp [World.frozen?, hb]⟩
    have h1 : (cur.toList.take l.length)[j]? = (l.map (Value.int .i64))[j]? := by rw [ht]
    rw [List.getElem?_take_of_lt hj'] at h1
    simp only [World.cell?, hb, Nat.zero_add]
    simp only [Option.isSome_none, Bool.false_eq_true, if_false]
    rw [← Array.getElem?_toList, h1]
    simp [hj']
  have hc := Any.slices_Delete_int Yteckhmbkagigjaalays23 g 0 c i (i + 1) l w hH hnc (by simpa [maxLen] using hcm) (by omega) hi
  rw [show i + 1 - i = 1 by omega] at hc
  refine hc.mono ?_
  rintro e w' ⟨he, q, rfl⟩
  have hl1 : (l.take i ++ l.drop (i + 1) ++ List.replicate 1 0).length = l.length := by simp; omega
  have hle : l.eraseIdx i = l.take i ++ l.drop (i + 1) := List.eraseIdx_eq_take_drop_succ l i
  refine ⟨he, ⟨by rw [flat_ints, List.length_map, List.length_eraseIdx_of_lt hi, hsz, Nat.mul_one], .inr ⟨g, c, putCells (Value.int .i64) 0 (l.take i ++ l.drop (i + 1) ++ List.replicate 1 0).toArray cur, by rw [List.length_eraseIdx_of_lt hi], hbg, ?_, by rw [List.length_eraseIdx_of_lt hi]; omega, hcm, by simp [putCells, hcs, hsz], ?_⟩⟩, ?_⟩
  · simp [putRow, mapBlock, Sort.ahead, Array.getElem?_modify, hb, onCells]
  · have h2 := take_putI cur (l.take i ++ l.drop (i + 1) ++ List.replicate 1 0) (by rw [hl1, hcs]; exact hnc)
    rw [hl1] at h2
    have h3 := congrArg (List.take (l.length - 1)) h2
    rw [List.take_take, Nat.min_eq_left (by omega)] at h3
    rw [List.length_eraseIdx_of_lt hi, hsz, Nat.mul_one, h3, flat_ints, hle, ← List.map_take]
    congr 1
    rw [List.take_append_of_le_length (by simp; omega), List.take_of_length_le (by simp; omega)]
  · refine ⟨rfl, rfl, rfl, by simp [putRow, mapBlock, Sort.ahead], fun k hk hne => ?_⟩
    have : g ≠ k := fun e => hne (by rw [e])
    simp [putRow, mapBlock, Sort.ahead, Array.getElem?_modify, this]
theorem deleteE {l : List Int} {n : Nat} (hl : l.length = n) (i g c base : Nat) (w : World) (h : Own IntS.E 3 w base (.slice (some ⟨g, 0, none⟩) n c) l) (hi : i < n) :
    Calls Try.prog 48 #[.slice (some ⟨g, 0, none⟩) n c, .int .i64 i, .int .i64 ((i : Int) + 1)] w fun e w' => e = .returned (.slice (some ⟨g, 0, none⟩) (n - 1) c) ∧
      Own IntS.E 3 w' base (.slice (some ⟨g, 0, none⟩) (n - 1) c) (l.eraseIdx i) ∧ w.grownBy w' (some g) := by
  subst hl
  exact delete_any l i g c base w h hi

set_option maxRecDepth 100000 in
set_option maxHeartbeats 16000000 in
theorem fewest_impl (l : List Tsk) (A : Option Addr) (c : Nat) (w : World) (h : Rd Tsk.E w A l) (hn : l.length ≤ 4194304) :
    Calls Try.prog 35 #[.slice A l.length c] w fun e w' => ∃ A' c', e = .returned (.slice A' (flF l).length c') ∧ Own IntS.E 3 w' w.heap.size (.slice A' (flF l).length c') (flF l) ∧ Grew w w' := by
  have HL := Lib.hid h
  have HFF := Lib.hid (show flF l = (flTo l (ordF dueC l) (ordF dueC l).length).1 ++ (flTo l (ordF dueC l) (ordF dueC l).length).2.1 from rfl)
  obtain ⟨os, hos⟩ : ∃ os, os = ordF dueC l := ⟨_, rfl⟩
  have HOS := Lib.hid hos
  have ho8 : os.length ≤ 8 := hos ▸ ordF_le dueC l
  have HOM := Lib.hid (show ∀ x ∈ os, ∃ j : Nat, j < l.length ∧ x = j from fun x hx => ordF_mem (hos ▸ hx))
  have HAT := Lib.hid (show 0 < os.length → areT l = true from fun hp => by
    cases hv : areT l
    · rw [hos, ordF, hv] at hp
      simp at hp
    · rfl)
  rw [← hos] at HFF
  clear h hos
  go_enter Try.func35, Try.ntmps35
  go_wp2_with fail
  have HK0 := Lib.hid (show Own IntS.E 3 ((w.alloc (.cells #[] 3)).alloc (.cells #[] 3)) w.heap.size (.slice (some ⟨w.heap.size, 0, none⟩) 0 0) ([] : List Int) from (Own.new_ (Nat.le_refl _)).alloc _)
  have HL0 := Lib.hid (show Own IntS.E 3 ((w.alloc (.cells #[] 3)).alloc (.cells #[] 3)) w.heap.size (.slice (some ⟨w.heap.size + 1, 0, none⟩) 0 0) ([] : List Int) from by
    have := Own.new_ (E := IntS.E) (t := 3) (w := w.alloc (.cells #[] 3)) (base := w.heap.size) (by simp)
    simpa using this)
  refine (earliest_impl l A c _ (HL.out.grew (by (repeat (with_reducible first | exact Grew.refl _ | assumption | apply Grew.alloc | apply Grew.drew | apply Grew.drewN | (refine Grew.setCell ?_ (by simp; try omega) _) | (refine Grew.trans ?_ (by assumption)))))) hn).mono ?_; rintro e w1 ⟨Ao, co, rfl, ho1, hg1⟩
  have HB := Lib.hid (show FL w w1 (.slice (some ⟨w.heap.size, 0, none⟩) 0 0) (.slice (some ⟨w.heap.size + 1, 0, none⟩) 0 0) (.slice Ao os.length co) [] [] os from by
    rw [← HOS.out] at ho1
    refine ⟨HK0.out.grew hg1, HL0.out.grew hg1, ho1.mono (by simp; omega), ?_, ?_, ?_, ((((Grew.refl w).alloc _).alloc _).trans hg1)⟩
    · intro k h1 h2
      simp only [Value.ownBlock, Option.some.injEq] at h1 h2
      omega
    · exact Sep.low (n := w.heap.size + 2) (fun k hk => by simp only [Value.ownBlock, Option.some.injEq] at hk; omega) (fun k hk => by have := (ho1.block k hk).1; simp at this; omega)
    · exact Sep.low (n := w.heap.size + 2) (fun k hk => by simp only [Value.ownBlock, Option.some.injEq] at hk; omega) (fun k hk => by have := (ho1.block k hk).1; simp at this; omega))
  have HOS2 := Lib.hid (show (ordF dueC l).length = os.length by rw [HOS.out])
  rw [HOS2.out]
  clear ho1 hg1 HK0 HL0
  go_wp2_with fail
  go_loopw [3, 4, 5, 16] (fun v u t i wr => ∃ (k : Nat) (K L : Option Addr) (c1 c2 : Nat), k ≤ os.length ∧ i = .int .i64 k ∧ t = .int .i64 (flTo l os k).2.2 ∧ v = .slice K (flTo l os k).1.length c1 ∧ u = .slice L (flTo l os k).2.1.length c2 ∧ FL w wr v u (.slice Ao os.length co) (flTo l os k).1 (flTo l os k).2.1 os) (fun _ _ _ i _ => os.length - (intOf i).toNat)
  case atStart => exact ⟨0, _, _, _, _, Nat.zero_le _, rfl, rfl, rfl, rfl, HB.out⟩
  case round =>
    obtain ⟨k, K, L, c1, c2, hk, rfl, rfl, rfl, rfl, hfl⟩ := hrel
    have HF := Lib.hid hfl
    clear hfl HB
    by_cases hlt : k < os.length
    · obtain ⟨x, hx⟩ : ∃ x, os[k]? = some x := ⟨_, List.getElem?_eq_getElem hlt⟩
      have hat := HAT.out (by omega)
      have HST := Lib.hid (flTo_step (l := l) hx)
      have hok := flTo_ok hat HOM.out k hk
      obtain ⟨s, hs⟩ : ∃ s, s = flTo l os k := ⟨_, rfl⟩
      rw [← hs] at hok HF HST ⊢
      obtain ⟨jj, hjl, hjx⟩ := HOM.out x (List.mem_of_getElem? hx)
      subst hjx
      obtain ⟨y, hy⟩ : ∃ y, l[jj]? = some y := ⟨_, List.getElem?_eq_getElem hjl⟩
      have HTK := Lib.hid (show tk l (jj : Int) = y by simp [tk, List.getD_eq_getElem?_getD, hy])
      have hyt := tskOk_at ((areT_at hat).2 jj y hy)
      have hl8 := (areT_at hat).1
      obtain ⟨hym1, hym2⟩ := hyt.1
      obtain ⟨hyd1, hyd2⟩ := hyt.2.1
      obtain ⟨hst1, hst2⟩ := hok.t
      have hkl1 := hok.l1
      have hkl2 := hok.l2
      have HOK := Lib.hid hok
      obtain ⟨go, co', hv, hgo1, hgo2⟩ := HF.out.o.addr (by omega)
      simp only [Value.slice.injEq, true_and] at hv
      obtain ⟨rfl, rfl⟩ := hv
      have hoc : wr.cell? ⟨go, k, none⟩ = some (.int .i64 jj) := by have := HF.out.o.at_ hx (j := 0) (u := .int .i64 jj) rfl; simpa [IntS.E] using this
      obtain ⟨bl, o, rfl, hbl, hcl⟩ := HL.out.at_ hjl
      obtain ⟨hc0, hc1, hc2⟩ := Tsk.at_ hcl hy
      have HC0 := Lib.hid (fun (w' : World) (hw : Grew w w') => (hw.rules.1 bl _ hbl).trans hc0)
      have HC1 := Lib.hid (fun (w' : World) (hw : Grew w w') => (hw.rules.1 bl _ hbl).trans hc1)
      have HCL := Lib.hid hcl
      have hi1 : (0 : Int) ≤ (jj : Int) := by omega
      have hi2 : (jj : Int) < (l.length : Int) := by omega
      clear hs hx hy hyt hok hat hc0 hc1 hc2 hcl
      by_cases hle : s.2.2 + y.m ≤ y.d
      · have HS2 := Lib.hid (show flTo l os (k + 1) = (s.1 ++ [(jj : Int)], s.2.1, s.2.2 + y.m) by
          rw [HST.out, flStep, HTK.out, if_pos hle])
        go_wp2_with (at_builtin; refine wpList_append_rd _ rfl (.tmp 20) (.tmp 22) _ rfl sl_Int w.heap.size _ _ _ s.1 rfl (HF.out.grew ((Grew.refl wr).alloc _)).k _ _ _ [(jj : Int)] rfl rfl (rd_new (E := IntS.E) _ (jj : Int) _ rfl) (by simp only [List.length_cons, List.length_nil]; omega) (le_al HF.out.g rfl) ?_; intro A5 c5 w5 ho5 hgr5 hat5; have HF5 := Lib.hid ((HF.out.grew ((Grew.refl wr).alloc (.cells #[.int .i64 jj] 3))).toK ho5 hgr5 (by simpa using hat5)); have hcy0 := HC0.out _ HF5.out.g; have hcy1 := HC1.out _ HF5.out.g; clear ho5 hgr5 hat5)
        go_roundw
        case rel => go_light; exact ⟨k + 1, A5, L, c5, c2, by omega, by go_num, by rw [HS2.out], by rw [HS2.out]; simp, by rw [HS2.out], by rw [HS2.out]; exact HF5.out⟩
        case measure => go_light; simp [intOf]; omega
      · obtain ⟨ks, hks⟩ : ∃ ks, ks = s.1 ++ [(jj : Int)] := ⟨_, rfl⟩
        have hkn : ks.length = s.1.length + 1 := by rw [hks]; simp
        have HS2 := Lib.hid (show flTo l os (k + 1) = (ks.eraseIdx (longTo l ks (s.1.length + 1)), s.2.1 ++ [ks.getD (longTo l ks (s.1.length + 1)) 0], s.2.2 + y.m - (tk l (ks.getD (longTo l ks (s.1.length + 1)) 0)).m) by
          rw [HST.out, flStep, HTK.out, if_neg hle, hks])
        have HKM := Lib.hid (show ∀ x ∈ ks, ∃ j : Nat, j < l.length ∧ x = j from fun x hx => by
          rw [hks] at hx
          rcases List.mem_append.1 hx with hx | hx
          · exact HOK.out.m1 x hx
          · obtain rfl : x = jj := by simpa using hx
            exact ⟨jj, hjl, rfl⟩)
        have HKN := Lib.hid hkn
        have HKS := Lib.hid hks
        clear hks hkn
        go_upto_if 37 with (at_builtin; refine wpList_append_rd _ rfl (.tmp 20) (.tmp 22) _ rfl sl_Int w.heap.size _ _ _ s.1 rfl (HF.out.grew ((Grew.refl wr).alloc _)).k _ _ _ [(jj : Int)] rfl rfl (rd_new (E := IntS.E) _ (jj : Int) _ rfl) (by simp only [List.length_cons, List.length_nil]; omega) (le_al HF.out.g rfl) ?_; intro A5 c5 w5 ho5 hgr5 hat5; have HF5 := Lib.hid ((HF.out.grew ((Grew.refl wr).alloc (.cells #[.int .i64 jj] 3))).toK ho5 hgr5 (by simpa using hat5)); have hcy0 := HC0.out _ HF5.out.g; have hcy1 := HC1.out _ HF5.out.g; clear ho5 hgr5 hat5)
        clear hcy0 hcy1
        rw [← HKS.out] at HF5
        obtain ⟨gk, ck, hv, hgk1, hgk2⟩ := HF5.out.k.addr (by rw [HKN.out]; omega)
        simp only [Value.slice.injEq] at hv
        obtain ⟨rfl, hv2, rfl⟩ := hv
        clear hv2
        go_wp2_with fail
        go_loopw [8, 40] (fun m i wr => ∃ j : Nat, j ≤ s.1.length + 1 ∧ i = .int .i64 j ∧ m = .int .i64 (longTo l ks j) ∧ Grew w5 wr) (fun _ i _ => s.1.length + 1 - (intOf i).toNat)
        case atStart => exact ⟨0, Nat.zero_le _, rfl, rfl, Grew.refl _⟩
        case round =>
          obtain ⟨j, hj, rfl, rfl, hgj⟩ := hrel
          have HF6 := Lib.hid (HF5.out.grew hgj)
          have HGJ := Lib.hid hgj
          clear hgj HF5 hgk2
          by_cases hlj : j < s.1.length + 1
          · have hqj : longTo l ks j < s.1.length + 1 := by have := longTo_le l ks j; omega
            obtain ⟨q, hq⟩ : ∃ q, longTo l ks j = q := ⟨_, rfl⟩
            have HQ := Lib.hid hq
            rw [hq] at hqj ⊢
            obtain ⟨a, ha⟩ : ∃ a, ks[j]? = some a := ⟨_, List.getElem?_eq_getElem (by rw [HKN.out]; exact hlj)⟩
            obtain ⟨b, hb⟩ : ∃ b, ks[q]? = some b := ⟨_, List.getElem?_eq_getElem (by rw [HKN.out]; exact hqj)⟩
            obtain ⟨ja, hja, e1⟩ := HKM.out a (List.mem_of_getElem? ha)
            obtain ⟨jb, hjb, e2⟩ := HKM.out b (List.mem_of_getElem? hb)
            subst e1 e2
            obtain ⟨ta, hta⟩ : ∃ y, l[ja]? = some y := ⟨_, List.getElem?_eq_getElem hja⟩
            obtain ⟨tb, htb⟩ : ∃ y, l[jb]? = some y := ⟨_, List.getElem?_eq_getElem hjb⟩
            have HN := Lib.hid (show longTo l ks (j + 1) = if tb.m < ta.m then j else q by
              simp only [longTo, HQ.out, tk, List.getD_eq_getElem?_getD, ha, hb, Option.getD_some, Int.toNat_natCast, hta, htb])
            have hka : wr.cell? ⟨gk, j, none⟩ = some (.int .i64 ja) := by have := HF6.out.k.at_ ha (j := 0) (u := .int .i64 ja) rfl; simpa [IntS.E] using this
            have hkb : wr.cell? ⟨gk, q, none⟩ = some (.int .i64 jb) := by have := HF6.out.k.at_ hb (j := 0) (u := .int .i64 jb) rfl; simpa [IntS.E] using this
            have hta0 := (HF6.out.g.rules.1 bl _ hbl).trans (Tsk.at_ HCL.out hta).1
            have htb0 := (HF6.out.g.rules.1 bl _ hbl).trans (Tsk.at_ HCL.out htb).1
            have hz1 : (0 : Int) ≤ (ja : Int) := by omega
            have hz2 : (ja : Int) < (l.length : Int) := by omega
            have hz3 : (0 : Int) ≤ (jb : Int) := by omega
            have hz4 : (jb : Int) < (l.length : Int) := by omega
            have hz5 : (0 : Int) ≤ (j : Int) := by omega
            have hz6 : (j : Int) < ((s.1.length + 1 : Nat) : Int) := by omega
            have hz7 : (0 : Int) ≤ (q : Int) := by omega
            have hz8 : (q : Int) < ((s.1.length + 1 : Nat) : Int) := by omega
            clear ha hb hta htb hq
            by_cases hlm : tb.m < ta.m
            · have hd : decide (tb.m < ta.m) = true := decide_eq_true hlm
              have HN2 := Lib.hid (HN.out.trans (if_pos hlm))
              clear hlm
              go_wp2_with fail
              (refine wp_region_grow_lit (by kernel_rfl) (by kernel_rfl) ?_; repeat (any_goals (first | go_big_quiet_step ((fail)) | quiet_step ((fail)) | (refine wpQuiet_step (fun K hK => ?_); go_simp; split <;> rename_i hsp <;> (refine hK _ ?_; clear hK K) <;> (try first | simp only [hsp, decide_true, decide_false, Bool.not_true, Bool.not_false] | simp only [Int.not_le.2 hsp, decide_false, Bool.not_false] | simp only [Int.not_lt.2 hsp, decide_false, Bool.not_false] | simp only [Nat.not_le.2 hsp, decide_false, Bool.not_false] | simp only [Nat.not_lt.2 hsp, decide_false, Bool.not_false])))))
              all_goals (refine wpQuiet_nil ?_; intro w1 h1)
              go_wp2_with fail
              go_roundw
              case rel => go_light; exact ⟨j + 1, by omega, by go_num, by rw [HN2.out], HGJ.out.trans h1⟩
              case measure => go_light; simp [intOf]; omega
            · have hd : decide (tb.m < ta.m) = false := decide_eq_false hlm
              have HN2 := Lib.hid (HN.out.trans (if_neg hlm))
              clear hlm
              go_wp2_with fail
              (refine wp_region_grow_lit (by kernel_rfl) (by kernel_rfl) ?_; repeat (any_goals (first | go_big_quiet_step ((fail)) | quiet_step ((fail)) | (refine wpQuiet_step (fun K hK => ?_); go_simp; split <;> rename_i hsp <;> (refine hK _ ?_; clear hK K) <;> (try first | simp only [hsp, decide_true, decide_false, Bool.not_true, Bool.not_false] | simp only [Int.not_le.2 hsp, decide_false, Bool.not_false] | simp only [Int.not_lt.2 hsp, decide_false, Bool.not_false] | simp only [Nat.not_le.2 hsp, decide_false, Bool.not_false] | simp only [Nat.not_lt.2 hsp, decide_false, Bool.not_false])))))
              all_goals (refine wpQuiet_nil ?_; intro w1 h1)
              go_wp2_with fail
              go_roundw
              case rel => go_light; exact ⟨j + 1, by omega, by go_num, by rw [HN2.out], HGJ.out.trans h1⟩
              case measure => go_light; simp [intOf]; omega
          · obtain rfl : j = s.1.length + 1 := by omega
            have hqj : longTo l ks (s.1.length + 1) < s.1.length + 1 := longTo_lt l ks _ (by omega)
            obtain ⟨q, hq⟩ : ∃ q, longTo l ks (s.1.length + 1) = q := ⟨_, rfl⟩
            rw [hq] at hqj HS2 ⊢
            obtain ⟨b, hb⟩ : ∃ b, ks[q]? = some b := ⟨_, List.getElem?_eq_getElem (by rw [HKN.out]; exact hqj)⟩
            obtain ⟨jb, hjb, e2⟩ := HKM.out b (List.mem_of_getElem? hb)
            subst e2
            obtain ⟨tb, htb⟩ : ∃ y, l[jb]? = some y := ⟨_, List.getElem?_eq_getElem hjb⟩
            obtain ⟨⟨htm1, htm2⟩, _, _⟩ := tskOk_at ((areT_at (HAT.out (by omega))).2 jb tb htb)
            have HS3 := Lib.hid (show flTo l os (k + 1) = (ks.eraseIdx q, s.2.1 ++ [(jb : Int)], s.2.2 + y.m - tb.m) by
              rw [HS2.out]
              simp only [tk, List.getD_eq_getElem?_getD, hb, Option.getD_some, Int.toNat_natCast, htb])
            have HTB := Lib.hid htb
            have HKB := Lib.hid hb
            have hkb : wr.cell? ⟨gk, q, none⟩ = some (.int .i64 jb) := by have := HF6.out.k.at_ hb (j := 0) (u := .int .i64 jb) rfl; simpa [IntS.E] using this
            have htb0 := (HF6.out.g.rules.1 bl _ hbl).trans (Tsk.at_ HCL.out htb).1
            have hz3 : (0 : Int) ≤ (jb : Int) := by omega
            have hz4 : (jb : Int) < (l.length : Int) := by omega
            have hz7 : (0 : Int) ≤ (q : Int) := by omega
            have hz8 : (q : Int) < ((s.1.length + 1 : Nat) : Int) := by omega
            have hgk2 := (HF6.out.k.block gk rfl).2
            clear hb htb hq
            go_wp2_with (at_builtin; refine wpList_append_rd _ rfl (.tmp 71) (.tmp 76) _ rfl sl_Int w.heap.size _ _ _ s.2.1 rfl (HF6.out.grew ((Grew.refl wr).alloc _)).l _ _ _ [(jb : Int)] rfl rfl (rd_new (E := IntS.E) _ (jb : Int) _ rfl) (by simp only [List.length_cons, List.length_nil]; omega) (le_al HF6.out.g rfl) ?_; intro A7 c7 w7 ho7 hgr7 hat7; have HF7 := Lib.hid ((HF6.out.grew ((Grew.refl wr).alloc (.cells #[.int .i64 jb] 3))).toL ho7 hgr7 (by simpa using hat7)); clear ho7 hgr7 hat7)
            refine (deleteE HKN.out q gk c5 w.heap.size _ HF7.out.k hqj).mono ?_; rintro e w8 ⟨rfl, ho8, hgr8⟩
            have HF8 := Lib.hid (HF7.out.toK ho8 hgr8 (.inl rfl))
            clear ho8 hgr8
            go_wp2_with fail
            go_roundw
            case rel =>
              go_light
              have hel : (ks.eraseIdx q).length = s.1.length := by rw [List.length_eraseIdx_of_lt (by rw [HKN.out]; exact hqj), HKN.out]; rfl
              exact ⟨k + 1, some ⟨gk, 0, none⟩, A7, c5, c7, by omega, by go_num, by rw [HS3.out], by rw [HS3.out, hel]; try simp, by rw [HS3.out]; try simp, by rw [HS3.out]; exact HF8.out⟩
            case measure => go_light; simp [intOf]; omega
    · obtain rfl : k = os.length := by omega
      obtain ⟨s, hs⟩ : ∃ s, s = flTo l os os.length := ⟨_, rfl⟩
      rw [← hs] at HF HFF ⊢
      have hb : s.1.length ≤ 8 ∧ s.2.1.length ≤ 8 := by
        rcases Nat.eq_zero_or_pos os.length with h0 | h0
        · have : s = ([], [], 0) := by rw [hs, h0]; rfl
          rw [this]; simp
        · have hok := flTo_ok (HAT.out h0) HOM.out _ (Nat.le_refl os.length)
          rw [← hs] at hok
          have := hok.l1
          have := hok.l2
          omega
      obtain ⟨hb1, hb2⟩ := hb
      have HFL := Lib.hid (show (flF l).length = s.1.length + s.2.1.length by rw [HFF.out, List.length_append])
      clear hs
      go_wp2_with (at_builtin; refine wpList_append_rd _ rfl (.tmp 84) (.tmp 85) _ rfl sl_Int w.heap.size _ _ _ s.1 rfl HF.out.k _ _ _ s.2.1 rfl rfl HF.out.l.rd (by omega) (HF.out.g.le) ?_; intro A9 c9 w9 ho9 hgr9 hat9)
      go_ret
      go_light
      exact ⟨A9, c9, by rw [HFL.out]; rfl, by rw [HFL.out, HFF.out]; exact ho9, HF.out.g.app HF.out.k (Nat.le_refl _) hgr9⟩
end Go.Proofs.Yteckhmbkagigjaa
