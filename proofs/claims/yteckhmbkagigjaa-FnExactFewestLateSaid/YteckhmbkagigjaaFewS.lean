/- The reference's order with the fewest late tasks returns what the plain function returns. Conditions: none. -/
import Derived.Test.YteckhmbkagigjaaFewP
namespace Go.Proofs.Yteckhmbkagigjaa
open Go.RowKit Go.ChangeShapes Go.WideShapes Go.Deep
set_option linter.unusedVariables false
set_option linter.unusedSimpArgs false

set_option maxRecDepth 100000 in
set_option maxHeartbeats 16000000 in
theorem fewest_spec (l : List Tsk) (A : Option Addr) (c : Nat) (w : World) (h : Rd Tsk.E w A l) (hn : l.length ≤ 4194304) :
    Calls Try.prog 34 #[.slice A l.length c] w fun e w' => ∃ A' c', e = .returned (.slice A' (flF l).length c') ∧ Own IntS.E 3 w' w.heap.size (.slice A' (flF l).length c') (flF l) ∧ Grew w w' := by
  have HL := Lib.hid h
  have HFF := Lib.hid (show flF l = (flTo l (ordF dueC l) (ordF dueC l).length).1 ++ (flTo l (ordF dueC l) (ordF dueC l).length).2.1 from rfl)
  obtain ⟨os, hos⟩ : ∃ os, os = ordF dueC l := ⟨_, rfl⟩
  have HOS := Lib.hid hos
  have ho8 : os.length ≤ 8 := hos ▸ ordF_le dueC l
  have HOM := Lib.hid (show ∀ x ∈ os, ∃ j : Nat, j < l.length ∧ x = j from fun x hx => ordF_mem (hos ▸ hx))
  have HAT := Lib.hid (show 0 < os.length → areT l = true from fun hp => by
    cases hv : areT l
    · rw [hos, ordF, hv] at hp
      simp at hp
    · rfl)
  rw [← hos] at HFF
  clear h hos
  cases hv : areT l
  · have HF := Lib.hid (show flF l = [] by
      have : os = [] := by rw [HOS.out, ordF, hv]; rfl
      rw [HFF.out, this]; rfl)
    have HV := Lib.hid hv
    clear hv
    go_enter Try.func34, Try.ntmps34
    go_wp2_with fail
    refine (areTasksE_spec HV.out _ _ _ HL.out hn).mono ?_; rintro e w1 ⟨rfl, h1⟩
    go_wp2_with fail
    go_ret
    go_light
    exact ⟨_, 0, by rw [HF.out]; rfl, by rw [HF.out]; exact Own.new_ h1.le, h1.alloc _⟩
  have HV := Lib.hid hv
  have HOS3 := Lib.hid (show sortB (idxL dueL l) (idxs l.length) = os by rw [HOS.out, idxL_due]; simp [ordF, hv])
  clear hv
  go_enter Try.func34, Try.ntmps34
  go_wp2_with fail
  refine (areTasksE_spec HV.out _ _ _ HL.out hn).mono ?_; rintro e w0 ⟨rfl, h0⟩
  have HG0 := Lib.hid h0
  clear h0
  go_wp2_with fail
  refine (l23Sort_due l A c _ (HL.out.grew HG0.out) HV.out).mono ?_; rintro e w1 ⟨Ao, co, rfl, ho1, hg1⟩
  have HB := Lib.hid (show FL w ((w1.alloc (.cells #[] 3)).alloc (.cells #[] 3)) (.slice (some ⟨w1.heap.size, 0, none⟩) 0 0) (.slice (some ⟨w1.heap.size + 1, 0, none⟩) 0 0) (.slice Ao os.length co) [] [] os from by
    rw [HOS3.out] at ho1
    have hg : Grew w w1 := HG0.out.trans hg1
    have ho2 := ho1.mono HG0.out.le
    have h9 := Own.new_ (E := IntS.E) (t := 3) (w := w1.alloc (.cells #[] 3)) (base := w.heap.size) (hg.alloc _).le
    refine ⟨(Own.new_ hg.le).alloc _, by simpa using h9, (ho2.alloc _).alloc _, ?_, ?_, ?_, (hg.alloc _).alloc _⟩
    · intro k h1 h2
      simp only [Value.ownBlock, Option.some.injEq] at h1 h2
      omega
    · exact (Sep.low (n := w1.heap.size) (fun k hk => (ho2.block k hk).2) (fun k hk => by simp only [Value.ownBlock, Option.some.injEq] at hk; omega)).symm
    · exact (Sep.low (n := w1.heap.size) (fun k hk => (ho2.block k hk).2) (fun k hk => by simp only [Value.ownBlock, Option.some.injEq] at hk; omega)).symm)
  have HOS2 := Lib.hid (show (sortB (idxL dueL l) (idxs l.length)).length = os.length by rw [HOS3.out])
  rw [HOS2.out]
  clear ho1 hg1
  go_wp2_with fail
  go_loopw [4, 5, 6, 7] (fun v u t i wr => ∃ (k : Nat) (K L : Option Addr) (c1 c2 : Nat), k ≤ os.length ∧ i = .int .i64 k ∧ t = .int .i64 (flTo l os k).2.2 ∧ v = .slice K (flTo l os k).1.length c1 ∧ u = .slice L (flTo l os k).2.1.length c2 ∧ FL w wr v u (.slice Ao os.length co) (flTo l os k).1 (flTo l os k).2.1 os) (fun _ _ _ i _ => os.length - (intOf i).toNat)
  case atStart => exact ⟨0, _, _, _, _, Nat.zero_le _, rfl, rfl, rfl, rfl, HB.out⟩
  case round =>
    obtain ⟨k, K, L, c1, c2, hk, rfl, rfl, rfl, rfl, hfl⟩ := hrel
    have HF := Lib.hid hfl
    clear hfl HB
    by_cases hlt : k < os.length
    · obtain ⟨x, hx⟩ : ∃ x, os[k]? = some x := ⟨_, List.getElem?_eq_getElem hlt⟩
      have hat := HAT.out (by omega)
      have HST := Lib.hid (flTo_step (l := l) hx)
      have hok := flTo_ok hat HOM.out k hk
      obtain ⟨s, hs⟩ : ∃ s, s = flTo l os k := ⟨_, rfl⟩
      rw [← hs] at hok HF HST ⊢
      obtain ⟨jj, hjl, hjx⟩ := HOM.out x (List.mem_of_getElem? hx)
      subst hjx
      obtain ⟨y, hy⟩ : ∃ y, l[jj]? = some y := ⟨_, List.getElem?_eq_getElem hjl⟩
      have HTK := Lib.hid (show tk l (jj : Int) = y by simp [tk, List.getD_eq_getElem?_getD, hy])
      have hyt := tskOk_at ((areT_at hat).2 jj y hy)
      have hl8 := (areT_at hat).1
      obtain ⟨hym1, hym2⟩ := hyt.1
      obtain ⟨hyd1, hyd2⟩ := hyt.2.1
      obtain ⟨hst1, hst2⟩ := hok.t
      have hkl1 := hok.l1
      have hkl2 := hok.l2
      have HOK := Lib.hid hok
      obtain ⟨go, co', hv, hgo1, hgo2⟩ := HF.out.o.addr (by omega)
      simp only [Value.slice.injEq, true_and] at hv
      obtain ⟨rfl, rfl⟩ := hv
      have HOC := Lib.hid (fun (w' : World) v u ks ls (h : FL w w' v u (.slice (some ⟨go, 0, none⟩) os.length co) ks ls os) => show w'.cell? ⟨go, k, none⟩ = some (.int .i64 jj) from by have := h.o.at_ hx (j := 0) (u := .int .i64 jj) rfl; simpa [IntS.E] using this)
      have hoc : wr.cell? ⟨go, k, none⟩ = some (.int .i64 jj) := by have := HF.out.o.at_ hx (j := 0) (u := .int .i64 jj) rfl; simpa [IntS.E] using this
      obtain ⟨bl, o, rfl, hbl, hcl⟩ := HL.out.at_ hjl
      obtain ⟨hc0, hc1, hc2⟩ := Tsk.at_ hcl hy
      have HC0 := Lib.hid (fun (w' : World) (hw : Grew w w') => (hw.rules.1 bl _ hbl).trans hc0)
      have HC1 := Lib.hid (fun (w' : World) (hw : Grew w w') => (hw.rules.1 bl _ hbl).trans hc1)
      have HCL := Lib.hid hcl
      have hi1 : (0 : Int) ≤ (jj : Int) := by omega
      have hi2 : (jj : Int) < (l.length : Int) := by omega
      clear hs hx hy hyt hok hat hc0 hc1 hc2 hcl
      by_cases hle : s.2.2 + y.m ≤ y.d
      · have HS2 := Lib.hid (show flTo l os (k + 1) = (s.1 ++ [(jj : Int)], s.2.1, s.2.2 + y.m) by
          rw [HST.out, flStep, HTK.out, if_pos hle])
        go_wp2_with (at_builtin; refine wpList_append_rd _ rfl (.tmp 24) (.tmp 29) _ rfl sl_Int w.heap.size _ _ _ s.1 rfl (HF.out.grew ((Grew.refl wr).alloc _)).k _ _ _ [(jj : Int)] rfl rfl (rd_new (E := IntS.E) _ (jj : Int) _ rfl) (by simp only [List.length_cons, List.length_nil]; omega) (le_al HF.out.g rfl) ?_; intro A5 c5 w5 ho5 hgr5 hat5; have HF5 := Lib.hid ((HF.out.grew ((Grew.refl wr).alloc (.cells #[.int .i64 jj] 3))).toK ho5 hgr5 (by simpa using hat5)); have hcy0 := HC0.out _ HF5.out.g; have hcy1 := HC1.out _ HF5.out.g; have hoc := HOC.out _ _ _ _ _ HF5.out; clear ho5 hgr5 hat5)
        go_roundw
        case rel => go_light; exact ⟨k + 1, A5, L, c5, c2, by omega, by go_num, by rw [HS2.out], by rw [HS2.out]; simp, by rw [HS2.out], by rw [HS2.out]; exact HF5.out⟩
        case measure => go_light; simp [intOf]; omega
      · obtain ⟨ks, hks⟩ : ∃ ks, ks = s.1 ++ [(jj : Int)] := ⟨_, rfl⟩
        have hkn : ks.length = s.1.length + 1 := by rw [hks]; simp
        have HS2 := Lib.hid (show flTo l os (k + 1) = (ks.eraseIdx (longTo l ks (s.1.length + 1)), s.2.1 ++ [ks.getD (longTo l ks (s.1.length + 1)) 0], s.2.2 + y.m - (tk l (ks.getD (longTo l ks (s.1.length + 1)) 0)).m) by
          rw [HST.out, flStep, HTK.out, if_neg hle, hks])
        have HKM := Lib.hid (show ∀ x ∈ ks, ∃ j : Nat, j < l.length ∧ x = j from fun x hx => by
          rw [hks] at hx
          rcases List.mem_append.1 hx with hx | hx
          · exact HOK.out.m1 x hx
          · obtain rfl : x = jj := by simpa using hx
            exact ⟨jj, hjl, rfl⟩)
        have HKN := Lib.hid hkn
        have HKS := Lib.hid hks
        clear hks hkn
        go_upto_if 50 with (at_builtin; refine wpList_append_rd _ rfl (.tmp 24) (.tmp 29) _ rfl sl_Int w.heap.size _ _ _ s.1 rfl (HF.out.grew ((Grew.refl wr).alloc _)).k _ _ _ [(jj : Int)] rfl rfl (rd_new (E := IntS.E) _ (jj : Int) _ rfl) (by simp only [List.length_cons, List.length_nil]; omega) (le_al HF.out.g rfl) ?_; intro A5 c5 w5 ho5 hgr5 hat5; have HF5 := Lib.hid ((HF.out.grew ((Grew.refl wr).alloc (.cells #[.int .i64 jj] 3))).toK ho5 hgr5 (by simpa using hat5)); have hcy0 := HC0.out _ HF5.out.g; have hcy1 := HC1.out _ HF5.out.g; have hoc := HOC.out _ _ _ _ _ HF5.out; clear ho5 hgr5 hat5)
        clear hcy0 hcy1 hoc
        rw [← HKS.out] at HF5
        obtain ⟨gk, ck, hv, hgk1, hgk2⟩ := HF5.out.k.addr (by rw [HKN.out]; omega)
        simp only [Value.slice.injEq] at hv
        obtain ⟨rfl, hv2, rfl⟩ := hv
        clear hv2
        go_wp2_with fail
        go_loopw [8, 9] (fun m i wr => ∃ j : Nat, 1 ≤ j ∧ j ≤ s.1.length + 1 ∧ i = .int .i64 j ∧ m = .int .i64 (longTo l ks j) ∧ Grew w5 wr) (fun _ i _ => s.1.length + 1 - (intOf i).toNat)
        case atStart => exact ⟨1, Nat.le_refl _, by omega, rfl, by simp [longTo], Grew.refl _⟩
        case round =>
          obtain ⟨j, hj1, hj, rfl, rfl, hgj⟩ := hrel
          have HF6 := Lib.hid (HF5.out.grew hgj)
          have HGJ := Lib.hid hgj
          clear hgj HF5 hgk2
          by_cases hlj : j < s.1.length + 1
          · have hqj : longTo l ks j < s.1.length + 1 := by have := longTo_le l ks j; omega
            obtain ⟨q, hq⟩ : ∃ q, longTo l ks j = q := ⟨_, rfl⟩
            have HQ := Lib.hid hq
            rw [hq] at hqj ⊢
            obtain ⟨a, ha⟩ : ∃ a, ks[j]? = some a := ⟨_, List.getElem?_eq_getElem (by rw [HKN.out]; exact hlj)⟩
            obtain ⟨b, hb⟩ : ∃ b, ks[q]? = some b := ⟨_, List.getElem?_eq_getElem (by rw [HKN.out]; exact hqj)⟩
            obtain ⟨ja, hja, e1⟩ := HKM.out a (List.mem_of_getElem? ha)
            obtain ⟨jb, hjb, e2⟩ := HKM.out b (List.mem_of_getElem? hb)
            subst e1 e2
            obtain ⟨ta, hta⟩ : ∃ y, l[ja]? = some y := ⟨_, List.getElem?_eq_getElem hja⟩
            obtain ⟨tb, htb⟩ : ∃ y, l[jb]? = some y := ⟨_, List.getElem?_eq_getElem hjb⟩
            have HN := Lib.hid (show longTo l ks (j + 1) = if tb.m < ta.m then j else q by
              simp only [longTo, HQ.out, tk, List.getD_eq_getElem?_getD, ha, hb, Option.getD_some, Int.toNat_natCast, hta, htb])
            have hka : wr.cell? ⟨gk, j, none⟩ = some (.int .i64 ja) := by have := HF6.out.k.at_ ha (j := 0) (u := .int .i64 ja) rfl; simpa [IntS.E] using this
            have hkb : wr.cell? ⟨gk, q, none⟩ = some (.int .i64 jb) := by have := HF6.out.k.at_ hb (j := 0) (u := .int .i64 jb) rfl; simpa [IntS.E] using this
            have hta0 := (HF6.out.g.rules.1 bl _ hbl).trans (Tsk.at_ HCL.out hta).1
            have htb0 := (HF6.out.g.rules.1 bl _ hbl).trans (Tsk.at_ HCL.out htb).1
            have hz1 : (0 : Int) ≤ (ja : Int) := by omega
            have hz2 : (ja : Int) < (l.length : Int) := by omega
            have hz3 : (0 : Int) ≤ (jb : Int) := by omega
            have hz4 : (jb : Int) < (l.length : Int) := by omega
            have hz5 : (0 : Int) ≤ (j : Int) := by omega
            have hz6 : (j : Int) < ((s.1.length + 1 : Nat) : Int) := by omega
            have hz7 : (0 : Int) ≤ (q : Int) := by omega
            have hz8 : (q : Int) < ((s.1.length + 1 : Nat) : Int) := by omega
            clear ha hb hta htb hq
            by_cases hlm : tb.m < ta.m
            · have hd : decide (tb.m < ta.m) = true := decide_eq_true hlm
              have HN2 := Lib.hid (HN.out.trans (if_pos hlm))
              clear hlm
              go_wp2_with fail
              (refine wp_region_grow_lit (by kernel_rfl) (by kernel_rfl) ?_; repeat (any_goals (first | go_big_quiet_step ((fail)) | quiet_step ((fail)) | (refine wpQuiet_step (fun K hK => ?_); go_simp; split <;> rename_i hsp <;> (refine hK _ ?_; clear hK K) <;> (try first | simp only [hsp, decide_true, decide_false, Bool.not_true, Bool.not_false] | simp only [Int.not_le.2 hsp, decide_false, Bool.not_false] | simp only [Int.not_lt.2 hsp, decide_false, Bool.not_false] | simp only [Nat.not_le.2 hsp, decide_false, Bool.not_false] | simp only [Nat.not_lt.2 hsp, decide_false, Bool.not_false])))))
              all_goals (refine wpQuiet_nil ?_; intro w1 h1)
              go_wp2_with fail
              go_roundw
              case rel => go_light; exact ⟨j + 1, by omega, by omega, by go_num, by rw [HN2.out], HGJ.out.trans h1⟩
              case measure => go_light; simp [intOf]; omega
            · have hd : decide (tb.m < ta.m) = false := decide_eq_false hlm
              have HN2 := Lib.hid (HN.out.trans (if_neg hlm))
              clear hlm
              go_wp2_with fail
              (refine wp_region_grow_lit (by kernel_rfl) (by kernel_rfl) ?_; repeat (any_goals (first | go_big_quiet_step ((fail)) | quiet_step ((fail)) | (refine wpQuiet_step (fun K hK => ?_); go_simp; split <;> rename_i hsp <;> (refine hK _ ?_; clear hK K) <;> (try first | simp only [hsp, decide_true, decide_false, Bool.not_true, Bool.not_false] | simp only [Int.not_le.2 hsp, decide_false, Bool.not_false] | simp only [Int.not_lt.2 hsp, decide_false, Bool.not_false] | simp only [Nat.not_le.2 hsp, decide_false, Bool.not_false] | simp only [Nat.not_lt.2 hsp, decide_false, Bool.not_false])))))
              all_goals (refine wpQuiet_nil ?_; intro w1 h1)
              go_wp2_with fail
              go_roundw
              case rel => go_light; exact ⟨j + 1, by omega, by omega, by go_num, by rw [HN2.out], HGJ.out.trans h1⟩
              case measure => go_light; simp [intOf]; omega
          · obtain rfl : j = s.1.length + 1 := by omega
            have hqj : longTo l ks (s.1.length + 1) < s.1.length + 1 := longTo_lt l ks _ (by omega)
            obtain ⟨q, hq⟩ : ∃ q, longTo l ks (s.1.length + 1) = q := ⟨_, rfl⟩
            rw [hq] at hqj HS2 ⊢
            obtain ⟨b, hb⟩ : ∃ b, ks[q]? = some b := ⟨_, List.getElem?_eq_getElem (by rw [HKN.out]; exact hqj)⟩
            obtain ⟨jb, hjb, e2⟩ := HKM.out b (List.mem_of_getElem? hb)
            subst e2
            obtain ⟨tb, htb⟩ : ∃ y, l[jb]? = some y := ⟨_, List.getElem?_eq_getElem hjb⟩
            obtain ⟨⟨htm1, htm2⟩, _, _⟩ := tskOk_at ((areT_at (HAT.out (by omega))).2 jb tb htb)
            have HS3 := Lib.hid (show flTo l os (k + 1) = (ks.eraseIdx q, s.2.1 ++ [(jb : Int)], s.2.2 + y.m - tb.m) by
              rw [HS2.out]
              simp only [tk, List.getD_eq_getElem?_getD, hb, Option.getD_some, Int.toNat_natCast, htb])
            have HTB := Lib.hid htb
            have HKB := Lib.hid hb
            have hkb : wr.cell? ⟨gk, q, none⟩ = some (.int .i64 jb) := by have := HF6.out.k.at_ hb (j := 0) (u := .int .i64 jb) rfl; simpa [IntS.E] using this
            have htb0 := (HF6.out.g.rules.1 bl _ hbl).trans (Tsk.at_ HCL.out htb).1
            have hz3 : (0 : Int) ≤ (jb : Int) := by omega
            have hz4 : (jb : Int) < (l.length : Int) := by omega
            have hz7 : (0 : Int) ≤ (q : Int) := by omega
            have hz8 : (q : Int) < ((s.1.length + 1 : Nat) : Int) := by omega
            have hgk2 := (HF6.out.k.block gk rfl).2
            clear hb htb hq
            go_wp2_with (at_builtin; refine wpList_append_rd _ rfl (.tmp 85) (.tmp 90) _ rfl sl_Int w.heap.size _ _ _ s.2.1 rfl (HF6.out.grew ((Grew.refl wr).alloc _)).l _ _ _ [(jb : Int)] rfl rfl (rd_new (E := IntS.E) _ (jb : Int) _ rfl) (by simp only [List.length_cons, List.length_nil]; omega) (le_al HF6.out.g rfl) ?_; intro A7 c7 w7 ho7 hgr7 hat7; have HF7 := Lib.hid ((HF6.out.grew ((Grew.refl wr).alloc (.cells #[.int .i64 jb] 3))).toL ho7 hgr7 (by simpa using hat7)); clear ho7 hgr7 hat7)
            have hc5 : s.1.length + 1 ≤ c5 := HF7.out.k.cap.2.1
            have HKE := Lib.hid (show ks.take q ++ ks.drop (q + 1) = ks.eraseIdx q from (List.eraseIdx_eq_take_drop_succ ks q).symm)
            have hkn := HKN.out
            have hy1 : (0 : Int) ≤ (q : Int) + 1 := by omega
            have hy2 : q ≤ s.1.length := by omega
            have hy3 : ((q : Int) + 1).toNat = q + 1 := by omega
            have hy4 : (q : Int) ≤ (c5 : Int) := by omega
            have hy5 : (q : Int) + 1 ≤ (c5 : Int) := by omega
            have hy6 : IntKind.i64.wrap ((q : Int) + 1) = (q : Int) + 1 := by rw [IntKind.wrap_i64]; omega
            clear hkb htb0
            go_wp2_with fail
            refine wp_region_held_drew (S := (fun _ => True)) (by kernel_rfl) (trivial) (fun hH => ?_)
            refine wpAnyH_take (i := 1) (v := ?_) (by simp only [List.getElem?_toArray, List.getElem?_cons_succ, List.getElem?_cons_zero]; rfl) (by kernel_rfl) (by kernel_rfl) (by kernel_rfl) (by intro _ _ _ h; exact h) (Or.inl ⟨by rfl, ?_⟩) hH ?_; rotate_left; · ((intro w hSw); (try dsimp only at hSw); go_simp; (try with_reducible rfl); done)
            (try simp only [Act.put, List.setIfInBounds_toArray, List.set_cons_zero, List.set_cons_succ])
            refine wpAnyH_take (i := 2) (v := ?_) (by simp only [List.getElem?_toArray, List.getElem?_cons_succ, List.getElem?_cons_zero]; rfl) (by kernel_rfl) (by kernel_rfl) (by kernel_rfl) (by intro _ _ _ h; exact h) (Or.inl ⟨by rfl, ?_⟩) hH ?_; rotate_left; · ((intro w hSw); (try dsimp only at hSw); go_simp; (try with_reducible rfl); done)
            (try simp only [Act.put, List.setIfInBounds_toArray, List.set_cons_zero, List.set_cons_succ])
            refine wpAnyH_take (i := 3) (v := ?_) (by simp only [List.getElem?_toArray, List.getElem?_cons_succ, List.getElem?_cons_zero]; rfl) (by kernel_rfl) (by kernel_rfl) (by kernel_rfl) (by intro _ _ _ h; exact h) (Or.inl ⟨by rfl, ?_⟩) hH ?_; rotate_left; · ((intro w hSw); (try dsimp only at hSw); go_simp; (try with_reducible rfl); done)
            (try simp only [Act.put, List.setIfInBounds_toArray, List.set_cons_zero, List.set_cons_succ])
            refine wpAnyH_take (i := 5) (v := ?_) (by simp only [List.getElem?_toArray, List.getElem?_cons_succ, List.getElem?_cons_zero]; rfl) (by kernel_rfl) (by kernel_rfl) (by kernel_rfl) (by intro _ _ _ h; exact h) (Or.inl ⟨by rfl, ?_⟩) hH ?_; rotate_left; · ((intro w hSw); (try dsimp only at hSw); go_simp; (try with_reducible rfl); done)
            (try simp only [Act.put, List.setIfInBounds_toArray, List.set_cons_zero, List.set_cons_succ])
            refine wpAnyH_take (i := 6) (v := ?_) (by simp only [List.getElem?_toArray, List.getElem?_cons_succ, List.getElem?_cons_zero]; rfl) (by kernel_rfl) (by kernel_rfl) (by kernel_rfl) (by intro _ _ _ h; exact h) (Or.inl ⟨by rfl, ?_⟩) hH ?_; rotate_left; · ((intro w hSw); (try dsimp only at hSw); go_simp; (try with_reducible rfl); done)
            (try simp only [Act.put, List.setIfInBounds_toArray, List.set_cons_zero, List.set_cons_succ])
            refine wpAnyH_take (i := 7) (v := ?_) (by simp only [List.getElem?_toArray, List.getElem?_cons_succ, List.getElem?_cons_zero]; rfl) (by kernel_rfl) (by kernel_rfl) (by kernel_rfl) (by intro _ _ _ h; exact h) (Or.inl ⟨by rfl, ?_⟩) hH ?_; rotate_left; · ((intro w hSw); (try dsimp only at hSw); go_simp; (try with_reducible rfl); done)
            (try simp only [Act.put, List.setIfInBounds_toArray, List.set_cons_zero, List.set_cons_succ])
            refine wpAnyH_take (i := 8) (v := ?_) (by simp only [List.getElem?_toArray, List.getElem?_cons_succ, List.getElem?_cons_zero]; rfl) (by kernel_rfl) (by kernel_rfl) (by kernel_rfl) (by intro _ _ _ h; exact h) (Or.inl ⟨by rfl, ?_⟩) hH ?_; rotate_left; · ((intro w hSw); (try dsimp only at hSw); go_simp; (try with_reducible rfl); done)
            (try simp only [Act.put, List.setIfInBounds_toArray, List.set_cons_zero, List.set_cons_succ])
            have HT1 := Lib.hid (show (ks.take q).length = q by rw [List.length_take]; omega)
            have HGD := Lib.hid (Grew.refl w7).drew
            have HGE := Lib.hid (HGD.out.alloc (.cells #[] 3))
            have HOE := Lib.hid (Own.new_ (E := IntS.E) (t := 3) (w := w7.drew) (base := w7.heap.size) (Nat.le_refl _))
            have HRD := Lib.hid HF7.out.k.rd
            refine wpAnyH_ready (rs := [0]) (by kernel_rfl) (by simp) ?_
            refine (AllReadyH.cons (by simp only [List.getElem?_toArray, List.getElem?_cons_succ, List.getElem?_cons_zero]; rfl) (fun K hK => ?_) AllReadyH.nil)
            go_simp
            refine hK.out _ _ (trivial) (fun hH => ?_)
            clear hK K
            (try simp only [Act.put, List.setIfInBounds_toArray, List.set_cons_zero, List.set_cons_succ])
            refine wpAnyH_ready (rs := [4]) (by kernel_rfl) (by simp) ?_
            refine (AllReadyH.cons (by simp only [List.getElem?_toArray, List.getElem?_cons_succ, List.getElem?_cons_zero]; rfl) (fun K hK => ?_) AllReadyH.nil)
            refine step_append_rd _ rfl (.tmp 92) (.tmp 95) _ rfl sl_Int w7.heap.size _ _ _ ([] : List Int) rfl HOE.out _ _ _ (ks.take q) rfl HT1.out.symm ((HRD.out.grew HGE.out).take q) (by rw [HT1.out]; simp only [List.length_nil]; omega) HGE.out.le ?_; intro A8 c8 w8 ho8 hgr8 hat8; have HG8 := Lib.hid (HGE.out.app (E := IntS.E) HOE.out (Nat.le_refl _) hgr8); have HO8 := Lib.hid (show Own IntS.E 3 w8 w7.heap.size (.slice A8 q c8) (ks.take q) by simpa using ho8); clear ho8 hgr8 hat8
            refine hK.out _ _ (trivial) (fun hH => ?_)
            clear hK K
            (try simp only [Act.put, List.setIfInBounds_toArray, List.set_cons_zero, List.set_cons_succ])
            (try simp only [Nat.zero_add])
            refine wpAnyH_ready (rs := [9]) (by kernel_rfl) (by simp) ?_
            refine (AllReadyH.cons (by simp only [List.getElem?_toArray, List.getElem?_cons_succ, List.getElem?_cons_zero]; rfl) (fun K hK => ?_) AllReadyH.nil)
            refine step_append_rd _ rfl (.tmp 96) (.tmp 100) _ rfl sl_Int w7.heap.size _ _ _ (ks.take q) rfl HO8.out _ _ _ (ks.drop (q + 1)) rfl (by simp only [List.length_drop]; omega) (Rd.drop_at (HRD.out.grew HG8.out) (by simp [IntS.E]) (by omega)) (by rw [HT1.out, List.length_drop]; omega) HG8.out.le ?_; intro A9 c9 w9 ho9 hgr9 hat9; have HG9 := Lib.hid (HG8.out.app HO8.out (Nat.le_refl _) hgr9); have HO9 := Lib.hid ho9; clear ho9 hgr9 hat9
            refine hK.out _ _ (trivial) (fun hH => ?_)
            clear hK K
            (try simp only [Act.put, List.setIfInBounds_toArray, List.set_cons_zero, List.set_cons_succ])
            refine wpAnyH_take (i := 10) (v := ?_) (by simp only [List.getElem?_toArray, List.getElem?_cons_succ, List.getElem?_cons_zero]; rfl) (by kernel_rfl) (by kernel_rfl) (by kernel_rfl) (by intro _ _ _ h; exact h) (Or.inl ⟨by rfl, ?_⟩) hH ?_; rotate_left; · ((intro w hSw); (try dsimp only at hSw); go_simp; (try with_reducible rfl); done)
            (try simp only [Act.put, List.setIfInBounds_toArray, List.set_cons_zero, List.set_cons_succ])
            refine wpAnyH_done (by kernel_rfl) ?_ _
            have HF8 := Lib.hid (HF7.out.new HG9.out (own_re HO9.out HKE.out (show q + (s.1.length - q) = s.1.length by omega)))
            go_wp2_with fail
            go_roundw
            case rel =>
              go_light
              have hel : (ks.eraseIdx q).length = s.1.length := by rw [List.length_eraseIdx_of_lt (by rw [HKN.out]; exact hqj), HKN.out]; rfl
              exact ⟨k + 1, A9, A7, c9, c7, by omega, by go_num, by rw [HS3.out], by rw [HS3.out, hel], by rw [HS3.out]; try simp, by rw [HS3.out]; exact HF8.out⟩
            case measure => go_light; simp [intOf]; omega
    · obtain rfl : k = os.length := by omega
      obtain ⟨s, hs⟩ : ∃ s, s = flTo l os os.length := ⟨_, rfl⟩
      rw [← hs] at HF HFF ⊢
      have hb : s.1.length ≤ 8 ∧ s.2.1.length ≤ 8 := by
        rcases Nat.eq_zero_or_pos os.length with h0 | h0
        · have : s = ([], [], 0) := by rw [hs, h0]; rfl
          rw [this]; simp
        · have hok := flTo_ok (HAT.out h0) HOM.out _ (Nat.le_refl os.length)
          rw [← hs] at hok
          have := hok.l1
          have := hok.l2
          omega
      obtain ⟨hb1, hb2⟩ := hb
      have HFL := Lib.hid (show (flF l).length = s.1.length + s.2.1.length by rw [HFF.out, List.length_append])
      clear hs
      go_wp2_with (at_builtin; refine wpList_append_rd _ rfl (.tmp 102) (.tmp 103) _ rfl sl_Int w.heap.size _ _ _ s.1 rfl HF.out.k _ _ _ s.2.1 rfl rfl HF.out.l.rd (by omega) (HF.out.g.le) ?_; intro A9 c9 w9 ho9 hgr9 hat9)
      go_ret
      go_light
      exact ⟨A9, c9, by rw [HFL.out]; rfl, by rw [HFL.out, HFF.out]; exact ho9, HF.out.g.app HF.out.k (Nat.le_refl _) hgr9⟩
end Go.Proofs.Yteckhmbkagigjaa
