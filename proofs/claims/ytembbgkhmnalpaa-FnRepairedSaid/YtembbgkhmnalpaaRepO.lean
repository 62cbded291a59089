/- The order of the slots by their starts: the reference's l25Order, and the comparison of the program's sort. Conditions: none. -/
import Derived.Test.YtembbgkhmnalpaaRepP
import Derived.Deep.RegionHeld3
namespace Go.Proofs.Ytembbgkhmnalpaa
open Go.RowKit Go.ChangeShapes Go.WideShapes Go.Deep
set_option linter.unusedVariables false
set_option linter.unusedSimpArgs false

theorem own_re {T : Type} {E : Enc T} {t : TypeId} {w : World} {base : Nat} {A : Option Addr} {n m c : Nat} {l l' : List T} (h : Own E t w base (.slice A n c) l) (hl : l = l') (hn : n = m) : Own E t w base (.slice A m c) l' := by
  subst hl hn
  exact h
theorem stL_at {L : List Slt} {k : Nat} {x : Slt} (h : L[k]? = some x) : stL L k = x.st := by simp [stL, List.getD_eq_getElem?_getD, h]

set_option maxRecDepth 100000 in
set_option maxHeartbeats 8000000 in
theorem cmp_any (L : List Slt) (A : Option Addr) (c : Nat) (hL : SlB L) (h30 : L.length ≤ 30) (a b : Nat) (ha : a < L.length) (hb : b < L.length) (p : Nat) (w : World) (h : Rd Slt.E w A L) (hp : w.cell? ⟨p, 0, none⟩ = some (.slice A L.length c)) :
    Calls Try.prog 53 #[.int .i64 a, .int .i64 b, .pointer (some ⟨p, 0, none⟩)] w fun e w' => e = .returned (.int .i64 (cmpS L a b)) ∧ Grew w w' := by
  obtain ⟨x, hx⟩ : ∃ x, L[a]? = some x := ⟨_, List.getElem?_eq_getElem ha⟩
  obtain ⟨y, hy⟩ : ∃ y, L[b]? = some y := ⟨_, List.getElem?_eq_getElem hb⟩
  have HV := Lib.hid (show cmpS L a b = x.st - y.st by rw [cmpS, stL_at hx, stL_at hy])
  have hxb := hL x (List.mem_of_getElem? hx)
  have hyb := hL y (List.mem_of_getElem? hy)
  obtain ⟨⟨hxb1, hxb2⟩, hxb3⟩ := hxb
  obtain ⟨⟨hyb1, hyb2⟩, hyb3⟩ := hyb
  obtain ⟨bl, o, rfl, hbl, hc⟩ := h.at_ ha
  obtain ⟨hc0, hc1, hc2, hc3, hc4⟩ := Slt.at_ hc hx
  obtain ⟨hd0, hd1, hd2, hd3, hd4⟩ := Slt.at_ hc hy
  have hi1 : (0 : Int) ≤ (a : Int) := by omega
  have hi2 : (a : Int) < (L.length : Int) := by omega
  have hi3 : (0 : Int) ≤ (b : Int) := by omega
  have hi4 : (b : Int) < (L.length : Int) := by omega
  clear hx hy hc hL h hxb3 hyb3
  go_enter Try.func53, Try.ntmps53
  go_wp2_with fail
  go_region
  go_wp2_with fail
  go_ret
  go_light
  exact ⟨ret_int HV.out.symm, (Grew.refl _).drew⟩

set_option maxRecDepth 100000 in
set_option maxHeartbeats 8000000 in
theorem l25Order_any (L : List Slt) (A : Option Addr) (c : Nat) (h30 : L.length ≤ 30) (w : World) (h : Rd Slt.E w A L) :
    Calls Try.prog 50 #[.slice A L.length c] w fun e w' => ∃ A' c', e = .returned (.slice A' L.length c') ∧ Own IntS.E 3 w' w.heap.size (.slice A' L.length c') (ordF L) ∧ Grew w w' := by
  have HL := Lib.hid h
  clear h
  go_enter Try.func50, Try.ntmps50
  go_wp2_with fail
  have HO1 := Lib.hid (Own.new_ (E := IntS.E) (t := 3) (Nat.le_refl w.heap.size))
  go_loopw [3, 4] (fun o i wr => ∃ (k : Nat) (A' : Option Addr) (c' : Nat) (M : List Int), k ≤ L.length ∧ i = .int .i64 k ∧ o = .slice A' k c' ∧ M.Perm (idxs k) ∧ M.Pairwise (ltS L) ∧ Own IntS.E 3 wr w.heap.size (.slice A' k c') M ∧ Grew w wr) (fun _ i _ => L.length - (intOf i).toNat)
  case atStart => exact ⟨0, _, _, [], Nat.zero_le _, rfl, rfl, List.Perm.refl _, List.Pairwise.nil, HO1.out, (Grew.refl w).alloc _⟩
  case round =>
    obtain ⟨k, A', c', s, hk, rfl, rfl, hpm, hsm, hown, hg⟩ := hrel
    have HO := Lib.hid hown
    have HG := Lib.hid hg
    have HPM := Lib.hid hpm
    have HSM := Lib.hid hsm
    clear hown hg HO1 hpm hsm
    by_cases hlt : k < L.length
    · obtain ⟨x, hx⟩ : ∃ x, L[k]? = some x := ⟨_, List.getElem?_eq_getElem hlt⟩
      have hsl : s.length = k := by rw [HPM.out.length_eq, idxs_len]
      have HMM := Lib.hid (show ∀ y ∈ s, ∃ j : Nat, j < k ∧ y = j from fun y hy => idxs_mem.1 (HPM.out.mem_iff.1 hy))
      have HCAP := Lib.hid HO.out.cap
      have HSL := Lib.hid hsl
      obtain ⟨bl, o, rfl, hbl, hc⟩ := (HL.out.grew HG.out).at_ hlt
      obtain ⟨hx0, hx1, hx2, hx3, hx4⟩ := Slt.at_ hc hx
      have HCC := Lib.hid hc
      have HX := Lib.hid hx3
      have HKX := Lib.hid (stL_at hx)
      have HEND := Lib.hid (show ∀ j, (∀ y ∈ s.take j, ltS L y k) → (∀ y ∈ s.drop j, ltS L k y) → (s.take j ++ [(k : Int)] ++ s.drop j).Perm (idxs (k + 1)) ∧ (s.take j ++ [(k : Int)] ++ s.drop j).Pairwise (ltS L) from fun j h1 h2 => by
        rw [List.append_assoc, List.singleton_append]
        exact ⟨by rw [idxs_succ]; exact put_perm.trans ((List.Perm.cons _ HPM.out).trans (List.perm_append_singleton _ _).symm), put_sorted HSM.out h1 h2 (ltS_tr L)⟩)
      clear hx hsl hc hx0 hx1 hx2 hx3 hx4
      go_wp2_with fail
      obtain ⟨wo, hwo⟩ : ∃ wo : World, wo = wr := ⟨_, rfl⟩
      subst hwo
      go_loopw [5] (fun i wr => ∃ j : Nat, j ≤ k ∧ (∀ y ∈ s.drop j, ltS L k y) ∧ i = .int .i64 j ∧ Grew wo wr) (fun i _ => (intOf i).toNat)
      case atStart => exact ⟨k, Nat.le_refl _, (fun y hy => by rw [List.drop_eq_nil_of_le (by rw [HSL.out]; exact Nat.le_refl _)] at hy; cases hy), rfl, Grew.refl _⟩
      case round =>
        obtain ⟨j, hj, hdr, rfl, hgj⟩ := hrel
        have HGJ := Lib.hid hgj
        have HDR := Lib.hid hdr
        clear hgj hdr
        rcases Nat.eq_zero_or_pos j with h0 | h0
        · subst h0
          have HE := Lib.hid (HEND.out 0 (fun y hy => by rw [List.take_zero] at hy; cases hy) HDR.out)
          go_wp2_with fail
          (refine wp_region_grow_lit (by kernel_rfl) (by kernel_rfl) ?_; repeat (any_goals (first | go_big_quiet_step ((fail)) | quiet_step ((fail)) | (refine wpQuiet_step (fun K hK => ?_); go_simp; split <;> rename_i hsp <;> (refine hK _ ?_; clear hK K) <;> (try first | simp only [hsp, decide_true, decide_false, Bool.not_true, Bool.not_false] | simp only [Int.not_le.2 hsp, decide_false, Bool.not_false] | simp only [Int.not_lt.2 hsp, decide_false, Bool.not_false] | simp only [Nat.not_le.2 hsp, decide_false, Bool.not_false] | simp only [Nat.not_lt.2 hsp, decide_false, Bool.not_false])))))
          all_goals (refine wpQuiet_nil ?_; intro w1 h1)
          have HO2 := Lib.hid (HO.out.grew (HGJ.out.trans h1))
          have HG2 := Lib.hid ((HG.out.trans HGJ.out).trans h1)
          have HRD := Lib.hid HO2.out.rd
          have hk2 : 0 ≤ s.length := by have := HSL.out; omega
          have hk3 : k ≤ c' := HCAP.out.2.1
          have hk4 : s.length = k := HSL.out
          clear h1
          go_wp2_with fail
          refine wp_region_held_drew (S := (fun _ => True)) (by kernel_rfl) (trivial) (fun hH => ?_)
          refine wpAnyH_take (i := 1) (v := ?_) (by simp only [List.getElem?_toArray, List.getElem?_cons_succ, List.getElem?_cons_zero]; rfl) (by kernel_rfl) (by kernel_rfl) (by kernel_rfl) (by intro _ _ _ h; exact h) (Or.inl ⟨by rfl, ?_⟩) hH ?_; rotate_left; · ((intro w hSw); (try dsimp only at hSw); go_simp; (try with_reducible rfl); done)
          (try simp only [Act.put, List.setIfInBounds_toArray, List.set_cons_zero, List.set_cons_succ])
          refine wpAnyH_take (i := 2) (v := ?_) (by simp only [List.getElem?_toArray, List.getElem?_cons_succ, List.getElem?_cons_zero]; rfl) (by kernel_rfl) (by kernel_rfl) (by kernel_rfl) (by intro _ _ _ h; exact h) (Or.inl ⟨by rfl, ?_⟩) hH ?_; rotate_left; · ((intro w hSw); (try dsimp only at hSw); go_simp; (try with_reducible rfl); done)
          (try simp only [Act.put, List.setIfInBounds_toArray, List.set_cons_zero, List.set_cons_succ])
          refine wpAnyH_take (i := 3) (v := ?_) (by simp only [List.getElem?_toArray, List.getElem?_cons_succ, List.getElem?_cons_zero]; rfl) (by kernel_rfl) (by kernel_rfl) (by kernel_rfl) (by intro _ _ _ h; exact h) (Or.inl ⟨by rfl, ?_⟩) hH ?_; rotate_left; · ((intro w hSw); (try dsimp only at hSw); go_simp; (try with_reducible rfl); done)
          (try simp only [Act.put, List.setIfInBounds_toArray, List.set_cons_zero, List.set_cons_succ])
          refine wpAnyH_take (i := 5) (v := ?_) (by simp only [List.getElem?_toArray, List.getElem?_cons_succ, List.getElem?_cons_zero]; rfl) (by kernel_rfl) (by kernel_rfl) (by kernel_rfl) (by intro _ _ _ h; exact h) (Or.inl ⟨by rfl, ?_⟩) hH ?_; rotate_left; · ((intro w hSw); (try dsimp only at hSw); go_simp; (try with_reducible rfl); done)
          (try simp only [Act.put, List.setIfInBounds_toArray, List.set_cons_zero, List.set_cons_succ])
          refine wpAnyH_take (i := 8) (v := ?_) (by simp only [List.getElem?_toArray, List.getElem?_cons_succ, List.getElem?_cons_zero]; rfl) (by kernel_rfl) (by kernel_rfl) (by kernel_rfl) (by intro _ _ _ h; exact h) (Or.inl ⟨by rfl, ?_⟩) hH ?_; rotate_left; · ((intro w hSw); (try dsimp only at hSw); go_simp; (try with_reducible rfl); done)
          (try simp only [Act.put, List.setIfInBounds_toArray, List.set_cons_zero, List.set_cons_succ])
          refine wpAnyH_take (i := 9) (v := ?_) (by simp only [List.getElem?_toArray, List.getElem?_cons_succ, List.getElem?_cons_zero]; rfl) (by kernel_rfl) (by kernel_rfl) (by kernel_rfl) (by intro _ _ _ h; exact h) (Or.inl ⟨by rfl, ?_⟩) hH ?_; rotate_left; · ((intro w hSw); (try dsimp only at hSw); go_simp; (try with_reducible rfl); done)
          (try simp only [Act.put, List.setIfInBounds_toArray, List.set_cons_zero, List.set_cons_succ])
          refine wpAnyH_take (i := 10) (v := ?_) (by simp only [List.getElem?_toArray, List.getElem?_cons_succ, List.getElem?_cons_zero]; rfl) (by kernel_rfl) (by kernel_rfl) (by kernel_rfl) (by intro _ _ _ h; exact h) (Or.inl ⟨by rfl, ?_⟩) hH ?_; rotate_left; · ((intro w hSw); (try dsimp only at hSw); go_simp; (try with_reducible rfl); done)
          (try simp only [Act.put, List.setIfInBounds_toArray, List.set_cons_zero, List.set_cons_succ])
          have HT1 := Lib.hid (show (s.take 0).length = 0 by rw [List.length_take]; omega)
          have HGD := Lib.hid (Grew.refl w1).drew
          have HGE := Lib.hid (HGD.out.alloc (.cells #[] 3))
          have HGX := Lib.hid (HGD.out.alloc (.cells #[.int .i64 k] 3))
          have HRX := Lib.hid (rd_new (E := IntS.E) w1.drew (k : Int) 3 rfl)
          have HOE := Lib.hid (Own.new_ (E := IntS.E) (t := 3) (w := w1.drew) (base := w1.heap.size) (Nat.le_refl _))
          refine wpAnyH_ready (rs := [0, 6]) (by kernel_rfl) (by simp) ?_
          refine (AllReadyH.cons (by simp only [List.getElem?_toArray, List.getElem?_cons_succ, List.getElem?_cons_zero]; rfl) (fun K hK => ?_) (AllReadyH.cons (by simp only [List.getElem?_toArray, List.getElem?_cons_succ, List.getElem?_cons_zero]; rfl) (fun K hK => ?_) AllReadyH.nil))
          ·
            go_simp
            refine hK.out _ _ (trivial) (fun hH => ?_)
            clear hK K
            (try simp only [Act.put, List.setIfInBounds_toArray, List.set_cons_zero, List.set_cons_succ])
            refine wpAnyH_ready (rs := [4, 6]) (by kernel_rfl) (by simp) ?_
            refine (AllReadyH.cons (by simp only [List.getElem?_toArray, List.getElem?_cons_succ, List.getElem?_cons_zero]; rfl) (fun K hK => ?_) (AllReadyH.cons (by simp only [List.getElem?_toArray, List.getElem?_cons_succ, List.getElem?_cons_zero]; rfl) (fun K hK => ?_) AllReadyH.nil))
            ·
              refine step_append_rd _ rfl (.tmp 36) (.tmp 39) _ rfl sl_Int w1.heap.size _ _ _ ([] : List _) rfl HOE.out _ _ _ (s.take 0) rfl HT1.out.symm ((HRD.out.grew HGE.out).take 0) (by rw [HT1.out]; simp only [List.length_nil]; omega) HGE.out.le ?_; intro A5 c5 w5 ho5 hgr5 hat5; have HG5 := Lib.hid (HGE.out.app (E := IntS.E) HOE.out (Nat.le_refl _) hgr5); have HO5 := Lib.hid (show Own IntS.E 3 w5 w1.heap.size (.slice A5 0 c5) (s.take 0) by simpa using ho5); clear ho5 hgr5 hat5
              refine hK.out _ _ (trivial) (fun hH => ?_)
              clear hK K
              (try simp only [Act.put, List.setIfInBounds_toArray, List.set_cons_zero, List.set_cons_succ])
              (try simp only [Nat.zero_add])
              refine wpAnyH_ready (rs := [6]) (by kernel_rfl) (by simp) ?_
              refine (AllReadyH.cons (by simp only [List.getElem?_toArray, List.getElem?_cons_succ, List.getElem?_cons_zero]; rfl) (fun K hK => ?_) AllReadyH.nil)
              go_simp
              refine hK.out _ _ (trivial) (fun hH => ?_)
              clear hK K
              (try simp only [Act.put, List.setIfInBounds_toArray, List.set_cons_zero, List.set_cons_succ])
              have HG6 := Lib.hid (HG5.out.alloc (.cells #[.int .i64 k] 3))
              have HO6 := Lib.hid (HO5.out.alloc (.cells #[.int .i64 k] 3))
              have HR6 := Lib.hid (rd_new (E := IntS.E) w5 (k : Int) 3 rfl)
              refine wpAnyH_ready (rs := [7]) (by kernel_rfl) (by simp) ?_
              refine (AllReadyH.cons (by simp only [List.getElem?_toArray, List.getElem?_cons_succ, List.getElem?_cons_zero]; rfl) (fun K hK => ?_) AllReadyH.nil)
              refine step_append_rd _ rfl (.tmp 40) (.tmp 42) _ rfl sl_Int w1.heap.size _ _ _ (s.take 0) rfl HO6.out _ _ _ [(k : Int)] rfl rfl HR6.out (by rw [HT1.out]; simp only [List.length_cons, List.length_nil]; omega) HG6.out.le ?_; intro A7 c7 w7 ho7 hgr7 hat7; have HG7 := Lib.hid (HG6.out.app HO6.out (Nat.le_refl _) hgr7); have HO7 := Lib.hid ho7; clear ho7 hgr7 hat7
              refine hK.out _ _ (trivial) (fun hH => ?_)
              clear hK K
              (try simp only [Act.put, List.setIfInBounds_toArray, List.set_cons_zero, List.set_cons_succ])
              refine wpAnyH_ready (rs := [11]) (by kernel_rfl) (by simp) ?_
              refine (AllReadyH.cons (by simp only [List.getElem?_toArray, List.getElem?_cons_succ, List.getElem?_cons_zero]; rfl) (fun K hK => ?_) AllReadyH.nil)
              refine step_append_rd _ rfl (.tmp 43) (.tmp 46) _ rfl sl_Int w1.heap.size _ _ _ (s.take 0 ++ [(k : Int)]) rfl HO7.out _ _ _ (s.drop 0) rfl (by simp only [List.length_drop]; omega) (by rw [List.drop_zero]; exact HRD.out.grew HG7.out) (by rw [List.length_append, HT1.out, List.length_drop]; simp only [List.length_cons, List.length_nil]; omega) HG7.out.le ?_; intro A8 c8 w8 ho8 hgr8 hat8; have HG8 := Lib.hid (HG7.out.app HO7.out (Nat.le_refl _) hgr8); have HO8 := Lib.hid ho8; clear ho8 hgr8 hat8
              refine hK.out _ _ (trivial) (fun hH => ?_)
              clear hK K
              (try simp only [Act.put, List.setIfInBounds_toArray, List.set_cons_zero, List.set_cons_succ])
              refine wpAnyH_take (i := 12) (v := ?_) (by simp only [List.getElem?_toArray, List.getElem?_cons_succ, List.getElem?_cons_zero]; rfl) (by kernel_rfl) (by kernel_rfl) (by kernel_rfl) (by intro _ _ _ h; exact h) (Or.inl ⟨by rfl, ?_⟩) hH ?_; rotate_left; · ((intro w hSw); (try dsimp only at hSw); go_simp; (try with_reducible rfl); done)
              (try simp only [Act.put, List.setIfInBounds_toArray, List.set_cons_zero, List.set_cons_succ])
              refine wpAnyH_done (by kernel_rfl) ?_ _
              go_wp2_with fail
              go_roundw
              case rel => go_light; exact ⟨k + 1, A8, c8, _, by omega, by go_num, by congr 1 <;> omega, HE.out.1, HE.out.2, (own_re HO8.out rfl (by omega)).mono HG2.out.le, HG2.out.trans HG8.out⟩
              case measure => go_light; simp [intOf] <;> omega
            ·
              go_simp
              refine hK.out _ _ (trivial) (fun hH => ?_)
              clear hK K
              (try simp only [Act.put, List.setIfInBounds_toArray, List.set_cons_zero, List.set_cons_succ])
              have HGEX := Lib.hid (HGE.out.alloc (.cells #[.int .i64 k] 3))
              have HOEX := Lib.hid (HOE.out.alloc (.cells #[.int .i64 k] 3))
              have HREX := Lib.hid (rd_new (E := IntS.E) (w1.drew.alloc (.cells #[] 3)) (k : Int) 3 (n := w1.heap.size + 1) (by simp))
              refine wpAnyH_ready (rs := [4]) (by kernel_rfl) (by simp) ?_
              refine (AllReadyH.cons (by simp only [List.getElem?_toArray, List.getElem?_cons_succ, List.getElem?_cons_zero]; rfl) (fun K hK => ?_) AllReadyH.nil)
              refine step_append_rd _ rfl (.tmp 36) (.tmp 39) _ rfl sl_Int w1.heap.size _ _ _ ([] : List _) rfl HOEX.out _ _ _ (s.take 0) rfl HT1.out.symm ((HRD.out.grew HGEX.out).take 0) (by rw [HT1.out]; simp only [List.length_nil]; omega) HGEX.out.le ?_; intro A5 c5 w5 ho5 hgr5 hat5; have HG5 := Lib.hid (HGEX.out.app (E := IntS.E) HOEX.out (Nat.le_refl _) hgr5); have HO5 := Lib.hid (show Own IntS.E 3 w5 w1.heap.size (.slice A5 0 c5) (s.take 0) by simpa using ho5); have HR6 := Lib.hid (HREX.out.kept hgr5 (by intro b o e1 e2; simp only [Option.some.injEq, Addr.mk.injEq] at e1; simp [Value.ownBlock] at e2; have h9 : w1.drew.heap.size = w1.heap.size := rfl; omega)); clear ho5 hgr5 hat5
              refine hK.out _ _ (trivial) (fun hH => ?_)
              clear hK K
              (try simp only [Act.put, List.setIfInBounds_toArray, List.set_cons_zero, List.set_cons_succ])
              (try simp only [Nat.zero_add])
              have HG6 := HG5
              have HO6 := HO5
              refine wpAnyH_ready (rs := [7]) (by kernel_rfl) (by simp) ?_
              refine (AllReadyH.cons (by simp only [List.getElem?_toArray, List.getElem?_cons_succ, List.getElem?_cons_zero]; rfl) (fun K hK => ?_) AllReadyH.nil)
              refine step_append_rd _ rfl (.tmp 40) (.tmp 42) _ rfl sl_Int w1.heap.size _ _ _ (s.take 0) rfl HO6.out _ _ _ [(k : Int)] rfl rfl HR6.out (by rw [HT1.out]; simp only [List.length_cons, List.length_nil]; omega) HG6.out.le ?_; intro A7 c7 w7 ho7 hgr7 hat7; have HG7 := Lib.hid (HG6.out.app HO6.out (Nat.le_refl _) hgr7); have HO7 := Lib.hid ho7; clear ho7 hgr7 hat7
              refine hK.out _ _ (trivial) (fun hH => ?_)
              clear hK K
              (try simp only [Act.put, List.setIfInBounds_toArray, List.set_cons_zero, List.set_cons_succ])
              refine wpAnyH_ready (rs := [11]) (by kernel_rfl) (by simp) ?_
              refine (AllReadyH.cons (by simp only [List.getElem?_toArray, List.getElem?_cons_succ, List.getElem?_cons_zero]; rfl) (fun K hK => ?_) AllReadyH.nil)
              refine step_append_rd _ rfl (.tmp 43) (.tmp 46) _ rfl sl_Int w1.heap.size _ _ _ (s.take 0 ++ [(k : Int)]) rfl HO7.out _ _ _ (s.drop 0) rfl (by simp only [List.length_drop]; omega) (by rw [List.drop_zero]; exact HRD.out.grew HG7.out) (by rw [List.length_append, HT1.out, List.length_drop]; simp only [List.length_cons, List.length_nil]; omega) HG7.out.le ?_; intro A8 c8 w8 ho8 hgr8 hat8; have HG8 := Lib.hid (HG7.out.app HO7.out (Nat.le_refl _) hgr8); have HO8 := Lib.hid ho8; clear ho8 hgr8 hat8
              refine hK.out _ _ (trivial) (fun hH => ?_)
              clear hK K
              (try simp only [Act.put, List.setIfInBounds_toArray, List.set_cons_zero, List.set_cons_succ])
              refine wpAnyH_take (i := 12) (v := ?_) (by simp only [List.getElem?_toArray, List.getElem?_cons_succ, List.getElem?_cons_zero]; rfl) (by kernel_rfl) (by kernel_rfl) (by kernel_rfl) (by intro _ _ _ h; exact h) (Or.inl ⟨by rfl, ?_⟩) hH ?_; rotate_left; · ((intro w hSw); (try dsimp only at hSw); go_simp; (try with_reducible rfl); done)
              (try simp only [Act.put, List.setIfInBounds_toArray, List.set_cons_zero, List.set_cons_succ])
              refine wpAnyH_done (by kernel_rfl) ?_ _
              go_wp2_with fail
              go_roundw
              case rel => go_light; exact ⟨k + 1, A8, c8, _, by omega, by go_num, by congr 1 <;> omega, HE.out.1, HE.out.2, (own_re HO8.out rfl (by omega)).mono HG2.out.le, HG2.out.trans HG8.out⟩
              case measure => go_light; simp [intOf] <;> omega
          ·
            go_simp
            refine hK.out _ _ (trivial) (fun hH => ?_)
            clear hK K
            (try simp only [Act.put, List.setIfInBounds_toArray, List.set_cons_zero, List.set_cons_succ])
            have HGXE := Lib.hid (HGX.out.alloc (.cells #[] 3))
            have HRXE := Lib.hid (HRX.out.grew ((Grew.refl _).alloc (.cells #[] 3)))
            have HOXE := Lib.hid (Own.new_ (E := IntS.E) (t := 3) (w := w1.drew.alloc (.cells #[.int .i64 k] 3)) (base := w1.heap.size) HGX.out.le)
            have hsz1 : (w1.drew.alloc (.cells #[.int .i64 k] 3)).heap.size = w1.heap.size + 1 := by simp
            rw [hsz1] at HOXE
            clear hsz1
            refine wpAnyH_ready (rs := [0]) (by kernel_rfl) (by simp) ?_
            refine (AllReadyH.cons (by simp only [List.getElem?_toArray, List.getElem?_cons_succ, List.getElem?_cons_zero]; rfl) (fun K hK => ?_) AllReadyH.nil)
            go_simp
            refine hK.out _ _ (trivial) (fun hH => ?_)
            clear hK K
            (try simp only [Act.put, List.setIfInBounds_toArray, List.set_cons_zero, List.set_cons_succ])
            refine wpAnyH_ready (rs := [4]) (by kernel_rfl) (by simp) ?_
            refine (AllReadyH.cons (by simp only [List.getElem?_toArray, List.getElem?_cons_succ, List.getElem?_cons_zero]; rfl) (fun K hK => ?_) AllReadyH.nil)
            refine step_append_rd _ rfl (.tmp 36) (.tmp 39) _ rfl sl_Int w1.heap.size _ _ _ ([] : List _) rfl HOXE.out _ _ _ (s.take 0) rfl HT1.out.symm ((HRD.out.grew HGXE.out).take 0) (by rw [HT1.out]; simp only [List.length_nil]; omega) HGXE.out.le ?_; intro A5 c5 w5 ho5 hgr5 hat5; have HG5 := Lib.hid (HGXE.out.app (E := IntS.E) HOXE.out (Nat.le_refl _) hgr5); have HO5 := Lib.hid (show Own IntS.E 3 w5 w1.heap.size (.slice A5 0 c5) (s.take 0) by simpa using ho5); have HR6 := Lib.hid (HRXE.out.kept hgr5 (by intro b o e1 e2; simp only [Option.some.injEq, Addr.mk.injEq] at e1; simp [Value.ownBlock] at e2; have h9 : w1.drew.heap.size = w1.heap.size := rfl; omega)); clear ho5 hgr5 hat5
            refine hK.out _ _ (trivial) (fun hH => ?_)
            clear hK K
            (try simp only [Act.put, List.setIfInBounds_toArray, List.set_cons_zero, List.set_cons_succ])
            (try simp only [Nat.zero_add])
            have HG6 := HG5
            have HO6 := HO5
            refine wpAnyH_ready (rs := [7]) (by kernel_rfl) (by simp) ?_
            refine (AllReadyH.cons (by simp only [List.getElem?_toArray, List.getElem?_cons_succ, List.getElem?_cons_zero]; rfl) (fun K hK => ?_) AllReadyH.nil)
            refine step_append_rd _ rfl (.tmp 40) (.tmp 42) _ rfl sl_Int w1.heap.size _ _ _ (s.take 0) rfl HO6.out _ _ _ [(k : Int)] rfl rfl HR6.out (by rw [HT1.out]; simp only [List.length_cons, List.length_nil]; omega) HG6.out.le ?_; intro A7 c7 w7 ho7 hgr7 hat7; have HG7 := Lib.hid (HG6.out.app HO6.out (Nat.le_refl _) hgr7); have HO7 := Lib.hid ho7; clear ho7 hgr7 hat7
            refine hK.out _ _ (trivial) (fun hH => ?_)
            clear hK K
            (try simp only [Act.put, List.setIfInBounds_toArray, List.set_cons_zero, List.set_cons_succ])
            refine wpAnyH_ready (rs := [11]) (by kernel_rfl) (by simp) ?_
            refine (AllReadyH.cons (by simp only [List.getElem?_toArray, List.getElem?_cons_succ, List.getElem?_cons_zero]; rfl) (fun K hK => ?_) AllReadyH.nil)
            refine step_append_rd _ rfl (.tmp 43) (.tmp 46) _ rfl sl_Int w1.heap.size _ _ _ (s.take 0 ++ [(k : Int)]) rfl HO7.out _ _ _ (s.drop 0) rfl (by simp only [List.length_drop]; omega) (by rw [List.drop_zero]; exact HRD.out.grew HG7.out) (by rw [List.length_append, HT1.out, List.length_drop]; simp only [List.length_cons, List.length_nil]; omega) HG7.out.le ?_; intro A8 c8 w8 ho8 hgr8 hat8; have HG8 := Lib.hid (HG7.out.app HO7.out (Nat.le_refl _) hgr8); have HO8 := Lib.hid ho8; clear ho8 hgr8 hat8
            refine hK.out _ _ (trivial) (fun hH => ?_)
            clear hK K
            (try simp only [Act.put, List.setIfInBounds_toArray, List.set_cons_zero, List.set_cons_succ])
            refine wpAnyH_take (i := 12) (v := ?_) (by simp only [List.getElem?_toArray, List.getElem?_cons_succ, List.getElem?_cons_zero]; rfl) (by kernel_rfl) (by kernel_rfl) (by kernel_rfl) (by intro _ _ _ h; exact h) (Or.inl ⟨by rfl, ?_⟩) hH ?_; rotate_left; · ((intro w hSw); (try dsimp only at hSw); go_simp; (try with_reducible rfl); done)
            (try simp only [Act.put, List.setIfInBounds_toArray, List.set_cons_zero, List.set_cons_succ])
            refine wpAnyH_done (by kernel_rfl) ?_ _
            go_wp2_with fail
            go_roundw
            case rel => go_light; exact ⟨k + 1, A8, c8, _, by omega, by go_num, by congr 1 <;> omega, HE.out.1, HE.out.2, (own_re HO8.out rfl (by omega)).mono HG2.out.le, HG2.out.trans HG8.out⟩
            case measure => go_light; simp [intOf] <;> omega
        · obtain ⟨i, rfl⟩ : ∃ i, j = i + 1 := ⟨j - 1, by omega⟩
          have his : i < s.length := by have := HSL.out; omega
          obtain ⟨yv, hyv⟩ : ∃ y, s[i]? = some y := ⟨_, List.getElem?_eq_getElem his⟩
          obtain ⟨jj, hjl, hjy⟩ := HMM.out yv (List.mem_of_getElem? hyv)
          subst hjy
          obtain ⟨y, hy⟩ : ∃ y, L[jj]? = some y := ⟨_, List.getElem?_eq_getElem (by omega)⟩
          have HKY := Lib.hid (stL_at hy)
          have HYV := Lib.hid hyv
          have HDD := Lib.hid (show s.drop i = (jj : Int) :: s.drop (i + 1) by rw [List.drop_eq_getElem_cons his]; congr 1; exact (List.getElem?_eq_some_iff.1 hyv).2)
          obtain ⟨g, c2, hv, hg1, hg2⟩ := HO.out.addr (by omega)
          simp only [Value.slice.injEq] at hv
          obtain ⟨rfl, hv2, rfl⟩ := hv
          have hcs : wo.cell? ⟨g, i, none⟩ = some (.int .i64 jj) := by have := HO.out.at_ hyv (j := 0) (u := .int .i64 jj) rfl; simpa [IntS.E] using this
          have hcs := (HGJ.out.rules.1 g _ hg2).trans hcs
          obtain ⟨hd0, hd1, hd2, hd3, hd4⟩ := Slt.at_ HCC.out hy
          have hd3 := (HGJ.out.rules.1 bl _ hbl).trans hd3
          have hx3 := (HGJ.out.rules.1 bl _ hbl).trans HX.out
          have hiz : ((i + 1 : Nat) : Int) = (i : Int) + 1 := by omega
          rw [hiz]
          clear hiz
          have hz1 : IntKind.i64.wrap ((i : Int) + 1 - 1) = (i : Int) := by rw [IntKind.wrap_i64]; omega
          have hz2 : ((i : Int) + 1).toNat = i + 1 := by omega
          have hz3 : (0 : Int) ≤ (i : Int) + 1 := by omega
          have hz5 : (i : Int) < (k : Int) := by omega
          have hz6 : (0 : Int) ≤ (i : Int) := by omega
          have hz7 : decide ((0 : Int) < (i : Int) + 1) = true := decide_eq_true (by omega)
          have hz8 : (0 : Int) ≤ (jj : Int) := by omega
          have hz9 : (jj : Int) < (L.length : Int) := by omega
          have hza : (k : Int) < (L.length : Int) := by omega
          have hzb : (0 : Int) ≤ (k : Int) := by omega
          by_cases hlv : x.st < y.st
          · have hlv2 : decide (x.st < y.st) = true := decide_eq_true hlv
            have HB := Lib.hid (show ∀ z ∈ s.drop i, ltS L k z from fun z hz => by
              rw [HDD.out] at hz
              rcases List.mem_cons.1 hz with rfl | hz
              · left; rw [HKX.out, HKY.out]; exact hlv
              · exact HDR.out z hz)
            clear hyv hy hlv hv2 hd0 hd1 hd2 hd4
            go_wp2_with fail
            (refine wp_region_grow_lit (by kernel_rfl) (by kernel_rfl) ?_; repeat (any_goals (first | go_big_quiet_step ((fail)) | quiet_step ((fail)) | (refine wpQuiet_step (fun K hK => ?_); go_simp; split <;> rename_i hsp <;> (refine hK _ ?_; clear hK K) <;> (try first | simp only [hsp, decide_true, decide_false, Bool.not_true, Bool.not_false] | simp only [Int.not_le.2 hsp, decide_false, Bool.not_false] | simp only [Int.not_lt.2 hsp, decide_false, Bool.not_false] | simp only [Nat.not_le.2 hsp, decide_false, Bool.not_false] | simp only [Nat.not_lt.2 hsp, decide_false, Bool.not_false])))))
            all_goals (refine wpQuiet_nil ?_; intro w1 h1)
            clear hcs hd3 hx3 hz7 hlv2
            go_wp2_with fail
            go_roundw
            case rel => go_light; exact ⟨i, by omega, HB.out, rfl, HGJ.out.trans h1⟩
            case measure => go_light; simp [intOf] <;> omega
          · have hlv2 : decide (x.st < y.st) = false := decide_eq_false hlv
            have HB := Lib.hid (show ∀ z ∈ s.take (i + 1), ltS L z k from fun z hz => by
              have hyk : ltS L jj k := by unfold ltS; rw [HKX.out, HKY.out]; omega
              rcases last_take HSM.out hz (by rw [Nat.add_sub_cancel]; exact HYV.out) with rfl | h
              · exact hyk
              · exact ltS_tr L _ _ _ h hyk)
            have HE := Lib.hid (HEND.out (i + 1) HB.out HDR.out)
            clear hyv hy hlv hv2 hd0 hd1 hd2 hd4
            go_wp2_with fail
            (refine wp_region_grow_lit (by kernel_rfl) (by kernel_rfl) ?_; repeat (any_goals (first | go_big_quiet_step ((fail)) | quiet_step ((fail)) | (refine wpQuiet_step (fun K hK => ?_); go_simp; split <;> rename_i hsp <;> (refine hK _ ?_; clear hK K) <;> (try first | simp only [hsp, decide_true, decide_false, Bool.not_true, Bool.not_false] | simp only [Int.not_le.2 hsp, decide_false, Bool.not_false] | simp only [Int.not_lt.2 hsp, decide_false, Bool.not_false] | simp only [Nat.not_le.2 hsp, decide_false, Bool.not_false] | simp only [Nat.not_lt.2 hsp, decide_false, Bool.not_false])))))
            all_goals (refine wpQuiet_nil ?_; intro w1 h1)
            clear hcs hd3 hx3 hz1 hz7 hlv2
            have hk6 : k ≤ c' := HCAP.out.2.1
            have hzc : (i : Int) + 1 ≤ (c' : Int) := by omega
            have hzd : (i : Int) + 1 ≤ (k : Int) := by omega
            have HO2 := Lib.hid (HO.out.grew (HGJ.out.trans h1))
            have HG2 := Lib.hid ((HG.out.trans HGJ.out).trans h1)
            have HRD := Lib.hid HO2.out.rd
            have hk2 : i + 1 ≤ s.length := by have := HSL.out; omega
            have hk3 : k ≤ c' := HCAP.out.2.1
            have hk4 : s.length = k := HSL.out
            clear h1
            go_wp2_with fail
            refine wp_region_held_drew (S := (fun _ => True)) (by kernel_rfl) (trivial) (fun hH => ?_)
            refine wpAnyH_take (i := 1) (v := ?_) (by simp only [List.getElem?_toArray, List.getElem?_cons_succ, List.getElem?_cons_zero]; rfl) (by kernel_rfl) (by kernel_rfl) (by kernel_rfl) (by intro _ _ _ h; exact h) (Or.inl ⟨by rfl, ?_⟩) hH ?_; rotate_left; · ((intro w hSw); (try dsimp only at hSw); go_simp; (try with_reducible rfl); done)
            (try simp only [Act.put, List.setIfInBounds_toArray, List.set_cons_zero, List.set_cons_succ])
            refine wpAnyH_take (i := 2) (v := ?_) (by simp only [List.getElem?_toArray, List.getElem?_cons_succ, List.getElem?_cons_zero]; rfl) (by kernel_rfl) (by kernel_rfl) (by kernel_rfl) (by intro _ _ _ h; exact h) (Or.inl ⟨by rfl, ?_⟩) hH ?_; rotate_left; · ((intro w hSw); (try dsimp only at hSw); go_simp; (try with_reducible rfl); done)
            (try simp only [Act.put, List.setIfInBounds_toArray, List.set_cons_zero, List.set_cons_succ])
            refine wpAnyH_take (i := 3) (v := ?_) (by simp only [List.getElem?_toArray, List.getElem?_cons_succ, List.getElem?_cons_zero]; rfl) (by kernel_rfl) (by kernel_rfl) (by kernel_rfl) (by intro _ _ _ h; exact h) (Or.inl ⟨by rfl, ?_⟩) hH ?_; rotate_left; · ((intro w hSw); (try dsimp only at hSw); go_simp; (try with_reducible rfl); done)
            (try simp only [Act.put, List.setIfInBounds_toArray, List.set_cons_zero, List.set_cons_succ])
            refine wpAnyH_take (i := 5) (v := ?_) (by simp only [List.getElem?_toArray, List.getElem?_cons_succ, List.getElem?_cons_zero]; rfl) (by kernel_rfl) (by kernel_rfl) (by kernel_rfl) (by intro _ _ _ h; exact h) (Or.inl ⟨by rfl, ?_⟩) hH ?_; rotate_left; · ((intro w hSw); (try dsimp only at hSw); go_simp; (try with_reducible rfl); done)
            (try simp only [Act.put, List.setIfInBounds_toArray, List.set_cons_zero, List.set_cons_succ])
            refine wpAnyH_take (i := 8) (v := ?_) (by simp only [List.getElem?_toArray, List.getElem?_cons_succ, List.getElem?_cons_zero]; rfl) (by kernel_rfl) (by kernel_rfl) (by kernel_rfl) (by intro _ _ _ h; exact h) (Or.inl ⟨by rfl, ?_⟩) hH ?_; rotate_left; · ((intro w hSw); (try dsimp only at hSw); go_simp; (try with_reducible rfl); done)
            (try simp only [Act.put, List.setIfInBounds_toArray, List.set_cons_zero, List.set_cons_succ])
            refine wpAnyH_take (i := 9) (v := ?_) (by simp only [List.getElem?_toArray, List.getElem?_cons_succ, List.getElem?_cons_zero]; rfl) (by kernel_rfl) (by kernel_rfl) (by kernel_rfl) (by intro _ _ _ h; exact h) (Or.inl ⟨by rfl, ?_⟩) hH ?_; rotate_left; · ((intro w hSw); (try dsimp only at hSw); go_simp; (try with_reducible rfl); done)
            (try simp only [Act.put, List.setIfInBounds_toArray, List.set_cons_zero, List.set_cons_succ])
            refine wpAnyH_take (i := 10) (v := ?_) (by simp only [List.getElem?_toArray, List.getElem?_cons_succ, List.getElem?_cons_zero]; rfl) (by kernel_rfl) (by kernel_rfl) (by kernel_rfl) (by intro _ _ _ h; exact h) (Or.inl ⟨by rfl, ?_⟩) hH ?_; rotate_left; · ((intro w hSw); (try dsimp only at hSw); go_simp; (try with_reducible rfl); done)
            (try simp only [Act.put, List.setIfInBounds_toArray, List.set_cons_zero, List.set_cons_succ])
            have HT1 := Lib.hid (show (s.take (i + 1)).length = (i + 1) by rw [List.length_take]; omega)
            have HGD := Lib.hid (Grew.refl w1).drew
            have HGE := Lib.hid (HGD.out.alloc (.cells #[] 3))
            have HGX := Lib.hid (HGD.out.alloc (.cells #[.int .i64 k] 3))
            have HRX := Lib.hid (rd_new (E := IntS.E) w1.drew (k : Int) 3 rfl)
            have HOE := Lib.hid (Own.new_ (E := IntS.E) (t := 3) (w := w1.drew) (base := w1.heap.size) (Nat.le_refl _))
            refine wpAnyH_ready (rs := [0, 6]) (by kernel_rfl) (by simp) ?_
            refine (AllReadyH.cons (by simp only [List.getElem?_toArray, List.getElem?_cons_succ, List.getElem?_cons_zero]; rfl) (fun K hK => ?_) (AllReadyH.cons (by simp only [List.getElem?_toArray, List.getElem?_cons_succ, List.getElem?_cons_zero]; rfl) (fun K hK => ?_) AllReadyH.nil))
            ·
              go_simp
              refine hK.out _ _ (trivial) (fun hH => ?_)
              clear hK K
              (try simp only [Act.put, List.setIfInBounds_toArray, List.set_cons_zero, List.set_cons_succ])
              refine wpAnyH_ready (rs := [4, 6]) (by kernel_rfl) (by simp) ?_
              refine (AllReadyH.cons (by simp only [List.getElem?_toArray, List.getElem?_cons_succ, List.getElem?_cons_zero]; rfl) (fun K hK => ?_) (AllReadyH.cons (by simp only [List.getElem?_toArray, List.getElem?_cons_succ, List.getElem?_cons_zero]; rfl) (fun K hK => ?_) AllReadyH.nil))
              ·
                refine step_append_rd _ rfl (.tmp 36) (.tmp 39) _ rfl sl_Int w1.heap.size _ _ _ ([] : List _) rfl HOE.out _ _ _ (s.take (i + 1)) rfl HT1.out.symm ((HRD.out.grew HGE.out).take (i + 1)) (by rw [HT1.out]; simp only [List.length_nil]; omega) HGE.out.le ?_; intro A5 c5 w5 ho5 hgr5 hat5; have HG5 := Lib.hid (HGE.out.app (E := IntS.E) HOE.out (Nat.le_refl _) hgr5); have HO5 := Lib.hid (show Own IntS.E 3 w5 w1.heap.size (.slice A5 (i + 1) c5) (s.take (i + 1)) by simpa using ho5); clear ho5 hgr5 hat5
                refine hK.out _ _ (trivial) (fun hH => ?_)
                clear hK K
                (try simp only [Act.put, List.setIfInBounds_toArray, List.set_cons_zero, List.set_cons_succ])
                (try simp only [Nat.zero_add])
                refine wpAnyH_ready (rs := [6]) (by kernel_rfl) (by simp) ?_
                refine (AllReadyH.cons (by simp only [List.getElem?_toArray, List.getElem?_cons_succ, List.getElem?_cons_zero]; rfl) (fun K hK => ?_) AllReadyH.nil)
                go_simp
                refine hK.out _ _ (trivial) (fun hH => ?_)
                clear hK K
                (try simp only [Act.put, List.setIfInBounds_toArray, List.set_cons_zero, List.set_cons_succ])
                have HG6 := Lib.hid (HG5.out.alloc (.cells #[.int .i64 k] 3))
                have HO6 := Lib.hid (HO5.out.alloc (.cells #[.int .i64 k] 3))
                have HR6 := Lib.hid (rd_new (E := IntS.E) w5 (k : Int) 3 rfl)
                refine wpAnyH_ready (rs := [7]) (by kernel_rfl) (by simp) ?_
                refine (AllReadyH.cons (by simp only [List.getElem?_toArray, List.getElem?_cons_succ, List.getElem?_cons_zero]; rfl) (fun K hK => ?_) AllReadyH.nil)
                refine step_append_rd _ rfl (.tmp 40) (.tmp 42) _ rfl sl_Int w1.heap.size _ _ _ (s.take (i + 1)) rfl HO6.out _ _ _ [(k : Int)] rfl rfl HR6.out (by rw [HT1.out]; simp only [List.length_cons, List.length_nil]; omega) HG6.out.le ?_; intro A7 c7 w7 ho7 hgr7 hat7; have HG7 := Lib.hid (HG6.out.app HO6.out (Nat.le_refl _) hgr7); have HO7 := Lib.hid ho7; clear ho7 hgr7 hat7
                refine hK.out _ _ (trivial) (fun hH => ?_)
                clear hK K
                (try simp only [Act.put, List.setIfInBounds_toArray, List.set_cons_zero, List.set_cons_succ])
                refine wpAnyH_ready (rs := [11]) (by kernel_rfl) (by simp) ?_
                refine (AllReadyH.cons (by simp only [List.getElem?_toArray, List.getElem?_cons_succ, List.getElem?_cons_zero]; rfl) (fun K hK => ?_) AllReadyH.nil)
                refine step_append_rd _ rfl (.tmp 43) (.tmp 46) _ rfl sl_Int w1.heap.size _ _ _ (s.take (i + 1) ++ [(k : Int)]) rfl HO7.out _ _ _ (s.drop (i + 1)) rfl (by simp only [List.length_drop]; omega) (Rd.drop_at (HRD.out.grew HG7.out) (by simp [IntS.E]) (by omega)) (by rw [List.length_append, HT1.out, List.length_drop]; simp only [List.length_cons, List.length_nil]; omega) HG7.out.le ?_; intro A8 c8 w8 ho8 hgr8 hat8; have HG8 := Lib.hid (HG7.out.app HO7.out (Nat.le_refl _) hgr8); have HO8 := Lib.hid ho8; clear ho8 hgr8 hat8
                refine hK.out _ _ (trivial) (fun hH => ?_)
                clear hK K
                (try simp only [Act.put, List.setIfInBounds_toArray, List.set_cons_zero, List.set_cons_succ])
                refine wpAnyH_take (i := 12) (v := ?_) (by simp only [List.getElem?_toArray, List.getElem?_cons_succ, List.getElem?_cons_zero]; rfl) (by kernel_rfl) (by kernel_rfl) (by kernel_rfl) (by intro _ _ _ h; exact h) (Or.inl ⟨by rfl, ?_⟩) hH ?_; rotate_left; · ((intro w hSw); (try dsimp only at hSw); go_simp; (try with_reducible rfl); done)
                (try simp only [Act.put, List.setIfInBounds_toArray, List.set_cons_zero, List.set_cons_succ])
                refine wpAnyH_done (by kernel_rfl) ?_ _
                go_wp2_with fail
                go_roundw
                case rel => go_light; exact ⟨k + 1, A8, c8, _, by omega, by go_num, by congr 1 <;> omega, HE.out.1, HE.out.2, (own_re HO8.out rfl (by omega)).mono HG2.out.le, HG2.out.trans HG8.out⟩
                case measure => go_light; simp [intOf] <;> omega
              ·
                go_simp
                refine hK.out _ _ (trivial) (fun hH => ?_)
                clear hK K
                (try simp only [Act.put, List.setIfInBounds_toArray, List.set_cons_zero, List.set_cons_succ])
                have HGEX := Lib.hid (HGE.out.alloc (.cells #[.int .i64 k] 3))
                have HOEX := Lib.hid (HOE.out.alloc (.cells #[.int .i64 k] 3))
                have HREX := Lib.hid (rd_new (E := IntS.E) (w1.drew.alloc (.cells #[] 3)) (k : Int) 3 (n := w1.heap.size + 1) (by simp))
                refine wpAnyH_ready (rs := [4]) (by kernel_rfl) (by simp) ?_
                refine (AllReadyH.cons (by simp only [List.getElem?_toArray, List.getElem?_cons_succ, List.getElem?_cons_zero]; rfl) (fun K hK => ?_) AllReadyH.nil)
                refine step_append_rd _ rfl (.tmp 36) (.tmp 39) _ rfl sl_Int w1.heap.size _ _ _ ([] : List _) rfl HOEX.out _ _ _ (s.take (i + 1)) rfl HT1.out.symm ((HRD.out.grew HGEX.out).take (i + 1)) (by rw [HT1.out]; simp only [List.length_nil]; omega) HGEX.out.le ?_; intro A5 c5 w5 ho5 hgr5 hat5; have HG5 := Lib.hid (HGEX.out.app (E := IntS.E) HOEX.out (Nat.le_refl _) hgr5); have HO5 := Lib.hid (show Own IntS.E 3 w5 w1.heap.size (.slice A5 (i + 1) c5) (s.take (i + 1)) by simpa using ho5); have HR6 := Lib.hid (HREX.out.kept hgr5 (by intro b o e1 e2; simp only [Option.some.injEq, Addr.mk.injEq] at e1; simp [Value.ownBlock] at e2; have h9 : w1.drew.heap.size = w1.heap.size := rfl; omega)); clear ho5 hgr5 hat5
                refine hK.out _ _ (trivial) (fun hH => ?_)
                clear hK K
                (try simp only [Act.put, List.setIfInBounds_toArray, List.set_cons_zero, List.set_cons_succ])
                (try simp only [Nat.zero_add])
                have HG6 := HG5
                have HO6 := HO5
                refine wpAnyH_ready (rs := [7]) (by kernel_rfl) (by simp) ?_
                refine (AllReadyH.cons (by simp only [List.getElem?_toArray, List.getElem?_cons_succ, List.getElem?_cons_zero]; rfl) (fun K hK => ?_) AllReadyH.nil)
                refine step_append_rd _ rfl (.tmp 40) (.tmp 42) _ rfl sl_Int w1.heap.size _ _ _ (s.take (i + 1)) rfl HO6.out _ _ _ [(k : Int)] rfl rfl HR6.out (by rw [HT1.out]; simp only [List.length_cons, List.length_nil]; omega) HG6.out.le ?_; intro A7 c7 w7 ho7 hgr7 hat7; have HG7 := Lib.hid (HG6.out.app HO6.out (Nat.le_refl _) hgr7); have HO7 := Lib.hid ho7; clear ho7 hgr7 hat7
                refine hK.out _ _ (trivial) (fun hH => ?_)
                clear hK K
                (try simp only [Act.put, List.setIfInBounds_toArray, List.set_cons_zero, List.set_cons_succ])
                refine wpAnyH_ready (rs := [11]) (by kernel_rfl) (by simp) ?_
                refine (AllReadyH.cons (by simp only [List.getElem?_toArray, List.getElem?_cons_succ, List.getElem?_cons_zero]; rfl) (fun K hK => ?_) AllReadyH.nil)
                refine step_append_rd _ rfl (.tmp 43) (.tmp 46) _ rfl sl_Int w1.heap.size _ _ _ (s.take (i + 1) ++ [(k : Int)]) rfl HO7.out _ _ _ (s.drop (i + 1)) rfl (by simp only [List.length_drop]; omega) (Rd.drop_at (HRD.out.grew HG7.out) (by simp [IntS.E]) (by omega)) (by rw [List.length_append, HT1.out, List.length_drop]; simp only [List.length_cons, List.length_nil]; omega) HG7.out.le ?_; intro A8 c8 w8 ho8 hgr8 hat8; have HG8 := Lib.hid (HG7.out.app HO7.out (Nat.le_refl _) hgr8); have HO8 := Lib.hid ho8; clear ho8 hgr8 hat8
                refine hK.out _ _ (trivial) (fun hH => ?_)
                clear hK K
                (try simp only [Act.put, List.setIfInBounds_toArray, List.set_cons_zero, List.set_cons_succ])
                refine wpAnyH_take (i := 12) (v := ?_) (by simp only [List.getElem?_toArray, List.getElem?_cons_succ, List.getElem?_cons_zero]; rfl) (by kernel_rfl) (by kernel_rfl) (by kernel_rfl) (by intro _ _ _ h; exact h) (Or.inl ⟨by rfl, ?_⟩) hH ?_; rotate_left; · ((intro w hSw); (try dsimp only at hSw); go_simp; (try with_reducible rfl); done)
                (try simp only [Act.put, List.setIfInBounds_toArray, List.set_cons_zero, List.set_cons_succ])
                refine wpAnyH_done (by kernel_rfl) ?_ _
                go_wp2_with fail
                go_roundw
                case rel => go_light; exact ⟨k + 1, A8, c8, _, by omega, by go_num, by congr 1 <;> omega, HE.out.1, HE.out.2, (own_re HO8.out rfl (by omega)).mono HG2.out.le, HG2.out.trans HG8.out⟩
                case measure => go_light; simp [intOf] <;> omega
            ·
              go_simp
              refine hK.out _ _ (trivial) (fun hH => ?_)
              clear hK K
              (try simp only [Act.put, List.setIfInBounds_toArray, List.set_cons_zero, List.set_cons_succ])
              have HGXE := Lib.hid (HGX.out.alloc (.cells #[] 3))
              have HRXE := Lib.hid (HRX.out.grew ((Grew.refl _).alloc (.cells #[] 3)))
              have HOXE := Lib.hid (Own.new_ (E := IntS.E) (t := 3) (w := w1.drew.alloc (.cells #[.int .i64 k] 3)) (base := w1.heap.size) HGX.out.le)
              have hsz1 : (w1.drew.alloc (.cells #[.int .i64 k] 3)).heap.size = w1.heap.size + 1 := by simp
              rw [hsz1] at HOXE
              clear hsz1
              refine wpAnyH_ready (rs := [0]) (by kernel_rfl) (by simp) ?_
              refine (AllReadyH.cons (by simp only [List.getElem?_toArray, List.getElem?_cons_succ, List.getElem?_cons_zero]; rfl) (fun K hK => ?_) AllReadyH.nil)
              go_simp
              refine hK.out _ _ (trivial) (fun hH => ?_)
              clear hK K
              (try simp only [Act.put, List.setIfInBounds_toArray, List.set_cons_zero, List.set_cons_succ])
              refine wpAnyH_ready (rs := [4]) (by kernel_rfl) (by simp) ?_
              refine (AllReadyH.cons (by simp only [List.getElem?_toArray, List.getElem?_cons_succ, List.getElem?_cons_zero]; rfl) (fun K hK => ?_) AllReadyH.nil)
              refine step_append_rd _ rfl (.tmp 36) (.tmp 39) _ rfl sl_Int w1.heap.size _ _ _ ([] : List _) rfl HOXE.out _ _ _ (s.take (i + 1)) rfl HT1.out.symm ((HRD.out.grew HGXE.out).take (i + 1)) (by rw [HT1.out]; simp only [List.length_nil]; omega) HGXE.out.le ?_; intro A5 c5 w5 ho5 hgr5 hat5; have HG5 := Lib.hid (HGXE.out.app (E := IntS.E) HOXE.out (Nat.le_refl _) hgr5); have HO5 := Lib.hid (show Own IntS.E 3 w5 w1.heap.size (.slice A5 (i + 1) c5) (s.take (i + 1)) by simpa using ho5); have HR6 := Lib.hid (HRXE.out.kept hgr5 (by intro b o e1 e2; simp only [Option.some.injEq, Addr.mk.injEq] at e1; simp [Value.ownBlock] at e2; have h9 : w1.drew.heap.size = w1.heap.size := rfl; omega)); clear ho5 hgr5 hat5
              refine hK.out _ _ (trivial) (fun hH => ?_)
              clear hK K
              (try simp only [Act.put, List.setIfInBounds_toArray, List.set_cons_zero, List.set_cons_succ])
              (try simp only [Nat.zero_add])
              have HG6 := HG5
              have HO6 := HO5
              refine wpAnyH_ready (rs := [7]) (by kernel_rfl) (by simp) ?_
              refine (AllReadyH.cons (by simp only [List.getElem?_toArray, List.getElem?_cons_succ, List.getElem?_cons_zero]; rfl) (fun K hK => ?_) AllReadyH.nil)
              refine step_append_rd _ rfl (.tmp 40) (.tmp 42) _ rfl sl_Int w1.heap.size _ _ _ (s.take (i + 1)) rfl HO6.out _ _ _ [(k : Int)] rfl rfl HR6.out (by rw [HT1.out]; simp only [List.length_cons, List.length_nil]; omega) HG6.out.le ?_; intro A7 c7 w7 ho7 hgr7 hat7; have HG7 := Lib.hid (HG6.out.app HO6.out (Nat.le_refl _) hgr7); have HO7 := Lib.hid ho7; clear ho7 hgr7 hat7
              refine hK.out _ _ (trivial) (fun hH => ?_)
              clear hK K
              (try simp only [Act.put, List.setIfInBounds_toArray, List.set_cons_zero, List.set_cons_succ])
              refine wpAnyH_ready (rs := [11]) (by kernel_rfl) (by simp) ?_
              refine (AllReadyH.cons (by simp only [List.getElem?_toArray, List.getElem?_cons_succ, List.getElem?_cons_zero]; rfl) (fun K hK => ?_) AllReadyH.nil)
              refine step_append_rd _ rfl (.tmp 43) (.tmp 46) _ rfl sl_Int w1.heap.size _ _ _ (s.take (i + 1) ++ [(k : Int)]) rfl HO7.out _ _ _ (s.drop (i + 1)) rfl (by simp only [List.length_drop]; omega) (Rd.drop_at (HRD.out.grew HG7.out) (by simp [IntS.E]) (by omega)) (by rw [List.length_append, HT1.out, List.length_drop]; simp only [List.length_cons, List.length_nil]; omega) HG7.out.le ?_; intro A8 c8 w8 ho8 hgr8 hat8; have HG8 := Lib.hid (HG7.out.app HO7.out (Nat.le_refl _) hgr8); have HO8 := Lib.hid ho8; clear ho8 hgr8 hat8
              refine hK.out _ _ (trivial) (fun hH => ?_)
              clear hK K
              (try simp only [Act.put, List.setIfInBounds_toArray, List.set_cons_zero, List.set_cons_succ])
              refine wpAnyH_take (i := 12) (v := ?_) (by simp only [List.getElem?_toArray, List.getElem?_cons_succ, List.getElem?_cons_zero]; rfl) (by kernel_rfl) (by kernel_rfl) (by kernel_rfl) (by intro _ _ _ h; exact h) (Or.inl ⟨by rfl, ?_⟩) hH ?_; rotate_left; · ((intro w hSw); (try dsimp only at hSw); go_simp; (try with_reducible rfl); done)
              (try simp only [Act.put, List.setIfInBounds_toArray, List.set_cons_zero, List.set_cons_succ])
              refine wpAnyH_done (by kernel_rfl) ?_ _
              go_wp2_with fail
              go_roundw
              case rel => go_light; exact ⟨k + 1, A8, c8, _, by omega, by go_num, by congr 1 <;> omega, HE.out.1, HE.out.2, (own_re HO8.out rfl (by omega)).mono HG2.out.le, HG2.out.trans HG8.out⟩
              case measure => go_light; simp [intOf] <;> omega
    · obtain rfl : k = L.length := by omega
      have HE := Lib.hid (ord_uniq HPM.out HSM.out)
      go_wp2_with fail
      go_ret
      go_light
      exact ⟨A', c', rfl, by rw [← HE.out]; exact HO.out, HG.out⟩
end Go.Proofs.Ytembbgkhmnalpaa
