/- The reference's order of tasks' indices is the plain insertion's. Conditions: none. -/
import Derived.Test.YteckhmbkagigjaaOrdd
namespace Go.Proofs.Yteckhmbkagigjaa
open Go.RowKit Go.ChangeShapes Go.WideShapes Go.Deep
set_option linter.unusedVariables false
set_option linter.unusedSimpArgs false

theorem Rd.drop_at {T : Type} {E : Enc T} {w : World} {b o o' : Nat} {l : List T} {k c : Nat} (h : Rd E w (some ⟨b, o, none⟩) l) (ho : o' = o + k * E.sz) (hc : l.length ≤ c) : Rd E w (if c = k then some ⟨b, o, none⟩ else some ⟨b, o', none⟩) (l.drop k) := by
  subst ho
  intro hl
  rw [List.length_drop] at hl
  rw [if_neg (by omega)]
  exact Rd.drop (k := k) h (fun _ => rfl) (by rw [List.length_drop]; exact hl)
theorem own_re {T : Type} {E : Enc T} {t : TypeId} {w : World} {base : Nat} {A : Option Addr} {n m c : Nat} {l l' : List T} (h : Own E t w base (.slice A n c) l) (hl : l = l') (hn : n = m) : Own E t w base (.slice A m c) l' := by
  subst hl hn
  exact h
def dueL (x y : Tsk) : Bool := decide (x.d < y.d)
def wtL (x y : Tsk) : Bool := decide (x.m * y.wt < y.m * x.wt)
def idxL (f : Tsk → Tsk → Bool) (l : List Tsk) (a b : Int) : Bool := f (l.getD a.toNat tsk0) (l.getD b.toNat tsk0)
theorem idxL_due (l : List Tsk) : idxL dueL l = ltOf_ (idxC dueC l) := by
  funext a b
  simp only [idxL, dueL, ltOf_, idxC, dueC]
  exact decide_eq_decide.2 (by omega)
theorem idxL_wt (l : List Tsk) : idxL wtL l = ltOf_ (idxC wtC l) := by
  funext a b
  simp only [idxL, wtL, ltOf_, idxC, wtC]
  exact decide_eq_decide.2 (by omega)

set_option maxHeartbeats 1000000 in
theorem before_due (x y : Tsk) (w : World) (hx : tskOk x = true) (hy : tskOk y = true) :
    Calls Try.prog 51 #[x.v, y.v, .int .i64 0] w fun e w' => e = .returned (.bool (dueL x y)) ∧ Grew w w' := by
  obtain ⟨h1, h2, h3⟩ := tskOk_at hx
  obtain ⟨k1, k2, k3⟩ := tskOk_at hy
  have q1 := mul_b h1 k3
  have q2 := mul_b k1 h3
  obtain ⟨m, d, wt⟩ := x
  obtain ⟨m', d', wt'⟩ := y
  simp only at h1 h2 h3 k1 k2 k3 q1 q2
  clear hx hy
  go_enter Try.func51, Try.ntmps51
  go_wp2_with fail
  go_ret
  go_light
  exact ⟨rfl, ((Grew.refl _).alloc _).alloc _⟩
theorem beforeE_due {x y : Tsk} {v : Bool} (hv : dueL x y = v) (w : World) (hx : tskOk x = true) (hy : tskOk y = true) :
    Calls Try.prog 51 #[x.v, y.v, .int .i64 0] w fun e w' => e = .returned (.bool v) ∧ Grew w w' := hv ▸ before_due x y w hx hy
set_option maxHeartbeats 1000000 in
theorem before_wt (x y : Tsk) (w : World) (hx : tskOk x = true) (hy : tskOk y = true) :
    Calls Try.prog 51 #[x.v, y.v, .int .i64 2] w fun e w' => e = .returned (.bool (wtL x y)) ∧ Grew w w' := by
  obtain ⟨h1, h2, h3⟩ := tskOk_at hx
  obtain ⟨k1, k2, k3⟩ := tskOk_at hy
  have q1 := mul_b h1 k3
  have q2 := mul_b k1 h3
  obtain ⟨m, d, wt⟩ := x
  obtain ⟨m', d', wt'⟩ := y
  simp only at h1 h2 h3 k1 k2 k3 q1 q2
  clear hx hy
  go_enter Try.func51, Try.ntmps51
  go_wp2_with fail
  go_ret
  go_light
  exact ⟨rfl, ((Grew.refl _).alloc _).alloc _⟩
theorem beforeE_wt {x y : Tsk} {v : Bool} (hv : wtL x y = v) (w : World) (hx : tskOk x = true) (hy : tskOk y = true) :
    Calls Try.prog 51 #[x.v, y.v, .int .i64 2] w fun e w' => e = .returned (.bool v) ∧ Grew w w' := hv ▸ before_wt x y w hx hy

set_option maxRecDepth 100000 in
set_option maxHeartbeats 8000000 in
theorem l23Sort_due (l : List Tsk) (A : Option Addr) (c : Nat) (w : World) (h : Rd Tsk.E w A l) (hl : areT l = true) :
    Calls Try.prog 44 #[.slice A l.length c, .int .i64 0] w fun e w' => ∃ A' c', e = .returned (.slice A' (sortB (idxL dueL l) (idxs l.length)).length c') ∧ Own IntS.E 3 w' w.heap.size (.slice A' (sortB (idxL dueL l) (idxs l.length)).length c') (sortB (idxL dueL l) (idxs l.length)) ∧ Grew w w' := by
  have HL := Lib.hid h
  have HT := Lib.hid (areT_at hl).2
  have h8 := (areT_at hl).1
  clear h hl
  go_enter Try.func44, Try.ntmps44
  go_wp2_with fail
  have HO1 := Lib.hid (Own.new_ (E := IntS.E) (t := 3) (Nat.le_refl w.heap.size))
  go_loopw [5, 6] (fun o i wr => ∃ (k : Nat) (A' : Option Addr) (c' : Nat), k ≤ l.length ∧ i = .int .i64 k ∧ o = .slice A' k c' ∧ Own IntS.E 3 wr w.heap.size (.slice A' k c') (sortB (idxL dueL l) (idxs k)) ∧ Grew w wr) (fun _ i _ => l.length - (intOf i).toNat)
  case atStart => exact ⟨0, _, _, Nat.zero_le _, rfl, rfl, HO1.out, (Grew.refl w).alloc _⟩
  case round =>
    obtain ⟨k, A', c', hk, rfl, rfl, hown, hg⟩ := hrel
    have HO := Lib.hid hown
    have HG := Lib.hid hg
    clear hown hg HO1
    by_cases hlt : k < l.length
    · obtain ⟨x, hx⟩ : ∃ x, l[k]? = some x := ⟨_, List.getElem?_eq_getElem hlt⟩
      obtain ⟨s, hs⟩ : ∃ s, s = sortB (idxL dueL l) (idxs k) := ⟨_, rfl⟩
      have hsl : s.length = k := by rw [hs, sortB_length, idxs_len]
      have HSM := Lib.hid (show ∀ y ∈ s, ∃ j : Nat, j < l.length ∧ y = j from fun y hy => by
        obtain ⟨j, h1, h2⟩ := idxs_mem.1 (sortB_mem.1 (hs ▸ hy))
        exact ⟨j, by omega, h2⟩)
      have HN := Lib.hid (show sortB (idxL dueL l) (idxs (k + 1)) = insB (idxL dueL l) s k by rw [idxs_succ, hs]; exact sortB_snoc _ _ _)
      have HIX := Lib.hid (show ∀ (j : Nat) (y : Tsk), l[j]? = some y → idxL dueL l k j = dueL x y from fun j y hy => by simp [idxL, List.getD_eq_getElem?_getD, hx, hy])
      have HCAP := Lib.hid HO.out.cap
      rw [← hs] at HO
      have HBL := Lib.hid (backN_le (idxL dueL l k) s)
      have HSL := Lib.hid hsl
      obtain ⟨bl, o, rfl, hbl, hc⟩ := (HL.out.grew HG.out).at_ hlt
      obtain ⟨hx0, hx1, hx2⟩ := Tsk.at_ hc hx
      have HXO := Lib.hid (HT.out k x hx)
      have HCC := Lib.hid hc
      have HX := Lib.hid (And.intro hx0 (And.intro hx1 hx2))
      clear hx hs hsl hc hx0 hx1 hx2
      go_wp2_with fail
      obtain ⟨wo, hwo⟩ : ∃ wo : World, wo = wr := ⟨_, rfl⟩
      subst hwo
      go_loopw [7] (fun i wr => ∃ j : Nat, j ≤ k ∧ backN (idxL dueL l k) s ≤ j ∧ i = .int .i64 j ∧ Grew wo wr) (fun i _ => (intOf i).toNat)
      case atStart => exact ⟨k, Nat.le_refl _, by have := HBL.out; have := HSL.out; omega, rfl, Grew.refl _⟩
      case round =>
        obtain ⟨j, hj, hbj, rfl, hgj⟩ := hrel
        have HGJ := Lib.hid hgj
        clear hgj
        rcases Nat.eq_zero_or_pos j with h0 | h0
        · subst h0
          have HE := Lib.hid (show s.take 0 ++ [(k : Int)] ++ s.drop 0 = sortB (idxL dueL l) (idxs (k + 1)) by
            rw [HN.out, insB, show backN (idxL dueL l k) s = 0 by omega])
          go_wp2_with fail
          (refine wp_region_grow_lit (by kernel_rfl) (by kernel_rfl) ?_; repeat (any_goals (first | go_big_quiet_step ((fail)) | quiet_step ((fail)) | (refine wpQuiet_step (fun K hK => ?_); go_simp; split <;> rename_i hsp <;> (refine hK _ ?_; clear hK K) <;> (try first | simp only [hsp, decide_true, decide_false, Bool.not_true, Bool.not_false] | simp only [Int.not_le.2 hsp, decide_false, Bool.not_false] | simp only [Int.not_lt.2 hsp, decide_false, Bool.not_false] | simp only [Nat.not_le.2 hsp, decide_false, Bool.not_false] | simp only [Nat.not_lt.2 hsp, decide_false, Bool.not_false])))))
          all_goals (refine wpQuiet_nil ?_; intro w1 h1)
          have HO2 := Lib.hid (HO.out.grew (HGJ.out.trans h1))
          have HG2 := Lib.hid ((HG.out.trans HGJ.out).trans h1)
          have HRD := Lib.hid HO2.out.rd
          have hk2 : 0 ≤ s.length := by have := HSL.out; omega
          have hk3 : k ≤ c' := HCAP.out.2.1
          have hk4 : s.length = k := HSL.out
          clear h1
          go_wp2_with fail
          refine wp_region_held_drew (S := (fun _ => True)) (by kernel_rfl) (trivial) (fun hH => ?_)
          refine wpAnyH_take (i := 1) (v := ?_) (by simp only [List.getElem?_toArray, List.getElem?_cons_succ, List.getElem?_cons_zero]; rfl) (by kernel_rfl) (by kernel_rfl) (by kernel_rfl) (by intro _ _ _ h; exact h) (Or.inl ⟨by rfl, ?_⟩) hH ?_; rotate_left; · ((intro w hSw); (try dsimp only at hSw); go_simp; (try with_reducible rfl); done)
          (try simp only [Act.put, List.setIfInBounds_toArray, List.set_cons_zero, List.set_cons_succ])
          refine wpAnyH_take (i := 2) (v := ?_) (by simp only [List.getElem?_toArray, List.getElem?_cons_succ, List.getElem?_cons_zero]; rfl) (by kernel_rfl) (by kernel_rfl) (by kernel_rfl) (by intro _ _ _ h; exact h) (Or.inl ⟨by rfl, ?_⟩) hH ?_; rotate_left; · ((intro w hSw); (try dsimp only at hSw); go_simp; (try with_reducible rfl); done)
          (try simp only [Act.put, List.setIfInBounds_toArray, List.set_cons_zero, List.set_cons_succ])
          refine wpAnyH_take (i := 3) (v := ?_) (by simp only [List.getElem?_toArray, List.getElem?_cons_succ, List.getElem?_cons_zero]; rfl) (by kernel_rfl) (by kernel_rfl) (by kernel_rfl) (by intro _ _ _ h; exact h) (Or.inl ⟨by rfl, ?_⟩) hH ?_; rotate_left; · ((intro w hSw); (try dsimp only at hSw); go_simp; (try with_reducible rfl); done)
          (try simp only [Act.put, List.setIfInBounds_toArray, List.set_cons_zero, List.set_cons_succ])
          refine wpAnyH_take (i := 5) (v := ?_) (by simp only [List.getElem?_toArray, List.getElem?_cons_succ, List.getElem?_cons_zero]; rfl) (by kernel_rfl) (by kernel_rfl) (by kernel_rfl) (by intro _ _ _ h; exact h) (Or.inl ⟨by rfl, ?_⟩) hH ?_; rotate_left; · ((intro w hSw); (try dsimp only at hSw); go_simp; (try with_reducible rfl); done)
          (try simp only [Act.put, List.setIfInBounds_toArray, List.set_cons_zero, List.set_cons_succ])
          refine wpAnyH_take (i := 8) (v := ?_) (by simp only [List.getElem?_toArray, List.getElem?_cons_succ, List.getElem?_cons_zero]; rfl) (by kernel_rfl) (by kernel_rfl) (by kernel_rfl) (by intro _ _ _ h; exact h) (Or.inl ⟨by rfl, ?_⟩) hH ?_; rotate_left; · ((intro w hSw); (try dsimp only at hSw); go_simp; (try with_reducible rfl); done)
          (try simp only [Act.put, List.setIfInBounds_toArray, List.set_cons_zero, List.set_cons_succ])
          refine wpAnyH_take (i := 9) (v := ?_) (by simp only [List.getElem?_toArray, List.getElem?_cons_succ, List.getElem?_cons_zero]; rfl) (by kernel_rfl) (by kernel_rfl) (by kernel_rfl) (by intro _ _ _ h; exact h) (Or.inl ⟨by rfl, ?_⟩) hH ?_; rotate_left; · ((intro w hSw); (try dsimp only at hSw); go_simp; (try with_reducible rfl); done)
          (try simp only [Act.put, List.setIfInBounds_toArray, List.set_cons_zero, List.set_cons_succ])
          refine wpAnyH_take (i := 10) (v := ?_) (by simp only [List.getElem?_toArray, List.getElem?_cons_succ, List.getElem?_cons_zero]; rfl) (by kernel_rfl) (by kernel_rfl) (by kernel_rfl) (by intro _ _ _ h; exact h) (Or.inl ⟨by rfl, ?_⟩) hH ?_; rotate_left; · ((intro w hSw); (try dsimp only at hSw); go_simp; (try with_reducible rfl); done)
          (try simp only [Act.put, List.setIfInBounds_toArray, List.set_cons_zero, List.set_cons_succ])
          have HT1 := Lib.hid (show (s.take 0).length = 0 by rw [List.length_take]; omega)
          have HGD := Lib.hid (Grew.refl w1).drew
          have HGE := Lib.hid (HGD.out.alloc (.cells #[] 3))
          have HGX := Lib.hid (HGD.out.alloc (.cells #[.int .i64 k] 3))
          have HRX := Lib.hid (rd_new (E := IntS.E) w1.drew (k : Int) 3 rfl)
          have HOE := Lib.hid (Own.new_ (E := IntS.E) (t := 3) (w := w1.drew) (base := w1.heap.size) (Nat.le_refl _))
          refine wpAnyH_ready (rs := [0, 6]) (by kernel_rfl) (by simp) ?_
          refine (AllReadyH.cons (by simp only [List.getElem?_toArray, List.getElem?_cons_succ, List.getElem?_cons_zero]; rfl) (fun K hK => ?_) (AllReadyH.cons (by simp only [List.getElem?_toArray, List.getElem?_cons_succ, List.getElem?_cons_zero]; rfl) (fun K hK => ?_) AllReadyH.nil))
          ·
            go_simp
            refine hK.out _ _ (trivial) (fun hH => ?_)
            clear hK K
            (try simp only [Act.put, List.setIfInBounds_toArray, List.set_cons_zero, List.set_cons_succ])
            refine wpAnyH_ready (rs := [4, 6]) (by kernel_rfl) (by simp) ?_
            refine (AllReadyH.cons (by simp only [List.getElem?_toArray, List.getElem?_cons_succ, List.getElem?_cons_zero]; rfl) (fun K hK => ?_) (AllReadyH.cons (by simp only [List.getElem?_toArray, List.getElem?_cons_succ, List.getElem?_cons_zero]; rfl) (fun K hK => ?_) AllReadyH.nil))
            ·
              refine step_append_rd _ rfl (.tmp 37) (.tmp 40) _ rfl sl_Int w1.heap.size _ _ _ ([] : List _) rfl HOE.out _ _ _ (s.take 0) rfl HT1.out.symm ((HRD.out.grew HGE.out).take 0) (by rw [HT1.out]; simp only [List.length_nil]; omega) HGE.out.le ?_; intro A5 c5 w5 ho5 hgr5 hat5; have HG5 := Lib.hid (HGE.out.app (E := IntS.E) HOE.out (Nat.le_refl _) hgr5); have HO5 := Lib.hid (show Own IntS.E 3 w5 w1.heap.size (.slice A5 0 c5) (s.take 0) by simpa using ho5); clear ho5 hgr5 hat5
              refine hK.out _ _ (trivial) (fun hH => ?_)
              clear hK K
              (try simp only [Act.put, List.setIfInBounds_toArray, List.set_cons_zero, List.set_cons_succ])
              (try simp only [Nat.zero_add])
              refine wpAnyH_ready (rs := [6]) (by kernel_rfl) (by simp) ?_
              refine (AllReadyH.cons (by simp only [List.getElem?_toArray, List.getElem?_cons_succ, List.getElem?_cons_zero]; rfl) (fun K hK => ?_) AllReadyH.nil)
              go_simp
              refine hK.out _ _ (trivial) (fun hH => ?_)
              clear hK K
              (try simp only [Act.put, List.setIfInBounds_toArray, List.set_cons_zero, List.set_cons_succ])
              have HG6 := Lib.hid (HG5.out.alloc (.cells #[.int .i64 k] 3))
              have HO6 := Lib.hid (HO5.out.alloc (.cells #[.int .i64 k] 3))
              have HR6 := Lib.hid (rd_new (E := IntS.E) w5 (k : Int) 3 rfl)
              refine wpAnyH_ready (rs := [7]) (by kernel_rfl) (by simp) ?_
              refine (AllReadyH.cons (by simp only [List.getElem?_toArray, List.getElem?_cons_succ, List.getElem?_cons_zero]; rfl) (fun K hK => ?_) AllReadyH.nil)
              refine step_append_rd _ rfl (.tmp 41) (.tmp 43) _ rfl sl_Int w1.heap.size _ _ _ (s.take 0) rfl HO6.out _ _ _ [(k : Int)] rfl rfl HR6.out (by rw [HT1.out]; simp only [List.length_cons, List.length_nil]; omega) HG6.out.le ?_; intro A7 c7 w7 ho7 hgr7 hat7; have HG7 := Lib.hid (HG6.out.app HO6.out (Nat.le_refl _) hgr7); have HO7 := Lib.hid ho7; clear ho7 hgr7 hat7
              refine hK.out _ _ (trivial) (fun hH => ?_)
              clear hK K
              (try simp only [Act.put, List.setIfInBounds_toArray, List.set_cons_zero, List.set_cons_succ])
              refine wpAnyH_ready (rs := [11]) (by kernel_rfl) (by simp) ?_
              refine (AllReadyH.cons (by simp only [List.getElem?_toArray, List.getElem?_cons_succ, List.getElem?_cons_zero]; rfl) (fun K hK => ?_) AllReadyH.nil)
              refine step_append_rd _ rfl (.tmp 44) (.tmp 47) _ rfl sl_Int w1.heap.size _ _ _ (s.take 0 ++ [(k : Int)]) rfl HO7.out _ _ _ (s.drop 0) rfl (by simp only [List.length_drop]; omega) (by rw [List.drop_zero]; exact HRD.out.grew HG7.out) (by rw [List.length_append, HT1.out, List.length_drop]; simp only [List.length_cons, List.length_nil]; omega) HG7.out.le ?_; intro A8 c8 w8 ho8 hgr8 hat8; have HG8 := Lib.hid (HG7.out.app HO7.out (Nat.le_refl _) hgr8); have HO8 := Lib.hid ho8; clear ho8 hgr8 hat8
              refine hK.out _ _ (trivial) (fun hH => ?_)
              clear hK K
              (try simp only [Act.put, List.setIfInBounds_toArray, List.set_cons_zero, List.set_cons_succ])
              refine wpAnyH_take (i := 12) (v := ?_) (by simp only [List.getElem?_toArray, List.getElem?_cons_succ, List.getElem?_cons_zero]; rfl) (by kernel_rfl) (by kernel_rfl) (by kernel_rfl) (by intro _ _ _ h; exact h) (Or.inl ⟨by rfl, ?_⟩) hH ?_; rotate_left; · ((intro w hSw); (try dsimp only at hSw); go_simp; (try with_reducible rfl); done)
              (try simp only [Act.put, List.setIfInBounds_toArray, List.set_cons_zero, List.set_cons_succ])
              refine wpAnyH_done (by kernel_rfl) ?_ _
              go_wp2_with fail
              go_roundw
              case rel => go_light; exact ⟨k + 1, A8, c8, by omega, by go_num, by congr 1 <;> omega, (own_re HO8.out HE.out (by omega)).mono HG2.out.le, HG2.out.trans HG8.out⟩
              case measure => go_light; simp [intOf] <;> omega
            ·
              go_simp
              refine hK.out _ _ (trivial) (fun hH => ?_)
              clear hK K
              (try simp only [Act.put, List.setIfInBounds_toArray, List.set_cons_zero, List.set_cons_succ])
              have HGEX := Lib.hid (HGE.out.alloc (.cells #[.int .i64 k] 3))
              have HOEX := Lib.hid (HOE.out.alloc (.cells #[.int .i64 k] 3))
              have HREX := Lib.hid (rd_new (E := IntS.E) (w1.drew.alloc (.cells #[] 3)) (k : Int) 3 (n := w1.heap.size + 1) (by simp))
              refine wpAnyH_ready (rs := [4]) (by kernel_rfl) (by simp) ?_
              refine (AllReadyH.cons (by simp only [List.getElem?_toArray, List.getElem?_cons_succ, List.getElem?_cons_zero]; rfl) (fun K hK => ?_) AllReadyH.nil)
              refine step_append_rd _ rfl (.tmp 37) (.tmp 40) _ rfl sl_Int w1.heap.size _ _ _ ([] : List _) rfl HOEX.out _ _ _ (s.take 0) rfl HT1.out.symm ((HRD.out.grew HGEX.out).take 0) (by rw [HT1.out]; simp only [List.length_nil]; omega) HGEX.out.le ?_; intro A5 c5 w5 ho5 hgr5 hat5; have HG5 := Lib.hid (HGEX.out.app (E := IntS.E) HOEX.out (Nat.le_refl _) hgr5); have HO5 := Lib.hid (show Own IntS.E 3 w5 w1.heap.size (.slice A5 0 c5) (s.take 0) by simpa using ho5); have HR6 := Lib.hid (HREX.out.kept hgr5 (by intro b o e1 e2; simp only [Option.some.injEq, Addr.mk.injEq] at e1; simp [Value.ownBlock] at e2; have h9 : w1.drew.heap.size = w1.heap.size := rfl; omega)); clear ho5 hgr5 hat5
              refine hK.out _ _ (trivial) (fun hH => ?_)
              clear hK K
              (try simp only [Act.put, List.setIfInBounds_toArray, List.set_cons_zero, List.set_cons_succ])
              (try simp only [Nat.zero_add])
              have HG6 := HG5
              have HO6 := HO5
              refine wpAnyH_ready (rs := [7]) (by kernel_rfl) (by simp) ?_
              refine (AllReadyH.cons (by simp only [List.getElem?_toArray, List.getElem?_cons_succ, List.getElem?_cons_zero]; rfl) (fun K hK => ?_) AllReadyH.nil)
              refine step_append_rd _ rfl (.tmp 41) (.tmp 43) _ rfl sl_Int w1.heap.size _ _ _ (s.take 0) rfl HO6.out _ _ _ [(k : Int)] rfl rfl HR6.out (by rw [HT1.out]; simp only [List.length_cons, List.length_nil]; omega) HG6.out.le ?_; intro A7 c7 w7 ho7 hgr7 hat7; have HG7 := Lib.hid (HG6.out.app HO6.out (Nat.le_refl _) hgr7); have HO7 := Lib.hid ho7; clear ho7 hgr7 hat7
              refine hK.out _ _ (trivial) (fun hH => ?_)
              clear hK K
              (try simp only [Act.put, List.setIfInBounds_toArray, List.set_cons_zero, List.set_cons_succ])
              refine wpAnyH_ready (rs := [11]) (by kernel_rfl) (by simp) ?_
              refine (AllReadyH.cons (by simp only [List.getElem?_toArray, List.getElem?_cons_succ, List.getElem?_cons_zero]; rfl) (fun K hK => ?_) AllReadyH.nil)
              refine step_append_rd _ rfl (.tmp 44) (.tmp 47) _ rfl sl_Int w1.heap.size _ _ _ (s.take 0 ++ [(k : Int)]) rfl HO7.out _ _ _ (s.drop 0) rfl (by simp only [List.length_drop]; omega) (by rw [List.drop_zero]; exact HRD.out.grew HG7.out) (by rw [List.length_append, HT1.out, List.length_drop]; simp only [List.length_cons, List.length_nil]; omega) HG7.out.le ?_; intro A8 c8 w8 ho8 hgr8 hat8; have HG8 := Lib.hid (HG7.out.app HO7.out (Nat.le_refl _) hgr8); have HO8 := Lib.hid ho8; clear ho8 hgr8 hat8
              refine hK.out _ _ (trivial) (fun hH => ?_)
              clear hK K
              (try simp only [Act.put, List.setIfInBounds_toArray, List.set_cons_zero, List.set_cons_succ])
              refine wpAnyH_take (i := 12) (v := ?_) (by simp only [List.getElem?_toArray, List.getElem?_cons_succ, List.getElem?_cons_zero]; rfl) (by kernel_rfl) (by kernel_rfl) (by kernel_rfl) (by intro _ _ _ h; exact h) (Or.inl ⟨by rfl, ?_⟩) hH ?_; rotate_left; · ((intro w hSw); (try dsimp only at hSw); go_simp; (try with_reducible rfl); done)
              (try simp only [Act.put, List.setIfInBounds_toArray, List.set_cons_zero, List.set_cons_succ])
              refine wpAnyH_done (by kernel_rfl) ?_ _
              go_wp2_with fail
              go_roundw
              case rel => go_light; exact ⟨k + 1, A8, c8, by omega, by go_num, by congr 1 <;> omega, (own_re HO8.out HE.out (by omega)).mono HG2.out.le, HG2.out.trans HG8.out⟩
              case measure => go_light; simp [intOf] <;> omega
          ·
            go_simp
            refine hK.out _ _ (trivial) (fun hH => ?_)
            clear hK K
            (try simp only [Act.put, List.setIfInBounds_toArray, List.set_cons_zero, List.set_cons_succ])
            have HGXE := Lib.hid (HGX.out.alloc (.cells #[] 3))
            have HRXE := Lib.hid (HRX.out.grew ((Grew.refl _).alloc (.cells #[] 3)))
            have HOXE := Lib.hid (Own.new_ (E := IntS.E) (t := 3) (w := w1.drew.alloc (.cells #[.int .i64 k] 3)) (base := w1.heap.size) HGX.out.le)
            have hsz1 : (w1.drew.alloc (.cells #[.int .i64 k] 3)).heap.size = w1.heap.size + 1 := by simp
            rw [hsz1] at HOXE
            clear hsz1
            refine wpAnyH_ready (rs := [0]) (by kernel_rfl) (by simp) ?_
            refine (AllReadyH.cons (by simp only [List.getElem?_toArray, List.getElem?_cons_succ, List.getElem?_cons_zero]; rfl) (fun K hK => ?_) AllReadyH.nil)
            go_simp
            refine hK.out _ _ (trivial) (fun hH => ?_)
            clear hK K
            (try simp only [Act.put, List.setIfInBounds_toArray, List.set_cons_zero, List.set_cons_succ])
            refine wpAnyH_ready (rs := [4]) (by kernel_rfl) (by simp) ?_
            refine (AllReadyH.cons (by simp only [List.getElem?_toArray, List.getElem?_cons_succ, List.getElem?_cons_zero]; rfl) (fun K hK => ?_) AllReadyH.nil)
            refine step_append_rd _ rfl (.tmp 37) (.tmp 40) _ rfl sl_Int w1.heap.size _ _ _ ([] : List _) rfl HOXE.out _ _ _ (s.take 0) rfl HT1.out.symm ((HRD.out.grew HGXE.out).take 0) (by rw [HT1.out]; simp only [List.length_nil]; omega) HGXE.out.le ?_; intro A5 c5 w5 ho5 hgr5 hat5; have HG5 := Lib.hid (HGXE.out.app (E := IntS.E) HOXE.out (Nat.le_refl _) hgr5); have HO5 := Lib.hid (show Own IntS.E 3 w5 w1.heap.size (.slice A5 0 c5) (s.take 0) by simpa using ho5); have HR6 := Lib.hid (HRXE.out.kept hgr5 (by intro b o e1 e2; simp only [Option.some.injEq, Addr.mk.injEq] at e1; simp [Value.ownBlock] at e2; have h9 : w1.drew.heap.size = w1.heap.size := rfl; omega)); clear ho5 hgr5 hat5
            refine hK.out _ _ (trivial) (fun hH => ?_)
            clear hK K
            (try simp only [Act.put, List.setIfInBounds_toArray, List.set_cons_zero, List.set_cons_succ])
            (try simp only [Nat.zero_add])
            have HG6 := HG5
            have HO6 := HO5
            refine wpAnyH_ready (rs := [7]) (by kernel_rfl) (by simp) ?_
            refine (AllReadyH.cons (by simp only [List.getElem?_toArray, List.getElem?_cons_succ, List.getElem?_cons_zero]; rfl) (fun K hK => ?_) AllReadyH.nil)
            refine step_append_rd _ rfl (.tmp 41) (.tmp 43) _ rfl sl_Int w1.heap.size _ _ _ (s.take 0) rfl HO6.out _ _ _ [(k : Int)] rfl rfl HR6.out (by rw [HT1.out]; simp only [List.length_cons, List.length_nil]; omega) HG6.out.le ?_; intro A7 c7 w7 ho7 hgr7 hat7; have HG7 := Lib.hid (HG6.out.app HO6.out (Nat.le_refl _) hgr7); have HO7 := Lib.hid ho7; clear ho7 hgr7 hat7
            refine hK.out _ _ (trivial) (fun hH => ?_)
            clear hK K
            (try simp only [Act.put, List.setIfInBounds_toArray, List.set_cons_zero, List.set_cons_succ])
            refine wpAnyH_ready (rs := [11]) (by kernel_rfl) (by simp) ?_
            refine (AllReadyH.cons (by simp only [List.getElem?_toArray, List.getElem?_cons_succ, List.getElem?_cons_zero]; rfl) (fun K hK => ?_) AllReadyH.nil)
            refine step_append_rd _ rfl (.tmp 44) (.tmp 47) _ rfl sl_Int w1.heap.size _ _ _ (s.take 0 ++ [(k : Int)]) rfl HO7.out _ _ _ (s.drop 0) rfl (by simp only [List.length_drop]; omega) (by rw [List.drop_zero]; exact HRD.out.grew HG7.out) (by rw [List.length_append, HT1.out, List.length_drop]; simp only [List.length_cons, List.length_nil]; omega) HG7.out.le ?_; intro A8 c8 w8 ho8 hgr8 hat8; have HG8 := Lib.hid (HG7.out.app HO7.out (Nat.le_refl _) hgr8); have HO8 := Lib.hid ho8; clear ho8 hgr8 hat8
            refine hK.out _ _ (trivial) (fun hH => ?_)
            clear hK K
            (try simp only [Act.put, List.setIfInBounds_toArray, List.set_cons_zero, List.set_cons_succ])
            refine wpAnyH_take (i := 12) (v := ?_) (by simp only [List.getElem?_toArray, List.getElem?_cons_succ, List.getElem?_cons_zero]; rfl) (by kernel_rfl) (by kernel_rfl) (by kernel_rfl) (by intro _ _ _ h; exact h) (Or.inl ⟨by rfl, ?_⟩) hH ?_; rotate_left; · ((intro w hSw); (try dsimp only at hSw); go_simp; (try with_reducible rfl); done)
            (try simp only [Act.put, List.setIfInBounds_toArray, List.set_cons_zero, List.set_cons_succ])
            refine wpAnyH_done (by kernel_rfl) ?_ _
            go_wp2_with fail
            go_roundw
            case rel => go_light; exact ⟨k + 1, A8, c8, by omega, by go_num, by congr 1 <;> omega, (own_re HO8.out HE.out (by omega)).mono HG2.out.le, HG2.out.trans HG8.out⟩
            case measure => go_light; simp [intOf] <;> omega
        · obtain ⟨i, rfl⟩ : ∃ i, j = i + 1 := ⟨j - 1, by omega⟩
          have his : i < s.length := by have := HSL.out; omega
          obtain ⟨yv, hyv⟩ : ∃ y, s[i]? = some y := ⟨_, List.getElem?_eq_getElem his⟩
          obtain ⟨jj, hjl, hjy⟩ := HSM.out yv (List.mem_of_getElem? hyv)
          subst hjy
          obtain ⟨y, hy⟩ : ∃ y, l[jj]? = some y := ⟨_, List.getElem?_eq_getElem hjl⟩
          have HYO := Lib.hid (HT.out jj y hy)
          have HIV := Lib.hid (HIX.out jj y hy)
          obtain ⟨g, c2, hv, hg1, hg2⟩ := HO.out.addr (by omega)
          simp only [Value.slice.injEq] at hv
          obtain ⟨rfl, hv2, rfl⟩ := hv
          have hcs : wo.cell? ⟨g, i, none⟩ = some (.int .i64 jj) := by have := HO.out.at_ hyv (j := 0) (u := .int .i64 jj) rfl; simpa [IntS.E] using this
          have hcs := (HGJ.out.rules.1 g _ hg2).trans hcs
          obtain ⟨hd0, hd1, hd2⟩ := Tsk.at_ HCC.out hy
          have hd0 := (HGJ.out.rules.1 bl _ hbl).trans hd0
          have hd1 := (HGJ.out.rules.1 bl _ hbl).trans hd1
          have hd2 := (HGJ.out.rules.1 bl _ hbl).trans hd2
          obtain ⟨hx0, hx1, hx2⟩ := HX.out
          have hx0 := (HGJ.out.rules.1 bl _ hbl).trans hx0
          have hx1 := (HGJ.out.rules.1 bl _ hbl).trans hx1
          have hx2 := (HGJ.out.rules.1 bl _ hbl).trans hx2
          have hiz : ((i + 1 : Nat) : Int) = (i : Int) + 1 := by omega
          rw [hiz]
          clear hiz
          have hz1 : IntKind.i64.wrap ((i : Int) + 1 - 1) = (i : Int) := by rw [IntKind.wrap_i64]; omega
          have hz2 : ((i : Int) + 1).toNat = i + 1 := by omega
          have hz3 : (0 : Int) ≤ (i : Int) + 1 := by omega
          have hz5 : (i : Int) < (k : Int) := by omega
          have hz6 : (0 : Int) ≤ (i : Int) := by omega
          have hz7 : decide ((0 : Int) < (i : Int) + 1) = true := decide_eq_true (by omega)
          have hz8 : (0 : Int) ≤ (jj : Int) := by omega
          have hz9 : (jj : Int) < (l.length : Int) := by omega
          have hza : (k : Int) < (l.length : Int) := by omega
          have hzb : (0 : Int) ≤ (k : Int) := by omega
          cases hlv : dueL x y
          · have HLV := Lib.hid hlv
            have HB := Lib.hid (show backN (idxL dueL l k) s = i + 1 by
              rcases Nat.lt_or_ge (backN (idxL dueL l k) s) (i + 1) with h9 | h9
              · have := backN_in (p := idxL dueL l k) (show backN (idxL dueL l k) s ≤ i by omega) hyv
                rw [HIV.out, hlv] at this
                cases this
              · omega)
            have HE := Lib.hid (show s.take (i + 1) ++ [(k : Int)] ++ s.drop (i + 1) = sortB (idxL dueL l) (idxs (k + 1)) by
              rw [HN.out, insB, HB.out])
            clear hyv hy hlv hv2
            go_wp2_with fail
            (refine wp_region_grow_lit (by kernel_rfl) (by kernel_rfl) ?_; repeat (any_goals (first | go_big_quiet_step ((go_at_call 51; exact quiet_grew (beforeE_due HLV.out _ HXO.out HYO.out))) | quiet_step ((go_at_call 51; exact quiet_grew (beforeE_due HLV.out _ HXO.out HYO.out))) | (refine wpQuiet_step (fun K hK => ?_); go_simp; split <;> rename_i hsp <;> (refine hK _ ?_; clear hK K) <;> (try first | simp only [hsp, decide_true, decide_false, Bool.not_true, Bool.not_false] | simp only [Int.not_le.2 hsp, decide_false, Bool.not_false] | simp only [Int.not_lt.2 hsp, decide_false, Bool.not_false] | simp only [Nat.not_le.2 hsp, decide_false, Bool.not_false] | simp only [Nat.not_lt.2 hsp, decide_false, Bool.not_false])))))
            all_goals (refine wpQuiet_nil ?_; intro w1 h1)
            clear hcs hd0 hd1 hd2 hx0 hx1 hx2 hz1 hz7
            have hk6 : k ≤ c' := HCAP.out.2.1
            have hzc : (i : Int) + 1 ≤ (c' : Int) := by omega
            have hzd : (i : Int) + 1 ≤ (k : Int) := by omega
            have HO2 := Lib.hid (HO.out.grew (HGJ.out.trans h1))
            have HG2 := Lib.hid ((HG.out.trans HGJ.out).trans h1)
            have HRD := Lib.hid HO2.out.rd
            have hk2 : i + 1 ≤ s.length := by have := HSL.out; omega
            have hk3 : k ≤ c' := HCAP.out.2.1
            have hk4 : s.length = k := HSL.out
            clear h1
            go_wp2_with fail
            refine wp_region_held_drew (S := (fun _ => True)) (by kernel_rfl) (trivial) (fun hH => ?_)
            refine wpAnyH_take (i := 1) (v := ?_) (by simp only [List.getElem?_toArray, List.getElem?_cons_succ, List.getElem?_cons_zero]; rfl) (by kernel_rfl) (by kernel_rfl) (by kernel_rfl) (by intro _ _ _ h; exact h) (Or.inl ⟨by rfl, ?_⟩) hH ?_; rotate_left; · ((intro w hSw); (try dsimp only at hSw); go_simp; (try with_reducible rfl); done)
            (try simp only [Act.put, List.setIfInBounds_toArray, List.set_cons_zero, List.set_cons_succ])
            refine wpAnyH_take (i := 2) (v := ?_) (by simp only [List.getElem?_toArray, List.getElem?_cons_succ, List.getElem?_cons_zero]; rfl) (by kernel_rfl) (by kernel_rfl) (by kernel_rfl) (by intro _ _ _ h; exact h) (Or.inl ⟨by rfl, ?_⟩) hH ?_; rotate_left; · ((intro w hSw); (try dsimp only at hSw); go_simp; (try with_reducible rfl); done)
            (try simp only [Act.put, List.setIfInBounds_toArray, List.set_cons_zero, List.set_cons_succ])
            refine wpAnyH_take (i := 3) (v := ?_) (by simp only [List.getElem?_toArray, List.getElem?_cons_succ, List.getElem?_cons_zero]; rfl) (by kernel_rfl) (by kernel_rfl) (by kernel_rfl) (by intro _ _ _ h; exact h) (Or.inl ⟨by rfl, ?_⟩) hH ?_; rotate_left; · ((intro w hSw); (try dsimp only at hSw); go_simp; (try with_reducible rfl); done)
            (try simp only [Act.put, List.setIfInBounds_toArray, List.set_cons_zero, List.set_cons_succ])
            refine wpAnyH_take (i := 5) (v := ?_) (by simp only [List.getElem?_toArray, List.getElem?_cons_succ, List.getElem?_cons_zero]; rfl) (by kernel_rfl) (by kernel_rfl) (by kernel_rfl) (by intro _ _ _ h; exact h) (Or.inl ⟨by rfl, ?_⟩) hH ?_; rotate_left; · ((intro w hSw); (try dsimp only at hSw); go_simp; (try with_reducible rfl); done)
            (try simp only [Act.put, List.setIfInBounds_toArray, List.set_cons_zero, List.set_cons_succ])
            refine wpAnyH_take (i := 8) (v := ?_) (by simp only [List.getElem?_toArray, List.getElem?_cons_succ, List.getElem?_cons_zero]; rfl) (by kernel_rfl) (by kernel_rfl) (by kernel_rfl) (by intro _ _ _ h; exact h) (Or.inl ⟨by rfl, ?_⟩) hH ?_; rotate_left; · ((intro w hSw); (try dsimp only at hSw); go_simp; (try with_reducible rfl); done)
            (try simp only [Act.put, List.setIfInBounds_toArray, List.set_cons_zero, List.set_cons_succ])
            refine wpAnyH_take (i := 9) (v := ?_) (by simp only [List.getElem?_toArray, List.getElem?_cons_succ, List.getElem?_cons_zero]; rfl) (by kernel_rfl) (by kernel_rfl) (by kernel_rfl) (by intro _ _ _ h; exact h) (Or.inl ⟨by rfl, ?_⟩) hH ?_; rotate_left; · ((intro w hSw); (try dsimp only at hSw); go_simp; (try with_reducible rfl); done)
            (try simp only [Act.put, List.setIfInBounds_toArray, List.set_cons_zero, List.set_cons_succ])
            refine wpAnyH_take (i := 10) (v := ?_) (by simp only [List.getElem?_toArray, List.getElem?_cons_succ, List.getElem?_cons_zero]; rfl) (by kernel_rfl) (by kernel_rfl) (by kernel_rfl) (by intro _ _ _ h; exact h) (Or.inl ⟨by rfl, ?_⟩) hH ?_; rotate_left; · ((intro w hSw); (try dsimp only at hSw); go_simp; (try with_reducible rfl); done)
            (try simp only [Act.put, List.setIfInBounds_toArray, List.set_cons_zero, List.set_cons_succ])
            have HT1 := Lib.hid (show (s.take (i + 1)).length = (i + 1) by rw [List.length_take]; omega)
            have HGD := Lib.hid (Grew.refl w1).drew
            have HGE := Lib.hid (HGD.out.alloc (.cells #[] 3))
            have HGX := Lib.hid (HGD.out.alloc (.cells #[.int .i64 k] 3))
            have HRX := Lib.hid (rd_new (E := IntS.E) w1.drew (k : Int) 3 rfl)
            have HOE := Lib.hid (Own.new_ (E := IntS.E) (t := 3) (w := w1.drew) (base := w1.heap.size) (Nat.le_refl _))
            refine wpAnyH_ready (rs := [0, 6]) (by kernel_rfl) (by simp) ?_
            refine (AllReadyH.cons (by simp only [List.getElem?_toArray, List.getElem?_cons_succ, List.getElem?_cons_zero]; rfl) (fun K hK => ?_) (AllReadyH.cons (by simp only [List.getElem?_toArray, List.getElem?_cons_succ, List.getElem?_cons_zero]; rfl) (fun K hK => ?_) AllReadyH.nil))
            ·
              go_simp
              refine hK.out _ _ (trivial) (fun hH => ?_)
              clear hK K
              (try simp only [Act.put, List.setIfInBounds_toArray, List.set_cons_zero, List.set_cons_succ])
              refine wpAnyH_ready (rs := [4, 6]) (by kernel_rfl) (by simp) ?_
              refine (AllReadyH.cons (by simp only [List.getElem?_toArray, List.getElem?_cons_succ, List.getElem?_cons_zero]; rfl) (fun K hK => ?_) (AllReadyH.cons (by simp only [List.getElem?_toArray, List.getElem?_cons_succ, List.getElem?_cons_zero]; rfl) (fun K hK => ?_) AllReadyH.nil))
              ·
                refine step_append_rd _ rfl (.tmp 37) (.tmp 40) _ rfl sl_Int w1.heap.size _ _ _ ([] : List _) rfl HOE.out _ _ _ (s.take (i + 1)) rfl HT1.out.symm ((HRD.out.grew HGE.out).take (i + 1)) (by rw [HT1.out]; simp only [List.length_nil]; omega) HGE.out.le ?_; intro A5 c5 w5 ho5 hgr5 hat5; have HG5 := Lib.hid (HGE.out.app (E := IntS.E) HOE.out (Nat.le_refl _) hgr5); have HO5 := Lib.hid (show Own IntS.E 3 w5 w1.heap.size (.slice A5 (i + 1) c5) (s.take (i + 1)) by simpa using ho5); clear ho5 hgr5 hat5
                refine hK.out _ _ (trivial) (fun hH => ?_)
                clear hK K
                (try simp only [Act.put, List.setIfInBounds_toArray, List.set_cons_zero, List.set_cons_succ])
                (try simp only [Nat.zero_add])
                refine wpAnyH_ready (rs := [6]) (by kernel_rfl) (by simp) ?_
                refine (AllReadyH.cons (by simp only [List.getElem?_toArray, List.getElem?_cons_succ, List.getElem?_cons_zero]; rfl) (fun K hK => ?_) AllReadyH.nil)
                go_simp
                refine hK.out _ _ (trivial) (fun hH => ?_)
                clear hK K
                (try simp only [Act.put, List.setIfInBounds_toArray, List.set_cons_zero, List.set_cons_succ])
                have HG6 := Lib.hid (HG5.out.alloc (.cells #[.int .i64 k] 3))
                have HO6 := Lib.hid (HO5.out.alloc (.cells #[.int .i64 k] 3))
                have HR6 := Lib.hid (rd_new (E := IntS.E) w5 (k : Int) 3 rfl)
                refine wpAnyH_ready (rs := [7]) (by kernel_rfl) (by simp) ?_
                refine (AllReadyH.cons (by simp only [List.getElem?_toArray, List.getElem?_cons_succ, List.getElem?_cons_zero]; rfl) (fun K hK => ?_) AllReadyH.nil)
                refine step_append_rd _ rfl (.tmp 41) (.tmp 43) _ rfl sl_Int w1.heap.size _ _ _ (s.take (i + 1)) rfl HO6.out _ _ _ [(k : Int)] rfl rfl HR6.out (by rw [HT1.out]; simp only [List.length_cons, List.length_nil]; omega) HG6.out.le ?_; intro A7 c7 w7 ho7 hgr7 hat7; have HG7 := Lib.hid (HG6.out.app HO6.out (Nat.le_refl _) hgr7); have HO7 := Lib.hid ho7; clear ho7 hgr7 hat7
                refine hK.out _ _ (trivial) (fun hH => ?_)
                clear hK K
                (try simp only [Act.put, List.setIfInBounds_toArray, List.set_cons_zero, List.set_cons_succ])
                refine wpAnyH_ready (rs := [11]) (by kernel_rfl) (by simp) ?_
                refine (AllReadyH.cons (by simp only [List.getElem?_toArray, List.getElem?_cons_succ, List.getElem?_cons_zero]; rfl) (fun K hK => ?_) AllReadyH.nil)
                refine step_append_rd _ rfl (.tmp 44) (.tmp 47) _ rfl sl_Int w1.heap.size _ _ _ (s.take (i + 1) ++ [(k : Int)]) rfl HO7.out _ _ _ (s.drop (i + 1)) rfl (by simp only [List.length_drop]; omega) (Rd.drop_at (HRD.out.grew HG7.out) (by simp [IntS.E]) (by omega)) (by rw [List.length_append, HT1.out, List.length_drop]; simp only [List.length_cons, List.length_nil]; omega) HG7.out.le ?_; intro A8 c8 w8 ho8 hgr8 hat8; have HG8 := Lib.hid (HG7.out.app HO7.out (Nat.le_refl _) hgr8); have HO8 := Lib.hid ho8; clear ho8 hgr8 hat8
                refine hK.out _ _ (trivial) (fun hH => ?_)
                clear hK K
                (try simp only [Act.put, List.setIfInBounds_toArray, List.set_cons_zero, List.set_cons_succ])
                refine wpAnyH_take (i := 12) (v := ?_) (by simp only [List.getElem?_toArray, List.getElem?_cons_succ, List.getElem?_cons_zero]; rfl) (by kernel_rfl) (by kernel_rfl) (by kernel_rfl) (by intro _ _ _ h; exact h) (Or.inl ⟨by rfl, ?_⟩) hH ?_; rotate_left; · ((intro w hSw); (try dsimp only at hSw); go_simp; (try with_reducible rfl); done)
                (try simp only [Act.put, List.setIfInBounds_toArray, List.set_cons_zero, List.set_cons_succ])
                refine wpAnyH_done (by kernel_rfl) ?_ _
                go_wp2_with fail
                go_roundw
                case rel => go_light; exact ⟨k + 1, A8, c8, by omega, by go_num, by congr 1 <;> omega, (own_re HO8.out HE.out (by omega)).mono HG2.out.le, HG2.out.trans HG8.out⟩
                case measure => go_light; simp [intOf] <;> omega
              ·
                go_simp
                refine hK.out _ _ (trivial) (fun hH => ?_)
                clear hK K
                (try simp only [Act.put, List.setIfInBounds_toArray, List.set_cons_zero, List.set_cons_succ])
                have HGEX := Lib.hid (HGE.out.alloc (.cells #[.int .i64 k] 3))
                have HOEX := Lib.hid (HOE.out.alloc (.cells #[.int .i64 k] 3))
                have HREX := Lib.hid (rd_new (E := IntS.E) (w1.drew.alloc (.cells #[] 3)) (k : Int) 3 (n := w1.heap.size + 1) (by simp))
                refine wpAnyH_ready (rs := [4]) (by kernel_rfl) (by simp) ?_
                refine (AllReadyH.cons (by simp only [List.getElem?_toArray, List.getElem?_cons_succ, List.getElem?_cons_zero]; rfl) (fun K hK => ?_) AllReadyH.nil)
                refine step_append_rd _ rfl (.tmp 37) (.tmp 40) _ rfl sl_Int w1.heap.size _ _ _ ([] : List _) rfl HOEX.out _ _ _ (s.take (i + 1)) rfl HT1.out.symm ((HRD.out.grew HGEX.out).take (i + 1)) (by rw [HT1.out]; simp only [List.length_nil]; omega) HGEX.out.le ?_; intro A5 c5 w5 ho5 hgr5 hat5; have HG5 := Lib.hid (HGEX.out.app (E := IntS.E) HOEX.out (Nat.le_refl _) hgr5); have HO5 := Lib.hid (show Own IntS.E 3 w5 w1.heap.size (.slice A5 (i + 1) c5) (s.take (i + 1)) by simpa using ho5); have HR6 := Lib.hid (HREX.out.kept hgr5 (by intro b o e1 e2; simp only [Option.some.injEq, Addr.mk.injEq] at e1; simp [Value.ownBlock] at e2; have h9 : w1.drew.heap.size = w1.heap.size := rfl; omega)); clear ho5 hgr5 hat5
                refine hK.out _ _ (trivial) (fun hH => ?_)
                clear hK K
                (try simp only [Act.put, List.setIfInBounds_toArray, List.set_cons_zero, List.set_cons_succ])
                (try simp only [Nat.zero_add])
                have HG6 := HG5
                have HO6 := HO5
                refine wpAnyH_ready (rs := [7]) (by kernel_rfl) (by simp) ?_
                refine (AllReadyH.cons (by simp only [List.getElem?_toArray, List.getElem?_cons_succ, List.getElem?_cons_zero]; rfl) (fun K hK => ?_) AllReadyH.nil)
                refine step_append_rd _ rfl (.tmp 41) (.tmp 43) _ rfl sl_Int w1.heap.size _ _ _ (s.take (i + 1)) rfl HO6.out _ _ _ [(k : Int)] rfl rfl HR6.out (by rw [HT1.out]; simp only [List.length_cons, List.length_nil]; omega) HG6.out.le ?_; intro A7 c7 w7 ho7 hgr7 hat7; have HG7 := Lib.hid (HG6.out.app HO6.out (Nat.le_refl _) hgr7); have HO7 := Lib.hid ho7; clear ho7 hgr7 hat7
                refine hK.out _ _ (trivial) (fun hH => ?_)
                clear hK K
                (try simp only [Act.put, List.setIfInBounds_toArray, List.set_cons_zero, List.set_cons_succ])
                refine wpAnyH_ready (rs := [11]) (by kernel_rfl) (by simp) ?_
                refine (AllReadyH.cons (by simp only [List.getElem?_toArray, List.getElem?_cons_succ, List.getElem?_cons_zero]; rfl) (fun K hK => ?_) AllReadyH.nil)
                refine step_append_rd _ rfl (.tmp 44) (.tmp 47) _ rfl sl_Int w1.heap.size _ _ _ (s.take (i + 1) ++ [(k : Int)]) rfl HO7.out _ _ _ (s.drop (i + 1)) rfl (by simp only [List.length_drop]; omega) (Rd.drop_at (HRD.out.grew HG7.out) (by simp [IntS.E]) (by omega)) (by rw [List.length_append, HT1.out, List.length_drop]; simp only [List.length_cons, List.length_nil]; omega) HG7.out.le ?_; intro A8 c8 w8 ho8 hgr8 hat8; have HG8 := Lib.hid (HG7.out.app HO7.out (Nat.le_refl _) hgr8); have HO8 := Lib.hid ho8; clear ho8 hgr8 hat8
                refine hK.out _ _ (trivial) (fun hH => ?_)
                clear hK K
                (try simp only [Act.put, List.setIfInBounds_toArray, List.set_cons_zero, List.set_cons_succ])
                refine wpAnyH_take (i := 12) (v := ?_) (by simp only [List.getElem?_toArray, List.getElem?_cons_succ, List.getElem?_cons_zero]; rfl) (by kernel_rfl) (by kernel_rfl) (by kernel_rfl) (by intro _ _ _ h; exact h) (Or.inl ⟨by rfl, ?_⟩) hH ?_; rotate_left; · ((intro w hSw); (try dsimp only at hSw); go_simp; (try with_reducible rfl); done)
                (try simp only [Act.put, List.setIfInBounds_toArray, List.set_cons_zero, List.set_cons_succ])
                refine wpAnyH_done (by kernel_rfl) ?_ _
                go_wp2_with fail
                go_roundw
                case rel => go_light; exact ⟨k + 1, A8, c8, by omega, by go_num, by congr 1 <;> omega, (own_re HO8.out HE.out (by omega)).mono HG2.out.le, HG2.out.trans HG8.out⟩
                case measure => go_light; simp [intOf] <;> omega
            ·
              go_simp
              refine hK.out _ _ (trivial) (fun hH => ?_)
              clear hK K
              (try simp only [Act.put, List.setIfInBounds_toArray, List.set_cons_zero, List.set_cons_succ])
              have HGXE := Lib.hid (HGX.out.alloc (.cells #[] 3))
              have HRXE := Lib.hid (HRX.out.grew ((Grew.refl _).alloc (.cells #[] 3)))
              have HOXE := Lib.hid (Own.new_ (E := IntS.E) (t := 3) (w := w1.drew.alloc (.cells #[.int .i64 k] 3)) (base := w1.heap.size) HGX.out.le)
              have hsz1 : (w1.drew.alloc (.cells #[.int .i64 k] 3)).heap.size = w1.heap.size + 1 := by simp
              rw [hsz1] at HOXE
              clear hsz1
              refine wpAnyH_ready (rs := [0]) (by kernel_rfl) (by simp) ?_
              refine (AllReadyH.cons (by simp only [List.getElem?_toArray, List.getElem?_cons_succ, List.getElem?_cons_zero]; rfl) (fun K hK => ?_) AllReadyH.nil)
              go_simp
              refine hK.out _ _ (trivial) (fun hH => ?_)
              clear hK K
              (try simp only [Act.put, List.setIfInBounds_toArray, List.set_cons_zero, List.set_cons_succ])
              refine wpAnyH_ready (rs := [4]) (by kernel_rfl) (by simp) ?_
              refine (AllReadyH.cons (by simp only [List.getElem?_toArray, List.getElem?_cons_succ, List.getElem?_cons_zero]; rfl) (fun K hK => ?_) AllReadyH.nil)
              refine step_append_rd _ rfl (.tmp 37) (.tmp 40) _ rfl sl_Int w1.heap.size _ _ _ ([] : List _) rfl HOXE.out _ _ _ (s.take (i + 1)) rfl HT1.out.symm ((HRD.out.grew HGXE.out).take (i + 1)) (by rw [HT1.out]; simp only [List.length_nil]; omega) HGXE.out.le ?_; intro A5 c5 w5 ho5 hgr5 hat5; have HG5 := Lib.hid (HGXE.out.app (E := IntS.E) HOXE.out (Nat.le_refl _) hgr5); have HO5 := Lib.hid (show Own IntS.E 3 w5 w1.heap.size (.slice A5 (i + 1) c5) (s.take (i + 1)) by simpa using ho5); have HR6 := Lib.hid (HRXE.out.kept hgr5 (by intro b o e1 e2; simp only [Option.some.injEq, Addr.mk.injEq] at e1; simp [Value.ownBlock] at e2; have h9 : w1.drew.heap.size = w1.heap.size := rfl; omega)); clear ho5 hgr5 hat5
              refine hK.out _ _ (trivial) (fun hH => ?_)
              clear hK K
              (try simp only [Act.put, List.setIfInBounds_toArray, List.set_cons_zero, List.set_cons_succ])
              (try simp only [Nat.zero_add])
              have HG6 := HG5
              have HO6 := HO5
              refine wpAnyH_ready (rs := [7]) (by kernel_rfl) (by simp) ?_
              refine (AllReadyH.cons (by simp only [List.getElem?_toArray, List.getElem?_cons_succ, List.getElem?_cons_zero]; rfl) (fun K hK => ?_) AllReadyH.nil)
              refine step_append_rd _ rfl (.tmp 41) (.tmp 43) _ rfl sl_Int w1.heap.size _ _ _ (s.take (i + 1)) rfl HO6.out _ _ _ [(k : Int)] rfl rfl HR6.out (by rw [HT1.out]; simp only [List.length_cons, List.length_nil]; omega) HG6.out.le ?_; intro A7 c7 w7 ho7 hgr7 hat7; have HG7 := Lib.hid (HG6.out.app HO6.out (Nat.le_refl _) hgr7); have HO7 := Lib.hid ho7; clear ho7 hgr7 hat7
              refine hK.out _ _ (trivial) (fun hH => ?_)
              clear hK K
              (try simp only [Act.put, List.setIfInBounds_toArray, List.set_cons_zero, List.set_cons_succ])
              refine wpAnyH_ready (rs := [11]) (by kernel_rfl) (by simp) ?_
              refine (AllReadyH.cons (by simp only [List.getElem?_toArray, List.getElem?_cons_succ, List.getElem?_cons_zero]; rfl) (fun K hK => ?_) AllReadyH.nil)
              refine step_append_rd _ rfl (.tmp 44) (.tmp 47) _ rfl sl_Int w1.heap.size _ _ _ (s.take (i + 1) ++ [(k : Int)]) rfl HO7.out _ _ _ (s.drop (i + 1)) rfl (by simp only [List.length_drop]; omega) (Rd.drop_at (HRD.out.grew HG7.out) (by simp [IntS.E]) (by omega)) (by rw [List.length_append, HT1.out, List.length_drop]; simp only [List.length_cons, List.length_nil]; omega) HG7.out.le ?_; intro A8 c8 w8 ho8 hgr8 hat8; have HG8 := Lib.hid (HG7.out.app HO7.out (Nat.le_refl _) hgr8); have HO8 := Lib.hid ho8; clear ho8 hgr8 hat8
              refine hK.out _ _ (trivial) (fun hH => ?_)
              clear hK K
              (try simp only [Act.put, List.setIfInBounds_toArray, List.set_cons_zero, List.set_cons_succ])
              refine wpAnyH_take (i := 12) (v := ?_) (by simp only [List.getElem?_toArray, List.getElem?_cons_succ, List.getElem?_cons_zero]; rfl) (by kernel_rfl) (by kernel_rfl) (by kernel_rfl) (by intro _ _ _ h; exact h) (Or.inl ⟨by rfl, ?_⟩) hH ?_; rotate_left; · ((intro w hSw); (try dsimp only at hSw); go_simp; (try with_reducible rfl); done)
              (try simp only [Act.put, List.setIfInBounds_toArray, List.set_cons_zero, List.set_cons_succ])
              refine wpAnyH_done (by kernel_rfl) ?_ _
              go_wp2_with fail
              go_roundw
              case rel => go_light; exact ⟨k + 1, A8, c8, by omega, by go_num, by congr 1 <;> omega, (own_re HO8.out HE.out (by omega)).mono HG2.out.le, HG2.out.trans HG8.out⟩
              case measure => go_light; simp [intOf] <;> omega
          · have HLV := Lib.hid hlv
            have HB := Lib.hid (show backN (idxL dueL l k) s ≤ i by
              rcases Nat.lt_or_ge (backN (idxL dueL l k) s) (i + 1) with h9 | h9
              · omega
              · have := backN_out (p := idxL dueL l k) (show backN (idxL dueL l k) s = i + 1 by omega) hyv
                rw [HIV.out, hlv] at this
                cases this)
            clear hyv hy hlv hv2
            go_wp2_with fail
            (refine wp_region_grow_lit (by kernel_rfl) (by kernel_rfl) ?_; repeat (any_goals (first | go_big_quiet_step ((go_at_call 51; exact quiet_grew (beforeE_due HLV.out _ HXO.out HYO.out))) | quiet_step ((go_at_call 51; exact quiet_grew (beforeE_due HLV.out _ HXO.out HYO.out))) | (refine wpQuiet_step (fun K hK => ?_); go_simp; split <;> rename_i hsp <;> (refine hK _ ?_; clear hK K) <;> (try first | simp only [hsp, decide_true, decide_false, Bool.not_true, Bool.not_false] | simp only [Int.not_le.2 hsp, decide_false, Bool.not_false] | simp only [Int.not_lt.2 hsp, decide_false, Bool.not_false] | simp only [Nat.not_le.2 hsp, decide_false, Bool.not_false] | simp only [Nat.not_lt.2 hsp, decide_false, Bool.not_false])))))
            all_goals (refine wpQuiet_nil ?_; intro w1 h1)
            clear hcs hd0 hd1 hd2 hx0 hx1 hx2 hz7
            go_wp2_with fail
            go_roundw
            case rel => go_light; exact ⟨i, by omega, HB.out, rfl, HGJ.out.trans h1⟩
            case measure => go_light; simp [intOf] <;> omega
    · obtain rfl : k = l.length := by omega
      have HLE := Lib.hid (show (sortB (idxL dueL l) (idxs l.length)).length = l.length by rw [sortB_length, idxs_len])
      go_wp2_with fail
      go_ret
      go_light
      exact ⟨A', c', by rw [HLE.out]; rfl, by rw [HLE.out]; exact HO.out, HG.out⟩
set_option maxRecDepth 100000 in
set_option maxHeartbeats 8000000 in
theorem l23Sort_wt (l : List Tsk) (A : Option Addr) (c : Nat) (w : World) (h : Rd Tsk.E w A l) (hl : areT l = true) :
    Calls Try.prog 44 #[.slice A l.length c, .int .i64 2] w fun e w' => ∃ A' c', e = .returned (.slice A' (sortB (idxL wtL l) (idxs l.length)).length c') ∧ Own IntS.E 3 w' w.heap.size (.slice A' (sortB (idxL wtL l) (idxs l.length)).length c') (sortB (idxL wtL l) (idxs l.length)) ∧ Grew w w' := by
  have HL := Lib.hid h
  have HT := Lib.hid (areT_at hl).2
  have h8 := (areT_at hl).1
  clear h hl
  go_enter Try.func44, Try.ntmps44
  go_wp2_with fail
  have HO1 := Lib.hid (Own.new_ (E := IntS.E) (t := 3) (Nat.le_refl w.heap.size))
  go_loopw [5, 6] (fun o i wr => ∃ (k : Nat) (A' : Option Addr) (c' : Nat), k ≤ l.length ∧ i = .int .i64 k ∧ o = .slice A' k c' ∧ Own IntS.E 3 wr w.heap.size (.slice A' k c') (sortB (idxL wtL l) (idxs k)) ∧ Grew w wr) (fun _ i _ => l.length - (intOf i).toNat)
  case atStart => exact ⟨0, _, _, Nat.zero_le _, rfl, rfl, HO1.out, (Grew.refl w).alloc _⟩
  case round =>
    obtain ⟨k, A', c', hk, rfl, rfl, hown, hg⟩ := hrel
    have HO := Lib.hid hown
    have HG := Lib.hid hg
    clear hown hg HO1
    by_cases hlt : k < l.length
    · obtain ⟨x, hx⟩ : ∃ x, l[k]? = some x := ⟨_, List.getElem?_eq_getElem hlt⟩
      obtain ⟨s, hs⟩ : ∃ s, s = sortB (idxL wtL l) (idxs k) := ⟨_, rfl⟩
      have hsl : s.length = k := by rw [hs, sortB_length, idxs_len]
      have HSM := Lib.hid (show ∀ y ∈ s, ∃ j : Nat, j < l.length ∧ y = j from fun y hy => by
        obtain ⟨j, h1, h2⟩ := idxs_mem.1 (sortB_mem.1 (hs ▸ hy))
        exact ⟨j, by omega, h2⟩)
      have HN := Lib.hid (show sortB (idxL wtL l) (idxs (k + 1)) = insB (idxL wtL l) s k by rw [idxs_succ, hs]; exact sortB_snoc _ _ _)
      have HIX := Lib.hid (show ∀ (j : Nat) (y : Tsk), l[j]? = some y → idxL wtL l k j = wtL x y from fun j y hy => by simp [idxL, List.getD_eq_getElem?_getD, hx, hy])
      have HCAP := Lib.hid HO.out.cap
      rw [← hs] at HO
      have HBL := Lib.hid (backN_le (idxL wtL l k) s)
      have HSL := Lib.hid hsl
      obtain ⟨bl, o, rfl, hbl, hc⟩ := (HL.out.grew HG.out).at_ hlt
      obtain ⟨hx0, hx1, hx2⟩ := Tsk.at_ hc hx
      have HXO := Lib.hid (HT.out k x hx)
      have HCC := Lib.hid hc
      have HX := Lib.hid (And.intro hx0 (And.intro hx1 hx2))
      clear hx hs hsl hc hx0 hx1 hx2
      go_wp2_with fail
      obtain ⟨wo, hwo⟩ : ∃ wo : World, wo = wr := ⟨_, rfl⟩
      subst hwo
      go_loopw [7] (fun i wr => ∃ j : Nat, j ≤ k ∧ backN (idxL wtL l k) s ≤ j ∧ i = .int .i64 j ∧ Grew wo wr) (fun i _ => (intOf i).toNat)
      case atStart => exact ⟨k, Nat.le_refl _, by have := HBL.out; have := HSL.out; omega, rfl, Grew.refl _⟩
      case round =>
        obtain ⟨j, hj, hbj, rfl, hgj⟩ := hrel
        have HGJ := Lib.hid hgj
        clear hgj
        rcases Nat.eq_zero_or_pos j with h0 | h0
        · subst h0
          have HE := Lib.hid (show s.take 0 ++ [(k : Int)] ++ s.drop 0 = sortB (idxL wtL l) (idxs (k + 1)) by
            rw [HN.out, insB, show backN (idxL wtL l k) s = 0 by omega])
          go_wp2_with fail
          (refine wp_region_grow_lit (by kernel_rfl) (by kernel_rfl) ?_; repeat (any_goals (first | go_big_quiet_step ((fail)) | quiet_step ((fail)) | (refine wpQuiet_step (fun K hK => ?_); go_simp; split <;> rename_i hsp <;> (refine hK _ ?_; clear hK K) <;> (try first | simp only [hsp, decide_true, decide_false, Bool.not_true, Bool.not_false] | simp only [Int.not_le.2 hsp, decide_false, Bool.not_false] | simp only [Int.not_lt.2 hsp, decide_false, Bool.not_false] | simp only [Nat.not_le.2 hsp, decide_false, Bool.not_false] | simp only [Nat.not_lt.2 hsp, decide_false, Bool.not_false])))))
          all_goals (refine wpQuiet_nil ?_; intro w1 h1)
          have HO2 := Lib.hid (HO.out.grew (HGJ.out.trans h1))
          have HG2 := Lib.hid ((HG.out.trans HGJ.out).trans h1)
          have HRD := Lib.hid HO2.out.rd
          have hk2 : 0 ≤ s.length := by have := HSL.out; omega
          have hk3 : k ≤ c' := HCAP.out.2.1
          have hk4 : s.length = k := HSL.out
          clear h1
          go_wp2_with fail
          refine wp_region_held_drew (S := (fun _ => True)) (by kernel_rfl) (trivial) (fun hH => ?_)
          refine wpAnyH_take (i := 1) (v := ?_) (by simp only [List.getElem?_toArray, List.getElem?_cons_succ, List.getElem?_cons_zero]; rfl) (by kernel_rfl) (by kernel_rfl) (by kernel_rfl) (by intro _ _ _ h; exact h) (Or.inl ⟨by rfl, ?_⟩) hH ?_; rotate_left; · ((intro w hSw); (try dsimp only at hSw); go_simp; (try with_reducible rfl); done)
          (try simp only [Act.put, List.setIfInBounds_toArray, List.set_cons_zero, List.set_cons_succ])
          refine wpAnyH_take (i := 2) (v := ?_) (by simp only [List.getElem?_toArray, List.getElem?_cons_succ, List.getElem?_cons_zero]; rfl) (by kernel_rfl) (by kernel_rfl) (by kernel_rfl) (by intro _ _ _ h; exact h) (Or.inl ⟨by rfl, ?_⟩) hH ?_; rotate_left; · ((intro w hSw); (try dsimp only at hSw); go_simp; (try with_reducible rfl); done)
          (try simp only [Act.put, List.setIfInBounds_toArray, List.set_cons_zero, List.set_cons_succ])
          refine wpAnyH_take (i := 3) (v := ?_) (by simp only [List.getElem?_toArray, List.getElem?_cons_succ, List.getElem?_cons_zero]; rfl) (by kernel_rfl) (by kernel_rfl) (by kernel_rfl) (by intro _ _ _ h; exact h) (Or.inl ⟨by rfl, ?_⟩) hH ?_; rotate_left; · ((intro w hSw); (try dsimp only at hSw); go_simp; (try with_reducible rfl); done)
          (try simp only [Act.put, List.setIfInBounds_toArray, List.set_cons_zero, List.set_cons_succ])
          refine wpAnyH_take (i := 5) (v := ?_) (by simp only [List.getElem?_toArray, List.getElem?_cons_succ, List.getElem?_cons_zero]; rfl) (by kernel_rfl) (by kernel_rfl) (by kernel_rfl) (by intro _ _ _ h; exact h) (Or.inl ⟨by rfl, ?_⟩) hH ?_; rotate_left; · ((intro w hSw); (try dsimp only at hSw); go_simp; (try with_reducible rfl); done)
          (try simp only [Act.put, List.setIfInBounds_toArray, List.set_cons_zero, List.set_cons_succ])
          refine wpAnyH_take (i := 8) (v := ?_) (by simp only [List.getElem?_toArray, List.getElem?_cons_succ, List.getElem?_cons_zero]; rfl) (by kernel_rfl) (by kernel_rfl) (by kernel_rfl) (by intro _ _ _ h; exact h) (Or.inl ⟨by rfl, ?_⟩) hH ?_; rotate_left; · ((intro w hSw); (try dsimp only at hSw); go_simp; (try with_reducible rfl); done)
          (try simp only [Act.put, List.setIfInBounds_toArray, List.set_cons_zero, List.set_cons_succ])
          refine wpAnyH_take (i := 9) (v := ?_) (by simp only [List.getElem?_toArray, List.getElem?_cons_succ, List.getElem?_cons_zero]; rfl) (by kernel_rfl) (by kernel_rfl) (by kernel_rfl) (by intro _ _ _ h; exact h) (Or.inl ⟨by rfl, ?_⟩) hH ?_; rotate_left; · ((intro w hSw); (try dsimp only at hSw); go_simp; (try with_reducible rfl); done)
          (try simp only [Act.put, List.setIfInBounds_toArray, List.set_cons_zero, List.set_cons_succ])
          refine wpAnyH_take (i := 10) (v := ?_) (by simp only [List.getElem?_toArray, List.getElem?_cons_succ, List.getElem?_cons_zero]; rfl) (by kernel_rfl) (by kernel_rfl) (by kernel_rfl) (by intro _ _ _ h; exact h) (Or.inl ⟨by rfl, ?_⟩) hH ?_; rotate_left; · ((intro w hSw); (try dsimp only at hSw); go_simp; (try with_reducible rfl); done)
          (try simp only [Act.put, List.setIfInBounds_toArray, List.set_cons_zero, List.set_cons_succ])
          have HT1 := Lib.hid (show (s.take 0).length = 0 by rw [List.length_take]; omega)
          have HGD := Lib.hid (Grew.refl w1).drew
          have HGE := Lib.hid (HGD.out.alloc (.cells #[] 3))
          have HGX := Lib.hid (HGD.out.alloc (.cells #[.int .i64 k] 3))
          have HRX := Lib.hid (rd_new (E := IntS.E) w1.drew (k : Int) 3 rfl)
          have HOE := Lib.hid (Own.new_ (E := IntS.E) (t := 3) (w := w1.drew) (base := w1.heap.size) (Nat.le_refl _))
          refine wpAnyH_ready (rs := [0, 6]) (by kernel_rfl) (by simp) ?_
          refine (AllReadyH.cons (by simp only [List.getElem?_toArray, List.getElem?_cons_succ, List.getElem?_cons_zero]; rfl) (fun K hK => ?_) (AllReadyH.cons (by simp only [List.getElem?_toArray, List.getElem?_cons_succ, List.getElem?_cons_zero]; rfl) (fun K hK => ?_) AllReadyH.nil))
          ·
            go_simp
            refine hK.out _ _ (trivial) (fun hH => ?_)
            clear hK K
            (try simp only [Act.put, List.setIfInBounds_toArray, List.set_cons_zero, List.set_cons_succ])
            refine wpAnyH_ready (rs := [4, 6]) (by kernel_rfl) (by simp) ?_
            refine (AllReadyH.cons (by simp only [List.getElem?_toArray, List.getElem?_cons_succ, List.getElem?_cons_zero]; rfl) (fun K hK => ?_) (AllReadyH.cons (by simp only [List.getElem?_toArray, List.getElem?_cons_succ, List.getElem?_cons_zero]; rfl) (fun K hK => ?_) AllReadyH.nil))
            ·
              refine step_append_rd _ rfl (.tmp 37) (.tmp 40) _ rfl sl_Int w1.heap.size _ _ _ ([] : List _) rfl HOE.out _ _ _ (s.take 0) rfl HT1.out.symm ((HRD.out.grew HGE.out).take 0) (by rw [HT1.out]; simp only [List.length_nil]; omega) HGE.out.le ?_; intro A5 c5 w5 ho5 hgr5 hat5; have HG5 := Lib.hid (HGE.out.app (E := IntS.E) HOE.out (Nat.le_refl _) hgr5); have HO5 := Lib.hid (show Own IntS.E 3 w5 w1.heap.size (.slice A5 0 c5) (s.take 0) by simpa using ho5); clear ho5 hgr5 hat5
              refine hK.out _ _ (trivial) (fun hH => ?_)
              clear hK K
              (try simp only [Act.put, List.setIfInBounds_toArray, List.set_cons_zero, List.set_cons_succ])
              (try simp only [Nat.zero_add])
              refine wpAnyH_ready (rs := [6]) (by kernel_rfl) (by simp) ?_
              refine (AllReadyH.cons (by simp only [List.getElem?_toArray, List.getElem?_cons_succ, List.getElem?_cons_zero]; rfl) (fun K hK => ?_) AllReadyH.nil)
              go_simp
              refine hK.out _ _ (trivial) (fun hH => ?_)
              clear hK K
              (try simp only [Act.put, List.setIfInBounds_toArray, List.set_cons_zero, List.set_cons_succ])
              have HG6 := Lib.hid (HG5.out.alloc (.cells #[.int .i64 k] 3))
              have HO6 := Lib.hid (HO5.out.alloc (.cells #[.int .i64 k] 3))
              have HR6 := Lib.hid (rd_new (E := IntS.E) w5 (k : Int) 3 rfl)
              refine wpAnyH_ready (rs := [7]) (by kernel_rfl) (by simp) ?_
              refine (AllReadyH.cons (by simp only [List.getElem?_toArray, List.getElem?_cons_succ, List.getElem?_cons_zero]; rfl) (fun K hK => ?_) AllReadyH.nil)
              refine step_append_rd _ rfl (.tmp 41) (.tmp 43) _ rfl sl_Int w1.heap.size _ _ _ (s.take 0) rfl HO6.out _ _ _ [(k : Int)] rfl rfl HR6.out (by rw [HT1.out]; simp only [List.length_cons, List.length_nil]; omega) HG6.out.le ?_; intro A7 c7 w7 ho7 hgr7 hat7; have HG7 := Lib.hid (HG6.out.app HO6.out (Nat.le_refl _) hgr7); have HO7 := Lib.hid ho7; clear ho7 hgr7 hat7
              refine hK.out _ _ (trivial) (fun hH => ?_)
              clear hK K
              (try simp only [Act.put, List.setIfInBounds_toArray, List.set_cons_zero, List.set_cons_succ])
              refine wpAnyH_ready (rs := [11]) (by kernel_rfl) (by simp) ?_
              refine (AllReadyH.cons (by simp only [List.getElem?_toArray, List.getElem?_cons_succ, List.getElem?_cons_zero]; rfl) (fun K hK => ?_) AllReadyH.nil)
              refine step_append_rd _ rfl (.tmp 44) (.tmp 47) _ rfl sl_Int w1.heap.size _ _ _ (s.take 0 ++ [(k : Int)]) rfl HO7.out _ _ _ (s.drop 0) rfl (by simp only [List.length_drop]; omega) (by rw [List.drop_zero]; exact HRD.out.grew HG7.out) (by rw [List.length_append, HT1.out, List.length_drop]; simp only [List.length_cons, List.length_nil]; omega) HG7.out.le ?_; intro A8 c8 w8 ho8 hgr8 hat8; have HG8 := Lib.hid (HG7.out.app HO7.out (Nat.le_refl _) hgr8); have HO8 := Lib.hid ho8; clear ho8 hgr8 hat8
              refine hK.out _ _ (trivial) (fun hH => ?_)
              clear hK K
              (try simp only [Act.put, List.setIfInBounds_toArray, List.set_cons_zero, List.set_cons_succ])
              refine wpAnyH_take (i := 12) (v := ?_) (by simp only [List.getElem?_toArray, List.getElem?_cons_succ, List.getElem?_cons_zero]; rfl) (by kernel_rfl) (by kernel_rfl) (by kernel_rfl) (by intro _ _ _ h; exact h) (Or.inl ⟨by rfl, ?_⟩) hH ?_; rotate_left; · ((intro w hSw); (try dsimp only at hSw); go_simp; (try with_reducible rfl); done)
              (try simp only [Act.put, List.setIfInBounds_toArray, List.set_cons_zero, List.set_cons_succ])
              refine wpAnyH_done (by kernel_rfl) ?_ _
              go_wp2_with fail
              go_roundw
              case rel => go_light; exact ⟨k + 1, A8, c8, by omega, by go_num, by congr 1 <;> omega, (own_re HO8.out HE.out (by omega)).mono HG2.out.le, HG2.out.trans HG8.out⟩
              case measure => go_light; simp [intOf] <;> omega
            ·
              go_simp
              refine hK.out _ _ (trivial) (fun hH => ?_)
              clear hK K
              (try simp only [Act.put, List.setIfInBounds_toArray, List.set_cons_zero, List.set_cons_succ])
              have HGEX := Lib.hid (HGE.out.alloc (.cells #[.int .i64 k] 3))
              have HOEX := Lib.hid (HOE.out.alloc (.cells #[.int .i64 k] 3))
              have HREX := Lib.hid (rd_new (E := IntS.E) (w1.drew.alloc (.cells #[] 3)) (k : Int) 3 (n := w1.heap.size + 1) (by simp))
              refine wpAnyH_ready (rs := [4]) (by kernel_rfl) (by simp) ?_
              refine (AllReadyH.cons (by simp only [List.getElem?_toArray, List.getElem?_cons_succ, List.getElem?_cons_zero]; rfl) (fun K hK => ?_) AllReadyH.nil)
              refine step_append_rd _ rfl (.tmp 37) (.tmp 40) _ rfl sl_Int w1.heap.size _ _ _ ([] : List _) rfl HOEX.out _ _ _ (s.take 0) rfl HT1.out.symm ((HRD.out.grew HGEX.out).take 0) (by rw [HT1.out]; simp only [List.length_nil]; omega) HGEX.out.le ?_; intro A5 c5 w5 ho5 hgr5 hat5; have HG5 := Lib.hid (HGEX.out.app (E := IntS.E) HOEX.out (Nat.le_refl _) hgr5); have HO5 := Lib.hid (show Own IntS.E 3 w5 w1.heap.size (.slice A5 0 c5) (s.take 0) by simpa using ho5); have HR6 := Lib.hid (HREX.out.kept hgr5 (by intro b o e1 e2; simp only [Option.some.injEq, Addr.mk.injEq] at e1; simp [Value.ownBlock] at e2; have h9 : w1.drew.heap.size = w1.heap.size := rfl; omega)); clear ho5 hgr5 hat5
              refine hK.out _ _ (trivial) (fun hH => ?_)
              clear hK K
              (try simp only [Act.put, List.setIfInBounds_toArray, List.set_cons_zero, List.set_cons_succ])
              (try simp only [Nat.zero_add])
              have HG6 := HG5
              have HO6 := HO5
              refine wpAnyH_ready (rs := [7]) (by kernel_rfl) (by simp) ?_
              refine (AllReadyH.cons (by simp only [List.getElem?_toArray, List.getElem?_cons_succ, List.getElem?_cons_zero]; rfl) (fun K hK => ?_) AllReadyH.nil)
              refine step_append_rd _ rfl (.tmp 41) (.tmp 43) _ rfl sl_Int w1.heap.size _ _ _ (s.take 0) rfl HO6.out _ _ _ [(k : Int)] rfl rfl HR6.out (by rw [HT1.out]; simp only [List.length_cons, List.length_nil]; omega) HG6.out.le ?_; intro A7 c7 w7 ho7 hgr7 hat7; have HG7 := Lib.hid (HG6.out.app HO6.out (Nat.le_refl _) hgr7); have HO7 := Lib.hid ho7; clear ho7 hgr7 hat7
              refine hK.out _ _ (trivial) (fun hH => ?_)
              clear hK K
              (try simp only [Act.put, List.setIfInBounds_toArray, List.set_cons_zero, List.set_cons_succ])
              refine wpAnyH_ready (rs := [11]) (by kernel_rfl) (by simp) ?_
              refine (AllReadyH.cons (by simp only [List.getElem?_toArray, List.getElem?_cons_succ, List.getElem?_cons_zero]; rfl) (fun K hK => ?_) AllReadyH.nil)
              refine step_append_rd _ rfl (.tmp 44) (.tmp 47) _ rfl sl_Int w1.heap.size _ _ _ (s.take 0 ++ [(k : Int)]) rfl HO7.out _ _ _ (s.drop 0) rfl (by simp only [List.length_drop]; omega) (by rw [List.drop_zero]; exact HRD.out.grew HG7.out) (by rw [List.length_append, HT1.out, List.length_drop]; simp only [List.length_cons, List.length_nil]; omega) HG7.out.le ?_; intro A8 c8 w8 ho8 hgr8 hat8; have HG8 := Lib.hid (HG7.out.app HO7.out (Nat.le_refl _) hgr8); have HO8 := Lib.hid ho8; clear ho8 hgr8 hat8
              refine hK.out _ _ (trivial) (fun hH => ?_)
              clear hK K
              (try simp only [Act.put, List.setIfInBounds_toArray, List.set_cons_zero, List.set_cons_succ])
              refine wpAnyH_take (i := 12) (v := ?_) (by simp only [List.getElem?_toArray, List.getElem?_cons_succ, List.getElem?_cons_zero]; rfl) (by kernel_rfl) (by kernel_rfl) (by kernel_rfl) (by intro _ _ _ h; exact h) (Or.inl ⟨by rfl, ?_⟩) hH ?_; rotate_left; · ((intro w hSw); (try dsimp only at hSw); go_simp; (try with_reducible rfl); done)
              (try simp only [Act.put, List.setIfInBounds_toArray, List.set_cons_zero, List.set_cons_succ])
              refine wpAnyH_done (by kernel_rfl) ?_ _
              go_wp2_with fail
              go_roundw
              case rel => go_light; exact ⟨k + 1, A8, c8, by omega, by go_num, by congr 1 <;> omega, (own_re HO8.out HE.out (by omega)).mono HG2.out.le, HG2.out.trans HG8.out⟩
              case measure => go_light; simp [intOf] <;> omega
          ·
            go_simp
            refine hK.out _ _ (trivial) (fun hH => ?_)
            clear hK K
            (try simp only [Act.put, List.setIfInBounds_toArray, List.set_cons_zero, List.set_cons_succ])
            have HGXE := Lib.hid (HGX.out.alloc (.cells #[] 3))
            have HRXE := Lib.hid (HRX.out.grew ((Grew.refl _).alloc (.cells #[] 3)))
            have HOXE := Lib.hid (Own.new_ (E := IntS.E) (t := 3) (w := w1.drew.alloc (.cells #[.int .i64 k] 3)) (base := w1.heap.size) HGX.out.le)
            have hsz1 : (w1.drew.alloc (.cells #[.int .i64 k] 3)).heap.size = w1.heap.size + 1 := by simp
            rw [hsz1] at HOXE
            clear hsz1
            refine wpAnyH_ready (rs := [0]) (by kernel_rfl) (by simp) ?_
            refine (AllReadyH.cons (by simp only [List.getElem?_toArray, List.getElem?_cons_succ, List.getElem?_cons_zero]; rfl) (fun K hK => ?_) AllReadyH.nil)
            go_simp
            refine hK.out _ _ (trivial) (fun hH => ?_)
            clear hK K
            (try simp only [Act.put, List.setIfInBounds_toArray, List.set_cons_zero, List.set_cons_succ])
            refine wpAnyH_ready (rs := [4]) (by kernel_rfl) (by simp) ?_
            refine (AllReadyH.cons (by simp only [List.getElem?_toArray, List.getElem?_cons_succ, List.getElem?_cons_zero]; rfl) (fun K hK => ?_) AllReadyH.nil)
            refine step_append_rd _ rfl (.tmp 37) (.tmp 40) _ rfl sl_Int w1.heap.size _ _ _ ([] : List _) rfl HOXE.out _ _ _ (s.take 0) rfl HT1.out.symm ((HRD.out.grew HGXE.out).take 0) (by rw [HT1.out]; simp only [List.length_nil]; omega) HGXE.out.le ?_; intro A5 c5 w5 ho5 hgr5 hat5; have HG5 := Lib.hid (HGXE.out.app (E := IntS.E) HOXE.out (Nat.le_refl _) hgr5); have HO5 := Lib.hid (show Own IntS.E 3 w5 w1.heap.size (.slice A5 0 c5) (s.take 0) by simpa using ho5); have HR6 := Lib.hid (HRXE.out.kept hgr5 (by intro b o e1 e2; simp only [Option.some.injEq, Addr.mk.injEq] at e1; simp [Value.ownBlock] at e2; have h9 : w1.drew.heap.size = w1.heap.size := rfl; omega)); clear ho5 hgr5 hat5
            refine hK.out _ _ (trivial) (fun hH => ?_)
            clear hK K
            (try simp only [Act.put, List.setIfInBounds_toArray, List.set_cons_zero, List.set_cons_succ])
            (try simp only [Nat.zero_add])
            have HG6 := HG5
            have HO6 := HO5
            refine wpAnyH_ready (rs := [7]) (by kernel_rfl) (by simp) ?_
            refine (AllReadyH.cons (by simp only [List.getElem?_toArray, List.getElem?_cons_succ, List.getElem?_cons_zero]; rfl) (fun K hK => ?_) AllReadyH.nil)
            refine step_append_rd _ rfl (.tmp 41) (.tmp 43) _ rfl sl_Int w1.heap.size _ _ _ (s.take 0) rfl HO6.out _ _ _ [(k : Int)] rfl rfl HR6.out (by rw [HT1.out]; simp only [List.length_cons, List.length_nil]; omega) HG6.out.le ?_; intro A7 c7 w7 ho7 hgr7 hat7; have HG7 := Lib.hid (HG6.out.app HO6.out (Nat.le_refl _) hgr7); have HO7 := Lib.hid ho7; clear ho7 hgr7 hat7
            refine hK.out _ _ (trivial) (fun hH => ?_)
            clear hK K
            (try simp only [Act.put, List.setIfInBounds_toArray, List.set_cons_zero, List.set_cons_succ])
            refine wpAnyH_ready (rs := [11]) (by kernel_rfl) (by simp) ?_
            refine (AllReadyH.cons (by simp only [List.getElem?_toArray, List.getElem?_cons_succ, List.getElem?_cons_zero]; rfl) (fun K hK => ?_) AllReadyH.nil)
            refine step_append_rd _ rfl (.tmp 44) (.tmp 47) _ rfl sl_Int w1.heap.size _ _ _ (s.take 0 ++ [(k : Int)]) rfl HO7.out _ _ _ (s.drop 0) rfl (by simp only [List.length_drop]; omega) (by rw [List.drop_zero]; exact HRD.out.grew HG7.out) (by rw [List.length_append, HT1.out, List.length_drop]; simp only [List.length_cons, List.length_nil]; omega) HG7.out.le ?_; intro A8 c8 w8 ho8 hgr8 hat8; have HG8 := Lib.hid (HG7.out.app HO7.out (Nat.le_refl _) hgr8); have HO8 := Lib.hid ho8; clear ho8 hgr8 hat8
            refine hK.out _ _ (trivial) (fun hH => ?_)
            clear hK K
            (try simp only [Act.put, List.setIfInBounds_toArray, List.set_cons_zero, List.set_cons_succ])
            refine wpAnyH_take (i := 12) (v := ?_) (by simp only [List.getElem?_toArray, List.getElem?_cons_succ, List.getElem?_cons_zero]; rfl) (by kernel_rfl) (by kernel_rfl) (by kernel_rfl) (by intro _ _ _ h; exact h) (Or.inl ⟨by rfl, ?_⟩) hH ?_; rotate_left; · ((intro w hSw); (try dsimp only at hSw); go_simp; (try with_reducible rfl); done)
            (try simp only [Act.put, List.setIfInBounds_toArray, List.set_cons_zero, List.set_cons_succ])
            refine wpAnyH_done (by kernel_rfl) ?_ _
            go_wp2_with fail
            go_roundw
            case rel => go_light; exact ⟨k + 1, A8, c8, by omega, by go_num, by congr 1 <;> omega, (own_re HO8.out HE.out (by omega)).mono HG2.out.le, HG2.out.trans HG8.out⟩
            case measure => go_light; simp [intOf] <;> omega
        · obtain ⟨i, rfl⟩ : ∃ i, j = i + 1 := ⟨j - 1, by omega⟩
          have his : i < s.length := by have := HSL.out; omega
          obtain ⟨yv, hyv⟩ : ∃ y, s[i]? = some y := ⟨_, List.getElem?_eq_getElem his⟩
          obtain ⟨jj, hjl, hjy⟩ := HSM.out yv (List.mem_of_getElem? hyv)
          subst hjy
          obtain ⟨y, hy⟩ : ∃ y, l[jj]? = some y := ⟨_, List.getElem?_eq_getElem hjl⟩
          have HYO := Lib.hid (HT.out jj y hy)
          have HIV := Lib.hid (HIX.out jj y hy)
          obtain ⟨g, c2, hv, hg1, hg2⟩ := HO.out.addr (by omega)
          simp only [Value.slice.injEq] at hv
          obtain ⟨rfl, hv2, rfl⟩ := hv
          have hcs : wo.cell? ⟨g, i, none⟩ = some (.int .i64 jj) := by have := HO.out.at_ hyv (j := 0) (u := .int .i64 jj) rfl; simpa [IntS.E] using this
          have hcs := (HGJ.out.rules.1 g _ hg2).trans hcs
          obtain ⟨hd0, hd1, hd2⟩ := Tsk.at_ HCC.out hy
          have hd0 := (HGJ.out.rules.1 bl _ hbl).trans hd0
          have hd1 := (HGJ.out.rules.1 bl _ hbl).trans hd1
          have hd2 := (HGJ.out.rules.1 bl _ hbl).trans hd2
          obtain ⟨hx0, hx1, hx2⟩ := HX.out
          have hx0 := (HGJ.out.rules.1 bl _ hbl).trans hx0
          have hx1 := (HGJ.out.rules.1 bl _ hbl).trans hx1
          have hx2 := (HGJ.out.rules.1 bl _ hbl).trans hx2
          have hiz : ((i + 1 : Nat) : Int) = (i : Int) + 1 := by omega
          rw [hiz]
          clear hiz
          have hz1 : IntKind.i64.wrap ((i : Int) + 1 - 1) = (i : Int) := by rw [IntKind.wrap_i64]; omega
          have hz2 : ((i : Int) + 1).toNat = i + 1 := by omega
          have hz3 : (0 : Int) ≤ (i : Int) + 1 := by omega
          have hz5 : (i : Int) < (k : Int) := by omega
          have hz6 : (0 : Int) ≤ (i : Int) := by omega
          have hz7 : decide ((0 : Int) < (i : Int) + 1) = true := decide_eq_true (by omega)
          have hz8 : (0 : Int) ≤ (jj : Int) := by omega
          have hz9 : (jj : Int) < (l.length : Int) := by omega
          have hza : (k : Int) < (l.length : Int) := by omega
          have hzb : (0 : Int) ≤ (k : Int) := by omega
          cases hlv : wtL x y
          · have HLV := Lib.hid hlv
            have HB := Lib.hid (show backN (idxL wtL l k) s = i + 1 by
              rcases Nat.lt_or_ge (backN (idxL wtL l k) s) (i + 1) with h9 | h9
              · have := backN_in (p := idxL wtL l k) (show backN (idxL wtL l k) s ≤ i by omega) hyv
                rw [HIV.out, hlv] at this
                cases this
              · omega)
            have HE := Lib.hid (show s.take (i + 1) ++ [(k : Int)] ++ s.drop (i + 1) = sortB (idxL wtL l) (idxs (k + 1)) by
              rw [HN.out, insB, HB.out])
            clear hyv hy hlv hv2
            go_wp2_with fail
            (refine wp_region_grow_lit (by kernel_rfl) (by kernel_rfl) ?_; repeat (any_goals (first | go_big_quiet_step ((go_at_call 51; exact quiet_grew (beforeE_wt HLV.out _ HXO.out HYO.out))) | quiet_step ((go_at_call 51; exact quiet_grew (beforeE_wt HLV.out _ HXO.out HYO.out))) | (refine wpQuiet_step (fun K hK => ?_); go_simp; split <;> rename_i hsp <;> (refine hK _ ?_; clear hK K) <;> (try first | simp only [hsp, decide_true, decide_false, Bool.not_true, Bool.not_false] | simp only [Int.not_le.2 hsp, decide_false, Bool.not_false] | simp only [Int.not_lt.2 hsp, decide_false, Bool.not_false] | simp only [Nat.not_le.2 hsp, decide_false, Bool.not_false] | simp only [Nat.not_lt.2 hsp, decide_false, Bool.not_false])))))
            all_goals (refine wpQuiet_nil ?_; intro w1 h1)
            clear hcs hd0 hd1 hd2 hx0 hx1 hx2 hz1 hz7
            have hk6 : k ≤ c' := HCAP.out.2.1
            have hzc : (i : Int) + 1 ≤ (c' : Int) := by omega
            have hzd : (i : Int) + 1 ≤ (k : Int) := by omega
            have HO2 := Lib.hid (HO.out.grew (HGJ.out.trans h1))
            have HG2 := Lib.hid ((HG.out.trans HGJ.out).trans h1)
            have HRD := Lib.hid HO2.out.rd
            have hk2 : i + 1 ≤ s.length := by have := HSL.out; omega
            have hk3 : k ≤ c' := HCAP.out.2.1
            have hk4 : s.length = k := HSL.out
            clear h1
            go_wp2_with fail
            refine wp_region_held_drew (S := (fun _ => True)) (by kernel_rfl) (trivial) (fun hH => ?_)
            refine wpAnyH_take (i := 1) (v := ?_) (by simp only [List.getElem?_toArray, List.getElem?_cons_succ, List.getElem?_cons_zero]; rfl) (by kernel_rfl) (by kernel_rfl) (by kernel_rfl) (by intro _ _ _ h; exact h) (Or.inl ⟨by rfl, ?_⟩) hH ?_; rotate_left; · ((intro w hSw); (try dsimp only at hSw); go_simp; (try with_reducible rfl); done)
            (try simp only [Act.put, List.setIfInBounds_toArray, List.set_cons_zero, List.set_cons_succ])
            refine wpAnyH_take (i := 2) (v := ?_) (by simp only [List.getElem?_toArray, List.getElem?_cons_succ, List.getElem?_cons_zero]; rfl) (by kernel_rfl) (by kernel_rfl) (by kernel_rfl) (by intro _ _ _ h; exact h) (Or.inl ⟨by rfl, ?_⟩) hH ?_; rotate_left; · ((intro w hSw); (try dsimp only at hSw); go_simp; (try with_reducible rfl); done)
            (try simp only [Act.put, List.setIfInBounds_toArray, List.set_cons_zero, List.set_cons_succ])
            refine wpAnyH_take (i := 3) (v := ?_) (by simp only [List.getElem?_toArray, List.getElem?_cons_succ, List.getElem?_cons_zero]; rfl) (by kernel_rfl) (by kernel_rfl) (by kernel_rfl) (by intro _ _ _ h; exact h) (Or.inl ⟨by rfl, ?_⟩) hH ?_; rotate_left; · ((intro w hSw); (try dsimp only at hSw); go_simp; (try with_reducible rfl); done)
            (try simp only [Act.put, List.setIfInBounds_toArray, List.set_cons_zero, List.set_cons_succ])
            refine wpAnyH_take (i := 5) (v := ?_) (by simp only [List.getElem?_toArray, List.getElem?_cons_succ, List.getElem?_cons_zero]; rfl) (by kernel_rfl) (by kernel_rfl) (by kernel_rfl) (by intro _ _ _ h; exact h) (Or.inl ⟨by rfl, ?_⟩) hH ?_; rotate_left; · ((intro w hSw); (try dsimp only at hSw); go_simp; (try with_reducible rfl); done)
            (try simp only [Act.put, List.setIfInBounds_toArray, List.set_cons_zero, List.set_cons_succ])
            refine wpAnyH_take (i := 8) (v := ?_) (by simp only [List.getElem?_toArray, List.getElem?_cons_succ, List.getElem?_cons_zero]; rfl) (by kernel_rfl) (by kernel_rfl) (by kernel_rfl) (by intro _ _ _ h; exact h) (Or.inl ⟨by rfl, ?_⟩) hH ?_; rotate_left; · ((intro w hSw); (try dsimp only at hSw); go_simp; (try with_reducible rfl); done)
            (try simp only [Act.put, List.setIfInBounds_toArray, List.set_cons_zero, List.set_cons_succ])
            refine wpAnyH_take (i := 9) (v := ?_) (by simp only [List.getElem?_toArray, List.getElem?_cons_succ, List.getElem?_cons_zero]; rfl) (by kernel_rfl) (by kernel_rfl) (by kernel_rfl) (by intro _ _ _ h; exact h) (Or.inl ⟨by rfl, ?_⟩) hH ?_; rotate_left; · ((intro w hSw); (try dsimp only at hSw); go_simp; (try with_reducible rfl); done)
            (try simp only [Act.put, List.setIfInBounds_toArray, List.set_cons_zero, List.set_cons_succ])
            refine wpAnyH_take (i := 10) (v := ?_) (by simp only [List.getElem?_toArray, List.getElem?_cons_succ, List.getElem?_cons_zero]; rfl) (by kernel_rfl) (by kernel_rfl) (by kernel_rfl) (by intro _ _ _ h; exact h) (Or.inl ⟨by rfl, ?_⟩) hH ?_; rotate_left; · ((intro w hSw); (try dsimp only at hSw); go_simp; (try with_reducible rfl); done)
            (try simp only [Act.put, List.setIfInBounds_toArray, List.set_cons_zero, List.set_cons_succ])
            have HT1 := Lib.hid (show (s.take (i + 1)).length = (i + 1) by rw [List.length_take]; omega)
            have HGD := Lib.hid (Grew.refl w1).drew
            have HGE := Lib.hid (HGD.out.alloc (.cells #[] 3))
            have HGX := Lib.hid (HGD.out.alloc (.cells #[.int .i64 k] 3))
            have HRX := Lib.hid (rd_new (E := IntS.E) w1.drew (k : Int) 3 rfl)
            have HOE := Lib.hid (Own.new_ (E := IntS.E) (t := 3) (w := w1.drew) (base := w1.heap.size) (Nat.le_refl _))
            refine wpAnyH_ready (rs := [0, 6]) (by kernel_rfl) (by simp) ?_
            refine (AllReadyH.cons (by simp only [List.getElem?_toArray, List.getElem?_cons_succ, List.getElem?_cons_zero]; rfl) (fun K hK => ?_) (AllReadyH.cons (by simp only [List.getElem?_toArray, List.getElem?_cons_succ, List.getElem?_cons_zero]; rfl) (fun K hK => ?_) AllReadyH.nil))
            ·
              go_simp
              refine hK.out _ _ (trivial) (fun hH => ?_)
              clear hK K
              (try simp only [Act.put, List.setIfInBounds_toArray, List.set_cons_zero, List.set_cons_succ])
              refine wpAnyH_ready (rs := [4, 6]) (by kernel_rfl) (by simp) ?_
              refine (AllReadyH.cons (by simp only [List.getElem?_toArray, List.getElem?_cons_succ, List.getElem?_cons_zero]; rfl) (fun K hK => ?_) (AllReadyH.cons (by simp only [List.getElem?_toArray, List.getElem?_cons_succ, List.getElem?_cons_zero]; rfl) (fun K hK => ?_) AllReadyH.nil))
              ·
                refine step_append_rd _ rfl (.tmp 37) (.tmp 40) _ rfl sl_Int w1.heap.size _ _ _ ([] : List _) rfl HOE.out _ _ _ (s.take (i + 1)) rfl HT1.out.symm ((HRD.out.grew HGE.out).take (i + 1)) (by rw [HT1.out]; simp only [List.length_nil]; omega) HGE.out.le ?_; intro A5 c5 w5 ho5 hgr5 hat5; have HG5 := Lib.hid (HGE.out.app (E := IntS.E) HOE.out (Nat.le_refl _) hgr5); have HO5 := Lib.hid (show Own IntS.E 3 w5 w1.heap.size (.slice A5 (i + 1) c5) (s.take (i + 1)) by simpa using ho5); clear ho5 hgr5 hat5
                refine hK.out _ _ (trivial) (fun hH => ?_)
                clear hK K
                (try simp only [Act.put, List.setIfInBounds_toArray, List.set_cons_zero, List.set_cons_succ])
                (try simp only [Nat.zero_add])
                refine wpAnyH_ready (rs := [6]) (by kernel_rfl) (by simp) ?_
                refine (AllReadyH.cons (by simp only [List.getElem?_toArray, List.getElem?_cons_succ, List.getElem?_cons_zero]; rfl) (fun K hK => ?_) AllReadyH.nil)
                go_simp
                refine hK.out _ _ (trivial) (fun hH => ?_)
                clear hK K
                (try simp only [Act.put, List.setIfInBounds_toArray, List.set_cons_zero, List.set_cons_succ])
                have HG6 := Lib.hid (HG5.out.alloc (.cells #[.int .i64 k] 3))
                have HO6 := Lib.hid (HO5.out.alloc (.cells #[.int .i64 k] 3))
                have HR6 := Lib.hid (rd_new (E := IntS.E) w5 (k : Int) 3 rfl)
                refine wpAnyH_ready (rs := [7]) (by kernel_rfl) (by simp) ?_
                refine (AllReadyH.cons (by simp only [List.getElem?_toArray, List.getElem?_cons_succ, List.getElem?_cons_zero]; rfl) (fun K hK => ?_) AllReadyH.nil)
                refine step_append_rd _ rfl (.tmp 41) (.tmp 43) _ rfl sl_Int w1.heap.size _ _ _ (s.take (i + 1)) rfl HO6.out _ _ _ [(k : Int)] rfl rfl HR6.out (by rw [HT1.out]; simp only [List.length_cons, List.length_nil]; omega) HG6.out.le ?_; intro A7 c7 w7 ho7 hgr7 hat7; have HG7 := Lib.hid (HG6.out.app HO6.out (Nat.le_refl _) hgr7); have HO7 := Lib.hid ho7; clear ho7 hgr7 hat7
                refine hK.out _ _ (trivial) (fun hH => ?_)
                clear hK K
                (try simp only [Act.put, List.setIfInBounds_toArray, List.set_cons_zero, List.set_cons_succ])
                refine wpAnyH_ready (rs := [11]) (by kernel_rfl) (by simp) ?_
                refine (AllReadyH.cons (by simp only [List.getElem?_toArray, List.getElem?_cons_succ, List.getElem?_cons_zero]; rfl) (fun K hK => ?_) AllReadyH.nil)
                refine step_append_rd _ rfl (.tmp 44) (.tmp 47) _ rfl sl_Int w1.heap.size _ _ _ (s.take (i + 1) ++ [(k : Int)]) rfl HO7.out _ _ _ (s.drop (i + 1)) rfl (by simp only [List.length_drop]; omega) (Rd.drop_at (HRD.out.grew HG7.out) (by simp [IntS.E]) (by omega)) (by rw [List.length_append, HT1.out, List.length_drop]; simp only [List.length_cons, List.length_nil]; omega) HG7.out.le ?_; intro A8 c8 w8 ho8 hgr8 hat8; have HG8 := Lib.hid (HG7.out.app HO7.out (Nat.le_refl _) hgr8); have HO8 := Lib.hid ho8; clear ho8 hgr8 hat8
                refine hK.out _ _ (trivial) (fun hH => ?_)
                clear hK K
                (try simp only [Act.put, List.setIfInBounds_toArray, List.set_cons_zero, List.set_cons_succ])
                refine wpAnyH_take (i := 12) (v := ?_) (by simp only [List.getElem?_toArray, List.getElem?_cons_succ, List.getElem?_cons_zero]; rfl) (by kernel_rfl) (by kernel_rfl) (by kernel_rfl) (by intro _ _ _ h; exact h) (Or.inl ⟨by rfl, ?_⟩) hH ?_; rotate_left; · ((intro w hSw); (try dsimp only at hSw); go_simp; (try with_reducible rfl); done)
                (try simp only [Act.put, List.setIfInBounds_toArray, List.set_cons_zero, List.set_cons_succ])
                refine wpAnyH_done (by kernel_rfl) ?_ _
                go_wp2_with fail
                go_roundw
                case rel => go_light; exact ⟨k + 1, A8, c8, by omega, by go_num, by congr 1 <;> omega, (own_re HO8.out HE.out (by omega)).mono HG2.out.le, HG2.out.trans HG8.out⟩
                case measure => go_light; simp [intOf] <;> omega
              ·
                go_simp
                refine hK.out _ _ (trivial) (fun hH => ?_)
                clear hK K
                (try simp only [Act.put, List.setIfInBounds_toArray, List.set_cons_zero, List.set_cons_succ])
                have HGEX := Lib.hid (HGE.out.alloc (.cells #[.int .i64 k] 3))
                have HOEX := Lib.hid (HOE.out.alloc (.cells #[.int .i64 k] 3))
                have HREX := Lib.hid (rd_new (E := IntS.E) (w1.drew.alloc (.cells #[] 3)) (k : Int) 3 (n := w1.heap.size + 1) (by simp))
                refine wpAnyH_ready (rs := [4]) (by kernel_rfl) (by simp) ?_
                refine (AllReadyH.cons (by simp only [List.getElem?_toArray, List.getElem?_cons_succ, List.getElem?_cons_zero]; rfl) (fun K hK => ?_) AllReadyH.nil)
                refine step_append_rd _ rfl (.tmp 37) (.tmp 40) _ rfl sl_Int w1.heap.size _ _ _ ([] : List _) rfl HOEX.out _ _ _ (s.take (i + 1)) rfl HT1.out.symm ((HRD.out.grew HGEX.out).take (i + 1)) (by rw [HT1.out]; simp only [List.length_nil]; omega) HGEX.out.le ?_; intro A5 c5 w5 ho5 hgr5 hat5; have HG5 := Lib.hid (HGEX.out.app (E := IntS.E) HOEX.out (Nat.le_refl _) hgr5); have HO5 := Lib.hid (show Own IntS.E 3 w5 w1.heap.size (.slice A5 (i + 1) c5) (s.take (i + 1)) by simpa using ho5); have HR6 := Lib.hid (HREX.out.kept hgr5 (by intro b o e1 e2; simp only [Option.some.injEq, Addr.mk.injEq] at e1; simp [Value.ownBlock] at e2; have h9 : w1.drew.heap.size = w1.heap.size := rfl; omega)); clear ho5 hgr5 hat5
                refine hK.out _ _ (trivial) (fun hH => ?_)
                clear hK K
                (try simp only [Act.put, List.setIfInBounds_toArray, List.set_cons_zero, List.set_cons_succ])
                (try simp only [Nat.zero_add])
                have HG6 := HG5
                have HO6 := HO5
                refine wpAnyH_ready (rs := [7]) (by kernel_rfl) (by simp) ?_
                refine (AllReadyH.cons (by simp only [List.getElem?_toArray, List.getElem?_cons_succ, List.getElem?_cons_zero]; rfl) (fun K hK => ?_) AllReadyH.nil)
                refine step_append_rd _ rfl (.tmp 41) (.tmp 43) _ rfl sl_Int w1.heap.size _ _ _ (s.take (i + 1)) rfl HO6.out _ _ _ [(k : Int)] rfl rfl HR6.out (by rw [HT1.out]; simp only [List.length_cons, List.length_nil]; omega) HG6.out.le ?_; intro A7 c7 w7 ho7 hgr7 hat7; have HG7 := Lib.hid (HG6.out.app HO6.out (Nat.le_refl _) hgr7); have HO7 := Lib.hid ho7; clear ho7 hgr7 hat7
                refine hK.out _ _ (trivial) (fun hH => ?_)
                clear hK K
                (try simp only [Act.put, List.setIfInBounds_toArray, List.set_cons_zero, List.set_cons_succ])
                refine wpAnyH_ready (rs := [11]) (by kernel_rfl) (by simp) ?_
                refine (AllReadyH.cons (by simp only [List.getElem?_toArray, List.getElem?_cons_succ, List.getElem?_cons_zero]; rfl) (fun K hK => ?_) AllReadyH.nil)
                refine step_append_rd _ rfl (.tmp 44) (.tmp 47) _ rfl sl_Int w1.heap.size _ _ _ (s.take (i + 1) ++ [(k : Int)]) rfl HO7.out _ _ _ (s.drop (i + 1)) rfl (by simp only [List.length_drop]; omega) (Rd.drop_at (HRD.out.grew HG7.out) (by simp [IntS.E]) (by omega)) (by rw [List.length_append, HT1.out, List.length_drop]; simp only [List.length_cons, List.length_nil]; omega) HG7.out.le ?_; intro A8 c8 w8 ho8 hgr8 hat8; have HG8 := Lib.hid (HG7.out.app HO7.out (Nat.le_refl _) hgr8); have HO8 := Lib.hid ho8; clear ho8 hgr8 hat8
                refine hK.out _ _ (trivial) (fun hH => ?_)
                clear hK K
                (try simp only [Act.put, List.setIfInBounds_toArray, List.set_cons_zero, List.set_cons_succ])
                refine wpAnyH_take (i := 12) (v := ?_) (by simp only [List.getElem?_toArray, List.getElem?_cons_succ, List.getElem?_cons_zero]; rfl) (by kernel_rfl) (by kernel_rfl) (by kernel_rfl) (by intro _ _ _ h; exact h) (Or.inl ⟨by rfl, ?_⟩) hH ?_; rotate_left; · ((intro w hSw); (try dsimp only at hSw); go_simp; (try with_reducible rfl); done)
                (try simp only [Act.put, List.setIfInBounds_toArray, List.set_cons_zero, List.set_cons_succ])
                refine wpAnyH_done (by kernel_rfl) ?_ _
                go_wp2_with fail
                go_roundw
                case rel => go_light; exact ⟨k + 1, A8, c8, by omega, by go_num, by congr 1 <;> omega, (own_re HO8.out HE.out (by omega)).mono HG2.out.le, HG2.out.trans HG8.out⟩
                case measure => go_light; simp [intOf] <;> omega
            ·
              go_simp
              refine hK.out _ _ (trivial) (fun hH => ?_)
              clear hK K
              (try simp only [Act.put, List.setIfInBounds_toArray, List.set_cons_zero, List.set_cons_succ])
              have HGXE := Lib.hid (HGX.out.alloc (.cells #[] 3))
              have HRXE := Lib.hid (HRX.out.grew ((Grew.refl _).alloc (.cells #[] 3)))
              have HOXE := Lib.hid (Own.new_ (E := IntS.E) (t := 3) (w := w1.drew.alloc (.cells #[.int .i64 k] 3)) (base := w1.heap.size) HGX.out.le)
              have hsz1 : (w1.drew.alloc (.cells #[.int .i64 k] 3)).heap.size = w1.heap.size + 1 := by simp
              rw [hsz1] at HOXE
              clear hsz1
              refine wpAnyH_ready (rs := [0]) (by kernel_rfl) (by simp) ?_
              refine (AllReadyH.cons (by simp only [List.getElem?_toArray, List.getElem?_cons_succ, List.getElem?_cons_zero]; rfl) (fun K hK => ?_) AllReadyH.nil)
              go_simp
              refine hK.out _ _ (trivial) (fun hH => ?_)
              clear hK K
              (try simp only [Act.put, List.setIfInBounds_toArray, List.set_cons_zero, List.set_cons_succ])
              refine wpAnyH_ready (rs := [4]) (by kernel_rfl) (by simp) ?_
              refine (AllReadyH.cons (by simp only [List.getElem?_toArray, List.getElem?_cons_succ, List.getElem?_cons_zero]; rfl) (fun K hK => ?_) AllReadyH.nil)
              refine step_append_rd _ rfl (.tmp 37) (.tmp 40) _ rfl sl_Int w1.heap.size _ _ _ ([] : List _) rfl HOXE.out _ _ _ (s.take (i + 1)) rfl HT1.out.symm ((HRD.out.grew HGXE.out).take (i + 1)) (by rw [HT1.out]; simp only [List.length_nil]; omega) HGXE.out.le ?_; intro A5 c5 w5 ho5 hgr5 hat5; have HG5 := Lib.hid (HGXE.out.app (E := IntS.E) HOXE.out (Nat.le_refl _) hgr5); have HO5 := Lib.hid (show Own IntS.E 3 w5 w1.heap.size (.slice A5 (i + 1) c5) (s.take (i + 1)) by simpa using ho5); have HR6 := Lib.hid (HRXE.out.kept hgr5 (by intro b o e1 e2; simp only [Option.some.injEq, Addr.mk.injEq] at e1; simp [Value.ownBlock] at e2; have h9 : w1.drew.heap.size = w1.heap.size := rfl; omega)); clear ho5 hgr5 hat5
              refine hK.out _ _ (trivial) (fun hH => ?_)
              clear hK K
              (try simp only [Act.put, List.setIfInBounds_toArray, List.set_cons_zero, List.set_cons_succ])
              (try simp only [Nat.zero_add])
              have HG6 := HG5
              have HO6 := HO5
              refine wpAnyH_ready (rs := [7]) (by kernel_rfl) (by simp) ?_
              refine (AllReadyH.cons (by simp only [List.getElem?_toArray, List.getElem?_cons_succ, List.getElem?_cons_zero]; rfl) (fun K hK => ?_) AllReadyH.nil)
              refine step_append_rd _ rfl (.tmp 41) (.tmp 43) _ rfl sl_Int w1.heap.size _ _ _ (s.take (i + 1)) rfl HO6.out _ _ _ [(k : Int)] rfl rfl HR6.out (by rw [HT1.out]; simp only [List.length_cons, List.length_nil]; omega) HG6.out.le ?_; intro A7 c7 w7 ho7 hgr7 hat7; have HG7 := Lib.hid (HG6.out.app HO6.out (Nat.le_refl _) hgr7); have HO7 := Lib.hid ho7; clear ho7 hgr7 hat7
              refine hK.out _ _ (trivial) (fun hH => ?_)
              clear hK K
              (try simp only [Act.put, List.setIfInBounds_toArray, List.set_cons_zero, List.set_cons_succ])
              refine wpAnyH_ready (rs := [11]) (by kernel_rfl) (by simp) ?_
              refine (AllReadyH.cons (by simp only [List.getElem?_toArray, List.getElem?_cons_succ, List.getElem?_cons_zero]; rfl) (fun K hK => ?_) AllReadyH.nil)
              refine step_append_rd _ rfl (.tmp 44) (.tmp 47) _ rfl sl_Int w1.heap.size _ _ _ (s.take (i + 1) ++ [(k : Int)]) rfl HO7.out _ _ _ (s.drop (i + 1)) rfl (by simp only [List.length_drop]; omega) (Rd.drop_at (HRD.out.grew HG7.out) (by simp [IntS.E]) (by omega)) (by rw [List.length_append, HT1.out, List.length_drop]; simp only [List.length_cons, List.length_nil]; omega) HG7.out.le ?_; intro A8 c8 w8 ho8 hgr8 hat8; have HG8 := Lib.hid (HG7.out.app HO7.out (Nat.le_refl _) hgr8); have HO8 := Lib.hid ho8; clear ho8 hgr8 hat8
              refine hK.out _ _ (trivial) (fun hH => ?_)
              clear hK K
              (try simp only [Act.put, List.setIfInBounds_toArray, List.set_cons_zero, List.set_cons_succ])
              refine wpAnyH_take (i := 12) (v := ?_) (by simp only [List.getElem?_toArray, List.getElem?_cons_succ, List.getElem?_cons_zero]; rfl) (by kernel_rfl) (by kernel_rfl) (by kernel_rfl) (by intro _ _ _ h; exact h) (Or.inl ⟨by rfl, ?_⟩) hH ?_; rotate_left; · ((intro w hSw); (try dsimp only at hSw); go_simp; (try with_reducible rfl); done)
              (try simp only [Act.put, List.setIfInBounds_toArray, List.set_cons_zero, List.set_cons_succ])
              refine wpAnyH_done (by kernel_rfl) ?_ _
              go_wp2_with fail
              go_roundw
              case rel => go_light; exact ⟨k + 1, A8, c8, by omega, by go_num, by congr 1 <;> omega, (own_re HO8.out HE.out (by omega)).mono HG2.out.le, HG2.out.trans HG8.out⟩
              case measure => go_light; simp [intOf] <;> omega
          · have HLV := Lib.hid hlv
            have HB := Lib.hid (show backN (idxL wtL l k) s ≤ i by
              rcases Nat.lt_or_ge (backN (idxL wtL l k) s) (i + 1) with h9 | h9
              · omega
              · have := backN_out (p := idxL wtL l k) (show backN (idxL wtL l k) s = i + 1 by omega) hyv
                rw [HIV.out, hlv] at this
                cases this)
            clear hyv hy hlv hv2
            go_wp2_with fail
            (refine wp_region_grow_lit (by kernel_rfl) (by kernel_rfl) ?_; repeat (any_goals (first | go_big_quiet_step ((go_at_call 51; exact quiet_grew (beforeE_wt HLV.out _ HXO.out HYO.out))) | quiet_step ((go_at_call 51; exact quiet_grew (beforeE_wt HLV.out _ HXO.out HYO.out))) | (refine wpQuiet_step (fun K hK => ?_); go_simp; split <;> rename_i hsp <;> (refine hK _ ?_; clear hK K) <;> (try first | simp only [hsp, decide_true, decide_false, Bool.not_true, Bool.not_false] | simp only [Int.not_le.2 hsp, decide_false, Bool.not_false] | simp only [Int.not_lt.2 hsp, decide_false, Bool.not_false] | simp only [Nat.not_le.2 hsp, decide_false, Bool.not_false] | simp only [Nat.not_lt.2 hsp, decide_false, Bool.not_false])))))
            all_goals (refine wpQuiet_nil ?_; intro w1 h1)
            clear hcs hd0 hd1 hd2 hx0 hx1 hx2 hz7
            go_wp2_with fail
            go_roundw
            case rel => go_light; exact ⟨i, by omega, HB.out, rfl, HGJ.out.trans h1⟩
            case measure => go_light; simp [intOf] <;> omega
    · obtain rfl : k = l.length := by omega
      have HLE := Lib.hid (show (sortB (idxL wtL l) (idxs l.length)).length = l.length by rw [sortB_length, idxs_len])
      go_wp2_with fail
      go_ret
      go_light
      exact ⟨A', c', by rw [HLE.out]; rfl, by rw [HLE.out]; exact HO.out, HG.out⟩
set_option maxHeartbeats 1000000 in
theorem earliest_spec (l : List Tsk) (A : Option Addr) (c : Nat) (w : World) (h : Rd Tsk.E w A l) (hn : l.length ≤ 4194304) :
    Calls Try.prog 27 #[.slice A l.length c] w fun e w' => ∃ A' c', e = .returned (.slice A' (ordF dueC l).length c') ∧ Own IntS.E 3 w' w.heap.size (.slice A' (ordF dueC l).length c') (ordF dueC l) ∧ Grew w w' := by
  have HL := Lib.hid h
  clear h
  cases hv : areT l
  · have HF := Lib.hid (show ordF dueC l = [] by simp [ordF, hv])
    have HV := Lib.hid hv
    clear hv
    go_enter Try.func27, Try.ntmps27
    go_wp2_with fail
    refine (areTasksE_spec HV.out _ _ _ HL.out hn).mono ?_; rintro e w1 ⟨rfl, h1⟩
    go_wp2_with fail
    go_ret
    go_light
    exact ⟨_, 0, by rw [HF.out]; rfl, by rw [HF.out]; exact Own.new_ h1.le, h1.alloc _⟩
  have HF := Lib.hid (show ordF dueC l = sortB (idxL dueL l) (idxs l.length) by rw [idxL_due]; simp [ordF, hv])
  have HV := Lib.hid hv
  clear hv
  go_enter Try.func27, Try.ntmps27
  go_wp2_with fail
  refine (areTasksE_spec HV.out _ _ _ HL.out hn).mono ?_; rintro e w1 ⟨rfl, h1⟩
  go_wp2_with fail
  refine (l23Sort_due l A c _ (HL.out.grew h1) HV.out).mono ?_; rintro e w2 ⟨A', c', rfl, h2, h3⟩
  go_wp2_with fail
  go_ret
  go_light
  refine ⟨A', c', by rw [HF.out]; rfl, ?_, h1.trans h3⟩
  rw [HF.out]
  exact h2.mono h1.le
set_option maxHeartbeats 1000000 in
theorem shortest_spec (l : List Tsk) (A : Option Addr) (c : Nat) (w : World) (h : Rd Tsk.E w A l) (hn : l.length ≤ 4194304) :
    Calls Try.prog 32 #[.slice A l.length c] w fun e w' => ∃ A' c', e = .returned (.slice A' (ordF wtC l).length c') ∧ Own IntS.E 3 w' w.heap.size (.slice A' (ordF wtC l).length c') (ordF wtC l) ∧ Grew w w' := by
  have HL := Lib.hid h
  clear h
  cases hv : areT l
  · have HF := Lib.hid (show ordF wtC l = [] by simp [ordF, hv])
    have HV := Lib.hid hv
    clear hv
    go_enter Try.func32, Try.ntmps32
    go_wp2_with fail
    refine (areTasksE_spec HV.out _ _ _ HL.out hn).mono ?_; rintro e w1 ⟨rfl, h1⟩
    go_wp2_with fail
    go_ret
    go_light
    exact ⟨_, 0, by rw [HF.out]; rfl, by rw [HF.out]; exact Own.new_ h1.le, h1.alloc _⟩
  have HF := Lib.hid (show ordF wtC l = sortB (idxL wtL l) (idxs l.length) by rw [idxL_wt]; simp [ordF, hv])
  have HV := Lib.hid hv
  clear hv
  go_enter Try.func32, Try.ntmps32
  go_wp2_with fail
  refine (areTasksE_spec HV.out _ _ _ HL.out hn).mono ?_; rintro e w1 ⟨rfl, h1⟩
  go_wp2_with fail
  refine (l23Sort_wt l A c _ (HL.out.grew h1) HV.out).mono ?_; rintro e w2 ⟨A', c', rfl, h2, h3⟩
  go_wp2_with fail
  go_ret
  go_light
  refine ⟨A', c', by rw [HF.out]; rfl, ?_, h1.trans h3⟩
  rw [HF.out]
  exact h2.mono h1.le
end Go.Proofs.Yteckhmbkagigjaa
