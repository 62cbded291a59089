/- The laws' list of all orders of a few indices. Conditions: none. -/
import Derived.Test.YtfplgagdjdhopaaIdxs
namespace Go.Proofs.Ytfplgagdjdhopaa
open Go.RowKit Go.ChangeShapes Go.WideShapes Go.Deep
set_option linter.unusedVariables false
set_option linter.unusedSimpArgs false

/-- A row of numbers, and where it lies. -/
structure PRow where
  l : List Int
  g : Nat
  c : Nat
def PRow.E : Enc PRow := { enc := fun x => [.slice (some ⟨x.g, 0, none⟩) x.l.length x.c], sz := 1, pos := by decide, len := fun _ => rfl, one := by intro x u hu; simp at hu; subst hu; rfl }
theorem PRow.at_ {w : World} {b o : Nat} {l : List PRow} (hc : ∀ i x, l[i]? = some x → ∀ j u, (PRow.E.enc x)[j]? = some u → w.cell? ⟨b, o + i * PRow.E.sz + j, none⟩ = some u) {k : Nat} {x : PRow} (hx : l[k]? = some x) :
    w.cell? ⟨b, o + k, none⟩ = some (.slice (some ⟨x.g, 0, none⟩) x.l.length x.c) := by
  have := hc k x hx 0 _ rfl
  simpa [PRow.E] using this
theorem sl_PRow : SlInf Try.prog PRow.E 22 27 := info_sl Try.underlying22 info_ints rfl rfl (by decide)
def PR (w : World) (n : Nat) (x : PRow) : Prop := Rd IntS.E w (some ⟨x.g, 0, none⟩) x.l ∧ x.l.Perm (idxs n) ∧ n ≤ x.c ∧ x.g < w.heap.size
theorem PR.grew {w w' : World} {n : Nat} {x : PRow} (h : PR w n x) (g : Grew w w') : PR w' n x := ⟨h.1.grew g, h.2.1, h.2.2.1, Nat.lt_of_lt_of_le h.2.2.2 g.le⟩
theorem PR.kept {w w' : World} {n : Nat} {x : PRow} {row : Option Nat} (h : PR w n x) (g : w.grownBy w' row) (hne : row ≠ some x.g) : PR w' n x :=
  ⟨h.1.kept g (fun b o e => by simp only [Option.some.injEq, Addr.mk.injEq] at e; rw [← e.1]; exact hne), h.2.1, h.2.2.1, Nat.lt_of_lt_of_le h.2.2.2 g.size⟩
theorem PR.len {w : World} {n : Nat} {x : PRow} (h : PR w n x) : x.l.length = n := by rw [h.2.1.length_eq, idxs_len]
theorem perm_put {o : List Int} {i k : Nat} (h : o.Perm (idxs i)) : (o.take k ++ [(i : Int)] ++ o.drop k).Perm (idxs (i + 1)) := by
  rw [idxs_succ]
  have h1 : (o.take k ++ [(i : Int)] ++ o.drop k).Perm ((i : Int) :: o) := by
    have := List.perm_middle (a := (i : Int)) (l₁ := o.take k) (l₂ := o.drop k)
    rw [List.take_append_drop] at this
    simpa using this
  exact h1.trans ((h.cons _).trans (List.perm_append_singleton (i : Int) (idxs i)).symm)
def fct : Nat → Nat
  | 0 => 1
  | i + 1 => fct i * (i + 1)
theorem fct_le : ∀ {i : Nat}, i ≤ 4 → fct i ≤ 24
  | 0, _ => by decide
  | 1, _ => by decide
  | 2, _ => by decide
  | 3, _ => by decide
  | 4, _ => by decide
  | i + 5, h => by omega

set_option maxRecDepth 100000 in
set_option maxHeartbeats 16000000 in
theorem perms_any (n : Nat) (hn : n ≤ 5) (w : World) :
    Calls Try.prog 26 #[.int .i64 n] w fun e w' => ∃ (R : List PRow) (B : Option Addr) (d : Nat), e = .returned (.slice B R.length d) ∧ Rd PRow.E w' B R ∧ (∀ x ∈ R, PR w' n x) ∧ R.length ≤ 120 ∧ Grew w w' := by
  go_enter Try.func26, Try.ntmps26
  go_wp2_with fail
  have HR0 := Lib.hid (show Rd PRow.E ((w.alloc (.cells #[] 3)).alloc (.cells #[.slice (some ⟨w.heap.size, 0, none⟩) 0 0] 27)) (some ⟨w.heap.size + 1, 0, none⟩) [⟨[], w.heap.size, 0⟩] from rd_new (E := PRow.E) (w.alloc (.cells #[] 3)) ⟨[], w.heap.size, 0⟩ 27 (by simp))
  go_loopw [3, 4] (fun v i wr => ∃ (k : Nat) (R : List PRow) (B : Option Addr) (d : Nat), k ≤ n ∧ i = .int .i64 k ∧ v = .slice B R.length d ∧ Rd PRow.E wr B R ∧ (∀ x ∈ R, PR wr k x) ∧ R.length = fct k ∧ Grew w wr) (fun _ i _ => n - (intOf i).toNat)
  case atStart => exact ⟨0, [⟨[], w.heap.size, 0⟩], _, _, Nat.zero_le _, rfl, rfl, HR0.out, fun x hx => by
    obtain rfl : x = _ := by simpa using hx
    exact ⟨Rd.nil, by simp [idxs], Nat.zero_le _, by simp; omega⟩, rfl, ((Grew.refl w).alloc _).alloc _⟩
  case round =>
    obtain ⟨i, R, B, d, hi, rfl, rfl, hrd, hpr, hrl, hg⟩ := hrel
    have HRD := Lib.hid hrd
    have HPR := Lib.hid hpr
    have HG := Lib.hid hg
    clear hrd hpr hg HR0
    by_cases hlt : i < n
    · have hr24 : R.length ≤ 24 := by rw [hrl]; exact fct_le (by omega)
      have HRL := Lib.hid hrl
      clear hrl
      obtain ⟨wi, hwi⟩ : ∃ wi : World, wi = wr := ⟨_, rfl⟩
      subst hwi
      have HN0 := Lib.hid (Own.new_ (E := PRow.E) (t := 27) (Nat.le_refl wi.heap.size))
      go_wp2_with fail
      go_loopw [5, 6] (fun v r wr => ∃ (k : Nat) (N : List PRow) (T : Option Addr) (c : Nat), k ≤ R.length ∧ r = .int .i64 k ∧ v = .slice T N.length c ∧ Own PRow.E 27 wr wi.heap.size v N ∧ (∀ x ∈ N, PR wr (i + 1) x ∧ v.ownBlock ≠ some x.g) ∧ N.length = k * (i + 1) ∧ Grew wi wr) (fun _ r _ => R.length - (intOf r).toNat)
      case atStart => exact ⟨0, [], _, _, Nat.zero_le _, rfl, rfl, HN0.out, by simp, by simp, (Grew.refl _).alloc _⟩
      case round =>
        obtain ⟨r, N, T, c, hr, rfl, rfl, hown, hrows, hnl, hgr⟩ := hrel
        have HOW := Lib.hid hown
        have HRO := Lib.hid hrows
        have HGR := Lib.hid hgr
        clear hown hrows hgr HN0
        by_cases hlr : r < R.length
        · obtain ⟨x, hx⟩ : ∃ x, R[r]? = some x := ⟨_, List.getElem?_eq_getElem hlr⟩
          have hpx := HPR.out x (List.mem_of_getElem? hx)
          have hxl := hpx.len
          have hxc := hpx.2.2.1
          have HPX := Lib.hid hpx
          obtain ⟨bo, oo, rfl, hbo, hco⟩ := HRD.out.at_ hlr
          have hcell := PRow.at_ hco hx
          rw [hxl] at hcell
          have HCI := Lib.hid (fun (w' : World) (h : Grew wi w') => show w'.cell? ⟨bo, oo + r, none⟩ = some (.slice (some ⟨x.g, 0, none⟩) i x.c) from (h.rules.1 bo _ hbo).trans hcell)
          obtain ⟨P, hP⟩ : ∃ P, P = r * (i + 1) := ⟨_, rfl⟩
          have hPb : P ≤ 120 := by rw [hP]; exact Nat.le_trans (Nat.mul_le_mul (show r ≤ 24 by omega) (show i + 1 ≤ 5 by omega)) (by decide)
          have HP := Lib.hid hP
          rw [← hP] at hnl
          clear hx hpx hxl hco hcell hP hbo
          go_wp2_with fail
          obtain ⟨wj, hwj⟩ : ∃ wj : World, wj = wr := ⟨_, rfl⟩
          subst hwj
          go_loopw [5, 7] (fun v q wr => ∃ (k : Nat) (N : List PRow) (T : Option Addr) (c : Nat), k ≤ i + 1 ∧ q = .int .i64 k ∧ v = .slice T N.length c ∧ Own PRow.E 27 wr wi.heap.size v N ∧ (∀ x ∈ N, PR wr (i + 1) x ∧ v.ownBlock ≠ some x.g) ∧ N.length = P + k ∧ Grew wi wr) (fun _ q _ => i + 1 - (intOf q).toNat)
          case atStart => exact ⟨0, N, T, c, Nat.zero_le _, rfl, rfl, HOW.out, HRO.out, by omega, HGR.out⟩
          case round =>
            obtain ⟨k, N2, T2, c2, hk, rfl, rfl, hown, hrows, hnl2, hgr⟩ := hrel
            have HNL2 := Lib.hid hnl2
            have hnb2 : N2.length ≤ 125 := by omega
            clear hnl2
            have HOW2 := Lib.hid hown
            have HRO2 := Lib.hid hrows
            have HGR2 := Lib.hid hgr
            clear hown hrows hgr HOW HRO HGR
            by_cases hlk : k < i + 1
            · have hcell := HCI.out _ HGR2.out
              obtain ⟨o, g, cx⟩ := x
              simp only at hcell hxc
              have HSRC := Lib.hid ((HPX.out.grew HGR2.out).1)
              have hol : o.length = i := HPX.out.len
              have HPP := Lib.hid (perm_put (k := k) HPX.out.2.1)
              have hz1 : (k : Int) ≤ (i : Int) := by omega
              have hz2 : (0 : Int) ≤ (r : Int) := by omega
              have hz3 : (r : Int) < (R.length : Int) := by omega
              have hz4 : (k : Int) ≤ (cx : Int) := by omega
              have hz5 : k ≤ i := by omega
              obtain ⟨wq, hwq⟩ : ∃ wq : World, wq = wr := ⟨_, rfl⟩
              subst hwq
              have HCS := Lib.hid (fun (w' : World) (h : Grew wq w') => HCI.out w' (HGR2.out.trans h))
              simp only at HCS HSRC HPP
              go_wp2_with fail
              have HGD := Lib.hid (Grew.refl wq).drew
              refine wp_region_held_drew (S := (fun w' => w'.cell? ⟨bo, oo + r, none⟩ = some (.slice (some ⟨g, 0, none⟩) i cx))) (by kernel_rfl) (HCS.out _ HGD.out) (fun hH => ?_)
              refine wpAnyH_take (i := 0) (v := ?_) (by simp only [List.getElem?_toArray, List.getElem?_cons_succ, List.getElem?_cons_zero]; rfl) (by kernel_rfl) (by kernel_rfl) (by kernel_rfl) (by intro _ _ _ h; exact h) (Or.inl ⟨by rfl, ?_⟩) hH ?_; rotate_left; · ((intro w hSw); (try dsimp only at hSw); go_simp; (try with_reducible rfl); done)
              (try simp only [Act.put, List.setIfInBounds_toArray, List.set_cons_zero, List.set_cons_succ])
              refine wpAnyH_take (i := 2) (v := ?_) (by simp only [List.getElem?_toArray, List.getElem?_cons_succ, List.getElem?_cons_zero]; rfl) (by kernel_rfl) (by kernel_rfl) (by kernel_rfl) (by intro _ _ _ h; exact h) (Or.inl ⟨by rfl, ?_⟩) hH ?_; rotate_left; · ((intro w hSw); (try dsimp only at hSw); go_simp; (try with_reducible rfl); done)
              (try simp only [Act.put, List.setIfInBounds_toArray, List.set_cons_zero, List.set_cons_succ])
              refine wpAnyH_take (i := 3) (v := ?_) (by simp only [List.getElem?_toArray, List.getElem?_cons_succ, List.getElem?_cons_zero]; rfl) (by kernel_rfl) (by kernel_rfl) (by kernel_rfl) (by intro _ _ _ h; exact h) (Or.inl ⟨by rfl, ?_⟩) hH ?_; rotate_left; · ((intro w hSw); (try dsimp only at hSw); go_simp; (try with_reducible rfl); done)
              (try simp only [Act.put, List.setIfInBounds_toArray, List.set_cons_zero, List.set_cons_succ])
              refine wpAnyH_take (i := 4) (v := ?_) (by simp only [List.getElem?_toArray, List.getElem?_cons_succ, List.getElem?_cons_zero]; rfl) (by kernel_rfl) (by kernel_rfl) (by kernel_rfl) (by intro _ _ _ h; exact h) (Or.inl ⟨by rfl, ?_⟩) hH ?_; rotate_left; · ((intro w hSw); (try dsimp only at hSw); go_simp; (try with_reducible rfl); done)
              (try simp only [Act.put, List.setIfInBounds_toArray, List.set_cons_zero, List.set_cons_succ])
              refine wpAnyH_take (i := 5) (v := ?_) (by simp only [List.getElem?_toArray, List.getElem?_cons_succ, List.getElem?_cons_zero]; rfl) (by kernel_rfl) (by kernel_rfl) (by kernel_rfl) (by intro _ _ _ h; exact h) (Or.inl ⟨by rfl, ?_⟩) hH ?_; rotate_left; · ((intro w hSw); (try dsimp only at hSw); go_simp; (try with_reducible rfl); done)
              (try simp only [Act.put, List.setIfInBounds_toArray, List.set_cons_zero, List.set_cons_succ])
              refine wpAnyH_take (i := 6) (v := ?_) (by simp only [List.getElem?_toArray, List.getElem?_cons_succ, List.getElem?_cons_zero]; rfl) (by kernel_rfl) (by kernel_rfl) (by kernel_rfl) (by intro _ _ _ h; exact h) (Or.inl ⟨by rfl, ?_⟩) hH ?_; rotate_left; · ((intro w hSw); (try dsimp only at hSw); go_simp; (try with_reducible rfl); done)
              (try simp only [Act.put, List.setIfInBounds_toArray, List.set_cons_zero, List.set_cons_succ])
              refine wpAnyH_take (i := 7) (v := ?_) (by simp only [List.getElem?_toArray, List.getElem?_cons_succ, List.getElem?_cons_zero]; rfl) (by kernel_rfl) (by kernel_rfl) (by kernel_rfl) (by intro _ _ _ h; exact h) (Or.inl ⟨by rfl, ?_⟩) hH ?_; rotate_left; · ((intro w hSw); (try dsimp only at hSw); go_simp; (try with_reducible rfl); done)
              (try simp only [Act.put, List.setIfInBounds_toArray, List.set_cons_zero, List.set_cons_succ])
              refine wpAnyH_take (i := 9) (v := ?_) (by simp only [List.getElem?_toArray, List.getElem?_cons_succ, List.getElem?_cons_zero]; rfl) (by kernel_rfl) (by kernel_rfl) (by kernel_rfl) (by intro _ _ _ h; exact h) (Or.inl ⟨by rfl, ?_⟩) hH ?_; rotate_left; · ((intro w hSw); (try dsimp only at hSw); go_simp; (try with_reducible rfl); done)
              (try simp only [Act.put, List.setIfInBounds_toArray, List.set_cons_zero, List.set_cons_succ])
              refine wpAnyH_take (i := 12) (v := ?_) (by simp only [List.getElem?_toArray, List.getElem?_cons_succ, List.getElem?_cons_zero]; rfl) (by kernel_rfl) (by kernel_rfl) (by kernel_rfl) (by intro _ _ _ h; exact h) (Or.inl ⟨by rfl, ?_⟩) hH ?_; rotate_left; · ((intro w hSw); (try dsimp only at hSw); go_simp; (try with_reducible rfl); done)
              (try simp only [Act.put, List.setIfInBounds_toArray, List.set_cons_zero, List.set_cons_succ])
              refine wpAnyH_take (i := 13) (v := ?_) (by simp only [List.getElem?_toArray, List.getElem?_cons_succ, List.getElem?_cons_zero]; rfl) (by kernel_rfl) (by kernel_rfl) (by kernel_rfl) (by intro _ _ _ h; exact h) (Or.inl ⟨by rfl, ?_⟩) hH ?_; rotate_left; · ((intro w hSw); (try dsimp only at hSw); go_simp; (try with_reducible rfl); done)
              (try simp only [Act.put, List.setIfInBounds_toArray, List.set_cons_zero, List.set_cons_succ])
              refine wpAnyH_take (i := 14) (v := ?_) (by simp only [List.getElem?_toArray, List.getElem?_cons_succ, List.getElem?_cons_zero]; rfl) (by kernel_rfl) (by kernel_rfl) (by kernel_rfl) (by intro _ _ _ h; exact h) (Or.inl ⟨by rfl, ?_⟩) hH ?_; rotate_left; · ((intro w hSw); (try dsimp only at hSw); go_simp; (try with_reducible rfl); done)
              (try simp only [Act.put, List.setIfInBounds_toArray, List.set_cons_zero, List.set_cons_succ])
              refine wpAnyH_take (i := 15) (v := ?_) (by simp only [List.getElem?_toArray, List.getElem?_cons_succ, List.getElem?_cons_zero]; rfl) (by kernel_rfl) (by kernel_rfl) (by kernel_rfl) (by intro _ _ _ h; exact h) (Or.inl ⟨by rfl, ?_⟩) hH ?_; rotate_left; · ((intro w hSw); (try dsimp only at hSw); go_simp; (try with_reducible rfl); done)
              (try simp only [Act.put, List.setIfInBounds_toArray, List.set_cons_zero, List.set_cons_succ])
              refine wpAnyH_take (i := 16) (v := ?_) (by simp only [List.getElem?_toArray, List.getElem?_cons_succ, List.getElem?_cons_zero]; rfl) (by kernel_rfl) (by kernel_rfl) (by kernel_rfl) (by intro _ _ _ h; exact h) (Or.inl ⟨by rfl, ?_⟩) hH ?_; rotate_left; · ((intro w hSw); (try dsimp only at hSw); go_simp; (try with_reducible rfl); done)
              (try simp only [Act.put, List.setIfInBounds_toArray, List.set_cons_zero, List.set_cons_succ])
              refine wpAnyH_take (i := 17) (v := ?_) (by simp only [List.getElem?_toArray, List.getElem?_cons_succ, List.getElem?_cons_zero]; rfl) (by kernel_rfl) (by kernel_rfl) (by kernel_rfl) (by intro _ _ _ h; exact h) (Or.inl ⟨by rfl, ?_⟩) hH ?_; rotate_left; · ((intro w hSw); (try dsimp only at hSw); go_simp; (try with_reducible rfl); done)
              (try simp only [Act.put, List.setIfInBounds_toArray, List.set_cons_zero, List.set_cons_succ])
              have HT1 := Lib.hid (show (o.take k).length = k by rw [List.length_take]; omega)
              have HGE := Lib.hid (HGD.out.alloc (.cells #[] 3))
              have HGX := Lib.hid (HGD.out.alloc (.cells #[.int .i64 i] 3))
              have HRX := Lib.hid (rd_new (E := IntS.E) wq.drew (i : Int) 3 rfl)
              have HOE := Lib.hid (Own.new_ (E := IntS.E) (t := 3) (w := wq.drew) (base := wq.heap.size) (Nat.le_refl _))
              refine wpAnyH_ready (rs := [1, 10]) (by kernel_rfl) (by simp) ?_
              refine (AllReadyH.cons (by simp only [List.getElem?_toArray, List.getElem?_cons_succ, List.getElem?_cons_zero]; rfl) (fun K hK => ?_) (AllReadyH.cons (by simp only [List.getElem?_toArray, List.getElem?_cons_succ, List.getElem?_cons_zero]; rfl) (fun K hK => ?_) AllReadyH.nil))
              ·
                go_simp
                refine hK.out _ _ (HCS.out _ HGE.out) (fun hH => ?_)
                clear hK K
                (try simp only [Act.put, List.setIfInBounds_toArray, List.set_cons_zero, List.set_cons_succ])
                refine wpAnyH_ready (rs := [8, 10]) (by kernel_rfl) (by simp) ?_
                refine (AllReadyH.cons (by simp only [List.getElem?_toArray, List.getElem?_cons_succ, List.getElem?_cons_zero]; rfl) (fun K hK => ?_) (AllReadyH.cons (by simp only [List.getElem?_toArray, List.getElem?_cons_succ, List.getElem?_cons_zero]; rfl) (fun K hK => ?_) AllReadyH.nil))
                ·
                  refine step_append_rd _ rfl (.tmp 28) (.tmp 34) _ rfl sl_Int wq.heap.size _ _ _ ([] : List _) rfl HOE.out _ _ _ (o.take k) rfl HT1.out.symm ((HSRC.out.grew HGE.out).take k) (by rw [HT1.out]; simp only [List.length_nil]; omega) HGE.out.le ?_; intro A5 c5 w5 ho5 hgr5 hat5; have HG5 := Lib.hid (HGE.out.app (E := IntS.E) HOE.out (Nat.le_refl _) hgr5); have HO5 := Lib.hid (show Own IntS.E 3 w5 wq.heap.size (.slice A5 k c5) (o.take k) by simpa using ho5); clear ho5 hgr5 hat5
                  refine hK.out _ _ (HCS.out _ HG5.out) (fun hH => ?_)
                  clear hK K
                  (try simp only [Act.put, List.setIfInBounds_toArray, List.set_cons_zero, List.set_cons_succ])
                  (try simp only [Nat.zero_add])
                  have HG6 := Lib.hid (HG5.out.alloc (.cells #[.int .i64 i] 3))
                  refine wpAnyH_ready (rs := [10]) (by kernel_rfl) (by simp) ?_
                  refine (AllReadyH.cons (by simp only [List.getElem?_toArray, List.getElem?_cons_succ, List.getElem?_cons_zero]; rfl) (fun K hK => ?_) AllReadyH.nil)
                  go_simp
                  refine hK.out _ _ (HCS.out _ HG6.out) (fun hH => ?_)
                  clear hK K
                  (try simp only [Act.put, List.setIfInBounds_toArray, List.set_cons_zero, List.set_cons_succ])
                  have HO6 := Lib.hid (HO5.out.alloc (.cells #[.int .i64 i] 3))
                  have HR6 := Lib.hid (rd_new (E := IntS.E) w5 (i : Int) 3 rfl)
                  refine wpAnyH_ready (rs := [11]) (by kernel_rfl) (by simp) ?_
                  refine (AllReadyH.cons (by simp only [List.getElem?_toArray, List.getElem?_cons_succ, List.getElem?_cons_zero]; rfl) (fun K hK => ?_) AllReadyH.nil)
                  refine step_append_rd _ rfl (.tmp 35) (.tmp 37) _ rfl sl_Int wq.heap.size _ _ _ (o.take k) rfl HO6.out _ _ _ [(i : Int)] rfl rfl HR6.out (by rw [HT1.out]; simp only [List.length_cons, List.length_nil]; omega) HG6.out.le ?_; intro A7 c7 w7 ho7 hgr7 hat7; have HG7 := Lib.hid (HG6.out.app HO6.out (Nat.le_refl _) hgr7); have HO7 := Lib.hid ho7; clear ho7 hgr7 hat7
                  refine hK.out _ _ (HCS.out _ HG7.out) (fun hH => ?_)
                  clear hK K
                  (try simp only [Act.put, List.setIfInBounds_toArray, List.set_cons_zero, List.set_cons_succ])
                  refine wpAnyH_ready (rs := [18]) (by kernel_rfl) (by simp) ?_
                  refine (AllReadyH.cons (by simp only [List.getElem?_toArray, List.getElem?_cons_succ, List.getElem?_cons_zero]; rfl) (fun K hK => ?_) AllReadyH.nil)
                  refine step_append_rd _ rfl (.tmp 38) (.tmp 44) _ rfl sl_Int wq.heap.size _ _ _ (o.take k ++ [(i : Int)]) rfl HO7.out _ _ _ (o.drop k) rfl (by simp only [List.length_drop]; omega) (Rd.drop_at (HSRC.out.grew HG7.out) (by simp [IntS.E]) (by omega)) (by rw [List.length_append, HT1.out, List.length_drop]; simp only [List.length_cons, List.length_nil]; omega) HG7.out.le ?_; intro A8 c8 w8 ho8 hgr8 hat8; have HG8 := Lib.hid (HG7.out.app HO7.out (Nat.le_refl _) hgr8); have HO8 := Lib.hid ho8; clear ho8 hgr8 hat8
                  refine hK.out _ _ (HCS.out _ HG8.out) (fun hH => ?_)
                  clear hK K
                  (try simp only [Act.put, List.setIfInBounds_toArray, List.set_cons_zero, List.set_cons_succ])
                  have hk9 : k + 1 + (i - k) = i + 1 := by omega
                  rw [hk9] at HO8
                  have hnl8 : (o.take k ++ [(i : Int)] ++ o.drop k).length = i + 1 := by have := HPP.out.length_eq; rw [idxs_len] at this; exact this
                  obtain ⟨g8, c8', hv8, hg81, hg82⟩ := HO8.out.addr (by rw [hnl8]; omega)
                  simp only [Value.slice.injEq] at hv8
                  obtain ⟨rfl, _, rfl⟩ := hv8
                  have hk8 : k + (i - k + 1) = i + 1 := by omega
                  have HRN := Lib.hid (show Rd PRow.E (w8.alloc (.cells #[.slice (some ⟨g8, 0, none⟩) (k + (i - k + 1)) c8] 27)) (some ⟨w8.heap.size, 0, none⟩) [⟨o.take k ++ [(i : Int)] ++ o.drop k, g8, c8⟩] from by
                    have := rd_new (E := PRow.E) w8 ⟨o.take k ++ [(i : Int)] ++ o.drop k, g8, c8⟩ 27 rfl
                    simp only [PRow.E, hnl8] at this
                    rw [hk8]
                    exact this)
                  have HPN := Lib.hid (show PR w8 (i + 1) ⟨o.take k ++ [(i : Int)] ++ o.drop k, g8, c8⟩ from ⟨HO8.out.rd, HPP.out, by have := HO8.out.cap.2.1; exact this, hg82⟩)
                  have HGA := Lib.hid (HG8.out.alloc (.cells #[.slice (some ⟨g8, 0, none⟩) (k + (i - k + 1)) c8] 27))
                  have HOA := Lib.hid ((HOW2.out.grew HG8.out).alloc (.cells #[.slice (some ⟨g8, 0, none⟩) (k + (i - k + 1)) c8] 27))
                  clear hk8
                  have hsep8 : (Value.slice T2 N2.length c2).ownBlock ≠ some g8 := fun e => by have := (HOW2.out.block g8 e).2; omega
                  refine wpAnyH_ready (rs := [19]) (by kernel_rfl) (by simp) ?_
                  refine (AllReadyH.cons (by simp only [List.getElem?_toArray, List.getElem?_cons_succ, List.getElem?_cons_zero]; rfl) (fun K hK => ?_) AllReadyH.nil)
                  go_simp
                  refine hK.out _ _ (HCS.out _ HGA.out) (fun hH => ?_)
                  clear hK K
                  (try simp only [Act.put, List.setIfInBounds_toArray, List.set_cons_zero, List.set_cons_succ])
                  refine wpAnyH_ready (rs := [20]) (by kernel_rfl) (by simp) ?_
                  refine (AllReadyH.cons (by simp only [List.getElem?_toArray, List.getElem?_cons_succ, List.getElem?_cons_zero]; rfl) (fun K hK => ?_) AllReadyH.nil)
                  refine step_append_rd _ rfl (.tmp 27) (.tmp 46) _ rfl sl_PRow wi.heap.size _ _ _ N2 rfl HOA.out _ _ _ [⟨o.take k ++ [(i : Int)] ++ o.drop k, g8, c8⟩] rfl rfl HRN.out (by simp only [List.length_cons, List.length_nil]; omega) (by have := HGR2.out.le; have := HGA.out.le; omega) ?_; intro A9 c9 w9 ho9 hgr9 hat9; have HO9 := Lib.hid ho9; have HGW := Lib.hid (((HGR2.out.trans HG8.out).alloc _).app HOA.out (Nat.le_refl _) hgr9); have HRR := Lib.hid (show ∀ x ∈ N2 ++ [⟨o.take k ++ [(i : Int)] ++ o.drop k, g8, c8⟩], PR w9 (i + 1) x ∧ (Value.slice A9 (N2.length + 1) c9).ownBlock ≠ some x.g from fun x hx => by (rcases List.mem_append.1 hx with hx | hx); (obtain ⟨q1, q2⟩ := HRO2.out x hx; have q3 := (q1.grew HGA.out); exact ⟨q3.kept hgr9 q2, ne_of_at hat9 q2 (by have := q3.2.2.2; omega)⟩); (obtain rfl : x = ⟨o.take k ++ [(i : Int)] ++ o.drop k, g8, c8⟩ := by simpa using hx); (have q3 := (HPN.out.grew ((Grew.refl _).alloc (.cells #[.slice (some ⟨g8, 0, none⟩) (k + (i - k + 1)) c8] 27))); exact ⟨q3.kept hgr9 hsep8, ne_of_at hat9 hsep8 (by have := q3.2.2.2; omega)⟩)); clear ho9 hgr9 hat9
                  refine hK.out _ _ (HCI.out _ HGW.out) (fun hH => ?_)
                  clear hK K
                  (try simp only [Act.put, List.setIfInBounds_toArray, List.set_cons_zero, List.set_cons_succ])
                  refine wpAnyH_take (i := 21) (v := ?_) (by simp only [List.getElem?_toArray, List.getElem?_cons_succ, List.getElem?_cons_zero]; rfl) (by kernel_rfl) (by kernel_rfl) (by kernel_rfl) (by intro _ _ _ h; exact h) (Or.inl ⟨by rfl, ?_⟩) hH ?_; rotate_left; · ((intro w hSw); (try dsimp only at hSw); go_simp; (try with_reducible rfl); done)
                  (try simp only [Act.put, List.setIfInBounds_toArray, List.set_cons_zero, List.set_cons_succ])
                  refine wpAnyH_done (by kernel_rfl) ?_ _
                  go_wp2_with fail
                  go_roundw
                  case rel => go_light; exact ⟨k + 1, N2 ++ [⟨o.take k ++ [(i : Int)] ++ o.drop k, g8, c8⟩], A9, c9, by omega, by go_num, by simp, HO9.out, HRR.out, by rw [List.length_append, HNL2.out]; rfl, HGW.out⟩
                  case measure => go_light; simp [intOf]; omega
                ·
                  have HGEX := Lib.hid (HGE.out.alloc (.cells #[.int .i64 i] 3))
                  go_simp
                  refine hK.out _ _ (HCS.out _ HGEX.out) (fun hH => ?_)
                  clear hK K
                  (try simp only [Act.put, List.setIfInBounds_toArray, List.set_cons_zero, List.set_cons_succ])
                  have HOEX := Lib.hid (HOE.out.alloc (.cells #[.int .i64 i] 3))
                  have HREX := Lib.hid (rd_new (E := IntS.E) (wq.drew.alloc (.cells #[] 3)) (i : Int) 3 (n := wq.heap.size + 1) (by simp))
                  refine wpAnyH_ready (rs := [8]) (by kernel_rfl) (by simp) ?_
                  refine (AllReadyH.cons (by simp only [List.getElem?_toArray, List.getElem?_cons_succ, List.getElem?_cons_zero]; rfl) (fun K hK => ?_) AllReadyH.nil)
                  refine step_append_rd _ rfl (.tmp 28) (.tmp 34) _ rfl sl_Int wq.heap.size _ _ _ ([] : List _) rfl HOEX.out _ _ _ (o.take k) rfl HT1.out.symm ((HSRC.out.grew HGEX.out).take k) (by rw [HT1.out]; simp only [List.length_nil]; omega) HGEX.out.le ?_; intro A5 c5 w5 ho5 hgr5 hat5; have HG5 := Lib.hid (HGEX.out.app (E := IntS.E) HOEX.out (Nat.le_refl _) hgr5); have HO5 := Lib.hid (show Own IntS.E 3 w5 wq.heap.size (.slice A5 k c5) (o.take k) by simpa using ho5); have HR6 := Lib.hid (HREX.out.kept hgr5 (by intro b o e1 e2; simp only [Option.some.injEq, Addr.mk.injEq] at e1; simp [Value.ownBlock] at e2; have h9 : wq.drew.heap.size = wq.heap.size := rfl; omega)); clear ho5 hgr5 hat5
                  refine hK.out _ _ (HCS.out _ HG5.out) (fun hH => ?_)
                  clear hK K
                  (try simp only [Act.put, List.setIfInBounds_toArray, List.set_cons_zero, List.set_cons_succ])
                  (try simp only [Nat.zero_add])
                  have HG6 := HG5
                  have HO6 := HO5
                  refine wpAnyH_ready (rs := [11]) (by kernel_rfl) (by simp) ?_
                  refine (AllReadyH.cons (by simp only [List.getElem?_toArray, List.getElem?_cons_succ, List.getElem?_cons_zero]; rfl) (fun K hK => ?_) AllReadyH.nil)
                  refine step_append_rd _ rfl (.tmp 35) (.tmp 37) _ rfl sl_Int wq.heap.size _ _ _ (o.take k) rfl HO6.out _ _ _ [(i : Int)] rfl rfl HR6.out (by rw [HT1.out]; simp only [List.length_cons, List.length_nil]; omega) HG6.out.le ?_; intro A7 c7 w7 ho7 hgr7 hat7; have HG7 := Lib.hid (HG6.out.app HO6.out (Nat.le_refl _) hgr7); have HO7 := Lib.hid ho7; clear ho7 hgr7 hat7
                  refine hK.out _ _ (HCS.out _ HG7.out) (fun hH => ?_)
                  clear hK K
                  (try simp only [Act.put, List.setIfInBounds_toArray, List.set_cons_zero, List.set_cons_succ])
                  refine wpAnyH_ready (rs := [18]) (by kernel_rfl) (by simp) ?_
                  refine (AllReadyH.cons (by simp only [List.getElem?_toArray, List.getElem?_cons_succ, List.getElem?_cons_zero]; rfl) (fun K hK => ?_) AllReadyH.nil)
                  refine step_append_rd _ rfl (.tmp 38) (.tmp 44) _ rfl sl_Int wq.heap.size _ _ _ (o.take k ++ [(i : Int)]) rfl HO7.out _ _ _ (o.drop k) rfl (by simp only [List.length_drop]; omega) (Rd.drop_at (HSRC.out.grew HG7.out) (by simp [IntS.E]) (by omega)) (by rw [List.length_append, HT1.out, List.length_drop]; simp only [List.length_cons, List.length_nil]; omega) HG7.out.le ?_; intro A8 c8 w8 ho8 hgr8 hat8; have HG8 := Lib.hid (HG7.out.app HO7.out (Nat.le_refl _) hgr8); have HO8 := Lib.hid ho8; clear ho8 hgr8 hat8
                  refine hK.out _ _ (HCS.out _ HG8.out) (fun hH => ?_)
                  clear hK K
                  (try simp only [Act.put, List.setIfInBounds_toArray, List.set_cons_zero, List.set_cons_succ])
                  have hk9 : k + 1 + (i - k) = i + 1 := by omega
                  rw [hk9] at HO8
                  have hnl8 : (o.take k ++ [(i : Int)] ++ o.drop k).length = i + 1 := by have := HPP.out.length_eq; rw [idxs_len] at this; exact this
                  obtain ⟨g8, c8', hv8, hg81, hg82⟩ := HO8.out.addr (by rw [hnl8]; omega)
                  simp only [Value.slice.injEq] at hv8
                  obtain ⟨rfl, _, rfl⟩ := hv8
                  have hk8 : k + (i - k + 1) = i + 1 := by omega
                  have HRN := Lib.hid (show Rd PRow.E (w8.alloc (.cells #[.slice (some ⟨g8, 0, none⟩) (k + (i - k + 1)) c8] 27)) (some ⟨w8.heap.size, 0, none⟩) [⟨o.take k ++ [(i : Int)] ++ o.drop k, g8, c8⟩] from by
                    have := rd_new (E := PRow.E) w8 ⟨o.take k ++ [(i : Int)] ++ o.drop k, g8, c8⟩ 27 rfl
                    simp only [PRow.E, hnl8] at this
                    rw [hk8]
                    exact this)
                  have HPN := Lib.hid (show PR w8 (i + 1) ⟨o.take k ++ [(i : Int)] ++ o.drop k, g8, c8⟩ from ⟨HO8.out.rd, HPP.out, by have := HO8.out.cap.2.1; exact this, hg82⟩)
                  have HGA := Lib.hid (HG8.out.alloc (.cells #[.slice (some ⟨g8, 0, none⟩) (k + (i - k + 1)) c8] 27))
                  have HOA := Lib.hid ((HOW2.out.grew HG8.out).alloc (.cells #[.slice (some ⟨g8, 0, none⟩) (k + (i - k + 1)) c8] 27))
                  clear hk8
                  have hsep8 : (Value.slice T2 N2.length c2).ownBlock ≠ some g8 := fun e => by have := (HOW2.out.block g8 e).2; omega
                  refine wpAnyH_ready (rs := [19]) (by kernel_rfl) (by simp) ?_
                  refine (AllReadyH.cons (by simp only [List.getElem?_toArray, List.getElem?_cons_succ, List.getElem?_cons_zero]; rfl) (fun K hK => ?_) AllReadyH.nil)
                  go_simp
                  refine hK.out _ _ (HCS.out _ HGA.out) (fun hH => ?_)
                  clear hK K
                  (try simp only [Act.put, List.setIfInBounds_toArray, List.set_cons_zero, List.set_cons_succ])
                  refine wpAnyH_ready (rs := [20]) (by kernel_rfl) (by simp) ?_
                  refine (AllReadyH.cons (by simp only [List.getElem?_toArray, List.getElem?_cons_succ, List.getElem?_cons_zero]; rfl) (fun K hK => ?_) AllReadyH.nil)
                  refine step_append_rd _ rfl (.tmp 27) (.tmp 46) _ rfl sl_PRow wi.heap.size _ _ _ N2 rfl HOA.out _ _ _ [⟨o.take k ++ [(i : Int)] ++ o.drop k, g8, c8⟩] rfl rfl HRN.out (by simp only [List.length_cons, List.length_nil]; omega) (by have := HGR2.out.le; have := HGA.out.le; omega) ?_; intro A9 c9 w9 ho9 hgr9 hat9; have HO9 := Lib.hid ho9; have HGW := Lib.hid (((HGR2.out.trans HG8.out).alloc _).app HOA.out (Nat.le_refl _) hgr9); have HRR := Lib.hid (show ∀ x ∈ N2 ++ [⟨o.take k ++ [(i : Int)] ++ o.drop k, g8, c8⟩], PR w9 (i + 1) x ∧ (Value.slice A9 (N2.length + 1) c9).ownBlock ≠ some x.g from fun x hx => by (rcases List.mem_append.1 hx with hx | hx); (obtain ⟨q1, q2⟩ := HRO2.out x hx; have q3 := (q1.grew HGA.out); exact ⟨q3.kept hgr9 q2, ne_of_at hat9 q2 (by have := q3.2.2.2; omega)⟩); (obtain rfl : x = ⟨o.take k ++ [(i : Int)] ++ o.drop k, g8, c8⟩ := by simpa using hx); (have q3 := (HPN.out.grew ((Grew.refl _).alloc (.cells #[.slice (some ⟨g8, 0, none⟩) (k + (i - k + 1)) c8] 27))); exact ⟨q3.kept hgr9 hsep8, ne_of_at hat9 hsep8 (by have := q3.2.2.2; omega)⟩)); clear ho9 hgr9 hat9
                  refine hK.out _ _ (HCI.out _ HGW.out) (fun hH => ?_)
                  clear hK K
                  (try simp only [Act.put, List.setIfInBounds_toArray, List.set_cons_zero, List.set_cons_succ])
                  refine wpAnyH_take (i := 21) (v := ?_) (by simp only [List.getElem?_toArray, List.getElem?_cons_succ, List.getElem?_cons_zero]; rfl) (by kernel_rfl) (by kernel_rfl) (by kernel_rfl) (by intro _ _ _ h; exact h) (Or.inl ⟨by rfl, ?_⟩) hH ?_; rotate_left; · ((intro w hSw); (try dsimp only at hSw); go_simp; (try with_reducible rfl); done)
                  (try simp only [Act.put, List.setIfInBounds_toArray, List.set_cons_zero, List.set_cons_succ])
                  refine wpAnyH_done (by kernel_rfl) ?_ _
                  go_wp2_with fail
                  go_roundw
                  case rel => go_light; exact ⟨k + 1, N2 ++ [⟨o.take k ++ [(i : Int)] ++ o.drop k, g8, c8⟩], A9, c9, by omega, by go_num, by simp, HO9.out, HRR.out, by rw [List.length_append, HNL2.out]; rfl, HGW.out⟩
                  case measure => go_light; simp [intOf]; omega
              ·
                go_simp
                refine hK.out _ _ (HCS.out _ HGX.out) (fun hH => ?_)
                clear hK K
                (try simp only [Act.put, List.setIfInBounds_toArray, List.set_cons_zero, List.set_cons_succ])
                have HGXE := Lib.hid (HGX.out.alloc (.cells #[] 3))
                have HRXE := Lib.hid (HRX.out.grew ((Grew.refl _).alloc (.cells #[] 3)))
                have HOXE := Lib.hid (Own.new_ (E := IntS.E) (t := 3) (w := wq.drew.alloc (.cells #[.int .i64 i] 3)) (base := wq.heap.size) HGX.out.le)
                have hsz1 : (wq.drew.alloc (.cells #[.int .i64 i] 3)).heap.size = wq.heap.size + 1 := by simp
                rw [hsz1] at HOXE
                clear hsz1
                refine wpAnyH_ready (rs := [1]) (by kernel_rfl) (by simp) ?_
                refine (AllReadyH.cons (by simp only [List.getElem?_toArray, List.getElem?_cons_succ, List.getElem?_cons_zero]; rfl) (fun K hK => ?_) AllReadyH.nil)
                go_simp
                refine hK.out _ _ (HCS.out _ HGXE.out) (fun hH => ?_)
                clear hK K
                (try simp only [Act.put, List.setIfInBounds_toArray, List.set_cons_zero, List.set_cons_succ])
                refine wpAnyH_ready (rs := [8]) (by kernel_rfl) (by simp) ?_
                refine (AllReadyH.cons (by simp only [List.getElem?_toArray, List.getElem?_cons_succ, List.getElem?_cons_zero]; rfl) (fun K hK => ?_) AllReadyH.nil)
                refine step_append_rd _ rfl (.tmp 28) (.tmp 34) _ rfl sl_Int wq.heap.size _ _ _ ([] : List _) rfl HOXE.out _ _ _ (o.take k) rfl HT1.out.symm ((HSRC.out.grew HGXE.out).take k) (by rw [HT1.out]; simp only [List.length_nil]; omega) HGXE.out.le ?_; intro A5 c5 w5 ho5 hgr5 hat5; have HG5 := Lib.hid (HGXE.out.app (E := IntS.E) HOXE.out (Nat.le_refl _) hgr5); have HO5 := Lib.hid (show Own IntS.E 3 w5 wq.heap.size (.slice A5 k c5) (o.take k) by simpa using ho5); have HR6 := Lib.hid (HRXE.out.kept hgr5 (by intro b o e1 e2; simp only [Option.some.injEq, Addr.mk.injEq] at e1; simp [Value.ownBlock] at e2; have h9 : wq.drew.heap.size = wq.heap.size := rfl; omega)); clear ho5 hgr5 hat5
                refine hK.out _ _ (HCS.out _ HG5.out) (fun hH => ?_)
                clear hK K
                (try simp only [Act.put, List.setIfInBounds_toArray, List.set_cons_zero, List.set_cons_succ])
                (try simp only [Nat.zero_add])
                have HG6 := HG5
                have HO6 := HO5
                refine wpAnyH_ready (rs := [11]) (by kernel_rfl) (by simp) ?_
                refine (AllReadyH.cons (by simp only [List.getElem?_toArray, List.getElem?_cons_succ, List.getElem?_cons_zero]; rfl) (fun K hK => ?_) AllReadyH.nil)
                refine step_append_rd _ rfl (.tmp 35) (.tmp 37) _ rfl sl_Int wq.heap.size _ _ _ (o.take k) rfl HO6.out _ _ _ [(i : Int)] rfl rfl HR6.out (by rw [HT1.out]; simp only [List.length_cons, List.length_nil]; omega) HG6.out.le ?_; intro A7 c7 w7 ho7 hgr7 hat7; have HG7 := Lib.hid (HG6.out.app HO6.out (Nat.le_refl _) hgr7); have HO7 := Lib.hid ho7; clear ho7 hgr7 hat7
                refine hK.out _ _ (HCS.out _ HG7.out) (fun hH => ?_)
                clear hK K
                (try simp only [Act.put, List.setIfInBounds_toArray, List.set_cons_zero, List.set_cons_succ])
                refine wpAnyH_ready (rs := [18]) (by kernel_rfl) (by simp) ?_
                refine (AllReadyH.cons (by simp only [List.getElem?_toArray, List.getElem?_cons_succ, List.getElem?_cons_zero]; rfl) (fun K hK => ?_) AllReadyH.nil)
                refine step_append_rd _ rfl (.tmp 38) (.tmp 44) _ rfl sl_Int wq.heap.size _ _ _ (o.take k ++ [(i : Int)]) rfl HO7.out _ _ _ (o.drop k) rfl (by simp only [List.length_drop]; omega) (Rd.drop_at (HSRC.out.grew HG7.out) (by simp [IntS.E]) (by omega)) (by rw [List.length_append, HT1.out, List.length_drop]; simp only [List.length_cons, List.length_nil]; omega) HG7.out.le ?_; intro A8 c8 w8 ho8 hgr8 hat8; have HG8 := Lib.hid (HG7.out.app HO7.out (Nat.le_refl _) hgr8); have HO8 := Lib.hid ho8; clear ho8 hgr8 hat8
                refine hK.out _ _ (HCS.out _ HG8.out) (fun hH => ?_)
                clear hK K
                (try simp only [Act.put, List.setIfInBounds_toArray, List.set_cons_zero, List.set_cons_succ])
                have hk9 : k + 1 + (i - k) = i + 1 := by omega
                rw [hk9] at HO8
                have hnl8 : (o.take k ++ [(i : Int)] ++ o.drop k).length = i + 1 := by have := HPP.out.length_eq; rw [idxs_len] at this; exact this
                obtain ⟨g8, c8', hv8, hg81, hg82⟩ := HO8.out.addr (by rw [hnl8]; omega)
                simp only [Value.slice.injEq] at hv8
                obtain ⟨rfl, _, rfl⟩ := hv8
                have hk8 : k + (i - k + 1) = i + 1 := by omega
                have HRN := Lib.hid (show Rd PRow.E (w8.alloc (.cells #[.slice (some ⟨g8, 0, none⟩) (k + (i - k + 1)) c8] 27)) (some ⟨w8.heap.size, 0, none⟩) [⟨o.take k ++ [(i : Int)] ++ o.drop k, g8, c8⟩] from by
                  have := rd_new (E := PRow.E) w8 ⟨o.take k ++ [(i : Int)] ++ o.drop k, g8, c8⟩ 27 rfl
                  simp only [PRow.E, hnl8] at this
                  rw [hk8]
                  exact this)
                have HPN := Lib.hid (show PR w8 (i + 1) ⟨o.take k ++ [(i : Int)] ++ o.drop k, g8, c8⟩ from ⟨HO8.out.rd, HPP.out, by have := HO8.out.cap.2.1; exact this, hg82⟩)
                have HGA := Lib.hid (HG8.out.alloc (.cells #[.slice (some ⟨g8, 0, none⟩) (k + (i - k + 1)) c8] 27))
                have HOA := Lib.hid ((HOW2.out.grew HG8.out).alloc (.cells #[.slice (some ⟨g8, 0, none⟩) (k + (i - k + 1)) c8] 27))
                clear hk8
                have hsep8 : (Value.slice T2 N2.length c2).ownBlock ≠ some g8 := fun e => by have := (HOW2.out.block g8 e).2; omega
                refine wpAnyH_ready (rs := [19]) (by kernel_rfl) (by simp) ?_
                refine (AllReadyH.cons (by simp only [List.getElem?_toArray, List.getElem?_cons_succ, List.getElem?_cons_zero]; rfl) (fun K hK => ?_) AllReadyH.nil)
                go_simp
                refine hK.out _ _ (HCS.out _ HGA.out) (fun hH => ?_)
                clear hK K
                (try simp only [Act.put, List.setIfInBounds_toArray, List.set_cons_zero, List.set_cons_succ])
                refine wpAnyH_ready (rs := [20]) (by kernel_rfl) (by simp) ?_
                refine (AllReadyH.cons (by simp only [List.getElem?_toArray, List.getElem?_cons_succ, List.getElem?_cons_zero]; rfl) (fun K hK => ?_) AllReadyH.nil)
                refine step_append_rd _ rfl (.tmp 27) (.tmp 46) _ rfl sl_PRow wi.heap.size _ _ _ N2 rfl HOA.out _ _ _ [⟨o.take k ++ [(i : Int)] ++ o.drop k, g8, c8⟩] rfl rfl HRN.out (by simp only [List.length_cons, List.length_nil]; omega) (by have := HGR2.out.le; have := HGA.out.le; omega) ?_; intro A9 c9 w9 ho9 hgr9 hat9; have HO9 := Lib.hid ho9; have HGW := Lib.hid (((HGR2.out.trans HG8.out).alloc _).app HOA.out (Nat.le_refl _) hgr9); have HRR := Lib.hid (show ∀ x ∈ N2 ++ [⟨o.take k ++ [(i : Int)] ++ o.drop k, g8, c8⟩], PR w9 (i + 1) x ∧ (Value.slice A9 (N2.length + 1) c9).ownBlock ≠ some x.g from fun x hx => by (rcases List.mem_append.1 hx with hx | hx); (obtain ⟨q1, q2⟩ := HRO2.out x hx; have q3 := (q1.grew HGA.out); exact ⟨q3.kept hgr9 q2, ne_of_at hat9 q2 (by have := q3.2.2.2; omega)⟩); (obtain rfl : x = ⟨o.take k ++ [(i : Int)] ++ o.drop k, g8, c8⟩ := by simpa using hx); (have q3 := (HPN.out.grew ((Grew.refl _).alloc (.cells #[.slice (some ⟨g8, 0, none⟩) (k + (i - k + 1)) c8] 27))); exact ⟨q3.kept hgr9 hsep8, ne_of_at hat9 hsep8 (by have := q3.2.2.2; omega)⟩)); clear ho9 hgr9 hat9
                refine hK.out _ _ (HCI.out _ HGW.out) (fun hH => ?_)
                clear hK K
                (try simp only [Act.put, List.setIfInBounds_toArray, List.set_cons_zero, List.set_cons_succ])
                refine wpAnyH_take (i := 21) (v := ?_) (by simp only [List.getElem?_toArray, List.getElem?_cons_succ, List.getElem?_cons_zero]; rfl) (by kernel_rfl) (by kernel_rfl) (by kernel_rfl) (by intro _ _ _ h; exact h) (Or.inl ⟨by rfl, ?_⟩) hH ?_; rotate_left; · ((intro w hSw); (try dsimp only at hSw); go_simp; (try with_reducible rfl); done)
                (try simp only [Act.put, List.setIfInBounds_toArray, List.set_cons_zero, List.set_cons_succ])
                refine wpAnyH_done (by kernel_rfl) ?_ _
                go_wp2_with fail
                go_roundw
                case rel => go_light; exact ⟨k + 1, N2 ++ [⟨o.take k ++ [(i : Int)] ++ o.drop k, g8, c8⟩], A9, c9, by omega, by go_num, by simp, HO9.out, HRR.out, by rw [List.length_append, HNL2.out]; rfl, HGW.out⟩
                case measure => go_light; simp [intOf]; omega
            · obtain rfl : k = i + 1 := by omega
              have HMU := Lib.hid (show N2.length = (r + 1) * (i + 1) by rw [HNL2.out, HP.out, Nat.succ_mul])
              go_wp2_with fail
              go_roundw
              case rel => go_light; exact ⟨r + 1, N2, T2, c2, by omega, by go_num, rfl, HOW2.out, HRO2.out, HMU.out, HGR2.out⟩
              case measure => go_light; simp [intOf]; omega
        · obtain rfl : r = R.length := by omega
          have HMU := Lib.hid (show N.length = fct (i + 1) by rw [hnl, HRL.out]; rfl)
          go_wp2_with fail
          go_roundw
          case rel => go_light; exact ⟨i + 1, N, T, c, by omega, by go_num, rfl, HOW.out.rd, fun x hx => (HRO.out x hx).1, HMU.out, HG.out.trans HGR.out⟩
          case measure => go_light; simp [intOf]; omega
    · obtain rfl : i = n := by omega
      have hb : R.length ≤ 120 := by
        rw [hrl]
        have : ∀ j, j ≤ 5 → fct j ≤ 120 := fun j hj => by
          match j, hj with
          | 0, _ => decide
          | 1, _ => decide
          | 2, _ => decide
          | 3, _ => decide
          | 4, _ => decide
          | 5, _ => decide
          | j + 6, h => omega
        exact this i hn
      go_wp2_with fail
      go_ret
      go_light
      exact ⟨R, B, d, rfl, HRD.out, HPR.out, hb, HG.out⟩
end Go.Proofs.Ytfplgagdjdhopaa
