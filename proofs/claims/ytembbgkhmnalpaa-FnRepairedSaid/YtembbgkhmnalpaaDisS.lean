/- DispatchJobs of the reference returns what the plain function returns. Conditions: none. -/
import Derived.Test.YtembbgkhmnalpaaDisM
import Derived.Deep.RegionHeld3
namespace Go.Proofs.Ytembbgkhmnalpaa
open Go.RowKit Go.ChangeShapes Go.WideShapes Go.Deep
set_option linter.unusedVariables false
set_option linter.unusedSimpArgs false

theorem l22KeyE {x : Jr} {s : Nat} {r v : Int} (hv : keyF x.j s r = v) (w : World) (h : Rd Wk.E w x.A x.l) (hk : StOk x.l) (hs : s < x.l.length) :
    Calls Try.prog 43 #[x.v, .int .i64 s, .int .i64 r] w fun e w' => e = .returned (.int .i64 v) ∧ Grew w w' := hv ▸ l22Key_any x s r w h hk hs
set_option maxRecDepth 100000 in
set_option maxHeartbeats 16000000 in
theorem dispatch_spec (J : List Jb) (A : Option Addr) (c : Nat) (r : Int) (w : World) (h : RdJ w A J) (hs : JSm J) (hn : J.length ≤ 4194304) :
    Calls Try.prog 21 #[.slice A J.length c, .int .i64 r] w fun e w' => ∃ A' c', e = .returned (.tuple #[.slice A' (dispF J r).1.length c', .bool (dispF J r).2]) ∧ Own Slt.E 56 w' w.heap.size (.slice A' (dispF J r).1.length c') (dispF J r).1 ∧ Grew w w' := by
  have HL := Lib.hid h
  have HS := Lib.hid hs
  clear h hs
  cases ha : areJ J
  · have HF := Lib.hid (show dispF J r = ([], false) by simp [dispF, ha])
    have HA := Lib.hid ha
    clear ha
    go_enter Try.func21, Try.ntmps21
    go_wp2_with (first | (go_at_call 42; refine (areE_spec HA.out _ _ _ rfl _ HL.out HS.out hn).mono ?_; rintro e w1 ⟨rfl, h1⟩) | (go_at_call 34; refine (l1In_any _ _ _ _).mono ?_; rintro e w' ⟨rfl, rfl⟩))
    go_ret2
    go_light
    exact ⟨_, 0, by rw [HF.out]; rfl, by rw [HF.out]; exact Own.new_ h1.le, h1.alloc _⟩
  cases hr : inB r 0 2
  · have HF := Lib.hid (show dispF J r = ([], false) by simp [dispF, hr])
    have HA := Lib.hid ha
    clear ha
    go_enter Try.func21, Try.ntmps21
    go_wp2_with (first | (go_at_call 42; refine (areE_spec HA.out _ _ _ rfl _ HL.out HS.out hn).mono ?_; rintro e w1 ⟨rfl, h1⟩) | (go_at_call 34; refine (l1In_any _ _ _ _).mono ?_; rintro e w' ⟨rfl, rfl⟩))
    go_ret2
    go_light
    exact ⟨_, 0, by rw [HF.out]; rfl, by rw [HF.out]; exact Own.new_ h1.le, h1.alloc _⟩
  have HF := Lib.hid (show dispF J r = ((dsN J r (totJ J J.length)).out, true) by simp [dispF, ha, hr])
  have HA := Lib.hid ha
  have HJ := Lib.hid (areJ_at ha).2
  have hj6 : J.length ≤ 6 := (areJ_at ha).1
  have HT := Lib.hid (totJ_30 ha)
  obtain ⟨i1, hj0, hy0, hy1, hy2⟩ := info_parts info_int
  clear ha hn
  go_enter Try.func21, Try.ntmps21
  go_wp2_with (first
    | (go_at_call 42; refine (areE_spec HA.out _ _ _ rfl _ HL.out HS.out (by omega)).mono ?_; rintro e w1 ⟨rfl, h1⟩)
    | (go_at_call 34; refine (l1In_any _ _ _ _).mono ?_; rintro e w' ⟨rfl, rfl⟩)
    | (at_make; refine wpList_make_full _ rfl _ _ _ rfl (w1.heap.size + 1) 3 i1 _ 1 Try.underlying69 hj0 hy0 hy1 _ _ _ _ J.length rfl rfl rfl rfl (by rw [hy2]; omega) (by simp only [maxLen]; omega) (by simp) ?_; intro w2 hown2 hgr2))
  have HD0 := Lib.hid (show DM w (w2.alloc (.cells #[] 3)) ⟨List.replicate J.length 0, (J.map (·.rl)).take 0, []⟩ (.slice (some ⟨w1.heap.size, 0, none⟩) 0 0) (.slice (some ⟨w1.heap.size + 1, 0, none⟩) J.length J.length) (.slice (some ⟨w2.heap.size, 0, none⟩) 0 0) from by
    simp only [World.size_alloc] at hown2
    rw [zeros_cells] at hown2
    have hlt2 := (World.ownsRow.lt hown2 (w1.heap.size + 1) rfl).2
    have hg : Grew (w1.alloc (.cells #[] 56)) w2 := (Grew.refl _).grown hgr2 (by simp)
    have hs2 := hg.le
    simp only [World.size_alloc] at hs2
    have hw1 := h1.le
    refine ⟨((h1.alloc _).trans hg).alloc _, ((Own.new_ h1.le).grew hg).alloc _, ?_, Own.new_ (by omega), fun k e => ?_, fun k e => ?_⟩
    · have : Own IntS.E 3 w2 (w1.heap.size + 1) (.slice (some ⟨w1.heap.size + 1, 0, none⟩) J.length J.length) (List.replicate J.length (0 : Int)) := by
        unfold Own
        rw [List.length_replicate]
        exact hown2
      exact (this.mono (by omega)).alloc _
    · have : w1.heap.size = k := by simpa [Value.ownBlock] using e
      exact ⟨by simp [Value.ownBlock]; omega, by simp [Value.ownBlock]; omega⟩
    · have : w1.heap.size + 1 = k := by simpa [Value.ownBlock] using e
      simp [Value.ownBlock]; omega)
  clear h1 hown2 hgr2 hj0 hy0 hy1 hy2
  go_loopw [8, 9] (fun v i wr => ∃ (k : Nat) (B : Option Addr) (d : Nat), k ≤ J.length ∧ i = .int .i64 k ∧ v = .slice B k d ∧ DM w wr ⟨List.replicate J.length 0, (J.map (·.rl)).take k, []⟩ (.slice (some ⟨w1.heap.size, 0, none⟩) 0 0) (.slice (some ⟨w1.heap.size + 1, 0, none⟩) J.length J.length) v) (fun _ i _ => J.length - (intOf i).toNat)
  case atStart => exact ⟨0, _, _, Nat.zero_le _, rfl, rfl, HD0.out⟩
  case round =>
    obtain ⟨k, B, d, hk, rfl, rfl, hdm⟩ := hrel
    have HD := Lib.hid hdm
    clear hdm HD0
    by_cases hlt : k < J.length
    · obtain ⟨x, hx⟩ : ∃ x, J[k]? = some x := ⟨_, List.getElem?_eq_getElem hlt⟩
      obtain ⟨b, o, X, cx, rfl, hb, ⟨hc0, hc1, hc2⟩, hrd⟩ := (HL.out.grew HD.out.g).at_ hx
      have HSX := Lib.hid (show (J.map (·.rl)).take (k + 1) = (J.map (·.rl)).take k ++ [x.rl] by rw [List.take_add_one]; simp [hx])
      have HKL := Lib.hid (show ((J.map (·.rl)).take k).length = k by rw [List.length_take, List.length_map]; omega)
      clear hx hrd
      go_wp2_with (at_builtin; refine wpList_append_rd _ rfl (.tmp 36) (.tmp 42) _ rfl sl_Int w.heap.size _ _ _ ((J.map (·.rl)).take k) rfl (HD.out.or.alloc _) _ _ _ [x.rl] rfl rfl (rd_new (E := IntS.E) _ x.rl _ (by simp)) (by rw [HKL.out]; simp only [List.length_cons, List.length_nil]; omega) (by have := HD.out.g.le; simp; omega) ?_; intro A5 c5 w5 ho5 hgr5 hat5; have HD5 := Lib.hid ((HD.out.grew ((Grew.refl _).alloc _)).appR ho5 hgr5 hat5 (Nat.le_refl _)); clear ho5 hgr5 hat5)
      go_roundw
      case rel => go_light; exact ⟨k + 1, A5, c5, by omega, by go_num, rfl, by rw [HSX.out]; exact HD5.out⟩
      case measure => go_light; simp [intOf]; omega
    · obtain rfl : k = J.length := by omega
      have HD1 := Lib.hid (show DM w wr (dsN J r 0) (.slice (some ⟨w1.heap.size, 0, none⟩) 0 0) (.slice (some ⟨w1.heap.size + 1, 0, none⟩) J.length J.length) (.slice B J.length d) from by
        have := HD.out
        rw [List.take_of_length_le (by simp)] at this
        exact this)
      clear HD
      go_wp2_with fail
      obtain ⟨gn, hgn⟩ : ∃ g, g = w1.heap.size + 1 := ⟨_, rfl⟩
      rw [← hgn] at HD1 ⊢
      clear hgn
      go_loopw [6, 10, 11, 12, 13, 14, 15] (fun vo _ _ _ _ _ _ wr => ∃ m : Nat, m ≤ totJ J J.length ∧ DOk J m (dsN J r m) ∧ DM w wr (dsN J r m) vo (.slice (some ⟨gn, 0, none⟩) J.length J.length) (.slice B J.length d)) (fun vo _ _ _ _ _ _ _ => match vo with | .slice _ n _ => totJ J J.length - n | _ => 0)
      case atStart => exact ⟨0, Nat.zero_le _, ds0_ok HA.out, HD1.out⟩
      case round =>
        obtain ⟨m, hm, hok, hdm⟩ := hrel
        have HOK := Lib.hid hok
        have HD := Lib.hid hdm
        obtain ⟨BO, dO, rfl⟩ := hdm.oo.slice
        clear hok hdm HD1
        have HM := Lib.hid hm
        have hm30 : m ≤ 30 := Nat.le_trans hm HT.out
        clear hm
        obtain ⟨s, hs⟩ : ∃ s, s = dsN J r m := ⟨_, rfl⟩
        have HSD := Lib.hid hs
        rw [← hs] at HOK HD ⊢
        clear hs
        have HLO := Lib.hid HOK.out.lo
        obtain ⟨wt, hwt⟩ : ∃ x : World, x = wr := ⟨_, rfl⟩
        subst hwt
        go_wp2_with fail
        go_loopw [10, 11, 12, 13, 14] (fun bv sv i _ _ wr2 => ∃ k : Nat, k ≤ J.length ∧ i = .int .i64 k ∧ bv = .int .i64 (bstT J r s k).1 ∧ sv = .int .i64 (bstT J r s k).2 ∧ Grew wt wr2) (fun _ _ i _ _ _ => J.length - (intOf i).toNat)
        case atStart => exact ⟨0, Nat.zero_le _, rfl, rfl, rfl, Grew.refl _⟩
        case round =>
          obtain ⟨k, hk, rfl, rfl, rfl, hg⟩ := hrel
          have HG := Lib.hid hg
          clear hg
          have HBK := Lib.hid (bst_ok (r := r) HOK.out k hk)
          have HBS := Lib.hid (show bstT J r s (k + 1) = if doneB J s k = true then bstT J r s k else if btr J r s k (bstT J r s k) = true then ((k : Int), tF J s k) else bstT J r s k from rfl)
          by_cases hlt : k < J.length
          · obtain ⟨x, hx⟩ : ∃ x, J[k]? = some x := ⟨_, List.getElem?_eq_getElem hlt⟩
            obtain ⟨b, o, X, cx, rfl, hb, ⟨hc0, hc1, hc2⟩, hrd⟩ := (HL.out.grew (HD.out.g.trans HG.out)).at_ hx
            have HRX := Lib.hid hrd
            have HDG := Lib.hid (HD.out.grew HG.out)
            have hnk := HOK.out.nx_ hlt
            have ex : J.getD k jb0 = x := by simp [List.getD_eq_getElem?_getD, hx]
            rw [ex] at hnk
            have hcn := IntS.cell_ HDG.out.on hnk.1
            have HSO := Lib.hid (HJ.out k x hx).2.2
            have hx5 := HSO.out.1
            obtain ⟨n, hnn⟩ : ∃ n, n = nxF s k := ⟨_, rfl⟩
            rw [← hnn] at hnk hcn
            have hnl := hnk.2
            have hi1 : (k : Int) < (J.length : Int) := by omega
            have HX := Lib.hid hx
            have HNN := Lib.hid hnn
            have HDB := Lib.hid (show doneB J s k = decide (n = x.st.length) by unfold doneB; rw [ex, ← hnn])
            have HEX := Lib.hid ex
            clear hx hrd hnk hnn ex
            obtain ⟨bst, hbst⟩ : ∃ b, b = bstT J r s k := ⟨_, rfl⟩
            rw [← hbst] at HBK HBS ⊢
            have HBST := Lib.hid hbst
            clear hbst
            obtain ⟨bi, bt⟩ := bst
            have hbl := HBK.out.lo
            have hbt := HBK.out.tb
            simp only at hbl hbt
            by_cases hdn : n = x.st.length
            · have hde : ((n : Int) == (x.st.length : Int)) = true := by simp [hdn]
              have HE := Lib.hid (show bstT J r s (k + 1) = (bi, bt) by rw [HBS.out, HDB.out]; simp [hdn])
              clear hdn
              go_wp2_with fail
              go_region
              go_wp2_with fail
              go_roundw
              case rel => go_light; exact ⟨k + 1, by omega, by go_num, by rw [HE.out], by rw [HE.out], HG.out.drew⟩
              case measure => go_light; simp [intOf]; omega
            · have hde : ((n : Int) == (x.st.length : Int)) = false := by simp; omega
              have hnl2 : n < x.st.length := by omega
              have HND := Lib.hid (show doneB J s k = false by rw [HDB.out]; simp [hdn])
              clear hdn hnl
              go_wp2_with fail
              go_region
              obtain ⟨y, hy⟩ : ∃ y, x.st[n]? = some y := ⟨_, List.getElem?_eq_getElem hnl2⟩
              have hyw : wkF J s k = y := by unfold wkF; rw [HEX.out, ← HNN.out]; simp [List.getD_eq_getElem?_getD, hy]
              obtain ⟨v, hv, hv0, hv1⟩ := HOK.out.rb k hlt
              have HTV := Lib.hid (show tF J s k = max v (frF s.out y.ce) by unfold tF; rw [hyw]; simp [List.getD_eq_getElem?_getD, hv])
              have HYB := Lib.hid (HSO.out.2 n y hy)
              have HFB := Lib.hid (fun kk => frT_b (out := s.out) (ce := y.ce) (B := 100000 + 1000 * (m : Int)) (by omega) HOK.out.ob kk)
              have HY := Lib.hid hy
              have hcv := HDG.out.or.rd
              obtain ⟨br, orr, rfl, hcr⟩ := Int.cell0 hcv hv
              have HCR := Lib.hid hcr
              have HDGD := Lib.hid (HDG.out.grew ((Grew.refl wr).drew))
              have hcrd : wr.drew.cell? ⟨br, orr + k, none⟩ = some (.int .i64 v) := hcr
              have hmax : max v 0 = v := by omega
              have HLOm := HLO.out
              have hol : s.out.length ≤ 30 := by omega
              clear hyw hv hcv hcr hy HLOm
              go_wp2_with fail
              obtain ⟨wu, hwu⟩ : ∃ x : World, x = wr := ⟨_, rfl⟩
              subst hwu
              go_loopw [13, 14] (fun tv i wr3 => ∃ q : Nat, q ≤ s.out.length ∧ i = .int .i64 q ∧ tv = .int .i64 (max v (frT s.out y.ce q)) ∧ Grew wu wr3) (fun _ i _ => s.out.length - (intOf i).toNat)
              case atStart => exact ⟨0, Nat.zero_le _, rfl, by rw [show frT s.out y.ce 0 = 0 from rfl, hmax], (Grew.refl _).drew⟩
              case round =>
                obtain ⟨q, hq, rfl, rfl, hg3⟩ := hrel
                have HG3 := Lib.hid hg3
                clear hg3
                have hfb := HFB.out q hq
                by_cases hql : q < s.out.length
                · obtain ⟨z, hz⟩ : ∃ z, s.out[q]? = some z := ⟨_, List.getElem?_eq_getElem hql⟩
                  have HD3 := Lib.hid (HDG.out.grew HG3.out)
                  obtain ⟨bo, oo, rfl, hbo, hco⟩ := HD3.out.oo.rd.at_ hql
                  obtain ⟨ho0, ho1, ho2, ho3, ho4⟩ := Slt.at_ hco hz
                  have hzb := HOK.out.ob z (List.mem_of_getElem? hz)
                  obtain ⟨b2, o2, X2, cx2, e2, hb2, ⟨hd0, hd1, hd2⟩, hrd2⟩ := (HL.out.grew HD3.out.g).at_ HX.out
                  simp only [Option.some.injEq, Addr.mk.injEq, and_true] at e2
                  obtain ⟨rfl, rfl⟩ := e2
                  have hcn2 := IntS.cell_ HD3.out.on (HNN.out ▸ (HOK.out.nx_ hlt).1)
                  obtain ⟨b3, o3, rfl, hb3, hcw⟩ := hrd2.at_ hnl2
                  obtain ⟨hw0, hw1⟩ := Wk.at_ hcw HY.out
                  have HFS := Lib.hid (show frT s.out y.ce (q + 1) = if z.ce.toList = y.ce.toList then max (frT s.out y.ce q) z.en else frT s.out y.ce q by simp [frT, List.getD_eq_getElem?_getD, hz])
                  have hi2 : (q : Int) < (s.out.length : Int) := by omega
                  have hi3 : (n : Int) < (x.st.length : Int) := by omega
                  obtain ⟨zj, zs, zc, zst, zen⟩ := z
                  simp only at *
                  clear hz hco hrd2 hcw
                  by_cases hce : zc.toList = y.ce.toList
                  · have hcb : (zc.toList == y.ce.toList) = true := by simpa using hce
                    have HFS2 := Lib.hid (HFS.out.trans (if_pos hce))
                    have ho4d : wr.drew.cell? ⟨bo, oo + q * 5 + 4, none⟩ = some (.int .i64 zen) := ho4
                    clear hce
                    generalize frT s.out y.ce q = fq at *
                    go_wp2_with fail
                    go_region
                    go_wp2_with fail
                    all_goals
                      go_roundw
                      case rel => go_light; exact ⟨q + 1, by omega, by go_num, congrArg (Value.int .i64) (by rw [HFS2.out]; omega), HG3.out.drew⟩
                      case measure => go_light; simp [intOf]; omega
                  · have hcb : (zc.toList == y.ce.toList) = false := by simpa using hce
                    have HFS2 := Lib.hid (HFS.out.trans (if_neg hce))
                    clear hce
                    generalize frT s.out y.ce q = fq at *
                    go_wp2_with fail
                    go_region
                    go_wp2_with fail
                    go_roundw
                    case rel => go_light; exact ⟨q + 1, by omega, by go_num, by rw [HFS2.out], HG3.out.drew⟩
                    case measure => go_light; simp [intOf]; omega
                · obtain rfl : q = s.out.length := by omega
                  have HTE := Lib.hid (show tF J s k = max v (frT s.out y.ce s.out.length) from HTV.out)
                  have htb := HOK.out.t_ hlt
                  rw [← HTE.out]
                  obtain ⟨t, ht⟩ : ∃ t, t = tF J s k := ⟨_, rfl⟩
                  have HT2 := Lib.hid ht
                  have HBTR := Lib.hid (show btr J r s k (bi, bt) = (decide (bi < 0) || (decide (t < bt) || (decide (t = bt) && decide (kyF J r s k < kyF J r s bi.toNat)))) by rw [ht]; rfl)
                  have HBS2 := Lib.hid (show bstT J r s (k + 1) = if btr J r s k (bi, bt) = true then ((k : Int), t) else (bi, bt) by rw [HBS.out, HND.out, ht]; rfl)
                  rw [← ht] at htb ⊢
                  have HD3 := Lib.hid (HDG.out.grew HG3.out)
                  have HGG := Lib.hid (HG.out.trans HG3.out).drew
                  clear ht
                  have close : ∀ (b : Int × Int), bstT J r s (k + 1) = b → True := fun _ _ => trivial
                  clear close
                  by_cases hb0 : bi < 0
                  · have hd0 : decide (bi < 0) = true := decide_eq_true hb0
                    have HE := Lib.hid (show bstT J r s (k + 1) = ((k : Int), t) by rw [HBS2.out, HBTR.out, hd0]; rfl)
                    go_wp2_with fail
                    go_region
                    go_wp2_with fail
                    go_roundw
                    case rel => go_light; exact ⟨k + 1, by omega, by go_num, by rw [HE.out], by rw [HE.out], HGG.out⟩
                    case measure => go_light; simp [intOf]; omega
                  have hd0 : decide (bi < 0) = false := decide_eq_false hb0
                  by_cases hb1 : t < bt
                  · have hd1 : decide (t < bt) = true := decide_eq_true hb1
                    have HE := Lib.hid (show bstT J r s (k + 1) = ((k : Int), t) by rw [HBS2.out, HBTR.out, hd0, hd1]; rfl)
                    go_wp2_with fail
                    go_region
                    go_wp2_with fail
                    go_roundw
                    case rel => go_light; exact ⟨k + 1, by omega, by go_num, by rw [HE.out], by rw [HE.out], HGG.out⟩
                    case measure => go_light; simp [intOf]; omega
                  have hd1 : decide (t < bt) = false := decide_eq_false hb1
                  by_cases hb2 : t = bt
                  · subst hb2
                    obtain ⟨p, rfl⟩ := Int.eq_ofNat_of_zero_le (show 0 ≤ bi by omega)
                    have hpl : p < J.length := by omega
                    have hpd := (HBK.out.nd (by simp only; omega)).1
                    simp only [Int.toNat_natCast] at hpd
                    obtain ⟨z, hz⟩ : ∃ z, J[p]? = some z := ⟨_, List.getElem?_eq_getElem hpl⟩
                    have ez : J.getD p jb0 = z := by simp [List.getD_eq_getElem?_getD, hz]
                    have hnb := not_done HOK.out hpl hpd
                    rw [ez] at hnb
                    have hnp := HOK.out.nx_ hpl
                    obtain ⟨nb, hnbe⟩ : ∃ q, q = nxF s p := ⟨_, rfl⟩
                    rw [← hnbe] at hnb hnp
                    obtain ⟨b2, o2, X2, cx2, e2, hb2, hd, hrd2⟩ := (HL.out.grew HD3.out.g).at_ HX.out
                    simp only [Option.some.injEq, Addr.mk.injEq, and_true] at e2
                    obtain ⟨rfl, rfl⟩ := e2
                    obtain ⟨b2, o2, Z2, cz2, e2, _, he, hrz2⟩ := (HL.out.grew HD3.out.g).at_ hz
                    simp only [Option.some.injEq, Addr.mk.injEq, and_true] at e2
                    obtain ⟨rfl, rfl⟩ := e2
                    have hcn2 := IntS.cell_ HD3.out.on (HNN.out ▸ (HOK.out.nx_ hlt).1)
                    have hcn3 := IntS.cell_ HD3.out.on hnp.1
                    have hgnl := (HD3.out.on.block gn rfl).2
                    obtain ⟨K1, hK1⟩ : ∃ v, v = kyF J r s k := ⟨_, rfl⟩
                    obtain ⟨K2, hK2⟩ : ∃ v, v = kyF J r s p := ⟨_, rfl⟩
                    have HKX := Lib.hid (show keyF (Jr.j ⟨x.rl, x.du, x.st, X2, cx2⟩) n r = K1 by rw [hK1]; unfold kyF; rw [HEX.out, ← HNN.out]; rfl)
                    have HKZ := Lib.hid (show keyF (Jr.j ⟨z.rl, z.du, z.st, Z2, cz2⟩) nb r = K2 by rw [hK2]; unfold kyF; rw [ez, ← hnbe]; rfl)
                    have HBTR2 := Lib.hid (show btr J r s k ((p : Int), t) = decide (K1 < K2) by rw [HBTR.out, hd0, hd1, hK1, hK2]; simp)
                    have HZO := Lib.hid (HJ.out p z hz).2.2
                    have HRX2 := Lib.hid hrd2
                    have HRZ2 := Lib.hid hrz2
                    have HCS := Lib.hid (fun (w' : World) (hw : Grew wr w') => show (w'.cell? ⟨b, o + k * 3, none⟩ = some (.int .i64 x.rl) ∧ w'.cell? ⟨b, o + k * 3 + 1, none⟩ = some (.int .i64 x.du) ∧ w'.cell? ⟨b, o + k * 3 + 2, none⟩ = some (.slice X2 x.st.length cx2)) ∧ (w'.cell? ⟨b, o + p * 3, none⟩ = some (.int .i64 z.rl) ∧ w'.cell? ⟨b, o + p * 3 + 1, none⟩ = some (.int .i64 z.du) ∧ w'.cell? ⟨b, o + p * 3 + 2, none⟩ = some (.slice Z2 z.st.length cz2)) ∧ w'.cell? ⟨gn, k, none⟩ = some (.int .i64 n) ∧ w'.cell? ⟨gn, p, none⟩ = some (.int .i64 nb) from
                      ⟨⟨(hw.rules.1 _ _ hb2).trans hd.1, (hw.rules.1 _ _ hb2).trans hd.2.1, (hw.rules.1 _ _ hb2).trans hd.2.2⟩, ⟨(hw.rules.1 _ _ hb2).trans he.1, (hw.rules.1 _ _ hb2).trans he.2.1, (hw.rules.1 _ _ hb2).trans he.2.2⟩, (hw.rules.1 _ _ hgnl).trans hcn2, (hw.rules.1 _ _ hgnl).trans hcn3⟩)
                    have HGD := Lib.hid ((Grew.refl wr).drew)
                    have heq : (t == t) = true := by simp
                    have hp1 : (p : Int) < (J.length : Int) := by omega
                    have hp2 : (0 : Int) ≤ (p : Int) := by omega
                    clear hz ez hnp hnbe hd he hrd2 hrz2 hcn2 hcn3 hK1 hK2 hpd
                    cases hdk : decide (K1 < K2)
                    all_goals
                      have HDK := Lib.hid hdk
                      go_wp2_with fail
                      go_region_held3 (fun w' => (w'.cell? ⟨b, o + k * 3, none⟩ = some (.int .i64 x.rl) ∧ w'.cell? ⟨b, o + k * 3 + 1, none⟩ = some (.int .i64 x.du) ∧ w'.cell? ⟨b, o + k * 3 + 2, none⟩ = some (.slice X2 x.st.length cx2)) ∧ (w'.cell? ⟨b, o + p * 3, none⟩ = some (.int .i64 z.rl) ∧ w'.cell? ⟨b, o + p * 3 + 1, none⟩ = some (.int .i64 z.du) ∧ w'.cell? ⟨b, o + p * 3 + 2, none⟩ = some (.slice Z2 z.st.length cz2)) ∧ w'.cell? ⟨gn, k, none⟩ = some (.int .i64 n) ∧ w'.cell? ⟨gn, p, none⟩ = some (.int .i64 nb))
                        (first | (with_reducible exact HCS.out _ HGD.out) | (with_reducible exact HCS.out _ HG4.out) | (with_reducible exact HCS.out _ HG5.out))
                        (first
                          | (go_at_call 43; (with_reducible refine (l22KeyE HKX.out _ (HRX2.out.grew HGD.out) HSO.out hnl2).mono ?_); rintro e w4 ⟨rfl, h4⟩; have HG4 := Lib.hid (HGD.out.trans h4); clear h4)
                          | (go_at_call 43; (with_reducible refine (l22KeyE HKZ.out _ (HRZ2.out.grew HG4.out) HZO.out hnb).mono ?_); rintro e w5 ⟨rfl, h5⟩; have HG5 := Lib.hid (HG4.out.trans h5); clear h5))
                      go_wp2_with fail
                    · have HE := Lib.hid (show bstT J r s (k + 1) = ((p : Int), t) by rw [HBS2.out, HBTR2.out, HDK.out]; rfl)
                      go_roundw
                      case rel => go_light; exact ⟨k + 1, by omega, by go_num, by rw [HE.out], by rw [HE.out], (HG.out.trans HG3.out).trans HG5.out⟩
                      case measure => go_light; simp [intOf]; omega
                    · have HE := Lib.hid (show bstT J r s (k + 1) = ((k : Int), t) by rw [HBS2.out, HBTR2.out, HDK.out]; rfl)
                      go_roundw
                      case rel => go_light; exact ⟨k + 1, by omega, by go_num, by rw [HE.out], by rw [HE.out], (HG.out.trans HG3.out).trans HG5.out⟩
                      case measure => go_light; simp [intOf]; omega
                  · have hd2 : (t == bt) = false := by simpa using hb2
                    have HE := Lib.hid (show bstT J r s (k + 1) = (bi, bt) by rw [HBS2.out, HBTR.out, hd0, hd1, decide_eq_false hb2]; rfl)
                    go_wp2_with fail
                    go_region
                    go_wp2_with fail
                    go_roundw
                    case rel => go_light; exact ⟨k + 1, by omega, by go_num, by rw [HE.out], by rw [HE.out], HGG.out⟩
                    case measure => go_light; simp [intOf]; omega
          · obtain rfl : k = J.length := by omega
            have HBS2 := Lib.hid HBS.out
            obtain ⟨bst, hbst⟩ : ∃ b, b = bstT J r s J.length := ⟨_, rfl⟩
            rw [← hbst] at HBK ⊢
            have HBST := Lib.hid hbst
            clear hbst HBS HBS2
            obtain ⟨bi, bt⟩ := bst
            have hbl := HBK.out.lo
            have hbt := HBK.out.tb
            simp only at hbl hbt
            have HDG := Lib.hid (HD.out.grew HG.out)
            by_cases hb0 : bi < 0
            · have hd0 : decide (bi < 0) = true := decide_eq_true hb0
              have HFE := Lib.hid (show dispF J r = (s.out, true) by
                rw [HF.out, disp_end (m := m) (by rw [← HSD.out, ← HBST.out]; exact hb0) HM.out, ← HSD.out])
              go_wp2_with fail
              go_ret2
              go_light
              exact ⟨BO, dO, by rw [HFE.out]; rfl, by rw [HFE.out]; exact HDG.out.oo, HDG.out.g⟩
            · have hd0 : decide (bi < 0) = false := decide_eq_false hb0
              obtain ⟨p, rfl⟩ := Int.eq_ofNat_of_zero_le (show 0 ≤ bi by omega)
              have hpl : p < J.length := by omega
              have hpd := HBK.out.nd (by simp only; omega)
              simp only [Int.toNat_natCast] at hpd
              have HPO := put_ok HA.out HOK.out hpl hpd.1 hbt
              have HSTEP := Lib.hid (show dsN J r (m + 1) = putF J s p bt by
                show stepF J r (dsN J r m) = _
                rw [← HSD.out]
                unfold stepF
                rw [← HBST.out, if_neg hb0]
                rfl)
              have HPK := Lib.hid HPO.1
              have HMT := Lib.hid HPO.2
              obtain ⟨z, hz⟩ : ∃ z, J[p]? = some z := ⟨_, List.getElem?_eq_getElem hpl⟩
              have ez : J.getD p jb0 = z := by simp [List.getD_eq_getElem?_getD, hz]
              have hnb := not_done HOK.out hpl hpd.1
              rw [ez] at hnb
              have hnp := (HOK.out.nx_ hpl).1
              obtain ⟨y, hy⟩ : ∃ y, z.st[nxF s p]? = some y := ⟨_, List.getElem?_eq_getElem hnb⟩
              have hyw : wkF J s p = y := by unfold wkF; rw [ez]; simp [List.getD_eq_getElem?_getD, hy]
              have HPUT := Lib.hid (show putF J s p bt = ⟨s.nx.set p ((nxF s p : Int) + 1), s.rd.set p (bt + y.mi), s.out ++ [⟨(p : Int), (nxF s p : Int), y.ce, bt, bt + y.mi⟩]⟩ by unfold putF; rw [hyw])
              obtain ⟨nb, hnbe⟩ : ∃ q, q = nxF s p := ⟨_, rfl⟩
              rw [← hnbe] at hnb hnp hy HPUT
              obtain ⟨v, hv, hv0, hv1⟩ := HOK.out.rb p hpl
              have HYB := Lib.hid ((HJ.out p z hz).2.2.2 nb y hy)
              have hyb1 := HYB.out.1
              have hyb2 := HYB.out.2.1
              obtain ⟨b, o, Z2, cz2, rfl, hb2, ⟨hc0, hc1, hc2⟩, hrz⟩ := (HL.out.grew HDG.out.g).at_ hz
              obtain ⟨b3, o3, rfl, hb3, hcw⟩ := hrz.at_ hnb
              obtain ⟨hw0, hw1⟩ := Wk.at_ hcw hy
              have hcn := IntS.cell_ HDG.out.on hnp
              have hgnl := (HDG.out.on.block gn rfl).2
              have HNP := Lib.hid hnp
              have HV := Lib.hid hv
              have hp1 : (p : Int) < (J.length : Int) := by omega
              have hp2 : (0 : Int) ≤ (p : Int) := by omega
              have hp3 : (nb : Int) < (z.st.length : Int) := by omega
              have hz5 := (HJ.out p z hz).2.2.1
              have hnb5 : nb ≤ 5 := by omega
              have HLOm := HLO.out
              have hol : s.out.length ≤ 30 := by omega
              clear hz ez hyw hnbe hv hnp hrz hcw hy HLOm hpd HPO
              obtain ⟨ce, mi⟩ := y
              simp only at *
              go_wp2_with fail
              go_region
              have HGA := Lib.hid (show Grew wr (wr.alloc (.cells #[.string ce, .int .i64 mi] 74)).drew from ((Grew.refl wr).alloc _).drew)
              have HDA := Lib.hid (HDG.out.grew HGA.out)
              have hwc0 : (wr.alloc (.cells #[.string ce, .int .i64 mi] 74)).drew.cell? ⟨wr.heap.size, 0, none⟩ = some (.string ce) := by simp
              have hwc1 : (wr.alloc (.cells #[.string ce, .int .i64 mi] 74)).drew.cell? ⟨wr.heap.size, 1, none⟩ = some (.int .i64 mi) := by simp
              have hbw : wr.heap.size < (wr.alloc (.cells #[.string ce, .int .i64 mi] 74)).drew.heap.size := by simp
              obtain ⟨gr, dr, hvr, hgr0, hgr1⟩ := HDA.out.or.addr (by rw [HOK.out.lr]; omega)
              rw [HOK.out.lr] at hvr
              simp only [Value.slice.injEq, true_and] at hvr
              obtain ⟨rfl, rfl⟩ := hvr
              have HOB := Lib.hid (show (Value.slice BO s.out.length dO).ownBlock ≠ some wr.heap.size from fun e => by have := (HDG.out.oo.block _ e).2; omega)
              obtain ⟨bw, hbwe⟩ : ∃ x, x = wr.heap.size := ⟨_, rfl⟩
              rw [← hbwe] at hwc0 hwc1 hbw HOB ⊢
              clear hbwe hc0 hc1 hc2 hw0 hw1 HDG HBK
              have hcnA := IntS.cell_ HDA.out.on HNP.out
              have hgnA := (HDA.out.on.block gn rfl).2
              generalize (wr.alloc (.cells #[.string ce, .int .i64 mi] 74)).drew = wa at *
              have HON := Lib.hid (show (Value.slice BO s.out.length dO).ownBlock ≠ some gn from fun e => (HDA.out.s1 gn e).1 rfl)
              have hwrap : IntKind.i64.wrap (bt + mi) = bt + mi := IntWalk.i64_in _ (by omega)
              have HCS := Lib.hid (fun (w' : World) (hw : Grew wa w') => show w'.cell? ⟨gn, p, none⟩ = some (.int .i64 nb) ∧ w'.cell? ⟨bw, 0, none⟩ = some (.string ce) ∧ w'.cell? ⟨bw, 1, none⟩ = some (.int .i64 mi) from
                ⟨(hw.rules.1 _ _ hgnA).trans hcnA, (hw.rules.1 _ _ hbw).trans hwc0, (hw.rules.1 _ _ hbw).trans hwc1⟩)
              have HGD := Lib.hid ((Grew.refl wa).drew)
              have hsA := HDA.out.g.le
              go_wp2_with fail
              go_region_held3 (fun w' => w'.cell? ⟨gn, p, none⟩ = some (.int .i64 nb) ∧ w'.cell? ⟨bw, 0, none⟩ = some (.string ce) ∧ w'.cell? ⟨bw, 1, none⟩ = some (.int .i64 mi))
                (first | (with_reducible exact HCS.out _ HGD.out) | (with_reducible exact HCS.out _ (HGD.out.alloc _)) | (with_reducible exact HCS.out _ ((Grew.refl _).alloc _).drew) | (with_reducible exact HC5.out))
                ((refine step_append_rd _ rfl (.tmp 147) (.tmp 161) _ rfl sl_Slt w.heap.size _ _ _ s.out rfl (Own.alloc HDA.out.oo _) _ _ _ [⟨(p : Int), (nb : Int), ce, bt, bt + mi⟩] rfl rfl (rd_new (E := Slt.E) _ ⟨(p : Int), (nb : Int), ce, bt, bt + mi⟩ _ rfl) (by simp only [List.length_cons, List.length_nil]; omega) (by simp; omega) ?_; intro A5 c5 w5 ho5 hgr5 hat5; have HD5 := Lib.hid ((HDA.out.grew (((Grew.refl _).alloc _).drew)).app ho5 hgr5 hat5 (Nat.le_refl _)); have HC5 := Lib.hid (show w5.cell? ⟨gn, p, none⟩ = some (.int .i64 nb) ∧ w5.cell? ⟨bw, 0, none⟩ = some (.string ce) ∧ w5.cell? ⟨bw, 1, none⟩ = some (.int .i64 mi) from ⟨(World.cell?_of_block (hgr5.block gn (by simp; omega) (Ne.symm HON.out))).trans (HCS.out _ (((Grew.refl _).alloc _).drew)).1, (World.cell?_of_block (hgr5.block bw (by simp; omega) (Ne.symm HOB.out))).trans (HCS.out _ (((Grew.refl _).alloc _).drew)).2.1, (World.cell?_of_block (hgr5.block bw (by simp; omega) (Ne.symm HOB.out))).trans (HCS.out _ (((Grew.refl _).alloc _).drew)).2.2⟩); clear ho5 hgr5 hat5))
              have HN5 := Lib.hid (IntS.cell_ HD5.out.on HNP.out)
              have hw51 := HC5.out.2.2
              have hr5 := IntS.cell_ HD5.out.or HV.out
              have hfr5 := HD5.out.or.frozen
              have HD6 := Lib.hid (HD5.out.setR (y := bt + mi) HV.out)
              have hn6 := IntS.cell_ HD6.out.on HNP.out
              have hfn6 := HD6.out.on.frozen
              have HD7 := Lib.hid (HD6.out.setN (y := (nb : Int) + 1) HNP.out)
              go_wp2_with fail
              go_roundw
              case rel =>
                go_light
                exact ⟨m + 1, HMT.out, by rw [HSTEP.out]; exact HPK.out, by rw [HSTEP.out, HPUT.out]; exact HD7.out⟩
              case measure => go_light; simp; have := HMT.out; have := HLO.out; omega
end Go.Proofs.Ytembbgkhmnalpaa
