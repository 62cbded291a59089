/- IsSchedule of the reference returns what the plain function returns. Conditions: none. -/
import Derived.Test.YtembbgkhmnalpaaIsS
namespace Go.Proofs.Ytembbgkhmnalpaa
open Go.RowKit Go.ChangeShapes Go.WideShapes Go.Deep
set_option linter.unusedVariables false
set_option linter.unusedSimpArgs false

theorem inE_spec {n a b : Int} {v : Bool} (hv : inB n a b = v) (w : World) :
    Calls Try.prog 34 #[.int .i64 n, .int .i64 a, .int .i64 b] w fun e w' => e = .returned (.bool v) ∧ w = w' := hv ▸ l1In_any n a b w

set_option maxRecDepth 100000 in
set_option maxHeartbeats 16000000 in
theorem isSchedule_spec (J : List Jb) (A : Option Addr) (c : Nat) (L : List Slt) (B : Option Addr) (d : Nat) (w : World) (h : RdJ w A J) (hs : JSm J) (hn : J.length ≤ 4194304) (hr : Rd Slt.E w B L) (hl : L.length ≤ 4194304) :
    Calls Try.prog 32 #[.slice A J.length c, .slice B L.length d] w fun e w' => e = .returned (.bool (schB J L)) ∧ Grew w w' := by
  have HL := Lib.hid h
  have HS := Lib.hid hs
  have HR := Lib.hid hr
  clear h hs hr
  cases ha : areJ J
  · have HF := Lib.hid (show schB J L = false by simp [schB, ha])
    have HA := Lib.hid ha
    clear ha
    go_enter Try.func32, Try.ntmps32
    go_wp2_with fail
    go_loopw [5, 6] (fun s i wr => s = .int .i64 0 ∧ i = .int .i64 0 ∧ Grew w wr) (fun _ _ _ => 0)
    case atStart => exact ⟨rfl, rfl, Grew.refl _⟩
    case round =>
      obtain ⟨rfl, rfl, hg⟩ := hrel
      have HG := Lib.hid hg
      clear hg
      by_cases h0 : 0 < J.length
      all_goals
        have hi0 : decide ((0 : Int) < (J.length : Int)) = decide (0 < J.length) := by simp
        go_wp2_with (go_at_call 42; refine (areE_spec HA.out _ _ _ rfl _ (HL.out.grew (HG.out.trans (by (repeat (with_reducible first | exact Grew.refl _ | assumption | apply Grew.alloc | apply Grew.drew | apply Grew.drewN | (refine Grew.setCell ?_ (by simp; try omega) _) | (refine Grew.trans ?_ (by assumption))))))) HS.out (by omega)).mono ?_; rintro e w1 ⟨rfl, h1⟩)
        go_ret
        go_light
        exact ⟨ret_bool HF.out.symm, by first | exact HG.out.trans (by (repeat (with_reducible first | exact Grew.refl _ | assumption | apply Grew.alloc | apply Grew.drew | apply Grew.drewN | (refine Grew.setCell ?_ (by simp; try omega) _) | (refine Grew.trans ?_ (by assumption))))) | (refine (HG.out.trans ?_).trans ?_ <;> assumption)⟩
  have HA := Lib.hid ha
  have HJ := Lib.hid (areJ_at ha).2
  have hj6 : J.length ≤ 6 := (areJ_at ha).1
  have HT := Lib.hid (totJ_30 ha)
  have HB := Lib.hid (show schB J L = (decide (L.length = totJ J J.length) && allTo (rowB J L) L.length) by simp [schB, ha])
  clear ha hn
  go_enter Try.func32, Try.ntmps32
  go_wp2_with fail
  go_loopw [5, 6] (fun s i wr => ∃ k : Nat, k ≤ J.length ∧ i = .int .i64 k ∧ s = .int .i64 (totJ J k : Int) ∧ Grew w wr) (fun _ i _ => J.length - (intOf i).toNat)
  case atStart => exact ⟨0, Nat.zero_le _, rfl, rfl, Grew.refl _⟩
  case round =>
    obtain ⟨k, hk, rfl, rfl, hg⟩ := hrel
    have HG := Lib.hid hg
    clear hg
    have HTK := Lib.hid (totJ_le (J := J) hk)
    by_cases hlt : k < J.length
    · obtain ⟨x, hx⟩ : ∃ x, J[k]? = some x := ⟨_, List.getElem?_eq_getElem hlt⟩
      have HST := Lib.hid (totJ_step hx)
      have hst := ((HJ.out k x hx).2.2).1
      have htk : totJ J k ≤ 30 := Nat.le_trans HTK.out HT.out
      have hi1 : (k : Int) < (J.length : Int) := by omega
      obtain ⟨t, ht⟩ : ∃ t, t = totJ J k := ⟨_, rfl⟩
      rw [← ht] at htk HST ⊢
      have HX := Lib.hid hx
      clear hx ht
      go_wp2_with (go_at_call 42; refine (areE_spec HA.out _ _ _ rfl _ (HL.out.grew HG.out) HS.out (by omega)).mono ?_; rintro e w1 ⟨rfl, h1⟩; have HG1 := Lib.hid (HG.out.trans h1); obtain ⟨b, o, X, cx, eA, hb, ⟨hc0, hc1, hc2⟩, hrd⟩ := (HL.out.grew HG1.out).at_ HX.out; subst eA; clear hrd h1)
      go_roundw
      case rel => go_light; exact ⟨k + 1, by omega, by go_num, by rw [HST.out]; go_num, HG1.out⟩
      case measure => go_light; simp [intOf]; omega
    · obtain rfl : k = J.length := by omega
      have htk : totJ J J.length ≤ 30 := HT.out
      obtain ⟨t, ht⟩ : ∃ t, t = totJ J J.length := ⟨_, rfl⟩
      rw [← ht] at htk HB ⊢
      have HTT := Lib.hid ht
      clear ht
      by_cases hlen : L.length = t
      · have hle : ((L.length : Int) != (t : Int)) = false := by simp [hlen]
        have hle2 : ((L.length : Int) == (t : Int)) = true := by simp [hlen]
        have hl30 : L.length ≤ 30 := by omega
        have HB2 := Lib.hid (show schB J L = allTo (rowB J L) L.length by rw [HB.out]; simp [hlen])
        clear hlen
        go_wp2_with (go_at_call 42; refine (areE_spec HA.out _ _ _ rfl _ (HL.out.grew HG.out) HS.out (by omega)).mono ?_; rintro e w1 ⟨rfl, h1⟩)
        have HG1 := Lib.hid (HG.out.trans h1)
        clear h1 HG
        go_loopw [7] (fun i wr2 => ∃ k : Nat, k ≤ L.length ∧ i = .int .i64 k ∧ Grew w wr2 ∧ allTo (rowB J L) k = true) (fun i _ => L.length - (intOf i).toNat)
        case atStart => exact ⟨0, Nat.zero_le _, rfl, HG1.out, rfl⟩
        case round =>
          obtain ⟨k, hk, rfl, hg, hall⟩ := hrel
          have HG2 := Lib.hid hg
          have HALL := Lib.hid hall
          clear hg hall HG1
          by_cases hlt : k < L.length
          · obtain ⟨x, hx⟩ : ∃ x, L[k]? = some x := ⟨_, List.getElem?_eq_getElem hlt⟩
            obtain ⟨b, o, eB, hb, hc⟩ := (HR.out.grew HG2.out).at_ hlt
            subst eB
            obtain ⟨hc0, hc1, hc2, hc3, hc4⟩ := Slt.at_ hc hx
            have HX := Lib.hid hx
            have HEX := Lib.hid (show L.getD k slt0 = x by simp [List.getD_eq_getElem?_getD, hx])
            have HRB := Lib.hid (show rowB J L k = (namB J x && fitB J x && allTo (clN L k) k) by unfold rowB; rw [HEX.out])
            have hi1 : (k : Int) < (L.length : Int) := by omega
            clear hx hc
            go_upto_region 12 with fail
            obtain ⟨w2, hw2⟩ : ∃ w2, w2 = wr.alloc (.cells (Slt.E.enc x).toArray 56) := ⟨_, rfl⟩
            obtain ⟨bx, hbx⟩ : ∃ q, q = wr.heap.size := ⟨_, rfl⟩
            have HX2 := Lib.hid (show Bx Slt.E w2 bx x by rw [hw2, hbx]; exact Bx.new_ wr x _)
            have HG3 := Lib.hid (show Grew w w2 by rw [hw2]; exact HG2.out.alloc _)
            simp only [Slt.E] at hw2
            rw [← hw2, ← hbx]
            clear hw2 hbx hc0 hc1 hc2 hc3 hc4 HG2
            obtain ⟨nb, hnb⟩ : ∃ v, (namB J x && inB x.st (jbOf J x).rl 1000000) = v := ⟨_, rfl⟩
            have HNB := Lib.hid hnb
            clear hnb
            go_cut [81] (fun s wx => s = .bool (!nb) ∧ Bx Slt.E wx bx x ∧ Grew w wx)
            case first =>
              obtain ⟨hx0, hx1, hx2, hx3, hx4, hxs, hxf⟩ := Slt.bx HX2.out
              cases hja : inB x.jb 0 ((J.length : Int) - 1)
              · have HN := Lib.hid (show nb = false by rw [← HNB.out, namB, hja]; rfl)
                have HJA := Lib.hid hja
                clear hja
                (refine wp_region_grow_lit (by kernel_rfl) (by kernel_rfl) ?_; repeat (any_goals (first | go_big_quiet_step (((go_at_call 34; exact quiet_same (inE_spec HJA.out _)))) | quiet_step (((go_at_call 34; exact quiet_same (inE_spec HJA.out _)))) | (refine wpQuiet_step (fun K hK => ?_); go_simp; split <;> rename_i hsp <;> (refine hK _ ?_; clear hK K) <;> (try first | simp only [hsp, decide_true, decide_false, Bool.not_true, Bool.not_false] | simp only [Int.not_le.2 hsp, decide_false, Bool.not_false] | simp only [Int.not_lt.2 hsp, decide_false, Bool.not_false] | simp only [Nat.not_le.2 hsp, decide_false, Bool.not_false] | simp only [Nat.not_lt.2 hsp, decide_false, Bool.not_false])))))
                all_goals (refine wpQuiet_nil ?_; intro wqq hqq)
                go_wp2_with fail
                go_meet
                exact ⟨by rw [HN.out]; try rfl, HX2.out.grew hqq, HG3.out.trans hqq⟩
              · obtain ⟨jb, sp, ce, st, en⟩ := x
                simp only at hja hx0 hx1 hx2 hx3 hx4
                have hjb := inB_iff.1 hja
                have HJA := Lib.hid hja
                obtain ⟨q, rfl⟩ : ∃ q : Nat, jb = (q : Int) := ⟨jb.toNat, by omega⟩
                have hq : q < J.length := by omega
                obtain ⟨j, hj⟩ : ∃ j, J[q]? = some j := ⟨_, List.getElem?_eq_getElem hq⟩
                obtain ⟨b2, o2, X, cx, rfl, hb2, ⟨hd0, hd1, hd2⟩, hrd⟩ := (HL.out.grew HG3.out).at_ hj
                have hej : jbOf J ⟨q, sp, ce, st, en⟩ = j := by simp [jbOf, List.getD_eq_getElem?_getD, hj]
                obtain ⟨v, hv⟩ : ∃ v, inB sp 0 ((j.st.length : Int) - 1) = v := ⟨_, rfl⟩
                obtain ⟨v2, hv2⟩ : ∃ v, inB st j.rl 1000000 = v := ⟨_, rfl⟩
                have HN := Lib.hid (show nb = (v && v2) by rw [← HNB.out, namB, hej]; simp only [hja, hv, hv2, Bool.true_and])
                have HV := Lib.hid hv
                have HV2 := Lib.hid hv2
                have hi2 : (q : Int) < (J.length : Int) := by omega
                have hi3 : (0 : Int) ≤ (q : Int) := by omega
                have hst := ((HJ.out q j hj).2.2).1
                clear hja hjb hj hrd hv hd1 hq hv2 hej
                cases v
                · skip
                  (refine wp_region_grow_lit (by kernel_rfl) (by kernel_rfl) ?_; repeat (any_goals (first | go_big_quiet_step (((first | (go_at_call 34; with_reducible exact quiet_same (inE_spec HJA.out _)) | (go_at_call 34; with_reducible exact quiet_same (inE_spec HV.out _)) | (go_at_call 34; with_reducible exact quiet_same (inE_spec HV2.out _))))) | quiet_step (((first | (go_at_call 34; with_reducible exact quiet_same (inE_spec HJA.out _)) | (go_at_call 34; with_reducible exact quiet_same (inE_spec HV.out _)) | (go_at_call 34; with_reducible exact quiet_same (inE_spec HV2.out _))))) | (refine wpQuiet_step (fun K hK => ?_); go_simp; split <;> rename_i hsp <;> (refine hK _ ?_; clear hK K) <;> (try first | simp only [hsp, decide_true, decide_false, Bool.not_true, Bool.not_false] | simp only [Int.not_le.2 hsp, decide_false, Bool.not_false] | simp only [Int.not_lt.2 hsp, decide_false, Bool.not_false] | simp only [Nat.not_le.2 hsp, decide_false, Bool.not_false] | simp only [Nat.not_lt.2 hsp, decide_false, Bool.not_false])))))
                  all_goals (refine wpQuiet_nil ?_; intro wqq hqq)
                  go_wp2_with fail
                  go_meet
                  exact ⟨by rw [HN.out]; try rfl, HX2.out.grew hqq, HG3.out.trans hqq⟩
                · skip
                  (refine wp_region_grow_lit (by kernel_rfl) (by kernel_rfl) ?_; repeat (any_goals (first | go_big_quiet_step (((first | (go_at_call 34; with_reducible exact quiet_same (inE_spec HJA.out _)) | (go_at_call 34; with_reducible exact quiet_same (inE_spec HV.out _)) | (go_at_call 34; with_reducible exact quiet_same (inE_spec HV2.out _))))) | quiet_step (((first | (go_at_call 34; with_reducible exact quiet_same (inE_spec HJA.out _)) | (go_at_call 34; with_reducible exact quiet_same (inE_spec HV.out _)) | (go_at_call 34; with_reducible exact quiet_same (inE_spec HV2.out _))))) | (refine wpQuiet_step (fun K hK => ?_); go_simp; split <;> rename_i hsp <;> (refine hK _ ?_; clear hK K) <;> (try first | simp only [hsp, decide_true, decide_false, Bool.not_true, Bool.not_false] | simp only [Int.not_le.2 hsp, decide_false, Bool.not_false] | simp only [Int.not_lt.2 hsp, decide_false, Bool.not_false] | simp only [Nat.not_le.2 hsp, decide_false, Bool.not_false] | simp only [Nat.not_lt.2 hsp, decide_false, Bool.not_false])))))
                  all_goals (refine wpQuiet_nil ?_; intro wqq hqq)
                  go_wp2_with fail
                  go_meet
                  exact ⟨by rw [HN.out]; try rfl, HX2.out.grew hqq, HG3.out.trans hqq⟩
            obtain ⟨rfl, hbx, hg⟩ := hcut
            have HX3 := Lib.hid hbx
            have HG4 := Lib.hid hg
            clear hbx hg HX2 HG3
            have HRC := Lib.hid (show (namB J x && fitB J x) = (nb && (decide (x.ce.toList = (wkOf J x).ce.toList) && decide (x.en = x.st + (wkOf J x).mi))) by
              rw [← HNB.out, fitB]
              cases namB J x <;> cases inB x.st (jbOf J x).rl 1000000 <;> simp)
            cases nb
            · have HF := Lib.hid (show schB J L = false by rw [HB2.out, allTo_not hlt (by rw [HRB.out, HRC.out]; rfl)])
              go_wp2_with fail
              go_ret
              go_light
              exact ⟨ret_bool HF.out.symm, HG4.out⟩
            have hnb2 := Bool.and_eq_true_iff.1 HNB.out
            obtain ⟨q, p, jj, y, hxq, hxp, hj, hy, hej, hey⟩ := namB_at hnb2.1
            have hxs := hnb2.2
            rw [hej] at hxs
            obtain ⟨hst1, hst2⟩ := inB_iff.1 hxs
            rw [hey] at HRC
            obtain ⟨b2, o2, X, cx, eA, hb2, ⟨hd0, hd1, hd2⟩, hrd⟩ := (HL.out.grew HG4.out).at_ hj
            subst eA
            have HSO := Lib.hid ((HJ.out q jj hj).2.2)
            have hrl := (HJ.out q jj hj).1
            have hst := HSO.out.1
            have hym := (HSO.out.2 p y hy)
            have hmi : 1 ≤ y.mi ∧ y.mi ≤ 1000 := ⟨hym.1, hym.2.1⟩
            obtain ⟨hrl1, hrl2⟩ := hrl
            obtain ⟨hmi1, hmi2⟩ := hmi
            have hq : q < J.length := (List.getElem?_eq_some_iff.1 hj).1
            have hpl : p < jj.st.length := (List.getElem?_eq_some_iff.1 hy).1
            obtain ⟨b3, o3, eX, hb3, hcw⟩ := hrd.at_ hpl
            subst eX
            obtain ⟨he0, he1⟩ := Wk.at_ hcw hy
            obtain ⟨jb, sp, ce, st, en⟩ := x
            simp only at hxq hxp hst1 hst2 HRC
            subst hxq
            subst hxp
            obtain ⟨hx0, hx1, hx2, hx3, hx4, hxs2, hxf⟩ := Slt.bx HX3.out
            have hi2 : (q : Int) < (J.length : Int) := by omega
            have hi3 : (0 : Int) ≤ (q : Int) := by omega
            have hi4 : (p : Int) < (jj.st.length : Int) := by omega
            have hi5 : (0 : Int) ≤ (p : Int) := by omega
            clear hj hy hej hey hrd hcw hym hq hpl hnb2 hxs
            simp only at hx0 hx1 hx2 hx3 hx4
            go_wp2_with fail
            go_region
            go_upto_region 15 with fail
            obtain ⟨w5, hw5⟩ : ∃ w5, w5 = (wc.alloc (.cells #[.string y.ce, .int .i64 y.mi] 74)).drew := ⟨_, rfl⟩
            obtain ⟨bw, hbw⟩ : ∃ q, q = wc.heap.size := ⟨_, rfl⟩
            have HX5 := Lib.hid (show Bx Slt.E w5 bx ⟨q, p, ce, st, en⟩ by rw [hw5]; exact (HX3.out.alloc _).drew)
            have HW5 := Lib.hid (show Bx Wk.E w5 bw y by rw [hw5, hbw]; exact (Bx.new_ (E := Wk.E) wc y 74).drew)
            have HG5 := Lib.hid (show Grew w w5 by rw [hw5]; exact (HG4.out.alloc _).drew)
            rw [← hw5, ← hbw]
            clear hw5 hbw hx0 hx1 hx2 hx3 hx4 hxf hxs2 hd0 hd1 hd2 he0 he1 HX3 HG4
            obtain ⟨fb, hfb⟩ : ∃ v, (decide (ce.toList = y.ce.toList) && decide (en = st + y.mi)) = v := ⟨_, rfl⟩
            have HFV := Lib.hid hfb
            rw [hfb] at HRC
            clear hfb
            go_cut [106] (fun s wx => s = .bool (!fb) ∧ Bx Slt.E wx bx ⟨q, p, ce, st, en⟩ ∧ Grew w wx)
            case first =>
              obtain ⟨hx0, hx1, hx2, hx3, hx4, hxs, hxf⟩ := Slt.bx HX5.out
              obtain ⟨he0, he1⟩ : w5.cell? ⟨bw, 0, none⟩ = some (.string y.ce) ∧ w5.cell? ⟨bw, 1, none⟩ = some (.int .i64 y.mi) := ⟨HW5.out.2.1 0 _ rfl, HW5.out.2.1 1 _ rfl⟩
              simp only at hx0 hx1 hx2 hx3 hx4
              by_cases hce : ce.toList = y.ce.toList
              · have hce2 : (ce.toList == y.ce.toList) = true := by simp [hce]
                by_cases hen : en = st + y.mi
                · have hen2 : (en == st + y.mi) = true := by simp [hen]
                  have HN := Lib.hid (show fb = true by rw [← HFV.out]; simp [hce, hen])
                  clear hce hen
                  go_wp2_with fail
                  go_meet
                  exact ⟨by rw [HN.out]; simp [bne, hen2], HX5.out, HG5.out⟩
                · have hen2 : (en == st + y.mi) = false := by simp [hen]
                  have HN := Lib.hid (show fb = false by rw [← HFV.out]; simp [hen])
                  clear hce hen
                  go_wp2_with fail
                  go_meet
                  exact ⟨by rw [HN.out]; simp [bne, hen2], HX5.out, HG5.out⟩
              · have hce2 : (ce.toList == y.ce.toList) = false := by simp [hce]
                have HN := Lib.hid (show fb = false by rw [← HFV.out]; simp [hce])
                clear hce
                go_wp2_with fail
                go_meet
                exact ⟨by rw [HN.out]; try rfl, HX5.out, HG5.out⟩
            obtain ⟨rfl, hbx, hg⟩ := hcut
            have HX6 := Lib.hid hbx
            have HG6 := Lib.hid hg
            clear hbx hg HX5 HW5 HG5 HFV
            cases fb
            · have HF := Lib.hid (show schB J L = false by rw [HB2.out, allTo_not hlt (by rw [HRB.out, HRC.out]; rfl)])
              go_wp2_with fail
              go_ret
              go_light
              exact ⟨ret_bool HF.out.symm, HG6.out⟩
            go_wp2_with fail
            obtain ⟨x, hxx⟩ : ∃ x : Slt, x = ⟨q, p, ce, st, en⟩ := ⟨_, rfl⟩
            rw [← hxx] at HX6 HEX HRB HNB HRC
            clear hxx
            go_loopw [10] (fun i wr3 => ∃ k2 : Nat, k2 ≤ k ∧ i = .int .i64 k2 ∧ Bx Slt.E wr3 bx x ∧ Grew w wr3 ∧ allTo (clN L k) k2 = true) (fun i _ => k - (intOf i).toNat)
            case atStart => exact ⟨0, Nat.zero_le _, rfl, HX6.out, HG6.out, rfl⟩
            case round =>
              obtain ⟨k2, hk2, rfl, hbx, hg, hall⟩ := hrel
              have HX7 := Lib.hid hbx
              have HG7 := Lib.hid hg
              have HAL2 := Lib.hid hall
              clear hbx hg hall HX6 HG6
              by_cases hlt2 : k2 < k
              · obtain ⟨z, hz⟩ : ∃ z, L[k2]? = some z := ⟨_, List.getElem?_eq_getElem (by omega)⟩
                obtain ⟨b4, o4, e4, hb4, hc⟩ := (HR.out.grew HG7.out).at_ (k := k2) (by omega)
                simp only [Option.some.injEq, Addr.mk.injEq, and_true] at e4
                obtain ⟨rfl, rfl⟩ := e4
                obtain ⟨hc0, hc1, hc2, hc3, hc4⟩ := Slt.at_ hc hz
                have HEZ := Lib.hid (show L.getD k2 slt0 = z by simp [List.getD_eq_getElem?_getD, hz])
                have HCN := Lib.hid (show clN L k k2 = !(clA x z || clB x z) by unfold clN; rw [HEX.out, HEZ.out])
                have hk3 : (k2 : Int) < (L.length : Int) := by omega
                clear hz hc
                go_upto_region 21 with fail
                obtain ⟨w2, hw2⟩ : ∃ w2, w2 = wr.alloc (.cells (Slt.E.enc z).toArray 56) := ⟨_, rfl⟩
                obtain ⟨bz, hbz⟩ : ∃ q, q = wr.heap.size := ⟨_, rfl⟩
                have HX8 := Lib.hid (show Bx Slt.E w2 bx x by rw [hw2]; exact HX7.out.alloc _)
                have HZ8 := Lib.hid (show Bx Slt.E w2 bz z by rw [hw2, hbz]; exact Bx.new_ wr z _)
                have HG8 := Lib.hid (show Grew w w2 by rw [hw2]; exact HG7.out.alloc _)
                simp only [Slt.E] at hw2
                rw [← hw2, ← hbz]
                clear hw2 hbz hc0 hc1 hc2 hc3 hc4 HX7 HG7
                obtain ⟨ca, hca⟩ : ∃ v, clA x z = v := ⟨_, rfl⟩
                have HCA := Lib.hid hca
                obtain ⟨cb, hcb⟩ : ∃ v, clB x z = v := ⟨_, rfl⟩
                have HCB := Lib.hid hcb
                clear hca hcb
                go_cut [155] (fun s wx => s = .bool ca ∧ Bx Slt.E wx bx x ∧ Bx Slt.E wx bz z ∧ Grew w wx)
                case first =>
                  as_aux_lemma =>
                    obtain ⟨hx0, hx1, hx2, hx3, hx4, hxs, hxf⟩ := Slt.bx HX8.out
                    obtain ⟨hz0, hz1, hz2, hz3, hz4, hzs, hzf⟩ := Slt.bx HZ8.out
                    by_cases ha : z.jb = x.jb
                    · have ha2 : (z.jb == x.jb) = true := by simp [ha]
                      by_cases hb : z.sp = x.sp
                      · have hb2 : (z.sp == x.sp) = true := by simp [hb]
                        have HV := Lib.hid (show ca = true by rw [← HCA.out]; simp [clA, ha, hb])
                        go_wp2_with fail
                        go_meet
                        exact ⟨by rw [HV.out], HX8.out, HZ8.out, HG8.out⟩
                      · have hb2 : (z.sp == x.sp) = false := by simp [hb]
                        have hb3 : ¬ x.sp = z.sp := fun h => hb h.symm
                        by_cases hc : z.sp < x.sp
                        · skip
                          by_cases hd : x.st < z.en
                          · skip
                            have HV := Lib.hid (show ca = true by rw [← HCA.out]; simp [clA, ha, hb3, hc, hd])
                            go_wp2_with fail
                            go_meet
                            exact ⟨by rw [HV.out], HX8.out, HZ8.out, HG8.out⟩
                          · skip
                            have hc2 : ¬ x.sp < z.sp := by omega
                            have HV := Lib.hid (show ca = false by rw [← HCA.out]; simp [clA, ha, hb3, hc, hd, hc2])
                            go_wp2_with fail
                            go_meet
                            exact ⟨by rw [HV.out], HX8.out, HZ8.out, HG8.out⟩
                        · skip
                          have hc2 : x.sp < z.sp := by omega
                          by_cases hd : z.st < x.en
                          · skip
                            have HV := Lib.hid (show ca = true by rw [← HCA.out]; simp [clA, ha, hb3, hc, hc2, hd])
                            go_wp2_with fail
                            go_meet
                            exact ⟨by rw [HV.out], HX8.out, HZ8.out, HG8.out⟩
                          · skip
                            have HV := Lib.hid (show ca = false by rw [← HCA.out]; simp [clA, ha, hb3, hc, hc2, hd])
                            go_wp2_with fail
                            go_meet
                            exact ⟨by rw [HV.out], HX8.out, HZ8.out, HG8.out⟩
                    · have ha2 : (z.jb == x.jb) = false := by simp [ha]
                      have ha3 : ¬ x.jb = z.jb := fun h => ha h.symm
                      have HV := Lib.hid (show ca = false by rw [← HCA.out]; simp [clA, ha3])
                      go_wp2_with fail
                      go_meet
                      exact ⟨by rw [HV.out], HX8.out, HZ8.out, HG8.out⟩
                obtain ⟨rfl, hbx, hbz, hg⟩ := hcut
                have HX9 := Lib.hid hbx
                have HZ9 := Lib.hid hbz
                have HG9 := Lib.hid hg
                clear hbx hbz hg HX8 HZ8 HG8
                cases ca
                · go_upto_region 23 with fail
                  go_cut [174] (fun s wx => s = .bool cb ∧ Bx Slt.E wx bx x ∧ Grew w wx)
                  case first =>
                    as_aux_lemma =>
                      obtain ⟨hx0, hx1, hx2, hx3, hx4, hxs, hxf⟩ := Slt.bx HX9.out
                      obtain ⟨hz0, hz1, hz2, hz3, hz4, hzs, hzf⟩ := Slt.bx HZ9.out
                      by_cases ha : x.ce.toList = z.ce.toList
                      · have ha2 : (z.ce.toList == x.ce.toList) = true := by simp [ha]
                        by_cases hb : x.st < z.en
                        · by_cases hc : z.st < x.en
                          · skip
                            have HV := Lib.hid (show cb = true by rw [← HCB.out]; simp [clB, ha, hb, hc])
                            go_wp2_with fail
                            go_meet
                            exact ⟨by rw [HV.out], HX9.out, HG9.out⟩
                          · skip
                            have HV := Lib.hid (show cb = false by rw [← HCB.out]; simp [clB, hc])
                            go_wp2_with fail
                            go_meet
                            exact ⟨by rw [HV.out], HX9.out, HG9.out⟩
                        · skip
                          have HV := Lib.hid (show cb = false by rw [← HCB.out]; simp [clB, hb])
                          go_wp2_with fail
                          go_meet
                          exact ⟨by rw [HV.out], HX9.out, HG9.out⟩
                      · have ha2 : (z.ce.toList == x.ce.toList) = false := by simp [Ne.symm ha]
                        have HV := Lib.hid (show cb = false by rw [← HCB.out]; simp [clB, ha])
                        go_wp2_with fail
                        go_meet
                        exact ⟨by rw [HV.out], HX9.out, HG9.out⟩
                  obtain ⟨rfl, hbx, hg⟩ := hcut
                  have HX10 := Lib.hid hbx
                  have HG10 := Lib.hid hg
                  clear hbx hg HX9 HZ9 HG9
                  cases cb
                  · have HOK := Lib.hid (show clN L k k2 = true by rw [HCN.out, HCA.out, HCB.out]; rfl)
                    go_wp2_with fail
                    go_roundw
                    case rel => go_light; exact ⟨k2 + 1, by omega, by go_num, HX10.out, HG10.out, allTo_step HAL2.out HOK.out⟩
                    case measure => go_light; simp [intOf]; omega
                  · have HF := Lib.hid (show schB J L = false by rw [HB2.out, allTo_not hlt (by rw [HRB.out, allTo_not hlt2 (by rw [HCN.out, HCB.out]; simp)]; simp)])
                    go_wp2_with fail
                    go_ret
                    go_light
                    exact ⟨ret_bool HF.out.symm, HG10.out⟩
                · have HF := Lib.hid (show schB J L = false by rw [HB2.out, allTo_not hlt (by rw [HRB.out, allTo_not hlt2 (by rw [HCN.out, HCA.out]; simp)]; simp)])
                  go_wp2_with fail
                  go_ret
                  go_light
                  exact ⟨ret_bool HF.out.symm, HG9.out⟩
              · obtain rfl : k2 = k := by omega
                go_wp2_with fail
                go_roundw
                case rel => go_light; exact ⟨k2 + 1, by omega, by go_num, HG7.out, allTo_step HALL.out (by rw [HRB.out, HRC.out, HAL2.out]; rfl)⟩
                case measure => go_light; simp [intOf]; omega
          · obtain rfl : k = L.length := by omega
            go_wp2_with fail
            go_ret
            go_light
            exact ⟨ret_bool (by rw [HB2.out, HALL.out]), HG2.out⟩
      · have hle : ((L.length : Int) != (t : Int)) = true := by simp; omega
        have hle2 : ((L.length : Int) == (t : Int)) = false := by simp; omega
        have HF := Lib.hid (show schB J L = false by rw [HB.out]; simp [hlen])
        clear hlen
        go_wp2_with (go_at_call 42; refine (areE_spec HA.out _ _ _ rfl _ (HL.out.grew HG.out) HS.out (by omega)).mono ?_; rintro e w1 ⟨rfl, h1⟩)
        go_ret
        go_light
        exact ⟨ret_bool HF.out.symm, HG.out.trans h1⟩
end Go.Proofs.Ytembbgkhmnalpaa
