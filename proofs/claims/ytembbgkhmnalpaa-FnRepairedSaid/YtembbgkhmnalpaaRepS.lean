/- RepairSlots of the reference returns what the plain function returns. Conditions: none. -/
import Derived.Test.YtembbgkhmnalpaaRepM
namespace Go.Proofs.Ytembbgkhmnalpaa
open Go.RowKit Go.ChangeShapes Go.WideShapes Go.Deep
set_option linter.unusedVariables false
set_option linter.unusedSimpArgs false

set_option maxRecDepth 100000 in
set_option maxHeartbeats 16000000 in
theorem repair_spec (J : List Jb) (A : Option Addr) (c : Nat) (L : List Slt) (B : Option Addr) (d : Nat) (x : Stp) (w : World) (h : RdJ w A J) (hs : JSm J) (hn : J.length ≤ 4194304) (hr : Rd Slt.E w B L) (hl : L.length ≤ 4194304) (hx : x.ce.size ≤ maxLen) :
    Calls Try.prog 28 #[.slice A J.length c, .slice B L.length d, x.v] w fun e w' => ∃ A' c', e = .returned (.tuple #[.slice A' (repF J L x).1.length c', .bool (repF J L x).2]) ∧ Own Slt.E 56 w' w.heap.size (.slice A' (repF J L x).1.length c') (repF J L x).1 ∧ Grew w w' := by
  have HL := Lib.hid h
  have HS := Lib.hid hs
  have HR := Lib.hid hr
  have HXS := Lib.hid hx
  clear h hs hr hx
  cases ha : schB J L
  · have HF := Lib.hid (show repF J L x = ([], false) by simp [repF, ha])
    have HA := Lib.hid ha
    clear ha
    obtain ⟨xc, xf, xu⟩ := x
    go_enter Try.func28, Try.ntmps28
    go_wp2_with (go_at_call 32; refine (schE_spec HA.out _ _ _ _ _ (HL.out.grew (by (repeat (with_reducible first | exact Grew.refl _ | assumption | apply Grew.alloc | apply Grew.drew | apply Grew.drewN | (refine Grew.setCell ?_ (by simp; try omega) _) | (refine Grew.trans ?_ (by assumption)))))) HS.out hn (HR.out.grew (by (repeat (with_reducible first | exact Grew.refl _ | assumption | apply Grew.alloc | apply Grew.drew | apply Grew.drewN | (refine Grew.setCell ?_ (by simp; try omega) _) | (refine Grew.trans ?_ (by assumption)))))) hl).mono ?_; rintro e w1 ⟨rfl, h1⟩)
    go_ret2
    go_light
    exact ⟨_, 0, by rw [HF.out]; rfl, by rw [HF.out]; exact Own.new_ (((Grew.refl w).alloc _).trans h1).le, (((Grew.refl w).alloc _).trans h1).alloc _⟩
  have HA := Lib.hid ha
  cases hb : stopB x.ce x.fr x.un
  · have HF := Lib.hid (show repF J L x = ([], false) by simp [repF, hb])
    have HB := Lib.hid hb
    clear ha hb
    obtain ⟨xc, xf, xu⟩ := x
    go_enter Try.func28, Try.ntmps28
    go_wp2_with (go_at_call 32; refine (schE_spec HA.out _ _ _ _ _ (HL.out.grew (by (repeat (with_reducible first | exact Grew.refl _ | assumption | apply Grew.alloc | apply Grew.drew | apply Grew.drewN | (refine Grew.setCell ?_ (by simp; try omega) _) | (refine Grew.trans ?_ (by assumption)))))) HS.out hn (HR.out.grew (by (repeat (with_reducible first | exact Grew.refl _ | assumption | apply Grew.alloc | apply Grew.drew | apply Grew.drewN | (refine Grew.setCell ?_ (by simp; try omega) _) | (refine Grew.trans ?_ (by assumption)))))) hl).mono ?_; rintro e w1 ⟨rfl, h1⟩; have HG1 := Lib.hid (((Grew.refl w).alloc _).trans h1); have hz_w1_0 : w.heap.size < w1.heap.size := Nat.lt_of_lt_of_le (by first | (simp +arith; done) | (simp; omega) | omega) h1.le; have hb_w1_0 := fun o => h1.rules.1 w.heap.size o (by first | (simp +arith; done) | (simp; omega) | omega); have hf_w1_0 := fun o => h1.rules.2 w.heap.size o (by first | (simp +arith; done) | (simp; omega) | omega); (try simp [World.cell?_alloc_past, World.frozen?_alloc_past, Nat.lt_add_right] at hb_w1_0 hf_w1_0))
    refine (stopE_spec (x := ⟨xc, xf, xu⟩) HB.out _ HXS.out).mono ?_; rintro e w2 ⟨rfl, h2⟩
    go_wp2_with fail
    go_ret2
    go_light
    exact ⟨_, 0, by rw [HF.out]; rfl, by rw [HF.out]; exact Own.new_ (HG1.out.trans h2).le, (HG1.out.trans h2).alloc _⟩
  have HF := Lib.hid (show repF J L x = (rpT L (ordF L) x L.length, true) by simp [repF, ha, hb])
  have HB := Lib.hid hb
  have h30 := (sch_at ha).1
  have HSL := Lib.hid (sch_at ha).2
  have HU := Lib.hid (show 0 ≤ x.un ∧ x.un ≤ 100000 from by
    have := hb
    simp only [stopB, Bool.and_eq_true, inB_iff] at this
    omega)
  clear ha hb
  obtain ⟨xc, xf, xu⟩ := x
  go_enter Try.func28, Try.ntmps28
  go_wp2_with (go_at_call 32; refine (schE_spec HA.out _ _ _ _ _ (HL.out.grew (by (repeat (with_reducible first | exact Grew.refl _ | assumption | apply Grew.alloc | apply Grew.drew | apply Grew.drewN | (refine Grew.setCell ?_ (by simp; try omega) _) | (refine Grew.trans ?_ (by assumption)))))) HS.out hn (HR.out.grew (by (repeat (with_reducible first | exact Grew.refl _ | assumption | apply Grew.alloc | apply Grew.drew | apply Grew.drewN | (refine Grew.setCell ?_ (by simp; try omega) _) | (refine Grew.trans ?_ (by assumption)))))) hl).mono ?_; rintro e w1 ⟨rfl, h1⟩; have HG1 := Lib.hid (((Grew.refl w).alloc _).trans h1); have hz_w1_0 : w.heap.size < w1.heap.size := Nat.lt_of_lt_of_le (by first | (simp +arith; done) | (simp; omega) | omega) h1.le; have hb_w1_0 := fun o => h1.rules.1 w.heap.size o (by first | (simp +arith; done) | (simp; omega) | omega); have hf_w1_0 := fun o => h1.rules.2 w.heap.size o (by first | (simp +arith; done) | (simp; omega) | omega); (try simp [World.cell?_alloc_past, World.frozen?_alloc_past, Nat.lt_add_right] at hb_w1_0 hf_w1_0))
  refine (stopE_spec (x := ⟨xc, xf, xu⟩) HB.out _ HXS.out).mono ?_; rintro e w2 ⟨rfl, h2⟩
  have HB1 := Lib.hid ((((Bx.new_ (E := Stp.E) w ⟨xc, xf, xu⟩ 26).grew h1).grew h2))
  have HG2 := Lib.hid (HG1.out.trans h2)
  clear h1 h2 hz_w1_0 hb_w1_0 hf_w1_0 HG1
  go_wp2_with (at_builtin; refine wpList_append_rd _ rfl (.tmp 26) (.tmp 27) _ rfl sl_Slt w.heap.size _ _ _ ([] : List Slt) rfl (Own.new_ HG2.out.le) _ _ _ L rfl rfl (HR.out.grew (HG2.out.alloc _)) (by simp only [List.length_nil]; omega) (by have := HG2.out.le; simp; omega) ?_; intro A5 c5 w5 ho5 hgr5 hat5)
  have HO5 := Lib.hid (show Own Slt.E 56 w5 w.heap.size (.slice A5 L.length c5) L by simpa using ho5)
  have HG5 := Lib.hid (show Grew w w5 from (HG2.out.alloc _).app (E := Slt.E) (Own.new_ HG2.out.le) (Nat.le_refl _) hgr5)
  have HB5 := Lib.hid (show Bx Stp.E w5 w.heap.size ⟨xc, xf, xu⟩ from (HB1.out.alloc _).kept hgr5 (by simp [Value.ownBlock]; have := HB1.out.1; omega))
  have HX5 := Lib.hid (show (Value.slice A5 L.length c5).ownBlock ≠ some w.heap.size by
    have h1 := HB1.out.1
    rcases hat5 with h2 | h2
    · simp only [Nat.zero_add] at h2
      rw [h2]; simp [Value.ownBlock]; omega
    · simp only [Nat.zero_add] at h2
      rw [h2]; simp; omega)
  clear ho5 hgr5 hat5 HB1 HG2
  (try simp only [Nat.zero_add])
  refine (l25Order_any L _ _ h30 _ (HR.out.grew HG5.out)).mono ?_; rintro e w6 ⟨A6, c6, rfl, ho6, hg6⟩
  have HM := Lib.hid (show RM w w6 (fun w' => Bx Stp.E w' w.heap.size ⟨xc, xf, xu⟩) L (ordF L) (.slice A5 L.length c5) (.slice A6 L.length c6) from
    ⟨HG5.out.trans hg6, HO5.out.grew hg6, ho6.mono HG5.out.le, HB5.out.grew hg6, fun k e1 e2 => by have h1 := (HO5.out.block k e1).2; have h2 := (ho6.block k e2).1; omega,
      fun wa wb row hgr hrow hb => hb.kept hgr (fun e => HX5.out (hrow _ e))⟩)
  clear ho6 hg6 HO5 HG5 HB5
  go_wp2_with fail
  go_loopw [10] (fun i wr => ∃ n : Nat, n ≤ L.length ∧ i = .int .i64 n ∧ RM w wr (fun w' => Bx Stp.E w' w.heap.size ⟨xc, xf, xu⟩) (rpT L (ordF L) ⟨xc, xf, xu⟩ n) (ordF L) (.slice A5 L.length c5) (.slice A6 L.length c6)) (fun i _ => L.length - (intOf i).toNat)
  case atStart => exact ⟨0, Nat.zero_le _, rfl, HM.out⟩
  case round =>
    obtain ⟨n, hn2, rfl, hm⟩ := hrel
    have HM2 := Lib.hid hm
    clear hm HM
    by_cases hlt : n < L.length
    · have HOK := Lib.hid (rp_ok (x := ⟨xc, xf, xu⟩) HSL.out HU.out n hn2)
      have hat := ordF_at hlt
      obtain ⟨s, hs⟩ : ∃ s, L[atO (ordF L) n]? = some s := ⟨_, List.getElem?_eq_getElem hat.2⟩
      have HAT := Lib.hid (fun k (hk : k < L.length) => ordF_at hk)
      have HSB := Lib.hid (HSL.out s (List.mem_of_getElem? hs))
      have HSTEP := Lib.hid (show rpT L (ordF L) ⟨xc, xf, xu⟩ (n + 1) = (rpT L (ordF L) ⟨xc, xf, xu⟩ n).set (atO (ordF L) n) (mvF ⟨xc, xf, xu⟩ s (rpSt (rpT L (ordF L) ⟨xc, xf, xu⟩ n) (ordF L) s n)) by
        simp only [rpT]
        rw [show L.getD (atO (ordF L) n) slt0 = s by simp [List.getD_eq_getElem?_getD, hs]])
      have HOS := Lib.hid (show (rpT L (ordF L) ⟨xc, xf, xu⟩ n)[atO (ordF L) n]? = some s from (HOK.out.rest n (Nat.le_refl _) hlt).trans hs)
      obtain ⟨out, hout⟩ : ∃ out, out = rpT L (ordF L) ⟨xc, xf, xu⟩ n := ⟨_, rfl⟩
      rw [← hout] at HM2 HOK HSTEP HOS
      obtain ⟨O, hO⟩ : ∃ O, O = ordF L := ⟨_, rfl⟩
      have HOO := Lib.hid hO
      have HOL := Lib.hid (show O.length = L.length by rw [hO, ordF_len])
      rw [← hO] at HM2 HOK HSTEP HOS hat HAT ⊢
      obtain ⟨i0, hi0⟩ : ∃ q, q = atO O n := ⟨_, rfl⟩
      rw [← hi0] at HSTEP HOS hat
      have HRB := Lib.hid (fun k hk => rpSt_b HOK.out (fun k hk => (HAT.out k hk).2) (s := s) HSB.out.1 k hk)
      obtain ⟨g, cg, hv, hg1, hg2⟩ := HM2.out.oo.addr (by rw [HOK.out.len]; omega)
      rw [HOK.out.len] at hv
      simp only [Value.slice.injEq, true_and] at hv
      obtain ⟨hA5, rfl⟩ := hv
      subst hA5
      obtain ⟨g2, cg2, hv, hg3, hg4⟩ := HM2.out.on.addr (by rw [HOL.out]; omega)
      rw [HOL.out] at hv
      simp only [Value.slice.injEq, true_and] at hv
      obtain ⟨hA6, rfl⟩ := hv
      subst hA6
      have hcn := HM2.out.num hat.1
      obtain ⟨hs0, hs1, hs2, hs3, hs4⟩ := HM2.out.cells HOS.out
      have hi1 : (0 : Int) ≤ (i0 : Int) := by omega
      have hi2 : (i0 : Int) < (L.length : Int) := by have := hat.2; omega
      have hi3 : (n : Int) < (L.length : Int) := by omega
      have HOUT := Lib.hid hout
      have HATN := Lib.hid hat
      clear hs hout hO hi0 hat
      go_upto_region 10 with fail
      obtain ⟨ww, hww⟩ : ∃ w2, w2 = wr.alloc (.cells (Slt.E.enc s).toArray 56) := ⟨_, rfl⟩
      obtain ⟨bs, hbs⟩ : ∃ q, q = wr.heap.size := ⟨_, rfl⟩
      have HS2 := Lib.hid (show Bx Slt.E ww bs s by rw [hww, hbs]; exact Bx.new_ wr s _)
      have HM3 := Lib.hid (show RM w ww (fun w' => Bx Stp.E w' w.heap.size ⟨xc, xf, xu⟩) out O (.slice (some ⟨g, 0, none⟩) L.length c5) (.slice (some ⟨g2, 0, none⟩) L.length c6) by rw [hww]; exact HM2.out.grew ((Grew.refl _).alloc _))
      simp only [Slt.E] at hww
      rw [← hww, ← hbs]
      clear hww hbs hcn hs0 hs1 hs2 hs3 hs4 HM2 hg1 hg2 hg3 hg4
      go_wp2_with fail
      go_loopw [12, 13] (fun tv i wr3 => ∃ k : Nat, k ≤ n ∧ i = .int .i64 k ∧ tv = .int .i64 (rpSt out O s k) ∧ Bx Slt.E wr3 bs s ∧ RM w wr3 (fun w' => Bx Stp.E w' w.heap.size ⟨xc, xf, xu⟩) out O (.slice (some ⟨g, 0, none⟩) L.length c5) (.slice (some ⟨g2, 0, none⟩) L.length c6)) (fun _ i _ => n - (intOf i).toNat)
      case atStart => exact ⟨0, Nat.zero_le _, rfl, rfl, HS2.out, HM3.out⟩
      case round =>
        obtain ⟨k, hk, rfl, rfl, hbs, hm⟩ := hrel
        have HM4 := Lib.hid hm
        have HS4 := Lib.hid hbs
        clear hm hbs HM3 HS2
        have hrb := HRB.out k (by omega)
        obtain ⟨hrb1, hrb2⟩ := hrb
        by_cases hlt2 : k < n
        · have hat := HAT.out k (by omega)
          obtain ⟨z0, hz0⟩ : ∃ z, L[atO O k]? = some z := ⟨_, List.getElem?_eq_getElem hat.2⟩
          obtain ⟨y, hy, ye1, ye2, ye3, hy4, hy5, hy6⟩ := HOK.out.same _ z0 hz0
          have HFS := Lib.hid (show rpSt out O s (k + 1) = if nearB y s = true then max (rpSt out O s k) y.en else rpSt out O s k by simp [rpSt, List.getD_eq_getElem?_getD, hy])
          obtain ⟨ik, hik⟩ : ∃ q, q = atO O k := ⟨_, rfl⟩
          rw [← hik] at hat hy
          have hcn := HM4.out.num hat.1
          obtain ⟨hy0, hy1, hy2, hy3, hye⟩ := HM4.out.cells hy
          have hj1 : (0 : Int) ≤ (ik : Int) := by omega
          have hj2 : (ik : Int) < (L.length : Int) := by have := hat.2; omega
          have hj3 : (k : Int) < (L.length : Int) := by omega
          have hj4 : (k : Int) < (n : Int) := by omega
          obtain ⟨rk, hrk⟩ : ∃ v, v = rpSt out O s k := ⟨_, rfl⟩
          rw [← hrk] at hrb1 hrb2 HFS ⊢
          clear hz0 hik hat hy hrk hy4 hy5 hy6 ye1 ye2 ye3
          go_upto_region 14 with fail
          obtain ⟨ww, hww⟩ : ∃ w2, w2 = wr.alloc (.cells (Slt.E.enc y).toArray 56) := ⟨_, rfl⟩
          obtain ⟨bz, hbz⟩ : ∃ q, q = wr.heap.size := ⟨_, rfl⟩
          have HS5 := Lib.hid (show Bx Slt.E ww bs s by rw [hww]; exact HS4.out.alloc _)
          have HY5 := Lib.hid (show Bx Slt.E ww bz y by rw [hww, hbz]; exact Bx.new_ wr y _)
          have HM5 := Lib.hid (show RM w ww (fun w' => Bx Stp.E w' w.heap.size ⟨xc, xf, xu⟩) out O (.slice (some ⟨g, 0, none⟩) L.length c5) (.slice (some ⟨g2, 0, none⟩) L.length c6) by rw [hww]; exact HM4.out.grew ((Grew.refl _).alloc _))
          simp only [Slt.E] at hww
          rw [← hww, ← hbz]
          clear hww hbz hcn hy0 hy1 hy2 hy3 hye HM4 HS4
          obtain ⟨nb, hnb⟩ : ∃ v, nearB y s = v := ⟨_, rfl⟩
          have HNB := Lib.hid hnb
          clear hnb
          go_cut [69] (fun s' wx => s' = .bool nb ∧ Bx Slt.E wx bs s ∧ Bx Slt.E wx bz y ∧ RM w wx (fun w' => Bx Stp.E w' w.heap.size ⟨xc, xf, xu⟩) out O (.slice (some ⟨g, 0, none⟩) L.length c5) (.slice (some ⟨g2, 0, none⟩) L.length c6))
          case first =>
            obtain ⟨hx0, hx1, hx2, hx3, hx4, hxs, hxf⟩ := Slt.bx HS5.out
            obtain ⟨hz0, hz1, hz2, hz3, hz4, hzs, hzf⟩ := Slt.bx HY5.out
            by_cases ha : y.jb = s.jb
            · have ha2 : (y.jb == s.jb) = true := by simp [ha]
              have HV := Lib.hid (show nb = true by rw [← HNB.out]; simp [nearB, ha])
              go_wp2_with fail
              go_meet
              exact ⟨by rw [HV.out], HS5.out, HY5.out, HM5.out⟩
            · have ha2 : (y.jb == s.jb) = false := by simp [ha]
              by_cases hc : y.ce.toList = s.ce.toList
              · have hc2 : (y.ce.toList == s.ce.toList) = true := by simp [hc]
                have HV := Lib.hid (show nb = true by rw [← HNB.out]; simp [nearB, hc])
                go_wp2_with fail
                go_meet
                exact ⟨by rw [HV.out], HS5.out, HY5.out, HM5.out⟩
              · have hc2 : (y.ce.toList == s.ce.toList) = false := by simp [hc]
                have HV := Lib.hid (show nb = false by rw [← HNB.out]; simp [nearB, ha, hc])
                go_wp2_with fail
                go_meet
                exact ⟨by rw [HV.out], HS5.out, HY5.out, HM5.out⟩
          obtain ⟨rfl, hbs, hbz, hm⟩ := hcut
          have HS6 := Lib.hid hbs
          have HY6 := Lib.hid hbz
          have HM6 := Lib.hid hm
          clear hbs hbz hm HS5 HY5 HM5
          cases nb
          · have HE := Lib.hid (show rpSt out O s (k + 1) = rk by rw [HFS.out, HNB.out]; rfl)
            go_wp2_with fail
            go_roundw
            case rel => go_light; exact ⟨k + 1, by omega, by go_num, by rw [HE.out], HS6.out, HM6.out⟩
            case measure => go_light; simp [intOf]; omega
          · have HE := Lib.hid (show rpSt out O s (k + 1) = max rk y.en by rw [HFS.out, HNB.out]; rfl)
            obtain ⟨hz0, hz1, hz2, hz3, hz4, hzs, hzf⟩ := Slt.bx HY6.out
            go_wp2_with fail
            all_goals
              go_roundw
              case rel => go_light; exact ⟨k + 1, by omega, by go_num, congrArg (Value.int .i64) (by rw [HE.out]; omega), HS6.out, HM6.out⟩
              case measure => go_light; simp [intOf]; omega
        · obtain rfl : k = n := by omega
          obtain ⟨t, ht⟩ : ∃ v, v = rpSt out O s k := ⟨_, rfl⟩
          rw [← ht] at hrb1 hrb2 HSTEP ⊢
          have HT := Lib.hid ht
          clear ht
          obtain ⟨hb1, hb2, hb3⟩ := HSB.out
          obtain ⟨hb4, hb5⟩ := hb1
          obtain ⟨hx0, hx1, hx2, hx3, hx4, hxs, hxf⟩ := Slt.bx HS4.out
          obtain ⟨hp0, hp1, hp2, hps, hpf⟩ := Stp.bx3 HM4.out.x
          simp only at hp0 hp1 hp2
          have hw1 : IntKind.i64.wrap (s.en - s.st) = s.en - s.st := IntWalk.i64_in _ (by omega)
          have hw2 : IntKind.i64.wrap (t + (s.en - s.st)) = t + (s.en - s.st) := IntWalk.i64_in _ (by omega)
          obtain ⟨hb, hhb⟩ : ∃ v, hitB s.ce t (t + (s.en - s.st)) xc xf xu = v := ⟨_, rfl⟩
          have HHB := Lib.hid hhb
          have HMV := Lib.hid (show (mvT ⟨xc, xf, xu⟩ s t) = if hb = true then xu else t by rw [mvT, hhb])
          clear hhb
          go_upto_region 17 with fail
          go_cut [97] (fun s' wx => s' = .bool hb ∧ Bx Slt.E wx bs s ∧ RM w wx (fun w' => Bx Stp.E w' w.heap.size ⟨xc, xf, xu⟩) out O (.slice (some ⟨g, 0, none⟩) L.length c5) (.slice (some ⟨g2, 0, none⟩) L.length c6))
          case first =>
            by_cases ha : s.ce.toList = xc.toList
            · have ha2 : (s.ce.toList == xc.toList) = true := by simp [ha]
              by_cases hc : t < xu
              · by_cases hd : xf < t + (s.en - s.st)
                · have HV := Lib.hid (show hb = true by rw [← HHB.out]; simp [hitB, ha, hc, hd])
                  go_wp2_with fail
                  go_meet
                  exact ⟨by rw [HV.out], HS4.out, HM4.out⟩
                · have HV := Lib.hid (show hb = false by rw [← HHB.out]; simp [hitB, hd])
                  go_wp2_with fail
                  go_meet
                  exact ⟨by rw [HV.out], HS4.out, HM4.out⟩
              · have HV := Lib.hid (show hb = false by rw [← HHB.out]; simp [hitB, hc])
                go_wp2_with fail
                go_meet
                exact ⟨by rw [HV.out], HS4.out, HM4.out⟩
            · have ha2 : (s.ce.toList == xc.toList) = false := by simp [ha]
              have HV := Lib.hid (show hb = false by rw [← HHB.out]; simp [hitB, ha])
              go_wp2_with fail
              go_meet
              exact ⟨by rw [HV.out], HS4.out, HM4.out⟩
          clear hx0 hx1 hx2 hx3 hx4 hxs hxf hp0 hp1 hp2 hps hpf
          obtain ⟨rfl, hbs, hm⟩ := hcut
          have HS5 := Lib.hid hbs
          have HM5 := Lib.hid hm
          clear hbs hm HS4 HM4
          obtain ⟨u, hu⟩ : ∃ v, v = (mvT ⟨xc, xf, xu⟩ s t) := ⟨_, rfl⟩
          rw [← hu] at HMV
          have HU2 := Lib.hid hu
          clear hu
          have hub : 0 ≤ u ∧ u ≤ 1001000 + 1000 * (k : Int) := by
            have := HMV.out
            have := HU.out
            cases hb <;> simp at this ⊢ <;> simp_all <;> omega
          obtain ⟨hu1, hu2⟩ := hub
          go_upto_if 97 with fail
          go_cut [12] (fun s' wx => s' = .int .i64 u ∧ RM w wx (fun w' => Bx Stp.E w' w.heap.size ⟨xc, xf, xu⟩) out O (.slice (some ⟨g, 0, none⟩) L.length c5) (.slice (some ⟨g2, 0, none⟩) L.length c6))
          case first =>
            obtain ⟨hp0, hp1, hp2, hps, hpf⟩ := Stp.bx3 HM5.out.x
            simp only at hp0 hp1 hp2
            cases hb
            · have HV := Lib.hid (show u = t by rw [HMV.out]; rfl)
              go_wp2_with fail
              go_meet
              exact ⟨by rw [HV.out], HM5.out⟩
            · have HV := Lib.hid (show u = xu by rw [HMV.out]; rfl)
              go_wp2_with fail
              go_meet
              exact ⟨by rw [HV.out], HM5.out⟩
          obtain ⟨rfl, hm⟩ := hcut
          have HM6 := Lib.hid hm
          clear hm HM5 HS5
          have hcn := HM6.out.num HATN.out.1
          obtain ⟨hs0, hs1, hs2, hs3, hs4⟩ := HM6.out.cells HOS.out
          have hfz := HM6.out.oo.frozen
          have hw3 : IntKind.i64.wrap (u + (s.en - s.st)) = u + (s.en - s.st) := IntWalk.i64_in _ (by omega)
          go_upto_region 20 with fail
          have HM7 := Lib.hid (HM6.out.start (t := u) HOS.out)
          generalize (wc.setCell ⟨g, i0 * 5 + 3, none⟩ (.int .i64 u)) = w9 at *
          clear hcn hs0 hs1 hs2 hs3 hs4 hfz HM6
          have hol : i0 < out.length := by rw [HOK.out.len]; omega
          have HM8 := Lib.hid (HM7.out.stop (i := i0) (t := u + (s.en - s.st)) (List.getElem?_set_self hol))
          have HFI := Lib.hid (show (out.set i0 ⟨s.jb, s.sp, s.ce, u, s.en⟩).set i0 ⟨s.jb, s.sp, s.ce, u, u + (s.en - s.st)⟩ = rpT L O ⟨xc, xf, xu⟩ (k + 1) by
            rw [List.set_set, HSTEP.out, mvF, ← HU2.out])
          have hcn := HM7.out.num HATN.out.1
          have hfz := HM7.out.oo.frozen
          have hs4 := (HM7.out.cells (List.getElem?_set_self hol)).2.2.2.2
          simp only at hs4
          clear hol
          go_wp2_with fail
          go_roundw
          case rel => go_light; exact ⟨k + 1, by omega, by go_num, by rw [← HFI.out]; exact HM8.out⟩
          case measure => go_light; simp [intOf]; omega
    · obtain rfl : n = L.length := by omega
      go_wp2_with fail
      go_ret2
      go_light
      have hlen := (rp_ok (x := ⟨xc, xf, xu⟩) HSL.out HU.out L.length (Nat.le_refl _)).len
      refine ⟨A5, c5, by rw [HF.out, hlen]; rfl, ?_, HM2.out.g⟩
      rw [HF.out, hlen]
      exact HM2.out.oo
end Go.Proofs.Ytembbgkhmnalpaa
