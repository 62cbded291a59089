/- RepairSlots of the program returns what the plain function returns. Conditions: none. -/
import Derived.Test.YtembbgkhmnalpaaRepM
namespace Go.Proofs.Ytembbgkhmnalpaa
open Go.RowKit Go.ChangeShapes Go.WideShapes Go.Deep
set_option linter.unusedVariables false
set_option linter.unusedSimpArgs false

/-- The program's two boxes: the slots' header and the stop. -/
def XB (bs bx : Nat) (V : Value) (x : Stp) (w : World) : Prop := (w.cell? ⟨bs, 0, none⟩ = some V ∧ bs < w.heap.size) ∧ Bx Stp.E w bx x
theorem XB.kept {bs bx : Nat} {V : Value} {x : Stp} {w w' : World} {row : Option Nat} (h : XB bs bx V x w) (g : w.grownBy w' row) (h1 : row ≠ some bs) (h2 : row ≠ some bx) : XB bs bx V x w' :=
  ⟨⟨(World.cell?_of_block (g.block bs h.1.2 (Ne.symm h1))).trans h.1.1, Nat.lt_of_lt_of_le h.1.2 g.size⟩, h.2.kept g h2⟩
theorem XB.grew {bs bx : Nat} {V : Value} {x : Stp} {w w' : World} (h : XB bs bx V x w) (g : Grew w w') : XB bs bx V x w' := h.kept (g.by_ none) (by simp) (by simp)

theorem overE {ce : ByteArray} {st en : Int} {x : Stp} {v : Bool} (hv : hitB ce st en x.ce x.fr x.un = v) (w : World) :
    Calls Try.prog 40 #[.string ce, .int .i64 st, .int .i64 en, x.v] w fun e w' => e = .returned (.bool v) ∧ Grew w w' := hv ▸ overlaps_any ce st en x w

set_option maxRecDepth 100000 in
set_option maxHeartbeats 16000000 in
theorem repair_impl (J : List Jb) (A : Option Addr) (c : Nat) (L : List Slt) (B : Option Addr) (d : Nat) (x : Stp) (w : World) (h : RdJ w A J) (hs : JSm J) (hn : J.length ≤ 4194304) (hr : Rd Slt.E w B L) (hl : L.length ≤ 4194304) (hd : L.length ≤ d) (hx : x.ce.size ≤ maxLen) :
    Calls Try.prog 29 #[.slice A J.length c, .slice B L.length d, x.v] w fun e w' => ∃ A' c', e = .returned (.tuple #[.slice A' (repF J L x).1.length c', .bool (repF J L x).2]) ∧ Own Slt.E 56 w' w.heap.size (.slice A' (repF J L x).1.length c') (repF J L x).1 ∧ Grew w w' := by
  have HL := Lib.hid h
  have HS := Lib.hid hs
  have HR := Lib.hid hr
  have HXS := Lib.hid hx
  clear h hs hr hx
  cases ha : schB J L
  · have HF := Lib.hid (show repF J L x = ([], false) by simp [repF, ha])
    have HA := Lib.hid ha
    clear ha
    obtain ⟨xc, xf, xu⟩ := x
    go_enter Try.func29, Try.ntmps29
    go_wp2_with (go_at_call 51; refine (schE_impl HA.out _ _ _ _ _ (HL.out.grew (by (repeat (with_reducible first | exact Grew.refl _ | assumption | apply Grew.alloc | apply Grew.drew | apply Grew.drewN | (refine Grew.setCell ?_ (by simp; try omega) _) | (refine Grew.trans ?_ (by assumption)))))) HS.out hn (HR.out.grew (by (repeat (with_reducible first | exact Grew.refl _ | assumption | apply Grew.alloc | apply Grew.drew | apply Grew.drewN | (refine Grew.setCell ?_ (by simp; try omega) _) | (refine Grew.trans ?_ (by assumption)))))) hl hd).mono ?_; rintro e w1 ⟨rfl, h1⟩)
    go_ret2
    go_light
    exact ⟨none, 0, by rw [HF.out]; rfl, by rw [HF.out]; exact Own.none_, ((Grew.refl w).alloc _).alloc _ |>.trans h1⟩
  have HA := Lib.hid ha
  cases hb : stopB x.ce x.fr x.un
  · have HF := Lib.hid (show repF J L x = ([], false) by simp [repF, hb])
    have HB := Lib.hid hb
    clear ha hb
    obtain ⟨xc, xf, xu⟩ := x
    go_enter Try.func29, Try.ntmps29
    go_wp2_with (go_at_call 51; refine (schE_impl HA.out _ _ _ _ _ (HL.out.grew (by (repeat (with_reducible first | exact Grew.refl _ | assumption | apply Grew.alloc | apply Grew.drew | apply Grew.drewN | (refine Grew.setCell ?_ (by simp; try omega) _) | (refine Grew.trans ?_ (by assumption)))))) HS.out hn (HR.out.grew (by (repeat (with_reducible first | exact Grew.refl _ | assumption | apply Grew.alloc | apply Grew.drew | apply Grew.drewN | (refine Grew.setCell ?_ (by simp; try omega) _) | (refine Grew.trans ?_ (by assumption)))))) hl hd).mono ?_; rintro e w1 ⟨rfl, h1⟩; have HG1 := Lib.hid ((((Grew.refl w).alloc _).alloc _).trans h1); have hz_w1_0 : w.heap.size < w1.heap.size := Nat.lt_of_lt_of_le (by first | (simp +arith; done) | (simp; omega) | omega) h1.le; have hb_w1_0 := fun o => h1.rules.1 w.heap.size o (by first | (simp +arith; done) | (simp; omega) | omega); have hf_w1_0 := fun o => h1.rules.2 w.heap.size o (by first | (simp +arith; done) | (simp; omega) | omega); (try simp [World.cell?_alloc_past, World.frozen?_alloc_past, Nat.lt_add_right] at hb_w1_0 hf_w1_0); have hz_w1_1 : (w.heap.size + 1) < w1.heap.size := Nat.lt_of_lt_of_le (by first | (simp +arith; done) | (simp; omega) | omega) h1.le; have hb_w1_1 := fun o => h1.rules.1 (w.heap.size + 1) o (by first | (simp +arith; done) | (simp; omega) | omega); have hf_w1_1 := fun o => h1.rules.2 (w.heap.size + 1) o (by first | (simp +arith; done) | (simp; omega) | omega); (try simp [World.cell?_alloc_past, World.frozen?_alloc_past, Nat.lt_add_right] at hb_w1_1 hf_w1_1))
    refine (stopE_impl (x := ⟨xc, xf, xu⟩) HB.out _ HXS.out).mono ?_; rintro e w2 ⟨rfl, h2⟩
    go_wp2_with fail
    go_ret2
    go_light
    exact ⟨none, 0, by rw [HF.out]; rfl, by rw [HF.out]; exact Own.none_, HG1.out.trans h2⟩
  have HF := Lib.hid (show repF J L x = (rpT L (ordF L) x L.length, true) by simp [repF, ha, hb])
  have HB := Lib.hid hb
  have h30 := (sch_at ha).1
  have HSL := Lib.hid (sch_at ha).2
  have HU := Lib.hid (show 0 ≤ x.un ∧ x.un ≤ 100000 from by
    have := hb
    simp only [stopB, Bool.and_eq_true, inB_iff] at this
    omega)
  clear ha hb
  obtain ⟨xc, xf, xu⟩ := x
  go_enter Try.func29, Try.ntmps29
  go_wp2_with (go_at_call 51; refine (schE_impl HA.out _ _ _ _ _ (HL.out.grew (by (repeat (with_reducible first | exact Grew.refl _ | assumption | apply Grew.alloc | apply Grew.drew | apply Grew.drewN | (refine Grew.setCell ?_ (by simp; try omega) _) | (refine Grew.trans ?_ (by assumption)))))) HS.out hn (HR.out.grew (by (repeat (with_reducible first | exact Grew.refl _ | assumption | apply Grew.alloc | apply Grew.drew | apply Grew.drewN | (refine Grew.setCell ?_ (by simp; try omega) _) | (refine Grew.trans ?_ (by assumption)))))) hl hd).mono ?_; rintro e w1 ⟨rfl, h1⟩; have HG1 := Lib.hid ((((Grew.refl w).alloc _).alloc _).trans h1); have hz_w1_0 : w.heap.size < w1.heap.size := Nat.lt_of_lt_of_le (by first | (simp +arith; done) | (simp; omega) | omega) h1.le; have hb_w1_0 := fun o => h1.rules.1 w.heap.size o (by first | (simp +arith; done) | (simp; omega) | omega); have hf_w1_0 := fun o => h1.rules.2 w.heap.size o (by first | (simp +arith; done) | (simp; omega) | omega); (try simp [World.cell?_alloc_past, World.frozen?_alloc_past, Nat.lt_add_right] at hb_w1_0 hf_w1_0); have hz_w1_1 : (w.heap.size + 1) < w1.heap.size := Nat.lt_of_lt_of_le (by first | (simp +arith; done) | (simp; omega) | omega) h1.le; have hb_w1_1 := fun o => h1.rules.1 (w.heap.size + 1) o (by first | (simp +arith; done) | (simp; omega) | omega); have hf_w1_1 := fun o => h1.rules.2 (w.heap.size + 1) o (by first | (simp +arith; done) | (simp; omega) | omega); (try simp [World.cell?_alloc_past, World.frozen?_alloc_past, Nat.lt_add_right] at hb_w1_1 hf_w1_1))
  have HXB1 := Lib.hid (show XB w.heap.size (w.heap.size + 1) (.slice B L.length d) ⟨xc, xf, xu⟩ w1 from
    ⟨⟨hb_w1_0 0, hz_w1_0⟩, by
      have := ((Bx.new_ (E := Stp.E) (w.alloc (.cells #[.slice B L.length d] 32)) ⟨xc, xf, xu⟩ 26).grew h1)
      simpa using this⟩)
  refine (stopE_impl (x := ⟨xc, xf, xu⟩) HB.out _ HXS.out).mono ?_; rintro e w2 ⟨rfl, h2⟩
  have HXB := Lib.hid (HXB1.out.grew h2)
  have HG2 := Lib.hid (HG1.out.trans h2)
  clear h1 h2 hz_w1_0 hb_w1_0 hf_w1_0 hz_w1_1 hb_w1_1 hf_w1_1 HG1 HXB1
  obtain ⟨bs, hbs⟩ : ∃ q, q = w.heap.size := ⟨_, rfl⟩
  obtain ⟨bx, hbx⟩ : ∃ q, q = w.heap.size + 1 := ⟨_, rfl⟩
  rw [← hbx, ← hbs] at HXB ⊢
  have HBS := Lib.hid hbs
  clear hbs hbx
  have hsb := HXB.out.1.1
  have hsz := HXB.out.1.2
  go_wp2_with fail
  have HO1 := Lib.hid (Own.new_ (E := IntS.E) (t := 3) (Nat.le_refl w2.heap.size))
  go_loopw [8, 29] (fun o i wr => ∃ (k : Nat) (A' : Option Addr) (c' : Nat), k ≤ L.length ∧ i = .int .i64 k ∧ o = .slice A' k c' ∧ Own IntS.E 3 wr w2.heap.size (.slice A' k c') (idxs k) ∧ Grew w2 wr) (fun _ i _ => L.length - (intOf i).toNat)
  case atStart => exact ⟨0, _, _, Nat.zero_le _, rfl, rfl, HO1.out, (Grew.refl w2).alloc _⟩
  case round =>
    obtain ⟨k, A', c', hk, rfl, rfl, hown, hg⟩ := hrel
    have HO := Lib.hid hown
    have HG := Lib.hid hg
    clear hown hg HO1 hsb hsz
    by_cases hlt : k < L.length
    · go_wp2_with (at_builtin; refine wpList_append_rd _ rfl (.tmp 32) (.tmp 34) _ rfl sl_Int w2.heap.size _ _ _ (idxs k) rfl (Own.alloc HO.out _) _ _ _ [(k : Int)] rfl rfl (rd_new (E := IntS.E) _ (k : Int) _ (by simp)) (by simp only [List.length_cons, List.length_nil, idxs_len]; omega) (by have := HG.out.le; simp; omega) ?_; intro A2 c2 w3 ho2 hgr2 hat2)
      go_roundw
      case rel => go_light; exact ⟨k + 1, A2, c2, by omega, by go_num, rfl, by rw [idxs_succ]; exact ho2, (HG.out.alloc _).app (Own.alloc HO.out _) (Nat.le_refl _) hgr2⟩
      case measure => go_light; simp [intOf]; omega
    · obtain rfl : k = L.length := by omega
      have hmf : ∀ (fn : Fn) (first cap : Array Value) (w : World), (Instr.makeFunc fn first cap).run Try.prog w = .ok (.func fn first cap) w := fun _ _ _ _ => rfl
      have HSRT := Lib.hid (show Srt w2 (fun a => ∃ k : Nat, k < L.length ∧ a = k) (cmpS L) (ltS L) ⟨bs, 0, none⟩ (idxs L.length) from
        ⟨fun a b ⟨ka, hka, ea⟩ ⟨kb, hkb, eb⟩ w' hg => by
          subst ea eb
          exact cmp_any L B d HSL.out h30 ka kb hka hkb bs w' (HR.out.grew (HG2.out.trans hg)) (HXB.out.grew hg).1.1, ltS_tr L, idxs_okp L _, fun a ha => idxs_mem.1 ha⟩)
      go_wp2_with fail
      refine (sortStable_any w2 _ (cmpS L) (ltS L) ⟨bs, 0, none⟩ (idxs L.length) HSRT.out A' L.length c' (idxs_len _).symm h30 _ HG.out HO.out).mono ?_; rintro e w4 ⟨rfl, ⟨M, hM1, hM2, hM3⟩, hg4⟩
      obtain rfl := ord_uniq hM1 hM2
      have HO4 := Lib.hid hM3
      have HG4 := Lib.hid hg4
      have HGW := Lib.hid (HG2.out.trans hg4)
      have HX4 := Lib.hid (HXB.out.grew hg4)
      have hsb := HX4.out.1.1
      have hsz := HX4.out.1.2
      clear hM1 hM2 hM3 hg4 HO HG HSRT hmf
      go_wp2_with (at_builtin; refine wpList_append_rd _ rfl (.tmp 40) (.tmp 41) _ rfl sl_Slt w4.heap.size _ _ _ ([] : List Slt) rfl (Own.new_ (Nat.le_refl _)) _ _ _ L rfl rfl (HR.out.grew (HGW.out.alloc _)) (by simp only [List.length_nil]; omega) (by simp) ?_; intro A5 c5 w5 ho5 hgr5 hat5)
      have HG5 := Lib.hid (show Grew w4 w5 from ((Grew.refl w4).alloc _).app (E := Slt.E) (Own.new_ (Nat.le_refl _)) (Nat.le_refl _) hgr5)
      have HM := Lib.hid (show RM w w5 (XB bs bx (.slice B L.length d) ⟨xc, xf, xu⟩) L (ordF L) (.slice A5 L.length c5) (.slice A' L.length c') from by
        have ho6 : Own Slt.E 56 w5 w4.heap.size (.slice A5 L.length c5) L := by simpa using ho5
        refine ⟨HGW.out.trans HG5.out, ho6.mono HGW.out.le, (HO4.out.grew HG5.out).mono HG2.out.le, HX4.out.grew HG5.out, fun k e1 e2 => ?_, fun wa wb row hgr hrow hb => hb.kept hgr (fun e => ?_) (fun e => ?_)⟩
        · have h1 := (ho6.block k e1).1; have h2 := (HO4.out.block k e2).2; omega
        · have h1 := (ho6.block _ (hrow _ e)).1; have h2 := HX4.out.1.2; omega
        · have h1 := (ho6.block _ (hrow _ e)).1; have h2 := HX4.out.2.1; omega)
      clear ho5 hgr5 hat5 hsb hsz HG5 HO4 HX4
      (try simp only [Nat.zero_add])
      go_wp2_with fail
      obtain ⟨wo, hwo⟩ : ∃ wo : World, wo = w5 := ⟨_, rfl⟩
      subst hwo
      go_loopw [45] (fun i wr => ∃ n : Nat, n ≤ L.length ∧ i = .int .i64 n ∧ RM w wr (XB bs bx (.slice B L.length d) ⟨xc, xf, xu⟩) (rpT L (ordF L) ⟨xc, xf, xu⟩ n) (ordF L) (.slice A5 L.length c5) (.slice A' L.length c')) (fun i _ => L.length - (intOf i).toNat)
      case atStart => exact ⟨0, Nat.zero_le _, rfl, HM.out⟩
      case round =>
        obtain ⟨n, hn2, rfl, hm⟩ := hrel
        have HM2 := Lib.hid hm
        clear hm HM
        by_cases hlt : n < L.length
        · have HOK := Lib.hid (rp_ok (x := ⟨xc, xf, xu⟩) HSL.out HU.out n hn2)
          have hat := ordF_at hlt
          obtain ⟨s, hs⟩ : ∃ s, L[atO (ordF L) n]? = some s := ⟨_, List.getElem?_eq_getElem hat.2⟩
          have HAT := Lib.hid (fun k (hk : k < L.length) => ordF_at hk)
          have HSB := Lib.hid (HSL.out s (List.mem_of_getElem? hs))
          have HSTEP := Lib.hid (show rpT L (ordF L) ⟨xc, xf, xu⟩ (n + 1) = (rpT L (ordF L) ⟨xc, xf, xu⟩ n).set (atO (ordF L) n) (mvF ⟨xc, xf, xu⟩ s (rpSt (rpT L (ordF L) ⟨xc, xf, xu⟩ n) (ordF L) s n)) by
            simp only [rpT]
            rw [show L.getD (atO (ordF L) n) slt0 = s by simp [List.getD_eq_getElem?_getD, hs]])
          have HOS := Lib.hid (show (rpT L (ordF L) ⟨xc, xf, xu⟩ n)[atO (ordF L) n]? = some s from (HOK.out.rest n (Nat.le_refl _) hlt).trans hs)
          obtain ⟨out, hout⟩ : ∃ out, out = rpT L (ordF L) ⟨xc, xf, xu⟩ n := ⟨_, rfl⟩
          rw [← hout] at HM2 HOK HSTEP HOS
          obtain ⟨O, hO⟩ : ∃ O, O = ordF L := ⟨_, rfl⟩
          have HOL := Lib.hid (show O.length = L.length by rw [hO, ordF_len])
          rw [← hO] at HM2 HOK HSTEP HOS hat HAT hs ⊢
          obtain ⟨i0, hi0⟩ : ∃ q, q = atO O n := ⟨_, rfl⟩
          rw [← hi0] at HSTEP HOS hat hs
          have HRB := Lib.hid (fun k hk => rpSt_b HOK.out (fun k hk => (HAT.out k hk).2) (s := s) HSB.out.1 k hk)
          obtain ⟨g, cg, hv, hg1, hg2⟩ := HM2.out.oo.addr (by rw [HOK.out.len]; omega)
          rw [HOK.out.len] at hv
          simp only [Value.slice.injEq, true_and] at hv
          obtain ⟨hA5, rfl⟩ := hv
          subst hA5
          obtain ⟨g2, c6, hv, hg3, hg4⟩ := HM2.out.on.addr (by rw [HOL.out]; omega)
          rw [HOL.out] at hv
          simp only [Value.slice.injEq, true_and] at hv
          obtain ⟨hA6, hc6⟩ := hv
          subst hA6
          subst hc6
          obtain ⟨bl, ol, hB, hbl, hcc⟩ := (HR.out.grew HM2.out.g).at_ hat.2
          subst hB
          obtain ⟨hl0, hl1, hl2, hl3, hl4⟩ := Slt.at_ hcc hs
          have hcn := HM2.out.num hat.1
          have hsb := HM2.out.x.1.1
          have hsz := HM2.out.x.1.2
          have hi1 : (0 : Int) ≤ (i0 : Int) := by omega
          have hi2 : (i0 : Int) < (L.length : Int) := by have := hat.2; omega
          have hi3 : (n : Int) < (L.length : Int) := by omega
          have hcap := HM2.out.on.cap.2.1
          have hcp : (n : Int) ≤ (c' : Int) := by omega
          have HOUT := Lib.hid hout
          have HATN := Lib.hid hat
          clear hs hout hO hi0 hat hcc
          go_upto_region 16 with fail
          obtain ⟨ww, hww⟩ : ∃ w2, w2 = wr.alloc (.cells (Slt.E.enc s).toArray 56) := ⟨_, rfl⟩
          obtain ⟨bq, hbq⟩ : ∃ q, q = wr.heap.size := ⟨_, rfl⟩
          have HS2 := Lib.hid (show Bx Slt.E ww bq s by rw [hww, hbq]; exact Bx.new_ wr s _)
          have HBG := Lib.hid (show bq ≠ g by omega)
          have HM3 := Lib.hid (show RM w ww (XB bs bx (.slice (some ⟨bl, ol, none⟩) L.length d) ⟨xc, xf, xu⟩) out O (.slice (some ⟨g, 0, none⟩) L.length c5) (.slice (some ⟨g2, 0, none⟩) L.length c') by rw [hww]; exact HM2.out.grew ((Grew.refl _).alloc _))
          simp only [Slt.E] at hww
          rw [← hww, ← hbq]
          clear hww hbq hcn hl0 hl1 hl2 hl3 hl4 HM2 hg1 hg2 hg3 hg4 hsb hsz hcap
          go_wp2_with fail
          obtain ⟨wo2, hwo2⟩ : ∃ wo2 : World, wo2 = ww := ⟨_, rfl⟩
          subst hwo2
          go_loopw [14, 60] (fun tv i wr3 => ∃ k : Nat, k ≤ n ∧ i = .int .i64 k ∧ tv = .int .i64 (rpSt out O s k) ∧ Bx Slt.E wr3 bq s ∧ RM w wr3 (XB bs bx (.slice (some ⟨bl, ol, none⟩) L.length d) ⟨xc, xf, xu⟩) out O (.slice (some ⟨g, 0, none⟩) L.length c5) (.slice (some ⟨g2, 0, none⟩) L.length c')) (fun _ i _ => n - (intOf i).toNat)
          case atStart => exact ⟨0, Nat.zero_le _, rfl, rfl, HS2.out, HM3.out⟩
          case round =>
            obtain ⟨k, hk, rfl, rfl, hbs, hm⟩ := hrel
            have HM4 := Lib.hid hm
            have HS4 := Lib.hid hbs
            clear hm hbs HM3 HS2
            have hrb := HRB.out k (by omega)
            obtain ⟨hrb1, hrb2⟩ := hrb
            by_cases hlt2 : k < n
            · have hat := HAT.out k (by omega)
              obtain ⟨z, hz⟩ : ∃ z, L[atO O k]? = some z := ⟨_, List.getElem?_eq_getElem hat.2⟩
              obtain ⟨y, hy, ye1, ye2, ye3, hy4, hy5, hy6⟩ := HOK.out.same _ z hz
              have HFS := Lib.hid (show rpSt out O s (k + 1) = if nearB z s = true then max (rpSt out O s k) y.en else rpSt out O s k by
                rw [show nearB z s = nearB y s by simp [nearB, ye1, ye3]]
                simp [rpSt, List.getD_eq_getElem?_getD, hy])
              obtain ⟨ik, hik⟩ : ∃ q, q = atO O k := ⟨_, rfl⟩
              rw [← hik] at hat hy hz
              have hcn := HM4.out.num hat.1
              have HY := Lib.hid hy
              obtain ⟨b9, o9, hB, hbl2, hcc⟩ := (HR.out.grew HM4.out.g).at_ hat.2
              simp only [Option.some.injEq, Addr.mk.injEq, and_true] at hB
              obtain ⟨rfl, rfl⟩ := hB
              obtain ⟨hl0, hl1, hl2, hl3, hl4⟩ := Slt.at_ hcc hz
              have hj1 : (0 : Int) ≤ (ik : Int) := by omega
              have hj2 : (ik : Int) < (L.length : Int) := by have := hat.2; omega
              have hj3 : (k : Int) < (n : Int) := by omega
              obtain ⟨rk, hrk⟩ : ∃ v, v = rpSt out O s k := ⟨_, rfl⟩
              rw [← hrk] at hrb1 hrb2 HFS ⊢
              have hsb := HM4.out.x.1.1
              have hsz := HM4.out.x.1.2
              obtain ⟨hx0, hx1, hx2, hx3, hx4, hxs, hxf⟩ := Slt.bx HS4.out
              clear hz hik hat hy hrk hy4 hy5 hy6 ye1 ye2 ye3 hcc hxf
              obtain ⟨nb, hnb⟩ : ∃ v, nearB z s = v := ⟨_, rfl⟩
              have HNB := Lib.hid hnb
              clear hnb
              go_upto_region 19 with fail
              go_cut [81] (fun s' wx => s' = .bool nb ∧ Bx Slt.E wx bq s ∧ RM w wx (XB bs bx (.slice (some ⟨bl, ol, none⟩) L.length d) ⟨xc, xf, xu⟩) out O (.slice (some ⟨g, 0, none⟩) L.length c5) (.slice (some ⟨g2, 0, none⟩) L.length c'))
              case first =>
                by_cases ha : z.jb = s.jb
                · have ha2 : (z.jb == s.jb) = true := by simp [ha]
                  have HV := Lib.hid (show nb = true by rw [← HNB.out]; simp [nearB, ha])
                  (refine wp_region_grow_lit (by kernel_rfl) (by kernel_rfl) ?_; repeat (any_goals (first | go_big_quiet_step ((fail)) | quiet_step ((fail)) | (refine wpQuiet_step (fun K hK => ?_); go_simp; split <;> rename_i hsp <;> (refine hK _ ?_; clear hK K) <;> (try first | simp only [hsp, decide_true, decide_false, Bool.not_true, Bool.not_false] | simp only [Int.not_le.2 hsp, decide_false, Bool.not_false] | simp only [Int.not_lt.2 hsp, decide_false, Bool.not_false] | simp only [Nat.not_le.2 hsp, decide_false, Bool.not_false] | simp only [Nat.not_lt.2 hsp, decide_false, Bool.not_false])))))
                  all_goals (refine wpQuiet_nil ?_; intro wqq hqq)
                  go_wp2_with fail
                  go_meet
                  exact ⟨by rw [HV.out], HS4.out.grew hqq, HM4.out.grew hqq⟩
                · have ha2 : (z.jb == s.jb) = false := by simp [ha]
                  by_cases hc : z.ce.toList = s.ce.toList
                  · have hc2 : (z.ce.toList == s.ce.toList) = true := by simp [hc]
                    have HV := Lib.hid (show nb = true by rw [← HNB.out]; simp [nearB, hc])
                    (refine wp_region_grow_lit (by kernel_rfl) (by kernel_rfl) ?_; repeat (any_goals (first | go_big_quiet_step ((fail)) | quiet_step ((fail)) | (refine wpQuiet_step (fun K hK => ?_); go_simp; split <;> rename_i hsp <;> (refine hK _ ?_; clear hK K) <;> (try first | simp only [hsp, decide_true, decide_false, Bool.not_true, Bool.not_false] | simp only [Int.not_le.2 hsp, decide_false, Bool.not_false] | simp only [Int.not_lt.2 hsp, decide_false, Bool.not_false] | simp only [Nat.not_le.2 hsp, decide_false, Bool.not_false] | simp only [Nat.not_lt.2 hsp, decide_false, Bool.not_false])))))
                    all_goals (refine wpQuiet_nil ?_; intro wqq hqq)
                    go_wp2_with fail
                    go_meet
                    exact ⟨by rw [HV.out], HS4.out.grew hqq, HM4.out.grew hqq⟩
                  · have hc2 : (z.ce.toList == s.ce.toList) = false := by simp [hc]
                    have HV := Lib.hid (show nb = false by rw [← HNB.out]; simp [nearB, ha, hc])
                    (refine wp_region_grow_lit (by kernel_rfl) (by kernel_rfl) ?_; repeat (any_goals (first | go_big_quiet_step ((fail)) | quiet_step ((fail)) | (refine wpQuiet_step (fun K hK => ?_); go_simp; split <;> rename_i hsp <;> (refine hK _ ?_; clear hK K) <;> (try first | simp only [hsp, decide_true, decide_false, Bool.not_true, Bool.not_false] | simp only [Int.not_le.2 hsp, decide_false, Bool.not_false] | simp only [Int.not_lt.2 hsp, decide_false, Bool.not_false] | simp only [Nat.not_le.2 hsp, decide_false, Bool.not_false] | simp only [Nat.not_lt.2 hsp, decide_false, Bool.not_false])))))
                    all_goals (refine wpQuiet_nil ?_; intro wqq hqq)
                    go_wp2_with fail
                    go_meet
                    exact ⟨by rw [HV.out], HS4.out.grew hqq, HM4.out.grew hqq⟩
              obtain ⟨rfl, hbs, hm⟩ := hcut
              have HS6 := Lib.hid hbs
              have HM6 := Lib.hid hm
              clear hbs hm HS4 HM4 hcn hl0 hl1 hl2 hl3 hl4 hsb hsz hx0 hx1 hx2 hx3 hx4 hxs
              cases nb
              · have HE := Lib.hid (show rpSt out O s (k + 1) = rk by rw [HFS.out, HNB.out]; rfl)
                go_wp2_with fail
                go_roundw
                case rel => go_light; exact ⟨k + 1, by omega, by go_num, by rw [HE.out], HS6.out, HM6.out⟩
                case measure => go_light; simp [intOf]; omega
              · have HE := Lib.hid (show rpSt out O s (k + 1) = max rk y.en by rw [HFS.out, HNB.out]; rfl)
                obtain ⟨hy0, hy1, hy2, hy3, hy4⟩ := HM6.out.cells HY.out
                go_wp2_with fail
                all_goals
                  go_roundw
                  case rel => go_light; exact ⟨k + 1, by omega, by go_num, congrArg (Value.int .i64) (by rw [HE.out]; omega), HS6.out, HM6.out⟩
                  case measure => go_light; simp [intOf]; omega
            · obtain rfl : k = n := by omega
              obtain ⟨t, ht⟩ : ∃ v, v = rpSt out O s k := ⟨_, rfl⟩
              rw [← ht] at hrb1 hrb2 HSTEP ⊢
              have HT := Lib.hid ht
              clear ht
              obtain ⟨hb1, hb2, hb3⟩ := HSB.out
              obtain ⟨hb4, hb5⟩ := hb1
              obtain ⟨hx0, hx1, hx2, hx3, hx4, hxs, hxf⟩ := Slt.bx HS4.out
              obtain ⟨hp0, hp1, hp2, hps, hpf⟩ := Stp.bx3 HM4.out.x.2
              simp only at hp0 hp1 hp2
              have hw1 : IntKind.i64.wrap (t + s.en) = t + s.en := IntWalk.i64_in _ (by omega)
              have hw2 : IntKind.i64.wrap (t + s.en - s.st) = t + s.en - s.st := IntWalk.i64_in _ (by omega)
              obtain ⟨hb, hhb⟩ : ∃ v, hitB s.ce t (t + s.en - s.st) xc xf xu = v := ⟨_, rfl⟩
              have HHB := Lib.hid hhb
              have HMV := Lib.hid (show (mvT ⟨xc, xf, xu⟩ s t) = if hb = true then xu else t by rw [mvT, ← hhb, show t + s.en - s.st = t + (s.en - s.st) by omega])
              clear hhb
              obtain ⟨u, hu⟩ : ∃ v, v = (mvT ⟨xc, xf, xu⟩ s t) := ⟨_, rfl⟩
              rw [← hu] at HMV
              have HU2 := Lib.hid hu
              clear hu
              have hub : 0 ≤ u ∧ u ≤ 1001000 + 1000 * (k : Int) := by
                have := HMV.out
                have := HU.out
                cases hb <;> simp at this ⊢ <;> simp_all <;> omega
              obtain ⟨hu1, hu2⟩ := hub
              go_upto_if 101 with (go_at_call 40; refine (overE (x := ⟨xc, xf, xu⟩) HHB.out _).mono ?_; rintro e w9 ⟨rfl, h9⟩)
              have HS5 := Lib.hid (HS4.out.grew h9)
              have HM5 := Lib.hid (HM4.out.grew h9)
              clear hx0 hx1 hx2 hx3 hx4 hxs hxf hp0 hp1 hp2 hps hpf HS4 HM4 h9
              go_cut [14] (fun s' wx => s' = .int .i64 u ∧ Bx Slt.E wx bq s ∧ RM w wx (XB bs bx (.slice (some ⟨bl, ol, none⟩) L.length d) ⟨xc, xf, xu⟩) out O (.slice (some ⟨g, 0, none⟩) L.length c5) (.slice (some ⟨g2, 0, none⟩) L.length c'))
              case first =>
                obtain ⟨hp0, hp1, hp2, hps, hpf⟩ := Stp.bx3 HM5.out.x.2
                simp only at hp0 hp1 hp2
                cases hb
                · have HV := Lib.hid (show u = t by rw [HMV.out]; rfl)
                  go_wp2_with fail
                  go_meet
                  exact ⟨by rw [HV.out], HS5.out, HM5.out⟩
                · have HV := Lib.hid (show u = xu by rw [HMV.out]; rfl)
                  go_wp2_with fail
                  go_meet
                  exact ⟨by rw [HV.out], HS5.out, HM5.out⟩
              obtain ⟨rfl, hbs, hm⟩ := hcut
              have HM6 := Lib.hid hm
              have HS6 := Lib.hid hbs
              clear hm hbs HM5 HS5 hw1 hw2
              obtain ⟨hs0, hs1, hs2, hs3, hs4⟩ := HM6.out.cells HOS.out
              have hfz := HM6.out.oo.frozen
              go_upto_region 25 with fail
              have HM7 := Lib.hid (HM6.out.start (t := u) HOS.out)
              have HS7 := Lib.hid (HS6.out.far (p := ⟨g, i0 * 5 + 3, none⟩) (fun e => by
                exact HBG.out e.symm) (.int .i64 u))
              generalize (wc.setCell ⟨g, i0 * 5 + 3, none⟩ (.int .i64 u)) = w9 at *
              clear hs0 hs1 hs2 hs3 hs4 hfz HM6 HS6
              have hol : i0 < out.length := by rw [HOK.out.len]; omega
              have HM8 := Lib.hid (HM7.out.stop (i := i0) (t := u + (s.en - s.st)) (List.getElem?_set_self hol))
              have HFI := Lib.hid (show (out.set i0 ⟨s.jb, s.sp, s.ce, u, s.en⟩).set i0 ⟨s.jb, s.sp, s.ce, u, u + (s.en - s.st)⟩ = rpT L O ⟨xc, xf, xu⟩ (k + 1) by
                rw [List.set_set, HSTEP.out, mvF, ← HU2.out])
              have hfz := HM7.out.oo.frozen
              have hs4 := (HM7.out.cells (List.getElem?_set_self hol)).2.2.2.2
              simp only at hs4
              obtain ⟨hx0, hx1, hx2, hx3, hx4, hxs, hxf⟩ := Slt.bx HS7.out
              have hw3 : IntKind.i64.wrap (u + s.en) = u + s.en := IntWalk.i64_in _ (by omega)
              have hw4 : IntKind.i64.wrap (u + s.en - s.st) = u + s.en - s.st := IntWalk.i64_in _ (by omega)
              have HEQ := Lib.hid (show u + (s.en - s.st) = u + s.en - s.st by omega)
              rw [HEQ.out] at HM8
              clear hol hx0 hx1 hx2 HM7 HS7
              go_wp2_with fail
              go_roundw
              case rel => go_light; exact ⟨k + 1, by omega, by go_num, by rw [← HFI.out, HEQ.out]; exact HM8.out⟩
              case measure => go_light; simp [intOf]; omega
        · obtain rfl : n = L.length := by omega
          go_wp2_with fail
          go_ret2
          go_light
          have hlen := (rp_ok (x := ⟨xc, xf, xu⟩) HSL.out HU.out L.length (Nat.le_refl _)).len
          refine ⟨A5, c5, by rw [HF.out, hlen]; rfl, ?_, HM2.out.g⟩
          rw [HF.out, hlen]
          exact HM2.out.oo
end Go.Proofs.Ytembbgkhmnalpaa
