/- The law on repairing: a repaired schedule keeps the stop and the order, moves nothing to an earlier time, and nothing without a reason. Conditions: none. -/
import Derived.Test.YtembbgkhmnalpaaRepI
import Derived.Test.YtembbgkhmnalpaaRepS
import Derived.Test.YtembbgkhmnalpaaRpd
import Derived.Test.YtembbgkhmnalpaaDrawJ
import Derived.Test.YtembbgkhmnalpaaLift
namespace Go.Proofs.Ytembbgkhmnalpaa
open Go.ChangeShapes Go.WideShapes Go.ChangeAt Go.RowKit Go.Joins Go.Deep
set_option linter.unusedVariables false
set_option linter.unusedSimpArgs false

theorem big_any (l : List UInt8) (A : Option Addr) (c : Nat) (w : World) (hl : l.length ≤ maxLen) :
    Calls Try.prog 30 #[.slice A l.length c] w fun e w' => e = .returned (.bool (decide ((1048576 : Int) < l.length))) ∧ w = w' := by
  unfold maxLen at hl
  go_enter Try.func30, Try.ntmps30
  go_wp2_with fail
  go_ret
  go_light
  exact ⟨rfl, rfl⟩
theorem repE_impl {J : List Jb} {L r : List Slt} {x : Stp} {v : Bool} {k : Nat} (hF : repF J L x = (r, v)) (hk : r.length = k) (A : Option Addr) (c : Nat) (B : Option Addr) (d : Nat) (w : World) (h : RdJ w A J) (hs : JSm J) (hn : J.length ≤ 4194304) (hr : Rd Slt.E w B L) (hl : L.length ≤ 4194304) (hd : L.length ≤ d) (hx : x.ce.size ≤ maxLen) :
    Calls Try.prog 29 #[.slice A J.length c, .slice B L.length d, x.v] w fun e w' => ∃ A' c', e = .returned (.tuple #[.slice A' k c', .bool v]) ∧ Rd Slt.E w' A' r ∧ Grew w w' := by
  subst hk
  have := repair_impl J A c L B d x w h hs hn hr hl hd hx
  rw [hF] at this
  exact this.mono (by rintro e w' ⟨A', c', rfl, h1, h2⟩; exact ⟨A', c', rfl, h1.rd, h2⟩)
theorem repE_spec {J : List Jb} {L r : List Slt} {x : Stp} {v : Bool} {k : Nat} (hF : repF J L x = (r, v)) (hk : r.length = k) (A : Option Addr) (c : Nat) (B : Option Addr) (d : Nat) (w : World) (h : RdJ w A J) (hs : JSm J) (hn : J.length ≤ 4194304) (hr : Rd Slt.E w B L) (hl : L.length ≤ 4194304) (hx : x.ce.size ≤ maxLen) :
    Calls Try.prog 28 #[.slice A J.length c, .slice B L.length d, x.v] w fun e w' => ∃ A' c', e = .returned (.tuple #[.slice A' k c', .bool v]) ∧ Rd Slt.E w' A' r ∧ Grew w w' := by
  subst hk
  have := repair_spec J A c L B d x w h hs hn hr hl hx
  rw [hF] at this
  exact this.mono (by rintro e w' ⟨A', c', rfl, h1, h2⟩; exact ⟨A', c', rfl, h1.rd, h2⟩)
theorem schK {J : List Jb} {r : List Slt} {v : Bool} {k : Nat} (hv : schB J r = v) (hk : r.length = k) (A : Option Addr) (c : Nat) (B : Option Addr) (d : Nat) (w : World) (h : RdJ w A J) (hs : JSm J) (hn : J.length ≤ 4194304) (hr : Rd Slt.E w B r) (hl : k ≤ 4194304) :
    Calls Try.prog 32 #[.slice A J.length c, .slice B k d] w fun e w' => e = .returned (.bool v) ∧ Grew w w' := by
  subst hk
  exact schE_spec hv A c B d w h hs hn hr hl
theorem keepK {r : List Slt} {x : Stp} {v : Bool} {k : Nat} (hv : keepsB r x = v) (hk : r.length = k) (A : Option Addr) (c : Nat) (w : World) (hs : x.ce.size ≤ maxLen) (h : Rd Slt.E w A r) (hn : k ≤ 4194304) :
    Calls Try.prog 18 #[.slice A k c, x.v] w fun e w' => e = .returned (.bool v) ∧ Grew w w' := by
  subst hk
  exact hv ▸ keepsStop_spec r A c x w hs h hn
theorem movedK {l m : List Slt} {v : Int} {k : Nat} (hv : movedF l m = v) (hk : m.length = k) (A : Option Addr) (c : Nat) (B : Option Addr) (d : Nat) (w : World) (h : Rd Slt.E w A l) (hn : l.length ≤ 4194304) (h' : Rd Slt.E w B m) (hm : k ≤ 4194304) :
    Calls Try.prog 16 #[.slice A l.length c, .slice B k d] w fun e w' => e = .returned (.int .i64 v) ∧ Grew w w' := by
  subst hk
  exact hv ▸ movedOf_impl l A c m B d w h hn h' hm
theorem Rd.sl {w : World} {b o : Nat} {L : List Slt} (h : Rd Slt.E w (some ⟨b, o, none⟩) L) {i : Nat} {s : Slt} (hs : L[i]? = some s) :
    w.cell? ⟨b, o + i * 5, none⟩ = some (.int .i64 s.jb) ∧ w.cell? ⟨b, o + i * 5 + 1, none⟩ = some (.int .i64 s.sp) ∧ w.cell? ⟨b, o + i * 5 + 2, none⟩ = some (.string s.ce) ∧ w.cell? ⟨b, o + i * 5 + 3, none⟩ = some (.int .i64 s.st) ∧ w.cell? ⟨b, o + i * 5 + 4, none⟩ = some (.int .i64 s.en) := by
  obtain ⟨b9, o9, e9, _, hc⟩ := h.at_ (List.getElem?_eq_some_iff.1 hs).1
  simp only [Option.some.injEq, Addr.mk.injEq, and_true] at e9
  obtain ⟨rfl, rfl⟩ := e9
  exact Slt.at_ hc hs
/-- Whether a reason is found among the first k slots. -/
def rsnT (r : List Slt) (y : Slt) (b : Bool) : Nat → Bool
  | 0 => b
  | k + 1 => rsnT r y b k || (nearB (r.getD k slt0) y && decide (y.st = (r.getD k slt0).en))
theorem rsnT_mono {r : List Slt} {y : Slt} {b : Bool} : ∀ {n k : Nat}, k ≤ n → rsnT r y b k = true → rsnT r y b n = true
  | 0, k, h, hk => by rw [show k = 0 by omega] at hk; exact hk
  | n + 1, k, h, hk => by
    rcases Nat.lt_succ_iff_lt_or_eq.1 (Nat.lt_succ_of_le h) with h1 | rfl
    · simp only [rsnT, rsnT_mono (show k ≤ n by omega) hk, Bool.true_or]
    · exact hk
theorem rsn_ok {L r : List Slt} {x : Stp} (h : Rpd L x r) {i : Nat} {s y : Slt} (hs : L[i]? = some s) (hy : r[i]? = some y) : rsnT r y (decide (y.st = s.st) || decide (y.st = x.un)) r.length = true := by
  rcases h.why hs hy with e | e | ⟨k, v, hv, hn, e⟩
  · exact rsnT_mono (Nat.zero_le _) (by simp [rsnT, e])
  · exact rsnT_mono (Nat.zero_le _) (by simp [rsnT, e])
  · refine rsnT_mono (k := k + 1) (List.getElem?_eq_some_iff.1 hv).1 ?_
    simp only [rsnT, getD_of hv, hn, e, decide_true, Bool.and_true, Bool.or_true]
/-- All that the law asks of a repair. -/
theorem repair_ok {J : List Jb} {L : List Slt} {x : Stp} (hs : schB J L = true) (hx : stopB x.ce x.fr x.un = true) (hb : ∀ s ∈ L, s.en ≤ 200000) :
    ∃ r, repF J L x = (r, true) ∧ Rpd L x r ∧ schB J r = true ∧ keepsB r x = true ∧ (keepsB L x = true → movedF L r = 0) := by
  have hu : 0 ≤ x.un ∧ x.un ≤ 100000 := by
    simp only [stopB, Bool.and_eq_true, inB_iff] at hx
    omega
  have h1 := sch_at hs
  have hr := rpd_of h1.2 hu
  refine ⟨rpT L (ordF L) x L.length, by unfold repF; rw [if_pos ⟨hs, hx⟩], hr, hr.sch hs fun y hy => ?_, hr.keeps hx, hr.moved hs⟩
  have := rp_late h1.2 hu hb L.length (Nat.le_refl _) y hy
  omega

namespace fnRepaired
set_option maxRecDepth 100000 in
set_option maxHeartbeats 40000000 in
theorem walk (w : World) (code : List UInt8) (A : Option Addr) (c : Nat) (r_code : Rd Byt.E w A code) (q_code : code.length ≤ c ∧ c ≤ maxLen) :
    Calls Try.prog 8 #[.slice A code.length c] w fun e w' => e = .returned (.bool true) ∧ Grew w w' := by
  have hql := q_code
  by_cases hbig : (1048576 : Int) < (code.length : Int)
  · have hb : decide ((1048576 : Int) < (code.length : Int)) = true := by simpa using hbig
    go_enter Try.func8, Try.ntmps8
    go_wp2_with fail
    refine (big_any code _ _ _ (by omega)).mono ?_; rintro e w0 ⟨rfl, rfl⟩
    go_wp2_with fail
    go_ret
    go_light
    exact ⟨rfl, Grew.refl _⟩
  have hb : decide ((1048576 : Int) < (code.length : Int)) = false := by simpa using hbig
  have HR := Lib.hid r_code
  clear r_code
  go_enter Try.func8, Try.ntmps8
  go_wp2_with fail
  refine (big_any code _ _ _ (by omega)).mono ?_; rintro e w0 ⟨rfl, rfl⟩
  go_wp2_with fail
  refine (drawRepairSlots_any _ _ _ code HR.out (by omega)).mono ?_; rintro e w1 ⟨rs, BJ, dJ, L, B, d, x, rfl, hr5, hsm, hrj, hl30, hen, hld, hrd, hx9, hg1⟩
  have HJ := Lib.hid hrj
  have HL := Lib.hid hrd
  have HG1 := Lib.hid hg1
  have HJS := Lib.hid (jsm_of hsm)
  have HEN := Lib.hid hen
  have HXM := Lib.hid (show x.ce.size ≤ maxLen by unfold maxLen; omega)
  obtain ⟨J, hJ⟩ : ∃ J, J = rs.map Jr.j := ⟨_, rfl⟩
  have hjl : rs.length = J.length := by rw [hJ, List.length_map]
  rw [← hJ] at HJ HJS
  rw [hjl] at hr5 ⊢
  clear hrj hrd hg1 hsm hen hx9 hJ hjl
  have HX1 := Lib.hid (Bx.new_ (E := Stp.E) w1 x 26)
  by_cases hok : schB J L = true ∧ stopB x.ce x.fr x.un = true
  · obtain ⟨r, hF, hrp, hsr, hkr, hmv⟩ := repair_ok hok.1 hok.2 HEN.out
    have HF := Lib.hid hF
    have HRP := Lib.hid hrp
    have HSR := Lib.hid hsr
    have HKR := Lib.hid hkr
    have HMV := Lib.hid hmv
    have HSC := Lib.hid hok.1
    have HLEN := Lib.hid hrp.len
    clear hF hrp hsr hkr hmv hok
    obtain ⟨xc, xf, xu⟩ := x
    go_wp2_with fail
    refine (repE_impl HF.out HLEN.out _ _ _ _ _ (HJ.out.grew (by (repeat (with_reducible first | exact Grew.refl _ | assumption | apply Grew.alloc | apply Grew.drew | apply Grew.drewN | (refine Grew.setCell ?_ (by simp; try omega) _) | (refine Grew.trans ?_ (by assumption)))))) HJS.out (by omega) (HL.out.grew (by (repeat (with_reducible first | exact Grew.refl _ | assumption | apply Grew.alloc | apply Grew.drew | apply Grew.drewN | (refine Grew.setCell ?_ (by simp; try omega) _) | (refine Grew.trans ?_ (by assumption)))))) (by omega) hld HXM.out).mono ?_; rintro e w2 ⟨A2, c2, rfl, ho2, hg2⟩
    have HGB := Lib.hid (((Grew.refl w1).alloc (.cells (Stp.E.enc ⟨xc, xf, xu⟩).toArray 26)).trans hg2)
    have HX2 := Lib.hid (HX1.out.grew hg2)
    have HO2 := Lib.hid ho2
    obtain ⟨y0, y1, y2, ys, yf⟩ := Stp.bx3 HX2.out
    simp only at y0 y1 y2
    clear ho2 hg2
    go_wp2_with fail
    refine (repE_spec HF.out HLEN.out _ _ _ _ _ (HJ.out.grew HGB.out) HJS.out (by omega) (HL.out.grew HGB.out) (by omega) HXM.out).mono ?_; rintro e w3 ⟨A3, c3, rfl, ho3, hg3⟩
    have HGC := Lib.hid (HGB.out.trans hg3)
    have HX3 := Lib.hid (HX2.out.grew hg3)
    have HO3 := Lib.hid (HO2.out.grew hg3)
    clear y0 y1 y2 ys yf ho3 hg3 HX2 HO2
    obtain ⟨y0, y1, y2, ys, yf⟩ := Stp.bx3 HX3.out
    simp only at y0 y1 y2
    go_upto_region 10 with fail
    go_cut [74] (fun s wx => s = .bool false ∧ Bx Stp.E wx w1.heap.size ⟨xc, xf, xu⟩ ∧ Rd Slt.E wx A2 r ∧ Grew w1 wx)
    case first =>
      as_aux_lemma =>
        go_wp2_with fail
        refine (schK HSR.out HLEN.out _ _ _ _ _ (HJ.out.grew HGC.out) HJS.out (by omega) HO3.out (by omega)).mono ?_; rintro e w4 ⟨rfl, hg4⟩
        have HX4 := Lib.hid (HX3.out.grew hg4)
        have HO4 := Lib.hid (HO3.out.grew hg4)
        have HGD := Lib.hid (HGC.out.trans hg4)
        clear y0 y1 y2 ys yf hg4 HX3 HO3
        obtain ⟨y0, y1, y2, ys, yf⟩ := Stp.bx3 HX4.out
        simp only at y0 y1 y2
        go_wp2_with fail
        refine (keepK (x := ⟨xc, xf, xu⟩) HKR.out HLEN.out _ _ _ HXM.out HO4.out (by omega)).mono ?_; rintro e w5 ⟨rfl, hg5⟩
        have HX5 := Lib.hid (HX4.out.grew hg5)
        have HO5 := Lib.hid (HO4.out.grew hg5)
        have HGE := Lib.hid (HGD.out.trans hg5)
        clear y0 y1 y2 ys yf hg5 HX4 HO4
        obtain ⟨y0, y1, y2, ys, yf⟩ := Stp.bx3 HX5.out
        simp only at y0 y1 y2
        obtain ⟨kv, hkv⟩ : ∃ v, keepsB L ⟨xc, xf, xu⟩ = v := ⟨_, rfl⟩
        have HKV := Lib.hid hkv
        clear hkv
        go_wp2_with fail
        refine (keepK (x := ⟨xc, xf, xu⟩) HKV.out rfl _ _ _ HXM.out (HL.out.grew HGE.out) (by omega)).mono ?_; rintro e w6 ⟨rfl, hg6⟩
        have HX6 := Lib.hid (HX5.out.grew hg6)
        have HO6 := Lib.hid (HO5.out.grew hg6)
        have HG6 := Lib.hid (HGE.out.trans hg6)
        clear y0 y1 y2 ys yf hg6 HX5 HO5 HGE HGD HGC HGB
        cases kv
        · go_wp2_with fail
          go_meet
          exact ⟨by first | rfl | trivial, HX6.out, HO6.out, HG6.out⟩
        · have HMZ := Lib.hid (HMV.out HKV.out)
          go_wp2_with fail
          refine (movedK HMZ.out HLEN.out _ _ _ _ _ (HL.out.grew HG6.out) (by omega) HO6.out (by omega)).mono ?_; rintro e w7 ⟨rfl, h7⟩
          go_wp2_with fail
          go_meet
          exact ⟨by first | rfl | trivial, HX6.out.grew h7, HO6.out.grew h7, HG6.out.trans h7⟩
    obtain ⟨rfl, hx, ho, hg⟩ := hcut
    have HX7 := Lib.hid hx
    have HO7 := Lib.hid ho
    have HG7 := Lib.hid hg
    clear hx ho hg HX3 HO3 HGC y0 y1 y2 ys yf
    go_wp2_with fail
    obtain ⟨wa, hwa⟩ : ∃ wa : World, wa = wc := ⟨_, rfl⟩
    subst hwa
    go_loopw [10] (fun iv wr => ∃ i : Nat, i ≤ L.length ∧ iv = .int .i64 i ∧ Grew wa wr) (fun iv _ => L.length - (intOf iv).toNat)
    case atStart => exact ⟨0, Nat.zero_le _, rfl, Grew.refl _⟩
    case round =>
      obtain ⟨i, hi, rfl, hg⟩ := hrel
      have HGR := Lib.hid hg
      clear hg
      by_cases hlt : i < L.length
      · obtain ⟨s, hs⟩ : ∃ s, L[i]? = some s := ⟨_, List.getElem?_eq_getElem hlt⟩
        obtain ⟨y, hy⟩ : ∃ y, r[i]? = some y := ⟨_, List.getElem?_eq_getElem (by rw [HLEN.out]; exact hlt)⟩
        have HS := Lib.hid hs
        have HY := Lib.hid hy
        have HRL := Lib.hid (HO7.out.grew HGR.out)
        have HLL := Lib.hid (HL.out.grew (HG7.out.trans HGR.out))
        have HXX := Lib.hid (HX7.out.grew HGR.out)
        obtain ⟨b, o, eB, hbb, hc⟩ := HLL.out.at_ hlt
        subst eB
        obtain ⟨b2, o2, eA, hb2, hc2⟩ := HRL.out.at_ (k := i) (by rw [HLEN.out]; exact hlt)
        subst eA
        obtain ⟨s0, s1, s2, s3, s4⟩ := Slt.at_ hc hs
        obtain ⟨y0, y1, y2, y3, y4⟩ := Slt.at_ hc2 hy
        obtain ⟨p0, p1, p2, ps, pf⟩ := Stp.bx3 HXX.out
        simp only at p0 p1 p2
        have hi1 : (0 : Int) ≤ (i : Int) := by omega
        have hi2 : (i : Int) < (L.length : Int) := by omega
        have HGET := Lib.hid (HRP.out.get hs hy)
        have HRSN := Lib.hid (rsn_ok HRP.out hs hy)
        rw [HLEN.out] at HRSN
        obtain ⟨rb, hrb⟩ : ∃ v, (decide (y.st = s.st) || decide (y.st = xu)) = v := ⟨_, rfl⟩
        have HRB := Lib.hid hrb
        simp only [hrb] at HRSN
        clear hrb hs hy hc hc2 pf
        go_upto_region 15 with fail
        go_cut [11] (fun v wx => v = .bool rb ∧ Grew wr wx)
        case first =>
          as_aux_lemma =>
            by_cases ha : y.st = s.st
            · have ha2 : (y.st == s.st) = true := by simp [ha]
              have HV := Lib.hid (show rb = true by rw [← HRB.out]; simp [ha])
              clear ha
              (refine wp_region_grow_lit (by kernel_rfl) (by kernel_rfl) ?_; repeat (any_goals (first | go_big_quiet_step ((fail)) | quiet_step ((fail)) | (refine wpQuiet_step (fun K hK => ?_); go_simp; split <;> rename_i hsp <;> (refine hK _ ?_; clear hK K) <;> (try first | simp only [hsp, decide_true, decide_false, Bool.not_true, Bool.not_false] | simp only [Int.not_le.2 hsp, decide_false, Bool.not_false] | simp only [Int.not_lt.2 hsp, decide_false, Bool.not_false] | simp only [Nat.not_le.2 hsp, decide_false, Bool.not_false] | simp only [Nat.not_lt.2 hsp, decide_false, Bool.not_false])))))
              all_goals (refine wpQuiet_nil ?_; intro wqq hqq)
              go_wp2_with fail
              go_meet
              exact ⟨by rw [HV.out], hqq⟩
            · have ha2 : (y.st == s.st) = false := by simp [ha]
              by_cases hbx : y.st = xu
              · have hb3 : (y.st == xu) = true := by simp [hbx]
                have HV := Lib.hid (show rb = true by rw [← HRB.out]; simp [hbx])
                clear ha hbx
                (refine wp_region_grow_lit (by kernel_rfl) (by kernel_rfl) ?_; repeat (any_goals (first | go_big_quiet_step ((fail)) | quiet_step ((fail)) | (refine wpQuiet_step (fun K hK => ?_); go_simp; split <;> rename_i hsp <;> (refine hK _ ?_; clear hK K) <;> (try first | simp only [hsp, decide_true, decide_false, Bool.not_true, Bool.not_false] | simp only [Int.not_le.2 hsp, decide_false, Bool.not_false] | simp only [Int.not_lt.2 hsp, decide_false, Bool.not_false] | simp only [Nat.not_le.2 hsp, decide_false, Bool.not_false] | simp only [Nat.not_lt.2 hsp, decide_false, Bool.not_false])))))
                all_goals (refine wpQuiet_nil ?_; intro wqq hqq)
                go_wp2_with fail
                go_meet
                exact ⟨by rw [HV.out], hqq⟩
              · have hb3 : (y.st == xu) = false := by simp [hbx]
                have HV := Lib.hid (show rb = false by rw [← HRB.out]; simp [ha, hbx])
                clear ha hbx
                (refine wp_region_grow_lit (by kernel_rfl) (by kernel_rfl) ?_; repeat (any_goals (first | go_big_quiet_step ((fail)) | quiet_step ((fail)) | (refine wpQuiet_step (fun K hK => ?_); go_simp; split <;> rename_i hsp <;> (refine hK _ ?_; clear hK K) <;> (try first | simp only [hsp, decide_true, decide_false, Bool.not_true, Bool.not_false] | simp only [Int.not_le.2 hsp, decide_false, Bool.not_false] | simp only [Int.not_lt.2 hsp, decide_false, Bool.not_false] | simp only [Nat.not_le.2 hsp, decide_false, Bool.not_false] | simp only [Nat.not_lt.2 hsp, decide_false, Bool.not_false])))))
                all_goals (refine wpQuiet_nil ?_; intro wqq hqq)
                go_wp2_with fail
                go_meet
                exact ⟨by rw [HV.out], hqq⟩
        obtain ⟨rfl, hg⟩ := hcut
        have HGS := Lib.hid (HGR.out.trans hg)
        clear hg s0 s1 s2 s3 s4 y0 y1 y2 y3 y4 p0 p1 p2 ps HRL HLL HXX
        go_wp2_with fail
        obtain ⟨wb, hwb⟩ : ∃ wb : World, wb = wc := ⟨_, rfl⟩
        subst hwb
        go_loopw [11, 12] (fun rv kv wr3 => ∃ k : Nat, k ≤ L.length ∧ kv = .int .i64 k ∧ rv = .bool (rsnT r y rb k) ∧ Grew wa wr3) (fun _ kv _ => L.length - (intOf kv).toNat)
        case atStart => exact ⟨0, Nat.zero_le _, rfl, rfl, HGS.out⟩
        case round =>
          obtain ⟨k, hk, rfl, rfl, hg⟩ := hrel
          have HGT := Lib.hid hg
          clear hg HGS
          have HRL := Lib.hid (HO7.out.grew HGT.out)
          have HLL := Lib.hid (HL.out.grew (HG7.out.trans HGT.out))
          obtain ⟨b9, o9, e9, _, hc⟩ := HLL.out.at_ hlt
          simp only [Option.some.injEq, Addr.mk.injEq, and_true] at e9
          obtain ⟨rfl, rfl⟩ := e9
          obtain ⟨b9, o9, e9, _, hc2⟩ := HRL.out.at_ (k := i) (by rw [HLEN.out]; exact hlt)
          simp only [Option.some.injEq, Addr.mk.injEq, and_true] at e9
          obtain ⟨rfl, rfl⟩ := e9
          obtain ⟨s0, s1, s2, s3, s4⟩ := Slt.at_ hc HS.out
          obtain ⟨y0, y1, y2, y3, y4⟩ := Slt.at_ hc2 HY.out
          by_cases hlt2 : k < L.length
          · obtain ⟨z, hz⟩ : ∃ z, L[k]? = some z := ⟨_, List.getElem?_eq_getElem hlt2⟩
            obtain ⟨v, hv⟩ : ∃ v, r[k]? = some v := ⟨_, List.getElem?_eq_getElem (by rw [HLEN.out]; exact hlt2)⟩
            obtain ⟨z0, z1, z2, z3, z4⟩ := Slt.at_ hc hz
            obtain ⟨v0, v1, v2, v3, v4⟩ := Slt.at_ hc2 hv
            have hj1 : (0 : Int) ≤ (k : Int) := by omega
            have hj2 : (k : Int) < (L.length : Int) := by omega
            have HST := Lib.hid (show rsnT r y rb (k + 1) = (rsnT r y rb k || (nearB v y && decide (y.st = v.en))) by simp only [rsnT, getD_of hv])
            have HORD := Lib.hid (show nearB v y = true → z.st < s.st → v.st < y.st from fun h1 h2 => HRP.out.order HSC.out HS.out HY.out hz hv h1 h2)
            have HZK := Lib.hid hz
            have HVK := Lib.hid hv
            obtain ⟨nb, hnb⟩ : ∃ b, nearB v y = b := ⟨_, rfl⟩
            have HNB := Lib.hid hnb
            obtain ⟨rk, hrk⟩ : ∃ b, b = rsnT r y rb k := ⟨_, rfl⟩
            rw [← hrk] at HST ⊢
            clear hz hv hc hc2 hnb hrk
            go_upto_region 19 with fail
            go_cut [131] (fun q wx => q = .bool nb ∧ Grew wr wx)
            case first =>
              as_aux_lemma =>
                by_cases ha : v.jb = y.jb
                · have ha2 : (v.jb == y.jb) = true := by simp [ha]
                  have HV := Lib.hid (show nb = true by rw [← HNB.out]; simp [nearB, ha])
                  clear ha
                  (refine wp_region_grow_lit (by kernel_rfl) (by kernel_rfl) ?_; repeat (any_goals (first | go_big_quiet_step ((fail)) | quiet_step ((fail)) | (refine wpQuiet_step (fun K hK => ?_); go_simp; split <;> rename_i hsp <;> (refine hK _ ?_; clear hK K) <;> (try first | simp only [hsp, decide_true, decide_false, Bool.not_true, Bool.not_false] | simp only [Int.not_le.2 hsp, decide_false, Bool.not_false] | simp only [Int.not_lt.2 hsp, decide_false, Bool.not_false] | simp only [Nat.not_le.2 hsp, decide_false, Bool.not_false] | simp only [Nat.not_lt.2 hsp, decide_false, Bool.not_false])))))
                  all_goals (refine wpQuiet_nil ?_; intro wqq hqq)
                  go_wp2_with fail
                  go_meet
                  exact ⟨by rw [HV.out], hqq⟩
                · have ha2 : (v.jb == y.jb) = false := by simp [ha]
                  by_cases hbx : v.ce.toList = y.ce.toList
                  · have hb3 : (v.ce.toList == y.ce.toList) = true := by simp [hbx]
                    have HV := Lib.hid (show nb = true by rw [← HNB.out]; simp [nearB, hbx])
                    clear ha hbx
                    (refine wp_region_grow_lit (by kernel_rfl) (by kernel_rfl) ?_; repeat (any_goals (first | go_big_quiet_step ((fail)) | quiet_step ((fail)) | (refine wpQuiet_step (fun K hK => ?_); go_simp; split <;> rename_i hsp <;> (refine hK _ ?_; clear hK K) <;> (try first | simp only [hsp, decide_true, decide_false, Bool.not_true, Bool.not_false] | simp only [Int.not_le.2 hsp, decide_false, Bool.not_false] | simp only [Int.not_lt.2 hsp, decide_false, Bool.not_false] | simp only [Nat.not_le.2 hsp, decide_false, Bool.not_false] | simp only [Nat.not_lt.2 hsp, decide_false, Bool.not_false])))))
                    all_goals (refine wpQuiet_nil ?_; intro wqq hqq)
                    go_wp2_with fail
                    go_meet
                    exact ⟨by rw [HV.out], hqq⟩
                  · have hb3 : (v.ce.toList == y.ce.toList) = false := by simp [hbx]
                    have HV := Lib.hid (show nb = false by rw [← HNB.out]; simp [nearB, ha, hbx])
                    clear ha hbx
                    (refine wp_region_grow_lit (by kernel_rfl) (by kernel_rfl) ?_; repeat (any_goals (first | go_big_quiet_step ((fail)) | quiet_step ((fail)) | (refine wpQuiet_step (fun K hK => ?_); go_simp; split <;> rename_i hsp <;> (refine hK _ ?_; clear hK K) <;> (try first | simp only [hsp, decide_true, decide_false, Bool.not_true, Bool.not_false] | simp only [Int.not_le.2 hsp, decide_false, Bool.not_false] | simp only [Int.not_lt.2 hsp, decide_false, Bool.not_false] | simp only [Nat.not_le.2 hsp, decide_false, Bool.not_false] | simp only [Nat.not_lt.2 hsp, decide_false, Bool.not_false])))))
                    all_goals (refine wpQuiet_nil ?_; intro wqq hqq)
                    go_wp2_with fail
                    go_meet
                    exact ⟨by rw [HV.out], hqq⟩
            obtain ⟨rfl, hg⟩ := hcut
            cases nb
            · have HE := Lib.hid (show rsnT r y rb (k + 1) = rk by rw [HST.out, HNB.out]; simp)
              have HGU := Lib.hid (HGT.out.trans hg)
              clear hg
              go_wp2_with fail
              go_roundw
              case rel => go_light; exact ⟨k + 1, by omega, by go_num, by rw [HE.out], HGU.out⟩
              case measure => go_light; simp [intOf]; omega
            · obtain ⟨rk2, hrk2⟩ : ∃ q, q = rsnT r y rb (k + 1) := ⟨_, rfl⟩
              have HE := Lib.hid hrk2
              have HST2 := Lib.hid (show rk2 = (rk || decide (y.st = v.en)) by rw [hrk2, HST.out, HNB.out, Bool.true_and])
              have HGU := Lib.hid (HGT.out.trans hg)
              clear hg hrk2 HRL HLL HGT s0 s1 s2 s3 s4 y0 y1 y2 y3 y4 z0 z1 z2 z3 z4 v0 v1 v2 v3 v4
              obtain ⟨y0, y1, y2, y3, y4⟩ := (HO7.out.grew HGU.out).sl HY.out
              obtain ⟨v0, v1, v2, v3, v4⟩ := (HO7.out.grew HGU.out).sl HVK.out
              obtain ⟨wd, hwd⟩ : ∃ wd : World, wd = wc := ⟨_, rfl⟩
              subst hwd
              go_upto_region 20 with fail
              go_cut [11] (fun q wx => q = .bool rk2 ∧ Grew wd wx)
              case first =>
                as_aux_lemma =>
                  cases rk
                  · by_cases ha : y.st = v.en
                    · have ha2 : (y.st == v.en) = true := by simp [ha]
                      have HV := Lib.hid (show rk2 = true by rw [HST2.out]; simp [ha])
                      clear ha
                      (refine wp_region_grow_lit (by kernel_rfl) (by kernel_rfl) ?_; repeat (any_goals (first | go_big_quiet_step ((fail)) | quiet_step ((fail)) | (refine wpQuiet_step (fun K hK => ?_); go_simp; split <;> rename_i hsp <;> (refine hK _ ?_; clear hK K) <;> (try first | simp only [hsp, decide_true, decide_false, Bool.not_true, Bool.not_false] | simp only [Int.not_le.2 hsp, decide_false, Bool.not_false] | simp only [Int.not_lt.2 hsp, decide_false, Bool.not_false] | simp only [Nat.not_le.2 hsp, decide_false, Bool.not_false] | simp only [Nat.not_lt.2 hsp, decide_false, Bool.not_false])))))
                      all_goals (refine wpQuiet_nil ?_; intro wqq hqq)
                      go_wp2_with fail
                      go_meet
                      exact ⟨by rw [HV.out], hqq⟩
                    · have ha2 : (y.st == v.en) = false := by simp [ha]
                      have HV := Lib.hid (show rk2 = false by rw [HST2.out]; simp [ha])
                      clear ha
                      (refine wp_region_grow_lit (by kernel_rfl) (by kernel_rfl) ?_; repeat (any_goals (first | go_big_quiet_step ((fail)) | quiet_step ((fail)) | (refine wpQuiet_step (fun K hK => ?_); go_simp; split <;> rename_i hsp <;> (refine hK _ ?_; clear hK K) <;> (try first | simp only [hsp, decide_true, decide_false, Bool.not_true, Bool.not_false] | simp only [Int.not_le.2 hsp, decide_false, Bool.not_false] | simp only [Int.not_lt.2 hsp, decide_false, Bool.not_false] | simp only [Nat.not_le.2 hsp, decide_false, Bool.not_false] | simp only [Nat.not_lt.2 hsp, decide_false, Bool.not_false])))))
                      all_goals (refine wpQuiet_nil ?_; intro wqq hqq)
                      go_wp2_with fail
                      go_meet
                      exact ⟨by rw [HV.out], hqq⟩
                  · have HV := Lib.hid (show rk2 = true by rw [HST2.out]; rfl)
                    (refine wp_region_grow_lit (by kernel_rfl) (by kernel_rfl) ?_; repeat (any_goals (first | go_big_quiet_step ((fail)) | quiet_step ((fail)) | (refine wpQuiet_step (fun K hK => ?_); go_simp; split <;> rename_i hsp <;> (refine hK _ ?_; clear hK K) <;> (try first | simp only [hsp, decide_true, decide_false, Bool.not_true, Bool.not_false] | simp only [Int.not_le.2 hsp, decide_false, Bool.not_false] | simp only [Int.not_lt.2 hsp, decide_false, Bool.not_false] | simp only [Nat.not_le.2 hsp, decide_false, Bool.not_false] | simp only [Nat.not_lt.2 hsp, decide_false, Bool.not_false])))))
                    all_goals (refine wpQuiet_nil ?_; intro wqq hqq)
                    go_wp2_with fail
                    go_meet
                    exact ⟨by rw [HV.out], hqq⟩
              obtain ⟨rfl, hg⟩ := hcut
              have HGV := Lib.hid (HGU.out.trans hg)
              clear hg HGU y0 y1 y2 y3 y4 v0 v1 v2 v3 v4
              obtain ⟨y0, y1, y2, y3, y4⟩ := (HO7.out.grew HGV.out).sl HY.out
              obtain ⟨v0, v1, v2, v3, v4⟩ := (HO7.out.grew HGV.out).sl HVK.out
              obtain ⟨s0, s1, s2, s3, s4⟩ := (HL.out.grew (HG7.out.trans HGV.out)).sl HS.out
              obtain ⟨z0, z1, z2, z3, z4⟩ := (HL.out.grew (HG7.out.trans HGV.out)).sl HZK.out
              by_cases ha : z.st < s.st
              · have hb4 : v.st < y.st := HORD.out HNB.out ha
                go_wp2_with fail
                (refine wp_region_grow_lit (by kernel_rfl) (by kernel_rfl) ?_; repeat (any_goals (first | go_big_quiet_step ((fail)) | quiet_step ((fail)) | (refine wpQuiet_step (fun K hK => ?_); go_simp; split <;> rename_i hsp <;> (refine hK _ ?_; clear hK K) <;> (try first | simp only [hsp, decide_true, decide_false, Bool.not_true, Bool.not_false] | simp only [Int.not_le.2 hsp, decide_false, Bool.not_false] | simp only [Int.not_lt.2 hsp, decide_false, Bool.not_false] | simp only [Nat.not_le.2 hsp, decide_false, Bool.not_false] | simp only [Nat.not_lt.2 hsp, decide_false, Bool.not_false])))))
                all_goals (refine wpQuiet_nil ?_; intro wqq hqq)
                go_wp2_with fail
                go_roundw
                case rel => go_light; exact ⟨k + 1, by omega, by go_num, by rw [← HE.out], HGV.out.trans hqq⟩
                case measure => go_light; simp [intOf]; omega
              · go_wp2_with fail
                (refine wp_region_grow_lit (by kernel_rfl) (by kernel_rfl) ?_; repeat (any_goals (first | go_big_quiet_step ((fail)) | quiet_step ((fail)) | (refine wpQuiet_step (fun K hK => ?_); go_simp; split <;> rename_i hsp <;> (refine hK _ ?_; clear hK K) <;> (try first | simp only [hsp, decide_true, decide_false, Bool.not_true, Bool.not_false] | simp only [Int.not_le.2 hsp, decide_false, Bool.not_false] | simp only [Int.not_lt.2 hsp, decide_false, Bool.not_false] | simp only [Nat.not_le.2 hsp, decide_false, Bool.not_false] | simp only [Nat.not_lt.2 hsp, decide_false, Bool.not_false])))))
                all_goals (refine wpQuiet_nil ?_; intro wqq hqq)
                go_wp2_with fail
                go_roundw
                case rel => go_light; exact ⟨k + 1, by omega, by go_num, by rw [← HE.out], HGV.out.trans hqq⟩
                case measure => go_light; simp [intOf]; omega
          · obtain rfl : k = L.length := by omega
            obtain ⟨e1, e2, e3, e4, e5, _⟩ := HGET.out
            have hb3 : ¬ (y.st < s.st) := by omega
            rw [← e1] at s0
            rw [← e2] at s1
            rw [HRSN.out]
            clear e1 e2 e3 e4 e5 hc hc2
            go_wp2_with fail
            (refine wp_region_grow_lit (by kernel_rfl) (by kernel_rfl) ?_; repeat (any_goals (first | go_big_quiet_step ((fail)) | quiet_step ((fail)) | (refine wpQuiet_step (fun K hK => ?_); go_simp; split <;> rename_i hsp <;> (refine hK _ ?_; clear hK K) <;> (try first | simp only [hsp, decide_true, decide_false, Bool.not_true, Bool.not_false] | simp only [Int.not_le.2 hsp, decide_false, Bool.not_false] | simp only [Int.not_lt.2 hsp, decide_false, Bool.not_false] | simp only [Nat.not_le.2 hsp, decide_false, Bool.not_false] | simp only [Nat.not_lt.2 hsp, decide_false, Bool.not_false])))))
            all_goals (refine wpQuiet_nil ?_; intro wqq hqq)
            go_wp2_with fail
            go_roundw
            case rel => go_light; exact ⟨i + 1, by omega, by go_num, HGT.out.trans hqq⟩
            case measure => go_light; simp [intOf]; omega
      · obtain rfl : i = L.length := by omega
        go_wp2_with fail
        go_ret
        go_light
        exact ⟨rfl, HG1.out.trans (HG7.out.trans HGR.out)⟩
  · have HF := Lib.hid (show repF J L x = ([], false) by unfold repF; rw [if_neg hok])
    clear hok
    obtain ⟨xc, xf, xu⟩ := x
    go_wp2_with fail
    refine (repE_impl (k := 0) HF.out rfl _ _ _ _ _ (HJ.out.grew (by (repeat (with_reducible first | exact Grew.refl _ | assumption | apply Grew.alloc | apply Grew.drew | apply Grew.drewN | (refine Grew.setCell ?_ (by simp; try omega) _) | (refine Grew.trans ?_ (by assumption)))))) HJS.out (by omega) (HL.out.grew (by (repeat (with_reducible first | exact Grew.refl _ | assumption | apply Grew.alloc | apply Grew.drew | apply Grew.drewN | (refine Grew.setCell ?_ (by simp; try omega) _) | (refine Grew.trans ?_ (by assumption)))))) (by omega) hld HXM.out).mono ?_; rintro e w2 ⟨A2, c2, rfl, ho2, hg2⟩
    have HG2 := Lib.hid (HG1.out.trans (((Grew.refl _).alloc _).trans hg2))
    have HX2 := Lib.hid (HX1.out.grew hg2)
    have HGB := Lib.hid (((Grew.refl w1).alloc _).trans hg2)
    obtain ⟨y0, y1, y2, ys, yf⟩ := Stp.bx3 HX2.out
    simp only at y0 y1 y2
    clear ho2 hg2
    go_wp2_with fail
    refine (repE_spec (k := 0) HF.out rfl _ _ _ _ _ (HJ.out.grew HGB.out) HJS.out (by omega) (HL.out.grew HGB.out) (by omega) HXM.out).mono ?_; rintro e w3 ⟨A3, c3, rfl, ho3, hg3⟩
    go_wp2_with fail
    go_ret
    go_light
    exact ⟨rfl, HG2.out.trans hg3⟩

set_option maxRecDepth 100000 in
theorem lifted (os : Os) (started : os.Started) (H : Type) (enc : TypeId × Value → H) :
    ReturnsInHanded {} Try.checked os 8 .any (Rows.fnRepairedSpec.pre6 enc Try.prog Try.f8 Rows.fnRepairedRow.domain false) (Rows.fnRepairedSpec.post enc Try.prog Try.f8 false true false false) := by
  refine returnsInHanded_of_change (C := Try.checked) own started (by kernel_rfl) Try.func8
    (ChangeSpec.witness6 (enc := enc) (C := Try.checked) false ⟨#[], #[.slice none 0 0], []⟩ 8 (by kernel_rfl) (by kernel_rfl) (by kernel_rfl) (by kernel_rfl)) ?_
  intro W base args ds gs before hval0 hW hcnd _
  have hval : ∀ (j : Nat) t v, Try.f8.params[j]? = some t → args[j]? = some v → Value.okWide Try.prog W .any base t v := hval0
  have hW' := hW
  obtain ⟨p, q, hA0, hV, rfl, hfz, hnd⟩ := hW
  have hA : DataW.TrodAll enc Try.prog W 0 (fun _ => true) true Try.f8.params.toList args.toList ds p := hA0
  rw [Try.params8] at hA hval
  obtain ⟨v0, vs0, d0, ds0, p0, q0, hargs, rfl, rfl, h0, r0⟩ := trodAll_cons hA
  obtain ⟨rfl, rfl, rfl⟩ := trodAll_nil r0
  obtain rfl : args = #[v0] := by cases args; simp_all
  obtain ⟨code, A, c, rfl, r_code, q1_code, q2_code⟩ := Byt.open_ (hval 0 50 v0 rfl rfl) h0
  refine (walk W code A c r_code ⟨q1_code, q2_code⟩).mono fun e W' ⟨he, hg⟩ => ?_
  subst he
  exact ⟨_, rfl, law_step (tb := 4) laidOut (by rw [Try.params8]; exact pars_of (by kernel_rfl)) rfl hW' rfl rfl rfl (by kernel_rfl) Try.underlying4 hg⟩

theorem over : Rows.fnRepairedRow.holds Try.pinned (OpenSpec.ofChange Rows.fnRepairedSpec) :=
  OpenClaim.holds_of_wide 8 Try.f8 rfl rfl rfl rfl rfl rfl rfl ⟨rfl, rfl, rfl, rfl, rfl⟩ rfl rfl rfl rfl rfl (by kernel_rfl) Try.func8 (by kernel_rfl)
    (of_decide_eq_true (by kernel_rfl)) (by unfold Func.isWrapper; first | (rw [if_pos (by decide +kernel)]; kernel_rfl) | (rw [if_neg (by decide +kernel)]; exact ⟨rfl, rfl⟩))
    (fun os started H enc _ => lifted os started H enc)

theorem proved : Rows.FnRepairedSaid := over
end fnRepaired
end Go.Proofs.Ytembbgkhmnalpaa
