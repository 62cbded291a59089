/- IsSchedule of the program returns what a plain function returns. Conditions: none. -/
import Derived.Test.YtembbgkhmnalpaaSltM
namespace Go.Proofs.Ytembbgkhmnalpaa
open Go.RowKit Go.ChangeShapes Go.WideShapes Go.Deep
set_option linter.unusedVariables false
set_option linter.unusedSimpArgs false

/-- Two slots of a job that stand in each other's way; two of a center. -/
def clA (x y : Slt) : Bool := decide (x.jb = y.jb) && (decide (x.sp = y.sp) || (decide (y.sp < x.sp) && decide (x.st < y.en)) || (decide (x.sp < y.sp) && decide (y.st < x.en)))
def clB (x y : Slt) : Bool := decide (x.ce.toList = y.ce.toList) && decide (x.st < y.en) && decide (y.st < x.en)
def jbOf (J : List Jb) (x : Slt) : Jb := J.getD x.jb.toNat jb0
def wkOf (J : List Jb) (x : Slt) : Wk := (jbOf J x).st.getD x.sp.toNat wk0
/-- The slot names a step of a job; it is at the step's center, not too early, and as long as the step. -/
def namB (J : List Jb) (x : Slt) : Bool := inB x.jb 0 ((J.length : Int) - 1) && inB x.sp 0 (((jbOf J x).st.length : Int) - 1)
def fitB (J : List Jb) (x : Slt) : Bool := decide (x.ce.toList = (wkOf J x).ce.toList) && inB x.st (jbOf J x).rl 1000000 && decide (x.en = x.st + (wkOf J x).mi)
def clN (L : List Slt) (i k : Nat) : Bool := !(clA (L.getD i slt0) (L.getD k slt0) || clB (L.getD i slt0) (L.getD k slt0))
def rowB (J : List Jb) (L : List Slt) (i : Nat) : Bool := namB J (L.getD i slt0) && fitB J (L.getD i slt0) && allTo (clN L i) i
def schB (J : List Jb) (L : List Slt) : Bool := areJ J && decide (L.length = totJ J J.length) && allTo (rowB J L) L.length
theorem namB_at {J : List Jb} {x : Slt} (h : namB J x = true) : ∃ (q p : Nat) (j : Jb) (y : Wk), x.jb = (q : Int) ∧ x.sp = (p : Int) ∧ J[q]? = some j ∧ j.st[p]? = some y ∧ jbOf J x = j ∧ wkOf J x = y := by
  simp only [namB, Bool.and_eq_true, inB_iff] at h
  obtain ⟨⟨h1, h2⟩, h3, h4⟩ := h
  obtain ⟨q, hq⟩ : ∃ q : Nat, x.jb = (q : Int) := ⟨x.jb.toNat, by omega⟩
  obtain ⟨p, hp⟩ : ∃ p : Nat, x.sp = (p : Int) := ⟨x.sp.toNat, by omega⟩
  obtain ⟨j, hj⟩ : ∃ j, J[q]? = some j := ⟨_, List.getElem?_eq_getElem (by omega)⟩
  have ej : jbOf J x = j := by unfold jbOf; rw [hq]; simp [List.getD_eq_getElem?_getD, hj]
  rw [ej] at h4
  obtain ⟨y, hy⟩ : ∃ y, j.st[p]? = some y := ⟨_, List.getElem?_eq_getElem (by omega)⟩
  exact ⟨q, p, j, y, hq, hp, hj, hy, ej, by unfold wkOf; rw [ej, hp]; simp [List.getD_eq_getElem?_getD, hy]⟩

theorem inE_impl {n a b : Int} {v : Bool} (hv : inB n a b = v) (w : World) :
    Calls Try.prog 36 #[.int .i64 n, .int .i64 a, .int .i64 b] w fun e w' => e = .returned (.bool v) ∧ w = w' := hv ▸ in_any n a b w

set_option maxRecDepth 100000 in
set_option maxHeartbeats 16000000 in
theorem isSchedule_impl (J : List Jb) (A : Option Addr) (c : Nat) (L : List Slt) (B : Option Addr) (d : Nat) (w : World) (h : RdJ w A J) (hs : JSm J) (hn : J.length ≤ 4194304) (hr : Rd Slt.E w B L) (hl : L.length ≤ 4194304) (hd : L.length ≤ d) :
    Calls Try.prog 51 #[.slice A J.length c, .slice B L.length d] w fun e w' => e = .returned (.bool (schB J L)) ∧ Grew w w' := by
  have HL := Lib.hid h
  have HS := Lib.hid hs
  have HR := Lib.hid hr
  clear h hs hr
  cases ha : areJ J
  · have HF := Lib.hid (show schB J L = false by simp [schB, ha])
    have HA := Lib.hid ha
    clear ha
    go_enter Try.func51, Try.ntmps51
    go_wp2_with (go_at_call 45; refine (areE_impl HA.out _ _ _ rfl _ HL.out HS.out hn).mono ?_; rintro e w1 ⟨rfl, h1⟩)
    go_ret
    go_light
    exact ⟨ret_bool HF.out.symm, h1⟩
  have HA := Lib.hid ha
  have HJ := Lib.hid (areJ_at ha).2
  have hj6 : J.length ≤ 6 := (areJ_at ha).1
  have HT := Lib.hid (totJ_30 ha)
  have HB := Lib.hid (show schB J L = (decide (L.length = totJ J J.length) && allTo (rowB J L) L.length) by simp [schB, ha])
  clear ha hn
  go_enter Try.func51, Try.ntmps51
  go_wp2_with (go_at_call 45; refine (areE_impl HA.out _ _ _ rfl _ HL.out HS.out (by omega)).mono ?_; rintro e w1 ⟨rfl, h1⟩)
  go_loopw [5, 18] (fun s i wr => ∃ k : Nat, k ≤ J.length ∧ i = .int .i64 k ∧ s = .int .i64 (totJ J k : Int) ∧ Grew w wr) (fun _ i _ => J.length - (intOf i).toNat)
  case atStart => exact ⟨0, Nat.zero_le _, rfl, rfl, h1⟩
  case round =>
    obtain ⟨k, hk, rfl, rfl, hg⟩ := hrel
    have HG := Lib.hid hg
    clear hg h1
    have HTK := Lib.hid (totJ_le (J := J) hk)
    by_cases hlt : k < J.length
    · obtain ⟨x, hx⟩ : ∃ x, J[k]? = some x := ⟨_, List.getElem?_eq_getElem hlt⟩
      obtain ⟨b, o, X, cx, rfl, hb, ⟨hc0, hc1, hc2⟩, hrd⟩ := (HL.out.grew HG.out).at_ hx
      have HST := Lib.hid (totJ_step hx)
      have hst := ((HJ.out k x hx).2.2).1
      have htk : totJ J k ≤ 30 := Nat.le_trans HTK.out HT.out
      have hi1 : (k : Int) < (J.length : Int) := by omega
      obtain ⟨t, ht⟩ : ∃ t, t = totJ J k := ⟨_, rfl⟩
      rw [← ht] at htk HST ⊢
      clear hx hrd ht
      go_wp2_with fail
      go_roundw
      case rel => go_light; exact ⟨k + 1, by omega, by go_num, by rw [HST.out]; go_num, HG.out.alloc _⟩
      case measure => go_light; simp [intOf]; omega
    · obtain rfl : k = J.length := by omega
      have htk : totJ J J.length ≤ 30 := HT.out
      obtain ⟨t, ht⟩ : ∃ t, t = totJ J J.length := ⟨_, rfl⟩
      rw [← ht] at htk HB ⊢
      have HTT := Lib.hid ht
      clear ht
      by_cases hlen : L.length = t
      · have hle : ((L.length : Int) != (t : Int)) = false := by simp [hlen]
        have hl30 : L.length ≤ 30 := by omega
        have HB2 := Lib.hid (show schB J L = allTo (rowB J L) L.length by rw [HB.out]; simp [hlen])
        clear hlen
        go_wp2_with fail
        go_loopw [34] (fun i wr2 => ∃ k : Nat, k ≤ L.length ∧ i = .int .i64 k ∧ Grew w wr2 ∧ allTo (rowB J L) k = true) (fun i _ => L.length - (intOf i).toNat)
        case atStart => exact ⟨0, Nat.zero_le _, rfl, HG.out, rfl⟩
        case round =>
          obtain ⟨k, hk, rfl, hg, hall⟩ := hrel
          have HG2 := Lib.hid hg
          have HALL := Lib.hid hall
          clear hg hall HG
          by_cases hlt : k < L.length
          · obtain ⟨x, hx⟩ : ∃ x, L[k]? = some x := ⟨_, List.getElem?_eq_getElem hlt⟩
            obtain ⟨b, o, eB, hb, hc⟩ := (HR.out.grew HG2.out).at_ hlt
            subst eB
            obtain ⟨hc0, hc1, hc2, hc3, hc4⟩ := Slt.at_ hc hx
            have HX := Lib.hid hx
            have HEX := Lib.hid (show L.getD k slt0 = x by simp [List.getD_eq_getElem?_getD, hx])
            have HRB := Lib.hid (show rowB J L k = (namB J x && fitB J x && allTo (clN L k) k) by unfold rowB; rw [HEX.out])
            have hi1 : (k : Int) < (L.length : Int) := by omega
            clear hx hc
            go_upto_region 14 with fail
            obtain ⟨w2, hw2⟩ : ∃ w2, w2 = wr.alloc (.cells (Slt.E.enc x).toArray 56) := ⟨_, rfl⟩
            obtain ⟨bx, hbx⟩ : ∃ q, q = wr.heap.size := ⟨_, rfl⟩
            have HX2 := Lib.hid (show Bx Slt.E w2 bx x by rw [hw2, hbx]; exact Bx.new_ wr x _)
            have HG3 := Lib.hid (show Grew w w2 by rw [hw2]; exact HG2.out.alloc _)
            simp only [Slt.E] at hw2
            rw [← hw2, ← hbx]
            clear hw2 hbx hc0 hc1 hc2 hc3 hc4 HG2
            obtain ⟨nb, hnb⟩ : ∃ v, namB J x = v := ⟨_, rfl⟩
            have HNB := Lib.hid hnb
            clear hnb
            go_cut [59] (fun s wx => s = .bool (!nb) ∧ Bx Slt.E wx bx x ∧ Grew w wx)
            case first =>
              obtain ⟨hx0, hx1, hx2, hx3, hx4, hxs, hxf⟩ := Slt.bx HX2.out
              cases hja : inB x.jb 0 ((J.length : Int) - 1)
              · have HN := Lib.hid (show nb = false by rw [← HNB.out, namB, hja]; rfl)
                have HJA := Lib.hid hja
                clear hja
                (refine wp_region_grow_lit (by kernel_rfl) (by kernel_rfl) ?_; repeat (any_goals (first | go_big_quiet_step (((go_at_call 36; exact quiet_same (inE_impl HJA.out _)))) | quiet_step (((go_at_call 36; exact quiet_same (inE_impl HJA.out _)))) | (refine wpQuiet_step (fun K hK => ?_); go_simp; split <;> rename_i hsp <;> (refine hK _ ?_; clear hK K) <;> (try first | simp only [hsp, decide_true, decide_false, Bool.not_true, Bool.not_false] | simp only [Int.not_le.2 hsp, decide_false, Bool.not_false] | simp only [Int.not_lt.2 hsp, decide_false, Bool.not_false] | simp only [Nat.not_le.2 hsp, decide_false, Bool.not_false] | simp only [Nat.not_lt.2 hsp, decide_false, Bool.not_false])))))
                all_goals (refine wpQuiet_nil ?_; intro wqq hqq)
                go_wp2_with fail
                go_meet
                exact ⟨by rw [HN.out]; try rfl, HX2.out.grew hqq, HG3.out.trans hqq⟩
              · obtain ⟨jb, sp, ce, st, en⟩ := x
                simp only at hja hx0 hx1 hx2 hx3 hx4
                have hjb := inB_iff.1 hja
                have HJA := Lib.hid hja
                obtain ⟨q, rfl⟩ : ∃ q : Nat, jb = (q : Int) := ⟨jb.toNat, by omega⟩
                have hq : q < J.length := by omega
                obtain ⟨j, hj⟩ : ∃ j, J[q]? = some j := ⟨_, List.getElem?_eq_getElem hq⟩
                obtain ⟨b2, o2, X, cx, rfl, hb2, ⟨hd0, hd1, hd2⟩, hrd⟩ := (HL.out.grew HG3.out).at_ hj
                obtain ⟨v, hv⟩ : ∃ v, inB sp 0 ((j.st.length : Int) - 1) = v := ⟨_, rfl⟩
                have HN := Lib.hid (show nb = v by rw [← HNB.out, namB, hja]; simp [jbOf, List.getD_eq_getElem?_getD, hj, hv])
                have HV := Lib.hid hv
                have hi2 : (q : Int) < (J.length : Int) := by omega
                have hi3 : (0 : Int) ≤ (q : Int) := by omega
                have hst := ((HJ.out q j hj).2.2).1
                clear hja hjb hj hrd hv hd0 hd1 hq
                (refine wp_region_grow_lit (by kernel_rfl) (by kernel_rfl) ?_; repeat (any_goals (first | go_big_quiet_step (((first | (go_at_call 36; with_reducible exact quiet_same (inE_impl HJA.out _)) | (go_at_call 36; with_reducible exact quiet_same (inE_impl HV.out _))))) | quiet_step (((first | (go_at_call 36; with_reducible exact quiet_same (inE_impl HJA.out _)) | (go_at_call 36; with_reducible exact quiet_same (inE_impl HV.out _))))) | (refine wpQuiet_step (fun K hK => ?_); go_simp; split <;> rename_i hsp <;> (refine hK _ ?_; clear hK K) <;> (try first | simp only [hsp, decide_true, decide_false, Bool.not_true, Bool.not_false] | simp only [Int.not_le.2 hsp, decide_false, Bool.not_false] | simp only [Int.not_lt.2 hsp, decide_false, Bool.not_false] | simp only [Nat.not_le.2 hsp, decide_false, Bool.not_false] | simp only [Nat.not_lt.2 hsp, decide_false, Bool.not_false])))))
                all_goals (refine wpQuiet_nil ?_; intro wqq hqq)
                go_wp2_with fail
                go_meet
                exact ⟨by rw [HN.out]; try rfl, HX2.out.grew hqq, HG3.out.trans hqq⟩
            obtain ⟨rfl, hbx, hg⟩ := hcut
            have HX3 := Lib.hid hbx
            have HG4 := Lib.hid hg
            clear hbx hg HX2 HG3
            cases nb
            · have HF := Lib.hid (show schB J L = false by rw [HB2.out, allTo_not hlt (by rw [HRB.out, HNB.out]; rfl)])
              go_wp2_with fail
              go_ret
              go_light
              exact ⟨ret_bool HF.out.symm, HG4.out⟩
            obtain ⟨q, p, jj, y, hxq, hxp, hj, hy, hej, hey⟩ := namB_at HNB.out
            have HEJ := Lib.hid hej
            have HEY := Lib.hid hey
            obtain ⟨b2, o2, X, cx, eA, hb2, ⟨hd0, hd1, hd2⟩, hrd⟩ := (HL.out.grew HG4.out).at_ hj
            subst eA
            have HSO := Lib.hid ((HJ.out q jj hj).2.2)
            have hrl := (HJ.out q jj hj).1
            have hst := HSO.out.1
            have hym := (HSO.out.2 p y hy)
            have hmi : 1 ≤ y.mi ∧ y.mi ≤ 1000 := ⟨hym.1, hym.2.1⟩
            obtain ⟨hrl1, hrl2⟩ := hrl
            obtain ⟨hmi1, hmi2⟩ := hmi
            have hq : q < J.length := (List.getElem?_eq_some_iff.1 hj).1
            have hpl : p < jj.st.length := (List.getElem?_eq_some_iff.1 hy).1
            obtain ⟨b3, o3, eX, hb3, hcw⟩ := hrd.at_ hpl
            subst eX
            obtain ⟨he0, he1⟩ := Wk.at_ hcw hy
            have HFB := Lib.hid (show fitB J x = (decide (x.ce.toList = y.ce.toList) && inB x.st jj.rl 1000000 && decide (x.en = x.st + y.mi)) by unfold fitB; rw [HEJ.out, HEY.out])
            obtain ⟨jb, sp, ce, st, en⟩ := x
            simp only at hxq hxp
            subst hxq
            subst hxp
            obtain ⟨hx0, hx1, hx2, hx3, hx4, hxs, hxf⟩ := Slt.bx HX3.out
            have hi2 : (q : Int) < (J.length : Int) := by omega
            have hi3 : (0 : Int) ≤ (q : Int) := by omega
            have hi4 : (p : Int) < (jj.st.length : Int) := by omega
            have hi5 : (0 : Int) ≤ (p : Int) := by omega
            have HJJ := Lib.hid hj
            clear hj hy hej hey hrd hcw hym hq hpl
            simp only at hx0 hx1 hx2 hx3 hx4
            go_wp2_with fail
            go_region
            go_upto_region 17 with fail
            obtain ⟨w5, hw5⟩ : ∃ w5, w5 = (wc.alloc (.cells #[.string y.ce, .int .i64 y.mi] 74)).drew := ⟨_, rfl⟩
            obtain ⟨bw, hbw⟩ : ∃ q, q = wc.heap.size := ⟨_, rfl⟩
            have HX5 := Lib.hid (show Bx Slt.E w5 bx ⟨q, p, ce, st, en⟩ by rw [hw5]; exact (HX3.out.alloc _).drew)
            have HW5 := Lib.hid (show Bx Wk.E w5 bw y by rw [hw5, hbw]; exact (Bx.new_ (E := Wk.E) wc y 74).drew)
            have HG5 := Lib.hid (show Grew w w5 by rw [hw5]; exact (HG4.out.alloc _).drew)
            rw [← hw5, ← hbw]
            clear hw5 hbw hx0 hx1 hx2 hx3 hx4 hxf hxs hd0 hd1 hd2 he0 he1 HX3 HG4
            obtain ⟨fb, hfb⟩ : ∃ v, fitB J ⟨q, p, ce, st, en⟩ = v := ⟨_, rfl⟩
            have HFV := Lib.hid (show _ = fb from HFB.out.symm.trans hfb)
            have HFI := Lib.hid hfb
            clear hfb HFB
            go_cut [96] (fun s wx => s = .bool (!fb) ∧ Bx Slt.E wx bx ⟨q, p, ce, st, en⟩ ∧ Grew w wx)
            case first =>
              obtain ⟨hx0, hx1, hx2, hx3, hx4, hxs, hxf⟩ := Slt.bx HX5.out
              obtain ⟨he0, he1⟩ : w5.cell? ⟨bw, 0, none⟩ = some (.string y.ce) ∧ w5.cell? ⟨bw, 1, none⟩ = some (.int .i64 y.mi) := ⟨HW5.out.2.1 0 _ rfl, HW5.out.2.1 1 _ rfl⟩
              simp only at hx0 hx1 hx2 hx3 hx4
              by_cases hce : ce.toList = y.ce.toList
              · have hce2 : (ce.toList == y.ce.toList) = true := by simp [hce]
                obtain ⟨b4, o4, X4, cx4, e4, hb4, ⟨hd0, hd1, hd2⟩, hrd⟩ := (HL.out.grew HG5.out).at_ HJJ.out
                simp only [Option.some.injEq, Addr.mk.injEq, and_true] at e4
                obtain ⟨rfl, rfl⟩ := e4
                cases hib : inB st jj.rl 1000000
                · have HN := Lib.hid (show fb = false by rw [← HFV.out]; simp [hib])
                  have HIB := Lib.hid hib
                  clear hib hce hrd hd1 hd2
                  (refine wp_region_grow_lit (by kernel_rfl) (by kernel_rfl) ?_; repeat (any_goals (first | go_big_quiet_step (((go_at_call 36; exact quiet_same (inE_impl HIB.out _)))) | quiet_step (((go_at_call 36; exact quiet_same (inE_impl HIB.out _)))) | (refine wpQuiet_step (fun K hK => ?_); go_simp; split <;> rename_i hsp <;> (refine hK _ ?_; clear hK K) <;> (try first | simp only [hsp, decide_true, decide_false, Bool.not_true, Bool.not_false] | simp only [Int.not_le.2 hsp, decide_false, Bool.not_false] | simp only [Int.not_lt.2 hsp, decide_false, Bool.not_false] | simp only [Nat.not_le.2 hsp, decide_false, Bool.not_false] | simp only [Nat.not_lt.2 hsp, decide_false, Bool.not_false])))))
                  all_goals (refine wpQuiet_nil ?_; intro wqq hqq)
                  go_wp2_with fail
                  go_meet
                  exact ⟨by rw [HN.out]; try rfl, HX5.out.grew hqq, HG5.out.trans hqq⟩
                · obtain ⟨hst1, hst2⟩ := inB_iff.1 hib
                  have HIB := Lib.hid hib
                  by_cases hen : en = st + y.mi
                  · have hen2 : (en == st + y.mi) = true := by simp [hen]
                    have HN := Lib.hid (show fb = true by rw [← HFV.out]; simp [hib, hce, hen])
                    clear hib hce hrd hd1 hd2 hen
                    (refine wp_region_grow_lit (by kernel_rfl) (by kernel_rfl) ?_; repeat (any_goals (first | go_big_quiet_step (((go_at_call 36; exact quiet_same (inE_impl HIB.out _)))) | quiet_step (((go_at_call 36; exact quiet_same (inE_impl HIB.out _)))) | (refine wpQuiet_step (fun K hK => ?_); go_simp; split <;> rename_i hsp <;> (refine hK _ ?_; clear hK K) <;> (try first | simp only [hsp, decide_true, decide_false, Bool.not_true, Bool.not_false] | simp only [Int.not_le.2 hsp, decide_false, Bool.not_false] | simp only [Int.not_lt.2 hsp, decide_false, Bool.not_false] | simp only [Nat.not_le.2 hsp, decide_false, Bool.not_false] | simp only [Nat.not_lt.2 hsp, decide_false, Bool.not_false])))))
                    all_goals (refine wpQuiet_nil ?_; intro wqq hqq)
                    go_wp2_with fail
                    go_meet
                    exact ⟨by rw [HN.out]; simp [bne, hen2], HX5.out.grew hqq, HG5.out.trans hqq⟩
                  · have hen2 : (en == st + y.mi) = false := by simp [hen]
                    have HN := Lib.hid (show fb = false by rw [← HFV.out]; simp [hen])
                    clear hib hce hrd hd1 hd2 hen
                    (refine wp_region_grow_lit (by kernel_rfl) (by kernel_rfl) ?_; repeat (any_goals (first | go_big_quiet_step (((go_at_call 36; exact quiet_same (inE_impl HIB.out _)))) | quiet_step (((go_at_call 36; exact quiet_same (inE_impl HIB.out _)))) | (refine wpQuiet_step (fun K hK => ?_); go_simp; split <;> rename_i hsp <;> (refine hK _ ?_; clear hK K) <;> (try first | simp only [hsp, decide_true, decide_false, Bool.not_true, Bool.not_false] | simp only [Int.not_le.2 hsp, decide_false, Bool.not_false] | simp only [Int.not_lt.2 hsp, decide_false, Bool.not_false] | simp only [Nat.not_le.2 hsp, decide_false, Bool.not_false] | simp only [Nat.not_lt.2 hsp, decide_false, Bool.not_false])))))
                    all_goals (refine wpQuiet_nil ?_; intro wqq hqq)
                    go_wp2_with fail
                    go_meet
                    exact ⟨by rw [HN.out]; simp [bne, hen2], HX5.out.grew hqq, HG5.out.trans hqq⟩
              · have hce2 : (ce.toList == y.ce.toList) = false := by simp [hce]
                have HN := Lib.hid (show fb = false by rw [← HFV.out]; simp [hce])
                clear hce
                (refine wp_region_grow_lit (by kernel_rfl) (by kernel_rfl) ?_; repeat (any_goals (first | go_big_quiet_step ((fail)) | quiet_step ((fail)) | (refine wpQuiet_step (fun K hK => ?_); go_simp; split <;> rename_i hsp <;> (refine hK _ ?_; clear hK K) <;> (try first | simp only [hsp, decide_true, decide_false, Bool.not_true, Bool.not_false] | simp only [Int.not_le.2 hsp, decide_false, Bool.not_false] | simp only [Int.not_lt.2 hsp, decide_false, Bool.not_false] | simp only [Nat.not_le.2 hsp, decide_false, Bool.not_false] | simp only [Nat.not_lt.2 hsp, decide_false, Bool.not_false])))))
                all_goals (refine wpQuiet_nil ?_; intro wqq hqq)
                go_wp2_with fail
                go_meet
                exact ⟨by rw [HN.out]; try rfl, HX5.out.grew hqq, HG5.out.trans hqq⟩
            obtain ⟨rfl, hbx, hg⟩ := hcut
            have HX6 := Lib.hid hbx
            have HG6 := Lib.hid hg
            clear hbx hg HX5 HW5 HG5 HFV
            cases fb
            · have HF := Lib.hid (show schB J L = false by rw [HB2.out, allTo_not hlt (by rw [HRB.out, HNB.out, HFI.out]; rfl)])
              go_wp2_with fail
              go_ret
              go_light
              exact ⟨ret_bool HF.out.symm, HG6.out⟩
            go_wp2_with fail
            obtain ⟨x, hxx⟩ : ∃ x : Slt, x = ⟨q, p, ce, st, en⟩ := ⟨_, rfl⟩
            rw [← hxx] at HX6 HEX HRB HNB HFI
            clear hxx
            go_loopw [101] (fun i wr3 => ∃ k2 : Nat, k2 ≤ k ∧ i = .int .i64 k2 ∧ Bx Slt.E wr3 bx x ∧ Grew w wr3 ∧ allTo (clN L k) k2 = true) (fun i _ => k - (intOf i).toNat)
            case atStart => exact ⟨0, Nat.zero_le _, rfl, HX6.out, HG6.out, rfl⟩
            case round =>
              obtain ⟨k2, hk2, rfl, hbx, hg, hall⟩ := hrel
              have HX7 := Lib.hid hbx
              have HG7 := Lib.hid hg
              have HAL2 := Lib.hid hall
              clear hbx hg hall HX6 HG6
              by_cases hlt2 : k2 < k
              · obtain ⟨z, hz⟩ : ∃ z, L[k2]? = some z := ⟨_, List.getElem?_eq_getElem (by omega)⟩
                obtain ⟨b4, o4, e4, hb4, hc⟩ := (HR.out.grew HG7.out).at_ (k := k2) (by omega)
                simp only [Option.some.injEq, Addr.mk.injEq, and_true] at e4
                obtain ⟨rfl, rfl⟩ := e4
                obtain ⟨hc0, hc1, hc2, hc3, hc4⟩ := Slt.at_ hc hz
                have HEZ := Lib.hid (show L.getD k2 slt0 = z by simp [List.getD_eq_getElem?_getD, hz])
                have HCN := Lib.hid (show clN L k k2 = !(clA x z || clB x z) by unfold clN; rw [HEX.out, HEZ.out])
                have hk3 : (k2 : Int) < (k : Int) := by omega
                clear hz hc
                go_upto_region 22 with fail
                obtain ⟨w2, hw2⟩ : ∃ w2, w2 = wr.alloc (.cells (Slt.E.enc z).toArray 56) := ⟨_, rfl⟩
                obtain ⟨bz, hbz⟩ : ∃ q, q = wr.heap.size := ⟨_, rfl⟩
                have HX8 := Lib.hid (show Bx Slt.E w2 bx x by rw [hw2]; exact HX7.out.alloc _)
                have HZ8 := Lib.hid (show Bx Slt.E w2 bz z by rw [hw2, hbz]; exact Bx.new_ wr z _)
                have HG8 := Lib.hid (show Grew w w2 by rw [hw2]; exact HG7.out.alloc _)
                simp only [Slt.E] at hw2
                rw [← hw2, ← hbz]
                clear hw2 hbz hc0 hc1 hc2 hc3 hc4 HX7 HG7
                obtain ⟨ca, hca⟩ : ∃ v, clA x z = v := ⟨_, rfl⟩
                have HCA := Lib.hid hca
                obtain ⟨cb, hcb⟩ : ∃ v, clB x z = v := ⟨_, rfl⟩
                have HCB := Lib.hid hcb
                clear hca hcb
                go_cut [144] (fun s wx => s = .bool ca ∧ Bx Slt.E wx bx x ∧ Bx Slt.E wx bz z ∧ Grew w wx)
                case first =>
                  as_aux_lemma =>
                    obtain ⟨hx0, hx1, hx2, hx3, hx4, hxs, hxf⟩ := Slt.bx HX8.out
                    obtain ⟨hz0, hz1, hz2, hz3, hz4, hzs, hzf⟩ := Slt.bx HZ8.out
                    by_cases ha : x.jb = z.jb
                    · have ha2 : (x.jb == z.jb) = true := by simp [ha]
                      by_cases hb : x.sp = z.sp
                      · have hb2 : (x.sp == z.sp) = true := by simp [hb]
                        have HV := Lib.hid (show ca = true by rw [← HCA.out]; simp [clA, ha, hb])
                        go_wp2_with fail
                        go_meet
                        exact ⟨by rw [HV.out], HX8.out, HZ8.out, HG8.out⟩
                      · have hb2 : (x.sp == z.sp) = false := by simp [hb]
                        by_cases hc : z.sp < x.sp
                        · skip
                          by_cases hd : x.st < z.en
                          · skip
                            have HV := Lib.hid (show ca = true by rw [← HCA.out]; simp [clA, ha, hb, hc, hd])
                            go_wp2_with fail
                            go_meet
                            exact ⟨by rw [HV.out], HX8.out, HZ8.out, HG8.out⟩
                          · skip
                            have hc2 : ¬ x.sp < z.sp := by omega
                            have HV := Lib.hid (show ca = false by rw [← HCA.out]; simp [clA, ha, hb, hc, hd, hc2])
                            go_wp2_with fail
                            go_meet
                            exact ⟨by rw [HV.out], HX8.out, HZ8.out, HG8.out⟩
                        · skip
                          have hc2 : x.sp < z.sp := by omega
                          by_cases hd : z.st < x.en
                          · skip
                            have HV := Lib.hid (show ca = true by rw [← HCA.out]; simp [clA, ha, hb, hc, hc2, hd])
                            go_wp2_with fail
                            go_meet
                            exact ⟨by rw [HV.out], HX8.out, HZ8.out, HG8.out⟩
                          · skip
                            have HV := Lib.hid (show ca = false by rw [← HCA.out]; simp [clA, ha, hb, hc, hc2, hd])
                            go_wp2_with fail
                            go_meet
                            exact ⟨by rw [HV.out], HX8.out, HZ8.out, HG8.out⟩
                    · have ha2 : (x.jb == z.jb) = false := by simp [ha]
                      have HV := Lib.hid (show ca = false by rw [← HCA.out]; simp [clA, ha])
                      go_wp2_with fail
                      go_meet
                      exact ⟨by rw [HV.out], HX8.out, HZ8.out, HG8.out⟩
                obtain ⟨rfl, hbx, hbz, hg⟩ := hcut
                have HX9 := Lib.hid hbx
                have HZ9 := Lib.hid hbz
                have HG9 := Lib.hid hg
                clear hbx hbz hg HX8 HZ8 HG8
                cases ca
                · go_upto_region 24 with fail
                  go_cut [163] (fun s wx => s = .bool cb ∧ Bx Slt.E wx bx x ∧ Grew w wx)
                  case first =>
                    as_aux_lemma =>
                      obtain ⟨hx0, hx1, hx2, hx3, hx4, hxs, hxf⟩ := Slt.bx HX9.out
                      obtain ⟨hz0, hz1, hz2, hz3, hz4, hzs, hzf⟩ := Slt.bx HZ9.out
                      by_cases ha : x.ce.toList = z.ce.toList
                      · have ha2 : (x.ce.toList == z.ce.toList) = true := by simp [ha]
                        by_cases hb : x.st < z.en
                        · by_cases hc : z.st < x.en
                          · skip
                            have HV := Lib.hid (show cb = true by rw [← HCB.out]; simp [clB, ha, hb, hc])
                            go_wp2_with fail
                            go_meet
                            exact ⟨by rw [HV.out], HX9.out, HG9.out⟩
                          · skip
                            have HV := Lib.hid (show cb = false by rw [← HCB.out]; simp [clB, hc])
                            go_wp2_with fail
                            go_meet
                            exact ⟨by rw [HV.out], HX9.out, HG9.out⟩
                        · skip
                          have HV := Lib.hid (show cb = false by rw [← HCB.out]; simp [clB, hb])
                          go_wp2_with fail
                          go_meet
                          exact ⟨by rw [HV.out], HX9.out, HG9.out⟩
                      · have ha2 : (x.ce.toList == z.ce.toList) = false := by simp [ha]
                        have HV := Lib.hid (show cb = false by rw [← HCB.out]; simp [clB, ha])
                        go_wp2_with fail
                        go_meet
                        exact ⟨by rw [HV.out], HX9.out, HG9.out⟩
                  obtain ⟨rfl, hbx, hg⟩ := hcut
                  have HX10 := Lib.hid hbx
                  have HG10 := Lib.hid hg
                  clear hbx hg HX9 HZ9 HG9
                  cases cb
                  · have HOK := Lib.hid (show clN L k k2 = true by rw [HCN.out, HCA.out, HCB.out]; rfl)
                    go_wp2_with fail
                    go_roundw
                    case rel => go_light; exact ⟨k2 + 1, by omega, by go_num, HX10.out, HG10.out, allTo_step HAL2.out HOK.out⟩
                    case measure => go_light; simp [intOf]; omega
                  · have HF := Lib.hid (show schB J L = false by rw [HB2.out, allTo_not hlt (by rw [HRB.out, allTo_not hlt2 (by rw [HCN.out, HCB.out]; simp)]; simp)])
                    go_wp2_with fail
                    go_ret
                    go_light
                    exact ⟨ret_bool HF.out.symm, HG10.out⟩
                · have HF := Lib.hid (show schB J L = false by rw [HB2.out, allTo_not hlt (by rw [HRB.out, allTo_not hlt2 (by rw [HCN.out, HCA.out]; simp)]; simp)])
                  go_wp2_with fail
                  go_ret
                  go_light
                  exact ⟨ret_bool HF.out.symm, HG9.out⟩
              · obtain rfl : k2 = k := by omega
                go_wp2_with fail
                go_roundw
                case rel => go_light; exact ⟨k2 + 1, by omega, by go_num, HG7.out, allTo_step HALL.out (by rw [HRB.out, HNB.out, HFI.out, HAL2.out]; rfl)⟩
                case measure => go_light; simp [intOf]; omega
          · obtain rfl : k = L.length := by omega
            go_wp2_with fail
            go_ret
            go_light
            exact ⟨ret_bool (by rw [HB2.out, HALL.out]), HG2.out⟩
      · have hle : ((L.length : Int) != (t : Int)) = true := by simp; omega
        have HF := Lib.hid (show schB J L = false by rw [HB.out]; simp [hlen])
        clear hlen
        go_wp2_with fail
        go_ret
        go_light
        exact ⟨ret_bool HF.out.symm, HG.out⟩
end Go.Proofs.Ytembbgkhmnalpaa
