/- The law on moves: a move is undone, and moves of different batches can change places. Conditions: none. -/
import Derived.Test.YtfbfhccgohmeiaaQty
import Derived.Test.YtfbfhccgohmeiaaDrawE
import Derived.Deep.RegionHeld3
namespace Go.Proofs.Ytfbfhccgohmeiaa
open Go.ChangeShapes Go.WideShapes Go.ChangeAt Go.RowKit Go.Joins Go.Deep
set_option linter.unusedVariables false
set_option linter.unusedSimpArgs false

theorem big_any (l : List UInt8) (A : Option Addr) (c : Nat) (w : World) (hl : l.length ≤ maxLen) :
    Calls Try.prog 37 #[.slice A l.length c] w fun e w' => e = .returned (.bool (decide ((1048576 : Int) < l.length))) ∧ w = w' := by
  unfold maxLen at hl
  go_enter Try.func37, Try.ntmps37
  go_wp2_with fail
  go_ret
  go_light
  exact ⟨rfl, rfl⟩

theorem Own.one {T : Type} {E : Enc T} {t : TypeId} {w : World} {base : Nat} (hb : base ≤ w.heap.size) (x : T) : Own E t (w.alloc (.cells (E.enc x).toArray t)) base (.slice (some ⟨w.heap.size, 0, none⟩) 1 1) [x] :=
  ⟨by simp [flat, E.len], .inr ⟨w.heap.size, 1, (E.enc x).toArray, rfl, hb, heap_alloc_new w _, Nat.le_refl _, by decide, by simp [E.len], by
    have : ((E.enc x).toArray.toList).take (1 * E.sz) = E.enc x := by rw [Nat.one_mul, ← E.len x]; simp
    simpa [flat] using this⟩⟩
theorem info_byte : (Try.prog.info? 5).map (fun i => (i.zero, i.size, i.bytes)) = some (some (.int .u8 0), 1, 1) := by kernel_rfl
theorem sl_Byt : SlInf Try.prog Byt.E 53 5 := info_sl Try.underlying53 info_byte rfl rfl (by decide)
theorem applyE_impl {l m : List Hold} {v : Bool} {x : Mv} (he : applyF l x = (m, v)) (A : Option Addr) (n c : Nat) (w : World) (h : Rd Hold.E w A l) (hok : ∀ y ∈ l, y.Ok) (hn : l.length ≤ 4194304) (hx : x.Ok) (hl : n = l.length) :
    Calls Try.prog 29 #[.slice A n c, x.v] w fun e w' => ∃ A' c', e = .returned (.tuple #[.slice A' m.length c', .bool v]) ∧ Own Hold.E 60 w' w.heap.size (.slice A' m.length c') m ∧ Grew w w' := by
  subst hl
  have := applyMove_impl l A c x w h hok hn hx
  rw [he] at this
  exact this
theorem undoE_impl {l m : List Hold} {v : Bool} {x : Mv} (he : undoF l x = (m, v)) (A : Option Addr) (n c : Nat) (w : World) (h : Rd Hold.E w A l) (hok : ∀ y ∈ l, y.Ok) (hn : l.length ≤ 4194304) (hx : x.Ok) (hl : n = l.length) :
    Calls Try.prog 33 #[.slice A n c, x.v] w fun e w' => ∃ A' c', e = .returned (.tuple #[.slice A' m.length c', .bool v]) ∧ Own Hold.E 60 w' w.heap.size (.slice A' m.length c') m ∧ Grew w w' := by
  subst hl
  have := undoMove_impl l A c x w h hok hn hx
  rw [he] at this
  exact this
theorem applyE_spec {l m : List Hold} {v : Bool} {x : Mv} (he : applyF l x = (m, v)) (A : Option Addr) (c : Nat) (w : World) (h : Rd Hold.E w A l) (hok : ∀ y ∈ l, y.Ok) (hn : l.length ≤ 4194304) (hx : x.Ok) (hlc : l.length ≤ c) (hcm : c ≤ maxLen) :
    Calls Try.prog 28 #[.slice A l.length c, x.v] w fun e w' => ∃ A' c', e = .returned (.tuple #[.slice A' m.length c', .bool v]) ∧ Grew w w' := by
  have := applyMove_spec l A c x w h hok hn hx hlc hcm
  rw [he] at this
  exact this.mono fun e w' ⟨A', c', h1, _, h3⟩ => ⟨A', c', h1, h3⟩

theorem drawUndoE {l : List UInt8} {n : Nat} (hn : n = l.length) (w : World) (c : Nat) (A : Option Addr) (h : Rd Byt.E w A l) (hl : l.length ≤ 1048580) :
    Calls Try.prog 40 #[.slice A n c] w fun e w' => ∃ (m : List Hold) (B : Option Addr) (d : Nat) (x : Mv), e = .returned (.tuple #[.slice B m.length d, x.v]) ∧ MvSm x ∧ Grew w w' := by
  subst hn
  exact (drawUndo_any w c A l h hl).mono fun e w' ⟨m, B, d, x, h1, _, _, _, _, _, h7, h8⟩ => ⟨m, B, d, x, h1, h7, h8⟩
theorem Hold.at4 {w : World} {b o : Nat} {l : List Hold} (hc : ∀ i x, l[i]? = some x → ∀ j u, (Hold.E.enc x)[j]? = some u → w.cell? ⟨b, o + i * Hold.E.sz + j, none⟩ = some u) {k : Nat} {x : Hold} (hx : l[k]? = some x) :
    w.cell? ⟨b, o + k * 4, none⟩ = some (.string x.it) ∧ w.cell? ⟨b, o + k * 4 + 1, none⟩ = some (.string x.ba) ∧ w.cell? ⟨b, o + k * 4 + 2, none⟩ = some (.string x.pl) ∧ w.cell? ⟨b, o + k * 4 + 3, none⟩ = some (.int .i64 x.q) := Hold.at_ hc hx
/-- Two moves one after the other, both ways about. -/
theorem two_ways {l : List Hold} {x y : Mv} (h : canMv l x = true) (hn : l.length ≤ 50) (hd : ¬ (y.it = x.it ∧ y.ba = x.ba)) :
    ∃ (cl dl el : List Hold) (v t : Bool), applyF (mvF l x) y = (cl, v) ∧ applyF l y = (dl, v) ∧ applyF dl x = (el, t) ∧ (v = true → t = true → cl = el) := by
  have hv := moves_can h hn hd
  refine ⟨(applyF (mvF l x) y).1, (applyF l y).1, (applyF (applyF l y).1 x).1, canMv l y, (applyF (applyF l y).1 x).2, ?_, rfl, rfl, fun h1 h2 => ?_⟩
  · rw [← hv]; rfl
  · have e1 : (applyF l y).1 = mvF l y := by simp [applyF, h1]
    rw [e1] at h2 ⊢
    have h4 : canMv (mvF l y) x = true := h2
    have h5 : canMv (mvF l x) y = true := by rw [hv]; exact h1
    simp only [applyF, h4, h5, if_true]
    exact moves_same h h5 h1 h4

namespace fnMoveBack
set_option maxRecDepth 100000 in
set_option maxHeartbeats 40000000 in
theorem walk (w : World) (code : List UInt8) (A : Option Addr) (c : Nat) (r_code : Rd Byt.E w A code) (q_code : code.length ≤ c ∧ c ≤ maxLen) :
    Calls Try.prog 11 #[.slice A code.length c] w fun e w' => e = .returned (.bool true) ∧ Grew w w' := by
  have hql := q_code
  by_cases hbig : (1048576 : Int) < (code.length : Int)
  · have hb : decide ((1048576 : Int) < (code.length : Int)) = true := by simpa using hbig
    go_enter Try.func11, Try.ntmps11
    go_wp2_with fail
    refine (big_any code _ _ _ (by omega)).mono ?_; rintro e w0 ⟨rfl, rfl⟩
    go_wp2_with fail
    go_ret
    go_light
    exact ⟨rfl, Grew.refl _⟩
  have hb : decide ((1048576 : Int) < (code.length : Int)) = false := by simpa using hbig
  have HR := Lib.hid r_code
  clear r_code
  go_enter Try.func11, Try.ntmps11
  go_wp2_with fail
  refine (big_any code _ _ _ (by omega)).mono ?_; rintro e w0 ⟨rfl, rfl⟩
  go_wp2_with fail
  refine (drawApply_any _ _ _ code HR.out (by omega)).mono ?_; rintro e w1 ⟨l, B, d, x, rfl, h28, hok, hrd, hld, hdm, hx, hg1⟩
  have HL := Lib.hid hrd
  have HOK := Lib.hid hok
  have HX := Lib.hid hx
  have HG1 := Lib.hid hg1
  unfold maxLen at hdm
  clear hrd hok hx hg1
  have HB1 := Lib.hid (Bx.new_ (E := Mv.E) w1 x 26)
  obtain ⟨xday, xit, xba, xff, xtt, xq⟩ := x
  cases hcan : canMv l ⟨xday, xit, xba, xff, xtt, xq⟩
  · have HAP := Lib.hid (show applyF l ⟨xday, xit, xba, xff, xtt, xq⟩ = ([], false) by simp [applyF, hcan])
    clear hcan
    go_wp2_with fail
    refine (applyE_impl HAP.out _ _ _ _ (HL.out.grew ((Grew.refl _).alloc _)) HOK.out (by omega) HX.out.ok rfl).mono ?_; rintro e w2 ⟨A2, c2, rfl, ho2, hg2⟩
    have HG2 := Lib.hid (((Grew.refl w1).alloc _).trans hg2)
    obtain ⟨x0, x1, x2, x3, x4, x5, xf, xs⟩ := Mv.bx6 (HB1.out.grew hg2)
    clear ho2 hg2
    go_wp2_with fail
    refine (applyE_spec HAP.out _ _ _ (HL.out.grew HG2.out) HOK.out (by omega) HX.out.ok hld (by unfold maxLen; exact hdm)).mono ?_; rintro e w3 ⟨A3, c3, rfl, hg3⟩
    go_wp2_with fail
    go_ret
    go_light
    exact ⟨rfl, (HG1.out.trans HG2.out).trans hg3⟩
  · obtain ⟨hback, hbl⟩ := move_back hcan
    obtain ⟨a, ha⟩ : ∃ a, a = mvF l ⟨xday, xit, xba, xff, xtt, xq⟩ := ⟨_, rfl⟩
    have HAP := Lib.hid (show applyF l ⟨xday, xit, xba, xff, xtt, xq⟩ = (a, true) by simp [applyF, hcan, ha])
    have HUN := Lib.hid (show undoF a ⟨xday, xit, xba, xff, xtt, xq⟩ = (l, true) by rw [ha]; simp only [undoF, applyF, hback, hbl, if_true])
    have HAO := Lib.hid (show ∀ y ∈ a, y.Ok from by have := applyF_ok HOK.out HX.out.ok; rw [HAP.out] at this; exact this)
    have ha60 : a.length ≤ 60 := by have := applyF_len l ⟨xday, xit, xba, xff, xtt, xq⟩; rw [HAP.out] at this; exact this
    have HTW := Lib.hid (fun (y : Mv) (hd : ¬ (y.it = xit ∧ y.ba = xba)) => two_ways (l := l) (x := ⟨xday, xit, xba, xff, xtt, xq⟩) (y := y) hcan (by omega) hd)
    rw [← ha] at HTW
    clear hback hbl hcan ha
    go_wp2_with fail
    refine (applyE_impl HAP.out _ _ _ _ (HL.out.grew ((Grew.refl _).alloc _)) HOK.out (by omega) HX.out.ok rfl).mono ?_; rintro e w2 ⟨A2, c2, rfl, ho2, hg2⟩
    have HG2 := Lib.hid (((Grew.refl w1).alloc _).trans hg2)
    have HB2 := Lib.hid (HB1.out.grew hg2)
    have HA2 := Lib.hid ho2.rd
    clear ho2 hg2 HB1
    obtain ⟨x0, x1, x2, x3, x4, x5, xf, xs⟩ := Mv.bx6 HB2.out
    go_wp2_with fail
    refine (applyE_spec HAP.out _ _ _ (HL.out.grew HG2.out) HOK.out (by omega) HX.out.ok hld (by unfold maxLen; exact hdm)).mono ?_; rintro e w3 ⟨A3, c3, rfl, hg3⟩
    have HG3 := Lib.hid (HG2.out.trans hg3)
    have HB3 := Lib.hid (HB2.out.grew hg3)
    have HA3 := Lib.hid (HA2.out.grew hg3)
    clear hg3 HG2 HB2 HA2 x0 x1 x2 x3 x4 x5 xf xs
    obtain ⟨x0, x1, x2, x3, x4, x5, xf, xs⟩ := Mv.bx6 HB3.out
    go_wp2_with fail
    refine (undoE_impl HUN.out _ _ _ _ HA3.out HAO.out (by omega) HX.out.ok rfl).mono ?_; rintro e w4 ⟨A4, c4, rfl, ho4, hg4⟩
    have HG4 := Lib.hid (HG3.out.trans hg4)
    have HB4 := Lib.hid (HB3.out.grew hg4)
    have HA4 := Lib.hid (HA3.out.grew hg4)
    have HU4 := Lib.hid ho4.rd
    clear ho4 hg4 HG3 HB3 HA3 x0 x1 x2 x3 x4 x5 xf xs
    go_wp2_with fail
    go_loopw [11] (fun i wr => ∃ k : Nat, k ≤ l.length ∧ i = .int .i64 k ∧ Grew w4 wr) (fun i _ => l.length - (intOf i).toNat)
    case atStart => exact ⟨0, Nat.zero_le _, rfl, Grew.refl _⟩
    case round =>
      obtain ⟨k, hk, rfl, hgr⟩ := hrel
      have HGR := Lib.hid hgr
      have HG5 := Lib.hid (HG4.out.trans hgr)
      clear hgr
      by_cases hlt : k < l.length
      · obtain ⟨y, hy⟩ : ∃ y, l[k]? = some y := ⟨_, List.getElem?_eq_getElem hlt⟩
        obtain ⟨b1, o1, rfl, hb1, hc1⟩ := (HU4.out.grew HGR.out).at_ hlt
        obtain ⟨b2, o2, rfl, hb2, hc2⟩ := (HL.out.grew HG5.out).at_ hlt
        obtain ⟨p0, p1, p2, p3⟩ := Hold.at4 hc1 hy
        obtain ⟨q0, q1, q2, q3⟩ := Hold.at4 hc2 hy
        have hi1 : (0 : Int) ≤ (k : Int) := by omega
        have hi2 : (k : Int) < (l.length : Int) := by omega
        clear hy hc1 hc2
        go_wp2_with fail
        (refine wp_region_grow_lit (by kernel_rfl) (by kernel_rfl) ?_; repeat (any_goals (first | go_big_quiet_step ((fail)) | quiet_step ((fail)) | (refine wpQuiet_step (fun K hK => ?_); go_simp; split <;> rename_i hsp <;> (refine hK _ ?_; clear hK K) <;> (try first | simp only [hsp, decide_true, decide_false, Bool.not_true, Bool.not_false] | simp only [Int.not_le.2 hsp, decide_false, Bool.not_false] | simp only [Int.not_lt.2 hsp, decide_false, Bool.not_false] | simp only [Nat.not_le.2 hsp, decide_false, Bool.not_false] | simp only [Nat.not_lt.2 hsp, decide_false, Bool.not_false])))))
        all_goals (refine wpQuiet_nil ?_; intro w1 h1)
        go_wp2_with fail
        go_roundw
        case rel => go_light; exact ⟨k + 1, by omega, by go_num, HGR.out.trans h1⟩
        case measure => go_light; simp [intOf]; omega
      · obtain rfl : k = l.length := by omega
        have HB5 := Lib.hid (HB4.out.grew HGR.out)
        have HA5 := Lib.hid (HA4.out.grew HGR.out)
        have HL5 := Lib.hid (HL.out.grew HG5.out)
        have HR5 := Lib.hid (HR.out.grew (HG1.out.trans HG5.out))
        have HG6 := Lib.hid (HG1.out.trans HG5.out)
        have HO5 := Lib.hid (Own.one (E := Byt.E) (t := 5) (Nat.le_refl wr.heap.size) (1 : UInt8))
        clear HG4 HB4 HA4 HGR HU4
        go_wp2_with (at_builtin; refine wpList_append_rd _ rfl (.tmp 79) (.tmp 80) _ rfl sl_Byt wr.heap.size _ _ _ [(1 : UInt8)] rfl HO5.out _ _ _ code rfl rfl (HR5.out.grew ((Grew.refl _).alloc _)) (by simp only [List.length_cons, List.length_nil]; omega) (by simp) ?_; intro A6 c6 w6 ho6 hgr6 hat6; have HO6 := Lib.hid ho6; have HG7 := Lib.hid (((Grew.refl wr).alloc (.cells #[.int .u8 1] 5)).app HO5.out (Nat.le_refl _) hgr6); clear ho6 hgr6 hat6)
        refine (drawUndoE (l := [(1 : UInt8)] ++ code) (by simp only [List.length_append, List.length_cons, List.length_nil]) _ _ _ HO6.out.rd (by simp only [List.length_append, List.length_cons, List.length_nil]; omega)).mono ?_; rintro e w8 ⟨m8, B8, d8, y, rfl, hy, hg8⟩
        have HG8 := Lib.hid (HG7.out.trans hg8)
        have HY := Lib.hid hy
        have HY8 := Lib.hid (Bx.new_ (E := Mv.E) w8 y 26)
        clear hg8 hy HO6 HG7 HO5
        obtain ⟨yday, yit, yba, yff, ytt, yq⟩ := y
        have HX9 := Lib.hid ((HB5.out.grew HG8.out).alloc (.cells #[.int .i64 yday, .string yit, .string yba, .string yff, .string ytt, .int .i64 yq] 26))
        have HG9 := Lib.hid (HG8.out.alloc (.cells #[.int .i64 yday, .string yit, .string yba, .string yff, .string ytt, .int .i64 yq] 26))
        have hne : w1.heap.size ≠ w8.heap.size := by have := HB5.out.1; have := HG8.out.le; omega
        obtain ⟨w9, hw9⟩ : ∃ w9, w9 = w8.alloc (.cells #[.int .i64 yday, .string yit, .string yba, .string yff, .string ytt, .int .i64 yq] 26) := ⟨_, rfl⟩
        replace HY8 := Lib.hid (show Bx Mv.E (w8.alloc (.cells #[.int .i64 yday, .string yit, .string yba, .string yff, .string ytt, .int .i64 yq] 26)) w8.heap.size ⟨yday, yit, yba, yff, ytt, yq⟩ from HY8.out)
        go_upto_region 19 with fail
        rw [← hw9] at HX9 HG9 HY8 ⊢
        clear hw9
        obtain ⟨x0, x1, x2, x3, x4, x5, xf, xs⟩ := Mv.bx6 HX9.out
        obtain ⟨y0, y1, y2, y3, y4, y5, yf, ys⟩ := Mv.bx6 HY8.out
        by_cases hsame : yit = xit ∧ yba = xba
        · have hs1 : (yit.toList == xit.toList) = true := by rw [hsame.1]; simp
          have hs2 : (yba.toList == xba.toList) = true := by rw [hsame.2]; simp
          clear hsame
          go_wp2_with fail
          go_ret
          go_light
          exact ⟨rfl, HG6.out.trans HG9.out⟩
        · obtain ⟨cl, dl_, el, v, t, h1, h2, h3, h4⟩ := HTW.out ⟨yday, yit, yba, yff, ytt, yq⟩ hsame
          have H1 := Lib.hid h1
          have H2 := Lib.hid h2
          have H3 := Lib.hid h3
          have H4 := Lib.hid h4
          have hcl : cl.length ≤ 60 := by have := applyF_len a ⟨yday, yit, yba, yff, ytt, yq⟩; rw [h1] at this; exact this
          have hdl : dl_.length ≤ 60 := by have := applyF_len l ⟨yday, yit, yba, yff, ytt, yq⟩; rw [h2] at this; exact this
          have hel : el.length ≤ 60 := by have := applyF_len dl_ ⟨xday, xit, xba, xff, xtt, xq⟩; rw [h3] at this; exact this
          have HDO := Lib.hid (show ∀ z ∈ dl_, z.Ok from by have := applyF_ok HOK.out HY.out.ok; rw [h2] at this; exact this)
          have hs : ((yit.toList == xit.toList) = true ∧ (yba.toList == xba.toList) = false) ∨ (yit.toList == xit.toList) = false := by
            cases k1 : (yit.toList == xit.toList)
            · exact .inr rfl
            · refine .inl ⟨rfl, ?_⟩
              cases k2 : (yba.toList == xba.toList)
              · rfl
              · exact absurd ⟨ba_inj.1 (by simpa using k1), ba_inj.1 (by simpa using k2)⟩ hsame
          clear h1 h2 h3 h4 hsame
          rcases hs with ⟨hs1, hs2⟩ | hs1
          all_goals
            go_upto_region 21 with fail
            go_wp2_with fail
            refine (applyE_impl H1.out _ _ _ _ ((HA5.out.grew HG9.out)) HAO.out (by omega) HY.out.ok rfl).mono ?_; rintro e wa ⟨Aa, ca, rfl, hoa, hga⟩
            have HGa := Lib.hid (HG9.out.trans hga)
            have HXa := Lib.hid (HX9.out.grew hga)
            have HYa := Lib.hid (HY8.out.grew hga)
            have HRa := Lib.hid hoa.rd
            clear hoa hga x0 x1 x2 x3 x4 x5 xf xs y0 y1 y2 y3 y4 y5 yf ys
            obtain ⟨y0, y1, y2, y3, y4, y5, yf, ys⟩ := Mv.bx6 HYa.out
            go_wp2_with fail
            refine (applyE_impl H2.out _ _ _ _ ((HL5.out.grew HGa.out)) HOK.out (by omega) HY.out.ok rfl).mono ?_; rintro e wb ⟨Ab, cb, rfl, hob, hgb⟩
            have HGb := Lib.hid (HGa.out.trans hgb)
            have HXb := Lib.hid (HXa.out.grew hgb)
            have HRa2 := Lib.hid (HRa.out.grew hgb)
            have HRb := Lib.hid hob.rd
            clear hob hgb y0 y1 y2 y3 y4 y5 yf ys
            obtain ⟨x0, x1, x2, x3, x4, x5, xf, xs⟩ := Mv.bx6 HXb.out
            go_wp2_with fail
            refine (applyE_impl H3.out _ _ _ _ HRb.out HDO.out (by omega) HX.out.ok rfl).mono ?_; rintro e wc ⟨Ac, cc, rfl, hoc, hgc⟩
            have HGc := Lib.hid (HGb.out.trans hgc)
            have HRa3 := Lib.hid (HRa2.out.grew hgc)
            have HRc := Lib.hid hoc.rd
            clear hoc hgc x0 x1 x2 x3 x4 x5 xf xs
            cases v
            · go_wp2_with fail
              go_ret
              go_light
              exact ⟨rfl, HG6.out.trans HGc.out⟩
            cases t
            · go_wp2_with fail
              go_ret
              go_light
              exact ⟨rfl, HG6.out.trans HGc.out⟩
            have hce := H4.out rfl rfl
            subst hce
            go_wp2_with fail
            go_loopw [20] (fun i wr => ∃ k : Nat, k ≤ cl.length ∧ i = .int .i64 k ∧ Grew wc wr) (fun i _ => cl.length - (intOf i).toNat)
            case atStart => exact ⟨0, Nat.zero_le _, rfl, Grew.refl _⟩
            case round =>
              obtain ⟨k, hk, rfl, hgr⟩ := hrel
              have HGR := Lib.hid hgr
              clear hgr
              by_cases hlt : k < cl.length
              · obtain ⟨z, hz⟩ : ∃ y, cl[k]? = some y := ⟨_, List.getElem?_eq_getElem hlt⟩
                obtain ⟨b1, o1, rfl, hb1, hc1⟩ := (HRa3.out.grew HGR.out).at_ hlt
                obtain ⟨b2, o2, rfl, hb2, hc2⟩ := (HRc.out.grew HGR.out).at_ hlt
                obtain ⟨p0, p1, p2, p3⟩ := Hold.at4 hc1 hz
                obtain ⟨q0, q1, q2, q3⟩ := Hold.at4 hc2 hz
                have hi1 : (0 : Int) ≤ (k : Int) := by omega
                have hi2 : (k : Int) < (cl.length : Int) := by omega
                clear hz hc1 hc2
                go_wp2_with fail
                (refine wp_region_grow_lit (by kernel_rfl) (by kernel_rfl) ?_; repeat (any_goals (first | go_big_quiet_step ((fail)) | quiet_step ((fail)) | (refine wpQuiet_step (fun K hK => ?_); go_simp; split <;> rename_i hsp <;> (refine hK _ ?_; clear hK K) <;> (try first | simp only [hsp, decide_true, decide_false, Bool.not_true, Bool.not_false] | simp only [Int.not_le.2 hsp, decide_false, Bool.not_false] | simp only [Int.not_lt.2 hsp, decide_false, Bool.not_false] | simp only [Nat.not_le.2 hsp, decide_false, Bool.not_false] | simp only [Nat.not_lt.2 hsp, decide_false, Bool.not_false])))))
                all_goals (refine wpQuiet_nil ?_; intro w1 h1)
                go_wp2_with fail
                go_roundw
                case rel => go_light; exact ⟨k + 1, by omega, by go_num, HGR.out.trans h1⟩
                case measure => go_light; simp [intOf]; omega
              · obtain rfl : k = cl.length := by omega
                go_wp2_with fail
                go_ret
                go_light
                exact ⟨ret_bool (by simp), (HG6.out.trans HGc.out).trans HGR.out⟩

set_option maxRecDepth 100000 in
theorem lifted (os : Os) (started : os.Started) (H : Type) (enc : TypeId × Value → H) :
    ReturnsInHanded {} Try.checked os 11 .any (Rows.fnMoveBackSpec.pre6 enc Try.prog Try.f11 Rows.fnMoveBackRow.domain false) (Rows.fnMoveBackSpec.post enc Try.prog Try.f11 false true false false) := by
  refine returnsInHanded_of_change (C := Try.checked) own started (by kernel_rfl) Try.func11
    (ChangeSpec.witness6 (enc := enc) (C := Try.checked) false ⟨#[], #[.slice none 0 0], []⟩ 8 (by kernel_rfl) (by kernel_rfl) (by kernel_rfl) (by kernel_rfl)) ?_
  intro W base args ds gs before hval0 hW hcnd _
  have hval : ∀ (j : Nat) t v, Try.f11.params[j]? = some t → args[j]? = some v → Value.okWide Try.prog W .any base t v := hval0
  have hW' := hW
  obtain ⟨p, q, hA0, hV, rfl, hfz, hnd⟩ := hW
  have hA : DataW.TrodAll enc Try.prog W 0 (fun _ => true) true Try.f11.params.toList args.toList ds p := hA0
  rw [Try.params11] at hA hval
  obtain ⟨v0, vs0, d0, ds0, p0, q0, hargs, rfl, rfl, h0, r0⟩ := trodAll_cons hA
  obtain ⟨rfl, rfl, rfl⟩ := trodAll_nil r0
  obtain rfl : args = #[v0] := by cases args; simp_all
  obtain ⟨code, A, c, rfl, r_code, q1_code, q2_code⟩ := Byt.open_ (hval 0 53 v0 rfl rfl) h0
  refine (walk W code A c r_code ⟨q1_code, q2_code⟩).mono fun e W' ⟨he, hg⟩ => ?_
  subst he
  exact ⟨_, rfl, law_step (tb := 4) laidOut (by rw [Try.params11]; exact pars_of (by kernel_rfl)) rfl hW' rfl rfl rfl (by kernel_rfl) Try.underlying4 hg⟩

theorem over : Rows.fnMoveBackRow.holds Try.pinned (OpenSpec.ofChange Rows.fnMoveBackSpec) :=
  OpenClaim.holds_of_wide 11 Try.f11 rfl rfl rfl rfl rfl rfl rfl ⟨rfl, rfl, rfl, rfl, rfl⟩ rfl rfl rfl rfl rfl (by kernel_rfl) Try.func11 (by kernel_rfl)
    (of_decide_eq_true (by kernel_rfl)) (by unfold Func.isWrapper; first | (rw [if_pos (by decide +kernel)]; kernel_rfl) | (rw [if_neg (by decide +kernel)]; exact ⟨rfl, rfl⟩))
    (fun os started H enc _ => lifted os started H enc)

theorem proved : Rows.FnMoveBackSaid := over
end fnMoveBack
end Go.Proofs.Ytfbfhccgohmeiaa
