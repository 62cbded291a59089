/- The draws of jobs: few jobs of few steps; nothing old but the cursor is written. Conditions: none. -/
import Derived.Test.YtembbgkhmnalpaaDrawI
import Derived.Deep.RegionLaw
namespace Go.Proofs.Ytembbgkhmnalpaa
open Go.RowKit Go.ChangeShapes Go.WideShapes Go.Deep
set_option linter.unusedVariables false
set_option linter.unusedSimpArgs false

theorem sl_Jr : SlInf Try.prog Jr.E 42 72 := info_sl Try.underlying42 info_impl_Job rfl rfl (by decide)
abbrev Jr.sv (x : Jr) : Value := .slice x.A x.l.length x.c
/-- Few steps, at centers with short names. -/
def JrSm (x : Jr) : Prop := x.l.length ≤ 4 ∧ ∀ y ∈ x.l, y.ce.size ≤ 9
theorem jsm_of {rs : List Jr} (h : ∀ x ∈ rs, JrSm x) : JSm (rs.map Jr.j) := fun x hx => by
  obtain ⟨z, hz, rfl⟩ := List.mem_map.1 hx
  have h1 := h z hz
  have e : (9 : Nat) ≤ maxLen := by unfold maxLen; omega
  exact ⟨Nat.le_trans h1.1 (by unfold maxLen; omega), fun y hy => Nat.le_trans (h1.2 y hy) e⟩
section
variable {w w' : World} {base g : Nat} {v v5 : Value} {rs : List Jr}
theorem TJ.mono {b : Nat} (h : TJ w base v rs) (hb : b ≤ base) : TJ w b v rs := ⟨h.o.mono hb, fun x hx => (h.r x hx).mono hb, h.n, h.p⟩
theorem steps_kept {x : Jr} (h : Own Wk.E 74 w base x.sv x.l) (hn : ∀ b, x.sv.ownBlock = some b → v.ownBlock ≠ some b) (k : w.grownBy w' v.ownBlock) : Own Wk.E 74 w' base x.sv x.l := by
  refine h.kept k ?_
  cases hb : x.sv.ownBlock with
  | none => exact .inl rfl
  | some b => exact .inr (fun e => hn b hb e.symm)
theorem TJ.add {y : Jr} {k : Nat} (h : TJ w base v rs) (hm : Own Wk.E 74 w base y.sv y.l) (hs : ∀ b, y.sv.ownBlock = some b → v.ownBlock ≠ some b ∧ ∀ x ∈ rs, x.sv.ownBlock ≠ some b)
    (hgr : w.grownBy w' v.ownBlock) (ho : Own Jr.E 72 w' base v5 (rs ++ [y])) (hat : v5.ownBlock = v.ownBlock ∨ v5.ownBlock = some k) (hk : w.heap.size ≤ k) : TJ w' base v5 (rs ++ [y]) := by
  refine ⟨ho, fun x hx => ?_, fun x hx b hb => ?_, ?_⟩
  · rcases List.mem_append.1 hx with hx | hx
    · exact steps_kept (h.r x hx) (h.n x hx) hgr
    · obtain rfl : x = y := by simpa using hx
      exact steps_kept hm (fun b hb => (hs b hb).1) hgr
  · rcases List.mem_append.1 hx with hx | hx
    · exact ne_of_at hat (h.n x hx b hb) (by have := ((h.r x hx).block b hb).2; omega)
    · obtain rfl : x = y := by simpa using hx
      exact ne_of_at hat (hs b hb).1 (by have := (hm.block b hb).2; omega)
  · rw [List.pairwise_append]
    refine ⟨h.p, List.pairwise_singleton _ _, fun x hx z hz b hb e => ?_⟩
    obtain rfl : z = y := by simpa using hz
    exact (hs b e).2 x hx hb
end
theorem cons_of {T : Type} {rs : List T} {x : T} (h : rs[0]? = some x) : ∃ xs, rs = x :: xs := by
  cases rs with
  | nil => simp at h
  | cons z zs => simp at h; subst h; exact ⟨zs, rfl⟩
theorem TJ.setHd {w : World} {base gt n c j : Nat} {x x' : Jr} {xs : List Jr} {u : Value} (h : TJ w base (.slice (some ⟨gt, 0, none⟩) n c) (x :: xs)) (henc : (Jr.E.enc x).set j u = Jr.E.enc x') (hj : j < 3) (hsv : x'.sv = x.sv) (hl : x'.l = x.l) :
    TJ (w.setCell ⟨gt, j, none⟩ u) base (.slice (some ⟨gt, 0, none⟩) n c) (x' :: xs) := by
  have h1 := h.o.set_ (i := 0) (x := x) (x' := x') (j := j) (u := u) rfl henc hj
  simp only [Nat.zero_mul, Nat.zero_add, List.set_cons_zero] at h1
  refine ⟨h1, fun z hz => ?_, fun z hz b hb => ?_, ?_⟩
  · rcases List.mem_cons.1 hz with rfl | hz
    · have h2 := steps_kept (h.r x List.mem_cons_self) (h.n x List.mem_cons_self) (set_by w gt j u)
      have h3 : (Value.slice z.A z.l.length z.c) = x.sv := hsv
      rw [h3, hl]; exact h2
    · exact steps_kept (h.r z (List.mem_cons_of_mem _ hz)) (h.n z (List.mem_cons_of_mem _ hz)) (set_by w gt j u)
  · rcases List.mem_cons.1 hz with rfl | hz
    · exact h.n x List.mem_cons_self b ((congrArg Value.ownBlock hsv).symm.trans hb)
    · exact h.n z (List.mem_cons_of_mem _ hz) b hb
  · have h4 := List.pairwise_cons.1 h.p
    refine List.pairwise_cons.2 ⟨fun z hz b hb => h4.1 z hz b ((congrArg Value.ownBlock hsv).symm.trans hb), h4.2⟩
/-- The first job's steps are longer by one. -/
theorem TJ.grow {w w' : World} {base gt n c k : Nat} {x x' : Jr} {xs : List Jr} (h : TJ w base (.slice (some ⟨gt, 0, none⟩) n c) (x :: xs)) (hgr : w.grownBy w' x.sv.ownBlock) (ho : Own Wk.E 74 w' base x'.sv x'.l) (hat : x'.sv.ownBlock = x.sv.ownBlock ∨ x'.sv.ownBlock = some k) (hk : w.heap.size ≤ k) (h1 : x'.rl = x.rl) (h2 : x'.du = x.du) :
    TJ (w'.setCell ⟨gt, 2, none⟩ x'.sv) base (.slice (some ⟨gt, 0, none⟩) n c) (x' :: xs) := by
  have hgtl := (h.o.block gt rfl).2
  have hne : x.sv.ownBlock ≠ some gt := fun e => h.n x List.mem_cons_self gt e rfl
  have hne2 : x'.sv.ownBlock ≠ some gt := ne_of_at hat hne (by omega)
  have hp := List.pairwise_cons.1 h.p
  have o1 : Own Jr.E 72 w' base (.slice (some ⟨gt, 0, none⟩) n c) (x :: xs) := h.o.kept hgr (.inr (fun e => hne e.symm))
  have o2 := o1.set_ (i := 0) (x := x) (x' := x') (j := 2) (u := x'.sv) rfl (by simp [Jr.E, h1, h2]) (by decide)
  simp only [Nat.zero_mul, Nat.zero_add, List.set_cons_zero] at o2
  refine ⟨o2, fun z hz => ?_, fun z hz b hb => ?_, List.pairwise_cons.2 ⟨fun z hz b hb => ?_, hp.2⟩⟩
  · rcases List.mem_cons.1 hz with rfl | hz
    · exact ho.kept (set_by w' gt 2 _) (.inr hne2)
    · have h3 : Own Wk.E 74 w' base z.sv z.l := by
        refine (h.r z (List.mem_cons_of_mem _ hz)).kept hgr ?_
        cases hzb : z.sv.ownBlock with
        | none => exact .inl rfl
        | some b => exact .inr (fun e => hp.1 z hz b e.symm hzb)
      exact steps_kept (v := .slice (some ⟨gt, 0, none⟩) n c) h3 (h.n z (List.mem_cons_of_mem _ hz)) (set_by w' gt 2 _)
  · rcases List.mem_cons.1 hz with rfl | hz
    · exact fun e => hne2 (hb.trans e.symm)
    · exact h.n z (List.mem_cons_of_mem _ hz) b hb
  · have hzb := (h.r z (List.mem_cons_of_mem _ hz)).block
    intro e
    have h5 := (hzb b e).2
    rcases hat with h4 | h4
    · exact hp.1 z hz b (h4 ▸ hb) e
    · have : b = k := by have := hb.symm.trans h4; exact Option.some.inj this
      omega
theorem Jr.bx3 {w : World} {b : Nat} {x : Jr} (h : Bx Jr.E w b x) : w.cell? ⟨b, 0, none⟩ = some (.int .i64 x.rl) ∧ w.cell? ⟨b, 1, none⟩ = some (.int .i64 x.du) ∧ w.cell? ⟨b, 2, none⟩ = some (.slice x.A x.l.length x.c) ∧ b < w.heap.size ∧ ∀ j, w.frozen? ⟨b, j, none⟩ = false := ⟨h.2.1 0 _ rfl, h.2.1 1 _ rfl, h.2.1 2 _ rfl, h.1, h.2.2⟩

set_option maxRecDepth 100000 in
set_option maxHeartbeats 16000000 in
theorem l22Jobs_any (w : World) (g c : Nat) (A : Option Addr) (l : List UInt8) (h : Cur w g A c l) :
    Calls Try.prog 63 #[.pointer (some ⟨g, 0, none⟩)] w fun e w' => ∃ (rs : List Jr) (B : Option Addr) (d : Nat), e = .returned (.slice B rs.length d) ∧ rs.length ≤ 5 ∧ (∀ x ∈ rs, JrSm x) ∧ TJ w' w.heap.size (.slice B rs.length d) rs ∧ Cur w' g A c l ∧ w.grownBy w' (some g) := by
  have HC := Lib.hid h
  have hgl : g < w.heap.size := h.1
  have H0 := Lib.hid h.2.2.2.2.2.1
  clear h
  go_enter Try.func63, Try.ntmps63
  go_wp2_with fail
  refine (l1Below_any _ _ _ _ _ 5 (HC.out.grew ((Grew.refl _).alloc _)) (by omega)).mono ?_; rintro e w1 ⟨n, rfl, hn0, hn1, hn2, hc1, hg1⟩
  have HC1 := Lib.hid hc1
  have HT1 := Lib.hid (show TJ w1 w.heap.size (.slice (some ⟨w.heap.size, 0, none⟩) 0 0) [] from ⟨own_cur (Own.new_ (E := Jr.E) (t := 72) (Nat.le_refl w.heap.size)) hgl hg1, by simp, by simp, List.Pairwise.nil⟩)
  have HG1 := Lib.hid ((World.grownBy_alloc w _ _).trans hg1)
  have hn3 := hn1 (by omega)
  clear hc1 hg1 hn1 hn2
  go_wp2_with fail
  go_loopw [3, 4] (fun v i wr => ∃ (rs : List Jr) (j : Int) (B : Option Addr) (d : Nat), 0 ≤ j ∧ (rs.length : Int) + j ≤ 5 ∧ i = .int .i64 j ∧ v = .slice B rs.length d ∧ (∀ x ∈ rs, JrSm x ∧ x.l.length ≤ 3) ∧ TJ wr w.heap.size v rs ∧ Cur wr g A c l ∧ w.grownBy wr (some g)) (fun _ i _ => (intOf i).toNat)
  case atStart => exact ⟨[], n, _, _, by omega, by simp; omega, rfl, rfl, by simp, HT1.out, HC1.out, HG1.out⟩
  case round =>
    obtain ⟨rs, j, B, d, hj0, hj1, rfl, rfl, hok, htj, hcur, hgr⟩ := hrel
    have HT := Lib.hid htj
    have HCU := Lib.hid hcur
    have HG := Lib.hid hgr
    have HOK := Lib.hid hok
    clear hok htj hcur hgr HC1 HT1 HG1
    by_cases hj : 0 < j
    · go_wp2_with fail
      refine (l1Below_any _ _ _ _ _ 20 HCU.out (by omega)).mono ?_; rintro e w2 ⟨rl, rfl, hr0, hr1, hr2, hc2, hg2⟩
      have HC2 := Lib.hid hc2
      have HT2 := Lib.hid (HT.out.cur hgl hg2)
      have HG2 := Lib.hid (HG.out.trans hg2)
      clear hc2 hg2 hr0 hr1 hr2 HCU HT HG
      go_wp2_with fail
      refine (l1Below_any _ _ _ _ _ 120 HC2.out (by omega)).mono ?_; rintro e w3 ⟨du, rfl, hr0, hr1, hr2, hc3, hg3⟩
      have HC3 := Lib.hid hc3
      have HT3 := Lib.hid (HT2.out.cur hgl hg3)
      have HG3 := Lib.hid (HG2.out.trans hg3)
      clear hc3 hg3 hr0 hr1 hr2 HC2 HT2 HG2
      go_upto_region 6 with fail
      obtain ⟨bx, hbx⟩ : ∃ bx, bx = w3.heap.size := ⟨_, rfl⟩
      obtain ⟨w4, hw4⟩ : ∃ w4, w4 = w3.alloc (.cells (Jr.E.enc ⟨rl, du, [], none, 0⟩).toArray 72) := ⟨_, rfl⟩
      have HX4 := Lib.hid (show Bx Jr.E w4 bx ⟨rl, du, [], none, 0⟩ by rw [hw4, hbx]; exact Bx.new_ w3 _ _)
      have HC4 := Lib.hid (show Cur w4 g A c l by rw [hw4]; exact HC3.out.grew ((Grew.refl _).alloc _))
      have HG4 := Lib.hid (show w3.grownBy w4 (some g) by rw [hw4]; exact only_grew (World.grownBy.refl _ _) ((Grew.refl _).alloc _))
      have hs4 : w4.heap.size = bx + 1 := by rw [hw4, hbx]; simp
      have hgx : g < bx := by rw [hbx]; exact HC3.out.1
      have hwx : w.heap.size ≤ bx := by rw [hbx]; exact HG3.out.size
      have HBX := Lib.hid hbx
      simp only [Jr.E, List.length_nil] at hw4
      rw [← hw4, ← hbx]
      have HS4 := Lib.hid hs4
      clear hw4 hbx hs4
      go_wp2_with fail
      refine (l1Below_any _ _ _ _ _ 4 HC4.out (by omega)).mono ?_; rintro e w5 ⟨m, rfl, hm0, hm1, hm2, hc5, hg5⟩
      have hm3 := hm1 (by omega)
      have HX5 := Lib.hid (HX4.out.by_ hg5 (by omega))
      have HC5 := Lib.hid hc5
      have HG5 := Lib.hid (HG4.out.trans hg5)
      have HN5 := Lib.hid (Own.none_ (E := Wk.E) (t := 74) (w := w5) (base := bx + 1))
      clear hc5 hg5 hm1 hm2 HX4 HC4 HG4
      go_wp2_with fail
      go_loopw [6] (fun kv wr2 => ∃ (x : Jr) (k : Int), 0 ≤ k ∧ (x.l.length : Int) + k ≤ 3 ∧ kv = .int .i64 k ∧ (∀ y ∈ x.l, y.ce.size ≤ 9) ∧ Bx Jr.E wr2 bx x ∧ Own Wk.E 74 wr2 (bx + 1) x.sv x.l ∧ Cur wr2 g A c l ∧ w3.grownBy wr2 (some g)) (fun kv _ => (intOf kv).toNat)
      case atStart => exact ⟨⟨rl, du, [], none, 0⟩, m, hm0, by simp; omega, rfl, by simp, HX5.out, HN5.out, HC5.out, HG5.out⟩
      case round =>
        obtain ⟨x, k, hk0, hk1, rfl, hok2, hbx, hown, hcur, hgr⟩ := hrel
        have HX6 := Lib.hid hbx
        have HO6 := Lib.hid hown
        have HC6 := Lib.hid hcur
        have HG6 := Lib.hid hgr
        have HK2 := Lib.hid hok2
        clear hbx hown hcur hgr hok2 HX5 HN5 HC5 HG5
        by_cases hk : 0 < k
        · go_upto_region 9 with fail
          obtain ⟨x0, x1, x2, xs, xf⟩ := Jr.bx3 HX6.out
          obtain ⟨st, hst⟩ : ∃ v, v = x.sv := ⟨_, rfl⟩
          have XC := Lib.hid (fun (w' : World) (k : Grew wr w') => show w'.cell? ⟨bx, 2, none⟩ = some x.sv from (k.rules.1 bx _ xs).trans x2)
          have hgl6 : g < wr.heap.size := HC6.out.1
          have HCA := Lib.hid (show Cur (wr.alloc (.cells (flat Str.E cents3).toArray 9)).drew g A c l from HC6.out.grew ((Grew.refl wr).alloc _).drew)
          have HRA := Lib.hid (show Rd Str.E (wr.alloc (.cells (flat Str.E cents3).toArray 9)).drew (some ⟨wr.heap.size, 0, none⟩) cents3 from rd_flat wr cents3 9 rfl)
          have HGA := Lib.hid (show Grew wr (wr.alloc (.cells (flat Str.E cents3).toArray 9)).drew from ((Grew.refl wr).alloc _).drew)
          have hgbx : g < bx + 1 := by omega
          go_region_law
            ((first
              | (go_simp; go_at_call 65; (refine (l1Pick_any _ g c A l cents3 _ _ HCA.out HRA.out (by decide) (by decide) (by omega)).mono ?_); rintro e w6 ⟨ce, rfl, hce, hc6, hg6⟩; have HCE := Lib.hid (size_in (by decide) hce); have HX7 := Lib.hid ((HX6.out.grew HGA.out).by_ hg6 (by omega)); have HO7 := Lib.hid (own_cur (HO6.out.grew HGA.out) hgbx hg6); have HC7 := Lib.hid hc6; have HG7 := Lib.hid ((only_grew HG6.out HGA.out).trans hg6); have y2 := (Jr.bx3 HX7.out).2.2.1; clear hce hc6 hg6)
              | (go_simp; go_at_call 66; (refine (l1Below_any _ g c A l 30 HC7.out (by omega)).mono ?_); rintro e w7 ⟨q, rfl, hq0, hq1, hq2, hc7, hg7⟩; have hq3 := hq1 (by omega); have hwq : IntKind.i64.wrap (1 + q) = 1 + q := IntWalk.i64_in _ (by omega); have HX8 := Lib.hid (HX7.out.by_ hg7 (by omega)); have HO8 := Lib.hid (own_cur HO7.out hgbx hg7); have HC8 := Lib.hid hc7; have HG8 := Lib.hid (HG7.out.trans hg7); have hxs8 : bx < w7.heap.size := HX8.out.1; have z2 := (Jr.bx3 HX8.out).2.2.1; have z2a := (Jr.bx3 (HX8.out.alloc (.cells #[.string ce, .int .i64 (1 + q)] 74))).2.2.1; clear hc7 hg7 hq1 hq2)
              | (with_reducible refine step_append_rd _ rfl (.tmp 26) (.tmp 34) _ rfl sl_Wk (bx + 1) _ _ _ x.l rfl (HO8.out.alloc _) _ _ _ [⟨ce, 1 + q⟩] rfl rfl (rd_new (E := Wk.E) _ ⟨ce, 1 + q⟩ _ rfl) (by simp only [List.length_cons, List.length_nil]; omega) (by simp; omega) ?_; intro A5 c5 w8 ho8 hgr8 hat8; have HX9 := Lib.hid ((HX8.out.alloc (.cells #[.string ce, .int .i64 (1 + q)] 74)).kept hgr8 (fun e => by have := (HO8.out.block bx e).1; omega)); have HO9 := Lib.hid ho8; have HC9 := Lib.hid ((HC8.out.grew ((Grew.refl _).alloc _)).app H0.out hgbx (by omega) (HO8.out.alloc _) hgr8); have HG9 := Lib.hid (only_app (only_grew HG8.out ((Grew.refl _).alloc _)) (HO8.out.alloc _) (by have := HBX.out; omega) hgr8); obtain ⟨v0, v1, v2, vs, vf⟩ := Jr.bx3 HX9.out; clear ho8 hgr8 hat8)))
          all_goals
            go_wp2_with fail
            go_roundw
            case rel =>
              go_light
              refine ⟨⟨x.rl, x.du, x.l ++ [⟨ce, 1 + q⟩], A5, c5⟩, k - 1, by omega, by simp; omega, rfl, fun y hy => ?_, HX9.out.set_ (by simp [Jr.E]) (by decide), ?_, HC9.out.store H0.out (by omega) hwx (set_by _ _ _ _), only_store HG9.out (by have := HBX.out; omega) (set_by _ _ _ _)⟩
              · rcases List.mem_append.1 hy with hy | hy
                · exact HK2.out y hy
                · obtain rfl : y = _ := List.mem_singleton.1 hy
                  exact HCE.out
              · exact own_re (HO9.out.kept (set_by _ bx 2 _) (.inr (HO9.out.ne_ (.inl (by omega))))) rfl (by simp)
            case measure => go_light; simp [intOf]; omega
        · obtain rfl : k = 0 := by omega
          have HTX := Lib.hid (HT3.out.cur hgl HG6.out)
          obtain ⟨x0, x1, x2, xs, xf⟩ := Jr.bx3 HX6.out
          have HSP := Lib.hid (show ∀ b, x.sv.ownBlock = some b → (Value.slice B rs.length d).ownBlock ≠ some b ∧ ∀ z ∈ rs, z.sv.ownBlock ≠ some b from fun b hb => by
            have h1 := (HO6.out.block b hb).1
            have h2 := HBX.out
            refine ⟨fun e => ?_, fun z hz e => ?_⟩
            · have := (HT3.out.o.block b e).2; omega
            · have := ((HT3.out.r z hz).block b e).2; omega)
          have hs6 : w.heap.size ≤ wr.heap.size := by have := HG3.out.size; have := HG6.out.size; omega
          have HSM := Lib.hid (show JrSm x ∧ x.l.length ≤ 3 from ⟨⟨by omega, HK2.out⟩, by omega⟩)
          go_wp2_with (at_builtin; refine wpList_append_rd _ rfl (.tmp 37) (.tmp 39) _ rfl sl_Jr w.heap.size _ _ _ rs rfl (HTX.out.o.alloc _) _ _ _ [x] rfl rfl (rd_new (E := Jr.E) _ x _ rfl) (by simp only [List.length_cons, List.length_nil]; omega) (by simp; omega) ?_; intro A5 c5 w5 ho5 hgr5 hat5; have HT5 := Lib.hid ((HTX.out.grew ((Grew.refl _).alloc _)).add (y := x) ((HO6.out.mono (by omega)).alloc _) HSP.out hgr5 ho5 hat5 (Nat.le_refl _)); have HC7 := Lib.hid ((HC6.out.grew ((Grew.refl _).alloc _)).app H0.out hgl (Nat.le_refl _) (HTX.out.o.alloc _) hgr5); have HG7 := Lib.hid (only_app (only_grew (HG3.out.trans HG6.out) ((Grew.refl _).alloc _)) (HTX.out.o.alloc _) (Nat.le_refl _) hgr5); clear ho5 hgr5 hat5)
          go_roundw
          case rel =>
            go_light
            refine ⟨rs ++ [x], j - 1, A5, c5, by omega, by simp; omega, rfl, by simp, fun z hz => ?_, HT5.out, HC7.out, HG7.out⟩
            rcases List.mem_append.1 hz with hz | hz
            · exact HOK.out z hz
            · obtain rfl : z = _ := List.mem_singleton.1 hz
              exact HSM.out
          case measure => go_light; simp [intOf]; omega
    · have hr5 : rs.length ≤ 5 := by omega
      go_wp2_with fail
      refine (l1Once_any _ _ _ _ _ 14 HCU.out (by omega)).mono ?_; rintro e w2 ⟨b1, rfl, hc2, hg2⟩
      have HC2 := Lib.hid hc2
      have HT2 := Lib.hid (HT.out.cur hgl hg2)
      have HG2 := Lib.hid (HG.out.trans hg2)
      clear hc2 hg2 HCU HT HG
      by_cases hgo : b1 = true ∧ 0 < rs.length
      · obtain ⟨rfl, hz⟩ := hgo
        have hzi : (0 : Int) < (rs.length : Int) := by omega
        obtain ⟨x, hx⟩ : ∃ x, rs[0]? = some x := ⟨_, List.getElem?_eq_getElem hz⟩
        obtain ⟨xs, hxs⟩ := cons_of hx
        obtain ⟨gt, d2, hv, hgt1, hgt2⟩ := HT2.out.o.addr hz
        simp only [Value.slice.injEq, true_and] at hv
        obtain ⟨hB, hd2⟩ := hv
        subst hB
        subst hd2
        have HX := Lib.hid hx
        have HXS := Lib.hid hxs
        clear hx hxs
        go_wp2_with fail
        refine (l1Below_any _ _ _ _ _ 3 HC2.out (by omega)).mono ?_; rintro e w3 ⟨s, rfl, hs0, hs1, hs2, hc3, hg3⟩
        have hs3 := hs1 (by omega)
        have HC3 := Lib.hid hc3
        have HT3 := Lib.hid (HT2.out.cur hgl hg3)
        have HG3 := Lib.hid (HG2.out.trans hg3)
        clear hc3 hg3 hs1 hs2 HC2 HT2 HG2
        rcases (show s = 0 ∨ s = 1 ∨ s = 2 by omega) with rfl | rfl | rfl
        · go_wp2_with fail
          refine (l1Odd_any _ g c A l HC3.out).mono ?_; rintro e w4 ⟨q, rfl, hq, hc4, hg4⟩
          have HC4 := Lib.hid hc4
          have HT4 := Lib.hid (HXS.out ▸ HT3.out.cur hgl hg4)
          have HG4 := Lib.hid (HG3.out.trans hg4)
          clear hc4 hg4 hq
          have hcx := HT4.out.o.at_ (i := 0) (x := x) (j := 0) (u := .int .i64 x.rl) rfl rfl
          simp only [Jr.E, Nat.zero_mul, Nat.zero_add] at hcx
          have hfz := HT4.out.o.frozen
          go_wp2_with fail
          go_ret
          go_light
          refine ⟨⟨q, x.du, x.l, x.A, x.c⟩ :: xs, some ⟨gt, 0, none⟩, d, ?_, ?_, fun z hz => ?_, ?_, HC4.out.store H0.out (by omega) hgt1 (set_by _ _ _ _), only_store HG4.out hgt1 (set_by _ _ _ _)⟩
          · rw [HXS.out]; rfl
          · rw [HXS.out] at hr5; exact hr5
          · rcases List.mem_cons.1 hz with rfl | hz
            · exact (HOK.out x (List.mem_of_getElem? HX.out)).1
            · exact (HOK.out z (by rw [HXS.out]; exact List.mem_cons_of_mem _ hz)).1
          · have h := HT4.out.setHd (j := 0) (u := .int .i64 q) (x' := ⟨q, x.du, x.l, x.A, x.c⟩) rfl (by decide) rfl rfl
            exact h
        · go_wp2_with fail
          refine (l1Odd_any _ g c A l HC3.out).mono ?_; rintro e w4 ⟨q, rfl, hq, hc4, hg4⟩
          have HC4 := Lib.hid hc4
          have HT4 := Lib.hid (HXS.out ▸ HT3.out.cur hgl hg4)
          have HG4 := Lib.hid (HG3.out.trans hg4)
          clear hc4 hg4 hq
          have hcx := HT4.out.o.at_ (i := 0) (x := x) (j := 1) (u := .int .i64 x.du) rfl rfl
          simp only [Jr.E, Nat.zero_mul, Nat.zero_add] at hcx
          have hfz := HT4.out.o.frozen
          go_wp2_with fail
          go_ret
          go_light
          refine ⟨⟨x.rl, q, x.l, x.A, x.c⟩ :: xs, some ⟨gt, 0, none⟩, d, ?_, ?_, fun z hz => ?_, ?_, HC4.out.store H0.out (by omega) hgt1 (set_by _ _ _ _), only_store HG4.out hgt1 (set_by _ _ _ _)⟩
          · rw [HXS.out]; rfl
          · rw [HXS.out] at hr5; exact hr5
          · rcases List.mem_cons.1 hz with rfl | hz
            · exact (HOK.out x (List.mem_of_getElem? HX.out)).1
            · exact (HOK.out z (by rw [HXS.out]; exact List.mem_cons_of_mem _ hz)).1
          · have h := HT4.out.setHd (j := 1) (u := .int .i64 q) (x' := ⟨x.rl, q, x.l, x.A, x.c⟩) rfl (by decide) rfl rfl
            exact h
        · have HT3' := Lib.hid (HXS.out ▸ HT3.out)
          have hcx := HT3'.out.o.at_ (i := 0) (x := x) (j := 2) (u := x.sv) rfl rfl
          simp only [Jr.E, Nat.zero_mul, Nat.zero_add] at hcx
          have hfz := HT3'.out.o.frozen
          have hgl3 : g < w3.heap.size := HC3.out.1
          have hgt3 : gt < w3.heap.size := (HT3'.out.o.block gt rfl).2
          have HNE := Lib.hid (show x.sv.ownBlock ≠ some gt from fun e => HT3'.out.n x List.mem_cons_self gt e rfl)
          have HNE3 := Lib.hid (show (Value.slice (some ⟨gt, 0, none⟩) (x :: xs).length d).ownBlock ≠ x.sv.ownBlock from fun e => HNE.out e.symm)
          have HXL := Lib.hid (HOK.out x (List.mem_of_getElem? HX.out))
          have hxl := HXL.out.2
          have HC3D := Lib.hid (show Cur (w3.alloc (.cells #[.int .i64 0, .int .i64 1000, .int .i64 1001] 3)).drew g A c l from HC3.out.grew ((Grew.refl w3).alloc _).drew)
          have HRI := Lib.hid (show Rd IntP.E (w3.alloc (.cells #[.int .i64 0, .int .i64 1000, .int .i64 1001] 3)).drew (some ⟨w3.heap.size, 0, none⟩) [0, 1000, 1001] from rd_ints w3 [0, 1000, 1001] 3 rfl)
          have HGD := Lib.hid (show Grew w3 (w3.alloc (.cells #[.int .i64 0, .int .i64 1000, .int .i64 1001] 3)).drew from ((Grew.refl w3).alloc _).drew)
          go_upto_region 13 with fail
          go_region_law
            ((first
              | (go_simp; go_at_call 74; (refine (l1PickInt_any _ g c A l [0, 1000, 1001] _ _ HC3D.out HRI.out (by decide) (by decide) (by omega)).mono ?_); rintro e w6 ⟨q, rfl, hq, hcu6, hg6⟩; have HT6 := Lib.hid ((HT3'.out.grew HGD.out).cur hgl hg6); have HC6 := Lib.hid hcu6; have HG6 := Lib.hid ((only_grew HG3.out HGD.out).trans hg6); have HO6 := Lib.hid (HT6.out.r x List.mem_cons_self); have hcx6 := HT6.out.o.at_ (i := 0) (x := x) (j := 2) (u := x.sv) rfl rfl; simp only [Jr.E, Nat.zero_mul, Nat.zero_add] at hcx6; have hs6 := HG6.out.size; have hgt6 : gt < w6.heap.size := (HT6.out.o.block gt rfl).2; clear hq hcu6 hg6)
              | (with_reducible refine step_append_rd _ rfl (.tmp 54) (.tmp 59) _ rfl sl_Wk w.heap.size _ _ _ x.l rfl (HO6.out.alloc _) _ _ _ [⟨⟨#[83, 65, 87]⟩, q⟩] rfl rfl (rd_new (E := Wk.E) _ ⟨⟨#[83, 65, 87]⟩, q⟩ _ rfl) (by simp only [List.length_cons, List.length_nil]; omega) (by simp; omega) ?_; intro A5 c5 w8 ho8 hgr8 hat8; have HGR := Lib.hid hgr8; have HO8 := Lib.hid ho8; have HAT := Lib.hid hat8; have HC8 := Lib.hid ((HC6.out.grew ((Grew.refl _).alloc _)).app H0.out hgl (Nat.le_refl _) (HO6.out.alloc _) hgr8); have HG8 := Lib.hid (only_app (only_grew HG6.out ((Grew.refl _).alloc _)) (HO6.out.alloc _) (Nat.le_refl _) hgr8); have HOT := Lib.hid (Own.kept (HT6.out.o.alloc (.cells #[.string ⟨#[83, 65, 87]⟩, .int .i64 q] 74)) hgr8 (Or.inr HNE3.out)); have hcx8 := HOT.out.at_ (i := 0) (x := x) (j := 2) (u := x.sv) rfl rfl; simp only [Jr.E, Nat.zero_mul, Nat.zero_add] at hcx8; have hfz8 := HOT.out.frozen; clear ho8 hgr8 hat8)))
          all_goals
            go_wp2_with fail
            go_ret
            go_light
            refine ⟨⟨x.rl, x.du, x.l ++ [⟨⟨#[83, 65, 87]⟩, q⟩], A5, c5⟩ :: xs, some ⟨gt, 0, none⟩, d, ?_, ?_, fun z hz => ?_, ?_, HC8.out.store H0.out (by omega) hgt1 (set_by _ _ _ _), only_store HG8.out hgt1 (set_by _ _ _ _)⟩
            · rw [HXS.out]; rfl
            · rw [HXS.out] at hr5; exact hr5
            · rcases List.mem_cons.1 hz with rfl | hz
              · refine ⟨by simp; omega, fun y hy => ?_⟩
                rcases List.mem_append.1 hy with hy | hy
                · exact HXL.out.1.2 y hy
                · obtain rfl : y = _ := List.mem_singleton.1 hy
                  exact (by decide : (⟨#[83, 65, 87]⟩ : ByteArray).size ≤ 9)
              · exact (HOK.out z (by rw [HXS.out]; exact List.mem_cons_of_mem _ hz)).1
            · have h := (HT6.out.grew ((Grew.refl w6).alloc (.cells #[.string ⟨#[83, 65, 87]⟩, .int .i64 q] 74))).grow (x' := ⟨x.rl, x.du, x.l ++ [⟨⟨#[83, 65, 87]⟩, q⟩], A5, c5⟩) HGR.out (own_re HO8.out rfl (by simp)) (by have := HAT.out; simpa [Jr.sv] using this) (Nat.le_refl _) rfl rfl
              have hsv : (Jr.sv ⟨x.rl, x.du, x.l ++ [⟨⟨#[83, 65, 87]⟩, q⟩], A5, c5⟩) = .slice A5 (x.l.length + 1) c5 := by simp [Jr.sv]
              rw [hsv] at h
              exact h
      · cases b1
        · go_wp2_with fail
          go_ret
          go_light
          exact ⟨rs, B, d, rfl, hr5, fun z hz => (HOK.out z hz).1, HT2.out, HC2.out, HG2.out⟩
        · have hz : rs = [] := List.eq_nil_of_length_eq_zero (by have : ¬ 0 < rs.length := fun h => hgo ⟨rfl, h⟩; omega)
          subst hz
          go_wp2_with fail
          go_ret
          go_light
          exact ⟨[], B, d, rfl, by simp, by simp, HT2.out, HC2.out, HG2.out⟩

set_option maxRecDepth 100000 in
set_option maxHeartbeats 4000000 in
theorem l22Two_any (w : World) (c : Nat) (A : Option Addr) (l : List UInt8) (h : Rd Byt.E w A l) (hl : l.length ≤ 1048576) :
    Calls Try.prog 54 #[.slice A l.length c] w fun e w' => ∃ (rs : List Jr) (BJ : Option Addr) (dJ : Nat) (L : List Slt) (B : Option Addr) (d : Nat), e = .returned (.tuple #[.slice BJ rs.length dJ, .slice B L.length d]) ∧ rs.length ≤ 5 ∧ (∀ x ∈ rs, JrSm x) ∧ TJ w' w.heap.size (.slice BJ rs.length dJ) rs ∧ L.length ≤ 30 ∧ (∀ s ∈ L, s.en ≤ 200000) ∧ Own Slt.E 56 w' w.heap.size (.slice B L.length d) L ∧ Grew w w' := by
  have HL := Lib.hid h
  clear h
  go_enter Try.func54, Try.ntmps54
  go_wp2_with fail
  refine (l1New_any _ _ _ _ HL.out hl).mono ?_; rintro e w1 ⟨g, rfl, hc1, hg1, hgs⟩
  have HC1 := Lib.hid hc1
  have HG1 := Lib.hid hg1
  have hgl : g < w1.heap.size := hc1.1
  clear hc1 hg1
  go_wp2_with fail
  refine (l22Jobs_any _ g _ _ _ HC1.out).mono ?_; rintro e w2 ⟨rs, BJ, dJ, rfl, hr5, hsm, htj, hc2, hg2⟩
  have HC2 := Lib.hid hc2
  have HT2 := Lib.hid htj
  have HSM := Lib.hid hsm
  have HG2 := Lib.hid hg2
  clear hc2 htj hsm hg2
  go_wp2_with fail
  refine (l22Slots_any _ g _ _ _ HC2.out w1.heap.size BJ dJ rs HT2.out hgl (jsm_of HSM.out) (by omega)).mono ?_; rintro e w3 ⟨L, B, d, rfl, hl30, hen, ho3, hc3, hg3⟩
  have HT3 := Lib.hid (HT2.out.cur hgl hg3)
  have HG3 := Lib.hid (grew_only HG1.out (HG2.out.trans hg3) hgs)
  have HO3 := Lib.hid ho3
  have HEN := Lib.hid hen
  clear ho3 hc3 hg3 hen
  go_wp2_with fail
  go_ret2
  go_light
  exact ⟨rs, BJ, dJ, L, B, d, rfl, hr5, HSM.out, HT3.out.mono HG1.out.le, hl30, HEN.out, HO3.out.mono (Nat.le_trans HG1.out.le HG2.out.size), HG3.out⟩

theorem info_byte : (Try.prog.info? 5).map (fun i => (i.zero, i.size, i.bytes)) = some (some (.int .u8 0), 1, 1) := by kernel_rfl
theorem sl_Byt : SlInf Try.prog Byt.E 50 5 := info_sl Try.underlying50 info_byte rfl rfl (by decide)
theorem Own.one {T : Type} {E : Enc T} {t : TypeId} {w : World} {base : Nat} (hb : base ≤ w.heap.size) (x : T) : Own E t (w.alloc (.cells (E.enc x).toArray t)) base (.slice (some ⟨w.heap.size, 0, none⟩) 1 1) [x] :=
  ⟨by simp [flat, E.len], .inr ⟨w.heap.size, 1, (E.enc x).toArray, rfl, hb, heap_alloc_new w _, Nat.le_refl _, by decide, by simp [E.len], by
    have : ((E.enc x).toArray.toList).take (1 * E.sz) = E.enc x := by rw [Nat.one_mul, ← E.len x]; simp
    simpa [flat] using this⟩⟩

set_option maxRecDepth 100000 in
set_option maxHeartbeats 8000000 in
theorem drawRepairSlots_any (w : World) (c : Nat) (A : Option Addr) (l : List UInt8) (h : Rd Byt.E w A l) (hl : l.length ≤ 1048576) :
    Calls Try.prog 31 #[.slice A l.length c] w fun e w' => ∃ (rs : List Jr) (BJ : Option Addr) (dJ : Nat) (L : List Slt) (B : Option Addr) (d : Nat) (x : Stp), e = .returned (.tuple #[.slice BJ rs.length dJ, .slice B L.length d, x.v]) ∧ rs.length ≤ 5 ∧ (∀ x ∈ rs, JrSm x) ∧ RdJ w' BJ (rs.map Jr.j) ∧ L.length ≤ 30 ∧ (∀ s ∈ L, s.en ≤ 200000) ∧ L.length ≤ d ∧ Rd Slt.E w' B L ∧ x.ce.size ≤ 9 ∧ Grew w w' := by
  have HL := Lib.hid h
  clear h
  have HB0 := Lib.hid (Bx.new_ (E := Stp.E) w stp0 26)
  go_enter Try.func31, Try.ntmps31
  go_wp2_with fail
  refine (l22Two_any _ _ _ _ (HL.out.grew ((Grew.refl _).alloc _)) hl).mono ?_; rintro e w1 ⟨rs, BJ, dJ, L, B, d, rfl, hr5, hsm, hrj, hl30, hen, hrd, hg1⟩
  have HB1 := Lib.hid (HB0.out.grew hg1)
  have HG1 := Lib.hid (((Grew.refl w).alloc _).trans hg1)
  have HSM := Lib.hid hsm
  have HRJ := Lib.hid hrj
  have HEN := Lib.hid hen
  have HRD := Lib.hid hrd
  have hw1 : w.heap.size < w1.heap.size := HB1.out.1
  clear hsm hrj hen hrd hg1 HB0
  have HO7 := Lib.hid (Own.one (E := Byt.E) (t := 5) (Nat.le_refl w1.heap.size) (7 : UInt8))
  go_wp2_with (at_builtin; refine wpList_append_rd _ rfl (.tmp 14) (.tmp 15) _ rfl sl_Byt w1.heap.size _ _ _ [(7 : UInt8)] rfl HO7.out _ _ _ l rfl rfl (HL.out.grew (HG1.out.alloc _)) (by simp only [List.length_cons, List.length_nil]; omega) (by simp) ?_; intro A5 c5 w5 ho5 hgr5 hat5)
  have HG5 := Lib.hid (show Grew w1 w5 from ((Grew.refl w1).alloc _).app (E := Byt.E) HO7.out (Nat.le_refl _) hgr5)
  have HR5 := Lib.hid (show Rd Byt.E w5 A5 ((7 : UInt8) :: l) from ho5.rd)
  have hlen : 1 + l.length = ((7 : UInt8) :: l).length := by simp; omega
  rw [hlen]
  clear ho5 hgr5 hat5 HO7
  refine (l1NewX_any _ _ _ _ HR5.out (by rw [← hlen]; omega)).mono ?_; rintro e w6 ⟨g, rfl, hc6, hg6, hgs6⟩
  have HB6 := Lib.hid ((HB1.out.grew HG5.out).grew hg6)
  have HG6 := Lib.hid ((HG1.out.trans HG5.out).trans hg6)
  have HC6 := Lib.hid hc6
  have hw5 : w1.heap.size ≤ w5.heap.size := HG5.out.le
  have HGA := Lib.hid (HG5.out.trans hg6)
  clear hc6 hg6 HB1 HG1 hlen
  go_wp2_with fail
  refine (l25Stop_any _ g _ _ _ HC6.out).mono ?_; rintro e w7 ⟨x, rfl, hx9, hc7, hg7⟩
  have HGB := Lib.hid (grew_only HGA.out hg7 (by omega))
  have HB7 := Lib.hid (HB6.out.by_ hg7 (by omega))
  have HG7 := Lib.hid (grew_only HG6.out hg7 (by omega))
  have HRJ7 := Lib.hid (HRJ.out.grew HGB.out)
  have HRD7 := Lib.hid (HRD.out.grew HGB.out)
  have HX9 := Lib.hid hx9
  obtain ⟨xc, xf, xu⟩ := x
  obtain ⟨y0, y1, y2, ys, yf⟩ := Stp.bx3 HB7.out
  simp only [stp0] at y0 y1 y2
  clear hc7 hg7 hx9 HB6 HG6 HC6
  go_wp2_with fail
  have HZ := Lib.hid (HB7.out.store (⟨xc, xf, xu⟩ : Stp))
  have HZB := Lib.hid (storeL_by (Stp.E.enc ⟨xc, xf, xu⟩) w7 w.heap.size 0)
  clear y0 y1 y2 ys yf
  show bodyPost _ _ _ _ _ (storeL w7 w.heap.size 0 (Stp.E.enc ⟨xc, xf, xu⟩))
  obtain ⟨wz, hwz⟩ : ∃ wz, wz = storeL w7 w.heap.size 0 (Stp.E.enc ⟨xc, xf, xu⟩) := ⟨_, rfl⟩
  rw [← hwz] at HZ HZB ⊢
  clear hwz
  obtain ⟨z0, z1, z2, zs, zf⟩ := Stp.bx3 HZ.out
  have hb0 : w.heap.size < (w.alloc (.cells (Stp.E.enc stp0).toArray 26)).heap.size := by simp
  have HRJ8 := HRJ7.out.cur hb0 HZB.out
  have HRD8 := own_cur HRD7.out hb0 HZB.out
  refine bodyPost_ret (v := .tuple #[.slice BJ rs.length dJ, .slice B L.length d, Stp.v ⟨xc, xf, xu⟩]) (by simp [results, Try.results31, go_sem, z0, z1, z2]) rfl ⟨rs, BJ, dJ, L, B, d, ⟨xc, xf, xu⟩, rfl, hr5, HSM.out, HRJ8.rd, hl30, HEN.out, HRD8.cap.2.1, HRD8.rd, HX9.out, ?_⟩
  exact HG7.out.grown HZB.out (fun k hk => by injection hk with hk; omega)
end Go.Proofs.Ytembbgkhmnalpaa
