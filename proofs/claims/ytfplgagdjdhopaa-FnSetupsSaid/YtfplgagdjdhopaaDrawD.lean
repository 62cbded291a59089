/- The draws of tables of minutes: few rows of few numbers; nothing old is written. Conditions: none. -/
import Derived.Test.YtfplgagdjdhopaaNearI
import Derived.Test.YtfplgagdjdhopaaDrawO
import Derived.Deep.RegionHeld3
namespace Go.Proofs.Ytfplgagdjdhopaa
open Go.RowKit Go.ChangeShapes Go.WideShapes Go.Deep
set_option linter.unusedVariables false
set_option linter.unusedSimpArgs false

theorem sl_Row : SlInf Try.prog Row.E 22 27 := info_sl Try.underlying22 info_ints rfl rfl (by decide)
theorem own_cur {T : Type} {E : Enc T} {t : TypeId} {w w' : World} {base g : Nat} {v : Value} {l : List T} (h : Own E t w base v l) (hg : g < base) (k : w.grownBy w' (some g)) : Own E t w' base v l := h.kept k (.inr (h.ne_ (.inl hg)))
theorem set_by (w : World) (b j : Nat) (u : Value) : w.grownBy (w.setCell ⟨b, j, none⟩ u) (some b) := ⟨rfl, rfl, rfl, by simp, fun k _ hk => heap_setCell_other w ⟨b, j, none⟩ k u (fun e => hk (by rw [e]))⟩
theorem only_store {w0 w w' : World} {g b : Nat} (h : w0.grownBy w (some g)) (hb : w0.heap.size ≤ b) (hgr : w.grownBy w' (some b)) : w0.grownBy w' (some g) :=
  ⟨hgr.os.trans h.os, hgr.tape.trans h.tape, hgr.output.trans h.output, Nat.le_trans h.size hgr.size, fun j hj hne =>
    (hgr.block j (Nat.lt_of_lt_of_le hj h.size) (fun e => by injection e with e; omega)).trans (h.block j hj hne)⟩
theorem only_drew {w0 w : World} {g : Nat} (h : w0.grownBy w (some g)) : w0.grownBy w.drew (some g) := ⟨h.os, h.tape, h.output, h.size, h.block⟩
theorem Own.one {T : Type} {E : Enc T} {t : TypeId} {w : World} {base : Nat} (hb : base ≤ w.heap.size) (x : T) : Own E t (w.alloc (.cells (E.enc x).toArray t)) base (.slice (some ⟨w.heap.size, 0, none⟩) 1 1) [x] :=
  ⟨by simp [flat, E.len], .inr ⟨w.heap.size, 1, (E.enc x).toArray, rfl, hb, heap_alloc_new w _, Nat.le_refl _, by decide, by simp [E.len], by
    have : ((E.enc x).toArray.toList).take (1 * E.sz) = E.enc x := by rw [Nat.one_mul, ← E.len x]; simp
    simpa [flat] using this⟩⟩
theorem cons_of {T : Type} {rs : List T} {x : T} (h : rs[0]? = some x) : ∃ xs, rs = x :: xs := by
  cases rs with
  | nil => simp at h
  | cons z zs => simp at h; subst h; exact ⟨zs, rfl⟩
def Row.v (x : Row) : Value := .slice x.A x.l.length x.c
/-- Rows in blocks of their own, all apart, and the slice that holds them. -/
structure Tb (w : World) (base : Nat) (v : Value) (rs : List Row) : Prop where
  o : Own Row.E 27 w base v rs
  r : ∀ x ∈ rs, Own IntS.E 3 w base x.v x.l
  l : ∀ x ∈ rs, x.l.length ≤ 5
  n : ∀ x ∈ rs, ∀ b, x.v.ownBlock = some b → v.ownBlock ≠ some b
  p : rs.Pairwise fun x y => ∀ b, x.v.ownBlock = some b → y.v.ownBlock ≠ some b
section
variable {w w' : World} {base g : Nat} {v v5 : Value} {rs : List Row}
theorem Tb.cur (h : Tb w base v rs) (hg : g < base) (k : w.grownBy w' (some g)) : Tb w' base v rs := ⟨own_cur h.o hg k, fun x hx => own_cur (h.r x hx) hg k, h.l, h.n, h.p⟩
theorem Tb.grew (h : Tb w base v rs) (k : Grew w w') : Tb w' base v rs := ⟨h.o.grew k, fun x hx => (h.r x hx).grew k, h.l, h.n, h.p⟩
theorem Tb.mono {b : Nat} (h : Tb w base v rs) (hb : b ≤ base) : Tb w b v rs := ⟨h.o.mono hb, fun x hx => (h.r x hx).mono hb, h.l, h.n, h.p⟩
theorem row_kept {x : Row} (h : Own IntS.E 3 w base x.v x.l) (hn : ∀ b, x.v.ownBlock = some b → v.ownBlock ≠ some b) (k : w.grownBy w' v.ownBlock) : Own IntS.E 3 w' base x.v x.l := by
  refine h.kept k ?_
  cases hb : x.v.ownBlock with
  | none => exact .inl rfl
  | some b => exact .inr (fun e => hn b hb e.symm)
theorem Tb.add {y : Row} {k : Nat} (h : Tb w base v rs) (hm : Own IntS.E 3 w base y.v y.l) (hl : y.l.length ≤ 5) (hs : ∀ b, y.v.ownBlock = some b → v.ownBlock ≠ some b ∧ ∀ x ∈ rs, x.v.ownBlock ≠ some b)
    (hgr : w.grownBy w' v.ownBlock) (ho : Own Row.E 27 w' base v5 (rs ++ [y])) (hat : v5.ownBlock = v.ownBlock ∨ v5.ownBlock = some k) (hk : w.heap.size ≤ k) : Tb w' base v5 (rs ++ [y]) := by
  refine ⟨ho, fun x hx => ?_, fun x hx => ?_, fun x hx b hb => ?_, ?_⟩
  · rcases List.mem_append.1 hx with hx | hx
    · exact row_kept (h.r x hx) (h.n x hx) hgr
    · obtain rfl : x = y := by simpa using hx
      exact row_kept hm (fun b hb => (hs b hb).1) hgr
  · rcases List.mem_append.1 hx with hx | hx
    · exact h.l x hx
    · obtain rfl : x = y := by simpa using hx
      exact hl
  · rcases List.mem_append.1 hx with hx | hx
    · exact ne_of_at hat (h.n x hx b hb) (by have := ((h.r x hx).block b hb).2; omega)
    · obtain rfl : x = y := by simpa using hx
      exact ne_of_at hat (hs b hb).1 (by have := (hm.block b hb).2; omega)
  · rw [List.pairwise_append]
    refine ⟨h.p, List.pairwise_singleton _ _, fun x hx z hz b hb e => ?_⟩
    obtain rfl : z = y := by simpa using hz
    exact (hs b e).2 x hx hb
theorem Tb.rd {A : Option Addr} {n c : Nat} (h : Tb w base (.slice A n c) rs) : RdR w A (rs.map (·.l)) := ⟨rs, rfl, h.o.rd, fun x hx => (h.r x hx).rd⟩
theorem Tb.lens (h : Tb w base v rs) : ∀ m ∈ rs.map (·.l), m.length ≤ 5 := fun m hm => by
  obtain ⟨x, hx, rfl⟩ := List.mem_map.1 hm
  exact h.l x hx
/-- A number of the first row set. -/
theorem Tb.set_ {A : Option Addr} {n c gb : Nat} {x : Row} {xs : List Row} {q : Int} (h : Tb w base (.slice A n c) (x :: xs)) (hx : x.A = some ⟨gb, 0, none⟩) (h0 : 0 < x.l.length) :
    RdR (w.setCell ⟨gb, 0, none⟩ (.int .i64 q)) A ((x.l.set 0 q) :: xs.map (·.l)) := by
  have hv : x.v = .slice (some ⟨gb, 0, none⟩) x.l.length x.c := by unfold Row.v; rw [hx]
  have hb : x.v.ownBlock = some gb := by rw [hv]; rfl
  have hr := h.r x List.mem_cons_self
  rw [hv] at hr
  obtain ⟨y, hy⟩ : ∃ y, x.l[0]? = some y := ⟨_, List.getElem?_eq_getElem h0⟩
  have hs := hr.set_ (x' := q) (j := 0) (u := .int .i64 q) hy rfl (by decide)
  simp only [Nat.zero_mul, Nat.zero_add] at hs
  refine ⟨⟨x.l.set 0 q, some ⟨gb, 0, none⟩, x.c⟩ :: xs, rfl, ?_, fun z hz => ?_⟩
  · have ho := h.o.kept (set_by w gb 0 (.int .i64 q)) (.inr (h.n x List.mem_cons_self gb hb))
    have := ho.rd
    intro hl
    obtain ⟨b, o, e, hb2, hc⟩ := this (by simp)
    refine ⟨b, o, e, hb2, fun i z hz j u hu => ?_⟩
    match i, hz with
    | 0, hz =>
      refine hc 0 x rfl j u ?_
      obtain rfl : _ = z := by simpa using hz
      rw [← hu]
      simp [Row.E, hx]
    | i + 1, hz => exact hc (i + 1) z hz j u hu
  · rcases List.mem_cons.1 hz with rfl | hz
    · exact hs.rd
    · refine (Own.kept (h.r z (List.mem_cons_of_mem _ hz)) (set_by w gb 0 (.int .i64 q)) ?_).rd
      exact .inr ((List.pairwise_cons.1 h.p).1 z hz gb hb)
end

set_option maxRecDepth 100000 in
set_option maxHeartbeats 8000000 in
theorem l24Table_any (w : World) (g c : Nat) (A : Option Addr) (l : List UInt8) (h : Cur w g A c l) :
    Calls Try.prog 33 #[.pointer (some ⟨g, 0, none⟩)] w fun e w' => ∃ (L : List (List Int)) (B : Option Addr) (d : Nat), e = .returned (.slice B L.length d) ∧ L.length ≤ 7 ∧ (∀ m ∈ L, m.length ≤ 5) ∧ RdR w' B L ∧ w.grownBy w' (some g) := by
  have HC := Lib.hid h
  have hgl : g < w.heap.size := h.1
  have H0 := Lib.hid h.2.2.2.2.2.1
  clear h
  go_enter Try.func33, Try.ntmps33
  go_wp2_with fail
  refine (l1Below_any _ _ _ _ _ 6 HC.out (by omega)).mono ?_; rintro e w1 ⟨n, rfl, hn0, hn1, hn2, hc1, hg1⟩
  obtain ⟨n, rfl⟩ := Int.eq_ofNat_of_zero_le hn0
  have hn3 : n ≤ 5 := by have := hn1 (by omega); omega
  have HC1 := Lib.hid hc1
  have HG1 := Lib.hid hg1
  clear hc1 hg1 hn1 hn2 hn0
  have HT1 := Lib.hid (show Tb (w1.alloc (.cells #[] 27)) w.heap.size (.slice (some ⟨w1.heap.size, 0, none⟩) 0 0) [] from ⟨Own.new_ HG1.out.size, by simp, by simp, by simp, List.Pairwise.nil⟩)
  go_wp2_with fail
  go_loopw [4, 5, 6, 7] (fun v i _ _ wr => ∃ (rs : List Row) (B : Option Addr) (d : Nat), rs.length ≤ n + 1 ∧ i = .int .i64 rs.length ∧ v = .slice B rs.length d ∧ Tb wr w.heap.size v rs ∧ (∀ x ∈ rs, x.l.length = n) ∧ Cur wr g A c l ∧ w.grownBy wr (some g)) (fun _ i _ _ _ => n + 1 - (intOf i).toNat)
  case atStart => exact ⟨[], _, _, by simp, rfl, rfl, HT1.out, by simp, HC1.out.grew ((Grew.refl _).alloc _), only_grew HG1.out ((Grew.refl _).alloc _)⟩
  case round =>
    obtain ⟨rs, B, d, hrl, rfl, rfl, htb, hln, hcu, hgr⟩ := hrel
    have HT := Lib.hid htb
    have HLN := Lib.hid hln
    have HCU := Lib.hid hcu
    have HG := Lib.hid hgr
    clear htb hln hcu hgr HT1 HC1 HG1
    by_cases hj : rs.length ≤ n
    · obtain ⟨wo, hwo⟩ : ∃ x : World, x = wr := ⟨_, rfl⟩
      subst hwo
      have HGS := Lib.hid HG.out.size
      have HCS := Lib.hid HCU.out.1
      have HN0 := Lib.hid (Own.new_ (E := IntS.E) (t := 3) (Nat.le_refl wo.heap.size))
      go_wp2_with fail
      go_loopw [6, 7] (fun rv k wr2 => ∃ (m : List Int) (C : Option Addr) (dc : Nat), m.length ≤ n ∧ k = .int .i64 m.length ∧ rv = .slice C m.length dc ∧ Own IntS.E 3 wr2 wo.heap.size rv m ∧ Cur wr2 g A c l ∧ wo.grownBy wr2 (some g)) (fun _ k _ => n - (intOf k).toNat)
      case atStart => exact ⟨[], _, _, Nat.zero_le _, rfl, rfl, HN0.out, HCU.out.grew ((Grew.refl _).alloc _), only_grew (World.grownBy.refl _ _) ((Grew.refl _).alloc _)⟩
      case round =>
        obtain ⟨m, C, dc, hml, rfl, rfl, hown, hcu, hgr⟩ := hrel
        have HO := Lib.hid hown
        have HC2 := Lib.hid hcu
        have HG2 := Lib.hid hgr
        clear hown hcu hgr HN0
        by_cases hmn : m.length < n
        · go_wp2_with fail
          refine (l1Below_any _ _ _ _ _ 30 HC2.out (by omega)).mono ?_; rintro e w4 ⟨x, rfl, hx0, hx1, hx2, hc4, hg4⟩
          have HO4 := Lib.hid (own_cur HO.out HCS.out hg4)
          have HC4 := Lib.hid hc4
          have HG4 := Lib.hid (HG2.out.trans hg4)
          clear hc4 hg4 hx1 hx2
          go_wp2_with (at_builtin; refine wpList_append_rd _ rfl (.tmp 22) (.tmp 25) _ rfl sl_Int wo.heap.size _ _ _ m rfl (HO4.out.alloc _) _ _ _ [x] rfl rfl (rd_new (E := IntS.E) _ x _ (by simp)) (by simp only [List.length_cons, List.length_nil]; omega) (by have := HG4.out.size; simp; omega) ?_; intro A5 c5 w5 ho5 hgr5 hat5; have HO5 := Lib.hid ho5; have HC5 := Lib.hid ((HC4.out.grew ((Grew.refl _).alloc _)).app H0.out HCS.out HGS.out (HO4.out.alloc _) hgr5); have HG5 := Lib.hid (only_app (only_grew HG4.out ((Grew.refl _).alloc _)) (HO4.out.alloc _) (Nat.le_refl _) hgr5); clear ho5 hgr5 hat5)
          go_roundw
          case rel => go_light; exact ⟨m ++ [x], A5, c5, by simp; omega, by simp, by simp, HO5.out, HC5.out, HG5.out⟩
          case measure => go_light; simp [intOf]; omega
        · have HMN := Lib.hid (show m.length = n by omega)
          have HT2 := Lib.hid (HT.out.cur hgl HG2.out)
          have HG3 := Lib.hid (HG.out.trans HG2.out)
          have HSP := Lib.hid (show ∀ b, (Row.v ⟨m, C, dc⟩).ownBlock = some b → (Value.slice B rs.length d).ownBlock ≠ some b ∧ ∀ x ∈ rs, x.v.ownBlock ≠ some b from fun b hb => by
            have h1 := (HO.out.block b hb).1
            refine ⟨fun e => ?_, fun x hx e => ?_⟩
            · have := (HT.out.o.block b e).2; omega
            · have := ((HT.out.r x hx).block b e).2; omega)
          have hml5 : m.length ≤ 5 := by omega
          go_wp2_with (at_builtin; refine wpList_append_rd _ rfl (.tmp 27) (.tmp 29) _ rfl sl_Row w.heap.size _ _ _ rs rfl (HT2.out.o.alloc _) _ _ _ [⟨m, C, dc⟩] rfl rfl (rd_new (E := Row.E) _ ⟨m, C, dc⟩ _ rfl) (by simp only [List.length_cons, List.length_nil]; omega) (by have := HG3.out.size; simp; omega) ?_; intro A5 c5 w5 ho5 hgr5 hat5; have HT5 := Lib.hid ((HT2.out.grew ((Grew.refl _).alloc _)).add (y := ⟨m, C, dc⟩) ((HO.out.mono HGS.out).alloc _) hml5 HSP.out hgr5 ho5 hat5 (Nat.le_refl _)); have HC5 := Lib.hid ((HC2.out.grew ((Grew.refl _).alloc _)).app H0.out hgl (Nat.le_refl _) (HT2.out.o.alloc _) hgr5); have HG5 := Lib.hid (only_app (only_grew HG3.out ((Grew.refl _).alloc _)) (HT2.out.o.alloc _) (Nat.le_refl _) hgr5); clear ho5 hgr5 hat5)
          go_roundw
          case rel =>
            go_light
            exact ⟨rs ++ [⟨m, C, dc⟩], A5, c5, by simp; omega, by simp, by simp, HT5.out, fun x hx => by rcases List.mem_append.1 hx with hx | hx; exact HLN.out x hx; (obtain rfl : x = ⟨m, C, dc⟩ := by simpa using hx); exact HMN.out, HC5.out, HG5.out⟩
          case measure => go_light; simp [intOf]; omega
    · have hrn : rs.length = n + 1 := by omega
      have hr1 : ¬ ((rs.length : Int) ≤ (n : Int)) := by omega
      have HRN := Lib.hid hrn
      have hr7 : rs.length ≤ 6 := by omega
      clear hrn
      go_wp2_with fail
      refine (l1Below_any _ _ _ _ _ 20 HCU.out (by omega)).mono ?_; rintro e w2 ⟨s, rfl, hs0, hs1, hs2, hc2, hg2⟩
      have HC2 := Lib.hid hc2
      have HT2 := Lib.hid (HT.out.cur hgl hg2)
      have HG2 := Lib.hid (HG.out.trans hg2)
      clear hc2 hg2 hs1 hs2
      by_cases e0 : s = 0
      · subst e0
        have HM0 := Lib.hid (Own.one (E := IntS.E) (t := 3) (base := w2.heap.size) (Nat.le_refl _) (1 : Int))
        have HGA := Lib.hid ((Grew.refl w2).alloc (.cells #[.int .i64 1] 3))
        have HSP := Lib.hid (show ∀ b, (Row.v ⟨[1], some ⟨w2.heap.size, 0, none⟩, 1⟩).ownBlock = some b → (Value.slice B rs.length d).ownBlock ≠ some b ∧ ∀ x ∈ rs, x.v.ownBlock ≠ some b from fun b hb => by
          have h1 : w2.heap.size = b := by simpa [Row.v, Value.ownBlock] using hb
          refine ⟨fun e => ?_, fun x hx e => ?_⟩
          · have := (HT2.out.o.block b e).2; omega
          · have := ((HT2.out.r x hx).block b e).2; omega)
        have HGS2 := Lib.hid HG2.out.size
        go_wp2_with (at_builtin; refine wpList_append_rd _ rfl (.tmp 35) (.tmp 37) _ rfl sl_Row w.heap.size _ _ _ rs rfl ((HT2.out.o.grew HGA.out).alloc _) _ _ _ [⟨[1], some ⟨w2.heap.size, 0, none⟩, 1⟩] rfl rfl (rd_new (E := Row.E) _ ⟨[1], some ⟨w2.heap.size, 0, none⟩, 1⟩ _ (by simp)) (by simp only [List.length_cons, List.length_nil]; omega) (by have := HG2.out.size; simp; omega) ?_; intro A5 c5 w5 ho5 hgr5 hat5; have HT5 := Lib.hid (((HT2.out.grew HGA.out).grew ((Grew.refl _).alloc _)).add (y := ⟨[1], some ⟨w2.heap.size, 0, none⟩, 1⟩) ((HM0.out.mono HGS2.out).alloc _) (by simp) HSP.out hgr5 ho5 hat5 (Nat.le_refl _)); have HG5 := Lib.hid (only_app (only_grew (only_grew HG2.out HGA.out) ((Grew.refl _).alloc _)) ((HT2.out.o.grew HGA.out).alloc _) (Nat.le_refl _) hgr5); clear ho5 hgr5 hat5)
        go_ret
        go_light
        exact ⟨(rs ++ [(⟨[1], some ⟨w2.heap.size, 0, none⟩, 1⟩ : Row)]).map (·.l), A5, c5, by simp, by simp; omega, HT5.out.lens, (show RdR _ A5 _ from HT5.out.rd), HG5.out⟩
      by_cases e1 : s = 1
      · subst e1
        by_cases hn0 : 0 < n
        · obtain ⟨x, hx⟩ : ∃ x, rs[0]? = some x := ⟨_, List.getElem?_eq_getElem (by have := HRN.out; omega)⟩
          have hm0 := List.mem_of_getElem? hx
          have hxl := HLN.out x hm0
          obtain ⟨gt, dt, hv, hgt1, hgt2⟩ := HT2.out.o.addr (by have := HRN.out; omega)
          simp only [Value.slice.injEq, true_and] at hv
          obtain ⟨rfl, rfl⟩ := hv
          obtain ⟨g1, d1, hv1, hg11, hg12⟩ := (HT2.out.r x hm0).addr (by omega)
          unfold Row.v at hv1
          simp only [Value.slice.injEq, true_and] at hv1
          have hc0 := HT2.out.o.at_ (j := 0) hx rfl
          simp only [Row.E, Nat.zero_mul, Nat.zero_add] at hc0
          obtain ⟨hvA, hvc⟩ := hv1
          rw [hvA, hxl] at hc0
          obtain ⟨y, hy⟩ : ∃ y, x.l[0]? = some y := ⟨_, List.getElem?_eq_getElem (by omega)⟩
          have hr0 := HT2.out.r x hm0
          unfold Row.v at hr0
          rw [hvA] at hr0
          have hcy := hr0.at_ (j := 0) hy rfl
          have hfy := hr0.frozen
          simp only [IntS.E, Nat.zero_mul, Nat.zero_add] at hcy
          have HX := Lib.hid hx
          have HVA := Lib.hid hvA
          have HXL := Lib.hid hxl
          have hr1 : (0 : Int) < (rs.length : Int) := by have := HRN.out; omega
          have hn1 : (0 : Int) < (n : Int) := by omega
          have hgl2 : g < w2.heap.size := HC2.out.1
          have hgg : g ≠ g1 := by omega
          have hgt : gt ≠ g1 := fun e => HT2.out.n x hm0 g1 (by unfold Row.v; rw [hvA]; rfl) (by rw [e]; rfl)
          clear hx hm0 hxl hvA hvc hy hr0
          go_wp2_with fail
          have HC2D := Lib.hid (show Cur (w2.alloc (.cells #[.int .i64 (-1), .int .i64 1000, .int .i64 1001] 3)).drew g A c l from HC2.out.grew ((Grew.refl w2).alloc _).drew)
          have HRI := Lib.hid (show Rd IntP.E (w2.alloc (.cells #[.int .i64 (-1), .int .i64 1000, .int .i64 1001] 3)).drew (some ⟨w2.heap.size, 0, none⟩) [-1, 1000, 1001] from rd_ints w2 [-1, 1000, 1001] 3 rfl)
          have HGD := Lib.hid (show Grew w2 (w2.alloc (.cells #[.int .i64 (-1), .int .i64 1000, .int .i64 1001] 3)).drew from ((Grew.refl w2).alloc _).drew)
          have hcd : w2.drew.cell? ⟨gt, 0, none⟩ = some (.slice (some ⟨g1, 0, none⟩) n x.c) := hc0
          have hr2 : 0 < rs.length := by have := HRN.out; omega
          have HCX := Lib.hid (fun (w' : World) (k : Grew w2 w') => show w'.cell? ⟨gt, 0, none⟩ = some (.slice (some ⟨g1, 0, none⟩) n x.c) from (k.rules.1 gt _ hgt2).trans hc0)
          go_region_held3 (fun w' => w'.cell? ⟨gt, 0, none⟩ = some (.slice (some ⟨g1, 0, none⟩) n x.c))
            (first | (with_reducible exact hcd) | (with_reducible exact HCX.out _ HGD.out) | (with_reducible exact hc6) | (rw [World.cell?_setCell_other _ _ _ _ (by intro e; simp only [Addr.mk.injEq] at e; omega)]; exact hc6))
            ((go_at_call 36; (refine (l1PickInt_any _ g c A l [-1, 1000, 1001] _ _ HC2D.out HRI.out (by decide) (by decide) (by omega)).mono ?_); rintro e w6 ⟨q, rfl, hq, hcu6, hg6⟩; have HT6 := Lib.hid ((HT2.out.grew HGD.out).cur hgl hg6); have HG6 := Lib.hid ((only_grew HG2.out HGD.out).trans hg6); have hc6 : w6.cell? ⟨gt, 0, none⟩ = some (.slice (some ⟨g1, 0, none⟩) n x.c) := (World.cell?_of_block (hg6.block gt (Nat.lt_of_lt_of_le hgt2 HGD.out.le) (by intro e; injection e with e; omega))).trans (HCX.out _ HGD.out); have hcy6 : w6.cell? ⟨g1, 0, none⟩ = some (.int .i64 y) := (World.cell?_of_block (hg6.block g1 (Nat.lt_of_lt_of_le hg12 HGD.out.le) (by intro e; injection e with e; omega))).trans ((HGD.out.rules.1 g1 _ hg12).trans hcy); have hfy6 : w6.frozen? ⟨g1, 0, none⟩ = false := (World.frozen?_of_block (hg6.block g1 (Nat.lt_of_lt_of_le hg12 HGD.out.le) (by intro e; injection e with e; omega))).trans ((HGD.out.rules.2 g1 _ hg12).trans (hfy 0)); clear hq hcu6 hg6))
          go_wp2_with fail
          go_ret
          go_light
          obtain ⟨xs, hxs⟩ := cons_of HX.out
          have HT7 := HT6.out
          rw [hxs] at HT7
          refine ⟨(x.l.set 0 q) :: xs.map (·.l), some ⟨gt, 0, none⟩, d, ?_, ?_, fun m hm => ?_, HT7.set_ HVA.out (by rw [HXL.out]; exact hn0), only_store HG6.out hg11 (set_by _ _ _ _)⟩
          · exact ret_val (by rw [hxs]; simp)
          · rw [hxs] at hr7; simpa using Nat.le_succ_of_le hr7
          · rcases List.mem_cons.1 hm with rfl | hm
            · rw [List.length_set, HXL.out]; exact hn3
            · exact HT7.lens m (by rw [List.map_cons]; exact List.mem_cons_of_mem _ hm)
        · obtain rfl : n = 0 := by omega
          go_wp2_with fail
          go_ret
          go_light
          exact ⟨rs.map (·.l), B, d, by rw [List.length_map]; rfl, by rw [List.length_map]; omega, HT2.out.lens, HT2.out.rd, HG2.out⟩
      by_cases e2 : s = 2
      · subst e2
        go_wp2_with fail
        go_ret
        go_light
        exact ⟨[], _, 0, rfl, by simp, by simp, ⟨[], rfl, Rd.nil, by simp⟩, only_grew HG2.out ((Grew.refl _).alloc _)⟩
      · have d0 : (s == 0) = false := by simp; omega
        have d1 : (s == 1) = false := by simp; omega
        have d2 : (s == 2) = false := by simp; omega
        go_wp2_with fail
        go_ret
        go_light
        exact ⟨rs.map (·.l), B, d, by rw [List.length_map]; rfl, by rw [List.length_map]; omega, HT2.out.lens, HT2.out.rd, HG2.out⟩
set_option maxRecDepth 100000 in
set_option maxHeartbeats 4000000 in
theorem drawBestOrder_any (w : World) (c : Nat) (A : Option Addr) (l : List UInt8) (h : Rd Byt.E w A l) (hl : l.length ≤ 1048576) :
    Calls Try.prog 25 #[.slice A l.length c] w fun e w' => ∃ (L : List (List Int)) (B : Option Addr) (d : Nat), e = .returned (.slice B L.length d) ∧ L.length ≤ 7 ∧ (∀ m ∈ L, m.length ≤ 5) ∧ RdR w' B L ∧ Grew w w' := by
  have HL := Lib.hid h
  clear h
  go_enter Try.func25, Try.ntmps25
  go_wp2_with fail
  refine (l1New_any _ _ _ _ HL.out hl).mono ?_; rintro e w1 ⟨g, rfl, hc1, hg1, hgs⟩
  have HC1 := Lib.hid hc1
  have HG1 := Lib.hid hg1
  clear hc1 hg1
  go_wp2_with fail
  refine (l24Table_any _ g _ _ _ HC1.out).mono ?_; rintro e w2 ⟨L, B, d, rfl, h5, hm, hr2, hg2⟩
  have HR2 := Lib.hid hr2
  have HG2 := Lib.hid (grew_only HG1.out hg2 hgs)
  have HM := Lib.hid hm
  clear hr2 hg2 hm
  go_wp2_with fail
  go_ret
  go_light
  exact ⟨L, B, d, rfl, h5, HM.out, HR2.out, HG2.out⟩
end Go.Proofs.Ytfplgagdjdhopaa
