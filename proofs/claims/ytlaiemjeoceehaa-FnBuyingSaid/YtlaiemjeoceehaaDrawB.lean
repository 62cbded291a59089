/- The draws of price breaks: a list of at most five breaks, a quantity in its range; nothing old is written. Conditions: none. -/
import Derived.Test.YtlaiemjeoceehaaDraw
import Derived.Test.YtlaiemjeoceehaaOwn
import Derived.Test.YtlaiemjeoceehaaGridB
namespace Go.Proofs.Ytlaiemjeoceehaa
open Go.RowKit Go.ChangeShapes Go.WideShapes Go.Deep
set_option linter.unusedVariables false
set_option linter.unusedSimpArgs false

theorem info_impl_Brk2 : (Try.prog.info? 49).map (fun i => (i.zero, i.size, i.bytes)) = some (some (.agg #[.int .i64 0, .int .i64 0]), 2, 16) := by kernel_rfl
theorem sl_Brk : SlInf Try.prog Brk.E 25 49 := info_sl Try.underlying25 info_impl_Brk2 rfl rfl (by decide)
theorem sl_Row : SlInf Try.prog Row.E 41 25 := info_sl Try.underlying41 info_ints rfl rfl (by decide)
/-- A list of ints just laid down is one to pick from. -/
theorem rd_ints (w : World) (xs : List Int) (t : TypeId) {n : Nat} (hn : w.heap.size = n) : Rd IntP.E (w.alloc (.cells (xs.map (Value.int .i64)).toArray t)) (some ⟨n, 0, none⟩) xs := by
  subst hn
  intro _
  have h1 : (w.alloc (.cells (xs.map (Value.int .i64)).toArray t)).heap[w.heap.size]? = some (.cells (xs.map (Value.int .i64)).toArray t (0, 0)) := heap_alloc_new w _
  refine ⟨w.heap.size, 0, rfl, by simp, fun i y hy j u hu => ?_⟩
  match j, hu with
  | 0, hu =>
    have hux : u = .int .i64 y := by simpa [IntP.E] using hu.symm
    subst hux
    have e : 0 + i * IntP.E.sz + 0 = i := by simp [IntP.E]
    rw [e, cell_of_row _ _ i _ t (0, 0) h1]
    simp [hy]
  | j + 1, hu => simp [IntP.E] at hu
theorem Cur.app {T : Type} {E : Enc T} {t : TypeId} {w0 w w' : World} {g c b : Nat} {A : Option Addr} {l : List UInt8} {v : Value} {xs : List T} (h : Cur w g A c l) (h0 : Rd Byt.E w0 A l) (hg : g < b) (hb : w0.heap.size ≤ b) (k : Own E t w b v xs) (hgr : w.grownBy w' v.ownBlock) : Cur w' g A c l :=
  h.kept hgr (fun e => by have := (k.block g e).1; omega) (fun hp b' o e e2 => by
    obtain ⟨b2, o2, e3, hb2, _⟩ := h0 hp
    rw [e] at e3
    simp only [Option.some.injEq, Addr.mk.injEq, and_true] at e3
    have := (k.block b' e2).1
    omega)
/-- Only block g has changed of what lies below b. -/
theorem only_app {w0 w w' : World} {g : Nat} {T : Type} {E : Enc T} {t : TypeId} {v : Value} {xs : List T} (h : w0.grownBy w (some g)) (k : Own E t w w0.heap.size v xs) (hgr : w.grownBy w' v.ownBlock) : w0.grownBy w' (some g) :=
  ⟨hgr.os.trans h.os, hgr.tape.trans h.tape, hgr.output.trans h.output, Nat.le_trans h.size hgr.size, fun j hj hne =>
    (hgr.block j (Nat.lt_of_lt_of_le hj h.size) (fun e => by have := (k.block j e.symm).1; omega)).trans (h.block j hj hne)⟩
theorem only_grew {w0 w w' : World} {g : Nat} (h : w0.grownBy w (some g)) (k : Grew w w') : w0.grownBy w' (some g) := h.trans (k.by_ _)
theorem grew_only {a w w' : World} {g : Nat} (h : Grew a w) (k : w.grownBy w' (some g)) (hg : a.heap.size ≤ g) : Grew a w' := h.grown k (fun j hj => by injection hj with hj; omega)

set_option maxHeartbeats 1000000 in
theorem l10Quantity_any (w : World) (g c : Nat) (A : Option Addr) (l : List UInt8) (h : Cur w g A c l) (h0 : Rd Byt.E w A l) :
    Calls Try.prog 38 #[.pointer (some ⟨g, 0, none⟩)] w fun e w' => ∃ x : Int, e = .returned (.int .i64 x) ∧ -1 ≤ x ∧ x ≤ 100001 ∧ Cur w' g A c l ∧ w.grownBy w' (some g) := by
  have HC := Lib.hid h
  clear h
  go_enter Try.func38, Try.ntmps38
  go_wp2_with fail
  refine (l1Once_any _ _ _ _ _ 12 HC.out (by omega)).mono ?_; rintro e w1 ⟨x, rfl, hc1, hg1⟩
  have HC1 := Lib.hid hc1
  have HG1 := Lib.hid hg1
  clear hc1 hg1
  cases x
  · go_wp2_with fail
    refine (l1Below_any _ _ _ _ _ 20 HC1.out (by omega)).mono ?_; rintro e w2 ⟨x, rfl, hx0, hx1, hx2, hc2, hg2⟩
    have HC2 := Lib.hid hc2
    have HG2 := Lib.hid (HG1.out.trans hg2)
    have hx3 := hx1 (by omega)
    clear hc2 hg2 hx1 hx2
    go_wp2_with fail
    go_ret
    go_light
    exact ⟨_, rfl, by omega, by omega, HC2.out, HG2.out⟩
  · have hgl : g < w1.heap.size := HC1.out.1
    go_wp2_with fail
    refine (l1PickInt_any _ g c A l [-1, 0, 100000, 100001] _ _ (HC1.out.grew ((Grew.refl _).alloc _)) (rd_ints w1 [-1, 0, 100000, 100001] _ rfl) (by decide) (by decide) (by omega)).mono ?_; rintro e w2 ⟨x, rfl, hm, hc2, hg2⟩
    have HC2 := Lib.hid hc2
    have HG2 := Lib.hid ((only_grew HG1.out ((Grew.refl _).alloc _)).trans hg2)
    have hx : -1 ≤ x ∧ x ≤ 100001 := by simp at hm; omega
    obtain ⟨hx0, hx1⟩ := hx
    clear hc2 hg2 hm
    go_wp2_with fail
    go_ret
    go_light
    exact ⟨x, rfl, hx0, hx1, HC2.out, HG2.out⟩

set_option maxHeartbeats 4000000 in
theorem l26Breaks_any (w : World) (g c : Nat) (A : Option Addr) (l : List UInt8) (h : Cur w g A c l) :
    Calls Try.prog 36 #[.pointer (some ⟨g, 0, none⟩)] w fun e w' => ∃ (m : List Brk) (B : Option Addr) (d : Nat), e = .returned (.slice B m.length d) ∧ m.length ≤ 5 ∧ Own Brk.E 49 w' w.heap.size (.slice B m.length d) m ∧ Cur w' g A c l ∧ w.grownBy w' (some g) := by
  have HC := Lib.hid h
  have H0 := Lib.hid h.2.2.2.2.2.1
  have hgw : g < w.heap.size := h.1
  clear h
  go_enter Try.func36, Try.ntmps36
  go_wp2_with fail
  refine (l1Below_any _ _ _ _ _ 50 (HC.out.grew ((Grew.refl _).alloc _)) (by omega)).mono ?_; rintro e w1 ⟨x, rfl, hx0, hx1, hx2, hc1, hg1⟩
  have HO1 := Lib.hid ((Own.new_ (E := Brk.E) (t := 49) (Nat.le_refl w.heap.size)).kept hg1 (.inr (by simp [Value.ownBlock]; omega)))
  have HC1 := Lib.hid hc1
  have HG1 := Lib.hid ((only_grew (World.grownBy.refl _ _) ((Grew.refl w).alloc _)).trans hg1)
  have hx3 := hx1 (by omega)
  clear hc1 hg1 hx1 hx2
  go_wp2_with fail
  refine (l1Below_any _ _ _ _ _ 4 HC1.out (by omega)).mono ?_; rintro e w2 ⟨n, rfl, hn0, hn1, hn2, hc2, hg2⟩
  have HO2 := Lib.hid (HO1.out.kept hg2 (.inr (by simp [Value.ownBlock]; omega)))
  have HC2 := Lib.hid hc2
  have HG2 := Lib.hid (HG1.out.trans hg2)
  have hn3 := hn1 (by omega)
  clear hc2 hg2 hn1 hn2
  go_wp2_with fail
  go_loopw [3, 4, 5, 6] (fun v f p k wr => ∃ (m : List Brk) (fr pr j : Int), 0 ≤ j ∧ j ≤ 4 ∧ m.length + j ≤ 5 ∧ 1 ≤ m.length + j ∧ 0 ≤ fr ∧ fr ≤ 1 + 31 * (m.length : Int) ∧ -1000 + -15 * j ≤ pr - 0 ∧ pr ≤ 99 ∧ -16 * (m.length : Int) ≤ pr ∧ f = .int .i64 fr ∧ p = .int .i64 pr ∧ k = .int .i64 j ∧
      Own Brk.E 49 wr w.heap.size v m ∧ Cur wr g A c l ∧ w.grownBy wr (some g)) (fun _ _ _ k _ => (intOf k).toNat)
  case atStart => exact ⟨[], 1, _, _, by omega, by omega, by simp; omega, by simp; omega, by omega, by simp, by omega, by omega, by simp; omega, rfl, rfl, rfl, HO2.out, HC2.out, HG2.out⟩
  case round =>
    obtain ⟨m, fr, pr, j, hj0, hj1, hm1, hm2, hf0, hf1, hp0, hp1, hp2, rfl, rfl, rfl, hown, hcur, hgr⟩ := hrel
    have HO := Lib.hid hown
    have HCU := Lib.hid hcur
    have HG := Lib.hid hgr
    obtain ⟨B, d, rfl⟩ := hown.slice
    clear hown hcur hgr
    by_cases hj : 0 < j
    · go_wp2_with (at_builtin; refine wpList_append_rd _ rfl (.tmp 18) (.tmp 22) _ rfl sl_Brk w.heap.size _ _ _ m rfl (HO.out.alloc _) _ _ _ [⟨fr, pr⟩] rfl rfl (rd_new (E := Brk.E) _ ⟨fr, pr⟩ _ rfl) (by simp only [List.length_cons, List.length_nil]; omega) (by have := HG.out.size; simp; omega) ?_; intro A3 c3 w3 ho3 hgr3 hat3; have HO3 := Lib.hid ho3; have HC3 := Lib.hid ((HCU.out.grew ((Grew.refl _).alloc _)).app H0.out hgw (Nat.le_refl _) (HO.out.alloc _) hgr3); have HG3 := Lib.hid (only_app (only_grew HG.out ((Grew.refl _).alloc _)) (HO.out.alloc _) hgr3); clear ho3 hgr3 hat3)
      refine (l1Below_any _ _ _ _ _ 30 HC3.out (by omega)).mono ?_; rintro e w4 ⟨y, rfl, hy0, hy1, hy2, hc4, hg4⟩
      have HO4 := Lib.hid (HO3.out.kept hg4 (.inr (HO3.out.ne_ (.inl hgw))))
      have HC4 := Lib.hid hc4
      have HG4 := Lib.hid (HG3.out.trans hg4)
      have hy3 := hy1 (by omega)
      clear hc4 hg4 hy1 hy2
      go_wp2_with fail
      refine (l1Below_any _ _ _ _ _ 15 HC4.out (by omega)).mono ?_; rintro e w5 ⟨z, rfl, hz0, hz1, hz2, hc5, hg5⟩
      have HO5 := Lib.hid (HO4.out.kept hg5 (.inr (HO4.out.ne_ (.inl hgw))))
      have HC5 := Lib.hid hc5
      have HG5 := Lib.hid (HG4.out.trans hg5)
      have hz3 := hz1 (by omega)
      clear hc5 hg5 hz1 hz2
      go_wp2_with fail
      go_roundw
      case rel =>
        go_light
        exact ⟨m ++ [⟨fr, pr⟩], _, _, _, by omega, by omega, by simp; omega, by simp; omega, by omega, by simp; omega, by omega, by omega, by simp; omega, rfl, rfl, rfl, HO5.out, HC5.out, HG5.out⟩
      case measure => go_light; simp [intOf]; omega
    · obtain rfl : j = 0 := by omega
      obtain ⟨gb, db, hv, hgb, hgb2⟩ := HO.out.addr (by omega)
      simp only [Value.slice.injEq, true_and] at hv
      obtain ⟨rfl, rfl⟩ := hv
      go_wp2_with fail
      refine (l1Below_any _ _ _ _ _ 20 HCU.out (by omega)).mono ?_; rintro e w6 ⟨s, rfl, hs0, hs1, hs2, hc6, hg6⟩
      have HO6 := Lib.hid (HO.out.kept hg6 (.inr (HO.out.ne_ (.inl hgw))))
      have HC6 := Lib.hid hc6
      have HG6 := Lib.hid (HG.out.trans hg6)
      have hs3 := hs1 (by omega)
      clear hc6 hg6 hs1 hs2
      obtain ⟨x0, hx0'⟩ : ∃ x, m[0]? = some x := ⟨_, List.getElem?_eq_getElem (by omega)⟩
      rcases Int.lt_trichotomy s 0 with h9 | rfl | h9
      · omega
      · have hgw6 : g < w6.heap.size := HC6.out.1
        go_wp2_with fail
        refine (l1PickInt_any _ g c A l [0, 2] _ _ (HC6.out.grew ((Grew.refl _).alloc _)) (rd_ints w6 [0, 2] _ rfl) (by decide) (by decide) (by omega)).mono ?_; rintro e w7 ⟨y, rfl, hm, hc7, hg7⟩
        have HO7 := Lib.hid ((HO6.out.alloc _).kept hg7 (.inr (HO6.out.ne_ (.inl hgw))))
        have HC7 := Lib.hid hc7
        have HG7 := Lib.hid ((only_grew HG6.out ((Grew.refl _).alloc _)).trans hg7)
        have k0 := HO7.out.at_ (j := 0) hx0' rfl
        have k1 := HO7.out.frozen
        simp only [Brk.E, Nat.zero_mul, Nat.zero_add] at k0
        clear hc7 hg7 hm
        go_wp2_with fail
        go_ret
        go_light
        have HS := HO7.out.set_ (x' := ⟨y, x0.p⟩) (j := 0) (u := .int .i64 y) hx0' rfl (by decide)
        simp only [Brk.E, Nat.zero_mul, Nat.zero_add] at HS
        have hk : w7.grownBy (w7.setCell ⟨gb, 0, none⟩ (.int .i64 y)) (some gb) := ⟨rfl, rfl, rfl, by simp, fun k _ hk => heap_setCell_other w7 ⟨gb, 0, none⟩ k _ (fun e => hk (by rw [e]))⟩
        refine ⟨m.set 0 ⟨y, x0.p⟩, some ⟨gb, 0, none⟩, d, ?_, by rw [List.length_set]; omega, ?_, HC7.out.app H0.out hgw (Nat.le_refl _) HO7.out hk, only_app HG7.out HO7.out hk⟩
        · exact ret_val (by rw [List.length_set]; rfl)
        · rw [List.length_set]; exact HS
      · by_cases hs1 : s = 1
        · subst hs1
          skip
          have hgw6 : g < w6.heap.size := HC6.out.1
          go_wp2_with fail
          refine (l1PickInt_any _ g c A l [-1, 0, 10000, 10001] _ _ (HC6.out.grew ((Grew.refl _).alloc _)) (rd_ints w6 [-1, 0, 10000, 10001] _ rfl) (by decide) (by decide) (by omega)).mono ?_; rintro e w7 ⟨y, rfl, hm, hc7, hg7⟩
          have HO7 := Lib.hid ((HO6.out.alloc _).kept hg7 (.inr (HO6.out.ne_ (.inl hgw))))
          have HC7 := Lib.hid hc7
          have HG7 := Lib.hid ((only_grew HG6.out ((Grew.refl _).alloc _)).trans hg7)
          have k0 := HO7.out.at_ (j := 1) hx0' rfl
          have k1 := HO7.out.frozen
          simp only [Brk.E, Nat.zero_mul, Nat.zero_add] at k0
          clear hc7 hg7 hm
          go_wp2_with fail
          go_ret
          go_light
          have HS := HO7.out.set_ (x' := ⟨x0.f, y⟩) (j := 1) (u := .int .i64 y) hx0' rfl (by decide)
          simp only [Brk.E, Nat.zero_mul, Nat.zero_add] at HS
          have hk : w7.grownBy (w7.setCell ⟨gb, 1, none⟩ (.int .i64 y)) (some gb) := ⟨rfl, rfl, rfl, by simp, fun k _ hk => heap_setCell_other w7 ⟨gb, 1, none⟩ k _ (fun e => hk (by rw [e]))⟩
          refine ⟨m.set 0 ⟨x0.f, y⟩, some ⟨gb, 0, none⟩, d, ?_, by rw [List.length_set]; omega, ?_, HC7.out.app H0.out hgw (Nat.le_refl _) HO7.out hk, only_app HG7.out HO7.out hk⟩
          · exact ret_val (by rw [List.length_set]; rfl)
          · rw [List.length_set]; exact HS
        · by_cases hs2 : s = 2
          · subst hs2
            go_wp2_with fail
            go_ret
            go_light
            exact ⟨[], some ⟨w6.heap.size, 0, none⟩, 0, rfl, by simp, Own.new_ HG6.out.size, HC6.out.grew ((Grew.refl _).alloc _), only_grew HG6.out ((Grew.refl _).alloc _)⟩
          · have e0 : (s == 0) = false := by simp; omega
            have e1 : (s == 1) = false := by simp; omega
            have e2 : (s == 2) = false := by simp; omega
            go_wp2_with fail
            go_ret
            go_light
            exact ⟨m, some ⟨gb, 0, none⟩, d, rfl, by omega, HO6.out, HC6.out, HG6.out⟩

set_option maxHeartbeats 2000000 in
theorem l26Ask_any (w : World) (c : Nat) (A : Option Addr) (l : List UInt8) (h : Rd Byt.E w A l) (hl : l.length ≤ 1048576) :
    Calls Try.prog 33 #[.slice A l.length c] w fun e w' => ∃ (m : List Brk) (B : Option Addr) (d : Nat) (q : Int), e = .returned (.tuple #[.slice B m.length d, .int .i64 q]) ∧ m.length ≤ 5 ∧ Rd Brk.E w' B m ∧ -1 ≤ q ∧ q ≤ 100001 ∧ Grew w w' := by
  have HL := Lib.hid h
  clear h
  go_enter Try.func33, Try.ntmps33
  go_wp2_with fail
  refine (l1New_any _ _ _ _ HL.out hl).mono ?_; rintro e w1 ⟨g, rfl, hc1, hg1, hgs⟩
  have HC1 := Lib.hid hc1
  have HG1 := Lib.hid hg1
  clear hc1 hg1
  go_wp2_with fail
  refine (l26Breaks_any _ _ _ _ _ HC1.out).mono ?_; rintro e w2 ⟨m, B, d, rfl, hml, ho2, hc2, hg2⟩
  have HC2 := Lib.hid hc2
  have HO2 := Lib.hid ho2
  have HG2 := Lib.hid (grew_only HG1.out hg2 hgs)
  have hg1s : g < w1.heap.size := HC1.out.1
  clear hc2 hg2 ho2
  go_wp2_with fail
  refine (l1Once_any _ _ _ _ _ 8 HC2.out (by omega)).mono ?_; rintro e w3 ⟨x, rfl, hc3, hg3⟩
  have HC3 := Lib.hid hc3
  have HO3 := Lib.hid (HO2.out.kept hg3 (.inr (HO2.out.ne_ (.inl hg1s))))
  have HG3 := Lib.hid (grew_only HG2.out hg3 hgs)
  clear hc3 hg3
  cases x
  · go_wp2_with fail
    refine (l1Below_any _ _ _ _ _ 90 HC3.out (by omega)).mono ?_; rintro e w4 ⟨x, rfl, hx0, hx1, hx2, hc4, hg4⟩
    have HO4 := Lib.hid (HO3.out.kept hg4 (.inr (HO3.out.ne_ (.inl hg1s))))
    have HG4 := Lib.hid (grew_only HG3.out hg4 hgs)
    have hx3 := hx1 (by omega)
    clear hc4 hg4 hx1 hx2
    go_wp2_with fail
    go_ret2
    go_light
    exact ⟨m, B, d, _, rfl, hml, HO4.out.rd, by omega, by omega, HG4.out⟩
  · go_wp2_with fail
    refine (l10Quantity_any _ _ _ _ _ HC3.out HC3.out.2.2.2.2.2.1).mono ?_; rintro e w4 ⟨x, rfl, hx0, hx1, hc4, hg4⟩
    have HO4 := Lib.hid (HO3.out.kept hg4 (.inr (HO3.out.ne_ (.inl hg1s))))
    have HG4 := Lib.hid (grew_only HG3.out hg4 hgs)
    clear hc4 hg4
    go_wp2_with fail
    go_ret2
    go_light
    exact ⟨m, B, d, _, rfl, hml, HO4.out.rd, by omega, by omega, HG4.out⟩
set_option maxHeartbeats 1000000 in
theorem drawBestBuy_any (w : World) (c : Nat) (A : Option Addr) (l : List UInt8) (h : Rd Byt.E w A l) (hl : l.length ≤ 1048576) :
    Calls Try.prog 22 #[.slice A l.length c] w fun e w' => ∃ (m : List Brk) (B : Option Addr) (d : Nat) (q : Int), e = .returned (.tuple #[.slice B m.length d, .int .i64 q]) ∧ m.length ≤ 5 ∧ Rd Brk.E w' B m ∧ -1 ≤ q ∧ q ≤ 100001 ∧ Grew w w' := by
  have HL := Lib.hid h
  clear h
  go_enter Try.func22, Try.ntmps22
  go_wp2_with fail
  refine (l26Ask_any _ _ _ _ HL.out hl).mono ?_; rintro e w1 ⟨m, B, d, q, rfl, hml, hr, hq0, hq1, hg⟩
  have HR := Lib.hid hr
  have HG := Lib.hid hg
  clear hr hg
  go_wp2_with fail
  go_ret2
  go_light
  exact ⟨m, B, d, q, rfl, hml, HR.out, hq0, hq1, HG.out⟩
/-- Rows of breaks that lie apart from the cursor and from the slice that holds them. -/
def RowsOk (w : World) (g : Nat) (v : Value) (rs : List Row) : Prop := ∀ x ∈ rs, Rd Brk.E w x.A x.l ∧ x.l.length ≤ 5 ∧ (0 < x.l.length → ∀ b o, x.A = some ⟨b, o, none⟩ → b ≠ g ∧ v.ownBlock ≠ some b)
theorem RowsOk.only {w w' : World} {g : Nat} {v : Value} {rs : List Row} (h : RowsOk w g v rs) (k : w.grownBy w' (some g)) : RowsOk w' g v rs := fun x hx => by
  obtain ⟨h1, h2, h3⟩ := h x hx
  exact ⟨h1.kept0 k (fun hp b o e e2 => (h3 hp b o e).1 (by injection e2 with e2; exact e2.symm)), h2, h3⟩
theorem rows_app {w4 w5 wr : World} {g d4 dc c5 : Nat} {B C A5 : Option Addr} {n5 base : Nat} {t t' : TypeId} {rs : List Row} {m : List Brk} {o : Obj} (h : RowsOk w4 g (.slice B rs.length d4) rs)
    (hm : Own Brk.E t w4 wr.heap.size (.slice C m.length dc) m) (ho : Own Row.E t' w4 base (.slice B rs.length d4) rs) (hor : Own Row.E t' wr base (.slice B rs.length d4) rs) (hg : g < wr.heap.size) (hml : m.length ≤ 5)
    (hgr : (w4.alloc o).grownBy w5 (Value.ownBlock (.slice B rs.length d4))) (hat : Value.ownBlock (.slice A5 n5 c5) = Value.ownBlock (.slice B rs.length d4) ∨ Value.ownBlock (.slice A5 n5 c5) = some (w4.alloc o).heap.size) :
    RowsOk w5 g (.slice A5 n5 c5) (rs ++ [⟨m, C, dc⟩]) := by
  have hgr4 : w4.grownBy w5 (Value.ownBlock (.slice B rs.length d4)) := (World.grownBy_alloc w4 o _).trans hgr
  intro x hx
  rcases List.mem_append.1 hx with hx | hx
  · obtain ⟨h1, h2, h3⟩ := h x hx
    refine ⟨h1.kept0 hgr4 (fun hp b o2 e e2 => (h3 hp b o2 e).2 e2), h2, fun hp b o2 e => ⟨(h3 hp b o2 e).1, ?_⟩⟩
    obtain ⟨b', o', e', hb', _⟩ := h1 hp
    rw [e] at e'
    simp only [Option.some.injEq, Addr.mk.injEq, and_true] at e'
    rcases hat with h4 | h4 <;> rw [h4]
    · exact (h3 hp b o2 e).2
    · simp; omega
  · obtain rfl : x = ⟨m, C, dc⟩ := by simpa using hx
    have hbl : 0 < m.length → ∀ b o2, C = some ⟨b, o2, none⟩ → wr.heap.size ≤ b ∧ b < w4.heap.size := fun hp b o2 e => hm.block b (by rw [e]; rfl)
    have hne : 0 < m.length → ∀ b o2, C = some ⟨b, o2, none⟩ → Value.ownBlock (.slice B rs.length d4) ≠ some b := fun hp b o2 e e2 => by
      have h5 := hbl hp b o2 e
      have h6 := (hor.block b e2).2
      omega
    refine ⟨hm.rd.kept0 hgr4 hne, hml, fun hp b o2 e => ⟨by have := hbl hp b o2 e; omega, ?_⟩⟩
    rcases hat with h4 | h4 <;> rw [h4]
    · exact hne hp b o2 e
    · have := hbl hp b o2 e
      simp; omega
set_option maxHeartbeats 4000000 in
theorem drawBestSupplier_any (w : World) (c : Nat) (A : Option Addr) (l : List UInt8) (h : Rd Byt.E w A l) (hl : l.length ≤ 1048576) :
    Calls Try.prog 28 #[.slice A l.length c] w fun e w' => ∃ (L : List (List Brk)) (B : Option Addr) (d : Nat) (q : Int), e = .returned (.tuple #[.slice B L.length d, .int .i64 q]) ∧ L.length ≤ 5 ∧ (∀ m ∈ L, m.length ≤ 5) ∧ RdR w' B L ∧ -1 ≤ q ∧ q ≤ 100001 ∧ Grew w w' := by
  have HL := Lib.hid h
  clear h
  go_enter Try.func28, Try.ntmps28
  go_wp2_with fail
  refine (l1New_any _ _ _ _ HL.out hl).mono ?_; rintro e w1 ⟨g, rfl, hc1, hg1, hgs⟩
  have HC1 := Lib.hid hc1
  have HG1 := Lib.hid hg1
  have hgw : g < w1.heap.size := hc1.1
  have H0 := Lib.hid hc1.2.2.2.2.2.1
  clear hc1 hg1
  go_wp2_with fail
  refine (l1Below_any _ _ _ _ _ 4 (HC1.out.grew ((Grew.refl _).alloc _)) (by omega)).mono ?_; rintro e w2 ⟨n, rfl, hn0, hn1, hn2, hc2, hg2⟩
  have HO2 := Lib.hid ((Own.new_ (E := Row.E) (t := 25) (Nat.le_refl w1.heap.size)).kept hg2 (.inr (by simp [Value.ownBlock]; omega)))
  have HC2 := Lib.hid hc2
  have HG2 := Lib.hid ((only_grew (World.grownBy.refl _ _) ((Grew.refl w1).alloc _)).trans hg2)
  have hn3 := hn1 (by omega)
  clear hc2 hg2 hn1 hn2
  go_wp2_with fail
  go_loopw [5, 6] (fun v k wr => ∃ (rs : List Row) (j : Int), 0 ≤ j ∧ rs.length + j ≤ 4 ∧ k = .int .i64 j ∧ Own Row.E 25 wr w1.heap.size v rs ∧ RowsOk wr g v rs ∧ Cur wr g A c l ∧ w1.grownBy wr (some g)) (fun _ k _ => (intOf k).toNat)
  case atStart => exact ⟨[], n, hn0, by simp; omega, rfl, HO2.out, fun x hx => by simp at hx, HC2.out, HG2.out⟩
  case round =>
    obtain ⟨rs, j, hj0, hj1, rfl, hown, hrows, hcur, hgr⟩ := hrel
    have HO := Lib.hid hown
    have HRW := Lib.hid hrows
    have HCU := Lib.hid hcur
    have HG := Lib.hid hgr
    obtain ⟨B, d, rfl⟩ := hown.slice
    clear hown hcur hgr hrows
    by_cases hj : 0 < j
    · go_wp2_with fail
      refine (l26Breaks_any _ _ _ _ _ HCU.out).mono ?_; rintro e w4 ⟨m, C, dc, rfl, hml, ho4, hc4, hg4⟩
      have HC4 := Lib.hid hc4
      have HM4 := Lib.hid ho4
      have HO4 := Lib.hid (HO.out.kept hg4 (.inr (HO.out.ne_ (.inl hgw))))
      have HRW4 := Lib.hid (HRW.out.only hg4)
      have HG4 := Lib.hid (HG.out.trans hg4)
      have hw1s : w1.heap.size ≤ w4.heap.size := HG4.out.size
      have hgr4 : g < wr.heap.size := HCU.out.1
      have HRS := Lib.hid HG.out.size
      clear hc4 hg4 ho4
      go_wp2_with (at_builtin; refine wpList_append_rd _ rfl (.tmp 16) (.tmp 19) _ rfl sl_Row w1.heap.size _ _ _ rs rfl (HO4.out.alloc _) _ _ _ [⟨m, C, dc⟩] rfl rfl (rd_new (E := Row.E) _ ⟨m, C, dc⟩ _ rfl) (by simp only [List.length_cons, List.length_nil]; omega) (by simp; omega) ?_; intro A5 c5 w5 ho5 hgr5 hat5; have HO5 := Lib.hid ho5; have HC5 := Lib.hid ((HC4.out.grew ((Grew.refl _).alloc _)).app H0.out hgw (Nat.le_refl _) (HO4.out.alloc _) hgr5); have HG5 := Lib.hid (only_app (only_grew HG4.out ((Grew.refl _).alloc _)) (HO4.out.alloc _) hgr5); have HR5 := Lib.hid (rows_app HRW4.out HM4.out HO4.out (HO.out) hgr4 hml hgr5 hat5); clear ho5 hgr5 hat5)
      go_roundw
      case rel =>
        go_light
        exact ⟨rs ++ [⟨m, C, dc⟩], _, by omega, by simp; omega, rfl, HO5.out, HR5.out, HC5.out, HG5.out⟩
      case measure => go_light; simp [intOf]; omega
    · go_wp2_with fail
      refine (l1Below_any _ _ _ _ _ 90 HCU.out (by omega)).mono ?_; rintro e w4 ⟨x, rfl, hx0, hx1, hx2, hc4, hg4⟩
      have HO4 := Lib.hid (HO.out.kept hg4 (.inr (HO.out.ne_ (.inl hgw))))
      have HRW4 := Lib.hid (HRW.out.only hg4)
      have HG4 := Lib.hid (grew_only HG1.out (HG.out.trans hg4) hgs)
      have hx3 := hx1 (by omega)
      clear hc4 hg4 hx1 hx2
      go_wp2_with fail
      go_ret2
      go_light
      refine ⟨rs.map (·.l), B, d, _, by rw [List.length_map]; rfl, by rw [List.length_map]; omega, fun m hm => ?_, ⟨rs, rfl, HO4.out.rd, fun x hx => (HRW4.out x hx).1⟩, by omega, by omega, HG4.out⟩
      obtain ⟨x, hx, rfl⟩ := List.mem_map.1 hm
      exact (HRW4.out x hx).2.1
end Go.Proofs.Ytlaiemjeoceehaa
