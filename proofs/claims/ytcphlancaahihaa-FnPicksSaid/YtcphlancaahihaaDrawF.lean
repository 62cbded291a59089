/- The draws of lots: what is drawn is small; nothing old but the cursor is written. Conditions: none. -/
import Derived.Test.YtcphlancaahihaaPkP
import Derived.Test.YtcphlancaahihaaOwn
import Derived.Test.YtcphlancaahihaaDrawO
namespace Go.Proofs.Ytcphlancaahihaa
open Go.RowKit Go.ChangeShapes Go.WideShapes Go.Deep
set_option linter.unusedVariables false
set_option linter.unusedSimpArgs false

def Str.E : Enc ByteArray := { enc := fun x => [.string x], sz := 1, pos := by decide, len := fun _ => rfl, one := by intro x u hu; simp at hu; subst hu; rfl }
set_option maxHeartbeats 1000000 in
theorem l1Pick_any (w : World) (g c : Nat) (A : Option Addr) (l : List UInt8) (xs : List ByteArray) (b cx : Nat) (h : Cur w g A c l) (hx : Rd Str.E w (some ⟨b, 0, none⟩) xs) (h0 : 0 < xs.length) (hn : xs.length ≤ 1000) (hb : b ≠ g) :
    Calls Try.prog 56 #[.pointer (some ⟨g, 0, none⟩), .slice (some ⟨b, 0, none⟩) xs.length cx] w fun e w' => ∃ x : ByteArray, e = .returned (.string x) ∧ x ∈ xs ∧ Cur w' g A c l ∧ w.grownBy w' (some g) := by
  have HC := Lib.hid h
  have HX := Lib.hid hx
  clear h hx
  go_enter Try.func56, Try.ntmps56
  go_wp2_with fail
  refine (l1Below_any _ _ _ _ _ (xs.length : Int) HC.out (by omega)).mono ?_; rintro e w1 ⟨x, rfl, hx0, hx1, hx2, hc1, hg1⟩
  have HC1 := Lib.hid hc1
  have HG1 := Lib.hid hg1
  have hlt := hx1 (by omega)
  obtain ⟨k, rfl⟩ := Int.eq_ofNat_of_zero_le hx0
  obtain ⟨y, hy⟩ : ∃ y, xs[k]? = some y := ⟨_, List.getElem?_eq_getElem (by omega)⟩
  have hrd := HX.out.kept hg1 (fun b' o' e e2 => by simp only [Option.some.injEq, Addr.mk.injEq, and_true] at e e2; omega)
  obtain ⟨b2, o2, e2, hb2, hc2⟩ := hrd.at_ (k := k) (by omega)
  simp only [Option.some.injEq, Addr.mk.injEq, and_true] at e2
  obtain ⟨rfl, rfl⟩ := e2
  have hc0 := hc2 k y hy 0 _ rfl
  have HM := Lib.hid (List.mem_of_getElem? hy)
  simp only [Str.E, Nat.mul_one, Nat.zero_add, Nat.add_zero] at hc0
  have hkl : k < xs.length := by omega
  clear hc1 hg1 hx1 hx2 hy hrd hc2
  go_wp2_with fail
  go_ret
  go_light
  exact ⟨y, rfl, HM.out, HC1.out, HG1.out⟩
theorem rd_flat {T : Type} {E : Enc T} (w : World) (l : List T) (t : TypeId) : Rd E (w.alloc (.cells (flat E l).toArray t)) (some ⟨w.heap.size, 0, none⟩) l := by
  intro _
  refine ⟨w.heap.size, 0, rfl, by simp, fun i y hy j u hu => ?_⟩
  have h1 : (w.alloc (.cells (flat E l).toArray t)).heap[w.heap.size]? = some (.cells (flat E l).toArray t (0, 0)) := heap_alloc_new w _
  rw [Nat.zero_add, cell_of_row _ _ (i * E.sz + j) _ t (0, 0) h1]
  have := flat_get E l i y hy j u hu
  simpa using this
theorem size_in {xs : List ByteArray} (h : xs.all (fun x => decide (x.size ≤ 9)) = true) {x : ByteArray} (hx : x ∈ xs) : x.size ≤ 9 := by
  have := List.all_eq_true.1 h x hx
  simpa using this
theorem storeL_by : ∀ (us : List Value) (w : World) (b i : Nat), w.grownBy (storeL w b i us) (some b)
  | [], w, b, _ => World.grownBy.refl w _
  | u :: us, w, b, i => (show w.grownBy (w.setCell ⟨b, i, none⟩ u) (some b) from ⟨rfl, rfl, rfl, by simp, fun k _ hk => heap_setCell_other w ⟨b, i, none⟩ k u (fun e => hk (by rw [e]))⟩).trans (storeL_by us _ b (i + 1))
theorem storeL_size : ∀ (us : List Value) (w : World) (b i : Nat), (storeL w b i us).heap.size = w.heap.size
  | [], _, _, _ => rfl
  | u :: us, w, b, i => (storeL_size us _ b (i + 1)).trans (by simp)
theorem storeL_frozen : ∀ (us : List Value) (w : World) (b i : Nat) (p : Addr), (storeL w b i us).frozen? p = w.frozen? p
  | [], _, _, _, _ => rfl
  | u :: us, w, b, i, p => (storeL_frozen us _ b (i + 1) p).trans (by simp [go_sem])
theorem storeL_before : ∀ (us : List Value) (w : World) (b i k : Nat), k < i → (storeL w b i us).cell? ⟨b, k, none⟩ = w.cell? ⟨b, k, none⟩
  | [], _, _, _, _, _ => rfl
  | u :: us, w, b, i, k, h => (storeL_before us _ b (i + 1) k (by omega)).trans (World.cell?_setCell_other _ _ _ _ (by intro e; simp only [Addr.mk.injEq] at e; omega))
theorem storeL_cell : ∀ (us : List Value) (w : World) (b i : Nat), (∀ j, j < us.length → ∃ u, w.cell? ⟨b, i + j, none⟩ = some u) → ∀ j u, us[j]? = some u → (storeL w b i us).cell? ⟨b, i + j, none⟩ = some u
  | [], _, _, _, _, j, u, h => by simp at h
  | v :: us, w, b, i, hc, 0, u, h => by
    obtain rfl : v = u := by simpa using h
    obtain ⟨x, hx⟩ := hc 0 (by simp)
    rw [Nat.add_zero] at hx ⊢
    exact (storeL_before us _ b (i + 1) i (by omega)).trans (World.cell?_setCell_same _ _ _ hx)
  | v :: us, w, b, i, hc, j + 1, u, h => by
    have := storeL_cell us (w.setCell ⟨b, i, none⟩ v) b (i + 1) (fun j hj => by
      obtain ⟨x, hx⟩ := hc (j + 1) (by simpa using hj)
      exact ⟨x, (World.cell?_setCell_other _ _ _ _ (by intro e; simp only [Addr.mk.injEq] at e; omega)).trans (by rw [← hx, show i + (j + 1) = i + 1 + j by omega])⟩) j u (by simpa using h)
    rw [show i + (j + 1) = i + 1 + j by omega]
    exact this
theorem Bx.store {T : Type} {E : Enc T} {w : World} {b : Nat} {x : T} (h : Bx E w b x) (y : T) : Bx E (storeL w b 0 (E.enc y)) b y := by
  refine ⟨by rw [storeL_size]; exact h.1, fun j u hu => ?_, fun j => by rw [storeL_frozen]; exact h.2.2 j⟩
  have := storeL_cell (E.enc y) w b 0 (fun j hj => by
    rw [E.len, ← E.len x] at hj
    exact ⟨_, by rw [Nat.zero_add]; exact h.2.1 j _ (List.getElem?_eq_getElem hj)⟩) j u hu
  simpa using this
theorem Bx.by_ {T : Type} {E : Enc T} {w w' : World} {b g : Nat} {x : T} (h : Bx E w b x) (k : w.grownBy w' (some g)) (hne : b ≠ g) : Bx E w' b x := h.kept k (by simp; omega)
theorem set_by (w : World) (b j : Nat) (u : Value) : w.grownBy (w.setCell ⟨b, j, none⟩ u) (some b) := ⟨rfl, rfl, rfl, by simp, fun k _ hk => heap_setCell_other w ⟨b, j, none⟩ k u (fun e => hk (by rw [e]))⟩
theorem Bx.set_ {T : Type} {E : Enc T} {w : World} {b j : Nat} {x y : T} {u : Value} (h : Bx E w b x) (henc : (E.enc x).set j u = E.enc y) (hj : j < E.sz) : Bx E (w.setCell ⟨b, j, none⟩ u) b y := by
  refine ⟨by simpa using h.1, fun k v hk => ?_, fun k => by simp [go_sem, h.2.2 k]⟩
  rw [← henc, List.getElem?_set] at hk
  by_cases e : j = k
  · subst e
    rw [if_pos rfl, if_pos (by rw [E.len]; exact hj)] at hk
    obtain rfl : u = v := by simpa using hk
    have hl : j < (E.enc x).length := by rw [E.len]; exact hj
    exact World.cell?_setCell_same _ _ _ (h.2.1 j _ (List.getElem?_eq_getElem hl))
  · rw [if_neg e] at hk
    exact (World.cell?_setCell_other _ _ _ _ (by intro e2; simp only [Addr.mk.injEq] at e2; omega)).trans (h.2.1 k v hk)
theorem Cur.store {w0 w w' : World} {g c b : Nat} {A : Option Addr} {l : List UInt8} (h : Cur w g A c l) (h0 : Rd Byt.E w0 A l) (hg : g ≠ b) (hb : w0.heap.size ≤ b) (hgr : w.grownBy w' (some b)) : Cur w' g A c l :=
  h.kept hgr (by simp; omega) (fun hp b' o e e2 => by
    obtain ⟨b2, o2, e3, hb2, _⟩ := h0 hp
    rw [e] at e3
    simp only [Option.some.injEq, Addr.mk.injEq, and_true] at e3 e2
    omega)
theorem only_store {w0 w w' : World} {g b : Nat} (h : w0.grownBy w (some g)) (hb : w0.heap.size ≤ b) (hgr : w.grownBy w' (some b)) : w0.grownBy w' (some g) :=
  ⟨hgr.os.trans h.os, hgr.tape.trans h.tape, hgr.output.trans h.output, Nat.le_trans h.size hgr.size, fun j hj hne =>
    (hgr.block j (Nat.lt_of_lt_of_le hj h.size) (fun e => by injection e with e; omega)).trans (h.block j hj hne)⟩
theorem own_cur {T : Type} {E : Enc T} {t : TypeId} {w w' : World} {base g : Nat} {v : Value} {l : List T} (h : Own E t w base v l) (hg : g < base) (k : w.grownBy w' (some g)) : Own E t w' base v l := h.kept k (.inr (h.ne_ (.inl hg)))
theorem rd_cur {T : Type} {E : Enc T} {w0 w w' : World} {g : Nat} {A : Option Addr} {l : List T} (h : Rd E w0 A l) (hg : Grew w0 w) (hl : w0.heap.size ≤ g) (k : w.grownBy w' (some g)) : Rd E w' A l := h.grew (grew_only hg k hl)
def batches5 : List ByteArray := [⟨#[66, 49]⟩, ⟨#[66, 50]⟩, ⟨#[66, 51]⟩, ⟨#[66, 52]⟩, ⟨#[66, 53]⟩]
def LtSm (x : Lt) : Prop := x.ba.size ≤ 9 ∧ i64B x.ex ∧ i64B x.q
theorem LtSm.ok {x : Lt} (h : LtSm x) : x.Ok := by
  obtain ⟨a1, a2, a3⟩ := h
  have e : (9 : Nat) ≤ maxLen := by unfold maxLen; omega
  exact ⟨trivial, Nat.le_trans a1 e, a2.wf, a3.wf, trivial⟩
theorem Lt.bx3 {w : World} {b : Nat} {x : Lt} (h : Bx Lt.E w b x) : w.cell? ⟨b, 0, none⟩ = some (.string x.ba) ∧ w.cell? ⟨b, 1, none⟩ = some (.int .i64 x.ex) ∧ w.cell? ⟨b, 2, none⟩ = some (.int .i64 x.q) ∧ (∀ j, w.frozen? ⟨b, j, none⟩ = false) ∧ b < w.heap.size :=
  ⟨h.2.1 0 _ rfl, h.2.1 1 _ rfl, h.2.1 2 _ rfl, h.2.2, h.1⟩
set_option maxRecDepth 100000 in
set_option maxHeartbeats 8000000 in
theorem l29Lot_any (w : World) (g c : Nat) (A : Option Addr) (l : List UInt8) (h : Cur w g A c l) :
    Calls Try.prog 53 #[.pointer (some ⟨g, 0, none⟩)] w fun e w' => ∃ x : Lt, e = .returned x.v ∧ LtSm x ∧ Cur w' g A c l ∧ w.grownBy w' (some g) := by
  have HC := Lib.hid h
  have hgl : g < w.heap.size := h.1
  have H0 := Lib.hid h.2.2.2.2.2.1
  clear h
  have HB0 := Lib.hid (Bx.new_ (E := Lt.E) w lt0 36)
  go_enter Try.func53, Try.ntmps53
  go_wp2_with fail
  refine (l1Pick_any _ g c A l batches5 (w.heap.size + 1) _ ((HC.out.grew ((Grew.refl w).alloc _)).grew ((Grew.refl _).alloc _)) (by have := rd_flat (E := Str.E) (w.alloc (.cells #[.string ByteArray.empty, .int .i64 0, .int .i64 0] 36)) batches5 9; have e : (w.alloc (.cells #[.string ByteArray.empty, .int .i64 0, .int .i64 0] 36)).heap.size = w.heap.size + 1 := (by simp); rw [e] at this; exact this) (by decide) (by decide) (by omega)).mono ?_; rintro e w2 ⟨it, rfl, hit, hc2, hg2⟩
  have HIT := Lib.hid (size_in (by decide) hit)
  have HC2 := Lib.hid hc2
  have HB2 := Lib.hid ((HB0.out.alloc _).by_ hg2 (by omega))
  have HG2 := Lib.hid ((only_grew (World.grownBy_alloc w _ (some g)) ((Grew.refl _).alloc _)).trans hg2)
  clear hc2 hg2 hit
  go_wp2_with fail
  refine (l1Below_any _ _ _ _ _ 20 HC2.out (by omega)).mono ?_; rintro e w5 ⟨ex, rfl, hd0, hd1, hd2, hc5, hg5⟩
  have HC5 := Lib.hid hc5
  have HB5 := Lib.hid (HB2.out.by_ hg5 (by omega))
  have HG5 := Lib.hid (HG2.out.trans hg5)
  have hd3 := hd1 (by omega)
  clear hc5 hg5 hd1 hd2
  go_wp2_with fail
  refine (l1Below_any _ _ _ _ _ 12 HC5.out (by omega)).mono ?_; rintro e w6 ⟨q, rfl, hq0, hq1, hq2, hc6, hg6⟩
  have HC6 := Lib.hid hc6
  have HB6 := Lib.hid (HB5.out.by_ hg6 (by omega))
  have HG6 := Lib.hid (HG5.out.trans hg6)
  have hq3 := hq1 (by omega)
  clear hc6 hg6 hq1 hq2
  have HX6 := Lib.hid (Bx.new_ (E := Lt.E) w6 ⟨it, ex, 1 + q⟩ 36)
  have hgx : g < w6.heap.size := HC6.out.1
  have hwx : w.heap.size < w6.heap.size := HB6.out.1
  obtain ⟨bx, hbx⟩ : ∃ bx, bx = w6.heap.size := ⟨_, rfl⟩
  have HC7 := Lib.hid (HC6.out.grew ((Grew.refl _).alloc (.cells #[.string it, .int .i64 ex, .int .i64 (1 + q)] 36)))
  have HB7 := Lib.hid (HB6.out.alloc (.cells #[.string it, .int .i64 ex, .int .i64 (1 + q)] 36))
  have HG7 := Lib.hid (only_grew HG6.out ((Grew.refl _).alloc (.cells #[.string it, .int .i64 ex, .int .i64 (1 + q)] 36)))
  go_wp2_with fail
  rw [← hbx] at HX6 hgx hwx ⊢
  clear hbx
  refine (l1Once_any _ _ _ _ _ 20 HC7.out (by omega)).mono ?_; rintro e w8 ⟨b1, rfl, hc8, hg8⟩
  have HC8 := Lib.hid hc8
  have HB8 := Lib.hid (HB7.out.by_ hg8 (by omega))
  have HX8 := Lib.hid (HX6.out.by_ hg8 (by omega))
  have HG8 := Lib.hid (HG7.out.trans hg8)
  clear hc8 hg8
  go_upto_if 14 with fail
  go_cut [] (fun wx => ∃ q : Int, i64B q ∧ Bx Lt.E wx bx ⟨it, ex, q⟩ ∧ Bx Lt.E wx w.heap.size lt0 ∧ Cur wx g A c l ∧ w.grownBy wx (some g))
  case first =>
    cases b1
    · go_wp2_with fail
      go_meet
      exact ⟨1 + q, by unfold i64B; omega, HX8.out, HB8.out, HC8.out, HG8.out⟩
    · have hgl8 : g < w8.heap.size := HC8.out.1
      go_wp2_with fail
      refine (l1PickInt_any _ g c A l [0, -1, 100000, 100001] _ _ (HC8.out.grew ((Grew.refl _).alloc _)) (rd_ints w8 [0, -1, 100000, 100001] _ rfl) (by decide) (by decide) (by omega)).mono ?_; rintro e w9 ⟨q9, rfl, hq9, hc9, hg9⟩
      have HC9 := Lib.hid hc9
      have HB9 := Lib.hid ((HB8.out.alloc _).by_ hg9 (by omega))
      have HX9 := Lib.hid ((HX8.out.alloc _).by_ hg9 (by omega))
      have HG9 := Lib.hid ((only_grew HG8.out ((Grew.refl _).alloc _)).trans hg9)
      have HQ9 := Lib.hid (show i64B q9 by simp at hq9; unfold i64B; omega)
      clear hc9 hg9 hq9
      obtain ⟨x0, x1, x2, xf, xs⟩ := Lt.bx3 HX9.out
      go_wp2_with fail
      go_meet
      exact ⟨q9, HQ9.out, HX9.out.set_ rfl (by decide), HB9.out.far (p := ⟨bx, 2, none⟩) (by show bx ≠ _; omega) _, HC9.out.store H0.out (by omega) (by omega) (set_by _ _ _ _), only_store HG9.out (by omega) (set_by _ _ _ _)⟩
  case rest =>
    obtain ⟨q, hq, hx, hb, hcur, hgr⟩ := hcut
    have HQ := Lib.hid hq
    have HCC := Lib.hid hcur
    have HBC := Lib.hid hb
    have HXC := Lib.hid hx
    have HGC := Lib.hid hgr
    clear hq hx hb hcur hgr
    obtain ⟨x0, x1, x2, xf, xs⟩ := Lt.bx3 HXC.out
    obtain ⟨y0, y1, y2, yf, ys⟩ := Lt.bx3 HBC.out
    simp only [lt0] at y0 y1 y2
    go_wp2_with fail
    have HZ := Lib.hid (HBC.out.store (⟨it, ex, q⟩ : Lt))
    have HZB := Lib.hid (storeL_by (Lt.E.enc ⟨it, ex, q⟩) wc w.heap.size 0)
    clear x0 x1 x2 xf xs y0 y1 y2 yf ys
    show bodyPost _ _ _ _ _ (storeL wc w.heap.size 0 (Lt.E.enc ⟨it, ex, q⟩))
    obtain ⟨wz, hwz⟩ : ∃ wz, wz = storeL wc w.heap.size 0 (Lt.E.enc ⟨it, ex, q⟩) := ⟨_, rfl⟩
    rw [← hwz] at HZ HZB ⊢
    clear hwz
    obtain ⟨z0, z1, z2, zf, zs⟩ := Lt.bx3 HZ.out
    refine bodyPost_ret (v := Lt.v ⟨it, ex, q⟩) (by simp [results, Try.results53, go_sem, z0, z1, z2]) rfl ⟨⟨it, ex, q⟩, rfl, ?_, ?_, ?_⟩
    · exact ⟨HIT.out, by unfold i64B; exact ⟨by simp only; omega, by simp only; omega⟩, HQ.out⟩
    · exact HCC.out.store H0.out (by omega) (Nat.le_refl _) HZB.out
    · exact only_store HGC.out (Nat.le_refl _) HZB.out

theorem addF_ok {l : List Lt} {x : Lt} (hl : ∀ y ∈ l, y.Ok) (hx : x.Ok) : (∀ y ∈ (addF l x).1, y.Ok) ∧ (addF l x).1.length ≤ 20 := by
  unfold addF
  dsimp only
  split
  · rename_i h
    simp only [Bool.and_eq_true] at h
    exact ⟨(addOut_ok h.1 hl hx).1, areL_len h.2⟩
  · simp
theorem addLotE_spec {l m : List Lt} {v : Bool} {x : Lt} (he : addF l x = (m, v)) (A : Option Addr) (c : Nat) (w : World) (h : Rd Lt.E w A l) (hok : ∀ y ∈ l, y.Ok) (hn : l.length ≤ 4194304) (hx : x.Ok) (hlc : l.length ≤ c) (hcm : c ≤ maxLen) :
    Calls Try.prog 17 #[.slice A l.length c, x.v] w fun e w' => ∃ A' c', e = .returned (.tuple #[.slice A' m.length c', .bool v]) ∧ Own Lt.E 36 w' w.heap.size (.slice A' m.length c') m ∧ Grew w w' := by
  have := addLot_spec l A c x w h hok hn hx hlc hcm
  rw [he] at this
  exact this
set_option maxRecDepth 100000 in
set_option maxHeartbeats 8000000 in
theorem l29Lots_any (w : World) (g c : Nat) (A : Option Addr) (l : List UInt8) (h : Cur w g A c l) :
    Calls Try.prog 48 #[.pointer (some ⟨g, 0, none⟩)] w fun e w' => ∃ (m : List Lt) (B : Option Addr) (d : Nat), e = .returned (.slice B m.length d) ∧ m.length ≤ 20 ∧ (∀ x ∈ m, x.Ok) ∧ Own Lt.E 36 w' w.heap.size (.slice B m.length d) m ∧ Cur w' g A c l ∧ w.grownBy w' (some g) := by
  have HC := Lib.hid h
  have hgl : g < w.heap.size := h.1
  have H0 := Lib.hid h.2.2.2.2.2.1
  clear h
  go_enter Try.func48, Try.ntmps48
  go_wp2_with fail
  refine (l1Below_any _ _ _ _ _ 7 (HC.out.grew ((Grew.refl _).alloc _)) (by omega)).mono ?_; rintro e w1 ⟨n, rfl, hn0, hn1, hn2, hc1, hg1⟩
  have HC1 := Lib.hid hc1
  have HO1 := Lib.hid (own_cur (Own.new_ (E := Lt.E) (t := 36) (Nat.le_refl w.heap.size)) hgl hg1)
  have HG1 := Lib.hid ((World.grownBy_alloc w _ _).trans hg1)
  have hn3 := hn1 (by omega)
  clear hc1 hg1 hn1 hn2
  go_wp2_with fail
  go_loopw [3, 4] (fun v i wr => ∃ (m : List Lt) (j : Int) (B : Option Addr) (d : Nat), 0 ≤ j ∧ j ≤ 7 ∧ m.length ≤ 20 ∧ i = .int .i64 j ∧ v = .slice B m.length d ∧ (∀ x ∈ m, x.Ok) ∧ Own Lt.E 36 wr w.heap.size v m ∧ Cur wr g A c l ∧ w.grownBy wr (some g)) (fun _ i _ => (intOf i).toNat)
  case atStart => exact ⟨[], n, _, _, by omega, by omega, by simp, rfl, rfl, by simp, HO1.out, HC1.out, HG1.out⟩
  case round =>
    obtain ⟨m, j, B, d, hj0, hj1, hm1, rfl, rfl, hok, hown, hcur, hgr⟩ := hrel
    have HO := Lib.hid hown
    have HCU := Lib.hid hcur
    have HG := Lib.hid hgr
    have HOK := Lib.hid hok
    clear hown hcur hgr hok HC1 HO1 HG1
    by_cases hj : 0 < j
    · go_wp2_with fail
      refine (l29Lot_any _ g c A l HCU.out).mono ?_; rintro e w2 ⟨x, rfl, hx, hc2, hg2⟩
      have HX := Lib.hid hx.ok
      have HC2 := Lib.hid hc2
      have HO2 := Lib.hid (own_cur HO.out hgl hg2)
      have HG2 := Lib.hid (HG.out.trans hg2)
      clear hx hc2 hg2
      obtain ⟨am, hap⟩ : ∃ am, addF m x = am := ⟨_, rfl⟩
      obtain ⟨m2, is⟩ := am
      have HAP := Lib.hid hap
      have HM2 := Lib.hid (show (∀ y ∈ m2, y.Ok) ∧ m2.length ≤ 20 from by have := addF_ok HOK.out HX.out; rw [hap] at this; exact this)
      clear hap
      go_wp2_with fail
      refine (addLotE_spec HAP.out _ _ _ HO2.out.rd HOK.out (by omega) HX.out HO2.out.cap.2.1 HO2.out.cap.2.2).mono ?_; rintro e w3 ⟨A3, c3, rfl, ho3, hg3⟩
      have HO3 := Lib.hid (ho3.mono HG2.out.size)
      have HO3b := Lib.hid (HO2.out.grew hg3)
      have HC3 := Lib.hid (HC2.out.grew hg3)
      have HG3 := Lib.hid (only_grew HG2.out hg3)
      clear ho3 hg3
      cases is
      · go_wp2_with fail
        go_roundw
        case rel => go_light; exact ⟨m, j - 1, B, d, by omega, by omega, hm1, rfl, rfl, HOK.out, HO3b.out, HC3.out, HG3.out⟩
        case measure => go_light; simp [intOf]; omega
      · go_wp2_with fail
        go_roundw
        case rel => go_light; exact ⟨m2, j - 1, A3, c3, by omega, by omega, HM2.out.2, rfl, rfl, HM2.out.1, HO3.out, HC3.out, HG3.out⟩
        case measure => go_light; simp [intOf]; omega
    · obtain rfl : j = 0 := by omega
      by_cases hm : 1 < m.length
      · have hd : decide ((1 : Int) < (m.length : Int)) = true := decide_eq_true (by omega)
        have hd2 : decide (1 < m.length) = true := decide_eq_true hm
        go_wp2_with fail
        refine (l1Once_any _ _ _ _ _ 14 HCU.out (by omega)).mono ?_; rintro e w3 ⟨b, rfl, hc3, hg3⟩
        have HC3 := Lib.hid hc3
        have HO3 := Lib.hid (own_cur HO.out hgl hg3)
        have HG3 := Lib.hid (HG.out.trans hg3)
        clear hc3 hg3 hd hd2
        cases b
        · go_wp2_with fail
          go_ret
          go_light
          exact ⟨m, B, d, rfl, hm1, HOK.out, HO3.out, HC3.out, HG3.out⟩
        · go_wp2_with fail
          refine (l1Below_any _ _ _ _ _ 40 HC3.out (by omega)).mono ?_; rintro e w4 ⟨k, rfl, hk0, hk1, hk2, hc4, hg4⟩
          have HC4 := Lib.hid hc4
          have HO4 := Lib.hid (own_cur HO3.out hgl hg4)
          have HG4 := Lib.hid (HG3.out.trans hg4)
          have hk3 := hk1 (by omega)
          clear hc4 hg4 hk1 hk2
          obtain ⟨x, hx⟩ : ∃ x, m[0]? = some x := ⟨_, List.getElem?_eq_getElem (by omega)⟩
          obtain ⟨gb, db, hv, hgb1, hgb2⟩ := HO4.out.addr (by omega)
          simp only [Value.slice.injEq, true_and] at hv
          obtain ⟨rfl, rfl⟩ := hv
          have hcq := HO4.out.at_ (j := 1) hx rfl
          have hfz := HO4.out.frozen
          simp only [Lt.E, Nat.zero_mul, Nat.zero_add] at hcq
          have HX := Lib.hid hx
          have hm2 : 0 < m.length := by omega
          clear hx
          go_wp2_with fail
          go_ret
          go_light
          have HS := HO4.out.set_ (x' := ⟨x.ba, k - 1, x.q⟩) (j := 1) (u := .int .i64 (k - 1)) HX.out rfl (by decide)
          simp only [Lt.E, Nat.zero_mul, Nat.zero_add] at HS
          refine ⟨m.set 0 ⟨x.ba, k - 1, x.q⟩, some ⟨gb, 0, none⟩, d, by rw [List.length_set]; rfl, by rw [List.length_set]; exact hm1, fun y hy => ?_, by rw [List.length_set]; exact HS, HC4.out.store H0.out (by omega) hgb1 (set_by _ _ _ _), only_store HG4.out hgb1 (set_by _ _ _ _)⟩
          rcases List.mem_or_eq_of_mem_set hy with hy | rfl
          · exact HOK.out y hy
          · obtain ⟨_, a1, a2, a3, _⟩ := HOK.out x (List.mem_of_getElem? HX.out)
            exact ⟨trivial, a1, (show i64B (k - 1) from by unfold i64B; omega).wf, a3, trivial⟩
      · have hd : decide ((1 : Int) < (m.length : Int)) = false := decide_eq_false (by omega)
        have hd2 : decide (1 < m.length) = false := decide_eq_false hm
        go_wp2_with fail
        go_ret
        go_light
        exact ⟨m, B, d, rfl, hm1, HOK.out, HO.out, HCU.out, HG.out⟩

set_option maxRecDepth 100000 in
set_option maxHeartbeats 4000000 in
theorem drawPick_any (w : World) (c : Nat) (A : Option Addr) (l : List UInt8) (h : Rd Byt.E w A l) (hl : l.length ≤ 1048576) :
    Calls Try.prog 32 #[.slice A l.length c] w fun e w' => ∃ (m : List Lt) (B : Option Addr) (d : Nat) (day q : Int), e = .returned (.tuple #[.slice B m.length d, .int .i64 day, .int .i64 q]) ∧ m.length ≤ 20 ∧ (∀ x ∈ m, x.Ok) ∧ Rd Lt.E w' B m ∧ i64B day ∧ i64B q ∧ Grew w w' := by
  have HL := Lib.hid h
  clear h
  go_enter Try.func32, Try.ntmps32
  go_wp2_with fail
  refine (l1New_any _ _ _ _ HL.out hl).mono ?_; rintro e w1 ⟨g, rfl, hc1, hg1, hgs⟩
  have HC1 := Lib.hid hc1
  have HG1 := Lib.hid hg1
  clear hc1 hg1
  go_wp2_with fail
  refine (l29Lots_any _ g _ _ _ HC1.out).mono ?_; rintro e w2 ⟨m, B, d, rfl, h20, hm, ho2, hc2, hg2⟩
  have hgl : g < w1.heap.size := HC1.out.1
  have HO2 := Lib.hid ho2
  have HC2 := Lib.hid hc2
  have HG2 := Lib.hid (grew_only HG1.out hg2 hgs)
  have HM := Lib.hid hm
  clear ho2 hc2 hg2 hm
  go_wp2_with fail
  refine (l1Once_any _ _ _ _ _ 10 HC2.out (by omega)).mono ?_; rintro e w3 ⟨b, rfl, hc3, hg3⟩
  have HO3 := Lib.hid (own_cur HO2.out hgl hg3)
  have HC3 := Lib.hid hc3
  have HG3 := Lib.hid (grew_only HG2.out hg3 hgs)
  clear hc3 hg3
  cases b
  · go_wp2_with fail
    refine (l1Below_any _ _ _ _ _ 20 HC3.out (by omega)).mono ?_; rintro e w4 ⟨day, rfl, hd0, hd1, hd2, hc4, hg4⟩
    have HO4 := Lib.hid (own_cur HO3.out hgl hg4)
    have HC4 := Lib.hid hc4
    have HG4 := Lib.hid (grew_only HG3.out hg4 hgs)
    have hd3 := hd1 (by omega)
    clear hc4 hg4 hd1 hd2
    go_wp2_with fail
    refine (l1Below_any _ _ _ _ _ 25 HC4.out (by omega)).mono ?_; rintro e w5 ⟨q, rfl, hq0, hq1, hq2, hc5, hg5⟩
    have HO5 := Lib.hid (own_cur HO4.out hgl hg5)
    have HG5 := Lib.hid (grew_only HG4.out hg5 hgs)
    have hq3 := hq1 (by omega)
    clear hc5 hg5 hq1 hq2
    go_wp2_with fail
    go_ret3
    go_light
    exact ⟨m, B, d, day, 1 + q, rfl, h20, HM.out, HO5.out.rd, by unfold i64B; omega, by unfold i64B; omega, HG5.out⟩
  · go_wp2_with fail
    refine (l4Day_any _ g _ _ _ HC3.out).mono ?_; rintro e w4 ⟨day, rfl, hd, hc4, hg4⟩
    have HO4 := Lib.hid (own_cur HO3.out hgl hg4)
    have HC4 := Lib.hid hc4
    have HG4 := Lib.hid (grew_only HG3.out hg4 hgs)
    clear hc4 hg4
    go_wp2_with fail
    refine (l1Odd_any _ g _ _ _ HC4.out).mono ?_; rintro e w5 ⟨q, rfl, hq, hc5, hg5⟩
    have HO5 := Lib.hid (own_cur HO4.out hgl hg5)
    have HG5 := Lib.hid (grew_only HG4.out hg5 hgs)
    clear hc5 hg5
    go_wp2_with fail
    go_ret3
    go_light
    exact ⟨m, B, d, day, q, rfl, h20, HM.out, HO5.out.rd, hd, hq, HG5.out⟩
end Go.Proofs.Ytcphlancaahihaa
