/- The draws of stops and of slots: what is drawn is small; nothing old but the cursor is written. Conditions: none. -/
import Derived.Test.YtembbgkhmnalpaaRepM
import Derived.Test.YtembbgkhmnalpaaDrawO
import Derived.Test.YtembbgkhmnalpaaDisS
import Derived.Deep.RegionHeld3
namespace Go.Proofs.Ytembbgkhmnalpaa
open Go.RowKit Go.ChangeShapes Go.WideShapes Go.Deep
set_option linter.unusedVariables false
set_option linter.unusedSimpArgs false

def Str.E : Enc ByteArray := { enc := fun x => [.string x], sz := 1, pos := by decide, len := fun _ => rfl, one := by intro x u hu; simp at hu; subst hu; rfl }
set_option maxHeartbeats 1000000 in
theorem l1Pick_any (w : World) (g c : Nat) (A : Option Addr) (l : List UInt8) (xs : List ByteArray) (b cx : Nat) (h : Cur w g A c l) (hx : Rd Str.E w (some ⟨b, 0, none⟩) xs) (h0 : 0 < xs.length) (hn : xs.length ≤ 1000) (hb : b ≠ g) :
    Calls Try.prog 65 #[.pointer (some ⟨g, 0, none⟩), .slice (some ⟨b, 0, none⟩) xs.length cx] w fun e w' => ∃ x : ByteArray, e = .returned (.string x) ∧ x ∈ xs ∧ Cur w' g A c l ∧ w.grownBy w' (some g) := by
  have HC := Lib.hid h
  have HX := Lib.hid hx
  clear h hx
  go_enter Try.func65, Try.ntmps65
  go_wp2_with fail
  refine (l1Below_any _ _ _ _ _ (xs.length : Int) HC.out (by omega)).mono ?_; rintro e w1 ⟨x, rfl, hx0, hx1, hx2, hc1, hg1⟩
  have HC1 := Lib.hid hc1
  have HG1 := Lib.hid hg1
  have hlt := hx1 (by omega)
  obtain ⟨k, rfl⟩ := Int.eq_ofNat_of_zero_le hx0
  obtain ⟨y, hy⟩ : ∃ y, xs[k]? = some y := ⟨_, List.getElem?_eq_getElem (by omega)⟩
  have hrd := HX.out.kept hg1 (fun b' o' e e2 => by simp only [Option.some.injEq, Addr.mk.injEq, and_true] at e e2; omega)
  obtain ⟨b2, o2, e2, hb2, hc2⟩ := hrd.at_ (k := k) (by omega)
  simp only [Option.some.injEq, Addr.mk.injEq, and_true] at e2
  obtain ⟨rfl, rfl⟩ := e2
  have hc0 := hc2 k y hy 0 _ rfl
  have HM := Lib.hid (List.mem_of_getElem? hy)
  simp only [Str.E, Nat.mul_one, Nat.zero_add, Nat.add_zero] at hc0
  have hkl : k < xs.length := by omega
  clear hc1 hg1 hx1 hx2 hy hrd hc2
  go_wp2_with fail
  go_ret
  go_light
  exact ⟨y, rfl, HM.out, HC1.out, HG1.out⟩
theorem rd_flat {T : Type} {E : Enc T} (w : World) (l : List T) (t : TypeId) {n : Nat} (hn : w.heap.size = n) : Rd E (w.alloc (.cells (flat E l).toArray t)) (some ⟨n, 0, none⟩) l := by
  subst hn
  intro _
  refine ⟨w.heap.size, 0, rfl, by simp, fun i y hy j u hu => ?_⟩
  have h1 : (w.alloc (.cells (flat E l).toArray t)).heap[w.heap.size]? = some (.cells (flat E l).toArray t (0, 0)) := heap_alloc_new w _
  rw [Nat.zero_add, cell_of_row _ _ (i * E.sz + j) _ t (0, 0) h1]
  have := flat_get E l i y hy j u hu
  simpa using this
def cents3 : List ByteArray := [⟨#[83, 65, 87]⟩, ⟨#[77, 73, 76, 76]⟩, ⟨#[80, 65, 73, 78, 84]⟩]
theorem size_in {xs : List ByteArray} (h : xs.all (fun x => decide (x.size ≤ 9)) = true) {x : ByteArray} (hx : x ∈ xs) : x.size ≤ 9 := by
  have := List.all_eq_true.1 h x hx
  simpa using this
theorem storeL_by : ∀ (us : List Value) (w : World) (b i : Nat), w.grownBy (storeL w b i us) (some b)
  | [], w, b, _ => World.grownBy.refl w _
  | u :: us, w, b, i => (set_by2 w b i u).trans (storeL_by us _ b (i + 1))
theorem storeL_size : ∀ (us : List Value) (w : World) (b i : Nat), (storeL w b i us).heap.size = w.heap.size
  | [], _, _, _ => rfl
  | u :: us, w, b, i => (storeL_size us _ b (i + 1)).trans (by simp)
theorem storeL_frozen : ∀ (us : List Value) (w : World) (b i : Nat) (p : Addr), (storeL w b i us).frozen? p = w.frozen? p
  | [], _, _, _, _ => rfl
  | u :: us, w, b, i, p => (storeL_frozen us _ b (i + 1) p).trans (by simp [go_sem])
theorem storeL_before : ∀ (us : List Value) (w : World) (b i k : Nat), k < i → (storeL w b i us).cell? ⟨b, k, none⟩ = w.cell? ⟨b, k, none⟩
  | [], _, _, _, _, _ => rfl
  | u :: us, w, b, i, k, h => (storeL_before us _ b (i + 1) k (by omega)).trans (World.cell?_setCell_other _ _ _ _ (by intro e; simp only [Addr.mk.injEq] at e; omega))
theorem storeL_cell : ∀ (us : List Value) (w : World) (b i : Nat), (∀ j, j < us.length → ∃ u, w.cell? ⟨b, i + j, none⟩ = some u) → ∀ j u, us[j]? = some u → (storeL w b i us).cell? ⟨b, i + j, none⟩ = some u
  | [], _, _, _, _, j, u, h => by simp at h
  | v :: us, w, b, i, hc, 0, u, h => by
    obtain rfl : v = u := by simpa using h
    obtain ⟨x, hx⟩ := hc 0 (by simp)
    rw [Nat.add_zero] at hx ⊢
    exact (storeL_before us _ b (i + 1) i (by omega)).trans (World.cell?_setCell_same _ _ _ hx)
  | v :: us, w, b, i, hc, j + 1, u, h => by
    have := storeL_cell us (w.setCell ⟨b, i, none⟩ v) b (i + 1) (fun j hj => by
      obtain ⟨x, hx⟩ := hc (j + 1) (by simpa using hj)
      exact ⟨x, (World.cell?_setCell_other _ _ _ _ (by intro e; simp only [Addr.mk.injEq] at e; omega)).trans (by rw [← hx, show i + (j + 1) = i + 1 + j by omega])⟩) j u (by simpa using h)
    rw [show i + (j + 1) = i + 1 + j by omega]
    exact this
theorem Bx.store {T : Type} {E : Enc T} {w : World} {b : Nat} {x : T} (h : Bx E w b x) (y : T) : Bx E (storeL w b 0 (E.enc y)) b y := by
  refine ⟨by rw [storeL_size]; exact h.1, fun j u hu => ?_, fun j => by rw [storeL_frozen]; exact h.2.2 j⟩
  have := storeL_cell (E.enc y) w b 0 (fun j hj => by
    rw [E.len, ← E.len x] at hj
    exact ⟨_, by rw [Nat.zero_add]; exact h.2.1 j _ (List.getElem?_eq_getElem hj)⟩) j u hu
  simpa using this
theorem Bx.by_ {T : Type} {E : Enc T} {w w' : World} {b g : Nat} {x : T} (h : Bx E w b x) (k : w.grownBy w' (some g)) (hne : b ≠ g) : Bx E w' b x := h.kept k (by simp; omega)
theorem Bx.set_ {T : Type} {E : Enc T} {w : World} {b j : Nat} {x y : T} {u : Value} (h : Bx E w b x) (henc : (E.enc x).set j u = E.enc y) (hj : j < E.sz) : Bx E (w.setCell ⟨b, j, none⟩ u) b y := by
  refine ⟨by simpa using h.1, fun k v hk => ?_, fun k => by simp [go_sem, h.2.2 k]⟩
  rw [← henc, List.getElem?_set] at hk
  by_cases e : j = k
  · subst e
    rw [if_pos rfl, if_pos (by rw [E.len]; exact hj)] at hk
    obtain rfl : u = v := by simpa using hk
    have hl : j < (E.enc x).length := by rw [E.len]; exact hj
    exact World.cell?_setCell_same _ _ _ (h.2.1 j _ (List.getElem?_eq_getElem hl))
  · rw [if_neg e] at hk
    exact (World.cell?_setCell_other _ _ _ _ (by intro e2; simp only [Addr.mk.injEq] at e2; omega)).trans (h.2.1 k v hk)
theorem Cur.store {w0 w w' : World} {g c b : Nat} {A : Option Addr} {l : List UInt8} (h : Cur w g A c l) (h0 : Rd Byt.E w0 A l) (hg : g ≠ b) (hb : w0.heap.size ≤ b) (hgr : w.grownBy w' (some b)) : Cur w' g A c l :=
  h.kept hgr (by simp; omega) (fun hp b' o e e2 => by
    obtain ⟨b2, o2, e3, hb2, _⟩ := h0 hp
    rw [e] at e3
    simp only [Option.some.injEq, Addr.mk.injEq, and_true] at e3 e2
    omega)
theorem only_store {w0 w w' : World} {g b : Nat} (h : w0.grownBy w (some g)) (hb : w0.heap.size ≤ b) (hgr : w.grownBy w' (some b)) : w0.grownBy w' (some g) :=
  ⟨hgr.os.trans h.os, hgr.tape.trans h.tape, hgr.output.trans h.output, Nat.le_trans h.size hgr.size, fun j hj hne =>
    (hgr.block j (Nat.lt_of_lt_of_le hj h.size) (fun e => by injection e with e; omega)).trans (h.block j hj hne)⟩
def stp0 : Stp := ⟨ByteArray.empty, 0, 0⟩
set_option maxRecDepth 100000 in
set_option maxHeartbeats 8000000 in
theorem l25Stop_any (w : World) (g c : Nat) (A : Option Addr) (l : List UInt8) (h : Cur w g A c l) :
    Calls Try.prog 55 #[.pointer (some ⟨g, 0, none⟩)] w fun e w' => ∃ x : Stp, e = .returned x.v ∧ x.ce.size ≤ 9 ∧ Cur w' g A c l ∧ w.grownBy w' (some g) := by
  have HC := Lib.hid h
  have hgl : g < w.heap.size := h.1
  have H0 := Lib.hid h.2.2.2.2.2.1
  clear h
  have HB0 := Lib.hid (Bx.new_ (E := Stp.E) w stp0 26)
  have HG0 := Lib.hid (World.grownBy_alloc w (.cells (Stp.E.enc stp0).toArray 26) (some g))
  have HC0 := Lib.hid (HC.out.grew ((Grew.refl w).alloc (.cells (Stp.E.enc stp0).toArray 26)))
  go_enter Try.func55, Try.ntmps55
  go_wp2_with fail
  refine (l1Pick_any _ g c A l cents3 (w.heap.size + 1) _ (HC0.out.grew ((Grew.refl _).alloc _)) (rd_flat _ cents3 _ (by simp)) (by decide) (by decide) (by omega)).mono ?_; rintro e w2 ⟨ce, rfl, hce, hc2, hg2⟩
  have HCE := Lib.hid (size_in (by decide) hce)
  have HC2 := Lib.hid hc2
  have HB2 := Lib.hid ((HB0.out.alloc _).by_ hg2 (by omega))
  have HG2 := Lib.hid ((only_grew HG0.out ((Grew.refl _).alloc _)).trans hg2)
  clear hc2 hg2 hce
  go_wp2_with fail
  refine (l1Below_any _ _ _ _ _ 60 HC2.out (by omega)).mono ?_; rintro e w3 ⟨fr, rfl, hf0, hf1, hf2, hc3, hg3⟩
  have HC3 := Lib.hid hc3
  have HB3 := Lib.hid (HB2.out.by_ hg3 (by omega))
  have HG3 := Lib.hid (HG2.out.trans hg3)
  have hf3 := hf1 (by omega)
  clear hc3 hg3 hf1 hf2
  have HX3 := Lib.hid (Bx.new_ (E := Stp.E) w3 ⟨ce, fr, 0⟩ 26)
  have hgx : g < w3.heap.size := HC3.out.1
  have hwx : w.heap.size < w3.heap.size := HB3.out.1
  go_upto_region 2 with fail
  obtain ⟨bx, hbx⟩ : ∃ bx, bx = w3.heap.size := ⟨_, rfl⟩
  obtain ⟨w4, hw4⟩ : ∃ w4, w4 = w3.alloc (.cells (Stp.E.enc ⟨ce, fr, 0⟩).toArray 26) := ⟨_, rfl⟩
  have HX4 := Lib.hid (show Bx Stp.E w4 bx ⟨ce, fr, 0⟩ by rw [hw4, hbx]; exact HX3.out)
  have HB4 := Lib.hid (show Bx Stp.E w4 w.heap.size stp0 by rw [hw4]; exact HB3.out.alloc _)
  have HC4 := Lib.hid (show Cur w4 g A c l by rw [hw4]; exact HC3.out.grew ((Grew.refl _).alloc _))
  have HG4 := Lib.hid (show w.grownBy w4 (some g) by rw [hw4]; exact only_grew HG3.out ((Grew.refl _).alloc _))
  simp only [Stp.E] at hw4
  rw [← hbx] at hgx hwx
  rw [← hw4, ← hbx]
  clear hw4 hbx HX3 HB3 HC3 HG3 HB2 HC2 HG2 HB0 HC0 HG0
  go_cut [] (fun wx => ∃ un : Int, Bx Stp.E wx bx ⟨ce, fr, un⟩ ∧ Bx Stp.E wx w.heap.size stp0 ∧ Cur wx g A c l ∧ w.grownBy wx (some g))
  case first =>
    obtain ⟨x0, x1, x2, xs, xf⟩ := Stp.bx3 HX4.out
    simp only at x0 x1 x2
    have HCD := Lib.hid (show Cur w4.drew g A c l from HC4.out.grew (Grew.refl w4).drew)
    have x1d : w4.drew.cell? ⟨bx, 1, none⟩ = some (.int .i64 fr) := x1
    have hfr : IntKind.i64.wrap (fr + 1) = fr + 1 := IntWalk.i64_in _ (by omega)
    go_region_held3 (fun w' => w'.cell? ⟨bx, 1, none⟩ = some (.int .i64 fr))
      (first | (with_reducible exact x1d) | (with_reducible exact y1) | (rw [World.cell?_setCell_other _ _ _ _ (by intro e; simp only [Addr.mk.injEq] at e; omega)]; exact y1))
      ((go_at_call 66; (refine (l1Below_any _ g c A l 40 HCD.out (by omega)).mono ?_); rintro e w5 ⟨q, rfl, hq0, hq1, hq2, hc5, hg5⟩; have HX5 := Lib.hid (HX4.out.drew.by_ hg5 (by omega)); have HB5 := Lib.hid (HB4.out.drew.by_ hg5 (by omega)); have HC5 := Lib.hid hc5; have HG5 := Lib.hid ((only_grew HG4.out (Grew.refl w4).drew).trans hg5); have hq3 := hq1 (by omega); obtain ⟨y0, y1, y2, ys, yf⟩ := Stp.bx3 HX5.out; simp only at y0 y1 y2; clear hc5 hg5 hq1 hq2))
    go_wp2_with fail
    go_meet
    exact ⟨IntKind.i64.wrap (fr + 1 + q), HX5.out.set_ rfl (by decide), HB5.out.far (p := ⟨bx, 2, none⟩) (by show bx ≠ _; omega) _, HC5.out.store H0.out (by omega) (by omega) (set_by _ _ _ _), only_store HG5.out (by omega) (set_by _ _ _ _)⟩
  obtain ⟨un, hx, hb, hcur, hgr⟩ := hcut
  have HXA := Lib.hid hx
  have HBA := Lib.hid hb
  have HCA := Lib.hid hcur
  have HGA := Lib.hid hgr
  clear hx hb hcur hgr HX4 HB4 HC4 HG4
  go_wp2_with fail
  refine (l1Once_any _ _ _ _ _ 14 HCA.out (by omega)).mono ?_; rintro e w8 ⟨b1, rfl, hc8, hg8⟩
  have HC8 := Lib.hid hc8
  have HB8 := Lib.hid (HBA.out.by_ hg8 (by omega))
  have HX8 := Lib.hid (HXA.out.by_ hg8 (by omega))
  have HG8 := Lib.hid (HGA.out.trans hg8)
  clear hc8 hg8 HXA HBA HCA HGA
  go_upto_if 18 with fail
  go_cut [] (fun wx => ∃ un : Int, Bx Stp.E wx bx ⟨ce, fr, un⟩ ∧ Bx Stp.E wx w.heap.size stp0 ∧ Cur wx g A c l ∧ w.grownBy wx (some g))
  case first =>
    cases b1
    · go_wp2_with fail
      go_meet
      exact ⟨un, HX8.out, HB8.out, HC8.out, HG8.out⟩
    · go_wp2_with fail
      refine (l1Odd_any _ g c A l HC8.out).mono ?_; rintro e w9 ⟨q9, rfl, hq9, hc9, hg9⟩
      have HC9 := Lib.hid hc9
      have HB9 := Lib.hid (HB8.out.by_ hg9 (by omega))
      have HX9 := Lib.hid (HX8.out.by_ hg9 (by omega))
      have HG9 := Lib.hid (HG8.out.trans hg9)
      clear hc9 hg9 hq9
      obtain ⟨x0, x1, x2, xs, xf⟩ := Stp.bx3 HX9.out
      go_wp2_with fail
      go_meet
      exact ⟨q9, HX9.out.set_ rfl (by decide), HB9.out.far (p := ⟨bx, 2, none⟩) (by show bx ≠ _; omega) _, HC9.out.store H0.out (by omega) (by omega) (set_by _ _ _ _), only_store HG9.out (by omega) (set_by _ _ _ _)⟩
  obtain ⟨un2, hx, hb, hcur, hgr⟩ := hcut
  have HCC := Lib.hid hcur
  have HBC := Lib.hid hb
  have HXC := Lib.hid hx
  have HGC := Lib.hid hgr
  obtain ⟨x0, x1, x2, xs, xf⟩ := Stp.bx3 HXC.out
  obtain ⟨y0, y1, y2, ys, yf⟩ := Stp.bx3 HBC.out
  simp only [stp0] at y0 y1 y2
  clear hx hb hcur hgr
  go_wp2_with fail
  have HZ := Lib.hid (HBC.out.store (⟨ce, fr, un2⟩ : Stp))
  have HZB := Lib.hid (storeL_by (Stp.E.enc ⟨ce, fr, un2⟩) wc w.heap.size 0)
  clear x0 x1 x2 xs xf y0 y1 y2 ys yf
  show bodyPost _ _ _ _ _ (storeL wc w.heap.size 0 (Stp.E.enc ⟨ce, fr, un2⟩))
  obtain ⟨wz, hwz⟩ : ∃ wz, wz = storeL wc w.heap.size 0 (Stp.E.enc ⟨ce, fr, un2⟩) := ⟨_, rfl⟩
  rw [← hwz] at HZ HZB ⊢
  clear hwz
  obtain ⟨z0, z1, z2, zs, zf⟩ := Stp.bx3 HZ.out
  refine bodyPost_ret (v := Stp.v ⟨ce, fr, un2⟩) (by simp [results, Try.results55, go_sem, z0, z1, z2]) rfl ⟨⟨ce, fr, un2⟩, rfl, HCE.out, ?_, ?_⟩
  · exact HCC.out.store H0.out (by omega) (Nat.le_refl _) HZB.out
  · exact only_store HGC.out (Nat.le_refl _) HZB.out

/-- Jobs in a slice of the call's own; the steps of each in a block of its own; all these blocks apart. -/
structure TJ (w : World) (base : Nat) (v : Value) (rs : List Jr) : Prop where
  o : Own Jr.E 72 w base v rs
  r : ∀ x ∈ rs, Own Wk.E 74 w base (.slice x.A x.l.length x.c) x.l
  n : ∀ x ∈ rs, ∀ b, (Value.slice x.A x.l.length x.c).ownBlock = some b → v.ownBlock ≠ some b
  p : rs.Pairwise fun x y => ∀ b, (Value.slice x.A x.l.length x.c).ownBlock = some b → (Value.slice y.A y.l.length y.c).ownBlock ≠ some b
theorem own_cur {T : Type} {E : Enc T} {t : TypeId} {w w' : World} {base g : Nat} {v : Value} {l : List T} (h : Own E t w base v l) (hg : g < base) (k : w.grownBy w' (some g)) : Own E t w' base v l := h.kept k (.inr (h.ne_ (.inl hg)))
section
variable {w w' : World} {base g : Nat} {v v5 : Value} {rs : List Jr}
theorem TJ.cur (h : TJ w base v rs) (hg : g < base) (k : w.grownBy w' (some g)) : TJ w' base v rs := ⟨own_cur h.o hg k, fun x hx => own_cur (h.r x hx) hg k, h.n, h.p⟩
theorem TJ.grew (h : TJ w base v rs) (k : Grew w w') : TJ w' base v rs := ⟨h.o.grew k, fun x hx => (h.r x hx).grew k, h.n, h.p⟩
theorem TJ.rd {A : Option Addr} {n c : Nat} (h : TJ w base (.slice A n c) rs) : RdJ w A (rs.map Jr.j) := ⟨rs, rfl, h.o.rd, fun x hx => ⟨(h.r x hx).rd, (h.r x hx).cap.2.1⟩⟩
end
theorem disp_en {J : List Jb} {r : Int} : ∀ s ∈ (dispF J r).1, 0 ≤ s.en ∧ s.en ≤ 130000 := by
  unfold dispF
  split
  · rename_i h
    obtain ⟨m', h1, h2⟩ := ds_ok (r := r) h.1 (totJ J J.length)
    have := totJ_30 h.1
    intro s hs
    have := h2.ob s hs
    omega
  · simp

set_option maxRecDepth 100000 in
set_option maxHeartbeats 8000000 in
theorem l22Slots_any (w : World) (g c : Nat) (A : Option Addr) (l : List UInt8) (h : Cur w g A c l) (base : Nat) (AJ : Option Addr) (cJ : Nat) (rs : List Jr) (htj : TJ w base (.slice AJ rs.length cJ) rs) (hgb : g < base) (hs : JSm (rs.map Jr.j)) (hn2 : rs.length ≤ 1000) :
    Calls Try.prog 64 #[.pointer (some ⟨g, 0, none⟩), .slice AJ rs.length cJ] w fun e w' => ∃ (L : List Slt) (B : Option Addr) (d : Nat), e = .returned (.slice B L.length d) ∧ L.length ≤ 30 ∧ (∀ s ∈ L, s.en ≤ 200000) ∧ Own Slt.E 56 w' w.heap.size (.slice B L.length d) L ∧ Cur w' g A c l ∧ w.grownBy w' (some g) := by
  have HC := Lib.hid h
  have HT := Lib.hid htj
  have HS := Lib.hid hs
  have hgl : g < w.heap.size := h.1
  have H0 := Lib.hid h.2.2.2.2.2.1
  clear h htj hs
  go_enter Try.func64, Try.ntmps64
  go_wp2_with fail
  refine (l1Below_any _ _ _ _ _ 3 HC.out (by omega)).mono ?_; rintro e w1 ⟨rl, rfl, hr0, hr1, hr2, hc1, hg1⟩
  have HT1 := Lib.hid (HT.out.cur hgb hg1)
  have HC1 := Lib.hid hc1
  have HG1 := Lib.hid hg1
  clear hc1 hg1 hr1 hr2 hr0
  go_wp2_with fail
  have hlen : (rs.map Jr.j).length = rs.length := List.length_map _
  have HD := dispatch_spec (rs.map Jr.j) AJ cJ rl w1 HT1.out.rd HS.out (by rw [hlen]; omega)
  rw [hlen] at HD
  refine HD.mono ?_; rintro e w2 ⟨B, d, rfl, ho2, hg2⟩
  obtain ⟨L, hL⟩ : ∃ L, L = (dispF (rs.map Jr.j) rl).1 := ⟨_, rfl⟩
  have hl30 : L.length ≤ 30 := by rw [hL]; exact disp_le _ _
  have HEN := Lib.hid (show ∀ s ∈ L, 0 ≤ s.en ∧ s.en ≤ 130000 by rw [hL]; exact disp_en)
  obtain ⟨ok, hok⟩ : ∃ b, b = (dispF (rs.map Jr.j) rl).2 := ⟨_, rfl⟩
  rw [← hL] at ho2 ⊢
  rw [← hok]
  have HO2 := Lib.hid (ho2.mono HG1.out.size)
  have HC2 := Lib.hid (HC1.out.grew hg2)
  have HG2 := Lib.hid (only_grew HG1.out hg2)
  clear ho2 hg2 hL hok hlen HD HT1 HC1 HG1
  rcases Nat.eq_zero_or_pos L.length with hz | hz
  · obtain rfl : L = [] := List.eq_nil_of_length_eq_zero hz
    clear hz
    go_wp2_with fail
    go_ret
    go_light
    exact ⟨[], B, d, rfl, by simp, by simp, HO2.out, HC2.out, HG2.out⟩
  obtain ⟨gs, d2, hv, hgs1, hgs2⟩ := HO2.out.addr hz
  simp only [Value.slice.injEq, true_and] at hv
  obtain ⟨hB, hd2⟩ := hv
  subst hB
  subst hd2
  have hzi : (0 : Int) < (L.length : Int) := by omega
  go_wp2_with fail
  refine (l1Once_any _ _ _ _ _ 2 HC2.out (by omega)).mono ?_; rintro e w3 ⟨b1, rfl, hc3, hg3⟩
  have HO3 := Lib.hid (own_cur HO2.out hgl hg3)
  have HC3 := Lib.hid hc3
  have HG3 := Lib.hid (HG2.out.trans hg3)
  clear hc3 hg3 HO2 HC2 HG2
  go_upto_if 22 with fail
  go_cut [7, 8] (fun s7 s8 wx => ∃ L1 : List Slt, L1.length = L.length ∧ (∀ s ∈ L1, s.en ≤ 200000) ∧ Own Slt.E 56 wx w.heap.size (.slice (some ⟨gs, 0, none⟩) L.length d) L1 ∧ Cur wx g A c l ∧ w.grownBy wx (some g))
  case first =>
    cases b1
    · go_wp2_with fail
      go_meet
      exact ⟨L, rfl, fun s hs => by have := HEN.out s hs; omega, HO3.out, HC3.out, HG3.out⟩
    · go_wp2_with fail
      refine (l1Below_any _ _ _ _ _ (L.length : Int) HC3.out (by omega)).mono ?_; rintro e w4 ⟨k, rfl, hk0, hk1, hk2, hc4, hg4⟩
      have hk3 := hk1 hzi
      obtain ⟨k, rfl⟩ := Int.eq_ofNat_of_zero_le hk0
      have HO4 := Lib.hid (own_cur HO3.out hgl hg4)
      have HC4 := Lib.hid hc4
      have HG4 := Lib.hid (HG3.out.trans hg4)
      clear hc4 hg4 hk1 hk2
      go_wp2_with fail
      refine (l1Below_any _ _ _ _ _ 9 HC4.out (by omega)).mono ?_; rintro e w5 ⟨n, rfl, hn0, hn1, hn2', hc5, hg5⟩
      have hn3 := hn1 (by omega)
      have HO5 := Lib.hid (own_cur HO4.out hgl hg5)
      have HC5 := Lib.hid hc5
      have HG5 := Lib.hid (HG4.out.trans hg5)
      clear hc5 hg5 hn1 hn2' HO3 HO4
      obtain ⟨y, hy⟩ : ∃ y, L[k]? = some y := ⟨_, List.getElem?_eq_getElem (by omega)⟩
      have hyb := HEN.out y (List.mem_of_getElem? hy)
      obtain ⟨hyb1, hyb2⟩ := hyb
      have hy3 := HO5.out.at_ (j := 3) (u := .int .i64 y.st) hy rfl
      have hy4 := HO5.out.at_ (j := 4) (u := .int .i64 y.en) hy rfl
      simp only [Slt.E] at hy3 hy4
      have hfz := HO5.out.frozen
      have HY := Lib.hid hy
      clear hy
      go_upto_region 6 with fail
      obtain ⟨v, hv⟩ : ∃ v, v = wrap64 (y.st + (n - 4)) := ⟨_, rfl⟩
      rw [← hv]
      clear hv
      have hkl : k < L.length := by omega
      have hy2 := List.getElem?_set_self (a := (⟨y.jb, y.sp, y.ce, v, y.en⟩ : Slt)) hkl
      have HO6 := Lib.hid (HO5.out.set_ (x' := ⟨y.jb, y.sp, y.ce, v, y.en⟩) (j := 3) (u := .int .i64 v) HY.out rfl (by decide))
      have HC6 := Lib.hid (HC5.out.store H0.out (by omega) hgs1 (set_by w5 gs (k * 5 + 3) (.int .i64 v)))
      have HG6 := Lib.hid (only_store HG5.out hgs1 (set_by w5 gs (k * 5 + 3) (.int .i64 v)))
      have HO6' := Lib.hid (show Own Slt.E 56 (w5.setCell ⟨gs, k * 5 + 3, none⟩ (.int .i64 v)) w.heap.size (.slice (some ⟨gs, 0, none⟩) L.length d) (L.set k ⟨y.jb, y.sp, y.ce, v, y.en⟩) from HO6.out)
      clear HO6 HO5 HC5 HG5 hy3 hy4 hfz
      generalize (w5.setCell ⟨gs, k * 5 + 3, none⟩ (.int .i64 v)) = w6 at *
      have hz4 := HO6'.out.at_ (j := 4) (u := .int .i64 y.en) hy2 rfl
      simp only [Slt.E] at hz4
      have hfz := HO6'.out.frozen
      have hwe : IntKind.i64.wrap (y.en + (n - 4)) = y.en + (n - 4) := IntWalk.i64_in _ (by omega)
      have HO7 := Lib.hid (show Own Slt.E 56 (w6.setCell ⟨gs, k * 5 + 4, none⟩ (.int .i64 (y.en + (n - 4)))) w.heap.size (.slice (some ⟨gs, 0, none⟩) L.length d) ((L.set k ⟨y.jb, y.sp, y.ce, v, y.en⟩).set k ⟨y.jb, y.sp, y.ce, v, y.en + (n - 4)⟩) from by have h := HO6'.out.set_ (x' := ⟨y.jb, y.sp, y.ce, v, y.en + (n - 4)⟩) (j := 4) (u := .int .i64 (y.en + (n - 4))) hy2 rfl (by decide); exact h)
      clear hy2
      go_wp2_with fail
      go_meet
      refine ⟨_, ?_, fun s hs => ?_, HO7.out, HC6.out.store H0.out (by omega) hgs1 (set_by _ _ _ _), only_store HG6.out hgs1 (set_by _ _ _ _)⟩
      · simp
      · rw [List.set_set] at hs
        rcases List.mem_or_eq_of_mem_set hs with h | rfl
        · have := HEN.out s h; omega
        · simp only; omega
  obtain ⟨L1, hl1, hen1, hown, hcur, hgr⟩ := hcut
  have HE1 := Lib.hid hen1
  have HO4 := Lib.hid hown
  have HC4 := Lib.hid hcur
  have HG4 := Lib.hid hgr
  have HL1 := Lib.hid hl1
  clear hl1 hen1 hown hcur hgr HO3 HC3 HG3
  go_wp2_with fail
  refine (l1Once_any _ _ _ _ _ 8 HC4.out (by omega)).mono ?_; rintro e w5 ⟨b2, rfl, hc5, hg5⟩
  have HO5 := Lib.hid (own_cur HO4.out hgl hg5)
  have HC5 := Lib.hid hc5
  have HG5 := Lib.hid (HG4.out.trans hg5)
  clear hc5 hg5 HO4 HC4 HG4
  cases b2
  · go_wp2_with fail
    go_ret
    go_light
    exact ⟨L1, some ⟨gs, 0, none⟩, d, by rw [HL1.out]; rfl, by rw [HL1.out]; exact hl30, HE1.out, by rw [HL1.out]; exact HO5.out, HC5.out, HG5.out⟩
  · obtain ⟨y, hy⟩ : ∃ y, L1[0]? = some y := ⟨_, List.getElem?_eq_getElem (by rw [HL1.out]; exact hz)⟩
    have hy1 := HO5.out.at_ (j := 1) (u := .int .i64 y.sp) hy rfl
    simp only [Slt.E] at hy1
    have hfz := HO5.out.frozen
    have HY := Lib.hid hy
    clear hy
    go_wp2_with fail
    obtain ⟨v, hv⟩ : ∃ v, v = wrap64 (y.sp + 1) := ⟨_, rfl⟩
    rw [← hv]
    clear hv
    have HO6 := Lib.hid (HO5.out.set_ (x' := ⟨y.jb, v, y.ce, y.st, y.en⟩) (j := 1) (u := .int .i64 v) HY.out rfl (by decide))
    simp only [Slt.E, Nat.zero_mul, Nat.zero_add] at HO6
    go_ret
    go_light
    refine ⟨L1.set 0 ⟨y.jb, v, y.ce, y.st, y.en⟩, some ⟨gs, 0, none⟩, d, ?_, ?_, fun s hs => ?_, ?_, HC5.out.store H0.out (by omega) hgs1 (set_by _ _ _ _), only_store HG5.out hgs1 (set_by _ _ _ _)⟩
    · rw [List.length_set, HL1.out]; rfl
    · rw [List.length_set, HL1.out]; exact hl30
    · rcases List.mem_or_eq_of_mem_set hs with h | rfl
      · exact HE1.out s h
      · exact HE1.out y (List.mem_of_getElem? HY.out)
    · rw [List.length_set, HL1.out]; exact HO6.out
end Go.Proofs.Ytembbgkhmnalpaa
