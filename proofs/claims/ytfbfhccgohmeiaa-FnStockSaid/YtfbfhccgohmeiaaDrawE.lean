/- The draws of moves and holdings: what is drawn is small; nothing old but the cursor is written. Conditions: none. -/
import Derived.Test.YtfbfhccgohmeiaaAplU
import Derived.Test.YtfbfhccgohmeiaaOwn
import Derived.Test.YtfbfhccgohmeiaaDrawO
namespace Go.Proofs.Ytfbfhccgohmeiaa
open Go.RowKit Go.ChangeShapes Go.WideShapes Go.Deep
set_option linter.unusedVariables false
set_option linter.unusedSimpArgs false

def Str.E : Enc ByteArray := { enc := fun x => [.string x], sz := 1, pos := by decide, len := fun _ => rfl, one := by intro x u hu; simp at hu; subst hu; rfl }
set_option maxHeartbeats 1000000 in
theorem l1Pick_any (w : World) (g c : Nat) (A : Option Addr) (l : List UInt8) (xs : List ByteArray) (b cx : Nat) (h : Cur w g A c l) (hx : Rd Str.E w (some ⟨b, 0, none⟩) xs) (h0 : 0 < xs.length) (hn : xs.length ≤ 1000) (hb : b ≠ g) :
    Calls Try.prog 61 #[.pointer (some ⟨g, 0, none⟩), .slice (some ⟨b, 0, none⟩) xs.length cx] w fun e w' => ∃ x : ByteArray, e = .returned (.string x) ∧ x ∈ xs ∧ Cur w' g A c l ∧ w.grownBy w' (some g) := by
  have HC := Lib.hid h
  have HX := Lib.hid hx
  clear h hx
  go_enter Try.func61, Try.ntmps61
  go_wp2_with fail
  refine (l1Below_any _ _ _ _ _ (xs.length : Int) HC.out (by omega)).mono ?_; rintro e w1 ⟨x, rfl, hx0, hx1, hx2, hc1, hg1⟩
  have HC1 := Lib.hid hc1
  have HG1 := Lib.hid hg1
  have hlt := hx1 (by omega)
  obtain ⟨k, rfl⟩ := Int.eq_ofNat_of_zero_le hx0
  obtain ⟨y, hy⟩ : ∃ y, xs[k]? = some y := ⟨_, List.getElem?_eq_getElem (by omega)⟩
  have hrd := HX.out.kept hg1 (fun b' o' e e2 => by simp only [Option.some.injEq, Addr.mk.injEq, and_true] at e e2; omega)
  obtain ⟨b2, o2, e2, hb2, hc2⟩ := hrd.at_ (k := k) (by omega)
  simp only [Option.some.injEq, Addr.mk.injEq, and_true] at e2
  obtain ⟨rfl, rfl⟩ := e2
  have hc0 := hc2 k y hy 0 _ rfl
  have HM := Lib.hid (List.mem_of_getElem? hy)
  simp only [Str.E, Nat.mul_one, Nat.zero_add, Nat.add_zero] at hc0
  have hkl : k < xs.length := by omega
  clear hc1 hg1 hx1 hx2 hy hrd hc2
  go_wp2_with fail
  go_ret
  go_light
  exact ⟨y, rfl, HM.out, HC1.out, HG1.out⟩
theorem rd_flat {T : Type} {E : Enc T} (w : World) (l : List T) (t : TypeId) : Rd E (w.alloc (.cells (flat E l).toArray t)) (some ⟨w.heap.size, 0, none⟩) l := by
  intro _
  refine ⟨w.heap.size, 0, rfl, by simp, fun i y hy j u hu => ?_⟩
  have h1 : (w.alloc (.cells (flat E l).toArray t)).heap[w.heap.size]? = some (.cells (flat E l).toArray t (0, 0)) := heap_alloc_new w _
  rw [Nat.zero_add, cell_of_row _ _ (i * E.sz + j) _ t (0, 0) h1]
  have := flat_get E l i y hy j u hu
  simpa using this
def places4 : List ByteArray := [⟨#[]⟩, ⟨#[68, 79, 67, 75]⟩, ⟨#[66, 73, 78]⟩, ⟨#[76, 73, 78, 69]⟩]
def items2 : List ByteArray := [⟨#[65]⟩, ⟨#[66]⟩]
def batches2 : List ByteArray := [⟨#[66, 49]⟩, ⟨#[66, 50]⟩]
def odd5 : List ByteArray := [⟨#[]⟩, ⟨#[112]⟩, ⟨#[49, 65]⟩, ⟨#[84, 79, 79, 45, 76, 79, 78, 71, 45]⟩, ⟨#[65, 32, 66]⟩]
def codes6 : List ByteArray := [⟨#[65]⟩, ⟨#[66]⟩, ⟨#[67]⟩, ⟨#[68]⟩, ⟨#[69]⟩, ⟨#[70]⟩]
theorem size_in {xs : List ByteArray} (h : xs.all (fun x => decide (x.size ≤ 9)) = true) {x : ByteArray} (hx : x ∈ xs) : x.size ≤ 9 := by
  have := List.all_eq_true.1 h x hx
  simpa using this
set_option maxHeartbeats 1000000 in
theorem place_any (w : World) (g c : Nat) (A : Option Addr) (l : List UInt8) (h : Cur w g A c l) :
    Calls Try.prog 62 #[.pointer (some ⟨g, 0, none⟩)] w fun e w' => ∃ x : ByteArray, e = .returned (.string x) ∧ x.size ≤ 9 ∧ Cur w' g A c l ∧ w.grownBy w' (some g) := by
  have HC := Lib.hid h
  have hgl : g < w.heap.size := h.1
  clear h
  go_enter Try.func62, Try.ntmps62
  go_wp2_with fail
  refine (l1Pick_any _ g c A l places4 w.heap.size _ (HC.out.grew ((Grew.refl w).alloc _)) (rd_flat w places4 _) (by decide) (by decide) (by omega)).mono ?_; rintro e w1 ⟨x, rfl, hx, hc1, hg1⟩
  go_wp2_with fail
  go_ret
  go_light
  exact ⟨x, rfl, size_in (by decide) hx, hc1, (World.grownBy_alloc w _ _).trans hg1⟩
set_option maxHeartbeats 1000000 in
theorem l1Code_any (w : World) (g c : Nat) (A : Option Addr) (l : List UInt8) (h : Cur w g A c l) :
    Calls Try.prog 63 #[.pointer (some ⟨g, 0, none⟩)] w fun e w' => ∃ x : ByteArray, e = .returned (.string x) ∧ x.size ≤ 9 ∧ Cur w' g A c l ∧ w.grownBy w' (some g) := by
  have HC := Lib.hid h
  clear h
  go_enter Try.func63, Try.ntmps63
  go_wp2_with fail
  refine (l1Once_any _ _ _ _ _ 25 HC.out (by omega)).mono ?_; rintro e w1 ⟨x, rfl, hc1, hg1⟩
  have HC1 := Lib.hid hc1
  have HG1 := Lib.hid hg1
  have hgl : g < w1.heap.size := hc1.1
  clear hc1 hg1
  cases x
  · go_wp2_with fail
    refine (l1Pick_any _ g c A l codes6 w1.heap.size _ (HC1.out.grew ((Grew.refl w1).alloc _)) (rd_flat w1 codes6 _) (by decide) (by decide) (by omega)).mono ?_; rintro e w2 ⟨x, rfl, hx, hc2, hg2⟩
    go_wp2_with fail
    go_ret
    go_light
    exact ⟨x, rfl, size_in (by decide) hx, hc2, (only_grew HG1.out ((Grew.refl _).alloc _)).trans hg2⟩
  · go_wp2_with fail
    refine (l1Pick_any _ g c A l odd5 w1.heap.size _ (HC1.out.grew ((Grew.refl w1).alloc _)) (rd_flat w1 odd5 _) (by decide) (by decide) (by omega)).mono ?_; rintro e w2 ⟨x, rfl, hx, hc2, hg2⟩
    go_wp2_with fail
    go_ret
    go_light
    exact ⟨x, rfl, size_in (by decide) hx, hc2, (only_grew HG1.out ((Grew.refl _).alloc _)).trans hg2⟩

/-- Strings of a few bytes, numbers of the machine. -/
def MvSm (x : Mv) : Prop := x.it.size ≤ 9 ∧ x.ba.size ≤ 9 ∧ x.ff.size ≤ 9 ∧ x.tt.size ≤ 9 ∧ i64B x.day ∧ i64B x.q
theorem MvSm.ok {x : Mv} (h : MvSm x) : x.Ok := by
  obtain ⟨a1, a2, a3, a4, a5, a6⟩ := h
  have e : (9 : Nat) ≤ maxLen := by unfold maxLen; omega
  exact ⟨trivial, Nat.le_trans a1 e, Nat.le_trans a2 e, Nat.le_trans a3 e, Nat.le_trans a4 e, a5.wf, a6.wf, trivial⟩
theorem storeL_by : ∀ (us : List Value) (w : World) (b i : Nat), w.grownBy (storeL w b i us) (some b)
  | [], w, b, _ => World.grownBy.refl w _
  | u :: us, w, b, i => (show w.grownBy (w.setCell ⟨b, i, none⟩ u) (some b) from ⟨rfl, rfl, rfl, by simp, fun k _ hk => heap_setCell_other w ⟨b, i, none⟩ k u (fun e => hk (by rw [e]))⟩).trans (storeL_by us _ b (i + 1))
theorem storeL_size : ∀ (us : List Value) (w : World) (b i : Nat), (storeL w b i us).heap.size = w.heap.size
  | [], _, _, _ => rfl
  | u :: us, w, b, i => (storeL_size us _ b (i + 1)).trans (by simp)
theorem storeL_frozen : ∀ (us : List Value) (w : World) (b i : Nat) (p : Addr), (storeL w b i us).frozen? p = w.frozen? p
  | [], _, _, _, _ => rfl
  | u :: us, w, b, i, p => (storeL_frozen us _ b (i + 1) p).trans (by simp [go_sem])
theorem storeL_before : ∀ (us : List Value) (w : World) (b i k : Nat), k < i → (storeL w b i us).cell? ⟨b, k, none⟩ = w.cell? ⟨b, k, none⟩
  | [], _, _, _, _, _ => rfl
  | u :: us, w, b, i, k, h => (storeL_before us _ b (i + 1) k (by omega)).trans (World.cell?_setCell_other _ _ _ _ (by intro e; simp only [Addr.mk.injEq] at e; omega))
theorem storeL_cell : ∀ (us : List Value) (w : World) (b i : Nat), (∀ j, j < us.length → ∃ u, w.cell? ⟨b, i + j, none⟩ = some u) → ∀ j u, us[j]? = some u → (storeL w b i us).cell? ⟨b, i + j, none⟩ = some u
  | [], _, _, _, _, j, u, h => by simp at h
  | v :: us, w, b, i, hc, 0, u, h => by
    obtain rfl : v = u := by simpa using h
    obtain ⟨x, hx⟩ := hc 0 (by simp)
    rw [Nat.add_zero] at hx ⊢
    exact (storeL_before us _ b (i + 1) i (by omega)).trans (World.cell?_setCell_same _ _ _ hx)
  | v :: us, w, b, i, hc, j + 1, u, h => by
    have := storeL_cell us (w.setCell ⟨b, i, none⟩ v) b (i + 1) (fun j hj => by
      obtain ⟨x, hx⟩ := hc (j + 1) (by simpa using hj)
      exact ⟨x, (World.cell?_setCell_other _ _ _ _ (by intro e; simp only [Addr.mk.injEq] at e; omega)).trans (by rw [← hx, show i + (j + 1) = i + 1 + j by omega])⟩) j u (by simpa using h)
    rw [show i + (j + 1) = i + 1 + j by omega]
    exact this
theorem Bx.store {T : Type} {E : Enc T} {w : World} {b : Nat} {x : T} (h : Bx E w b x) (y : T) : Bx E (storeL w b 0 (E.enc y)) b y := by
  refine ⟨by rw [storeL_size]; exact h.1, fun j u hu => ?_, fun j => by rw [storeL_frozen]; exact h.2.2 j⟩
  have := storeL_cell (E.enc y) w b 0 (fun j hj => by
    rw [E.len, ← E.len x] at hj
    exact ⟨_, by rw [Nat.zero_add]; exact h.2.1 j _ (List.getElem?_eq_getElem hj)⟩) j u hu
  simpa using this
theorem Bx.by_ {T : Type} {E : Enc T} {w w' : World} {b g : Nat} {x : T} (h : Bx E w b x) (k : w.grownBy w' (some g)) (hne : b ≠ g) : Bx E w' b x := h.kept k (by simp; omega)
theorem Mv.bx6 {w : World} {b : Nat} {x : Mv} (h : Bx Mv.E w b x) : w.cell? ⟨b, 0, none⟩ = some (.int .i64 x.day) ∧ w.cell? ⟨b, 1, none⟩ = some (.string x.it) ∧ w.cell? ⟨b, 2, none⟩ = some (.string x.ba) ∧ w.cell? ⟨b, 3, none⟩ = some (.string x.ff) ∧ w.cell? ⟨b, 4, none⟩ = some (.string x.tt) ∧ w.cell? ⟨b, 5, none⟩ = some (.int .i64 x.q) ∧ (∀ j, w.frozen? ⟨b, j, none⟩ = false) ∧ b < w.heap.size :=
  ⟨h.2.1 0 _ rfl, h.2.1 1 _ rfl, h.2.1 2 _ rfl, h.2.1 3 _ rfl, h.2.1 4 _ rfl, h.2.1 5 _ rfl, h.2.2, h.1⟩
theorem set_by (w : World) (b j : Nat) (u : Value) : w.grownBy (w.setCell ⟨b, j, none⟩ u) (some b) := ⟨rfl, rfl, rfl, by simp, fun k _ hk => heap_setCell_other w ⟨b, j, none⟩ k u (fun e => hk (by rw [e]))⟩
theorem Bx.set_ {T : Type} {E : Enc T} {w : World} {b j : Nat} {x y : T} {u : Value} (h : Bx E w b x) (henc : (E.enc x).set j u = E.enc y) (hj : j < E.sz) : Bx E (w.setCell ⟨b, j, none⟩ u) b y := by
  refine ⟨by simpa using h.1, fun k v hk => ?_, fun k => by simp [go_sem, h.2.2 k]⟩
  rw [← henc, List.getElem?_set] at hk
  by_cases e : j = k
  · subst e
    rw [if_pos rfl, if_pos (by rw [E.len]; exact hj)] at hk
    obtain rfl : u = v := by simpa using hk
    have hl : j < (E.enc x).length := by rw [E.len]; exact hj
    exact World.cell?_setCell_same _ _ _ (h.2.1 j _ (List.getElem?_eq_getElem hl))
  · rw [if_neg e] at hk
    exact (World.cell?_setCell_other _ _ _ _ (by intro e2; simp only [Addr.mk.injEq] at e2; omega)).trans (h.2.1 k v hk)
theorem Cur.store {w0 w w' : World} {g c b : Nat} {A : Option Addr} {l : List UInt8} (h : Cur w g A c l) (h0 : Rd Byt.E w0 A l) (hg : g ≠ b) (hb : w0.heap.size ≤ b) (hgr : w.grownBy w' (some b)) : Cur w' g A c l :=
  h.kept hgr (by simp; omega) (fun hp b' o e e2 => by
    obtain ⟨b2, o2, e3, hb2, _⟩ := h0 hp
    rw [e] at e3
    simp only [Option.some.injEq, Addr.mk.injEq, and_true] at e3 e2
    omega)
theorem only_store {w0 w w' : World} {g b : Nat} (h : w0.grownBy w (some g)) (hb : w0.heap.size ≤ b) (hgr : w.grownBy w' (some b)) : w0.grownBy w' (some g) :=
  ⟨hgr.os.trans h.os, hgr.tape.trans h.tape, hgr.output.trans h.output, Nat.le_trans h.size hgr.size, fun j hj hne =>
    (hgr.block j (Nat.lt_of_lt_of_le hj h.size) (fun e => by injection e with e; omega)).trans (h.block j hj hne)⟩
set_option maxRecDepth 100000 in
set_option maxHeartbeats 8000000 in
theorem l28Move_any (w : World) (g c : Nat) (A : Option Addr) (l : List UInt8) (h : Cur w g A c l) :
    Calls Try.prog 57 #[.pointer (some ⟨g, 0, none⟩)] w fun e w' => ∃ x : Mv, e = .returned x.v ∧ MvSm x ∧ Cur w' g A c l ∧ w.grownBy w' (some g) := by
  have HC := Lib.hid h
  have hgl : g < w.heap.size := h.1
  have H0 := Lib.hid h.2.2.2.2.2.1
  clear h
  have HB0 := Lib.hid (Bx.new_ (E := Mv.E) w mv0 26)
  go_enter Try.func57, Try.ntmps57
  go_wp2_with fail
  refine (l1Below_any _ _ _ _ _ 20 (HC.out.grew ((Grew.refl _).alloc _)) (by omega)).mono ?_; rintro e w1 ⟨day, rfl, hd0, hd1, hd2, hc1, hg1⟩
  have HC1 := Lib.hid hc1
  have HB1 := Lib.hid (HB0.out.by_ hg1 (by omega))
  have HG1 := Lib.hid ((World.grownBy_alloc w _ _).trans hg1)
  have hd3 := hd1 (by omega)
  have hl1 : g < w1.heap.size := hc1.1
  clear hc1 hg1 hd1 hd2
  go_wp2_with fail
  refine (l1Pick_any _ g c A l items2 w1.heap.size _ (HC1.out.grew ((Grew.refl w1).alloc _)) (rd_flat w1 items2 _) (by decide) (by decide) (by omega)).mono ?_; rintro e w2 ⟨it, rfl, hit, hc2, hg2⟩
  have HIT := Lib.hid (size_in (by decide) hit)
  have HC2 := Lib.hid hc2
  have HB2 := Lib.hid ((HB1.out.alloc _).by_ hg2 (by omega))
  have HG2 := Lib.hid ((only_grew HG1.out ((Grew.refl _).alloc _)).trans hg2)
  have hl2 : g < w2.heap.size := hc2.1
  clear hc2 hg2 hit hl1
  go_wp2_with fail
  refine (l1Pick_any _ g c A l batches2 w2.heap.size _ (HC2.out.grew ((Grew.refl w2).alloc _)) (rd_flat w2 batches2 _) (by decide) (by decide) (by omega)).mono ?_; rintro e w3 ⟨ba, rfl, hba, hc3, hg3⟩
  have HBA2 := Lib.hid (size_in (by decide) hba)
  have HC3 := Lib.hid hc3
  have HB3 := Lib.hid ((HB2.out.alloc _).by_ hg3 (by omega))
  have HG3 := Lib.hid ((only_grew HG2.out ((Grew.refl _).alloc _)).trans hg3)
  clear hc3 hg3 hba hl2
  go_wp2_with fail
  refine (place_any _ g c A l HC3.out).mono ?_; rintro e w4 ⟨ff, rfl, hff, hc4, hg4⟩
  have HFF := Lib.hid hff
  have HC4 := Lib.hid hc4
  have HB4 := Lib.hid (HB3.out.by_ hg4 (by omega))
  have HG4 := Lib.hid (HG3.out.trans hg4)
  clear hc4 hg4 hff
  go_wp2_with fail
  refine (place_any _ g c A l HC4.out).mono ?_; rintro e w5 ⟨tt, rfl, htt, hc5, hg5⟩
  have HTT := Lib.hid htt
  have HC5 := Lib.hid hc5
  have HB5 := Lib.hid (HB4.out.by_ hg5 (by omega))
  have HG5 := Lib.hid (HG4.out.trans hg5)
  clear hc5 hg5 htt
  go_wp2_with fail
  refine (l1Below_any _ _ _ _ _ 12 HC5.out (by omega)).mono ?_; rintro e w6 ⟨q, rfl, hq0, hq1, hq2, hc6, hg6⟩
  have HC6 := Lib.hid hc6
  have HB6 := Lib.hid (HB5.out.by_ hg6 (by omega))
  have HG6 := Lib.hid (HG5.out.trans hg6)
  have hq3 := hq1 (by omega)
  clear hc6 hg6 hq1 hq2
  have HX6 := Lib.hid (Bx.new_ (E := Mv.E) w6 ⟨day, it, ba, ff, tt, 1 + q⟩ 26)
  have hgx : g < w6.heap.size := HC6.out.1
  have hwx : w.heap.size < w6.heap.size := HB6.out.1
  obtain ⟨bx, hbx⟩ : ∃ bx, bx = w6.heap.size := ⟨_, rfl⟩
  have HC7 := Lib.hid (HC6.out.grew ((Grew.refl _).alloc (.cells #[.int .i64 day, .string it, .string ba, .string ff, .string tt, .int .i64 (1 + q)] 26)))
  have HB7 := Lib.hid (HB6.out.alloc (.cells #[.int .i64 day, .string it, .string ba, .string ff, .string tt, .int .i64 (1 + q)] 26))
  have HG7 := Lib.hid (only_grew HG6.out ((Grew.refl _).alloc (.cells #[.int .i64 day, .string it, .string ba, .string ff, .string tt, .int .i64 (1 + q)] 26)))
  go_wp2_with fail
  rw [← hbx] at HX6 hgx hwx ⊢
  clear hbx
  refine (l1Once_any _ _ _ _ _ 16 HC7.out (by omega)).mono ?_; rintro e w8 ⟨b1, rfl, hc8, hg8⟩
  have HC8 := Lib.hid hc8
  have HB8 := Lib.hid (HB7.out.by_ hg8 (by omega))
  have HX8 := Lib.hid (HX6.out.by_ hg8 (by omega))
  have HG8 := Lib.hid (HG7.out.trans hg8)
  clear hc8 hg8
  go_upto_if 21 with fail
  go_cut [] (fun wx => ∃ q : Int, i64B q ∧ Bx Mv.E wx bx ⟨day, it, ba, ff, tt, q⟩ ∧ Bx Mv.E wx w.heap.size mv0 ∧ Cur wx g A c l ∧ w.grownBy wx (some g))
  case first =>
    cases b1
    · go_wp2_with fail
      go_meet
      exact ⟨1 + q, by unfold i64B; omega, HX8.out, HB8.out, HC8.out, HG8.out⟩
    · go_wp2_with fail
      refine (l1Odd_any _ g c A l HC8.out).mono ?_; rintro e w9 ⟨q9, rfl, hq9, hc9, hg9⟩
      have HC9 := Lib.hid hc9
      have HB9 := Lib.hid (HB8.out.by_ hg9 (by omega))
      have HX9 := Lib.hid (HX8.out.by_ hg9 (by omega))
      have HG9 := Lib.hid (HG8.out.trans hg9)
      have HQ9 := Lib.hid hq9
      clear hc9 hg9 hq9
      obtain ⟨x0, x1, x2, x3, x4, x5, xf, xs⟩ := Mv.bx6 HX9.out
      go_wp2_with fail
      go_meet
      exact ⟨q9, HQ9.out, HX9.out.set_ rfl (by decide), HB9.out.far (p := ⟨bx, 5, none⟩) (by show bx ≠ _; omega) _, HC9.out.store H0.out (by omega) (by omega) (set_by _ _ _ _), only_store HG9.out (by omega) (set_by _ _ _ _)⟩
  case rest =>
    obtain ⟨q, hq, hx, hb, hcur, hgr⟩ := hcut
    have HQ := Lib.hid hq
    have HCA := Lib.hid hcur
    have HBA := Lib.hid hb
    have HXA := Lib.hid hx
    have HGA := Lib.hid hgr
    clear hq hx hb hcur hgr
    go_wp2_with fail
    refine (l1Once_any _ _ _ _ _ 24 HCA.out (by omega)).mono ?_; rintro e wb ⟨b2, rfl, hcb, hgb⟩
    have HCB := Lib.hid hcb
    have HBB := Lib.hid (HBA.out.by_ hgb (by omega))
    have HXB := Lib.hid (HXA.out.by_ hgb (by omega))
    have HGB := Lib.hid (HGA.out.trans hgb)
    clear hcb hgb
    go_upto_if 26 with fail
    go_cut [] (fun wx => ∃ it : ByteArray, it.size ≤ 9 ∧ Bx Mv.E wx bx ⟨day, it, ba, ff, tt, q⟩ ∧ Bx Mv.E wx w.heap.size mv0 ∧ Cur wx g A c l ∧ w.grownBy wx (some g))
    case first =>
      cases b2
      · go_wp2_with fail
        go_meet
        exact ⟨it, HIT.out, HXB.out, HBB.out, HCB.out, HGB.out⟩
      · go_wp2_with fail
        refine (l1Code_any _ g c A l HCB.out).mono ?_; rintro e w9 ⟨q9, rfl, hq9, hc9, hg9⟩
        have HC9 := Lib.hid hc9
        have HB9 := Lib.hid (HBB.out.by_ hg9 (by omega))
        have HX9 := Lib.hid (HXB.out.by_ hg9 (by omega))
        have HG9 := Lib.hid (HGB.out.trans hg9)
        have HQ9 := Lib.hid hq9
        clear hc9 hg9 hq9
        obtain ⟨x0, x1, x2, x3, x4, x5, xf, xs⟩ := Mv.bx6 HX9.out
        go_wp2_with fail
        go_meet
        exact ⟨q9, HQ9.out, HX9.out.set_ rfl (by decide), HB9.out.far (p := ⟨bx, 1, none⟩) (by show bx ≠ _; omega) _, HC9.out.store H0.out (by omega) (by omega) (set_by _ _ _ _), only_store HG9.out (by omega) (set_by _ _ _ _)⟩
    case rest =>
      obtain ⟨it2, hit2, hx, hb, hcur, hgr⟩ := hcut
      have HCC := Lib.hid hcur
      have HBC := Lib.hid hb
      have HXC := Lib.hid hx
      have HGC := Lib.hid hgr
      obtain ⟨x0, x1, x2, x3, x4, x5, xf, xs⟩ := Mv.bx6 HXC.out
      obtain ⟨y0, y1, y2, y3, y4, y5, yf, ys⟩ := Mv.bx6 HBC.out
      simp only [mv0] at y0 y1 y2 y3 y4 y5
      clear hx hb hcur hgr
      go_wp2_with fail
      have HZ := Lib.hid (HBC.out.store (⟨day, it2, ba, ff, tt, q⟩ : Mv))
      have HZB := Lib.hid (storeL_by (Mv.E.enc ⟨day, it2, ba, ff, tt, q⟩) wc w.heap.size 0)
      clear x0 x1 x2 x3 x4 x5 xf xs y0 y1 y2 y3 y4 y5 yf ys
      show bodyPost _ _ _ _ _ (storeL wc w.heap.size 0 (Mv.E.enc ⟨day, it2, ba, ff, tt, q⟩))
      obtain ⟨wz, hwz⟩ : ∃ wz, wz = storeL wc w.heap.size 0 (Mv.E.enc ⟨day, it2, ba, ff, tt, q⟩) := ⟨_, rfl⟩
      rw [← hwz] at HZ HZB ⊢
      clear hwz
      obtain ⟨z0, z1, z2, z3, z4, z5, zf, zs⟩ := Mv.bx6 HZ.out
      refine bodyPost_ret (v := Mv.v ⟨day, it2, ba, ff, tt, q⟩) (by simp [results, Try.results57, go_sem, z0, z1, z2, z3, z4, z5]) rfl ⟨⟨day, it2, ba, ff, tt, q⟩, rfl, ?_, ?_, ?_⟩
      · exact ⟨hit2, HBA2.out, HFF.out, HTT.out, by unfold i64B; exact ⟨by simp only; omega, by simp only; omega⟩, HQ.out⟩
      · exact HCC.out.store H0.out (by omega) (Nat.le_refl _) HZB.out
      · exact only_store HGC.out (Nat.le_refl _) HZB.out

theorem own_cur {T : Type} {E : Enc T} {t : TypeId} {w w' : World} {base g : Nat} {v : Value} {l : List T} (h : Own E t w base v l) (hg : g < base) (k : w.grownBy w' (some g)) : Own E t w' base v l := h.kept k (.inr (h.ne_ (.inl hg)))
def mvD (q : Int) : Mv := ⟨0, ⟨#[65]⟩, ⟨#[66, 49]⟩, ByteArray.empty, ⟨#[68, 79, 67, 75]⟩, q⟩
set_option maxRecDepth 100000 in
set_option maxHeartbeats 8000000 in
theorem l28Moves_any (w : World) (g c : Nat) (A : Option Addr) (l : List UInt8) (h : Cur w g A c l) :
    Calls Try.prog 54 #[.pointer (some ⟨g, 0, none⟩)] w fun e w' => ∃ (m : List Mv) (B : Option Addr) (d : Nat), e = .returned (.slice B m.length d) ∧ m.length ≤ 14 ∧ (∀ x ∈ m, MvSm x) ∧ Own Mv.E 26 w' w.heap.size (.slice B m.length d) m ∧ Cur w' g A c l ∧ w.grownBy w' (some g) := by
  have HC := Lib.hid h
  have hgl : g < w.heap.size := h.1
  have H0 := Lib.hid h.2.2.2.2.2.1
  clear h
  go_enter Try.func54, Try.ntmps54
  go_wp2_with fail
  refine (l1Below_any _ _ _ _ _ 8 (HC.out.grew ((Grew.refl _).alloc _)) (by omega)).mono ?_; rintro e w1 ⟨n, rfl, hn0, hn1, hn2, hc1, hg1⟩
  have HC1 := Lib.hid hc1
  have HO1 := Lib.hid (own_cur (Own.new_ (E := Mv.E) (t := 26) (Nat.le_refl w.heap.size)) hgl hg1)
  have HG1 := Lib.hid ((World.grownBy_alloc w _ _).trans hg1)
  have hn3 := hn1 (by omega)
  clear hc1 hg1 hn1 hn2
  go_wp2_with fail
  go_loopw [3, 4] (fun v i wr => ∃ (m : List Mv) (j : Int) (B : Option Addr) (d : Nat), 0 ≤ j ∧ j ≤ 7 ∧ (m.length : Int) + 2 * j ≤ 14 ∧ i = .int .i64 j ∧ v = .slice B m.length d ∧ (∀ x ∈ m, MvSm x) ∧ Own Mv.E 26 wr w.heap.size v m ∧ Cur wr g A c l ∧ w.grownBy wr (some g)) (fun _ i _ => (intOf i).toNat)
  case atStart => exact ⟨[], n, _, _, by omega, by omega, by simp; omega, rfl, rfl, by simp, HO1.out, HC1.out, HG1.out⟩
  case round =>
    obtain ⟨m, j, B, d, hj0, hj1, hm1, rfl, rfl, hok, hown, hcur, hgr⟩ := hrel
    have HO := Lib.hid hown
    have HCU := Lib.hid hcur
    have HG := Lib.hid hgr
    have HOK := Lib.hid hok
    clear hown hcur hgr hok HC1 HO1 HG1
    by_cases hj : 0 < j
    · go_wp2_with fail
      refine (l28Move_any _ g c A l HCU.out).mono ?_; rintro e w2 ⟨x, rfl, hx, hc2, hg2⟩
      have HX := Lib.hid hx
      have HC2 := Lib.hid hc2
      have HO2 := Lib.hid (own_cur HO.out hgl hg2)
      have HG2 := Lib.hid (HG.out.trans hg2)
      clear hx hc2 hg2
      go_wp2_with (at_builtin; refine wpList_append_rd _ rfl (.tmp 12) (.tmp 15) _ rfl sl_Mv w.heap.size _ _ _ m rfl (HO2.out.alloc _) _ _ _ [x] rfl rfl (rd_new (E := Mv.E) _ x _ rfl) (by simp only [List.length_cons, List.length_nil]; omega) (by have := HG2.out.size; simp; omega) ?_; intro A3 c3 w3 ho3 hgr3 hat3; have HO3 := Lib.hid ho3; have HC3 := Lib.hid ((HC2.out.grew ((Grew.refl _).alloc _)).app H0.out hgl (Nat.le_refl _) (HO2.out.alloc _) hgr3); have HG3 := Lib.hid (only_app (only_grew HG2.out ((Grew.refl _).alloc _)) (HO2.out.alloc _) (Nat.le_refl _) hgr3); clear ho3 hgr3 hat3)
      refine (l1Once_any _ _ _ _ _ 2 HC3.out (by omega)).mono ?_; rintro e w4 ⟨b, rfl, hc4, hg4⟩
      have HC4 := Lib.hid hc4
      have HO4 := Lib.hid (own_cur HO3.out hgl hg4)
      have HG4 := Lib.hid (HG3.out.trans hg4)
      have HOK2 := Lib.hid (show ∀ y ∈ m ++ [x], MvSm y from fun y hy => by
        rcases List.mem_append.1 hy with hy | hy
        · exact HOK.out y hy
        · obtain rfl : y = x := by simpa using hy
          exact HX.out)
      clear hc4 hg4
      cases b
      · go_wp2_with fail
        go_roundw
        case rel => go_light; exact ⟨m ++ [x], j - 1, A3, c3, by omega, by omega, by simp; omega, rfl, by simp, HOK2.out, HO4.out, HC4.out, HG4.out⟩
        case measure => go_light; simp [intOf]; omega
      · go_wp2_with fail
        refine (l1Below_any _ _ _ _ _ 9 HC4.out (by omega)).mono ?_; rintro e w5 ⟨q, rfl, hq0, hq1, hq2, hc5, hg5⟩
        have HC5 := Lib.hid hc5
        have HO5 := Lib.hid (own_cur HO4.out hgl hg5)
        have HG5 := Lib.hid (HG4.out.trans hg5)
        have hq3 := hq1 (by omega)
        clear hc5 hg5 hq1 hq2
        go_wp2_with (at_builtin; refine wpList_append_rd _ rfl (.tmp 19) (.tmp 24) _ rfl sl_Mv w.heap.size _ _ _ (m ++ [x]) rfl (HO5.out.alloc _) _ _ _ [mvD (5 + q)] rfl rfl (rd_new (E := Mv.E) _ (mvD (5 + q)) _ rfl) (by simp only [List.length_append, List.length_cons, List.length_nil]; omega) (by have := HG5.out.size; simp; omega) ?_; intro A6 c6 w6 ho6 hgr6 hat6; have HO6 := Lib.hid ho6; have HC6 := Lib.hid ((HC5.out.grew ((Grew.refl _).alloc _)).app H0.out hgl (Nat.le_refl _) (HO5.out.alloc _) hgr6); have HG6 := Lib.hid (only_app (only_grew HG5.out ((Grew.refl _).alloc _)) (HO5.out.alloc _) (Nat.le_refl _) hgr6); clear ho6 hgr6 hat6)
        go_roundw
        case rel =>
          go_light
          refine ⟨m ++ [x] ++ [mvD (5 + q)], j - 1, A6, c6, by omega, by omega, by simp; omega, rfl, by simp, fun y hy => ?_, HO6.out, HC6.out, HG6.out⟩
          rcases List.mem_append.1 hy with hy | hy
          · exact HOK2.out y hy
          · obtain rfl : y = mvD (5 + q) := by simpa using hy
            exact ⟨by show (⟨#[65]⟩ : ByteArray).size ≤ 9; decide, by show (⟨#[66, 49]⟩ : ByteArray).size ≤ 9; decide, by show ByteArray.empty.size ≤ 9; decide, by show (⟨#[68, 79, 67, 75]⟩ : ByteArray).size ≤ 9; decide, by unfold i64B mvD; exact ⟨by simp only; omega, by simp only; omega⟩, by unfold i64B mvD; exact ⟨by simp only; omega, by simp only; omega⟩⟩
        case measure => go_light; simp [intOf]; omega
    · obtain rfl : j = 0 := by omega
      go_wp2_with fail
      go_ret
      go_light
      exact ⟨m, B, d, rfl, by omega, HOK.out, HO.out, HCU.out, HG.out⟩

theorem applyF_len2 (l : List Hold) (x : Mv) : (applyF l x).1.length ≤ l.length + 2 := by
  unfold applyF
  dsimp only
  split
  · have e1 : mvOne l x = putR ⟨x.it, x.ba, x.ff, -x.q⟩ l := putF_eq _ _
    have e2 : mvF l x = putR ⟨x.it, x.ba, x.tt, x.q⟩ (mvOne l x) := putF_eq _ _
    have h1 := putR_len (x := ⟨x.it, x.ba, x.ff, -x.q⟩) l
    have h2 := putR_len (x := ⟨x.it, x.ba, x.tt, x.q⟩) (mvOne l x)
    rw [e2]
    rw [e1] at h2 ⊢
    omega
  · simp
theorem amTo_len2 (l : List Mv) : ∀ k, (amTo l k).1.length ≤ 2 * k
  | 0 => by simp [amTo]
  | k + 1 => by
    have := amTo_len2 l k
    simp only [amTo]
    split
    · have := applyF_len2 (amTo l k).1 (l.getD k mv0); dsimp only; omega
    · dsimp only; omega
theorem amF_len2 {l : List Mv} (h : l.length ≤ 14) : (amF l).1.length ≤ 28 := by
  unfold amF
  split
  · have := amTo_len2 l l.length; omega
  · simp
theorem amF_ok {l : List Mv} (h : ∀ x ∈ l, x.Ok) : ∀ y ∈ (amF l).1, y.Ok := by
  unfold amF
  split
  · exact amTo_ok h l.length (Nat.le_refl _)
  · simp
theorem Hold.b4 {w : World} {base g n c i : Nat} {l : List Hold} {x : Hold} (h : Own Hold.E 60 w base (.slice (some ⟨g, 0, none⟩) n c) l) (hx : l[i]? = some x) : w.cell? ⟨g, i * 4 + 3, none⟩ = some (.int .i64 x.q) := h.at_ hx (j := 3) rfl
set_option maxRecDepth 100000 in
set_option maxHeartbeats 8000000 in
theorem l28Holdings_any (w : World) (g c : Nat) (A : Option Addr) (l : List UInt8) (h : Cur w g A c l) :
    Calls Try.prog 56 #[.pointer (some ⟨g, 0, none⟩)] w fun e w' => ∃ (m : List Hold) (B : Option Addr) (d : Nat), e = .returned (.slice B m.length d) ∧ m.length ≤ 28 ∧ (∀ x ∈ m, x.Ok) ∧ Own Hold.E 60 w' w.heap.size (.slice B m.length d) m ∧ Cur w' g A c l ∧ w.grownBy w' (some g) := by
  have HC := Lib.hid h
  have hgl : g < w.heap.size := h.1
  have H0 := Lib.hid h.2.2.2.2.2.1
  clear h
  go_enter Try.func56, Try.ntmps56
  go_wp2_with fail
  refine (l28Moves_any _ g c A l HC.out).mono ?_; rintro e w1 ⟨mv, B1, d1, rfl, hm14, hmo, ho1, hc1, hg1⟩
  have HMO := Lib.hid (fun x hx => (hmo x hx).ok)
  have HO1 := Lib.hid ho1
  have HC1 := Lib.hid hc1
  have HG1 := Lib.hid hg1
  clear hmo ho1 hc1 hg1
  go_wp2_with fail
  refine (applyMoves_spec mv _ _ _ HO1.out.rd HMO.out (by omega)).mono ?_; rintro e w2 ⟨B2, d2, rfl, ho2, hg2⟩
  obtain ⟨hs, hhs⟩ : ∃ hs, hs = (amF mv).1 := ⟨_, rfl⟩
  obtain ⟨nf, hnf⟩ : ∃ nf, nf = (amF mv).2 := ⟨_, rfl⟩
  have hh28 : hs.length ≤ 28 := hhs ▸ amF_len2 hm14
  have HHO := Lib.hid (show ∀ y ∈ hs, y.Ok from hhs ▸ amF_ok HMO.out)
  rw [← hhs] at ho2 ⊢
  rw [← hnf]
  have HO2 := Lib.hid (ho2.mono HG1.out.size)
  have HC2 := Lib.hid (HC1.out.grew hg2)
  have HG2 := Lib.hid (only_grew HG1.out hg2)
  clear ho2 hg2 hhs hnf
  rcases Nat.eq_zero_or_pos hs.length with h0 | h0
  · have hd : decide ((0 : Int) < (hs.length : Int)) = false := decide_eq_false (by omega)
    have hd2 : decide (0 < hs.length) = false := decide_eq_false (by omega)
    clear h0
    go_wp2_with fail
    go_ret
    go_light
    exact ⟨hs, B2, d2, rfl, hh28, HHO.out, HO2.out, HC2.out, HG2.out⟩
  have hd : decide ((0 : Int) < (hs.length : Int)) = true := decide_eq_true (by omega)
  go_wp2_with fail
  refine (l1Once_any _ _ _ _ _ 14 HC2.out (by omega)).mono ?_; rintro e w3 ⟨b, rfl, hc3, hg3⟩
  have HC3 := Lib.hid hc3
  have HO3 := Lib.hid (own_cur HO2.out hgl hg3)
  have HG3 := Lib.hid (HG2.out.trans hg3)
  clear hc3 hg3 hd
  cases b
  · go_wp2_with fail
    go_ret
    go_light
    exact ⟨hs, B2, d2, rfl, hh28, HHO.out, HO3.out, HC3.out, HG3.out⟩
  · go_wp2_with fail
    refine (l1Below_any _ _ _ _ _ (hs.length : Int) HC3.out (by omega)).mono ?_; rintro e w4 ⟨k, rfl, hk0, hk1, hk2, hc4, hg4⟩
    have HC4 := Lib.hid hc4
    have HO4 := Lib.hid (own_cur HO3.out hgl hg4)
    have HG4 := Lib.hid (HG3.out.trans hg4)
    have hk3 := hk1 (by omega)
    clear hc4 hg4 hk1 hk2
    go_wp2_with fail
    refine (l1Odd_any _ g c A l HC4.out).mono ?_; rintro e w5 ⟨q, rfl, hq, hc5, hg5⟩
    have HC5 := Lib.hid hc5
    have HO5 := Lib.hid (own_cur HO4.out hgl hg5)
    have HG5 := Lib.hid (HG4.out.trans hg5)
    have HQ := Lib.hid hq
    clear hc5 hg5 hq
    obtain ⟨k, rfl⟩ := Int.eq_ofNat_of_zero_le hk0
    obtain ⟨x, hx⟩ : ∃ x, hs[k]? = some x := ⟨_, List.getElem?_eq_getElem (by omega)⟩
    obtain ⟨gb, db, hv, hgb1, hgb2⟩ := HO5.out.addr h0
    simp only [Value.slice.injEq, true_and] at hv
    obtain ⟨rfl, rfl⟩ := hv
    have hcq := Hold.b4 HO5.out hx
    have hfz := HO5.out.frozen
    have HX := Lib.hid hx
    clear hx
    go_wp2_with fail
    go_ret
    go_light
    have HS := HO5.out.set_ (x' := ⟨x.it, x.ba, x.pl, q⟩) (j := 3) (u := .int .i64 q) HX.out rfl (by decide)
    refine ⟨hs.set k ⟨x.it, x.ba, x.pl, q⟩, some ⟨gb, 0, none⟩, d2, by rw [List.length_set]; rfl, by rw [List.length_set]; exact hh28, fun y hy => ?_, by rw [List.length_set]; exact HS, HC5.out.store H0.out (by omega) hgb1 (set_by _ _ _ _), only_store HG5.out hgb1 (set_by _ _ _ _)⟩
    rcases List.mem_or_eq_of_mem_set hy with hy | rfl
    · exact HHO.out y hy
    · obtain ⟨_, a1, a2, a3, _, _⟩ := HHO.out x (List.mem_of_getElem? HX.out)
      exact ⟨trivial, a1, a2, a3, HQ.out.wf, trivial⟩

theorem rd_cur {T : Type} {E : Enc T} {w0 w w' : World} {g : Nat} {A : Option Addr} {l : List T} (h : Rd E w0 A l) (hg : Grew w0 w) (hl : w0.heap.size ≤ g) (k : w.grownBy w' (some g)) : Rd E w' A l := h.grew (grew_only hg k hl)
set_option maxHeartbeats 2000000 in
theorem drawMoves_any (w : World) (c : Nat) (A : Option Addr) (l : List UInt8) (h : Rd Byt.E w A l) (hl : l.length ≤ 1048580) :
    Calls Try.prog 38 #[.slice A l.length c] w fun e w' => ∃ (m : List Mv) (B : Option Addr) (d : Nat), e = .returned (.slice B m.length d) ∧ m.length ≤ 14 ∧ (∀ x ∈ m, MvSm x) ∧ Rd Mv.E w' B m ∧ Grew w w' := by
  have HL := Lib.hid h
  clear h
  go_enter Try.func38, Try.ntmps38
  go_wp2_with fail
  refine (l1NewX_any _ _ _ _ HL.out hl).mono ?_; rintro e w1 ⟨g, rfl, hc1, hg1, hgs⟩
  have HC1 := Lib.hid hc1
  have HG1 := Lib.hid hg1
  clear hc1 hg1
  go_wp2_with fail
  refine (l28Moves_any _ g _ _ _ HC1.out).mono ?_; rintro e w2 ⟨m, B, d, rfl, h14, hm, ho2, hc2, hg2⟩
  go_wp2_with fail
  go_ret
  go_light
  exact ⟨m, B, d, rfl, h14, hm, ho2.rd, grew_only HG1.out hg2 hgs⟩
set_option maxRecDepth 100000 in
set_option maxHeartbeats 4000000 in
theorem drawApply_any (w : World) (c : Nat) (A : Option Addr) (l : List UInt8) (h : Rd Byt.E w A l) (hl : l.length ≤ 1048580) :
    Calls Try.prog 39 #[.slice A l.length c] w fun e w' => ∃ (m : List Hold) (B : Option Addr) (d : Nat) (x : Mv), e = .returned (.tuple #[.slice B m.length d, x.v]) ∧ m.length ≤ 28 ∧ (∀ x ∈ m, x.Ok) ∧ Rd Hold.E w' B m ∧ m.length ≤ d ∧ d ≤ maxLen ∧ MvSm x ∧ Grew w w' := by
  have HL := Lib.hid h
  clear h
  have HB0 := Lib.hid (Bx.new_ (E := Mv.E) w mv0 26)
  go_enter Try.func39, Try.ntmps39
  go_wp2_with fail
  refine (l1NewX_any _ _ _ _ (HL.out.grew ((Grew.refl _).alloc _)) hl).mono ?_; rintro e w1 ⟨g, rfl, hc1, hg1, hgs⟩
  have HC1 := Lib.hid hc1
  have HG1 := Lib.hid (((Grew.refl w).alloc _).trans hg1)
  have HB1 := Lib.hid (HB0.out.grew hg1)
  have hgs2 : w.heap.size + 1 ≤ g := by simpa using hgs
  clear hc1 hg1 hgs
  go_wp2_with fail
  refine (l28Holdings_any _ g _ _ _ HC1.out).mono ?_; rintro e w2 ⟨m, B, d, rfl, h28, hm, ho2, hc2, hg2⟩
  have hgl : g < w1.heap.size := HC1.out.1
  have HO2 := Lib.hid ho2
  have HC2 := Lib.hid hc2
  have HG2 := Lib.hid (grew_only HG1.out hg2 (by omega))
  have HB2 := Lib.hid (HB1.out.by_ hg2 (by omega))
  have HM := Lib.hid hm
  clear ho2 hc2 hg2 hm
  go_wp2_with fail
  refine (l28Move_any _ g _ _ _ HC2.out).mono ?_; rintro e w3 ⟨x, rfl, hx, hc3, hg3⟩
  have HO3 := Lib.hid (own_cur HO2.out hgl hg3)
  have HC3 := Lib.hid hc3
  have HG3 := Lib.hid (grew_only HG2.out hg3 (by omega))
  have HB3 := Lib.hid (HB2.out.by_ hg3 (by omega))
  have HX := Lib.hid hx
  clear hc3 hg3 hx
  obtain ⟨y0, y1, y2, y3, y4, y5, yf, ys⟩ := Mv.bx6 HB3.out
  simp only [mv0] at y0 y1 y2 y3 y4 y5
  obtain ⟨day, it, ba, ff, tt, q⟩ := x
  go_wp2_with fail
  have HZ := Lib.hid (HB3.out.store (⟨day, it, ba, ff, tt, q⟩ : Mv))
  have HZB := Lib.hid (storeL_by (Mv.E.enc ⟨day, it, ba, ff, tt, q⟩) w3 w.heap.size 0)
  clear y0 y1 y2 y3 y4 y5 yf ys
  show bodyPost _ _ _ _ _ (storeL w3 w.heap.size 0 (Mv.E.enc ⟨day, it, ba, ff, tt, q⟩))
  obtain ⟨wz, hwz⟩ : ∃ wz, wz = storeL w3 w.heap.size 0 (Mv.E.enc ⟨day, it, ba, ff, tt, q⟩) := ⟨_, rfl⟩
  rw [← hwz] at HZ HZB ⊢
  clear hwz
  obtain ⟨z0, z1, z2, z3, z4, z5, zf, zs⟩ := Mv.bx6 HZ.out
  have hlow := HG1.out.le
  have HO4 := Lib.hid (HO3.out.kept HZB.out (.inr (HO3.out.ne_ (.inl (Nat.lt_of_lt_of_le (Nat.lt_succ_self _) (by have := HC1.out.1; omega))))))
  refine bodyPost_ret (v := .tuple #[.slice B m.length d, Mv.v ⟨day, it, ba, ff, tt, q⟩]) (by simp [results, Try.results39, go_sem, z0, z1, z2, z3, z4, z5]) rfl ⟨m, B, d, ⟨day, it, ba, ff, tt, q⟩, rfl, h28, HM.out, HO4.out.rd, HO4.out.cap.2.1, HO4.out.cap.2.2, HX.out, grew_only HG3.out HZB.out (Nat.le_refl _)⟩
set_option maxRecDepth 100000 in
set_option maxHeartbeats 4000000 in
theorem drawUndo_any (w : World) (c : Nat) (A : Option Addr) (l : List UInt8) (h : Rd Byt.E w A l) (hl : l.length ≤ 1048580) :
    Calls Try.prog 40 #[.slice A l.length c] w fun e w' => ∃ (m : List Hold) (B : Option Addr) (d : Nat) (x : Mv), e = .returned (.tuple #[.slice B m.length d, x.v]) ∧ m.length ≤ 28 ∧ (∀ x ∈ m, x.Ok) ∧ Rd Hold.E w' B m ∧ m.length ≤ d ∧ d ≤ maxLen ∧ MvSm x ∧ Grew w w' := by
  have HL := Lib.hid h
  clear h
  have HB0 := Lib.hid (Bx.new_ (E := Mv.E) w mv0 26)
  go_enter Try.func40, Try.ntmps40
  go_wp2_with fail
  refine (l1NewX_any _ _ _ _ (HL.out.grew ((Grew.refl _).alloc _)) hl).mono ?_; rintro e w1 ⟨g, rfl, hc1, hg1, hgs⟩
  have HC1 := Lib.hid hc1
  have HG1 := Lib.hid (((Grew.refl w).alloc _).trans hg1)
  have HB1 := Lib.hid (HB0.out.grew hg1)
  have hgs2 : w.heap.size + 1 ≤ g := by simpa using hgs
  clear hc1 hg1 hgs
  go_wp2_with fail
  refine (l28Holdings_any _ g _ _ _ HC1.out).mono ?_; rintro e w2 ⟨m, B, d, rfl, h28, hm, ho2, hc2, hg2⟩
  have hgl : g < w1.heap.size := HC1.out.1
  have HO2 := Lib.hid ho2
  have HC2 := Lib.hid hc2
  have HG2 := Lib.hid (grew_only HG1.out hg2 (by omega))
  have HB2 := Lib.hid (HB1.out.by_ hg2 (by omega))
  have HM := Lib.hid hm
  clear ho2 hc2 hg2 hm
  go_wp2_with fail
  refine (l28Move_any _ g _ _ _ HC2.out).mono ?_; rintro e w3 ⟨x, rfl, hx, hc3, hg3⟩
  have HO3 := Lib.hid (own_cur HO2.out hgl hg3)
  have HC3 := Lib.hid hc3
  have HG3 := Lib.hid (grew_only HG2.out hg3 (by omega))
  have HB3 := Lib.hid (HB2.out.by_ hg3 (by omega))
  have HX := Lib.hid hx
  clear hc3 hg3 hx
  obtain ⟨y0, y1, y2, y3, y4, y5, yf, ys⟩ := Mv.bx6 HB3.out
  simp only [mv0] at y0 y1 y2 y3 y4 y5
  obtain ⟨day, it, ba, ff, tt, q⟩ := x
  go_wp2_with fail
  have HZ := Lib.hid (HB3.out.store (⟨day, it, ba, ff, tt, q⟩ : Mv))
  have HZB := Lib.hid (storeL_by (Mv.E.enc ⟨day, it, ba, ff, tt, q⟩) w3 w.heap.size 0)
  clear y0 y1 y2 y3 y4 y5 yf ys
  show bodyPost _ _ _ _ _ (storeL w3 w.heap.size 0 (Mv.E.enc ⟨day, it, ba, ff, tt, q⟩))
  obtain ⟨wz, hwz⟩ : ∃ wz, wz = storeL w3 w.heap.size 0 (Mv.E.enc ⟨day, it, ba, ff, tt, q⟩) := ⟨_, rfl⟩
  rw [← hwz] at HZ HZB ⊢
  clear hwz
  obtain ⟨z0, z1, z2, z3, z4, z5, zf, zs⟩ := Mv.bx6 HZ.out
  have hlow := HG1.out.le
  have HO4 := Lib.hid (HO3.out.kept HZB.out (.inr (HO3.out.ne_ (.inl (Nat.lt_of_lt_of_le (Nat.lt_succ_self _) (by have := HC1.out.1; omega))))))
  refine bodyPost_ret (v := .tuple #[.slice B m.length d, Mv.v ⟨day, it, ba, ff, tt, q⟩]) (by simp [results, Try.results40, go_sem, z0, z1, z2, z3, z4, z5]) rfl ⟨m, B, d, ⟨day, it, ba, ff, tt, q⟩, rfl, h28, HM.out, HO4.out.rd, HO4.out.cap.2.1, HO4.out.cap.2.2, HX.out, grew_only HG3.out HZB.out (Nat.le_refl _)⟩
end Go.Proofs.Ytfbfhccgohmeiaa
