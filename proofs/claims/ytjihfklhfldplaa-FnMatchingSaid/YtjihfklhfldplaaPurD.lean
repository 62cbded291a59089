/- The draws of purchases: whatever is drawn is a purchase's fields; nothing old is written. Conditions: none. -/
import Derived.Test.YtjihfklhfldplaaPurC
import Derived.Test.YtjihfklhfldplaaCurs
import Derived.Deep.RegionWith
import Derived.Deep.RegionHeld3
namespace Go.Proofs.Ytjihfklhfldplaa
open Go.RowKit Go.ChangeShapes Go.WideShapes Go.Deep
set_option linter.unusedVariables false
set_option linter.unusedSimpArgs false

structure Pu where
  q : Int
  p : Int
  t : Int
  r : Int
  i : Int
  d : Int
  c : Bool
def Pu.E : Enc Pu := { enc := fun x => [.int .i64 x.q, .int .i64 x.p, .int .i64 x.t, .int .i64 x.r, .int .i64 x.i, .int .i64 x.d, .bool x.c], sz := 7, pos := by decide, len := fun _ => rfl, one := by intro x u hu; simp at hu; rcases hu with rfl | rfl | rfl | rfl | rfl | rfl | rfl <;> rfl }
theorem Pu.bx {w : World} {b : Nat} {x : Pu} (h : Bx Pu.E w b x) : w.cell? ⟨b, 0, none⟩ = some (.int .i64 x.q) ∧ w.cell? ⟨b, 1, none⟩ = some (.int .i64 x.p) ∧ w.cell? ⟨b, 2, none⟩ = some (.int .i64 x.t) ∧ w.cell? ⟨b, 3, none⟩ = some (.int .i64 x.r) ∧ w.cell? ⟨b, 4, none⟩ = some (.int .i64 x.i) ∧ w.cell? ⟨b, 5, none⟩ = some (.int .i64 x.d) ∧ w.cell? ⟨b, 6, none⟩ = some (.bool x.c) ∧ (∀ j, w.frozen? ⟨b, j, none⟩ = false) ∧ b < w.heap.size :=
  ⟨h.2.1 0 _ rfl, h.2.1 1 _ rfl, h.2.1 2 _ rfl, h.2.1 3 _ rfl, h.2.1 4 _ rfl, h.2.1 5 _ rfl, h.2.1 6 _ rfl, h.2.2, h.1⟩
theorem Pu.b7 {w : World} {b : Nat} {x : Pu} (h : Bx Pu.E w b x) : w.cell? ⟨b, 0, none⟩ = some (.int .i64 x.q) ∧ w.cell? ⟨b, 1, none⟩ = some (.int .i64 x.p) ∧ w.cell? ⟨b, 2, none⟩ = some (.int .i64 x.t) ∧ w.cell? ⟨b, 3, none⟩ = some (.int .i64 x.r) ∧ w.cell? ⟨b, 4, none⟩ = some (.int .i64 x.i) ∧ w.cell? ⟨b, 5, none⟩ = some (.int .i64 x.d) ∧ w.cell? ⟨b, 6, none⟩ = some (.bool x.c) :=
  ⟨h.2.1 0 _ rfl, h.2.1 1 _ rfl, h.2.1 2 _ rfl, h.2.1 3 _ rfl, h.2.1 4 _ rfl, h.2.1 5 _ rfl, h.2.1 6 _ rfl⟩
theorem storeL_by : ∀ (us : List Value) (w : World) (b i : Nat), w.grownBy (storeL w b i us) (some b)
  | [], w, b, _ => World.grownBy.refl w _
  | u :: us, w, b, i => (show w.grownBy (w.setCell ⟨b, i, none⟩ u) (some b) from ⟨rfl, rfl, rfl, by simp, fun k _ hk => heap_setCell_other w ⟨b, i, none⟩ k u (fun e => hk (by rw [e]))⟩).trans (storeL_by us _ b (i + 1))
theorem storeL_size : ∀ (us : List Value) (w : World) (b i : Nat), (storeL w b i us).heap.size = w.heap.size
  | [], _, _, _ => rfl
  | u :: us, w, b, i => (storeL_size us _ b (i + 1)).trans (by simp)
theorem storeL_frozen : ∀ (us : List Value) (w : World) (b i : Nat) (p : Addr), (storeL w b i us).frozen? p = w.frozen? p
  | [], _, _, _, _ => rfl
  | u :: us, w, b, i, p => (storeL_frozen us _ b (i + 1) p).trans (by simp [go_sem])
theorem storeL_before : ∀ (us : List Value) (w : World) (b i k : Nat), k < i → (storeL w b i us).cell? ⟨b, k, none⟩ = w.cell? ⟨b, k, none⟩
  | [], _, _, _, _, _ => rfl
  | u :: us, w, b, i, k, h => (storeL_before us _ b (i + 1) k (by omega)).trans (World.cell?_setCell_other _ _ _ _ (by intro e; simp only [Addr.mk.injEq] at e; omega))
theorem storeL_cell : ∀ (us : List Value) (w : World) (b i : Nat), (∀ j, j < us.length → ∃ u, w.cell? ⟨b, i + j, none⟩ = some u) → ∀ j u, us[j]? = some u → (storeL w b i us).cell? ⟨b, i + j, none⟩ = some u
  | [], _, _, _, _, j, u, h => by simp at h
  | v :: us, w, b, i, hc, 0, u, h => by
    obtain rfl : v = u := by simpa using h
    obtain ⟨x, hx⟩ := hc 0 (by simp)
    rw [Nat.add_zero] at hx ⊢
    exact (storeL_before us _ b (i + 1) i (by omega)).trans (World.cell?_setCell_same _ _ _ hx)
  | v :: us, w, b, i, hc, j + 1, u, h => by
    have := storeL_cell us (w.setCell ⟨b, i, none⟩ v) b (i + 1) (fun j hj => by
      obtain ⟨x, hx⟩ := hc (j + 1) (by simpa using hj)
      exact ⟨x, (World.cell?_setCell_other _ _ _ _ (by intro e; simp only [Addr.mk.injEq] at e; omega)).trans (by rw [← hx, show i + (j + 1) = i + 1 + j by omega])⟩) j u (by simpa using h)
    rw [show i + (j + 1) = i + 1 + j by omega]
    exact this
theorem Bx.store {T : Type} {E : Enc T} {w : World} {b : Nat} {x : T} (h : Bx E w b x) (y : T) : Bx E (storeL w b 0 (E.enc y)) b y := by
  refine ⟨by rw [storeL_size]; exact h.1, fun j u hu => ?_, fun j => by rw [storeL_frozen]; exact h.2.2 j⟩
  have := storeL_cell (E.enc y) w b 0 (fun j hj => by
    rw [E.len, ← E.len x] at hj
    exact ⟨_, by rw [Nat.zero_add]; exact h.2.1 j _ (List.getElem?_eq_getElem hj)⟩) j u hu
  simpa using this
theorem Bx.by_ {T : Type} {E : Enc T} {w w' : World} {b g : Nat} {x : T} (h : Bx E w b x) (k : w.grownBy w' (some g)) (hne : b ≠ g) : Bx E w' b x := h.kept k (by simp; omega)
theorem Cur.store {w0 w w' : World} {g c b : Nat} {A : Option Addr} {l : List UInt8} (h : Cur w g A c l) (h0 : Rd Byt.E w0 A l) (hg : g ≠ b) (hb : w0.heap.size ≤ b) (hgr : w.grownBy w' (some b)) : Cur w' g A c l :=
  h.kept hgr (by simp; omega) (fun hp b' o e e2 => by
    obtain ⟨b2, o2, e3, hb2, _⟩ := h0 hp
    rw [e] at e3
    simp only [Option.some.injEq, Addr.mk.injEq, and_true] at e3 e2
    omega)
theorem only_store {w0 w w' : World} {g b : Nat} (h : w0.grownBy w (some g)) (hb : w0.heap.size ≤ b) (hgr : w.grownBy w' (some b)) : w0.grownBy w' (some g) :=
  ⟨hgr.os.trans h.os, hgr.tape.trans h.tape, hgr.output.trans h.output, Nat.le_trans h.size hgr.size, fun j hj hne =>
    (hgr.block j (Nat.lt_of_lt_of_le hj h.size) (fun e => by injection e with e; omega)).trans (h.block j hj hne)⟩
theorem only_drew {w0 w : World} {g : Nat} (h : w0.grownBy w (some g)) : w0.grownBy w.drew (some g) := ⟨h.os, h.tape, h.output, h.size, h.block⟩

theorem orderE (q p t : Int) (w : World) : Calls Try.prog 15 #[.int .i64 q, .int .i64 p, .int .i64 t] w fun e w' =>
    ∃ (q' p' t' r i d : Int) (c v : Bool), e = .returned (.tuple #[purV q' p' t' r i d c, .bool v]) ∧ Grew w w' :=
  (order_spec q p t w).mono fun e w' ⟨h1, h2⟩ => by
    cases h : purB q p t 0 0 0
    · rw [h] at h1; exact ⟨0, 0, 0, 0, 0, 0, false, false, h1, h2⟩
    · rw [h] at h1; exact ⟨q, p, t, 0, 0, 0, false, true, h1, h2⟩
theorem recvE (q p t r i d : Int) (c : Bool) (k : Int) (w : World) : Calls Try.prog 20 #[purV q p t r i d c, .int .i64 k] w fun e w' =>
    ∃ (r' v : Int), e = .returned (.tuple #[purV q p t r' i d c, .int .i64 v]) ∧ Grew w w' :=
  (recv_spec q p t r i d c k w).mono fun e w' ⟨h1, h2⟩ => ⟨_, _, h1, h2⟩
theorem invE (q p t r i d : Int) (c : Bool) (k m : Int) (w : World) : Calls Try.prog 22 #[purV q p t r i d c, .int .i64 k, .int .i64 m] w fun e w' =>
    ∃ (i' d' v : Int), e = .returned (.tuple #[purV q p t r i' d' c, .int .i64 v]) ∧ Grew w w' :=
  (inv_spec q p t r i d c k m w).mono fun e w' ⟨h1, h2⟩ => ⟨_, _, _, h1, h2⟩
theorem closeE (q p t r i d : Int) (c : Bool) (w : World) : Calls Try.prog 18 #[purV q p t r i d c] w fun e w' =>
    ∃ (c' : Bool) (v : Int), e = .returned (.tuple #[purV q p t r i d c', .int .i64 v]) ∧ Grew w w' :=
  (close_spec q p t r i d c w).mono fun e w' ⟨h1, h2⟩ => ⟨_, _, h1, h2⟩
end Go.Proofs.Ytjihfklhfldplaa
