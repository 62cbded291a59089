/- The cursor of the draws: what an append on the call's own slice leaves of it. Conditions: none. -/
import Derived.Test.YtembbgkhmnalpaaDraw
namespace Go.Proofs.Ytembbgkhmnalpaa
open Go.RowKit Go.ChangeShapes Go.WideShapes Go.Deep
set_option linter.unusedVariables false
set_option linter.unusedSimpArgs false

theorem Cur.app {T : Type} {E : Enc T} {t : TypeId} {w0 w w' : World} {g c b : Nat} {A : Option Addr} {l : List UInt8} {v : Value} {xs : List T} (h : Cur w g A c l) (h0 : Rd Byt.E w0 A l) (hg : g < b) (hb : w0.heap.size ≤ b) (k : Own E t w b v xs) (hgr : w.grownBy w' v.ownBlock) : Cur w' g A c l :=
  h.kept hgr (fun e => by have := (k.block g e).1; omega) (fun hp b' o e e2 => by
    obtain ⟨b2, o2, e3, hb2, _⟩ := h0 hp
    rw [e] at e3
    simp only [Option.some.injEq, Addr.mk.injEq, and_true] at e3
    have := (k.block b' e2).1
    omega)
/-- Only block g has changed of what lies below b. -/
theorem only_app {w0 w w' : World} {g b : Nat} {T : Type} {E : Enc T} {t : TypeId} {v : Value} {xs : List T} (h : w0.grownBy w (some g)) (k : Own E t w b v xs) (hb : w0.heap.size ≤ b) (hgr : w.grownBy w' v.ownBlock) : w0.grownBy w' (some g) :=
  ⟨hgr.os.trans h.os, hgr.tape.trans h.tape, hgr.output.trans h.output, Nat.le_trans h.size hgr.size, fun j hj hne =>
    (hgr.block j (Nat.lt_of_lt_of_le hj h.size) (fun e => by have := (k.block j e.symm).1; omega)).trans (h.block j hj hne)⟩
theorem only_grew {w0 w w' : World} {g : Nat} (h : w0.grownBy w (some g)) (k : Grew w w') : w0.grownBy w' (some g) := h.trans (k.by_ _)
theorem grew_only {a w w' : World} {g : Nat} (h : Grew a w) (k : w.grownBy w' (some g)) (hg : a.heap.size ≤ g) : Grew a w' := h.grown k (fun j hj => by injection hj with hj; omega)
/-- A list at block b, apart from the cursor's block. -/
theorem Rd.cur {T : Type} {E : Enc T} {w w' : World} {b o g : Nat} {l : List T} (h : Rd E w (some ⟨b, o, none⟩) l) (k : w.grownBy w' (some g)) (hne : b ≠ g) : Rd E w' (some ⟨b, o, none⟩) l :=
  h.kept k (fun b' o' e e2 => by simp only [Option.some.injEq, Addr.mk.injEq, and_true] at e e2; omega)
theorem Rd.app {T T' : Type} {E : Enc T} {E' : Enc T'} {t : TypeId} {w w' : World} {b o base : Nat} {l : List T} {v : Value} {l' : List T'} (h : Rd E w (some ⟨b, o, none⟩) l) (k : Own E' t w base v l') (hb : b < base) (hgr : w.grownBy w' v.ownBlock) : Rd E w' (some ⟨b, o, none⟩) l :=
  h.kept hgr (fun b' o' e e2 => by simp only [Option.some.injEq, Addr.mk.injEq, and_true] at e; have := (k.block b' e2).1; omega)
end Go.Proofs.Ytembbgkhmnalpaa
