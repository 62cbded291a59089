/- The memory of a repair: the slots and their order, each in a block of its own. Conditions: none. -/
import Derived.Test.YtembbgkhmnalpaaRepO
import Derived.Test.YtembbgkhmnalpaaIsT
namespace Go.Proofs.Ytembbgkhmnalpaa
open Go.RowKit Go.ChangeShapes Go.WideShapes Go.Deep
set_option linter.unusedVariables false
set_option linter.unusedSimpArgs false

/-- The slots out and the order O are the call's own; X holds, and nothing that is done to the slots' block changes that. -/
structure RM (w0 w : World) (X : World → Prop) (out : List Slt) (O : List Int) (vo vn : Value) : Prop where
  g : Grew w0 w
  oo : Own Slt.E 56 w w0.heap.size vo out
  on : Own IntS.E 3 w w0.heap.size vn O
  x : X w
  s1 : ∀ k, vo.ownBlock = some k → vn.ownBlock ≠ some k
  xg : ∀ w w' row, World.grownBy w w' row → (∀ k, row = some k → vo.ownBlock = some k) → X w → X w'
section
variable {w0 w w' : World} {X : World → Prop} {out : List Slt} {O : List Int} {vo vn : Value}
theorem RM.grew (h : RM w0 w X out O vo vn) (k : Grew w w') : RM w0 w' X out O vo vn := ⟨h.g.trans k, h.oo.grew k, h.on.grew k, h.xg _ _ none (k.by_ none) (fun _ e => by cases e) h.x, h.s1, h.xg⟩
theorem RM.drew (h : RM w0 w X out O vo vn) : RM w0 w.drew X out O vo vn := h.grew (Grew.refl w).drew
theorem RM.setO {b n c i j : Nat} {y y' : Slt} {u : Value} (h : RM w0 w X out O (.slice (some ⟨b, 0, none⟩) n c) vn) (hy : out[i]? = some y) (henc : (Slt.E.enc y).set j u = Slt.E.enc y') (hj : j < 5) :
    RM w0 (w.setCell ⟨b, i * 5 + j, none⟩ u) X (out.set i y') O (.slice (some ⟨b, 0, none⟩) n c) vn := by
  have h1 := h.oo.set_ hy henc hj
  have hb := (h.oo.block b rfl).1
  refine ⟨h.g.setCell (p := ⟨b, i * 5 + j, none⟩) hb _, h1, h.on.kept (set_by2 w b _ u) (ob_ne (ob_sym h.s1)), h.xg _ _ _ (set_by2 w b (i * 5 + j) u) (fun k e => e) h.x, h.s1, h.xg⟩
theorem RM.start {b n c i : Nat} {y : Slt} {t : Int} (h : RM w0 w X out O (.slice (some ⟨b, 0, none⟩) n c) vn) (hy : out[i]? = some y) :
    RM w0 (w.setCell ⟨b, i * 5 + 3, none⟩ (.int .i64 t)) X (out.set i ⟨y.jb, y.sp, y.ce, t, y.en⟩) O (.slice (some ⟨b, 0, none⟩) n c) vn := h.setO hy rfl (by decide)
theorem RM.stop {b n c i : Nat} {y : Slt} {t : Int} (h : RM w0 w X out O (.slice (some ⟨b, 0, none⟩) n c) vn) (hy : out[i]? = some y) :
    RM w0 (w.setCell ⟨b, i * 5 + 4, none⟩ (.int .i64 t)) X (out.set i ⟨y.jb, y.sp, y.ce, y.st, t⟩) O (.slice (some ⟨b, 0, none⟩) n c) vn := h.setO hy rfl (by decide)
theorem RM.cells {b n c i : Nat} {y : Slt} (h : RM w0 w X out O (.slice (some ⟨b, 0, none⟩) n c) vn) (hy : out[i]? = some y) :
    w.cell? ⟨b, i * 5, none⟩ = some (.int .i64 y.jb) ∧ w.cell? ⟨b, i * 5 + 1, none⟩ = some (.int .i64 y.sp) ∧ w.cell? ⟨b, i * 5 + 2, none⟩ = some (.string y.ce) ∧ w.cell? ⟨b, i * 5 + 3, none⟩ = some (.int .i64 y.st) ∧ w.cell? ⟨b, i * 5 + 4, none⟩ = some (.int .i64 y.en) := by
  have h1 := Slt.at_ (b := b) (o := 0) (fun i x hx j u hu => by rw [Nat.zero_add]; exact h.oo.at_ hx hu) hy
  simpa using h1
theorem RM.num {b n c i : Nat} {a : Int} (h : RM w0 w X out O vo (.slice (some ⟨b, 0, none⟩) n c)) (ha : O[i]? = some a) : w.cell? ⟨b, i, none⟩ = some (.int .i64 a) := IntS.cell_ h.on ha
end
theorem stopE_impl {x : Stp} {v : Bool} (hv : stopB x.ce x.fr x.un = v) (w : World) (h1 : x.ce.size ≤ maxLen) :
    Calls Try.prog 12 #[x.v] w fun e w' => e = .returned (.bool v) ∧ Grew w w' := hv ▸ isStop_impl x w h1
theorem stopE_spec {x : Stp} {v : Bool} (hv : stopB x.ce x.fr x.un = v) (w : World) (h1 : x.ce.size ≤ maxLen) :
    Calls Try.prog 10 #[x.v] w fun e w' => e = .returned (.bool v) ∧ Grew w w' := hv ▸ isStop_spec x w h1
theorem schE_spec {J : List Jb} {L : List Slt} {v : Bool} (hv : schB J L = v) (A : Option Addr) (c : Nat) (B : Option Addr) (d : Nat) (w : World) (h : RdJ w A J) (hs : JSm J) (hn : J.length ≤ 4194304) (hr : Rd Slt.E w B L) (hl : L.length ≤ 4194304) :
    Calls Try.prog 32 #[.slice A J.length c, .slice B L.length d] w fun e w' => e = .returned (.bool v) ∧ Grew w w' := hv ▸ isSchedule_spec J A c L B d w h hs hn hr hl
theorem schE_impl {J : List Jb} {L : List Slt} {v : Bool} (hv : schB J L = v) (A : Option Addr) (c : Nat) (B : Option Addr) (d : Nat) (w : World) (h : RdJ w A J) (hs : JSm J) (hn : J.length ≤ 4194304) (hr : Rd Slt.E w B L) (hl : L.length ≤ 4194304) (hd : L.length ≤ d) :
    Calls Try.prog 51 #[.slice A J.length c, .slice B L.length d] w fun e w' => e = .returned (.bool v) ∧ Grew w w' := hv ▸ isSchedule_impl J A c L B d w h hs hn hr hl hd
theorem Stp.bx3 {w : World} {b : Nat} {x : Stp} (h : Bx Stp.E w b x) : w.cell? ⟨b, 0, none⟩ = some (.string x.ce) ∧ w.cell? ⟨b, 1, none⟩ = some (.int .i64 x.fr) ∧ w.cell? ⟨b, 2, none⟩ = some (.int .i64 x.un) ∧ b < w.heap.size ∧ ∀ j, w.frozen? ⟨b, j, none⟩ = false := ⟨h.2.1 0 _ rfl, h.2.1 1 _ rfl, h.2.1 2 _ rfl, h.1, h.2.2⟩
end Go.Proofs.Ytembbgkhmnalpaa
