/- The slices of a dispatch in memory: next steps, ready times, slots, each in a block of its own. Conditions: none. -/
import Derived.Test.YtembbgkhmnalpaaDisP
import Derived.Test.YtembbgkhmnalpaaOwn
namespace Go.Proofs.Ytembbgkhmnalpaa
open Go.RowKit Go.ChangeShapes Go.WideShapes Go.Deep
set_option linter.unusedVariables false
set_option linter.unusedSimpArgs false

theorem sl_Slt : SlInf Try.prog Slt.E 32 56 := info_sl Try.underlying32 info_impl_Slt rfl rfl (by decide)
structure DM (w0 w : World) (s : DS) (vo vn vr : Value) : Prop where
  g : Grew w0 w
  oo : Own Slt.E 56 w w0.heap.size vo s.out
  on : Own IntS.E 3 w w0.heap.size vn s.nx
  or : Own IntS.E 3 w w0.heap.size vr s.rd
  s1 : ∀ k, vo.ownBlock = some k → vn.ownBlock ≠ some k ∧ vr.ownBlock ≠ some k
  s2 : ∀ k, vn.ownBlock = some k → vr.ownBlock ≠ some k
theorem ob_ne {v v' : Value} (h : ∀ k, v.ownBlock = some k → v'.ownBlock ≠ some k) : v.ownBlock = none ∨ v.ownBlock ≠ v'.ownBlock := by
  cases hv : v.ownBlock with
  | none => exact .inl rfl
  | some k => exact .inr (fun e => h k hv e.symm)
theorem ob_sym {v v' : Value} (h : ∀ k, v.ownBlock = some k → v'.ownBlock ≠ some k) : ∀ k, v'.ownBlock = some k → v.ownBlock ≠ some k := fun k e e2 => h k e2 e
theorem set_by2 (w : World) (b j : Nat) (u : Value) : w.grownBy (w.setCell ⟨b, j, none⟩ u) (some b) := ⟨rfl, rfl, rfl, by simp, fun k _ hk => heap_setCell_other w ⟨b, j, none⟩ k u (fun e => hk (by rw [e]))⟩
section
variable {w0 w w' : World} {s : DS} {vo vn vr : Value}
theorem DM.grew (h : DM w0 w s vo vn vr) (k : Grew w w') : DM w0 w' s vo vn vr := ⟨h.g.trans k, h.oo.grew k, h.on.grew k, h.or.grew k, h.s1, h.s2⟩
theorem DM.app {vo' : Value} {x : Slt} {n : Nat} (h : DM w0 w s vo vn vr) (ho : Own Slt.E 56 w' w0.heap.size vo' (s.out ++ [x])) (hgr : w.grownBy w' vo.ownBlock) (hat : vo'.ownBlock = vo.ownBlock ∨ vo'.ownBlock = some n) (hn : w.heap.size ≤ n) : DM w0 w' ⟨s.nx, s.rd, s.out ++ [x]⟩ vo' vn vr := by
  refine ⟨h.g.app h.oo (Nat.le_refl _) hgr, ho, h.on.kept hgr (ob_ne (ob_sym fun k e => (h.s1 k e).1)), h.or.kept hgr (ob_ne (ob_sym fun k e => (h.s1 k e).2)), fun k e => ?_, h.s2⟩
  rcases hat with h1 | h1
  · rw [h1] at e; exact h.s1 k e
  · rw [h1] at e
    injection e with e
    exact ⟨fun e2 => by have := (h.on.block k e2).2; omega, fun e2 => by have := (h.or.block k e2).2; omega⟩
theorem DM.appR {vr' : Value} {x : Int} {n : Nat} (h : DM w0 w s vo vn vr) (ho : Own IntS.E 3 w' w0.heap.size vr' (s.rd ++ [x])) (hgr : w.grownBy w' vr.ownBlock) (hat : vr'.ownBlock = vr.ownBlock ∨ vr'.ownBlock = some n) (hn : w.heap.size ≤ n) : DM w0 w' ⟨s.nx, s.rd ++ [x], s.out⟩ vo vn vr' := by
  refine ⟨h.g.app h.or (Nat.le_refl _) hgr, h.oo.kept hgr (ob_ne fun k e => (h.s1 k e).2), h.on.kept hgr (ob_ne h.s2), ho, fun k e => ⟨(h.s1 k e).1, fun e2 => ?_⟩, fun k e e2 => ?_⟩
  · rcases hat with h1 | h1
    · rw [h1] at e2; exact (h.s1 k e).2 e2
    · rw [h1] at e2
      injection e2 with e2
      have := (h.oo.block k e).2; omega
  · rcases hat with h1 | h1
    · rw [h1] at e2; exact h.s2 k e e2
    · rw [h1] at e2
      injection e2 with e2
      have := (h.on.block k e).2; omega
theorem DM.setN {b n c i : Nat} {x y : Int} (h : DM w0 w s vo (.slice (some ⟨b, 0, none⟩) n c) vr) (hx : s.nx[i]? = some x) : DM w0 (w.setCell ⟨b, i, none⟩ (.int .i64 y)) ⟨s.nx.set i y, s.rd, s.out⟩ vo (.slice (some ⟨b, 0, none⟩) n c) vr := by
  have h1 := h.on.set_ (x' := y) (j := 0) (u := .int .i64 y) hx rfl (by decide)
  simp only [IntS.E, Nat.mul_one, Nat.add_zero] at h1
  have hb := (h.on.block b rfl).1
  refine ⟨h.g.setCell (p := ⟨b, i, none⟩) hb _, h.oo.kept (set_by2 w b i _) (ob_ne fun k e => (h.s1 k e).1), h1, h.or.kept (set_by2 w b i _) (ob_ne (ob_sym h.s2)), h.s1, h.s2⟩
theorem DM.setR {b n c i : Nat} {x y : Int} (h : DM w0 w s vo vn (.slice (some ⟨b, 0, none⟩) n c)) (hx : s.rd[i]? = some x) : DM w0 (w.setCell ⟨b, i, none⟩ (.int .i64 y)) ⟨s.nx, s.rd.set i y, s.out⟩ vo vn (.slice (some ⟨b, 0, none⟩) n c) := by
  have h1 := h.or.set_ (x' := y) (j := 0) (u := .int .i64 y) hx rfl (by decide)
  simp only [IntS.E, Nat.mul_one, Nat.add_zero] at h1
  have hb := (h.or.block b rfl).1
  refine ⟨h.g.setCell (p := ⟨b, i, none⟩) hb _, h.oo.kept (set_by2 w b i _) (ob_ne fun k e => (h.s1 k e).2), h.on.kept (set_by2 w b i _) (ob_ne h.s2), h1, h.s1, h.s2⟩
end
theorem IntS.cell_ {w : World} {base b n c : Nat} {t : TypeId} {l : List Int} (h : Own IntS.E t w base (.slice (some ⟨b, 0, none⟩) n c) l) {i : Nat} {x : Int} (hx : l[i]? = some x) : w.cell? ⟨b, i, none⟩ = some (.int .i64 x) := by
  have := h.at_ (j := 0) hx rfl
  simpa [IntS.E] using this
theorem Int.cell0 {w : World} {A : Option Addr} {l : List Int} (h : Rd IntS.E w A l) {i : Nat} {x : Int} (hx : l[i]? = some x) : ∃ b o, A = some ⟨b, o, none⟩ ∧ w.cell? ⟨b, o + i, none⟩ = some (.int .i64 x) := by
  obtain ⟨b, o, e, _, hc⟩ := h.at_ (List.getElem?_eq_some_iff.1 hx).1
  exact ⟨b, o, e, IntS.at_ hc hx⟩
theorem areE_impl {J : List Jb} {v : Bool} (hv : areJ J = v) (A : Option Addr) (c n : Nat) (hl : J.length = n) (w : World) (h : RdJ w A J) (hs : JSm J) (hn : J.length ≤ 4194304) :
    Calls Try.prog 45 #[.slice A n c] w fun e w' => e = .returned (.bool v) ∧ Grew w w' := by
  subst hl
  exact hv ▸ areJobs_impl J A c w h hs hn
theorem areE_spec {J : List Jb} {v : Bool} (hv : areJ J = v) (A : Option Addr) (c n : Nat) (hl : J.length = n) (w : World) (h : RdJ w A J) (hs : JSm J) (hn : J.length ≤ 4194304) :
    Calls Try.prog 42 #[.slice A n c] w fun e w' => e = .returned (.bool v) ∧ Grew w w' := by
  subst hl
  exact hv ▸ areJobs_spec J A c w h hs hn
theorem zeros_cells (n : Nat) : (madeCells (Value.cells (.int .i64 0)) (n * 1)).toList = flat IntS.E (List.replicate n (0 : Int)) := by
  apply List.ext_getElem?
  intro i
  have : flat IntS.E (List.replicate n (0 : Int)) = List.replicate n (Value.int .i64 0) := by
    induction n with
    | zero => rfl
    | succ n ih => rw [List.replicate_succ, List.replicate_succ, ← ih]; rfl
  rw [this]
  by_cases h : i < n
  · simp [madeCells, Value.cells, h, Nat.mod_one, List.getElem?_replicate]
  · simp [madeCells, Value.cells, h, List.getElem?_replicate]
end Go.Proofs.Ytembbgkhmnalpaa
