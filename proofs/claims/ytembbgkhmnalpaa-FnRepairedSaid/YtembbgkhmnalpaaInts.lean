/- Slices of int: the copies and comparisons of the laws; the reading of such an argument. Conditions: none. -/
import Derived.Test.YtembbgkhmnalpaaMem
namespace Go.Proofs.Ytembbgkhmnalpaa
open Go.RowKit Go.ChangeShapes Go.WideShapes Go.Deep
set_option linter.unusedVariables false
set_option linter.unusedSimpArgs false

abbrev IntS := Int
def IntS.E : Enc IntS := { enc := fun x => [.int .i64 x], sz := 1, pos := by decide, len := fun _ => rfl, one := by intro x u hu; simp at hu; subst hu; rfl }
def IntS.Ok (x : IntS) : Prop := True
theorem IntS.at_ {w : World} {b o : Nat} {l : List IntS} (hc : ∀ i x, l[i]? = some x → ∀ j u, (IntS.E.enc x)[j]? = some u → w.cell? ⟨b, o + i * IntS.E.sz + j, none⟩ = some u) {k : Nat} {x : IntS} (hx : l[k]? = some x) :
    w.cell? ⟨b, o + k, none⟩ = some (.int .i64 x) := by
  have := hc k x hx 0 _ rfl
  simpa [IntS.E] using this

theorem info_int : (Try.prog.info? 3).map (fun i => (i.zero, i.size, i.bytes)) = some (some (.int .i64 0), 1, 8) := by kernel_rfl
theorem cells_int : Try.prog.cellsOf 3 = 1 := by kernel_rfl
set_option maxRecDepth 100000 in
theorem IntS.open_ {H : Type} {enc : TypeId × Value → H} {w : World} {spare : Nat → Bool} {held : Bool} {v : Value} {d : DataW H} {p : List MemPlace} {rc : Reach} {b0 : Nat}
    (hv : Value.okWide Try.prog w rc b0 69 v) (h : DataW.Trod enc Try.prog w 0 spare held 69 v d p) :
    ∃ (l : List IntS) (A : Option Addr) (c : Nat), v = .slice A l.length c ∧ Rd IntS.E w A l ∧ l.length ≤ c ∧ c ≤ maxLen ∧ ∀ x ∈ l, x.Ok := by
  obtain ⟨a0, len0, cap0, rfl⟩ := okWide_slice Try.underlying69 hv
  obtain ⟨fuel, hf0⟩ := h
  have hf1 : DataW.trod enc Try.prog w 0 spare held fuel 69 [.slice a0 len0 cap0] = some (d, p) := by simpa [Value.cells] using hf0
  rcases open_ints Try.underlying69 Try.underlying3 cells_int hf1 with ⟨hcs, _⟩ | ⟨a, len, cap, zs, hcs, _, hl, hm, hz, _, hcell, _⟩
  · simp only [List.cons.injEq, Value.slice.injEq, and_true] at hcs
    obtain ⟨rfl, rfl, rfl⟩ := hcs
    exact ⟨[], none, 0, rfl, Rd.nil, Nat.le_refl _, by simp [maxLen], by simp⟩
  · simp only [List.cons.injEq, Value.slice.injEq, and_true] at hcs
    obtain ⟨rfl, rfl, rfl⟩ := hcs
    have hlz : len0 ≤ zs.length := by rw [hz]; split <;> omega
    refine ⟨zs.take len0, some a, cap0, by rw [List.length_take, Nat.min_eq_left hlz], rd_of_add (E := IntS.E) (fun i x hx j u hu => ?_), by rw [List.length_take, Nat.min_eq_left hlz]; exact hl, hm, fun x _ => trivial⟩
    have hi : i < len0 := by
      have := (List.getElem?_eq_some_iff.1 hx).1
      rw [List.length_take] at this
      omega
    have hxz : zs[i]? = some x := by rwa [List.getElem?_take, if_pos hi] at hx
    match j, hu with
    | 0, hu =>
      have hux : u = .int .i64 x := by simpa [IntS.E] using hu.symm
      subst hux
      have := hcell i (by omega)
      rw [List.getD_eq_getElem?_getD, hxz] at this
      simpa [IntS.E] using this
    | j + 1, hu => simp [IntS.E] at hu
end Go.Proofs.Ytembbgkhmnalpaa
