/- The draws of numbers that may be out of range. Conditions: none. -/
import Derived.Test.YtembbgkhmnalpaaCurs
namespace Go.Proofs.Ytembbgkhmnalpaa
open Go.RowKit Go.ChangeShapes Go.WideShapes Go.Deep
set_option linter.unusedVariables false
set_option linter.unusedSimpArgs false

/-- A list of ints just laid down is one to pick from. -/
theorem rd_ints (w : World) (xs : List Int) (t : TypeId) {n : Nat} (hn : w.heap.size = n) : Rd IntP.E (w.alloc (.cells (xs.map (Value.int .i64)).toArray t)) (some ⟨n, 0, none⟩) xs := by
  subst hn
  intro _
  have h1 : (w.alloc (.cells (xs.map (Value.int .i64)).toArray t)).heap[w.heap.size]? = some (.cells (xs.map (Value.int .i64)).toArray t (0, 0)) := heap_alloc_new w _
  refine ⟨w.heap.size, 0, rfl, by simp, fun i y hy j u hu => ?_⟩
  match j, hu with
  | 0, hu =>
    have hux : u = .int .i64 y := by simpa [IntP.E] using hu.symm
    subst hux
    have e : 0 + i * IntP.E.sz + 0 = i := by simp [IntP.E]
    rw [e, cell_of_row _ _ i _ t (0, 0) h1]
    simp [hy]
  | j + 1, hu => simp [IntP.E] at hu
def odds : List Int := [0, 1, -1, 2, 1000000, 1000001, -1000001, 1000000000, 1000000001, 9223372036854775807, -9223372036854775808]
def i64B (x : Int) : Prop := -9223372036854775808 ≤ x ∧ x ≤ 9223372036854775807
theorem i64B.wf {x : Int} (h : i64B x) : (Lit.int .i64 x).wf = true := by
  unfold Lit.wf
  simp only [Bool.and_eq_true, decide_eq_true_eq]
  exact h
theorem odds_b {x : Int} (h : x ∈ odds) : i64B x := by
  simp only [odds, List.mem_cons, List.not_mem_nil, or_false] at h
  unfold i64B
  omega
set_option maxHeartbeats 1000000 in
theorem l1Odd_any (w : World) (g c : Nat) (A : Option Addr) (l : List UInt8) (h : Cur w g A c l) :
    Calls Try.prog 68 #[.pointer (some ⟨g, 0, none⟩)] w fun e w' => ∃ x : Int, e = .returned (.int .i64 x) ∧ i64B x ∧ Cur w' g A c l ∧ w.grownBy w' (some g) := by
  have HC := Lib.hid h
  have hgl : g < w.heap.size := h.1
  clear h
  go_enter Try.func68, Try.ntmps68
  go_wp2_with fail
  refine (l1PickInt_any _ g c A l odds _ _ (HC.out.grew ((Grew.refl _).alloc _)) (rd_ints w odds _ rfl) (by decide) (by decide) (by omega)).mono ?_; rintro e w2 ⟨x, rfl, hm, hc2, hg2⟩
  go_wp2_with fail
  go_ret
  go_light
  exact ⟨x, rfl, odds_b hm, hc2, (World.grownBy_alloc w _ _).trans hg2⟩
end Go.Proofs.Ytembbgkhmnalpaa
