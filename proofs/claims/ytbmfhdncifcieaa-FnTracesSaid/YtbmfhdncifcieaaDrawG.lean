/- The draws of uses. Conditions: none. -/
import Derived.Test.YtbmfhdncifcieaaDraw
import Derived.Test.YtbmfhdncifcieaaStrM
namespace Go.Proofs.Ytbmfhdncifcieaa
open Go.RowKit Go.ChangeShapes Go.WideShapes Go.Deep
set_option linter.unusedVariables false
set_option linter.unusedSimpArgs false

set_option maxHeartbeats 1000000 in
theorem l1Pick_any (w : World) (g c : Nat) (A : Option Addr) (l : List UInt8) (xs : List ByteArray) (b cx : Nat) (h : Cur w g A c l) (hx : Rd Str.E w (some ⟨b, 0, none⟩) xs) (h0 : 0 < xs.length) (hn : xs.length ≤ 1000) (hb : b ≠ g) :
    Calls Try.prog 50 #[.pointer (some ⟨g, 0, none⟩), .slice (some ⟨b, 0, none⟩) xs.length cx] w fun e w' => ∃ x : ByteArray, e = .returned (.string x) ∧ x ∈ xs ∧ Cur w' g A c l ∧ w.grownBy w' (some g) := by
  have HC := Lib.hid h
  have HX := Lib.hid hx
  clear h hx
  go_enter Try.func50, Try.ntmps50
  go_wp2_with fail
  refine (l1Below_any _ _ _ _ _ (xs.length : Int) HC.out (by omega)).mono ?_; rintro e w1 ⟨x, rfl, hx0, hx1, hx2, hc1, hg1⟩
  have HC1 := Lib.hid hc1
  have HG1 := Lib.hid hg1
  have hlt := hx1 (by omega)
  obtain ⟨k, rfl⟩ := Int.eq_ofNat_of_zero_le hx0
  obtain ⟨y, hy⟩ : ∃ y, xs[k]? = some y := ⟨_, List.getElem?_eq_getElem (by omega)⟩
  have hrd := HX.out.kept hg1 (fun b' o' e e2 => by simp only [Option.some.injEq, Addr.mk.injEq, and_true] at e e2; omega)
  obtain ⟨b2, o2, e2, hb2, hc2⟩ := hrd.at_ (k := k) (by omega)
  simp only [Option.some.injEq, Addr.mk.injEq, and_true] at e2
  obtain ⟨rfl, rfl⟩ := e2
  have hc0 := hc2 k y hy 0 _ rfl
  have HM := Lib.hid (List.mem_of_getElem? hy)
  simp only [Str.E, Nat.mul_one, Nat.zero_add, Nat.add_zero] at hc0
  have hkl : k < xs.length := by omega
  clear hc1 hg1 hx1 hx2 hy hrd hc2
  go_wp2_with fail
  go_ret
  go_light
  exact ⟨y, rfl, HM.out, HC1.out, HG1.out⟩
theorem rd_flat {T : Type} {E : Enc T} (w : World) (l : List T) (t : TypeId) : Rd E (w.alloc (.cells (flat E l).toArray t)) (some ⟨w.heap.size, 0, none⟩) l := by
  intro _
  refine ⟨w.heap.size, 0, rfl, by simp, fun i y hy j u hu => ?_⟩
  have h1 : (w.alloc (.cells (flat E l).toArray t)).heap[w.heap.size]? = some (.cells (flat E l).toArray t (0, 0)) := heap_alloc_new w _
  rw [Nat.zero_add, cell_of_row _ _ (i * E.sz + j) _ t (0, 0) h1]
  have := flat_get E l i y hy j u hu
  simpa using this
def names6 : List ByteArray := [⟨#[66, 49]⟩, ⟨#[66, 50]⟩, ⟨#[66, 51]⟩, ⟨#[66, 52]⟩, ⟨#[66, 53]⟩, ⟨#[66, 54]⟩]
theorem names6_size {x : ByteArray} (h : x ∈ names6) : x.size = 2 := by
  simp only [names6, List.mem_cons, List.not_mem_nil, or_false] at h
  rcases h with rfl | rfl | rfl | rfl | rfl | rfl <;> rfl

set_option maxHeartbeats 1000000 in
theorem l30Batch_any (w : World) (g c : Nat) (A : Option Addr) (l : List UInt8) (h : Cur w g A c l) (hg : g < w.heap.size) :
    Calls Try.prog 46 #[.pointer (some ⟨g, 0, none⟩)] w fun e w' => ∃ x : ByteArray, e = .returned (.string x) ∧ x ∈ names6 ∧ Cur w' g A c l ∧ w.grownBy w' (some g) := by
  have HC := Lib.hid h
  clear h
  go_enter Try.func46, Try.ntmps46
  go_wp2_with fail
  refine (l1Pick_any _ g c A l names6 w.heap.size _ (HC.out.grew ((Grew.refl w).alloc _)) (rd_flat w names6 _) (by decide) (by decide) (by omega)).mono ?_; rintro e w1 ⟨x, rfl, hx, hc1, hg1⟩
  go_wp2_with fail
  go_ret
  go_light
  exact ⟨x, rfl, hx, hc1, (World.grownBy_alloc w _ _).trans hg1⟩
end Go.Proofs.Ytbmfhdncifcieaa
