/- slices.Sort at strings: the kit's summary laid over this program, and read as lists: what lies behind the first k members stands in some other order. Conditions: none. -/
import Derived.Test.YtbmfhdncifcieaaDrawG
import Derived.Test.YtbmfhdncifcieaaOwn
import Derived.Shelf.Sort.Plain
import Derived.Shelf.Slices.In.SortNone
import Derived.Sort.OwnSorted
import Derived.Test.YtbmfhdncifcieaaLayG
namespace Go.Proofs.Ytbmfhdncifcieaa
open Go.RowKit Go.ChangeShapes Go.WideShapes Go.Deep Go.Sort
set_option linter.unusedVariables false
set_option linter.unusedSimpArgs false

theorem ba_back (x : ByteArray) : (⟨x.toList.toArray⟩ : ByteArray) = x := by
  rw [ByteArray.toList_eq]
theorem map_back (l : List ByteArray) : (l.map (·.toList)).map (fun b => (⟨b.toArray⟩ : ByteArray)) = l := by
  rw [List.map_map]
  conv => rhs; rw [← List.map_id l]
  exact List.map_congr_left fun x _ => ba_back x
theorem holds_rd {l : List ByteArray} {g k : Nat} {w : World} (h : ∀ i x, l[i]? = some x → w.cell? ⟨g, k + i, none⟩ = some (.string x)) (hf : ∀ j, w.frozen? ⟨g, j, none⟩ = false) : Holds encStr w g k (l.map (·.toList)).toArray := by
  intro j hj
  have hj2 : j < l.length := by simpa using hj
  refine ⟨?_, hf _⟩
  rw [h j l[j] (List.getElem?_eq_getElem hj2)]
  have e : ((l.map (·.toList)).toArray)[j]! = l[j].toList := by
    rw [getElem!_pos _ j (by simpa using hj2)]
    simp
  rw [e]
  exact congrArg some (congrArg Value.string (ba_back _).symm)

theorem grownBy_sorted_at {w : World} {g k n : Nat} {os : Array Obj} (d : Array (List UInt8)) : w.grownBy (grow (putRow encStr (Sort.ahead w n) g k d) os) (some g) := by
  refine ⟨rfl, rfl, rfl, by simp, fun k hk hne => ?_⟩
  rw [heap_grow_old _ _ (by simpa using hk)]
  have : g ≠ k := fun e => hne (by rw [e])
  simp [putRow, mapBlock, Sort.ahead, Array.getElem?_modify, this]

theorem sortS_any (l : List ByteArray) (k g c0 base : Nat) (A : Option Addr) (c : Nat) (w : World) (h : Own Str.E 9 w base (.slice (some ⟨g, 0, none⟩) l.length c0) l) (hk : k ≤ l.length) (hA : k < l.length → A = some ⟨g, k, none⟩) (hg : g < w.heap.size) (hl : l.length ≤ 4194305) {n : Nat} (hn : n = l.length - k) :
    Calls Try.prog 47 #[.slice A n c] w fun e w' => e = .returned (.tuple #[]) ∧ ∃ m : List ByteArray, m.length = n ∧ Rd Str.E w' A m ∧ m.Perm (l.drop k) ∧ w.grownBy w' (some g) := by
  subst hn
  rcases Nat.lt_or_ge k l.length with hlt | hge
  · have e := hA hlt
    subst e
    have hH : Holds encStr w g k ((l.drop k).map (·.toList)).toArray := by
      refine holds_rd (fun i x hx => ?_) h.frozen
      rw [List.getElem?_drop] at hx
      have := h.at_ hx (j := 0) (u := .string x) rfl
      simpa [Str.E] using this
    have hlen : ((l.drop k).map (·.toList)).length = l.length - k := by simp
    have hc := Any.slices_Sort_string Ytbmfhdncifcieaalays190 g k c ((l.drop k).map (·.toList)) w hH hg (by rw [hlen]; omega)
    rw [hlen] at hc
    refine hc.mono ?_
    rintro e w' ⟨he, n, os, rfl⟩
    refine ⟨he, (((l.drop k).map (·.toList)).mergeSort fun x y => decide (x ≤ y)).map (fun b => (⟨b.toArray⟩ : ByteArray)), by simp, ?_, ?_, grownBy_sorted_at _⟩
    · intro _
      refine ⟨g, k, rfl, by simpa using Nat.lt_of_lt_of_le hg (Nat.le_add_right _ _), fun i x hx j u hu => ?_⟩
      match j, hu with
      | 0, hu =>
        obtain rfl : u = .string x := by simpa [Str.E] using hu.symm
        rw [List.getElem?_map, Option.map_eq_some_iff] at hx
        obtain ⟨b, hb, rfl⟩ := hx
        have hi : i < (((l.drop k).map (·.toList)).mergeSort fun x y => decide (x ≤ y)).length := (List.getElem?_eq_some_iff.1 hb).1
        have h3 := cell?_putRow encStr (Sort.ahead w n) g k ((l.drop k).map (·.toList)).toArray (((l.drop k).map (·.toList)).mergeSort fun x y => decide (x ≤ y)).toArray (holds_ahead _ _ _ _ _ _ hH) (by simp) i (by simpa using hi)
        have e2 : (⟨g, k + i * Str.E.sz + 0, none⟩ : Addr) = ⟨g, k + i, none⟩ := by simp [Str.E]
        rw [e2, cell?_grow _ _ _ (by simpa using hg), h3]
        have e3 : ((((l.drop k).map (·.toList)).mergeSort fun x y => decide (x ≤ y)).toArray)[i]! = b := by
          rw [getElem!_pos _ i (by simpa using hi)]
          rw [List.getElem?_eq_getElem hi] at hb
          simpa using hb
        rw [e3]
      | j + 1, hu => simp [Str.E] at hu
    · have h1 := (List.mergeSort_perm ((l.drop k).map (·.toList)) (fun x y => decide (x ≤ y))).map (fun b => (⟨b.toArray⟩ : ByteArray))
      rwa [map_back] at h1
  · have hc := Any.slices_Sort_string_none Ytbmfhdncifcieaalays190 A c w
    rw [show l.length - k = 0 by omega]
    refine hc.mono ?_
    rintro e w' ⟨he, rfl⟩
    exact ⟨he, [], rfl, Rd.nil, by rw [List.drop_eq_nil_of_le hge], World.grownBy.refl _ _⟩
end Go.Proofs.Ytbmfhdncifcieaa
