/- Slices of int: the copies and comparisons of the laws; the reading of such an argument. Conditions: none. -/
import Derived.Test.YtfplgagdjdhopaaMem
namespace Go.Proofs.Ytfplgagdjdhopaa
open Go.RowKit Go.ChangeShapes Go.WideShapes Go.Deep
set_option linter.unusedVariables false
set_option linter.unusedSimpArgs false

abbrev IntS := Int
def IntS.E : Enc IntS := { enc := fun x => [.int .i64 x], sz := 1, pos := by decide, len := fun _ => rfl, one := by intro x u hu; simp at hu; subst hu; rfl }
def IntS.Ok (x : IntS) : Prop := True
theorem IntS.at_ {w : World} {b o : Nat} {l : List IntS} (hc : ∀ i x, l[i]? = some x → ∀ j u, (IntS.E.enc x)[j]? = some u → w.cell? ⟨b, o + i * IntS.E.sz + j, none⟩ = some u) {k : Nat} {x : IntS} (hx : l[k]? = some x) :
    w.cell? ⟨b, o + k, none⟩ = some (.int .i64 x) := by
  have := hc k x hx 0 _ rfl
  simpa [IntS.E] using this

theorem info_int : (Try.prog.info? 3).map (fun i => (i.zero, i.size, i.bytes)) = some (some (.int .i64 0), 1, 8) := by kernel_rfl
theorem cells_int : Try.prog.cellsOf 3 = 1 := by kernel_rfl
set_option maxHeartbeats 1000000 in
theorem toIntS_any (l : List IntS) (A : Option Addr) (c : Nat) (w : World) (h : Rd IntS.E w A l) (hn : l.length ≤ 1048576) :
    Calls Try.prog 14 #[.slice A l.length c] w fun e w' => e = .returned (.slice (some ⟨w.heap.size, 0, none⟩) l.length l.length) ∧
      Own IntS.E 3 w' w.heap.size (.slice (some ⟨w.heap.size, 0, none⟩) l.length l.length) l ∧ Grew w w' := by
  obtain ⟨i0, hi0, hz0, hz1, hz2⟩ := info_parts info_int
  go_enter Try.func14, Try.ntmps14
  go_wp2_with (at_make; refine wpList_make_full _ rfl _ _ _ rfl w.heap.size 3 i0 _ 1 Try.underlying27 hi0 hz0 hz1 _ _ _ _ l.length rfl rfl rfl rfl (by rw [hz2]; omega) (by simp only [maxLen]; omega) (Nat.le_refl _) ?_; intro w1 hown1 hgr1)
  have hg1 : Grew w w1 := (Grew.refl w).grown hgr1 (by simp)
  go_loopw [4] (fun i wr => ∃ k : Nat, k ≤ l.length ∧ i = .int .i64 k ∧ Grew w wr ∧ ∃ r : List Value, r.length = (l.length - k) * 1 ∧ wr.ownsRow w.heap.size 3 1 (.slice (some ⟨w.heap.size, 0, none⟩) l.length l.length) l.length (flat IntS.E (l.take k) ++ r)) (fun i _ => l.length - (intOf i).toNat)
  case atStart => exact ⟨0, Nat.zero_le _, rfl, hg1, (madeCells (Value.cells _) (l.length * 1)).toList, by simp [madeCells], hown1⟩
  case round =>
    obtain ⟨k, hk, rfl, hg, r, hr, hown⟩ := hrel
    clear hown1 hgr1 hg1
    by_cases hlt : k < l.length
    · obtain ⟨x, hx⟩ : ∃ x, l[k]? = some x := ⟨_, List.getElem?_eq_getElem hlt⟩
      obtain ⟨b, o, rfl, hb, hc⟩ := (h.grew hg).at_ hlt
      have hc0 := IntS.at_ hc hx
      have HX := Lib.hid hx
      have HR := Lib.hid hr
      have HO := Lib.hid hown
      have HG := Lib.hid hg
      clear hx hr hown hc hg h hi0 hz0 hz1 hz2
      obtain ⟨u0, hu0⟩ : ∃ u, wr.cell? ⟨w.heap.size, k, none⟩ = some u := by
        have h3 := HO.out.cellAt k (by omega)
        rw [h3]
        have h4 : (flat IntS.E (l.take k) ++ r).length = l.length * 1 := HO.out.1
        exact ⟨_, List.getElem?_eq_getElem (by rw [h4]; omega)⟩
      have hf2 : ∀ j, wr.frozen? ⟨w.heap.size, j, none⟩ = false := fun j => HO.out.frozenAt j
      go_wp2_with fail
      have hfin : (storeL wr w.heap.size k (IntS.E.enc x)).ownsRow w.heap.size 3 1 (.slice (some ⟨w.heap.size, 0, none⟩) l.length l.length) l.length (flat IntS.E (l.take (k + 1)) ++ r.drop 1) := by
        have h5 := own_stores (IntS.E.enc x) _ wr k HO.out
        have h6 : (flat IntS.E (l.take k)).length = k := by rw [flat_length, List.length_take, Nat.min_eq_left hk]; simp [IntS.E]
        have h7 := setL_app (IntS.E.enc x) (flat IntS.E (l.take k)) r (by rw [HR.out]; show 1 ≤ _; omega)
        rw [h6, show (IntS.E.enc x).length = 1 from rfl] at h7
        rw [h7] at h5
        have h8 : l.take (k + 1) = l.take k ++ [x] := by rw [List.take_add_one, HX.out]; rfl
        rw [h8, flat_append]
        simpa [flat] using h5
      go_roundw
      case rel =>
        go_light
        refine ⟨k + 1, by omega, by go_num, HG.out.setCell (by simp) _, r.drop 1, ?_, hfin⟩
        rw [List.length_drop, HR.out]; omega
      case measure => go_light; simp [intOf]; omega
    · obtain rfl : k = l.length := by omega
      have HO := Lib.hid hown
      have HR := Lib.hid hr
      clear hr hown h hi0 hz0 hz1 hz2
      go_wp2
      go_ret
      go_light
      refine ⟨rfl, ?_, hg⟩
      have hr0 : r = [] := List.eq_nil_of_length_eq_zero (by rw [HR.out]; simp)
      have := HO.out
      rw [hr0, List.append_nil, List.take_length] at this
      exact this

set_option maxHeartbeats 1000000 in
theorem eqIntS_any (l m : List IntS) (A B : Option Addr) (c d : Nat) (w : World) (h : Rd IntS.E w A l) (h' : Rd IntS.E w B m) (hn : l.length ≤ 4194304) (hm : m.length ≤ 4194304) :
    Calls Try.prog 16 #[.slice A l.length c, .slice B m.length d] w fun e w' => e = .returned (.bool (decide (l = m))) ∧ Grew w w' := by
  by_cases hlen : l.length = m.length
  · have hb : ((l.length : Int) != (m.length : Int)) = false := by simp [hlen]
    have HL := Lib.hid hlen
    clear hlen
    go_enter Try.func16, Try.ntmps16
    go_wp2_with fail
    go_loopw [5] (fun i wr => ∃ k : Nat, k ≤ l.length ∧ i = .int .i64 k ∧ Grew w wr ∧ l.take k = m.take k) (fun i _ => l.length - (intOf i).toNat)
    case atStart => exact ⟨0, Nat.zero_le _, rfl, Grew.refl _, by simp⟩
    case round =>
      obtain ⟨k, hk, rfl, hg, heq⟩ := hrel
      have HQ := Lib.hid heq
      clear heq
      by_cases hlt : k < l.length
      · have hlt2 : k < m.length := by rw [← HL.out]; exact hlt
        obtain ⟨x, hx⟩ : ∃ x, l[k]? = some x := ⟨_, List.getElem?_eq_getElem hlt⟩
        obtain ⟨y, hy⟩ : ∃ y, m[k]? = some y := ⟨_, List.getElem?_eq_getElem hlt2⟩
        obtain ⟨b, o, rfl, hb1, hc⟩ := (h.grew hg).at_ hlt
        obtain ⟨b', o', rfl, hb1', hc'⟩ := (h'.grew hg).at_ hlt2
        have hc0 := IntS.at_ hc hx
        have hd0 := IntS.at_ hc' hy
        have HX := Lib.hid hx
        have HY := Lib.hid hy
        have HG := Lib.hid hg
        clear hx hy hc hc' hg h h' hb
        have hi1 : (0 : Int) ≤ (k : Int) := by omega
        have hi2 : (k : Int) < (l.length : Int) := by omega
        have hi3 : (k : Int) < (m.length : Int) := by omega
        cases hd : decide (x = y)
        · have hne : (x != y) = true := by simpa using of_decide_eq_false hd
          go_wp2_with fail
          (refine wp_region_grow_lit (by kernel_rfl) (by kernel_rfl) ?_; repeat (any_goals (first | go_big_quiet_step ((fail)) | quiet_step ((fail)) | (refine wpQuiet_step (fun K hK => ?_); go_simp; split <;> rename_i hsp <;> (refine hK _ ?_; clear hK K) <;> (try first | simp only [hsp, decide_true, decide_false, Bool.not_true, Bool.not_false] | simp only [Int.not_le.2 hsp, decide_false, Bool.not_false] | simp only [Int.not_lt.2 hsp, decide_false, Bool.not_false] | simp only [Nat.not_le.2 hsp, decide_false, Bool.not_false] | simp only [Nat.not_lt.2 hsp, decide_false, Bool.not_false])))))
          all_goals (refine wpQuiet_nil ?_; intro w1 h1)
          go_wp2_with fail
          go_ret
          go_light
          refine ⟨ret_bool ?_, HG.out.trans h1⟩
          have hxy : x ≠ y := of_decide_eq_false hd
          have : l ≠ m := fun e => hxy (by have h3 := HX.out; rw [e, HY.out] at h3; injection h3 with h3; exact h3.symm)
          simp [this]
        · have hne : (x != y) = false := by simpa using of_decide_eq_true hd
          go_wp2_with fail
          (refine wp_region_grow_lit (by kernel_rfl) (by kernel_rfl) ?_; repeat (any_goals (first | go_big_quiet_step ((fail)) | quiet_step ((fail)) | (refine wpQuiet_step (fun K hK => ?_); go_simp; split <;> rename_i hsp <;> (refine hK _ ?_; clear hK K) <;> (try first | simp only [hsp, decide_true, decide_false, Bool.not_true, Bool.not_false] | simp only [Int.not_le.2 hsp, decide_false, Bool.not_false] | simp only [Int.not_lt.2 hsp, decide_false, Bool.not_false] | simp only [Nat.not_le.2 hsp, decide_false, Bool.not_false] | simp only [Nat.not_lt.2 hsp, decide_false, Bool.not_false])))))
          all_goals (refine wpQuiet_nil ?_; intro w1 h1)
          go_wp2_with fail
          go_roundw
          case rel =>
            go_light
            refine ⟨k + 1, by omega, by go_num, HG.out.trans h1, ?_⟩
            have hxy : x = y := of_decide_eq_true hd
            rw [List.take_add_one, List.take_add_one, HQ.out, HX.out, HY.out, hxy]
          case measure => go_light; simp [intOf]; omega
      · go_wp2_with fail
        go_ret
        go_light
        refine ⟨ret_bool ?_, hg⟩
        have h1 : l = m := by
          have h2 := HQ.out
          rwa [List.take_of_length_le (by omega), List.take_of_length_le (by rw [← HL.out]; omega)] at h2
        simp [h1]
  · have hb : ((l.length : Int) != (m.length : Int)) = true := by simp; omega
    have hne : l ≠ m := fun e => hlen (by rw [e])
    go_enter Try.func16, Try.ntmps16
    go_wp2_with fail
    go_ret
    go_light
    exact ⟨ret_bool (by simp [hne]), Grew.refl _⟩

set_option maxRecDepth 100000 in
theorem IntS.open_ {H : Type} {enc : TypeId × Value → H} {w : World} {spare : Nat → Bool} {held : Bool} {v : Value} {d : DataW H} {p : List MemPlace} {rc : Reach} {b0 : Nat}
    (hv : Value.okWide Try.prog w rc b0 27 v) (h : DataW.Trod enc Try.prog w 0 spare held 27 v d p) :
    ∃ (l : List IntS) (A : Option Addr) (c : Nat), v = .slice A l.length c ∧ Rd IntS.E w A l ∧ l.length ≤ c ∧ c ≤ maxLen ∧ ∀ x ∈ l, x.Ok := by
  obtain ⟨a0, len0, cap0, rfl⟩ := okWide_slice Try.underlying27 hv
  obtain ⟨fuel, hf0⟩ := h
  have hf1 : DataW.trod enc Try.prog w 0 spare held fuel 27 [.slice a0 len0 cap0] = some (d, p) := by simpa [Value.cells] using hf0
  rcases open_ints Try.underlying27 Try.underlying3 cells_int hf1 with ⟨hcs, _⟩ | ⟨a, len, cap, zs, hcs, _, hl, hm, hz, _, hcell, _⟩
  · simp only [List.cons.injEq, Value.slice.injEq, and_true] at hcs
    obtain ⟨rfl, rfl, rfl⟩ := hcs
    exact ⟨[], none, 0, rfl, Rd.nil, Nat.le_refl _, by simp [maxLen], by simp⟩
  · simp only [List.cons.injEq, Value.slice.injEq, and_true] at hcs
    obtain ⟨rfl, rfl, rfl⟩ := hcs
    have hlz : len0 ≤ zs.length := by rw [hz]; split <;> omega
    refine ⟨zs.take len0, some a, cap0, by rw [List.length_take, Nat.min_eq_left hlz], rd_of_add (E := IntS.E) (fun i x hx j u hu => ?_), by rw [List.length_take, Nat.min_eq_left hlz]; exact hl, hm, fun x _ => trivial⟩
    have hi : i < len0 := by
      have := (List.getElem?_eq_some_iff.1 hx).1
      rw [List.length_take] at this
      omega
    have hxz : zs[i]? = some x := by rwa [List.getElem?_take, if_pos hi] at hx
    match j, hu with
    | 0, hu =>
      have hux : u = .int .i64 x := by simpa [IntS.E] using hu.symm
      subst hux
      have := hcell i (by omega)
      rw [List.getD_eq_getElem?_getD, hxz] at this
      simpa [IntS.E] using this
    | j + 1, hu => simp [IntS.E] at hu
end Go.Proofs.Ytfplgagdjdhopaa
