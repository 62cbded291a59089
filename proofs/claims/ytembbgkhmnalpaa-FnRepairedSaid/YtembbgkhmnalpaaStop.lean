/- Stops and slots: the structs; IsStop, KeepsStop and MovedOf of the program and of the reference return what plain functions return. Conditions: none. -/
import Derived.Test.YtembbgkhmnalpaaMem
import Derived.Test.YtembbgkhmnalpaaCode
namespace Go.Proofs.Ytembbgkhmnalpaa
open Go.RowKit Go.ChangeShapes Go.WideShapes Go.Deep
set_option linter.unusedVariables false
set_option linter.unusedSimpArgs false

structure Stp where
  ce : ByteArray
  fr : Int
  un : Int
deriving DecidableEq
theorem Stp.eq_iff {x y : Stp} : x = y ↔ x.ce = y.ce ∧ x.fr = y.fr ∧ x.un = y.un := by cases x; cases y; simp
abbrev Stp.v (x : Stp) : Value := .agg #[.string x.ce, .int .i64 x.fr, .int .i64 x.un]
def Stp.E : Enc Stp := { enc := fun x => [.string x.ce, .int .i64 x.fr, .int .i64 x.un], sz := 3, pos := by decide, len := fun _ => rfl, one := by intro x u hu; simp at hu; rcases hu with rfl | rfl | rfl <;> rfl }
theorem Stp.at_ {w : World} {b o : Nat} {l : List Stp} (hc : ∀ i x, l[i]? = some x → ∀ j u, (Stp.E.enc x)[j]? = some u → w.cell? ⟨b, o + i * Stp.E.sz + j, none⟩ = some u) {k : Nat} {x : Stp} (hx : l[k]? = some x) :
    w.cell? ⟨b, o + k * 3, none⟩ = some (.string x.ce) ∧ w.cell? ⟨b, o + k * 3 + 1, none⟩ = some (.int .i64 x.fr) ∧ w.cell? ⟨b, o + k * 3 + 2, none⟩ = some (.int .i64 x.un) := ⟨hc k x hx 0 _ rfl, hc k x hx 1 _ rfl, hc k x hx 2 _ rfl⟩
def Stp.Ok (x : Stp) : Prop := True ∧ x.ce.size ≤ maxLen ∧ (Lit.int .i64 x.fr).wf = true ∧ (Lit.int .i64 x.un).wf = true ∧ True
set_option maxHeartbeats 400000 in
theorem toStop_any (x : Stp) (w : World) :
    Calls Try.prog 11 #[x.v] w fun e w' => e = .returned x.v ∧ Grew w w' := by
  obtain ⟨ce, fr, un⟩ := x
  go_enter Try.func11, Try.ntmps11
  go_wp2
  exact bodyPost_ret (v := .agg #[.string ce, .int .i64 fr, .int .i64 un]) (by simp [results, Try.results11, go_sem]) rfl ⟨rfl, (((Grew.refl _).alloc _).alloc _).alloc _⟩
def Stp.w (x : Stp) : Nat := x.ce.size
set_option maxHeartbeats 400000 in
theorem szStop_any (x : Stp) (m : Int) (w : World) (hm : 0 ≤ m) (hm2 : m ≤ 1048576) (h0 : x.ce.size ≤ maxLen) :
    Calls Try.prog 9 #[x.v, .int .i64 m] w fun e w' => e = .returned (.int .i64 (if m < x.w then -1 else m - x.w)) ∧ Grew w w' := by
  unfold maxLen at *
  have HW : Hid (x.w = x.ce.size) := Lib.hid rfl
  obtain ⟨ce, fr, un⟩ := x
  simp only at *
  go_enter Try.func9, Try.ntmps9
  go_wp2
  all_goals go_ret
  all_goals go_light
  all_goals refine ⟨ret_int ?_, (Grew.refl _).alloc _⟩
  all_goals (have hW := HW.out; first | rfl | omega)
structure Slt where
  jb : Int
  sp : Int
  ce : ByteArray
  st : Int
  en : Int
deriving DecidableEq
theorem Slt.eq_iff {x y : Slt} : x = y ↔ x.jb = y.jb ∧ x.sp = y.sp ∧ x.ce = y.ce ∧ x.st = y.st ∧ x.en = y.en := by cases x; cases y; simp
abbrev Slt.v (x : Slt) : Value := .agg #[.int .i64 x.jb, .int .i64 x.sp, .string x.ce, .int .i64 x.st, .int .i64 x.en]
def Slt.E : Enc Slt := { enc := fun x => [.int .i64 x.jb, .int .i64 x.sp, .string x.ce, .int .i64 x.st, .int .i64 x.en], sz := 5, pos := by decide, len := fun _ => rfl, one := by intro x u hu; simp at hu; rcases hu with rfl | rfl | rfl | rfl | rfl <;> rfl }
theorem Slt.at_ {w : World} {b o : Nat} {l : List Slt} (hc : ∀ i x, l[i]? = some x → ∀ j u, (Slt.E.enc x)[j]? = some u → w.cell? ⟨b, o + i * Slt.E.sz + j, none⟩ = some u) {k : Nat} {x : Slt} (hx : l[k]? = some x) :
    w.cell? ⟨b, o + k * 5, none⟩ = some (.int .i64 x.jb) ∧ w.cell? ⟨b, o + k * 5 + 1, none⟩ = some (.int .i64 x.sp) ∧ w.cell? ⟨b, o + k * 5 + 2, none⟩ = some (.string x.ce) ∧ w.cell? ⟨b, o + k * 5 + 3, none⟩ = some (.int .i64 x.st) ∧ w.cell? ⟨b, o + k * 5 + 4, none⟩ = some (.int .i64 x.en) := ⟨hc k x hx 0 _ rfl, hc k x hx 1 _ rfl, hc k x hx 2 _ rfl, hc k x hx 3 _ rfl, hc k x hx 4 _ rfl⟩
def Slt.Ok (x : Slt) : Prop := True ∧ x.ce.size ≤ maxLen ∧ (Lit.int .i64 x.jb).wf = true ∧ (Lit.int .i64 x.sp).wf = true ∧ (Lit.int .i64 x.st).wf = true ∧ (Lit.int .i64 x.en).wf = true ∧ True
set_option maxHeartbeats 400000 in
theorem toSlot_any (x : Slt) (w : World) :
    Calls Try.prog 38 #[x.v] w fun e w' => e = .returned x.v ∧ Grew w w' := by
  obtain ⟨jb, sp, ce, st, en⟩ := x
  go_enter Try.func38, Try.ntmps38
  go_wp2
  exact bodyPost_ret (v := .agg #[.int .i64 jb, .int .i64 sp, .string ce, .int .i64 st, .int .i64 en]) (by simp [results, Try.results38, go_sem]) rfl ⟨rfl, (((Grew.refl _).alloc _).alloc _).alloc _⟩
set_option maxHeartbeats 1000000 in
theorem eqSlot_any (x y : Slt) (w : World) :
    Calls Try.prog 39 #[x.v, y.v] w fun e w' => e = .returned (.bool (decide (x = y))) ∧ Grew w w' := by
  obtain ⟨jb, sp, ce, st, en⟩ := x
  obtain ⟨jb', sp', ce', st', en'⟩ := y
  go_enter Try.func39, Try.ntmps39
  go_wp2
  all_goals go_ret
  all_goals refine ⟨ret_bool ?_, ((Grew.refl _).alloc _).alloc _⟩
  all_goals go_light
  all_goals simp_all [ba_inj]
def Slt.w (x : Slt) : Nat := x.ce.size
set_option maxHeartbeats 400000 in
theorem szSlot_any (x : Slt) (m : Int) (w : World) (hm : 0 ≤ m) (hm2 : m ≤ 1048576) (h2 : x.ce.size ≤ maxLen) :
    Calls Try.prog 37 #[x.v, .int .i64 m] w fun e w' => e = .returned (.int .i64 (if m < x.w then -1 else m - x.w)) ∧ Grew w w' := by
  unfold maxLen at *
  have HW : Hid (x.w = x.ce.size) := Lib.hid rfl
  obtain ⟨jb, sp, ce, st, en⟩ := x
  simp only at *
  go_enter Try.func37, Try.ntmps37
  go_wp2
  all_goals go_ret
  all_goals go_light
  all_goals refine ⟨ret_int ?_, (Grew.refl _).alloc _⟩
  all_goals (have hW := HW.out; first | rfl | omega)
theorem info_impl_Slt : (Try.prog.info? 56).map (fun i => (i.zero, i.size, i.bytes)) = some (some (.agg #[.int .i64 0, .int .i64 0, .string ByteArray.empty, .int .i64 0, .int .i64 0]), 5, 48) := by kernel_rfl
set_option maxHeartbeats 1000000 in
theorem toSlotS_any (l : List Slt) (A : Option Addr) (c : Nat) (w : World) (h : Rd Slt.E w A l) (hn : l.length ≤ 1048576) :
    Calls Try.prog 15 #[.slice A l.length c] w fun e w' => e = .returned (.slice (some ⟨w.heap.size, 0, none⟩) l.length l.length) ∧
      Own Slt.E 56 w' w.heap.size (.slice (some ⟨w.heap.size, 0, none⟩) l.length l.length) l ∧ Grew w w' := by
  obtain ⟨i0, hi0, hz0, hz1, hz2⟩ := info_parts info_impl_Slt
  go_enter Try.func15, Try.ntmps15
  go_wp2_with (at_make; refine wpList_make_full _ rfl _ _ _ rfl w.heap.size 56 i0 _ 5 Try.underlying32 hi0 hz0 hz1 _ _ _ _ l.length rfl rfl rfl rfl (by rw [hz2]; omega) (by simp only [maxLen]; omega) (Nat.le_refl _) ?_; intro w1 hown1 hgr1)
  have hg1 : Grew w w1 := (Grew.refl w).grown hgr1 (by simp)
  have hb1 : w.heap.size < w1.heap.size ∨ l.length = 0 := by
    rcases Nat.eq_zero_or_pos l.length with h0 | h0
    · exact .inr h0
    · exact .inl (hown1.lt _ rfl).2
  go_loopw [4] (fun i wr => ∃ k : Nat, k ≤ l.length ∧ i = .int .i64 k ∧ Grew w wr ∧ ∃ r : List Value, r.length = (l.length - k) * 5 ∧ wr.ownsRow w.heap.size 56 5 (.slice (some ⟨w.heap.size, 0, none⟩) l.length l.length) l.length (flat Slt.E (l.take k) ++ r)) (fun i _ => l.length - (intOf i).toNat)
  case atStart => exact ⟨0, Nat.zero_le _, rfl, hg1, (madeCells (Value.cells _) (l.length * 5)).toList, by simp [madeCells], hown1⟩
  case round =>
    obtain ⟨k, hk, rfl, hg, r, hr, hown⟩ := hrel
    clear hown1 hgr1 hg1 hb1
    by_cases hlt : k < l.length
    · obtain ⟨x, hx⟩ : ∃ x, l[k]? = some x := ⟨_, List.getElem?_eq_getElem hlt⟩
      obtain ⟨b, o, rfl, hb, hc⟩ := (h.grew hg).at_ hlt
      have hcx := Slt.at_ hc hx
      obtain ⟨hc0, hc1, hc2, hc3, hc4⟩ := hcx
      have HX := Lib.hid hx
      have HR := Lib.hid hr
      have HO := Lib.hid hown
      have HG := Lib.hid hg
      clear hx hr hown hc hg h hi0 hz0 hz1 hz2
      go_wp2_with fail
      refine (toSlot_any x _).mono ?_
      rintro e w2 ⟨rfl, h2⟩
      have HO2 := Lib.hid (ownsRow_grew HO.out h2)
      have hcc : ∀ j, j < 5 → ∃ u, w2.cell? ⟨w.heap.size, k * 5 + j, none⟩ = some u := fun j hj => by
        have h3 := HO2.out.cellAt (k * 5 + j) (by have : (k + 1) * 5 ≤ l.length * 5 := Nat.mul_le_mul_right _ hlt; omega)
        rw [h3]
        have h4 : (flat Slt.E (l.take k) ++ r).length = l.length * 5 := HO2.out.1
        exact ⟨_, List.getElem?_eq_getElem (by rw [h4]; have : (k + 1) * 5 ≤ l.length * 5 := Nat.mul_le_mul_right _ hlt; omega)⟩
      obtain ⟨u0, hu0⟩ := hcc 0 (by decide)
      obtain ⟨u1, hu1⟩ := hcc 1 (by decide)
      obtain ⟨u2, hu2⟩ := hcc 2 (by decide)
      obtain ⟨u3, hu3⟩ := hcc 3 (by decide)
      obtain ⟨u4, hu4⟩ := hcc 4 (by decide)
      simp only [Nat.add_zero] at hu0
      have hf2 : ∀ j, w2.frozen? ⟨w.heap.size, j, none⟩ = false := fun j => HO2.out.frozenAt j
      clear hcc
      go_wp2_with fail
      have hfin : (storeL w2 w.heap.size (k * 5) (Slt.E.enc x)).ownsRow w.heap.size 56 5 (.slice (some ⟨w.heap.size, 0, none⟩) l.length l.length) l.length (flat Slt.E (l.take (k + 1)) ++ r.drop 5) := by
        have h5 := own_stores (Slt.E.enc x) _ w2 (k * 5) HO2.out
        have h6 : (flat Slt.E (l.take k)).length = k * 5 := by rw [flat_length, List.length_take, Nat.min_eq_left hk]; rfl
        have h7 := setL_app (Slt.E.enc x) (flat Slt.E (l.take k)) r (by rw [HR.out]; show 5 ≤ _; have : 1 * 5 ≤ (l.length - k) * 5 := Nat.mul_le_mul_right _ (by omega); omega)
        rw [h6, show (Slt.E.enc x).length = 5 from rfl] at h7
        rw [h7] at h5
        have h8 : l.take (k + 1) = l.take k ++ [x] := by rw [List.take_add_one, HX.out]; rfl
        rw [h8, flat_append]
        simpa [flat] using h5
      go_roundw
      case rel =>
        go_light
        refine ⟨k + 1, by omega, by go_num, ?_, r.drop 5, ?_, hfin⟩
        · have hg3 := HG.out.trans h2
          exact ((((hg3.setCell (by simp) _).setCell (by simp) _).setCell (by simp) _).setCell (by simp) _).setCell (by simp) _
        · rw [List.length_drop, HR.out, show l.length - k = (l.length - (k + 1)) + 1 by omega, Nat.succ_mul]; omega
      case measure => go_light; simp [intOf]; omega
    · obtain rfl : k = l.length := by omega
      have HO := Lib.hid hown
      have HR := Lib.hid hr
      clear hr hown h hi0 hz0 hz1 hz2
      go_wp2
      go_ret
      go_light
      refine ⟨rfl, ?_, hg⟩
      have hr0 : r = [] := List.eq_nil_of_length_eq_zero (by rw [HR.out]; simp)
      have := HO.out
      rw [hr0, List.append_nil, List.take_length] at this
      exact this
set_option maxHeartbeats 1000000 in
theorem eqSlotS_any (l m : List Slt) (A B : Option Addr) (c d : Nat) (w : World) (h : Rd Slt.E w A l) (h' : Rd Slt.E w B m) (hn : l.length ≤ 4194304) (hm : m.length ≤ 4194304) :
    Calls Try.prog 17 #[.slice A l.length c, .slice B m.length d] w fun e w' => e = .returned (.bool (decide (l = m))) ∧ Grew w w' := by
  by_cases hlen : l.length = m.length
  · have hb : ((l.length : Int) != (m.length : Int)) = false := by simp [hlen]
    have HL := Lib.hid hlen
    clear hlen
    go_enter Try.func17, Try.ntmps17
    go_wp2_with fail
    go_loopw [5] (fun i wr => ∃ k : Nat, k ≤ l.length ∧ i = .int .i64 k ∧ Grew w wr ∧ l.take k = m.take k) (fun i _ => l.length - (intOf i).toNat)
    case atStart => exact ⟨0, Nat.zero_le _, rfl, Grew.refl _, by simp⟩
    case round =>
      obtain ⟨k, hk, rfl, hg, heq⟩ := hrel
      have HQ := Lib.hid heq
      clear heq
      by_cases hlt : k < l.length
      · have hlt2 : k < m.length := by rw [← HL.out]; exact hlt
        obtain ⟨x, hx⟩ : ∃ x, l[k]? = some x := ⟨_, List.getElem?_eq_getElem hlt⟩
        obtain ⟨y, hy⟩ : ∃ y, m[k]? = some y := ⟨_, List.getElem?_eq_getElem hlt2⟩
        obtain ⟨b, o, rfl, hb1, hc⟩ := (h.grew hg).at_ hlt
        obtain ⟨b', o', rfl, hb1', hc'⟩ := (h'.grew hg).at_ hlt2
        have hcx := Slt.at_ hc hx
        have hcy := Slt.at_ hc' hy
        obtain ⟨hc0, hc1, hc2, hc3, hc4⟩ := hcx
        obtain ⟨hd0, hd1, hd2, hd3, hd4⟩ := hcy
        have HX := Lib.hid hx
        have HY := Lib.hid hy
        have HG := Lib.hid hg
        clear hx hy hc hc' hg h h' hb
        have hi1 : (0 : Int) ≤ (k : Int) := by omega
        have hi2 : (k : Int) < (l.length : Int) := by omega
        have hi3 : (k : Int) < (m.length : Int) := by omega
        cases hd : decide (x = y)
        · go_wp2_with fail
          (refine wp_region_grow_lit (by kernel_rfl) (by kernel_rfl) ?_; repeat (any_goals (first | go_big_quiet_step ((go_at_call 39; exact quiet_grew (eqSlot_any x y _))) | quiet_step ((go_at_call 39; exact quiet_grew (eqSlot_any x y _))) | (refine wpQuiet_step (fun K hK => ?_); go_simp; split <;> rename_i hsp <;> (refine hK _ ?_; clear hK K) <;> (try first | simp only [hsp, decide_true, decide_false, Bool.not_true, Bool.not_false] | simp only [Int.not_le.2 hsp, decide_false, Bool.not_false] | simp only [Int.not_lt.2 hsp, decide_false, Bool.not_false] | simp only [Nat.not_le.2 hsp, decide_false, Bool.not_false] | simp only [Nat.not_lt.2 hsp, decide_false, Bool.not_false])))))
          all_goals (refine wpQuiet_nil ?_; intro w1 h1)
          go_wp2_with fail
          go_ret
          go_light
          refine ⟨ret_bool ?_, HG.out.trans h1⟩
          have hxy : x ≠ y := of_decide_eq_false hd
          have : l ≠ m := fun e => hxy (by have h3 := HX.out; rw [e, HY.out] at h3; injection h3 with h3; exact h3.symm)
          simp [this]
        · go_wp2_with fail
          (refine wp_region_grow_lit (by kernel_rfl) (by kernel_rfl) ?_; repeat (any_goals (first | go_big_quiet_step ((go_at_call 39; exact quiet_grew (eqSlot_any x y _))) | quiet_step ((go_at_call 39; exact quiet_grew (eqSlot_any x y _))) | (refine wpQuiet_step (fun K hK => ?_); go_simp; split <;> rename_i hsp <;> (refine hK _ ?_; clear hK K) <;> (try first | simp only [hsp, decide_true, decide_false, Bool.not_true, Bool.not_false] | simp only [Int.not_le.2 hsp, decide_false, Bool.not_false] | simp only [Int.not_lt.2 hsp, decide_false, Bool.not_false] | simp only [Nat.not_le.2 hsp, decide_false, Bool.not_false] | simp only [Nat.not_lt.2 hsp, decide_false, Bool.not_false])))))
          all_goals (refine wpQuiet_nil ?_; intro w1 h1)
          go_wp2_with fail
          go_roundw
          case rel =>
            go_light
            refine ⟨k + 1, by omega, by go_num, HG.out.trans h1, ?_⟩
            have hxy : x = y := of_decide_eq_true hd
            rw [List.take_add_one, List.take_add_one, HQ.out, HX.out, HY.out, hxy]
          case measure => go_light; simp [intOf]; omega
      · go_wp2_with fail
        go_ret
        go_light
        refine ⟨ret_bool ?_, hg⟩
        have h1 : l = m := by
          have h2 := HQ.out
          rwa [List.take_of_length_le (by omega), List.take_of_length_le (by rw [← HL.out]; omega)] at h2
        simp [h1]
  · have hb : ((l.length : Int) != (m.length : Int)) = true := by simp; omega
    have hne : l ≠ m := fun e => hlen (by rw [e])
    go_enter Try.func17, Try.ntmps17
    go_wp2_with fail
    go_ret
    go_light
    exact ⟨ret_bool (by simp [hne]), Grew.refl _⟩
set_option maxHeartbeats 1000000 in
theorem szSlotS_any (l : List Slt) (A : Option Addr) (c : Nat) (m : Int) (w : World) (h : Rd Slt.E w A l) (hok : ∀ x ∈ l, x.Ok) (hm : 0 ≤ m) (hm2 : m ≤ 1048576) (hl : l.length ≤ maxLen) :
    Calls Try.prog 13 #[.slice A l.length c, .int .i64 m] w (SzPost l.length m w) := by
  have hl' := hl
  unfold maxLen at hl
  by_cases hlm : m < l.length
  · clear h hok
    go_enter Try.func13, Try.ntmps13
    go_wp2_with fail
    go_ret
    go_light
    exact ⟨-1, rfl, by omega, by omega, Grew.refl _⟩
  · have HOK := Lib.hid hok
    clear hok
    go_enter Try.func13, Try.ntmps13
    go_wp2_with fail
    go_loopw [1, 5] (fun v i wr => ∃ (k : Nat) (r : Int), k ≤ l.length ∧ i = .int .i64 k ∧ v = .int .i64 r ∧ 0 ≤ r ∧ r ≤ m - l.length ∧ Grew w wr) (fun _ i _ => l.length - (intOf i).toNat)
    case atStart => exact ⟨0, _, Nat.zero_le _, rfl, rfl, by omega, by omega, Grew.refl _⟩
    case round =>
      obtain ⟨k, r, hk, rfl, rfl, hr0, hr1, hg⟩ := hrel
      by_cases hlt : k < l.length
      · obtain ⟨x, hx⟩ : ∃ x, l[k]? = some x := ⟨_, List.getElem?_eq_getElem hlt⟩
        have hxo := HOK.out x (List.mem_of_getElem? hx)
        obtain ⟨b, o, rfl, hb, hc⟩ := (h.grew hg).at_ hlt
        have hcx := Slt.at_ hc hx
        obtain ⟨hc0, hc1, hc2, hc3, hc4⟩ := hcx
        have HX := Lib.hid hx
        have HG := Lib.hid hg
        have HO := Lib.hid hxo
        clear hx hc hg h hxo
        by_cases hxr : r < x.w
        · go_wp2_with fail
          refine (szSlot_any x r _ hr0 (by omega) (HO.out.2.1)).mono ?_
          rintro e w2 ⟨rfl, h2⟩
          go_wp2_with fail
          go_ret
          go_light
          exact ⟨-1, rfl, by omega, by omega, HG.out.trans h2⟩
        · have hxr2 : (0 : Int) ≤ r - x.w := by omega
          go_wp2_with fail
          refine (szSlot_any x r _ hr0 (by omega) (HO.out.2.1)).mono ?_
          rintro e w2 ⟨rfl, h2⟩
          go_wp2_with fail
          go_roundw
          case rel =>
            go_light
            exact ⟨k + 1, _, by omega, by go_num, rfl, by omega, by omega, HG.out.trans h2⟩
          case measure => go_light; simp [intOf]; omega
      · go_wp2_with fail
        go_ret
        go_light
        exact ⟨_, rfl, by omega, by omega, hg⟩
set_option maxRecDepth 100000 in
theorem Slt.open_ {H : Type} {enc : TypeId × Value → H} {w : World} {spare : Nat → Bool} {held : Bool} {v : Value} {d : DataW H} {p : List MemPlace} {rc : Reach} {b0 : Nat}
    (hv : Value.okWide Try.prog w rc b0 29 v) (h : DataW.Trod enc Try.prog w 0 spare held 29 v d p) :
    ∃ (l : List Slt) (A : Option Addr) (c : Nat), v = .slice A l.length c ∧ Rd Slt.E w A l ∧ l.length ≤ c ∧ c ≤ maxLen ∧ ∀ x ∈ l, x.Ok := by
  obtain ⟨a0, len0, cap0, rfl⟩ := okWide_slice Try.underlying29 hv
  obtain ⟨fuel, hf0⟩ := h
  have hf1 : DataW.trod enc Try.prog w 0 spare held fuel 29 [.slice a0 len0 cap0] = some (d, p) := by simpa [Value.cells] using hf0
  rcases open_slice_fields Try.underlying29 Try.underlying60 (by kernel_rfl) (by kernel_rfl) hf1 with ⟨hcs, _⟩ | ⟨a, len, cap, m, D, Pl, hcs, _, hl, hm, hmm, _, hi⟩
  · simp only [List.cons.injEq, Value.slice.injEq, and_true] at hcs
    obtain ⟨rfl, rfl, rfl⟩ := hcs
    exact ⟨[], none, 0, rfl, Rd.nil, Nat.le_refl _, by simp [maxLen], by simp⟩
  · simp only [List.cons.injEq, Value.slice.injEq, and_true] at hcs
    obtain ⟨rfl, rfl, rfl⟩ := hcs
    have hx : ∀ i, i < len0 → ∃ x : Slt, x.Ok ∧ ∀ j u, (Slt.E.enc x)[j]? = some u → w.cell? (a.add (i * 5 + j)) = some u := by
      intro i hil
      obtain ⟨ys, n, _, _, _, hf⟩ := hi i (by rw [hmm]; split <;> omega)
      obtain ⟨v0, y0, hv0, _, ht0⟩ := hf 0 _ rfl
      obtain ⟨jb, hq0, _, hw0⟩ := DataW.trod_int Try.underlying3 ht0
      obtain rfl : v0 = .int .i64 jb := by injection hq0
      obtain ⟨v1, y1, hv1, _, ht1⟩ := hf 1 _ rfl
      obtain ⟨sp, hq1, _, hw1⟩ := DataW.trod_int Try.underlying3 ht1
      obtain rfl : v1 = .int .i64 sp := by injection hq1
      obtain ⟨v2, y2, hv2, _, ht2⟩ := hf 2 _ rfl
      obtain ⟨ce, hq2, _, hw2⟩ := DataW.trod_string Try.underlying9 ht2
      obtain rfl : v2 = .string ce := by injection hq2
      obtain ⟨v3, y3, hv3, _, ht3⟩ := hf 3 _ rfl
      obtain ⟨st, hq3, _, hw3⟩ := DataW.trod_int Try.underlying3 ht3
      obtain rfl : v3 = .int .i64 st := by injection hq3
      obtain ⟨v4, y4, hv4, _, ht4⟩ := hf 4 _ rfl
      obtain ⟨en, hq4, _, hw4⟩ := DataW.trod_int Try.underlying3 ht4
      obtain rfl : v4 = .int .i64 en := by injection hq4
      refine ⟨⟨jb, sp, ce, st, en⟩, ⟨trivial, hw2, hw0, hw1, hw3, hw4, trivial⟩, fun j u hu => ?_⟩
      match j, hu with
      | 0, hu => (have : u = .int .i64 jb := by simpa [Slt.E] using hu.symm); subst this; exact hv0
      | 1, hu => (have : u = .int .i64 sp := by simpa [Slt.E] using hu.symm); subst this; exact hv1
      | 2, hu => (have : u = .string ce := by simpa [Slt.E] using hu.symm); subst this; exact hv2
      | 3, hu => (have : u = .int .i64 st := by simpa [Slt.E] using hu.symm); subst this; exact hv3
      | 4, hu => (have : u = .int .i64 en := by simpa [Slt.E] using hu.symm); subst this; exact hv4
      | j + 5, hu => simp [Slt.E] at hu
    obtain ⟨l, hl1, hl2⟩ := list_of_fn len0 (fun i x => x.Ok ∧ ∀ j u, (Slt.E.enc x)[j]? = some u → w.cell? (a.add (i * 5 + j)) = some u) hx
    subst hl1
    refine ⟨l, some a, cap0, rfl, rd_of_add (E := Slt.E) (fun i x hx => (hl2 i x hx).2), hl, hm, fun x hx => ?_⟩
    obtain ⟨i, hi⟩ := List.mem_iff_getElem?.1 hx
    exact (hl2 i x hi).1

def stopB (ce : ByteArray) (fr un : Int) : Bool := codeB ce && inB fr 0 100000 && inB un (fr + 1) 100000

set_option maxHeartbeats 1000000 in
theorem isStop_impl (x : Stp) (w : World) (h1 : x.ce.size ≤ maxLen) :
    Calls Try.prog 12 #[x.v] w fun e w' => e = .returned (.bool (stopB x.ce x.fr x.un)) ∧ Grew w w' := by
  obtain ⟨ce, fr, un⟩ := x
  simp only at h1
  have HB := Lib.hid (show stopB ce fr un = (codeB ce && inB fr 0 100000 && (decide (fr < un) && decide (un ≤ 100000))) by simp [stopB, inB]; try rfl)
  go_enter Try.func12, Try.ntmps12
  go_wp2_with (first | (go_at_call 36; refine (in_any _ _ _ _).mono ?_; rintro e w' ⟨rfl, rfl⟩) | (go_at_call 35; refine (isCode_impl _ _ (by assumption)).mono ?_; rintro e w' ⟨rfl, rfl⟩))
  all_goals go_ret
  all_goals go_light
  all_goals exact ⟨ret_bool (by rw [HB.out]; first | (simp_all; done) | (simp_all; omega)), (Grew.refl _).alloc _⟩

set_option maxHeartbeats 1000000 in
theorem isStop_spec (x : Stp) (w : World) (h1 : x.ce.size ≤ maxLen) :
    Calls Try.prog 10 #[x.v] w fun e w' => e = .returned (.bool (stopB x.ce x.fr x.un)) ∧ Grew w w' := by
  obtain ⟨ce, fr, un⟩ := x
  simp only at h1
  have HB := Lib.hid (show stopB ce fr un = (codeB ce && inB fr 0 100000 && inB un (fr + 1) 100000) from rfl)
  go_enter Try.func10, Try.ntmps10
  cases hf : inB fr 0 100000
  · go_wp2_with (first | (go_at_call 34; refine (l1In_any _ _ _ _).mono ?_; rintro e w' ⟨rfl, rfl⟩) | (go_at_call 33; refine (isCode_spec _ _ (by assumption)).mono ?_; rintro e w' ⟨rfl, rfl⟩))
    all_goals go_ret
    all_goals go_light
    all_goals exact ⟨ret_bool (by rw [HB.out]; first | (simp_all; done) | (simp_all; omega)), (Grew.refl _).alloc _⟩
  · have hb := inB_iff.1 hf
    go_wp2_with (first | (go_at_call 34; refine (l1In_any _ _ _ _).mono ?_; rintro e w' ⟨rfl, rfl⟩) | (go_at_call 33; refine (isCode_spec _ _ (by assumption)).mono ?_; rintro e w' ⟨rfl, rfl⟩))
    all_goals go_ret
    all_goals go_light
    all_goals exact ⟨ret_bool (by rw [HB.out]; first | (simp_all; done) | (simp_all; omega)), (Grew.refl _).alloc _⟩

def hitB (ce : ByteArray) (st en : Int) (xc : ByteArray) (xf xu : Int) : Bool := decide (ce.toList = xc.toList) && decide (st < xu) && decide (xf < en)
def slt0 : Slt := ⟨0, 0, ByteArray.empty, 0, 0⟩
def keepF (l : List Slt) (xc : ByteArray) (xf xu : Int) (i : Nat) : Bool := !hitB (l.getD i slt0).ce (l.getD i slt0).st (l.getD i slt0).en xc xf xu
def keepsB (l : List Slt) (x : Stp) : Bool := allTo (keepF l x.ce x.fr x.un) l.length && stopB x.ce x.fr x.un

set_option maxHeartbeats 1000000 in
theorem overlaps_any (ce : ByteArray) (st en : Int) (x : Stp) (w : World) :
    Calls Try.prog 40 #[.string ce, .int .i64 st, .int .i64 en, x.v] w fun e w' => e = .returned (.bool (hitB ce st en x.ce x.fr x.un)) ∧ Grew w w' := by
  obtain ⟨xc, fr, un⟩ := x
  have HB := Lib.hid (show hitB ce st en xc fr un = (decide (ce.toList = xc.toList) && decide (st < un) && decide (fr < en)) from rfl)
  go_enter Try.func40, Try.ntmps40
  go_wp2
  all_goals go_ret
  all_goals go_light
  all_goals exact ⟨ret_bool (by rw [HB.out]; first | (simp_all; done) | (simp_all; omega)), (Grew.refl _).alloc _⟩

set_option maxHeartbeats 2000000 in
theorem keepsStop_impl (l : List Slt) (A : Option Addr) (c : Nat) (x : Stp) (w : World) (hs : x.ce.size ≤ maxLen) (h : Rd Slt.E w A l) (hn : l.length ≤ 4194304) :
    Calls Try.prog 19 #[.slice A l.length c, x.v] w fun e w' => e = .returned (.bool (keepsB l x)) ∧ Grew w w' := by
  have HA := Lib.hid (show keepsB l x = (allTo (keepF l x.ce x.fr x.un) l.length && stopB x.ce x.fr x.un) from rfl)
  go_enter Try.func19, Try.ntmps19
  go_wp2_with fail
  go_loopw [9] (fun i wr => ∃ k : Nat, k ≤ l.length ∧ i = .int .i64 k ∧ Grew (w.alloc (.cells #[.string x.ce, .int .i64 x.fr, .int .i64 x.un] 26)) wr ∧ allTo (keepF l x.ce x.fr x.un) k = true) (fun i _ => l.length - (intOf i).toNat)
  case atStart => exact ⟨0, Nat.zero_le _, rfl, Grew.refl _, rfl⟩
  case round =>
    obtain ⟨k, hk, rfl, hg, hall⟩ := hrel
    have HALL := Lib.hid hall
    have HG := Lib.hid hg
    clear hall
    have hz_wr_0 : w.heap.size < wr.heap.size := Nat.lt_of_lt_of_le (by first | (simp +arith; done) | (simp; omega) | omega) hg.le; have hb_wr_0 := fun o => hg.rules.1 w.heap.size o (by first | (simp +arith; done) | (simp; omega) | omega); have hf_wr_0 := fun o => hg.rules.2 w.heap.size o (by first | (simp +arith; done) | (simp; omega) | omega); (try simp [World.cell?_alloc_past, World.frozen?_alloc_past, Nat.lt_add_right] at hb_wr_0 hf_wr_0)
    by_cases hlt : k < l.length
    · obtain ⟨y, hy⟩ : ∃ y, l[k]? = some y := ⟨_, List.getElem?_eq_getElem hlt⟩
      obtain ⟨b, o, rfl, hb, hc⟩ := ((h.grew ((Grew.refl _).alloc _)).grew hg).at_ hlt
      obtain ⟨hc0, hc1, hc2, hc3, hc4⟩ := Slt.at_ hc hy
      have HK := Lib.hid (show keepF l x.ce x.fr x.un k = !hitB y.ce y.st y.en x.ce x.fr x.un by simp [keepF, List.getD_eq_getElem?_getD, hy])
      clear hy hc hg h
      go_wp2_with fail
      refine (overlaps_any y.ce y.st y.en x _).mono ?_; rintro e w1 ⟨rfl, h1⟩
      go_wp2_with fail
      all_goals first
        | (go_ret; go_light; exact ⟨ret_bool (by rw [HA.out, allTo_not hlt (by rw [HK.out]; simp_all)]; simp), ((((Grew.refl _).alloc _).trans HG.out).alloc _).trans h1⟩)
        | (go_roundw
           case rel => go_light; exact ⟨k + 1, by omega, by go_num, (HG.out.alloc _).trans h1, allTo_step HALL.out (by rw [HK.out]; simp_all)⟩
           case measure => go_light; simp [intOf]; omega)
    · obtain rfl : k = l.length := by omega
      clear h
      go_wp2_with fail
      refine (isStop_impl x _ hs).mono ?_; rintro e w1 ⟨rfl, h1⟩
      go_wp2_with fail
      go_ret
      go_light
      exact ⟨ret_bool (by rw [HA.out, HALL.out]; rfl), (((Grew.refl _).alloc _).trans HG.out).trans h1⟩

set_option maxHeartbeats 2000000 in
theorem keepsStop_spec (l : List Slt) (A : Option Addr) (c : Nat) (x : Stp) (w : World) (hs : x.ce.size ≤ maxLen) (h : Rd Slt.E w A l) (hn : l.length ≤ 4194304) :
    Calls Try.prog 18 #[.slice A l.length c, x.v] w fun e w' => e = .returned (.bool (keepsB l x)) ∧ Grew w w' := by
  have HA := Lib.hid (show keepsB l x = (allTo (keepF l x.ce x.fr x.un) l.length && stopB x.ce x.fr x.un) from rfl)
  go_enter Try.func18, Try.ntmps18
  go_wp2_with fail
  go_loopw [5] (fun i wr => ∃ k : Nat, k ≤ l.length ∧ i = .int .i64 k ∧ Grew (w.alloc (.cells #[.string x.ce, .int .i64 x.fr, .int .i64 x.un] 26)) wr ∧ allTo (keepF l x.ce x.fr x.un) k = true) (fun i _ => l.length - (intOf i).toNat)
  case atStart => exact ⟨0, Nat.zero_le _, rfl, Grew.refl _, rfl⟩
  case round =>
    obtain ⟨k, hk, rfl, hg, hall⟩ := hrel
    have HALL := Lib.hid hall
    have HG := Lib.hid hg
    clear hall
    have hz_wr_0 : w.heap.size < wr.heap.size := Nat.lt_of_lt_of_le (by first | (simp +arith; done) | (simp; omega) | omega) hg.le; have hb_wr_0 := fun o => hg.rules.1 w.heap.size o (by first | (simp +arith; done) | (simp; omega) | omega); have hf_wr_0 := fun o => hg.rules.2 w.heap.size o (by first | (simp +arith; done) | (simp; omega) | omega); (try simp [World.cell?_alloc_past, World.frozen?_alloc_past, Nat.lt_add_right] at hb_wr_0 hf_wr_0)
    by_cases hlt : k < l.length
    · obtain ⟨y, hy⟩ : ∃ y, l[k]? = some y := ⟨_, List.getElem?_eq_getElem hlt⟩
      obtain ⟨b, o, rfl, hb, hc⟩ := ((h.grew ((Grew.refl _).alloc _)).grew hg).at_ hlt
      obtain ⟨hc0, hc1, hc2, hc3, hc4⟩ := Slt.at_ hc hy
      have HK := Lib.hid (show keepF l x.ce x.fr x.un k = !(decide (y.ce.toList = x.ce.toList) && decide (y.st < x.un) && decide (x.fr < y.en)) by simp [keepF, hitB, List.getD_eq_getElem?_getD, hy])
      clear hy hc hg h
      go_wp2_with fail
      (refine wp_region_grow_lit (by kernel_rfl) (by kernel_rfl) ?_; repeat (any_goals (first | go_big_quiet_step ((fail)) | quiet_step ((fail)) | (refine wpQuiet_step (fun K hK => ?_); go_simp; split <;> rename_i hsp <;> (refine hK _ ?_; clear hK K) <;> (try first | simp only [hsp, decide_true, decide_false, Bool.not_true, Bool.not_false] | simp only [Int.not_le.2 hsp, decide_false, Bool.not_false] | simp only [Int.not_lt.2 hsp, decide_false, Bool.not_false] | simp only [Nat.not_le.2 hsp, decide_false, Bool.not_false] | simp only [Nat.not_lt.2 hsp, decide_false, Bool.not_false])))))
      all_goals (refine wpQuiet_nil ?_; intro w1 h1)
      all_goals go_wp2_with fail
      all_goals first
        | (go_ret; go_light; exact ⟨ret_bool (by rw [HA.out, allTo_not hlt (by rw [HK.out]; first | (simp_all; done) | (simp_all; omega))]; simp), (((Grew.refl _).alloc _).trans HG.out).trans h1⟩)
        | (go_roundw
           case rel => go_light; exact ⟨k + 1, by omega, by go_num, HG.out.trans h1, allTo_step HALL.out (by rw [HK.out]; first | (simp_all; done) | (simp_all; omega))⟩
           case measure => go_light; simp [intOf]; omega)
    · obtain rfl : k = l.length := by omega
      clear h
      go_wp2_with fail
      refine (isStop_spec x _ hs).mono ?_; rintro e w1 ⟨rfl, h1⟩
      go_wp2_with fail
      go_ret
      go_light
      exact ⟨ret_bool (by rw [HA.out, HALL.out]; rfl), (((Grew.refl _).alloc _).trans HG.out).trans h1⟩
end Go.Proofs.Ytembbgkhmnalpaa
