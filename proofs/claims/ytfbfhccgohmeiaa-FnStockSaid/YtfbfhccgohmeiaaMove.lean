/- Moves: the struct; IsMove of the program and of the reference return what a plain function returns. Conditions: none. -/
import Derived.Test.YtfbfhccgohmeiaaCode
import Derived.Test.YtfbfhccgohmeiaaMem
namespace Go.Proofs.Ytfbfhccgohmeiaa
open Go.RowKit Go.ChangeShapes Go.WideShapes Go.Deep
set_option linter.unusedVariables false
set_option linter.unusedSimpArgs false

structure Mv where
  day : Int
  it : ByteArray
  ba : ByteArray
  ff : ByteArray
  tt : ByteArray
  q : Int
deriving DecidableEq
theorem Mv.eq_iff {x y : Mv} : x = y ↔ x.day = y.day ∧ x.it = y.it ∧ x.ba = y.ba ∧ x.ff = y.ff ∧ x.tt = y.tt ∧ x.q = y.q := by cases x; cases y; simp
abbrev Mv.v (x : Mv) : Value := .agg #[.int .i64 x.day, .string x.it, .string x.ba, .string x.ff, .string x.tt, .int .i64 x.q]
def Mv.E : Enc Mv := { enc := fun x => [.int .i64 x.day, .string x.it, .string x.ba, .string x.ff, .string x.tt, .int .i64 x.q], sz := 6, pos := by decide, len := fun _ => rfl, one := by intro x u hu; simp at hu; rcases hu with rfl | rfl | rfl | rfl | rfl | rfl <;> rfl }
theorem Mv.at_ {w : World} {b o : Nat} {l : List Mv} (hc : ∀ i x, l[i]? = some x → ∀ j u, (Mv.E.enc x)[j]? = some u → w.cell? ⟨b, o + i * Mv.E.sz + j, none⟩ = some u) {k : Nat} {x : Mv} (hx : l[k]? = some x) :
    w.cell? ⟨b, o + k * 6, none⟩ = some (.int .i64 x.day) ∧ w.cell? ⟨b, o + k * 6 + 1, none⟩ = some (.string x.it) ∧ w.cell? ⟨b, o + k * 6 + 2, none⟩ = some (.string x.ba) ∧ w.cell? ⟨b, o + k * 6 + 3, none⟩ = some (.string x.ff) ∧ w.cell? ⟨b, o + k * 6 + 4, none⟩ = some (.string x.tt) ∧ w.cell? ⟨b, o + k * 6 + 5, none⟩ = some (.int .i64 x.q) := ⟨hc k x hx 0 _ rfl, hc k x hx 1 _ rfl, hc k x hx 2 _ rfl, hc k x hx 3 _ rfl, hc k x hx 4 _ rfl, hc k x hx 5 _ rfl⟩
def Mv.Ok (x : Mv) : Prop := True ∧ x.it.size ≤ maxLen ∧ x.ba.size ≤ maxLen ∧ x.ff.size ≤ maxLen ∧ x.tt.size ≤ maxLen ∧ (Lit.int .i64 x.day).wf = true ∧ (Lit.int .i64 x.q).wf = true ∧ True
set_option maxHeartbeats 400000 in
theorem toMove_any (x : Mv) (w : World) :
    Calls Try.prog 14 #[x.v] w fun e w' => e = .returned x.v ∧ Grew w w' := by
  obtain ⟨day, it, ba, ff, tt, q⟩ := x
  go_enter Try.func14, Try.ntmps14
  go_wp2
  exact bodyPost_ret (v := .agg #[.int .i64 day, .string it, .string ba, .string ff, .string tt, .int .i64 q]) (by simp [results, Try.results14, go_sem]) rfl ⟨rfl, (((Grew.refl _).alloc _).alloc _).alloc _⟩
set_option maxHeartbeats 1000000 in
theorem eqMove_any (x y : Mv) (w : World) :
    Calls Try.prog 50 #[x.v, y.v] w fun e w' => e = .returned (.bool (decide (x = y))) ∧ Grew w w' := by
  obtain ⟨day, it, ba, ff, tt, q⟩ := x
  obtain ⟨day', it', ba', ff', tt', q'⟩ := y
  go_enter Try.func50, Try.ntmps50
  go_wp2
  all_goals go_ret
  all_goals refine ⟨ret_bool ?_, ((Grew.refl _).alloc _).alloc _⟩
  all_goals go_light
  all_goals simp_all [ba_inj]
def Mv.w (x : Mv) : Nat := x.it.size + x.ba.size + x.ff.size + x.tt.size
set_option maxHeartbeats 400000 in
theorem szMove_any (x : Mv) (m : Int) (w : World) (hm : 0 ≤ m) (hm2 : m ≤ 1048576) (h1 : x.it.size ≤ maxLen) (h2 : x.ba.size ≤ maxLen) (h3 : x.ff.size ≤ maxLen) (h4 : x.tt.size ≤ maxLen) :
    Calls Try.prog 12 #[x.v, .int .i64 m] w fun e w' => e = .returned (.int .i64 (if m < x.w then -1 else m - x.w)) ∧ Grew w w' := by
  unfold maxLen at *
  have HW : Hid (x.w = x.it.size + x.ba.size + x.ff.size + x.tt.size) := Lib.hid rfl
  obtain ⟨day, it, ba, ff, tt, q⟩ := x
  simp only at *
  go_enter Try.func12, Try.ntmps12
  go_wp2
  all_goals go_ret
  all_goals go_light
  all_goals refine ⟨ret_int ?_, (Grew.refl _).alloc _⟩
  all_goals (have hW := HW.out; first | rfl | omega)
theorem info_impl_Mv : (Try.prog.info? 26).map (fun i => (i.zero, i.size, i.bytes)) = some (some (.agg #[.int .i64 0, .string ByteArray.empty, .string ByteArray.empty, .string ByteArray.empty, .string ByteArray.empty, .int .i64 0]), 6, 80) := by kernel_rfl
set_option maxHeartbeats 1000000 in
theorem toMoveS_any (l : List Mv) (A : Option Addr) (c : Nat) (w : World) (h : Rd Mv.E w A l) (hn : l.length ≤ 1048576) :
    Calls Try.prog 25 #[.slice A l.length c] w fun e w' => e = .returned (.slice (some ⟨w.heap.size, 0, none⟩) l.length l.length) ∧
      Own Mv.E 26 w' w.heap.size (.slice (some ⟨w.heap.size, 0, none⟩) l.length l.length) l ∧ Grew w w' := by
  obtain ⟨i0, hi0, hz0, hz1, hz2⟩ := info_parts info_impl_Mv
  go_enter Try.func25, Try.ntmps25
  go_wp2_with (at_make; refine wpList_make_full _ rfl _ _ _ rfl w.heap.size 26 i0 _ 6 Try.underlying41 hi0 hz0 hz1 _ _ _ _ l.length rfl rfl rfl rfl (by rw [hz2]; omega) (by simp only [maxLen]; omega) (Nat.le_refl _) ?_; intro w1 hown1 hgr1)
  have hg1 : Grew w w1 := (Grew.refl w).grown hgr1 (by simp)
  have hb1 : w.heap.size < w1.heap.size ∨ l.length = 0 := by
    rcases Nat.eq_zero_or_pos l.length with h0 | h0
    · exact .inr h0
    · exact .inl (hown1.lt _ rfl).2
  go_loopw [4] (fun i wr => ∃ k : Nat, k ≤ l.length ∧ i = .int .i64 k ∧ Grew w wr ∧ ∃ r : List Value, r.length = (l.length - k) * 6 ∧ wr.ownsRow w.heap.size 26 6 (.slice (some ⟨w.heap.size, 0, none⟩) l.length l.length) l.length (flat Mv.E (l.take k) ++ r)) (fun i _ => l.length - (intOf i).toNat)
  case atStart => exact ⟨0, Nat.zero_le _, rfl, hg1, (madeCells (Value.cells _) (l.length * 6)).toList, by simp [madeCells], hown1⟩
  case round =>
    obtain ⟨k, hk, rfl, hg, r, hr, hown⟩ := hrel
    clear hown1 hgr1 hg1 hb1
    by_cases hlt : k < l.length
    · obtain ⟨x, hx⟩ : ∃ x, l[k]? = some x := ⟨_, List.getElem?_eq_getElem hlt⟩
      obtain ⟨b, o, rfl, hb, hc⟩ := (h.grew hg).at_ hlt
      have hcx := Mv.at_ hc hx
      obtain ⟨hc0, hc1, hc2, hc3, hc4, hc5⟩ := hcx
      have HX := Lib.hid hx
      have HR := Lib.hid hr
      have HO := Lib.hid hown
      have HG := Lib.hid hg
      clear hx hr hown hc hg h hi0 hz0 hz1 hz2
      go_wp2_with fail
      refine (toMove_any x _).mono ?_
      rintro e w2 ⟨rfl, h2⟩
      have HO2 := Lib.hid (ownsRow_grew HO.out h2)
      have hcc : ∀ j, j < 6 → ∃ u, w2.cell? ⟨w.heap.size, k * 6 + j, none⟩ = some u := fun j hj => by
        have h3 := HO2.out.cellAt (k * 6 + j) (by have : (k + 1) * 6 ≤ l.length * 6 := Nat.mul_le_mul_right _ hlt; omega)
        rw [h3]
        have h4 : (flat Mv.E (l.take k) ++ r).length = l.length * 6 := HO2.out.1
        exact ⟨_, List.getElem?_eq_getElem (by rw [h4]; have : (k + 1) * 6 ≤ l.length * 6 := Nat.mul_le_mul_right _ hlt; omega)⟩
      obtain ⟨u0, hu0⟩ := hcc 0 (by decide)
      obtain ⟨u1, hu1⟩ := hcc 1 (by decide)
      obtain ⟨u2, hu2⟩ := hcc 2 (by decide)
      obtain ⟨u3, hu3⟩ := hcc 3 (by decide)
      obtain ⟨u4, hu4⟩ := hcc 4 (by decide)
      obtain ⟨u5, hu5⟩ := hcc 5 (by decide)
      simp only [Nat.add_zero] at hu0
      have hf2 : ∀ j, w2.frozen? ⟨w.heap.size, j, none⟩ = false := fun j => HO2.out.frozenAt j
      clear hcc
      go_wp2_with fail
      have hfin : (storeL w2 w.heap.size (k * 6) (Mv.E.enc x)).ownsRow w.heap.size 26 6 (.slice (some ⟨w.heap.size, 0, none⟩) l.length l.length) l.length (flat Mv.E (l.take (k + 1)) ++ r.drop 6) := by
        have h5 := own_stores (Mv.E.enc x) _ w2 (k * 6) HO2.out
        have h6 : (flat Mv.E (l.take k)).length = k * 6 := by rw [flat_length, List.length_take, Nat.min_eq_left hk]; rfl
        have h7 := setL_app (Mv.E.enc x) (flat Mv.E (l.take k)) r (by rw [HR.out]; show 6 ≤ _; have : 1 * 6 ≤ (l.length - k) * 6 := Nat.mul_le_mul_right _ (by omega); omega)
        rw [h6, show (Mv.E.enc x).length = 6 from rfl] at h7
        rw [h7] at h5
        have h8 : l.take (k + 1) = l.take k ++ [x] := by rw [List.take_add_one, HX.out]; rfl
        rw [h8, flat_append]
        simpa [flat] using h5
      go_roundw
      case rel =>
        go_light
        refine ⟨k + 1, by omega, by go_num, ?_, r.drop 6, ?_, hfin⟩
        · have hg3 := HG.out.trans h2
          exact (((((hg3.setCell (by simp) _).setCell (by simp) _).setCell (by simp) _).setCell (by simp) _).setCell (by simp) _).setCell (by simp) _
        · rw [List.length_drop, HR.out, show l.length - k = (l.length - (k + 1)) + 1 by omega, Nat.succ_mul]; omega
      case measure => go_light; simp [intOf]; omega
    · obtain rfl : k = l.length := by omega
      have HO := Lib.hid hown
      have HR := Lib.hid hr
      clear hr hown h hi0 hz0 hz1 hz2
      go_wp2
      go_ret
      go_light
      refine ⟨rfl, ?_, hg⟩
      have hr0 : r = [] := List.eq_nil_of_length_eq_zero (by rw [HR.out]; simp)
      have := HO.out
      rw [hr0, List.append_nil, List.take_length] at this
      exact this
set_option maxHeartbeats 1000000 in
theorem eqMoveS_any (l m : List Mv) (A B : Option Addr) (c d : Nat) (w : World) (h : Rd Mv.E w A l) (h' : Rd Mv.E w B m) (hn : l.length ≤ 4194304) (hm : m.length ≤ 4194304) :
    Calls Try.prog 27 #[.slice A l.length c, .slice B m.length d] w fun e w' => e = .returned (.bool (decide (l = m))) ∧ Grew w w' := by
  by_cases hlen : l.length = m.length
  · have hb : ((l.length : Int) != (m.length : Int)) = false := by simp [hlen]
    have HL := Lib.hid hlen
    clear hlen
    go_enter Try.func27, Try.ntmps27
    go_wp2_with fail
    go_loopw [5] (fun i wr => ∃ k : Nat, k ≤ l.length ∧ i = .int .i64 k ∧ Grew w wr ∧ l.take k = m.take k) (fun i _ => l.length - (intOf i).toNat)
    case atStart => exact ⟨0, Nat.zero_le _, rfl, Grew.refl _, by simp⟩
    case round =>
      obtain ⟨k, hk, rfl, hg, heq⟩ := hrel
      have HQ := Lib.hid heq
      clear heq
      by_cases hlt : k < l.length
      · have hlt2 : k < m.length := by rw [← HL.out]; exact hlt
        obtain ⟨x, hx⟩ : ∃ x, l[k]? = some x := ⟨_, List.getElem?_eq_getElem hlt⟩
        obtain ⟨y, hy⟩ : ∃ y, m[k]? = some y := ⟨_, List.getElem?_eq_getElem hlt2⟩
        obtain ⟨b, o, rfl, hb1, hc⟩ := (h.grew hg).at_ hlt
        obtain ⟨b', o', rfl, hb1', hc'⟩ := (h'.grew hg).at_ hlt2
        have hcx := Mv.at_ hc hx
        have hcy := Mv.at_ hc' hy
        obtain ⟨hc0, hc1, hc2, hc3, hc4, hc5⟩ := hcx
        obtain ⟨hd0, hd1, hd2, hd3, hd4, hd5⟩ := hcy
        have HX := Lib.hid hx
        have HY := Lib.hid hy
        have HG := Lib.hid hg
        clear hx hy hc hc' hg h h' hb
        have hi1 : (0 : Int) ≤ (k : Int) := by omega
        have hi2 : (k : Int) < (l.length : Int) := by omega
        have hi3 : (k : Int) < (m.length : Int) := by omega
        cases hd : decide (x = y)
        · go_wp2_with fail
          (refine wp_region_grow_lit (by kernel_rfl) (by kernel_rfl) ?_; repeat (any_goals (first | go_big_quiet_step ((go_at_call 50; exact quiet_grew (eqMove_any x y _))) | quiet_step ((go_at_call 50; exact quiet_grew (eqMove_any x y _))) | (refine wpQuiet_step (fun K hK => ?_); go_simp; split <;> rename_i hsp <;> (refine hK _ ?_; clear hK K) <;> (try first | simp only [hsp, decide_true, decide_false, Bool.not_true, Bool.not_false] | simp only [Int.not_le.2 hsp, decide_false, Bool.not_false] | simp only [Int.not_lt.2 hsp, decide_false, Bool.not_false] | simp only [Nat.not_le.2 hsp, decide_false, Bool.not_false] | simp only [Nat.not_lt.2 hsp, decide_false, Bool.not_false])))))
          all_goals (refine wpQuiet_nil ?_; intro w1 h1)
          go_wp2_with fail
          go_ret
          go_light
          refine ⟨ret_bool ?_, HG.out.trans h1⟩
          have hxy : x ≠ y := of_decide_eq_false hd
          have : l ≠ m := fun e => hxy (by have h3 := HX.out; rw [e, HY.out] at h3; injection h3 with h3; exact h3.symm)
          simp [this]
        · go_wp2_with fail
          (refine wp_region_grow_lit (by kernel_rfl) (by kernel_rfl) ?_; repeat (any_goals (first | go_big_quiet_step ((go_at_call 50; exact quiet_grew (eqMove_any x y _))) | quiet_step ((go_at_call 50; exact quiet_grew (eqMove_any x y _))) | (refine wpQuiet_step (fun K hK => ?_); go_simp; split <;> rename_i hsp <;> (refine hK _ ?_; clear hK K) <;> (try first | simp only [hsp, decide_true, decide_false, Bool.not_true, Bool.not_false] | simp only [Int.not_le.2 hsp, decide_false, Bool.not_false] | simp only [Int.not_lt.2 hsp, decide_false, Bool.not_false] | simp only [Nat.not_le.2 hsp, decide_false, Bool.not_false] | simp only [Nat.not_lt.2 hsp, decide_false, Bool.not_false])))))
          all_goals (refine wpQuiet_nil ?_; intro w1 h1)
          go_wp2_with fail
          go_roundw
          case rel =>
            go_light
            refine ⟨k + 1, by omega, by go_num, HG.out.trans h1, ?_⟩
            have hxy : x = y := of_decide_eq_true hd
            rw [List.take_add_one, List.take_add_one, HQ.out, HX.out, HY.out, hxy]
          case measure => go_light; simp [intOf]; omega
      · go_wp2_with fail
        go_ret
        go_light
        refine ⟨ret_bool ?_, hg⟩
        have h1 : l = m := by
          have h2 := HQ.out
          rwa [List.take_of_length_le (by omega), List.take_of_length_le (by rw [← HL.out]; omega)] at h2
        simp [h1]
  · have hb : ((l.length : Int) != (m.length : Int)) = true := by simp; omega
    have hne : l ≠ m := fun e => hlen (by rw [e])
    go_enter Try.func27, Try.ntmps27
    go_wp2_with fail
    go_ret
    go_light
    exact ⟨ret_bool (by simp [hne]), Grew.refl _⟩
set_option maxHeartbeats 1000000 in
theorem szMoveS_any (l : List Mv) (A : Option Addr) (c : Nat) (m : Int) (w : World) (h : Rd Mv.E w A l) (hok : ∀ x ∈ l, x.Ok) (hm : 0 ≤ m) (hm2 : m ≤ 1048576) (hl : l.length ≤ maxLen) :
    Calls Try.prog 23 #[.slice A l.length c, .int .i64 m] w (SzPost l.length m w) := by
  have hl' := hl
  unfold maxLen at hl
  by_cases hlm : m < l.length
  · clear h hok
    go_enter Try.func23, Try.ntmps23
    go_wp2_with fail
    go_ret
    go_light
    exact ⟨-1, rfl, by omega, by omega, Grew.refl _⟩
  · have HOK := Lib.hid hok
    clear hok
    go_enter Try.func23, Try.ntmps23
    go_wp2_with fail
    go_loopw [1, 5] (fun v i wr => ∃ (k : Nat) (r : Int), k ≤ l.length ∧ i = .int .i64 k ∧ v = .int .i64 r ∧ 0 ≤ r ∧ r ≤ m - l.length ∧ Grew w wr) (fun _ i _ => l.length - (intOf i).toNat)
    case atStart => exact ⟨0, _, Nat.zero_le _, rfl, rfl, by omega, by omega, Grew.refl _⟩
    case round =>
      obtain ⟨k, r, hk, rfl, rfl, hr0, hr1, hg⟩ := hrel
      by_cases hlt : k < l.length
      · obtain ⟨x, hx⟩ : ∃ x, l[k]? = some x := ⟨_, List.getElem?_eq_getElem hlt⟩
        have hxo := HOK.out x (List.mem_of_getElem? hx)
        obtain ⟨b, o, rfl, hb, hc⟩ := (h.grew hg).at_ hlt
        have hcx := Mv.at_ hc hx
        obtain ⟨hc0, hc1, hc2, hc3, hc4, hc5⟩ := hcx
        have HX := Lib.hid hx
        have HG := Lib.hid hg
        have HO := Lib.hid hxo
        clear hx hc hg h hxo
        by_cases hxr : r < x.w
        · go_wp2_with fail
          refine (szMove_any x r _ hr0 (by omega) (HO.out.2.1) (HO.out.2.2.1) (HO.out.2.2.2.1) (HO.out.2.2.2.2.1)).mono ?_
          rintro e w2 ⟨rfl, h2⟩
          go_wp2_with fail
          go_ret
          go_light
          exact ⟨-1, rfl, by omega, by omega, HG.out.trans h2⟩
        · have hxr2 : (0 : Int) ≤ r - x.w := by omega
          go_wp2_with fail
          refine (szMove_any x r _ hr0 (by omega) (HO.out.2.1) (HO.out.2.2.1) (HO.out.2.2.2.1) (HO.out.2.2.2.2.1)).mono ?_
          rintro e w2 ⟨rfl, h2⟩
          go_wp2_with fail
          go_roundw
          case rel =>
            go_light
            exact ⟨k + 1, _, by omega, by go_num, rfl, by omega, by omega, HG.out.trans h2⟩
          case measure => go_light; simp [intOf]; omega
      · go_wp2_with fail
        go_ret
        go_light
        exact ⟨_, rfl, by omega, by omega, hg⟩
set_option maxRecDepth 100000 in
theorem Mv.open_ {H : Type} {enc : TypeId × Value → H} {w : World} {spare : Nat → Bool} {held : Bool} {v : Value} {d : DataW H} {p : List MemPlace} {rc : Reach} {b0 : Nat}
    (hv : Value.okWide Try.prog w rc b0 38 v) (h : DataW.Trod enc Try.prog w 0 spare held 38 v d p) :
    ∃ (l : List Mv) (A : Option Addr) (c : Nat), v = .slice A l.length c ∧ Rd Mv.E w A l ∧ l.length ≤ c ∧ c ≤ maxLen ∧ ∀ x ∈ l, x.Ok := by
  obtain ⟨a0, len0, cap0, rfl⟩ := okWide_slice Try.underlying38 hv
  obtain ⟨fuel, hf0⟩ := h
  have hf1 : DataW.trod enc Try.prog w 0 spare held fuel 38 [.slice a0 len0 cap0] = some (d, p) := by simpa [Value.cells] using hf0
  rcases open_slice_fields Try.underlying38 Try.underlying23 (by kernel_rfl) (by kernel_rfl) hf1 with ⟨hcs, _⟩ | ⟨a, len, cap, m, D, Pl, hcs, _, hl, hm, hmm, _, hi⟩
  · simp only [List.cons.injEq, Value.slice.injEq, and_true] at hcs
    obtain ⟨rfl, rfl, rfl⟩ := hcs
    exact ⟨[], none, 0, rfl, Rd.nil, Nat.le_refl _, by simp [maxLen], by simp⟩
  · simp only [List.cons.injEq, Value.slice.injEq, and_true] at hcs
    obtain ⟨rfl, rfl, rfl⟩ := hcs
    have hx : ∀ i, i < len0 → ∃ x : Mv, x.Ok ∧ ∀ j u, (Mv.E.enc x)[j]? = some u → w.cell? (a.add (i * 6 + j)) = some u := by
      intro i hil
      obtain ⟨ys, n, _, _, _, hf⟩ := hi i (by rw [hmm]; split <;> omega)
      obtain ⟨v0, y0, hv0, _, ht0⟩ := hf 0 _ rfl
      obtain ⟨day, hq0, _, hw0⟩ := DataW.trod_int Try.underlying3 ht0
      obtain rfl : v0 = .int .i64 day := by injection hq0
      obtain ⟨v1, y1, hv1, _, ht1⟩ := hf 1 _ rfl
      obtain ⟨it, hq1, _, hw1⟩ := DataW.trod_string Try.underlying9 ht1
      obtain rfl : v1 = .string it := by injection hq1
      obtain ⟨v2, y2, hv2, _, ht2⟩ := hf 2 _ rfl
      obtain ⟨ba, hq2, _, hw2⟩ := DataW.trod_string Try.underlying9 ht2
      obtain rfl : v2 = .string ba := by injection hq2
      obtain ⟨v3, y3, hv3, _, ht3⟩ := hf 3 _ rfl
      obtain ⟨ff, hq3, _, hw3⟩ := DataW.trod_string Try.underlying9 ht3
      obtain rfl : v3 = .string ff := by injection hq3
      obtain ⟨v4, y4, hv4, _, ht4⟩ := hf 4 _ rfl
      obtain ⟨tt, hq4, _, hw4⟩ := DataW.trod_string Try.underlying9 ht4
      obtain rfl : v4 = .string tt := by injection hq4
      obtain ⟨v5, y5, hv5, _, ht5⟩ := hf 5 _ rfl
      obtain ⟨q, hq5, _, hw5⟩ := DataW.trod_int Try.underlying3 ht5
      obtain rfl : v5 = .int .i64 q := by injection hq5
      refine ⟨⟨day, it, ba, ff, tt, q⟩, ⟨trivial, hw1, hw2, hw3, hw4, hw0, hw5, trivial⟩, fun j u hu => ?_⟩
      match j, hu with
      | 0, hu => (have : u = .int .i64 day := by simpa [Mv.E] using hu.symm); subst this; exact hv0
      | 1, hu => (have : u = .string it := by simpa [Mv.E] using hu.symm); subst this; exact hv1
      | 2, hu => (have : u = .string ba := by simpa [Mv.E] using hu.symm); subst this; exact hv2
      | 3, hu => (have : u = .string ff := by simpa [Mv.E] using hu.symm); subst this; exact hv3
      | 4, hu => (have : u = .string tt := by simpa [Mv.E] using hu.symm); subst this; exact hv4
      | 5, hu => (have : u = .int .i64 q := by simpa [Mv.E] using hu.symm); subst this; exact hv5
      | j + 6, hu => simp [Mv.E] at hu
    obtain ⟨l, hl1, hl2⟩ := list_of_fn len0 (fun i x => x.Ok ∧ ∀ j u, (Mv.E.enc x)[j]? = some u → w.cell? (a.add (i * 6 + j)) = some u) hx
    subst hl1
    refine ⟨l, some a, cap0, rfl, rd_of_add (E := Mv.E) (fun i x hx => (hl2 i x hx).2), hl, hm, fun x hx => ?_⟩
    obtain ⟨i, hi⟩ := List.mem_iff_getElem?.1 hx
    exact (hl2 i x hi).1

def mvOk (day : Int) (it ba ff tt : ByteArray) (q : Int) : Bool :=
  inB day 0 999 && codeB it && codeB ba && (ff.toList.isEmpty || codeB ff) && (tt.toList.isEmpty || codeB tt) && !decide (ff.toList = tt.toList) && inB q 1 100000

set_option maxHeartbeats 2000000 in
theorem isMove_impl (x : Mv) (w : World) (h1 : x.it.size ≤ maxLen) (h2 : x.ba.size ≤ maxLen) (h3 : x.ff.size ≤ maxLen) (h4 : x.tt.size ≤ maxLen) :
    Calls Try.prog 15 #[x.v] w fun e w' => e = .returned (.bool (mvOk x.day x.it x.ba x.ff x.tt x.q)) ∧ Grew w w' := by
  obtain ⟨day, it, ba, ff, tt, q⟩ := x
  simp only at h1 h2 h3 h4
  go_enter Try.func15, Try.ntmps15
  go_wp2_with (first | (go_at_call 43; refine (in_any _ _ _ _).mono ?_; rintro e w' ⟨rfl, rfl⟩) | (go_at_call 44; refine (isCode_impl _ _ (by assumption)).mono ?_; rintro e w' ⟨rfl, rfl⟩))
  all_goals go_ret
  all_goals go_light
  all_goals exact ⟨ret_bool (by first | (simp_all [mvOk]; done) | (simp [mvOk, *]; done)), (Grew.refl _).alloc _⟩
set_option maxHeartbeats 2000000 in
theorem isMove_spec (x : Mv) (w : World) (h1 : x.it.size ≤ maxLen) (h2 : x.ba.size ≤ maxLen) (h3 : x.ff.size ≤ maxLen) (h4 : x.tt.size ≤ maxLen) :
    Calls Try.prog 13 #[x.v] w fun e w' => e = .returned (.bool (mvOk x.day x.it x.ba x.ff x.tt x.q)) ∧ Grew w w' := by
  obtain ⟨day, it, ba, ff, tt, q⟩ := x
  simp only at h1 h2 h3 h4
  go_enter Try.func13, Try.ntmps13
  go_wp2_with (first | (go_at_call 41; refine (l1In_any _ _ _ _).mono ?_; rintro e w' ⟨rfl, rfl⟩) | (go_at_call 42; refine (isCode_spec _ _ (by assumption)).mono ?_; rintro e w' ⟨rfl, rfl⟩))
  all_goals go_ret
  all_goals go_light
  all_goals exact ⟨ret_bool (by first | (simp_all [mvOk]; done) | (simp [mvOk, *]; done)), (Grew.refl _).alloc _⟩
end Go.Proofs.Ytfbfhccgohmeiaa
