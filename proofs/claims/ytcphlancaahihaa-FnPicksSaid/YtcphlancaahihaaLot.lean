/- Lots: the struct; the search for a batch; the order of lots; AreLots of the program returns what a plain function returns. Conditions: none. -/
import Derived.Test.YtcphlancaahihaaMem
import Derived.Test.YtcphlancaahihaaCode
namespace Go.Proofs.Ytcphlancaahihaa
open Go.RowKit Go.ChangeShapes Go.WideShapes Go.Deep
set_option linter.unusedVariables false
set_option linter.unusedSimpArgs false

structure Lt where
  ba : ByteArray
  ex : Int
  q : Int
deriving DecidableEq
theorem Lt.eq_iff {x y : Lt} : x = y ↔ x.ba = y.ba ∧ x.ex = y.ex ∧ x.q = y.q := by cases x; cases y; simp
abbrev Lt.v (x : Lt) : Value := .agg #[.string x.ba, .int .i64 x.ex, .int .i64 x.q]
def Lt.E : Enc Lt := { enc := fun x => [.string x.ba, .int .i64 x.ex, .int .i64 x.q], sz := 3, pos := by decide, len := fun _ => rfl, one := by intro x u hu; simp at hu; rcases hu with rfl | rfl | rfl <;> rfl }
theorem Lt.at_ {w : World} {b o : Nat} {l : List Lt} (hc : ∀ i x, l[i]? = some x → ∀ j u, (Lt.E.enc x)[j]? = some u → w.cell? ⟨b, o + i * Lt.E.sz + j, none⟩ = some u) {k : Nat} {x : Lt} (hx : l[k]? = some x) :
    w.cell? ⟨b, o + k * 3, none⟩ = some (.string x.ba) ∧ w.cell? ⟨b, o + k * 3 + 1, none⟩ = some (.int .i64 x.ex) ∧ w.cell? ⟨b, o + k * 3 + 2, none⟩ = some (.int .i64 x.q) := ⟨hc k x hx 0 _ rfl, hc k x hx 1 _ rfl, hc k x hx 2 _ rfl⟩
def Lt.Ok (x : Lt) : Prop := True ∧ x.ba.size ≤ maxLen ∧ (Lit.int .i64 x.ex).wf = true ∧ (Lit.int .i64 x.q).wf = true ∧ True
set_option maxHeartbeats 400000 in
theorem toLot_any (x : Lt) (w : World) :
    Calls Try.prog 18 #[x.v] w fun e w' => e = .returned x.v ∧ Grew w w' := by
  obtain ⟨ba, ex, q⟩ := x
  go_enter Try.func18, Try.ntmps18
  go_wp2
  exact bodyPost_ret (v := .agg #[.string ba, .int .i64 ex, .int .i64 q]) (by simp [results, Try.results18, go_sem]) rfl ⟨rfl, (((Grew.refl _).alloc _).alloc _).alloc _⟩
set_option maxHeartbeats 1000000 in
theorem eqLot_any (x y : Lt) (w : World) :
    Calls Try.prog 41 #[x.v, y.v] w fun e w' => e = .returned (.bool (decide (x = y))) ∧ Grew w w' := by
  obtain ⟨ba, ex, q⟩ := x
  obtain ⟨ba', ex', q'⟩ := y
  go_enter Try.func41, Try.ntmps41
  go_wp2
  all_goals go_ret
  all_goals refine ⟨ret_bool ?_, ((Grew.refl _).alloc _).alloc _⟩
  all_goals go_light
  all_goals simp_all [ba_inj]
def Lt.w (x : Lt) : Nat := x.ba.size
set_option maxHeartbeats 400000 in
theorem szLot_any (x : Lt) (m : Int) (w : World) (hm : 0 ≤ m) (hm2 : m ≤ 1048576) (h0 : x.ba.size ≤ maxLen) :
    Calls Try.prog 16 #[x.v, .int .i64 m] w fun e w' => e = .returned (.int .i64 (if m < x.w then -1 else m - x.w)) ∧ Grew w w' := by
  unfold maxLen at *
  have HW : Hid (x.w = x.ba.size) := Lib.hid rfl
  obtain ⟨ba, ex, q⟩ := x
  simp only at *
  go_enter Try.func16, Try.ntmps16
  go_wp2
  all_goals go_ret
  all_goals go_light
  all_goals refine ⟨ret_int ?_, (Grew.refl _).alloc _⟩
  all_goals (have hW := HW.out; first | rfl | omega)
theorem info_impl_Lt : (Try.prog.info? 36).map (fun i => (i.zero, i.size, i.bytes)) = some (some (.agg #[.string ByteArray.empty, .int .i64 0, .int .i64 0]), 3, 32) := by kernel_rfl
set_option maxHeartbeats 1000000 in
theorem toLotS_any (l : List Lt) (A : Option Addr) (c : Nat) (w : World) (h : Rd Lt.E w A l) (hn : l.length ≤ 1048576) :
    Calls Try.prog 11 #[.slice A l.length c] w fun e w' => e = .returned (.slice (some ⟨w.heap.size, 0, none⟩) l.length l.length) ∧
      Own Lt.E 36 w' w.heap.size (.slice (some ⟨w.heap.size, 0, none⟩) l.length l.length) l ∧ Grew w w' := by
  obtain ⟨i0, hi0, hz0, hz1, hz2⟩ := info_parts info_impl_Lt
  go_enter Try.func11, Try.ntmps11
  go_wp2_with (at_make; refine wpList_make_full _ rfl _ _ _ rfl w.heap.size 36 i0 _ 3 Try.underlying25 hi0 hz0 hz1 _ _ _ _ l.length rfl rfl rfl rfl (by rw [hz2]; omega) (by simp only [maxLen]; omega) (Nat.le_refl _) ?_; intro w1 hown1 hgr1)
  have hg1 : Grew w w1 := (Grew.refl w).grown hgr1 (by simp)
  have hb1 : w.heap.size < w1.heap.size ∨ l.length = 0 := by
    rcases Nat.eq_zero_or_pos l.length with h0 | h0
    · exact .inr h0
    · exact .inl (hown1.lt _ rfl).2
  go_loopw [4] (fun i wr => ∃ k : Nat, k ≤ l.length ∧ i = .int .i64 k ∧ Grew w wr ∧ ∃ r : List Value, r.length = (l.length - k) * 3 ∧ wr.ownsRow w.heap.size 36 3 (.slice (some ⟨w.heap.size, 0, none⟩) l.length l.length) l.length (flat Lt.E (l.take k) ++ r)) (fun i _ => l.length - (intOf i).toNat)
  case atStart => exact ⟨0, Nat.zero_le _, rfl, hg1, (madeCells (Value.cells _) (l.length * 3)).toList, by simp [madeCells], hown1⟩
  case round =>
    obtain ⟨k, hk, rfl, hg, r, hr, hown⟩ := hrel
    clear hown1 hgr1 hg1 hb1
    by_cases hlt : k < l.length
    · obtain ⟨x, hx⟩ : ∃ x, l[k]? = some x := ⟨_, List.getElem?_eq_getElem hlt⟩
      obtain ⟨b, o, rfl, hb, hc⟩ := (h.grew hg).at_ hlt
      have hcx := Lt.at_ hc hx
      obtain ⟨hc0, hc1, hc2⟩ := hcx
      have HX := Lib.hid hx
      have HR := Lib.hid hr
      have HO := Lib.hid hown
      have HG := Lib.hid hg
      clear hx hr hown hc hg h hi0 hz0 hz1 hz2
      go_wp2_with fail
      refine (toLot_any x _).mono ?_
      rintro e w2 ⟨rfl, h2⟩
      have HO2 := Lib.hid (ownsRow_grew HO.out h2)
      have hcc : ∀ j, j < 3 → ∃ u, w2.cell? ⟨w.heap.size, k * 3 + j, none⟩ = some u := fun j hj => by
        have h3 := HO2.out.cellAt (k * 3 + j) (by have : (k + 1) * 3 ≤ l.length * 3 := Nat.mul_le_mul_right _ hlt; omega)
        rw [h3]
        have h4 : (flat Lt.E (l.take k) ++ r).length = l.length * 3 := HO2.out.1
        exact ⟨_, List.getElem?_eq_getElem (by rw [h4]; have : (k + 1) * 3 ≤ l.length * 3 := Nat.mul_le_mul_right _ hlt; omega)⟩
      obtain ⟨u0, hu0⟩ := hcc 0 (by decide)
      obtain ⟨u1, hu1⟩ := hcc 1 (by decide)
      obtain ⟨u2, hu2⟩ := hcc 2 (by decide)
      simp only [Nat.add_zero] at hu0
      have hf2 : ∀ j, w2.frozen? ⟨w.heap.size, j, none⟩ = false := fun j => HO2.out.frozenAt j
      clear hcc
      go_wp2_with fail
      have hfin : (storeL w2 w.heap.size (k * 3) (Lt.E.enc x)).ownsRow w.heap.size 36 3 (.slice (some ⟨w.heap.size, 0, none⟩) l.length l.length) l.length (flat Lt.E (l.take (k + 1)) ++ r.drop 3) := by
        have h5 := own_stores (Lt.E.enc x) _ w2 (k * 3) HO2.out
        have h6 : (flat Lt.E (l.take k)).length = k * 3 := by rw [flat_length, List.length_take, Nat.min_eq_left hk]; rfl
        have h7 := setL_app (Lt.E.enc x) (flat Lt.E (l.take k)) r (by rw [HR.out]; show 3 ≤ _; have : 1 * 3 ≤ (l.length - k) * 3 := Nat.mul_le_mul_right _ (by omega); omega)
        rw [h6, show (Lt.E.enc x).length = 3 from rfl] at h7
        rw [h7] at h5
        have h8 : l.take (k + 1) = l.take k ++ [x] := by rw [List.take_add_one, HX.out]; rfl
        rw [h8, flat_append]
        simpa [flat] using h5
      go_roundw
      case rel =>
        go_light
        refine ⟨k + 1, by omega, by go_num, ?_, r.drop 3, ?_, hfin⟩
        · have hg3 := HG.out.trans h2
          exact ((hg3.setCell (by simp) _).setCell (by simp) _).setCell (by simp) _
        · rw [List.length_drop, HR.out, show l.length - k = (l.length - (k + 1)) + 1 by omega, Nat.succ_mul]; omega
      case measure => go_light; simp [intOf]; omega
    · obtain rfl : k = l.length := by omega
      have HO := Lib.hid hown
      have HR := Lib.hid hr
      clear hr hown h hi0 hz0 hz1 hz2
      go_wp2
      go_ret
      go_light
      refine ⟨rfl, ?_, hg⟩
      have hr0 : r = [] := List.eq_nil_of_length_eq_zero (by rw [HR.out]; simp)
      have := HO.out
      rw [hr0, List.append_nil, List.take_length] at this
      exact this
set_option maxHeartbeats 1000000 in
theorem eqLotS_any (l m : List Lt) (A B : Option Addr) (c d : Nat) (w : World) (h : Rd Lt.E w A l) (h' : Rd Lt.E w B m) (hn : l.length ≤ 4194304) (hm : m.length ≤ 4194304) :
    Calls Try.prog 13 #[.slice A l.length c, .slice B m.length d] w fun e w' => e = .returned (.bool (decide (l = m))) ∧ Grew w w' := by
  by_cases hlen : l.length = m.length
  · have hb : ((l.length : Int) != (m.length : Int)) = false := by simp [hlen]
    have HL := Lib.hid hlen
    clear hlen
    go_enter Try.func13, Try.ntmps13
    go_wp2_with fail
    go_loopw [5] (fun i wr => ∃ k : Nat, k ≤ l.length ∧ i = .int .i64 k ∧ Grew w wr ∧ l.take k = m.take k) (fun i _ => l.length - (intOf i).toNat)
    case atStart => exact ⟨0, Nat.zero_le _, rfl, Grew.refl _, by simp⟩
    case round =>
      obtain ⟨k, hk, rfl, hg, heq⟩ := hrel
      have HQ := Lib.hid heq
      clear heq
      by_cases hlt : k < l.length
      · have hlt2 : k < m.length := by rw [← HL.out]; exact hlt
        obtain ⟨x, hx⟩ : ∃ x, l[k]? = some x := ⟨_, List.getElem?_eq_getElem hlt⟩
        obtain ⟨y, hy⟩ : ∃ y, m[k]? = some y := ⟨_, List.getElem?_eq_getElem hlt2⟩
        obtain ⟨b, o, rfl, hb1, hc⟩ := (h.grew hg).at_ hlt
        obtain ⟨b', o', rfl, hb1', hc'⟩ := (h'.grew hg).at_ hlt2
        have hcx := Lt.at_ hc hx
        have hcy := Lt.at_ hc' hy
        obtain ⟨hc0, hc1, hc2⟩ := hcx
        obtain ⟨hd0, hd1, hd2⟩ := hcy
        have HX := Lib.hid hx
        have HY := Lib.hid hy
        have HG := Lib.hid hg
        clear hx hy hc hc' hg h h' hb
        have hi1 : (0 : Int) ≤ (k : Int) := by omega
        have hi2 : (k : Int) < (l.length : Int) := by omega
        have hi3 : (k : Int) < (m.length : Int) := by omega
        cases hd : decide (x = y)
        · go_wp2_with fail
          (refine wp_region_grow_lit (by kernel_rfl) (by kernel_rfl) ?_; repeat (any_goals (first | go_big_quiet_step ((go_at_call 41; exact quiet_grew (eqLot_any x y _))) | quiet_step ((go_at_call 41; exact quiet_grew (eqLot_any x y _))) | (refine wpQuiet_step (fun K hK => ?_); go_simp; split <;> rename_i hsp <;> (refine hK _ ?_; clear hK K) <;> (try first | simp only [hsp, decide_true, decide_false, Bool.not_true, Bool.not_false] | simp only [Int.not_le.2 hsp, decide_false, Bool.not_false] | simp only [Int.not_lt.2 hsp, decide_false, Bool.not_false] | simp only [Nat.not_le.2 hsp, decide_false, Bool.not_false] | simp only [Nat.not_lt.2 hsp, decide_false, Bool.not_false])))))
          all_goals (refine wpQuiet_nil ?_; intro w1 h1)
          go_wp2_with fail
          go_ret
          go_light
          refine ⟨ret_bool ?_, HG.out.trans h1⟩
          have hxy : x ≠ y := of_decide_eq_false hd
          have : l ≠ m := fun e => hxy (by have h3 := HX.out; rw [e, HY.out] at h3; injection h3 with h3; exact h3.symm)
          simp [this]
        · go_wp2_with fail
          (refine wp_region_grow_lit (by kernel_rfl) (by kernel_rfl) ?_; repeat (any_goals (first | go_big_quiet_step ((go_at_call 41; exact quiet_grew (eqLot_any x y _))) | quiet_step ((go_at_call 41; exact quiet_grew (eqLot_any x y _))) | (refine wpQuiet_step (fun K hK => ?_); go_simp; split <;> rename_i hsp <;> (refine hK _ ?_; clear hK K) <;> (try first | simp only [hsp, decide_true, decide_false, Bool.not_true, Bool.not_false] | simp only [Int.not_le.2 hsp, decide_false, Bool.not_false] | simp only [Int.not_lt.2 hsp, decide_false, Bool.not_false] | simp only [Nat.not_le.2 hsp, decide_false, Bool.not_false] | simp only [Nat.not_lt.2 hsp, decide_false, Bool.not_false])))))
          all_goals (refine wpQuiet_nil ?_; intro w1 h1)
          go_wp2_with fail
          go_roundw
          case rel =>
            go_light
            refine ⟨k + 1, by omega, by go_num, HG.out.trans h1, ?_⟩
            have hxy : x = y := of_decide_eq_true hd
            rw [List.take_add_one, List.take_add_one, HQ.out, HX.out, HY.out, hxy]
          case measure => go_light; simp [intOf]; omega
      · go_wp2_with fail
        go_ret
        go_light
        refine ⟨ret_bool ?_, hg⟩
        have h1 : l = m := by
          have h2 := HQ.out
          rwa [List.take_of_length_le (by omega), List.take_of_length_le (by rw [← HL.out]; omega)] at h2
        simp [h1]
  · have hb : ((l.length : Int) != (m.length : Int)) = true := by simp; omega
    have hne : l ≠ m := fun e => hlen (by rw [e])
    go_enter Try.func13, Try.ntmps13
    go_wp2_with fail
    go_ret
    go_light
    exact ⟨ret_bool (by simp [hne]), Grew.refl _⟩
set_option maxHeartbeats 1000000 in
theorem szLotS_any (l : List Lt) (A : Option Addr) (c : Nat) (m : Int) (w : World) (h : Rd Lt.E w A l) (hok : ∀ x ∈ l, x.Ok) (hm : 0 ≤ m) (hm2 : m ≤ 1048576) (hl : l.length ≤ maxLen) :
    Calls Try.prog 9 #[.slice A l.length c, .int .i64 m] w (SzPost l.length m w) := by
  have hl' := hl
  unfold maxLen at hl
  by_cases hlm : m < l.length
  · clear h hok
    go_enter Try.func9, Try.ntmps9
    go_wp2_with fail
    go_ret
    go_light
    exact ⟨-1, rfl, by omega, by omega, Grew.refl _⟩
  · have HOK := Lib.hid hok
    clear hok
    go_enter Try.func9, Try.ntmps9
    go_wp2_with fail
    go_loopw [1, 5] (fun v i wr => ∃ (k : Nat) (r : Int), k ≤ l.length ∧ i = .int .i64 k ∧ v = .int .i64 r ∧ 0 ≤ r ∧ r ≤ m - l.length ∧ Grew w wr) (fun _ i _ => l.length - (intOf i).toNat)
    case atStart => exact ⟨0, _, Nat.zero_le _, rfl, rfl, by omega, by omega, Grew.refl _⟩
    case round =>
      obtain ⟨k, r, hk, rfl, rfl, hr0, hr1, hg⟩ := hrel
      by_cases hlt : k < l.length
      · obtain ⟨x, hx⟩ : ∃ x, l[k]? = some x := ⟨_, List.getElem?_eq_getElem hlt⟩
        have hxo := HOK.out x (List.mem_of_getElem? hx)
        obtain ⟨b, o, rfl, hb, hc⟩ := (h.grew hg).at_ hlt
        have hcx := Lt.at_ hc hx
        obtain ⟨hc0, hc1, hc2⟩ := hcx
        have HX := Lib.hid hx
        have HG := Lib.hid hg
        have HO := Lib.hid hxo
        clear hx hc hg h hxo
        by_cases hxr : r < x.w
        · go_wp2_with fail
          refine (szLot_any x r _ hr0 (by omega) (HO.out.2.1)).mono ?_
          rintro e w2 ⟨rfl, h2⟩
          go_wp2_with fail
          go_ret
          go_light
          exact ⟨-1, rfl, by omega, by omega, HG.out.trans h2⟩
        · have hxr2 : (0 : Int) ≤ r - x.w := by omega
          go_wp2_with fail
          refine (szLot_any x r _ hr0 (by omega) (HO.out.2.1)).mono ?_
          rintro e w2 ⟨rfl, h2⟩
          go_wp2_with fail
          go_roundw
          case rel =>
            go_light
            exact ⟨k + 1, _, by omega, by go_num, rfl, by omega, by omega, HG.out.trans h2⟩
          case measure => go_light; simp [intOf]; omega
      · go_wp2_with fail
        go_ret
        go_light
        exact ⟨_, rfl, by omega, by omega, hg⟩
set_option maxRecDepth 100000 in
theorem Lt.open_ {H : Type} {enc : TypeId × Value → H} {w : World} {spare : Nat → Bool} {held : Bool} {v : Value} {d : DataW H} {p : List MemPlace} {rc : Reach} {b0 : Nat}
    (hv : Value.okWide Try.prog w rc b0 22 v) (h : DataW.Trod enc Try.prog w 0 spare held 22 v d p) :
    ∃ (l : List Lt) (A : Option Addr) (c : Nat), v = .slice A l.length c ∧ Rd Lt.E w A l ∧ l.length ≤ c ∧ c ≤ maxLen ∧ ∀ x ∈ l, x.Ok := by
  obtain ⟨a0, len0, cap0, rfl⟩ := okWide_slice Try.underlying22 hv
  obtain ⟨fuel, hf0⟩ := h
  have hf1 : DataW.trod enc Try.prog w 0 spare held fuel 22 [.slice a0 len0 cap0] = some (d, p) := by simpa [Value.cells] using hf0
  rcases open_slice_fields Try.underlying22 Try.underlying32 (by kernel_rfl) (by kernel_rfl) hf1 with ⟨hcs, _⟩ | ⟨a, len, cap, m, D, Pl, hcs, _, hl, hm, hmm, _, hi⟩
  · simp only [List.cons.injEq, Value.slice.injEq, and_true] at hcs
    obtain ⟨rfl, rfl, rfl⟩ := hcs
    exact ⟨[], none, 0, rfl, Rd.nil, Nat.le_refl _, by simp [maxLen], by simp⟩
  · simp only [List.cons.injEq, Value.slice.injEq, and_true] at hcs
    obtain ⟨rfl, rfl, rfl⟩ := hcs
    have hx : ∀ i, i < len0 → ∃ x : Lt, x.Ok ∧ ∀ j u, (Lt.E.enc x)[j]? = some u → w.cell? (a.add (i * 3 + j)) = some u := by
      intro i hil
      obtain ⟨ys, n, _, _, _, hf⟩ := hi i (by rw [hmm]; split <;> omega)
      obtain ⟨v0, y0, hv0, _, ht0⟩ := hf 0 _ rfl
      obtain ⟨ba, hq0, _, hw0⟩ := DataW.trod_string Try.underlying9 ht0
      obtain rfl : v0 = .string ba := by injection hq0
      obtain ⟨v1, y1, hv1, _, ht1⟩ := hf 1 _ rfl
      obtain ⟨ex, hq1, _, hw1⟩ := DataW.trod_int Try.underlying3 ht1
      obtain rfl : v1 = .int .i64 ex := by injection hq1
      obtain ⟨v2, y2, hv2, _, ht2⟩ := hf 2 _ rfl
      obtain ⟨q, hq2, _, hw2⟩ := DataW.trod_int Try.underlying3 ht2
      obtain rfl : v2 = .int .i64 q := by injection hq2
      refine ⟨⟨ba, ex, q⟩, ⟨trivial, hw0, hw1, hw2, trivial⟩, fun j u hu => ?_⟩
      match j, hu with
      | 0, hu => (have : u = .string ba := by simpa [Lt.E] using hu.symm); subst this; exact hv0
      | 1, hu => (have : u = .int .i64 ex := by simpa [Lt.E] using hu.symm); subst this; exact hv1
      | 2, hu => (have : u = .int .i64 q := by simpa [Lt.E] using hu.symm); subst this; exact hv2
      | j + 3, hu => simp [Lt.E] at hu
    obtain ⟨l, hl1, hl2⟩ := list_of_fn len0 (fun i x => x.Ok ∧ ∀ j u, (Lt.E.enc x)[j]? = some u → w.cell? (a.add (i * 3 + j)) = some u) hx
    subst hl1
    refine ⟨l, some a, cap0, rfl, rd_of_add (E := Lt.E) (fun i x hx => (hl2 i x hx).2), hl, hm, fun x hx => ?_⟩
    obtain ⟨i, hi⟩ := List.mem_iff_getElem?.1 hx
    exact (hl2 i x hi).1

def lessB (a b : ByteArray) : Bool := Op.bytesLess a.toList b.toList
def befL (x y : Lt) : Bool := if x.ex = y.ex then lessB x.ba y.ba else decide (x.ex < y.ex)
def lt0 : Lt := ⟨ByteArray.empty, 0, 0⟩
/-- The place of the first lot of a batch, counted from n on; -1 if there is none. -/
def findF (b : ByteArray) : List Lt → Nat → Int
  | [], _ => -1
  | x :: l, n => if x.ba.toList = b.toList then (n : Int) else findF b l (n + 1)
theorem findF_step {b : ByteArray} {l : List Lt} {k n : Nat} {x : Lt} (h : l[k]? = some x) : findF b (l.drop k) n = if x.ba.toList = b.toList then (n : Int) else findF b (l.drop (k + 1)) (n + 1) := by
  have hk : k < l.length := (List.getElem?_eq_some_iff.1 h).1
  have hx : l[k] = x := (List.getElem?_eq_some_iff.1 h).2
  rw [List.drop_eq_getElem_cons hk, hx]
  rfl
theorem findF_is {b : ByteArray} : ∀ (l : List Lt) (n i : Nat) (x : Lt), l[i]? = some x → x.ba.toList = b.toList →
    (findF b l n = ((n + i : Nat) : Int) ↔ ∀ k, k < i → (l.getD k lt0).ba.toList ≠ b.toList)
  | [], _, _, _, h, _ => by simp at h
  | y :: l, n, 0, x, h, hx => by
    obtain rfl : y = x := by simpa using h
    simp [findF, hx]
  | y :: l, n, i + 1, x, h, hx => by
    have ih := findF_is l (n + 1) i x (by simpa using h) hx
    by_cases hy : y.ba.toList = b.toList
    · simp only [findF, if_pos hy]
      constructor
      · intro h1; omega
      · intro h1; exact absurd hy (h1 0 (by omega))
    · simp only [findF, if_neg hy]
      rw [show n + (i + 1) = n + 1 + i by omega, ih]
      constructor
      · intro h1 k hk
        cases k with
        | zero => simpa using hy
        | succ k => simpa using h1 k (by omega)
      · intro h1 k hk
        simpa using h1 (k + 1) (by omega)
def lotOk (l : List Lt) (i : Nat) : Bool :=
  codeB (l.getD i lt0).ba && inB (l.getD i lt0).ex 0 999 && inB (l.getD i lt0).q 1 100000 && decide (findF (l.getD i lt0).ba l 0 = (i : Int)) && (if i = 0 then true else befL (l.getD (i - 1) lt0) (l.getD i lt0))
def areL (l : List Lt) : Bool := allTo (lotOk l) l.length && decide ((l.length : Int) ≤ 20)

set_option maxHeartbeats 1000000 in
theorem before_impl (x y : Lt) (w : World) :
    Calls Try.prog 40 #[x.v, y.v] w fun e w' => e = .returned (.bool (befL x y)) ∧ Grew w w' := by
  have HB := Lib.hid (show befL x y = (if x.ex = y.ex then lessB x.ba y.ba else decide (x.ex < y.ex)) from rfl)
  obtain ⟨a1, a2, a3⟩ := x
  obtain ⟨b1, b2, b3⟩ := y
  simp only at HB
  go_enter Try.func40, Try.ntmps40
  go_wp2
  all_goals go_ret
  all_goals go_light
  all_goals refine ⟨ret_bool ?_, ((Grew.refl _).alloc _).alloc _⟩
  all_goals rw [HB.out]
  all_goals first
    | (simp_all [lessB]; done)
    | (rw [if_neg (by omega)]; simp; omega)
    | (simp_all [lessB]; omega)
set_option maxHeartbeats 1000000 in
theorem before_spec (x y : Lt) (w : World) :
    Calls Try.prog 36 #[x.v, y.v] w fun e w' => e = .returned (.bool (befL x y)) ∧ Grew w w' := by
  have HB := Lib.hid (show befL x y = (if x.ex = y.ex then lessB x.ba y.ba else decide (x.ex < y.ex)) from rfl)
  obtain ⟨a1, a2, a3⟩ := x
  obtain ⟨b1, b2, b3⟩ := y
  simp only at HB
  go_enter Try.func36, Try.ntmps36
  go_wp2
  all_goals go_ret
  all_goals go_light
  all_goals refine ⟨ret_bool ?_, ((Grew.refl _).alloc _).alloc _⟩
  all_goals rw [HB.out]
  all_goals first
    | (simp_all [lessB]; done)
    | (rw [if_neg (by omega)]; simp; omega)
    | (simp_all [lessB]; omega)

set_option maxHeartbeats 1000000 in
theorem findLot_any (l : List Lt) (A : Option Addr) (c : Nat) (b : ByteArray) (w : World) (h : Rd Lt.E w A l) (hn : l.length ≤ 4194304) :
    Calls Try.prog 39 #[.slice A l.length c, .string b] w fun e w' => e = .returned (.int .i64 (findF b l 0)) ∧ Grew w w' := by
  go_enter Try.func39, Try.ntmps39
  go_wp2_with fail
  go_loopw [9] (fun i wr => ∃ k : Nat, k ≤ l.length ∧ i = .int .i64 k ∧ Grew w wr ∧ findF b l 0 = findF b (l.drop k) k) (fun i _ => l.length - (intOf i).toNat)
  case atStart => exact ⟨0, Nat.zero_le _, rfl, Grew.refl _, rfl⟩
  case round =>
    obtain ⟨k, hk, rfl, hg, hq⟩ := hrel
    have HQ := Lib.hid hq
    have HG := Lib.hid hg
    clear hq
    by_cases hlt : k < l.length
    · obtain ⟨x, hx⟩ : ∃ x, l[k]? = some x := ⟨_, List.getElem?_eq_getElem hlt⟩
      obtain ⟨bb, o, rfl, hb, hc⟩ := (h.grew hg).at_ hlt
      obtain ⟨hc0, hc1, hc2⟩ := Lt.at_ hc hx
      have HK := Lib.hid (findF_step (b := b) (n := k) hx)
      clear hx hc hg h
      go_wp2_with fail
      all_goals first
        | (go_ret; go_light; exact ⟨ret_int (by rw [HQ.out, HK.out, if_pos (by simp_all)]), HG.out.alloc _⟩)
        | (go_roundw
           case rel => go_light; exact ⟨k + 1, by omega, by go_num, HG.out.alloc _, by rw [HQ.out, HK.out, if_neg (by simp_all)]⟩
           case measure => go_light; simp [intOf]; omega)
    · obtain rfl : k = l.length := by omega
      go_wp2_with fail
      go_ret
      go_light
      exact ⟨ret_int (by rw [HQ.out, List.drop_length]; rfl), HG.out⟩

set_option maxHeartbeats 2000000 in
theorem areLots_impl (l : List Lt) (A : Option Addr) (c : Nat) (w : World) (h : Rd Lt.E w A l) (hok : ∀ x ∈ l, x.Ok) (hn : l.length ≤ 4194304) :
    Calls Try.prog 12 #[.slice A l.length c] w fun e w' => e = .returned (.bool (areL l)) ∧ Grew w w' := by
  have HA := Lib.hid (show areL l = (allTo (lotOk l) l.length && decide ((l.length : Int) ≤ 20)) from rfl)
  have HOK := Lib.hid hok
  clear hok
  go_enter Try.func12, Try.ntmps12
  go_wp2_with fail
  go_loopw [7] (fun i wr => ∃ k : Nat, k ≤ l.length ∧ i = .int .i64 k ∧ Grew w wr ∧ allTo (lotOk l) k = true) (fun i _ => l.length - (intOf i).toNat)
  case atStart => exact ⟨0, Nat.zero_le _, rfl, Grew.refl _, rfl⟩
  case round =>
    obtain ⟨k, hk, rfl, hg, hall⟩ := hrel
    have HALL := Lib.hid hall
    have HG := Lib.hid hg
    clear hall
    by_cases hlt : k < l.length
    · obtain ⟨x, hx⟩ : ∃ x, l[k]? = some x := ⟨_, List.getElem?_eq_getElem hlt⟩
      obtain ⟨b, o, rfl, hb, hc⟩ := (h.grew hg).at_ hlt
      obtain ⟨hc0, hc1, hc2⟩ := Lt.at_ hc hx
      obtain ⟨_, hs1, _⟩ := HOK.out x (List.mem_of_getElem? hx)
      have HR := Lib.hid (h.grew hg)
      have hfk : ∃ f : Int, f = findF x.ba l 0 := ⟨_, rfl⟩
      rcases Nat.eq_zero_or_pos k with hk0 | hk0
      · have HK := Lib.hid (show lotOk l k = (codeB x.ba && inB x.ex 0 999 && inB x.q 1 100000 && decide (findF x.ba l 0 = (k : Int))) by simp [lotOk, hk0, List.getD_eq_getElem?_getD, hk0 ▸ hx])
        have hkg : decide (0 < k) = false := by simp [hk0]
        clear hx hc hg h hk0 hfk
        go_wp2_with fail
        (refine wp_region_grow_lit (by kernel_rfl) (by kernel_rfl) ?_; repeat (any_goals (first | go_big_quiet_step ((first | (go_at_call 38; exact quiet_same (in_any _ _ _ _)) | (go_at_call 39; exact quiet_grew (findLot_any l _ _ x.ba _ ((HR.out.grew ((Grew.refl _).alloc _)).gw _) hn)) | (go_at_call 37; exact quiet_same (isCode_impl _ _ (by with_reducible assumption))))) | quiet_step ((first | (go_at_call 38; exact quiet_same (in_any _ _ _ _)) | (go_at_call 39; exact quiet_grew (findLot_any l _ _ x.ba _ ((HR.out.grew ((Grew.refl _).alloc _)).gw _) hn)) | (go_at_call 37; exact quiet_same (isCode_impl _ _ (by with_reducible assumption))))) | (refine wpQuiet_step (fun K hK => ?_); go_simp; split <;> rename_i hsp <;> (refine hK _ ?_; clear hK K) <;> (try first | simp only [hsp, decide_true, decide_false, Bool.not_true, Bool.not_false] | simp only [Int.not_le.2 hsp, decide_false, Bool.not_false] | simp only [Int.not_lt.2 hsp, decide_false, Bool.not_false] | simp only [Nat.not_le.2 hsp, decide_false, Bool.not_false] | simp only [Nat.not_lt.2 hsp, decide_false, Bool.not_false])))))
        all_goals (refine wpQuiet_nil ?_; intro w1 h1)
        all_goals go_wp2_with fail
        all_goals first
          | (go_ret; go_light; exact ⟨ret_bool (by rw [HA.out, allTo_not hlt (by rw [HK.out]; simp_all)]; simp), (HG.out.alloc _).trans h1⟩)
          | (go_roundw
             case rel => go_light; exact ⟨k + 1, by omega, by go_num, (HG.out.alloc _).trans h1, allTo_step HALL.out (by rw [HK.out]; simp_all)⟩
             case measure => go_light; simp [intOf]; omega)
      · obtain ⟨y, hy⟩ : ∃ y, l[k - 1]? = some y := ⟨_, List.getElem?_eq_getElem (by omega)⟩
        obtain ⟨hd0, hd1, hd2⟩ := Lt.at_ hc hy
        have HK := Lib.hid (show lotOk l k = (codeB x.ba && inB x.ex 0 999 && inB x.q 1 100000 && decide (findF x.ba l 0 = (k : Int)) && befL y x) by simp [lotOk, show k ≠ 0 by omega, List.getD_eq_getElem?_getD, hx, hy])
        have hkg : decide (0 < k) = true := by simp [hk0]
        have hkw : IntKind.i64.wrap ((k : Int) - 1) = (k : Int) - 1 := IntWalk.i64_in _ (by omega)
        clear hx hc hg h hy hfk
        go_wp2_with fail
        (refine wp_region_grow_lit (by kernel_rfl) (by kernel_rfl) ?_; repeat (any_goals (first | go_big_quiet_step ((first | (go_at_call 38; exact quiet_same (in_any _ _ _ _)) | (go_at_call 40; exact quiet_grew (before_impl y x _)) | (go_at_call 39; exact quiet_grew (findLot_any l _ _ x.ba _ ((HR.out.grew ((Grew.refl _).alloc _)).gw _) hn)) | (go_at_call 37; exact quiet_same (isCode_impl _ _ (by with_reducible assumption))))) | quiet_step ((first | (go_at_call 38; exact quiet_same (in_any _ _ _ _)) | (go_at_call 40; exact quiet_grew (before_impl y x _)) | (go_at_call 39; exact quiet_grew (findLot_any l _ _ x.ba _ ((HR.out.grew ((Grew.refl _).alloc _)).gw _) hn)) | (go_at_call 37; exact quiet_same (isCode_impl _ _ (by with_reducible assumption))))) | (refine wpQuiet_step (fun K hK => ?_); go_simp; split <;> rename_i hsp <;> (refine hK _ ?_; clear hK K) <;> (try first | simp only [hsp, decide_true, decide_false, Bool.not_true, Bool.not_false] | simp only [Int.not_le.2 hsp, decide_false, Bool.not_false] | simp only [Int.not_lt.2 hsp, decide_false, Bool.not_false] | simp only [Nat.not_le.2 hsp, decide_false, Bool.not_false] | simp only [Nat.not_lt.2 hsp, decide_false, Bool.not_false])))))
        all_goals (refine wpQuiet_nil ?_; intro w1 h1)
        all_goals go_wp2_with fail
        all_goals first
          | (go_ret; go_light; exact ⟨ret_bool (by rw [HA.out, allTo_not hlt (by rw [HK.out]; simp_all)]; simp), (HG.out.alloc _).trans h1⟩)
          | (go_roundw
             case rel => go_light; exact ⟨k + 1, by omega, by go_num, (HG.out.alloc _).trans h1, allTo_step HALL.out (by rw [HK.out]; simp_all)⟩
             case measure => go_light; simp [intOf]; omega)
    · obtain rfl : k = l.length := by omega
      go_wp2_with fail
      go_ret
      go_light
      exact ⟨ret_bool (by rw [HA.out, HALL.out]; rfl), HG.out⟩
end Go.Proofs.Ytcphlancaahihaa
