/- Holdings: the struct; the order of holdings; AreHoldings of the program and of the reference return what a plain function returns. Conditions: none. -/
import Derived.Test.YtfbfhccgohmeiaaMem
import Derived.Test.YtfbfhccgohmeiaaCode
namespace Go.Proofs.Ytfbfhccgohmeiaa
open Go.RowKit Go.ChangeShapes Go.WideShapes Go.Deep
set_option linter.unusedVariables false
set_option linter.unusedSimpArgs false

structure Hold where
  it : ByteArray
  ba : ByteArray
  pl : ByteArray
  q : Int
deriving DecidableEq
theorem Hold.eq_iff {x y : Hold} : x = y ↔ x.it = y.it ∧ x.ba = y.ba ∧ x.pl = y.pl ∧ x.q = y.q := by cases x; cases y; simp
abbrev Hold.v (x : Hold) : Value := .agg #[.string x.it, .string x.ba, .string x.pl, .int .i64 x.q]
def Hold.E : Enc Hold := { enc := fun x => [.string x.it, .string x.ba, .string x.pl, .int .i64 x.q], sz := 4, pos := by decide, len := fun _ => rfl, one := by intro x u hu; simp at hu; rcases hu with rfl | rfl | rfl | rfl <;> rfl }
theorem Hold.at_ {w : World} {b o : Nat} {l : List Hold} (hc : ∀ i x, l[i]? = some x → ∀ j u, (Hold.E.enc x)[j]? = some u → w.cell? ⟨b, o + i * Hold.E.sz + j, none⟩ = some u) {k : Nat} {x : Hold} (hx : l[k]? = some x) :
    w.cell? ⟨b, o + k * 4, none⟩ = some (.string x.it) ∧ w.cell? ⟨b, o + k * 4 + 1, none⟩ = some (.string x.ba) ∧ w.cell? ⟨b, o + k * 4 + 2, none⟩ = some (.string x.pl) ∧ w.cell? ⟨b, o + k * 4 + 3, none⟩ = some (.int .i64 x.q) := ⟨hc k x hx 0 _ rfl, hc k x hx 1 _ rfl, hc k x hx 2 _ rfl, hc k x hx 3 _ rfl⟩
def Hold.Ok (x : Hold) : Prop := True ∧ x.it.size ≤ maxLen ∧ x.ba.size ≤ maxLen ∧ x.pl.size ≤ maxLen ∧ (Lit.int .i64 x.q).wf = true ∧ True
set_option maxHeartbeats 400000 in
theorem toHolding_any (x : Hold) (w : World) :
    Calls Try.prog 47 #[x.v] w fun e w' => e = .returned x.v ∧ Grew w w' := by
  obtain ⟨it, ba, pl, q⟩ := x
  go_enter Try.func47, Try.ntmps47
  go_wp2
  exact bodyPost_ret (v := .agg #[.string it, .string ba, .string pl, .int .i64 q]) (by simp [results, Try.results47, go_sem]) rfl ⟨rfl, (((Grew.refl _).alloc _).alloc _).alloc _⟩
set_option maxHeartbeats 1000000 in
theorem eqHolding_any (x y : Hold) (w : World) :
    Calls Try.prog 49 #[x.v, y.v] w fun e w' => e = .returned (.bool (decide (x = y))) ∧ Grew w w' := by
  obtain ⟨it, ba, pl, q⟩ := x
  obtain ⟨it', ba', pl', q'⟩ := y
  go_enter Try.func49, Try.ntmps49
  go_wp2
  all_goals go_ret
  all_goals refine ⟨ret_bool ?_, ((Grew.refl _).alloc _).alloc _⟩
  all_goals go_light
  all_goals simp_all [ba_inj]
def Hold.w (x : Hold) : Nat := x.it.size + x.ba.size + x.pl.size
set_option maxHeartbeats 400000 in
theorem szHolding_any (x : Hold) (m : Int) (w : World) (hm : 0 ≤ m) (hm2 : m ≤ 1048576) (h0 : x.it.size ≤ maxLen) (h1 : x.ba.size ≤ maxLen) (h2 : x.pl.size ≤ maxLen) :
    Calls Try.prog 45 #[x.v, .int .i64 m] w fun e w' => e = .returned (.int .i64 (if m < x.w then -1 else m - x.w)) ∧ Grew w w' := by
  unfold maxLen at *
  have HW : Hid (x.w = x.it.size + x.ba.size + x.pl.size) := Lib.hid rfl
  obtain ⟨it, ba, pl, q⟩ := x
  simp only at *
  go_enter Try.func45, Try.ntmps45
  go_wp2
  all_goals go_ret
  all_goals go_light
  all_goals refine ⟨ret_int ?_, (Grew.refl _).alloc _⟩
  all_goals (have hW := HW.out; first | rfl | omega)
theorem info_impl_Hold : (Try.prog.info? 60).map (fun i => (i.zero, i.size, i.bytes)) = some (some (.agg #[.string ByteArray.empty, .string ByteArray.empty, .string ByteArray.empty, .int .i64 0]), 4, 56) := by kernel_rfl
set_option maxHeartbeats 1000000 in
theorem toHoldingS_any (l : List Hold) (A : Option Addr) (c : Nat) (w : World) (h : Rd Hold.E w A l) (hn : l.length ≤ 1048576) :
    Calls Try.prog 18 #[.slice A l.length c] w fun e w' => e = .returned (.slice (some ⟨w.heap.size, 0, none⟩) l.length l.length) ∧
      Own Hold.E 60 w' w.heap.size (.slice (some ⟨w.heap.size, 0, none⟩) l.length l.length) l ∧ Grew w w' := by
  obtain ⟨i0, hi0, hz0, hz1, hz2⟩ := info_parts info_impl_Hold
  go_enter Try.func18, Try.ntmps18
  go_wp2_with (at_make; refine wpList_make_full _ rfl _ _ _ rfl w.heap.size 60 i0 _ 4 Try.underlying32 hi0 hz0 hz1 _ _ _ _ l.length rfl rfl rfl rfl (by rw [hz2]; omega) (by simp only [maxLen]; omega) (Nat.le_refl _) ?_; intro w1 hown1 hgr1)
  have hg1 : Grew w w1 := (Grew.refl w).grown hgr1 (by simp)
  have hb1 : w.heap.size < w1.heap.size ∨ l.length = 0 := by
    rcases Nat.eq_zero_or_pos l.length with h0 | h0
    · exact .inr h0
    · exact .inl (hown1.lt _ rfl).2
  go_loopw [4] (fun i wr => ∃ k : Nat, k ≤ l.length ∧ i = .int .i64 k ∧ Grew w wr ∧ ∃ r : List Value, r.length = (l.length - k) * 4 ∧ wr.ownsRow w.heap.size 60 4 (.slice (some ⟨w.heap.size, 0, none⟩) l.length l.length) l.length (flat Hold.E (l.take k) ++ r)) (fun i _ => l.length - (intOf i).toNat)
  case atStart => exact ⟨0, Nat.zero_le _, rfl, hg1, (madeCells (Value.cells _) (l.length * 4)).toList, by simp [madeCells], hown1⟩
  case round =>
    obtain ⟨k, hk, rfl, hg, r, hr, hown⟩ := hrel
    clear hown1 hgr1 hg1 hb1
    by_cases hlt : k < l.length
    · obtain ⟨x, hx⟩ : ∃ x, l[k]? = some x := ⟨_, List.getElem?_eq_getElem hlt⟩
      obtain ⟨b, o, rfl, hb, hc⟩ := (h.grew hg).at_ hlt
      have hcx := Hold.at_ hc hx
      obtain ⟨hc0, hc1, hc2, hc3⟩ := hcx
      have HX := Lib.hid hx
      have HR := Lib.hid hr
      have HO := Lib.hid hown
      have HG := Lib.hid hg
      clear hx hr hown hc hg h hi0 hz0 hz1 hz2
      go_wp2_with fail
      refine (toHolding_any x _).mono ?_
      rintro e w2 ⟨rfl, h2⟩
      have HO2 := Lib.hid (ownsRow_grew HO.out h2)
      have hcc : ∀ j, j < 4 → ∃ u, w2.cell? ⟨w.heap.size, k * 4 + j, none⟩ = some u := fun j hj => by
        have h3 := HO2.out.cellAt (k * 4 + j) (by have : (k + 1) * 4 ≤ l.length * 4 := Nat.mul_le_mul_right _ hlt; omega)
        rw [h3]
        have h4 : (flat Hold.E (l.take k) ++ r).length = l.length * 4 := HO2.out.1
        exact ⟨_, List.getElem?_eq_getElem (by rw [h4]; have : (k + 1) * 4 ≤ l.length * 4 := Nat.mul_le_mul_right _ hlt; omega)⟩
      obtain ⟨u0, hu0⟩ := hcc 0 (by decide)
      obtain ⟨u1, hu1⟩ := hcc 1 (by decide)
      obtain ⟨u2, hu2⟩ := hcc 2 (by decide)
      obtain ⟨u3, hu3⟩ := hcc 3 (by decide)
      simp only [Nat.add_zero] at hu0
      have hf2 : ∀ j, w2.frozen? ⟨w.heap.size, j, none⟩ = false := fun j => HO2.out.frozenAt j
      clear hcc
      go_wp2_with fail
      have hfin : (storeL w2 w.heap.size (k * 4) (Hold.E.enc x)).ownsRow w.heap.size 60 4 (.slice (some ⟨w.heap.size, 0, none⟩) l.length l.length) l.length (flat Hold.E (l.take (k + 1)) ++ r.drop 4) := by
        have h5 := own_stores (Hold.E.enc x) _ w2 (k * 4) HO2.out
        have h6 : (flat Hold.E (l.take k)).length = k * 4 := by rw [flat_length, List.length_take, Nat.min_eq_left hk]; rfl
        have h7 := setL_app (Hold.E.enc x) (flat Hold.E (l.take k)) r (by rw [HR.out]; show 4 ≤ _; have : 1 * 4 ≤ (l.length - k) * 4 := Nat.mul_le_mul_right _ (by omega); omega)
        rw [h6, show (Hold.E.enc x).length = 4 from rfl] at h7
        rw [h7] at h5
        have h8 : l.take (k + 1) = l.take k ++ [x] := by rw [List.take_add_one, HX.out]; rfl
        rw [h8, flat_append]
        simpa [flat] using h5
      go_roundw
      case rel =>
        go_light
        refine ⟨k + 1, by omega, by go_num, ?_, r.drop 4, ?_, hfin⟩
        · have hg3 := HG.out.trans h2
          exact (((hg3.setCell (by simp) _).setCell (by simp) _).setCell (by simp) _).setCell (by simp) _
        · rw [List.length_drop, HR.out, show l.length - k = (l.length - (k + 1)) + 1 by omega, Nat.succ_mul]; omega
      case measure => go_light; simp [intOf]; omega
    · obtain rfl : k = l.length := by omega
      have HO := Lib.hid hown
      have HR := Lib.hid hr
      clear hr hown h hi0 hz0 hz1 hz2
      go_wp2
      go_ret
      go_light
      refine ⟨rfl, ?_, hg⟩
      have hr0 : r = [] := List.eq_nil_of_length_eq_zero (by rw [HR.out]; simp)
      have := HO.out
      rw [hr0, List.append_nil, List.take_length] at this
      exact this
set_option maxHeartbeats 1000000 in
theorem eqHoldingS_any (l m : List Hold) (A B : Option Addr) (c d : Nat) (w : World) (h : Rd Hold.E w A l) (h' : Rd Hold.E w B m) (hn : l.length ≤ 4194304) (hm : m.length ≤ 4194304) :
    Calls Try.prog 20 #[.slice A l.length c, .slice B m.length d] w fun e w' => e = .returned (.bool (decide (l = m))) ∧ Grew w w' := by
  by_cases hlen : l.length = m.length
  · have hb : ((l.length : Int) != (m.length : Int)) = false := by simp [hlen]
    have HL := Lib.hid hlen
    clear hlen
    go_enter Try.func20, Try.ntmps20
    go_wp2_with fail
    go_loopw [5] (fun i wr => ∃ k : Nat, k ≤ l.length ∧ i = .int .i64 k ∧ Grew w wr ∧ l.take k = m.take k) (fun i _ => l.length - (intOf i).toNat)
    case atStart => exact ⟨0, Nat.zero_le _, rfl, Grew.refl _, by simp⟩
    case round =>
      obtain ⟨k, hk, rfl, hg, heq⟩ := hrel
      have HQ := Lib.hid heq
      clear heq
      by_cases hlt : k < l.length
      · have hlt2 : k < m.length := by rw [← HL.out]; exact hlt
        obtain ⟨x, hx⟩ : ∃ x, l[k]? = some x := ⟨_, List.getElem?_eq_getElem hlt⟩
        obtain ⟨y, hy⟩ : ∃ y, m[k]? = some y := ⟨_, List.getElem?_eq_getElem hlt2⟩
        obtain ⟨b, o, rfl, hb1, hc⟩ := (h.grew hg).at_ hlt
        obtain ⟨b', o', rfl, hb1', hc'⟩ := (h'.grew hg).at_ hlt2
        have hcx := Hold.at_ hc hx
        have hcy := Hold.at_ hc' hy
        obtain ⟨hc0, hc1, hc2, hc3⟩ := hcx
        obtain ⟨hd0, hd1, hd2, hd3⟩ := hcy
        have HX := Lib.hid hx
        have HY := Lib.hid hy
        have HG := Lib.hid hg
        clear hx hy hc hc' hg h h' hb
        have hi1 : (0 : Int) ≤ (k : Int) := by omega
        have hi2 : (k : Int) < (l.length : Int) := by omega
        have hi3 : (k : Int) < (m.length : Int) := by omega
        cases hd : decide (x = y)
        · go_wp2_with fail
          (refine wp_region_grow_lit (by kernel_rfl) (by kernel_rfl) ?_; repeat (any_goals (first | go_big_quiet_step ((go_at_call 49; exact quiet_grew (eqHolding_any x y _))) | quiet_step ((go_at_call 49; exact quiet_grew (eqHolding_any x y _))) | (refine wpQuiet_step (fun K hK => ?_); go_simp; split <;> rename_i hsp <;> (refine hK _ ?_; clear hK K) <;> (try first | simp only [hsp, decide_true, decide_false, Bool.not_true, Bool.not_false] | simp only [Int.not_le.2 hsp, decide_false, Bool.not_false] | simp only [Int.not_lt.2 hsp, decide_false, Bool.not_false] | simp only [Nat.not_le.2 hsp, decide_false, Bool.not_false] | simp only [Nat.not_lt.2 hsp, decide_false, Bool.not_false])))))
          all_goals (refine wpQuiet_nil ?_; intro w1 h1)
          go_wp2_with fail
          go_ret
          go_light
          refine ⟨ret_bool ?_, HG.out.trans h1⟩
          have hxy : x ≠ y := of_decide_eq_false hd
          have : l ≠ m := fun e => hxy (by have h3 := HX.out; rw [e, HY.out] at h3; injection h3 with h3; exact h3.symm)
          simp [this]
        · go_wp2_with fail
          (refine wp_region_grow_lit (by kernel_rfl) (by kernel_rfl) ?_; repeat (any_goals (first | go_big_quiet_step ((go_at_call 49; exact quiet_grew (eqHolding_any x y _))) | quiet_step ((go_at_call 49; exact quiet_grew (eqHolding_any x y _))) | (refine wpQuiet_step (fun K hK => ?_); go_simp; split <;> rename_i hsp <;> (refine hK _ ?_; clear hK K) <;> (try first | simp only [hsp, decide_true, decide_false, Bool.not_true, Bool.not_false] | simp only [Int.not_le.2 hsp, decide_false, Bool.not_false] | simp only [Int.not_lt.2 hsp, decide_false, Bool.not_false] | simp only [Nat.not_le.2 hsp, decide_false, Bool.not_false] | simp only [Nat.not_lt.2 hsp, decide_false, Bool.not_false])))))
          all_goals (refine wpQuiet_nil ?_; intro w1 h1)
          go_wp2_with fail
          go_roundw
          case rel =>
            go_light
            refine ⟨k + 1, by omega, by go_num, HG.out.trans h1, ?_⟩
            have hxy : x = y := of_decide_eq_true hd
            rw [List.take_add_one, List.take_add_one, HQ.out, HX.out, HY.out, hxy]
          case measure => go_light; simp [intOf]; omega
      · go_wp2_with fail
        go_ret
        go_light
        refine ⟨ret_bool ?_, hg⟩
        have h1 : l = m := by
          have h2 := HQ.out
          rwa [List.take_of_length_le (by omega), List.take_of_length_le (by rw [← HL.out]; omega)] at h2
        simp [h1]
  · have hb : ((l.length : Int) != (m.length : Int)) = true := by simp; omega
    have hne : l ≠ m := fun e => hlen (by rw [e])
    go_enter Try.func20, Try.ntmps20
    go_wp2_with fail
    go_ret
    go_light
    exact ⟨ret_bool (by simp [hne]), Grew.refl _⟩
set_option maxHeartbeats 1000000 in
theorem szHoldingS_any (l : List Hold) (A : Option Addr) (c : Nat) (m : Int) (w : World) (h : Rd Hold.E w A l) (hok : ∀ x ∈ l, x.Ok) (hm : 0 ≤ m) (hm2 : m ≤ 1048576) (hl : l.length ≤ maxLen) :
    Calls Try.prog 16 #[.slice A l.length c, .int .i64 m] w (SzPost l.length m w) := by
  have hl' := hl
  unfold maxLen at hl
  by_cases hlm : m < l.length
  · clear h hok
    go_enter Try.func16, Try.ntmps16
    go_wp2_with fail
    go_ret
    go_light
    exact ⟨-1, rfl, by omega, by omega, Grew.refl _⟩
  · have HOK := Lib.hid hok
    clear hok
    go_enter Try.func16, Try.ntmps16
    go_wp2_with fail
    go_loopw [1, 5] (fun v i wr => ∃ (k : Nat) (r : Int), k ≤ l.length ∧ i = .int .i64 k ∧ v = .int .i64 r ∧ 0 ≤ r ∧ r ≤ m - l.length ∧ Grew w wr) (fun _ i _ => l.length - (intOf i).toNat)
    case atStart => exact ⟨0, _, Nat.zero_le _, rfl, rfl, by omega, by omega, Grew.refl _⟩
    case round =>
      obtain ⟨k, r, hk, rfl, rfl, hr0, hr1, hg⟩ := hrel
      by_cases hlt : k < l.length
      · obtain ⟨x, hx⟩ : ∃ x, l[k]? = some x := ⟨_, List.getElem?_eq_getElem hlt⟩
        have hxo := HOK.out x (List.mem_of_getElem? hx)
        obtain ⟨b, o, rfl, hb, hc⟩ := (h.grew hg).at_ hlt
        have hcx := Hold.at_ hc hx
        obtain ⟨hc0, hc1, hc2, hc3⟩ := hcx
        have HX := Lib.hid hx
        have HG := Lib.hid hg
        have HO := Lib.hid hxo
        clear hx hc hg h hxo
        by_cases hxr : r < x.w
        · go_wp2_with fail
          refine (szHolding_any x r _ hr0 (by omega) (HO.out.2.1) (HO.out.2.2.1) (HO.out.2.2.2.1)).mono ?_
          rintro e w2 ⟨rfl, h2⟩
          go_wp2_with fail
          go_ret
          go_light
          exact ⟨-1, rfl, by omega, by omega, HG.out.trans h2⟩
        · have hxr2 : (0 : Int) ≤ r - x.w := by omega
          go_wp2_with fail
          refine (szHolding_any x r _ hr0 (by omega) (HO.out.2.1) (HO.out.2.2.1) (HO.out.2.2.2.1)).mono ?_
          rintro e w2 ⟨rfl, h2⟩
          go_wp2_with fail
          go_roundw
          case rel =>
            go_light
            exact ⟨k + 1, _, by omega, by go_num, rfl, by omega, by omega, HG.out.trans h2⟩
          case measure => go_light; simp [intOf]; omega
      · go_wp2_with fail
        go_ret
        go_light
        exact ⟨_, rfl, by omega, by omega, hg⟩
set_option maxRecDepth 100000 in
theorem Hold.open_ {H : Type} {enc : TypeId × Value → H} {w : World} {spare : Nat → Bool} {held : Bool} {v : Value} {d : DataW H} {p : List MemPlace} {rc : Reach} {b0 : Nat}
    (hv : Value.okWide Try.prog w rc b0 29 v) (h : DataW.Trod enc Try.prog w 0 spare held 29 v d p) :
    ∃ (l : List Hold) (A : Option Addr) (c : Nat), v = .slice A l.length c ∧ Rd Hold.E w A l ∧ l.length ≤ c ∧ c ≤ maxLen ∧ ∀ x ∈ l, x.Ok := by
  obtain ⟨a0, len0, cap0, rfl⟩ := okWide_slice Try.underlying29 hv
  obtain ⟨fuel, hf0⟩ := h
  have hf1 : DataW.trod enc Try.prog w 0 spare held fuel 29 [.slice a0 len0 cap0] = some (d, p) := by simpa [Value.cells] using hf0
  rcases open_slice_fields Try.underlying29 Try.underlying64 (by kernel_rfl) (by kernel_rfl) hf1 with ⟨hcs, _⟩ | ⟨a, len, cap, m, D, Pl, hcs, _, hl, hm, hmm, _, hi⟩
  · simp only [List.cons.injEq, Value.slice.injEq, and_true] at hcs
    obtain ⟨rfl, rfl, rfl⟩ := hcs
    exact ⟨[], none, 0, rfl, Rd.nil, Nat.le_refl _, by simp [maxLen], by simp⟩
  · simp only [List.cons.injEq, Value.slice.injEq, and_true] at hcs
    obtain ⟨rfl, rfl, rfl⟩ := hcs
    have hx : ∀ i, i < len0 → ∃ x : Hold, x.Ok ∧ ∀ j u, (Hold.E.enc x)[j]? = some u → w.cell? (a.add (i * 4 + j)) = some u := by
      intro i hil
      obtain ⟨ys, n, _, _, _, hf⟩ := hi i (by rw [hmm]; split <;> omega)
      obtain ⟨v0, y0, hv0, _, ht0⟩ := hf 0 _ rfl
      obtain ⟨it, hq0, _, hw0⟩ := DataW.trod_string Try.underlying9 ht0
      obtain rfl : v0 = .string it := by injection hq0
      obtain ⟨v1, y1, hv1, _, ht1⟩ := hf 1 _ rfl
      obtain ⟨ba, hq1, _, hw1⟩ := DataW.trod_string Try.underlying9 ht1
      obtain rfl : v1 = .string ba := by injection hq1
      obtain ⟨v2, y2, hv2, _, ht2⟩ := hf 2 _ rfl
      obtain ⟨pl, hq2, _, hw2⟩ := DataW.trod_string Try.underlying9 ht2
      obtain rfl : v2 = .string pl := by injection hq2
      obtain ⟨v3, y3, hv3, _, ht3⟩ := hf 3 _ rfl
      obtain ⟨q, hq3, _, hw3⟩ := DataW.trod_int Try.underlying3 ht3
      obtain rfl : v3 = .int .i64 q := by injection hq3
      refine ⟨⟨it, ba, pl, q⟩, ⟨trivial, hw0, hw1, hw2, hw3, trivial⟩, fun j u hu => ?_⟩
      match j, hu with
      | 0, hu => (have : u = .string it := by simpa [Hold.E] using hu.symm); subst this; exact hv0
      | 1, hu => (have : u = .string ba := by simpa [Hold.E] using hu.symm); subst this; exact hv1
      | 2, hu => (have : u = .string pl := by simpa [Hold.E] using hu.symm); subst this; exact hv2
      | 3, hu => (have : u = .int .i64 q := by simpa [Hold.E] using hu.symm); subst this; exact hv3
      | j + 4, hu => simp [Hold.E] at hu
    obtain ⟨l, hl1, hl2⟩ := list_of_fn len0 (fun i x => x.Ok ∧ ∀ j u, (Hold.E.enc x)[j]? = some u → w.cell? (a.add (i * 4 + j)) = some u) hx
    subst hl1
    refine ⟨l, some a, cap0, rfl, rd_of_add (E := Hold.E) (fun i x hx => (hl2 i x hx).2), hl, hm, fun x hx => ?_⟩
    obtain ⟨i, hi⟩ := List.mem_iff_getElem?.1 hx
    exact (hl2 i x hi).1

def lessB (a b : ByteArray) : Bool := Op.bytesLess a.toList b.toList
def befH (x y : Hold) : Bool :=
  if x.it.toList = y.it.toList then (if x.ba.toList = y.ba.toList then lessB x.pl y.pl else lessB x.ba y.ba) else lessB x.it y.it
def hold0 : Hold := ⟨ByteArray.empty, ByteArray.empty, ByteArray.empty, 0⟩
def holdOk (l : List Hold) (i : Nat) : Bool :=
  codeB (l.getD i hold0).it && codeB (l.getD i hold0).ba && codeB (l.getD i hold0).pl && inB (l.getD i hold0).q 1 1000000000 && (if i = 0 then true else befH (l.getD (i - 1) hold0) (l.getD i hold0))
def areH (l : List Hold) : Bool := allTo (holdOk l) l.length && decide ((l.length : Int) ≤ 60)

set_option maxHeartbeats 1000000 in
theorem before_impl (x y : Hold) (w : World) :
    Calls Try.prog 48 #[x.v, y.v] w fun e w' => e = .returned (.bool (befH x y)) ∧ Grew w w' := by
  have HB := Lib.hid (show befH x y = (if x.it.toList = y.it.toList then (if x.ba.toList = y.ba.toList then lessB x.pl y.pl else lessB x.ba y.ba) else lessB x.it y.it) from rfl)
  obtain ⟨a1, a2, a3, a4⟩ := x
  obtain ⟨b1, b2, b3, b4⟩ := y
  simp only at HB
  go_enter Try.func48, Try.ntmps48
  go_wp2
  all_goals go_ret
  all_goals go_light
  all_goals exact ⟨ret_bool (by rw [HB.out]; simp_all [lessB]), ((Grew.refl _).alloc _).alloc _⟩

set_option maxHeartbeats 1600000 in
theorem areHoldings_impl (l : List Hold) (A : Option Addr) (c : Nat) (w : World) (h : Rd Hold.E w A l) (hok : ∀ x ∈ l, x.Ok) (hn : l.length ≤ 4194304) :
    Calls Try.prog 19 #[.slice A l.length c] w fun e w' => e = .returned (.bool (areH l)) ∧ Grew w w' := by
  have HA := Lib.hid (show areH l = (allTo (holdOk l) l.length && decide ((l.length : Int) ≤ 60)) from rfl)
  have HOK := Lib.hid hok
  clear hok
  go_enter Try.func19, Try.ntmps19
  go_wp2_with fail
  go_loopw [7] (fun i wr => ∃ k : Nat, k ≤ l.length ∧ i = .int .i64 k ∧ Grew w wr ∧ allTo (holdOk l) k = true) (fun i _ => l.length - (intOf i).toNat)
  case atStart => exact ⟨0, Nat.zero_le _, rfl, Grew.refl _, rfl⟩
  case round =>
    obtain ⟨k, hk, rfl, hg, hall⟩ := hrel
    have HALL := Lib.hid hall
    have HG := Lib.hid hg
    clear hall
    by_cases hlt : k < l.length
    · obtain ⟨x, hx⟩ : ∃ x, l[k]? = some x := ⟨_, List.getElem?_eq_getElem hlt⟩
      obtain ⟨b, o, rfl, hb, hc⟩ := (h.grew hg).at_ hlt
      obtain ⟨hc0, hc1, hc2, hc3⟩ := Hold.at_ hc hx
      obtain ⟨_, hs1, hs2, hs3, _⟩ := HOK.out x (List.mem_of_getElem? hx)
      rcases Nat.eq_zero_or_pos k with hk0 | hk0
      · have HK := Lib.hid (show holdOk l k = (codeB x.it && codeB x.ba && codeB x.pl && inB x.q 1 1000000000) by simp [holdOk, hk0, List.getD_eq_getElem?_getD, hk0 ▸ hx])
        have hkg : decide (0 < k) = false := by simp [hk0]
        clear hx hc hg h hk0
        go_wp2_with fail
        (refine wp_region_grow_lit (by kernel_rfl) (by kernel_rfl) ?_; repeat (any_goals (first | go_big_quiet_step ((first | (go_at_call 43; exact quiet_same (in_any _ _ _ _)) | (go_at_call 44; exact quiet_same (isCode_impl _ _ (by with_reducible assumption))))) | quiet_step ((first | (go_at_call 43; exact quiet_same (in_any _ _ _ _)) | (go_at_call 44; exact quiet_same (isCode_impl _ _ (by with_reducible assumption))))) | (refine wpQuiet_step (fun K hK => ?_); go_simp; split <;> rename_i hsp <;> (refine hK _ ?_; clear hK K) <;> (try first | simp only [hsp, decide_true, decide_false, Bool.not_true, Bool.not_false] | simp only [Int.not_le.2 hsp, decide_false, Bool.not_false] | simp only [Int.not_lt.2 hsp, decide_false, Bool.not_false] | simp only [Nat.not_le.2 hsp, decide_false, Bool.not_false] | simp only [Nat.not_lt.2 hsp, decide_false, Bool.not_false])))))
        all_goals (refine wpQuiet_nil ?_; intro w1 h1)
        all_goals go_wp2_with fail
        all_goals first
          | (go_ret; go_light; exact ⟨ret_bool (by rw [HA.out, allTo_not hlt (by rw [HK.out]; simp_all)]; simp), ((HG.out.alloc _).trans h1)⟩)
          | (go_roundw
             case rel => go_light; exact ⟨k + 1, by omega, by go_num, ((HG.out.alloc _).trans h1), allTo_step HALL.out (by rw [HK.out]; simp_all)⟩
             case measure => go_light; simp [intOf]; omega)
      · obtain ⟨y, hy⟩ : ∃ y, l[k - 1]? = some y := ⟨_, List.getElem?_eq_getElem (by omega)⟩
        obtain ⟨hd0, hd1, hd2, hd3⟩ := Hold.at_ hc hy
        have HK := Lib.hid (show holdOk l k = (codeB x.it && codeB x.ba && codeB x.pl && inB x.q 1 1000000000 && befH y x) by simp [holdOk, show k ≠ 0 by omega, List.getD_eq_getElem?_getD, hx, hy])
        have hkg : decide (0 < k) = true := by simp [hk0]
        have hkw : IntKind.i64.wrap ((k : Int) - 1) = (k : Int) - 1 := IntWalk.i64_in _ (by omega)
        clear hx hc hg h hy
        go_wp2_with fail
        (refine wp_region_grow_lit (by kernel_rfl) (by kernel_rfl) ?_; repeat (any_goals (first | go_big_quiet_step ((first | (go_at_call 43; exact quiet_same (in_any _ _ _ _)) | (go_at_call 48; exact quiet_grew (before_impl y x _)) | (go_at_call 44; exact quiet_same (isCode_impl _ _ (by with_reducible assumption))))) | quiet_step ((first | (go_at_call 43; exact quiet_same (in_any _ _ _ _)) | (go_at_call 48; exact quiet_grew (before_impl y x _)) | (go_at_call 44; exact quiet_same (isCode_impl _ _ (by with_reducible assumption))))) | (refine wpQuiet_step (fun K hK => ?_); go_simp; split <;> rename_i hsp <;> (refine hK _ ?_; clear hK K) <;> (try first | simp only [hsp, decide_true, decide_false, Bool.not_true, Bool.not_false] | simp only [Int.not_le.2 hsp, decide_false, Bool.not_false] | simp only [Int.not_lt.2 hsp, decide_false, Bool.not_false] | simp only [Nat.not_le.2 hsp, decide_false, Bool.not_false] | simp only [Nat.not_lt.2 hsp, decide_false, Bool.not_false])))))
        all_goals (refine wpQuiet_nil ?_; intro w1 h1)
        all_goals go_wp2_with fail
        all_goals first
          | (go_ret; go_light; exact ⟨ret_bool (by rw [HA.out, allTo_not hlt (by rw [HK.out]; simp_all)]; simp), ((HG.out.alloc _).trans h1)⟩)
          | (go_roundw
             case rel => go_light; exact ⟨k + 1, by omega, by go_num, ((HG.out.alloc _).trans h1), allTo_step HALL.out (by rw [HK.out]; simp_all)⟩
             case measure => go_light; simp [intOf]; omega)
    · obtain rfl : k = l.length := by omega
      go_wp2_with fail
      go_ret
      go_light
      exact ⟨ret_bool (by rw [HA.out, HALL.out]; rfl), HG.out⟩
set_option maxHeartbeats 1000000 in
theorem before_spec (x y : Hold) (w : World) :
    Calls Try.prog 46 #[x.v, y.v] w fun e w' => e = .returned (.bool (befH x y)) ∧ Grew w w' := by
  have HB := Lib.hid (show befH x y = (if x.it.toList = y.it.toList then (if x.ba.toList = y.ba.toList then lessB x.pl y.pl else lessB x.ba y.ba) else lessB x.it y.it) from rfl)
  obtain ⟨a1, a2, a3, a4⟩ := x
  obtain ⟨b1, b2, b3, b4⟩ := y
  simp only at HB
  go_enter Try.func46, Try.ntmps46
  go_wp2
  all_goals go_ret
  all_goals go_light
  all_goals exact ⟨ret_bool (by rw [HB.out]; simp_all [lessB]), ((Grew.refl _).alloc _).alloc _⟩

set_option maxHeartbeats 1600000 in
theorem areHoldings_spec (l : List Hold) (A : Option Addr) (c : Nat) (w : World) (h : Rd Hold.E w A l) (hok : ∀ x ∈ l, x.Ok) (hn : l.length ≤ 4194304) :
    Calls Try.prog 17 #[.slice A l.length c] w fun e w' => e = .returned (.bool (areH l)) ∧ Grew w w' := by
  have HA := Lib.hid (show areH l = (allTo (holdOk l) l.length && decide ((l.length : Int) ≤ 60)) from rfl)
  have HOK := Lib.hid hok
  clear hok
  go_enter Try.func17, Try.ntmps17
  go_wp2_with fail
  go_loopw [3] (fun i wr => ∃ k : Nat, k ≤ l.length ∧ i = .int .i64 k ∧ Grew w wr ∧ allTo (holdOk l) k = true) (fun i _ => l.length - (intOf i).toNat)
  case atStart => exact ⟨0, Nat.zero_le _, rfl, Grew.refl _, rfl⟩
  case round =>
    obtain ⟨k, hk, rfl, hg, hall⟩ := hrel
    have HALL := Lib.hid hall
    have HG := Lib.hid hg
    clear hall
    by_cases hlt : k < l.length
    · obtain ⟨x, hx⟩ : ∃ x, l[k]? = some x := ⟨_, List.getElem?_eq_getElem hlt⟩
      obtain ⟨b, o, rfl, hb, hc⟩ := (h.grew hg).at_ hlt
      obtain ⟨hc0, hc1, hc2, hc3⟩ := Hold.at_ hc hx
      obtain ⟨_, hs1, hs2, hs3, _⟩ := HOK.out x (List.mem_of_getElem? hx)
      rcases Nat.eq_zero_or_pos k with hk0 | hk0
      · have HK := Lib.hid (show holdOk l k = (codeB x.it && codeB x.ba && codeB x.pl && inB x.q 1 1000000000) by simp [holdOk, hk0, List.getD_eq_getElem?_getD, hk0 ▸ hx])
        have hkg : decide (0 < k) = false := by simp [hk0]
        clear hx hc hg h hk0
        go_wp2_with fail
        (refine wp_region_grow_lit (by kernel_rfl) (by kernel_rfl) ?_; repeat (any_goals (first | go_big_quiet_step ((first | (go_at_call 41; exact quiet_same (l1In_any _ _ _ _)) | (go_at_call 42; exact quiet_same (isCode_spec _ _ (by with_reducible assumption))))) | quiet_step ((first | (go_at_call 41; exact quiet_same (l1In_any _ _ _ _)) | (go_at_call 42; exact quiet_same (isCode_spec _ _ (by with_reducible assumption))))) | (refine wpQuiet_step (fun K hK => ?_); go_simp; split <;> rename_i hsp <;> (refine hK _ ?_; clear hK K) <;> (try first | simp only [hsp, decide_true, decide_false, Bool.not_true, Bool.not_false] | simp only [Int.not_le.2 hsp, decide_false, Bool.not_false] | simp only [Int.not_lt.2 hsp, decide_false, Bool.not_false] | simp only [Nat.not_le.2 hsp, decide_false, Bool.not_false] | simp only [Nat.not_lt.2 hsp, decide_false, Bool.not_false])))))
        all_goals (refine wpQuiet_nil ?_; intro w1 h1)
        all_goals go_wp2_with fail
        all_goals first
          | (go_ret; go_light; exact ⟨ret_bool (by rw [HA.out, allTo_not hlt (by rw [HK.out]; simp_all)]; simp), (HG.out.trans h1)⟩)
          | (go_roundw
             case rel => go_light; exact ⟨k + 1, by omega, by go_num, (HG.out.trans h1), allTo_step HALL.out (by rw [HK.out]; simp_all)⟩
             case measure => go_light; simp [intOf]; omega)
      · obtain ⟨y, hy⟩ : ∃ y, l[k - 1]? = some y := ⟨_, List.getElem?_eq_getElem (by omega)⟩
        obtain ⟨hd0, hd1, hd2, hd3⟩ := Hold.at_ hc hy
        have HK := Lib.hid (show holdOk l k = (codeB x.it && codeB x.ba && codeB x.pl && inB x.q 1 1000000000 && befH y x) by simp [holdOk, show k ≠ 0 by omega, List.getD_eq_getElem?_getD, hx, hy])
        have hkg : decide (0 < k) = true := by simp [hk0]
        have hkw : IntKind.i64.wrap ((k : Int) - 1) = (k : Int) - 1 := IntWalk.i64_in _ (by omega)
        clear hx hc hg h hy
        go_wp2_with fail
        (refine wp_region_grow_lit (by kernel_rfl) (by kernel_rfl) ?_; repeat (any_goals (first | go_big_quiet_step ((first | (go_at_call 41; exact quiet_same (l1In_any _ _ _ _)) | (go_at_call 46; exact quiet_grew (before_spec y x _)) | (go_at_call 42; exact quiet_same (isCode_spec _ _ (by with_reducible assumption))))) | quiet_step ((first | (go_at_call 41; exact quiet_same (l1In_any _ _ _ _)) | (go_at_call 46; exact quiet_grew (before_spec y x _)) | (go_at_call 42; exact quiet_same (isCode_spec _ _ (by with_reducible assumption))))) | (refine wpQuiet_step (fun K hK => ?_); go_simp; split <;> rename_i hsp <;> (refine hK _ ?_; clear hK K) <;> (try first | simp only [hsp, decide_true, decide_false, Bool.not_true, Bool.not_false] | simp only [Int.not_le.2 hsp, decide_false, Bool.not_false] | simp only [Int.not_lt.2 hsp, decide_false, Bool.not_false] | simp only [Nat.not_le.2 hsp, decide_false, Bool.not_false] | simp only [Nat.not_lt.2 hsp, decide_false, Bool.not_false])))))
        all_goals (refine wpQuiet_nil ?_; intro w1 h1)
        all_goals go_wp2_with fail
        all_goals first
          | (go_ret; go_light; exact ⟨ret_bool (by rw [HA.out, allTo_not hlt (by rw [HK.out]; simp_all)]; simp), (HG.out.trans h1)⟩)
          | (go_roundw
             case rel => go_light; exact ⟨k + 1, by omega, by go_num, (HG.out.trans h1), allTo_step HALL.out (by rw [HK.out]; simp_all)⟩
             case measure => go_light; simp [intOf]; omega)
    · obtain rfl : k = l.length := by omega
      go_wp2_with fail
      go_ret
      go_light
      exact ⟨ret_bool (by rw [HA.out, HALL.out]; rfl), HG.out⟩
end Go.Proofs.Ytfbfhccgohmeiaa
