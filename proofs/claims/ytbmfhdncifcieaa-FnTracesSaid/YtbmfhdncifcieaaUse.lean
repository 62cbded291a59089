/- Uses: the struct; the search in strings; what is reached from a batch. Conditions: none. -/
import Derived.Test.YtbmfhdncifcieaaMem
import Derived.Test.YtbmfhdncifcieaaCode
import Derived.Test.YtbmfhdncifcieaaApp
namespace Go.Proofs.Ytbmfhdncifcieaa
open Go.RowKit Go.ChangeShapes Go.WideShapes Go.Deep
set_option linter.unusedVariables false
set_option linter.unusedSimpArgs false

structure Use where
  fr : ByteArray
  nt : ByteArray
  q : Int
deriving DecidableEq
theorem Use.eq_iff {x y : Use} : x = y ↔ x.fr = y.fr ∧ x.nt = y.nt ∧ x.q = y.q := by cases x; cases y; simp
abbrev Use.v (x : Use) : Value := .agg #[.string x.fr, .string x.nt, .int .i64 x.q]
def Use.E : Enc Use := { enc := fun x => [.string x.fr, .string x.nt, .int .i64 x.q], sz := 3, pos := by decide, len := fun _ => rfl, one := by intro x u hu; simp at hu; rcases hu with rfl | rfl | rfl <;> rfl }
theorem Use.at_ {w : World} {b o : Nat} {l : List Use} (hc : ∀ i x, l[i]? = some x → ∀ j u, (Use.E.enc x)[j]? = some u → w.cell? ⟨b, o + i * Use.E.sz + j, none⟩ = some u) {k : Nat} {x : Use} (hx : l[k]? = some x) :
    w.cell? ⟨b, o + k * 3, none⟩ = some (.string x.fr) ∧ w.cell? ⟨b, o + k * 3 + 1, none⟩ = some (.string x.nt) ∧ w.cell? ⟨b, o + k * 3 + 2, none⟩ = some (.int .i64 x.q) := ⟨hc k x hx 0 _ rfl, hc k x hx 1 _ rfl, hc k x hx 2 _ rfl⟩
def Use.Ok (x : Use) : Prop := True ∧ x.fr.size ≤ maxLen ∧ x.nt.size ≤ maxLen ∧ (Lit.int .i64 x.q).wf = true ∧ True
set_option maxHeartbeats 400000 in
theorem toUse_any (x : Use) (w : World) :
    Calls Try.prog 33 #[x.v] w fun e w' => e = .returned x.v ∧ Grew w w' := by
  obtain ⟨fr, nt, q⟩ := x
  go_enter Try.func33, Try.ntmps33
  go_wp2
  exact bodyPost_ret (v := .agg #[.string fr, .string nt, .int .i64 q]) (by simp [results, Try.results33, go_sem]) rfl ⟨rfl, (((Grew.refl _).alloc _).alloc _).alloc _⟩
set_option maxHeartbeats 1000000 in
theorem eqUse_any (x y : Use) (w : World) :
    Calls Try.prog 38 #[x.v, y.v] w fun e w' => e = .returned (.bool (decide (x = y))) ∧ Grew w w' := by
  obtain ⟨fr, nt, q⟩ := x
  obtain ⟨fr', nt', q'⟩ := y
  go_enter Try.func38, Try.ntmps38
  go_wp2
  all_goals go_ret
  all_goals refine ⟨ret_bool ?_, ((Grew.refl _).alloc _).alloc _⟩
  all_goals go_light
  all_goals simp_all [ba_inj]
def Use.w (x : Use) : Nat := x.fr.size + x.nt.size
set_option maxHeartbeats 400000 in
theorem szUse_any (x : Use) (m : Int) (w : World) (hm : 0 ≤ m) (hm2 : m ≤ 1048576) (h0 : x.fr.size ≤ maxLen) (h1 : x.nt.size ≤ maxLen) :
    Calls Try.prog 28 #[x.v, .int .i64 m] w fun e w' => e = .returned (.int .i64 (if m < x.w then -1 else m - x.w)) ∧ Grew w w' := by
  unfold maxLen at *
  have HW : Hid (x.w = x.fr.size + x.nt.size) := Lib.hid rfl
  obtain ⟨fr, nt, q⟩ := x
  simp only at *
  go_enter Try.func28, Try.ntmps28
  go_wp2
  all_goals go_ret
  all_goals go_light
  all_goals refine ⟨ret_int ?_, (Grew.refl _).alloc _⟩
  all_goals (have hW := HW.out; first | rfl | omega)
theorem info_impl_Use : (Try.prog.info? 50).map (fun i => (i.zero, i.size, i.bytes)) = some (some (.agg #[.string ByteArray.empty, .string ByteArray.empty, .int .i64 0]), 3, 40) := by kernel_rfl
set_option maxHeartbeats 1000000 in
theorem toUseS_any (l : List Use) (A : Option Addr) (c : Nat) (w : World) (h : Rd Use.E w A l) (hn : l.length ≤ 1048576) :
    Calls Try.prog 9 #[.slice A l.length c] w fun e w' => e = .returned (.slice (some ⟨w.heap.size, 0, none⟩) l.length l.length) ∧
      Own Use.E 50 w' w.heap.size (.slice (some ⟨w.heap.size, 0, none⟩) l.length l.length) l ∧ Grew w w' := by
  obtain ⟨i0, hi0, hz0, hz1, hz2⟩ := info_parts info_impl_Use
  go_enter Try.func9, Try.ntmps9
  go_wp2_with (at_make; refine wpList_make_full _ rfl _ _ _ rfl w.heap.size 50 i0 _ 3 Try.underlying25 hi0 hz0 hz1 _ _ _ _ l.length rfl rfl rfl rfl (by rw [hz2]; omega) (by simp only [maxLen]; omega) (Nat.le_refl _) ?_; intro w1 hown1 hgr1)
  have hg1 : Grew w w1 := (Grew.refl w).grown hgr1 (by simp)
  have hb1 : w.heap.size < w1.heap.size ∨ l.length = 0 := by
    rcases Nat.eq_zero_or_pos l.length with h0 | h0
    · exact .inr h0
    · exact .inl (hown1.lt _ rfl).2
  go_loopw [4] (fun i wr => ∃ k : Nat, k ≤ l.length ∧ i = .int .i64 k ∧ Grew w wr ∧ ∃ r : List Value, r.length = (l.length - k) * 3 ∧ wr.ownsRow w.heap.size 50 3 (.slice (some ⟨w.heap.size, 0, none⟩) l.length l.length) l.length (flat Use.E (l.take k) ++ r)) (fun i _ => l.length - (intOf i).toNat)
  case atStart => exact ⟨0, Nat.zero_le _, rfl, hg1, (madeCells (Value.cells _) (l.length * 3)).toList, by simp [madeCells], hown1⟩
  case round =>
    obtain ⟨k, hk, rfl, hg, r, hr, hown⟩ := hrel
    clear hown1 hgr1 hg1 hb1
    by_cases hlt : k < l.length
    · obtain ⟨x, hx⟩ : ∃ x, l[k]? = some x := ⟨_, List.getElem?_eq_getElem hlt⟩
      obtain ⟨b, o, rfl, hb, hc⟩ := (h.grew hg).at_ hlt
      have hcx := Use.at_ hc hx
      obtain ⟨hc0, hc1, hc2⟩ := hcx
      have HX := Lib.hid hx
      have HR := Lib.hid hr
      have HO := Lib.hid hown
      have HG := Lib.hid hg
      clear hx hr hown hc hg h hi0 hz0 hz1 hz2
      go_wp2_with fail
      refine (toUse_any x _).mono ?_
      rintro e w2 ⟨rfl, h2⟩
      have HO2 := Lib.hid (ownsRow_grew HO.out h2)
      have hcc : ∀ j, j < 3 → ∃ u, w2.cell? ⟨w.heap.size, k * 3 + j, none⟩ = some u := fun j hj => by
        have h3 := HO2.out.cellAt (k * 3 + j) (by have : (k + 1) * 3 ≤ l.length * 3 := Nat.mul_le_mul_right _ hlt; omega)
        rw [h3]
        have h4 : (flat Use.E (l.take k) ++ r).length = l.length * 3 := HO2.out.1
        exact ⟨_, List.getElem?_eq_getElem (by rw [h4]; have : (k + 1) * 3 ≤ l.length * 3 := Nat.mul_le_mul_right _ hlt; omega)⟩
      obtain ⟨u0, hu0⟩ := hcc 0 (by decide)
      obtain ⟨u1, hu1⟩ := hcc 1 (by decide)
      obtain ⟨u2, hu2⟩ := hcc 2 (by decide)
      simp only [Nat.add_zero] at hu0
      have hf2 : ∀ j, w2.frozen? ⟨w.heap.size, j, none⟩ = false := fun j => HO2.out.frozenAt j
      clear hcc
      go_wp2_with fail
      have hfin : (storeL w2 w.heap.size (k * 3) (Use.E.enc x)).ownsRow w.heap.size 50 3 (.slice (some ⟨w.heap.size, 0, none⟩) l.length l.length) l.length (flat Use.E (l.take (k + 1)) ++ r.drop 3) := by
        have h5 := own_stores (Use.E.enc x) _ w2 (k * 3) HO2.out
        have h6 : (flat Use.E (l.take k)).length = k * 3 := by rw [flat_length, List.length_take, Nat.min_eq_left hk]; rfl
        have h7 := setL_app (Use.E.enc x) (flat Use.E (l.take k)) r (by rw [HR.out]; show 3 ≤ _; have : 1 * 3 ≤ (l.length - k) * 3 := Nat.mul_le_mul_right _ (by omega); omega)
        rw [h6, show (Use.E.enc x).length = 3 from rfl] at h7
        rw [h7] at h5
        have h8 : l.take (k + 1) = l.take k ++ [x] := by rw [List.take_add_one, HX.out]; rfl
        rw [h8, flat_append]
        simpa [flat] using h5
      go_roundw
      case rel =>
        go_light
        refine ⟨k + 1, by omega, by go_num, ?_, r.drop 3, ?_, hfin⟩
        · have hg3 := HG.out.trans h2
          exact ((hg3.setCell (by simp) _).setCell (by simp) _).setCell (by simp) _
        · rw [List.length_drop, HR.out, show l.length - k = (l.length - (k + 1)) + 1 by omega, Nat.succ_mul]; omega
      case measure => go_light; simp [intOf]; omega
    · obtain rfl : k = l.length := by omega
      have HO := Lib.hid hown
      have HR := Lib.hid hr
      clear hr hown h hi0 hz0 hz1 hz2
      go_wp2
      go_ret
      go_light
      refine ⟨rfl, ?_, hg⟩
      have hr0 : r = [] := List.eq_nil_of_length_eq_zero (by rw [HR.out]; simp)
      have := HO.out
      rw [hr0, List.append_nil, List.take_length] at this
      exact this
set_option maxHeartbeats 1000000 in
theorem eqUseS_any (l m : List Use) (A B : Option Addr) (c d : Nat) (w : World) (h : Rd Use.E w A l) (h' : Rd Use.E w B m) (hn : l.length ≤ 4194304) (hm : m.length ≤ 4194304) :
    Calls Try.prog 11 #[.slice A l.length c, .slice B m.length d] w fun e w' => e = .returned (.bool (decide (l = m))) ∧ Grew w w' := by
  by_cases hlen : l.length = m.length
  · have hb : ((l.length : Int) != (m.length : Int)) = false := by simp [hlen]
    have HL := Lib.hid hlen
    clear hlen
    go_enter Try.func11, Try.ntmps11
    go_wp2_with fail
    go_loopw [5] (fun i wr => ∃ k : Nat, k ≤ l.length ∧ i = .int .i64 k ∧ Grew w wr ∧ l.take k = m.take k) (fun i _ => l.length - (intOf i).toNat)
    case atStart => exact ⟨0, Nat.zero_le _, rfl, Grew.refl _, by simp⟩
    case round =>
      obtain ⟨k, hk, rfl, hg, heq⟩ := hrel
      have HQ := Lib.hid heq
      clear heq
      by_cases hlt : k < l.length
      · have hlt2 : k < m.length := by rw [← HL.out]; exact hlt
        obtain ⟨x, hx⟩ : ∃ x, l[k]? = some x := ⟨_, List.getElem?_eq_getElem hlt⟩
        obtain ⟨y, hy⟩ : ∃ y, m[k]? = some y := ⟨_, List.getElem?_eq_getElem hlt2⟩
        obtain ⟨b, o, rfl, hb1, hc⟩ := (h.grew hg).at_ hlt
        obtain ⟨b', o', rfl, hb1', hc'⟩ := (h'.grew hg).at_ hlt2
        have hcx := Use.at_ hc hx
        have hcy := Use.at_ hc' hy
        obtain ⟨hc0, hc1, hc2⟩ := hcx
        obtain ⟨hd0, hd1, hd2⟩ := hcy
        have HX := Lib.hid hx
        have HY := Lib.hid hy
        have HG := Lib.hid hg
        clear hx hy hc hc' hg h h' hb
        have hi1 : (0 : Int) ≤ (k : Int) := by omega
        have hi2 : (k : Int) < (l.length : Int) := by omega
        have hi3 : (k : Int) < (m.length : Int) := by omega
        cases hd : decide (x = y)
        · go_wp2_with fail
          (refine wp_region_grow_lit (by kernel_rfl) (by kernel_rfl) ?_; repeat (any_goals (first | go_big_quiet_step ((go_at_call 38; exact quiet_grew (eqUse_any x y _))) | quiet_step ((go_at_call 38; exact quiet_grew (eqUse_any x y _))) | (refine wpQuiet_step (fun K hK => ?_); go_simp; split <;> rename_i hsp <;> (refine hK _ ?_; clear hK K) <;> (try first | simp only [hsp, decide_true, decide_false, Bool.not_true, Bool.not_false] | simp only [Int.not_le.2 hsp, decide_false, Bool.not_false] | simp only [Int.not_lt.2 hsp, decide_false, Bool.not_false] | simp only [Nat.not_le.2 hsp, decide_false, Bool.not_false] | simp only [Nat.not_lt.2 hsp, decide_false, Bool.not_false])))))
          all_goals (refine wpQuiet_nil ?_; intro w1 h1)
          go_wp2_with fail
          go_ret
          go_light
          refine ⟨ret_bool ?_, HG.out.trans h1⟩
          have hxy : x ≠ y := of_decide_eq_false hd
          have : l ≠ m := fun e => hxy (by have h3 := HX.out; rw [e, HY.out] at h3; injection h3 with h3; exact h3.symm)
          simp [this]
        · go_wp2_with fail
          (refine wp_region_grow_lit (by kernel_rfl) (by kernel_rfl) ?_; repeat (any_goals (first | go_big_quiet_step ((go_at_call 38; exact quiet_grew (eqUse_any x y _))) | quiet_step ((go_at_call 38; exact quiet_grew (eqUse_any x y _))) | (refine wpQuiet_step (fun K hK => ?_); go_simp; split <;> rename_i hsp <;> (refine hK _ ?_; clear hK K) <;> (try first | simp only [hsp, decide_true, decide_false, Bool.not_true, Bool.not_false] | simp only [Int.not_le.2 hsp, decide_false, Bool.not_false] | simp only [Int.not_lt.2 hsp, decide_false, Bool.not_false] | simp only [Nat.not_le.2 hsp, decide_false, Bool.not_false] | simp only [Nat.not_lt.2 hsp, decide_false, Bool.not_false])))))
          all_goals (refine wpQuiet_nil ?_; intro w1 h1)
          go_wp2_with fail
          go_roundw
          case rel =>
            go_light
            refine ⟨k + 1, by omega, by go_num, HG.out.trans h1, ?_⟩
            have hxy : x = y := of_decide_eq_true hd
            rw [List.take_add_one, List.take_add_one, HQ.out, HX.out, HY.out, hxy]
          case measure => go_light; simp [intOf]; omega
      · go_wp2_with fail
        go_ret
        go_light
        refine ⟨ret_bool ?_, hg⟩
        have h1 : l = m := by
          have h2 := HQ.out
          rwa [List.take_of_length_le (by omega), List.take_of_length_le (by rw [← HL.out]; omega)] at h2
        simp [h1]
  · have hb : ((l.length : Int) != (m.length : Int)) = true := by simp; omega
    have hne : l ≠ m := fun e => hlen (by rw [e])
    go_enter Try.func11, Try.ntmps11
    go_wp2_with fail
    go_ret
    go_light
    exact ⟨ret_bool (by simp [hne]), Grew.refl _⟩
set_option maxHeartbeats 1000000 in
theorem szUseS_any (l : List Use) (A : Option Addr) (c : Nat) (m : Int) (w : World) (h : Rd Use.E w A l) (hok : ∀ x ∈ l, x.Ok) (hm : 0 ≤ m) (hm2 : m ≤ 1048576) (hl : l.length ≤ maxLen) :
    Calls Try.prog 7 #[.slice A l.length c, .int .i64 m] w (SzPost l.length m w) := by
  have hl' := hl
  unfold maxLen at hl
  by_cases hlm : m < l.length
  · clear h hok
    go_enter Try.func7, Try.ntmps7
    go_wp2_with fail
    go_ret
    go_light
    exact ⟨-1, rfl, by omega, by omega, Grew.refl _⟩
  · have HOK := Lib.hid hok
    clear hok
    go_enter Try.func7, Try.ntmps7
    go_wp2_with fail
    go_loopw [1, 5] (fun v i wr => ∃ (k : Nat) (r : Int), k ≤ l.length ∧ i = .int .i64 k ∧ v = .int .i64 r ∧ 0 ≤ r ∧ r ≤ m - l.length ∧ Grew w wr) (fun _ i _ => l.length - (intOf i).toNat)
    case atStart => exact ⟨0, _, Nat.zero_le _, rfl, rfl, by omega, by omega, Grew.refl _⟩
    case round =>
      obtain ⟨k, r, hk, rfl, rfl, hr0, hr1, hg⟩ := hrel
      by_cases hlt : k < l.length
      · obtain ⟨x, hx⟩ : ∃ x, l[k]? = some x := ⟨_, List.getElem?_eq_getElem hlt⟩
        have hxo := HOK.out x (List.mem_of_getElem? hx)
        obtain ⟨b, o, rfl, hb, hc⟩ := (h.grew hg).at_ hlt
        have hcx := Use.at_ hc hx
        obtain ⟨hc0, hc1, hc2⟩ := hcx
        have HX := Lib.hid hx
        have HG := Lib.hid hg
        have HO := Lib.hid hxo
        clear hx hc hg h hxo
        by_cases hxr : r < x.w
        · go_wp2_with fail
          refine (szUse_any x r _ hr0 (by omega) (HO.out.2.1) (HO.out.2.2.1)).mono ?_
          rintro e w2 ⟨rfl, h2⟩
          go_wp2_with fail
          go_ret
          go_light
          exact ⟨-1, rfl, by omega, by omega, HG.out.trans h2⟩
        · have hxr2 : (0 : Int) ≤ r - x.w := by omega
          go_wp2_with fail
          refine (szUse_any x r _ hr0 (by omega) (HO.out.2.1) (HO.out.2.2.1)).mono ?_
          rintro e w2 ⟨rfl, h2⟩
          go_wp2_with fail
          go_roundw
          case rel =>
            go_light
            exact ⟨k + 1, _, by omega, by go_num, rfl, by omega, by omega, HG.out.trans h2⟩
          case measure => go_light; simp [intOf]; omega
      · go_wp2_with fail
        go_ret
        go_light
        exact ⟨_, rfl, by omega, by omega, hg⟩
set_option maxRecDepth 100000 in
theorem Use.open_ {H : Type} {enc : TypeId × Value → H} {w : World} {spare : Nat → Bool} {held : Bool} {v : Value} {d : DataW H} {p : List MemPlace} {rc : Reach} {b0 : Nat}
    (hv : Value.okWide Try.prog w rc b0 22 v) (h : DataW.Trod enc Try.prog w 0 spare held 22 v d p) :
    ∃ (l : List Use) (A : Option Addr) (c : Nat), v = .slice A l.length c ∧ Rd Use.E w A l ∧ l.length ≤ c ∧ c ≤ maxLen ∧ ∀ x ∈ l, x.Ok := by
  obtain ⟨a0, len0, cap0, rfl⟩ := okWide_slice Try.underlying22 hv
  obtain ⟨fuel, hf0⟩ := h
  have hf1 : DataW.trod enc Try.prog w 0 spare held fuel 22 [.slice a0 len0 cap0] = some (d, p) := by simpa [Value.cells] using hf0
  rcases open_slice_fields Try.underlying22 Try.underlying52 (by kernel_rfl) (by kernel_rfl) hf1 with ⟨hcs, _⟩ | ⟨a, len, cap, m, D, Pl, hcs, _, hl, hm, hmm, _, hi⟩
  · simp only [List.cons.injEq, Value.slice.injEq, and_true] at hcs
    obtain ⟨rfl, rfl, rfl⟩ := hcs
    exact ⟨[], none, 0, rfl, Rd.nil, Nat.le_refl _, by simp [maxLen], by simp⟩
  · simp only [List.cons.injEq, Value.slice.injEq, and_true] at hcs
    obtain ⟨rfl, rfl, rfl⟩ := hcs
    have hx : ∀ i, i < len0 → ∃ x : Use, x.Ok ∧ ∀ j u, (Use.E.enc x)[j]? = some u → w.cell? (a.add (i * 3 + j)) = some u := by
      intro i hil
      obtain ⟨ys, n, _, _, _, hf⟩ := hi i (by rw [hmm]; split <;> omega)
      obtain ⟨v0, y0, hv0, _, ht0⟩ := hf 0 _ rfl
      obtain ⟨fr, hq0, _, hw0⟩ := DataW.trod_string Try.underlying9 ht0
      obtain rfl : v0 = .string fr := by injection hq0
      obtain ⟨v1, y1, hv1, _, ht1⟩ := hf 1 _ rfl
      obtain ⟨nt, hq1, _, hw1⟩ := DataW.trod_string Try.underlying9 ht1
      obtain rfl : v1 = .string nt := by injection hq1
      obtain ⟨v2, y2, hv2, _, ht2⟩ := hf 2 _ rfl
      obtain ⟨q, hq2, _, hw2⟩ := DataW.trod_int Try.underlying3 ht2
      obtain rfl : v2 = .int .i64 q := by injection hq2
      refine ⟨⟨fr, nt, q⟩, ⟨trivial, hw0, hw1, hw2, trivial⟩, fun j u hu => ?_⟩
      match j, hu with
      | 0, hu => (have : u = .string fr := by simpa [Use.E] using hu.symm); subst this; exact hv0
      | 1, hu => (have : u = .string nt := by simpa [Use.E] using hu.symm); subst this; exact hv1
      | 2, hu => (have : u = .int .i64 q := by simpa [Use.E] using hu.symm); subst this; exact hv2
      | j + 3, hu => simp [Use.E] at hu
    obtain ⟨l, hl1, hl2⟩ := list_of_fn len0 (fun i x => x.Ok ∧ ∀ j u, (Use.E.enc x)[j]? = some u → w.cell? (a.add (i * 3 + j)) = some u) hx
    subst hl1
    refine ⟨l, some a, cap0, rfl, rd_of_add (E := Use.E) (fun i x hx => (hl2 i x hx).2), hl, hm, fun x hx => ?_⟩
    obtain ⟨i, hi⟩ := List.mem_iff_getElem?.1 hx
    exact (hl2 i x hi).1

def Str.E : Enc ByteArray := { enc := fun x => [.string x], sz := 1, pos := by decide, len := fun _ => rfl, one := by intro x u hu; simp at hu; subst hu; rfl }
theorem Str.at_ {w : World} {b o : Nat} {l : List ByteArray} (hc : ∀ i x, l[i]? = some x → ∀ j u, (Str.E.enc x)[j]? = some u → w.cell? ⟨b, o + i * Str.E.sz + j, none⟩ = some u) {k : Nat} {x : ByteArray} (hx : l[k]? = some x) :
    w.cell? ⟨b, o + k, none⟩ = some (.string x) := by
  have := hc k x hx 0 _ rfl
  simpa [Str.E] using this
def Num.E : Enc Int := { enc := fun x => [.int .i64 x], sz := 1, pos := by decide, len := fun _ => rfl, one := by intro x u hu; simp at hu; subst hu; rfl }
theorem Num.at_ {w : World} {b o : Nat} {l : List Int} (hc : ∀ i x, l[i]? = some x → ∀ j u, (Num.E.enc x)[j]? = some u → w.cell? ⟨b, o + i * Num.E.sz + j, none⟩ = some u) {k : Nat} {x : Int} (hx : l[k]? = some x) :
    w.cell? ⟨b, o + k, none⟩ = some (.int .i64 x) := by
  have := hc k x hx 0 _ rfl
  simpa [Num.E] using this
theorem sl_Str : SlInf Try.prog Str.E 36 9 := info_sl Try.underlying36 (s := 1) (b := 16) (z := .string ByteArray.empty) (by kernel_rfl) rfl rfl (by decide)
theorem sl_Num : SlInf Try.prog Num.E 58 3 := info_sl Try.underlying58 (s := 1) (b := 8) (z := .int .i64 0) (by kernel_rfl) rfl rfl (by decide)

def str0 : ByteArray := ByteArray.empty
def use0 : Use := ⟨str0, str0, 0⟩
/-- The place of a string's first copy; the length if there is none. -/
def fnd (s : ByteArray) : List ByteArray → Nat
  | [] => 0
  | x :: l => if x.toList = s.toList then 0 else fnd s l + 1
theorem fnd_le (s : ByteArray) : ∀ l, fnd s l ≤ l.length
  | [] => Nat.le_refl _
  | x :: l => by have := fnd_le s l; simp only [fnd, List.length_cons]; split <;> omega
theorem fnd_all {s : ByteArray} : ∀ {l : List ByteArray}, (∀ i, i < l.length → (l.getD i str0).toList ≠ s.toList) → fnd s l = l.length
  | [], _ => rfl
  | x :: l, h => by
    have h0 := h 0 (by simp)
    have := fnd_all (l := l) fun i hi => by simpa using h (i + 1) (by simpa using hi)
    simp only [List.getD_cons_zero] at h0
    simp only [fnd, if_neg h0, this, List.length_cons]
theorem fnd_first {s : ByteArray} : ∀ {l : List ByteArray} {k : Nat}, k < l.length → (l.getD k str0).toList = s.toList → (∀ i, i < k → (l.getD i str0).toList ≠ s.toList) → fnd s l = k
  | [], _, h, _, _ => by simp at h
  | x :: l, 0, _, h1, _ => by
    simp only [List.getD_cons_zero] at h1
    simp [fnd, h1]
  | x :: l, k + 1, h, h1, h2 => by
    have h0 := h2 0 (by omega)
    simp only [List.getD_cons_zero] at h0
    have := fnd_first (l := l) (k := k) (by simpa using h) (by simpa using h1) fun i hi => by simpa using h2 (i + 1) (by omega)
    simp only [fnd, if_neg h0, this]
theorem fnd_lt {s : ByteArray} {l : List ByteArray} : fnd s l < l.length ↔ ∃ x ∈ l, x.toList = s.toList := by
  induction l with
  | nil => simp [fnd]
  | cons x l ih =>
    simp only [fnd, List.length_cons, List.mem_cons, exists_eq_or_imp]
    split
    · rename_i h; simp [h]
    · rename_i h; rw [Nat.add_lt_add_iff_right, ih]; simp [h]
def findI (s : ByteArray) (l : List ByteArray) : Int := if fnd s l < l.length then (fnd s l : Int) else -1
theorem findI_neg {s : ByteArray} {l : List ByteArray} : findI s l < 0 ↔ ¬ fnd s l < l.length := by
  unfold findI
  split <;> omega

set_option maxHeartbeats 1000000 in
theorem find_impl (s : ByteArray) (l : List ByteArray) (A : Option Addr) (c : Nat) (w : World) (h : Rd Str.E w A l) (hn : l.length ≤ 1099511627776) :
    Calls Try.prog 37 #[.slice A l.length c, .string s] w fun e w' => e = .returned (.int .i64 (findI s l)) ∧ w = w' := by
  go_enter Try.func37, Try.ntmps37
  go_wp2_with fail
  go_loopw [9] (fun i wr => ∃ k : Nat, k ≤ l.length ∧ i = .int .i64 k ∧ w = wr ∧ ∀ i, i < k → (l.getD i str0).toList ≠ s.toList) (fun i _ => l.length - (intOf i).toNat)
  case atStart => exact ⟨0, Nat.zero_le _, rfl, rfl, fun i hi => absurd hi (by omega)⟩
  case round =>
    obtain ⟨k, hk, rfl, rfl, hne⟩ := hrel
    have HNE := Lib.hid hne
    clear hne
    by_cases hlt : k < l.length
    · obtain ⟨x, hx⟩ : ∃ x, l[k]? = some x := ⟨_, List.getElem?_eq_getElem hlt⟩
      obtain ⟨b, o, rfl, hb, hc⟩ := h.at_ hlt
      have hc0 := Str.at_ hc hx
      have HK := Lib.hid (show (l.getD k str0) = x by simp [List.getD_eq_getElem?_getD, hx])
      clear hx hc h
      by_cases heq : x.toList = s.toList
      · have hdd : (x.toList == s.toList) = true := by simpa using heq
        have HE := Lib.hid heq
        clear heq
        go_wp2_with fail
        go_ret
        go_light
        have h9 := fnd_first hlt (by rw [HK.out]; exact HE.out) HNE.out
        exact ⟨by simp only [findI, h9, if_pos hlt]; rfl, rfl⟩
      · have hdd : (x.toList == s.toList) = false := by simpa using heq
        have HE := Lib.hid heq
        clear heq
        go_wp2_with fail
        go_roundw
        case rel =>
          go_light
          refine ⟨k + 1, by omega, by go_num, trivial, fun i hi => ?_⟩
          rcases Nat.lt_succ_iff_lt_or_eq.1 hi with h2 | rfl
          · exact HNE.out i h2
          · rw [HK.out]; exact HE.out
        case measure => go_light; simp [intOf]; omega
    · obtain rfl : k = l.length := by omega
      clear h
      go_wp2_with fail
      go_ret
      go_light
      have h9 := fnd_all HNE.out
      exact ⟨by simp only [findI, h9, Nat.lt_irrefl, if_false]; rfl, rfl⟩
set_option maxHeartbeats 1000000 in
theorem find_spec (s : ByteArray) (l : List ByteArray) (A : Option Addr) (c : Nat) (w : World) (h : Rd Str.E w A l) (hn : l.length ≤ 1099511627776) :
    Calls Try.prog 31 #[.slice A l.length c, .string s] w fun e w' => e = .returned (.int .i64 (findI s l)) ∧ w = w' := by
  go_enter Try.func31, Try.ntmps31
  go_wp2_with fail
  go_loopw [5] (fun i wr => ∃ k : Nat, k ≤ l.length ∧ i = .int .i64 k ∧ w = wr ∧ ∀ i, i < k → (l.getD i str0).toList ≠ s.toList) (fun i _ => l.length - (intOf i).toNat)
  case atStart => exact ⟨0, Nat.zero_le _, rfl, rfl, fun i hi => absurd hi (by omega)⟩
  case round =>
    obtain ⟨k, hk, rfl, rfl, hne⟩ := hrel
    have HNE := Lib.hid hne
    clear hne
    by_cases hlt : k < l.length
    · obtain ⟨x, hx⟩ : ∃ x, l[k]? = some x := ⟨_, List.getElem?_eq_getElem hlt⟩
      obtain ⟨b, o, rfl, hb, hc⟩ := h.at_ hlt
      have hc0 := Str.at_ hc hx
      have HK := Lib.hid (show (l.getD k str0) = x by simp [List.getD_eq_getElem?_getD, hx])
      clear hx hc h
      by_cases heq : x.toList = s.toList
      · have hdd : (x.toList == s.toList) = true := by simpa using heq
        have HE := Lib.hid heq
        clear heq
        go_wp2_with fail
        go_ret
        go_light
        have h9 := fnd_first hlt (by rw [HK.out]; exact HE.out) HNE.out
        exact ⟨by simp only [findI, h9, if_pos hlt]; rfl, rfl⟩
      · have hdd : (x.toList == s.toList) = false := by simpa using heq
        have HE := Lib.hid heq
        clear heq
        go_wp2_with fail
        go_roundw
        case rel =>
          go_light
          refine ⟨k + 1, by omega, by go_num, trivial, fun i hi => ?_⟩
          rcases Nat.lt_succ_iff_lt_or_eq.1 hi with h2 | rfl
          · exact HNE.out i h2
          · rw [HK.out]; exact HE.out
        case measure => go_light; simp [intOf]; omega
    · obtain rfl : k = l.length := by omega
      clear h
      go_wp2_with fail
      go_ret
      go_light
      have h9 := fnd_all HNE.out
      exact ⟨by simp only [findI, h9, Nat.lt_irrefl, if_false]; rfl, rfl⟩

/-- One use, seen from the i-th batch. -/
def useA (up : Bool) (x : Use) : ByteArray := if up then x.nt else x.fr
def useB (up : Bool) (x : Use) : ByteArray := if up then x.fr else x.nt
abbrev Trc := List ByteArray × List Int
def trStep (up : Bool) (b : ByteArray) (i : Nat) (s : Trc) (x : Use) : Trc :=
  if (useA up x).toList = b.toList ∧ ¬ fnd (useB up x) s.1 < s.1.length then (s.1 ++ [useB up x], s.2 ++ [(i : Int)]) else s
def trScan (up : Bool) (l : List Use) (b : ByteArray) (i : Nat) (s : Trc) (k : Nat) : Trc := (l.take k).foldl (trStep up b i) s
def trTo (up : Bool) (l : List Use) (b : ByteArray) : Nat → Trc
  | 0 => ([b], [-1])
  | i + 1 => if i < (trTo up l b i).1.length then trScan up l ((trTo up l b i).1.getD i str0) i (trTo up l b i) l.length else trTo up l b i
def trF (up : Bool) (l : List Use) (b : ByteArray) : Trc := trTo up l b (l.length + 1)
theorem trScan_step {up : Bool} {l : List Use} {b : ByteArray} {i k : Nat} {s : Trc} {x : Use} (h : l[k]? = some x) : trScan up l b i s (k + 1) = trStep up b i (trScan up l b i s k) x := by
  simp only [trScan, List.take_add_one, h, Option.toList_some, List.foldl_append, List.foldl_cons, List.foldl_nil]
/-- The batches found differ, and every one but the first is one that a use leads to. -/
structure TrOk (up : Bool) (l : List Use) (b : ByteArray) (s : Trc) : Prop where
  nd : (s.1.map (·.toList)).Nodup
  mem : ∀ x ∈ s.1, x.toList ∈ b.toList :: l.map fun u => (useB up u).toList
  len : s.2.length = s.1.length
theorem trStep_ok {up : Bool} {l : List Use} {b c : ByteArray} {i : Nat} {s : Trc} {x : Use} (h : TrOk up l b s) (hx : x ∈ l) : TrOk up l b (trStep up c i s x) := by
  unfold trStep
  split
  · rename_i hc
    refine ⟨?_, ?_, ?_⟩
    · rw [List.map_append, List.nodup_append]
      refine ⟨h.nd, by simp, ?_⟩
      intro a ha d hd
      simp only [List.map_cons, List.map_nil, List.mem_singleton] at hd
      subst hd
      rintro rfl
      obtain ⟨y, hy, he⟩ := List.mem_map.1 ha
      exact hc.2 (fnd_lt.2 ⟨y, hy, he⟩)
    · intro y hy
      rw [List.mem_append] at hy
      rcases hy with hy | hy
      · exact h.mem y hy
      · obtain rfl : y = useB up x := by simpa using hy
        exact List.mem_cons_of_mem _ (List.mem_map.2 ⟨x, hx, rfl⟩)
    · simp [h.len]
  · exact h
theorem trScan_ok {up : Bool} {l : List Use} {b c : ByteArray} {i : Nat} {s : Trc} (h : TrOk up l b s) : ∀ k, k ≤ l.length → TrOk up l b (trScan up l c i s k)
  | 0, _ => by simpa [trScan] using h
  | k + 1, hk => by
    have hx : l[k]? = some l[k] := List.getElem?_eq_getElem (by omega)
    rw [trScan_step hx]
    exact trStep_ok (trScan_ok h k (by omega)) (List.mem_of_getElem? hx)
theorem trTo_ok (up : Bool) (l : List Use) (b : ByteArray) : ∀ i, TrOk up l b (trTo up l b i)
  | 0 => ⟨by simp [trTo], by simp [trTo], rfl⟩
  | i + 1 => by
    have ih := trTo_ok up l b i
    simp only [trTo]
    split
    · exact trScan_ok ih _ (Nat.le_refl _)
    · exact ih
theorem nodup_len {α : Type} [DecidableEq α] : ∀ {l m : List α}, l.Nodup → (∀ x ∈ l, x ∈ m) → l.length ≤ m.length
  | [], _, _, _ => Nat.zero_le _
  | x :: l, m, h, hs => by
    have h1 := List.nodup_cons.1 h
    have hx : x ∈ m := hs x (by simp)
    have := nodup_len (l := l) (m := m.erase x) h1.2 fun y hy => (List.mem_erase_of_ne (fun e : y = x => h1.1 (by rw [← e]; exact hy))).2 (hs y (by simp [hy]))
    rw [List.length_erase_of_mem hx] at this
    have : 0 < m.length := List.length_pos_of_mem hx
    simp only [List.length_cons]
    omega
theorem TrOk.le {up : Bool} {l : List Use} {b : ByteArray} {s : Trc} (h : TrOk up l b s) : s.1.length ≤ l.length + 1 := by
  have := nodup_len h.nd (m := b.toList :: l.map fun u => (useB up u).toList) (by
    intro x hx
    obtain ⟨y, hy, rfl⟩ := List.mem_map.1 hx
    exact h.mem y hy)
  simpa using this
theorem trTo_stay {up : Bool} {l : List Use} {b : ByteArray} {i : Nat} (h : ¬ i < (trTo up l b i).1.length) : ∀ j, trTo up l b (i + j) = trTo up l b i
  | 0 => rfl
  | j + 1 => by
    have ih := trTo_stay h j
    rw [← Nat.add_assoc, trTo, ih, if_neg (by omega)]
theorem trTo_end {up : Bool} {l : List Use} {b : ByteArray} {i : Nat} (hi : i ≤ (trTo up l b i).1.length) (h : ¬ i < (trTo up l b i).1.length) : trF up l b = trTo up l b i := by
  have h1 := (trTo_ok up l b i).le
  have h2 := trTo_stay h (l.length + 1 - i)
  rwa [show i + (l.length + 1 - i) = l.length + 1 by omega] at h2
theorem trStep_le {up : Bool} {b : ByteArray} {i : Nat} {s : Trc} {x : Use} : s.1.length ≤ (trStep up b i s x).1.length := by
  unfold trStep
  split
  · simp
  · exact Nat.le_refl _
theorem trStep_keep {up : Bool} {b : ByteArray} {i j : Nat} {s : Trc} {x : Use} (h : j < s.1.length) : (trStep up b i s x).1.getD j str0 = s.1.getD j str0 := by
  unfold trStep
  split
  · simp [List.getD_eq_getElem?_getD, List.getElem?_append_left h]
  · rfl
theorem trScan_keep {up : Bool} {l : List Use} {b : ByteArray} {i j : Nat} {s : Trc} (h : j < s.1.length) : ∀ k, k ≤ l.length → s.1.length ≤ (trScan up l b i s k).1.length ∧ (trScan up l b i s k).1.getD j str0 = s.1.getD j str0
  | 0, _ => ⟨by simp [trScan], by simp [trScan]⟩
  | k + 1, hk => by
    have hx : l[k]? = some l[k] := List.getElem?_eq_getElem (by omega)
    have ih := trScan_keep (up := up) (l := l) (b := b) (i := i) h k (by omega)
    rw [trScan_step hx]
    exact ⟨Nat.le_trans ih.1 trStep_le, by rw [trStep_keep (Nat.lt_of_lt_of_le h ih.1), ih.2]⟩
theorem trTo_pos (up : Bool) (l : List Use) (b : ByteArray) : ∀ i, 0 < (trTo up l b i).1.length
  | 0 => by simp [trTo]
  | i + 1 => by
    have ih := trTo_pos up l b i
    simp only [trTo]
    split
    · rename_i h
      exact Nat.lt_of_lt_of_le ih (trScan_keep h _ (Nat.le_refl _)).1
    · exact ih
theorem trTo_first (up : Bool) (l : List Use) (b : ByteArray) : ∀ i, (trTo up l b i).1.getD 0 str0 = b
  | 0 => by simp [trTo]
  | i + 1 => by
    have ih := trTo_first up l b i
    simp only [trTo]
    split
    · rw [(trScan_keep (trTo_pos up l b i) _ (Nat.le_refl _)).2, ih]
    · exact ih
end Go.Proofs.Ytbmfhdncifcieaa
