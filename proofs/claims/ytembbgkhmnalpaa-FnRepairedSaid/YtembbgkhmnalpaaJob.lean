/- Jobs and their steps: the structs; the laws' sizes, copies and comparisons. Conditions: none. -/
import Derived.Test.YtembbgkhmnalpaaMem
import Derived.Test.YtembbgkhmnalpaaCode
import Derived.Test.YtembbgkhmnalpaaApp
namespace Go.Proofs.Ytembbgkhmnalpaa
open Go.RowKit Go.ChangeShapes Go.WideShapes Go.Deep
set_option linter.unusedVariables false
set_option linter.unusedSimpArgs false

structure Wk where
  ce : ByteArray
  mi : Int
deriving DecidableEq
theorem Wk.eq_iff {x y : Wk} : x = y ↔ x.ce = y.ce ∧ x.mi = y.mi := by cases x; cases y; simp
abbrev Wk.v (x : Wk) : Value := .agg #[.string x.ce, .int .i64 x.mi]
def Wk.E : Enc Wk := { enc := fun x => [.string x.ce, .int .i64 x.mi], sz := 2, pos := by decide, len := fun _ => rfl, one := by intro x u hu; simp at hu; rcases hu with rfl | rfl <;> rfl }
theorem Wk.at_ {w : World} {b o : Nat} {l : List Wk} (hc : ∀ i x, l[i]? = some x → ∀ j u, (Wk.E.enc x)[j]? = some u → w.cell? ⟨b, o + i * Wk.E.sz + j, none⟩ = some u) {k : Nat} {x : Wk} (hx : l[k]? = some x) :
    w.cell? ⟨b, o + k * 2, none⟩ = some (.string x.ce) ∧ w.cell? ⟨b, o + k * 2 + 1, none⟩ = some (.int .i64 x.mi) := ⟨hc k x hx 0 _ rfl, hc k x hx 1 _ rfl⟩
def Wk.Ok (x : Wk) : Prop := True ∧ x.ce.size ≤ maxLen ∧ (Lit.int .i64 x.mi).wf = true ∧ True
set_option maxHeartbeats 400000 in
theorem toWork_any (x : Wk) (w : World) :
    Calls Try.prog 70 #[x.v] w fun e w' => e = .returned x.v ∧ Grew w w' := by
  obtain ⟨ce, mi⟩ := x
  go_enter Try.func70, Try.ntmps70
  go_wp2
  exact bodyPost_ret (v := .agg #[.string ce, .int .i64 mi]) (by simp [results, Try.results70, go_sem]) rfl ⟨rfl, (((Grew.refl _).alloc _).alloc _).alloc _⟩
set_option maxHeartbeats 1000000 in
theorem eqWork_any (x y : Wk) (w : World) :
    Calls Try.prog 71 #[x.v, y.v] w fun e w' => e = .returned (.bool (decide (x = y))) ∧ Grew w w' := by
  obtain ⟨ce, mi⟩ := x
  obtain ⟨ce', mi'⟩ := y
  go_enter Try.func71, Try.ntmps71
  go_wp2
  all_goals go_ret
  all_goals refine ⟨ret_bool ?_, ((Grew.refl _).alloc _).alloc _⟩
  all_goals go_light
  all_goals simp_all [ba_inj]
def Wk.w (x : Wk) : Nat := x.ce.size
set_option maxHeartbeats 400000 in
theorem szWork_any (x : Wk) (m : Int) (w : World) (hm : 0 ≤ m) (hm2 : m ≤ 1048576) (h0 : x.ce.size ≤ maxLen) :
    Calls Try.prog 69 #[x.v, .int .i64 m] w fun e w' => e = .returned (.int .i64 (if m < x.w then -1 else m - x.w)) ∧ Grew w w' := by
  unfold maxLen at *
  have HW : Hid (x.w = x.ce.size) := Lib.hid rfl
  obtain ⟨ce, mi⟩ := x
  simp only at *
  go_enter Try.func69, Try.ntmps69
  go_wp2
  all_goals go_ret
  all_goals go_light
  all_goals refine ⟨ret_int ?_, (Grew.refl _).alloc _⟩
  all_goals (have hW := HW.out; first | rfl | omega)
theorem info_impl_Wk : (Try.prog.info? 74).map (fun i => (i.zero, i.size, i.bytes)) = some (some (.agg #[.string ByteArray.empty, .int .i64 0]), 2, 24) := by kernel_rfl
set_option maxHeartbeats 1000000 in
theorem toWorkS_any (l : List Wk) (A : Option Addr) (c : Nat) (w : World) (h : Rd Wk.E w A l) (hn : l.length ≤ 1048576) :
    Calls Try.prog 59 #[.slice A l.length c] w fun e w' => e = .returned (.slice (some ⟨w.heap.size, 0, none⟩) l.length l.length) ∧
      Own Wk.E 74 w' w.heap.size (.slice (some ⟨w.heap.size, 0, none⟩) l.length l.length) l ∧ Grew w w' := by
  obtain ⟨i0, hi0, hz0, hz1, hz2⟩ := info_parts info_impl_Wk
  go_enter Try.func59, Try.ntmps59
  go_wp2_with (at_make; refine wpList_make_full _ rfl _ _ _ rfl w.heap.size 74 i0 _ 2 Try.underlying70 hi0 hz0 hz1 _ _ _ _ l.length rfl rfl rfl rfl (by rw [hz2]; omega) (by simp only [maxLen]; omega) (Nat.le_refl _) ?_; intro w1 hown1 hgr1)
  have hg1 : Grew w w1 := (Grew.refl w).grown hgr1 (by simp)
  have hb1 : w.heap.size < w1.heap.size ∨ l.length = 0 := by
    rcases Nat.eq_zero_or_pos l.length with h0 | h0
    · exact .inr h0
    · exact .inl (hown1.lt _ rfl).2
  go_loopw [4] (fun i wr => ∃ k : Nat, k ≤ l.length ∧ i = .int .i64 k ∧ Grew w wr ∧ ∃ r : List Value, r.length = (l.length - k) * 2 ∧ wr.ownsRow w.heap.size 74 2 (.slice (some ⟨w.heap.size, 0, none⟩) l.length l.length) l.length (flat Wk.E (l.take k) ++ r)) (fun i _ => l.length - (intOf i).toNat)
  case atStart => exact ⟨0, Nat.zero_le _, rfl, hg1, (madeCells (Value.cells _) (l.length * 2)).toList, by simp [madeCells], hown1⟩
  case round =>
    obtain ⟨k, hk, rfl, hg, r, hr, hown⟩ := hrel
    clear hown1 hgr1 hg1 hb1
    by_cases hlt : k < l.length
    · obtain ⟨x, hx⟩ : ∃ x, l[k]? = some x := ⟨_, List.getElem?_eq_getElem hlt⟩
      obtain ⟨b, o, rfl, hb, hc⟩ := (h.grew hg).at_ hlt
      have hcx := Wk.at_ hc hx
      obtain ⟨hc0, hc1⟩ := hcx
      have HX := Lib.hid hx
      have HR := Lib.hid hr
      have HO := Lib.hid hown
      have HG := Lib.hid hg
      clear hx hr hown hc hg h hi0 hz0 hz1 hz2
      go_wp2_with fail
      refine (toWork_any x _).mono ?_
      rintro e w2 ⟨rfl, h2⟩
      have HO2 := Lib.hid (ownsRow_grew HO.out h2)
      have hcc : ∀ j, j < 2 → ∃ u, w2.cell? ⟨w.heap.size, k * 2 + j, none⟩ = some u := fun j hj => by
        have h3 := HO2.out.cellAt (k * 2 + j) (by have : (k + 1) * 2 ≤ l.length * 2 := Nat.mul_le_mul_right _ hlt; omega)
        rw [h3]
        have h4 : (flat Wk.E (l.take k) ++ r).length = l.length * 2 := HO2.out.1
        exact ⟨_, List.getElem?_eq_getElem (by rw [h4]; have : (k + 1) * 2 ≤ l.length * 2 := Nat.mul_le_mul_right _ hlt; omega)⟩
      obtain ⟨u0, hu0⟩ := hcc 0 (by decide)
      obtain ⟨u1, hu1⟩ := hcc 1 (by decide)
      simp only [Nat.add_zero] at hu0
      have hf2 : ∀ j, w2.frozen? ⟨w.heap.size, j, none⟩ = false := fun j => HO2.out.frozenAt j
      clear hcc
      go_wp2_with fail
      have hfin : (storeL w2 w.heap.size (k * 2) (Wk.E.enc x)).ownsRow w.heap.size 74 2 (.slice (some ⟨w.heap.size, 0, none⟩) l.length l.length) l.length (flat Wk.E (l.take (k + 1)) ++ r.drop 2) := by
        have h5 := own_stores (Wk.E.enc x) _ w2 (k * 2) HO2.out
        have h6 : (flat Wk.E (l.take k)).length = k * 2 := by rw [flat_length, List.length_take, Nat.min_eq_left hk]; rfl
        have h7 := setL_app (Wk.E.enc x) (flat Wk.E (l.take k)) r (by rw [HR.out]; show 2 ≤ _; have : 1 * 2 ≤ (l.length - k) * 2 := Nat.mul_le_mul_right _ (by omega); omega)
        rw [h6, show (Wk.E.enc x).length = 2 from rfl] at h7
        rw [h7] at h5
        have h8 : l.take (k + 1) = l.take k ++ [x] := by rw [List.take_add_one, HX.out]; rfl
        rw [h8, flat_append]
        simpa [flat] using h5
      go_roundw
      case rel =>
        go_light
        refine ⟨k + 1, by omega, by go_num, ?_, r.drop 2, ?_, hfin⟩
        · have hg3 := HG.out.trans h2
          exact (hg3.setCell (by simp) _).setCell (by simp) _
        · rw [List.length_drop, HR.out, show l.length - k = (l.length - (k + 1)) + 1 by omega, Nat.succ_mul]; omega
      case measure => go_light; simp [intOf]; omega
    · obtain rfl : k = l.length := by omega
      have HO := Lib.hid hown
      have HR := Lib.hid hr
      clear hr hown h hi0 hz0 hz1 hz2
      go_wp2
      go_ret
      go_light
      refine ⟨rfl, ?_, hg⟩
      have hr0 : r = [] := List.eq_nil_of_length_eq_zero (by rw [HR.out]; simp)
      have := HO.out
      rw [hr0, List.append_nil, List.take_length] at this
      exact this
set_option maxHeartbeats 1000000 in
theorem eqWorkS_any (l m : List Wk) (A B : Option Addr) (c d : Nat) (w : World) (h : Rd Wk.E w A l) (h' : Rd Wk.E w B m) (hn : l.length ≤ 4194304) (hm : m.length ≤ 4194304) :
    Calls Try.prog 61 #[.slice A l.length c, .slice B m.length d] w fun e w' => e = .returned (.bool (decide (l = m))) ∧ Grew w w' := by
  by_cases hlen : l.length = m.length
  · have hb : ((l.length : Int) != (m.length : Int)) = false := by simp [hlen]
    have HL := Lib.hid hlen
    clear hlen
    go_enter Try.func61, Try.ntmps61
    go_wp2_with fail
    go_loopw [5] (fun i wr => ∃ k : Nat, k ≤ l.length ∧ i = .int .i64 k ∧ Grew w wr ∧ l.take k = m.take k) (fun i _ => l.length - (intOf i).toNat)
    case atStart => exact ⟨0, Nat.zero_le _, rfl, Grew.refl _, by simp⟩
    case round =>
      obtain ⟨k, hk, rfl, hg, heq⟩ := hrel
      have HQ := Lib.hid heq
      clear heq
      by_cases hlt : k < l.length
      · have hlt2 : k < m.length := by rw [← HL.out]; exact hlt
        obtain ⟨x, hx⟩ : ∃ x, l[k]? = some x := ⟨_, List.getElem?_eq_getElem hlt⟩
        obtain ⟨y, hy⟩ : ∃ y, m[k]? = some y := ⟨_, List.getElem?_eq_getElem hlt2⟩
        obtain ⟨b, o, rfl, hb1, hc⟩ := (h.grew hg).at_ hlt
        obtain ⟨b', o', rfl, hb1', hc'⟩ := (h'.grew hg).at_ hlt2
        have hcx := Wk.at_ hc hx
        have hcy := Wk.at_ hc' hy
        obtain ⟨hc0, hc1⟩ := hcx
        obtain ⟨hd0, hd1⟩ := hcy
        have HX := Lib.hid hx
        have HY := Lib.hid hy
        have HG := Lib.hid hg
        clear hx hy hc hc' hg h h' hb
        have hi1 : (0 : Int) ≤ (k : Int) := by omega
        have hi2 : (k : Int) < (l.length : Int) := by omega
        have hi3 : (k : Int) < (m.length : Int) := by omega
        cases hd : decide (x = y)
        · go_wp2_with fail
          (refine wp_region_grow_lit (by kernel_rfl) (by kernel_rfl) ?_; repeat (any_goals (first | go_big_quiet_step ((go_at_call 71; exact quiet_grew (eqWork_any x y _))) | quiet_step ((go_at_call 71; exact quiet_grew (eqWork_any x y _))) | (refine wpQuiet_step (fun K hK => ?_); go_simp; split <;> rename_i hsp <;> (refine hK _ ?_; clear hK K) <;> (try first | simp only [hsp, decide_true, decide_false, Bool.not_true, Bool.not_false] | simp only [Int.not_le.2 hsp, decide_false, Bool.not_false] | simp only [Int.not_lt.2 hsp, decide_false, Bool.not_false] | simp only [Nat.not_le.2 hsp, decide_false, Bool.not_false] | simp only [Nat.not_lt.2 hsp, decide_false, Bool.not_false])))))
          all_goals (refine wpQuiet_nil ?_; intro w1 h1)
          go_wp2_with fail
          go_ret
          go_light
          refine ⟨ret_bool ?_, HG.out.trans h1⟩
          have hxy : x ≠ y := of_decide_eq_false hd
          have : l ≠ m := fun e => hxy (by have h3 := HX.out; rw [e, HY.out] at h3; injection h3 with h3; exact h3.symm)
          simp [this]
        · go_wp2_with fail
          (refine wp_region_grow_lit (by kernel_rfl) (by kernel_rfl) ?_; repeat (any_goals (first | go_big_quiet_step ((go_at_call 71; exact quiet_grew (eqWork_any x y _))) | quiet_step ((go_at_call 71; exact quiet_grew (eqWork_any x y _))) | (refine wpQuiet_step (fun K hK => ?_); go_simp; split <;> rename_i hsp <;> (refine hK _ ?_; clear hK K) <;> (try first | simp only [hsp, decide_true, decide_false, Bool.not_true, Bool.not_false] | simp only [Int.not_le.2 hsp, decide_false, Bool.not_false] | simp only [Int.not_lt.2 hsp, decide_false, Bool.not_false] | simp only [Nat.not_le.2 hsp, decide_false, Bool.not_false] | simp only [Nat.not_lt.2 hsp, decide_false, Bool.not_false])))))
          all_goals (refine wpQuiet_nil ?_; intro w1 h1)
          go_wp2_with fail
          go_roundw
          case rel =>
            go_light
            refine ⟨k + 1, by omega, by go_num, HG.out.trans h1, ?_⟩
            have hxy : x = y := of_decide_eq_true hd
            rw [List.take_add_one, List.take_add_one, HQ.out, HX.out, HY.out, hxy]
          case measure => go_light; simp [intOf]; omega
      · go_wp2_with fail
        go_ret
        go_light
        refine ⟨ret_bool ?_, hg⟩
        have h1 : l = m := by
          have h2 := HQ.out
          rwa [List.take_of_length_le (by omega), List.take_of_length_le (by rw [← HL.out]; omega)] at h2
        simp [h1]
  · have hb : ((l.length : Int) != (m.length : Int)) = true := by simp; omega
    have hne : l ≠ m := fun e => hlen (by rw [e])
    go_enter Try.func61, Try.ntmps61
    go_wp2_with fail
    go_ret
    go_light
    exact ⟨ret_bool (by simp [hne]), Grew.refl _⟩
set_option maxHeartbeats 1000000 in
theorem szWorkS_any (l : List Wk) (A : Option Addr) (c : Nat) (m : Int) (w : World) (h : Rd Wk.E w A l) (hok : ∀ x ∈ l, x.Ok) (hm : 0 ≤ m) (hm2 : m ≤ 1048576) (hl : l.length ≤ maxLen) :
    Calls Try.prog 57 #[.slice A l.length c, .int .i64 m] w (SzPost l.length m w) := by
  have hl' := hl
  unfold maxLen at hl
  by_cases hlm : m < l.length
  · clear h hok
    go_enter Try.func57, Try.ntmps57
    go_wp2_with fail
    go_ret
    go_light
    exact ⟨-1, rfl, by omega, by omega, Grew.refl _⟩
  · have HOK := Lib.hid hok
    clear hok
    go_enter Try.func57, Try.ntmps57
    go_wp2_with fail
    go_loopw [1, 5] (fun v i wr => ∃ (k : Nat) (r : Int), k ≤ l.length ∧ i = .int .i64 k ∧ v = .int .i64 r ∧ 0 ≤ r ∧ r ≤ m - l.length ∧ Grew w wr) (fun _ i _ => l.length - (intOf i).toNat)
    case atStart => exact ⟨0, _, Nat.zero_le _, rfl, rfl, by omega, by omega, Grew.refl _⟩
    case round =>
      obtain ⟨k, r, hk, rfl, rfl, hr0, hr1, hg⟩ := hrel
      by_cases hlt : k < l.length
      · obtain ⟨x, hx⟩ : ∃ x, l[k]? = some x := ⟨_, List.getElem?_eq_getElem hlt⟩
        have hxo := HOK.out x (List.mem_of_getElem? hx)
        obtain ⟨b, o, rfl, hb, hc⟩ := (h.grew hg).at_ hlt
        have hcx := Wk.at_ hc hx
        obtain ⟨hc0, hc1⟩ := hcx
        have HX := Lib.hid hx
        have HG := Lib.hid hg
        have HO := Lib.hid hxo
        clear hx hc hg h hxo
        by_cases hxr : r < x.w
        · go_wp2_with fail
          refine (szWork_any x r _ hr0 (by omega) (HO.out.2.1)).mono ?_
          rintro e w2 ⟨rfl, h2⟩
          go_wp2_with fail
          go_ret
          go_light
          exact ⟨-1, rfl, by omega, by omega, HG.out.trans h2⟩
        · have hxr2 : (0 : Int) ≤ r - x.w := by omega
          go_wp2_with fail
          refine (szWork_any x r _ hr0 (by omega) (HO.out.2.1)).mono ?_
          rintro e w2 ⟨rfl, h2⟩
          go_wp2_with fail
          go_roundw
          case rel =>
            go_light
            exact ⟨k + 1, _, by omega, by go_num, rfl, by omega, by omega, HG.out.trans h2⟩
          case measure => go_light; simp [intOf]; omega
      · go_wp2_with fail
        go_ret
        go_light
        exact ⟨_, rfl, by omega, by omega, hg⟩
set_option maxRecDepth 100000 in
theorem Wk.open_ {H : Type} {enc : TypeId × Value → H} {w : World} {spare : Nat → Bool} {held : Bool} {v : Value} {d : DataW H} {p : List MemPlace} {rc : Reach} {b0 : Nat}
    (hv : Value.okWide Try.prog w rc b0 65 v) (h : DataW.Trod enc Try.prog w 0 spare held 65 v d p) :
    ∃ (l : List Wk) (A : Option Addr) (c : Nat), v = .slice A l.length c ∧ Rd Wk.E w A l ∧ l.length ≤ c ∧ c ≤ maxLen ∧ ∀ x ∈ l, x.Ok := by
  obtain ⟨a0, len0, cap0, rfl⟩ := okWide_slice Try.underlying65 hv
  obtain ⟨fuel, hf0⟩ := h
  have hf1 : DataW.trod enc Try.prog w 0 spare held fuel 65 [.slice a0 len0 cap0] = some (d, p) := by simpa [Value.cells] using hf0
  rcases open_slice_fields Try.underlying65 Try.underlying106 (by kernel_rfl) (by kernel_rfl) hf1 with ⟨hcs, _⟩ | ⟨a, len, cap, m, D, Pl, hcs, _, hl, hm, hmm, _, hi⟩
  · simp only [List.cons.injEq, Value.slice.injEq, and_true] at hcs
    obtain ⟨rfl, rfl, rfl⟩ := hcs
    exact ⟨[], none, 0, rfl, Rd.nil, Nat.le_refl _, by simp [maxLen], by simp⟩
  · simp only [List.cons.injEq, Value.slice.injEq, and_true] at hcs
    obtain ⟨rfl, rfl, rfl⟩ := hcs
    have hx : ∀ i, i < len0 → ∃ x : Wk, x.Ok ∧ ∀ j u, (Wk.E.enc x)[j]? = some u → w.cell? (a.add (i * 2 + j)) = some u := by
      intro i hil
      obtain ⟨ys, n, _, _, _, hf⟩ := hi i (by rw [hmm]; split <;> omega)
      obtain ⟨v0, y0, hv0, _, ht0⟩ := hf 0 _ rfl
      obtain ⟨ce, hq0, _, hw0⟩ := DataW.trod_string Try.underlying9 ht0
      obtain rfl : v0 = .string ce := by injection hq0
      obtain ⟨v1, y1, hv1, _, ht1⟩ := hf 1 _ rfl
      obtain ⟨mi, hq1, _, hw1⟩ := DataW.trod_int Try.underlying3 ht1
      obtain rfl : v1 = .int .i64 mi := by injection hq1
      refine ⟨⟨ce, mi⟩, ⟨trivial, hw0, hw1, trivial⟩, fun j u hu => ?_⟩
      match j, hu with
      | 0, hu => (have : u = .string ce := by simpa [Wk.E] using hu.symm); subst this; exact hv0
      | 1, hu => (have : u = .int .i64 mi := by simpa [Wk.E] using hu.symm); subst this; exact hv1
      | j + 2, hu => simp [Wk.E] at hu
    obtain ⟨l, hl1, hl2⟩ := list_of_fn len0 (fun i x => x.Ok ∧ ∀ j u, (Wk.E.enc x)[j]? = some u → w.cell? (a.add (i * 2 + j)) = some u) hx
    subst hl1
    refine ⟨l, some a, cap0, rfl, rd_of_add (E := Wk.E) (fun i x hx => (hl2 i x hx).2), hl, hm, fun x hx => ?_⟩
    obtain ⟨i, hi⟩ := List.mem_iff_getElem?.1 hx
    exact (hl2 i x hi).1

/-- A job. -/
structure Jb where
  rl : Int
  du : Int
  st : List Wk
deriving DecidableEq
/-- A job, and where its steps lie. -/
structure Jr where
  rl : Int
  du : Int
  l : List Wk
  A : Option Addr
  c : Nat
def Jr.j (x : Jr) : Jb := ⟨x.rl, x.du, x.l⟩
abbrev Jr.v (x : Jr) : Value := .agg #[.int .i64 x.rl, .int .i64 x.du, .slice x.A x.l.length x.c]
def Jr.E : Enc Jr := { enc := fun x => [.int .i64 x.rl, .int .i64 x.du, .slice x.A x.l.length x.c], sz := 3, pos := by decide, len := fun _ => rfl, one := by intro x u hu; simp at hu; rcases hu with rfl | rfl | rfl <;> rfl }
theorem Jr.at_ {w : World} {b o : Nat} {l : List Jr} (hc : ∀ i x, l[i]? = some x → ∀ j u, (Jr.E.enc x)[j]? = some u → w.cell? ⟨b, o + i * Jr.E.sz + j, none⟩ = some u) {k : Nat} {x : Jr} (hx : l[k]? = some x) :
    w.cell? ⟨b, o + k * 3, none⟩ = some (.int .i64 x.rl) ∧ w.cell? ⟨b, o + k * 3 + 1, none⟩ = some (.int .i64 x.du) ∧ w.cell? ⟨b, o + k * 3 + 2, none⟩ = some (.slice x.A x.l.length x.c) := ⟨hc k x hx 0 _ rfl, hc k x hx 1 _ rfl, hc k x hx 2 _ rfl⟩

/-- The slice at A reads as the jobs J. -/
def RdJ (w : World) (A : Option Addr) (J : List Jb) : Prop :=
  ∃ r : List Jr, r.map Jr.j = J ∧ Rd Jr.E w A r ∧ ∀ x ∈ r, Rd Wk.E w x.A x.l ∧ x.l.length ≤ x.c
/-- The jobs' slice is the block base; the steps of each lie in a block of their own behind it. -/
def OwnJ (w : World) (base : Nat) (v : Value) (J : List Jb) : Prop :=
  ∃ r : List Jr, r.map Jr.j = J ∧ Own Jr.E 72 w base v r ∧ (∀ x ∈ r, Own Wk.E 74 w (base + 1) (.slice x.A x.l.length x.c) x.l) ∧ (r.Pairwise fun x y => ∀ b, (Value.slice x.A x.l.length x.c).ownBlock = some b → (Value.slice y.A y.l.length y.c).ownBlock ≠ some b) ∧ ∀ b, v.ownBlock = some b → b = base
theorem RdJ.grew {w w' : World} {A : Option Addr} {L : List Jb} (h : RdJ w A L) (g : Grew w w') : RdJ w' A L := by
  obtain ⟨r, e, h1, h2⟩ := h
  exact ⟨r, e, h1.grew g, fun x hx => ⟨(h2 x hx).1.grew g, (h2 x hx).2⟩⟩
theorem OwnJ.grew {w w' : World} {b : Nat} {v : Value} {L : List Jb} (h : OwnJ w b v L) (g : Grew w w') : OwnJ w' b v L := by
  obtain ⟨r, e, h1, h2, h3⟩ := h
  exact ⟨r, e, h1.grew g, fun x hx => (h2 x hx).grew g, h3⟩
theorem OwnJ.rd {w : World} {b : Nat} {A : Option Addr} {n c : Nat} {L : List Jb} (h : OwnJ w b (.slice A n c) L) : RdJ w A L := by
  obtain ⟨r, e, h1, h2, _⟩ := h
  exact ⟨r, e, h1.rd, fun x hx => ⟨(h2 x hx).rd, (h2 x hx).cap.2.1⟩⟩
theorem RdJ.at2_ {w : World} {A : Option Addr} {L : List Jb} (h : RdJ w A L) {k : Nat} {m : Jb} (hm : L[k]? = some m) :
    ∃ b o B c, A = some ⟨b, o, none⟩ ∧ b < w.heap.size ∧ (w.cell? ⟨b, o + k * 3, none⟩ = some (.int .i64 m.rl) ∧ w.cell? ⟨b, o + k * 3 + 1, none⟩ = some (.int .i64 m.du) ∧ w.cell? ⟨b, o + k * 3 + 2, none⟩ = some (.slice B m.st.length c)) ∧ Rd Wk.E w B m.st ∧ m.st.length ≤ c := by
  obtain ⟨r, rfl, h1, h2⟩ := h
  rw [List.getElem?_map, Option.map_eq_some_iff] at hm
  obtain ⟨x, hx, rfl⟩ := hm
  obtain ⟨b, o, e, hb, hc⟩ := h1.at_ (k := k) (List.getElem?_eq_some_iff.1 hx).1
  exact ⟨b, o, x.A, x.c, e, hb, Jr.at_ hc hx, h2 x (List.mem_of_getElem? hx)⟩
theorem RdJ.at_ {w : World} {A : Option Addr} {L : List Jb} (h : RdJ w A L) {k : Nat} {m : Jb} (hm : L[k]? = some m) :
    ∃ b o B c, A = some ⟨b, o, none⟩ ∧ b < w.heap.size ∧ (w.cell? ⟨b, o + k * 3, none⟩ = some (.int .i64 m.rl) ∧ w.cell? ⟨b, o + k * 3 + 1, none⟩ = some (.int .i64 m.du) ∧ w.cell? ⟨b, o + k * 3 + 2, none⟩ = some (.slice B m.st.length c)) ∧ Rd Wk.E w B m.st := by
  obtain ⟨b, o, B, c, e, hb, hc, hr, _⟩ := h.at2_ hm
  exact ⟨b, o, B, c, e, hb, hc, hr⟩

def Jb.Ok (x : Jb) : Prop := x.st.length ≤ maxLen ∧ (∀ y ∈ x.st, y.Ok) ∧ (Lit.int .i64 x.rl).wf = true ∧ (Lit.int .i64 x.du).wf = true
/-- So many in all. -/
def SzSum (n : Nat) (m : Int) (w : World) (e : Ending) (w' : World) : Prop := ∃ r : Int, e = .returned (.int .i64 r) ∧ r ≤ m ∧ (0 ≤ r → (n : Int) + r ≤ m) ∧ Grew w w'
def totJ (J : List Jb) : Nat → Nat
  | 0 => 0
  | k + 1 => totJ J k + ((J[k]?).map (·.st.length)).getD 0
theorem totJ_step {J : List Jb} {k : Nat} {x : Jb} (h : J[k]? = some x) : totJ J (k + 1) = totJ J k + x.st.length := by simp [totJ, h]
theorem totJ_le {J : List Jb} {k n : Nat} (h : k ≤ n) : totJ J k ≤ totJ J n := by
  induction n with
  | zero => obtain rfl : k = 0 := by omega
            exact Nat.le_refl _
  | succ n ih =>
    rcases Nat.lt_succ_iff_lt_or_eq.1 (Nat.lt_succ_of_le h) with h1 | rfl
    · exact Nat.le_trans (ih (by omega)) (by simp [totJ])
    · exact Nat.le_refl _
theorem totJ_one {J : List Jb} {x : Jb} (h : x ∈ J) : x.st.length ≤ totJ J J.length := by
  obtain ⟨k, hk⟩ := List.mem_iff_getElem?.1 h
  have h1 := totJ_step hk
  have h2 := totJ_le (J := J) (show k + 1 ≤ J.length by have := (List.getElem?_eq_some_iff.1 hk).1; omega)
  omega
set_option maxHeartbeats 1000000 in
theorem szWorkS_sum (l : List Wk) (A : Option Addr) (c : Nat) (m : Int) (w : World) (h : Rd Wk.E w A l) (hok : ∀ x ∈ l, x.Ok) (hm : 0 ≤ m) (hm2 : m ≤ 1048576) (hl : l.length ≤ maxLen) :
    Calls Try.prog 57 #[.slice A l.length c, .int .i64 m] w (SzSum l.length m w) := by
  have hl' := hl
  unfold maxLen at hl
  by_cases hlm : m < l.length
  · clear h hok
    go_enter Try.func57, Try.ntmps57
    go_wp2_with fail
    go_ret
    go_light
    exact ⟨-1, rfl, by omega, by omega, Grew.refl _⟩
  · have HOK := Lib.hid hok
    clear hok
    go_enter Try.func57, Try.ntmps57
    go_wp2_with fail
    go_loopw [1, 5] (fun v i wr => ∃ (k : Nat) (r : Int), k ≤ l.length ∧ i = .int .i64 k ∧ v = .int .i64 r ∧ 0 ≤ r ∧ r ≤ m - l.length ∧ Grew w wr) (fun _ i _ => l.length - (intOf i).toNat)
    case atStart => exact ⟨0, _, Nat.zero_le _, rfl, rfl, by omega, by omega, Grew.refl _⟩
    case round =>
      obtain ⟨k, r, hk, rfl, rfl, hr0, hr1, hg⟩ := hrel
      by_cases hlt : k < l.length
      · obtain ⟨x, hx⟩ : ∃ x, l[k]? = some x := ⟨_, List.getElem?_eq_getElem hlt⟩
        have hxo := HOK.out x (List.mem_of_getElem? hx)
        obtain ⟨b, o, rfl, hb, hc⟩ := (h.grew hg).at_ hlt
        have hcx := Wk.at_ hc hx
        obtain ⟨hc0, hc1⟩ := hcx
        have HX := Lib.hid hx
        have HG := Lib.hid hg
        have HO := Lib.hid hxo
        clear hx hc hg h hxo
        by_cases hxr : r < x.w
        · go_wp2_with fail
          refine (szWork_any x r _ hr0 (by omega) (HO.out.2.1)).mono ?_
          rintro e w2 ⟨rfl, h2⟩
          go_wp2_with fail
          go_ret
          go_light
          exact ⟨-1, rfl, by omega, by omega, HG.out.trans h2⟩
        · have hxr2 : (0 : Int) ≤ r - x.w := by omega
          go_wp2_with fail
          refine (szWork_any x r _ hr0 (by omega) (HO.out.2.1)).mono ?_
          rintro e w2 ⟨rfl, h2⟩
          go_wp2_with fail
          go_roundw
          case rel =>
            go_light
            exact ⟨k + 1, _, by omega, by go_num, rfl, by omega, by omega, HG.out.trans h2⟩
          case measure => go_light; simp [intOf]; omega
      · go_wp2_with fail
        go_ret
        go_light
        exact ⟨_, rfl, by omega, by omega, hg⟩
set_option maxHeartbeats 1000000 in
theorem szJob_any (x : Jr) (m : Int) (w : World) (h : Rd Wk.E w x.A x.l) (hok : ∀ y ∈ x.l, y.Ok) (hm : 0 ≤ m) (hm2 : m ≤ 1048576) (hl : x.l.length ≤ maxLen) :
    Calls Try.prog 41 #[x.v, .int .i64 m] w (SzSum x.l.length m w) := by
  obtain ⟨rl, du, l, A, c⟩ := x
  simp only at *
  have H := Lib.hid h
  clear h
  go_enter Try.func41, Try.ntmps41
  go_wp2_with fail
  refine (szWorkS_sum l A c m _ (H.out.grew (by (repeat (with_reducible first | exact Grew.refl _ | assumption | apply Grew.alloc | apply Grew.drew | apply Grew.drewN | (refine Grew.setCell ?_ (by simp; try omega) _) | (refine Grew.trans ?_ (by assumption)))))) hok hm hm2 hl).mono ?_; rintro e w1 ⟨r, rfl, h1, h2, h3⟩
  by_cases hr : r < 0
  · go_wp2_with fail
    go_ret
    go_light
    exact ⟨-1, rfl, by omega, by omega, ((Grew.refl _).alloc _).trans h3⟩
  · go_wp2_with fail
    go_ret
    go_light
    exact ⟨r, rfl, h1, h2, ((Grew.refl _).alloc _).trans h3⟩

set_option maxHeartbeats 1000000 in
theorem szJobS_any (J : List Jb) (A : Option Addr) (c : Nat) (m : Int) (w : World) (h : RdJ w A J) (hok : ∀ x ∈ J, x.Ok) (hm : 0 ≤ m) (hm2 : m ≤ 1048576) (hl : J.length ≤ maxLen) :
    Calls Try.prog 20 #[.slice A J.length c, .int .i64 m] w fun e w' => ∃ r : Int, e = .returned (.int .i64 r) ∧ r ≤ m ∧ (0 ≤ r → J.length ≤ 1048576 ∧ (∀ x ∈ J, x.st.length ≤ 1048576) ∧ J.length + totJ J J.length ≤ 1048576) ∧ Grew w w' := by
  unfold maxLen at hl
  have H := Lib.hid h
  have HOK := Lib.hid hok
  clear h hok
  by_cases hlm : m < J.length
  · go_enter Try.func20, Try.ntmps20
    go_wp2_with fail
    go_ret
    go_light
    exact ⟨-1, rfl, by omega, by omega, Grew.refl _⟩
  go_enter Try.func20, Try.ntmps20
  go_wp2_with fail
  go_loopw [1, 5] (fun v i wr => ∃ (k : Nat) (r : Int), k ≤ J.length ∧ i = .int .i64 k ∧ v = .int .i64 r ∧ 0 ≤ r ∧ r + totJ J k ≤ m - J.length ∧ Grew w wr) (fun _ i _ => J.length - (intOf i).toNat)
  case atStart => exact ⟨0, _, Nat.zero_le _, rfl, rfl, by omega, by simp [totJ], Grew.refl _⟩
  case round =>
    obtain ⟨k, r, hk, rfl, rfl, hr0, hr1, hg⟩ := hrel
    by_cases hlt : k < J.length
    · obtain ⟨x, hx⟩ : ∃ x, J[k]? = some x := ⟨_, List.getElem?_eq_getElem hlt⟩
      have hxo := HOK.out x (List.mem_of_getElem? hx)
      obtain ⟨b, o, B, d, rfl, hb, ⟨hc0, hc1, hc2⟩, hrx⟩ := (H.out.grew hg).at_ hx
      have HTS := Lib.hid (totJ_step hx)
      have HRX := Lib.hid hrx
      have HO := Lib.hid hxo
      have HG := Lib.hid hg
      clear hx hrx hxo hg
      generalize totJ J k = tk at *
      go_wp2_with fail
      refine (szJob_any ⟨x.rl, x.du, x.st, B, d⟩ r _ HRX.out HO.out.2.1 hr0 (by omega) HO.out.1).mono ?_; rintro e w2 ⟨q, rfl, h1, h2, h3⟩
      by_cases hq : q < 0
      · go_wp2_with fail
        go_ret
        go_light
        exact ⟨-1, rfl, by omega, by omega, HG.out.trans h3⟩
      · have H4 := Lib.hid (show (x.st.length : Int) + q ≤ r from h2 (by omega))
        clear h2
        go_wp2_with fail
        go_roundw
        case rel =>
          go_light
          exact ⟨k + 1, q, by omega, by go_num, rfl, by omega, by rw [HTS.out]; have := H4.out; push_cast; omega, HG.out.trans h3⟩
        case measure => go_light; simp [intOf]; omega
    · obtain rfl : k = J.length := by omega
      go_wp2_with fail
      go_ret
      go_light
      exact ⟨r, rfl, by omega, fun _ => ⟨by omega, fun x hx => by have := totJ_one hx; omega, by omega⟩, hg⟩

set_option maxHeartbeats 2000000 in
theorem toJob_any (x : Jr) (w : World) (h : Rd Wk.E w x.A x.l) (hn : x.l.length ≤ 1048576) :
    Calls Try.prog 44 #[x.v] w fun e w' => ∃ b : Nat, e = .returned (Jr.v ⟨x.rl, x.du, x.l, some ⟨b, 0, none⟩, x.l.length⟩) ∧ Own Wk.E 74 w' w.heap.size (.slice (some ⟨b, 0, none⟩) x.l.length x.l.length) x.l ∧ Grew w w' := by
  obtain ⟨rl, du, l, A, c⟩ := x
  simp only at *
  have H := Lib.hid h
  clear h
  go_enter Try.func44, Try.ntmps44
  go_wp2_with fail
  refine (toWorkS_any l A c _ (H.out.grew (by (repeat (with_reducible first | exact Grew.refl _ | assumption | apply Grew.alloc | apply Grew.drew | apply Grew.drewN | (refine Grew.setCell ?_ (by simp; try omega) _) | (refine Grew.trans ?_ (by assumption)))))) hn).mono ?_; rintro e w1 ⟨rfl, ho, h1⟩; have hz_w1_0 : w.heap.size < w1.heap.size := Nat.lt_of_lt_of_le (by first | (simp +arith; done) | (simp; omega) | omega) h1.le; have hb_w1_0 := fun o => h1.rules.1 w.heap.size o (by first | (simp +arith; done) | (simp; omega) | omega); have hf_w1_0 := fun o => h1.rules.2 w.heap.size o (by first | (simp +arith; done) | (simp; omega) | omega); (try simp [World.cell?_alloc_past, World.frozen?_alloc_past, Nat.lt_add_right] at hb_w1_0 hf_w1_0); have hz_w1_1 : (w.heap.size + 1) < w1.heap.size := Nat.lt_of_lt_of_le (by first | (simp +arith; done) | (simp; omega) | omega) h1.le; have hb_w1_1 := fun o => h1.rules.1 (w.heap.size + 1) o (by first | (simp +arith; done) | (simp; omega) | omega); have hf_w1_1 := fun o => h1.rules.2 (w.heap.size + 1) o (by first | (simp +arith; done) | (simp; omega) | omega); (try simp [World.cell?_alloc_past, World.frozen?_alloc_past, Nat.lt_add_right] at hb_w1_1 hf_w1_1); have hz_w1_2 : (w.heap.size + 1 + 1) < w1.heap.size := Nat.lt_of_lt_of_le (by first | (simp +arith; done) | (simp; omega) | omega) h1.le; have hb_w1_2 := fun o => h1.rules.1 (w.heap.size + 1 + 1) o (by first | (simp +arith; done) | (simp; omega) | omega); have hf_w1_2 := fun o => h1.rules.2 (w.heap.size + 1 + 1) o (by first | (simp +arith; done) | (simp; omega) | omega); (try simp [World.cell?_alloc_past, World.frozen?_alloc_past, Nat.lt_add_right] at hb_w1_2 hf_w1_2)
  have HO : Hid (Own Wk.E 74 w1 (w.heap.size + 3) (.slice (some ⟨w.heap.size + 3, 0, none⟩) l.length l.length) l) := Lib.hid (by have h2 := ho; simp only [World.size_alloc] at h2; exact h2)
  have HG := Lib.hid ((((Grew.refl w).alloc (.cells #[.int .i64 rl, .int .i64 du, .slice A l.length c] 67)).alloc (.cells #[.int .i64 0, .int .i64 0, .slice none 0 0] 72)).alloc (.cells #[.int .i64 rl, .int .i64 du, .slice none 0 0] 72) |>.trans h1)
  clear ho
  go_wp2_with fail
  refine bodyPost_ret (v := Jr.v ⟨rl, du, l, some ⟨w.heap.size + 3, 0, none⟩, l.length⟩) (by simp [results, Try.results44, go_sem, hb_w1_0, hb_w1_1, hb_w1_2]) rfl ⟨w.heap.size + 3, rfl, ?_, ?_⟩
  · exact ((((HO.out.far (by simp [Value.ownBlock]) _).far (by simp [Value.ownBlock]) _).far (by simp [Value.ownBlock]) _).far (by simp [Value.ownBlock]) _).mono (by omega)
  · exact (((HG.out.setCell (by simp; omega) _).setCell (by simp) _).setCell (by simp) _).setCell (by simp) _

theorem info_impl_Job : (Try.prog.info? 72).map (fun i => (i.zero, i.size, i.bytes)) = some (some (.agg #[.int .i64 0, .int .i64 0, .slice none 0 0]), 3, 40) := by kernel_rfl
set_option maxHeartbeats 4000000 in
theorem toJobS_any (L : List Jb) (A : Option Addr) (c : Nat) (w : World) (h : RdJ w A L) (hn : L.length ≤ 1048576) (hr : ∀ m ∈ L, m.st.length ≤ 1048576) :
    Calls Try.prog 22 #[.slice A L.length c] w fun e w' => e = .returned (.slice (some ⟨w.heap.size, 0, none⟩) L.length L.length) ∧
      OwnJ w' w.heap.size (.slice (some ⟨w.heap.size, 0, none⟩) L.length L.length) L ∧ Grew w w' := by
  obtain ⟨i0, hi0, hz0, hz1, hz2⟩ := info_parts info_impl_Job
  have H := Lib.hid h
  have HR := Lib.hid hr
  clear h hr
  go_enter Try.func22, Try.ntmps22
  go_wp2_with (at_make; refine wpList_make_full _ rfl _ _ _ rfl w.heap.size 72 i0 _ 3 Try.underlying42 hi0 hz0 hz1 _ _ _ _ L.length rfl rfl rfl rfl (by rw [hz2]; omega) (by simp only [maxLen]; omega) (Nat.le_refl _) ?_; intro w1 hown1 hgr1)
  have hg1 : Grew w w1 := (Grew.refl w).grown hgr1 (by simp)
  go_loopw [4] (fun i wr => ∃ k : Nat, k ≤ L.length ∧ i = .int .i64 k ∧ Grew w wr ∧ ∃ (rs : List Jr) (r : List Value), rs.length = k ∧ rs.map Jr.j = L.take k ∧ (∀ x ∈ rs, Own Wk.E 74 wr (w.heap.size + 1) (.slice x.A x.l.length x.c) x.l) ∧ rs.Pairwise (fun x y => ∀ b, (Value.slice x.A x.l.length x.c).ownBlock = some b → (Value.slice y.A y.l.length y.c).ownBlock ≠ some b) ∧ r.length = (L.length - k) * 3 ∧ wr.ownsRow w.heap.size 72 3 (.slice (some ⟨w.heap.size, 0, none⟩) L.length L.length) L.length (flat Jr.E rs ++ r)) (fun i _ => L.length - (intOf i).toNat)
  case atStart => exact ⟨0, Nat.zero_le _, rfl, hg1, [], (madeCells (Value.cells _) (L.length * 3)).toList, rfl, by simp, by simp, List.Pairwise.nil, by simp [madeCells], hown1⟩
  case round =>
    obtain ⟨k, hk, rfl, hg, rs, r, hrl, hrm, hrr, hpw, hr, hown⟩ := hrel
    have HPW := Lib.hid hpw
    clear hpw
    clear hown1 hgr1 hg1 hi0 hz0 hz1 hz2
    by_cases hlt : k < L.length
    · obtain ⟨m, hm⟩ : ∃ m, L[k]? = some m := ⟨_, List.getElem?_eq_getElem hlt⟩
      obtain ⟨b, o, B, c', rfl, hb, ⟨hc0, hc1, hc2⟩, hrd⟩ := (H.out.grew hg).at_ hm
      have HM := Lib.hid hm
      have hml := HR.out m (List.mem_of_getElem? hm)
      have HRD := Lib.hid hrd
      have HRL := Lib.hid hrl
      have HRM := Lib.hid hrm
      have HRR := Lib.hid hrr
      have HRX := Lib.hid hr
      have HO := Lib.hid hown
      have HG := Lib.hid hg
      clear hm hrd hrl hrm hrr hr hown hg
      go_wp2_with fail
      refine (toJob_any ⟨m.rl, m.du, m.st, B, c'⟩ _ HRD.out hml).mono ?_; rintro e w2 ⟨X, rfl, ho2, hg2⟩
      have HO2 := Lib.hid (ownsRow_grew HO.out hg2)
      have HW2 := Lib.hid ho2
      have HG2 := Lib.hid hg2
      have hcc : ∀ j, j < 3 → ∃ u, w2.cell? ⟨w.heap.size, k * 3 + j, none⟩ = some u := fun j hj => by
        have h3 := HO2.out.cellAt (k * 3 + j) (by have : (k + 1) * 3 ≤ L.length * 3 := Nat.mul_le_mul_right _ hlt; omega)
        rw [h3]
        have h4 : (flat Jr.E rs ++ r).length = L.length * 3 := HO.out.1
        exact ⟨_, List.getElem?_eq_getElem (by rw [h4]; have : (k + 1) * 3 ≤ L.length * 3 := Nat.mul_le_mul_right _ hlt; omega)⟩
      obtain ⟨u0, hu0⟩ := hcc 0 (by decide)
      obtain ⟨u1, hu1⟩ := hcc 1 (by decide)
      obtain ⟨u2, hu2⟩ := hcc 2 (by decide)
      simp only [Nat.add_zero] at hu0
      have hf2 : ∀ j, w2.frozen? ⟨w.heap.size, j, none⟩ = false := fun j => HO2.out.frozenAt j
      obtain ⟨g0, cap0, hv0, _, hwl⟩ := HO.out.form (by omega)
      obtain rfl : w.heap.size = g0 := by simp only [Value.slice.injEq, Option.some.injEq, Addr.mk.injEq] at hv0; exact hv0.1.1
      have hXb : wr.heap.size ≤ X := (ho2.block X rfl).1
      clear ho2 hg2 hcc
      go_wp2_with fail
      go_roundw
      case rel =>
        go_light
        have hgw : Grew w (storeL w2 w.heap.size (k * 3) (Jr.E.enc ⟨m.rl, m.du, m.st, some ⟨X, 0, none⟩, m.st.length⟩)) := (((HG.out.trans HG2.out).setCell (by simp) _).setCell (by simp) _).setCell (by simp) _
        refine ⟨k + 1, by omega, by go_num, hgw, rs ++ [⟨m.rl, m.du, m.st, some ⟨X, 0, none⟩, m.st.length⟩], r.drop 3, ?_, ?_, ?_, ?_, ?_, ?_⟩
        · rw [List.length_append, HRL.out]; rfl
        · rw [List.map_append, HRM.out, List.take_add_one, HM.out]; rfl
        · intro x hx
          rcases List.mem_append.1 hx with hx | hx
          · have hne : (Value.slice x.A x.l.length x.c).ownBlock ≠ some w.heap.size := fun e => by have := (HRR.out x hx).block _ e; omega
            exact ((((HRR.out x hx).grew HG2.out).far hne _).far hne _).far hne _
          · obtain rfl : x = ⟨m.rl, m.du, m.st, some ⟨X, 0, none⟩, m.st.length⟩ := by simpa using hx
            have hne : (Value.slice (some ⟨X, 0, none⟩) m.st.length m.st.length).ownBlock ≠ some w.heap.size := fun e => by have := HW2.out.block _ e; omega
            exact (((HW2.out.mono (b := w.heap.size + 1) (by omega)).far hne _).far hne _).far hne _
        · rw [List.pairwise_append]
          refine ⟨HPW.out, List.pairwise_singleton _ _, fun x hx y hy => ?_⟩
          obtain rfl : y = ⟨m.rl, m.du, m.st, some ⟨X, 0, none⟩, m.st.length⟩ := by simpa using hy
          intro b hb e2
          have h1 := (HRR.out x hx).block b hb
          have h2 := HW2.out.block b e2
          omega
        · rw [List.length_drop, HRX.out, show L.length - k = (L.length - (k + 1)) + 1 by omega, Nat.succ_mul]; omega
        · have h5 := own_stores (Jr.E.enc ⟨m.rl, m.du, m.st, some ⟨X, 0, none⟩, m.st.length⟩) _ w2 (k * 3) HO2.out
          have h6 : (flat Jr.E rs).length = k * 3 := by rw [flat_length, HRL.out]; rfl
          have h7 := setL_app (Jr.E.enc ⟨m.rl, m.du, m.st, some ⟨X, 0, none⟩, m.st.length⟩) (flat Jr.E rs) r (by rw [HRX.out]; show 3 ≤ _; have : 1 * 3 ≤ (L.length - k) * 3 := Nat.mul_le_mul_right _ (by omega); omega)
          rw [h6, show (Jr.E.enc ⟨m.rl, m.du, m.st, some ⟨X, 0, none⟩, m.st.length⟩).length = 3 from rfl] at h7
          rw [h7] at h5
          rw [flat_append]
          simpa [flat, storeL, Jr.E] using h5
      case measure => go_light; simp [intOf]; omega
    · obtain rfl : k = L.length := by omega
      have HO := Lib.hid hown
      have HR2 := Lib.hid hr
      have HRM := Lib.hid hrm
      have HRR := Lib.hid hrr
      have HRL := Lib.hid hrl
      clear hr hown hrm hrr hrl
      go_wp2
      go_ret
      go_light
      have hr0 : r = [] := List.eq_nil_of_length_eq_zero (by rw [HR2.out]; simp)
      have ho := HO.out
      rw [hr0, List.append_nil] at ho
      refine ⟨rfl, ⟨rs, by rw [HRM.out, List.take_length], ?_, HRR.out, HPW.out, fun b hb => by simpa [Value.ownBlock] using hb.symm⟩, hg⟩
      unfold Own
      rw [HRL.out]
      exact ho

set_option maxHeartbeats 1000000 in
theorem eqJob_any (x y : Jr) (w : World) (h : Rd Wk.E w x.A x.l) (h' : Rd Wk.E w y.A y.l) (hn : x.l.length ≤ 4194304) (hm : y.l.length ≤ 4194304) :
    Calls Try.prog 47 #[x.v, y.v] w fun e w' => e = .returned (.bool (decide (x.j = y.j))) ∧ Grew w w' := by
  obtain ⟨rl, du, l, A, c⟩ := x
  obtain ⟨rl', du', l', A', c'⟩ := y
  have HJ := Lib.hid (show decide ((Jr.mk rl du l A c).j = (Jr.mk rl' du' l' A' c').j) = (decide (rl = rl') && (decide (du = du') && decide (l = l'))) by simp [Jr.j, Bool.decide_and])
  simp only at *
  have H := Lib.hid h
  have H' := Lib.hid h'
  clear h h'
  go_enter Try.func47, Try.ntmps47
  by_cases h1 : rl' = rl
  · subst h1
    by_cases h2 : du' = du
    · subst h2
      have HG0 := Lib.hid (((Grew.refl w).alloc (.cells #[.int .i64 rl', .int .i64 du', .slice A l.length c] 72)).alloc (.cells #[.int .i64 rl', .int .i64 du', .slice A' l'.length c'] 72))
      go_wp2_with fail
      refine (eqWorkS_any l l' A A' c c' _ (H.out.grew HG0.out) (H'.out.grew HG0.out) hn hm).mono ?_; rintro e w1 ⟨rfl, hg⟩
      cases hd : decide (l = l')
      all_goals
        go_wp2_with fail
        go_ret
        go_light
        exact ⟨ret_bool (by rw [HJ.out, hd]; simp), HG0.out.trans hg⟩
    · have hb : (du != du') = true := by simpa using fun e => h2 e.symm
      have HG0 := Lib.hid (((Grew.refl w).alloc (.cells #[.int .i64 rl', .int .i64 du, .slice A l.length c] 72)).alloc (.cells #[.int .i64 rl', .int .i64 du', .slice A' l'.length c'] 72))
      go_wp2_with fail
      go_ret
      go_light
      exact ⟨ret_bool (by rw [HJ.out]; simp; intro e; exact absurd e.symm h2), HG0.out⟩
  · have hb : (rl != rl') = true := by simpa using fun e => h1 e.symm
    have HG0 := Lib.hid (((Grew.refl w).alloc (.cells #[.int .i64 rl, .int .i64 du, .slice A l.length c] 72)).alloc (.cells #[.int .i64 rl', .int .i64 du', .slice A' l'.length c'] 72))
    go_wp2_with fail
    go_ret
    go_light
    exact ⟨ret_bool (by rw [HJ.out]; simp; intro e; exact absurd e.symm h1), HG0.out⟩

set_option maxHeartbeats 1000000 in
theorem eqJobS_any (L M : List Jb) (A B : Option Addr) (c d : Nat) (w : World) (h : RdJ w A L) (h' : RdJ w B M) (hn : L.length ≤ 4194304) (hm : M.length ≤ 4194304) (hr : ∀ m ∈ L, m.st.length ≤ 4194304) (hr' : ∀ m ∈ M, m.st.length ≤ 4194304) :
    Calls Try.prog 24 #[.slice A L.length c, .slice B M.length d] w fun e w' => e = .returned (.bool (decide (L = M))) ∧ Grew w w' := by
  have H := Lib.hid h
  have H' := Lib.hid h'
  have HR := Lib.hid hr
  have HR' := Lib.hid hr'
  clear h h' hr hr'
  by_cases hlen : L.length = M.length
  · have hb : ((L.length : Int) != (M.length : Int)) = false := by simp [hlen]
    have HL := Lib.hid hlen
    clear hlen
    go_enter Try.func24, Try.ntmps24
    go_wp2_with fail
    go_loopw [5] (fun i wr => ∃ k : Nat, k ≤ L.length ∧ i = .int .i64 k ∧ Grew w wr ∧ L.take k = M.take k) (fun i _ => L.length - (intOf i).toNat)
    case atStart => exact ⟨0, Nat.zero_le _, rfl, Grew.refl _, by simp⟩
    case round =>
      obtain ⟨k, hk, rfl, hg, heq⟩ := hrel
      have HQ := Lib.hid heq
      clear heq
      by_cases hlt : k < L.length
      · have hlt2 : k < M.length := by rw [← HL.out]; exact hlt
        obtain ⟨x, hx⟩ : ∃ x, L[k]? = some x := ⟨_, List.getElem?_eq_getElem hlt⟩
        obtain ⟨y, hy⟩ : ∃ y, M[k]? = some y := ⟨_, List.getElem?_eq_getElem hlt2⟩
        obtain ⟨b, o, X, cx, rfl, hb1, ⟨hc0, hc1, hc2⟩, hrx⟩ := (H.out.grew hg).at_ hx
        obtain ⟨b', o', Y, cy, rfl, hb2, ⟨hd0, hd1, hd2⟩, hry⟩ := (H'.out.grew hg).at_ hy
        have hxl := HR.out x (List.mem_of_getElem? hx)
        have hyl := HR'.out y (List.mem_of_getElem? hy)
        have HX := Lib.hid hx
        have HY := Lib.hid hy
        have HG := Lib.hid hg
        have HRX := Lib.hid hrx
        have HRY := Lib.hid hry
        clear hx hy hg hrx hry hb
        have hi1 : (0 : Int) ≤ (k : Int) := by omega
        have hi2 : (k : Int) < (L.length : Int) := by omega
        have hi3 : (k : Int) < (M.length : Int) := by omega
        cases hxy : decide (x = y)
        all_goals
          have HE := Lib.hid (show decide ((Jr.mk x.rl x.du x.st X cx).j = (Jr.mk y.rl y.du y.st Y cy).j) = _ from hxy)
          go_wp2_with fail
          (refine wp_region_grow_lit (by kernel_rfl) (by kernel_rfl) ?_; repeat (any_goals (first | go_big_quiet_step (((go_at_call 47; exact quiet_grew (HE.out ▸ eqJob_any ⟨x.rl, x.du, x.st, X, cx⟩ ⟨y.rl, y.du, y.st, Y, cy⟩ _ (HRX.out.gw _) (HRY.out.gw _) hxl hyl)))) | quiet_step (((go_at_call 47; exact quiet_grew (HE.out ▸ eqJob_any ⟨x.rl, x.du, x.st, X, cx⟩ ⟨y.rl, y.du, y.st, Y, cy⟩ _ (HRX.out.gw _) (HRY.out.gw _) hxl hyl)))) | (refine wpQuiet_step (fun K hK => ?_); go_simp; split <;> rename_i hsp <;> (refine hK _ ?_; clear hK K) <;> (try first | simp only [hsp, decide_true, decide_false, Bool.not_true, Bool.not_false] | simp only [Int.not_le.2 hsp, decide_false, Bool.not_false] | simp only [Int.not_lt.2 hsp, decide_false, Bool.not_false] | simp only [Nat.not_le.2 hsp, decide_false, Bool.not_false] | simp only [Nat.not_lt.2 hsp, decide_false, Bool.not_false])))))
          all_goals (refine wpQuiet_nil ?_; intro w1 h1)
          go_wp2_with fail
        · go_ret
          go_light
          refine ⟨ret_bool ?_, HG.out.trans h1⟩
          have hne : x ≠ y := of_decide_eq_false hxy
          have : L ≠ M := fun e => hne (by have h3 := HX.out; rw [e, HY.out] at h3; injection h3 with h3; exact h3.symm)
          simp [this]
        · go_roundw
          case rel =>
            go_light
            refine ⟨k + 1, by omega, by go_num, HG.out.trans h1, ?_⟩
            rw [List.take_add_one, List.take_add_one, HQ.out, HX.out, HY.out, of_decide_eq_true hxy]
          case measure => go_light; simp [intOf]; omega
      · go_wp2_with fail
        go_ret
        go_light
        refine ⟨ret_bool ?_, hg⟩
        have h1 : L = M := by
          have h2 := HQ.out
          rwa [List.take_of_length_le (by omega), List.take_of_length_le (by rw [← HL.out]; omega)] at h2
        simp [h1]
  · have hb : ((L.length : Int) != (M.length : Int)) = true := by simp; omega
    have hne : L ≠ M := fun e => hlen (by rw [e])
    go_enter Try.func24, Try.ntmps24
    go_wp2_with fail
    go_ret
    go_light
    exact ⟨ret_bool (by simp [hne]), Grew.refl _⟩
set_option maxRecDepth 100000 in
/-- A slice of steps as the reading of a job's field. -/
theorem Wk.in_ {H : Type} {enc : TypeId × Value → H} {w : World} {spare : Nat → Bool} {held : Bool} {fuel : Nat} {v : Value} {y : DataW H × List MemPlace}
    (hf1 : DataW.trod enc Try.prog w 0 spare held fuel 65 [v] = some y) :
    ∃ (l : List Wk) (A : Option Addr) (c : Nat), v = .slice A l.length c ∧ Rd Wk.E w A l ∧ l.length ≤ c ∧ l.length ≤ maxLen ∧ ∀ x ∈ l, x.Ok := by
  rcases open_slice_fields Try.underlying65 Try.underlying106 (by kernel_rfl) (by kernel_rfl) hf1 with ⟨hcs, _⟩ | ⟨a, len, cap, m, D, Pl, hcs, _, hl, hm, hmm, _, hi⟩
  · simp only [List.cons.injEq, and_true] at hcs
    subst hcs
    exact ⟨[], none, 0, rfl, Rd.nil, Nat.le_refl _, by simp [maxLen], by simp⟩
  · simp only [List.cons.injEq, and_true] at hcs
    subst hcs
    have hx : ∀ i, i < len → ∃ x : Wk, x.Ok ∧ ∀ j u, (Wk.E.enc x)[j]? = some u → w.cell? (a.add (i * 2 + j)) = some u := by
      intro i hil
      obtain ⟨ys, n, _, _, _, hf⟩ := hi i (by rw [hmm]; split <;> omega)
      obtain ⟨v0, y0, hv0, _, ht0⟩ := hf 0 _ rfl
      obtain ⟨ce, hq0, _, hw0⟩ := DataW.trod_string Try.underlying9 ht0
      obtain rfl : v0 = .string ce := by injection hq0
      obtain ⟨v1, y1, hv1, _, ht1⟩ := hf 1 _ rfl
      obtain ⟨mi, hq1, _, hw1⟩ := DataW.trod_int Try.underlying3 ht1
      obtain rfl : v1 = .int .i64 mi := by injection hq1
      refine ⟨⟨ce, mi⟩, ⟨trivial, hw0, hw1, trivial⟩, fun j u hu => ?_⟩
      match j, hu with
      | 0, hu => (have : u = .string ce := by simpa [Wk.E] using hu.symm); subst this; exact hv0
      | 1, hu => (have : u = .int .i64 mi := by simpa [Wk.E] using hu.symm); subst this; exact hv1
      | j + 2, hu => simp [Wk.E] at hu
    obtain ⟨l, hl1, hl2⟩ := list_of_fn len (fun i x => x.Ok ∧ ∀ j u, (Wk.E.enc x)[j]? = some u → w.cell? (a.add (i * 2 + j)) = some u) hx
    subst hl1
    refine ⟨l, some a, cap, rfl, rd_of_add (E := Wk.E) (fun i x hx => (hl2 i x hx).2), hl, by omega, fun x hx => ?_⟩
    obtain ⟨i, hi⟩ := List.mem_iff_getElem?.1 hx
    exact (hl2 i x hi).1
set_option maxRecDepth 100000 in
theorem Jb.open_ {H : Type} {enc : TypeId × Value → H} {w : World} {spare : Nat → Bool} {held : Bool} {v : Value} {d : DataW H} {p : List MemPlace} {rc : Reach} {b0 : Nat}
    (hv : Value.okWide Try.prog w rc b0 38 v) (h : DataW.Trod enc Try.prog w 0 spare held 38 v d p) :
    ∃ (l : List Jb) (A : Option Addr) (c : Nat), v = .slice A l.length c ∧ RdJ w A l ∧ l.length ≤ c ∧ c ≤ maxLen ∧ ∀ x ∈ l, x.Ok := by
  obtain ⟨a0, len0, cap0, rfl⟩ := okWide_slice Try.underlying38 hv
  obtain ⟨fuel, hf0⟩ := h
  have hf1 : DataW.trod enc Try.prog w 0 spare held fuel 38 [.slice a0 len0 cap0] = some (d, p) := by simpa [Value.cells] using hf0
  rcases open_slice_fields Try.underlying38 Try.underlying67 (by kernel_rfl) (by kernel_rfl) hf1 with ⟨hcs, _⟩ | ⟨a, len, cap, m, D, Pl, hcs, _, hl, hm, hmm, _, hi⟩
  · simp only [List.cons.injEq, Value.slice.injEq, and_true] at hcs
    obtain ⟨rfl, rfl, rfl⟩ := hcs
    exact ⟨[], none, 0, rfl, ⟨[], rfl, Rd.nil, by simp⟩, Nat.le_refl _, by simp [maxLen], by simp⟩
  · simp only [List.cons.injEq, Value.slice.injEq, and_true] at hcs
    obtain ⟨rfl, rfl, rfl⟩ := hcs
    have hx : ∀ i, i < len0 → ∃ x : Jr, ((Rd Wk.E w x.A x.l ∧ x.l.length ≤ x.c) ∧ x.l.length ≤ maxLen ∧ (∀ y ∈ x.l, y.Ok) ∧ (Lit.int .i64 x.rl).wf = true ∧ (Lit.int .i64 x.du).wf = true) ∧ ∀ j u, (Jr.E.enc x)[j]? = some u → w.cell? (a.add (i * 3 + j)) = some u := by
      intro i hil
      obtain ⟨ys, n, _, _, _, hf⟩ := hi i (by rw [hmm]; split <;> omega)
      obtain ⟨v0, y0, hv0, _, ht0⟩ := hf 0 _ rfl
      obtain ⟨rl, hq0, _, hw0⟩ := DataW.trod_int Try.underlying3 ht0
      obtain rfl : v0 = .int .i64 rl := by injection hq0
      obtain ⟨v1, y1, hv1, _, ht1⟩ := hf 1 _ rfl
      obtain ⟨du, hq1, _, hw1⟩ := DataW.trod_int Try.underlying3 ht1
      obtain rfl : v1 = .int .i64 du := by injection hq1
      obtain ⟨v2, y2, hv2, _, ht2⟩ := hf 2 _ rfl
      obtain ⟨l, B, cB, rfl, hrd, hcp, hlm, hok⟩ := Wk.in_ ht2
      refine ⟨⟨rl, du, l, B, cB⟩, ⟨⟨hrd, hcp⟩, hlm, hok, hw0, hw1⟩, fun j u hu => ?_⟩
      match j, hu with
      | 0, hu => (have : u = .int .i64 rl := by simpa [Jr.E] using hu.symm); subst this; exact hv0
      | 1, hu => (have : u = .int .i64 du := by simpa [Jr.E] using hu.symm); subst this; exact hv1
      | 2, hu => (have : u = .slice B l.length cB := by simpa [Jr.E] using hu.symm); subst this; exact hv2
      | j + 3, hu => simp [Jr.E] at hu
    obtain ⟨l, hl1, hl2⟩ := list_of_fn len0 (fun i (x : Jr) => ((Rd Wk.E w x.A x.l ∧ x.l.length ≤ x.c) ∧ x.l.length ≤ maxLen ∧ (∀ y ∈ x.l, y.Ok) ∧ (Lit.int .i64 x.rl).wf = true ∧ (Lit.int .i64 x.du).wf = true) ∧ ∀ j u, (Jr.E.enc x)[j]? = some u → w.cell? (a.add (i * 3 + j)) = some u) hx
    subst hl1
    have hall : ∀ x ∈ l, (Rd Wk.E w x.A x.l ∧ x.l.length ≤ x.c) ∧ x.l.length ≤ maxLen ∧ (∀ y ∈ x.l, y.Ok) ∧ (Lit.int .i64 x.rl).wf = true ∧ (Lit.int .i64 x.du).wf = true := fun x hx => by
      obtain ⟨i, hi⟩ := List.mem_iff_getElem?.1 hx
      exact (hl2 i x hi).1
    refine ⟨l.map Jr.j, some a, cap0, by simp, ⟨l, rfl, rd_of_add (E := Jr.E) (fun i x hx => (hl2 i x hx).2), fun x hx => (hall x hx).1⟩, by simpa using hl, hm, fun m hm => ?_⟩
    obtain ⟨x, hx, rfl⟩ := List.mem_map.1 hm
    exact (hall x hx).2
end Go.Proofs.Ytembbgkhmnalpaa
