/- Tasks: the struct; AreTasks of the program and of the reference return what a plain function returns. Conditions: none. -/
import Derived.Test.YteckhmbkagigjaaMem
namespace Go.Proofs.Yteckhmbkagigjaa
open Go.RowKit Go.ChangeShapes Go.WideShapes Go.Deep
set_option linter.unusedVariables false
set_option linter.unusedSimpArgs false

structure Tsk where
  m : Int
  d : Int
  wt : Int
deriving DecidableEq
theorem Tsk.eq_iff {x y : Tsk} : x = y ↔ x.m = y.m ∧ x.d = y.d ∧ x.wt = y.wt := by cases x; cases y; simp
abbrev Tsk.v (x : Tsk) : Value := .agg #[.int .i64 x.m, .int .i64 x.d, .int .i64 x.wt]
def Tsk.E : Enc Tsk := { enc := fun x => [.int .i64 x.m, .int .i64 x.d, .int .i64 x.wt], sz := 3, pos := by decide, len := fun _ => rfl, one := by intro x u hu; simp at hu; rcases hu with rfl | rfl | rfl <;> rfl }
theorem Tsk.at_ {w : World} {b o : Nat} {l : List Tsk} (hc : ∀ i x, l[i]? = some x → ∀ j u, (Tsk.E.enc x)[j]? = some u → w.cell? ⟨b, o + i * Tsk.E.sz + j, none⟩ = some u) {k : Nat} {x : Tsk} (hx : l[k]? = some x) :
    w.cell? ⟨b, o + k * 3, none⟩ = some (.int .i64 x.m) ∧ w.cell? ⟨b, o + k * 3 + 1, none⟩ = some (.int .i64 x.d) ∧ w.cell? ⟨b, o + k * 3 + 2, none⟩ = some (.int .i64 x.wt) := ⟨hc k x hx 0 _ rfl, hc k x hx 1 _ rfl, hc k x hx 2 _ rfl⟩
def Tsk.Ok (x : Tsk) : Prop := True ∧ (Lit.int .i64 x.m).wf = true ∧ (Lit.int .i64 x.d).wf = true ∧ (Lit.int .i64 x.wt).wf = true ∧ True
set_option maxHeartbeats 400000 in
theorem toTask_any (x : Tsk) (w : World) :
    Calls Try.prog 41 #[x.v] w fun e w' => e = .returned x.v ∧ Grew w w' := by
  obtain ⟨m, d, wt⟩ := x
  go_enter Try.func41, Try.ntmps41
  go_wp2
  exact bodyPost_ret (v := .agg #[.int .i64 m, .int .i64 d, .int .i64 wt]) (by simp [results, Try.results41, go_sem]) rfl ⟨rfl, (((Grew.refl _).alloc _).alloc _).alloc _⟩
set_option maxHeartbeats 1000000 in
theorem eqTask_any (x y : Tsk) (w : World) :
    Calls Try.prog 42 #[x.v, y.v] w fun e w' => e = .returned (.bool (decide (x = y))) ∧ Grew w w' := by
  obtain ⟨m, d, wt⟩ := x
  obtain ⟨m', d', wt'⟩ := y
  go_enter Try.func42, Try.ntmps42
  go_wp2
  all_goals go_ret
  all_goals refine ⟨ret_bool ?_, ((Grew.refl _).alloc _).alloc _⟩
  all_goals go_light
  all_goals simp_all [ba_inj]
theorem info_impl_Tsk : (Try.prog.info? 47).map (fun i => (i.zero, i.size, i.bytes)) = some (some (.agg #[.int .i64 0, .int .i64 0, .int .i64 0]), 3, 24) := by kernel_rfl
set_option maxHeartbeats 1000000 in
theorem toTaskS_any (l : List Tsk) (A : Option Addr) (c : Nat) (w : World) (h : Rd Tsk.E w A l) (hn : l.length ≤ 1048576) :
    Calls Try.prog 18 #[.slice A l.length c] w fun e w' => e = .returned (.slice (some ⟨w.heap.size, 0, none⟩) l.length l.length) ∧
      Own Tsk.E 47 w' w.heap.size (.slice (some ⟨w.heap.size, 0, none⟩) l.length l.length) l ∧ Grew w w' := by
  obtain ⟨i0, hi0, hz0, hz1, hz2⟩ := info_parts info_impl_Tsk
  go_enter Try.func18, Try.ntmps18
  go_wp2_with (at_make; refine wpList_make_full _ rfl _ _ _ rfl w.heap.size 47 i0 _ 3 Try.underlying29 hi0 hz0 hz1 _ _ _ _ l.length rfl rfl rfl rfl (by rw [hz2]; omega) (by simp only [maxLen]; omega) (Nat.le_refl _) ?_; intro w1 hown1 hgr1)
  have hg1 : Grew w w1 := (Grew.refl w).grown hgr1 (by simp)
  have hb1 : w.heap.size < w1.heap.size ∨ l.length = 0 := by
    rcases Nat.eq_zero_or_pos l.length with h0 | h0
    · exact .inr h0
    · exact .inl (hown1.lt _ rfl).2
  go_loopw [4] (fun i wr => ∃ k : Nat, k ≤ l.length ∧ i = .int .i64 k ∧ Grew w wr ∧ ∃ r : List Value, r.length = (l.length - k) * 3 ∧ wr.ownsRow w.heap.size 47 3 (.slice (some ⟨w.heap.size, 0, none⟩) l.length l.length) l.length (flat Tsk.E (l.take k) ++ r)) (fun i _ => l.length - (intOf i).toNat)
  case atStart => exact ⟨0, Nat.zero_le _, rfl, hg1, (madeCells (Value.cells _) (l.length * 3)).toList, by simp [madeCells], hown1⟩
  case round =>
    obtain ⟨k, hk, rfl, hg, r, hr, hown⟩ := hrel
    clear hown1 hgr1 hg1 hb1
    by_cases hlt : k < l.length
    · obtain ⟨x, hx⟩ : ∃ x, l[k]? = some x := ⟨_, List.getElem?_eq_getElem hlt⟩
      obtain ⟨b, o, rfl, hb, hc⟩ := (h.grew hg).at_ hlt
      have hcx := Tsk.at_ hc hx
      obtain ⟨hc0, hc1, hc2⟩ := hcx
      have HX := Lib.hid hx
      have HR := Lib.hid hr
      have HO := Lib.hid hown
      have HG := Lib.hid hg
      clear hx hr hown hc hg h hi0 hz0 hz1 hz2
      go_wp2_with fail
      refine (toTask_any x _).mono ?_
      rintro e w2 ⟨rfl, h2⟩
      have HO2 := Lib.hid (ownsRow_grew HO.out h2)
      have hcc : ∀ j, j < 3 → ∃ u, w2.cell? ⟨w.heap.size, k * 3 + j, none⟩ = some u := fun j hj => by
        have h3 := HO2.out.cellAt (k * 3 + j) (by have : (k + 1) * 3 ≤ l.length * 3 := Nat.mul_le_mul_right _ hlt; omega)
        rw [h3]
        have h4 : (flat Tsk.E (l.take k) ++ r).length = l.length * 3 := HO2.out.1
        exact ⟨_, List.getElem?_eq_getElem (by rw [h4]; have : (k + 1) * 3 ≤ l.length * 3 := Nat.mul_le_mul_right _ hlt; omega)⟩
      obtain ⟨u0, hu0⟩ := hcc 0 (by decide)
      obtain ⟨u1, hu1⟩ := hcc 1 (by decide)
      obtain ⟨u2, hu2⟩ := hcc 2 (by decide)
      simp only [Nat.add_zero] at hu0
      have hf2 : ∀ j, w2.frozen? ⟨w.heap.size, j, none⟩ = false := fun j => HO2.out.frozenAt j
      clear hcc
      go_wp2_with fail
      have hfin : (storeL w2 w.heap.size (k * 3) (Tsk.E.enc x)).ownsRow w.heap.size 47 3 (.slice (some ⟨w.heap.size, 0, none⟩) l.length l.length) l.length (flat Tsk.E (l.take (k + 1)) ++ r.drop 3) := by
        have h5 := own_stores (Tsk.E.enc x) _ w2 (k * 3) HO2.out
        have h6 : (flat Tsk.E (l.take k)).length = k * 3 := by rw [flat_length, List.length_take, Nat.min_eq_left hk]; rfl
        have h7 := setL_app (Tsk.E.enc x) (flat Tsk.E (l.take k)) r (by rw [HR.out]; show 3 ≤ _; have : 1 * 3 ≤ (l.length - k) * 3 := Nat.mul_le_mul_right _ (by omega); omega)
        rw [h6, show (Tsk.E.enc x).length = 3 from rfl] at h7
        rw [h7] at h5
        have h8 : l.take (k + 1) = l.take k ++ [x] := by rw [List.take_add_one, HX.out]; rfl
        rw [h8, flat_append]
        simpa [flat] using h5
      go_roundw
      case rel =>
        go_light
        refine ⟨k + 1, by omega, by go_num, ?_, r.drop 3, ?_, hfin⟩
        · have hg3 := HG.out.trans h2
          exact ((hg3.setCell (by simp) _).setCell (by simp) _).setCell (by simp) _
        · rw [List.length_drop, HR.out, show l.length - k = (l.length - (k + 1)) + 1 by omega, Nat.succ_mul]; omega
      case measure => go_light; simp [intOf]; omega
    · obtain rfl : k = l.length := by omega
      have HO := Lib.hid hown
      have HR := Lib.hid hr
      clear hr hown h hi0 hz0 hz1 hz2
      go_wp2
      go_ret
      go_light
      refine ⟨rfl, ?_, hg⟩
      have hr0 : r = [] := List.eq_nil_of_length_eq_zero (by rw [HR.out]; simp)
      have := HO.out
      rw [hr0, List.append_nil, List.take_length] at this
      exact this
set_option maxHeartbeats 1000000 in
theorem eqTaskS_any (l m : List Tsk) (A B : Option Addr) (c d : Nat) (w : World) (h : Rd Tsk.E w A l) (h' : Rd Tsk.E w B m) (hn : l.length ≤ 4194304) (hm : m.length ≤ 4194304) :
    Calls Try.prog 20 #[.slice A l.length c, .slice B m.length d] w fun e w' => e = .returned (.bool (decide (l = m))) ∧ Grew w w' := by
  by_cases hlen : l.length = m.length
  · have hb : ((l.length : Int) != (m.length : Int)) = false := by simp [hlen]
    have HL := Lib.hid hlen
    clear hlen
    go_enter Try.func20, Try.ntmps20
    go_wp2_with fail
    go_loopw [5] (fun i wr => ∃ k : Nat, k ≤ l.length ∧ i = .int .i64 k ∧ Grew w wr ∧ l.take k = m.take k) (fun i _ => l.length - (intOf i).toNat)
    case atStart => exact ⟨0, Nat.zero_le _, rfl, Grew.refl _, by simp⟩
    case round =>
      obtain ⟨k, hk, rfl, hg, heq⟩ := hrel
      have HQ := Lib.hid heq
      clear heq
      by_cases hlt : k < l.length
      · have hlt2 : k < m.length := by rw [← HL.out]; exact hlt
        obtain ⟨x, hx⟩ : ∃ x, l[k]? = some x := ⟨_, List.getElem?_eq_getElem hlt⟩
        obtain ⟨y, hy⟩ : ∃ y, m[k]? = some y := ⟨_, List.getElem?_eq_getElem hlt2⟩
        obtain ⟨b, o, rfl, hb1, hc⟩ := (h.grew hg).at_ hlt
        obtain ⟨b', o', rfl, hb1', hc'⟩ := (h'.grew hg).at_ hlt2
        have hcx := Tsk.at_ hc hx
        have hcy := Tsk.at_ hc' hy
        obtain ⟨hc0, hc1, hc2⟩ := hcx
        obtain ⟨hd0, hd1, hd2⟩ := hcy
        have HX := Lib.hid hx
        have HY := Lib.hid hy
        have HG := Lib.hid hg
        clear hx hy hc hc' hg h h' hb
        have hi1 : (0 : Int) ≤ (k : Int) := by omega
        have hi2 : (k : Int) < (l.length : Int) := by omega
        have hi3 : (k : Int) < (m.length : Int) := by omega
        cases hd : decide (x = y)
        · go_wp2_with fail
          (refine wp_region_grow_lit (by kernel_rfl) (by kernel_rfl) ?_; repeat (any_goals (first | go_big_quiet_step ((go_at_call 42; exact quiet_grew (eqTask_any x y _))) | quiet_step ((go_at_call 42; exact quiet_grew (eqTask_any x y _))) | (refine wpQuiet_step (fun K hK => ?_); go_simp; split <;> rename_i hsp <;> (refine hK _ ?_; clear hK K) <;> (try first | simp only [hsp, decide_true, decide_false, Bool.not_true, Bool.not_false] | simp only [Int.not_le.2 hsp, decide_false, Bool.not_false] | simp only [Int.not_lt.2 hsp, decide_false, Bool.not_false] | simp only [Nat.not_le.2 hsp, decide_false, Bool.not_false] | simp only [Nat.not_lt.2 hsp, decide_false, Bool.not_false])))))
          all_goals (refine wpQuiet_nil ?_; intro w1 h1)
          go_wp2_with fail
          go_ret
          go_light
          refine ⟨ret_bool ?_, HG.out.trans h1⟩
          have hxy : x ≠ y := of_decide_eq_false hd
          have : l ≠ m := fun e => hxy (by have h3 := HX.out; rw [e, HY.out] at h3; injection h3 with h3; exact h3.symm)
          simp [this]
        · go_wp2_with fail
          (refine wp_region_grow_lit (by kernel_rfl) (by kernel_rfl) ?_; repeat (any_goals (first | go_big_quiet_step ((go_at_call 42; exact quiet_grew (eqTask_any x y _))) | quiet_step ((go_at_call 42; exact quiet_grew (eqTask_any x y _))) | (refine wpQuiet_step (fun K hK => ?_); go_simp; split <;> rename_i hsp <;> (refine hK _ ?_; clear hK K) <;> (try first | simp only [hsp, decide_true, decide_false, Bool.not_true, Bool.not_false] | simp only [Int.not_le.2 hsp, decide_false, Bool.not_false] | simp only [Int.not_lt.2 hsp, decide_false, Bool.not_false] | simp only [Nat.not_le.2 hsp, decide_false, Bool.not_false] | simp only [Nat.not_lt.2 hsp, decide_false, Bool.not_false])))))
          all_goals (refine wpQuiet_nil ?_; intro w1 h1)
          go_wp2_with fail
          go_roundw
          case rel =>
            go_light
            refine ⟨k + 1, by omega, by go_num, HG.out.trans h1, ?_⟩
            have hxy : x = y := of_decide_eq_true hd
            rw [List.take_add_one, List.take_add_one, HQ.out, HX.out, HY.out, hxy]
          case measure => go_light; simp [intOf]; omega
      · go_wp2_with fail
        go_ret
        go_light
        refine ⟨ret_bool ?_, hg⟩
        have h1 : l = m := by
          have h2 := HQ.out
          rwa [List.take_of_length_le (by omega), List.take_of_length_le (by rw [← HL.out]; omega)] at h2
        simp [h1]
  · have hb : ((l.length : Int) != (m.length : Int)) = true := by simp; omega
    have hne : l ≠ m := fun e => hlen (by rw [e])
    go_enter Try.func20, Try.ntmps20
    go_wp2_with fail
    go_ret
    go_light
    exact ⟨ret_bool (by simp [hne]), Grew.refl _⟩
set_option maxHeartbeats 400000 in
theorem szTaskS_any (l : List Tsk) (A : Option Addr) (c : Nat) (m : Int) (w : World) (hm : 0 ≤ m) (hm2 : m ≤ 1048576) (hl : l.length ≤ maxLen) :
    Calls Try.prog 16 #[.slice A l.length c, .int .i64 m] w (SzPost l.length m w) := by
  unfold maxLen at hl
  go_enter Try.func16, Try.ntmps16
  by_cases h : m < l.length
  · go_wp2
    go_ret
    go_light
    exact ⟨-1, rfl, by omega, by omega, Grew.refl _⟩
  · go_wp2
    go_ret
    go_light
    exact ⟨_, rfl, by omega, by omega, Grew.refl _⟩
set_option maxRecDepth 100000 in
theorem Tsk.open_ {H : Type} {enc : TypeId × Value → H} {w : World} {spare : Nat → Bool} {held : Bool} {v : Value} {d : DataW H} {p : List MemPlace} {rc : Reach} {b0 : Nat}
    (hv : Value.okWide Try.prog w rc b0 26 v) (h : DataW.Trod enc Try.prog w 0 spare held 26 v d p) :
    ∃ (l : List Tsk) (A : Option Addr) (c : Nat), v = .slice A l.length c ∧ Rd Tsk.E w A l ∧ l.length ≤ c ∧ c ≤ maxLen ∧ ∀ x ∈ l, x.Ok := by
  obtain ⟨a0, len0, cap0, rfl⟩ := okWide_slice Try.underlying26 hv
  obtain ⟨fuel, hf0⟩ := h
  have hf1 : DataW.trod enc Try.prog w 0 spare held fuel 26 [.slice a0 len0 cap0] = some (d, p) := by simpa [Value.cells] using hf0
  rcases open_slice_fields Try.underlying26 Try.underlying49 (by kernel_rfl) (by kernel_rfl) hf1 with ⟨hcs, _⟩ | ⟨a, len, cap, m, D, Pl, hcs, _, hl, hm, hmm, _, hi⟩
  · simp only [List.cons.injEq, Value.slice.injEq, and_true] at hcs
    obtain ⟨rfl, rfl, rfl⟩ := hcs
    exact ⟨[], none, 0, rfl, Rd.nil, Nat.le_refl _, by simp [maxLen], by simp⟩
  · simp only [List.cons.injEq, Value.slice.injEq, and_true] at hcs
    obtain ⟨rfl, rfl, rfl⟩ := hcs
    have hx : ∀ i, i < len0 → ∃ x : Tsk, x.Ok ∧ ∀ j u, (Tsk.E.enc x)[j]? = some u → w.cell? (a.add (i * 3 + j)) = some u := by
      intro i hil
      obtain ⟨ys, n, _, _, _, hf⟩ := hi i (by rw [hmm]; split <;> omega)
      obtain ⟨v0, y0, hv0, _, ht0⟩ := hf 0 _ rfl
      obtain ⟨m, hq0, _, hw0⟩ := DataW.trod_int Try.underlying3 ht0
      obtain rfl : v0 = .int .i64 m := by injection hq0
      obtain ⟨v1, y1, hv1, _, ht1⟩ := hf 1 _ rfl
      obtain ⟨d, hq1, _, hw1⟩ := DataW.trod_int Try.underlying3 ht1
      obtain rfl : v1 = .int .i64 d := by injection hq1
      obtain ⟨v2, y2, hv2, _, ht2⟩ := hf 2 _ rfl
      obtain ⟨wt, hq2, _, hw2⟩ := DataW.trod_int Try.underlying3 ht2
      obtain rfl : v2 = .int .i64 wt := by injection hq2
      refine ⟨⟨m, d, wt⟩, ⟨trivial, hw0, hw1, hw2, trivial⟩, fun j u hu => ?_⟩
      match j, hu with
      | 0, hu => (have : u = .int .i64 m := by simpa [Tsk.E] using hu.symm); subst this; exact hv0
      | 1, hu => (have : u = .int .i64 d := by simpa [Tsk.E] using hu.symm); subst this; exact hv1
      | 2, hu => (have : u = .int .i64 wt := by simpa [Tsk.E] using hu.symm); subst this; exact hv2
      | j + 3, hu => simp [Tsk.E] at hu
    obtain ⟨l, hl1, hl2⟩ := list_of_fn len0 (fun i x => x.Ok ∧ ∀ j u, (Tsk.E.enc x)[j]? = some u → w.cell? (a.add (i * 3 + j)) = some u) hx
    subst hl1
    refine ⟨l, some a, cap0, rfl, rd_of_add (E := Tsk.E) (fun i x hx => (hl2 i x hx).2), hl, hm, fun x hx => ?_⟩
    obtain ⟨i, hi⟩ := List.mem_iff_getElem?.1 hx
    exact (hl2 i x hi).1

def tsk0 : Tsk := ⟨0, 0, 0⟩
def tskOk (x : Tsk) : Bool := inB x.m 1 1000 && inB x.d 0 100000 && inB x.wt 1 100
def areT (l : List Tsk) : Bool := allTo (fun i => tskOk (l.getD i tsk0)) l.length && decide ((l.length : Int) ≤ 8)

set_option maxHeartbeats 1000000 in
theorem areTasks_impl (l : List Tsk) (A : Option Addr) (c : Nat) (w : World) (h : Rd Tsk.E w A l) (hn : l.length ≤ 4194304) :
    Calls Try.prog 19 #[.slice A l.length c] w fun e w' => e = .returned (.bool (areT l)) ∧ Grew w w' := by
  have HA := Lib.hid (show areT l = (allTo (fun i => tskOk (l.getD i tsk0)) l.length && decide ((l.length : Int) ≤ 8)) from rfl)
  go_enter Try.func19, Try.ntmps19
  go_wp2_with fail
  go_loopw [7] (fun i wr => ∃ k : Nat, k ≤ l.length ∧ i = .int .i64 k ∧ Grew w wr ∧ allTo (fun i => tskOk (l.getD i tsk0)) k = true) (fun i _ => l.length - (intOf i).toNat)
  case atStart => exact ⟨0, Nat.zero_le _, rfl, Grew.refl _, rfl⟩
  case round =>
    obtain ⟨k, hk, rfl, hg, hall⟩ := hrel
    have HALL := Lib.hid hall
    have HG := Lib.hid hg
    clear hall
    by_cases hlt : k < l.length
    · obtain ⟨x, hx⟩ : ∃ x, l[k]? = some x := ⟨_, List.getElem?_eq_getElem hlt⟩
      obtain ⟨b, o, rfl, hb, hc⟩ := (h.grew hg).at_ hlt
      obtain ⟨hc0, hc1, hc2⟩ := Tsk.at_ hc hx
      have HK := Lib.hid (show tskOk (l.getD k tsk0) = (inB x.m 1 1000 && inB x.d 0 100000 && inB x.wt 1 100) by simp [tskOk, List.getD_eq_getElem?_getD, hx])
      clear hx hc hg h
      go_wp2_with (go_at_call 40; refine (in_any _ _ _ _).mono ?_; rintro e w' ⟨rfl, rfl⟩)
      all_goals first
        | (go_ret; go_light; exact ⟨ret_bool (by rw [HA.out, allTo_not hlt (by rw [HK.out]; simp_all)]; simp), (HG.out.alloc _)⟩)
        | (go_roundw
           case rel => go_light; exact ⟨k + 1, by omega, by go_num, (HG.out.alloc _), allTo_step HALL.out (by rw [HK.out]; simp_all)⟩
           case measure => go_light; simp [intOf]; omega)
    · obtain rfl : k = l.length := by omega
      go_wp2_with fail
      go_ret
      go_light
      exact ⟨ret_bool (by rw [HA.out, HALL.out]; rfl), HG.out⟩
set_option maxHeartbeats 1000000 in
theorem areTasks_spec (l : List Tsk) (A : Option Addr) (c : Nat) (w : World) (h : Rd Tsk.E w A l) (hn : l.length ≤ 4194304) :
    Calls Try.prog 17 #[.slice A l.length c] w fun e w' => e = .returned (.bool (areT l)) ∧ Grew w w' := by
  have HA := Lib.hid (show areT l = (allTo (fun i => tskOk (l.getD i tsk0)) l.length && decide ((l.length : Int) ≤ 8)) from rfl)
  go_enter Try.func17, Try.ntmps17
  go_wp2_with fail
  go_loopw [3] (fun i wr => ∃ k : Nat, k ≤ l.length ∧ i = .int .i64 k ∧ Grew w wr ∧ allTo (fun i => tskOk (l.getD i tsk0)) k = true) (fun i _ => l.length - (intOf i).toNat)
  case atStart => exact ⟨0, Nat.zero_le _, rfl, Grew.refl _, rfl⟩
  case round =>
    obtain ⟨k, hk, rfl, hg, hall⟩ := hrel
    have HALL := Lib.hid hall
    have HG := Lib.hid hg
    clear hall
    by_cases hlt : k < l.length
    · obtain ⟨x, hx⟩ : ∃ x, l[k]? = some x := ⟨_, List.getElem?_eq_getElem hlt⟩
      obtain ⟨b, o, rfl, hb, hc⟩ := (h.grew hg).at_ hlt
      obtain ⟨hc0, hc1, hc2⟩ := Tsk.at_ hc hx
      have HK := Lib.hid (show tskOk (l.getD k tsk0) = (inB x.m 1 1000 && inB x.d 0 100000 && inB x.wt 1 100) by simp [tskOk, List.getD_eq_getElem?_getD, hx])
      clear hx hc hg h
      go_wp2_with (go_at_call 39; refine (l1In_any _ _ _ _).mono ?_; rintro e w' ⟨rfl, rfl⟩)
      all_goals first
        | (go_ret; go_light; exact ⟨ret_bool (by rw [HA.out, allTo_not hlt (by rw [HK.out]; simp_all)]; simp), HG.out⟩)
        | (go_roundw
           case rel => go_light; exact ⟨k + 1, by omega, by go_num, HG.out, allTo_step HALL.out (by rw [HK.out]; simp_all)⟩
           case measure => go_light; simp [intOf]; omega)
    · obtain rfl : k = l.length := by omega
      go_wp2_with fail
      go_ret
      go_light
      exact ⟨ret_bool (by rw [HA.out, HALL.out]; rfl), HG.out⟩
end Go.Proofs.Yteckhmbkagigjaa
