/- Lots picked: PickLots of the program and of the reference return what a plain function returns. Conditions: none. -/
import Derived.Test.YtcphlancaahihaaLotF
import Derived.Test.YtcphlancaahihaaApp
import Derived.Test.YtcphlancaahihaaText
namespace Go.Proofs.Ytcphlancaahihaa
open Go.RowKit Go.ChangeShapes Go.WideShapes Go.Deep
set_option linter.unusedVariables false
set_option linter.unusedSimpArgs false

structure Nd where
  cd : ByteArray
  q : Int
deriving DecidableEq
theorem Nd.eq_iff {x y : Nd} : x = y ↔ x.cd = y.cd ∧ x.q = y.q := by cases x; cases y; simp
abbrev Nd.v (x : Nd) : Value := .agg #[.string x.cd, .int .i64 x.q]
def Nd.E : Enc Nd := { enc := fun x => [.string x.cd, .int .i64 x.q], sz := 2, pos := by decide, len := fun _ => rfl, one := by intro x u hu; simp at hu; rcases hu with rfl | rfl <;> rfl }
theorem Nd.at_ {w : World} {b o : Nat} {l : List Nd} (hc : ∀ i x, l[i]? = some x → ∀ j u, (Nd.E.enc x)[j]? = some u → w.cell? ⟨b, o + i * Nd.E.sz + j, none⟩ = some u) {k : Nat} {x : Nd} (hx : l[k]? = some x) :
    w.cell? ⟨b, o + k * 2, none⟩ = some (.string x.cd) ∧ w.cell? ⟨b, o + k * 2 + 1, none⟩ = some (.int .i64 x.q) := ⟨hc k x hx 0 _ rfl, hc k x hx 1 _ rfl⟩
def Nd.Ok (x : Nd) : Prop := True ∧ x.cd.size ≤ maxLen ∧ (Lit.int .i64 x.q).wf = true ∧ True
set_option maxHeartbeats 400000 in
theorem toNeed_any (x : Nd) (w : World) :
    Calls Try.prog 46 #[x.v] w fun e w' => e = .returned x.v ∧ Grew w w' := by
  obtain ⟨cd, q⟩ := x
  go_enter Try.func46, Try.ntmps46
  go_wp2
  exact bodyPost_ret (v := .agg #[.string cd, .int .i64 q]) (by simp [results, Try.results46, go_sem]) rfl ⟨rfl, (((Grew.refl _).alloc _).alloc _).alloc _⟩
set_option maxHeartbeats 1000000 in
theorem eqNeed_any (x y : Nd) (w : World) :
    Calls Try.prog 44 #[x.v, y.v] w fun e w' => e = .returned (.bool (decide (x = y))) ∧ Grew w w' := by
  obtain ⟨cd, q⟩ := x
  obtain ⟨cd', q'⟩ := y
  go_enter Try.func44, Try.ntmps44
  go_wp2
  all_goals go_ret
  all_goals refine ⟨ret_bool ?_, ((Grew.refl _).alloc _).alloc _⟩
  all_goals go_light
  all_goals simp_all [ba_inj]
def Nd.w (x : Nd) : Nat := x.cd.size
set_option maxHeartbeats 400000 in
theorem szNeed_any (x : Nd) (m : Int) (w : World) (hm : 0 ≤ m) (hm2 : m ≤ 1048576) (h0 : x.cd.size ≤ maxLen) :
    Calls Try.prog 45 #[x.v, .int .i64 m] w fun e w' => e = .returned (.int .i64 (if m < x.w then -1 else m - x.w)) ∧ Grew w w' := by
  unfold maxLen at *
  have HW : Hid (x.w = x.cd.size) := Lib.hid rfl
  obtain ⟨cd, q⟩ := x
  simp only at *
  go_enter Try.func45, Try.ntmps45
  go_wp2
  all_goals go_ret
  all_goals go_light
  all_goals refine ⟨ret_int ?_, (Grew.refl _).alloc _⟩
  all_goals (have hW := HW.out; first | rfl | omega)
theorem info_impl_Nd : (Try.prog.info? 56).map (fun i => (i.zero, i.size, i.bytes)) = some (some (.agg #[.string ByteArray.empty, .int .i64 0]), 2, 24) := by kernel_rfl
set_option maxHeartbeats 1000000 in
theorem toNeedS_any (l : List Nd) (A : Option Addr) (c : Nat) (w : World) (h : Rd Nd.E w A l) (hn : l.length ≤ 1048576) :
    Calls Try.prog 29 #[.slice A l.length c] w fun e w' => e = .returned (.slice (some ⟨w.heap.size, 0, none⟩) l.length l.length) ∧
      Own Nd.E 56 w' w.heap.size (.slice (some ⟨w.heap.size, 0, none⟩) l.length l.length) l ∧ Grew w w' := by
  obtain ⟨i0, hi0, hz0, hz1, hz2⟩ := info_parts info_impl_Nd
  go_enter Try.func29, Try.ntmps29
  go_wp2_with (at_make; refine wpList_make_full _ rfl _ _ _ rfl w.heap.size 56 i0 _ 2 Try.underlying39 hi0 hz0 hz1 _ _ _ _ l.length rfl rfl rfl rfl (by rw [hz2]; omega) (by simp only [maxLen]; omega) (Nat.le_refl _) ?_; intro w1 hown1 hgr1)
  have hg1 : Grew w w1 := (Grew.refl w).grown hgr1 (by simp)
  have hb1 : w.heap.size < w1.heap.size ∨ l.length = 0 := by
    rcases Nat.eq_zero_or_pos l.length with h0 | h0
    · exact .inr h0
    · exact .inl (hown1.lt _ rfl).2
  go_loopw [4] (fun i wr => ∃ k : Nat, k ≤ l.length ∧ i = .int .i64 k ∧ Grew w wr ∧ ∃ r : List Value, r.length = (l.length - k) * 2 ∧ wr.ownsRow w.heap.size 56 2 (.slice (some ⟨w.heap.size, 0, none⟩) l.length l.length) l.length (flat Nd.E (l.take k) ++ r)) (fun i _ => l.length - (intOf i).toNat)
  case atStart => exact ⟨0, Nat.zero_le _, rfl, hg1, (madeCells (Value.cells _) (l.length * 2)).toList, by simp [madeCells], hown1⟩
  case round =>
    obtain ⟨k, hk, rfl, hg, r, hr, hown⟩ := hrel
    clear hown1 hgr1 hg1 hb1
    by_cases hlt : k < l.length
    · obtain ⟨x, hx⟩ : ∃ x, l[k]? = some x := ⟨_, List.getElem?_eq_getElem hlt⟩
      obtain ⟨b, o, rfl, hb, hc⟩ := (h.grew hg).at_ hlt
      have hcx := Nd.at_ hc hx
      obtain ⟨hc0, hc1⟩ := hcx
      have HX := Lib.hid hx
      have HR := Lib.hid hr
      have HO := Lib.hid hown
      have HG := Lib.hid hg
      clear hx hr hown hc hg h hi0 hz0 hz1 hz2
      go_wp2_with fail
      refine (toNeed_any x _).mono ?_
      rintro e w2 ⟨rfl, h2⟩
      have HO2 := Lib.hid (ownsRow_grew HO.out h2)
      have hcc : ∀ j, j < 2 → ∃ u, w2.cell? ⟨w.heap.size, k * 2 + j, none⟩ = some u := fun j hj => by
        have h3 := HO2.out.cellAt (k * 2 + j) (by have : (k + 1) * 2 ≤ l.length * 2 := Nat.mul_le_mul_right _ hlt; omega)
        rw [h3]
        have h4 : (flat Nd.E (l.take k) ++ r).length = l.length * 2 := HO2.out.1
        exact ⟨_, List.getElem?_eq_getElem (by rw [h4]; have : (k + 1) * 2 ≤ l.length * 2 := Nat.mul_le_mul_right _ hlt; omega)⟩
      obtain ⟨u0, hu0⟩ := hcc 0 (by decide)
      obtain ⟨u1, hu1⟩ := hcc 1 (by decide)
      simp only [Nat.add_zero] at hu0
      have hf2 : ∀ j, w2.frozen? ⟨w.heap.size, j, none⟩ = false := fun j => HO2.out.frozenAt j
      clear hcc
      go_wp2_with fail
      have hfin : (storeL w2 w.heap.size (k * 2) (Nd.E.enc x)).ownsRow w.heap.size 56 2 (.slice (some ⟨w.heap.size, 0, none⟩) l.length l.length) l.length (flat Nd.E (l.take (k + 1)) ++ r.drop 2) := by
        have h5 := own_stores (Nd.E.enc x) _ w2 (k * 2) HO2.out
        have h6 : (flat Nd.E (l.take k)).length = k * 2 := by rw [flat_length, List.length_take, Nat.min_eq_left hk]; rfl
        have h7 := setL_app (Nd.E.enc x) (flat Nd.E (l.take k)) r (by rw [HR.out]; show 2 ≤ _; have : 1 * 2 ≤ (l.length - k) * 2 := Nat.mul_le_mul_right _ (by omega); omega)
        rw [h6, show (Nd.E.enc x).length = 2 from rfl] at h7
        rw [h7] at h5
        have h8 : l.take (k + 1) = l.take k ++ [x] := by rw [List.take_add_one, HX.out]; rfl
        rw [h8, flat_append]
        simpa [flat] using h5
      go_roundw
      case rel =>
        go_light
        refine ⟨k + 1, by omega, by go_num, ?_, r.drop 2, ?_, hfin⟩
        · have hg3 := HG.out.trans h2
          exact (hg3.setCell (by simp) _).setCell (by simp) _
        · rw [List.length_drop, HR.out, show l.length - k = (l.length - (k + 1)) + 1 by omega, Nat.succ_mul]; omega
      case measure => go_light; simp [intOf]; omega
    · obtain rfl : k = l.length := by omega
      have HO := Lib.hid hown
      have HR := Lib.hid hr
      clear hr hown h hi0 hz0 hz1 hz2
      go_wp2
      go_ret
      go_light
      refine ⟨rfl, ?_, hg⟩
      have hr0 : r = [] := List.eq_nil_of_length_eq_zero (by rw [HR.out]; simp)
      have := HO.out
      rw [hr0, List.append_nil, List.take_length] at this
      exact this
set_option maxHeartbeats 1000000 in
theorem eqNeedS_any (l m : List Nd) (A B : Option Addr) (c d : Nat) (w : World) (h : Rd Nd.E w A l) (h' : Rd Nd.E w B m) (hn : l.length ≤ 4194304) (hm : m.length ≤ 4194304) :
    Calls Try.prog 24 #[.slice A l.length c, .slice B m.length d] w fun e w' => e = .returned (.bool (decide (l = m))) ∧ Grew w w' := by
  by_cases hlen : l.length = m.length
  · have hb : ((l.length : Int) != (m.length : Int)) = false := by simp [hlen]
    have HL := Lib.hid hlen
    clear hlen
    go_enter Try.func24, Try.ntmps24
    go_wp2_with fail
    go_loopw [5] (fun i wr => ∃ k : Nat, k ≤ l.length ∧ i = .int .i64 k ∧ Grew w wr ∧ l.take k = m.take k) (fun i _ => l.length - (intOf i).toNat)
    case atStart => exact ⟨0, Nat.zero_le _, rfl, Grew.refl _, by simp⟩
    case round =>
      obtain ⟨k, hk, rfl, hg, heq⟩ := hrel
      have HQ := Lib.hid heq
      clear heq
      by_cases hlt : k < l.length
      · have hlt2 : k < m.length := by rw [← HL.out]; exact hlt
        obtain ⟨x, hx⟩ : ∃ x, l[k]? = some x := ⟨_, List.getElem?_eq_getElem hlt⟩
        obtain ⟨y, hy⟩ : ∃ y, m[k]? = some y := ⟨_, List.getElem?_eq_getElem hlt2⟩
        obtain ⟨b, o, rfl, hb1, hc⟩ := (h.grew hg).at_ hlt
        obtain ⟨b', o', rfl, hb1', hc'⟩ := (h'.grew hg).at_ hlt2
        have hcx := Nd.at_ hc hx
        have hcy := Nd.at_ hc' hy
        obtain ⟨hc0, hc1⟩ := hcx
        obtain ⟨hd0, hd1⟩ := hcy
        have HX := Lib.hid hx
        have HY := Lib.hid hy
        have HG := Lib.hid hg
        clear hx hy hc hc' hg h h' hb
        have hi1 : (0 : Int) ≤ (k : Int) := by omega
        have hi2 : (k : Int) < (l.length : Int) := by omega
        have hi3 : (k : Int) < (m.length : Int) := by omega
        cases hd : decide (x = y)
        · go_wp2_with fail
          (refine wp_region_grow_lit (by kernel_rfl) (by kernel_rfl) ?_; repeat (any_goals (first | go_big_quiet_step ((go_at_call 44; exact quiet_grew (eqNeed_any x y _))) | quiet_step ((go_at_call 44; exact quiet_grew (eqNeed_any x y _))) | (refine wpQuiet_step (fun K hK => ?_); go_simp; split <;> rename_i hsp <;> (refine hK _ ?_; clear hK K) <;> (try first | simp only [hsp, decide_true, decide_false, Bool.not_true, Bool.not_false] | simp only [Int.not_le.2 hsp, decide_false, Bool.not_false] | simp only [Int.not_lt.2 hsp, decide_false, Bool.not_false] | simp only [Nat.not_le.2 hsp, decide_false, Bool.not_false] | simp only [Nat.not_lt.2 hsp, decide_false, Bool.not_false])))))
          all_goals (refine wpQuiet_nil ?_; intro w1 h1)
          go_wp2_with fail
          go_ret
          go_light
          refine ⟨ret_bool ?_, HG.out.trans h1⟩
          have hxy : x ≠ y := of_decide_eq_false hd
          have : l ≠ m := fun e => hxy (by have h3 := HX.out; rw [e, HY.out] at h3; injection h3 with h3; exact h3.symm)
          simp [this]
        · go_wp2_with fail
          (refine wp_region_grow_lit (by kernel_rfl) (by kernel_rfl) ?_; repeat (any_goals (first | go_big_quiet_step ((go_at_call 44; exact quiet_grew (eqNeed_any x y _))) | quiet_step ((go_at_call 44; exact quiet_grew (eqNeed_any x y _))) | (refine wpQuiet_step (fun K hK => ?_); go_simp; split <;> rename_i hsp <;> (refine hK _ ?_; clear hK K) <;> (try first | simp only [hsp, decide_true, decide_false, Bool.not_true, Bool.not_false] | simp only [Int.not_le.2 hsp, decide_false, Bool.not_false] | simp only [Int.not_lt.2 hsp, decide_false, Bool.not_false] | simp only [Nat.not_le.2 hsp, decide_false, Bool.not_false] | simp only [Nat.not_lt.2 hsp, decide_false, Bool.not_false])))))
          all_goals (refine wpQuiet_nil ?_; intro w1 h1)
          go_wp2_with fail
          go_roundw
          case rel =>
            go_light
            refine ⟨k + 1, by omega, by go_num, HG.out.trans h1, ?_⟩
            have hxy : x = y := of_decide_eq_true hd
            rw [List.take_add_one, List.take_add_one, HQ.out, HX.out, HY.out, hxy]
          case measure => go_light; simp [intOf]; omega
      · go_wp2_with fail
        go_ret
        go_light
        refine ⟨ret_bool ?_, hg⟩
        have h1 : l = m := by
          have h2 := HQ.out
          rwa [List.take_of_length_le (by omega), List.take_of_length_le (by rw [← HL.out]; omega)] at h2
        simp [h1]
  · have hb : ((l.length : Int) != (m.length : Int)) = true := by simp; omega
    have hne : l ≠ m := fun e => hlen (by rw [e])
    go_enter Try.func24, Try.ntmps24
    go_wp2_with fail
    go_ret
    go_light
    exact ⟨ret_bool (by simp [hne]), Grew.refl _⟩
set_option maxHeartbeats 1000000 in
theorem szNeedS_any (l : List Nd) (A : Option Addr) (c : Nat) (m : Int) (w : World) (h : Rd Nd.E w A l) (hok : ∀ x ∈ l, x.Ok) (hm : 0 ≤ m) (hm2 : m ≤ 1048576) (hl : l.length ≤ maxLen) :
    Calls Try.prog 27 #[.slice A l.length c, .int .i64 m] w (SzPost l.length m w) := by
  have hl' := hl
  unfold maxLen at hl
  by_cases hlm : m < l.length
  · clear h hok
    go_enter Try.func27, Try.ntmps27
    go_wp2_with fail
    go_ret
    go_light
    exact ⟨-1, rfl, by omega, by omega, Grew.refl _⟩
  · have HOK := Lib.hid hok
    clear hok
    go_enter Try.func27, Try.ntmps27
    go_wp2_with fail
    go_loopw [1, 5] (fun v i wr => ∃ (k : Nat) (r : Int), k ≤ l.length ∧ i = .int .i64 k ∧ v = .int .i64 r ∧ 0 ≤ r ∧ r ≤ m - l.length ∧ Grew w wr) (fun _ i _ => l.length - (intOf i).toNat)
    case atStart => exact ⟨0, _, Nat.zero_le _, rfl, rfl, by omega, by omega, Grew.refl _⟩
    case round =>
      obtain ⟨k, r, hk, rfl, rfl, hr0, hr1, hg⟩ := hrel
      by_cases hlt : k < l.length
      · obtain ⟨x, hx⟩ : ∃ x, l[k]? = some x := ⟨_, List.getElem?_eq_getElem hlt⟩
        have hxo := HOK.out x (List.mem_of_getElem? hx)
        obtain ⟨b, o, rfl, hb, hc⟩ := (h.grew hg).at_ hlt
        have hcx := Nd.at_ hc hx
        obtain ⟨hc0, hc1⟩ := hcx
        have HX := Lib.hid hx
        have HG := Lib.hid hg
        have HO := Lib.hid hxo
        clear hx hc hg h hxo
        by_cases hxr : r < x.w
        · go_wp2_with fail
          refine (szNeed_any x r _ hr0 (by omega) (HO.out.2.1)).mono ?_
          rintro e w2 ⟨rfl, h2⟩
          go_wp2_with fail
          go_ret
          go_light
          exact ⟨-1, rfl, by omega, by omega, HG.out.trans h2⟩
        · have hxr2 : (0 : Int) ≤ r - x.w := by omega
          go_wp2_with fail
          refine (szNeed_any x r _ hr0 (by omega) (HO.out.2.1)).mono ?_
          rintro e w2 ⟨rfl, h2⟩
          go_wp2_with fail
          go_roundw
          case rel =>
            go_light
            exact ⟨k + 1, _, by omega, by go_num, rfl, by omega, by omega, HG.out.trans h2⟩
          case measure => go_light; simp [intOf]; omega
      · go_wp2_with fail
        go_ret
        go_light
        exact ⟨_, rfl, by omega, by omega, hg⟩
set_option maxRecDepth 100000 in
theorem Nd.open_ {H : Type} {enc : TypeId × Value → H} {w : World} {spare : Nat → Bool} {held : Bool} {v : Value} {d : DataW H} {p : List MemPlace} {rc : Reach} {b0 : Nat}
    (hv : Value.okWide Try.prog w rc b0 45 v) (h : DataW.Trod enc Try.prog w 0 spare held 45 v d p) :
    ∃ (l : List Nd) (A : Option Addr) (c : Nat), v = .slice A l.length c ∧ Rd Nd.E w A l ∧ l.length ≤ c ∧ c ≤ maxLen ∧ ∀ x ∈ l, x.Ok := by
  obtain ⟨a0, len0, cap0, rfl⟩ := okWide_slice Try.underlying45 hv
  obtain ⟨fuel, hf0⟩ := h
  have hf1 : DataW.trod enc Try.prog w 0 spare held fuel 45 [.slice a0 len0 cap0] = some (d, p) := by simpa [Value.cells] using hf0
  rcases open_slice_fields Try.underlying45 Try.underlying64 (by kernel_rfl) (by kernel_rfl) hf1 with ⟨hcs, _⟩ | ⟨a, len, cap, m, D, Pl, hcs, _, hl, hm, hmm, _, hi⟩
  · simp only [List.cons.injEq, Value.slice.injEq, and_true] at hcs
    obtain ⟨rfl, rfl, rfl⟩ := hcs
    exact ⟨[], none, 0, rfl, Rd.nil, Nat.le_refl _, by simp [maxLen], by simp⟩
  · simp only [List.cons.injEq, Value.slice.injEq, and_true] at hcs
    obtain ⟨rfl, rfl, rfl⟩ := hcs
    have hx : ∀ i, i < len0 → ∃ x : Nd, x.Ok ∧ ∀ j u, (Nd.E.enc x)[j]? = some u → w.cell? (a.add (i * 2 + j)) = some u := by
      intro i hil
      obtain ⟨ys, n, _, _, _, hf⟩ := hi i (by rw [hmm]; split <;> omega)
      obtain ⟨v0, y0, hv0, _, ht0⟩ := hf 0 _ rfl
      obtain ⟨cd, hq0, _, hw0⟩ := DataW.trod_string Try.underlying9 ht0
      obtain rfl : v0 = .string cd := by injection hq0
      obtain ⟨v1, y1, hv1, _, ht1⟩ := hf 1 _ rfl
      obtain ⟨q, hq1, _, hw1⟩ := DataW.trod_int Try.underlying3 ht1
      obtain rfl : v1 = .int .i64 q := by injection hq1
      refine ⟨⟨cd, q⟩, ⟨trivial, hw0, hw1, trivial⟩, fun j u hu => ?_⟩
      match j, hu with
      | 0, hu => (have : u = .string cd := by simpa [Nd.E] using hu.symm); subst this; exact hv0
      | 1, hu => (have : u = .int .i64 q := by simpa [Nd.E] using hu.symm); subst this; exact hv1
      | j + 2, hu => simp [Nd.E] at hu
    obtain ⟨l, hl1, hl2⟩ := list_of_fn len0 (fun i x => x.Ok ∧ ∀ j u, (Nd.E.enc x)[j]? = some u → w.cell? (a.add (i * 2 + j)) = some u) hx
    subst hl1
    refine ⟨l, some a, cap0, rfl, rd_of_add (E := Nd.E) (fun i x hx => (hl2 i x hx).2), hl, hm, fun x hx => ?_⟩
    obtain ⟨i, hi⟩ := List.mem_iff_getElem?.1 hx
    exact (hl2 i x hi).1
theorem sl_Lt : SlInf Try.prog Lt.E 25 36 := info_sl Try.underlying25 info_impl_Lt rfl rfl (by decide)
theorem Lt.bx {w : World} {b : Nat} {x : Lt} (h : Bx Lt.E w b x) : w.cell? ⟨b, 0, none⟩ = some (.string x.ba) ∧ w.cell? ⟨b, 1, none⟩ = some (.int .i64 x.ex) ∧ w.cell? ⟨b, 2, none⟩ = some (.int .i64 x.q) ∧ b < w.heap.size ∧ ∀ j, w.frozen? ⟨b, j, none⟩ = false := ⟨h.2.1 0 _ rfl, h.2.1 1 _ rfl, h.2.1 2 _ rfl, h.1, h.2.2⟩
def mkLt (q : Int) : Lt := ⟨mtext (q), q + 1, q + 1 + 1⟩
def upLt (q : Int) (n : Nat) : List Lt := (List.range n).map fun (i : Nat) => mkLt (q + 3 * i)
theorem upLt_length (q : Int) (n : Nat) : (upLt q n).length = n := by simp [upLt]
theorem upLt_get {q : Int} {n j : Nat} (hj : j < n) : (upLt q n)[j]? = some (mkLt (q + 3 * j)) := by simp [upLt, List.getElem?_range hj]
theorem mkdLt {q : Int} {l : List Lt} {j : Nat} (hj : j < l.length) : setL (flat Lt.E (upLt q j ++ l.drop j)) (j * 3) (Lt.E.enc (mkLt (q + 3 * j))) = flat Lt.E (upLt q (j + 1) ++ l.drop (j + 1)) := by
  have h1 : (flat Lt.E (upLt q j)).length = j * 3 := by rw [flat_length, upLt_length]; rfl
  have h2 : l.drop j = [l[j]] ++ l.drop (j + 1) := by rw [List.drop_eq_getElem_cons hj]; rfl
  have h3 : flat Lt.E [l[j]] = Lt.E.enc l[j] := by simp [flat]
  have h4 : upLt q (j + 1) = upLt q j ++ [mkLt (q + 3 * j)] := by simp [upLt, List.range_succ]
  have h5 : flat Lt.E [mkLt (q + 3 * j)] = Lt.E.enc (mkLt (q + 3 * j)) := by simp [flat]
  rw [flat_append, ← h1, setL_app _ _ _ (by rw [h2, flat_append, List.length_append, h3, Lt.E.len, Lt.E.len]; omega), h4, flat_append, flat_append, h5, h2, flat_append, h3, Lt.E.len, ← Lt.E.len l[j], List.drop_left]

set_option maxHeartbeats 2000000 in
theorem markLotS_any (l : List Lt) (base : Nat) (A : Option Addr) (c : Nat) (k : Int) (w : World) (h : Own Lt.E 36 w base (.slice A l.length c) l) (h0 : 0 ≤ k) (hk : k ≤ 1073741824) (hn : l.length ≤ 4194304) :
    Calls Try.prog 20 #[.slice A l.length c, .int .i64 k] w fun e w' => e = .returned (.int .i64 (k + 3 * l.length)) ∧
      Own Lt.E 36 w' base (.slice A l.length c) (upLt k l.length) ∧ w.grownBy w' (Value.ownBlock (.slice A l.length c)) := by
  have H := Lib.hid h
  rcases Nat.eq_zero_or_pos l.length with hl0 | hl0
  · obtain rfl : l = [] := List.eq_nil_of_length_eq_zero hl0
    clear h hl0 hn
    go_enter Try.func20, Try.ntmps20
    go_wp2_with fail
    go_loopw [1, 5] (fun t i wr => i = .int .i64 0 ∧ t = .int .i64 k ∧ wr = w) (fun _ _ _ => 0)
    case atStart => exact ⟨rfl, rfl, rfl⟩
    case round =>
      obtain ⟨rfl, rfl, rfl⟩ := hrel
      go_wp2_with fail
      go_ret
      go_light
      exact ⟨ret_int (by simp), H.out, World.grownBy.refl _ _⟩
  obtain ⟨g, cap, hv, _, hg0⟩ := h.form hl0
  simp only [Value.slice.injEq] at hv
  obtain ⟨rfl, _, rfl⟩ := hv
  clear h
  go_enter Try.func20, Try.ntmps20
  go_wp2_with fail
  go_loopw [1, 5] (fun t i wr => ∃ j : Nat, j ≤ l.length ∧ i = .int .i64 j ∧ t = .int .i64 (k + 3 * j) ∧ wr.ownsRow base 36 3 (.slice (some ⟨g, 0, none⟩) l.length c) l.length (flat Lt.E (upLt k j ++ l.drop j)) ∧ w.grownBy wr (some g)) (fun _ i _ => l.length - (intOf i).toNat)
  case atStart => exact ⟨0, Nat.zero_le _, rfl, by simp, by rw [show upLt k 0 ++ l.drop 0 = l by simp [upLt]]; exact H.out, World.grownBy.refl _ _⟩
  case round =>
    obtain ⟨j, hj, rfl, rfl, hown, hgr⟩ := hrel
    have HO := Lib.hid hown
    have HG := Lib.hid hgr
    clear hown hgr
    by_cases hlt : j < l.length
    · have HE := Lib.hid (mkdLt (q := k) hlt)
      have hln : (flat Lt.E (upLt k j ++ l.drop j)).length = l.length * 3 := HO.out.1
      have HLN := Lib.hid hln
      have hjk : (j + 1) * 3 ≤ l.length * 3 := Nat.mul_le_mul_right _ hlt
      have HJK := Lib.hid hjk
      clear hln hjk
      obtain ⟨q, hq⟩ : ∃ q : Int, q = k + 3 * (j : Int) := ⟨_, rfl⟩
      have hq0 : 0 ≤ q := by omega
      have hq1 : q ≤ 1099000000000 := by omega
      have HQ := Lib.hid hq
      rw [← hq] at HE ⊢
      clear hq

      go_wp2_with fail
      refine (markText_any _ _ (by omega)).mono ?_; rintro e w0 ⟨rfl, h0⟩
      have HO0 := Lib.hid (ownsRow_grew (HO.out) h0)
      have HG0 := Lib.hid ((HG.out).trans (h0.by_ (some g)))
      clear h0
      have hccs0 : ∀ j2, j2 < 3 → ∃ u, w0.cell? ⟨g, j * 3 + j2, none⟩ = some u := fun j2 hj2 => by rw [HO0.out.cellAt (j * 3 + j2) (by have := HJK.out; omega)]; exact ⟨_, List.getElem?_eq_getElem (by have := HO0.out.1; have := HJK.out; omega)⟩
      obtain ⟨us0_0, hus0_0⟩ := hccs0 0 (by decide)
      simp only [Nat.add_zero] at hus0_0
      obtain ⟨us0_1, hus0_1⟩ := hccs0 1 (by decide)
      obtain ⟨us0_2, hus0_2⟩ := hccs0 2 (by decide)
      have hfs0 : ∀ j2, w0.frozen? ⟨g, j2, none⟩ = false := fun j2 => HO0.out.frozenAt j2
      clear hccs0
      go_wp2_with fail
      go_roundw
      case rel =>
        go_light
        refine ⟨j + 1, by omega, by go_num, by rw [HQ.out]; congr 1; push_cast; omega, ?_, (((HG0.out).trans ((HO0.out).stored _ _).2).trans ((((HO0.out).stored _ _).1).stored _ _).2).trans ((((((HO0.out).stored _ _).1).stored _ _).1).stored _ _).2⟩
        rw [← HE.out]
        exact ((((((HO0.out).stored _ _).1).stored _ _).1).stored _ _).1
      case measure => go_light; simp [intOf]; omega
    · obtain rfl : j = l.length := by omega
      go_wp2_with fail
      go_ret
      go_light
      refine ⟨rfl, ?_, HG.out⟩
      have := HO.out
      rw [List.drop_length, List.append_nil] at this
      unfold Own
      rw [upLt_length]
      exact this
set_option maxHeartbeats 2000000 in
theorem heldLotS_any (n : Nat) (A : Option Addr) (c : Nat) (k : Int) (w : World) (h : Rd Lt.E w A (upLt k n)) (h0 : 0 ≤ k) (hk : k ≤ 1073741824) (hn : n ≤ 4194304) :
    Calls Try.prog 21 #[.slice A n c, .int .i64 k] w fun e w' => e = .returned (.int .i64 (k + 3 * n)) ∧ Grew w w' := by
  have H := Lib.hid h
  clear h
  go_enter Try.func21, Try.ntmps21
  go_wp2_with fail
  go_loopw [1, 5] (fun t i wr => ∃ j : Nat, j ≤ n ∧ i = .int .i64 j ∧ t = .int .i64 (k + 3 * j) ∧ Grew w wr) (fun _ i _ => n - (intOf i).toNat)
  case atStart => exact ⟨0, Nat.zero_le _, rfl, by simp, Grew.refl _⟩
  case round =>
    obtain ⟨j, hj, rfl, rfl, hg⟩ := hrel
    have HG := Lib.hid hg
    by_cases hlt : j < n
    · have hx := upLt_get (q := k) hlt
      obtain ⟨b, o, rfl, hb, hc⟩ := (H.out.grew hg).at_ (k := j) (by rw [upLt_length]; exact hlt)
      have hcx := Lt.at_ hc hx
      obtain ⟨q, hq⟩ : ∃ q : Int, q = k + 3 * (j : Int) := ⟨_, rfl⟩
      have hq0 : 0 ≤ q := by omega
      have hq1 : q ≤ 1099000000000 := by omega
      have HQ := Lib.hid hq
      rw [← hq] at hcx ⊢
      simp only [mkLt] at hcx
      obtain ⟨hc0, hc1, hc2⟩ := hcx
      clear hq hx hc hg
      have hi1 : (0 : Int) ≤ (j : Int) := by omega
      have hi2 : (j : Int) < (n : Int) := by omega
      go_wp2_with fail
      (refine wp_region_grow_lit (by kernel_rfl) (by kernel_rfl) ?_; repeat (any_goals (first | go_big_quiet_step (((go_at_call 43; exact quiet_grew (markText_any _ _ (by omega))))) | quiet_step (((go_at_call 43; exact quiet_grew (markText_any _ _ (by omega))))) | (refine wpQuiet_step (fun K hK => ?_); go_simp; split <;> rename_i hsp <;> (refine hK _ ?_; clear hK K) <;> (try first | simp only [hsp, decide_true, decide_false, Bool.not_true, Bool.not_false] | simp only [Int.not_le.2 hsp, decide_false, Bool.not_false] | simp only [Int.not_lt.2 hsp, decide_false, Bool.not_false] | simp only [Nat.not_le.2 hsp, decide_false, Bool.not_false] | simp only [Nat.not_lt.2 hsp, decide_false, Bool.not_false])))))
      all_goals (refine wpQuiet_nil ?_; intro ws0 hs0)
      have hc1 := (hs0.rules.1 b _ (by first | exact hb | exact Nat.lt_of_lt_of_le hb (by omega))).trans hc1
      have hc2 := (hs0.rules.1 b _ (by first | exact hb | exact Nat.lt_of_lt_of_le hb (by omega))).trans hc2
      have hb := Nat.lt_of_lt_of_le hb hs0.le
      go_wp2_with fail
      go_roundw
      case rel => go_light; exact ⟨j + 1, by omega, by go_num, by rw [HQ.out]; congr 1; push_cast; omega, (HG.out).trans hs0⟩
      case measure => go_light; simp [intOf]; omega
    · obtain rfl : j = n := by omega
      go_wp2_with fail
      go_ret
      go_light
      exact ⟨rfl, hg⟩
theorem sl_Nd : SlInf Try.prog Nd.E 39 56 := info_sl Try.underlying39 info_impl_Nd rfl rfl (by decide)
theorem Nd.bx {w : World} {b : Nat} {x : Nd} (h : Bx Nd.E w b x) : w.cell? ⟨b, 0, none⟩ = some (.string x.cd) ∧ w.cell? ⟨b, 1, none⟩ = some (.int .i64 x.q) ∧ b < w.heap.size ∧ ∀ j, w.frozen? ⟨b, j, none⟩ = false := ⟨h.2.1 0 _ rfl, h.2.1 1 _ rfl, h.1, h.2.2⟩
def mkNd (q : Int) : Nd := ⟨mtext (q), q + 1⟩
def upNd (q : Int) (n : Nat) : List Nd := (List.range n).map fun (i : Nat) => mkNd (q + 2 * i)
theorem upNd_length (q : Int) (n : Nat) : (upNd q n).length = n := by simp [upNd]
theorem upNd_get {q : Int} {n j : Nat} (hj : j < n) : (upNd q n)[j]? = some (mkNd (q + 2 * j)) := by simp [upNd, List.getElem?_range hj]
theorem mkdNd {q : Int} {l : List Nd} {j : Nat} (hj : j < l.length) : setL (flat Nd.E (upNd q j ++ l.drop j)) (j * 2) (Nd.E.enc (mkNd (q + 2 * j))) = flat Nd.E (upNd q (j + 1) ++ l.drop (j + 1)) := by
  have h1 : (flat Nd.E (upNd q j)).length = j * 2 := by rw [flat_length, upNd_length]; rfl
  have h2 : l.drop j = [l[j]] ++ l.drop (j + 1) := by rw [List.drop_eq_getElem_cons hj]; rfl
  have h3 : flat Nd.E [l[j]] = Nd.E.enc l[j] := by simp [flat]
  have h4 : upNd q (j + 1) = upNd q j ++ [mkNd (q + 2 * j)] := by simp [upNd, List.range_succ]
  have h5 : flat Nd.E [mkNd (q + 2 * j)] = Nd.E.enc (mkNd (q + 2 * j)) := by simp [flat]
  rw [flat_append, ← h1, setL_app _ _ _ (by rw [h2, flat_append, List.length_append, h3, Nd.E.len, Nd.E.len]; omega), h4, flat_append, flat_append, h5, h2, flat_append, h3, Nd.E.len, ← Nd.E.len l[j], List.drop_left]

set_option maxHeartbeats 2000000 in
theorem markNeedS_any (l : List Nd) (base : Nat) (A : Option Addr) (c : Nat) (k : Int) (w : World) (h : Own Nd.E 56 w base (.slice A l.length c) l) (h0 : 0 ≤ k) (hk : k ≤ 1073741824) (hn : l.length ≤ 4194304) :
    Calls Try.prog 25 #[.slice A l.length c, .int .i64 k] w fun e w' => e = .returned (.int .i64 (k + 2 * l.length)) ∧
      Own Nd.E 56 w' base (.slice A l.length c) (upNd k l.length) ∧ w.grownBy w' (Value.ownBlock (.slice A l.length c)) := by
  have H := Lib.hid h
  rcases Nat.eq_zero_or_pos l.length with hl0 | hl0
  · obtain rfl : l = [] := List.eq_nil_of_length_eq_zero hl0
    clear h hl0 hn
    go_enter Try.func25, Try.ntmps25
    go_wp2_with fail
    go_loopw [1, 5] (fun t i wr => i = .int .i64 0 ∧ t = .int .i64 k ∧ wr = w) (fun _ _ _ => 0)
    case atStart => exact ⟨rfl, rfl, rfl⟩
    case round =>
      obtain ⟨rfl, rfl, rfl⟩ := hrel
      go_wp2_with fail
      go_ret
      go_light
      exact ⟨ret_int (by simp), H.out, World.grownBy.refl _ _⟩
  obtain ⟨g, cap, hv, _, hg0⟩ := h.form hl0
  simp only [Value.slice.injEq] at hv
  obtain ⟨rfl, _, rfl⟩ := hv
  clear h
  go_enter Try.func25, Try.ntmps25
  go_wp2_with fail
  go_loopw [1, 5] (fun t i wr => ∃ j : Nat, j ≤ l.length ∧ i = .int .i64 j ∧ t = .int .i64 (k + 2 * j) ∧ wr.ownsRow base 56 2 (.slice (some ⟨g, 0, none⟩) l.length c) l.length (flat Nd.E (upNd k j ++ l.drop j)) ∧ w.grownBy wr (some g)) (fun _ i _ => l.length - (intOf i).toNat)
  case atStart => exact ⟨0, Nat.zero_le _, rfl, by simp, by rw [show upNd k 0 ++ l.drop 0 = l by simp [upNd]]; exact H.out, World.grownBy.refl _ _⟩
  case round =>
    obtain ⟨j, hj, rfl, rfl, hown, hgr⟩ := hrel
    have HO := Lib.hid hown
    have HG := Lib.hid hgr
    clear hown hgr
    by_cases hlt : j < l.length
    · have HE := Lib.hid (mkdNd (q := k) hlt)
      have hln : (flat Nd.E (upNd k j ++ l.drop j)).length = l.length * 2 := HO.out.1
      have HLN := Lib.hid hln
      have hjk : (j + 1) * 2 ≤ l.length * 2 := Nat.mul_le_mul_right _ hlt
      have HJK := Lib.hid hjk
      clear hln hjk
      obtain ⟨q, hq⟩ : ∃ q : Int, q = k + 2 * (j : Int) := ⟨_, rfl⟩
      have hq0 : 0 ≤ q := by omega
      have hq1 : q ≤ 1099000000000 := by omega
      have HQ := Lib.hid hq
      rw [← hq] at HE ⊢
      clear hq

      go_wp2_with fail
      refine (markText_any _ _ (by omega)).mono ?_; rintro e w0 ⟨rfl, h0⟩
      have HO0 := Lib.hid (ownsRow_grew (HO.out) h0)
      have HG0 := Lib.hid ((HG.out).trans (h0.by_ (some g)))
      clear h0
      have hccs0 : ∀ j2, j2 < 2 → ∃ u, w0.cell? ⟨g, j * 2 + j2, none⟩ = some u := fun j2 hj2 => by rw [HO0.out.cellAt (j * 2 + j2) (by have := HJK.out; omega)]; exact ⟨_, List.getElem?_eq_getElem (by have := HO0.out.1; have := HJK.out; omega)⟩
      obtain ⟨us0_0, hus0_0⟩ := hccs0 0 (by decide)
      simp only [Nat.add_zero] at hus0_0
      obtain ⟨us0_1, hus0_1⟩ := hccs0 1 (by decide)
      have hfs0 : ∀ j2, w0.frozen? ⟨g, j2, none⟩ = false := fun j2 => HO0.out.frozenAt j2
      clear hccs0
      go_wp2_with fail
      go_roundw
      case rel =>
        go_light
        refine ⟨j + 1, by omega, by go_num, by rw [HQ.out]; congr 1; push_cast; omega, ?_, ((HG0.out).trans ((HO0.out).stored _ _).2).trans ((((HO0.out).stored _ _).1).stored _ _).2⟩
        rw [← HE.out]
        exact ((((HO0.out).stored _ _).1).stored _ _).1
      case measure => go_light; simp [intOf]; omega
    · obtain rfl : j = l.length := by omega
      go_wp2_with fail
      go_ret
      go_light
      refine ⟨rfl, ?_, HG.out⟩
      have := HO.out
      rw [List.drop_length, List.append_nil] at this
      unfold Own
      rw [upNd_length]
      exact this
set_option maxHeartbeats 2000000 in
theorem heldNeedS_any (n : Nat) (A : Option Addr) (c : Nat) (k : Int) (w : World) (h : Rd Nd.E w A (upNd k n)) (h0 : 0 ≤ k) (hk : k ≤ 1073741824) (hn : n ≤ 4194304) :
    Calls Try.prog 26 #[.slice A n c, .int .i64 k] w fun e w' => e = .returned (.int .i64 (k + 2 * n)) ∧ Grew w w' := by
  have H := Lib.hid h
  clear h
  go_enter Try.func26, Try.ntmps26
  go_wp2_with fail
  go_loopw [1, 5] (fun t i wr => ∃ j : Nat, j ≤ n ∧ i = .int .i64 j ∧ t = .int .i64 (k + 2 * j) ∧ Grew w wr) (fun _ i _ => n - (intOf i).toNat)
  case atStart => exact ⟨0, Nat.zero_le _, rfl, by simp, Grew.refl _⟩
  case round =>
    obtain ⟨j, hj, rfl, rfl, hg⟩ := hrel
    have HG := Lib.hid hg
    by_cases hlt : j < n
    · have hx := upNd_get (q := k) hlt
      obtain ⟨b, o, rfl, hb, hc⟩ := (H.out.grew hg).at_ (k := j) (by rw [upNd_length]; exact hlt)
      have hcx := Nd.at_ hc hx
      obtain ⟨q, hq⟩ : ∃ q : Int, q = k + 2 * (j : Int) := ⟨_, rfl⟩
      have hq0 : 0 ≤ q := by omega
      have hq1 : q ≤ 1099000000000 := by omega
      have HQ := Lib.hid hq
      rw [← hq] at hcx ⊢
      simp only [mkNd] at hcx
      obtain ⟨hc0, hc1⟩ := hcx
      clear hq hx hc hg
      have hi1 : (0 : Int) ≤ (j : Int) := by omega
      have hi2 : (j : Int) < (n : Int) := by omega
      go_wp2_with fail
      (refine wp_region_grow_lit (by kernel_rfl) (by kernel_rfl) ?_; repeat (any_goals (first | go_big_quiet_step (((go_at_call 43; exact quiet_grew (markText_any _ _ (by omega))))) | quiet_step (((go_at_call 43; exact quiet_grew (markText_any _ _ (by omega))))) | (refine wpQuiet_step (fun K hK => ?_); go_simp; split <;> rename_i hsp <;> (refine hK _ ?_; clear hK K) <;> (try first | simp only [hsp, decide_true, decide_false, Bool.not_true, Bool.not_false] | simp only [Int.not_le.2 hsp, decide_false, Bool.not_false] | simp only [Int.not_lt.2 hsp, decide_false, Bool.not_false] | simp only [Nat.not_le.2 hsp, decide_false, Bool.not_false] | simp only [Nat.not_lt.2 hsp, decide_false, Bool.not_false])))))
      all_goals (refine wpQuiet_nil ?_; intro ws0 hs0)
      have hc1 := (hs0.rules.1 b _ (by first | exact hb | exact Nat.lt_of_lt_of_le hb (by omega))).trans hc1
      have hb := Nat.lt_of_lt_of_le hb hs0.le
      go_wp2_with fail
      go_roundw
      case rel => go_light; exact ⟨j + 1, by omega, by go_num, by rw [HQ.out]; congr 1; push_cast; omega, (HG.out).trans hs0⟩
      case measure => go_light; simp [intOf]; omega
    · obtain rfl : j = n := by omega
      go_wp2_with fail
      go_ret
      go_light
      exact ⟨rfl, hg⟩

def pickStep (day : Int) (s : List Nd × Int) (x : Lt) : List Nd × Int :=
  if day ≤ x.ex ∧ 0 < min s.2 x.q then (s.1 ++ [⟨x.ba, min s.2 x.q⟩], s.2 - min s.2 x.q) else s
def pickTo (l : List Lt) (day q : Int) (k : Nat) : List Nd × Int := (l.take k).foldl (pickStep day) ([], q)
def canPick (l : List Lt) (day q : Int) : Bool := areL l && inB q 1 1000000000 && !decide (freeF l day < q)
def pickF (l : List Lt) (day q : Int) : List Nd × Bool := (if canPick l day q then (pickTo l day q l.length).1 else [], canPick l day q)
theorem pickTo_step {l : List Lt} {day q : Int} {k : Nat} {x : Lt} (h : l[k]? = some x) : pickTo l day q (k + 1) = pickStep day (pickTo l day q k) x := by
  simp only [pickTo, List.take_add_one, h, Option.toList_some, List.foldl_append, List.foldl_cons, List.foldl_nil]
theorem pickTo_len (l : List Lt) (day q : Int) : ∀ k, k ≤ l.length → (pickTo l day q k).1.length ≤ k
  | 0, _ => by simp [pickTo]
  | k + 1, hk => by
    have ih := pickTo_len l day q k (by omega)
    have hx : l[k]? = some l[k] := List.getElem?_eq_getElem (by omega)
    rw [pickTo_step hx]
    simp only [pickStep]
    split
    · simp only [List.length_append, List.length_cons, List.length_nil]; omega
    · omega
theorem pickTo_left (l : List Lt) (day q : Int) (hq : 0 ≤ q ∧ q ≤ 1000000000) : ∀ k, k ≤ l.length → 0 ≤ (pickTo l day q k).2 ∧ (pickTo l day q k).2 ≤ q
  | 0, _ => by simp [pickTo]; omega
  | k + 1, hk => by
    have ih := pickTo_left l day q hq k (by omega)
    have hx : l[k]? = some l[k] := List.getElem?_eq_getElem (by omega)
    rw [pickTo_step hx]
    simp only [pickStep]
    split
    · simp only; omega
    · omega
theorem pickTo_done (l : List Lt) (day q : Int) {k : Nat} (h : (pickTo l day q k).2 = 0) : ∀ j, k + j ≤ l.length → pickTo l day q (k + j) = pickTo l day q k
  | 0, _ => rfl
  | j + 1, hj => by
    have ih := pickTo_done l day q h j (by omega)
    have hx : l[k + j]? = some l[k + j] := List.getElem?_eq_getElem (by omega)
    rw [← Nat.add_assoc, pickTo_step hx, ih]
    simp only [pickStep, h]
    rw [if_neg (by omega)]
theorem canPick_at {l : List Lt} {day q : Int} (h : canPick l day q = true) : areL l = true ∧ 1 ≤ q ∧ q ≤ 1000000000 ∧ decide (freeF l day < q) = false := by
  revert h
  unfold canPick
  simp only [Bool.and_eq_true, inB_iff, Bool.not_eq_true']
  exact fun h => ⟨h.1.1, h.1.2.1, h.1.2.2, h.2⟩
theorem canPick_no {l : List Lt} {day q : Int} (h : canPick l day q = false) : areL l = false ∨ (areL l = true ∧ inB q 1 1000000000 = false) ∨ (areL l = true ∧ inB q 1 1000000000 = true ∧ decide (freeF l day < q) = true) := by
  revert h
  unfold canPick
  cases areL l <;> cases inB q 1 1000000000 <;> cases decide (freeF l day < q) <;> simp

set_option maxHeartbeats 4000000 in
theorem pickLots_impl (l : List Lt) (A : Option Addr) (c : Nat) (day q : Int) (w : World) (h : Rd Lt.E w A l) (hok : ∀ x ∈ l, x.Ok) (hn : l.length ≤ 4194304) :
    Calls Try.prog 23 #[.slice A l.length c, .int .i64 day, .int .i64 q] w fun e w' => ∃ A' c', e = .returned (.tuple #[.slice A' (pickF l day q).1.length c', .bool (pickF l day q).2]) ∧ Own Nd.E 56 w' w.heap.size (.slice A' (pickF l day q).1.length c') (pickF l day q).1 ∧ Grew w w' := by
  have HL := Lib.hid h
  have HOK := Lib.hid hok
  clear h hok
  cases hp : canPick l day q
  · have HF := Lib.hid (show pickF l day q = ([], false) by simp [pickF, hp])
    rcases canPick_no hp with a1 | ⟨a1, a2⟩ | ⟨a1, a2, a3⟩
    all_goals
      clear hp
      go_enter Try.func23, Try.ntmps23
      go_wp2_with (first | (go_at_call 12; refine (areLots_impl l _ _ _ (HL.out.grew (by (repeat (with_reducible first | exact Grew.refl _ | assumption | apply Grew.alloc | apply Grew.drew | apply Grew.drewN | (refine Grew.setCell ?_ (by simp; try omega) _) | (refine Grew.trans ?_ (by assumption)))))) HOK.out hn).mono ?_; rintro e w1 ⟨rfl, h1⟩) | (go_at_call 38; refine (in_any _ _ _ _).mono ?_; rintro e w9 ⟨rfl, rfl⟩) | (go_at_call 15; refine (freeOn_impl l _ _ day _ (HL.out.grew (by (repeat (with_reducible first | exact Grew.refl _ | assumption | apply Grew.alloc | apply Grew.drew | apply Grew.drewN | (refine Grew.setCell ?_ (by simp; try omega) _) | (refine Grew.trans ?_ (by assumption)))))) HOK.out hn).mono ?_; rintro e w2 ⟨rfl, h2⟩))
      go_ret2
      go_light
      exact ⟨none, 0, by rw [HF.out]; rfl, by rw [HF.out]; exact Own.none_, by (repeat (with_reducible first | exact Grew.refl _ | assumption | apply Grew.alloc | apply Grew.drew | apply Grew.drewN | (refine Grew.setCell ?_ (by simp; try omega) _) | (refine Grew.trans ?_ (by assumption))))⟩
  obtain ⟨a1, q1, q2, a3⟩ := canPick_at hp
  have a2 : inB q 1 1000000000 = true := inB_iff.2 ⟨q1, q2⟩
  have HA1 := Lib.hid a1
  have HF := Lib.hid (show pickF l day q = ((pickTo l day q l.length).1, true) by simp [pickF, hp])
  have HLN := Lib.hid (pickTo_len l day q)
  have HLF := Lib.hid (pickTo_left l day q ⟨by omega, q2⟩)
  have hl20 : l.length ≤ 20 := by simp only [areL, Bool.and_eq_true, decide_eq_true_eq] at a1; omega
  clear hp
  go_enter Try.func23, Try.ntmps23
  go_wp2_with (first | (go_at_call 12; refine (areLots_impl l _ _ _ (HL.out.grew (by (repeat (with_reducible first | exact Grew.refl _ | assumption | apply Grew.alloc | apply Grew.drew | apply Grew.drewN | (refine Grew.setCell ?_ (by simp; try omega) _) | (refine Grew.trans ?_ (by assumption)))))) HOK.out hn).mono ?_; rintro e w1 ⟨rfl, h1⟩) | (go_at_call 38; refine (in_any _ _ _ _).mono ?_; rintro e w9 ⟨rfl, rfl⟩) | (go_at_call 15; refine (freeOn_impl l _ _ day _ (HL.out.grew (by (repeat (with_reducible first | exact Grew.refl _ | assumption | apply Grew.alloc | apply Grew.drew | apply Grew.drewN | (refine Grew.setCell ?_ (by simp; try omega) _) | (refine Grew.trans ?_ (by assumption)))))) HOK.out hn).mono ?_; rintro e w2 ⟨rfl, h2⟩))
  have HG2 := Lib.hid (h1.trans h2)
  clear h1 h2
  go_loopw [8, 2, 30] (fun v n i wr => ∃ k : Nat, k ≤ l.length ∧ i = .int .i64 k ∧ n = .int .i64 (pickTo l day q k).2 ∧ Own Nd.E 56 wr w.heap.size v (pickTo l day q k).1 ∧ Grew w wr) (fun _ _ i _ => l.length - (intOf i).toNat)
  case atStart => exact ⟨0, Nat.zero_le _, rfl, rfl, Own.new_ HG2.out.le, HG2.out.alloc _⟩
  case round =>
    obtain ⟨k, hk, rfl, rfl, hown, hg⟩ := hrel
    have HO := Lib.hid hown
    have HG := Lib.hid hg
    have hle := HLN.out k hk
    have hr1 := (HLF.out k hk).1
    have hr2 := (HLF.out k hk).2
    clear hown hg
    by_cases hlt : k < l.length
    · obtain ⟨x, hx⟩ : ∃ x, l[k]? = some x := ⟨_, List.getElem?_eq_getElem hlt⟩
      have hd : l.getD k lt0 = x := by rw [List.getD_eq_getElem?_getD, hx]; rfl
      have hbx := areL_at HA1.out hlt
      rw [hd] at hbx
      have HS := Lib.hid (pickTo_step (day := day) (q := q) hx)
      obtain ⟨b, o, rfl, hb, hc⟩ := (HL.out.grew HG.out).at_ hlt
      obtain ⟨hc0, hc1, hc2⟩ := Lt.at_ hc hx
      clear hx hc hd
      generalize pickTo l day q k = s at *
      obtain ⟨out, left⟩ := s
      simp only at *
      obtain ⟨A0, c0, rfl⟩ := HO.out.slice
      by_cases hdx : day ≤ x.ex
      · rcases Int.lt_or_le x.q left with hlq | hlq
        · have HC := Lib.hid (show pickStep day (out, left) x = (out ++ [⟨x.ba, x.q⟩], left - x.q) by simp only [pickStep]; rw [if_pos ⟨hdx, by omega⟩, show min left x.q = x.q by omega])
          go_wp2_with ((at_builtin; refine wpList_append_rd _ rfl (.tmp 46) (.tmp 51) _ rfl sl_Nd w.heap.size _ _ _ out rfl (Own.alloc (HO.out.alloc _) _) _ _ _ [⟨x.ba, x.q⟩] rfl rfl (rd_new (E := Nd.E) _ ⟨x.ba, x.q⟩ _ (by simp)) (by simp only [List.length_cons, List.length_nil]; omega) (le_al (HG.out.alloc _) rfl) ?_; intro A5 c5 w5 ho5 hgr5 hat5))
          go_roundw
          case rel => go_light; exact ⟨k + 1, by omega, by go_num, by rw [HS.out, HC.out], by rw [HS.out, HC.out]; exact ho5, ((HG.out.alloc _).alloc _).app (Own.alloc (HO.out.alloc _) _) (Nat.le_refl _) hgr5⟩
          case measure => go_light; simp [intOf]; omega
        · rcases Int.lt_or_le 0 left with hl0 | hl0
          · have HC := Lib.hid (show pickStep day (out, left) x = (out ++ [⟨x.ba, left⟩], left - left) by simp only [pickStep]; rw [if_pos ⟨hdx, by omega⟩, show min left x.q = left by omega])
            go_wp2_with ((at_builtin; refine wpList_append_rd _ rfl (.tmp 46) (.tmp 51) _ rfl sl_Nd w.heap.size _ _ _ out rfl (Own.alloc (HO.out.alloc _) _) _ _ _ [⟨x.ba, left⟩] rfl rfl (rd_new (E := Nd.E) _ ⟨x.ba, left⟩ _ (by simp)) (by simp only [List.length_cons, List.length_nil]; omega) (le_al (HG.out.alloc _) rfl) ?_; intro A5 c5 w5 ho5 hgr5 hat5))
            go_roundw
            case rel => go_light; exact ⟨k + 1, by omega, by go_num, by rw [HS.out, HC.out]; go_num, by rw [HS.out, HC.out]; exact ho5, ((HG.out.alloc _).alloc _).app (Own.alloc (HO.out.alloc _) _) (Nat.le_refl _) hgr5⟩
            case measure => go_light; simp [intOf]; omega
          · have HC := Lib.hid (show pickStep day (out, left) x = (out, left) by simp only [pickStep]; rw [if_neg (by omega)])
            go_wp2_with (fail)
            go_roundw
            case rel => go_light; exact ⟨k + 1, by omega, by go_num, by rw [HS.out, HC.out], by rw [HS.out, HC.out]; exact HO.out.alloc _, (HG.out.alloc _)⟩
            case measure => go_light; simp [intOf]; omega
      · have HC := Lib.hid (show pickStep day (out, left) x = (out, left) by simp only [pickStep]; rw [if_neg (by omega)])
        rcases Int.lt_or_le x.q left with hlq | hlq
        all_goals
          go_wp2_with fail
          go_roundw
          case rel => go_light; exact ⟨k + 1, by omega, by go_num, by rw [HS.out, HC.out], by rw [HS.out, HC.out]; exact HO.out.alloc _, HG.out.alloc _⟩
          case measure => go_light; simp [intOf]; omega
    · obtain rfl : k = l.length := by omega
      obtain ⟨A0, c0, rfl⟩ := HO.out.slice
      go_wp2_with fail
      go_ret2
      go_light
      exact ⟨A0, c0, by rw [HF.out]; rfl, by rw [HF.out]; exact HO.out, HG.out⟩

set_option maxHeartbeats 4000000 in
theorem pickLots_spec (l : List Lt) (A : Option Addr) (c : Nat) (day q : Int) (w : World) (h : Rd Lt.E w A l) (hok : ∀ x ∈ l, x.Ok) (hn : l.length ≤ 4194304) :
    Calls Try.prog 22 #[.slice A l.length c, .int .i64 day, .int .i64 q] w fun e w' => ∃ A' c', e = .returned (.tuple #[.slice A' (pickF l day q).1.length c', .bool (pickF l day q).2]) ∧ Own Nd.E 56 w' w.heap.size (.slice A' (pickF l day q).1.length c') (pickF l day q).1 ∧ Grew w w' := by
  have HL := Lib.hid h
  have HOK := Lib.hid hok
  clear h hok
  cases hp : canPick l day q
  · have HF := Lib.hid (show pickF l day q = ([], false) by simp [pickF, hp])
    rcases canPick_no hp with a1 | ⟨a1, a2⟩ | ⟨a1, a2, a3⟩
    all_goals
      clear hp
      go_enter Try.func22, Try.ntmps22
      go_wp2_with (first | (go_at_call 10; refine (areLots_spec l _ _ _ (HL.out.grew (by (repeat (with_reducible first | exact Grew.refl _ | assumption | apply Grew.alloc | apply Grew.drew | apply Grew.drewN | (refine Grew.setCell ?_ (by simp; try omega) _) | (refine Grew.trans ?_ (by assumption)))))) HOK.out hn).mono ?_; rintro e w1 ⟨rfl, h1⟩) | (go_at_call 35; refine (l1In_any _ _ _ _).mono ?_; rintro e w9 ⟨rfl, rfl⟩) | (go_at_call 14; refine (freeOn_spec l _ _ day _ (HL.out.grew (by (repeat (with_reducible first | exact Grew.refl _ | assumption | apply Grew.alloc | apply Grew.drew | apply Grew.drewN | (refine Grew.setCell ?_ (by simp; try omega) _) | (refine Grew.trans ?_ (by assumption)))))) HOK.out hn).mono ?_; rintro e w2 ⟨rfl, h2⟩))
      go_ret2
      go_light
      exact ⟨(some ⟨_, 0, none⟩), 0, by rw [HF.out]; rfl, by rw [HF.out]; exact Own.new_ (le_of_grew (by (repeat (with_reducible first | exact Grew.refl _ | assumption | apply Grew.alloc | apply Grew.drew | apply Grew.drewN | (refine Grew.setCell ?_ (by simp; try omega) _) | (refine Grew.trans ?_ (by assumption))))) rfl), by (repeat (with_reducible first | exact Grew.refl _ | assumption | apply Grew.alloc | apply Grew.drew | apply Grew.drewN | (refine Grew.setCell ?_ (by simp; try omega) _) | (refine Grew.trans ?_ (by assumption))))⟩
  obtain ⟨a1, q1, q2, a3⟩ := canPick_at hp
  have a2 : inB q 1 1000000000 = true := inB_iff.2 ⟨q1, q2⟩
  have HA1 := Lib.hid a1
  have HF := Lib.hid (show pickF l day q = ((pickTo l day q l.length).1, true) by simp [pickF, hp])
  have HLN := Lib.hid (pickTo_len l day q)
  have HLF := Lib.hid (pickTo_left l day q ⟨by omega, q2⟩)
  have hl20 : l.length ≤ 20 := by simp only [areL, Bool.and_eq_true, decide_eq_true_eq] at a1; omega
  clear hp
  go_enter Try.func22, Try.ntmps22
  go_wp2_with (first | (go_at_call 10; refine (areLots_spec l _ _ _ (HL.out.grew (by (repeat (with_reducible first | exact Grew.refl _ | assumption | apply Grew.alloc | apply Grew.drew | apply Grew.drewN | (refine Grew.setCell ?_ (by simp; try omega) _) | (refine Grew.trans ?_ (by assumption)))))) HOK.out hn).mono ?_; rintro e w1 ⟨rfl, h1⟩) | (go_at_call 35; refine (l1In_any _ _ _ _).mono ?_; rintro e w9 ⟨rfl, rfl⟩) | (go_at_call 14; refine (freeOn_spec l _ _ day _ (HL.out.grew (by (repeat (with_reducible first | exact Grew.refl _ | assumption | apply Grew.alloc | apply Grew.drew | apply Grew.drewN | (refine Grew.setCell ?_ (by simp; try omega) _) | (refine Grew.trans ?_ (by assumption)))))) HOK.out hn).mono ?_; rintro e w2 ⟨rfl, h2⟩))
  have HG2 := Lib.hid (h1.trans h2)
  have HD : ∀ k, (pickTo l day q k).2 = 0 → k ≤ l.length → pickTo l day q l.length = pickTo l day q k := fun k h0 hk => by have := pickTo_done l day q h0 (l.length - k) (by omega); rwa [show k + (l.length - k) = l.length by omega] at this
  clear h1 h2
  have HDD := Lib.hid HD
  clear HD
  go_loopw [8, 9, 10] (fun v n i wr => ∃ k : Nat, k ≤ l.length ∧ i = .int .i64 k ∧ n = .int .i64 (pickTo l day q k).2 ∧ Own Nd.E 56 wr w.heap.size v (pickTo l day q k).1 ∧ Grew w wr) (fun _ _ i _ => l.length - (intOf i).toNat)
  case atStart => exact ⟨0, Nat.zero_le _, rfl, rfl, Own.new_ HG2.out.le, HG2.out.alloc _⟩
  case round =>
    obtain ⟨k, hk, rfl, rfl, hown, hg⟩ := hrel
    have HDK := Lib.hid (HDD.out k)
    have HO := Lib.hid hown
    have HG := Lib.hid hg
    have hle := HLN.out k hk
    have hr1 := (HLF.out k hk).1
    have hr2 := (HLF.out k hk).2
    clear hown hg
    by_cases hlt : k < l.length
    · obtain ⟨x, hx⟩ : ∃ x, l[k]? = some x := ⟨_, List.getElem?_eq_getElem hlt⟩
      have hd : l.getD k lt0 = x := by rw [List.getD_eq_getElem?_getD, hx]; rfl
      have hbx := areL_at HA1.out hlt
      rw [hd] at hbx
      have HS := Lib.hid (pickTo_step (day := day) (q := q) hx)
      obtain ⟨b, o, rfl, hb, hc⟩ := (HL.out.grew HG.out).at_ hlt
      obtain ⟨hc0, hc1, hc2⟩ := Lt.at_ hc hx
      clear hx hc hd
      generalize pickTo l day q k = s at *
      obtain ⟨out, left⟩ := s
      simp only at *
      obtain ⟨A0, c0, rfl⟩ := HO.out.slice
      rcases Int.lt_or_le 0 left with hl0 | hl0
      · by_cases hdx : day ≤ x.ex
        · rcases Int.lt_or_le x.q left with hlq | hlq
          · have HC := Lib.hid (show pickStep day (out, left) x = (out ++ [⟨x.ba, x.q⟩], left - x.q) by simp only [pickStep]; rw [if_pos ⟨hdx, by omega⟩, show min left x.q = x.q by omega])
            go_wp2_with ((at_builtin; refine wpList_append_rd _ rfl (.tmp 54) (.tmp 62) _ rfl sl_Nd w.heap.size _ _ _ out rfl (Own.alloc HO.out _) _ _ _ [⟨x.ba, x.q⟩] rfl rfl (rd_new (E := Nd.E) _ ⟨x.ba, x.q⟩ _ (by simp)) (by simp only [List.length_cons, List.length_nil]; omega) (le_al HG.out rfl) ?_; intro A5 c5 w5 ho5 hgr5 hat5))
            go_roundw
            case rel => go_light; exact ⟨k + 1, by omega, by go_num, by rw [HS.out, HC.out], by rw [HS.out, HC.out]; exact ho5, (HG.out.alloc _).app (Own.alloc HO.out _) (Nat.le_refl _) hgr5⟩
            case measure => go_light; simp [intOf]; omega
          · have HC := Lib.hid (show pickStep day (out, left) x = (out ++ [⟨x.ba, left⟩], left - left) by simp only [pickStep]; rw [if_pos ⟨hdx, by omega⟩, show min left x.q = left by omega])
            go_wp2_with ((at_builtin; refine wpList_append_rd _ rfl (.tmp 54) (.tmp 62) _ rfl sl_Nd w.heap.size _ _ _ out rfl (Own.alloc HO.out _) _ _ _ [⟨x.ba, left⟩] rfl rfl (rd_new (E := Nd.E) _ ⟨x.ba, left⟩ _ (by simp)) (by simp only [List.length_cons, List.length_nil]; omega) (le_al HG.out rfl) ?_; intro A5 c5 w5 ho5 hgr5 hat5))
            go_roundw
            case rel => go_light; exact ⟨k + 1, by omega, by go_num, by rw [HS.out, HC.out]; go_num, by rw [HS.out, HC.out]; exact ho5, (HG.out.alloc _).app (Own.alloc HO.out _) (Nat.le_refl _) hgr5⟩
            case measure => go_light; simp [intOf]; omega
        · have HC := Lib.hid (show pickStep day (out, left) x = (out, left) by simp only [pickStep]; rw [if_neg (by omega)])
          go_wp2_with fail
          go_roundw
          case rel => go_light; exact ⟨k + 1, by omega, by go_num, by rw [HS.out, HC.out], by rw [HS.out, HC.out]; exact HO.out, HG.out⟩
          case measure => go_light; simp [intOf]; omega
      · have HE := Lib.hid (HDK.out (by omega) hk)
        go_wp2_with fail
        go_ret2
        go_light
        exact ⟨A0, c0, by rw [HF.out, HE.out]; rfl, by rw [HF.out, HE.out]; exact HO.out, HG.out⟩
    · obtain rfl : k = l.length := by omega
      obtain ⟨A0, c0, rfl⟩ := HO.out.slice
      go_wp2_with fail
      go_ret2
      go_light
      exact ⟨A0, c0, by rw [HF.out]; rfl, by rw [HF.out]; exact HO.out, HG.out⟩
end Go.Proofs.Ytcphlancaahihaa
