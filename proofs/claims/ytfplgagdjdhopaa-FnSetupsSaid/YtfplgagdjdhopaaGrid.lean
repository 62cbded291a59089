/- Slices of slices of int: their reading, the copies, the sizes and the comparisons of the laws. Conditions: none. -/
import Derived.Test.YtfplgagdjdhopaaInts
import Derived.Test.YtfplgagdjdhopaaApp
namespace Go.Proofs.Ytfplgagdjdhopaa
open Go.RowKit Go.ChangeShapes Go.WideShapes Go.Deep
set_option linter.unusedVariables false
set_option linter.unusedSimpArgs false

/-- A row: what it holds, where it lies. -/
structure Row where
  l : List Int
  A : Option Addr
  c : Nat
def Row.E : Enc Row := { enc := fun x => [.slice x.A x.l.length x.c], sz := 1, pos := by decide, len := fun _ => rfl, one := by intro x u hu; simp at hu; subst hu; rfl }
theorem Row.at_ {w : World} {b o : Nat} {l : List Row} (hc : ∀ i x, l[i]? = some x → ∀ j u, (Row.E.enc x)[j]? = some u → w.cell? ⟨b, o + i * Row.E.sz + j, none⟩ = some u) {k : Nat} {x : Row} (hx : l[k]? = some x) :
    w.cell? ⟨b, o + k, none⟩ = some (.slice x.A x.l.length x.c) := by
  have := hc k x hx 0 _ rfl
  simpa [Row.E] using this

/-- The slice at A reads as the list of lists L. -/
def RdR (w : World) (A : Option Addr) (L : List (List Int)) : Prop :=
  ∃ r : List Row, r.map (·.l) = L ∧ Rd Row.E w A r ∧ ∀ x ∈ r, Rd IntS.E w x.A x.l
def OwnR (w : World) (base : Nat) (v : Value) (L : List (List Int)) : Prop :=
  ∃ r : List Row, r.map (·.l) = L ∧ Own Row.E 27 w base v r ∧ ∀ x ∈ r, Rd IntS.E w x.A x.l
theorem RdR.grew {w w' : World} {A : Option Addr} {L : List (List Int)} (h : RdR w A L) (g : Grew w w') : RdR w' A L := by
  obtain ⟨r, e, h1, h2⟩ := h
  exact ⟨r, e, h1.grew g, fun x hx => (h2 x hx).grew g⟩
theorem OwnR.grew {w w' : World} {b : Nat} {v : Value} {L : List (List Int)} (h : OwnR w b v L) (g : Grew w w') : OwnR w' b v L := by
  obtain ⟨r, e, h1, h2⟩ := h
  exact ⟨r, e, h1.grew g, fun x hx => (h2 x hx).grew g⟩
theorem OwnR.rd {w : World} {b : Nat} {A : Option Addr} {n c : Nat} {L : List (List Int)} (h : OwnR w b (.slice A n c) L) : RdR w A L := by
  obtain ⟨r, e, h1, h2⟩ := h
  exact ⟨r, e, h1.rd, h2⟩
theorem RdR.at_ {w : World} {A : Option Addr} {L : List (List Int)} (h : RdR w A L) {k : Nat} {m : List Int} (hm : L[k]? = some m) :
    ∃ b o B c, A = some ⟨b, o, none⟩ ∧ b < w.heap.size ∧ w.cell? ⟨b, o + k, none⟩ = some (.slice B m.length c) ∧ Rd IntS.E w B m := by
  obtain ⟨r, rfl, h1, h2⟩ := h
  rw [List.getElem?_map, Option.map_eq_some_iff] at hm
  obtain ⟨x, hx, rfl⟩ := hm
  obtain ⟨b, o, e, hb, hc⟩ := h1.at_ (k := k) (List.getElem?_eq_some_iff.1 hx).1
  exact ⟨b, o, x.A, x.c, e, hb, Row.at_ hc hx, h2 x (List.mem_of_getElem? hx)⟩

/-- As OwnR; moreover each row lies in a block of its own behind the first one. -/
def OwnM (w : World) (base : Nat) (v : Value) (L : List (List Int)) : Prop :=
  ∃ r : List Row, r.map (·.l) = L ∧ Own Row.E 27 w base v r ∧ (∀ x ∈ r, Own IntS.E 3 w (base + 1) (.slice x.A x.l.length x.c) x.l) ∧ (r.Pairwise fun x y => ∀ b, (Value.slice x.A x.l.length x.c).ownBlock = some b → (Value.slice y.A y.l.length y.c).ownBlock ≠ some b) ∧ ∀ b, v.ownBlock = some b → b = base
theorem OwnM.grew {w w' : World} {b : Nat} {v : Value} {L : List (List Int)} (h : OwnM w b v L) (g : Grew w w') : OwnM w' b v L := by
  obtain ⟨r, e, h1, h2, h3⟩ := h
  exact ⟨r, e, h1.grew g, fun x hx => (h2 x hx).grew g, h3⟩
theorem OwnM.rd {w : World} {b : Nat} {A : Option Addr} {n c : Nat} {L : List (List Int)} (h : OwnM w b (.slice A n c) L) : RdR w A L := by
  obtain ⟨r, e, h1, h2, _⟩ := h
  exact ⟨r, e, h1.rd, fun x hx => (h2 x hx).rd⟩

def szR (L : List (List Int)) : Nat → Nat
  | 0 => L.length
  | k + 1 => szR L k + (L.getD k []).length
theorem szR_le (L : List (List Int)) : ∀ {k n : Nat}, k ≤ n → szR L k ≤ szR L n := by
  intro k n h
  induction n with
  | zero => obtain rfl : k = 0 := by omega
            exact Nat.le_refl _
  | succ n ih =>
    rcases Nat.lt_succ_iff_lt_or_eq.1 (Nat.lt_succ_of_le h) with h1 | rfl
    · exact Nat.le_trans (ih (by omega)) (by simp [szR])
    · exact Nat.le_refl _
theorem szR_row {L : List (List Int)} {k : Nat} (hk : k < L.length) : (L.getD k []).length ≤ szR L L.length :=
  Nat.le_trans (by simp [szR]) (szR_le L (show k + 1 ≤ L.length by omega))

theorem szIntS_any (l : List IntS) (A : Option Addr) (c : Nat) (n : Int) (w : World) (hl : l.length ≤ maxLen) (h0 : 0 ≤ n) (h1 : n ≤ 1048576) :
    Calls Try.prog 27 #[.slice A l.length c, .int .i64 n] w fun e w' => e = .returned (.int .i64 (if n < l.length then -1 else n - l.length)) ∧ w = w' := by
  unfold maxLen at hl
  go_enter Try.func27, Try.ntmps27
  by_cases h : n < l.length
  · have HF := Lib.hid (show (if n < (l.length : Int) then -1 else n - l.length) = (-1 : Int) by rw [if_pos h])
    go_wp2_with fail
    go_ret
    go_light
    exact ⟨rfl, rfl⟩
  · have HF := Lib.hid (show (if n < (l.length : Int) then -1 else n - l.length) = (n - l.length : Int) by rw [if_neg h])
    go_wp2_with fail
    go_ret
    go_light
    exact ⟨rfl, rfl⟩

set_option maxHeartbeats 1000000 in
theorem szIntSS_same (L : List (List Int)) (A : Option Addr) (c : Nat) (n : Int) (w : World) (h : RdR w A L) (hr : ∀ m ∈ L, m.length ≤ maxLen) (h0 : 0 ≤ n) (h1 : n ≤ 1048576) (hl : L.length ≤ maxLen) :
    Calls Try.prog 8 #[.slice A L.length c, .int .i64 n] w fun e w' => ∃ r : Int, e = .returned (.int .i64 r) ∧ r ≤ n ∧ (0 ≤ r → (szR L L.length : Int) ≤ n) ∧ w = w' := by
  unfold maxLen at hl
  by_cases hln : n < L.length
  · go_enter Try.func8, Try.ntmps8
    go_wp2_with fail
    go_ret
    go_light
    exact ⟨-1, rfl, by omega, by omega, rfl⟩
  go_enter Try.func8, Try.ntmps8
  go_wp2_with fail
  have H := Lib.hid h
  have HR := Lib.hid hr
  clear h hr
  go_loopw [1, 5] (fun t i wr => ∃ k : Nat, k ≤ L.length ∧ i = .int .i64 k ∧ t = .int .i64 (n - szR L k) ∧ (szR L k : Int) ≤ n ∧ wr = w) (fun _ i _ => L.length - (intOf i).toNat)
  case atStart => exact ⟨0, Nat.zero_le _, rfl, rfl, by simp only [szR]; omega, rfl⟩
  case round =>
    obtain ⟨k, hk, rfl, rfl, hsz, rfl⟩ := hrel
    by_cases hlt : k < L.length
    · obtain ⟨m, hm⟩ : ∃ m, L[k]? = some m := ⟨_, List.getElem?_eq_getElem hlt⟩
      obtain ⟨b, o, B, c', rfl, hb, hc, hrd⟩ := H.out.at_ hm
      have hml := HR.out m (List.mem_of_getElem? hm)
      have HZ := Lib.hid (show szR L (k + 1) = szR L k + m.length by simp [szR, List.getD_eq_getElem?_getD, hm])
      have HLE := Lib.hid (szR_le L (show k + 1 ≤ L.length by omega))
      clear hm hrd
      generalize szR L k = zk at *
      go_wp2_with fail
      refine (szIntS_any m _ _ _ _ hml (by omega) (by omega)).mono ?_; rintro e w' ⟨rfl, rfl⟩
      by_cases hov : (n - zk : Int) < m.length
      · rw [if_pos hov]
        go_wp2_with fail
        go_ret
        go_light
        exact ⟨-1, rfl, by omega, by omega, rfl⟩
      · rw [if_neg hov]
        go_wp2_with fail
        go_roundw
        case rel =>
          go_light
          refine ⟨k + 1, by omega, by go_num, ?_, ?_, by first | rfl | trivial⟩
          · rw [HZ.out]; congr 1; push_cast; omega
          · rw [HZ.out]; push_cast; omega
        case measure => go_light; simp [intOf]; omega
    · obtain rfl : k = L.length := by omega
      go_wp2_with fail
      go_ret
      go_light
      exact ⟨_, rfl, by omega, fun _ => hsz, by first | rfl | trivial⟩

theorem szIntSS_any (L : List (List Int)) (A : Option Addr) (c : Nat) (n : Int) (w : World) (h : RdR w A L) (hr : ∀ m ∈ L, m.length ≤ maxLen) (h0 : 0 ≤ n) (h1 : n ≤ 1048576) (hl : L.length ≤ maxLen) :
    Calls Try.prog 8 #[.slice A L.length c, .int .i64 n] w fun e w' => ∃ r : Int, e = .returned (.int .i64 r) ∧ r ≤ n ∧ (0 ≤ r → L.length ≤ 1048576 ∧ ∀ m ∈ L, m.length ≤ 1048576) ∧ Grew w w' := by
  refine (szIntSS_same L A c n w h hr h0 h1 hl).mono ?_
  rintro e w' ⟨r, rfl, h2, h3, rfl⟩
  refine ⟨r, rfl, h2, fun h4 => ?_, Grew.refl _⟩
  have h5 := h3 h4
  refine ⟨by have := szR_le L (Nat.zero_le L.length); simp only [szR] at this; omega, fun m hm => ?_⟩
  obtain ⟨i, hi⟩ := List.mem_iff_getElem?.1 hm
  have h6 := szR_row (L := L) (k := i) (List.getElem?_eq_some_iff.1 hi).1
  rw [show L.getD i [] = m by simp [List.getD_eq_getElem?_getD, hi]] at h6
  omega
theorem rd_set {T : Type} {E : Enc T} {w : World} {A : Option Addr} {l : List T} {g : Nat} (h : Rd E w A l) (hg : ∀ b o, A = some ⟨b, o, none⟩ → b ≠ g) (i : Nat) (v : Value) : Rd E (w.setCell ⟨g, i, none⟩ v) A l := by
  intro hl
  obtain ⟨b, o, rfl, hb, hc⟩ := h hl
  have hne := hg b o rfl
  refine ⟨b, o, rfl, by simpa using hb, fun i x hx j u hu => ?_⟩
  rw [← hc i x hx j u hu]
  simp [go_sem, hne]
theorem info_ints : (Try.prog.info? 27).map (fun i => (i.zero, i.size, i.bytes)) = some (some (.slice none 0 0), 1, 24) := by kernel_rfl
set_option maxHeartbeats 1000000 in
theorem toIntSS_any (L : List (List Int)) (A : Option Addr) (c : Nat) (w : World) (h : RdR w A L) (hn : L.length ≤ 1048576) (hr : ∀ m ∈ L, m.length ≤ 1048576) :
    Calls Try.prog 10 #[.slice A L.length c] w fun e w' => e = .returned (.slice (some ⟨w.heap.size, 0, none⟩) L.length L.length) ∧
      OwnM w' w.heap.size (.slice (some ⟨w.heap.size, 0, none⟩) L.length L.length) L ∧ Grew w w' := by
  obtain ⟨i0, hi0, hz0, hz1, hz2⟩ := info_parts info_ints
  have H := Lib.hid h
  have HR := Lib.hid hr
  clear h hr
  go_enter Try.func10, Try.ntmps10
  go_wp2_with (at_make; refine wpList_make_full _ rfl _ _ _ rfl w.heap.size 27 i0 _ 1 Try.underlying22 hi0 hz0 hz1 _ _ _ _ L.length rfl rfl rfl rfl (by rw [hz2]; omega) (by simp only [maxLen]; omega) (Nat.le_refl _) ?_; intro w1 hown1 hgr1)
  have hg1 : Grew w w1 := (Grew.refl w).grown hgr1 (by simp)
  go_loopw [4] (fun i wr => ∃ k : Nat, k ≤ L.length ∧ i = .int .i64 k ∧ Grew w wr ∧ ∃ (rs : List Row) (r : List Value), rs.length = k ∧ rs.map (·.l) = L.take k ∧ (∀ x ∈ rs, Own IntS.E 3 wr (w.heap.size + 1) (.slice x.A x.l.length x.c) x.l) ∧ rs.Pairwise (fun x y => ∀ b, (Value.slice x.A x.l.length x.c).ownBlock = some b → (Value.slice y.A y.l.length y.c).ownBlock ≠ some b) ∧ r.length = L.length - k ∧ wr.ownsRow w.heap.size 27 1 (.slice (some ⟨w.heap.size, 0, none⟩) L.length L.length) L.length (flat Row.E rs ++ r)) (fun i _ => L.length - (intOf i).toNat)
  case atStart => exact ⟨0, Nat.zero_le _, rfl, hg1, [], (madeCells (Value.cells _) (L.length * 1)).toList, rfl, by simp, by simp, List.Pairwise.nil, by simp [madeCells], hown1⟩
  case round =>
    obtain ⟨k, hk, rfl, hg, rs, r, hrl, hrm, hrr, hpw, hr, hown⟩ := hrel
    have HPW := Lib.hid hpw
    clear hpw
    clear hown1 hgr1 hg1 hi0 hz0 hz1 hz2
    by_cases hlt : k < L.length
    · obtain ⟨m, hm⟩ : ∃ m, L[k]? = some m := ⟨_, List.getElem?_eq_getElem hlt⟩
      obtain ⟨b, o, B, c', rfl, hb, hc, hrd⟩ := (H.out.grew hg).at_ hm
      have HM := Lib.hid hm
      have hml := HR.out m (List.mem_of_getElem? hm)
      have HRD := Lib.hid hrd
      have HRL := Lib.hid hrl
      have HRM := Lib.hid hrm
      have HRR := Lib.hid hrr
      have HRX := Lib.hid hr
      have HO := Lib.hid hown
      have HG := Lib.hid hg
      clear hm hrd hrl hrm hrr hr hown hg
      go_wp2_with fail
      refine (toIntS_any m _ _ _ HRD.out hml).mono ?_; rintro e w2 ⟨rfl, ho2, hg2⟩
      have HO2 := Lib.hid (ownsRow_grew HO.out hg2)
      have HW2 := Lib.hid ho2
      have HG2 := Lib.hid hg2
      obtain ⟨u0, hu0⟩ : ∃ u, w2.cell? ⟨w.heap.size, k, none⟩ = some u := by
        have h3 := HO2.out.cellAt k (by omega)
        rw [h3]
        have h4 : (flat Row.E rs ++ r).length = L.length * 1 := HO.out.1
        exact ⟨_, List.getElem?_eq_getElem (by rw [h4]; omega)⟩
      have hf2 : ∀ j, w2.frozen? ⟨w.heap.size, j, none⟩ = false := fun j => HO2.out.frozenAt j
      obtain ⟨g0, cap0, hv0, _, hwl⟩ := HO.out.form (by omega)
      obtain rfl : w.heap.size = g0 := by simp only [Value.slice.injEq, Option.some.injEq, Addr.mk.injEq] at hv0; exact hv0.1.1
      clear ho2 hg2 hc
      generalize hX : wr.heap.size = X at *
      go_wp2_with fail
      go_roundw
      case rel =>
        go_light
        have hgw : Grew w (w2.setCell ⟨w.heap.size, k, none⟩ (.slice (some ⟨X, 0, none⟩) m.length m.length)) := (HG.out.trans HG2.out).setCell (by simp) _
        refine ⟨k + 1, by omega, by go_num, hgw, rs ++ [⟨m, some ⟨X, 0, none⟩, m.length⟩], r.drop 1, ?_, ?_, ?_, ?_, ?_, ?_⟩
        · rw [List.length_append, HRL.out]; rfl
        · rw [List.map_append, HRM.out, List.take_add_one, HM.out]; rfl
        · intro x hx
          rcases List.mem_append.1 hx with hx | hx
          · exact ((HRR.out x hx).grew HG2.out).far (fun e => by have := (HRR.out x hx).block _ e; simp only at this; omega) _
          · obtain rfl : x = ⟨m, some ⟨X, 0, none⟩, m.length⟩ := by simpa using hx
            exact (HW2.out.mono (b := w.heap.size + 1) (by omega)).far (fun e => by have := HW2.out.block _ e; simp only at this; omega) _
        · rw [List.pairwise_append]
          refine ⟨HPW.out, List.pairwise_singleton _ _, fun x hx y hy => ?_⟩
          obtain rfl : y = ⟨m, some ⟨X, 0, none⟩, m.length⟩ := by simpa using hy
          intro b hb e2
          have h1 := (HRR.out x hx).block b hb
          have h2 := HW2.out.block b e2
          omega
        · rw [List.length_drop, HRX.out]; omega
        · have h5 := own_stores (Row.E.enc ⟨m, some ⟨X, 0, none⟩, m.length⟩) _ w2 k HO2.out
          have h6 : (flat Row.E rs).length = k := by rw [flat_length, HRL.out]; simp [Row.E]
          have h7 := setL_app (Row.E.enc ⟨m, some ⟨X, 0, none⟩, m.length⟩) (flat Row.E rs) r (by rw [HRX.out]; show 1 ≤ _; omega)
          rw [h6, show (Row.E.enc ⟨m, some ⟨X, 0, none⟩, m.length⟩).length = 1 from rfl] at h7
          rw [h7] at h5
          rw [flat_append]
          simpa [flat, storeL, Row.E] using h5
      case measure => go_light; simp [intOf]; omega
    · obtain rfl : k = L.length := by omega
      have HO := Lib.hid hown
      have HR2 := Lib.hid hr
      have HRM := Lib.hid hrm
      have HRR := Lib.hid hrr
      have HRL := Lib.hid hrl
      clear hr hown hrm hrr hrl
      go_wp2
      go_ret
      go_light
      have hr0 : r = [] := List.eq_nil_of_length_eq_zero (by rw [HR2.out]; simp)
      have ho := HO.out
      rw [hr0, List.append_nil] at ho
      refine ⟨rfl, ⟨rs, by rw [HRM.out, List.take_length], ?_, HRR.out, HPW.out, fun b hb => by simpa [Value.ownBlock] using hb.symm⟩, hg⟩
      unfold Own
      rw [HRL.out]
      exact ho

set_option maxHeartbeats 1000000 in
theorem eqIntSS_any (L M : List (List Int)) (A B : Option Addr) (c d : Nat) (w : World) (h : RdR w A L) (h' : RdR w B M) (hn : L.length ≤ 4194304) (hm : M.length ≤ 4194304) (hr : ∀ m ∈ L, m.length ≤ 4194304) (hr' : ∀ m ∈ M, m.length ≤ 4194304) :
    Calls Try.prog 12 #[.slice A L.length c, .slice B M.length d] w fun e w' => e = .returned (.bool (decide (L = M))) ∧ Grew w w' := by
  have H := Lib.hid h
  have H' := Lib.hid h'
  have HR := Lib.hid hr
  have HR' := Lib.hid hr'
  clear h h' hr hr'
  by_cases hlen : L.length = M.length
  · have hb : ((L.length : Int) != (M.length : Int)) = false := by simp [hlen]
    have HL := Lib.hid hlen
    clear hlen
    go_enter Try.func12, Try.ntmps12
    go_wp2_with fail
    go_loopw [5] (fun i wr => ∃ k : Nat, k ≤ L.length ∧ i = .int .i64 k ∧ Grew w wr ∧ L.take k = M.take k) (fun i _ => L.length - (intOf i).toNat)
    case atStart => exact ⟨0, Nat.zero_le _, rfl, Grew.refl _, by simp⟩
    case round =>
      obtain ⟨k, hk, rfl, hg, heq⟩ := hrel
      have HQ := Lib.hid heq
      clear heq
      by_cases hlt : k < L.length
      · have hlt2 : k < M.length := by rw [← HL.out]; exact hlt
        obtain ⟨x, hx⟩ : ∃ x, L[k]? = some x := ⟨_, List.getElem?_eq_getElem hlt⟩
        obtain ⟨y, hy⟩ : ∃ y, M[k]? = some y := ⟨_, List.getElem?_eq_getElem hlt2⟩
        obtain ⟨b, o, X, c', rfl, hb1, hc, hrx⟩ := (H.out.grew hg).at_ hx
        obtain ⟨b', o', Y, d', rfl, hb2, hd, hry⟩ := (H'.out.grew hg).at_ hy
        have hxl := HR.out x (List.mem_of_getElem? hx)
        have hyl := HR'.out y (List.mem_of_getElem? hy)
        have HX := Lib.hid hx
        have HY := Lib.hid hy
        have HG := Lib.hid hg
        have HRX := Lib.hid hrx
        have HRY := Lib.hid hry
        clear hx hy hg hrx hry hb
        have hi1 : (0 : Int) ≤ (k : Int) := by omega
        have hi2 : (k : Int) < (L.length : Int) := by omega
        have hi3 : (k : Int) < (M.length : Int) := by omega
        cases hxy : decide (x = y)
        all_goals
          go_wp2_with fail
          (refine wp_region_grow_lit (by kernel_rfl) (by kernel_rfl) ?_; repeat (any_goals (first | go_big_quiet_step (((go_at_call 16; exact quiet_grew (eqIntS_any x y _ _ _ _ _ (HRX.out.gw _) (HRY.out.gw _) hxl hyl)))) | quiet_step (((go_at_call 16; exact quiet_grew (eqIntS_any x y _ _ _ _ _ (HRX.out.gw _) (HRY.out.gw _) hxl hyl)))) | (refine wpQuiet_step (fun K hK => ?_); go_simp; split <;> rename_i hsp <;> (refine hK _ ?_; clear hK K) <;> (try first | simp only [hsp, decide_true, decide_false, Bool.not_true, Bool.not_false] | simp only [Int.not_le.2 hsp, decide_false, Bool.not_false] | simp only [Int.not_lt.2 hsp, decide_false, Bool.not_false] | simp only [Nat.not_le.2 hsp, decide_false, Bool.not_false] | simp only [Nat.not_lt.2 hsp, decide_false, Bool.not_false])))))
          all_goals (refine wpQuiet_nil ?_; intro w1 h1)
          go_wp2_with fail
        · go_ret
          go_light
          refine ⟨ret_bool ?_, HG.out.trans h1⟩
          have hne : x ≠ y := of_decide_eq_false hxy
          have : L ≠ M := fun e => hne (by have h3 := HX.out; rw [e, HY.out] at h3; injection h3 with h3; exact h3.symm)
          simp [this]
        · go_roundw
          case rel =>
            go_light
            refine ⟨k + 1, by omega, by go_num, HG.out.trans h1, ?_⟩
            rw [List.take_add_one, List.take_add_one, HQ.out, HX.out, HY.out, of_decide_eq_true hxy]
          case measure => go_light; simp [intOf]; omega
      · go_wp2_with fail
        go_ret
        go_light
        refine ⟨ret_bool ?_, hg⟩
        have h1 : L = M := by
          have h2 := HQ.out
          rwa [List.take_of_length_le (by omega), List.take_of_length_le (by rw [← HL.out]; omega)] at h2
        simp [h1]
  · have hb : ((L.length : Int) != (M.length : Int)) = true := by simp; omega
    have hne : L ≠ M := fun e => hlen (by rw [e])
    go_enter Try.func12, Try.ntmps12
    go_wp2_with fail
    go_ret
    go_light
    exact ⟨ret_bool (by simp [hne]), Grew.refl _⟩

set_option maxRecDepth 100000 in
theorem IntSS.open_ {H : Type} {enc : TypeId × Value → H} {w : World} {spare : Nat → Bool} {held : Bool} {v : Value} {d : DataW H} {p : List MemPlace} {rc : Reach} {b0 : Nat}
    (hv : Value.okWide Try.prog w rc b0 22 v) (h : DataW.Trod enc Try.prog w 0 spare held 22 v d p) :
    ∃ (l : List (List Int)) (A : Option Addr) (c : Nat), v = .slice A l.length c ∧ RdR w A l ∧ l.length ≤ c ∧ c ≤ maxLen ∧ ∀ m ∈ l, m.length ≤ maxLen := by
  obtain ⟨a0, len0, cap0, rfl⟩ := okWide_slice Try.underlying22 hv
  obtain ⟨fuel, hf0⟩ := h
  have hf1 : DataW.trod enc Try.prog w 0 spare held fuel 22 [.slice a0 len0 cap0] = some (d, p) := by simpa [Value.cells] using hf0
  rcases open_slice1 Try.underlying22 (by kernel_rfl) hf1 with ⟨hcs, _⟩ | ⟨a, len, cap, m, n, V, D, Pl, hcs, _, hl, hm, hmm, _, hi⟩
  · simp only [List.cons.injEq, Value.slice.injEq, and_true] at hcs
    obtain ⟨rfl, rfl, rfl⟩ := hcs
    exact ⟨[], none, 0, rfl, ⟨[], rfl, Rd.nil, by simp⟩, Nat.le_refl _, by simp [maxLen], by simp⟩
  · simp only [List.cons.injEq, Value.slice.injEq, and_true] at hcs
    obtain ⟨rfl, rfl, rfl⟩ := hcs
    have hx : ∀ i, i < len0 → ∃ x : Row, (x.l.length ≤ maxLen ∧ Rd IntS.E w x.A x.l) ∧ ∀ j u, (Row.E.enc x)[j]? = some u → w.cell? (a.add (i * 1 + j)) = some u := by
      intro i hil
      obtain ⟨hc, ht⟩ := hi i (by rw [hmm]; split <;> omega)
      rcases open_ints Try.underlying27 Try.underlying3 cells_int ht with ⟨hcs, _⟩ | ⟨a', len', cap', zs, hcs, _, hl', hm', hz, _, hcell, _⟩
      · have hV : V i = .slice none 0 0 := by simpa using hcs
        refine ⟨⟨[], none, 0⟩, ⟨by simp [maxLen], Rd.nil⟩, fun j u hu => ?_⟩
        match j, hu with
        | 0, hu =>
          have : u = .slice none 0 0 := by simpa [Row.E] using hu.symm
          subst this
          rw [← hV]; simpa using hc
        | j + 1, hu => simp [Row.E] at hu
      · have hV : V i = .slice (some a') len' cap' := by simpa using hcs
        have hlz : len' ≤ zs.length := by rw [hz]; split <;> omega
        have hll : (zs.take len').length = len' := by rw [List.length_take, Nat.min_eq_left hlz]
        refine ⟨⟨zs.take len', some a', cap'⟩, ⟨by rw [hll]; omega, rd_of_add (E := IntS.E) (fun i x hx j u hu => ?_)⟩, fun j u hu => ?_⟩
        · have hi : i < len' := by
            have h9 : i < (zs.take len').length := (List.getElem?_eq_some_iff.1 hx).1
            rw [hll] at h9
            exact h9
          have hxz : zs[i]? = some x := by rwa [List.getElem?_take, if_pos hi] at hx
          match j, hu with
          | 0, hu =>
            have hux : u = .int .i64 x := by simpa [IntS.E] using hu.symm
            subst hux
            have := hcell i (by omega)
            rw [List.getD_eq_getElem?_getD, hxz] at this
            simpa [IntS.E] using this
          | j + 1, hu => simp [IntS.E] at hu
        · match j, hu with
          | 0, hu =>
            have : u = .slice (some a') len' cap' := by simpa [Row.E, hll] using hu.symm
            subst this
            rw [← hV]; simpa using hc
          | j + 1, hu => simp [Row.E] at hu
    obtain ⟨l, hl1, hl2⟩ := list_of_fn len0 (fun i x => (x.l.length ≤ maxLen ∧ Rd IntS.E w x.A x.l) ∧ ∀ j u, (Row.E.enc x)[j]? = some u → w.cell? (a.add (i * 1 + j)) = some u) hx
    subst hl1
    have hall : ∀ x ∈ l, x.l.length ≤ maxLen ∧ Rd IntS.E w x.A x.l := fun x hx => by
      obtain ⟨i, hi⟩ := List.mem_iff_getElem?.1 hx
      exact (hl2 i x hi).1
    refine ⟨l.map (·.l), some a, cap0, by simp, ⟨l, rfl, rd_of_add (E := Row.E) (fun i x hx => (hl2 i x hx).2), fun x hx => (hall x hx).2⟩, by simpa using hl, hm, fun m hm => ?_⟩
    obtain ⟨x, hx, rfl⟩ := List.mem_map.1 hm
    exact (hall x hx).1
end Go.Proofs.Ytfplgagdjdhopaa
