/- Jobs: the marks that the laws write into an argument's copy touch its own blocks alone. Conditions: none. -/
import Derived.Test.YtembbgkhmnalpaaJob
import Derived.Test.YtembbgkhmnalpaaText
import Derived.Test.YtembbgkhmnalpaaOwn
namespace Go.Proofs.Ytembbgkhmnalpaa
open Go.RowKit Go.ChangeShapes Go.WideShapes Go.Deep
set_option linter.unusedVariables false
set_option linter.unusedSimpArgs false

theorem sl_Wk : SlInf Try.prog Wk.E 70 74 := info_sl Try.underlying70 info_impl_Wk rfl rfl (by decide)
theorem Wk.bx {w : World} {b : Nat} {x : Wk} (h : Bx Wk.E w b x) : w.cell? ⟨b, 0, none⟩ = some (.string x.ce) ∧ w.cell? ⟨b, 1, none⟩ = some (.int .i64 x.mi) ∧ b < w.heap.size ∧ ∀ j, w.frozen? ⟨b, j, none⟩ = false := ⟨h.2.1 0 _ rfl, h.2.1 1 _ rfl, h.1, h.2.2⟩
def mkWk (q : Int) : Wk := ⟨mtext (q), q + 1⟩
def upWk (q : Int) (n : Nat) : List Wk := (List.range n).map fun (i : Nat) => mkWk (q + 2 * i)
theorem upWk_length (q : Int) (n : Nat) : (upWk q n).length = n := by simp [upWk]
theorem upWk_get {q : Int} {n j : Nat} (hj : j < n) : (upWk q n)[j]? = some (mkWk (q + 2 * j)) := by simp [upWk, List.getElem?_range hj]
theorem mkdWk {q : Int} {l : List Wk} {j : Nat} (hj : j < l.length) : setL (flat Wk.E (upWk q j ++ l.drop j)) (j * 2) (Wk.E.enc (mkWk (q + 2 * j))) = flat Wk.E (upWk q (j + 1) ++ l.drop (j + 1)) := by
  have h1 : (flat Wk.E (upWk q j)).length = j * 2 := by rw [flat_length, upWk_length]; rfl
  have h2 : l.drop j = [l[j]] ++ l.drop (j + 1) := by rw [List.drop_eq_getElem_cons hj]; rfl
  have h3 : flat Wk.E [l[j]] = Wk.E.enc l[j] := by simp [flat]
  have h4 : upWk q (j + 1) = upWk q j ++ [mkWk (q + 2 * j)] := by simp [upWk, List.range_succ]
  have h5 : flat Wk.E [mkWk (q + 2 * j)] = Wk.E.enc (mkWk (q + 2 * j)) := by simp [flat]
  rw [flat_append, ← h1, setL_app _ _ _ (by rw [h2, flat_append, List.length_append, h3, Wk.E.len, Wk.E.len]; omega), h4, flat_append, flat_append, h5, h2, flat_append, h3, Wk.E.len, ← Wk.E.len l[j], List.drop_left]

set_option maxHeartbeats 2000000 in
theorem markWorkS_any (l : List Wk) (base : Nat) (A : Option Addr) (c : Nat) (k : Int) (w : World) (h : Own Wk.E 74 w base (.slice A l.length c) l) (h0 : 0 ≤ k) (hk : k ≤ 1073741824) (hn : l.length ≤ 4194304) :
    Calls Try.prog 48 #[.slice A l.length c, .int .i64 k] w fun e w' => e = .returned (.int .i64 (k + 2 * l.length)) ∧
      Own Wk.E 74 w' base (.slice A l.length c) (upWk k l.length) ∧ w.grownBy w' (Value.ownBlock (.slice A l.length c)) := by
  have H := Lib.hid h
  rcases Nat.eq_zero_or_pos l.length with hl0 | hl0
  · obtain rfl : l = [] := List.eq_nil_of_length_eq_zero hl0
    clear h hl0 hn
    go_enter Try.func48, Try.ntmps48
    go_wp2_with fail
    go_loopw [1, 5] (fun t i wr => i = .int .i64 0 ∧ t = .int .i64 k ∧ wr = w) (fun _ _ _ => 0)
    case atStart => exact ⟨rfl, rfl, rfl⟩
    case round =>
      obtain ⟨rfl, rfl, rfl⟩ := hrel
      go_wp2_with fail
      go_ret
      go_light
      exact ⟨ret_int (by simp), H.out, World.grownBy.refl _ _⟩
  obtain ⟨g, cap, hv, _, hg0⟩ := h.form hl0
  simp only [Value.slice.injEq] at hv
  obtain ⟨rfl, _, rfl⟩ := hv
  clear h
  go_enter Try.func48, Try.ntmps48
  go_wp2_with fail
  go_loopw [1, 5] (fun t i wr => ∃ j : Nat, j ≤ l.length ∧ i = .int .i64 j ∧ t = .int .i64 (k + 2 * j) ∧ wr.ownsRow base 74 2 (.slice (some ⟨g, 0, none⟩) l.length c) l.length (flat Wk.E (upWk k j ++ l.drop j)) ∧ w.grownBy wr (some g)) (fun _ i _ => l.length - (intOf i).toNat)
  case atStart => exact ⟨0, Nat.zero_le _, rfl, by simp, by rw [show upWk k 0 ++ l.drop 0 = l by simp [upWk]]; exact H.out, World.grownBy.refl _ _⟩
  case round =>
    obtain ⟨j, hj, rfl, rfl, hown, hgr⟩ := hrel
    have HO := Lib.hid hown
    have HG := Lib.hid hgr
    clear hown hgr
    by_cases hlt : j < l.length
    · have HE := Lib.hid (mkdWk (q := k) hlt)
      have hln : (flat Wk.E (upWk k j ++ l.drop j)).length = l.length * 2 := HO.out.1
      have HLN := Lib.hid hln
      have hjk : (j + 1) * 2 ≤ l.length * 2 := Nat.mul_le_mul_right _ hlt
      have HJK := Lib.hid hjk
      clear hln hjk
      obtain ⟨q, hq⟩ : ∃ q : Int, q = k + 2 * (j : Int) := ⟨_, rfl⟩
      have hq0 : 0 ≤ q := by omega
      have hq1 : q ≤ 1099000000000 := by omega
      have HQ := Lib.hid hq
      rw [← hq] at HE ⊢
      clear hq

      go_wp2_with fail
      refine (markText_any _ _ (by omega)).mono ?_; rintro e w0 ⟨rfl, h0⟩
      have HO0 := Lib.hid (ownsRow_grew (HO.out) h0)
      have HG0 := Lib.hid ((HG.out).trans (h0.by_ (some g)))
      clear h0
      have hccs0 : ∀ j2, j2 < 2 → ∃ u, w0.cell? ⟨g, j * 2 + j2, none⟩ = some u := fun j2 hj2 => by rw [HO0.out.cellAt (j * 2 + j2) (by have := HJK.out; omega)]; exact ⟨_, List.getElem?_eq_getElem (by have := HO0.out.1; have := HJK.out; omega)⟩
      obtain ⟨us0_0, hus0_0⟩ := hccs0 0 (by decide)
      simp only [Nat.add_zero] at hus0_0
      obtain ⟨us0_1, hus0_1⟩ := hccs0 1 (by decide)
      have hfs0 : ∀ j2, w0.frozen? ⟨g, j2, none⟩ = false := fun j2 => HO0.out.frozenAt j2
      clear hccs0
      go_wp2_with fail
      go_roundw
      case rel =>
        go_light
        refine ⟨j + 1, by omega, by go_num, by rw [HQ.out]; congr 1; push_cast; omega, ?_, ((HG0.out).trans ((HO0.out).stored _ _).2).trans ((((HO0.out).stored _ _).1).stored _ _).2⟩
        rw [← HE.out]
        exact ((((HO0.out).stored _ _).1).stored _ _).1
      case measure => go_light; simp [intOf]; omega
    · obtain rfl : j = l.length := by omega
      go_wp2_with fail
      go_ret
      go_light
      refine ⟨rfl, ?_, HG.out⟩
      have := HO.out
      rw [List.drop_length, List.append_nil] at this
      unfold Own
      rw [upWk_length]
      exact this

/-- Of what w has, only the blocks from lo on and below hi may have changed. -/
def Touch (w w' : World) (lo hi : Nat) : Prop :=
  w'.os = w.os ∧ w'.tape = w.tape ∧ w'.output = w.output ∧ w.heap.size ≤ w'.heap.size ∧ ∀ j, j < w.heap.size → (j < lo ∨ hi ≤ j) → w'.heap[j]? = w.heap[j]?
theorem Touch.refl (w : World) (lo hi : Nat) : Touch w w lo hi := ⟨rfl, rfl, rfl, Nat.le_refl _, fun _ _ _ => rfl⟩
theorem Touch.by_ {w w' w'' : World} {lo hi g : Nat} (h : Touch w w' lo hi) (k : w'.grownBy w'' (some g)) (h1 : lo ≤ g) (h2 : g < hi) : Touch w w'' lo hi :=
  ⟨k.os.trans h.1, k.tape.trans h.2.1, k.output.trans h.2.2.1, Nat.le_trans h.2.2.2.1 k.size, fun j hj hr => (k.block j (Nat.lt_of_lt_of_le hj h.2.2.2.1) (fun e => by injection e with e; omega)).trans (h.2.2.2.2 j hj hr)⟩
theorem Touch.grew {a w w' : World} {lo hi : Nat} (h : Touch w w' lo hi) (g : Grew a w) (hb : a.heap.size ≤ lo) : Grew a w' :=
  ⟨h.1.trans g.os, h.2.1.trans g.tape, h.2.2.1.trans g.output, Nat.le_trans g.size h.2.2.2.1, fun j hj => (h.2.2.2.2 j (Nat.lt_of_lt_of_le hj g.size) (.inl (by omega))).trans (g.block j hj)⟩
theorem Own.kept3 {T : Type} {E : Enc T} {t : TypeId} {w w' : World} {base lo hi : Nat} {v : Value} {l : List T} (h : Own E t w base v l) (k : Touch w w' lo hi) (hb : hi ≤ base) : Own E t w' base v l := by
  refine ⟨h.1, ?_⟩
  rcases h.2 with h0 | ⟨g, cap, cur, e, h1, h2, r⟩
  · exact .inl h0
  · exact .inr ⟨g, cap, cur, e, h1, (k.2.2.2.2 g (Array.getElem?_eq_some_iff.1 h2).1 (.inr (by omega))).trans h2, r⟩
theorem set_by (w : World) (b j : Nat) (u : Value) : w.grownBy (w.setCell ⟨b, j, none⟩ u) (some b) := ⟨rfl, rfl, rfl, by simp, fun k _ hk => heap_setCell_other w ⟨b, j, none⟩ k u (fun e => hk (by rw [e]))⟩
theorem setL_mid {T : Type} (a b : List T) (x y : T) : (a ++ x :: b).set a.length y = a ++ y :: b := by simp
set_option maxHeartbeats 2000000 in
theorem markWorkS_nil (A : Option Addr) (c : Nat) (k : Int) (w : World) (hk : k ≤ 1073741824) :
    Calls Try.prog 48 #[.slice A 0 c, .int .i64 k] w fun e w' => e = .returned (.int .i64 k) ∧ w' = w := by
  go_enter Try.func48, Try.ntmps48
  go_wp2_with fail
  go_loopw [1, 5] (fun t i wr => i = .int .i64 0 ∧ t = .int .i64 k ∧ wr = w) (fun _ _ _ => 0)
  case atStart => exact ⟨rfl, rfl, rfl⟩
  case round =>
    obtain ⟨rfl, rfl, rfl⟩ := hrel
    go_wp2_with fail
    go_ret
    go_light
    exact ⟨rfl, rfl⟩
set_option maxHeartbeats 4000000 in
theorem markJobS_any (L : List Jb) (base : Nat) (A : Option Addr) (c : Nat) (wx w : World) (h : OwnJ wx base (.slice A L.length c) L) (g : Grew wx w) (hn : L.length ≤ 1048576) (hr : (∀ x ∈ L, x.st.length ≤ 1048576) ∧ L.length + totJ L L.length ≤ 1048576) :
    Calls Try.prog 25 #[.slice A L.length c, .int .i64 1] w fun e w' => e = .returned (.int .i64 (1 + 2 * (L.length : Int) + 2 * (totJ L L.length : Int))) ∧ True ∧
      Touch w w' base wx.heap.size ∧ ∀ a : World, Grew a w → a.heap.size ≤ base → Grew a w' := by
  obtain ⟨rs, hrs, ho, hrow, hpw, hvb⟩ := h
  have hlen : rs.length = L.length := by rw [← hrs, List.length_map]
  have HRS := Lib.hid hrs
  have HLEN := Lib.hid hlen
  have HO := Lib.hid ho
  have HROW := Lib.hid hrow
  have HPW := Lib.hid hpw
  have HR := Lib.hid hr
  have HG := Lib.hid g
  clear hrs ho hrow hpw hr g hlen
  go_enter Try.func25, Try.ntmps25
  go_wp2_with fail
  go_loopw [1, 5] (fun t i wr => ∃ (k : Nat) (ms : List Jr), k ≤ L.length ∧ i = .int .i64 k ∧ t = .int .i64 (1 + 2 * (k : Int) + 2 * (totJ L k : Int)) ∧ ms.length = L.length ∧ (∀ j, k ≤ j → ms[j]? = rs[j]?) ∧ Own Jr.E 72 wr base (.slice A L.length c) ms ∧ (∀ j, k ≤ j → ∀ x, rs[j]? = some x → Own Wk.E 74 wr (base + 1) (.slice x.A x.l.length x.c) x.l) ∧ Touch w wr base wx.heap.size) (fun _ i _ => L.length - (intOf i).toNat)
  case atStart => exact ⟨0, rs, Nat.zero_le _, rfl, by simp [totJ], HLEN.out, fun _ _ => rfl, HO.out.grew HG.out, fun j _ x hx => (HROW.out x (List.mem_of_getElem? hx)).grew HG.out, Touch.refl _ _ _⟩
  case round =>
    obtain ⟨k, ms, hk, rfl, rfl, hml, hms, hown, hrows, htc⟩ := hrel
    have HML := Lib.hid hml
    have HMS := Lib.hid hms
    have HOW := Lib.hid hown
    have HRW := Lib.hid hrows
    have HT := Lib.hid htc
    clear hown hrows htc hml hms
    by_cases hlt : k < L.length
    · obtain ⟨x, hx⟩ : ∃ x, rs[k]? = some x := ⟨_, List.getElem?_eq_getElem (by rw [HLEN.out]; exact hlt)⟩
      have hmx : ms[k]? = some x := (HMS.out k (Nat.le_refl _)).trans hx
      have hm : L[k]? = some x.j := by rw [← HRS.out, List.getElem?_map, hx]; rfl
      have hxl := HR.out.1 _ (List.mem_of_getElem? hm)
      have hxl2 : x.l.length ≤ 1048576 := hxl
      have HTS := Lib.hid (show totJ L (k + 1) = totJ L k + x.l.length from totJ_step hm)
      have htb : totJ L (k + 1) ≤ totJ L L.length := totJ_le (by omega)
      have htl := HR.out.2
      obtain ⟨gb, gd, hv, hgb0, hgb1⟩ := HOW.out.addr (by rw [HML.out]; omega)
      rw [HML.out] at hv
      simp only [Value.slice.injEq, true_and] at hv
      obtain ⟨rfl, rfl⟩ := hv
      obtain rfl : gb = base := hvb gb rfl
      have hc0 := HOW.out.at_ (j := 0) hmx rfl
      have hc1 := HOW.out.at_ (j := 1) hmx rfl
      have hc2 := HOW.out.at_ (j := 2) hmx rfl
      have hfz := HOW.out.frozen
      simp only [Jr.E, Nat.add_zero] at hc0 hc1 hc2
      have HX := Lib.hid hx
      have HMX := Lib.hid hmx
      have HXO := Lib.hid (HRW.out k (Nat.le_refl _) x hx)
      have hb1 := (HO.out.block gb rfl).2
      rw [HTS.out] at htb
      clear hx hm hmx hxl
      obtain ⟨tk, htk⟩ : ∃ tk, tk = totJ L k := ⟨_, rfl⟩
      rw [← htk] at HTS htb ⊢
      clear htk
      have htk2 : tk + L.length ≤ 1048576 := by omega
      have hi1 : (k : Int) < (L.length : Int) := by omega
      have hi2 : 1 + 2 * (k : Int) + 2 * (tk : Int) ≤ 1073741800 := by omega
      obtain ⟨q, hq⟩ : ∃ q : Int, q = 1 + 2 * (k : Int) + 2 * (tk : Int) := ⟨_, rfl⟩
      have HQ := Lib.hid hq
      rw [← hq] at hi2 ⊢
      have hq0 : 0 ≤ q := by omega
      clear hq htb htl
      have h1 := HOW.out.set_ (x' := { x with rl := q }) (j := 0) (u := .int .i64 q) HMX.out rfl (by decide)
      have hm1 : (ms.set k { x with rl := q })[k]? = some { x with rl := q } := by rw [List.getElem?_set_self (by have := HML.out; omega)]
      have h2 := h1.set_ (x' := { x with rl := q, du := q + 1 }) (j := 1) (u := .int .i64 (q + 1)) hm1 rfl (by decide)
      rw [List.set_set] at h2
      simp only [Jr.E, Nat.add_zero] at h2
      have HOW2 := Lib.hid h2
      have HT2 := Lib.hid (((HT.out.by_ (set_by _ gb (k * 3) (.int .i64 q)) (Nat.le_refl _) hb1)).by_ (set_by _ gb (k * 3 + 1) (.int .i64 (q + 1))) (Nat.le_refl _) hb1)
      have hne : ∀ j (x : Jr), rs[j]? = some x → (Value.slice x.A x.l.length x.c).ownBlock ≠ some gb := fun j y hy e => by have := (HROW.out y (List.mem_of_getElem? hy)).block gb e; omega
      have HRW2 := Lib.hid (show ∀ j, k ≤ j → ∀ y, rs[j]? = some y → Own Wk.E 74 ((wr.setCell ⟨gb, k * 3, none⟩ (.int .i64 q)).setCell ⟨gb, k * 3 + 1, none⟩ (.int .i64 (q + 1))) (gb + 1) (.slice y.A y.l.length y.c) y.l from fun j hj y hy => ((HRW.out j hj y hy).far (hne j y hy) _).far (hne j y hy) _)
      have hc2' : ((wr.setCell ⟨gb, k * 3, none⟩ (.int .i64 q)).setCell ⟨gb, k * 3 + 1, none⟩ (.int .i64 (q + 1))).cell? ⟨gb, k * 3 + 2, none⟩ = some (.slice x.A x.l.length x.c) := by simp [go_sem, hc2]
      clear h1 h2 hm1
      have HNMS := Lib.hid (show (ms.set k { x with rl := q, du := q + 1 }).length = L.length by rw [List.length_set]; exact HML.out)
      have HNJ := Lib.hid (show ∀ j, k + 1 ≤ j → (ms.set k { x with rl := q, du := q + 1 })[j]? = rs[j]? from fun j hj => by rw [List.getElem?_set_ne (by omega)]; exact HMS.out j (by omega))
      obtain ⟨xrl, xdu, xl, xA, xc⟩ := x
      simp only at *
      obtain ⟨w2, hw2⟩ : ∃ w2, w2 = (wr.setCell ⟨gb, k * 3, none⟩ (.int .i64 q)).setCell ⟨gb, k * 3 + 1, none⟩ (.int .i64 (q + 1)) := ⟨_, rfl⟩
      rcases Nat.eq_zero_or_pos xl.length with hl0 | hl0
      · obtain rfl : xl = [] := List.eq_nil_of_length_eq_zero hl0
        go_wp2_with fail
        refine (markWorkS_nil xA xc _ _ (by omega)).mono ?_; rintro e w' ⟨rfl, rfl⟩
        go_wp2_with fail
        go_roundw
        case rel => go_light; exact ⟨k + 1, _, by omega, by go_num, by rw [HTS.out]; congr 1; have := HQ.out; push_cast; omega, HNMS.out, HNJ.out, HOW2.out, fun j hj y hy => HRW2.out j (by omega) y hy, HT2.out⟩
        case measure => go_light; simp [intOf]; omega
      · have HXO2 := Lib.hid (HRW2.out k (Nat.le_refl _) _ HX.out)
        obtain ⟨g2, d2, hv2, hg20, hg21⟩ := HXO.out.addr hl0
        simp only [Value.slice.injEq, true_and] at hv2
        obtain ⟨rfl, rfl⟩ := hv2
        have hg2 : g2 < wx.heap.size := ((HROW.out _ (List.mem_of_getElem? HX.out)).block g2 rfl).2
        go_wp2_with fail
        refine (markWorkS_any xl (gb + 1) _ xc _ _ HXO2.out (by omega) (by omega) (by omega)).mono ?_; rintro e w' ⟨rfl, ho', hgr⟩
        have HN := Lib.hid (HOW2.out.kept hgr (.inr (by intro e; simp [Value.ownBlock] at e; omega)))
        have HRN := Lib.hid (show ∀ j, k + 1 ≤ j → ∀ x, rs[j]? = some x → Own Wk.E 74 w' (gb + 1) (.slice x.A x.l.length x.c) x.l from fun j hj x hx => by
          refine (HRW2.out j (by omega) x hx).kept hgr ?_
          cases hob : (Value.slice x.A x.l.length x.c).ownBlock with
          | none => exact .inl rfl
          | some q =>
            refine .inr fun e => ?_
            injection e with e
            subst e
            have h9 := List.pairwise_iff_getElem.1 HPW.out k j (List.getElem?_eq_some_iff.1 HX.out).1 (List.getElem?_eq_some_iff.1 hx).1 (by omega)
            rw [(List.getElem?_eq_some_iff.1 HX.out).2, (List.getElem?_eq_some_iff.1 hx).2] at h9
            exact h9 q rfl hob)
        have HTN := Lib.hid (HT2.out.by_ hgr (show gb ≤ g2 by omega) hg2)
        clear ho' hgr
        go_wp2_with fail
        go_roundw
        case rel => go_light; exact ⟨k + 1, _, by omega, by go_num, by rw [HTS.out]; congr 1; have := HQ.out; push_cast; omega, HNMS.out, HNJ.out, HN.out, HRN.out, HTN.out⟩
        case measure => go_light; simp [intOf]; omega
    · obtain rfl : k = L.length := by omega
      go_wp2_with fail
      go_ret
      go_light
      exact ⟨rfl, trivial, HT.out, fun a ha hle => HT.out.grew ha hle⟩
end Go.Proofs.Ytembbgkhmnalpaa
