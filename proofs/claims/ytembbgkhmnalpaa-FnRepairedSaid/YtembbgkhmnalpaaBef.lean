/- What the rules of dispatching prefer: the program's 'before' and the reference's keys. Conditions: none. -/
import Derived.Test.YtembbgkhmnalpaaSch
import Derived.Test.YtembbgkhmnalpaaInts
namespace Go.Proofs.Ytembbgkhmnalpaa
open Go.RowKit Go.ChangeShapes Go.WideShapes Go.Deep
set_option linter.unusedVariables false
set_option linter.unusedSimpArgs false

theorem Rd.drop_at {T : Type} {E : Enc T} {w : World} {b o o' : Nat} {l : List T} {k c : Nat} (h : Rd E w (some ⟨b, o, none⟩) l) (ho : o' = o + k * E.sz) (hc : l.length ≤ c) : Rd E w (if c = k then some ⟨b, o, none⟩ else some ⟨b, o', none⟩) (l.drop k) := by
  subst ho
  intro hl
  rw [List.length_drop] at hl
  rw [if_neg (by omega)]
  exact Rd.drop (k := k) h (fun _ => rfl) (by rw [List.length_drop]; exact hl)
theorem sl_Int : SlInf Try.prog IntS.E 69 3 := info_sl Try.underlying69 info_int rfl rfl (by decide)

/-- The minutes of the first k steps. -/
def wsum (l : List Wk) : Nat → Int
  | 0 => 0
  | k + 1 => wsum l k + (l.getD k wk0).mi
def lf (l : List Wk) (s : Nat) : Int := wsum (l.drop s) (l.length - s)
def keyF (x : Jb) (s : Nat) (r : Int) : Int := if r = 0 then x.du else if r = 1 then (x.st.getD s wk0).mi else -(lf x.st s)
/-- Steps of a job that is right. -/
def StOk (l : List Wk) : Prop := l.length ≤ 5 ∧ ∀ (k : Nat) (y : Wk), l[k]? = some y → 1 ≤ y.mi ∧ y.mi ≤ 1000 ∧ codeB y.ce = true
theorem wsum_b {l : List Wk} (h : ∀ (k : Nat) (y : Wk), l[k]? = some y → 1 ≤ y.mi ∧ y.mi ≤ 1000) : ∀ k, k ≤ l.length → 0 ≤ wsum l k ∧ wsum l k ≤ 1000 * (k : Int)
  | 0, _ => by simp [wsum]
  | k + 1, hk => by
    have ih := wsum_b h k (by omega)
    obtain ⟨y, hy⟩ : ∃ y, l[k]? = some y := ⟨_, List.getElem?_eq_getElem (by omega)⟩
    have h1 := h k y hy
    have e : l.getD k wk0 = y := by simp [List.getD_eq_getElem?_getD, hy]
    simp only [wsum, e]
    push_cast
    omega
theorem StOk.drop {l : List Wk} (h : StOk l) (s : Nat) : ∀ (k : Nat) (y : Wk), (l.drop s)[k]? = some y → 1 ≤ y.mi ∧ y.mi ≤ 1000 := fun k y hy => by
  rw [List.getElem?_drop] at hy
  have := h.2 _ y hy
  omega
theorem lf_b {l : List Wk} (h : StOk l) (s : Nat) : 0 ≤ lf l s ∧ lf l s ≤ 5000 := by
  have h1 := wsum_b (h.drop s) (l.length - s) (by rw [List.length_drop]; omega)
  have h2 := h.1
  unfold lf
  omega
theorem wsum_drop (l : List Wk) (s k : Nat) : wsum (l.drop s) (k + 1) = wsum (l.drop s) k + (l.getD (s + k) wk0).mi := by
  simp [wsum, List.getD_eq_getElem?_getD, List.getElem?_drop]
theorem areJ_at {J : List Jb} (h : areJ J = true) : J.length ≤ 6 ∧ ∀ (i : Nat) (x : Jb), J[i]? = some x → (0 ≤ x.rl ∧ x.rl ≤ 100000) ∧ (0 ≤ x.du ∧ x.du ≤ 100000) ∧ StOk x.st := by
  simp only [areJ, Bool.and_eq_true, allTo_iff, decide_eq_true_eq] at h
  refine ⟨h.2, fun i x hx => ?_⟩
  have h1 := h.1 i (List.getElem?_eq_some_iff.1 hx).1
  simp only [jobOk, List.getD_eq_getElem?_getD, hx, Option.getD_some, jobB, Bool.and_eq_true, inB_iff, decide_eq_true_eq, allTo_iff] at h1
  refine ⟨h1.1.1.1, h1.1.1.2, h1.1.2, fun k y hy => ?_⟩
  have h2 := h1.2 k (List.getElem?_eq_some_iff.1 hy).1
  simp only [wkOk, List.getD_eq_getElem?_getD, hy, Option.getD_some, wkB, Bool.and_eq_true, inB_iff] at h2
  exact ⟨h2.2.1, h2.2.2, h2.1⟩

set_option maxRecDepth 100000 in
set_option maxHeartbeats 4000000 in
theorem l22Left_any (x : Jr) (s : Nat) (w : World) (h : Rd Wk.E w x.A x.l) (hk : StOk x.l) (hs : s ≤ x.l.length) :
    Calls Try.prog 58 #[x.v, .int .i64 s] w fun e w' => e = .returned (.int .i64 (lf x.l s)) ∧ Grew w w' := by
  obtain ⟨rl, du, l, A, c⟩ := x
  simp only at *
  have H := Lib.hid h
  have HK := Lib.hid hk
  have h5 := hk.1
  have HWB := Lib.hid (wsum_b (hk.drop s))
  have HF := Lib.hid (show lf l s = wsum (l.drop s) (l.length - s) from rfl)
  clear h hk
  go_enter Try.func58, Try.ntmps58
  go_wp2_with fail
  go_loopw [5, 6] (fun n i wr => ∃ k : Nat, s + k ≤ l.length ∧ i = .int .i64 ((s + k : Nat) : Int) ∧ n = .int .i64 (wsum (l.drop s) k) ∧ wr = w.alloc (.cells #[.int .i64 rl, .int .i64 du, .slice A l.length c] 72)) (fun _ i _ => l.length - (intOf i).toNat)
  case atStart => exact ⟨0, by omega, rfl, rfl, rfl⟩
  case round =>
    obtain ⟨k, hk, rfl, rfl, rfl⟩ := hrel
    by_cases hlt : s + k < l.length
    · obtain ⟨y, hy⟩ : ∃ y, l[s + k]? = some y := ⟨_, List.getElem?_eq_getElem hlt⟩
      obtain ⟨b, o, rfl, hb, hc⟩ := (H.out.grew ((Grew.refl _).alloc (.cells #[.int .i64 rl, .int .i64 du, .slice A l.length c] 72))).at_ hlt
      obtain ⟨hc0, hc1⟩ := Wk.at_ hc hy
      have hw := HWB.out k (by rw [List.length_drop]; omega)
      have hyb := HK.out.2 _ y hy
      have HS := Lib.hid (show wsum (l.drop s) (k + 1) = wsum (l.drop s) k + y.mi by rw [wsum_drop]; simp [List.getD_eq_getElem?_getD, hy])
      obtain ⟨i, hi⟩ : ∃ i, i = s + k := ⟨_, rfl⟩
      rw [← hi] at hlt hc0 hc1 ⊢
      have HI := Lib.hid hi
      have hi1 : (i : Int) < (l.length : Int) := by omega
      have hk5 : k ≤ 5 := by omega
      clear hy hc hi
      generalize wsum (l.drop s) k = sk at *
      obtain ⟨hyb1, hyb2, _⟩ := hyb
      go_wp2_with fail
      go_roundw
      case rel => go_light; exact ⟨k + 1, by have := HI.out; omega, congrArg (Value.int .i64) (by have := HI.out; push_cast; omega), by rw [HS.out], by first | rfl | trivial⟩
      case measure => go_light; simp [intOf]; omega
    · have hlk : l.length = s + k := by omega
      have hi1 : ¬ (((s + k : Nat) : Int) < (l.length : Int)) := by omega
      have HE := Lib.hid (show lf l s = wsum (l.drop s) k by rw [HF.out]; congr 1; omega)
      clear hlk
      obtain ⟨i, hi⟩ : ∃ i, i = s + k := ⟨_, rfl⟩
      rw [← hi] at hi1 ⊢
      clear hi
      go_wp2_with fail
      go_ret
      go_light
      exact ⟨ret_int HE.out.symm, (Grew.refl _).alloc _⟩

set_option maxRecDepth 100000 in
set_option maxHeartbeats 4000000 in
theorem l22Key_any (x : Jr) (s : Nat) (r : Int) (w : World) (h : Rd Wk.E w x.A x.l) (hk : StOk x.l) (hs : s < x.l.length) :
    Calls Try.prog 43 #[x.v, .int .i64 s, .int .i64 r] w fun e w' => e = .returned (.int .i64 (keyF x.j s r)) ∧ Grew w w' := by
  obtain ⟨rl, du, l, A, c⟩ := x
  simp only at *
  have H := Lib.hid h
  have HK := Lib.hid hk
  obtain ⟨y, hy⟩ : ∃ y, l[s]? = some y := ⟨_, List.getElem?_eq_getElem hs⟩
  obtain ⟨b, o, rfl, hb, hc⟩ := (h.grew ((Grew.refl w).alloc (.cells #[.int .i64 rl, .int .i64 du, .slice A l.length c] 72))).at_ hs
  obtain ⟨hc0, hc1⟩ := Wk.at_ hc hy
  have HF := Lib.hid (show keyF (Jr.j ⟨rl, du, l, some ⟨b, o, none⟩, c⟩) s r = if r = 0 then du else if r = 1 then y.mi else -(lf l s) by simp [keyF, Jr.j, List.getD_eq_getElem?_getD, hy])
  have hlf := lf_b hk s
  clear h hk hy hc
  go_enter Try.func43, Try.ntmps43
  by_cases h0 : r = 0
  · subst h0
    go_wp2_with fail
    go_ret
    go_light
    exact ⟨ret_int (by rw [HF.out]; rfl), (Grew.refl _).alloc _⟩
  by_cases h1 : r = 1
  · subst h1
    go_wp2_with fail
    go_ret
    go_light
    exact ⟨ret_int (by rw [HF.out]; rfl), (Grew.refl _).alloc _⟩
  have e0 : (r == 0) = false := by simp [h0]
  have e1 : (r == 1) = false := by simp [h1]
  go_wp2_with fail
  refine (l22Left_any ⟨rl, du, l, some ⟨b, o, none⟩, c⟩ s _ (H.out.grew ((Grew.refl _).alloc _)) HK.out (Nat.le_of_lt hs)).mono ?_; rintro e w1 ⟨rfl, hg⟩
  go_wp2_with fail
  go_ret
  go_light
  exact ⟨ret_int (by rw [HF.out, if_neg h0, if_neg h1]), ((Grew.refl _).alloc _).trans hg⟩

set_option maxRecDepth 100000 in
set_option maxHeartbeats 4000000 in
theorem left_any (J : List Jb) (A : Option Addr) (c : Nat) (nx : List Int) (B : Option Addr) (d : Nat) (a : Nat) (x : Jb) (s : Nat) (p q : Nat) (w : World) (h : RdJ w A J) (h' : Rd IntS.E w B nx) (hn : J.length ≤ 6) (hx : J[a]? = some x) (hs : nx[a]? = some (s : Int)) (hk : StOk x.st) (hsl : s < x.st.length)
    (hp : w.cell? ⟨p, 0, none⟩ = some (.slice A J.length c)) (hq : w.cell? ⟨q, 0, none⟩ = some (.slice B nx.length d)) :
    Calls Try.prog 60 #[.int .i64 a, .pointer (some ⟨p, 0, none⟩), .pointer (some ⟨q, 0, none⟩)] w fun e w' => e = .returned (.int .i64 (lf x.st s)) ∧ Grew w w' := by
  have ha := (List.getElem?_eq_some_iff.1 hx).1
  have hb := (List.getElem?_eq_some_iff.1 hs).1
  obtain ⟨b1, o1, X, cx, rfl, hb1, ⟨hc0, hc1, hc2⟩, hrx, hcx⟩ := h.at2_ hx
  obtain ⟨b2, o2, rfl, hb2, hcn⟩ := h'.at_ hb
  have hcs := IntS.at_ hcn hs
  obtain ⟨rl, du, l⟩ := x
  simp only at *
  obtain ⟨b3, o3, rfl, hb3, _⟩ := hrx.at_ hsl
  have HK := Lib.hid hk
  have h5 := hk.1
  have HWB := Lib.hid (wsum_b (hk.drop s))
  have HF := Lib.hid (show lf l s = wsum (l.drop s) (l.length - s) from rfl)
  have HD := Lib.hid (show Rd Wk.E w (some ⟨b3, o3 + s * 2, none⟩) (l.drop s) from Rd.drop (k := s) hrx (fun _ => rfl))
  have HDL := Lib.hid (show (l.drop s).length = l.length - s from List.length_drop)
  have hi1 : (a : Int) < (J.length : Int) := by omega
  have hi2 : (a : Int) < (nx.length : Int) := by omega
  have hi3 : (s : Int) ≤ (l.length : Int) := by omega
  have hi4 : (l.length : Int) ≤ (cx : Int) := by omega
  have hi5 : s ≤ l.length := by omega
  have hi6 : (s : Int) ≤ (cx : Int) := by omega
  clear h h' hk hx hs hcn hrx
  go_enter Try.func60, Try.ntmps60
  go_wp2_with fail
  go_region
  go_wp2_with fail
  have hle : l.length - s ≤ 5 := by omega
  obtain ⟨m, hm⟩ : ∃ m, m = l.length - s := ⟨_, rfl⟩
  rw [← hm] at HF HDL hle ⊢
  clear hm
  go_loopw [5, 19] (fun n i wr => ∃ k : Nat, k ≤ m ∧ i = .int .i64 k ∧ n = .int .i64 (wsum (l.drop s) k) ∧ Grew w wr) (fun _ i _ => m - (intOf i).toNat)
  case atStart => exact ⟨0, by omega, rfl, rfl, (Grew.refl _).drew⟩
  case round =>
    obtain ⟨k, hk, rfl, rfl, hg⟩ := hrel
    have HG := Lib.hid hg
    clear hg
    by_cases hlt : k < m
    · obtain ⟨y, hy⟩ : ∃ y, (l.drop s)[k]? = some y := ⟨_, List.getElem?_eq_getElem (by rw [HDL.out]; exact hlt)⟩
      obtain ⟨b, o, e, hb, hc⟩ := (HD.out.grew HG.out).at_ (k := k) (by rw [HDL.out]; exact hlt)
      simp only [Option.some.injEq, Addr.mk.injEq, and_true] at e
      obtain ⟨rfl, rfl⟩ := e
      obtain ⟨hd0, hd1⟩ := Wk.at_ hc hy
      have hw := HWB.out k (by rw [HDL.out]; omega)
      have hyb := HK.out.drop s k y hy
      have HS := Lib.hid (show wsum (l.drop s) (k + 1) = wsum (l.drop s) k + y.mi by simp [wsum, List.getD_eq_getElem?_getD, hy])
      obtain ⟨hyb1, hyb2⟩ := hyb
      clear hy hc
      generalize wsum (l.drop s) k = sk at *
      obtain ⟨ce, mi⟩ := y
      simp only at *
      go_wp2_with fail
      go_roundw
      case rel => go_light; exact ⟨k + 1, by omega, by go_num, by rw [HS.out], HG.out.alloc _⟩
      case measure => go_light; simp [intOf]; omega
    · obtain rfl : k = m := by omega
      go_wp2_with fail
      go_ret
      go_light
      exact ⟨ret_int HF.out.symm, HG.out⟩

set_option maxRecDepth 100000 in
set_option maxHeartbeats 4000000 in
theorem before_any (J : List Jb) (A : Option Addr) (c : Nat) (nx : List Int) (B : Option Addr) (d : Nat) (a b : Nat) (x y : Jb) (s t : Nat) (r : Int) (w : World) (h : RdJ w A J) (h' : Rd IntS.E w B nx) (hn : J.length ≤ 6)
    (hx : J[a]? = some x) (hs : nx[a]? = some (s : Int)) (hk : StOk x.st) (hsl : s < x.st.length) (hy : J[b]? = some y) (ht : nx[b]? = some (t : Int)) (hk' : StOk y.st) (htl : t < y.st.length) :
    Calls Try.prog 46 #[.slice A J.length c, .slice B nx.length d, .int .i64 r, .int .i64 a, .int .i64 b] w fun e w' => e = .returned (.bool (decide (keyF x s r < keyF y t r))) ∧ Grew w w' := by
  have HJ := Lib.hid h
  have HN := Lib.hid h'
  have HX := Lib.hid hx
  have HY := Lib.hid hy
  have HS := Lib.hid hs
  have HT := Lib.hid ht
  have HK := Lib.hid hk
  have HK' := Lib.hid hk'
  have ha := (List.getElem?_eq_some_iff.1 hx).1
  have hb := (List.getElem?_eq_some_iff.1 hy).1
  have ha2 := (List.getElem?_eq_some_iff.1 hs).1
  have hb2 := (List.getElem?_eq_some_iff.1 ht).1
  have HG0 := Lib.hid (((Grew.refl w).alloc (.cells #[.slice A J.length c] 42)).alloc (.cells #[.slice B nx.length d] 69))
  have hlfx := lf_b hk s
  have hlfy := lf_b hk' t
  have hi1 : (a : Int) < (J.length : Int) := by omega
  have hi2 : (b : Int) < (J.length : Int) := by omega
  have hi3 : (a : Int) < (nx.length : Int) := by omega
  have hi4 : (b : Int) < (nx.length : Int) := by omega
  have hi5 : (s : Int) < (x.st.length : Int) := by omega
  have hi6 : (t : Int) < (y.st.length : Int) := by omega
  have hmf : ∀ (fn : Fn) (first cap : Array Value) (w : World), (Instr.makeFunc fn first cap).run Try.prog w = .ok (.func fn first cap) w := fun _ _ _ _ => rfl
  by_cases h0 : r = 0
  · subst h0
    have HF := Lib.hid (show decide (keyF x s 0 < keyF y t 0) = decide (x.du < y.du) from rfl)
    obtain ⟨b1, o1, X, cx, rfl, hb1, ⟨hc0, hc1, hc2⟩, _⟩ := (h.grew HG0.out).at_ hx
    obtain ⟨b1', o1', Y, cy, e, _, ⟨hd0, hd1, hd2⟩, _⟩ := (h.grew HG0.out).at_ hy
    simp only [Option.some.injEq, Addr.mk.injEq, and_true] at e
    obtain ⟨rfl, rfl⟩ := e
    clear h h' hx hy hs ht hk hk'
    go_enter Try.func46, Try.ntmps46
    go_wp2_with fail
    go_region
    go_wp2_with fail
    go_ret
    go_light
    exact ⟨ret_bool HF.out.symm, HG0.out.drew⟩
  by_cases h1 : r = 1
  · subst h1
    obtain ⟨u, hu⟩ : ∃ u, x.st[s]? = some u := ⟨_, List.getElem?_eq_getElem hsl⟩
    obtain ⟨v, hv⟩ : ∃ v, y.st[t]? = some v := ⟨_, List.getElem?_eq_getElem htl⟩
    have HF := Lib.hid (show decide (keyF x s 1 < keyF y t 1) = decide (u.mi < v.mi) by simp [keyF, List.getD_eq_getElem?_getD, hu, hv])
    obtain ⟨b1, o1, X, cx, rfl, hb1, ⟨hc0, hc1, hc2⟩, hrx⟩ := (h.grew HG0.out).at_ hx
    obtain ⟨b1', o1', Y, cy, e, _, ⟨hd0, hd1, hd2⟩, hry⟩ := (h.grew HG0.out).at_ hy
    simp only [Option.some.injEq, Addr.mk.injEq, and_true] at e
    obtain ⟨rfl, rfl⟩ := e
    obtain ⟨b2, o2, rfl, _, hcn⟩ := (h'.grew HG0.out).at_ ha2
    have hcs := IntS.at_ hcn hs
    have hct := IntS.at_ hcn ht
    obtain ⟨b3, o3, rfl, _, hcu⟩ := hrx.at_ hsl
    obtain ⟨hu0, hu1⟩ := Wk.at_ hcu hu
    obtain ⟨b4, o4, rfl, _, hcv⟩ := hry.at_ htl
    obtain ⟨hv0, hv1⟩ := Wk.at_ hcv hv
    clear h h' hx hy hs ht hk hk' hu hv hcn hrx hry hcu hcv
    go_enter Try.func46, Try.ntmps46
    go_wp2_with fail
    go_region
    go_wp2_with fail
    go_ret
    go_light
    exact ⟨ret_bool HF.out.symm, HG0.out.drew⟩
  have e0 : (r == 0) = false := by simp [h0]
  have e1 : (r == 1) = false := by simp [h1]
  have HF := Lib.hid (show decide (keyF x s r < keyF y t r) = decide (lf y.st t < lf x.st s) by
    simp only [keyF, if_neg h0, if_neg h1]
    exact decide_eq_decide.2 (by omega))
  clear h h' hx hy hs ht hk hk'
  go_enter Try.func46, Try.ntmps46
  go_wp2_with fail
  refine (left_any J A c nx B d a x s w.heap.size (w.heap.size + 1) _ (HJ.out.grew HG0.out) (HN.out.grew HG0.out) hn HX.out HS.out HK.out hsl (by simp [World.cell?_alloc_past]) (by simp)).mono ?_; rintro e w1 ⟨rfl, hg1⟩; have hz_w1_0 : w.heap.size < w1.heap.size := Nat.lt_of_lt_of_le (by first | (simp +arith; done) | (simp; omega) | omega) hg1.le; have hb_w1_0 := fun o => hg1.rules.1 w.heap.size o (by first | (simp +arith; done) | (simp; omega) | omega); have hf_w1_0 := fun o => hg1.rules.2 w.heap.size o (by first | (simp +arith; done) | (simp; omega) | omega); (try simp [World.cell?_alloc_past, World.frozen?_alloc_past, Nat.lt_add_right] at hb_w1_0 hf_w1_0); have hz_w1_1 : (w.heap.size + 1) < w1.heap.size := Nat.lt_of_lt_of_le (by first | (simp +arith; done) | (simp; omega) | omega) hg1.le; have hb_w1_1 := fun o => hg1.rules.1 (w.heap.size + 1) o (by first | (simp +arith; done) | (simp; omega) | omega); have hf_w1_1 := fun o => hg1.rules.2 (w.heap.size + 1) o (by first | (simp +arith; done) | (simp; omega) | omega); (try simp [World.cell?_alloc_past, World.frozen?_alloc_past, Nat.lt_add_right] at hb_w1_1 hf_w1_1)
  have HG1 := Lib.hid (HG0.out.trans hg1)
  have hp1 : w1.cell? ⟨w.heap.size, 0, none⟩ = some (.slice A J.length c) := hb_w1_0 0
  have hq1 : w1.cell? ⟨w.heap.size + 1, 0, none⟩ = some (.slice B nx.length d) := hb_w1_1 0
  clear hg1 hb_w1_0 hb_w1_1 hf_w1_0 hf_w1_1 hz_w1_0 hz_w1_1
  go_wp2_with fail
  refine (left_any J A c nx B d b y t w.heap.size (w.heap.size + 1) _ (HJ.out.grew HG1.out) (HN.out.grew HG1.out) hn HY.out HT.out HK'.out htl hp1 hq1).mono ?_; rintro e w2 ⟨rfl, hg2⟩
  go_wp2_with fail
  go_ret
  go_light
  exact ⟨ret_bool HF.out.symm, HG1.out.trans hg2⟩
end Go.Proofs.Ytembbgkhmnalpaa
