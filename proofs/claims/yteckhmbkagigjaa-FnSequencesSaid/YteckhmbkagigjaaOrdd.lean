/- The program's 'ordered': tasks' indices, stable by a comparison. Conditions: none. -/
import Derived.Test.YteckhmbkagigjaaSrtI
import Derived.Test.YteckhmbkagigjaaTask
import Derived.Deep.RegionHeld3
namespace Go.Proofs.Yteckhmbkagigjaa
open Go.RowKit Go.ChangeShapes Go.WideShapes Go.Deep
set_option linter.unusedVariables false
set_option linter.unusedSimpArgs false

def dueC (x y : Tsk) : Int := x.d - y.d
def wtC (x y : Tsk) : Int := x.m * y.wt - y.m * x.wt
theorem tskOk_at {x : Tsk} (h : tskOk x = true) : (1 ≤ x.m ∧ x.m ≤ 1000) ∧ (0 ≤ x.d ∧ x.d ≤ 100000) ∧ (1 ≤ x.wt ∧ x.wt ≤ 100) := by
  simp only [tskOk, Bool.and_eq_true, inB_iff] at h
  exact ⟨h.1.1, h.1.2, h.2⟩
theorem areT_at {l : List Tsk} (h : areT l = true) : l.length ≤ 8 ∧ ∀ (i : Nat) (x : Tsk), l[i]? = some x → tskOk x = true := by
  simp only [areT, Bool.and_eq_true, allTo_iff, decide_eq_true_eq] at h
  refine ⟨by omega, fun i x hx => ?_⟩
  have := h.1 i (List.getElem?_eq_some_iff.1 hx).1
  simpa [List.getD_eq_getElem?_getD, hx] using this
theorem mul_b {a b : Int} (h : 1 ≤ a ∧ a ≤ 1000) (k : 1 ≤ b ∧ b ≤ 100) : 0 ≤ a * b ∧ a * b ≤ 100000 := by
  refine ⟨Int.mul_nonneg (by omega) (by omega), ?_⟩
  have h1 : a * b ≤ 1000 * b := Int.mul_le_mul_of_nonneg_right h.2 (by omega)
  omega

set_option maxHeartbeats 1000000 in
theorem due_cmp (x y : Tsk) (w : World) (hx : tskOk x = true) (hy : tskOk y = true) :
    Calls Try.prog 46 #[x.v, y.v] w fun e w' => e = .returned (.int .i64 (dueC x y)) ∧ Grew w w' := by
  obtain ⟨_, h1, _⟩ := tskOk_at hx
  obtain ⟨_, h2, _⟩ := tskOk_at hy
  obtain ⟨m, d, wt⟩ := x
  obtain ⟨m', d', wt'⟩ := y
  simp only at h1 h2
  clear hx hy
  go_enter Try.func46, Try.ntmps46
  go_wp2_with fail
  go_ret
  go_light
  exact ⟨rfl, ((Grew.refl _).alloc _).alloc _⟩
set_option maxHeartbeats 1000000 in
theorem wt_cmp (x y : Tsk) (w : World) (hx : tskOk x = true) (hy : tskOk y = true) :
    Calls Try.prog 47 #[x.v, y.v] w fun e w' => e = .returned (.int .i64 (wtC x y)) ∧ Grew w w' := by
  obtain ⟨h1, _, h3⟩ := tskOk_at hx
  obtain ⟨k1, _, k3⟩ := tskOk_at hy
  have q1 := mul_b h1 k3
  have q2 := mul_b k1 h3
  obtain ⟨m, d, wt⟩ := x
  obtain ⟨m', d', wt'⟩ := y
  simp only at h1 h3 k1 k3 q1 q2
  clear hx hy
  go_enter Try.func47, Try.ntmps47
  go_wp2_with fail
  go_ret
  go_light
  exact ⟨rfl, ((Grew.refl _).alloc _).alloc _⟩

/-- The comparison of two indices by a comparison of their tasks. -/
def idxC (f : Tsk → Tsk → Int) (l : List Tsk) (a b : Int) : Int := f (l.getD a.toNat tsk0) (l.getD b.toNat tsk0)
set_option maxRecDepth 100000 in
set_option maxHeartbeats 4000000 in
theorem ordered1_dueC (l : List Tsk) (A : Option Addr) (c : Nat) (hl : areT l = true) (a b : Nat) (ha : a < l.length) (hb : b < l.length) (p q : Nat) (w : World) (h : Rd Tsk.E w A l)
    (hp : w.cell? ⟨p, 0, none⟩ = some (.func (.func 46) #[] #[])) (hq : w.cell? ⟨q, 0, none⟩ = some (.slice A l.length c)) :
    Calls Try.prog 53 #[.int .i64 a, .int .i64 b, .pointer (some ⟨p, 0, none⟩), .pointer (some ⟨q, 0, none⟩)] w fun e w' => e = .returned (.int .i64 (idxC dueC l a b)) ∧ Grew w w' := by
  have h8 := (areT_at hl).1
  obtain ⟨x, hx⟩ : ∃ x, l[a]? = some x := ⟨_, List.getElem?_eq_getElem ha⟩
  obtain ⟨y, hy⟩ : ∃ y, l[b]? = some y := ⟨_, List.getElem?_eq_getElem hb⟩
  have HV := Lib.hid (show idxC dueC l a b = dueC x y by simp [idxC, List.getD_eq_getElem?_getD, hx, hy])
  have HXO := Lib.hid ((areT_at hl).2 a x hx)
  have HYO := Lib.hid ((areT_at hl).2 b y hy)
  obtain ⟨bl, o, rfl, hbl, hc⟩ := h.at_ ha
  obtain ⟨hc0, hc1, hc2⟩ := Tsk.at_ hc hx
  obtain ⟨hd0, hd1, hd2⟩ := Tsk.at_ hc hy
  have hi1 : (0 : Int) ≤ (a : Int) := by omega
  have hi2 : (a : Int) < (l.length : Int) := by omega
  have hi3 : (0 : Int) ≤ (b : Int) := by omega
  have hi4 : (b : Int) < (l.length : Int) := by omega
  clear hx hy hc hl h
  go_enter Try.func53, Try.ntmps53
  go_wp2_with fail
  (refine wp_region_grow_lit (by kernel_rfl) (by kernel_rfl) ?_; repeat (any_goals (first | go_big_quiet_step ((go_at_call 46; exact quiet_grew (due_cmp x y _ HXO.out HYO.out))) | quiet_step ((go_at_call 46; exact quiet_grew (due_cmp x y _ HXO.out HYO.out))) | (refine wpQuiet_step (fun K hK => ?_); go_simp; split <;> rename_i hsp <;> (refine hK _ ?_; clear hK K) <;> (try first | simp only [hsp, decide_true, decide_false, Bool.not_true, Bool.not_false] | simp only [Int.not_le.2 hsp, decide_false, Bool.not_false] | simp only [Int.not_lt.2 hsp, decide_false, Bool.not_false] | simp only [Nat.not_le.2 hsp, decide_false, Bool.not_false] | simp only [Nat.not_lt.2 hsp, decide_false, Bool.not_false])))))
  all_goals (refine wpQuiet_nil ?_; intro w1 h1)
  go_wp2_with fail
  go_ret
  go_light
  exact ⟨ret_int HV.out.symm, h1⟩
set_option maxRecDepth 100000 in
set_option maxHeartbeats 4000000 in
theorem ordered1_wtC (l : List Tsk) (A : Option Addr) (c : Nat) (hl : areT l = true) (a b : Nat) (ha : a < l.length) (hb : b < l.length) (p q : Nat) (w : World) (h : Rd Tsk.E w A l)
    (hp : w.cell? ⟨p, 0, none⟩ = some (.func (.func 47) #[] #[])) (hq : w.cell? ⟨q, 0, none⟩ = some (.slice A l.length c)) :
    Calls Try.prog 53 #[.int .i64 a, .int .i64 b, .pointer (some ⟨p, 0, none⟩), .pointer (some ⟨q, 0, none⟩)] w fun e w' => e = .returned (.int .i64 (idxC wtC l a b)) ∧ Grew w w' := by
  have h8 := (areT_at hl).1
  obtain ⟨x, hx⟩ : ∃ x, l[a]? = some x := ⟨_, List.getElem?_eq_getElem ha⟩
  obtain ⟨y, hy⟩ : ∃ y, l[b]? = some y := ⟨_, List.getElem?_eq_getElem hb⟩
  have HV := Lib.hid (show idxC wtC l a b = wtC x y by simp [idxC, List.getD_eq_getElem?_getD, hx, hy])
  have HXO := Lib.hid ((areT_at hl).2 a x hx)
  have HYO := Lib.hid ((areT_at hl).2 b y hy)
  obtain ⟨bl, o, rfl, hbl, hc⟩ := h.at_ ha
  obtain ⟨hc0, hc1, hc2⟩ := Tsk.at_ hc hx
  obtain ⟨hd0, hd1, hd2⟩ := Tsk.at_ hc hy
  have hi1 : (0 : Int) ≤ (a : Int) := by omega
  have hi2 : (a : Int) < (l.length : Int) := by omega
  have hi3 : (0 : Int) ≤ (b : Int) := by omega
  have hi4 : (b : Int) < (l.length : Int) := by omega
  clear hx hy hc hl h
  go_enter Try.func53, Try.ntmps53
  go_wp2_with fail
  (refine wp_region_grow_lit (by kernel_rfl) (by kernel_rfl) ?_; repeat (any_goals (first | go_big_quiet_step ((go_at_call 47; exact quiet_grew (wt_cmp x y _ HXO.out HYO.out))) | quiet_step ((go_at_call 47; exact quiet_grew (wt_cmp x y _ HXO.out HYO.out))) | (refine wpQuiet_step (fun K hK => ?_); go_simp; split <;> rename_i hsp <;> (refine hK _ ?_; clear hK K) <;> (try first | simp only [hsp, decide_true, decide_false, Bool.not_true, Bool.not_false] | simp only [Int.not_le.2 hsp, decide_false, Bool.not_false] | simp only [Int.not_lt.2 hsp, decide_false, Bool.not_false] | simp only [Nat.not_le.2 hsp, decide_false, Bool.not_false] | simp only [Nat.not_lt.2 hsp, decide_false, Bool.not_false])))))
  all_goals (refine wpQuiet_nil ?_; intro w1 h1)
  go_wp2_with fail
  go_ret
  go_light
  exact ⟨ret_int HV.out.symm, h1⟩

theorem sl_Int : SlInf Try.prog IntS.E 22 3 := info_sl Try.underlying22 info_int rfl rfl (by decide)
/-- The numbers below n, in order. -/
def idxs (n : Nat) : List Int := (List.range n).map fun (i : Nat) => (i : Int)
theorem idxs_len (n : Nat) : (idxs n).length = n := by simp [idxs]
theorem idxs_succ (n : Nat) : idxs (n + 1) = idxs n ++ [(n : Int)] := by simp [idxs, List.range_succ]
theorem idxs_mem {n : Nat} {a : Int} : a ∈ idxs n ↔ ∃ k : Nat, k < n ∧ a = k := by
  simp only [idxs, List.mem_map, List.mem_range]
  exact ⟨fun ⟨k, h1, h2⟩ => ⟨k, h1, h2.symm⟩, fun ⟨k, h1, h2⟩ => ⟨k, h1, h2.symm⟩⟩
def ordF (f : Tsk → Tsk → Int) (l : List Tsk) : List Int := if areT l then sortB (ltOf_ (idxC f l)) (idxs l.length) else []
theorem ordF_le (f : Tsk → Tsk → Int) (l : List Tsk) : (ordF f l).length ≤ 8 := by
  unfold ordF
  split
  · rename_i h
    rw [sortB_length, idxs_len]
    exact (areT_at h).1
  · simp
theorem areTasksE_impl {l : List Tsk} {v : Bool} (hv : areT l = v) (A : Option Addr) (c : Nat) (w : World) (h : Rd Tsk.E w A l) (hn : l.length ≤ 4194304) :
    Calls Try.prog 19 #[.slice A l.length c] w fun e w' => e = .returned (.bool v) ∧ Grew w w' := hv ▸ areTasks_impl l A c w h hn
theorem areTasksE_spec {l : List Tsk} {v : Bool} (hv : areT l = v) (A : Option Addr) (c : Nat) (w : World) (h : Rd Tsk.E w A l) (hn : l.length ≤ 4194304) :
    Calls Try.prog 17 #[.slice A l.length c] w fun e w' => e = .returned (.bool v) ∧ Grew w w' := hv ▸ areTasks_spec l A c w h hn
theorem sortStableE {l : List Int} {n : Nat} (hl : l.length = n) (cmp : Int → Int → Int) (w0 : World) (A : Option Addr) (c : Nat) (p q : Addr) (w : World) (hown : Own IntS.E 3 w w0.heap.size (.slice A n c) l) (hg : Grew w0 w) (hn : n < 20) (hc : CmpIs l cmp p q w0) :
    Calls Try.prog 52 #[.slice A n c, .func (.func 53) #[] #[.pointer (some p), .pointer (some q)]] w fun e w' =>
      e = .returned (.tuple #[]) ∧ Own IntS.E 3 w' w0.heap.size (.slice A n c) (sortB (ltOf_ cmp) l) ∧ Grew w0 w' := by
  subst hl
  exact sortStable_ l cmp w0 A c p q w hown hg hn hc

set_option maxRecDepth 100000 in
set_option maxHeartbeats 8000000 in
theorem ordered_dueC (l : List Tsk) (A : Option Addr) (c : Nat) (w : World) (h : Rd Tsk.E w A l) (hn : l.length ≤ 4194304) :
    Calls Try.prog 45 #[.slice A l.length c, .func (.func 46) #[] #[]] w fun e w' => ∃ A' c', e = .returned (.slice A' (ordF dueC l).length c') ∧ Own IntS.E 3 w' w.heap.size (.slice A' (ordF dueC l).length c') (ordF dueC l) ∧ Grew w w' := by
  have HL := Lib.hid h
  clear h
  cases hv : areT l
  · have HF := Lib.hid (show ordF dueC l = [] by simp [ordF, hv])
    have HV := Lib.hid hv
    clear hv
    go_enter Try.func45, Try.ntmps45
    go_wp2_with fail
    refine (areTasksE_impl HV.out _ _ _ (HL.out.grew (by (repeat (with_reducible first | exact Grew.refl _ | assumption | apply Grew.alloc | apply Grew.drew | apply Grew.drewN | (refine Grew.setCell ?_ (by simp; try omega) _) | (refine Grew.trans ?_ (by assumption)))))) hn).mono ?_; rintro e w1 ⟨rfl, h1⟩
    go_wp2_with fail
    go_ret
    go_light
    exact ⟨none, 0, by rw [HF.out]; rfl, by rw [HF.out]; exact Own.none_, ((((Grew.refl w).alloc _).alloc _).trans h1)⟩
  have HF := Lib.hid (show ordF dueC l = sortB (ltOf_ (idxC dueC l)) (idxs l.length) by simp [ordF, hv])
  have HV := Lib.hid hv
  have h8 := (areT_at hv).1
  clear hv
  go_enter Try.func45, Try.ntmps45
  go_wp2_with fail
  refine (areTasksE_impl HV.out _ _ _ (HL.out.grew (by (repeat (with_reducible first | exact Grew.refl _ | assumption | apply Grew.alloc | apply Grew.drew | apply Grew.drewN | (refine Grew.setCell ?_ (by simp; try omega) _) | (refine Grew.trans ?_ (by assumption)))))) hn).mono ?_; rintro e w1 ⟨rfl, h1⟩; have hz_w1_0 : w.heap.size < w1.heap.size := Nat.lt_of_lt_of_le (by first | (simp +arith; done) | (simp; omega) | omega) h1.le; have hb_w1_0 := fun o => h1.rules.1 w.heap.size o (by first | (simp +arith; done) | (simp; omega) | omega); have hf_w1_0 := fun o => h1.rules.2 w.heap.size o (by first | (simp +arith; done) | (simp; omega) | omega); (try simp [World.cell?_alloc_past, World.frozen?_alloc_past, Nat.lt_add_right] at hb_w1_0 hf_w1_0); have hz_w1_1 : (w.heap.size + 1) < w1.heap.size := Nat.lt_of_lt_of_le (by first | (simp +arith; done) | (simp; omega) | omega) h1.le; have hb_w1_1 := fun o => h1.rules.1 (w.heap.size + 1) o (by first | (simp +arith; done) | (simp; omega) | omega); have hf_w1_1 := fun o => h1.rules.2 (w.heap.size + 1) o (by first | (simp +arith; done) | (simp; omega) | omega); (try simp [World.cell?_alloc_past, World.frozen?_alloc_past, Nat.lt_add_right] at hb_w1_1 hf_w1_1)
  have HG1 := Lib.hid ((((Grew.refl w).alloc _).alloc _).trans h1)
  have hp : w1.cell? ⟨w.heap.size + 1, 0, none⟩ = some (.func (.func 46) #[] #[]) := hb_w1_1 0
  have hq : w1.cell? ⟨w.heap.size, 0, none⟩ = some (.slice A l.length c) := hb_w1_0 0
  have HC := Lib.hid (show CmpIs (idxs l.length) (idxC dueC l) ⟨w.heap.size + 1, 0, none⟩ ⟨w.heap.size, 0, none⟩ w1 from by
    intro a b ha hb w' hg
    obtain ⟨a, ha2, rfl⟩ := idxs_mem.1 ha
    obtain ⟨b, hb2, rfl⟩ := idxs_mem.1 hb
    exact ordered1_dueC l A c HV.out a b ha2 hb2 _ _ w' ((HL.out.grew HG1.out).grew hg) ((hg.rules.1 _ _ hz_w1_1).trans hp) ((hg.rules.1 _ _ hz_w1_0).trans hq))
  have HZ := Lib.hid (And.intro hz_w1_0 hz_w1_1)
  clear hp h1 hz_w1_1 hb_w1_0 hb_w1_1 hf_w1_0 hf_w1_1
  go_wp2_with fail
  have HO1 := Lib.hid (Own.new_ (E := IntS.E) (t := 3) (Nat.le_refl w1.heap.size))
  clear hz_w1_0
  go_loopw [5, 13] (fun o i wr => ∃ (k : Nat) (A' : Option Addr) (c' : Nat), k ≤ l.length ∧ i = .int .i64 k ∧ o = .slice A' k c' ∧ Own IntS.E 3 wr w1.heap.size (.slice A' k c') (idxs k) ∧ Grew w1 wr) (fun _ i _ => l.length - (intOf i).toNat)
  case atStart => exact ⟨0, _, _, Nat.zero_le _, rfl, rfl, HO1.out, (Grew.refl w1).alloc _⟩
  case round =>
    obtain ⟨k, A', c', hk, rfl, rfl, hown, hg⟩ := hrel
    have HO := Lib.hid hown
    have HG := Lib.hid hg
    clear hown hg HO1 hq
    by_cases hlt : k < l.length
    · go_wp2_with (at_builtin; refine wpList_append_rd _ rfl (.tmp 16) (.tmp 18) _ rfl sl_Int w1.heap.size _ _ _ (idxs k) rfl (Own.alloc HO.out _) _ _ _ [(k : Int)] rfl rfl (rd_new (E := IntS.E) _ (k : Int) _ (by simp)) (by simp only [List.length_cons, List.length_nil, idxs_len]; omega) (by have := HG.out.le; simp; omega) ?_; intro A2 c2 w2 ho2 hgr2 hat2)
      go_roundw
      case rel => go_light; exact ⟨k + 1, A2, c2, by omega, by go_num, rfl, by rw [idxs_succ]; exact ho2, (HG.out.alloc _).app (Own.alloc HO.out _) (Nat.le_refl _) hgr2⟩
      case measure => go_light; simp [intOf]; omega
    · obtain rfl : k = l.length := by omega
      have hmf : ∀ (fn : Fn) (first cap : Array Value) (w : World), (Instr.makeFunc fn first cap).run Try.prog w = .ok (.func fn first cap) w := fun _ _ _ _ => rfl
      go_wp2_with fail
      refine (sortStableE (idxs_len l.length) (idxC dueC l) w1 A' c' ⟨w.heap.size + 1, 0, none⟩ ⟨w.heap.size, 0, none⟩ _ HO.out HG.out (by omega) HC.out).mono ?_; rintro e w2 ⟨rfl, h2, h3⟩
      go_wp2_with fail
      go_ret
      go_light
      have hlen : (sortB (ltOf_ (idxC dueC l)) (idxs l.length)).length = l.length := by rw [sortB_length, idxs_len]
      refine ⟨A', c', by rw [HF.out, hlen]; rfl, ?_, HG1.out.trans h3⟩
      rw [HF.out, hlen]
      exact h2.mono HG1.out.le
set_option maxRecDepth 100000 in
set_option maxHeartbeats 8000000 in
theorem ordered_wtC (l : List Tsk) (A : Option Addr) (c : Nat) (w : World) (h : Rd Tsk.E w A l) (hn : l.length ≤ 4194304) :
    Calls Try.prog 45 #[.slice A l.length c, .func (.func 47) #[] #[]] w fun e w' => ∃ A' c', e = .returned (.slice A' (ordF wtC l).length c') ∧ Own IntS.E 3 w' w.heap.size (.slice A' (ordF wtC l).length c') (ordF wtC l) ∧ Grew w w' := by
  have HL := Lib.hid h
  clear h
  cases hv : areT l
  · have HF := Lib.hid (show ordF wtC l = [] by simp [ordF, hv])
    have HV := Lib.hid hv
    clear hv
    go_enter Try.func45, Try.ntmps45
    go_wp2_with fail
    refine (areTasksE_impl HV.out _ _ _ (HL.out.grew (by (repeat (with_reducible first | exact Grew.refl _ | assumption | apply Grew.alloc | apply Grew.drew | apply Grew.drewN | (refine Grew.setCell ?_ (by simp; try omega) _) | (refine Grew.trans ?_ (by assumption)))))) hn).mono ?_; rintro e w1 ⟨rfl, h1⟩
    go_wp2_with fail
    go_ret
    go_light
    exact ⟨none, 0, by rw [HF.out]; rfl, by rw [HF.out]; exact Own.none_, ((((Grew.refl w).alloc _).alloc _).trans h1)⟩
  have HF := Lib.hid (show ordF wtC l = sortB (ltOf_ (idxC wtC l)) (idxs l.length) by simp [ordF, hv])
  have HV := Lib.hid hv
  have h8 := (areT_at hv).1
  clear hv
  go_enter Try.func45, Try.ntmps45
  go_wp2_with fail
  refine (areTasksE_impl HV.out _ _ _ (HL.out.grew (by (repeat (with_reducible first | exact Grew.refl _ | assumption | apply Grew.alloc | apply Grew.drew | apply Grew.drewN | (refine Grew.setCell ?_ (by simp; try omega) _) | (refine Grew.trans ?_ (by assumption)))))) hn).mono ?_; rintro e w1 ⟨rfl, h1⟩; have hz_w1_0 : w.heap.size < w1.heap.size := Nat.lt_of_lt_of_le (by first | (simp +arith; done) | (simp; omega) | omega) h1.le; have hb_w1_0 := fun o => h1.rules.1 w.heap.size o (by first | (simp +arith; done) | (simp; omega) | omega); have hf_w1_0 := fun o => h1.rules.2 w.heap.size o (by first | (simp +arith; done) | (simp; omega) | omega); (try simp [World.cell?_alloc_past, World.frozen?_alloc_past, Nat.lt_add_right] at hb_w1_0 hf_w1_0); have hz_w1_1 : (w.heap.size + 1) < w1.heap.size := Nat.lt_of_lt_of_le (by first | (simp +arith; done) | (simp; omega) | omega) h1.le; have hb_w1_1 := fun o => h1.rules.1 (w.heap.size + 1) o (by first | (simp +arith; done) | (simp; omega) | omega); have hf_w1_1 := fun o => h1.rules.2 (w.heap.size + 1) o (by first | (simp +arith; done) | (simp; omega) | omega); (try simp [World.cell?_alloc_past, World.frozen?_alloc_past, Nat.lt_add_right] at hb_w1_1 hf_w1_1)
  have HG1 := Lib.hid ((((Grew.refl w).alloc _).alloc _).trans h1)
  have hp : w1.cell? ⟨w.heap.size + 1, 0, none⟩ = some (.func (.func 47) #[] #[]) := hb_w1_1 0
  have hq : w1.cell? ⟨w.heap.size, 0, none⟩ = some (.slice A l.length c) := hb_w1_0 0
  have HC := Lib.hid (show CmpIs (idxs l.length) (idxC wtC l) ⟨w.heap.size + 1, 0, none⟩ ⟨w.heap.size, 0, none⟩ w1 from by
    intro a b ha hb w' hg
    obtain ⟨a, ha2, rfl⟩ := idxs_mem.1 ha
    obtain ⟨b, hb2, rfl⟩ := idxs_mem.1 hb
    exact ordered1_wtC l A c HV.out a b ha2 hb2 _ _ w' ((HL.out.grew HG1.out).grew hg) ((hg.rules.1 _ _ hz_w1_1).trans hp) ((hg.rules.1 _ _ hz_w1_0).trans hq))
  have HZ := Lib.hid (And.intro hz_w1_0 hz_w1_1)
  clear hp h1 hz_w1_1 hb_w1_0 hb_w1_1 hf_w1_0 hf_w1_1
  go_wp2_with fail
  have HO1 := Lib.hid (Own.new_ (E := IntS.E) (t := 3) (Nat.le_refl w1.heap.size))
  clear hz_w1_0
  go_loopw [5, 13] (fun o i wr => ∃ (k : Nat) (A' : Option Addr) (c' : Nat), k ≤ l.length ∧ i = .int .i64 k ∧ o = .slice A' k c' ∧ Own IntS.E 3 wr w1.heap.size (.slice A' k c') (idxs k) ∧ Grew w1 wr) (fun _ i _ => l.length - (intOf i).toNat)
  case atStart => exact ⟨0, _, _, Nat.zero_le _, rfl, rfl, HO1.out, (Grew.refl w1).alloc _⟩
  case round =>
    obtain ⟨k, A', c', hk, rfl, rfl, hown, hg⟩ := hrel
    have HO := Lib.hid hown
    have HG := Lib.hid hg
    clear hown hg HO1 hq
    by_cases hlt : k < l.length
    · go_wp2_with (at_builtin; refine wpList_append_rd _ rfl (.tmp 16) (.tmp 18) _ rfl sl_Int w1.heap.size _ _ _ (idxs k) rfl (Own.alloc HO.out _) _ _ _ [(k : Int)] rfl rfl (rd_new (E := IntS.E) _ (k : Int) _ (by simp)) (by simp only [List.length_cons, List.length_nil, idxs_len]; omega) (by have := HG.out.le; simp; omega) ?_; intro A2 c2 w2 ho2 hgr2 hat2)
      go_roundw
      case rel => go_light; exact ⟨k + 1, A2, c2, by omega, by go_num, rfl, by rw [idxs_succ]; exact ho2, (HG.out.alloc _).app (Own.alloc HO.out _) (Nat.le_refl _) hgr2⟩
      case measure => go_light; simp [intOf]; omega
    · obtain rfl : k = l.length := by omega
      have hmf : ∀ (fn : Fn) (first cap : Array Value) (w : World), (Instr.makeFunc fn first cap).run Try.prog w = .ok (.func fn first cap) w := fun _ _ _ _ => rfl
      go_wp2_with fail
      refine (sortStableE (idxs_len l.length) (idxC wtC l) w1 A' c' ⟨w.heap.size + 1, 0, none⟩ ⟨w.heap.size, 0, none⟩ _ HO.out HG.out (by omega) HC.out).mono ?_; rintro e w2 ⟨rfl, h2, h3⟩
      go_wp2_with fail
      go_ret
      go_light
      have hlen : (sortB (ltOf_ (idxC wtC l)) (idxs l.length)).length = l.length := by rw [sortB_length, idxs_len]
      refine ⟨A', c', by rw [HF.out, hlen]; rfl, ?_, HG1.out.trans h3⟩
      rw [HF.out, hlen]
      exact h2.mono HG1.out.le
set_option maxHeartbeats 1000000 in
theorem earliest_impl (l : List Tsk) (A : Option Addr) (c : Nat) (w : World) (h : Rd Tsk.E w A l) (hn : l.length ≤ 4194304) :
    Calls Try.prog 28 #[.slice A l.length c] w fun e w' => ∃ A' c', e = .returned (.slice A' (ordF dueC l).length c') ∧ Own IntS.E 3 w' w.heap.size (.slice A' (ordF dueC l).length c') (ordF dueC l) ∧ Grew w w' := by
  have HL := Lib.hid h
  clear h
  go_enter Try.func28, Try.ntmps28
  go_wp2_with fail
  refine (ordered_dueC l A c _ HL.out hn).mono ?_; rintro e w1 ⟨A', c', rfl, h1, h2⟩
  go_wp2_with fail
  go_ret
  go_light
  exact ⟨A', c', rfl, h1, h2⟩
set_option maxHeartbeats 1000000 in
theorem shortest_impl (l : List Tsk) (A : Option Addr) (c : Nat) (w : World) (h : Rd Tsk.E w A l) (hn : l.length ≤ 4194304) :
    Calls Try.prog 33 #[.slice A l.length c] w fun e w' => ∃ A' c', e = .returned (.slice A' (ordF wtC l).length c') ∧ Own IntS.E 3 w' w.heap.size (.slice A' (ordF wtC l).length c') (ordF wtC l) ∧ Grew w w' := by
  have HL := Lib.hid h
  clear h
  go_enter Try.func33, Try.ntmps33
  go_wp2_with fail
  refine (ordered_wtC l A c _ HL.out hn).mono ?_; rintro e w1 ⟨A', c', rfl, h1, h2⟩
  go_wp2_with fail
  go_ret
  go_light
  exact ⟨A', c', rfl, h1, h2⟩
end Go.Proofs.Yteckhmbkagigjaa
