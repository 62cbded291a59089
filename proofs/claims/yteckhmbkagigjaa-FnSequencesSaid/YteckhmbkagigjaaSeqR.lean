/- By weights none waits longer; no order has fewer late tasks; the three together. Conditions: none. -/
import Derived.Test.YteckhmbkagigjaaSeqQ
namespace Go.Proofs.Yteckhmbkagigjaa
open Go.RowKit
set_option linter.unusedVariables false
set_option linter.unusedSimpArgs false

/-- The waiting of an order that begins at a time. -/
def wR (m v : Int → Int) : Int → List Int → Int
  | _, [] => 0
  | T, x :: t => (T + m x) * v x + wR m v (T + m x) t
theorem wR_app (m v : Int → Int) : ∀ (a b : List Int) (T : Int), wR m v T (a ++ b) = wR m v T a + wR m v (T + sm m a) b
  | [], b, T => by simp [wR, sm]
  | x :: a, b, T => by
    simp only [List.cons_append, wR, wR_app m v a b, sm_cons]
    rw [show T + m x + sm m a = T + (m x + sm m a) by omega]
    omega
theorem wR_shift (m v : Int → Int) : ∀ (a : List Int) (T S : Int), wR m v (T + S) a = S * sm v a + wR m v T a
  | [], T, S => by simp [wR, sm]
  | x :: a, T, S => by
    simp only [wR, sm_cons]
    rw [show T + S + m x = T + m x + S by omega, wR_shift m v a (T + m x) S, Int.mul_add, Int.add_mul (T + m x) S (v x)]
    omega
theorem front_le {m v : Int → Int} {x : Int} : ∀ {A : List Int}, (∀ a ∈ A, m x * v a ≤ m a * v x) → m x * sm v A ≤ sm m A * v x
  | [], _ => by simp [sm]
  | a :: A, h => by
    have h1 := h a (List.mem_cons_self ..)
    have h2 := front_le (A := A) fun b hb => h b (List.mem_cons_of_mem _ hb)
    rw [sm_cons, sm_cons, Int.mul_add, Int.add_mul]
    omega
/-- By minutes for each unit of weight: no order waits less. -/
theorem smith {m v : Int → Int} : ∀ {s o : List Int}, s.Pairwise (fun x y => m x * v y ≤ m y * v x) → o.Perm s → wR m v 0 s ≤ wR m v 0 o
  | [], o, _, h => by rw [h.eq_nil]; exact Int.le_refl _
  | x :: s, o, hs, h => by
    obtain ⟨A, B, rfl⟩ := List.append_of_mem (h.mem_iff.2 (List.mem_cons_self ..))
    have hp : (A ++ B).Perm s := List.Perm.cons_inv ((List.perm_middle (a := x) (l₁ := A) (l₂ := B)).symm.trans h)
    have ih := smith (List.pairwise_cons.1 hs).2 hp
    have hA := front_le (m := m) (v := v) (x := x) (A := A) fun a ha => (List.pairwise_cons.1 hs).1 a (hp.mem_iff.1 (List.mem_append_left _ ha))
    have e1 : wR m v 0 (x :: s) = m x * v x + (m x * sm v s + wR m v 0 s) := by
      have := wR_shift m v s 0 (m x)
      simp only [wR, Int.zero_add] at this ⊢
      rw [this]
    have e2 : wR m v 0 (A ++ x :: B) = wR m v 0 A + ((sm m A + m x) * v x + (m x * sm v B + wR m v (sm m A) B)) := by
      rw [wR_app, Int.zero_add]
      simp only [wR]
      rw [wR_shift m v B (sm m A) (m x)]
    have e3 : wR m v 0 (A ++ B) = wR m v 0 A + wR m v (sm m A) B := by rw [wR_app, Int.zero_add]
    have e4 : sm v s = sm v A + sm v B := by rw [← sm_perm hp, sm_app]
    rw [e3] at ih
    rw [e1, e2, e4, Int.mul_add, Int.add_mul]
    omega
theorem wait_eq (l : List Tsk) (o : List Int) : ∀ k, k ≤ o.length → goT (· + ·) 0 (fun i => gWt (tm l o (i + 1)) (tk l (o.getD i 0))) k = wR (fun x => (tk l x).m) (fun x => (tk l x).wt) 0 (o.take k)
  | 0, _ => by simp [goT, wR]
  | k + 1, h => by
    have hx : o[k]? = some o[k] := List.getElem?_eq_getElem (by omega)
    rw [goT, wait_eq l o k (by omega), List.take_add_one, hx]
    simp only [Option.toList_some]
    rw [wR_app]
    simp only [wR, gWt, Int.zero_add]
    rw [tm_sum l o (k + 1) (by omega), List.take_add_one, hx, List.getD_eq_getElem?_getD, hx]
    simp only [Option.toList_some, Option.getD_some, sm_app, sm_cons, sm_nil]
    simp

/-- Late tasks. -/
theorem late_count {f : Nat → Bool} : ∀ k, goT (· + ·) 0 (fun i => if f i then 1 else 0) k + (((List.range k).filter fun i => !f i).length : Int) = k
  | 0 => by simp [goT]
  | k + 1 => by
    have ih := late_count (f := f) k
    rw [goT, List.range_succ, List.filter_append]
    cases hf : f k
    · simp [hf] at ih ⊢; omega
    · simp [hf] at ih ⊢; omega
theorem late_few {f : Nat → Int} {a : Nat} (h0 : ∀ i, i < a → f i = 0) (h1 : ∀ i, 0 ≤ f i ∧ f i ≤ 1) : ∀ k, goT (· + ·) 0 f k ≤ ((k - a : Nat) : Int)
  | 0 => by simp [goT]
  | k + 1 => by
    have ih := late_few h0 h1 k
    have := h1 k
    rw [goT]
    by_cases hk : k < a
    · rw [h0 k hk]
      have e1 : k - a = 0 := by omega
      have e2 : k + 1 - a = 0 := by omega
      rw [e1] at ih
      rw [e2]
      omega
    · have e : k + 1 - a = (k - a) + 1 := by omega
      rw [e]
      push_cast
      omega
/-- What an order does on time is feasible. -/
theorem ontime_feas {l : List Tsk} {o : List Int} {n : Nat} (ho : o.Perm (idxs n)) (hm : ∀ x ∈ idxs n, 0 ≤ (tk l x).m) :
    ∃ F : List Int, F.Nodup ∧ (∀ x ∈ F, x ∈ idxs n) ∧ Feas (fun x => (tk l x).m) (fun x => (tk l x).d) F ∧ goT (· + ·) 0 (fun i => gLt (tm l o (i + 1)) (tk l (o.getD i 0))) n = (n : Int) - F.length := by
  have hol : o.length = n := by rw [ho.length_eq, idxs_len]
  have hnd := ho.nodup_iff.2 (idxs_nodup n)
  let f : Nat → Bool := fun i => decide ((tk l (o.getD i 0)).d < tm l o (i + 1))
  let I : List Nat := (List.range n).filter fun i => !f i
  have hI : ∀ i, i ∈ I ↔ i < n ∧ tm l o (i + 1) ≤ (tk l (o.getD i 0)).d := fun i => by
    simp only [I, f, List.mem_filter, List.mem_range, Bool.not_eq_true', decide_eq_false_iff_not]
    omega
  have hinj : ∀ i j, i < n → j < n → o.getD i 0 = o.getD j 0 → i = j := fun i j hi hj e => by
    rw [List.getD_eq_getElem?_getD, List.getD_eq_getElem?_getD, List.getElem?_eq_getElem (by omega), List.getElem?_eq_getElem (by omega)] at e
    simp only [Option.getD_some] at e
    rcases Nat.lt_trichotomy i j with h | h | h
    · exact absurd e (List.pairwise_iff_getElem.1 hnd i j (by omega) (by omega) h)
    · exact h
    · exact absurd e.symm (List.pairwise_iff_getElem.1 hnd j i (by omega) (by omega) h)
  have hFmem : ∀ x, x ∈ I.map (fun i => o.getD i 0) ↔ ∃ i, i ∈ I ∧ o.getD i 0 = x := fun x => by simp [List.mem_map]
  have hFnd : (I.map fun i => o.getD i 0).Nodup := by
    rw [List.Nodup, List.pairwise_map]
    have h1 : I.Pairwise (· ≠ ·) := List.nodup_range.sublist List.filter_sublist
    refine List.Pairwise.imp_of_mem ?_ h1
    intro a b ha hb hab e
    exact hab (hinj a b ((hI a).1 ha).1 ((hI b).1 hb).1 e)
  refine ⟨I.map fun i => o.getD i 0, hFnd, fun x hx => ?_, fun t ht => ?_, ?_⟩
  · obtain ⟨i, hi, rfl⟩ := (hFmem x).1 hx
    exact ho.mem_iff.1 (getD_in (by have := ((hI i).1 hi).1; omega))
  · obtain ⟨i0, hi0, e0⟩ := (hFmem t).1 ht
    obtain ⟨j, h1, h2, h3⟩ := max_idx (fun i => i ∈ I ∧ (tk l (o.getD i 0)).d ≤ (tk l t).d) n ⟨i0, ((hI i0).1 hi0).1, hi0, by rw [e0]; exact Int.le_refl _⟩
    have h4 := ((hI j).1 h2.1).2
    have h5 : sm (fun x => (tk l x).m) ((I.map fun i => o.getD i 0).filter fun j => decide ((tk l j).d ≤ (tk l t).d)) ≤ sm (fun x => (tk l x).m) (o.take (j + 1)) := by
      refine sub_sum (hFnd.sublist List.filter_sublist) (fun x hx => ?_) (fun x hx => hm x (ho.mem_iff.1 (List.mem_of_mem_take hx)))
      rw [List.mem_filter, decide_eq_true_eq] at hx
      obtain ⟨i, hi, e⟩ := (hFmem x).1 hx.1
      have hin := ((hI i).1 hi).1
      have := h3 i hin ⟨hi, by rw [e]; exact hx.2⟩
      refine mem_take_idx.2 ⟨i, by omega, ?_⟩
      rw [← e, List.getD_eq_getElem?_getD, List.getElem?_eq_getElem (by omega)]
      rfl
    rw [← tm_sum l o (j + 1) (by omega)] at h5
    have := h2.2
    exact Int.le_trans h5 (Int.le_trans h4 this)
  · have h6 := late_count (f := f) n
    have h7 : goT (· + ·) 0 (fun i => gLt (tm l o (i + 1)) (tk l (o.getD i 0))) n = goT (· + ·) 0 (fun i => if f i then 1 else 0) n := goT_congr n (fun i _ => by simp [gLt, f])
    have h8 : (((List.range n).filter fun i => !f i).length : Int) = (I.length : Int) := rfl
    rw [h8] at h6
    rw [h7, List.length_map]
    omega

theorem longTo_max (l : List Tsk) (ks : List Int) : ∀ i, ∀ j, j < i → (tk l (ks.getD j 0)).m ≤ (tk l (ks.getD (longTo l ks i) 0)).m
  | 0, j, h => by omega
  | i + 1, j, h => by
    simp only [longTo]
    rcases Nat.lt_succ_iff_lt_or_eq.1 h with h1 | rfl
    · have := longTo_max l ks i j h1
      split <;> omega
    · split <;> omega
/-- What the program keeps. -/
structure FlK (l : List Tsk) (os : List Int) (k : Nat) : Prop where
  kept : Kept (fun x => (tk l x).m) (fun x => (tk l x).d) (os.take k) (flTo l os k).1
  time : (flTo l os k).2.2 = sm (fun x => (tk l x).m) (flTo l os k).1
  perm : ((flTo l os k).1 ++ (flTo l os k).2.1).Perm (os.take k)
theorem fl_kept {l : List Tsk} {os : List Int} {n : Nat} (ho : os.Perm (idxs n)) (hm : ∀ x ∈ idxs n, 0 ≤ (tk l x).m) (hsort : os.Pairwise fun a b => (tk l a).d ≤ (tk l b).d) : ∀ k, k ≤ os.length → FlK l os k
  | 0, _ => ⟨by simpa [flTo] using Kept.nil _ _, by simp [flTo, sm], by simp [flTo]⟩
  | k + 1, hk => by
    have ih := fl_kept ho hm hsort k (by omega)
    have hx : os[k]? = some os[k] := List.getElem?_eq_getElem (by omega)
    obtain ⟨x, hxe⟩ : ∃ x, os[k] = x := ⟨_, rfl⟩
    rw [hxe] at hx
    have hnd := ho.nodup_iff.2 (idxs_nodup n)
    have htk : os.take (k + 1) = os.take k ++ [x] := by rw [List.take_add_one, hx]; rfl
    have hxp : x ∉ os.take k := fun h => by
      obtain ⟨i, h1, h2⟩ := mem_take_idx.1 h
      rw [List.getElem?_eq_getElem (by omega)] at h2
      exact List.pairwise_iff_getElem.1 hnd i k (by omega) (by omega) h1 (by rw [hxe]; simpa using h2)
    have hmp : ∀ y ∈ os.take k ++ [x], 0 ≤ (tk l y).m := fun y hy => by
      rw [← htk] at hy
      exact hm y (ho.mem_iff.1 (List.mem_of_mem_take hy))
    obtain ⟨K, hK⟩ : ∃ K, K = (flTo l os k).1 := ⟨_, rfl⟩
    obtain ⟨L, hL⟩ : ∃ L, L = (flTo l os k).2.1 := ⟨_, rfl⟩
    have hs : flTo l os k = (K, L, sm (fun x => (tk l x).m) K) := by rw [hK, hL, ← ih.time]
    have hst := flTo_step (l := l) hx
    have hkept := ih.kept
    have hperm := ih.perm
    rw [← hK] at hkept hperm
    rw [← hL] at hperm
    rw [hs] at hst
    simp only [flStep] at hst
    by_cases ht : sm (fun x => (tk l x).m) K + (tk l x).m ≤ (tk l x).d
    · rw [if_pos ht] at hst
      refine ⟨?_, ?_, ?_⟩
      · rw [hst, htk]
        exact hkept.keep hxp hmp ht
      · rw [hst]
        simp only [sm_app, sm_cons, sm_nil]
        omega
      · rw [hst, htk]
        have h1 : (K ++ [x] ++ L).Perm (K ++ L ++ [x]) := by
          rw [List.append_assoc, List.append_assoc]
          exact List.Perm.append_left K List.perm_append_comm
        exact h1.trans (hperm.append_right [x])
    · rw [if_neg ht] at hst
      obtain ⟨q, hq⟩ : ∃ q, longTo l (K ++ [x]) (K.length + 1) = q := ⟨_, rfl⟩
      have hql : q < (K ++ [x]).length := by rw [← hq]; have := longTo_lt l (K ++ [x]) (K.length + 1) (by omega); simpa using this
      rw [hq] at hst
      obtain ⟨y, hy⟩ : ∃ y, (K ++ [x]).getD q 0 = y := ⟨_, rfl⟩
      rw [hy] at hst
      have hyq : (K ++ [x])[q]? = some y := by
        rw [List.getElem?_eq_getElem hql]
        rw [List.getD_eq_getElem?_getD, List.getElem?_eq_getElem hql] at hy
        simpa using hy
      have e : K ++ [x] = (K ++ [x]).take q ++ y :: (K ++ [x]).drop (q + 1) := by
        conv => lhs; rw [← List.take_append_drop q (K ++ [x])]
        rw [List.drop_eq_getElem_cons hql, (List.getElem?_eq_some_iff.1 hyq).2]
      have hel : (K ++ [x]).eraseIdx q = (K ++ [x]).take q ++ (K ++ [x]).drop (q + 1) := List.eraseIdx_eq_take_drop_succ _ _
      have hmax : ∀ z ∈ K ++ [x], (tk l z).m ≤ (tk l y).m := fun z hz => by
        obtain ⟨i, hi⟩ := List.mem_iff_getElem?.1 hz
        have := longTo_max l (K ++ [x]) (K.length + 1) i (by have := (List.getElem?_eq_some_iff.1 hi).1; simpa using this)
        rw [hq, hy, List.getD_eq_getElem?_getD, hi] at this
        exact this
      have hdue : ∀ z ∈ os.take k, (tk l z).d ≤ (tk l x).d := fun z hz => by
        obtain ⟨i, h1, h2⟩ := mem_take_idx.1 hz
        have := List.pairwise_iff_getElem.1 hsort i k (by omega) (by omega) h1
        rw [hxe] at this
        rw [List.getElem?_eq_getElem (by omega)] at h2
        rw [← (show os[i] = z by simpa using h2)]
        exact this
      have hpp : (K ++ [x]).Perm (y :: ((K ++ [x]).take q ++ (K ++ [x]).drop (q + 1))) := by
        conv => lhs; rw [e]
        exact List.perm_middle
      refine ⟨?_, ?_, ?_⟩
      · rw [hst, htk]
        simp only [hel]
        exact hkept.drop hxp hmp hdue (by omega) e hmax
      · rw [hst]
        simp only [hel]
        have := sm_perm (m := fun x => (tk l x).m) hpp
        rw [sm_app, sm_cons, sm_nil, sm_cons] at this
        omega
      · rw [hst, htk]
        simp only [hel]
        have h1 : ((K ++ [x]).take q ++ (K ++ [x]).drop (q + 1) ++ (L ++ [y])).Perm (K ++ L ++ [x]) := by
          refine List.Perm.trans ?_ (show (K ++ [x] ++ L).Perm (K ++ L ++ [x]) by
            rw [List.append_assoc, List.append_assoc]
            exact List.Perm.append_left K List.perm_append_comm)
          refine List.Perm.trans ?_ (hpp.append_right L).symm
          rw [List.cons_append, ← List.append_assoc]
          exact List.perm_append_singleton y _
        exact h1.trans (hperm.append_right [x])

theorem OnT.at_ {m d : Int → Int} : ∀ {K : List Int} {T : Int}, OnT m d T K → ∀ (i : Nat) (x : Int), K[i]? = some x → T + sm m (K.take (i + 1)) ≤ d x
  | [], _, _, i, x, h => by simp at h
  | y :: K, T, hh, 0, x, h => by
    obtain rfl : y = x := by simpa using h
    have := hh.1
    simp only [List.take_succ_cons, List.take_zero, sm_cons, sm_nil]
    omega
  | y :: K, T, hh, i + 1, x, h => by
    have := OnT.at_ hh.2 i x (by simpa using h)
    rw [List.take_succ_cons, sm_cons]
    omega
/-- The three orders of the program. -/
structure SeqOk (l : List Tsk) : Prop where
  o1 : okO l (ordF dueC l) = true
  o2 : okO l (ordF wtC l) = true
  o3 : okO l (flF l) = true
  b1 : ∀ o, okO l o = true → (sumF max (-100000) gLns l (ordF dueC l)).1 ≤ (sumF max (-100000) gLns l o).1
  b2 : ∀ o, okO l o = true → (sumF (· + ·) 0 gWt l (ordF wtC l)).1 ≤ (sumF (· + ·) 0 gWt l o).1
  b3 : ∀ o, okO l o = true → (sumF (· + ·) 0 gLt l (flF l)).1 ≤ (sumF (· + ·) 0 gLt l o).1
theorem ltOf_f {cmp : Int → Int → Int} {a b : Int} : ltOf_ cmp a b = false ↔ 0 ≤ cmp a b := by
  unfold ltOf_
  rw [decide_eq_false_iff_not]
  omega
theorem ltOf_t {cmp : Int → Int → Int} {a b : Int} : ltOf_ cmp a b = true ↔ cmp a b < 0 := by
  unfold ltOf_
  rw [decide_eq_true_eq]
theorem sumF_eq {op : Int → Int → Int} (hop : ∀ a b c, op (op a b) c = op (op a c) b) (z : Int) (g : Int → Tsk → Int) {l : List Tsk} {o : List Int} (h : okO l o = true) :
    (sumF op z g l o).1 = goT op z (fun i => g (tm l o (i + 1)) (tk l (o.getD i 0))) l.length := by
  have h1 := ord_sum hop z g h
  have h2 : (sumF op z g l o).1 = goT op z (fun k => g ((eL l o o.length).getD k 0) (l.getD k tsk0)) l.length := by unfold sumF; rw [if_pos h]
  rw [h2, ← h1, (okO_at h).1]
theorem seq_ok {l : List Tsk} (hl : areT l = true) : SeqOk l := by
  have hord : ∀ f, (ordF f l).Perm (idxs l.length) := fun f => by
    unfold ordF
    rw [if_pos hl]
    exact sortB_perm _ _
  have hok : ∀ o : List Int, o.Perm (idxs l.length) → okO l o = true := fun o h => by simp only [okO, hl, ordB_mk h, Bool.and_self]
  have hper : ∀ o, okO l o = true → o.Perm (idxs l.length) := fun o h => by
    simp only [okO, Bool.and_eq_true] at h
    exact ordB_perm h.2
  have hin : ∀ x ∈ idxs l.length, tskOk (tk l x) = true := fun x hx => by
    obtain ⟨j, hj, rfl⟩ := idxs_mem.1 hx
    have := (areT_at hl).2 j l[j] (List.getElem?_eq_getElem hj)
    simpa [tk, List.getD_eq_getElem?_getD, List.getElem?_eq_getElem hj] using this
  have hm : ∀ x ∈ idxs l.length, 0 ≤ (tk l x).m := fun x hx => by have := (tskOk_at (hin x hx)).1; omega
  have hdue : (ordF dueC l).Pairwise fun a b => (tk l a).d ≤ (tk l b).d := by
    have h1 := sortB_sorted (lt := ltOf_ (idxC dueC l)) (P := fun _ => True) (fun a b c _ _ _ h1 h2 => by
      rw [ltOf_f] at *; unfold idxC dueC at *; omega) (fun a b _ _ h => by
      rw [ltOf_t] at h; rw [ltOf_f]; unfold idxC dueC at *; omega) (idxs l.length) (fun _ _ => trivial)
    unfold ordF
    rw [if_pos hl]
    refine h1.imp fun {a b} h => ?_
    rw [ltOf_f] at h
    unfold idxC dueC at h
    show (l.getD a.toNat tsk0).d ≤ (l.getD b.toNat tsk0).d
    omega
  have hwt : (ordF wtC l).Pairwise fun a b => (tk l a).m * (tk l b).wt ≤ (tk l b).m * (tk l a).wt := by
    have h1 := sortB_sorted (lt := ltOf_ (idxC wtC l)) (P := fun x => x ∈ idxs l.length) (fun a b c ha hb hc h1 h2 => by
      rw [ltOf_f] at *
      unfold idxC wtC at *
      have pa := tskOk_at (hin a ha)
      have pb := tskOk_at (hin b hb)
      have pc := tskOk_at (hin c hc)
      simp only [tk] at pa pb pc
      generalize l.getD a.toNat tsk0 = A at *
      generalize l.getD b.toNat tsk0 = B at *
      generalize l.getD c.toNat tsk0 = C at *
      have k1 : A.m * B.wt ≤ B.m * A.wt := by omega
      have k2 : B.m * C.wt ≤ C.m * B.wt := by omega
      have k3 : A.m * B.wt * C.wt ≤ B.m * A.wt * C.wt := Int.mul_le_mul_of_nonneg_right k1 (by omega)
      have k4 : B.m * C.wt * A.wt ≤ C.m * B.wt * A.wt := Int.mul_le_mul_of_nonneg_right k2 (by omega)
      have k5 : B.wt * (A.m * C.wt) ≤ B.wt * (C.m * A.wt) := by
        have e1 : A.m * B.wt * C.wt = B.wt * (A.m * C.wt) := by rw [Int.mul_comm A.m B.wt, Int.mul_assoc]
        have e2 : B.m * A.wt * C.wt = B.m * C.wt * A.wt := by rw [Int.mul_assoc, Int.mul_comm A.wt C.wt, ← Int.mul_assoc]
        have e3 : C.m * B.wt * A.wt = B.wt * (C.m * A.wt) := by rw [Int.mul_comm C.m B.wt, Int.mul_assoc]
        rw [← e1, ← e3]
        omega
      have k6 := Int.le_of_mul_le_mul_left k5 (by omega)
      omega) (fun a b _ _ h => by
      rw [ltOf_t] at h; rw [ltOf_f]; unfold idxC wtC at *; omega) (idxs l.length) (fun _ h => h)
    unfold ordF
    rw [if_pos hl]
    refine h1.imp fun {a b} h => ?_
    rw [ltOf_f] at h
    unfold idxC wtC at h
    show (l.getD a.toNat tsk0).m * (l.getD b.toNat tsk0).wt ≤ (l.getD b.toNat tsk0).m * (l.getD a.toNat tsk0).wt
    omega
  have hflk := fl_kept (hord dueC) hm hdue (ordF dueC l).length (Nat.le_refl _)
  have hfl : (flF l).Perm (idxs l.length) := by
    have := hflk.perm
    rw [List.take_length] at this
    exact this.trans (hord dueC)
  have hlen : ∀ o : List Int, o.Perm (idxs l.length) → o.length = l.length := fun o h => by rw [h.length_eq, idxs_len]
  refine ⟨hok _ (hord _), hok _ (hord _), hok _ hfl, fun o h => ?_, fun o h => ?_, fun o h => ?_⟩
  · rw [sumF_eq max_op _ _ (hok _ (hord dueC)), sumF_eq max_op _ _ h]
    refine goT_max_le (goT_max_z _) _ fun k hk => ?_
    obtain ⟨j, h1, h2⟩ := edd_best (hord dueC) (hper o h) hm hdue hk
    exact Int.le_trans h2 (goT_max_ge (f := fun i => gLns (tm l o (i + 1)) (tk l (o.getD i 0))) h1)
  · rw [sumF_eq add_op _ _ (hok _ (hord wtC)), sumF_eq add_op _ _ h]
    have e1 := wait_eq l (ordF wtC l) l.length (by rw [hlen _ (hord wtC)]; exact Nat.le_refl _)
    have e2 := wait_eq l o l.length (by rw [hlen _ (hper o h)]; exact Nat.le_refl _)
    rw [List.take_of_length_le (by rw [hlen _ (hord wtC)]; exact Nat.le_refl _)] at e1
    rw [List.take_of_length_le (by rw [hlen _ (hper o h)]; exact Nat.le_refl _)] at e2
    rw [e1, e2]
    exact smith hwt ((hper o h).trans (hord wtC).symm)
  · rw [sumF_eq add_op _ _ (hok _ hfl), sumF_eq add_op _ _ h]
    obtain ⟨F, f1, f2, f3, f4⟩ := ontime_feas (hper o h) hm
    rw [f4]
    have hkept := hflk.kept
    rw [List.take_length] at hkept
    obtain ⟨G, g1, g2, g3, g4⟩ := hkept.opt F f1 (fun x hx => (hord dueC).mem_iff.2 (f2 x hx)) f3
    have hGK := sub_len g1 g2
    have hKl := hlen _ hfl
    obtain ⟨K, hK⟩ : ∃ K, K = (flTo l (ordF dueC l) (ordF dueC l).length).1 := ⟨_, rfl⟩
    obtain ⟨L, hL⟩ : ∃ L, L = (flTo l (ordF dueC l) (ordF dueC l).length).2.1 := ⟨_, rfl⟩
    have hfe : flF l = K ++ L := by rw [hK, hL]; rfl
    rw [← hK] at hkept hGK
    have hfew := late_few (f := fun i => gLt (tm l (flF l) (i + 1)) (tk l ((flF l).getD i 0))) (a := K.length) (fun i hi => by
      have hx : K[i]? = some K[i] := List.getElem?_eq_getElem hi
      have h1 := hkept.on.at_ i K[i] hx
      have h2 : (flF l).getD i 0 = K[i] := by rw [hfe, List.getD_eq_getElem?_getD, List.getElem?_append_left hi, hx]; rfl
      have h3 : tm l (flF l) (i + 1) = sm (fun x => (tk l x).m) (K.take (i + 1)) := by
        rw [tm_sum l _ _ (by rw [hfe, List.length_append]; omega), hfe, List.take_append_of_le_length (by omega)]
      simp only [h2, h3, gLt]
      rw [if_neg (by omega)]) (fun i => by simp only [gLt]; split <;> omega) l.length
    have : K.length ≤ l.length := by rw [hfe, List.length_append] at hKl; omega
    refine Int.le_trans hfew ?_
    omega
end Go.Proofs.Yteckhmbkagigjaa
