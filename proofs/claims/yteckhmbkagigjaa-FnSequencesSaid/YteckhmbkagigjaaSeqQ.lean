/- Orders by due dates, by weights and with the fewest late tasks: none is better, in the laws' own words. Conditions: none. -/
import Derived.Test.YteckhmbkagigjaaSeqP
namespace Go.Proofs.Yteckhmbkagigjaa
open Go.RowKit
set_option linter.unusedVariables false
set_option linter.unusedSimpArgs false

/-- A sorted list stays so when one is put in from behind. -/
theorem insB_sorted {T : Type} {lt : T → T → Bool} {P : T → Prop} (hneg : ∀ a b c, P a → P b → P c → lt b a = false → lt c b = false → lt c a = false) (hasym : ∀ a b, P a → P b → lt a b = true → lt b a = false)
    {s : List T} {x : T} (hs : s.Pairwise fun a b => lt b a = false) (hP : ∀ y ∈ s, P y) (hx : P x) : (insB lt s x).Pairwise fun a b => lt b a = false := by
  have hk := backN_le (lt x) s
  have hfront : ∀ y ∈ s.take (backN (lt x) s), lt x y = false := by
    intro y hy
    obtain ⟨i, hi⟩ := List.mem_iff_getElem?.1 hy
    rw [List.getElem?_take] at hi
    split at hi
    · rename_i hik
      obtain ⟨j, hj⟩ : ∃ j, backN (lt x) s = j + 1 := ⟨backN (lt x) s - 1, by omega⟩
      have hjl : j < s.length := by omega
      have hz : s[j]? = some s[j] := List.getElem?_eq_getElem hjl
      have h1 := backN_out hj hz
      rcases Nat.lt_or_ge i j with h2 | h2
      · have h3 := List.pairwise_iff_getElem.1 hs i j (by omega) hjl h2
        have h4 : s[i] = y := by rw [List.getElem?_eq_getElem (by omega)] at hi; simpa using hi
        rw [h4] at h3
        exact hneg y s[j] x (hP y (List.mem_of_getElem? hi)) (hP _ (List.getElem_mem hjl)) hx h3 h1
      · obtain rfl : i = j := by omega
        rw [hi] at hz
        obtain rfl : y = s[i] := by simpa using hz
        exact h1
    · cases hi
  have hback : ∀ y ∈ s.drop (backN (lt x) s), lt y x = false := by
    intro y hy
    obtain ⟨i, hi⟩ := List.mem_iff_getElem?.1 hy
    rw [List.getElem?_drop] at hi
    exact hasym x y hx (hP y (List.mem_of_getElem? hi)) (backN_in (p := lt x) (by omega) hi)
  unfold insB
  rw [List.append_assoc, List.pairwise_append]
  refine ⟨hs.sublist (List.take_sublist _ _), ?_, ?_⟩
  · rw [List.singleton_append, List.pairwise_cons]
    exact ⟨hback, hs.sublist (List.drop_sublist _ _)⟩
  · intro a ha b hb
    rcases List.mem_append.1 hb with hb | hb
    · obtain rfl : b = x := by simpa using hb
      exact hfront a ha
    · have h2 : s = s.take (backN (lt x) s) ++ s.drop (backN (lt x) s) := (List.take_append_drop _ _).symm
      rw [h2, List.pairwise_append] at hs
      exact hs.2.2 a ha b hb
theorem sortB_sorted {T : Type} {lt : T → T → Bool} {P : T → Prop} (hneg : ∀ a b c, P a → P b → P c → lt b a = false → lt c b = false → lt c a = false) (hasym : ∀ a b, P a → P b → lt a b = true → lt b a = false)
    (l : List T) (hP : ∀ y ∈ l, P y) : (sortB lt l).Pairwise fun a b => lt b a = false := by
  suffices h : ∀ (l s : List T), (∀ y ∈ l, P y) → (∀ y ∈ s, P y) → s.Pairwise (fun a b => lt b a = false) → (l.foldl (insB lt) s).Pairwise fun a b => lt b a = false from h l [] hP (by simp) List.Pairwise.nil
  intro l
  induction l with
  | nil => intro s _ _ h; exact h
  | cons x l ih =>
    intro s hl hs h
    refine ih _ (fun y hy => hl y (List.mem_cons_of_mem _ hy)) (fun y hy => ?_) (insB_sorted hneg hasym h hs (hl x (List.mem_cons_self ..)))
    rcases List.mem_cons.1 ((insB_perm lt s x).mem_iff.1 hy) with rfl | hy
    · exact hl _ (List.mem_cons_self ..)
    · exact hs y hy

/-- Orders of n indices. -/
theorem idxs_nodup (n : Nat) : (idxs n).Nodup := by
  unfold idxs
  rw [List.Nodup, List.pairwise_map]
  exact List.nodup_range.imp fun h e => h (by omega)
theorem ordB_mk {o : List Int} {n : Nat} (h : o.Perm (idxs n)) : ordB o n = true := by
  have hl : o.length = n := by rw [h.length_eq, idxs_len]
  have hnd := h.nodup_iff.2 (idxs_nodup n)
  simp only [ordB, Bool.and_eq_true, decide_eq_true_eq, allTo_iff]
  refine ⟨by omega, fun i hi => ?_⟩
  have hx : o[i]? = some o[i] := List.getElem?_eq_getElem hi
  obtain ⟨j, hj, e⟩ := idxs_mem.1 (h.mem_iff.1 (List.getElem_mem hi))
  simp only [ordOk, List.getD_eq_getElem?_getD, hx, Option.getD_some, Bool.and_eq_true, inB_iff, Bool.not_eq_true', List.contains_eq_mem, decide_eq_false_iff_not]
  refine ⟨by omega, fun hm => ?_⟩
  obtain ⟨k, hk⟩ := List.mem_iff_getElem?.1 hm
  rw [List.getElem?_take] at hk
  split at hk
  · rename_i hki
    rw [List.getElem?_eq_getElem (by omega)] at hk
    exact List.pairwise_iff_getElem.1 hnd k i (by omega) hi hki (by simpa using hk)
  · cases hk
theorem ordB_perm {o : List Int} {n : Nat} (h : ordB o n = true) : o.Perm (idxs n) := by
  simp only [ordB, Bool.and_eq_true, decide_eq_true_eq, allTo_iff] at h
  have hl : o.length = n := by omega
  have hp := ord_nodup hl h.2
  have h2 := hp.map (fun (i : Nat) => (i : Int))
  have e : (o.map Int.toNat).map (fun (i : Nat) => (i : Int)) = o := by
    rw [List.map_map]
    conv => rhs; rw [← List.map_id o]
    refine List.map_congr_left fun x hx => ?_
    obtain ⟨i, hi⟩ := List.mem_iff_getElem?.1 hx
    have := h.2 i (List.getElem?_eq_some_iff.1 hi).1
    simp only [ordOk, List.getD_eq_getElem?_getD, hi, Option.getD_some, Bool.and_eq_true, inB_iff] at this
    simp only [Function.comp, id]
    omega
  rw [e] at h2
  exact h2
theorem max_idx (P : Nat → Prop) [DecidablePred P] : ∀ n, (∃ i, i < n ∧ P i) → ∃ j, j < n ∧ P j ∧ ∀ i, i < n → P i → i ≤ j
  | 0, ⟨i, h, _⟩ => by omega
  | n + 1, ⟨i, h, hp⟩ => by
    by_cases hn : P n
    · exact ⟨n, by omega, hn, fun i hi _ => by omega⟩
    · obtain ⟨j, h1, h2, h3⟩ := max_idx P n ⟨i, by rcases Nat.lt_succ_iff_lt_or_eq.1 h with h | rfl; exact h; exact absurd hp hn, hp⟩
      exact ⟨j, by omega, h2, fun i hi hpi => by
        rcases Nat.lt_succ_iff_lt_or_eq.1 hi with h | rfl
        · exact h3 i h hpi
        · exact absurd hpi hn⟩
theorem mem_take_idx {o : List Int} {x : Int} {k : Nat} : x ∈ o.take k ↔ ∃ i, i < k ∧ o[i]? = some x := by
  rw [List.mem_iff_getElem?]
  constructor
  · rintro ⟨i, hi⟩
    rw [List.getElem?_take] at hi
    split at hi
    · exact ⟨i, by assumption, hi⟩
    · cases hi
  · rintro ⟨i, h1, h2⟩
    exact ⟨i, by rw [List.getElem?_take, if_pos h1]; exact h2⟩
theorem goT_max_le {z M : Int} {f : Nat → Int} (hz : z ≤ M) : ∀ k, (∀ i, i < k → f i ≤ M) → goT max z f k ≤ M
  | 0, _ => hz
  | k + 1, h => by
    have := goT_max_le hz k (fun i hi => h i (by omega))
    have := h k (by omega)
    simp only [goT]; omega
theorem goT_max_z {z : Int} {f : Nat → Int} : ∀ k, z ≤ goT max z f k
  | 0 => Int.le_refl _
  | k + 1 => by have := goT_max_z (z := z) (f := f) k; simp only [goT]; omega
theorem goT_max_ge {z : Int} {f : Nat → Int} : ∀ {k i : Nat}, i < k → f i ≤ goT max z f k
  | k + 1, i, h => by
    simp only [goT]
    rcases Nat.lt_succ_iff_lt_or_eq.1 h with h | rfl
    · have := goT_max_ge (z := z) (f := f) h; omega
    · omega

/-- By due dates: no order is less late. -/
theorem edd_best {l : List Tsk} {s o : List Int} {n : Nat} (hs : s.Perm (idxs n)) (ho : o.Perm (idxs n)) (hm : ∀ x ∈ idxs n, 0 ≤ (tk l x).m) (hsort : s.Pairwise fun a b => (tk l a).d ≤ (tk l b).d) {k : Nat} (hk : k < n) :
    ∃ j, j < n ∧ tm l s (k + 1) - (tk l (s.getD k 0)).d ≤ tm l o (j + 1) - (tk l (o.getD j 0)).d := by
  have hsl : s.length = n := by rw [hs.length_eq, idxs_len]
  have hol : o.length = n := by rw [ho.length_eq, idxs_len]
  have hsx : s[k]? = some s[k] := List.getElem?_eq_getElem (by omega)
  have hin : s[k] ∈ o := ho.mem_iff.2 (hs.mem_iff.1 (List.getElem_mem (by omega)))
  obtain ⟨i0, hi0⟩ := List.mem_iff_getElem?.1 hin
  obtain ⟨j, h1, h2, h3⟩ := max_idx (fun i => o.getD i 0 ∈ s.take (k + 1)) n ⟨i0, by have := (List.getElem?_eq_some_iff.1 hi0).1; omega, by
    rw [List.getD_eq_getElem?_getD, hi0]
    exact mem_take_idx.2 ⟨k, by omega, hsx⟩⟩
  refine ⟨j, h1, ?_⟩
  have hd : (tk l (o.getD j 0)).d ≤ (tk l (s.getD k 0)).d := by
    obtain ⟨i, hi, e⟩ := mem_take_idx.1 h2
    rw [List.getD_eq_getElem?_getD (l := s), hsx]
    rcases Nat.lt_or_ge i k with h4 | h4
    · have := List.pairwise_iff_getElem.1 hsort i k (by omega) (by omega) h4
      rw [List.getElem?_eq_getElem (by omega)] at e
      rw [← (show s[i] = o.getD j 0 by simpa using e)]
      exact this
    · obtain rfl : i = k := by omega
      rw [hsx] at e
      rw [← (show s[i] = o.getD j 0 by simpa using e)]
      exact Int.le_refl _
  have ht : tm l s (k + 1) ≤ tm l o (j + 1) := by
    rw [tm_sum l s _ (by omega), tm_sum l o _ (by omega)]
    refine sub_sum ((hs.nodup_iff.2 (idxs_nodup n)).sublist (List.take_sublist _ _)) (fun x hx => ?_) (fun x hx => hm x (ho.mem_iff.1 (List.mem_of_mem_take hx)))
    have hxo : x ∈ o := ho.mem_iff.2 (hs.mem_iff.1 (List.mem_of_mem_take hx))
    obtain ⟨i, hi⟩ := List.mem_iff_getElem?.1 hxo
    have hin : i < o.length := (List.getElem?_eq_some_iff.1 hi).1
    have := h3 i (by omega) (by rw [List.getD_eq_getElem?_getD, hi]; exact hx)
    exact mem_take_idx.2 ⟨i, by omega, hi⟩
  omega
end Go.Proofs.Yteckhmbkagigjaa
