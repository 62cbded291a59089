/- Moves one after the other: in every place there is what the moves that were made brought there. Conditions: none. -/
import Derived.Test.YtfbfhccgohmeiaaQty
import Derived.Test.YtfbfhccgohmeiaaDrawE
namespace Go.Proofs.Ytfbfhccgohmeiaa
open Go.RowKit Go.ChangeShapes Go.WideShapes Go.Deep
set_option linter.unusedVariables false
set_option linter.unusedSimpArgs false

/-- The first k moves, those alone that were made. -/
def doneTo (l : List Mv) : Nat → List Mv
  | 0 => []
  | k + 1 => if (applyF (amTo l k).1 (l.getD k mv0)).2 then doneTo l k ++ [l.getD k mv0] else doneTo l k
theorem doneTo_len (l : List Mv) : ∀ k, (doneTo l k).length ≤ k
  | 0 => by simp [doneTo]
  | k + 1 => by
    have := doneTo_len l k
    simp only [doneTo]
    split
    · simp; omega
    · omega
theorem flowTo_pre {l : List Mv} {x : Mv} {it ba pl : ByteArray} : ∀ k, k ≤ l.length → flowTo (l ++ [x]) it ba pl k = flowTo l it ba pl k
  | 0, _ => rfl
  | k + 1, h => by
    simp only [flowTo]
    rw [flowTo_pre k (by omega)]
    congr 2
    simp only [List.getD_eq_getElem?_getD]
    rw [List.getElem?_append_left (by omega)]
theorem flow_snoc (l : List Mv) (x : Mv) (it ba pl : ByteArray) : flowTo (l ++ [x]) it ba pl (l ++ [x]).length = flowTo l it ba pl l.length + deltaF it ba pl x := by
  have e : (l ++ [x]).length = l.length + 1 := by simp
  rw [e]
  simp only [flowTo]
  rw [flowTo_pre _ (Nat.le_refl _)]
  congr 2
  simp [List.getD_eq_getElem?_getD]
theorem delta_dl {x : Mv} (h : mvOk x.day x.it x.ba x.ff x.tt x.q = true) (it ba pl : ByteArray) : deltaF it ba pl x = dl it ba pl x := by
  simp only [deltaF, dl, h, Bool.true_and, matchH]
  by_cases h1 : x.it.toList = it.toList <;> by_cases h2 : x.ba.toList = ba.toList <;> simp [h1, h2]
structure AmOk (l : List Mv) (k : Nat) : Prop where
  are : areH (amTo l k).1 = true
  q : ∀ it ba pl, pl.toList ≠ [] → qOf it ba pl (amTo l k).1 = flowTo (doneTo l k) it ba pl (doneTo l k).length
  n : (amTo l k).2 = (k : Int) - (doneTo l k).length
theorem am_ok (l : List Mv) : ∀ k, AmOk l k
  | 0 => ⟨by simp [amTo, areH, allTo], by simp [amTo, doneTo, firstQ, flowTo], by simp [amTo, doneTo]⟩
  | k + 1 => by
    have ih := am_ok l k
    cases hc : (applyF (amTo l k).1 (l.getD k mv0)).2
    · have e1 : amTo l (k + 1) = ((amTo l k).1, (amTo l k).2 + 1) := by simp only [amTo]; rw [if_neg (by rw [hc]; decide)]
      have e2 : doneTo l (k + 1) = doneTo l k := by simp only [doneTo]; rw [if_neg (by rw [hc]; decide)]
      refine ⟨by rw [e1]; exact ih.are, by rw [e1, e2]; exact ih.q, ?_⟩
      rw [e1, e2]
      simp only [ih.n]
      push_cast
      omega
    · have hcan : canMv (amTo l k).1 (l.getD k mv0) = true := hc
      have e1 : amTo l (k + 1) = (mvF (amTo l k).1 (l.getD k mv0), (amTo l k).2) := by simp only [amTo]; rw [if_pos hc]; simp only [applyF, hcan, if_true]
      have e2 : doneTo l (k + 1) = doneTo l k ++ [l.getD k mv0] := by simp only [doneTo]; rw [if_pos hc]
      obtain ⟨hp, ha⟩ := canMv_pre hcan
      refine ⟨by rw [e1]; exact ha, fun it ba pl h => ?_, ?_⟩
      · rw [e1, e2, flow_snoc, delta_dl (preMv_at hp).2.1, (mv_q hp).q it ba pl h, ih.q it ba pl h]
      · rw [e1, e2]
        simp only [ih.n, List.length_append, List.length_cons, List.length_nil]
        push_cast
        omega
/-- What the law asks of one place. -/
theorem stock_at (l : List Mv) (hl : l.length ≤ 14) (it ba pl : ByteArray) : (pl.toList = [] → qtyF (amTo l l.length).1 it ba pl = 0) ∧
    (pl.toList ≠ [] → qtyF (amTo l l.length).1 it ba pl = flowF (doneTo l l.length) it ba pl ∧ 0 ≤ flowF (doneTo l l.length) it ba pl) := by
  have h := am_ok l l.length
  have hd := doneTo_len l l.length
  have e1 : ∀ it ba pl, qtyF (amTo l l.length).1 it ba pl = qOf it ba pl (amTo l l.length).1 := fun it ba pl => by simp [qtyF, h.are]
  have e2 : flowF (doneTo l l.length) it ba pl = flowTo (doneTo l l.length) it ba pl (doneTo l l.length).length := by
    simp only [flowF]; rw [if_pos (by omega)]
  refine ⟨fun hp => ?_, fun hp => ?_⟩
  · rw [e1]
    refine firstQ_none fun y hy => ?_
    cases k : matchH it ba pl y
    · rfl
    · exact absurd ((match_pl k).trans hp) (areH_mem h.are hy).1
  · rw [e1, e2, h.q it ba pl hp]
    refine ⟨rfl, ?_⟩
    rw [← h.q it ba pl hp]
    exact firstQ_nonneg (areH_asc h.are).2

/-- Two slices lie in different blocks. -/
def Sep (v v' : Value) : Prop := ∀ k, v.ownBlock = some k → v'.ownBlock ≠ some k
theorem Sep.ne {v v' : Value} (h : Sep v v') : v.ownBlock = none ∨ v.ownBlock ≠ v'.ownBlock := by
  cases hv : v.ownBlock with
  | none => exact .inl rfl
  | some k => exact .inr fun e => h k hv e.symm
theorem Sep.symm {v v' : Value} (h : Sep v v') : Sep v' v := fun k h1 h2 => h k h2 h1
theorem Sep.at_ {v v' u : Value} {n : Nat} (h : Sep v v') (hn : ∀ k, v'.ownBlock = some k → k < n) (ha : u.ownBlock = v.ownBlock ∨ u.ownBlock = some n) : Sep u v' := by
  intro k h1 h2
  rcases ha with ha | ha
  · exact h k (by rw [← ha]; exact h1) h2
  · have := hn k h2
    rw [ha] at h1
    simp only [Option.some.injEq] at h1
    omega
theorem Sep.low {v v' : Value} {n : Nat} (h1 : ∀ k, v.ownBlock = some k → k < n) (h2 : ∀ k, v'.ownBlock = some k → n ≤ k) : Sep v v' := by
  intro k a b
  have := h1 k a
  have := h2 k b
  omega
end Go.Proofs.Ytfbfhccgohmeiaa
