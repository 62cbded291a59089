/- The order with the fewest late tasks, as a plain function; three slices side by side. Conditions: none. -/
import Derived.Test.YteckhmbkagigjaaSrtS
import Derived.Test.YteckhmbkagigjaaEnds
namespace Go.Proofs.Yteckhmbkagigjaa
open Go.RowKit Go.ChangeShapes Go.WideShapes Go.Deep
set_option linter.unusedVariables false
set_option linter.unusedSimpArgs false

/-- The place of the first longest of the first k tasks of an order. -/
def longTo (l : List Tsk) (ks : List Int) : Nat → Nat
  | 0 => 0
  | i + 1 => if (tk l (ks.getD (longTo l ks i) 0)).m < (tk l (ks.getD i 0)).m then i else longTo l ks i
theorem longTo_lt (l : List Tsk) (ks : List Int) : ∀ i, 0 < i → longTo l ks i < i
  | 0, h => by omega
  | i + 1, _ => by
    simp only [longTo]
    split
    · omega
    · rcases Nat.eq_zero_or_pos i with rfl | h
      · simp [longTo]
      · have := longTo_lt l ks i h; omega
theorem longTo_le (l : List Tsk) (ks : List Int) (i : Nat) : longTo l ks i ≤ i - 1 := by
  rcases Nat.eq_zero_or_pos i with rfl | h
  · simp [longTo]
  · have := longTo_lt l ks i h; omega
/-- What is kept, what is late, the time. -/
abbrev FlS := List Int × List Int × Int
def flStep (l : List Tsk) (s : FlS) (x : Int) : FlS :=
  if s.2.2 + (tk l x).m ≤ (tk l x).d then (s.1 ++ [x], s.2.1, s.2.2 + (tk l x).m)
  else ((s.1 ++ [x]).eraseIdx (longTo l (s.1 ++ [x]) (s.1.length + 1)), s.2.1 ++ [(s.1 ++ [x]).getD (longTo l (s.1 ++ [x]) (s.1.length + 1)) 0],
    s.2.2 + (tk l x).m - (tk l ((s.1 ++ [x]).getD (longTo l (s.1 ++ [x]) (s.1.length + 1)) 0)).m)
def flTo (l : List Tsk) (o : List Int) (k : Nat) : FlS := (o.take k).foldl (flStep l) ([], [], 0)
theorem flTo_step {l : List Tsk} {o : List Int} {k : Nat} {x : Int} (h : o[k]? = some x) : flTo l o (k + 1) = flStep l (flTo l o k) x := by
  simp only [flTo]
  rw [List.take_add_one, h]
  simp
def flF (l : List Tsk) : List Int := (flTo l (ordF dueC l) (ordF dueC l).length).1 ++ (flTo l (ordF dueC l) (ordF dueC l).length).2.1
/-- Lengths, members, the time's bounds. -/
structure FlOk (n : Nat) (k : Nat) (s : FlS) : Prop where
  l1 : s.1.length ≤ k
  l2 : s.2.1.length ≤ k
  m1 : ∀ x ∈ s.1, ∃ j : Nat, j < n ∧ x = j
  m2 : ∀ x ∈ s.2.1, ∃ j : Nat, j < n ∧ x = j
  t : -1000 * (k : Int) ≤ s.2.2 ∧ s.2.2 ≤ 1000 * (k : Int)
theorem tk_m {l : List Tsk} (hl : areT l = true) {x : Int} (hx : ∃ j : Nat, j < l.length ∧ x = j) : 1 ≤ (tk l x).m ∧ (tk l x).m ≤ 1000 := by
  obtain ⟨j, hj, rfl⟩ := hx
  obtain ⟨y, hy⟩ : ∃ y, l[j]? = some y := ⟨_, List.getElem?_eq_getElem hj⟩
  have := (tskOk_at ((areT_at hl).2 j y hy)).1
  simpa [tk, List.getD_eq_getElem?_getD, hy] using this
theorem getD_in {T : Type} {l : List T} {i : Nat} {d : T} (h : i < l.length) : l.getD i d ∈ l := by
  rw [List.getD_eq_getElem?_getD, List.getElem?_eq_getElem h]
  exact List.getElem_mem h
theorem mem_erase {T : Type} {l : List T} {i : Nat} {x : T} (h : x ∈ l.eraseIdx i) : x ∈ l := (List.eraseIdx_sublist l i).mem h
theorem FlOk.step {l : List Tsk} (hl : areT l = true) {k : Nat} {s : FlS} {x : Int} (h : FlOk l.length k s) (hx : ∃ j : Nat, j < l.length ∧ x = j) : FlOk l.length (k + 1) (flStep l s x) := by
  have hm := tk_m hl hx
  have ht := h.t
  have hk1 : ∀ y ∈ s.1 ++ [x], ∃ j : Nat, j < l.length ∧ y = j := fun y hy => by
    rcases List.mem_append.1 hy with hy | hy
    · exact h.m1 y hy
    · obtain rfl : y = x := by simpa using hy
      exact hx
  have hq := longTo_lt l (s.1 ++ [x]) (s.1.length + 1) (by omega)
  have hy := hk1 _ (getD_in (d := 0) (show longTo l (s.1 ++ [x]) (s.1.length + 1) < (s.1 ++ [x]).length by simpa using hq))
  have hmy := tk_m hl hy
  have h1 := h.l1
  have h2 := h.l2
  unfold flStep
  split
  · exact ⟨by simp; omega, by simp; omega, hk1, h.m2, by simp only; omega⟩
  · refine ⟨?_, by simp; omega, fun y hy => hk1 y (mem_erase hy), fun y hy2 => ?_, by simp only; omega⟩
    · have := List.length_eraseIdx_le (s.1 ++ [x]) (longTo l (s.1 ++ [x]) (s.1.length + 1))
      simp only [List.length_append, List.length_cons, List.length_nil] at this ⊢
      omega
    · rcases List.mem_append.1 hy2 with hy2 | hy2
      · exact h.m2 y hy2
      · obtain rfl := (by simpa using hy2 : y = _)
        exact hy
theorem flTo_ok {l : List Tsk} (hl : areT l = true) {o : List Int} (ho : ∀ x ∈ o, ∃ j : Nat, j < l.length ∧ x = j) : ∀ k, k ≤ o.length → FlOk l.length k (flTo l o k)
  | 0, _ => ⟨by simp [flTo], by simp [flTo], by simp [flTo], by simp [flTo], by simp [flTo]⟩
  | k + 1, hk => by
    obtain ⟨x, hx⟩ : ∃ x, o[k]? = some x := ⟨_, List.getElem?_eq_getElem (by omega)⟩
    rw [flTo_step hx]
    exact (flTo_ok hl ho k (by omega)).step hl (ho x (List.mem_of_getElem? hx))
theorem ordF_mem {f : Tsk → Tsk → Int} {l : List Tsk} {x : Int} (h : x ∈ ordF f l) : ∃ j : Nat, j < l.length ∧ x = j := by
  unfold ordF at h
  split at h
  · exact idxs_mem.1 (sortB_mem.1 h)
  · simp at h
theorem flF_le (l : List Tsk) : (flF l).length ≤ 16 := by
  unfold flF
  cases hv : areT l
  · have : ordF dueC l = [] := by simp [ordF, hv]
    rw [this]; simp [flTo]
  · have h := flTo_ok hv (o := ordF dueC l) (fun x hx => ordF_mem hx) _ (Nat.le_refl _)
    have := h.l1
    have := h.l2
    have := ordF_le dueC l
    simp only [List.length_append]
    omega

/-- Two slices lie in different blocks. -/
def Sep (v v' : Value) : Prop := ∀ k, v.ownBlock = some k → v'.ownBlock ≠ some k
theorem Sep.ne {v v' : Value} (h : Sep v v') : v.ownBlock = none ∨ v.ownBlock ≠ v'.ownBlock := by
  cases hv : v.ownBlock with
  | none => exact .inl rfl
  | some k => exact .inr fun e => h k hv e.symm
theorem Sep.symm {v v' : Value} (h : Sep v v') : Sep v' v := fun k h1 h2 => h k h2 h1
theorem Sep.at_ {v v' u : Value} {n : Nat} (h : Sep v v') (hn : ∀ k, v'.ownBlock = some k → k < n) (ha : u.ownBlock = v.ownBlock ∨ u.ownBlock = some n) : Sep u v' := by
  intro k h1 h2
  rcases ha with ha | ha
  · exact h k (by rw [← ha]; exact h1) h2
  · have := hn k h2
    rw [ha] at h1
    simp only [Option.some.injEq] at h1
    omega
theorem Sep.low {v v' : Value} {n : Nat} (h1 : ∀ k, v.ownBlock = some k → k < n) (h2 : ∀ k, v'.ownBlock = some k → n ≤ k) : Sep v v' := by
  intro k a b
  have := h1 k a
  have := h2 k b
  omega
/-- Three slices of numbers of the call's own, side by side: what is kept, what is late, the order. -/
structure FL (w wr : World) (vk vl vo : Value) (ks ls os : List Int) : Prop where
  k : Own IntS.E 3 wr w.heap.size vk ks
  l : Own IntS.E 3 wr w.heap.size vl ls
  o : Own IntS.E 3 wr w.heap.size vo os
  kl : Sep vk vl
  ko : Sep vk vo
  lo : Sep vl vo
  g : Grew w wr
section
variable {w wr w' : World} {vk vl vo v : Value} {ks ls os xs : List Int}
theorem FL.grew (h : FL w wr vk vl vo ks ls os) (g : Grew wr w') : FL w w' vk vl vo ks ls os := ⟨h.k.grew g, h.l.grew g, h.o.grew g, h.kl, h.ko, h.lo, h.g.trans g⟩
theorem FL.toK (h : FL w wr vk vl vo ks ls os) (own : Own IntS.E 3 w' w.heap.size v xs) (g : wr.grownBy w' vk.ownBlock) (hat : v.ownBlock = vk.ownBlock ∨ v.ownBlock = some wr.heap.size) : FL w w' v vl vo xs ls os :=
  ⟨own, h.l.kept g h.kl.symm.ne, h.o.kept g h.ko.symm.ne, h.kl.at_ (fun k hk => (h.l.block k hk).2) hat, h.ko.at_ (fun k hk => (h.o.block k hk).2) hat, h.lo, h.g.app h.k (Nat.le_refl _) g⟩
theorem FL.toL (h : FL w wr vk vl vo ks ls os) (own : Own IntS.E 3 w' w.heap.size v xs) (g : wr.grownBy w' vl.ownBlock) (hat : v.ownBlock = vl.ownBlock ∨ v.ownBlock = some wr.heap.size) : FL w w' vk v vo ks xs os :=
  ⟨h.k.kept g h.kl.ne, own, h.o.kept g h.lo.symm.ne, (h.kl.symm.at_ (fun k hk => (h.k.block k hk).2) hat).symm, h.ko, h.lo.at_ (fun k hk => (h.o.block k hk).2) hat, h.g.app h.l (Nat.le_refl _) g⟩
theorem FL.new (h : FL w wr vk vl vo ks ls os) (g : Grew wr w') (own : Own IntS.E 3 w' wr.heap.size v xs) : FL w w' v vl vo xs ls os :=
  ⟨own.mono h.g.le, h.l.grew g, h.o.grew g, (Sep.low (fun k hk => (h.l.block k hk).2) (fun k hk => (own.block k hk).1)).symm, (Sep.low (fun k hk => (h.o.block k hk).2) (fun k hk => (own.block k hk).1)).symm, h.lo, h.g.trans g⟩
end
end Go.Proofs.Yteckhmbkagigjaa
