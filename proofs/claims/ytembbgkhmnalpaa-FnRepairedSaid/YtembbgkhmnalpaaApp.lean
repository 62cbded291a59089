/- Append on slices of the call's own that read as lists; parts of slices. Conditions: none. -/
import Derived.Test.YtembbgkhmnalpaaMem
namespace Go.Proofs.Ytembbgkhmnalpaa
open Go.RowKit Go.ChangeShapes Go.WideShapes Go.Deep
set_option linter.unusedVariables false
set_option linter.unusedSimpArgs false

/-- ts is the type of slices of te, whose elements lie as E says. -/
structure SlInf (P : Program) {T : Type} (E : Enc T) (ts te : TypeId) : Prop where
  und : P.underlying ts = some (.slice te)
  inf : ∃ i z, P.info? te = some i ∧ i.zero = some z ∧ i.size = E.sz ∧ z.cells.size = E.sz ∧ i.bytes ≤ 128
theorem info_sl {P : Program} {T : Type} {E : Enc T} {ts te : TypeId} {z : Value} {s b : Nat} (hu : P.underlying ts = some (.slice te)) (h : (P.info? te).map (fun i => (i.zero, i.size, i.bytes)) = some (some z, s, b))
    (hs : s = E.sz) (hz : z.cells.size = s) (hb : b ≤ 128) : SlInf P E ts te := by
  obtain ⟨i0, hi, h0, h1, h2⟩ := info_parts h
  exact ⟨hu, i0, z, hi, h0, h1.trans hs, hz.trans hs, by omega⟩

section
variable {T : Type} {E : Enc T} {t : TypeId} {w w' a : World} {base : Nat} {v : Value} {l : List T}
theorem Own.slice (h : Own E t w base v l) : ∃ A c, v = .slice A l.length c := by
  rcases h.2 with ⟨rfl, h0⟩ | ⟨g, cap, cur, rfl, _⟩
  · exact ⟨none, 0, by rw [h0]⟩
  · exact ⟨_, _, rfl⟩
theorem Own.block (h : Own E t w base v l) : ∀ k, v.ownBlock = some k → base ≤ k ∧ k < w.heap.size := World.ownsRow.lt h
theorem Own.mono {b : Nat} (h : Own E t w base v l) (hb : b ≤ base) : Own E t w b v l := by
  refine ⟨h.1, ?_⟩
  rcases h.2 with h0 | ⟨g, cap, cur, e, h1, r⟩
  · exact .inl h0
  · exact .inr ⟨g, cap, cur, e, Nat.le_trans hb h1, r⟩
theorem Own.none_ : Own E t w base (.slice none 0 0) ([] : List T) := World.ownsRow_nil w base t E.sz
theorem Own.new_ (hb : base ≤ w.heap.size) : Own E t (w.alloc (.cells #[] t)) base (.slice (some ⟨w.heap.size, 0, none⟩) 0 0) ([] : List T) :=
  World.ownsRow_made w #[] 0 hb (Nat.zero_le _) (by simp)
theorem Own.kept {row : Option Nat} (h : Own E t w base v l) (g : w.grownBy w' row) (hne : v.ownBlock = none ∨ v.ownBlock ≠ row) : Own E t w' base v l := World.ownsRow.kept h g hne
theorem Own.alloc (h : Own E t w base v l) (o : Obj) : Own E t (w.alloc o) base v l := World.ownsRow.alloc h o
theorem Own.drew (h : Own E t w base v l) : Own E t w.drew base v l := h
theorem Grew.app {b : Nat} (hg : Grew a w) (h : Own E t w b v l) (hb : a.heap.size ≤ b) (k : w.grownBy w' v.ownBlock) : Grew a w' :=
  hg.grown k fun j hj => Nat.le_trans hb (h.block j hj).1
theorem Rd.kept {A : Option Addr} {row : Option Nat} (h : Rd E w A l) (g : w.grownBy w' row) (hne : ∀ b o, A = some ⟨b, o, none⟩ → row ≠ some b) : Rd E w' A l := fun hl => by
  obtain ⟨b, o, e, hb, hc⟩ := h hl
  refine ⟨b, o, e, Nat.lt_of_lt_of_le hb g.size, fun i x hx j u hu => ?_⟩
  rw [← hc i x hx j u hu]
  exact World.cell?_of_block (g.block b hb (fun e2 => hne b o e e2.symm))
theorem rd_new (w : World) (x : T) (t : TypeId) {n : Nat} (hn : w.heap.size = n) : Rd E (w.alloc (.cells (E.enc x).toArray t)) (some ⟨n, 0, none⟩) [x] := by
  subst hn
  intro _
  refine ⟨w.heap.size, 0, rfl, by simp, fun i y hy j u hu => ?_⟩
  match i, hy with
  | 0, hy =>
    obtain rfl : x = y := by simpa using hy
    have h1 : (w.alloc (.cells (E.enc x).toArray t)).heap[w.heap.size]? = some (.cells (E.enc x).toArray t (0, 0)) := heap_alloc_new w _
    rw [Nat.zero_mul, Nat.add_zero, Nat.zero_add, cell_of_row _ _ j _ t (0, 0) h1]
    simpa using hu
  | i + 1, hy => simp at hy
theorem Rd.take {A : Option Addr} (h : Rd E w A l) (k : Nat) : Rd E w A (l.take k) := fun hl => by
  obtain ⟨b, o, e, hb, hc⟩ := h (by rw [List.length_take] at hl; omega)
  refine ⟨b, o, e, hb, fun i x hx j u hu => hc i x ?_ j u hu⟩
  rw [List.getElem?_take] at hx
  split at hx
  · exact hx
  · cases hx
theorem Rd.drop {b o k : Nat} {A' : Option Addr} (h : Rd E w (some ⟨b, o, none⟩) l) (hA : k < l.length → A' = some ⟨b, o + k * E.sz, none⟩) : Rd E w A' (l.drop k) := fun hl => by
  rw [List.length_drop] at hl
  obtain ⟨b', o', e, hb, hc⟩ := h (by omega)
  simp only [Option.some.injEq, Addr.mk.injEq, and_true] at e
  obtain ⟨rfl, rfl⟩ := e
  refine ⟨b, o + k * E.sz, hA (by omega), hb, fun i x hx j u hu => ?_⟩
  rw [List.getElem?_drop] at hx
  have := hc (k + i) x hx j u hu
  rwa [Nat.add_mul, show o + (k * E.sz + i * E.sz) + j = o + k * E.sz + i * E.sz + j by omega] at this
end

theorem run_append_nil_ {P : Program} (w : World) (base : Nat) (t ty e : TypeId) (i : TypeInfo) (size : Nat) (ht : P.underlying t = some (.slice e)) (hi : P.info? e = some i)
    (v : Value) (n : Nat) (xs : List Value) (hown : w.ownsRow base e size v n xs) (c : Nat) : (Builtin.append_ #[t, t] ty #[v, .slice none 0 c]).run P w = .ok v w := by
  rcases hown.2 with ⟨rfl, rfl⟩ | ⟨g, cap, cur, rfl, _, _, hnc, _⟩
  · simp [Builtin.append_, run_underlying ht, sizeOf, typeInfo, hi, Builtin.lenOf, Builtin.firstCells]
  · simp [Builtin.append_, run_underlying ht, sizeOf, typeInfo, hi, Builtin.lenOf, Builtin.firstCells, hnc, storeCells]

theorem run_append_rd {P : Program} {T : Type} {E : Enc T} (w : World) {ts te : TypeId} (S : SlInf P E ts te) (ty : TypeId) (base : Nat) (A0 : Option Addr) (n c0 : Nat) (l : List T) (hown : Own E te w base (.slice A0 n c0) l)
    (A : Option Addr) (m c : Nat) (l2 : List T) (hm : m = l2.length) (hr : Rd E w A l2) (hlen : l.length + l2.length ≤ 1099511627776) (hbase : base ≤ w.heap.size) :
    ∃ A' c' w', (Builtin.append_ #[ts, ts] ty #[.slice A0 n c0, .slice A m c]).run P w = .ok (.slice A' (n + m) c') w' ∧ Own E te w' base (.slice A' (n + m) c') (l ++ l2) ∧ w.grownBy w' (Value.ownBlock (.slice A0 n c0)) ∧
      (Value.ownBlock (.slice A' (n + m) c') = Value.ownBlock (.slice A0 n c0) ∨ Value.ownBlock (.slice A' (n + m) c') = some w.heap.size) := by
  subst hm
  obtain ⟨i, z, hi, hz, hsize, hzs, hby⟩ := S.inf
  have hn : n = l.length := by
    obtain ⟨_, _, he⟩ := hown.slice
    simp only [Value.slice.injEq] at he
    exact he.2.1
  subst hn
  have hbytes : (l.length + l2.length) * i.bytes ≤ 140737488355328 := Nat.le_trans (Nat.mul_le_mul hlen hby) (by decide)
  have key : ∀ v' w', w'.ownsRow base te E.sz v' (l.length + l2.length) (flat E l ++ flat E l2) → ∃ A' c', v' = .slice A' (l.length + l2.length) c' ∧ Own E te w' base (.slice A' (l.length + l2.length) c') (l ++ l2) := by
    intro v' w' h
    have h2 : Own E te w' base v' (l ++ l2) := by unfold Own; rw [flat_append, List.length_append]; exact h
    obtain ⟨A', c', rfl⟩ := h2.slice
    rw [List.length_append] at h2 ⊢
    exact ⟨A', c', rfl, h2⟩
  rcases Nat.eq_zero_or_pos l2.length with h0 | h0
  · have hl2 : l2 = [] := List.eq_nil_of_length_eq_zero h0
    subst hl2
    cases A with
    | none =>
      exact ⟨A0, c0, w, run_append_nil_ w base ts ty te i E.sz S.und hi _ _ _ hown c, by simpa using hown, World.grownBy.refl w _, .inl rfl⟩
    | some ad =>
      obtain ⟨v', w', hrun, h2, h3, _, h5⟩ := run_append_own_at (P := P) w base ts ty te i z E.sz i.bytes S.und hi hz hsize rfl hzs E.pos _ l.length (flat E l) hown ad 0 c [] (by simp) (by simp) (by simp) (by simp only [maxLen]; omega) hbytes hbase
      obtain ⟨A', c', rfl, h6⟩ := key v' w' h2
      exact ⟨A', c', w', hrun, h6, h3, h5⟩
  · obtain ⟨b, o, rfl, hb, hc⟩ := hr h0
    obtain ⟨v', w', hrun, h2, h3, _, h5⟩ := run_append_own_at (P := P) w base ts ty te i z E.sz i.bytes S.und hi hz hsize rfl hzs E.pos _ l.length (flat E l) hown ⟨b, o, none⟩ l2.length c (flat E l2) (flat_length E l2) (fun j u hj => by
      have hjl : j < l2.length * E.sz := by rw [← flat_length]; exact (List.getElem?_eq_some_iff.1 hj).1
      have hp := E.pos
      have hq : j / E.sz < l2.length := Nat.div_lt_of_lt_mul (by rwa [Nat.mul_comm] at hjl)
      obtain ⟨x, hx⟩ : ∃ x, l2[j / E.sz]? = some x := ⟨_, List.getElem?_eq_getElem hq⟩
      have hm : j % E.sz < (E.enc x).length := by rw [E.len]; exact Nat.mod_lt _ hp
      have h7 := flat_get E l2 (j / E.sz) x hx (j % E.sz) _ (List.getElem?_eq_getElem hm)
      have hdm : j / E.sz * E.sz + j % E.sz = j := by rw [Nat.mul_comm]; exact Nat.div_add_mod j E.sz
      rw [hdm, hj] at h7
      have h8 := hc (j / E.sz) x hx (j % E.sz) u (by rw [List.getElem?_eq_getElem hm]; exact h7.symm)
      have e : (⟨b, o, none⟩ : Addr).add j = ⟨b, o + j / E.sz * E.sz + j % E.sz, none⟩ := by
        rw [Nat.add_assoc, hdm]
        unfold Addr.add
        split
        · rename_i h9; have : j = 0 := by simpa using h9
          subst this; rfl
        · rfl
      rw [e]
      exact h8) (flat_one E l2) (by simp only [maxLen]; omega) hbytes hbase
    obtain ⟨A', c', rfl, h6⟩ := key v' w' h2
    exact ⟨A', c', w', hrun, h6, h3, h5⟩

theorem wp_append_rd {P : Program} {T : Type} {E : Enc T} (w : World) {o : Oper} {a : Act} {K : Act → World → Prop} {Q : Exit → Act → World → Prop} (s x : Operand) (t : TypeId)
    (ho : o.op = .call { callee := .builtin .append, args := #[s, x], argTypes := #[t, t] }) {te : TypeId} (S : SlInf P E t te) (base : Nat) (A0 : Option Addr) (n c0 : Nat) (l : List T) (hs : a.eval s = .slice A0 n c0) (hown : Own E te w base (.slice A0 n c0) l)
    (A : Option Addr) (m c : Nat) (l2 : List T) (hx : a.eval x = .slice A m c) (hm : m = l2.length) (hr : Rd E w A l2) (hlen : l.length + l2.length ≤ 1099511627776) (hbase : base ≤ w.heap.size)
    (h : ∀ A' c' w', Own E te w' base (.slice A' (n + m) c') (l ++ l2) → w.grownBy w' (Value.ownBlock (.slice A0 n c0)) → (Value.ownBlock (.slice A' (n + m) c') = Value.ownBlock (.slice A0 n c0) ∨ Value.ownBlock (.slice A' (n + m) c') = some w.heap.size) → K (a.put o.dst (.slice A' (n + m) c')) w') : o.wp P a w K Q := by
  obtain ⟨A', c', w', hrun, h2, h3, h4⟩ := run_append_rd (P := P) w S o.type base A0 n c0 l hown A m c l2 hm hr hlen hbase
  unfold Oper.wp execOp
  simp only [ho, resolve, invoke, builtin, Sem.run_bind, Sem.run_pure, Result.andThen_ok, List.map_toArray, List.map_cons, List.map_nil, hs, hx, hrun]
  exact h A' c' w' h2 h3 h4

theorem wpList_append_rd {P : Program} {T : Type} {E : Enc T} (w : World) {ops : Array Oper} {rest : List Oper} {o : Oper} {a : Act} {Q : Exit → Act → World → Prop} (hgd : o.guard = none) (s x : Operand) (t : TypeId)
    (ho : o.op = .call { callee := .builtin .append, args := #[s, x], argTypes := #[t, t] }) {te : TypeId} (S : SlInf P E t te) (base : Nat) (A0 : Option Addr) (n c0 : Nat) (l : List T) (hs : a.eval s = .slice A0 n c0) (hown : Own E te w base (.slice A0 n c0) l)
    (A : Option Addr) (m c : Nat) (l2 : List T) (hx : a.eval x = .slice A m c) (hm : m = l2.length) (hr : Rd E w A l2) (hlen : l.length + l2.length ≤ 1099511627776) (hbase : base ≤ w.heap.size)
    (h : ∀ A' c' w', Own E te w' base (.slice A' (n + m) c') (l ++ l2) → w.grownBy w' (Value.ownBlock (.slice A0 n c0)) → (Value.ownBlock (.slice A' (n + m) c') = Value.ownBlock (.slice A0 n c0) ∨ Value.ownBlock (.slice A' (n + m) c') = some w.heap.size) →
      wpList P ops Q rest (a.put o.dst (.slice A' (n + m) c')) w') : wpList P ops Q (o :: rest) a w :=
  wpList_plain hgd fun _ hK => wp_append_rd w s x t ho S base A0 n c0 l hs hown A m c l2 hx hm hr hlen hbase fun A' c' w' h2 h3 h4 => hK _ _ (h A' c' w' h2 h3 h4)

theorem step_append_rd {P : Program} {T : Type} {E : Enc T} (w : World) {ops : Array Oper} {o : Oper} {a : Act} {K : Act → World → Prop} {Q : Exit → Act → World → Prop} {F : Prop} (hgd : o.guard = none) (s x : Operand) (t : TypeId)
    (ho : o.op = .call { callee := .builtin .append, args := #[s, x], argTypes := #[t, t] }) {te : TypeId} (S : SlInf P E t te) (base : Nat) (A0 : Option Addr) (n c0 : Nat) (l : List T) (hs : a.eval s = .slice A0 n c0) (hown : Own E te w base (.slice A0 n c0) l)
    (A : Option Addr) (m c : Nat) (l2 : List T) (hx : a.eval x = .slice A m c) (hm : m = l2.length) (hr : Rd E w A l2) (hlen : l.length + l2.length ≤ 1099511627776) (hbase : base ≤ w.heap.size)
    (h : ∀ A' c' w', Own E te w' base (.slice A' (n + m) c') (l ++ l2) → w.grownBy w' (Value.ownBlock (.slice A0 n c0)) → (Value.ownBlock (.slice A' (n + m) c') = Value.ownBlock (.slice A0 n c0) ∨ Value.ownBlock (.slice A' (n + m) c') = some w.heap.size) →
      K (a.put o.dst (.slice A' (n + m) c')) w') : if Region.wanted o (yielded ops a.tmps) = true then Oper.wp P o a w K Q else F := by
  have hw : Region.wanted o (yielded ops a.tmps) = true := by simp [Region.wanted, hgd]
  rw [if_pos hw]
  exact wp_append_rd w s x t ho S base A0 n c0 l hs hown A m c l2 hx hm hr hlen hbase h

/-- The block b begins with the cells of x, none frozen. -/
def Bx {T : Type} (E : Enc T) (w : World) (b : Nat) (x : T) : Prop := b < w.heap.size ∧ (∀ j u, (E.enc x)[j]? = some u → w.cell? ⟨b, j, none⟩ = some u) ∧ ∀ j, w.frozen? ⟨b, j, none⟩ = false
section
variable {T : Type} {E : Enc T} {w w' : World} {b : Nat} {x : T}
theorem Bx.new_ (w : World) (x : T) (t : TypeId) : Bx E (w.alloc (.cells (E.enc x).toArray t)) w.heap.size x := by
  have h1 : (w.alloc (.cells (E.enc x).toArray t)).heap[w.heap.size]? = some (.cells (E.enc x).toArray t (0, 0)) := heap_alloc_new w _
  refine ⟨by simp, fun j u hu => ?_, fun j => ?_⟩
  · rw [cell_of_row _ _ j _ t (0, 0) h1]
    simpa using hu
  · exact frozen_of_row _ _ j _ t h1
theorem Bx.of_block {t : TypeId} (h : w.heap[b]? = some (.cells (E.enc x).toArray t (0, 0))) : Bx E w b x := by
  refine ⟨(Array.getElem?_eq_some_iff.1 h).1, fun j u hu => ?_, fun j => frozen_of_row _ _ j _ t h⟩
  rw [cell_of_row _ _ j _ t (0, 0) h]
  simpa using hu
theorem Bx.kept {row : Option Nat} (h : Bx E w b x) (g : w.grownBy w' row) (hne : row ≠ some b) : Bx E w' b x := by
  have hb := g.block b h.1 (fun e => hne e.symm)
  exact ⟨Nat.lt_of_lt_of_le h.1 g.size, fun j u hu => (World.cell?_of_block hb).trans (h.2.1 j u hu), fun j => (World.frozen?_of_block hb).trans (h.2.2 j)⟩
theorem Bx.grew (h : Bx E w b x) (g : Grew w w') : Bx E w' b x := h.kept (g.by_ none) (by simp)
theorem Bx.alloc (h : Bx E w b x) (o : Obj) : Bx E (w.alloc o) b x := h.kept (World.grownBy_alloc w o none) (by simp)
theorem Bx.drew (h : Bx E w b x) : Bx E w.drew b x := h
theorem Bx.far {p : Addr} (h : Bx E w b x) (hp : p.block ≠ b) (u : Value) : Bx E (w.setCell p u) b x :=
  h.kept (row := some p.block) ⟨rfl, rfl, rfl, by simp, fun k _ hk => heap_setCell_other w p k u (fun e => hk (by rw [e]))⟩ (by simpa using hp)
theorem Bx.rd (h : Bx E w b x) : Rd E w (some ⟨b, 0, none⟩) [x] := by
  intro _
  refine ⟨b, 0, rfl, h.1, fun i y hy j u hu => ?_⟩
  match i, hy with
  | 0, hy =>
    obtain rfl : x = y := by simpa using hy
    have := h.2.1 j u hu
    simpa using this
  | i + 1, hy => simp at hy
end
theorem Own.ne_ {T : Type} {E : Enc T} {t : TypeId} {w : World} {base b : Nat} {v : Value} {l : List T} (h : Own E t w base v l) (hb : b < base ∨ w.heap.size ≤ b) : v.ownBlock ≠ some b := fun e => by
  have := h.block b e
  omega
theorem Own.far {T : Type} {E : Enc T} {t : TypeId} {w : World} {base : Nat} {v : Value} {l : List T} (h : Own E t w base v l) {p : Addr} (hp : v.ownBlock ≠ some p.block) (u : Value) : Own E t (w.setCell p u) base v l :=
  h.kept (row := some p.block) ⟨rfl, rfl, rfl, by simp, fun k _ hk => heap_setCell_other w p k u (fun e => hk (by rw [e]))⟩ (.inr hp)
theorem le_al {a w : World} (g : Grew a w) {n : Nat} (hn : a.heap.size = n) {o : Obj} : n ≤ (w.alloc o).heap.size := by
  subst hn; simp; exact Nat.le_succ_of_le g.le
theorem ne_of_at {v v' : Value} {n b : Nat} (h : v'.ownBlock = v.ownBlock ∨ v'.ownBlock = some n) (h1 : v.ownBlock ≠ some b) (h2 : n ≠ b) : v'.ownBlock ≠ some b := by
  rcases h with h | h <;> rw [h]
  · exact h1
  · simpa using h2
theorem le_of_grew {a w : World} (g : Grew a w) {n : Nat} (hn : a.heap.size = n) : n ≤ w.heap.size := hn ▸ g.le
theorem Own.cap {T : Type} {E : Enc T} {t : TypeId} {w : World} {base : Nat} {A : Option Addr} {n c : Nat} {l : List T} (h : Own E t w base (.slice A n c) l) : n = l.length ∧ n ≤ c ∧ c ≤ maxLen := by
  rcases h.2 with ⟨h0, h1⟩ | ⟨g, cap, cur, h0, _, _, h1, h2, _⟩
  · simp only [Value.slice.injEq] at h0
    obtain ⟨_, rfl, rfl⟩ := h0
    exact ⟨by omega, Nat.le_refl _, Nat.zero_le _⟩
  · simp only [Value.slice.injEq] at h0
    obtain ⟨_, rfl, rfl⟩ := h0
    exact ⟨rfl, h1, h2⟩
theorem rdnil_ {T : Type} {E : Enc T} {a w : World} {A : Option Addr} (g : Grew a w) : Rd E w A [] := Rd.nil
theorem own_fin1 {T : Type} {E : Enc T} {t : TypeId} {w : World} {base : Nat} {A : Option Addr} {n c : Nat} {l l' : List T} (h : Own E t w base (.slice A n c) l) (e : l' = l) {m : Nat} (hm : m = n) : Value.slice A m c = .slice A l'.length c := by
  subst e
  obtain ⟨rfl, _⟩ := h.cap
  rw [hm]
theorem own_fin2 {T : Type} {E : Enc T} {t : TypeId} {w : World} {base : Nat} {A : Option Addr} {n c : Nat} {l l' : List T} (h : Own E t w base (.slice A n c) l) (e : l' = l) : Own E t w base (.slice A l'.length c) l' := by
  subst e
  obtain ⟨rfl, _⟩ := h.cap
  exact h
theorem own_ne {T T' : Type} {E : Enc T} {E' : Enc T'} {t t' : TypeId} {w w' : World} {b b' : Nat} {v v' : Value} {l : List T} {l' : List T'} (h : Own E t w b v l) (k : Own E' t' w' b' v' l') (hle : w.heap.size ≤ b') : v'.ownBlock = none ∨ v'.ownBlock ≠ v.ownBlock := by
  cases hv : v'.ownBlock with
  | none => exact .inl rfl
  | some j =>
    refine .inr fun e => ?_
    have h1 := k.block j hv
    have h2 := h.block j e.symm
    omega
theorem own_up {T : Type} {E : Enc T} {t : TypeId} {w w' : World} {b n c : Nat} {A : Option Addr} {l : List T} (h : Own E t w b (.slice A n c) l) (g : Grew w w') (e : l.length = n) : Rd E w' A l := (h.grew g).rd
end Go.Proofs.Ytembbgkhmnalpaa
