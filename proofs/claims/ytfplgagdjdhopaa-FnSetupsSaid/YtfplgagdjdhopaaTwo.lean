/- Append of one element on a slice of the call's own: the shorter slice stays readable and owned. Conditions: none. -/
import Derived.Test.YtfplgagdjdhopaaApp
import Derived.Deep.DeepAppendRoom
namespace Go.Proofs.Ytfplgagdjdhopaa
open Go.RowKit Go.ChangeShapes Go.WideShapes Go.Deep
set_option linter.unusedVariables false
set_option linter.unusedSimpArgs false

/-- What lies in a slice of the call's own, of its first elements. -/
theorem Own.front {T : Type} {E : Enc T} {t : TypeId} {w : World} {base m c : Nat} {A : Option Addr} {l : List T} {x : T} (h : Own E t w base (.slice A m c) (l ++ [x])) (hm : m = l.length + 1) : Own E t w base (.slice A l.length c) l := by
  subst hm
  refine ⟨flat_length E l, ?_⟩
  rcases h.2 with ⟨e, h0⟩ | ⟨g, cap, cur, e, h1, h2, h3, h4, h5, h6⟩
  · simp at h0
  · simp only [Value.slice.injEq] at e
    obtain ⟨rfl, _, rfl⟩ := e
    refine .inr ⟨g, c, cur, rfl, h1, h2, by simp only [List.length_append, List.length_cons, List.length_nil] at h3; omega, h4, h5, ?_⟩
    have e2 : flat E (l ++ [x]) = flat E l ++ flat E [x] := flat_append ..
    rw [e2] at h6
    have h7 := congrArg (List.take (l.length * E.sz)) h6
    rw [List.take_take, List.take_left' (flat_length E l)] at h7
    rw [← h7]
    congr 1
    rw [List.length_append]
    exact (Nat.min_eq_left (Nat.mul_le_mul_right _ (Nat.le_add_right _ _))).symm

theorem run_append_two {P : Program} {T : Type} {E : Enc T} (w : World) {ts te : TypeId} (S : SlInf P E ts te) (ty : TypeId) (base : Nat) (A0 : Option Addr) (n c0 : Nat) (l : List T) (hown : Own E te w base (.slice A0 n c0) l)
    (b o c : Nat) (x : T) (hr : Rd E w (some ⟨b, o, none⟩) [x]) (hlen : l.length + 1 ≤ 1099511627776) (hbase : base ≤ w.heap.size) :
    ∃ A' c' w', (Builtin.append_ #[ts, ts] ty #[.slice A0 n c0, .slice (some ⟨b, o, none⟩) 1 c]).run P w = .ok (.slice A' (n + 1) c') w' ∧ Own E te w' base (.slice A' (n + 1) c') (l ++ [x]) ∧ Own E te w' base (.slice A0 n c0) l ∧
      w.grownBy w' (Value.ownBlock (.slice A0 n c0)) ∧ ((A' = A0 ∧ c' = c0 ∧ 0 < c0) ∨ (A' = some ⟨w.heap.size, 0, none⟩ ∧ w.grownBy w' none)) := by
  obtain ⟨i, z, hi, hz, hsize, hzs, hby⟩ := S.inf
  have hn : n = l.length := by
    obtain ⟨_, _, he⟩ := hown.slice
    simp only [Value.slice.injEq] at he
    exact he.2.1
  subst hn
  have hbytes : (l.length + 1) * i.bytes ≤ 140737488355328 := Nat.le_trans (Nat.mul_le_mul hlen hby) (by decide)
  have hnl : (flat E [x]).length = 1 * E.sz := flat_length E [x]
  have hnews : ∀ j u, (flat E [x])[j]? = some u → w.cell? ((⟨b, o, none⟩ : Addr).add j) = some u := fun j u hj => by
    obtain ⟨b', o', e, hb, hc⟩ := hr (by simp)
    simp only [Option.some.injEq, Addr.mk.injEq, and_true] at e
    obtain ⟨rfl, rfl⟩ := e
    have e2 : flat E [x] = E.enc x := by simp [flat]
    rw [e2] at hj
    have := hc 0 x rfl j u hj
    rw [Nat.zero_mul, Nat.add_zero] at this
    have e : (⟨b, o, none⟩ : Addr).add j = ⟨b, o + j, none⟩ := by
      unfold Addr.add
      split
      · rename_i h9; have : j = 0 := by simpa using h9
        subst this; rfl
      · rfl
    rw [e]
    exact this
  have hone := flat_one E [x]
  have key : ∀ A' c' w', w'.ownsRow base te E.sz (.slice A' (l.length + 1) c') (l.length + 1) (flat E l ++ flat E [x]) → Own E te w' base (.slice A' (l.length + 1) c') (l ++ [x]) := by
    intro A' c' w' h
    unfold Own
    rw [flat_append, List.length_append]
    exact h
  have hnil : l.length + 1 ≤ maxLen := by simp only [maxLen]; omega
  rcases hown.2 with ⟨h0, h1⟩ | ⟨g, cap, cur, h0, hbg, hg, hnc, hcm, hcs, htake⟩
  · simp only [Value.slice.injEq] at h0
    obtain ⟨rfl, _, rfl⟩ := h0
    have hl : l = [] := List.eq_nil_of_length_eq_zero h1
    subst hl
    obtain ⟨v', w', hrun, h2, h3, _, h5⟩ := run_append_own_at (P := P) w base ts ty te i z E.sz i.bytes S.und hi hz hsize rfl hzs E.pos _ 0 (flat E []) hown ⟨b, o, none⟩ 1 c (flat E [x]) hnl hnews hone hnil hbytes hbase
    have hrun2 := run_append_nil (P := P) w ts ty te i z S.und hi hz ⟨b, o, none⟩ 1 c (flat E [x]) (by rw [hsize]; exact hnl) hnews (by omega) (by omega) (by simp only [List.length_nil, Nat.zero_add] at hbytes; omega)
    have e := hrun.symm.trans hrun2
    injection e with e1 e2
    subst e1
    refine ⟨_, _, w', hrun, key _ _ _ h2, Own.none_, h3, .inr ⟨rfl, ?_⟩⟩
    rw [e2]
    exact ⟨rfl, rfl, rfl, by simp, fun k hk _ => heap_alloc_old w.drew _ hk⟩
  · simp only [Value.slice.injEq] at h0
    obtain ⟨rfl, _, rfl⟩ := h0
    by_cases hroom : l.length + 1 ≤ c0
    · obtain ⟨w', hrun, h2, h3⟩ := run_append_own_spare (P := P) w base ts ty te i E.sz S.und hi hsize g l.length c0 (flat E l) hown ⟨b, o, none⟩ 1 c (flat E [x]) hnl hnews hone hroom
      have h4 := key _ _ _ h2
      exact ⟨_, _, w', hrun, h4, h4.front rfl, h3, .inl ⟨rfl, rfl, by omega⟩⟩
    · have holds : ∀ j u, (flat E l)[j]? = some u → w.cell? ((⟨g, 0, none⟩ : Addr).add j) = some u := World.ownsRow.cells hown (g := g) rfl
      obtain ⟨v', w', hrun, h2, h3, _, h5⟩ := run_append_own_at (P := P) w base ts ty te i z E.sz i.bytes S.und hi hz hsize rfl hzs E.pos _ l.length (flat E l) hown ⟨b, o, none⟩ 1 c (flat E [x]) hnl hnews hone hnil hbytes hbase
      have hrun2 := run_append_grow (P := P) w ts ty te i z S.und hi hz ⟨g, 0, none⟩ l.length c0 (flat E l) (by rw [hsize]; exact flat_length E l) holds ⟨b, o, none⟩ 1 c (flat E [x]) (by rw [hsize]; exact hnl) hnews (by omega) (by omega) (growslice_fits (by omega) hbytes)
      have e := hrun.symm.trans hrun2
      injection e with e1 e2
      subst e1
      have hnone : w.grownBy w' none := by
        rw [e2]
        exact ⟨rfl, rfl, rfl, by simp, fun k hk _ => heap_alloc_old w.drew _ hk⟩
      exact ⟨_, _, w', hrun, key _ _ _ h2, hown.kept hnone (.inr (by simp [Value.ownBlock])), h3, .inr ⟨rfl, hnone⟩⟩

theorem wpList_append_two {P : Program} {T : Type} {E : Enc T} (w : World) {ops : Array Oper} {rest : List Oper} {o : Oper} {a : Act} {Q : Exit → Act → World → Prop} (hgd : o.guard = none) (s x : Operand) (t : TypeId)
    (ho : o.op = .call { callee := .builtin .append, args := #[s, x], argTypes := #[t, t] }) {te : TypeId} (S : SlInf P E t te) (base : Nat) (A0 : Option Addr) (n c0 : Nat) (l : List T) (hs : a.eval s = .slice A0 n c0) (hown : Own E te w base (.slice A0 n c0) l)
    (b f c : Nat) (y : T) (hx : a.eval x = .slice (some ⟨b, f, none⟩) 1 c) (hr : Rd E w (some ⟨b, f, none⟩) [y]) (hlen : l.length + 1 ≤ 1099511627776) (hbase : base ≤ w.heap.size)
    (h : ∀ A' c' w', Own E te w' base (.slice A' (n + 1) c') (l ++ [y]) → Own E te w' base (.slice A0 n c0) l → w.grownBy w' (Value.ownBlock (.slice A0 n c0)) → ((A' = A0 ∧ c' = c0 ∧ 0 < c0) ∨ (A' = some ⟨w.heap.size, 0, none⟩ ∧ w.grownBy w' none)) →
      wpList P ops Q rest (a.put o.dst (.slice A' (n + 1) c')) w') : wpList P ops Q (o :: rest) a w := by
  refine wpList_plain hgd fun K hK => ?_
  obtain ⟨A', c', w', hrun, h2, h3, h4, h5⟩ := run_append_two (P := P) w S o.type base A0 n c0 l hown b f c y hr hlen hbase
  unfold Oper.wp execOp
  simp only [ho, resolve, invoke, builtin, Sem.run_bind, Sem.run_pure, Result.andThen_ok, List.map_toArray, List.map_cons, List.map_nil, hs, hx, hrun]
  exact hK _ _ (h A' c' w' h2 h3 h4 h5)
end Go.Proofs.Ytfplgagdjdhopaa
