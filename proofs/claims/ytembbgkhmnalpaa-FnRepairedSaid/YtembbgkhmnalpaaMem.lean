/- Memory: worlds that have grown, written out; regions that draw their order and whose calls only add memory, walked once; slices that read as lists. Conditions: none. -/
import Derived.Test.YtembbgkhmnalpaaBase
import Derived.Deep.DeepCutAuto
import Derived.Deep.LoopGhost
import Derived.Maps.AppendAt
import Derived.Deep.AppendLies
import Derived.Test.YtembbgkhmnalpaaLift
namespace Go.Proofs.Ytembbgkhmnalpaa
open Go.RowKit Go.ChangeShapes Go.WideShapes Go.Deep
set_option linter.unusedVariables false
set_option linter.unusedSimpArgs false

/-- What a call has added: blocks, and the count of draws. -/
structure Grn where
  objs : Array Obj
  draws : Nat
instance : Nonempty Grn := ⟨⟨#[], 0⟩⟩
/-- The world w with the blocks n.objs behind it, n.draws draws made. -/
def gw (w : World) (n : Grn) : World := { w with heap := w.heap ++ n.objs, drawn := n.draws }
theorem gw_grew (w : World) (n : Grn) : Grew w (gw w n) :=
  ⟨rfl, rfl, rfl, by simp [gw], fun k hk => by simp [gw, Array.getElem?_append, hk]⟩
theorem gw_of_grew {w w' : World} (h : Grew w w') : ∃ n, w' = gw w n := by
  refine ⟨⟨w'.heap.extract w.heap.size w'.heap.size, w'.drawn⟩, ?_⟩
  have hh : w'.heap = w.heap ++ w'.heap.extract w.heap.size w'.heap.size := by
    apply Array.ext_getElem?
    intro i
    have hs := h.size
    by_cases hi : i < w.heap.size
    · rw [h.block i hi, Array.getElem?_append, if_pos hi]
    · rw [Array.getElem?_append, if_neg hi, Array.getElem?_extract]
      by_cases h2 : i < w'.heap.size
      · rw [if_pos (by omega)]; congr 1; omega
      · rw [if_neg (by omega)]; exact Array.getElem?_eq_none (by omega)
  unfold gw
  rw [← hh, ← h.os, ← h.tape, ← h.output]
theorem gw_trans {w w' : World} {n : Grn} (h : Grew (gw w n) w') : ∃ m, w' = gw w m := gw_of_grew ((gw_grew w n).trans h)
@[go_sem] theorem gw_cell {w : World} {n : Grn} {a : Addr} (h : (w.cell? a).isSome = true) : (gw w n).cell? a = w.cell? a := by
  have hb : a.block < w.heap.size := by
    rcases Nat.lt_or_ge a.block w.heap.size with h1 | h1
    · exact h1
    · unfold World.cell? at h
      rw [Array.getElem?_eq_none h1] at h
      cases h
  exact (gw_grew w n).cell hb

theorem quiet_grew {P : Program} {f : FuncId} {args : Array Value} {w : World} {n : Grn} {v : Value}
    (h : Calls P f args (gw w n) fun e w' => e = .returned v ∧ Grew (gw w n) w') : Calls P f args (gw w n) fun e w'' => e = .returned v ∧ ∃ m, w'' = gw w m :=
  h.mono fun _ _ ⟨he, hm⟩ => ⟨he, gw_trans hm⟩
theorem quiet_same {P : Program} {f : FuncId} {args : Array Value} {w : World} {n : Grn} {v : Value}
    (h : Calls P f args (gw w n) fun e w' => e = .returned v ∧ gw w n = w') : Calls P f args (gw w n) fun e w'' => e = .returned v ∧ ∃ m, w'' = gw w m :=
  h.mono fun _ _ ⟨he, hm⟩ => ⟨he, n, hm.symm⟩

/-- A region that draws its order, whose operations read and whose calls only add memory: one walk in the order of the text. -/
theorem wp_region_grow_lit {P : Program} {id : Nat} {Q : Exit → Act → World → Prop} {a : Act} {w : World} {l : List Oper} (hm : P.follows .mixedOrders = true) (hB : Region.lexB .any l.toArray = true)
    (h : wpQuiet P l.toArray (fun w' => ∃ n : Grn, w' = gw w n) (fun a' => ∀ w', Grew w w' → Q .normal a' w') l a) : (Code.region id l.toArray true).wp P Q a w := by
  refine wp_region_quiet (C := fun w' => ∃ n : Grn, w' = gw w n) hm hB (gw_of_grew (Grew.refl w).drew) ?_
  have e : (fun a' => ∀ w', (∃ n : Grn, w' = gw w n) → Q .normal a' w') = fun a' => ∀ w', Grew w w' → Q .normal a' w' := by
    funext a'
    apply propext
    constructor
    · intro h w' hw'
      exact h w' (gw_of_grew hw')
    · rintro h w' ⟨n, rfl⟩
      exact h _ (gw_grew w n)
  rw [e]
  simpa using h

/-- How an element lies in memory: its cells. -/
structure Enc (T : Type) where
  enc : T → List Value
  sz : Nat
  pos : 0 < sz
  len : ∀ x, (enc x).length = sz
  one : ∀ x, ∀ u ∈ enc x, u.oneCell' = true

/-- The slice at A reads as the list l. -/
def Rd {T : Type} (E : Enc T) (w : World) (A : Option Addr) (l : List T) : Prop :=
  0 < l.length → ∃ b o, A = some ⟨b, o, none⟩ ∧ b < w.heap.size ∧ ∀ i x, l[i]? = some x → ∀ j u, (E.enc x)[j]? = some u → w.cell? ⟨b, o + i * E.sz + j, none⟩ = some u

section
variable {T : Type} {E : Enc T} {w w' : World} {A : Option Addr} {l : List T}
theorem Rd.grew (h : Rd E w A l) (g : Grew w w') : Rd E w' A l := fun hl => by
  obtain ⟨b, o, e, hb, hc⟩ := h hl
  exact ⟨b, o, e, Nat.lt_of_lt_of_le hb g.le, fun i x hx j u hu => (g.cell (p := ⟨b, o + i * E.sz + j, none⟩) hb).trans (hc i x hx j u hu)⟩
theorem Rd.gw (h : Rd E w A l) (n : Grn) : Rd E (gw w n) A l := h.grew (gw_grew w n)
theorem Rd.at_ (h : Rd E w A l) {k : Nat} (hk : k < l.length) : ∃ b o, A = some ⟨b, o, none⟩ ∧ b < w.heap.size ∧ ∀ i x, l[i]? = some x → ∀ j u, (E.enc x)[j]? = some u → w.cell? ⟨b, o + i * E.sz + j, none⟩ = some u := h (by omega)
theorem Rd.nil : Rd E w A [] := fun h => by simp at h
end

def flat {T : Type} (E : Enc T) (l : List T) : List Value := l.flatMap E.enc
theorem flat_length {T : Type} (E : Enc T) (l : List T) : (flat E l).length = l.length * E.sz := by
  induction l with
  | nil => simp [flat]
  | cons x l ih =>
    have : flat E (x :: l) = E.enc x ++ flat E l := by simp [flat]
    rw [this, List.length_append, ih, E.len, List.length_cons, Nat.succ_mul, Nat.add_comm]
theorem flat_append {T : Type} (E : Enc T) (l m : List T) : flat E (l ++ m) = flat E l ++ flat E m := by simp [flat]
theorem flat_get {T : Type} (E : Enc T) : ∀ (l : List T) (i : Nat) (x : T), l[i]? = some x → ∀ j u, (E.enc x)[j]? = some u → (flat E l)[i * E.sz + j]? = some u
  | [], i, x, h, _, _, _ => by simp at h
  | y :: l, 0, x, h, j, u, hj => by
    have e : flat E (y :: l) = E.enc y ++ flat E l := by simp [flat]
    obtain rfl : y = x := by simpa using h
    have hl : j < (E.enc y).length := (List.getElem?_eq_some_iff.1 hj).1
    rw [e, Nat.zero_mul, Nat.zero_add, List.getElem?_append_left hl]
    exact hj
  | y :: l, i + 1, x, h, j, u, hj => by
    have e : flat E (y :: l) = E.enc y ++ flat E l := by simp [flat]
    rw [e, List.getElem?_append_right (by rw [E.len, Nat.succ_mul]; omega), E.len, show (i + 1) * E.sz + j - E.sz = i * E.sz + j by rw [Nat.succ_mul]; omega]
    exact flat_get E l i x (by simpa using h) j u hj
theorem flat_one {T : Type} (E : Enc T) (l : List T) : ∀ u ∈ flat E l, u.oneCell' = true := by
  intro u hu
  simp only [flat, List.mem_flatMap] at hu
  obtain ⟨x, _, hx⟩ := hu
  exact E.one x u hx

/-- The slice value v is the call's own and holds the list l. -/
def Own {T : Type} (E : Enc T) (t : TypeId) (w : World) (base : Nat) (v : Value) (l : List T) : Prop := w.ownsRow base t E.sz v l.length (flat E l)
theorem Grew.by_ {a w : World} (h : Grew a w) (row : Option Nat) : a.grownBy w row := ⟨h.os, h.tape, h.output, h.size, fun k hk _ => h.block k hk⟩
theorem ownsRow_grew {w w' : World} {base : Nat} {e : TypeId} {size n : Nat} {v : Value} {xs : List Value} (h : w.ownsRow base e size v n xs) (g : Grew w w') : w'.ownsRow base e size v n xs := by
  refine h.kept (g.by_ none) ?_
  cases hv : v.ownBlock
  · exact .inl rfl
  · exact .inr (by simp)
theorem Own.rd {T : Type} {E : Enc T} {t : TypeId} {w : World} {base : Nat} {A : Option Addr} {n c : Nat} {l : List T} (h : Own E t w base (.slice A n c) l) : Rd E w A l := by
  intro hl
  obtain ⟨g, cap, hv, _, hlt⟩ := h.form hl
  have hA : A = some ⟨g, 0, none⟩ := by injection hv
  subst hA
  refine ⟨g, 0, rfl, hlt, fun i x hx j u hu => ?_⟩
  have h1 := h.cells (g := g) rfl (i * E.sz + j) u (flat_get E l i x hx j u hu)
  have e : (⟨g, 0, none⟩ : Addr).add (i * E.sz + j) = ⟨g, 0 + i * E.sz + j, none⟩ := by
    unfold Addr.add
    split
    · rename_i h0; simp [show i * E.sz + j = 0 from by simpa using h0]
    · simp [Nat.add_assoc]
  rw [← e]
  exact h1
theorem Own.grew {T : Type} {E : Enc T} {t : TypeId} {w w' : World} {base : Nat} {v : Value} {l : List T} (h : Own E t w base v l) (g : Grew w w') : Own E t w' base v l := ownsRow_grew h g

/-- Several cells set, one behind the other. -/
def setL : List Value → Nat → List Value → List Value
  | xs, _, [] => xs
  | xs, i, u :: us => setL (xs.set i u) (i + 1) us
def storeL : World → Nat → Nat → List Value → World
  | w, _, _, [] => w
  | w, g, i, u :: us => storeL (w.setCell ⟨g, i, none⟩ u) g (i + 1) us
theorem setL_app : ∀ (us p r : List Value), us.length ≤ r.length → setL (p ++ r) p.length us = p ++ us ++ r.drop us.length
  | [], p, r, _ => by simp [setL]
  | u :: us, p, [], h => by simp at h
  | u :: us, p, y :: r, h => by
    have e : (p ++ y :: r).set p.length u = (p ++ [u]) ++ r := by rw [List.set_append_right _ _ (Nat.le_refl _)]; simp
    have := setL_app us (p ++ [u]) r (by simpa using h)
    simp only [setL, e]
    rw [List.length_append, List.length_singleton] at this
    rw [this]
    simp
theorem own_stores {base : Nat} {e : TypeId} {size g n cap : Nat} : ∀ (us xs : List Value) (w : World) (i : Nat), w.ownsRow base e size (.slice (some ⟨g, 0, none⟩) n cap) n xs →
    (storeL w g i us).ownsRow base e size (.slice (some ⟨g, 0, none⟩) n cap) n (setL xs i us)
  | [], _, _, _, h => h
  | u :: us, xs, w, i, h => own_stores us _ _ (i + 1) (h.stored i u).1

/-- What a count of sizes says: some number not above m; if it is not negative, there are at most m elements. -/
def SzPost (n : Nat) (m : Int) (w : World) (e : Ending) (w' : World) : Prop := ∃ r : Int, e = .returned (.int .i64 r) ∧ r ≤ m ∧ (0 ≤ r → (n : Int) ≤ m) ∧ Grew w w'

theorem Grew.grown {a w w' : World} {row : Option Nat} (h : Grew a w) (hg : w.grownBy w' row) (hr : ∀ k, row = some k → a.heap.size ≤ k) : Grew a w' := Below.grown h hg h.le hr
theorem list_of_fn {T : Type} (n : Nat) (p : Nat → T → Prop) (h : ∀ i, i < n → ∃ x, p i x) : ∃ l : List T, l.length = n ∧ ∀ i x, l[i]? = some x → p i x := by
  induction n with
  | zero => exact ⟨[], rfl, fun i x hx => by simp at hx⟩
  | succ n ih =>
    obtain ⟨l, hl, hp⟩ := ih fun i hi => h i (by omega)
    obtain ⟨x, hx⟩ := h n (by omega)
    refine ⟨l ++ [x], by simp [hl], fun i y hy => ?_⟩
    by_cases hi : i < l.length
    · rw [List.getElem?_append_left hi] at hy
      exact hp i y hy
    · rw [List.getElem?_append_right (by omega)] at hy
      have h0 : i - l.length = 0 := by
        have := (List.getElem?_eq_some_iff.1 hy).1
        simp at this
        omega
      rw [h0] at hy
      obtain rfl : x = y := by simpa using hy
      have : i = n := by omega
      rw [this]
      exact hx
theorem cell?_spot {w : World} {a : Addr} {u : Value} (h : w.cell? a = some u) : a.spot = none ∧ a.block < w.heap.size := by
  unfold World.cell? at h
  cases hb : w.heap[a.block]? with
  | none => rw [hb] at h; cases h
  | some o =>
    have hlt : a.block < w.heap.size := (Array.getElem?_eq_some_iff.1 hb).1
    rw [hb] at h
    cases o <;> simp at h
    exact ⟨by
      cases hs : a.spot with
      | none => rfl
      | some _ => simp [hs] at h, hlt⟩
/-- A reading by 'Addr.add' is a reading. -/
theorem rd_of_add {T : Type} {E : Enc T} {w : World} {a : Addr} {l : List T} (h : ∀ i x, l[i]? = some x → ∀ j u, (E.enc x)[j]? = some u → w.cell? (a.add (i * E.sz + j)) = some u) : Rd E w (some a) l := by
  intro hl
  obtain ⟨x, hx⟩ : ∃ x, l[0]? = some x := ⟨_, List.getElem?_eq_getElem hl⟩
  have hj : 0 < (E.enc x).length := by rw [E.len]; exact E.pos
  have h0 := h 0 x hx 0 _ (List.getElem?_eq_getElem hj)
  have ea : a.add (0 * E.sz + 0) = a := by simp [Addr.add]
  rw [ea] at h0
  obtain ⟨hs, hb⟩ := cell?_spot h0
  obtain ⟨b, o, s⟩ := a
  simp only at hs hb
  subst hs
  refine ⟨b, o, rfl, hb, fun i x hx j u hu => ?_⟩
  have h1 := h i x hx j u hu
  have e : (⟨b, o, none⟩ : Addr).add (i * E.sz + j) = ⟨b, o + i * E.sz + j, none⟩ := by
    unfold Addr.add
    split
    · rename_i h2
      have : i * E.sz + j = 0 := by simpa using h2
      rw [Nat.add_assoc, this]; rfl
    · simp [Nat.add_assoc]
  rw [← e]
  exact h1
section
variable {H : Type} {enc : TypeId × Value → H} {P : Program} {w : World} {base : Nat} {spare : Nat → Bool} {held : Bool}
theorem open_slice_fields {t e : TypeId} {fs : Array Field} {fuel : Nat} {cs : List Value} {x : DataW H × List MemPlace} (ht : P.underlying t = some (.slice e)) (he : P.underlying e = some (.struct fs))
    (hone : oneCellFields P fs = true) (hC : P.cellsOf e = fs.size) (h : DataW.trod enc P w base spare held fuel t cs = some x) :
    (cs = [.slice none 0 0] ∧ x = (.nil, [])) ∨
    ∃ (a : Addr) (len cap m : Nat) (D : Nat → DataW H) (Pl : Nat → List MemPlace), cs = [.slice (some a) len cap] ∧ base ≤ a.block ∧ len ≤ cap ∧ cap ≤ maxLen ∧ m = (if spare a.block then cap else len) ∧
      x = (.slice ((List.range len).map D) ((List.range (m - len)).map fun j => D (len + j)), MemPlace.row a (m * fs.size) ++ (List.range m).flatMap Pl) ∧
      ∀ i, i < m → ∃ (ys : List (DataW H × List MemPlace)) (n : Nat), D i = .agg (ys.map (·.1)) ∧ Pl i = ys.flatMap (·.2) ∧ ys.length = fs.size ∧
        ∀ (j : Nat) (f : Field), fs[j]? = some f → ∃ (v : Value) (y : DataW H × List MemPlace), w.cell? (a.add (i * fs.size + j)) = some v ∧ ys[j]? = some y ∧ DataW.trod enc P w base spare held n f.type [v] = some y := by
  rcases open_slice ht h with h0 | ⟨a, len, cap, m, n, D, Pl, hcs, hb, hl, hm, hmm, hx, hi⟩
  · exact .inl h0
  · refine .inr ⟨a, len, cap, m, D, Pl, hcs, hb, hl, hm, hmm, by rw [hC] at hx; exact hx, fun i him => ?_⟩
    obtain ⟨cs', hc, ht'⟩ := hi i him
    rw [hC] at hc
    obtain ⟨ys, n', hn', hy, hlen, hyl, hf⟩ := DataW.trod_struct he ht'
    obtain ⟨_, hcl, hat⟩ := World.cells?_some hc
    simp only [Prod.mk.injEq] at hy
    refine ⟨ys, n', hy.1, hy.2, hyl, fun j f hj => ?_⟩
    obtain ⟨ho, hk⟩ := hone_of hone j f hj
    have hjl : j < fs.size := (Array.getElem?_eq_some_iff.1 hj).1
    have hcell := hat j hjl
    have hv : cs'[j]? = some (cs'[j]'(by omega)) := List.getElem?_eq_getElem (by omega)
    have h1 := hf j f hj
    rw [ho, hk] at h1
    have hone' : (cs'.drop j).take 1 = [cs'[j]'(by omega)] := by
      rw [List.drop_eq_getElem_cons (by omega)]
      rfl
    rw [hone'] at h1
    have hys : ys[j]? = some (ys[j]'(by omega)) := List.getElem?_eq_getElem (by omega)
    refine ⟨_, _, ?_, hys, h1.trans hys⟩
    rw [← Go.Deep.add_add, hcell, hv]
end
end Go.Proofs.Ytembbgkhmnalpaa
