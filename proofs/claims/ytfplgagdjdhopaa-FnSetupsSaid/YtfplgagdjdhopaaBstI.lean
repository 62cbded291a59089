/- The search through all orders returns what a plain function returns. Conditions: none. -/
import Derived.Test.YtfplgagdjdhopaaNearI
import Derived.Test.YtfplgagdjdhopaaTwo
namespace Go.Proofs.Ytfplgagdjdhopaa
open Go.RowKit Go.ChangeShapes Go.WideShapes Go.Deep
set_option linter.unusedVariables false
set_option linter.unusedSimpArgs false

/-- The better of two: an order stands until one with fewer minutes is met. -/
def leafF (L : List (List Int)) (b : List Int) (st : List Int × Int) : List Int × Int := if st.2 < 0 ∨ (setupF L b).1 < st.2 then (b, (setupF L b).1) else st
/-- All orders that begin with b; f families are left. -/
def srch (L : List (List Int)) (n : Nat) : Nat → List Int → List Int × Int → List Int × Int
  | 0, b, st => leafF L b st
  | f + 1, b, st => (List.range n).foldl (fun (st : List Int × Int) (k : Nat) => if b.contains (k : Int) then st else srch L n f (b ++ [(k : Int)]) st) st
def srK (L : List (List Int)) (n f : Nat) (b : List Int) (st : List Int × Int) (k : Nat) : List Int × Int :=
  (List.range k).foldl (fun (st : List Int × Int) (k : Nat) => if b.contains (k : Int) then st else srch L n f (b ++ [(k : Int)]) st) st
theorem srK_succ (L : List (List Int)) (n f : Nat) (b : List Int) (st : List Int × Int) (k : Nat) :
    srK L n f b st (k + 1) = if b.contains (k : Int) then srK L n f b st k else srch L n f (b ++ [(k : Int)]) (srK L n f b st k) := by
  unfold srK
  rw [List.range_succ, List.foldl_append]
  rfl
def bestF (L : List (List Int)) : List Int × Int × Bool := if setB L then ((srch L (L.length - 1) (L.length - 1) [] ([], -1)).1, (srch L (L.length - 1) (L.length - 1) [] ([], -1)).2, true) else ([], 0, false)

theorem own_same {T : Type} {E : Enc T} {t : TypeId} {w w' : World} {base : Nat} {v : Value} {l : List T} (h : Own E t w base v l) (hk : ∀ k, v.ownBlock = some k → w'.heap[k]? = w.heap[k]?) : Own E t w' base v l := by
  refine ⟨h.1, ?_⟩
  rcases h.2 with h0 | ⟨g, cap, cur, e, h1, h2, r⟩
  · exact .inl h0
  · exact .inr ⟨g, cap, cur, e, h1, by rw [hk g (by rw [e]; rfl)]; exact h2, r⟩
theorem row_same {w w' : World} {base : Nat} {e : TypeId} {size n : Nat} {v : Value} {xs : List Value} (h : w.ownsRow base e size v n xs) (hk : ∀ k, v.ownBlock = some k → w'.heap[k]? = w.heap[k]?) : w'.ownsRow base e size v n xs := by
  refine ⟨h.1, ?_⟩
  rcases h.2 with h0 | ⟨g, cap, cur, e, h1, h2, r⟩
  · exact .inl h0
  · exact .inr ⟨g, cap, cur, e, h1, by rw [hk g (by rw [e]; rfl)]; exact h2, r⟩
theorem usedL_unset {n q : Nat} {b : List Int} (hq : q < n) (hb : b.contains (q : Int) = false) : (usedL n (b ++ [(q : Int)])).set q (.bool false) = usedL n b := by
  apply List.ext_getElem?
  intro i
  by_cases h : i < n
  · rw [List.getElem?_set, usedL_get h, usedL_get h]
    by_cases hi : q = i
    · subst hi
      rw [if_pos rfl, hb]
      simp [usedL, h]
    · rw [if_neg hi]
      simp
      intro h9
      omega
  · simp [usedL, h]

/-- Blocks that only these may be other than before. -/
structure Fr (w w' : World) (S : Nat → Prop) : Prop where
  size : w.heap.size ≤ w'.heap.size
  block : ∀ k, k < w.heap.size → ¬ S k → w'.heap[k]? = w.heap[k]?
theorem Fr.refl (w : World) (S : Nat → Prop) : Fr w w S := ⟨Nat.le_refl _, fun _ _ _ => rfl⟩
theorem Fr.trans {a b c : World} {S : Nat → Prop} (h : Fr a b S) (k : Fr b c S) : Fr a c S :=
  ⟨Nat.le_trans h.size k.size, fun i hi hs => (k.block i (Nat.lt_of_lt_of_le hi h.size) hs).trans (h.block i hi hs)⟩
theorem Fr.set_ (w : World) (b o : Nat) (u : Value) {S : Nat → Prop} (hb : S b) : Fr w (w.setCell ⟨b, o, none⟩ u) S :=
  ⟨by simp, fun k _ hs => heap_setCell_other w ⟨b, o, none⟩ k u (fun e => hs (by subst e; exact hb))⟩
theorem Grew.fr {a b : World} (h : Grew a b) (S : Nat → Prop) : Fr a b S := ⟨h.le, fun k hk _ => h.block k hk⟩
theorem Fr.by_ {a b : World} {r : Option Nat} {S : Nat → Prop} (h : a.grownBy b r) (hr : ∀ k, r = some k → S k) : Fr a b S := ⟨h.size, fun k hk hs => h.block k hk (fun e => hs (hr k e.symm))⟩

/-- The search in mid course: families used, the order begun, the best one yet. -/
structure SS (w0 w : World) (u p q n : Nat) (b : List Int) (bv : Value) (st : List Int × Int) (sv : Value) : Prop where
  g : Grew w0 w
  us : w.ownsRow w0.heap.size 4 1 (.slice (some ⟨u, 0, none⟩) n n) n (usedL n b)
  pc : w.cell? ⟨p, 0, none⟩ = some sv
  pf : ∀ j, w.frozen? ⟨p, j, none⟩ = false
  qc : w.cell? ⟨q, 0, none⟩ = some (.int .i64 st.2)
  qf : ∀ j, w.frozen? ⟨q, j, none⟩ = false
  ob : Own IntS.E 3 w w0.heap.size bv b
  os : Own IntS.E 3 w w0.heap.size sv st.1
  pl : w0.heap.size ≤ p ∧ w0.heap.size ≤ q
  pw : p < w.heap.size ∧ q < w.heap.size
  ne : u ≠ p ∧ u ≠ q ∧ p ≠ q
  bn : ∀ k, bv.ownBlock = some k → k ≠ u ∧ k ≠ p ∧ k ≠ q
  sn : ∀ k, sv.ownBlock = some k → k ≠ u ∧ k ≠ p ∧ k ≠ q ∧ bv.ownBlock ≠ some k
def SB (u p q : Nat) (bv : Value) (k : Nat) : Prop := k = u ∨ k = p ∨ k = q ∨ bv.ownBlock = some k

section
variable {w0 w w' : World} {u p q n : Nat} {b : List Int} {bv sv : Value} {st : List Int × Int}
theorem SS.ul (h : SS w0 w u p q n b bv st sv) : w0.heap.size ≤ u ∧ u < w.heap.size := World.ownsRow.lt h.us u rfl
theorem SS.grew (h : SS w0 w u p q n b bv st sv) (k : Grew w w') : SS w0 w' u p q n b bv st sv where
  g := h.g.trans k
  us := ownsRow_grew h.us k
  pc := (k.rules.1 p _ h.pw.1).trans h.pc
  pf := fun j => (k.rules.2 p _ h.pw.1).trans (h.pf j)
  qc := (k.rules.1 q _ h.pw.2).trans h.qc
  qf := fun j => (k.rules.2 q _ h.pw.2).trans (h.qf j)
  ob := h.ob.grew k
  os := h.os.grew k
  pl := h.pl
  pw := ⟨Nat.lt_of_lt_of_le h.pw.1 k.le, Nat.lt_of_lt_of_le h.pw.2 k.le⟩
  ne := h.ne
  bn := h.bn
  sn := h.sn
theorem SS.used (h : SS w0 w u p q n b bv st sv) {k : Nat} (hk : k < n) : w.cell? ⟨u, k, none⟩ = some (.bool (b.contains (k : Int))) := by
  rw [h.us.cellAt k (by omega), usedL_get hk]
theorem SS.uf (h : SS w0 w u p q n b bv st sv) : ∀ j, w.frozen? ⟨u, j, none⟩ = false := fun j => h.us.frozenAt j

/-- One family more is begun with. -/
theorem SS.down (h : SS w0 w u p q n b bv st sv) {k m c' : Nat} {A' : Option Addr} (hk : k < n) {w3 : World} (hg : Grew (w.setCell ⟨u, k, none⟩ (.bool true)) w') (ho : Own IntS.E 3 w3 w0.heap.size (.slice A' m c') (b ++ [(k : Int)]))
    (hgr : w'.grownBy w3 bv.ownBlock) (hat : (Value.slice A' m c').ownBlock = bv.ownBlock ∨ (Value.slice A' m c').ownBlock = some w'.heap.size) :
    SS w0 w3 u p q n (b ++ [(k : Int)]) (.slice A' m c') st sv ∧ Fr w w3 (SB u p q bv) := by
  have hu := h.ul
  have hs1 : (w.setCell ⟨u, k, none⟩ (.bool true)).heap.size = w.heap.size := by simp
  have hle := hg.le
  rw [hs1] at hle
  have hle3 := hgr.size
  have hF : Fr w w3 (SB u p q bv) := (Fr.set_ w u k (.bool true) (S := SB u p q bv) (.inl rfl)).trans ((hg.fr _).trans (Fr.by_ hgr (fun j e => .inr (.inr (.inr e)))))
  have hrow : ∀ j, j < w.heap.size → j ≠ u → bv.ownBlock ≠ some j → w3.heap[j]? = w.heap[j]? := fun j hj h1 h2 => by
    rw [hgr.block j (by omega) (fun e => h2 e.symm), hg.block j (by rw [hs1]; exact hj), heap_setCell_other w ⟨u, k, none⟩ j _ h1]
  have hpb : bv.ownBlock ≠ some p := fun e => (h.bn p e).2.1 rfl
  have hqb : bv.ownBlock ≠ some q := fun e => (h.bn q e).2.2 rfl
  have hub : bv.ownBlock ≠ some u := fun e => (h.bn u e).1 rfl
  have hp3 := hrow p h.pw.1 (fun e => h.ne.1 e.symm) hpb
  have hq3 := hrow q h.pw.2 (fun e => h.ne.2.1 e.symm) hqb
  refine ⟨⟨?_, ?_, (World.cell?_of_block hp3).trans h.pc, fun j => (World.frozen?_of_block hp3).trans (h.pf j), (World.cell?_of_block hq3).trans h.qc, fun j => (World.frozen?_of_block hq3).trans (h.qf j), ho, ?_, h.pl, ⟨by have := h.pw.1; omega, by have := h.pw.2; omega⟩, h.ne, ?_, ?_⟩, hF⟩
  · exact ((h.g.setCell (p := ⟨u, k, none⟩) hu.1 _).trans hg).grown hgr (fun j hj => (h.ob.block j hj).1)
  · have h5 := (h.us.stored k (.bool true)).1
    rw [usedL_set hk] at h5
    refine row_same (ownsRow_grew h5 hg) (fun j hj => ?_)
    obtain rfl : u = j := by simpa [Value.ownBlock] using hj
    exact hgr.block u (by omega) (fun e => hub e.symm)
  · refine own_same h.os (fun j hj => hrow j (h.os.block j hj).2 (h.sn j hj).1 (h.sn j hj).2.2.2)
  · intro j hj
    rcases hat with e | e
    · rw [e] at hj; exact h.bn j hj
    · rw [e] at hj
      obtain rfl : w'.heap.size = j := by simpa using hj
      have := h.pw
      omega
  · intro j hj
    obtain ⟨a1, a2, a3, a4⟩ := h.sn j hj
    refine ⟨a1, a2, a3, fun e => ?_⟩
    rcases hat with e2 | e2
    · exact a4 (e2 ▸ e)
    · rw [e2] at e
      have := (h.os.block j hj).2
      have e3 : w'.heap.size = j := by simpa using e
      omega

/-- Back from the orders that begin so. -/
theorem SS.up (h : SS w0 w u p q n b bv st sv) {w3 w4 : World} {k m c' : Nat} {A' : Option Addr} {st' : List Int × Int} {sv' : Value} (hk : k < n) (hb : b.contains (k : Int) = false) (hF3 : Fr w w3 (SB u p q bv)) (hob : Own IntS.E 3 w3 w0.heap.size bv b)
    (h4 : SS w0 w4 u p q n (b ++ [(k : Int)]) (.slice A' m c') st' sv') (hF : Fr w3 w4 (SB u p q (.slice A' m c'))) (hsv : sv' = sv ∨ ∃ g, sv'.ownBlock = some g ∧ w3.heap.size ≤ g)
    (hat : (∃ m0, bv = .slice A' m0 c' ∧ m0 = b.length ∧ m = b.length + 1) ∨ (∀ j, (Value.slice A' m c').ownBlock = some j → w.heap.size ≤ j ∧ bv.ownBlock ≠ some j)) :
    SS w0 (w4.setCell ⟨u, k, none⟩ (.bool false)) u p q n b bv st' sv' ∧ Fr w (w4.setCell ⟨u, k, none⟩ (.bool false)) (SB u p q bv) ∧ (sv' = sv ∨ ∃ g, sv'.ownBlock = some g ∧ w.heap.size ≤ g) := by
  have hu := h.ul
  have hu4 := h4.ul
  have hle3 := hF3.size
  have hset : ∀ j, j ≠ u → (w4.setCell ⟨u, k, none⟩ (.bool false)).heap[j]? = w4.heap[j]? := fun j hj => heap_setCell_other w4 ⟨u, k, none⟩ j _ hj
  have hp5 := hset p (fun e => h.ne.1 e.symm)
  have hq5 := hset q (fun e => h.ne.2.1 e.symm)
  have hF4 : Fr w w4 (SB u p q bv) := by
    refine ⟨Nat.le_trans hle3 hF.size, fun j hj hs => ?_⟩
    rw [hF.block j (by omega) (fun e => ?_), hF3.block j hj hs]
    rcases e with e | e | e | e
    · exact hs (.inl e)
    · exact hs (.inr (.inl e))
    · exact hs (.inr (.inr (.inl e)))
    · rcases hat with ⟨m0, rfl, _⟩ | hat
      · have e2 : (Value.slice A' m0 c').ownBlock = (Value.slice A' m c').ownBlock := by cases A' <;> rfl
        exact hs (.inr (.inr (.inr (e2.trans e))))
      · have := (hat j e).1; omega
  refine ⟨⟨h4.g.setCell (p := ⟨u, k, none⟩) hu.1 _, ?_, (World.cell?_of_block hp5).trans h4.pc, fun j => (World.frozen?_of_block hp5).trans (h4.pf j), (World.cell?_of_block hq5).trans h4.qc, fun j => (World.frozen?_of_block hq5).trans (h4.qf j), ?_, ?_, h.pl, by simpa using h4.pw, h.ne, h.bn, ?_⟩, hF4.trans (Fr.set_ w4 u k _ (.inl rfl)), ?_⟩
  · have h5 := (h4.us.stored k (.bool false)).1
    rwa [usedL_unset hk hb] at h5
  · refine own_same (w := w4) ?_ (fun j hj => hset j (h.bn j hj).1)
    rcases hat with ⟨m0, rfl, rfl, rfl⟩ | hat
    · exact h4.ob.front rfl
    · refine own_same hob (fun j hj => hF.block j (hob.block j hj).2 (fun e => ?_))
      obtain ⟨b1, b2, b3⟩ := h.bn j hj
      rcases e with e | e | e | e
      · exact b1 e
      · exact b2 e
      · exact b3 e
      · exact (hat j e).2 hj
  · exact own_same h4.os (fun j hj => hset j (h4.sn j hj).1)
  · intro j hj
    rcases hsv with rfl | ⟨g, hg1, hg2⟩
    · exact h.sn j hj
    · obtain ⟨a1, a2, a3, _⟩ := h4.sn j hj
      rw [hg1] at hj
      obtain rfl : g = j := by simpa using hj
      exact ⟨a1, a2, a3, fun e => by have := (h.ob.block g e).2; omega⟩
  · rcases hsv with rfl | ⟨g, hg1, hg2⟩
    · exact .inl rfl
    · exact .inr ⟨g, hg1, by omega⟩

/-- A better order. -/
theorem SS.better (h : SS w0 w u p q n b bv st sv) {w2 : World} {o : Obj} {m c' : Nat} {A' : Option Addr} {x : Int} (hw : w' = w.alloc o) (ho : Own IntS.E 3 w2 w.heap.size (.slice A' m c') b) (hgr : w'.grownBy w2 (some w.heap.size)) (hsome : ∃ g, (Value.slice A' m c').ownBlock = some g) :
    SS w0 ((w2.setCell ⟨p, 0, none⟩ (.slice A' m c')).setCell ⟨q, 0, none⟩ (.int .i64 x)) u p q n b bv (b, x) (.slice A' m c') ∧ Fr w ((w2.setCell ⟨p, 0, none⟩ (.slice A' m c')).setCell ⟨q, 0, none⟩ (.int .i64 x)) (SB u p q bv) ∧ ∃ g, (Value.slice A' m c').ownBlock = some g ∧ w.heap.size ≤ g := by
  subst hw
  have hu := h.ul
  have hG : Grew w w2 := (((Grew.refl w).alloc o).grown hgr (fun j hj => by have : w.heap.size = j := by simpa using hj
                                                                            omega))
  have h2 := h.grew hG
  obtain ⟨g, hg⟩ := hsome
  have hgb := ho.block g hg
  have hset : ∀ j, j ≠ p → j ≠ q → ((w2.setCell ⟨p, 0, none⟩ (.slice A' m c')).setCell ⟨q, 0, none⟩ (.int .i64 x)).heap[j]? = w2.heap[j]? := fun j h1 h3 => by
    rw [heap_setCell_other _ ⟨q, 0, none⟩ j _ h3, heap_setCell_other _ ⟨p, 0, none⟩ j _ h1]
  have hbw : w0.heap.size ≤ w.heap.size := h.g.le
  refine ⟨⟨(h2.g.setCell (p := ⟨p, 0, none⟩) h.pl.1 _).setCell (p := ⟨q, 0, none⟩) h.pl.2 _, ?_, ?_, fun j => by simp [go_sem, h2.pf j], ?_, fun j => by simp [go_sem, h2.qf j], ?_, ?_, h.pl, by simpa using h2.pw, h.ne, h.bn, ?_⟩, ?_, g, hg, hgb.1⟩
  · refine row_same h2.us (fun j hj => ?_)
    obtain rfl : u = j := by simpa [Value.ownBlock] using hj
    exact hset u h.ne.1 h.ne.2.1
  · rw [World.cell?_setCell_other _ _ _ _ (by intro e; simp only [Addr.mk.injEq] at e; exact h.ne.2.2 e.1.symm)]
    exact World.cell?_setCell_same _ _ _ h2.pc
  · exact World.cell?_setCell_same _ _ _ (by rw [World.cell?_setCell_other _ _ _ _ (by intro e; simp only [Addr.mk.injEq] at e; exact h.ne.2.2 e.1)]; exact h2.qc)
  · exact own_same h2.ob (fun j hj => hset j (h.bn j hj).2.1 (h.bn j hj).2.2)
  · refine own_same (ho.mono hbw) (fun j hj => ?_)
    have := (ho.block j hj).1
    have := h.pw
    exact hset j (by omega) (by omega)
  · intro j hj
    have h1 := (ho.block j hj).1
    have h3 := h.pw
    exact ⟨by omega, by omega, by omega, fun e => by have := (h.ob.block j e).2; omega⟩
  · exact (hG.fr _).trans ((Fr.set_ w2 p 0 _ (S := SB u p q bv) (.inr (.inl rfl))).trans (Fr.set_ _ q 0 _ (.inr (.inr (.inl rfl)))))
end
end Go.Proofs.Ytfplgagdjdhopaa
