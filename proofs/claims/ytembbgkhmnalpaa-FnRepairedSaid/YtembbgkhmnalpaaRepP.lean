/- Repairing a schedule in plain words: the order of the slots by their starts, and what each slot then is. Conditions: none. -/
import Derived.Test.YtembbgkhmnalpaaStb
import Derived.Test.YtembbgkhmnalpaaIsS
namespace Go.Proofs.Ytembbgkhmnalpaa
open Go.RowKit Go.ChangeShapes Go.WideShapes Go.Deep
set_option linter.unusedVariables false
set_option linter.unusedSimpArgs false

/-- The numbers below n, in order. -/
def idxs (n : Nat) : List Int := (List.range n).map fun (i : Nat) => (i : Int)
theorem idxs_len (n : Nat) : (idxs n).length = n := by simp [idxs]
theorem idxs_succ (n : Nat) : idxs (n + 1) = idxs n ++ [(n : Int)] := by simp [idxs, List.range_succ]
theorem idxs_mem {n : Nat} {a : Int} : a ∈ idxs n ↔ ∃ k : Nat, k < n ∧ a = k := by
  simp only [idxs, List.mem_map, List.mem_range]
  exact ⟨fun ⟨k, h1, h2⟩ => ⟨k, h1, h2.symm⟩, fun ⟨k, h1, h2⟩ => ⟨k, h1, h2.symm⟩⟩
theorem idxs_pw (n : Nat) : (idxs n).Pairwise (· < ·) := by
  induction n with
  | zero => exact List.Pairwise.nil
  | succ n ih =>
    rw [idxs_succ, List.pairwise_append]
    refine ⟨ih, List.pairwise_singleton _ _, fun a ha b hb => ?_⟩
    obtain ⟨k, hk, rfl⟩ := idxs_mem.1 ha
    obtain rfl := List.mem_singleton.1 hb
    omega

/-- When the slot of an index begins. -/
def stL (L : List Slt) (a : Int) : Int := (L.getD a.toNat slt0).st
def ltS (L : List Slt) (a b : Int) : Prop := stL L a < stL L b ∨ (stL L a = stL L b ∧ a < b)
def cmpS (L : List Slt) (a b : Int) : Int := stL L a - stL L b
instance (L : List Slt) (a b : Int) : Decidable (ltS L a b) := by unfold ltS; infer_instance
theorem ltS_tr (L : List Slt) (a b c : Int) (h : ltS L a b) (k : ltS L b c) : ltS L a c := by unfold ltS at *; omega
theorem ltS_irr (L : List Slt) (a : Int) : ¬ ltS L a a := by unfold ltS; omega
theorem ltS_tot {L : List Slt} {a b : Int} (h : ¬ ltS L a b) (hne : a ≠ b) : ltS L b a := by unfold ltS at *; omega
theorem idxs_okp (L : List Slt) (n : Nat) : (idxs n).Pairwise (okp (ltS L) (cmpS L)) :=
  (idxs_pw n).imp fun h => by unfold okp ltS cmpS; omega

def insS (L : List Slt) (x : Int) : List Int → List Int
  | [] => [x]
  | y :: l => if ltS L x y then x :: y :: l else y :: insS L x l
theorem insS_perm (L : List Slt) (x : Int) : ∀ l, (insS L x l).Perm (x :: l)
  | [] => List.Perm.refl _
  | y :: l => by
    simp only [insS]
    split
    · exact List.Perm.refl _
    · exact (List.Perm.cons y (insS_perm L x l)).trans (List.Perm.swap x y l)
theorem insS_pw (L : List Slt) (x : Int) : ∀ l, x ∉ l → l.Pairwise (ltS L) → (insS L x l).Pairwise (ltS L)
  | [], _, _ => List.pairwise_singleton _ _
  | y :: l, hx, h => by
    have h1 := List.pairwise_cons.1 h
    simp only [insS]
    split
    · rename_i hlt
      refine List.pairwise_cons.2 ⟨fun z hz => ?_, h⟩
      rcases List.mem_cons.1 hz with rfl | hz
      · exact hlt
      · exact ltS_tr L _ _ _ hlt (h1.1 z hz)
    · rename_i hlt
      refine List.pairwise_cons.2 ⟨fun z hz => ?_, insS_pw L x l (fun h => hx (List.mem_cons_of_mem _ h)) h1.2⟩
      rcases List.mem_cons.1 ((insS_perm L x l).mem_iff.1 hz) with rfl | hz
      · exact ltS_tot hlt (fun e => hx (by rw [e]; exact List.mem_cons_self ..))
      · exact h1.1 z hz
def ordT (L : List Slt) : Nat → List Int
  | 0 => []
  | k + 1 => insS L k (ordT L k)
/-- The indices of the slots by their starts. -/
def ordF (L : List Slt) : List Int := ordT L L.length
theorem ordT_perm (L : List Slt) : ∀ k, (ordT L k).Perm (idxs k)
  | 0 => List.Perm.refl _
  | k + 1 => by
    rw [idxs_succ]
    exact (insS_perm L k _).trans ((List.Perm.cons _ (ordT_perm L k)).trans (List.perm_append_singleton _ _).symm)
theorem ordT_pw (L : List Slt) : ∀ k, (ordT L k).Pairwise (ltS L)
  | 0 => List.Pairwise.nil
  | k + 1 => insS_pw L k _ (fun h => by
    obtain ⟨j, h1, h2⟩ := idxs_mem.1 ((ordT_perm L k).mem_iff.1 h)
    omega) (ordT_pw L k)
theorem pw_uniq {T : Type} {lt : T → T → Prop} (irr : ∀ a, ¬ lt a a) (tr : ∀ a b c, lt a b → lt b c → lt a c) : ∀ {A B : List T}, A.Perm B → A.Pairwise lt → B.Pairwise lt → A = B
  | [], B, p, _, _ => p.nil_eq
  | a :: A, [], p, _, _ => by cases p.eq_nil
  | a :: A, b :: B, p, ha, hb => by
    have h1 := List.pairwise_cons.1 ha
    have h2 := List.pairwise_cons.1 hb
    have e : a = b := by
      rcases List.mem_cons.1 (p.mem_iff.1 (List.mem_cons_self ..)) with e | e
      · exact e
      · rcases List.mem_cons.1 (p.mem_iff.2 (List.mem_cons_self ..)) with e2 | e2
        · exact e2.symm
        · exact (irr _ (tr _ _ _ (h1.1 b e2) (h2.1 a e))).elim
    subst e
    rw [pw_uniq irr tr ((List.perm_cons a).1 p) h1.2 h2.2]
theorem ord_uniq {L : List Slt} {M : List Int} (p : M.Perm (idxs L.length)) (h : M.Pairwise (ltS L)) : M = ordF L :=
  pw_uniq (ltS_irr L) (ltS_tr L) (p.trans (ordT_perm L _).symm) h (ordT_pw L _)
theorem ordF_len (L : List Slt) : (ordF L).length = L.length := by rw [ordF, (ordT_perm L _).length_eq, idxs_len]

/-- Where the order's k-th slot lies. -/
def atO (O : List Int) (k : Nat) : Nat := (O.getD k 0).toNat
theorem ordF_at {L : List Slt} {k : Nat} (hk : k < L.length) : (ordF L)[k]? = some (atO (ordF L) k : Int) ∧ atO (ordF L) k < L.length := by
  obtain ⟨a, ha⟩ : ∃ a, (ordF L)[k]? = some a := ⟨_, List.getElem?_eq_getElem (by rw [ordF_len]; exact hk)⟩
  obtain ⟨j, hj, rfl⟩ := idxs_mem.1 ((ordT_perm L _).mem_iff.1 (List.mem_of_getElem? ha))
  have e : atO (ordF L) k = j := by simp [atO, List.getD_eq_getElem?_getD, ha]
  rw [e]
  exact ⟨ha, hj⟩
theorem ordF_inj {L : List Slt} {k j : Nat} (hk : k < L.length) (hj : j < L.length) (h : atO (ordF L) k = atO (ordF L) j) : k = j := by
  have h1 := ordF_at hk
  have h2 := ordF_at hj
  rcases Nat.lt_trichotomy k j with h3 | h3 | h3
  · have := pw_at (ordT_pw L L.length) h1.1 h2.1 h3
    rw [h] at this
    exact (ltS_irr L _ this).elim
  · exact h3
  · have := pw_at (ordT_pw L L.length) h2.1 h1.1 h3
    rw [h] at this
    exact (ltS_irr L _ this).elim

/-- Two slots of one job, or of one center. -/
def nearB (y s : Slt) : Bool := decide (y.jb = s.jb) || decide (y.ce.toList = s.ce.toList)
/-- The start that the first k slots of the order allow. -/
def rpSt (out : List Slt) (O : List Int) (s : Slt) : Nat → Int
  | 0 => s.st
  | k + 1 => if nearB (out.getD (atO O k) slt0) s = true then max (rpSt out O s k) (out.getD (atO O k) slt0).en else rpSt out O s k
/-- The slot moved to a start, or behind the stop. -/
def mvT (x : Stp) (s : Slt) (t : Int) : Int := if hitB s.ce t (t + (s.en - s.st)) x.ce x.fr x.un = true then x.un else t
def mvF (x : Stp) (s : Slt) (t : Int) : Slt := ⟨s.jb, s.sp, s.ce, mvT x s t, mvT x s t + (s.en - s.st)⟩
/-- The slots after n of the order. -/
def rpT (L : List Slt) (O : List Int) (x : Stp) : Nat → List Slt
  | 0 => L
  | n + 1 => (rpT L O x n).set (atO O n) (mvF x (L.getD (atO O n) slt0) (rpSt (rpT L O x n) O (L.getD (atO O n) slt0) n))
def repF (J : List Jb) (L : List Slt) (x : Stp) : List Slt × Bool :=
  if schB J L = true ∧ stopB x.ce x.fr x.un = true then (rpT L (ordF L) x L.length, true) else ([], false)

/-- What a schedule's slots are like. -/
def SlB (L : List Slt) : Prop := ∀ s ∈ L, (0 ≤ s.st ∧ s.st ≤ 1000000) ∧ (1 ≤ s.en - s.st ∧ s.en - s.st ≤ 1000)
theorem sch_at {J : List Jb} {L : List Slt} (h : schB J L = true) : L.length ≤ 30 ∧ SlB L := by
  simp only [schB, Bool.and_eq_true, decide_eq_true_eq, allTo_iff] at h
  obtain ⟨⟨h1, h2⟩, h3⟩ := h
  refine ⟨by have := totJ_30 h1; omega, fun s hs => ?_⟩
  obtain ⟨i, hi⟩ := List.mem_iff_getElem?.1 hs
  have hr := h3 i (List.getElem?_eq_some_iff.1 hi).1
  simp only [rowB, Bool.and_eq_true] at hr
  have e : L.getD i slt0 = s := by simp [List.getD_eq_getElem?_getD, hi]
  rw [e] at hr
  obtain ⟨⟨hn, hf⟩, _⟩ := hr
  obtain ⟨q, p, j, y, e1, e2, hj, hy, e3, e4⟩ := namB_at hn
  have hjb := (areJ_at h1).2 q j hj
  have hyb := hjb.2.2.2 p y hy
  rw [fitB, e3, e4] at hf
  simp only [Bool.and_eq_true, decide_eq_true_eq, inB_iff] at hf
  omega
/-- What holds of the slots after n of the order. -/
structure ROk (L : List Slt) (O : List Int) (n : Nat) (out : List Slt) : Prop where
  len : out.length = L.length
  same : ∀ (i : Nat) (s : Slt), L[i]? = some s → ∃ y : Slt, out[i]? = some y ∧ y.jb = s.jb ∧ y.sp = s.sp ∧ y.ce = s.ce ∧ y.en - y.st = s.en - s.st ∧ 0 ≤ y.st ∧ y.en ≤ 1001000 + 1000 * (n : Int)
  rest : ∀ k : Nat, n ≤ k → k < L.length → out[atO O k]? = L[atO O k]?
theorem rpSt_b {L out : List Slt} {O : List Int} {n : Nat} (h : ROk L O n out) (hO : ∀ k, k < L.length → atO O k < L.length) {s : Slt} (hs : 0 ≤ s.st ∧ s.st ≤ 1000000) : ∀ k, k ≤ L.length → 0 ≤ rpSt out O s k ∧ rpSt out O s k ≤ 1001000 + 1000 * (n : Int)
  | 0, _ => ⟨hs.1, by simp only [rpSt]; omega⟩
  | k + 1, hk => by
    have ih := rpSt_b h hO hs k (by omega)
    obtain ⟨z, hz⟩ : ∃ z, L[atO O k]? = some z := ⟨_, List.getElem?_eq_getElem (hO k (by omega))⟩
    obtain ⟨y, hy, _, _, _, _, h5, h6⟩ := h.same _ z hz
    have e : out.getD (atO O k) slt0 = y := by simp [List.getD_eq_getElem?_getD, hy]
    simp only [rpSt, e]
    split
    · omega
    · exact ih
theorem rp_ok {L : List Slt} {x : Stp} (hL : SlB L) (hx : 0 ≤ x.un ∧ x.un ≤ 100000) : ∀ n, n ≤ L.length → ROk L (ordF L) n (rpT L (ordF L) x n)
  | 0, _ => ⟨rfl, fun i s hs => ⟨s, hs, rfl, rfl, rfl, rfl, by have := hL s (List.mem_of_getElem? hs); omega⟩, fun k _ _ => rfl⟩
  | n + 1, hn => by
    have ih := rp_ok hL hx n (by omega)
    have hat := ordF_at (L := L) (k := n) (by omega)
    obtain ⟨s, hs⟩ : ∃ s, L[atO (ordF L) n]? = some s := ⟨_, List.getElem?_eq_getElem hat.2⟩
    have es : L.getD (atO (ordF L) n) slt0 = s := by simp [List.getD_eq_getElem?_getD, hs]
    have hb := hL s (List.mem_of_getElem? hs)
    have hr := rpSt_b ih (fun k hk => (ordF_at hk).2) hb.1 n (by omega)
    refine ⟨by simp only [rpT, List.length_set]; exact ih.len, fun i z hz => ?_, fun k hk hkl => ?_⟩
    · simp only [rpT, es]
      by_cases e : atO (ordF L) n = i
      · subst e
        rw [hs] at hz
        obtain rfl : s = z := Option.some.inj hz
        refine ⟨_, List.getElem?_set_self (by rw [ih.len]; exact hat.2), rfl, rfl, rfl, ?_, ?_⟩
        · simp only [mvF]; omega
        · simp only [mvF, mvT]
          push_cast
          split <;> omega
      · obtain ⟨y, hy, h1, h2, h3, h4, h5, h6⟩ := ih.same i z hz
        exact ⟨y, by rw [List.getElem?_set_ne e]; exact hy, h1, h2, h3, h4, h5, by push_cast; omega⟩
    · simp only [rpT]
      rw [List.getElem?_set_ne (fun e => by have := ordF_inj (L := L) (by omega) hkl e; omega)]
      exact ih.rest k (by omega) hkl
end Go.Proofs.Ytembbgkhmnalpaa
