/- Dispatching in plain words: whose step is begun next, and what the slots then are. Conditions: none. -/
import Derived.Test.YtembbgkhmnalpaaBef
import Derived.Test.YtembbgkhmnalpaaStop
namespace Go.Proofs.Ytembbgkhmnalpaa
open Go.RowKit Go.ChangeShapes Go.WideShapes Go.Deep
set_option linter.unusedVariables false
set_option linter.unusedSimpArgs false

/-- The jobs' next steps, the times when they are ready, the slots so far. -/
structure DS where
  nx : List Int
  rd : List Int
  out : List Slt
/-- The time when a center is free, by the first k slots. -/
def frT (out : List Slt) (ce : ByteArray) : Nat → Int
  | 0 => 0
  | k + 1 => if (out.getD k slt0).ce.toList = ce.toList then max (frT out ce k) (out.getD k slt0).en else frT out ce k
def frF (out : List Slt) (ce : ByteArray) : Int := frT out ce out.length
def nxF (s : DS) (k : Nat) : Nat := (s.nx.getD k 0).toNat
def wkF (J : List Jb) (s : DS) (k : Nat) : Wk := (J.getD k jb0).st.getD (nxF s k) wk0
def tF (J : List Jb) (s : DS) (k : Nat) : Int := max (s.rd.getD k 0) (frF s.out (wkF J s k).ce)
def doneB (J : List Jb) (s : DS) (k : Nat) : Bool := decide (nxF s k = (J.getD k jb0).st.length)
def kyF (J : List Jb) (r : Int) (s : DS) (k : Nat) : Int := keyF (J.getD k jb0) (nxF s k) r
def btr (J : List Jb) (r : Int) (s : DS) (k : Nat) (b : Int × Int) : Bool :=
  decide (b.1 < 0) || (decide (tF J s k < b.2) || (decide (tF J s k = b.2) && decide (kyF J r s k < kyF J r s b.1.toNat)))
/-- The best job among the first k, and when it begins; -1 if all are done. -/
def bstT (J : List Jb) (r : Int) (s : DS) : Nat → Int × Int
  | 0 => (-1, 0)
  | k + 1 => if doneB J s k = true then bstT J r s k else if btr J r s k (bstT J r s k) = true then ((k : Int), tF J s k) else bstT J r s k
def putF (J : List Jb) (s : DS) (i : Nat) (t : Int) : DS :=
  ⟨s.nx.set i ((nxF s i : Int) + 1), s.rd.set i (t + (wkF J s i).mi), s.out ++ [⟨(i : Int), (nxF s i : Int), (wkF J s i).ce, t, t + (wkF J s i).mi⟩]⟩
def stepF (J : List Jb) (r : Int) (s : DS) : DS :=
  if (bstT J r s J.length).1 < 0 then s else putF J s (bstT J r s J.length).1.toNat (bstT J r s J.length).2
def ds0 (J : List Jb) : DS := ⟨List.replicate J.length 0, J.map (·.rl), []⟩
def dsN (J : List Jb) (r : Int) : Nat → DS
  | 0 => ds0 J
  | m + 1 => stepF J r (dsN J r m)
def dispF (J : List Jb) (r : Int) : List Slt × Bool :=
  if areJ J = true ∧ inB r 0 2 = true then ((dsN J r (totJ J J.length)).out, true) else ([], false)

def totN (l : List Int) : Nat → Nat
  | 0 => 0
  | k + 1 => totN l k + (l.getD k 0).toNat
theorem totN_set {l : List Int} {i : Nat} {n : Nat} (h : l[i]? = some (n : Int)) : ∀ k, totN (l.set i ((n : Int) + 1)) k = totN l k + (if i < k then 1 else 0)
  | 0 => by simp [totN]
  | k + 1 => by
    have hi := (List.getElem?_eq_some_iff.1 h).1
    simp only [totN, totN_set h k, List.getD_eq_getElem?_getD]
    by_cases e : i = k
    · subst e
      rw [List.getElem?_set_self hi, h]
      simp
      omega
    · rw [List.getElem?_set_ne e]
      by_cases h1 : i < k
      · rw [if_pos h1, if_pos (by omega)]; omega
      · rw [if_neg h1, if_neg (by omega)]; omega
theorem totN_le {J : List Jb} {l : List Int} (h : ∀ k, k < J.length → ∃ n : Nat, l[k]? = some (n : Int) ∧ n ≤ (J.getD k jb0).st.length) : ∀ k, k ≤ J.length → totN l k ≤ totJ J k
  | 0, _ => Nat.le_refl _
  | k + 1, hk => by
    have ih := totN_le h k (by omega)
    obtain ⟨n, hn, hb⟩ := h k (by omega)
    obtain ⟨x, hx⟩ : ∃ x, J[k]? = some x := ⟨_, List.getElem?_eq_getElem (by omega)⟩
    rw [totJ_step hx]
    simp only [totN, List.getD_eq_getElem?_getD, hn, hx, Option.getD_some] at hb ⊢
    omega
theorem totJ_30 {J : List Jb} (h : areJ J = true) : totJ J J.length ≤ 30 := by
  have h1 := areJ_at h
  have : ∀ k, k ≤ J.length → totJ J k ≤ 5 * k := fun k => by
    induction k with
    | zero => intro _; exact Nat.le_refl _
    | succ k ih =>
      intro hk
      obtain ⟨x, hx⟩ : ∃ x, J[k]? = some x := ⟨_, List.getElem?_eq_getElem (by omega)⟩
      rw [totJ_step hx]
      have := ih (by omega)
      have := (h1.2 k x hx).2.2.1
      omega
  have := this J.length (Nat.le_refl _)
  omega
theorem totN_lt {J : List Jb} {l : List Int} (h : ∀ k, k < J.length → ∃ n : Nat, l[k]? = some (n : Int) ∧ n ≤ (J.getD k jb0).st.length) {i : Nat} {n : Nat} (hi : i < J.length) (hn : l[i]? = some (n : Int)) (hlt : n < (J.getD i jb0).st.length) : ∀ k, k ≤ J.length → i < k → totN l k < totJ J k
  | k + 1, hk, hik => by
    obtain ⟨x, hx⟩ : ∃ x, J[k]? = some x := ⟨_, List.getElem?_eq_getElem (by omega)⟩
    rw [totJ_step hx]
    obtain ⟨n', hn', hb⟩ := h k (by omega)
    simp only [totN, List.getD_eq_getElem?_getD, hn', hx, Option.getD_some] at hb ⊢
    rcases Nat.lt_succ_iff_lt_or_eq.1 hik with h1 | rfl
    · have := totN_lt h hi hn hlt k (by omega) h1
      omega
    · have := totN_le h i (by omega)
      rw [hn] at hn'
      have e : (n : Int) = (n' : Int) := Option.some.inj hn'
      simp only [List.getD_eq_getElem?_getD, hx, Option.getD_some] at hlt
      omega

/-- What holds after m rounds. -/
structure DOk (J : List Jb) (m : Nat) (s : DS) : Prop where
  ln : s.nx.length = J.length
  lr : s.rd.length = J.length
  lo : s.out.length = m
  nb : ∀ k, k < J.length → ∃ n : Nat, s.nx[k]? = some (n : Int) ∧ n ≤ (J.getD k jb0).st.length
  rb : ∀ k, k < J.length → ∃ v, s.rd[k]? = some v ∧ 0 ≤ v ∧ v ≤ 100000 + 1000 * (m : Int)
  ob : ∀ x ∈ s.out, 0 ≤ x.en ∧ x.en ≤ 100000 + 1000 * (m : Int)
  tt : totN s.nx J.length = m
theorem frT_b {out : List Slt} {ce : ByteArray} {B : Int} (hB : 0 ≤ B) (h : ∀ x ∈ out, 0 ≤ x.en ∧ x.en ≤ B) : ∀ k, k ≤ out.length → 0 ≤ frT out ce k ∧ frT out ce k ≤ B
  | 0, _ => ⟨Int.le_refl _, hB⟩
  | k + 1, hk => by
    have ih := frT_b hB h (ce := ce) k (by omega)
    obtain ⟨x, hx⟩ : ∃ x, out[k]? = some x := ⟨_, List.getElem?_eq_getElem (by omega)⟩
    have h1 := h x (List.mem_of_getElem? hx)
    have e : out.getD k slt0 = x := by simp [List.getD_eq_getElem?_getD, hx]
    simp only [frT, e]
    split
    · omega
    · exact ih
theorem frT_app {out : List Slt} {ce : ByteArray} {x : Slt} : ∀ k, k ≤ out.length → frT (out ++ [x]) ce k = frT out ce k
  | 0, _ => rfl
  | k + 1, hk => by
    have e : (out ++ [x]).getD k slt0 = out.getD k slt0 := by
      simp only [List.getD_eq_getElem?_getD]
      rw [List.getElem?_append_left (by omega)]
    have ih := frT_app (out := out) (ce := ce) (x := x) k (by omega)
    simp only [frT, ih, e]
theorem frF_snoc (out : List Slt) (ce : ByteArray) (x : Slt) : frF (out ++ [x]) ce = if x.ce.toList = ce.toList then max (frF out ce) x.en else frF out ce := by
  have e : (out ++ [x]).getD out.length slt0 = x := by simp [List.getD_eq_getElem?_getD]
  unfold frF
  simp only [List.length_append, List.length_cons, List.length_nil, Nat.zero_add, frT, frT_app out.length (Nat.le_refl _), e]
theorem frF_congr {out : List Slt} {a b : ByteArray} (h : a.toList = b.toList) : frF out a = frF out b := by
  have : ∀ k, frT out a k = frT out b k := fun k => by
    induction k with
    | zero => rfl
    | succ k ih => simp only [frT, ih, h]
  exact this _
theorem DOk.nx_ {J : List Jb} {m : Nat} {s : DS} (h : DOk J m s) {k : Nat} (hk : k < J.length) : s.nx[k]? = some (nxF s k : Int) ∧ nxF s k ≤ (J.getD k jb0).st.length := by
  obtain ⟨n, hn, hb⟩ := h.nb k hk
  have e : nxF s k = n := by simp [nxF, List.getD_eq_getElem?_getD, hn]
  rw [e]
  exact ⟨hn, hb⟩
theorem DOk.fr_ {J : List Jb} {m : Nat} {s : DS} (h : DOk J m s) (ce : ByteArray) : 0 ≤ frF s.out ce ∧ frF s.out ce ≤ 100000 + 1000 * (m : Int) := frT_b (by omega) h.ob _ (Nat.le_refl _)
theorem DOk.t_ {J : List Jb} {m : Nat} {s : DS} (h : DOk J m s) {k : Nat} (hk : k < J.length) : 0 ≤ tF J s k ∧ tF J s k ≤ 100000 + 1000 * (m : Int) := by
  obtain ⟨v, hv, h1, h2⟩ := h.rb k hk
  have h3 := h.fr_ (wkF J s k).ce
  have e : s.rd.getD k 0 = v := by simp [List.getD_eq_getElem?_getD, hv]
  unfold tF
  rw [e]
  omega
/-- What the search for the best job has after k jobs. -/
structure BOk (J : List Jb) (s : DS) (m k : Nat) (b : Int × Int) : Prop where
  lo : -1 ≤ b.1 ∧ b.1 < (k : Int)
  tb : 0 ≤ b.2 ∧ b.2 ≤ 100000 + 1000 * (m : Int)
  nd : 0 ≤ b.1 → doneB J s b.1.toNat = false ∧ b.2 = tF J s b.1.toNat
  al : b.1 < 0 → ∀ i, i < k → doneB J s i = true
theorem bst_ok {J : List Jb} {r : Int} {m : Nat} {s : DS} (h : DOk J m s) : ∀ k, k ≤ J.length → BOk J s m k (bstT J r s k)
  | 0, _ => ⟨by simp [bstT], by simp [bstT]; omega, fun h => by simp [bstT] at h, fun _ i hi => by omega⟩
  | k + 1, hk => by
    have ih := bst_ok (r := r) h k (by omega)
    simp only [bstT]
    cases hd : doneB J s k
    · simp only [Bool.false_eq_true, if_false]
      cases hb : btr J r s k (bstT J r s k)
      · simp only [Bool.false_eq_true, if_false]
        have h0 : 0 ≤ (bstT J r s k).1 := by
          simp only [btr, Bool.or_eq_false_iff, decide_eq_false_iff_not] at hb
          omega
        exact ⟨⟨ih.lo.1, by have := ih.lo.2; omega⟩, ih.tb, ih.nd, fun h1 => by omega⟩
      · simp only [if_true]
        exact ⟨⟨by simp only; omega, by simp only; omega⟩, h.t_ (by omega), fun _ => ⟨by simpa using hd, by simp⟩, fun h1 => by simp only at h1; omega⟩
    · simp only [if_true]
      refine ⟨⟨ih.lo.1, by have := ih.lo.2; omega⟩, ih.tb, ih.nd, fun h1 i hi => ?_⟩
      rcases Nat.lt_succ_iff_lt_or_eq.1 hi with h2 | rfl
      · exact ih.al h1 i h2
      · exact hd
theorem not_done {J : List Jb} {m : Nat} {s : DS} (h : DOk J m s) {k : Nat} (hk : k < J.length) (hd : doneB J s k = false) : nxF s k < (J.getD k jb0).st.length := by
  have := (h.nx_ hk).2
  simp only [doneB, decide_eq_false_iff_not] at hd
  omega
theorem put_ok {J : List Jb} {m : Nat} {s : DS} (ha : areJ J = true) (h : DOk J m s) {i : Nat} (hi : i < J.length) (hd : doneB J s i = false) {t : Int} (ht : 0 ≤ t ∧ t ≤ 100000 + 1000 * (m : Int)) : DOk J (m + 1) (putF J s i t) ∧ m < totJ J J.length := by
  have hn := h.nx_ hi
  have hlt := not_done h hi hd
  obtain ⟨x, hx⟩ : ∃ x, J[i]? = some x := ⟨_, List.getElem?_eq_getElem hi⟩
  have ex : J.getD i jb0 = x := by simp [List.getD_eq_getElem?_getD, hx]
  have hst := ((areJ_at ha).2 i x hx).2.2
  have hy : 1 ≤ (wkF J s i).mi ∧ (wkF J s i).mi ≤ 1000 := by
    rw [ex] at hlt
    obtain ⟨y, hy⟩ : ∃ y, x.st[nxF s i]? = some y := ⟨_, List.getElem?_eq_getElem hlt⟩
    have := hst.2 _ y hy
    have e : wkF J s i = y := by unfold wkF; rw [ex]; simp [List.getD_eq_getElem?_getD, hy]
    rw [e]; omega
  refine ⟨⟨by simp [putF, h.ln], by simp [putF, h.lr], by simp [putF, h.lo], fun k hk => ?_, fun k hk => ?_, fun z hz => ?_, ?_⟩, ?_⟩
  · by_cases e : i = k
    · subst e
      exact ⟨nxF s i + 1, by simp only [putF]; rw [List.getElem?_set_self (by rw [h.ln]; exact hi)]; simp, by omega⟩
    · obtain ⟨n, h1, h2⟩ := h.nb k hk
      exact ⟨n, by simp only [putF]; rw [List.getElem?_set_ne e]; exact h1, h2⟩
  · by_cases e : i = k
    · subst e
      exact ⟨t + (wkF J s i).mi, by simp only [putF]; rw [List.getElem?_set_self (by rw [h.lr]; exact hi)], by omega, by push_cast; omega⟩
    · obtain ⟨n, h1, h2, h3⟩ := h.rb k hk
      exact ⟨n, by simp only [putF]; rw [List.getElem?_set_ne e]; exact h1, h2, by push_cast; omega⟩
  · simp only [putF] at hz
    rcases List.mem_append.1 hz with hz | hz
    · have := h.ob z hz; push_cast; omega
    · obtain rfl : z = _ := by simpa using hz
      simp only; push_cast; omega
  · simp only [putF]
    rw [totN_set hn.1, if_pos hi, h.tt]
  · have := totN_lt h.nb hi hn.1 hlt J.length (Nat.le_refl _) hi
    rw [h.tt] at this
    exact this
theorem ds0_ok {J : List Jb} (ha : areJ J = true) : DOk J 0 (ds0 J) := by
  refine ⟨by simp [ds0], by simp [ds0], rfl, fun k hk => ⟨0, by simp [ds0, List.getElem?_replicate, hk], Nat.zero_le _⟩, fun k hk => ?_, by simp [ds0], ?_⟩
  · obtain ⟨x, hx⟩ : ∃ x, J[k]? = some x := ⟨_, List.getElem?_eq_getElem hk⟩
    have := ((areJ_at ha).2 k x hx).1
    exact ⟨x.rl, by simp [ds0, hx], by omega, by omega⟩
  · have : ∀ k, totN (ds0 J).nx k = 0 := fun k => by
      induction k with
      | zero => rfl
      | succ k ih =>
        have e : ((ds0 J).nx.getD k 0).toNat = 0 := by
          simp only [ds0, List.getD_eq_getElem?_getD, List.getElem?_replicate]
          split <;> rfl
        simp only [totN, ih, e]
    exact this _
theorem step_fix {J : List Jb} {r : Int} {s : DS} (h : (bstT J r s J.length).1 < 0) : stepF J r s = s := by unfold stepF; rw [if_pos h]
theorem ds_fix {J : List Jb} {r : Int} {m : Nat} (h : (bstT J r (dsN J r m) J.length).1 < 0) : ∀ j, dsN J r (m + j) = dsN J r m
  | 0 => rfl
  | j + 1 => by
    show stepF J r (dsN J r (m + j)) = _
    rw [ds_fix h j, step_fix h]
theorem disp_end {J : List Jb} {r : Int} {m : Nat} (h : (bstT J r (dsN J r m) J.length).1 < 0) (hm : m ≤ totJ J J.length) : (dsN J r (totJ J J.length)).out = (dsN J r m).out := by
  obtain ⟨j, hj⟩ : ∃ j, totJ J J.length = m + j := ⟨totJ J J.length - m, by omega⟩
  rw [hj, ds_fix h j]
theorem ds_ok {J : List Jb} {r : Int} (ha : areJ J = true) : ∀ m, ∃ m', m' ≤ m ∧ DOk J m' (dsN J r m)
  | 0 => ⟨0, Nat.le_refl _, ds0_ok ha⟩
  | m + 1 => by
    obtain ⟨m', h1, h2⟩ := ds_ok (r := r) ha m
    have hb := bst_ok (r := r) h2 J.length (Nat.le_refl _)
    simp only [dsN, stepF]
    split
    · exact ⟨m', by omega, h2⟩
    · rename_i h3
      have h4 := hb.nd (by omega)
      exact ⟨m' + 1, by omega, (put_ok ha h2 (by have := hb.lo.2; omega) h4.1 hb.tb).1⟩
theorem disp_le (J : List Jb) (r : Int) : (dispF J r).1.length ≤ 30 := by
  unfold dispF
  split
  · rename_i h
    obtain ⟨m', h1, h2⟩ := ds_ok (r := r) h.1 (totJ J J.length)
    have := totJ_30 h.1
    rw [show (_ : List Slt × Bool).1 = (dsN J r (totJ J J.length)).out from rfl, h2.lo]
    omega
  · simp
end Go.Proofs.Ytembbgkhmnalpaa
