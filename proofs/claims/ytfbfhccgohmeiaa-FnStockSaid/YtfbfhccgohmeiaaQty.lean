/- Holdings are told by their quantities; what a move does to each quantity; a move undone; two moves of different batches. Conditions: none. -/
import Derived.Test.YtfbfhccgohmeiaaAplU
namespace Go.Proofs.Ytfbfhccgohmeiaa
open Go.RowKit
set_option linter.unusedVariables false
set_option linter.unusedSimpArgs false

/-- The quantity of a key. -/
abbrev qOf (it ba pl : ByteArray) (l : List Hold) : Int := firstQ (matchH it ba pl) l
theorem match_same {it ba pl : ByteArray} {x y : Hold} (h : matchH it ba pl x = true) (k : matchH it ba pl y = true) : sameH x y = true := by
  obtain ⟨a1, a2, a3⟩ := sameH_iff.1 (show sameH ⟨it, ba, pl, 0⟩ x = true from h)
  obtain ⟨b1, b2, b3⟩ := sameH_iff.1 (show sameH ⟨it, ba, pl, 0⟩ y = true from k)
  exact sameH_iff.2 ⟨b1.trans a1.symm, b2.trans a2.symm, b3.trans a3.symm⟩
theorem same_match {it ba pl : ByteArray} {x y : Hold} (h : sameH x y = true) : matchH it ba pl x = matchH it ba pl y := by
  obtain ⟨a1, a2, a3⟩ := sameH_iff.1 h
  simp [matchH, a1, a2, a3]
theorem firstQ_none {m : Hold → Bool} : ∀ {l : List Hold}, (∀ y ∈ l, m y = false) → firstQ m l = 0
  | [], _ => rfl
  | y :: t, h => by
    simp only [firstQ]
    rw [if_neg (by rw [h y (List.mem_cons_self ..)]; simp), firstQ_none (fun z hz => h z (List.mem_cons_of_mem _ hz))]
theorem firstQ_nonneg {m : Hold → Bool} : ∀ {l : List Hold}, (∀ y ∈ l, 0 < y.q) → 0 ≤ firstQ m l
  | [], _ => by simp [firstQ]
  | y :: t, h => by
    simp only [firstQ]
    split
    · have := h y (List.mem_cons_self ..); omega
    · exact firstQ_nonneg (fun z hz => h z (List.mem_cons_of_mem _ hz))
theorem bef_nomatch {it ba pl : ByteArray} {x y : Hold} (h : befH x y = true ∨ befH y x = true) (hx : matchH it ba pl x = true) : matchH it ba pl y = false := by
  cases k : matchH it ba pl y
  · rfl
  · have := sameH_bef (match_same hx k)
    rcases h with h | h
    · rw [this.1] at h; cases h
    · rw [this.2] at h; cases h
theorem putR_q {x : Hold} (hp : x.pl.toList ≠ []) (it ba pl : ByteArray) : ∀ {l : List Hold}, Asc l → ((∃ y ∈ l, sameH x y = true) ∨ x.q ≠ 0) →
    qOf it ba pl (putR x l) = qOf it ba pl l + (if matchH it ba pl x then x.q else 0)
  | [], _, h => by
    have hq : x.q ≠ 0 := by
      rcases h with ⟨y, hy, _⟩ | h
      · simp at hy
      · exact h
    simp only [putR, insH]
    rw [if_pos ⟨hq, hp⟩]
    simp [firstQ]
  | y :: t, ha, h => by
    simp only [putR]
    by_cases h1 : befH y x = true
    · rw [if_pos h1]
      have hyx : sameH x y = false := by
        cases k : sameH x y
        · rfl
        · rw [(sameH_bef k).2] at h1; cases h1
      have ih := putR_q hp it ba pl ha.tail (by
        rcases h with ⟨z, hz, hs⟩ | h
        · rcases List.mem_cons.1 hz with rfl | hz
          · rw [hyx] at hs; cases hs
          · exact .inl ⟨z, hz, hs⟩
        · exact .inr h)
      simp only [firstQ]
      cases hm : matchH it ba pl y
      · simpa using ih
      · rw [bef_nomatch (.inl h1) hm]
        simp
    · rw [if_neg h1]
      by_cases h2 : befH x y = true
      · rw [if_pos h2]
        have hall : ∀ z ∈ y :: t, befH x z = true := fun z hz => by
          rcases List.mem_cons.1 hz with rfl | hz
          · exact h2
          · exact befH_trans h2 (ha.head z hz)
        have hq : x.q ≠ 0 := by
          rcases h with ⟨z, hz, hs⟩ | h
          · have h9 := hall z hz
            rw [(sameH_bef hs).1] at h9
            cases h9
          · exact h
        simp only [insH]
        rw [if_pos ⟨hq, hp⟩]
        simp only [List.cons_append, List.nil_append, firstQ]
        cases hm : matchH it ba pl x
        · simp
        · have := firstQ_none (m := matchH it ba pl) (l := y :: t) (fun z hz => bef_nomatch (.inl (hall z hz)) hm)
          simp only [firstQ] at this
          simp [this]
      · rw [if_neg h2]
        have hs := befH_tri (x := x) (y := y) (by simpa using h2) (by simpa using h1)
        have hmm := same_match (it := it) (ba := ba) (pl := pl) hs
        have ht : matchH it ba pl y = true → qOf it ba pl t = 0 := fun hm => firstQ_none fun z hz => bef_nomatch (.inl (ha.head z hz)) hm
        have hme : matchH it ba pl ⟨x.it, x.ba, x.pl, x.q + y.q⟩ = matchH it ba pl x := rfl
        simp only [insH, firstQ]
        by_cases hz : x.q + y.q ≠ 0
        · rw [if_pos ⟨hz, hp⟩]
          simp only [List.cons_append, List.nil_append, firstQ, hme, hmm]
          cases hm : matchH it ba pl y
          · simp
          · simp only [if_true]; omega
        · rw [if_neg (fun hh => hz hh.1)]
          simp only [List.nil_append, hmm]
          cases hm : matchH it ba pl y
          · simp
          · simp only [if_true]
            have := ht hm
            omega
theorem asc_ext : ∀ {l k : List Hold}, Asc l → Asc k → (∀ y ∈ l, y.pl.toList ≠ []) → (∀ y ∈ k, y.pl.toList ≠ []) → (∀ it ba pl, pl.toList ≠ [] → qOf it ba pl l = qOf it ba pl k) → l = k
  | [], [], _, _, _, _, _ => rfl
  | [], y :: s, _, hk, _, pk, hq => by
    have h1 := hq y.it y.ba y.pl (pk y (List.mem_cons_self ..))
    have h2 : matchH y.it y.ba y.pl y = true := by simp [matchH]
    simp only [qOf, firstQ, h2, if_true] at h1
    have := hk.2 y (List.mem_cons_self ..)
    omega
  | x :: t, [], hl, _, pl_, _, hq => by
    have h1 := hq x.it x.ba x.pl (pl_ x (List.mem_cons_self ..))
    have h2 : matchH x.it x.ba x.pl x = true := by simp [matchH]
    simp only [qOf, firstQ, h2, if_true] at h1
    have := hl.2 x (List.mem_cons_self ..)
    omega
  | x :: t, y :: s, hl, hk, pl_, pk, hq => by
    have hx0 := hl.2 x (List.mem_cons_self ..)
    have hy0 := hk.2 y (List.mem_cons_self ..)
    have mx : matchH x.it x.ba x.pl x = true := by simp [matchH]
    have my : matchH y.it y.ba y.pl y = true := by simp [matchH]
    have qx := hq x.it x.ba x.pl (pl_ x (List.mem_cons_self ..))
    have qy := hq y.it y.ba y.pl (pk y (List.mem_cons_self ..))
    have nb1 : befH x y = false := by
      cases h : befH x y
      · rfl
      · have : qOf x.it x.ba x.pl (y :: s) = 0 := firstQ_none fun z hz => by
          rcases List.mem_cons.1 hz with rfl | hz
          · exact bef_nomatch (.inl h) mx
          · exact bef_nomatch (.inl (befH_trans h (hk.head z hz))) mx
        rw [this] at qx
        simp only [qOf, firstQ, mx, if_true] at qx
        omega
    have nb2 : befH y x = false := by
      cases h : befH y x
      · rfl
      · have : qOf y.it y.ba y.pl (x :: t) = 0 := firstQ_none fun z hz => by
          rcases List.mem_cons.1 hz with rfl | hz
          · exact bef_nomatch (.inl h) my
          · exact bef_nomatch (.inl (befH_trans h (hl.head z hz))) my
        rw [this] at qy
        simp only [qOf, firstQ, my, if_true] at qy
        omega
    have hs := befH_tri nb1 nb2
    have mxy : matchH x.it x.ba x.pl y = true := by rw [← same_match hs]; exact mx
    simp only [qOf, firstQ, mx, mxy, if_true] at qx
    have hxy : x = y := by
      obtain ⟨e1, e2, e3⟩ := sameH_iff.1 hs
      cases x; cases y
      simp only at e1 e2 e3 qx
      subst e1 e2 e3 qx
      rfl
    subst hxy
    rw [asc_ext hl.tail hk.tail (fun z hz => pl_ z (List.mem_cons_of_mem _ hz)) (fun z hz => pk z (List.mem_cons_of_mem _ hz)) (fun it ba pl hp => by
      have h1 := hq it ba pl hp
      simp only [qOf, firstQ] at h1
      cases hm : matchH it ba pl x
      · simpa [hm] using h1
      · unfold qOf
        rw [firstQ_none (m := matchH it ba pl) (l := t) (fun z hz => bef_nomatch (.inl (hl.head z hz)) hm), firstQ_none (m := matchH it ba pl) (l := s) (fun z hz => bef_nomatch (.inl (hk.head z hz)) hm)])]

/-- What a move does to the quantity of a key. -/
def dl (it ba pl : ByteArray) (x : Mv) : Int := (if matchH it ba pl ⟨x.it, x.ba, x.tt, 0⟩ then x.q else 0) - (if matchH it ba pl ⟨x.it, x.ba, x.ff, 0⟩ then x.q else 0)
theorem match_pl {it ba pl : ByteArray} {x : Hold} (h : matchH it ba pl x = true) : x.pl.toList = pl.toList := by
  simp only [matchH, Bool.and_eq_true, decide_eq_true_eq] at h
  exact h.2
theorem dl_back (it ba pl : ByteArray) (x : Mv) : dl it ba pl (backM x) = - dl it ba pl x := by
  unfold dl backM
  dsimp only
  omega
structure MvQ (l : List Hold) (x : Mv) : Prop where
  asc : Asc (mvF l x)
  pl : ∀ y ∈ mvF l x, y.pl.toList ≠ []
  q : ∀ it ba pl, pl.toList ≠ [] → qOf it ba pl (mvF l x) = qOf it ba pl l + dl it ba pl x
theorem mv_q {l : List Hold} {x : Mv} (h : preMv l x = true) : MvQ l x := by
  simp only [preMv, Bool.and_eq_true] at h
  obtain ⟨⟨ha, hm⟩, hq⟩ := h
  obtain ⟨c1, c2, c3, c4, c5, q1, q2⟩ := mvOk_at hm
  have hasc := areH_asc ha
  have hpl : ∀ y ∈ l, y.pl.toList ≠ [] := fun y hy => (areH_mem ha hy).1
  have e1 : mvOne l x = putR ⟨x.it, x.ba, x.ff, -x.q⟩ l := putF_eq _ _
  have e2 : mvF l x = putR ⟨x.it, x.ba, x.tt, x.q⟩ (mvOne l x) := putF_eq _ _
  have hmat : x.ff.toList ≠ [] → (∃ y ∈ l, sameH ⟨x.it, x.ba, x.ff, -x.q⟩ y = true) ∧ ∀ y ∈ l, sameH ⟨x.it, x.ba, x.ff, -x.q⟩ y = true → 0 ≤ y.q + -x.q := by
    intro hf
    have h1 : ¬ qtyF l x.it x.ba x.ff < x.q := by
      simpa [hf] using hq
    have h2 : qtyF l x.it x.ba x.ff = firstQ (matchH x.it x.ba x.ff) l := by simp [qtyF, ha]
    rw [h2] at h1
    refine ⟨firstQ_pos (m := matchH x.it x.ba x.ff) (by omega), fun y hy hs => ?_⟩
    have := firstQ_asc (it := x.it) (ba := x.ba) (pl := x.ff) hasc y hy hs
    omega
  have hone : x.ff.toList = [] → mvOne l x = l := fun hf => by rw [e1]; exact putR_outside hf hpl
  have hasc1 : Asc (mvOne l x) := by
    by_cases hf : x.ff.toList = []
    · rw [hone hf]; exact hasc
    · rw [e1]; exact putR_asc hasc (hmat hf).2 (.inl (hmat hf).1)
  have hpl1 : ∀ y ∈ mvOne l x, y.pl.toList ≠ [] := fun y hy => by
    by_cases hf : x.ff.toList = []
    · rw [hone hf] at hy; exact hpl y hy
    · rw [e1] at hy
      rcases putR_mem hy with h | ⟨_, _, h⟩
      · exact hpl y h
      · rw [h]; exact hf
  have hQ1 : ∀ it ba pl, pl.toList ≠ [] → qOf it ba pl (mvOne l x) = qOf it ba pl l - (if matchH it ba pl ⟨x.it, x.ba, x.ff, 0⟩ then x.q else 0) := fun it ba pl hp => by
    by_cases hf : x.ff.toList = []
    · rw [hone hf, if_neg (fun hh => hp ((match_pl hh).symm.trans hf))]
      omega
    · rw [e1, putR_q (x := ⟨x.it, x.ba, x.ff, -x.q⟩) hf it ba pl hasc (.inl (hmat hf).1)]
      have : matchH it ba pl ⟨x.it, x.ba, x.ff, -x.q⟩ = matchH it ba pl ⟨x.it, x.ba, x.ff, 0⟩ := rfl
      rw [this]
      dsimp only
      split <;> omega
  by_cases ht : x.tt.toList = []
  · have e3 : mvF l x = mvOne l x := by rw [e2]; exact putR_outside ht hpl1
    rw [show MvQ l x ↔ _ from ⟨fun h => And.intro h.asc (And.intro h.pl h.q), fun h => ⟨h.1, h.2.1, h.2.2⟩⟩, e3]
    refine ⟨hasc1, hpl1, fun it ba pl hp => ?_⟩
    have h0 : matchH it ba pl ⟨x.it, x.ba, x.tt, 0⟩ = false := by
      cases k : matchH it ba pl ⟨x.it, x.ba, x.tt, 0⟩
      · rfl
      · exact absurd ((match_pl k).symm.trans ht) hp
    rw [hQ1 it ba pl hp, dl, h0]
    simp only [Bool.false_eq_true, if_false]
    omega
  · refine ⟨?_, fun y hy => ?_, fun it ba pl hp => ?_⟩
    · rw [e2]
      exact putR_asc hasc1 (fun y hy _ => by have := hasc1.2 y hy; simp only; omega) (.inr (by simp only; omega))
    · rw [e2] at hy
      rcases putR_mem hy with h | ⟨_, _, h⟩
      · exact hpl1 y h
      · rw [h]; exact ht
    · rw [e2, putR_q (x := ⟨x.it, x.ba, x.tt, x.q⟩) ht it ba pl hasc1 (.inr (by simp only; omega)), hQ1 it ba pl hp, dl]
      have : matchH it ba pl ⟨x.it, x.ba, x.tt, x.q⟩ = matchH it ba pl ⟨x.it, x.ba, x.tt, 0⟩ := rfl
      rw [this]
      dsimp only
      omega
theorem areH_mk {l : List Hold} (h : Asc l) (hc : ∀ y ∈ l, codeB y.it = true ∧ codeB y.ba = true ∧ codeB y.pl = true ∧ y.q ≤ 1000000000) (hn : l.length ≤ 60) : areH l = true := by
  simp only [areH, Bool.and_eq_true, allTo_iff, decide_eq_true_eq]
  refine ⟨fun i hi => ?_, by omega⟩
  have hy : l[i]? = some l[i] := List.getElem?_eq_getElem hi
  obtain ⟨a1, a2, a3, a4⟩ := hc l[i] (List.getElem_mem hi)
  have a5 := h.2 l[i] (List.getElem_mem hi)
  simp only [holdOk, List.getD_eq_getElem?_getD, hy, Option.getD_some, Bool.and_eq_true, inB_iff]
  refine ⟨⟨⟨⟨a1, a2⟩, a3⟩, by omega, a4⟩, ?_⟩
  split
  · rfl
  · rename_i h0
    rw [List.getElem?_eq_getElem (show i - 1 < l.length by omega)]
    exact List.pairwise_iff_getElem.1 h.1 (i - 1) i (by omega) hi (by omega)
theorem canMv_pre {l : List Hold} {x : Mv} (h : canMv l x = true) : preMv l x = true ∧ areH (mvF l x) = true := by
  simpa [canMv] using h
theorem mvOk_back {x : Mv} (h : mvOk x.day x.it x.ba x.ff x.tt x.q = true) : mvOk x.day x.it x.ba x.tt x.ff x.q = true := by
  simp only [mvOk, Bool.and_eq_true, Bool.not_eq_true', decide_eq_false_iff_not] at h ⊢
  obtain ⟨⟨⟨⟨⟨⟨a, b⟩, c⟩, d⟩, e⟩, f⟩, g⟩ := h
  exact ⟨⟨⟨⟨⟨⟨a, b⟩, c⟩, e⟩, d⟩, fun hh => f hh.symm⟩, g⟩
theorem preMv_at {l : List Hold} {x : Mv} (h : preMv l x = true) : areH l = true ∧ mvOk x.day x.it x.ba x.ff x.tt x.q = true ∧ (x.ff.toList = [] ∨ x.q ≤ qOf x.it x.ba x.ff l) := by
  simp only [preMv, Bool.and_eq_true, Bool.or_eq_true, Bool.not_eq_true', decide_eq_false_iff_not, List.isEmpty_iff] at h
  refine ⟨h.1.1, h.1.2, h.2.imp id fun hh => ?_⟩
  simp only [qtyF, h.1.1, if_true] at hh
  show x.q ≤ firstQ (matchH x.it x.ba x.ff) l
  omega
theorem preMv_mk {l : List Hold} {x : Mv} (h1 : areH l = true) (h2 : mvOk x.day x.it x.ba x.ff x.tt x.q = true) (h3 : x.ff.toList = [] ∨ x.q ≤ qOf x.it x.ba x.ff l) : preMv l x = true := by
  simp only [preMv, Bool.and_eq_true, Bool.or_eq_true, Bool.not_eq_true', decide_eq_false_iff_not, List.isEmpty_iff]
  refine ⟨⟨h1, h2⟩, h3.imp id fun hh => ?_⟩
  replace hh : x.q ≤ firstQ (matchH x.it x.ba x.ff) l := hh
  simp only [qtyF, h1, if_true]
  omega
/-- A move that was made can be undone, and what stood before stands again. -/
theorem move_back {l : List Hold} {x : Mv} (h : canMv l x = true) : canMv (mvF l x) (backM x) = true ∧ mvF (mvF l x) (backM x) = l := by
  obtain ⟨hp, ha⟩ := canMv_pre h
  obtain ⟨hl, hm, _⟩ := preMv_at hp
  obtain ⟨_, _, _, _, c5, q1, _⟩ := mvOk_at hm
  have Q := mv_q hp
  have hpre : preMv (mvF l x) (backM x) = true := by
    refine preMv_mk ha (mvOk_back hm) ?_
    by_cases ht : x.tt.toList = []
    · exact .inl ht
    · right
      have h1 := Q.q x.it x.ba x.tt ht
      have h2 : 0 ≤ qOf x.it x.ba x.tt l := firstQ_nonneg (areH_asc hl).2
      have h3 : matchH x.it x.ba x.tt ⟨x.it, x.ba, x.tt, 0⟩ = true := by simp [matchH]
      have h4 : matchH x.it x.ba x.tt ⟨x.it, x.ba, x.ff, 0⟩ = false := by simp [matchH, c5]
      simp only [dl, h3, h4] at h1
      simp only [backM]
      simp at h1
      omega
  have Q2 := mv_q hpre
  have he : mvF (mvF l x) (backM x) = l := asc_ext Q2.asc (areH_asc hl) Q2.pl (fun y hy => (areH_mem hl hy).1) fun it ba pl hpl => by
    rw [Q2.q it ba pl hpl, Q.q it ba pl hpl]
    rw [dl_back]
    omega
  refine ⟨?_, he⟩
  simp only [canMv, hpre, he, hl, Bool.and_self]

theorem mv_len {l : List Hold} {x : Mv} : (mvF l x).length ≤ l.length + 2 := by
  have e1 : mvOne l x = putR ⟨x.it, x.ba, x.ff, -x.q⟩ l := putF_eq _ _
  have e2 : mvF l x = putR ⟨x.it, x.ba, x.tt, x.q⟩ (mvOne l x) := putF_eq _ _
  have h1 := putR_len (x := ⟨x.it, x.ba, x.ff, -x.q⟩) l
  have h2 := putR_len (x := ⟨x.it, x.ba, x.tt, x.q⟩) (mvOne l x)
  rw [e2]
  rw [e1] at h2 ⊢
  omega
theorem code_pl {l : List Hold} {x : Mv} (h : preMv l x = true) : ∀ y ∈ mvF l x, codeB y.it = true ∧ codeB y.ba = true ∧ codeB y.pl = true := by
  intro y hy
  obtain ⟨hl, hm, _⟩ := preMv_at h
  obtain ⟨c1, c2, c3, c4, _⟩ := mvOk_at hm
  have hp := (mv_q h).pl y hy
  have hc : ∀ z ∈ l, codeB z.it = true ∧ codeB z.ba = true ∧ codeB z.pl = true := fun z hz => by
    obtain ⟨i, hi⟩ := List.mem_iff_getElem?.1 hz
    have := areH_ok hl hi
    exact ⟨this.1, this.2.1, this.2.2.1⟩
  rcases (mv_facts h).keys y hy with h | ⟨z, hz, e1, e2, e3⟩ | ⟨e1, e2, e3⟩
  · exact hc y h
  · rw [e1, e2, e3]; exact hc z hz
  · rw [e1, e2]
    refine ⟨c1, c2, ?_⟩
    rcases e3 with e | e <;> rw [e] at hp ⊢
    · exact c3.resolve_left hp
    · exact c4.resolve_left hp
/-- The holdings after a move are right exactly if what it touches is not too much. -/
theorem areH_mv {l : List Hold} {x : Mv} (h : preMv l x = true) (hn : l.length ≤ 58) : areH (mvF l x) = true ↔ ∀ pl, pl.toList ≠ [] → qOf x.it x.ba pl l + dl x.it x.ba pl x ≤ 1000000000 := by
  have Q := mv_q h
  obtain ⟨hl, hm, _⟩ := preMv_at h
  constructor
  · intro ha pl hp
    rw [← Q.q _ _ _ hp]
    rcases Classical.em (∃ y ∈ mvF l x, matchH x.it x.ba pl y = true) with ⟨y, hy, hm⟩ | hno
    · rw [show qOf x.it x.ba pl (mvF l x) = y.q from firstQ_asc Q.asc y hy hm]
      exact (areH_mem ha hy).2.2
    · rw [show qOf x.it x.ba pl (mvF l x) = 0 from firstQ_none fun y hy => by
        cases k : matchH x.it x.ba pl y
        · rfl
        · exact absurd ⟨y, hy, k⟩ hno]
      omega
  · intro hq
    refine areH_mk Q.asc (fun y hy => ?_) (by have := mv_len (l := l) (x := x); omega)
    obtain ⟨a1, a2, a3⟩ := code_pl h y hy
    refine ⟨a1, a2, a3, ?_⟩
    have hp := Q.pl y hy
    have my : matchH y.it y.ba y.pl y = true := by simp [matchH]
    have e : qOf y.it y.ba y.pl (mvF l x) = y.q := firstQ_asc Q.asc y hy my
    by_cases hk : y.it = x.it ∧ y.ba = x.ba
    · have := hq y.pl hp
      rw [← hk.1, ← hk.2, ← Q.q _ _ _ hp, e] at this
      exact this
    · have h0 : dl y.it y.ba y.pl x = 0 := by
        have h1 : ∀ p, matchH y.it y.ba y.pl ⟨x.it, x.ba, p, 0⟩ = false := fun p => by
          cases k : matchH y.it y.ba y.pl ⟨x.it, x.ba, p, 0⟩
          · rfl
          · simp only [matchH, Bool.and_eq_true, decide_eq_true_eq, ba_inj] at k
            exact absurd ⟨k.1.1.symm, k.1.2.symm⟩ hk
        simp [dl, h1]
      rw [← e, Q.q _ _ _ hp, h0]
      rcases Classical.em (∃ z ∈ l, matchH y.it y.ba y.pl z = true) with ⟨z, hz, hm⟩ | hno
      · rw [show qOf y.it y.ba y.pl l = z.q from firstQ_asc (areH_asc hl) z hz hm]
        have := (areH_mem hl hz).2.2
        omega
      · rw [show qOf y.it y.ba y.pl l = 0 from firstQ_none fun z hz => by
          cases k : matchH y.it y.ba y.pl z
          · rfl
          · exact absurd ⟨z, hz, k⟩ hno]
        omega
theorem dl_other {x y : Mv} (h : ¬ (y.it = x.it ∧ y.ba = x.ba)) (pl : ByteArray) : dl y.it y.ba pl x = 0 := by
  have h1 : ∀ p, matchH y.it y.ba pl ⟨x.it, x.ba, p, 0⟩ = false := fun p => by
    cases k : matchH y.it y.ba pl ⟨x.it, x.ba, p, 0⟩
    · rfl
    · simp only [matchH, Bool.and_eq_true, decide_eq_true_eq, ba_inj] at k
      exact absurd ⟨k.1.1.symm, k.1.2.symm⟩ h
  simp [dl, h1]
/-- Behind a move of another batch a move can be made exactly if it could be made before. -/
theorem moves_can {l : List Hold} {x y : Mv} (h : canMv l x = true) (hn : l.length ≤ 50) (hd : ¬ (y.it = x.it ∧ y.ba = x.ba)) : canMv (mvF l x) y = canMv l y := by
  obtain ⟨hp, ha⟩ := canMv_pre h
  obtain ⟨hl, _, _⟩ := preMv_at hp
  have Q := mv_q hp
  have hq : ∀ pl, pl.toList ≠ [] → qOf y.it y.ba pl (mvF l x) = qOf y.it y.ba pl l := fun pl hpl => by
    rw [Q.q _ _ _ hpl, dl_other hd]; omega
  have hpre : preMv (mvF l x) y = true ↔ preMv l y = true := by
    constructor
    · intro k
      obtain ⟨_, k2, k3⟩ := preMv_at k
      refine preMv_mk hl k2 ?_
      by_cases hf : y.ff.toList = []
      · exact .inl hf
      · rw [← hq _ hf]; exact k3
    · intro k
      obtain ⟨_, k2, k3⟩ := preMv_at k
      refine preMv_mk ha k2 ?_
      by_cases hf : y.ff.toList = []
      · exact .inl hf
      · rw [hq _ hf]; exact k3
  rw [Bool.eq_iff_iff]
  have hlen := mv_len (l := l) (x := x)
  constructor
  · intro k
    obtain ⟨k1, k2⟩ := canMv_pre k
    have k3 := hpre.1 k1
    have := (areH_mv k3 (by omega)).2 (fun pl hpl => by rw [← hq pl hpl]; exact (areH_mv k1 (by omega)).1 k2 pl hpl)
    simp [canMv, k3, this]
  · intro k
    obtain ⟨k1, k2⟩ := canMv_pre k
    have k3 := hpre.2 k1
    have := (areH_mv k3 (by omega)).2 (fun pl hpl => by rw [hq pl hpl]; exact (areH_mv k1 (by omega)).1 k2 pl hpl)
    simp [canMv, k3, this]
/-- Two moves that can be made one way or the other lead to the same holdings. -/
theorem moves_same {l : List Hold} {x y : Mv} (h1 : canMv l x = true) (h2 : canMv (mvF l x) y = true) (h3 : canMv l y = true) (h4 : canMv (mvF l y) x = true) : mvF (mvF l x) y = mvF (mvF l y) x := by
  have Q1 := mv_q (canMv_pre h1).1
  have Q2 := mv_q (canMv_pre h2).1
  have Q3 := mv_q (canMv_pre h3).1
  have Q4 := mv_q (canMv_pre h4).1
  refine asc_ext Q2.asc Q4.asc Q2.pl Q4.pl fun it ba pl hp => ?_
  rw [Q2.q _ _ _ hp, Q1.q _ _ _ hp, Q4.q _ _ _ hp, Q3.q _ _ _ hp]
  omega
end Go.Proofs.Ytfbfhccgohmeiaa
