/- The plain law on repairing: a repaired schedule is one, keeps the stop and the order, moves nothing to an earlier time and nothing without a reason. Conditions: none. -/
import Derived.Test.YtembbgkhmnalpaaRepP
import Derived.Test.YtembbgkhmnalpaaMoved
namespace Go.Proofs.Ytembbgkhmnalpaa
open Go.RowKit Go.ChangeShapes Go.WideShapes Go.Deep
set_option linter.unusedVariables false
set_option linter.unusedSimpArgs false

theorem clA_false {x y : Slt} : clA x y = false ↔ (x.jb = y.jb → x.sp ≠ y.sp ∧ (y.sp < x.sp → y.en ≤ x.st) ∧ (x.sp < y.sp → x.en ≤ y.st)) := by
  rw [← Bool.not_eq_true]
  simp only [clA, Bool.and_eq_true, Bool.or_eq_true, decide_eq_true_eq]
  omega
theorem clB_false {x y : Slt} : clB x y = false ↔ (x.ce.toList = y.ce.toList → y.en ≤ x.st ∨ x.en ≤ y.st) := by
  rw [← Bool.not_eq_true]
  simp only [clB, Bool.and_eq_true, decide_eq_true_eq]
  constructor
  · intro h e
    by_cases h1 : y.en ≤ x.st
    · exact .inl h1
    · by_cases h2 : x.en ≤ y.st
      · exact .inr h2
      · exact (h ⟨⟨e, by omega⟩, by omega⟩).elim
  · rintro h ⟨⟨e, h1⟩, h2⟩
    have := h e
    omega
theorem nearB_iff {y s : Slt} : nearB y s = true ↔ y.jb = s.jb ∨ y.ce.toList = s.ce.toList := by simp [nearB]
theorem getD_of {L : List Slt} {i : Nat} {s : Slt} (h : L[i]? = some s) : L.getD i slt0 = s := by simp [List.getD_eq_getElem?_getD, h]
theorem sch_row {J : List Jb} {L : List Slt} (h : schB J L = true) {i : Nat} {s : Slt} (hi : L[i]? = some s) : namB J s = true ∧ fitB J s = true ∧ ∀ k z, k < i → L[k]? = some z → clA s z = false ∧ clB s z = false := by
  simp only [schB, Bool.and_eq_true, allTo_iff] at h
  have hr := h.2 i (List.getElem?_eq_some_iff.1 hi).1
  simp only [rowB, Bool.and_eq_true, allTo_iff, getD_of hi] at hr
  refine ⟨hr.1.1, hr.1.2, fun k z hk hz => ?_⟩
  have h2 := hr.2 k hk
  simp only [clN, getD_of hi, getD_of hz, Bool.not_eq_true', Bool.or_eq_false_iff] at h2
  exact h2
/-- Two slots of one job or one center stand one behind the other. -/
theorem sch_sep {J : List Jb} {L : List Slt} (h : schB J L = true) {a b : Nat} {s z : Slt} (ha : L[a]? = some s) (hb : L[b]? = some z) (hne : a ≠ b) (hn : nearB s z = true) (hst : s.st ≤ z.st) : s.en ≤ z.st ∧ (s.jb = z.jb → s.sp < z.sp) := by
  have hL := (sch_at h).2
  have h1 := hL s (List.mem_of_getElem? ha)
  have h2 := hL z (List.mem_of_getElem? hb)
  have hq : (s.jb = z.jb → s.sp ≠ z.sp ∧ (z.sp < s.sp → z.en ≤ s.st) ∧ (s.sp < z.sp → s.en ≤ z.st)) ∧ (s.ce.toList = z.ce.toList → z.en ≤ s.st ∨ s.en ≤ z.st) := by
    rcases Nat.lt_or_gt_of_ne hne with hlt | hlt
    · have h3 := (sch_row h hb).2.2 a s hlt ha
      have h4 := clA_false.1 h3.1
      have h5 := clB_false.1 h3.2
      exact ⟨fun e => by have := h4 e.symm; omega, fun e => by have := h5 e.symm; omega⟩
    · have h3 := (sch_row h ha).2.2 b z hlt hb
      exact ⟨clA_false.1 h3.1, clB_false.1 h3.2⟩
  rcases nearB_iff.1 hn with e | e
  · have := hq.1 e
    omega
  · have h4 := hq.2 e
    refine ⟨by omega, fun e2 => ?_⟩
    have := hq.1 e2
    omega

theorem rpSt_congr {out out' : List Slt} {O : List Int} {s : Slt} : ∀ k, (∀ j, j < k → out.getD (atO O j) slt0 = out'.getD (atO O j) slt0) → rpSt out O s k = rpSt out' O s k
  | 0, _ => rfl
  | k + 1, h => by simp only [rpSt, h k (by omega), rpSt_congr k fun j hj => h j (by omega)]
theorem rpSt_ge (out : List Slt) (O : List Int) (s : Slt) : ∀ k, s.st ≤ rpSt out O s k
  | 0 => Int.le_refl _
  | k + 1 => by
    have := rpSt_ge out O s k
    simp only [rpSt]
    split <;> omega
theorem rpSt_near {out : List Slt} {O : List Int} {s : Slt} : ∀ {k j : Nat}, j < k → nearB (out.getD (atO O j) slt0) s = true → (out.getD (atO O j) slt0).en ≤ rpSt out O s k
  | k + 1, j, hj, hn => by
    simp only [rpSt]
    rcases Nat.lt_succ_iff_lt_or_eq.1 hj with h | rfl
    · have := rpSt_near h hn
      split <;> omega
    · rw [if_pos hn]; omega
theorem rpSt_why (out : List Slt) (O : List Int) (s : Slt) : ∀ k, rpSt out O s k = s.st ∨ ∃ j, j < k ∧ nearB (out.getD (atO O j) slt0) s = true ∧ rpSt out O s k = (out.getD (atO O j) slt0).en
  | 0 => .inl rfl
  | k + 1 => by
    simp only [rpSt]
    split
    · rename_i hn
      rcases Int.le_total (rpSt out O s k) (out.getD (atO O k) slt0).en with h | h
      · exact .inr ⟨k, by omega, hn, by omega⟩
      · rw [Int.max_eq_left h]
        rcases rpSt_why out O s k with h1 | ⟨j, h1, h2, h3⟩
        · exact .inl h1
        · exact .inr ⟨j, by omega, h2, h3⟩
    · rcases rpSt_why out O s k with h1 | ⟨j, h1, h2, h3⟩
      · exact .inl h1
      · exact .inr ⟨j, by omega, h2, h3⟩
theorem mvT_ge (x : Stp) (s : Slt) (t : Int) : t ≤ mvT x s t := by
  unfold mvT
  split
  · rename_i h
    simp only [hitB, Bool.and_eq_true, decide_eq_true_eq] at h
    omega
  · omega
theorem mvT_no (x : Stp) (s : Slt) (t : Int) : hitB s.ce (mvT x s t) (mvT x s t + (s.en - s.st)) x.ce x.fr x.un = false := by
  unfold mvT
  split
  · simp [hitB]
  · rename_i h
    simpa using h
theorem mvT_why (x : Stp) (s : Slt) (t : Int) : mvT x s t = t ∨ mvT x s t = x.un := by
  unfold mvT
  split
  · exact .inr rfl
  · exact .inl rfl

section
variable {L : List Slt} {x : Stp}
theorem rp_keep {i : Nat} {n : Nat} : ∀ m, n ≤ m → (∀ k, n ≤ k → k < m → atO (ordF L) k ≠ i) → (rpT L (ordF L) x m)[i]? = (rpT L (ordF L) x n)[i]? := by
  intro m
  induction m with
  | zero => intro h _; rw [show n = 0 by omega]
  | succ m ih =>
    intro h hk
    rcases Nat.lt_succ_iff_lt_or_eq.1 (Nat.lt_succ_of_le h) with h1 | rfl
    · simp only [rpT]
      rw [List.getElem?_set_ne (hk m (by omega) (by omega))]
      exact ih (by omega) (fun k h2 h3 => hk k h2 (by omega))
    · rfl
theorem rp_fix (hL : SlB L) (hx : 0 ≤ x.un ∧ x.un ≤ 100000) {k : Nat} (hk : k < L.length) {s : Slt} (hs : L[atO (ordF L) k]? = some s) :
    (rpT L (ordF L) x L.length)[atO (ordF L) k]? = some (mvF x s (rpSt (rpT L (ordF L) x L.length) (ordF L) s k)) := by
  rw [rp_keep L.length (n := k + 1) (by omega) (fun j h1 h2 e => by have := ordF_inj h2 hk e; omega)]
  have ih := rp_ok hL hx k (by omega)
  simp only [rpT]
  rw [List.getElem?_set_self (by rw [ih.len]; exact (ordF_at hk).2), getD_of hs]
  have e : rpSt (rpT L (ordF L) x k) (ordF L) s k = rpSt (rpT L (ordF L) x L.length) (ordF L) s k := rpSt_congr k fun j hj => by
    simp only [List.getD_eq_getElem?_getD]
    rw [rp_keep L.length (n := k) (by omega) (fun i h1 h2 e => by have := ordF_inj h2 (by omega) e; omega)]
  rw [e]
theorem pos_of {i : Nat} (hi : i < L.length) : ∃ k, k < L.length ∧ atO (ordF L) k = i := by
  have h : (i : Int) ∈ ordF L := (ordT_perm L _).mem_iff.2 (idxs_mem.2 ⟨i, hi, rfl⟩)
  obtain ⟨k, hk⟩ := List.mem_iff_getElem?.1 h
  exact ⟨k, by have := (List.getElem?_eq_some_iff.1 hk).1; rwa [ordF_len] at this, by simp [atO, List.getD_eq_getElem?_getD, hk]⟩
/-- Earlier in the order: not a later start. -/
theorem pos_st {j k : Nat} (hj : j < k) (hk : k < L.length) {s z : Slt} (hs : L[atO (ordF L) j]? = some s) (hz : L[atO (ordF L) k]? = some z) : s.st ≤ z.st := by
  have h := pw_at (ordT_pw L L.length) (ordF_at (L := L) (k := j) (by omega)).1 (ordF_at hk).1 hj
  unfold ltS stL at h
  simp only [Int.toNat_natCast, getD_of hs, getD_of hz] at h
  omega
end

/-- How the repaired slots and the old ones hang together. -/
structure Rpd (L : List Slt) (x : Stp) (r : List Slt) : Prop where
  len : r.length = L.length
  at_ : ∀ (i : Nat) (s : Slt), L[i]? = some s → ∃ (k : Nat) (t : Int), k < L.length ∧ atO (ordF L) k = i ∧ r[i]? = some (mvF x s t) ∧ s.st ≤ t ∧
    (∀ (j a : Nat) (z y : Slt), j < k → atO (ordF L) j = a → L[a]? = some z → r[a]? = some y → nearB z s = true → y.en ≤ t) ∧
    (t = s.st ∨ ∃ (j a : Nat) (z y : Slt), j < k ∧ atO (ordF L) j = a ∧ L[a]? = some z ∧ r[a]? = some y ∧ nearB z s = true ∧ t = y.en)
theorem rpd_of {L : List Slt} {x : Stp} (hL : SlB L) (hx : 0 ≤ x.un ∧ x.un ≤ 100000) : Rpd L x (rpT L (ordF L) x L.length) := by
  have hok := rp_ok hL hx L.length (Nat.le_refl _)
  refine ⟨hok.len, fun i s hs => ?_⟩
  obtain ⟨k, hk, rfl⟩ := pos_of (List.getElem?_eq_some_iff.1 hs).1
  have near : ∀ {a : Nat} {z y : Slt}, L[a]? = some z → (rpT L (ordF L) x L.length)[a]? = some y → nearB y s = nearB z s := fun {a z y} hz hy => by
    obtain ⟨y', hy', h1, _, h3, _⟩ := hok.same a z hz
    rw [hy] at hy'
    obtain rfl := Option.some.inj hy'
    simp [nearB, h1, h3]
  refine ⟨k, _, hk, rfl, rp_fix hL hx hk hs, rpSt_ge _ _ _ _, fun j a z y hj ha hz hy hn => ?_, ?_⟩
  · subst ha
    have h := rpSt_near (out := rpT L (ordF L) x L.length) (O := ordF L) (s := s) hj (by rw [getD_of hy, near hz hy]; exact hn)
    rw [getD_of hy] at h
    exact h
  · rcases rpSt_why (rpT L (ordF L) x L.length) (ordF L) s k with h | ⟨j, hj, hn, he⟩
    · exact .inl h
    · obtain ⟨z, hz⟩ : ∃ z, L[atO (ordF L) j]? = some z := ⟨_, List.getElem?_eq_getElem (ordF_at (by omega)).2⟩
      obtain ⟨y, hy, _⟩ := hok.same _ z hz
      rw [getD_of hy] at hn he
      exact .inr ⟨j, _, z, y, hj, rfl, hz, hy, by rw [← near hz hy]; exact hn, he⟩
section
variable {J : List Jb} {L r : List Slt} {x : Stp}
theorem Rpd.get (h : Rpd L x r) {i : Nat} {s y : Slt} (hs : L[i]? = some s) (hy : r[i]? = some y) : y.jb = s.jb ∧ y.sp = s.sp ∧ y.ce = s.ce ∧ y.en - y.st = s.en - s.st ∧ s.st ≤ y.st ∧ hitB y.ce y.st y.en x.ce x.fr x.un = false := by
  obtain ⟨k, t, _, _, h3, h4, _⟩ := h.at_ i s hs
  rw [hy] at h3
  obtain rfl := Option.some.inj h3
  refine ⟨rfl, rfl, rfl, ?_, ?_, mvT_no x s t⟩
  · simp only [mvF]; omega
  · have := mvT_ge x s t
    simp only [mvF]; omega
/-- What stands ahead in the order and near ends first. -/
theorem Rpd.sep (h : Rpd L x r) {j k a b : Nat} {s z y v : Slt} (hj : j < k) (hk : k < L.length) (ea : atO (ordF L) j = a) (eb : atO (ordF L) k = b) (hs : L[a]? = some s) (hz : L[b]? = some z) (hy : r[a]? = some y) (hv : r[b]? = some v) (hn : nearB s z = true) : y.en ≤ v.st := by
  obtain ⟨k', t, h1, h2, h3, h4, h5, _⟩ := h.at_ b z hz
  obtain rfl : k' = k := ordF_inj h1 hk (h2.trans eb.symm)
  have h6 := h5 j a s y hj ea hs hy hn
  rw [hv] at h3
  obtain rfl := Option.some.inj h3
  have := mvT_ge x z t
  simp only [mvF]; omega
theorem nearB_comm {y s : Slt} : nearB y s = nearB s y := by simp only [nearB, eq_comm]
theorem Rpd.sch (h : Rpd L x r) (hs : schB J L = true) (hb : ∀ y ∈ r, y.en ≤ 1000000) : schB J r = true := by
  have hL := (sch_at hs).2
  have hs0 := hs
  simp only [schB, Bool.and_eq_true, decide_eq_true_eq] at hs0
  simp only [schB, Bool.and_eq_true, decide_eq_true_eq, allTo_iff]
  refine ⟨⟨hs0.1.1, by rw [h.len]; exact hs0.1.2⟩, fun i hi => ?_⟩
  rw [h.len] at hi
  obtain ⟨s, hsi⟩ : ∃ s, L[i]? = some s := ⟨_, List.getElem?_eq_getElem hi⟩
  obtain ⟨y, hyi⟩ : ∃ y, r[i]? = some y := ⟨_, List.getElem?_eq_getElem (by rw [h.len]; exact hi)⟩
  obtain ⟨e1, e2, e3, e4, e5, _⟩ := h.get hsi hyi
  obtain ⟨hn, hf, _⟩ := sch_row hs hsi
  have hsb := hL s (List.mem_of_getElem? hsi)
  have hyb := hb y (List.mem_of_getElem? hyi)
  have ej : jbOf J y = jbOf J s := by simp only [jbOf, e1]
  have ew : wkOf J y = wkOf J s := by simp only [wkOf, ej, e2]
  simp only [rowB, Bool.and_eq_true, allTo_iff, getD_of hyi]
  refine ⟨⟨?_, ?_⟩, fun k hk => ?_⟩
  · simp only [namB, ej, e1, e2]; exact hn
  · simp only [fitB, ej, ew, e3, Bool.and_eq_true, decide_eq_true_eq, inB_iff] at hf ⊢
    refine ⟨⟨hf.1.1, by omega, by omega⟩, by omega⟩
  · obtain ⟨z, hzk⟩ : ∃ z, L[k]? = some z := ⟨_, List.getElem?_eq_getElem (by omega)⟩
    obtain ⟨v, hvk⟩ : ∃ v, r[k]? = some v := ⟨_, List.getElem?_eq_getElem (by rw [h.len]; omega)⟩
    obtain ⟨f1, f2, f3, f4, f5, _⟩ := h.get hzk hvk
    simp only [clN, getD_of hyi, getD_of hvk, Bool.not_eq_true', Bool.or_eq_false_iff]
    by_cases hnr : nearB s z = true
    · obtain ⟨pi, hpi, epi⟩ := pos_of hi
      obtain ⟨pk, hpk, epk⟩ := pos_of (L := L) (i := k) (by omega)
      have hne : pi ≠ pk := fun e => by rw [e, epk] at epi; omega
      rw [clA_false, clB_false, e1, e2, e3, f1, f2, f3]
      rcases Nat.lt_or_gt_of_ne hne with hlt | hlt
      · have h1 := h.sep hlt hpk epi epk hsi hzk hyi hvk hnr
        have h2 := sch_sep hs hsi hzk (by omega) hnr (pos_st hlt hpk (epi ▸ hsi) (epk ▸ hzk))
        exact ⟨fun e => by have := h2.2 e; omega, fun _ => .inr h1⟩
      · have h1 := h.sep hlt hpi epk epi hzk hsi hvk hyi (by rw [nearB_comm]; exact hnr)
        have h2 := sch_sep hs hzk hsi (by omega) (by rw [nearB_comm]; exact hnr) (pos_st hlt hpi (epk ▸ hzk) (epi ▸ hsi))
        exact ⟨fun e => by have := h2.2 e.symm; omega, fun _ => .inl h1⟩
    · rw [nearB_iff] at hnr
      rw [clA_false, clB_false, e1, e3, f1, f3]
      exact ⟨fun e => (hnr (.inl e)).elim, fun e => (hnr (.inr e)).elim⟩
theorem Rpd.keeps (h : Rpd L x r) (hx : stopB x.ce x.fr x.un = true) : keepsB r x = true := by
  simp only [keepsB, Bool.and_eq_true, allTo_iff]
  refine ⟨fun i hi => ?_, hx⟩
  obtain ⟨y, hyi⟩ : ∃ y, r[i]? = some y := ⟨_, List.getElem?_eq_getElem hi⟩
  obtain ⟨s, hsi⟩ : ∃ s, L[i]? = some s := ⟨_, List.getElem?_eq_getElem (by rw [← h.len]; exact hi)⟩
  simp only [keepF, getD_of hyi, (h.get hsi hyi).2.2.2.2.2, Bool.not_false]
theorem Rpd.still (h : Rpd L x r) (hs : schB J L = true) (hk : keepsB L x = true) : ∀ n, n ≤ L.length → ∀ k i s, k < n → atO (ordF L) k = i → L[i]? = some s → r[i]? = some s := by
  have hL := (sch_at hs).2
  intro n
  induction n with
  | zero => intro _ k i s hk; omega
  | succ n ih =>
    intro hn k i s hkn hki hsi
    rcases Nat.lt_succ_iff_lt_or_eq.1 hkn with h1 | rfl
    · exact ih (by omega) k i s h1 hki hsi
    · obtain ⟨k', t, h1, h2, h3, h4, _, h6⟩ := h.at_ i s hsi
      obtain rfl : k' = k := ordF_inj h1 (by omega) (h2.trans hki.symm)
      have ht : t = s.st := by
        rcases h6 with h6 | ⟨j, a, z, y, hj, ha, hza, hya, hnr, e⟩
        · exact h6
        · have h7 := ih (by omega) j a z hj ha hza
          rw [hya] at h7
          obtain rfl := Option.some.inj h7
          have hne : a ≠ i := fun e2 => by
            have := ordF_inj (L := L) (k := j) (j := k') (by omega) h1 (by rw [ha, e2, h2])
            omega
          have h8 := sch_sep hs hza hsi hne hnr (pos_st hj h1 (ha ▸ hza) (h2 ▸ hsi))
          omega
      subst ht
      rw [h3]
      simp only [keepsB, Bool.and_eq_true, allTo_iff] at hk
      have h9 := hk.1 i (List.getElem?_eq_some_iff.1 hsi).1
      simp only [keepF, getD_of hsi, Bool.not_eq_true'] at h9
      have he : s.st + (s.en - s.st) = s.en := by omega
      have hm : mvT x s s.st = s.st := by unfold mvT; rw [he, h9]; rfl
      simp only [mvF, hm, he]
theorem Rpd.moved (h : Rpd L x r) (hs : schB J L = true) (hk : keepsB L x = true) : movedF L r = 0 := by
  have : ∀ n, n ≤ L.length → movedTo L r n = 0 := fun n => by
    induction n with
    | zero => intro _; rfl
    | succ n ih =>
      intro hn
      obtain ⟨s, hsi⟩ : ∃ s, L[n]? = some s := ⟨_, List.getElem?_eq_getElem hn⟩
      obtain ⟨k, hkl, hke⟩ := pos_of (L := L) (i := n) hn
      have h2 := h.still hs hk L.length (Nat.le_refl _) k n s hkl hke hsi
      simp only [movedTo, ih (by omega), getD_of hsi, getD_of h2]
      rfl
  exact this _ (Nat.min_le_left _ _)
theorem Rpd.why (h : Rpd L x r) {i : Nat} {s y : Slt} (hs : L[i]? = some s) (hy : r[i]? = some y) : y.st = s.st ∨ y.st = x.un ∨ ∃ (k : Nat) (v : Slt), r[k]? = some v ∧ nearB v y = true ∧ y.st = v.en := by
  obtain ⟨k, t, h1, h2, h3, h4, _, h6⟩ := h.at_ i s hs
  rw [hy] at h3
  obtain rfl := Option.some.inj h3
  rcases mvT_why x s t with e | e
  · rcases h6 with h6 | ⟨j, a, z, v, hj, ha, hza, hva, hnr, e2⟩
    · left; simp only [mvF]; rw [e, h6]
    · right; right
      obtain ⟨g1, _, g3, _⟩ := h.get hza hva
      refine ⟨a, v, hva, ?_, by simp only [mvF]; rw [e, e2]⟩
      rw [nearB_iff] at hnr ⊢
      simp only [mvF, g1, g3]
      exact hnr
  · right; left; exact e
theorem Rpd.order (h : Rpd L x r) (hs : schB J L = true) {i k : Nat} {s y z v : Slt} (hsi : L[i]? = some s) (hyi : r[i]? = some y) (hzk : L[k]? = some z) (hvk : r[k]? = some v) (hn : nearB v y = true) (hst : z.st < s.st) : v.st < y.st := by
  have hL := (sch_at hs).2
  obtain ⟨e1, e2, e3, e4, _⟩ := h.get hsi hyi
  obtain ⟨f1, f2, f3, f4, _⟩ := h.get hzk hvk
  have hn2 : nearB z s = true := by
    rw [nearB_iff] at hn ⊢
    rw [e1, e3, f1, f3] at hn
    exact hn
  obtain ⟨pi, hpi, epi⟩ := pos_of (List.getElem?_eq_some_iff.1 hsi).1
  obtain ⟨pk, hpk, epk⟩ := pos_of (List.getElem?_eq_some_iff.1 hzk).1
  have hlt : pk < pi := by
    rcases Nat.lt_trichotomy pk pi with h1 | h1 | h1
    · exact h1
    · subst h1
      rw [epi] at epk
      subst epk
      rw [hsi] at hzk
      obtain rfl := Option.some.inj hzk
      omega
    · have := pos_st h1 hpk (epi ▸ hsi) (epk ▸ hzk)
      omega
  have h1 := h.sep hlt hpi epk epi hzk hsi hvk hyi hn2
  have h2 := hL z (List.mem_of_getElem? hzk)
  omega
end
/-- No slot of a repair ends late if none of the schedule does. -/
theorem rp_late {L : List Slt} {x : Stp} (hL : SlB L) (hx : 0 ≤ x.un ∧ x.un ≤ 100000) (hb : ∀ s ∈ L, s.en ≤ 200000) : ∀ n, n ≤ L.length → ∀ y ∈ rpT L (ordF L) x n, y.en ≤ 200000 + 1000 * (n : Int)
  | 0, _ => fun y hy => by have := hb y hy; omega
  | n + 1, hn => fun y hy => by
    have ih := rp_late hL hx hb n (by omega)
    simp only [rpT] at hy
    rcases List.mem_or_eq_of_mem_set hy with h | rfl
    · have := ih y h; push_cast; omega
    · obtain ⟨s, hs⟩ : ∃ s, L[atO (ordF L) n]? = some s := ⟨_, List.getElem?_eq_getElem (ordF_at (by omega)).2⟩
      rw [getD_of hs]
      have h1 := hL s (List.mem_of_getElem? hs)
      have h2 := hb s (List.mem_of_getElem? hs)
      have h3 : rpSt (rpT L (ordF L) x n) (ordF L) s n ≤ 200000 + 1000 * (n : Int) := by
        rcases rpSt_why (rpT L (ordF L) x n) (ordF L) s n with h | ⟨j, hj, _, h⟩
        · omega
        · rw [h]
          obtain ⟨z, hz⟩ : ∃ z, (rpT L (ordF L) x n)[atO (ordF L) j]? = some z := ⟨_, List.getElem?_eq_getElem (by rw [(rp_ok hL hx n (by omega)).len]; exact (ordF_at (by omega)).2)⟩
          rw [getD_of hz]
          exact ih z (List.mem_of_getElem? hz)
      rcases mvT_why x s (rpSt (rpT L (ordF L) x n) (ordF L) s n) with e | e <;> simp only [mvF, e] <;> push_cast <;> omega
end Go.Proofs.Ytembbgkhmnalpaa
