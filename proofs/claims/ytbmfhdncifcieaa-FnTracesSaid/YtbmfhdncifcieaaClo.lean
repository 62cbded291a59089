/- What is reached is the closure over uses; the way back is a way of uses. Conditions: none. -/
import Derived.Test.YtbmfhdncifcieaaPathI
namespace Go.Proofs.Ytbmfhdncifcieaa
open Go.RowKit
set_option linter.unusedVariables false
set_option linter.unusedSimpArgs false

theorem fnd_mem {s : ByteArray} {l : List ByteArray} : fnd s l < l.length ↔ s ∈ l := by
  rw [fnd_lt]
  constructor
  · rintro ⟨x, hx, e⟩; rw [← ba_inj.1 e]; exact hx
  · exact fun h => ⟨s, h, rfl⟩
theorem fnd_get {s : ByteArray} : ∀ {l : List ByteArray}, fnd s l < l.length → l.getD (fnd s l) str0 = s
  | [], h => by simp at h
  | x :: l, h => by
    simp only [fnd] at h ⊢
    split
    · rename_i e; simpa using ba_inj.1 e
    · rename_i e
      rw [if_neg e, List.length_cons] at h
      rw [List.getD_cons_succ]
      exact fnd_get (by omega)
inductive Star (up : Bool) (l : List Use) (b : ByteArray) : ByteArray → Prop
  | base : Star up l b b
  | step {y : ByteArray} {x : Use} : Star up l b y → x ∈ l → useA up x = y → Star up l b (useB up x)
theorem Star.head {up : Bool} {l : List Use} {x : Use} (hx : x ∈ l) {c : ByteArray} (h : Star up l (useB up x) c) : Star up l (useA up x) c := by
  induction h with
  | base => exact .step .base hx rfl
  | step _ hx2 he ih => exact .step ih hx2 he
theorem Star.flip {l : List Use} {a y : ByteArray} (h : Star false l a y) : Star true l y a := by
  induction h with
  | base => exact .base
  | @step y x _ hx he ih =>
    have h1 : Star true l (useB true x) a := by rw [show useB true x = useA false x from rfl, he]; exact ih
    exact Star.head hx h1
theorem Star.flop {l : List Use} {a y : ByteArray} (h : Star true l a y) : Star false l y a := by
  induction h with
  | base => exact .base
  | @step y x _ hx he ih =>
    have h1 : Star false l (useB false x) a := by rw [show useB false x = useA true x from rfl, he]; exact ih
    exact Star.head hx h1
/-- Everything found is reached; the first i are followed up; each but the first comes by a use. -/
structure Clo (up : Bool) (l : List Use) (b : ByteArray) (s : Trc) : Prop where
  sound : ∀ x ∈ s.1, Star up l b x
  zero : s.2.getD 0 (-1) = -1
  edge : ∀ j, 0 < j → j < s.1.length → 0 ≤ s.2.getD j (-1) ∧ ∃ x ∈ l, useA up x = s.1.getD (s.2.getD j (-1)).toNat str0 ∧ useB up x = s.1.getD j str0
theorem getD_app_left {T : Type} {l m : List T} {d : T} {j : Nat} (h : j < l.length) : (l ++ m).getD j d = l.getD j d := by
  simp [List.getD_eq_getElem?_getD, List.getElem?_append_left h]
theorem getD_app_end {T : Type} {l : List T} {x d : T} : (l ++ [x]).getD l.length d = x := by
  simp [List.getD_eq_getElem?_getD]
theorem getD_mem_ {l : List ByteArray} {j : Nat} (h : j < l.length) : l.getD j str0 ∈ l := by
  rw [List.getD_eq_getElem?_getD, List.getElem?_eq_getElem h]
  exact List.getElem_mem h
theorem trStep_clo {up : Bool} {l : List Use} {b c : ByteArray} {i : Nat} {s : Trc} {x : Use} (h : Clo up l b s) (ho : TrOk up l b s) (hb : BkOk s) (hi : i < s.1.length) (hc : s.1.getD i str0 = c) (hx : x ∈ l) : Clo up l b (trStep up c i s x) := by
  unfold trStep
  split
  · rename_i hh
    have he : useA up x = c := ba_inj.1 hh.1
    refine ⟨?_, ?_, ?_⟩
    · intro y hy
      rw [List.mem_append] at hy
      rcases hy with hy | hy
      · exact h.sound y hy
      · obtain rfl : y = useB up x := by simpa using hy
        exact .step (h.sound c (by rw [← hc]; exact getD_mem_ hi)) hx he
    · rw [getD_app_left (by rw [ho.len]; omega)]; exact h.zero
    · intro j hj hj2
      simp only [List.length_append, List.length_cons, List.length_nil] at hj2
      by_cases hjl : j < s.1.length
      · have h1 := h.edge j hj hjl
        have h2 := hb j (by rw [ho.len]; exact hjl)
        rw [getD_app_left (by rw [ho.len]; exact hjl), getD_app_left hjl, getD_app_left (by omega)]
        exact h1
      · obtain rfl : j = s.1.length := by omega
        rw [show (s.2 ++ [(i : Int)]).getD s.1.length (-1) = (i : Int) by rw [← ho.len, getD_app_end], getD_app_end, show (i : Int).toNat = i by omega, getD_app_left hi, hc]
        exact ⟨by omega, x, hx, he, rfl⟩
  · exact h
theorem trScan_clo {up : Bool} {l : List Use} {b : ByteArray} {i : Nat} {s : Trc} (h : Clo up l b s) (ho : TrOk up l b s) (hb : BkOk s) (hi : i < s.1.length) : ∀ k, k ≤ l.length → Clo up l b (trScan up l (s.1.getD i str0) i s k)
  | 0, _ => by simpa [trScan] using h
  | k + 1, hk => by
    have hx : l[k]? = some l[k] := List.getElem?_eq_getElem (by omega)
    have hkp := trScan_keep (up := up) (l := l) (b := s.1.getD i str0) (i := i) hi k (by omega)
    rw [trScan_step hx]
    exact trStep_clo (trScan_clo h ho hb hi k (by omega)) (trScan_ok ho k (by omega)) (trScan_bk hb ho hi k (by omega)) (by omega) hkp.2 (List.mem_of_getElem? hx)
theorem trTo_clo (up : Bool) (l : List Use) (b : ByteArray) : ∀ i, Clo up l b (trTo up l b i)
  | 0 => ⟨by intro x hx; simp only [trTo, List.mem_singleton] at hx; subst hx; exact .base, by simp [trTo], by intro j h1 h2; simp [trTo] at h2; omega⟩
  | i + 1 => by
    have ih := trTo_clo up l b i
    simp only [trTo]
    split
    · rename_i h; exact trScan_clo ih (trTo_ok up l b i) (trTo_bk up l b i) h _ (Nat.le_refl _)
    · exact ih
theorem trStep_sub {up : Bool} {c : ByteArray} {i : Nat} {s : Trc} {x : Use} {y : ByteArray} (h : y ∈ s.1) : y ∈ (trStep up c i s x).1 := by
  unfold trStep
  split
  · exact List.mem_append_left _ h
  · exact h
theorem trScan_sub {up : Bool} {l : List Use} {c : ByteArray} {i : Nat} {s : Trc} {y : ByteArray} (h : y ∈ s.1) : ∀ k, k ≤ l.length → y ∈ (trScan up l c i s k).1
  | 0, _ => by simpa [trScan] using h
  | k + 1, hk => by
    rw [trScan_step (List.getElem?_eq_getElem (by omega : k < l.length))]
    exact trStep_sub (trScan_sub h k (by omega))
theorem trScan_all {up : Bool} {l : List Use} {c : ByteArray} {i : Nat} {s : Trc} : ∀ k, k ≤ l.length → ∀ m, m < k → ∀ x, l[m]? = some x → useA up x = c → useB up x ∈ (trScan up l c i s k).1
  | 0, _, m, hm, _, _, _ => by omega
  | k + 1, hk, m, hm, x, hx, hc => by
    rw [trScan_step (List.getElem?_eq_getElem (by omega : k < l.length))]
    by_cases h : m < k
    · exact trStep_sub (trScan_all k (by omega) m h x hx hc)
    · obtain rfl : m = k := by omega
      rw [List.getElem?_eq_getElem (by omega : m < l.length)] at hx
      obtain rfl : l[m] = x := by simpa using hx
      unfold trStep
      split
      · simp
      · rename_i hh
        by_cases h2 : fnd (useB up l[m]) (trScan up l c i s m).1 < (trScan up l c i s m).1.length
        · exact fnd_mem.1 h2
        · exact absurd ⟨by rw [hc], h2⟩ hh
/-- The first i are followed up. -/
theorem trTo_all (up : Bool) (l : List Use) (b : ByteArray) : ∀ i j, j < i → j < (trTo up l b i).1.length → ∀ x ∈ l, useA up x = (trTo up l b i).1.getD j str0 → useB up x ∈ (trTo up l b i).1
  | 0, j, hj, _, _, _, _ => by omega
  | i + 1, j, hj, hj2, x, hx, he => by
    simp only [trTo] at hj2 he ⊢
    split at hj2
    · rename_i h
      rw [if_pos h] at he ⊢
      by_cases hji : j = i
      · subst hji
        rw [(trScan_keep (up := up) (l := l) (b := (trTo up l b j).1.getD j str0) (i := j) h l.length (Nat.le_refl _)).2] at he
        obtain ⟨m, hm, hme⟩ := List.getElem_of_mem hx
        exact trScan_all l.length (Nat.le_refl _) m hm x (by rw [List.getElem?_eq_getElem hm, hme]) he
      · have hjl : j < (trTo up l b i).1.length := by omega
        rw [(trScan_keep (up := up) (l := l) (b := (trTo up l b i).1.getD i str0) (i := i) hjl l.length (Nat.le_refl _)).2] at he
        exact trScan_sub (trTo_all up l b i j (by omega) hjl x hx he) _ (Nat.le_refl _)
    · rename_i h
      rw [if_neg h] at he ⊢
      exact trTo_all up l b i j (by omega) hj2 x hx he
theorem trF_iff (up : Bool) (l : List Use) (b y : ByteArray) : y ∈ (trF up l b).1 ↔ Star up l b y := by
  constructor
  · exact (trTo_clo up l b _).sound y
  · intro h
    induction h with
    | base => rw [trF_tail]; exact List.mem_cons_self
    | @step z x _ hx he ih =>
      obtain ⟨j, hj, hje⟩ := List.getElem_of_mem ih
      refine trTo_all up l b (l.length + 1) j ?_ hj x hx ?_
      · have h1 := trF_len up l b
        have h2 : j < (trF up l b).1.length := hj
        omega
      · rw [he, ← hje]; show _ = (trF up l b).1.getD j str0; rw [List.getD_eq_getElem?_getD, List.getElem?_eq_getElem hj]; rfl
theorem reach_flip (l : List Use) (a b : ByteArray) : b ∈ (trF false l a).1 ↔ a ∈ (trF true l b).1 := by
  rw [trF_iff, trF_iff]
  exact ⟨Star.flip, Star.flop⟩
theorem tail_iff (up : Bool) (l : List Use) (b y : ByteArray) : y ∈ (trF up l b).1.tail ↔ y ∈ (trF up l b).1 ∧ y ≠ b := by
  have h1 := trF_tail up l b
  have h2 := (trTo_ok up l b (l.length + 1)).nd
  have h3 : ((trF up l b).1.map (·.toList)).Nodup := h2
  rw [h1, List.map_cons, List.nodup_cons] at h3
  constructor
  · intro h
    refine ⟨by rw [h1]; exact List.mem_cons_of_mem _ h, fun e => h3.1 (List.mem_map.2 ⟨y, h, by rw [e]⟩)⟩
  · rintro ⟨h, hne⟩
    rw [h1] at h
    rcases List.mem_cons.1 h with h | h
    · exact absurd h hne
    · exact h
/-- The way back: each member is followed by the batch that it came from. -/
theorem chF_get {l : List Use} {b : ByteArray} {s : Trc} (hc : Clo false l b s) (hb : BkOk s) (hl : s.2.length = s.1.length) (h0 : s.1.getD 0 str0 = b) : ∀ (n : Nat) (k : Nat), k < s.1.length → k < n →
    (∃ t, chF s n (k : Int) = s.1.getD k str0 :: t) ∧ (chF s n (k : Int)).getLast? = some b ∧ (0 < k → 1 < (chF s n (k : Int)).length) ∧
    ∀ i, i + 1 < (chF s n (k : Int)).length → ∃ x ∈ l, x.fr = (chF s n (k : Int)).getD (i + 1) str0 ∧ x.nt = (chF s n (k : Int)).getD i str0
  | 0, k, _, h => by omega
  | n + 1, k, hk, hkn => by
    have hkt : ((k : Nat) : Int).toNat = k := by omega
    have e : chF s (n + 1) (k : Int) = s.1.getD k str0 :: chF s n (s.2.getD k (-1)) := by rw [chF, if_neg (by omega), hkt]
    rw [e]
    rcases Nat.eq_zero_or_pos k with hk0 | hk0
    · subst hk0
      rw [hc.zero, chF_neg (by omega)]
      exact ⟨⟨[], rfl⟩, by simpa using h0, fun h => absurd h (by omega), fun i hi => by simp at hi⟩
    · obtain ⟨h1, x, hx, hxa, hxb⟩ := hc.edge k hk0 hk
      have h2 := (hb k (by rw [hl]; exact hk)).2
      obtain ⟨m, hm⟩ := Int.eq_ofNat_of_zero_le h1
      rw [hm] at h2 hxa ⊢
      have hmt : ((m : Nat) : Int).toNat = m := by omega
      rw [hmt] at hxa
      have ih := chF_get hc hb hl h0 n m (by omega) (by omega)
      obtain ⟨⟨t, ht⟩, ih2, _, ih4⟩ := ih
      refine ⟨⟨_, rfl⟩, ?_, fun _ => by rw [ht]; simp, ?_⟩
      · rw [ht] at ih2 ⊢; rw [List.getLast?_cons_cons]; exact ih2
      · intro i hi
        cases i with
        | zero =>
          rw [ht]
          exact ⟨x, hx, by simpa [useA] using hxa, by simpa [useB] using hxb⟩
        | succ i =>
          simp only [List.length_cons] at hi
          obtain ⟨x2, hx2, h5, h6⟩ := ih4 i (by omega)
          exact ⟨x2, hx2, by rw [List.getD_cons_succ]; exact h5, by rw [List.getD_cons_succ]; exact h6⟩
end Go.Proofs.Ytbmfhdncifcieaa
