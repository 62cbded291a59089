/- The library's symMerge on numbers: the general step. Conditions: none. -/
import Derived.Test.YtembbgkhmnalpaaMrg
namespace Go.Proofs.Ytembbgkhmnalpaa
open Go.RowKit Go.ChangeShapes Go.WideShapes Go.Deep
set_option linter.unusedVariables false
set_option linter.unusedSimpArgs false

theorem last_take {T : Type} {A : List T} {t : Nat} {x z : T} {lt : T → T → Prop} (hs : A.Pairwise lt) (hx : x ∈ A.take t) (hz : A[t - 1]? = some z) : x = z ∨ lt x z := by
  obtain ⟨i, hi⟩ := List.mem_iff_getElem?.1 hx
  rw [List.getElem?_take] at hi
  split at hi
  · rename_i hit
    rcases Nat.lt_or_ge i (t - 1) with h | h
    · right
      have h1 := List.pairwise_iff_getElem.1 hs i (t - 1) (List.getElem?_eq_some_iff.1 hi).1 (List.getElem?_eq_some_iff.1 hz).1 h
      rw [(List.getElem?_eq_some_iff.1 hi).2, (List.getElem?_eq_some_iff.1 hz).2] at h1
      exact h1
    · obtain rfl : i = t - 1 := by omega
      rw [hz] at hi
      exact .inl (Option.some.inj hi).symm
  · cases hi
theorem first_drop {T : Type} {A : List T} {t : Nat} {x z : T} {lt : T → T → Prop} (hs : A.Pairwise lt) (hx : x ∈ A.drop t) (hz : A[t]? = some z) : x = z ∨ lt z x := by
  obtain ⟨i, hi⟩ := List.mem_iff_getElem?.1 hx
  rw [List.getElem?_drop] at hi
  rcases Nat.eq_zero_or_pos i with h | h
  · subst h
    rw [Nat.add_zero, hz] at hi
    exact .inl (Option.some.inj hi).symm
  · right
    have h1 := List.pairwise_iff_getElem.1 hs t (t + i) (List.getElem?_eq_some_iff.1 hz).1 (List.getElem?_eq_some_iff.1 hi).1 (by omega)
    rw [(List.getElem?_eq_some_iff.1 hz).2, (List.getElem?_eq_some_iff.1 hi).2] at h1
    exact h1
/-- Below one of the first, above it all of the second. -/
theorem cross {T : Type} {A B : List T} {s e : Nat} {x y u v : T} {lt : T → T → Prop} (tr : ∀ a b c, lt a b → lt b c → lt a c) (ha : A.Pairwise lt) (hb : B.Pairwise lt) (hu : A[s - 1]? = some u) (hv : B[e]? = some v) (huv : lt u v) (hx : x ∈ A.take s) (hy : y ∈ B.drop e) : lt x y := by
  have h1 : lt x v := by
    rcases last_take ha hx hu with rfl | h
    · exact huv
    · exact tr _ _ _ h huv
  rcases first_drop hb hy hv with rfl | h
  · exact h1
  · exact tr _ _ _ h1 h
theorem pw_split {T : Type} {A : List T} {s : Nat} {x y : T} {lt : T → T → Prop} (ha : A.Pairwise lt) (hx : x ∈ A.take s) (hy : y ∈ A.drop s) : lt x y := by
  rw [← List.take_append_drop s A, List.pairwise_append] at ha
  exact ha.2.2 x hx y hy
/-- The four parts, the left two below the right two. -/
theorem parts_sorted {A B M1 M2 : List Int} {lt : Int → Int → Prop} {s e : Nat} (ha : A.Pairwise lt) (hb : B.Pairwise lt) (h1 : ∀ x ∈ A.take s, ∀ y ∈ B.drop e, lt x y) (h2 : ∀ x ∈ B.take e, ∀ y ∈ A.drop s, lt x y) (p1 : M1.Perm (A.take s ++ B.take e)) (p2 : M2.Perm (A.drop s ++ B.drop e)) (q1 : M1.Pairwise lt) (q2 : M2.Pairwise lt) : (M1 ++ M2).Pairwise lt ∧ (M1 ++ M2).Perm (A ++ B) := by
  refine ⟨List.pairwise_append.2 ⟨q1, q2, fun x hx y hy => ?_⟩, ?_⟩
  · rcases List.mem_append.1 (p1.mem_iff.1 hx) with hx | hx <;> rcases List.mem_append.1 (p2.mem_iff.1 hy) with hy | hy
    · exact pw_split ha hx hy
    · exact h1 x hx y hy
    · exact h2 x hx y hy
    · exact pw_split hb hx hy
  · refine (p1.append p2).trans ?_
    have e1 : A ++ B = (A.take s ++ A.drop s) ++ (B.take e ++ B.drop e) := by rw [List.take_append_drop, List.take_append_drop]
    rw [e1]
    simp only [List.append_assoc]
    refine List.Perm.append_left _ ?_
    rw [← List.append_assoc, ← List.append_assoc]
    exact List.Perm.append_right _ List.perm_append_comm

theorem Ordr.sub {lt : Int → Int → Prop} {cmp : Int → Int → Int} {A B A' B' : List Int} (h : Ordr lt cmp A B) (ha : A'.Sublist A) (hb : B'.Sublist B) : Ordr lt cmp A' B' :=
  ⟨h.tr, h.sa.sublist ha, h.sb.sublist hb, fun x hx y hy => h.c1 x (ha.subset hx) y (hb.subset hy), fun x hx y hy => h.c2 x (ha.subset hx) y (hb.subset hy)⟩

/-- symMerge's law for parts of together at most N elements. -/
def MrgLaw (w0 : World) (Sp : Int → Prop) (cmp : Int → Int → Int) (lt : Int → Int → Prop) (p : Addr) (N : Nat) : Prop :=
  ∀ (P A B S : List Int), A.length + B.length ≤ N → Ordr lt cmp A B → (∀ x ∈ A, Sp x) → (∀ x ∈ B, Sp x) → 0 < A.length → 0 < B.length → ∀ (g n c : Nat), n = (P ++ (A ++ (B ++ S))).length → n ≤ 1000 → ∀ (a m b : Nat), a = P.length → m = P.length + A.length → b = P.length + A.length + B.length →
    ∀ (w : World), Grew w0 w → Own IntS.E 3 w w0.heap.size (.slice (some ⟨g, 0, none⟩) n c) (P ++ (A ++ (B ++ S))) →
    Calls Try.prog 73 #[.slice (some ⟨g, 0, none⟩) n c, .int .i64 a, .int .i64 m, .int .i64 b, clo p] w fun e w' =>
      e = .returned (.tuple #[]) ∧ (∃ M : List Int, M.Perm (A ++ B) ∧ M.Pairwise lt ∧ Own IntS.E 3 w' w0.heap.size (.slice (some ⟨g, 0, none⟩) n c) (P ++ (M ++ S))) ∧ Grew w0 w'
/-- What the search found parts both: each of the left parts is below each of the right parts. -/
theorem cuts {lt : Int → Int → Prop} {A B : List Int} (tr : ∀ a b c, lt a b → lt b c → lt a c) (sa : A.Pairwise lt) (sb : B.Pairwise lt) {a m b mid s0 r0 pp u : Nat} (hma : m = a + A.length) (hbm : b = m + B.length) (h1 : a ≤ s0) (h2 : s0 ≤ u) (h3 : u ≤ r0) (h4 : r0 ≤ m) (h5 : r0 ≤ mid) (h6 : mid + m ≤ s0 + b) (hpp : pp + 1 = mid + m)
    (e0 : s0 = a ∨ mid + m = s0 + b) (e1 : r0 = m ∨ r0 = mid)
    (hlo : ∀ (t : Nat) (x y : Int), s0 ≤ a + t → a + t < u → A[t]? = some x → B[pp - (a + t) - m]? = some y → lt x y)
    (hhi : ∀ (t : Nat) (x y : Int), u ≤ a + t → a + t < r0 → A[t]? = some x → B[pp - (a + t) - m]? = some y → lt y x) :
    (∀ x ∈ A.take (u - a), ∀ y ∈ B.drop (mid - u), lt x y) ∧ (∀ x ∈ B.take (mid - u), ∀ y ∈ A.drop (u - a), lt x y) := by
  constructor
  · intro x hx y hy
    rcases Nat.lt_or_ge s0 u with h | h
    · obtain ⟨z, hz⟩ : ∃ z, A[u - a - 1]? = some z := ⟨_, List.getElem?_eq_getElem (by omega)⟩
      rcases Nat.lt_or_ge (mid - u) B.length with h9 | h9
      · obtain ⟨v, hv⟩ : ∃ v, B[mid - u]? = some v := ⟨_, List.getElem?_eq_getElem h9⟩
        refine cross tr sa sb hz hv (hlo (u - a - 1) z v (by omega) (by omega) hz ?_) hx hy
        rw [show pp - (a + (u - a - 1)) - m = mid - u by omega]
        exact hv
      · rw [List.drop_eq_nil_of_le h9] at hy
        cases hy
    · obtain rfl : u = s0 := by omega
      rcases e0 with e0 | e0
      · rw [show u - a = 0 by omega, List.take_zero] at hx
        cases hx
      · rw [List.drop_eq_nil_of_le (by omega)] at hy
        cases hy
  · intro x hx y hy
    rcases Nat.lt_or_ge u r0 with h | h
    · obtain ⟨z, hz⟩ : ∃ z, A[u - a]? = some z := ⟨_, List.getElem?_eq_getElem (by omega)⟩
      rcases Nat.eq_zero_or_pos (mid - u) with h9 | h9
      · rw [h9, List.take_zero] at hx
        cases hx
      · obtain ⟨v, hv⟩ : ∃ v, B[mid - u - 1]? = some v := ⟨_, List.getElem?_eq_getElem (by omega)⟩
        refine cross tr sb sa hv hz (hhi (u - a) z v (by omega) (by omega) hz ?_) hx hy
        rw [show pp - (a + (u - a)) - m = mid - u - 1 by omega]
        exact hv
    · obtain rfl : u = r0 := by omega
      rcases e1 with e1 | e1
      · rw [List.drop_eq_nil_of_le (by omega)] at hy
        cases hy
      · rw [show mid - u = 0 by omega, List.take_zero] at hx
        cases hx
/-- What each of the three calls behind the search does, and what holds where it is left out. -/
structure Steps (w0 : World) (lt : Int → Int → Prop) (p : Addr) (P A B S A1 A2 B1 B2 : List Int) (g n c a m b mid u ee : Nat) : Prop where
  rot : u < m → m < ee → ∀ w, Grew w0 w → Own IntS.E 3 w w0.heap.size (.slice (some ⟨g, 0, none⟩) n c) (P ++ (A ++ (B ++ S))) →
    Calls Try.prog 76 #[.slice (some ⟨g, 0, none⟩) n c, .int .i64 u, .int .i64 m, .int .i64 ee, clo p] w fun e w' => e = .returned (.tuple #[]) ∧ Own IntS.E 3 w' w0.heap.size (.slice (some ⟨g, 0, none⟩) n c) (P ++ (A1 ++ B1 ++ (A2 ++ B2 ++ S))) ∧ Grew w0 w'
  norot : ¬ (u < m ∧ m < ee) → P ++ (A ++ (B ++ S)) = P ++ (A1 ++ B1 ++ (A2 ++ B2 ++ S))
  one : a < u → u < mid → ∀ w, Grew w0 w → Own IntS.E 3 w w0.heap.size (.slice (some ⟨g, 0, none⟩) n c) (P ++ (A1 ++ B1 ++ (A2 ++ B2 ++ S))) →
    Calls Try.prog 73 #[.slice (some ⟨g, 0, none⟩) n c, .int .i64 a, .int .i64 u, .int .i64 mid, clo p] w fun e w' => e = .returned (.tuple #[]) ∧ (∃ M : List Int, M.Perm (A1 ++ B1) ∧ M.Pairwise lt ∧ Own IntS.E 3 w' w0.heap.size (.slice (some ⟨g, 0, none⟩) n c) (P ++ (M ++ (A2 ++ B2 ++ S)))) ∧ Grew w0 w'
  noone : ¬ (a < u ∧ u < mid) → (A1 ++ B1).Pairwise lt
  two : mid < ee → ee < b → ∀ M1 : List Int, M1.Perm (A1 ++ B1) → ∀ w, Grew w0 w → Own IntS.E 3 w w0.heap.size (.slice (some ⟨g, 0, none⟩) n c) (P ++ (M1 ++ (A2 ++ B2 ++ S))) →
    Calls Try.prog 73 #[.slice (some ⟨g, 0, none⟩) n c, .int .i64 mid, .int .i64 ee, .int .i64 b, clo p] w fun e w' => e = .returned (.tuple #[]) ∧ (∃ M : List Int, M.Perm (A2 ++ B2) ∧ M.Pairwise lt ∧ Own IntS.E 3 w' w0.heap.size (.slice (some ⟨g, 0, none⟩) n c) (P ++ (M1 ++ (M ++ S)))) ∧ Grew w0 w'
  notwo : ¬ (mid < ee ∧ ee < b) → (A2 ++ B2).Pairwise lt
  fin : ∀ M1 M2 : List Int, M1.Perm (A1 ++ B1) → M2.Perm (A2 ++ B2) → M1.Pairwise lt → M2.Pairwise lt → (M1 ++ M2).Perm (A ++ B) ∧ (M1 ++ M2).Pairwise lt
theorem steps_of (w0 : World) (Sp : Int → Prop) (cmp : Int → Int → Int) (lt : Int → Int → Prop) (p : Addr) (hc : CmpIs Sp cmp p w0) (N : Nat) (ih : MrgLaw w0 Sp cmp lt p N)
    (P A B S : List Int) (hN : A.length + B.length ≤ N + 1) (ho : Ordr lt cmp A B) (hA : ∀ x ∈ A, Sp x) (hB : ∀ x ∈ B, Sp x) (g n c : Nat) (hn : n = (P ++ (A ++ (B ++ S))).length) (h30 : n ≤ 1000) (a m b mid u ee : Nat) (ha : a = P.length) (hm : m = a + A.length) (hb : b = m + B.length)
    (hau : a ≤ u) (hum : u ≤ m) (humid : u ≤ mid) (hlo : a + 1 ≤ mid) (hhi : mid + 1 ≤ b) (hee : ee + u = mid + m) (heb : ee ≤ b)
    (hcut : (∀ x ∈ A.take (u - a), ∀ y ∈ B.drop (mid - u), lt x y) ∧ (∀ x ∈ B.take (mid - u), ∀ y ∈ A.drop (u - a), lt x y)) :
    Steps w0 lt p P A B S (A.take (u - a)) (A.drop (u - a)) (B.take (mid - u)) (B.drop (mid - u)) g n c a m b mid u ee := by
  have l1 : (A.take (u - a)).length = u - a := by rw [List.length_take]; omega
  have l2 : (A.drop (u - a)).length = m - u := by rw [List.length_drop]; omega
  have l3 : (B.take (mid - u)).length = mid - u := by rw [List.length_take]; omega
  have l4 : (B.drop (mid - u)).length = b - ee := by rw [List.length_drop]; omega
  have lab : A.length + B.length = b - a := by omega
  have eA : A = A.take (u - a) ++ A.drop (u - a) := (List.take_append_drop _ _).symm
  have eB : B = B.take (mid - u) ++ B.drop (mid - u) := (List.take_append_drop _ _).symm
  have eM : P ++ (A ++ (B ++ S)) = (P ++ A.take (u - a)) ++ (A.drop (u - a) ++ (B.take (mid - u) ++ (B.drop (mid - u) ++ S))) := by
    conv => lhs; rw [eA, eB]
    simp only [List.append_assoc]
  have eN : (P ++ A.take (u - a)) ++ (B.take (mid - u) ++ (A.drop (u - a) ++ (B.drop (mid - u) ++ S))) = P ++ (A.take (u - a) ++ B.take (mid - u) ++ (A.drop (u - a) ++ B.drop (mid - u) ++ S)) := by simp only [List.append_assoc]
  have ln : n = P.length + (A.length + (B.length + S.length)) := by rw [hn]; simp only [List.length_append]
  refine ⟨?_, ?_, ?_, ?_, ?_, ?_, ?_⟩
  · intro h1 h2 w hg hown
    rw [eM] at hown
    have h := rotate_any w0 (clo p) (P ++ A.take (u - a)) (A.drop (u - a)) (B.take (mid - u)) (B.drop (mid - u) ++ S) (by omega) (by omega) g n c (by rw [hn, eM]) h30 u m ee (by rw [List.length_append]; omega) (by rw [List.length_append]; omega) (by rw [List.length_append]; omega) w hg hown
    rw [eN] at h
    exact h
  · intro h
    rw [eM, ← eN]
    rcases Nat.lt_or_ge u m with h1 | h1
    · have : B.take (mid - u) = [] := List.eq_nil_of_length_eq_zero (by omega)
      rw [this]; rfl
    · have : A.drop (u - a) = [] := List.eq_nil_of_length_eq_zero (by omega)
      rw [this]; rfl
  · intro h1 h2 w hg hown
    rw [List.append_assoc (A.take (u - a))] at hown
    exact ih P (A.take (u - a)) (B.take (mid - u)) _ (by omega) (ho.sub (List.take_sublist _ _) (List.take_sublist _ _)) (fun x hx => hA x (List.mem_of_mem_take hx)) (fun x hx => hB x (List.mem_of_mem_take hx)) (by omega) (by omega) g n c (by simp only [List.length_append]; omega) h30 a u mid ha (by omega) (by omega) w hg hown
  · intro h
    rcases Nat.lt_or_ge a u with h1 | h1
    · have : B.take (mid - u) = [] := List.eq_nil_of_length_eq_zero (by omega)
      rw [this, List.append_nil]
      exact ho.sa.sublist (List.take_sublist _ _)
    · have : A.take (u - a) = [] := List.eq_nil_of_length_eq_zero (by omega)
      rw [this, List.nil_append]
      exact ho.sb.sublist (List.take_sublist _ _)
  · intro h1 h2 M1 hp w hg hown
    have lm : M1.length = mid - a := by rw [hp.length_eq, List.length_append]; omega
    rw [List.append_assoc (A.drop (u - a)), ← List.append_assoc P] at hown
    have h := ih (P ++ M1) (A.drop (u - a)) (B.drop (mid - u)) S (by omega) (ho.sub (List.drop_sublist _ _) (List.drop_sublist _ _)) (fun x hx => hA x (List.mem_of_mem_drop hx)) (fun x hx => hB x (List.mem_of_mem_drop hx)) (by omega) (by omega) g n c (by simp only [List.length_append]; omega) h30 mid ee b (by rw [List.length_append]; omega) (by rw [List.length_append]; omega) (by rw [List.length_append]; omega) w hg hown
    refine h.mono ?_
    rintro e w' ⟨he, ⟨M, hM1, hM2, hM3⟩, hg'⟩
    exact ⟨he, ⟨M, hM1, hM2, by simpa using hM3⟩, hg'⟩
  · intro h
    rcases Nat.lt_or_ge mid ee with h1 | h1
    · have : B.drop (mid - u) = [] := List.eq_nil_of_length_eq_zero (by omega)
      rw [this, List.append_nil]
      exact ho.sa.sublist (List.drop_sublist _ _)
    · have : A.drop (u - a) = [] := List.eq_nil_of_length_eq_zero (by omega)
      rw [this, List.nil_append]
      exact ho.sb.sublist (List.drop_sublist _ _)
  · intro M1 M2 p1 p2 q1 q2
    have h := parts_sorted ho.sa ho.sb hcut.1 hcut.2 p1 p2 q1 q2
    exact ⟨h.2, h.1⟩
set_option maxRecDepth 100000 in
set_option maxHeartbeats 16000000 in
theorem merge_step (w0 : World) (Sp : Int → Prop) (cmp : Int → Int → Int) (lt : Int → Int → Prop) (p : Addr) (hc : CmpIs Sp cmp p w0) (N : Nat) (ih : MrgLaw w0 Sp cmp lt p N) : MrgLaw w0 Sp cmp lt p (N + 1) := by
    intro P A B S hN ho hA hB hA0 hB0
    intro g n c hn h30 a m b ha hm hb w hg hown
    by_cases hA1 : A.length = 1
    · match A, hA1 with
      | [x], _ => exact merge_one w0 Sp cmp lt p hc P B S x ho (hA x (by simp)) hB hB0 g n c (by simpa using hn) h30 a m b ha (by simpa using hm) (by simpa using hb) w hg (by simpa using hown)
    by_cases hB1 : B.length = 1
    · match B, hB1 with
      | [y], _ => exact merge_last w0 Sp cmp lt p hc P A S y ho (hB y (by simp)) hA (by omega) g n c (by simpa using hn) h30 a m b ha hm (by simpa using hb) w hg (by simpa using hown)
    have IH := Lib.hid ih
    have HO := Lib.hid hown
    have HG := Lib.hid hg
    have HC := Lib.hid hc
    have HR := Lib.hid ho
    have HSA := Lib.hid hA
    have HSB := Lib.hid hB
    have hbn : b ≤ n := by rw [hn, hb]; simp only [List.length_append]; omega
    have HA := Lib.hid ha
    have HMA := Lib.hid (show m = a + A.length by omega)
    have HBM := Lib.hid (show b = m + B.length by omega)
    have HNN := Lib.hid hn
    have HNB := Lib.hid hN
    have hma : a + 2 ≤ m := by omega
    have hbm : m + 2 ≤ b := by omega
    have hne1 : (((m : Int) - (a : Int)) == 1) = false := by simp; omega
    have hne2 : (((b : Int) - (m : Int)) == 1) = false := by simp; omega
    obtain ⟨mid, hmid⟩ : ∃ q, q = (a + b) / 2 := ⟨_, rfl⟩
    have hm1 : a + 1 ≤ mid ∧ mid + 1 ≤ b := by omega
    have hm2 : ((a : Int) + (b : Int)) / 2 = (mid : Int) := by omega
    have HMID := Lib.hid hmid
    obtain ⟨hm11, hm12⟩ := hm1
    clear hown hg hc ho hA hB ha hm hb hn hN hA1 hB1 hmid hA0 hB0 ih
    obtain ⟨s0, hs0⟩ : ∃ q, q = if mid < m then mid + m - b else a := ⟨_, rfl⟩
    obtain ⟨r0, hr0⟩ : ∃ q, q = if mid < m then mid else m := ⟨_, rfl⟩
    have hsr : a ≤ s0 ∧ s0 ≤ r0 ∧ r0 ≤ m ∧ mid + m ≤ s0 + b ∧ r0 ≤ mid := by
      have := HMID.out
      rw [hs0, hr0]
      split <;> omega
    obtain ⟨hsr1, hsr2, hsr3, hsr4, hsr5⟩ := hsr
    have HE0 := Lib.hid (show s0 = a ∨ mid + m = s0 + b by rw [hs0]; have := HMID.out; split <;> omega)
    have HE1 := Lib.hid (show r0 = m ∨ r0 = mid by rw [hr0]; split <;> omega)
    obtain ⟨pp, hpp⟩ : ∃ q, q = mid + m - 1 := ⟨_, rfl⟩
    have HPP := Lib.hid (show pp + 1 = mid + m by omega)
    obtain ⟨nn, hnn⟩ : ∃ q, q = mid + m := ⟨_, rfl⟩
    have HNV := Lib.hid hnn
    have hi1 : (mid : Int) + (m : Int) = (nn : Int) := by omega
    have hi2 : (nn : Int) - 1 = (pp : Int) := by omega
    clear hpp hnn
    have HS0 := Lib.hid hs0
    have HR0 := Lib.hid hr0
    clear hs0 hr0
    have HI20 := Lib.hid (show (mid < m → (nn : Int) - (b : Int) = (s0 : Int) ∧ (mid : Int) = (r0 : Int)) ∧ (¬ mid < m → (a : Int) = (s0 : Int) ∧ (m : Int) = (r0 : Int)) from ⟨fun h => by
      have h1 := HS0.out; have h2 := HR0.out; have h3 := HNV.out
      rw [if_pos h] at h1 h2
      omega, fun h => by
      have h1 := HS0.out; have h2 := HR0.out
      rw [if_neg h] at h1 h2
      omega⟩)
    go_enter Try.func73, Try.ntmps73
    go_upto_if 140 with fail
    go_cut [20, 21] (fun s r wx => s = .int .i64 s0 ∧ r = .int .i64 r0 ∧ wx = w)
    case first =>
      by_cases hmm : mid < m
      all_goals
        have HST := Lib.hid (by first | exact HI20.out.1 hmm | exact HI20.out.2 hmm)
        go_wp2_with fail
        go_meet
        exact ⟨by rw [← HST.out.1], by rw [← HST.out.2], rfl⟩
    obtain ⟨rfl, rfl, rfl⟩ := hcut
    go_wp2_with fail
    go_loopw [20, 21, 23] (fun iv jv _ wr => ∃ u v : Nat, s0 ≤ u ∧ u ≤ v ∧ v ≤ r0 ∧ iv = .int .i64 u ∧ jv = .int .i64 v ∧ (∀ (t : Nat) (x y : Int), s0 ≤ a + t → a + t < u → A[t]? = some x → B[pp - (a + t) - m]? = some y → lt x y) ∧ (∀ (t : Nat) (x y : Int), v ≤ a + t → a + t < r0 → A[t]? = some x → B[pp - (a + t) - m]? = some y → lt y x) ∧ Own IntS.E 3 wr w0.heap.size (.slice (some ⟨g, 0, none⟩) n c) (P ++ (A ++ (B ++ S))) ∧ Grew w0 wr) (fun iv jv _ _ => (intOf jv).toNat - (intOf iv).toNat)
    case atStart => exact ⟨s0, r0, Nat.le_refl _, hsr2, Nat.le_refl _, rfl, rfl, fun t x y h1 h2 => absurd h2 (Nat.not_lt.2 h1), fun t x y h1 h2 => absurd h2 (Nat.not_lt.2 h1), HO.out, HG.out⟩
    case round =>
      obtain ⟨u, v, hu, huv, hv, rfl, rfl, hlo, hhi, hown, hg⟩ := hrel
      have HLO := Lib.hid hlo
      have HHI := Lib.hid hhi
      have HOW := Lib.hid hown
      have HGW := Lib.hid hg
      clear hlo hhi hown hg HO HG
      by_cases hlt : u < v
      · as_aux_lemma =>
          obtain ⟨h, hh⟩ : ∃ h, h = (u + v) / 2 := ⟨_, rfl⟩
          have hhu : u ≤ h ∧ h < v := by omega
          obtain ⟨hhu1, hhu2⟩ := hhu
          have hhi2 : ((u : Int) + (v : Int)) / 2 = (h : Int) := by omega
          have hha : h - a < A.length := by have := HMA.out; omega
          have hhm : m ≤ pp - h ∧ pp - h < b := by have := HPP.out; omega
          obtain ⟨hhm1, hhm2⟩ := hhm
          have hhb : pp - h - m < B.length := by have := HBM.out; omega
          obtain ⟨x, hx⟩ : ∃ x, A[h - a]? = some x := ⟨_, List.getElem?_eq_getElem hha⟩
          obtain ⟨y, hy⟩ : ∃ y, B[pp - h - m]? = some y := ⟨_, List.getElem?_eq_getElem hhb⟩
          obtain ⟨k, hk⟩ : ∃ k, k = pp - h := ⟨_, rfl⟩
          have hkh : (pp : Int) - (h : Int) = (k : Int) := by have := HPP.out; omega
          rw [← hk] at hy hhm1 hhm2
          have gx : (P ++ (A ++ (B ++ S)))[h]? = some x := by
            have e : h = P.length + (h - a) := by have := HA.out; omega
            rw [e, List.getElem?_append_right (by omega), show P.length + (h - a) - P.length = h - a by omega, List.getElem?_append_left hha]
            exact hx
          have gy : (P ++ (A ++ (B ++ S)))[k]? = some y := by
            have e : k = (P ++ A).length + (k - m) := by rw [List.length_append]; have := HA.out; have := HMA.out; omega
            rw [e, ← List.append_assoc, List.getElem?_append_right (by omega), show (P ++ A).length + (k - m) - (P ++ A).length = k - m by omega, List.getElem?_append_left (by rw [hk]; exact hhb)]
            exact hy
          have hcx := IntS.at_ (w := wr) (b := g) (o := 0) (l := P ++ (A ++ (B ++ S))) (fun i z hz j u hu => by have := HOW.out.at_ hz hu; simpa using this) gx
          have hcy := IntS.at_ (w := wr) (b := g) (o := 0) (l := P ++ (A ++ (B ++ S))) (fun i z hz j u hu => by have := HOW.out.at_ hz hu; simpa using this) gy
          rw [Nat.zero_add] at hcx hcy
          have hb1 : (h : Int) < (n : Int) := by omega
          have hb2 : (k : Int) < (n : Int) := by omega
          have HX := Lib.hid hx
          have HY := Lib.hid hy
          have HK := Lib.hid hk
          obtain ⟨cv, hcv⟩ : ∃ cv, cmp y x = cv := ⟨_, rfl⟩
          have HCV := Lib.hid hcv
          have HXM := Lib.hid (List.mem_of_getElem? hx)
          have HYM := Lib.hid (List.mem_of_getElem? hy)
          clear hx hy gx gy hcv hh hk
          by_cases hneg : cv < 0
          · have hd : decide (cv < 0) = true := decide_eq_true hneg
            have hlt2 : lt y x := HR.out.c1 x HXM.out y HYM.out (by rw [HCV.out]; exact hneg)
            have HN := Lib.hid (show ∀ (t : Nat) (x' y' : Int), h ≤ a + t → a + t < r0 → A[t]? = some x' → B[pp - (a + t) - m]? = some y' → lt y' x' from fun t x' y' ht hr hx' hy' => by
              rcases Nat.lt_or_ge (h - a) t with h9 | h9
              · have q1 := pw_at HR.out.sa HX.out hx' h9
                have q2 := pw_at HR.out.sb hy' HY.out (by have := HK.out; have := HPP.out; omega)
                exact HR.out.tr _ _ _ q2 (HR.out.tr _ _ _ hlt2 q1)
              · obtain rfl : t = h - a := by omega
                rw [HX.out] at hx'
                obtain rfl : x = x' := Option.some.inj hx'
                have e : pp - (a + (h - a)) - m = k - m := by have := HK.out; omega
                rw [e, HY.out] at hy'
                obtain rfl : y = y' := Option.some.inj hy'
                exact hlt2)
            clear hlt2
            go_wp2_with fail
            (refine wp_region_grow_lit (by kernel_rfl) (by kernel_rfl) ?_; repeat (any_goals (first | go_big_quiet_step ((go_at_call 53; exact quiet_grew (HC.out.at_ HCV.out (HSB.out y HYM.out) (HSA.out x HXM.out) (HGW.out.trans (gw_grew _ _))))) | quiet_step ((go_at_call 53; exact quiet_grew (HC.out.at_ HCV.out (HSB.out y HYM.out) (HSA.out x HXM.out) (HGW.out.trans (gw_grew _ _))))) | (refine wpQuiet_step (fun K hK => ?_); go_simp; split <;> rename_i hsp <;> (refine hK _ ?_; clear hK K) <;> (try first | simp only [hsp, decide_true, decide_false, Bool.not_true, Bool.not_false] | simp only [Int.not_le.2 hsp, decide_false, Bool.not_false] | simp only [Int.not_lt.2 hsp, decide_false, Bool.not_false] | simp only [Nat.not_le.2 hsp, decide_false, Bool.not_false] | simp only [Nat.not_lt.2 hsp, decide_false, Bool.not_false])))))
            all_goals (refine wpQuiet_nil ?_; intro w1 h1)
            go_wp2_with fail
            go_roundw
            case rel => go_light; exact ⟨u, h, hu, by omega, by omega, rfl, rfl, HLO.out, HN.out, HOW.out.grew h1, HGW.out.trans h1⟩
            case measure => go_light; simp [intOf]; omega
          · have hd : decide (cv < 0) = false := decide_eq_false hneg
            have hlt2 : lt x y := HR.out.c2 x HXM.out y HYM.out (by rw [HCV.out]; exact hneg)
            have HN := Lib.hid (show ∀ (t : Nat) (x' y' : Int), s0 ≤ a + t → a + t < h + 1 → A[t]? = some x' → B[pp - (a + t) - m]? = some y' → lt x' y' from fun t x' y' hs ht hx' hy' => by
              rcases Nat.lt_or_ge t (h - a) with h9 | h9
              · have q1 := pw_at HR.out.sa hx' HX.out h9
                have q2 := pw_at HR.out.sb HY.out hy' (by have := HK.out; have := HPP.out; omega)
                exact HR.out.tr _ _ _ q1 (HR.out.tr _ _ _ hlt2 q2)
              · obtain rfl : t = h - a := by omega
                rw [HX.out] at hx'
                obtain rfl : x = x' := Option.some.inj hx'
                have e : pp - (a + (h - a)) - m = k - m := by have := HK.out; omega
                rw [e, HY.out] at hy'
                obtain rfl : y = y' := Option.some.inj hy'
                exact hlt2)
            clear hlt2
            go_wp2_with fail
            (refine wp_region_grow_lit (by kernel_rfl) (by kernel_rfl) ?_; repeat (any_goals (first | go_big_quiet_step ((go_at_call 53; exact quiet_grew (HC.out.at_ HCV.out (HSB.out y HYM.out) (HSA.out x HXM.out) (HGW.out.trans (gw_grew _ _))))) | quiet_step ((go_at_call 53; exact quiet_grew (HC.out.at_ HCV.out (HSB.out y HYM.out) (HSA.out x HXM.out) (HGW.out.trans (gw_grew _ _))))) | (refine wpQuiet_step (fun K hK => ?_); go_simp; split <;> rename_i hsp <;> (refine hK _ ?_; clear hK K) <;> (try first | simp only [hsp, decide_true, decide_false, Bool.not_true, Bool.not_false] | simp only [Int.not_le.2 hsp, decide_false, Bool.not_false] | simp only [Int.not_lt.2 hsp, decide_false, Bool.not_false] | simp only [Nat.not_le.2 hsp, decide_false, Bool.not_false] | simp only [Nat.not_lt.2 hsp, decide_false, Bool.not_false])))))
            all_goals (refine wpQuiet_nil ?_; intro w1 h1)
            go_wp2_with fail
            go_roundw
            case rel => go_light; exact ⟨h + 1, v, by omega, by omega, hv, by go_num, rfl, HN.out, HHI.out, HOW.out.grew h1, HGW.out.trans h1⟩
            case measure => go_light; simp [intOf]; omega
      · obtain rfl : u = v := by omega
        obtain ⟨ee, hee⟩ : ∃ q, q = mid + m - u := ⟨_, rfl⟩
        have hee2 : ee + u = mid + m := by omega
        have heb : ee ≤ b := by omega
        have hen : (nn : Int) - (u : Int) = (ee : Int) := by have := HNV.out; omega
        have HT := Lib.hid (steps_of w0 Sp cmp lt p HC.out N IH.out P A B S HNB.out HR.out HSA.out HSB.out g n c HNN.out h30 a m b mid u ee HA.out HMA.out HBM.out (by omega) (by omega) (by omega) hm11 hm12 hee2 heb (cuts HR.out.tr HR.out.sa HR.out.sb HMA.out HBM.out hsr1 hu hv hsr3 hsr5 hsr4 HPP.out HE0.out HE1.out HLO.out HHI.out))
        obtain ⟨A1, hA1⟩ : ∃ L, L = A.take (u - a) := ⟨_, rfl⟩
        obtain ⟨A2, hA2⟩ : ∃ L, L = A.drop (u - a) := ⟨_, rfl⟩
        obtain ⟨B1, hB1⟩ : ∃ L, L = B.take (mid - u) := ⟨_, rfl⟩
        obtain ⟨B2, hB2⟩ : ∃ L, L = B.drop (mid - u) := ⟨_, rfl⟩
        rw [← hA1, ← hA2, ← hB1, ← hB2] at HT
        clear hA1 hA2 hB1 hB2 HLO HHI HE0 HE1 HS0 HR0 HPP HMID HC HSA HSB HNB HNN HA HMA HBM IH HI20 hee hsr1 hsr2 hsr3 hsr4 hsr5 hu huv hv hi1 hi2 HR
        obtain ⟨q1, hq1⟩ : ∃ q, q = decide (u < m ∧ m < ee) := ⟨_, rfl⟩
        obtain ⟨q2, hq2⟩ : ∃ q, q = decide (a < u ∧ u < mid) := ⟨_, rfl⟩
        obtain ⟨q3, hq3⟩ : ∃ q, q = decide (mid < ee ∧ ee < b) := ⟨_, rfl⟩
        have HQ1 := Lib.hid hq1
        have HQ2 := Lib.hid hq2
        have HQ3 := Lib.hid hq3
        clear hq1 hq2 hq3
        go_upto_region 39 with fail
        go_cut [185] (fun s wx => s = .bool q1 ∧ Own IntS.E 3 wx w0.heap.size (.slice (some ⟨g, 0, none⟩) n c) (P ++ (A ++ (B ++ S))) ∧ Grew w0 wx)
        case first =>
          as_aux_lemma =>
            have HD := Lib.hid HOW.out.drew
            by_cases c1 : u < m
            · by_cases c2 : m < ee
              · go_wp2_with fail
                go_meet
                exact ⟨by rw [HQ1.out, decide_eq_true ⟨c1, c2⟩], HOW.out, HGW.out⟩
              · go_wp2_with fail
                go_meet
                exact ⟨by rw [HQ1.out, decide_eq_false (fun h => c2 h.2)], HOW.out, HGW.out⟩
            · go_wp2_with fail
              go_meet
              exact ⟨by rw [HQ1.out, decide_eq_false (fun h => c1 h.1)], HOW.out, HGW.out⟩
        obtain ⟨rfl, hown, hg⟩ := hcut
        have HO1 := Lib.hid hown
        have HG1 := Lib.hid hg
        clear hown hg HOW HGW
        go_upto_if 185 with fail
        go_cut [] (fun wx => Own IntS.E 3 wx w0.heap.size (.slice (some ⟨g, 0, none⟩) n c) (P ++ (A1 ++ B1 ++ (A2 ++ B2 ++ S))) ∧ Grew w0 wx)
        case first =>
          as_aux_lemma =>
            cases q1
            · have hq := decide_eq_false_iff_not.1 HQ1.out.symm
              have HE := Lib.hid (HT.out.norot hq)
              clear hq
              go_wp2_with fail
              go_meet
              exact ⟨HE.out ▸ HO1.out, HG1.out⟩
            · have hq := of_decide_eq_true HQ1.out.symm
              obtain ⟨hq1, hq2⟩ := hq
              go_wp2_with (refine (HT.out.rot hq1 hq2 _ HG1.out HO1.out).mono ?_; rintro e w1 ⟨rfl, ho1, hg1⟩)
              go_meet
              exact ⟨ho1, hg1⟩
        obtain ⟨hown, hg⟩ := hcut
        have HO2 := Lib.hid hown
        have HG2 := Lib.hid hg
        clear hown hg HO1 HG1
        as_aux_lemma =>
          go_upto_region 41 with fail
          go_cut [199] (fun s wx => s = .bool q2 ∧ Own IntS.E 3 wx w0.heap.size (.slice (some ⟨g, 0, none⟩) n c) (P ++ (A1 ++ B1 ++ (A2 ++ B2 ++ S))) ∧ Grew w0 wx)
          case first =>
            as_aux_lemma =>
              by_cases c1 : a < u
              · by_cases c2 : u < mid
                · go_wp2_with fail
                  go_meet
                  exact ⟨by rw [HQ2.out, decide_eq_true ⟨c1, c2⟩], HO2.out, HG2.out⟩
                · go_wp2_with fail
                  go_meet
                  exact ⟨by rw [HQ2.out, decide_eq_false (fun h => c2 h.2)], HO2.out, HG2.out⟩
              · go_wp2_with fail
                go_meet
                exact ⟨by rw [HQ2.out, decide_eq_false (fun h => c1 h.1)], HO2.out, HG2.out⟩
          obtain ⟨rfl, hown, hg⟩ := hcut
          have HO3 := Lib.hid hown
          have HG3 := Lib.hid hg
          clear hown hg HO2 HG2
          go_upto_if 199 with fail
          go_cut [] (fun wx => ∃ M1 : List Int, M1.Perm (A1 ++ B1) ∧ M1.Pairwise lt ∧ Own IntS.E 3 wx w0.heap.size (.slice (some ⟨g, 0, none⟩) n c) (P ++ (M1 ++ (A2 ++ B2 ++ S))) ∧ Grew w0 wx)
          case first =>
            as_aux_lemma =>
              cases q2
              · have hq := decide_eq_false_iff_not.1 HQ2.out.symm
                have HE := Lib.hid (HT.out.noone hq)
                clear hq
                go_wp2_with fail
                go_meet
                exact ⟨_, List.Perm.refl _, HE.out, HO3.out, HG3.out⟩
              · have hq := of_decide_eq_true HQ2.out.symm
                obtain ⟨hq1, hq2⟩ := hq
                go_wp2_with (refine (HT.out.one hq1 hq2 _ HG3.out HO3.out).mono ?_; rintro e w1 ⟨rfl, ⟨M1, hm1, hm2, ho1⟩, hg1⟩)
                go_meet
                exact ⟨M1, hm1, hm2, ho1, hg1⟩
          obtain ⟨M1, hp1, hs1, hown, hg⟩ := hcut
          have HO4 := Lib.hid hown
          have HG4 := Lib.hid hg
          have HP1 := Lib.hid hp1
          have HS1 := Lib.hid hs1
          clear hown hg HO3 HG3 hp1 hs1
          as_aux_lemma =>
            go_upto_region 43 with fail
            go_cut [213] (fun s wx => s = .bool q3 ∧ Own IntS.E 3 wx w0.heap.size (.slice (some ⟨g, 0, none⟩) n c) (P ++ (M1 ++ (A2 ++ B2 ++ S))) ∧ Grew w0 wx)
            case first =>
              as_aux_lemma =>
                by_cases c1 : mid < ee
                · by_cases c2 : ee < b
                  · go_wp2_with fail
                    go_meet
                    exact ⟨by rw [HQ3.out, decide_eq_true ⟨c1, c2⟩], HO4.out, HG4.out⟩
                  · go_wp2_with fail
                    go_meet
                    exact ⟨by rw [HQ3.out, decide_eq_false (fun h => c2 h.2)], HO4.out, HG4.out⟩
                · go_wp2_with fail
                  go_meet
                  exact ⟨by rw [HQ3.out, decide_eq_false (fun h => c1 h.1)], HO4.out, HG4.out⟩
            obtain ⟨rfl, hown, hg⟩ := hcut
            have HO5 := Lib.hid hown
            have HG5 := Lib.hid hg
            clear hown hg HO4 HG4
            cases q3
            · have hq := decide_eq_false_iff_not.1 HQ3.out.symm
              have HE := Lib.hid (HT.out.notwo hq)
              clear hq
              go_wp2_with fail
              refine bodyPost_end (results_none rfl _ _ _) rfl ?_
              have hf := HT.out.fin M1 (A2 ++ B2) HP1.out (List.Perm.refl _) HS1.out HE.out
              exact ⟨rfl, ⟨M1 ++ (A2 ++ B2), hf.1, hf.2, by rw [List.append_assoc M1]; exact HO5.out⟩, HG5.out⟩
            · have hq := of_decide_eq_true HQ3.out.symm
              obtain ⟨hq1, hq2⟩ := hq
              go_wp2_with (refine (HT.out.two hq1 hq2 M1 HP1.out _ HG5.out HO5.out).mono ?_; rintro e w1 ⟨rfl, ⟨M2, hm1, hm2, ho1⟩, hg1⟩)
              refine bodyPost_end (results_none rfl _ _ _) rfl ?_
              have hf := HT.out.fin M1 M2 HP1.out hm1 HS1.out hm2
              exact ⟨rfl, ⟨M1 ++ M2, hf.1, hf.2, by rw [List.append_assoc M1]; exact ho1⟩, hg1⟩

theorem merge_any (w0 : World) (Sp : Int → Prop) (cmp : Int → Int → Int) (lt : Int → Int → Prop) (p : Addr) (hc : CmpIs Sp cmp p w0) : ∀ N : Nat, MrgLaw w0 Sp cmp lt p N
  | 0 => fun P A B S hN ho hA hB hA0 hB0 => absurd hN (by omega)
  | N + 1 => merge_step w0 Sp cmp lt p hc N (merge_any w0 Sp cmp lt p hc N)
end Go.Proofs.Ytembbgkhmnalpaa
