/- Lots picked, taken and put back, as plain functions. Conditions: none. -/
import Derived.Test.YtcphlancaahihaaAddS
import Derived.Test.YtcphlancaahihaaLess
namespace Go.Proofs.Ytcphlancaahihaa
open Go.RowKit
set_option linter.unusedVariables false
set_option linter.unusedSimpArgs false

/-- The amount that is picked of a lot when q is wanted. -/
def amt (day q : Int) (x : Lt) : Int := if day ≤ x.ex ∧ 0 < min q x.q then min q x.q else 0
def picksR (day : Int) : Int → List Lt → List Nd
  | _, [] => []
  | q, x :: t => (if 0 < amt day q x then [⟨x.ba, amt day q x⟩] else []) ++ picksR day (q - amt day q x) t
/-- What is left of one lot. -/
def lay1 (x : Lt) (a : Int) : List Lt := if 0 < x.q - a then [⟨x.ba, x.ex, x.q - a⟩] else []
def layR (day : Int) : Int → List Lt → List Lt
  | _, [] => []
  | q, x :: t => lay1 x (amt day q x) ++ layR day (q - amt day q x) t
def freeL (day : Int) : List Lt → Int
  | [] => 0
  | x :: t => (if day ≤ x.ex then x.q else 0) + freeL day t

theorem amt_b (day q : Int) (x : Lt) (hq : 0 ≤ q) (hx : 0 ≤ x.q) : 0 ≤ amt day q x ∧ amt day q x ≤ q ∧ amt day q x ≤ x.q := by
  unfold amt
  split <;> omega
theorem pick_fold (day : Int) : ∀ (l : List Lt) (s : List Nd × Int), (l.foldl (pickStep day) s).1 = s.1 ++ picksR day s.2 l
  | [], s => by simp [picksR]
  | x :: t, s => by
    rw [List.foldl_cons, pick_fold day t]
    simp only [pickStep, picksR, amt]
    split
    · rename_i h
      rw [if_pos h.2]
      simp
    · simp
theorem pick_eq (l : List Lt) (day q : Int) : (pickTo l day q l.length).1 = picksR day q l := by
  unfold pickTo
  rw [List.take_length, pick_fold]
  rfl
theorem freeTo_eq (day : Int) : ∀ (l : List Lt) (k : Nat), k ≤ l.length → freeTo l day k = freeL day (l.take k)
  | l, 0, _ => by simp [freeTo, freeL]
  | l, k + 1, h => by
    have hs : ∀ (a : List Lt) (y : Lt), freeL day (a ++ [y]) = freeL day a + (if day ≤ y.ex then y.q else 0) := by
      intro a y
      induction a with
      | nil => simp [freeL]
      | cons z a ih => simp only [List.cons_append, freeL, ih]; omega
    simp only [freeTo]
    have hx : l[k]? = some l[k] := List.getElem?_eq_getElem (by omega)
    rw [freeTo_eq day l k (by omega), List.take_add_one, hx, List.getD_eq_getElem?_getD, hx]
    exact (hs _ _).symm
theorem freeF_eq {l : List Lt} (h : areL l = true) (day : Int) : freeF l day = freeL day l := by
  unfold freeF
  rw [if_pos h, freeTo_eq day l l.length (Nat.le_refl _), List.take_length]

/-- Lots as they should be. -/
def KeyOk (x y : Lt) : Prop := befL x y = true ∧ x.ba ≠ y.ba
def LotV (x : Lt) : Prop := codeB x.ba = true ∧ inB x.ex 0 999 = true ∧ 1 ≤ x.q ∧ x.q ≤ 100000
theorem befL_trans {x y z : Lt} (h : befL x y = true) (k : befL y z = true) : befL x z = true := by
  unfold befL lessB at *
  by_cases h1 : x.ex = y.ex <;> by_cases h2 : y.ex = z.ex
  · rw [if_pos h1] at h
    rw [if_pos h2] at k
    rw [if_pos (h1.trans h2)]
    exact bl_trans h k
  · rw [if_neg h2, decide_eq_true_eq] at k
    rw [if_neg (by omega), decide_eq_true_eq]
    omega
  · rw [if_neg h1, decide_eq_true_eq] at h
    rw [if_neg (by omega), decide_eq_true_eq]
    omega
  · rw [if_neg h1, decide_eq_true_eq] at h
    rw [if_neg h2, decide_eq_true_eq] at k
    rw [if_neg (by omega), decide_eq_true_eq]
    omega
theorem befL_asymm {x y : Lt} (h : befL x y = true) : befL y x = false := by
  unfold befL lessB at *
  by_cases h1 : x.ex = y.ex
  · rw [if_pos h1] at h
    rw [if_pos h1.symm]
    exact bl_asymm h
  · rw [if_neg h1, decide_eq_true_eq] at h
    rw [if_neg (fun e => h1 e.symm), decide_eq_false_iff_not]
    omega
theorem areL_iff {l : List Lt} : areL l = true ↔ (l.Pairwise KeyOk ∧ (∀ x ∈ l, LotV x) ∧ l.length ≤ 20) := by
  have hg : ∀ (i : Nat) (hi : i < l.length), l.getD i lt0 = l[i] := fun i hi => by simp [List.getD_eq_getElem?_getD, List.getElem?_eq_getElem hi]
  simp only [areL, Bool.and_eq_true, allTo_iff, decide_eq_true_eq]
  constructor
  · rintro ⟨h, hn⟩
    have hat : ∀ i (hi : i < l.length), LotV l[i] ∧ findF l[i].ba l 0 = (i : Int) ∧ ∀ (h0 : 0 < i), befL (l[i - 1]'(by omega)) l[i] = true := fun i hi => by
      have := h i hi
      simp only [lotOk, hg i hi, Bool.and_eq_true, decide_eq_true_eq] at this
      obtain ⟨⟨⟨⟨a1, a2⟩, a3⟩, a4⟩, a5⟩ := this
      have a3 := inB_iff.1 a3
      refine ⟨⟨a1, a2, a3.1, a3.2⟩, a4, fun h0 => ?_⟩
      rw [if_neg (by omega), hg (i - 1) (by omega)] at a5
      exact a5
    have hb : ∀ (j i : Nat) (hij : i < j) (hj : j < l.length), befL (l[i]'(by omega)) l[j] = true := by
      intro j
      induction j with
      | zero => intro i hi; omega
      | succ j ih =>
        intro i hij hj
        have h1 := (hat (j + 1) hj).2.2 (by omega)
        simp only [Nat.add_sub_cancel] at h1
        rcases Nat.lt_succ_iff_lt_or_eq.1 hij with h2 | rfl
        · exact befL_trans (ih i h2 (by omega)) h1
        · exact h1
    refine ⟨List.pairwise_iff_getElem.2 fun i j hi hj hij => ⟨hb j i hij hj, fun e => ?_⟩, fun x hx => ?_, by omega⟩
    · have h2 := (findF_is (b := l[j].ba) l 0 j l[j] (List.getElem?_eq_getElem hj) rfl).1 (by rw [(hat j hj).2.1]; simp) i hij
      rw [hg i hi, e] at h2
      exact h2 rfl
    · obtain ⟨i, hi, rfl⟩ := List.getElem_of_mem hx
      exact (hat i hi).1
  · rintro ⟨hp, hv, hn⟩
    refine ⟨fun i hi => ?_, by omega⟩
    obtain ⟨v1, v2, v3, v4⟩ := hv l[i] (List.getElem_mem hi)
    simp only [lotOk, hg i hi, Bool.and_eq_true, decide_eq_true_eq]
    refine ⟨⟨⟨⟨v1, v2⟩, inB_iff.2 ⟨v3, v4⟩⟩, ?_⟩, ?_⟩
    · have := (findF_is (b := l[i].ba) l 0 i l[i] (List.getElem?_eq_getElem hi) rfl).2 (fun k hk e => by
        rw [hg k (by omega)] at e
        exact (List.pairwise_iff_getElem.1 hp k i (by omega) hi hk).2 (ba_inj.1 e))
      rw [this]; simp
    · split
      · rfl
      · rw [hg (i - 1) (by omega)]
        exact (List.pairwise_iff_getElem.1 hp (i - 1) i (by omega) hi (by omega)).1

/-- R is made of lots of B, in their order, of each no more than there was. -/
inductive Part : List Lt → List Lt → Prop
  | nil : Part [] []
  | skip {R B x} : Part R B → Part R (x :: B)
  | keep {R B x q} : Part R B → 1 ≤ q → q ≤ x.q → Part (⟨x.ba, x.ex, q⟩ :: R) (x :: B)
theorem Part.refl : ∀ {B : List Lt}, (∀ x ∈ B, 1 ≤ x.q) → Part B B
  | [], _ => .nil
  | x :: B, h => .keep (Part.refl fun y hy => h y (List.mem_cons_of_mem _ hy)) (h x (List.mem_cons_self ..)) (Int.le_refl _)
theorem Part.mem {R B : List Lt} (h : Part R B) : ∀ y ∈ R, ∃ x ∈ B, y.ba = x.ba ∧ y.ex = x.ex ∧ 1 ≤ y.q ∧ y.q ≤ x.q := by
  induction h with
  | nil => simp
  | skip _ ih => intro y hy; obtain ⟨x, hx, h⟩ := ih y hy; exact ⟨x, List.mem_cons_of_mem _ hx, h⟩
  | @keep R B x q _ h1 h2 ih =>
    intro y hy
    rcases List.mem_cons.1 hy with rfl | hy
    · exact ⟨x, List.mem_cons_self .., rfl, rfl, h1, h2⟩
    · obtain ⟨z, hz, h⟩ := ih y hy; exact ⟨z, List.mem_cons_of_mem _ hz, h⟩
theorem Part.len {R B : List Lt} (h : Part R B) : R.length ≤ B.length := by
  induction h with
  | nil => simp
  | skip _ ih => simp; omega
  | keep _ _ _ ih => simp; omega
theorem Part.app {R B R' B' : List Lt} (h : Part R B) (k : Part R' B') : Part (R ++ R') (B ++ B') := by
  induction h with
  | nil => exact k
  | skip _ ih => exact .skip ih
  | keep _ h1 h2 ih => exact .keep ih h1 h2
theorem Part.pair {R B : List Lt} (h : Part R B) (hp : B.Pairwise KeyOk) : R.Pairwise KeyOk := by
  induction h with
  | nil => simp
  | skip _ ih => exact ih (List.pairwise_cons.1 hp).2
  | @keep R B x q hr h1 h2 ih =>
    refine List.pairwise_cons.2 ⟨fun y hy => ?_, ih (List.pairwise_cons.1 hp).2⟩
    obtain ⟨z, hz, e1, e2, _⟩ := hr.mem y hy
    have := (List.pairwise_cons.1 hp).1 z hz
    unfold KeyOk befL at *
    simp only [e1, e2]
    exact this
theorem Part.are {R B : List Lt} (h : Part R B) (hb : areL B = true) : areL R = true := by
  obtain ⟨h1, h2, h3⟩ := areL_iff.1 hb
  refine areL_iff.2 ⟨h.pair h1, fun y hy => ?_, by have := h.len; omega⟩
  obtain ⟨z, hz, e1, e2, e3, e4⟩ := h.mem y hy
  obtain ⟨v1, v2, v3, v4⟩ := h2 z hz
  exact ⟨e1 ▸ v1, e2 ▸ v2, e3, by omega⟩
theorem lay_part (day : Int) : ∀ (l : List Lt) (q : Int), 0 ≤ q → (∀ x ∈ l, 1 ≤ x.q) → Part (layR day q l) l
  | [], _, _, _ => .nil
  | x :: t, q, hq, h => by
    have hx := h x (List.mem_cons_self ..)
    have ha := amt_b day q x hq (by omega)
    have ih := lay_part day t (q - amt day q x) (by omega) (fun y hy => h y (List.mem_cons_of_mem _ hy))
    simp only [layR, lay1]
    split
    · exact .keep ih (by omega) (by omega)
    · exact .skip ih
theorem lay_free (day : Int) : ∀ (l : List Lt) (q : Int), 0 ≤ q → (∀ x ∈ l, 1 ≤ x.q) → q ≤ freeL day l → freeL day (layR day q l) = freeL day l - q
  | [], q, h0, _, h => by simp only [freeL, layR] at h ⊢; omega
  | x :: t, q, h0, hl, h => by
    have hx := hl x (List.mem_cons_self ..)
    have ht : ∀ y ∈ t, 1 ≤ y.q := fun y hy => hl y (List.mem_cons_of_mem _ hy)
    have ha := amt_b day q x h0 (by omega)
    have hf : ∀ (t : List Lt), (∀ y ∈ t, 1 ≤ y.q) → 0 ≤ freeL day t := by
      intro t ht
      induction t with
      | nil => simp [freeL]
      | cons y t ih =>
        have := ih (fun z hz => ht z (List.mem_cons_of_mem _ hz))
        have := ht y (List.mem_cons_self ..)
        simp only [freeL]
        split <;> omega
    have hft := hf t ht
    simp only [freeL] at h
    have ih := lay_free day t (q - amt day q x) (by omega) ht (by
      by_cases hd : day ≤ x.ex
      · rw [if_pos hd] at h
        unfold amt
        split
        · omega
        · rename_i hc
          have : ¬ 0 < min q x.q := fun hh => hc ⟨hd, hh⟩
          omega
      · rw [if_neg hd] at h
        have : amt day q x = 0 := by unfold amt; rw [if_neg (fun hh => hd hh.1)]
        omega)
    simp only [layR, lay1]
    by_cases hd : day ≤ x.ex
    · split
      · simp only [List.cons_append, List.nil_append, freeL, ih, if_pos hd]; omega
      · simp only [List.nil_append, ih, freeL, if_pos hd]; omega
    · have h9 : amt day q x = 0 := by unfold amt; rw [if_neg (fun hh => hd hh.1)]
      rw [h9] at ih ⊢
      rw [if_pos (by omega)]
      simp only [List.cons_append, List.nil_append, freeL, if_neg hd, ih]
      omega
theorem lay1_zero {x : Lt} (hx : 1 ≤ x.q) : lay1 x 0 = [x] := by
  unfold lay1
  rw [if_pos (by omega), Int.sub_zero]
theorem end_ (day : Int) : ∀ (l : List Lt) (q : Int), 0 ≤ q → (∀ x ∈ l, 1 ≤ x.q) → picksR day q l = [] → layR day q l = l
  | [], _, _, _, _ => rfl
  | x :: t, q, hq, hl, h => by
    have hx := hl x (List.mem_cons_self ..)
    have ha := amt_b day q x hq (by omega)
    simp only [picksR, List.append_eq_nil_iff] at h
    have h0 : amt day q x = 0 := by
      by_cases k : 0 < amt day q x
      · rw [if_pos k] at h; exact absurd h.1 (by simp)
      · omega
    rw [h0] at h
    have ih := end_ day t (q - 0) (by omega) (fun y hy => hl y (List.mem_cons_of_mem _ hy)) h.2
    simp only [layR, lay1, h0]
    rw [if_pos (by omega), ih]
    simp
theorem step_ (day : Int) : ∀ (l : List Lt) (q : Int) (pk : Nd) (rest : List Nd), 0 ≤ q → (∀ x ∈ l, 1 ≤ x.q) → picksR day q l = pk :: rest →
    ∃ (B0 : List Lt) (x : Lt) (B' : List Lt) (a : Int), l = B0 ++ x :: B' ∧ pk = ⟨x.ba, a⟩ ∧ 1 ≤ a ∧ a ≤ x.q ∧ a ≤ q ∧ rest = picksR day (q - a) B' ∧ layR day q l = B0 ++ (lay1 x a ++ layR day (q - a) B')
  | [], _, _, _, _, _, h => by simp [picksR] at h
  | x :: t, q, pk, rest, hq, hl, h => by
    have hx := hl x (List.mem_cons_self ..)
    have ha := amt_b day q x hq (by omega)
    simp only [picksR] at h
    by_cases k : 0 < amt day q x
    · rw [if_pos k] at h
      simp only [List.cons_append, List.nil_append, List.cons.injEq] at h
      exact ⟨[], x, t, amt day q x, rfl, h.1.symm, by omega, by omega, by omega, h.2.symm, rfl⟩
    · have h0 : amt day q x = 0 := by omega
      rw [h0] at h
      simp only [Int.lt_irrefl, if_false, List.nil_append] at h
      obtain ⟨B0, y, B', a, e1, e2, e3, e4, e5, e6, e7⟩ := step_ day t (q - 0) pk rest (by omega) (fun y hy => hl y (List.mem_cons_of_mem _ hy)) h
      refine ⟨x :: B0, y, B', a, by rw [e1]; rfl, e2, e3, e4, by omega, by rw [e6]; congr 1; omega, ?_⟩
      show lay1 x (amt day q x) ++ layR day (q - amt day q x) t = _
      rw [h0, e7, lay1_zero hx, show q - 0 - a = q - a by omega]
      rfl

/-- What may be taken is taken. -/
def red (day : Int) : Int → List Lt → List Lt
  | _, [] => []
  | q, x :: t => ⟨x.ba, x.ex, x.q - amt day q x⟩ :: red day (q - amt day q x) t
theorem red_pos (day : Int) : ∀ (l : List Lt) (q : Int), (red day q l).filter posL = layR day q l
  | [], _ => rfl
  | x :: t, q => by
    simp only [red, layR, lay1, List.filter_cons, posL, decide_eq_true_eq, red_pos day t]
    split <;> simp
theorem findF_at {b : ByteArray} {A B : List Lt} {x : Lt} (hA : ∀ y ∈ A, y.ba ≠ b) (hx : x.ba = b) : findF b (A ++ x :: B) 0 = (A.length : Int) := by
  have := (findF_is (b := b) (A ++ x :: B) 0 A.length x (by rw [List.getElem?_append_right (Nat.le_refl _)]; simp) (by rw [hx])).2 (fun k hk e => by
    rw [List.getD_eq_getElem?_getD, List.getElem?_append_left hk, List.getElem?_eq_getElem hk] at e
    exact hA _ (List.getElem_mem hk) (ba_inj.1 e))
  rw [this]; simp
theorem findF_none {b : ByteArray} : ∀ {l : List Lt} (n : Nat), (∀ y ∈ l, y.ba ≠ b) → findF b l n = -1
  | [], _, _ => rfl
  | y :: t, n, h => by
    simp only [findF]
    rw [if_neg (fun e => h y (List.mem_cons_self ..) (ba_inj.1 e)), findF_none (n + 1) (fun z hz => h z (List.mem_cons_of_mem _ hz))]
theorem getD_mid {A B : List Lt} {x d : Lt} : (A ++ x :: B).getD A.length d = x := by
  rw [List.getD_eq_getElem?_getD, List.getElem?_append_right (Nat.le_refl _)]
  simp
theorem set_mid {A B : List Lt} {x y : Lt} : (A ++ x :: B).set A.length y = A ++ y :: B := by
  rw [List.set_append_right _ _ (Nat.le_refl _)]
  simp
theorem take_all (day : Int) : ∀ (B A : List Lt) (q : Int), 0 ≤ q → (A ++ B).Pairwise (fun x y => x.ba ≠ y.ba) → (∀ x ∈ B, 1 ≤ x.q) → (picksR day q B).foldl takeStep (some (A ++ B)) = some (A ++ red day q B)
  | [], A, q, _, _, _ => by simp [picksR, red]
  | x :: t, A, q, hq, hp, hl => by
    have hx := hl x (List.mem_cons_self ..)
    have ha := amt_b day q x hq (by omega)
    have hA : ∀ y ∈ A, y.ba ≠ x.ba := fun y hy => (List.pairwise_append.1 hp).2.2 y hy x (List.mem_cons_self ..)
    have ih := take_all day t (A ++ [⟨x.ba, x.ex, x.q - amt day q x⟩]) (q - amt day q x) (by omega) (by
      have h1 : (A ++ x :: t).map Lt.ba = ((A ++ [(⟨x.ba, x.ex, x.q - amt day q x⟩ : Lt)]) ++ t).map Lt.ba := by simp
      have h2 : ((A ++ x :: t).map Lt.ba).Pairwise (· ≠ ·) := List.pairwise_map.2 hp
      rw [h1] at h2
      exact List.pairwise_map.1 h2) (fun y hy => hl y (List.mem_cons_of_mem _ hy))
    simp only [List.append_assoc, List.cons_append, List.nil_append] at ih
    simp only [picksR, red]
    by_cases k : 0 < amt day q x
    · rw [if_pos k]
      simp only [List.cons_append, List.nil_append, List.foldl_cons]
      have hf := findF_at (b := x.ba) (A := A) (B := t) (x := x) hA rfl
      have hs : takeStep (some (A ++ x :: t)) ⟨x.ba, amt day q x⟩ = some (A ++ ⟨x.ba, x.ex, x.q - amt day q x⟩ :: t) := by
        simp only [takeStep, hf, Int.toNat_natCast, getD_mid, set_mid]
        rw [if_neg (by omega), if_pos (inB_iff.2 ⟨by omega, by omega⟩)]
      rw [hs, ih]
    · have h0 : amt day q x = 0 := by omega
      rw [if_neg k, List.nil_append]
      have e : (⟨x.ba, x.ex, x.q - amt day q x⟩ : Lt) = x := by rw [h0, Int.sub_zero]
      rw [e] at ih ⊢
      exact ih
theorem ba_pair {l : List Lt} (h : areL l = true) : l.Pairwise (fun x y => x.ba ≠ y.ba) := (areL_iff.1 h).1.imp fun h => h.2
theorem q_pos {l : List Lt} (h : areL l = true) : ∀ x ∈ l, 1 ≤ x.q := fun x hx => ((areL_iff.1 h).2.1 x hx).2.2.1
theorem picks_len (day : Int) : ∀ (l : List Lt) (q : Int), (picksR day q l).length ≤ l.length
  | [], _ => by simp [picksR]
  | x :: t, q => by
    have := picks_len day t (q - amt day q x)
    simp only [picksR, List.length_append, List.length_cons]
    split <;> simp <;> omega
theorem take_eq {l : List Lt} (h : areL l = true) (day q : Int) (hq : 0 ≤ q) : takeF l (picksR day q l) = (layR day q l, true) := by
  have h1 := take_all day l [] q hq (by simpa using ba_pair h) (q_pos h)
  have h2 := picks_len day l q
  have h3 := areL_len h
  simp only [List.nil_append] at h1
  unfold takeF
  rw [if_pos (by simp only [h, Bool.true_and, decide_eq_true_eq]; omega)]
  have : takeTo l (picksR day q l) (picksR day q l).length = some (red day q l) := by
    unfold takeTo
    rw [List.take_length]
    exact h1
  rw [this]
  simp only [red_pos]
/-- What was taken of a lot can be put back. -/
theorem put_back {A R B : List Lt} {x : Lt} {a : Int} (h : areL (A ++ x :: B) = true) (hR : Part R B) (h1 : 1 ≤ a) (h2 : a ≤ x.q) : addF (A ++ (lay1 x a ++ R)) ⟨x.ba, x.ex, a⟩ = (A ++ x :: R, true) := by
  obtain ⟨hp, hv, hn⟩ := areL_iff.1 h
  have hqp := q_pos h
  have hpa := (List.pairwise_append.1 hp)
  have hAx : ∀ y ∈ A, KeyOk y x := fun y hy => hpa.2.2 y hy x (List.mem_cons_self ..)
  have hxB := (List.pairwise_cons.1 hpa.2.1).1
  have hA : ∀ y ∈ A, y.ba ≠ x.ba := fun y hy => (hAx y hy).2
  have hRx : ∀ y ∈ R, y.ba ≠ x.ba := fun y hy => by
    obtain ⟨z, hz, e1, _⟩ := hR.mem y hy
    rw [e1]; exact fun e => (hxB z hz).2 e.symm
  have hxv := hv x (by simp)
  have hPA : Part A A := Part.refl fun y hy => hqp y (by simp [hy])
  have ar1 : areL (A ++ (lay1 x a ++ R)) = true := by
    refine Part.are (B := A ++ x :: B) (hPA.app ?_) h
    unfold lay1
    split
    · exact .keep hR (by omega) (by omega)
    · exact .skip hR
  have ar2 : areL (A ++ x :: R) = true := Part.are (B := A ++ x :: B) (hPA.app (.keep hR (by omega) (Int.le_refl _))) h
  have ar3 : areL [⟨x.ba, x.ex, a⟩] = true := areL_iff.2 ⟨by simp, fun y hy => by obtain rfl : y = _ := (by simpa using hy); exact ⟨hxv.1, hxv.2.1, h1, by have := hxv.2.2.2; dsimp only; omega⟩, by simp⟩
  by_cases hz : 0 < x.q - a
  · have el : lay1 x a = [⟨x.ba, x.ex, x.q - a⟩] := by unfold lay1; rw [if_pos hz]
    rw [el] at ar1 ⊢
    simp only [List.cons_append, List.nil_append] at ar1 ⊢
    have hf := findF_at (b := x.ba) (A := A) (B := R) (x := ⟨x.ba, x.ex, x.q - a⟩) hA rfl
    have ho : addOut (A ++ ⟨x.ba, x.ex, x.q - a⟩ :: R) ⟨x.ba, x.ex, a⟩ = A ++ x :: R := by
      simp only [addOut, hf]
      rw [if_pos (by omega), Int.toNat_natCast, getD_mid, set_mid, show x.q - a + a = x.q by omega]
    have hpre : preAdd (A ++ ⟨x.ba, x.ex, x.q - a⟩ :: R) ⟨x.ba, x.ex, a⟩ = true := by
      simp only [preAdd, ar1, ar3, hf, Int.toNat_natCast, getD_mid]
      simp
    simp [addF, hpre, ho, ar2]
  · have hax : a = x.q := by omega
    subst hax
    have el : lay1 x x.q = [] := by unfold lay1; rw [if_neg hz]
    rw [el, List.nil_append] at ar1 ⊢
    have hf : findF x.ba (A ++ R) 0 = -1 := findF_none 0 fun y hy => by
      rcases List.mem_append.1 hy with hy | hy
      · exact hA y hy
      · exact hRx y hy
    have hfr : frontN (fun y => befL y x) (A ++ R) = A.length := by
      unfold frontN
      rw [List.takeWhile_append_of_pos (fun y hy => (hAx y hy).1), List.length_append]
      have : R.takeWhile (fun y => befL y x) = [] := by
        cases R with
        | nil => rfl
        | cons y R =>
          rw [List.takeWhile_cons, if_neg]
          obtain ⟨z, hz2, e1, e2, _⟩ := hR.mem y (List.mem_cons_self ..)
          have := befL_asymm (hxB z hz2).1
          unfold befL at this ⊢
          rw [e1, e2, this]
          simp
      rw [this]; simp
    have ho : addOut (A ++ R) x = A ++ x :: R := by
      simp only [addOut, hf]
      rw [if_neg (by omega), hfr, List.take_left, List.drop_left]
      simp
    have hpre : preAdd (A ++ R) x = true := by
      have ar3' : areL [x] = true := ar3
      simp only [preAdd, ar1, ar3', hf]
      simp
    show addF (A ++ R) x = _
    simp [addF, hpre, ho, ar2]

/-- How much of a batch is picked. -/
def sumN (p : List Nd) (b : ByteArray) : Int := (p.map fun y => if y.cd.toList = b.toList then y.q else 0).sum
theorem sumN_app (p p' : List Nd) (b : ByteArray) : sumN (p ++ p') b = sumN p b + sumN p' b := by simp [sumN]
theorem sumN_none {p : List Nd} {b : ByteArray} (h : ∀ y ∈ p, y.cd ≠ b) : sumN p b = 0 := by
  induction p with
  | nil => rfl
  | cons y p ih =>
    have h1 := ih fun z hz => h z (List.mem_cons_of_mem _ hz)
    have h2 : ¬ y.cd.toList = b.toList := fun e => h y (List.mem_cons_self ..) (ba_inj.1 e)
    simp only [sumN, List.map_cons, List.sum_cons, if_neg h2] at h1 ⊢
    omega
theorem picks_mem (day : Int) : ∀ (l : List Lt) (q : Int), ∀ y ∈ picksR day q l, ∃ x ∈ l, y.cd = x.ba
  | [], _, y, h => by simp [picksR] at h
  | x :: t, q, y, h => by
    simp only [picksR, List.mem_append] at h
    rcases h with h | h
    · split at h
      · obtain rfl : y = _ := by simpa using h
        exact ⟨x, List.mem_cons_self .., rfl⟩
      · simp at h
    · obtain ⟨z, hz, e⟩ := picks_mem day t _ y h
      exact ⟨z, List.mem_cons_of_mem _ hz, e⟩
theorem picks_q (day : Int) : ∀ (l : List Lt) (q : Int), 0 ≤ q → (∀ x ∈ l, 1 ≤ x.q) → ∀ y ∈ picksR day q l, 1 ≤ y.q ∧ y.q ≤ q
  | [], _, _, _, y, h => by simp [picksR] at h
  | x :: t, q, hq, hl, y, h => by
    have ha := amt_b day q x hq (by have := hl x (List.mem_cons_self ..); omega)
    simp only [picksR, List.mem_append] at h
    rcases h with h | h
    · split at h
      · obtain rfl : y = _ := by simpa using h
        exact ⟨by dsimp only; omega, by dsimp only; omega⟩
      · simp at h
    · have := picks_q day t _ (by omega) (fun z hz => hl z (List.mem_cons_of_mem _ hz)) y h
      omega
end Go.Proofs.Ytcphlancaahihaa
