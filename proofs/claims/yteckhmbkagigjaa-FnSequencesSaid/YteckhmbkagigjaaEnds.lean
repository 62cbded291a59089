/- Orders of tasks: when each task ends; the program's ends returns what a plain function returns; sums over an order and over the tasks. Conditions: none. -/
import Derived.Test.YteckhmbkagigjaaOrdS
import Derived.Test.YteckhmbkagigjaaTask
namespace Go.Proofs.Yteckhmbkagigjaa
open Go.RowKit Go.ChangeShapes Go.WideShapes Go.Deep
set_option linter.unusedVariables false
set_option linter.unusedSimpArgs false

def tk (l : List Tsk) (x : Int) : Tsk := l.getD x.toNat tsk0
def tm (l : List Tsk) (o : List Int) : Nat → Int
  | 0 => 0
  | i + 1 => tm l o i + (tk l (o.getD i 0)).m
def eL (l : List Tsk) (o : List Int) : Nat → List Int
  | 0 => List.replicate l.length 0
  | k + 1 => (eL l o k).set (o.getD k 0).toNat (tm l o (k + 1))
def okO (l : List Tsk) (o : List Int) : Bool := areT l && ordB o l.length
def endsF (l : List Tsk) (o : List Int) : List Int := if okO l o then eL l o o.length else []
@[simp] theorem eL_length (l : List Tsk) (o : List Int) : ∀ k, (eL l o k).length = l.length
  | 0 => by simp [eL]
  | k + 1 => by simp [eL, eL_length l o k]

theorem okO_at {l : List Tsk} {o : List Int} (h : okO l o = true) : o.length = l.length ∧ l.length ≤ 8 ∧ (∀ i, i < l.length → tskOk (l.getD i tsk0) = true) ∧ (∀ i, i < o.length → ordOk o i = true) := by
  simp only [okO, areT, ordB, Bool.and_eq_true, decide_eq_true_eq, allTo_iff] at h
  exact ⟨by omega, by omega, h.1.1, h.2.2⟩
theorem okO_in {l : List Tsk} {o : List Int} (h : okO l o = true) {i : Nat} (hi : i < o.length) : 0 ≤ o.getD i 0 ∧ o.getD i 0 < l.length ∧ (o.getD i 0).toNat < l.length := by
  obtain ⟨h1, h2, h3, h4⟩ := okO_at h
  have := h4 i hi
  simp only [ordOk, Bool.and_eq_true, inB_iff] at this
  omega
theorem tsk_at {l : List Tsk} {o : List Int} (h : okO l o = true) {i : Nat} (hi : i < l.length) : 1 ≤ (l.getD i tsk0).m ∧ (l.getD i tsk0).m ≤ 1000 ∧ 0 ≤ (l.getD i tsk0).d ∧ (l.getD i tsk0).d ≤ 100000 ∧ 1 ≤ (l.getD i tsk0).wt ∧ (l.getD i tsk0).wt ≤ 100 := by
  obtain ⟨h1, h2, h3, h4⟩ := okO_at h
  have := h3 i hi
  simp only [tskOk, Bool.and_eq_true, inB_iff] at this
  omega
theorem tm_bound {l : List Tsk} {o : List Int} (h : okO l o = true) : ∀ k, k ≤ o.length → 0 ≤ tm l o k ∧ tm l o k ≤ 1000 * k
  | 0, _ => by simp [tm]
  | k + 1, hk => by
    have h1 := tm_bound h k (by omega)
    have h2 := tsk_at h (okO_in h (i := k) (by omega)).2.2
    simp only [tm, tk]
    omega
theorem eL_bound {l : List Tsk} {o : List Int} (h : okO l o = true) : ∀ k, k ≤ o.length → ∀ j, 0 ≤ (eL l o k).getD j 0 ∧ (eL l o k).getD j 0 ≤ 8000
  | 0, _, j => by
    simp only [eL, List.getD_eq_getElem?_getD, List.getElem?_replicate]
    split <;> simp
  | k + 1, hk, j => by
    have h1 := eL_bound h k (by omega) j
    have h2 := tm_bound h (k + 1) hk
    have h3 := okO_at h
    simp only [eL, List.getD_eq_getElem?_getD, List.getElem?_set] at h1 ⊢
    split
    · split
      · simp; omega
      · simp
    · exact h1
theorem eL_at {l : List Tsk} {o : List Int} (h : okO l o = true) {i : Nat} : ∀ k, k ≤ o.length → i < k → (eL l o k).getD (o.getD i 0).toNat 0 = tm l o (i + 1)
  | 0, _, hi => by omega
  | k + 1, hk, hi => by
    have h3 := okO_at h
    have h4 := okO_in h (i := i) (by omega)
    have h5 := okO_in h (i := k) (by omega)
    simp only [eL, List.getD_eq_getElem?_getD, List.getElem?_set]
    rcases Nat.lt_succ_iff_lt_or_eq.1 hi with h1 | rfl
    · have h6 := eL_at h k (by omega) h1
      rw [if_neg]
      · simpa [List.getD_eq_getElem?_getD] using h6
      intro he
      have h7 := h3.2.2.2 k (by omega)
      simp only [ordOk, Bool.and_eq_true, Bool.not_eq_true', List.contains_eq_mem, decide_eq_false_iff_not] at h7
      refine h7.2 (mem_take.2 ⟨i, h1, ?_⟩)
      have h8 : o[i]? = some (o.getD i 0) := by simp [List.getD_eq_getElem?_getD, List.getElem?_eq_getElem (show i < o.length by omega)]
      rw [h8]
      simp only [List.getD_eq_getElem?_getD] at *
      congr 1
      omega
    · rw [if_pos rfl, if_pos (by simpa [List.getD_eq_getElem?_getD] using h4.2.2)]
      rfl

theorem perm_range : ∀ (n : Nat) (o : List Nat), o.Nodup → (∀ x ∈ o, x < n) → o.length = n → o.Perm (List.range n)
  | 0, o, _, _, hl => by rw [List.eq_nil_of_length_eq_zero hl]; exact List.Perm.refl _
  | n + 1, o, hd, hx, hl => by
    by_cases hn : n ∈ o
    · have hp := List.perm_cons_erase hn
      have hd2 := hp.nodup_iff.1 hd
      rw [List.nodup_cons] at hd2
      have h1 := perm_range n (o.erase n) hd2.2 (fun x hxe => by
        have h2 := hx x (List.mem_of_mem_erase hxe)
        rcases Nat.lt_succ_iff_lt_or_eq.1 h2 with h3 | rfl
        · exact h3
        · exact absurd hxe hd2.1) (by have := hp.length_eq; simp at this; omega)
      rw [List.range_succ]
      exact (hp.trans (h1.cons n)).trans (List.perm_append_singleton n (List.range n)).symm
    · match o, hd, hx, hl, hn with
      | a :: o', hd, hx, hl, hn =>
        rw [List.nodup_cons] at hd
        have hlt : ∀ x ∈ a :: o', x < n := fun x hxe => by
          rcases Nat.lt_succ_iff_lt_or_eq.1 (hx x hxe) with h3 | rfl
          · exact h3
          · exact absurd hxe hn
        have h1 := perm_range n o' hd.2 (fun x h => hlt x (List.mem_cons_of_mem _ h)) (by simpa using hl)
        exact absurd (h1.mem_iff.2 (List.mem_range.2 (hlt a (by simp)))) hd.1

def goT (op : Int → Int → Int) (z : Int) (f : Nat → Int) : Nat → Int
  | 0 => z
  | k + 1 => op (goT op z f k) (f k)
theorem goT_fold (op : Int → Int → Int) (z : Int) (f : Nat → Int) : ∀ k, goT op z f k = (List.range k).foldl (fun a i => op a (f i)) z
  | 0 => rfl
  | k + 1 => by rw [List.range_succ, List.foldl_append, ← goT_fold op z f k]; rfl
theorem goT_congr {op : Int → Int → Int} {z : Int} {f g : Nat → Int} : ∀ k, (∀ i, i < k → f i = g i) → goT op z f k = goT op z g k
  | 0, _ => rfl
  | k + 1, h => by rw [goT, goT, goT_congr k (fun i hi => h i (by omega)), h k (by omega)]
theorem map_range (o : List Int) : (List.range o.length).map (fun i => (o.getD i 0).toNat) = o.map Int.toNat := by
  apply List.ext_getElem
  · simp
  intro i h1 h2
  simp at h1
  simp [List.getD_eq_getElem?_getD, List.getElem?_eq_getElem h1]
theorem ord_nodup {o : List Int} {n : Nat} (hn : o.length = n) (h : ∀ i, i < o.length → ordOk o i = true) : (o.map Int.toNat).Perm (List.range n) := by
  have hin : ∀ x ∈ o, 0 ≤ x ∧ x < n := fun x hx => by
    obtain ⟨i, hi, rfl⟩ := List.mem_iff_getElem.1 hx
    have := h i hi
    simp only [ordOk, Bool.and_eq_true, inB_iff, List.getD_eq_getElem?_getD, List.getElem?_eq_getElem hi, Option.getD_some] at this
    omega
  refine perm_range n _ ?_ ?_ (by simpa using hn)
  · unfold List.Nodup
    rw [List.pairwise_iff_getElem]
    intro i j hi hj hij he
    simp only [List.length_map] at hi hj
    simp only [List.getElem_map] at he
    have h1 := h j hj
    simp only [ordOk, Bool.and_eq_true, Bool.not_eq_true', List.contains_eq_mem, decide_eq_false_iff_not, List.getD_eq_getElem?_getD, List.getElem?_eq_getElem hj, Option.getD_some] at h1
    refine h1.2 (mem_take.2 ⟨i, hij, ?_⟩)
    rw [List.getElem?_eq_getElem hi]
    have h2 := hin _ (List.getElem_mem hi)
    have h3 := hin _ (List.getElem_mem hj)
    congr 1
    omega
  · intro x hx
    obtain ⟨y, hy, rfl⟩ := List.mem_map.1 hx
    have := hin y hy
    omega
theorem goT_perm {op : Int → Int → Int} (hop : ∀ a b c, op (op a b) c = op (op a c) b) (z : Int) (f : Nat → Int) {o : List Int} {n : Nat} (hn : o.length = n) (h : ∀ i, i < o.length → ordOk o i = true) :
    goT op z (fun i => f (o.getD i 0).toNat) o.length = goT op z f n := by
  rw [goT_fold, goT_fold]
  have h1 : (List.range o.length).foldl (fun a i => op a (f (o.getD i 0).toNat)) z = ((List.range o.length).map (fun i => (o.getD i 0).toNat)).foldl (fun a i => op a (f i)) z := by rw [List.foldl_map]
  rw [h1, map_range]
  exact (ord_nodup hn h).foldl_eq' (fun x _ y _ z => hop _ _ _) z

theorem flat_int (l : List Int) : flat IntS.E l = l.map (Value.int .i64) := by
  induction l with
  | nil => rfl
  | cons x l ih => simp [flat, IntS.E] at ih ⊢; exact ih

theorem eL_zero (l : List Tsk) (o : List Int) : flat IntS.E (eL l o 0) = (madeCells (Value.cells (.int .i64 0)) (l.length * 1)).toList := by
  rw [flat_int]
  apply List.ext_getElem?
  intro i
  by_cases h : i < l.length
  · simp [eL, madeCells, Value.cells, h, List.getElem?_range, Nat.mod_one]
  · simp [eL, madeCells, h]

set_option maxHeartbeats 2000000 in
theorem ends_impl (l : List Tsk) (A : Option Addr) (c : Nat) (o : List IntS) (B : Option Addr) (d : Nat) (w : World) (h : Rd Tsk.E w A l) (hn : l.length ≤ 4194304) (h' : Rd IntS.E w B o) (hm : o.length ≤ 4194304) :
    Calls Try.prog 43 #[.slice A l.length c, .slice B o.length d] w fun e w' => ∃ C c', e = .returned (.tuple #[.slice C (endsF l o).length c', .bool (okO l o)]) ∧ Rd IntS.E w' C (endsF l o) ∧ Grew w w' := by
  cases hok : okO l o
  · have HF := Lib.hid (show endsF l o = [] by simp [endsF, hok])
    cases ha : areT l
    · go_enter Try.func43, Try.ntmps43
      go_wp2_with fail
      refine (areTasks_impl l _ _ _ h hn).mono ?_; rintro e w1 ⟨rfl, h1⟩
      go_wp2_with fail
      go_ret2
      go_light
      exact ⟨none, 0, by rw [HF.out]; rfl, by rw [HF.out]; exact Rd.nil, h1⟩
    · have hb : ordB o l.length = false := by simpa [okO, ha] using hok
      go_enter Try.func43, Try.ntmps43
      go_wp2_with fail
      refine (areTasks_impl l _ _ _ h hn).mono ?_; rintro e w1 ⟨rfl, h1⟩
      go_wp2_with fail
      refine (isOrder_impl o _ _ _ _ (h'.grew h1) hm).mono ?_; rintro e w2 ⟨rfl, h2⟩
      go_wp2_with fail
      go_ret2
      go_light
      exact ⟨none, 0, by rw [HF.out]; rfl, by rw [HF.out]; exact Rd.nil, h1.trans h2⟩
  have HF := Lib.hid (show endsF l o = eL l o o.length by simp [endsF, hok])
  have HOK := Lib.hid hok
  obtain ⟨hol0, hl8, -, -⟩ := okO_at hok
  have HOL := Lib.hid hol0
  clear hol0
  have ha : areT l = true := by simp only [okO, Bool.and_eq_true] at hok; exact hok.1
  have hb : ordB o l.length = true := by simp only [okO, Bool.and_eq_true] at hok; exact hok.2
  clear hok
  go_enter Try.func43, Try.ntmps43
  go_wp2_with fail
  refine (areTasks_impl l _ _ _ h hn).mono ?_; rintro e w1 ⟨rfl, h1⟩
  go_wp2_with fail
  refine (isOrder_impl o _ _ _ _ (h'.grew h1) hm).mono ?_; rintro e w2 ⟨rfl, h2⟩
  have hnl : ¬ (l.length : Int) < 0 := by omega
  obtain ⟨i0, hi0, hz0, hz1, hz2⟩ := info_parts info_int
  go_wp2_with (at_make; refine wpList_make_full _ rfl _ _ _ rfl w2.heap.size 3 i0 _ 1 Try.underlying22 hi0 hz0 hz1 _ _ _ _ l.length rfl rfl rfl rfl (by rw [hz2]; omega) (by simp only [maxLen]; omega) (Nat.le_refl _) ?_; intro w3 hown3 hgr3)
  have hg3 : Grew w2 w3 := (Grew.refl w2).grown hgr3 (by simp)
  have H := Lib.hid (h.grew (h1.trans h2))
  have H' := Lib.hid (h'.grew (h1.trans h2))
  have H12 := Lib.hid (h1.trans h2)
  clear h h' h1 h2
  go_loopw [7, 25] (fun t i wr => ∃ k : Nat, k ≤ o.length ∧ i = .int .i64 k ∧ t = .int .i64 (tm l o k) ∧ Grew w2 wr ∧ wr.ownsRow w2.heap.size 3 1 (.slice (some ⟨w2.heap.size, 0, none⟩) l.length l.length) l.length (flat IntS.E (eL l o k))) (fun _ i _ => o.length - (intOf i).toNat)
  case atStart => exact ⟨0, Nat.zero_le _, rfl, rfl, hg3, by rw [eL_zero]; exact hown3⟩
  case round =>
    obtain ⟨k, hk, rfl, rfl, hg, hown⟩ := hrel
    have HG := Lib.hid hg
    have HO := Lib.hid hown
    clear hown3 hgr3 hg3 hown hi0 hz0 hz1 hz2
    by_cases hlt : k < o.length
    · obtain ⟨x, hx⟩ : ∃ x, o[k]? = some x := ⟨_, List.getElem?_eq_getElem hlt⟩
      obtain ⟨b, p, rfl, hb0, hc⟩ := (H'.out.grew hg).at_ hlt
      have hc0 := IntS.at_ hc hx
      have hol := HOL.out
      have hgd : o.getD k 0 = x := by simp [List.getD_eq_getElem?_getD, hx]
      obtain ⟨hx0, hx1, hx2⟩ := okO_in HOK.out hlt
      rw [hgd] at hx0 hx1 hx2
      obtain ⟨m, rfl⟩ := Int.eq_ofNat_of_zero_le hx0
      have hml : m < l.length := by omega
      obtain ⟨y, hy⟩ : ∃ y, l[m]? = some y := ⟨_, List.getElem?_eq_getElem hml⟩
      obtain ⟨b', p', rfl, hb1, hd⟩ := (H.out.grew hg).at_ hml
      obtain ⟨hd0, hd1, hd2⟩ := Tsk.at_ hd hy
      have hyd : l.getD m tsk0 = y := by simp [List.getD_eq_getElem?_getD, hy]
      have hyb := tsk_at HOK.out hml
      rw [hyd] at hyb
      have hyb1 := hyb.1
      have hyb2 := hyb.2.1
      have HT := Lib.hid (show tm l o (k + 1) = tm l o k + y.m by simp only [tm, tk, hgd]; rw [Int.toNat_natCast, hyd])
      have htb := tm_bound HOK.out k hk
      have HE := Lib.hid (show flat IntS.E (eL l o (k + 1)) = (flat IntS.E (eL l o k)).set m (.int .i64 (tm l o k + y.m)) by
        rw [flat_int, flat_int, ← List.map_set, ← HT.out]; simp only [eL, hgd]; rfl)
      have hf2 : ∀ j, wr.frozen? ⟨w2.heap.size, j, none⟩ = false := fun j => HO.out.frozenAt j
      obtain ⟨u0, hu0⟩ : ∃ u, wr.cell? ⟨w2.heap.size, m, none⟩ = some u := by
        have h3 := HO.out.cellAt m (by omega)
        rw [h3]
        exact ⟨_, List.getElem?_eq_getElem (by rw [flat_length]; simp [IntS.E]; omega)⟩
      have htb1 := htb.1
      have htb2 : tm l o k ≤ 8000 := by omega
      clear hol htb hyb hx hy hc hd hg hgd hyd
      generalize tm l o k = tk at *
      go_wp2_with fail
      go_roundw
      case rel =>
        go_light
        refine ⟨k + 1, by omega, by go_num, by rw [HT.out], HG.out.setCell (by simp) _, ?_⟩
        have h5 := (HO.out.stored m (.int .i64 (tk + y.m))).1
        rwa [← HE.out] at h5
      case measure => go_light; simp [intOf]; omega
    · obtain rfl : k = o.length := by omega
      go_wp2_with fail
      go_ret2
      go_light
      refine ⟨some ⟨w2.heap.size, 0, none⟩, l.length, by rw [HF.out, eL_length]; rfl, ?_, H12.out.trans HG.out⟩
      rw [HF.out]
      have : Own IntS.E 3 wr w2.heap.size (.slice (some ⟨w2.heap.size, 0, none⟩) l.length l.length) (eL l o o.length) := by
        unfold Own
        rw [eL_length]
        exact HO.out
      exact this.rd
end Go.Proofs.Yteckhmbkagigjaa
