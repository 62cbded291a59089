/- The best order takes no more minutes than any other order. Conditions: none. -/
import Derived.Test.YtfplgagdjdhopaaBstP
import Derived.Test.YtfplgagdjdhopaaIdxs
namespace Go.Proofs.Ytfplgagdjdhopaa
open Go.RowKit Go.ChangeShapes Go.WideShapes Go.Deep
set_option linter.unusedVariables false
set_option linter.unusedSimpArgs false

theorem Lf.start (n : Nat) : Lf n [] (2 ^ n - 1) := ⟨fun k => by rw [Nat.testBit_two_pow_sub_one]; simp, by simp, by simp⟩
theorem Lf.full {n : Nat} {o : List Int} (hn : o.Nodup) (hl : o.length = n) (hr : ∀ x ∈ o, 0 ≤ x ∧ x < (n : Int)) : Lf n o 0 := by
  refine ⟨fun k => ?_, hn, hr⟩
  rw [Nat.zero_testBit]
  by_cases hk : k < n
  · by_cases hm : (k : Int) ∈ o
    · simp [hk, hm]
    · exfalso
      have h2 := nodup_len (l := (k : Int) :: o) (m := idxs n) (List.nodup_cons.2 ⟨hm, hn⟩) (fun x hx => by
        rw [idxs_mem]
        rcases List.mem_cons.1 hx with rfl | hx
        · exact ⟨k, hk, rfl⟩
        · have := hr x hx
          exact ⟨x.toNat, by omega, by omega⟩)
      rw [List.length_cons, idxs_len] at h2
      omega
  · simp [hk]
theorem Lf.perm {n : Nat} {o : List Int} (h : o.Perm (idxs n)) : Lf n o 0 ∧ o.length = n := by
  have hl : o.length = n := by rw [h.length_eq, idxs_len]
  refine ⟨Lf.full (h.nodup_iff.2 (idxs_nodup n)) hl (fun x hx => ?_), hl⟩
  obtain ⟨k, hk, rfl⟩ := idxs_mem.1 (h.mem_iff.1 hx)
  omega
theorem pth_ok {L : List (List Int)} {n : Nat} (hs : setB L = true) (hL : L.length = n + 1) : ∀ (f : Nat) (b : List Int) (l a : Nat), b.length + f = n → Lf n b l → fr L b b.length = (a : Int) → a ≤ n →
    Lf n (b ++ pth L n f a l) 0 ∧ (b ++ pth L n f a l).length = n ∧ sm L (b ++ pth L n f a l) (b ++ pth L n f a l).length = sm L b b.length + dD L n a l
  | 0, b, l, a, hf, hl, ha, han => by
    obtain ⟨rfl, _⟩ := hl.done (by omega)
    simp only [pth, List.append_nil, dD_zero, Int.add_zero]
    exact ⟨hl, by omega, trivial⟩
  | f + 1, b, l, a, hf, hl, ha, han => by
    have hl0 : 0 < l := hl.more (by omega)
    have hg : ∀ j, l.testBit j = true → 0 ≤ gD L n a l j := fun j hj => by
      have h1 := (cell_ok hs hL han (hl.lt hj).1).1
      have h2 := dD_ok hs hL (l - 2 ^ j) (l - 2 ^ j) j (Nat.le_refl _) (fun k hk => (hl.lt (by rw [tb_sub hj] at hk; simp at hk; exact hk.1)).1) (by have := (hl.lt hj).1; omega)
      unfold gD
      omega
    obtain ⟨_, h2, h3⟩ := fm_ok hg n
    obtain ⟨k, hk⟩ := bit_ex hl0
    have hm : ¬ fm l.testBit (gD L n a l) n < 0 := fun hm => by rw [h2 hm k (hl.lt hk).1] at hk; cases hk
    obtain ⟨a1, a2, a3, _, _⟩ := h3 (by omega)
    have hd := dD_eq L n a hl0
    simp only [pth]
    rw [if_neg (by omega : ¬ l = 0)]
    generalize ag l.testBit (gD L n a l) n = q at *
    have ih := pth_ok hs hL f (b ++ [(q : Int)]) (l - 2 ^ q) q (by simp; omega) (hl.step a2) (by simp only [List.length_append, List.length_cons, List.length_nil, Nat.zero_add]; exact fr_snoc L b q) (by omega)
    have e1 : sm L (b ++ [(q : Int)]) (b ++ [(q : Int)]).length = sm L b b.length + cellF L a q := by
      simp only [List.length_append, List.length_cons, List.length_nil, Nat.zero_add]
      rw [sm_snoc, ha]
    have e2 : b ++ (q : Int) :: pth L n f q (l - 2 ^ q) = b ++ [(q : Int)] ++ pth L n f q (l - 2 ^ q) := by simp
    rw [e2]
    refine ⟨ih.1, ih.2.1, ?_⟩
    rw [ih.2.2, e1, hd, ← a3]
    unfold gD
    omega
theorem setupF_ok {L : List (List Int)} {n : Nat} (hs : setB L = true) (hL : L.length = n + 1) {o : List Int} (h : Lf n o 0) (hl : o.length = n) : setupF L o = (sm L o o.length, true) := by
  have : okS L o = true := by
    simp only [okS, hs, Bool.true_and]
    rw [show (L.length : Int) - 1 = (n : Int) by omega]
    exact (h.done hl).2
  simp [setupF, this]
theorem setups_ok {L : List (List Int)} {n : Nat} (hs : setB L = true) (hL : L.length = n + 1) :
    ∃ (o near : List Int) (m y : Int), bestF L = (o, m, true) ∧ nearF L = (near, true) ∧ setupF L o = (m, true) ∧ setupF L near = (y, true) ∧ m ≤ y ∧ o.length = n ∧ near.length = n ∧ ∀ x : List Int, x.Perm (idxs n) → ∃ z, setupF L x = (z, true) ∧ m ≤ z := by
  have hfr : fr L [] ([] : List Int).length = (n : Int) := by simp only [List.length_nil, fr]; omega
  have hp := pth_ok hs hL n [] (2 ^ n - 1) n (by simp) (Lf.start n) hfr (Nat.le_refl _)
  simp only [List.nil_append, List.length_nil, sm, Int.zero_add] at hp
  have hle : ∀ x : List Int, Lf n x 0 → dD L n n (2 ^ n - 1) ≤ sm L x x.length := fun x hx => by
    have := best_least hs hL n [] x (2 ^ n - 1) n (by simp) (Lf.start n) hfr (Nat.le_refl _) (by simpa using hx)
    simpa [sm] using this
  have hk := near_ok L n n (Nat.le_refl _)
  have hnl : Lf n (nearTo L n n).1 0 := Lf.full hk.nd hk.len hk.rng
  refine ⟨pth L n n n (2 ^ n - 1), (nearTo L n n).1, dD L n n (2 ^ n - 1), sm L (nearTo L n n).1 (nearTo L n n).1.length, best_eq hs hL, by simp [nearF, hs, hL], ?_, setupF_ok hs hL hnl hk.len, hle _ hnl, hp.2.1, hk.len, fun x hx => ?_⟩
  · rw [setupF_ok hs hL hp.1 hp.2.1, hp.2.2]
  · obtain ⟨h1, h2⟩ := Lf.perm hx
    exact ⟨_, setupF_ok hs hL h1 h2, hle x h1⟩
end Go.Proofs.Ytfplgagdjdhopaa
