/- The law on buying: the best purchase costs no more than any other that is large enough. Conditions: none. -/
import Derived.Test.YtlaiemjeoceehaaDrawB
import Derived.Test.YtlaiemjeoceehaaBrkH
namespace Go.Proofs.Ytlaiemjeoceehaa
open Go.ChangeShapes Go.WideShapes Go.ChangeAt Go.RowKit Go.Joins Go.Deep
set_option linter.unusedVariables false
set_option linter.unusedSimpArgs false

theorem areB_f1 {l : List Brk} (h : areB l = true) : 0 < l.length ∧ (l.getD 0 brk0).f = 1 := ⟨by have := areB_len h; omega, areB_first h⟩
/-- The last break that begins at or below m. -/
theorem last_break {l : List Brk} (h : areB l = true) {m : Int} (hm : 1 ≤ m) : ∀ n, 0 < n → n ≤ l.length → ∃ k, k < n ∧ (l.getD k brk0).f ≤ m ∧ priceTo l m n = (l.getD k brk0).p ∧ ∀ j, k < j → j < n → m < (l.getD j brk0).f
  | 0, h0, _ => by omega
  | 1, _, _ => ⟨0, by omega, by rw [(areB_f1 h).2]; exact hm, by simp only [priceTo]; rw [if_pos (by rw [(areB_f1 h).2]; exact hm)], fun j h1 h2 => by omega⟩
  | n + 2, _, hn => by
    obtain ⟨k, hk, h1, h2, h3⟩ := last_break h hm (n + 1) (by omega) (by omega)
    by_cases hf : (l.getD (n + 1) brk0).f ≤ m
    · exact ⟨n + 1, by omega, hf, by rw [priceTo, if_pos hf], fun j h4 h5 => by omega⟩
    · refine ⟨k, by omega, h1, by rw [priceTo, if_neg hf, h2], fun j h4 h5 => ?_⟩
      rcases Nat.lt_succ_iff_lt_or_eq.1 h5 with h6 | rfl
      · exact h3 j h4 h6
      · omega
theorem costF_eq {l : List Brk} (h : areB l = true) {m : Int} (h1 : 1 ≤ m) (h2 : m ≤ 100000) : costF l m = (m * priceTo l m l.length, true) := by
  have hp := priceTo_bound h m l.length (Nat.le_refl _)
  have hm := mul_bound (a := m) (b := priceTo l m l.length) (by omega) h2 (by omega) (by omega)
  have hq : inB m 1 100000 = true := inB_iff.2 ⟨h1, h2⟩
  simp only [costF, priceF, h, hq, Bool.and_self, if_true]
  rw [Int.mul_comm, wrap_small hm]
structure BestInv (l : List Brk) (q : Int) (k : Nat) (b c : Int) : Prop where
  lo : q ≤ b
  hi : b ≤ 100000
  cost : (costF l b).1 = c
  first : c ≤ (costF l q).1
  tie : c = (costF l q).1 → b ≤ q
  le : ∀ i, i < k → q < (l.getD i brk0).f → c ≤ (l.getD i brk0).f * (l.getD i brk0).p
  eq : ∀ i, i < k → q < (l.getD i brk0).f → c = (l.getD i brk0).f * (l.getD i brk0).p → b ≤ (l.getD i brk0).f
theorem best_inv {l : List Brk} {q : Int} (h : areB l = true) (h1 : 1 ≤ q) (h2 : q ≤ 100000) : ∀ k, k ≤ l.length → BestInv l q k (bestTo l q k).1 (bestTo l q k).2
  | 0, _ => ⟨Int.le_refl _, h2, rfl, Int.le_refl _, fun _ => Int.le_refl _, fun i hi => by omega, fun i hi => by omega⟩
  | k + 1, hk => by
    have ih := best_inv h h1 h2 k (by omega)
    have hb := areB_at h (k := k) (by omega)
    simp only [bestTo]
    split
    · rename_i hc
      refine ⟨by simp only; omega, by simp only; omega, cost_at h (by omega), by have := ih.first; simp only; omega, fun e => by have := ih.first; simp only at e ⊢; omega, fun i hi hq => ?_, fun i hi hq e => ?_⟩
      · rcases Nat.lt_succ_iff_lt_or_eq.1 hi with h3 | rfl
        · have := ih.le i h3 hq; simp only; omega
        · exact Int.le_refl _
      · rcases Nat.lt_succ_iff_lt_or_eq.1 hi with h3 | rfl
        · have := ih.le i h3 hq; simp only at e ⊢; omega
        · exact Int.le_refl _
    · rename_i hc
      refine ⟨ih.lo, ih.hi, ih.cost, ih.first, ih.tie, fun i hi hq => ?_, fun i hi hq e => ?_⟩
      · rcases Nat.lt_succ_iff_lt_or_eq.1 hi with h3 | rfl
        · exact ih.le i h3 hq
        · omega
      · rcases Nat.lt_succ_iff_lt_or_eq.1 hi with h3 | rfl
        · exact ih.eq i h3 hq e
        · have := areB_asc h
          have hle : ∀ k', k' ≤ i → (bestTo l q k').1 ≤ max q (l.getD i brk0).f := by
            intro k'
            induction k' with
            | zero => intro _; simp only [bestTo]; omega
            | succ k' ih2 =>
              intro hk'
              have h5 := ih2 (by omega)
              simp only [bestTo]
              split
              · have h6 := areB_asc h i k' (by omega) (by omega)
                simp only; omega
              · exact h5
          have := hle i (Nat.le_refl _)
          omega
theorem best_all {l : List Brk} {q : Int} (h : areB l = true) (h1 : 1 ≤ q) (h2 : q ≤ 100000) {m : Int} (hm1 : q ≤ m) (hm2 : m ≤ 100000) :
    (bestTo l q l.length).2 ≤ (costF l m).1 ∧ ((costF l m).1 = (bestTo l q l.length).2 → (bestTo l q l.length).1 ≤ m) := by
  have I := best_inv h h1 h2 l.length (Nat.le_refl _)
  obtain ⟨k, hk, hf, hp, hlater⟩ := last_break h (m := m) (by omega) l.length (areB_f1 h).1 (Nat.le_refl _)
  have hb := areB_at h hk
  rw [costF_eq h (by omega) hm2, hp]
  simp only
  by_cases hq : (l.getD k brk0).f ≤ q
  · have hpq : priceTo l q l.length = (l.getD k brk0).p := by
      obtain ⟨k', hk', hf', hp', hlater'⟩ := last_break h (m := q) h1 l.length (areB_f1 h).1 (Nat.le_refl _)
      rw [hp']
      rcases Nat.lt_trichotomy k k' with h3 | h3 | h3
      · have := hlater k' h3 hk'; omega
      · rw [h3]
      · have := hlater' k h3 hk; omega
    have e := costF_eq h h1 h2
    rw [hpq] at e
    have hmono : q * (l.getD k brk0).p ≤ m * (l.getD k brk0).p := Int.mul_le_mul_of_nonneg_right hm1 (by omega)
    have hf1 := I.first
    have ht := I.tie
    rw [e] at hf1 ht
    simp only at hf1 ht
    refine ⟨by omega, fun e2 => ?_⟩
    have := ht (by omega)
    omega
  · have hmono : (l.getD k brk0).f * (l.getD k brk0).p ≤ m * (l.getD k brk0).p := Int.mul_le_mul_of_nonneg_right hf (by omega)
    have hl := I.le k hk (by omega)
    refine ⟨by omega, fun e2 => ?_⟩
    have := I.eq k hk (by omega) (by omega)
    omega

theorem big_any (l : List UInt8) (A : Option Addr) (c : Nat) (w : World) (hl : l.length ≤ maxLen) :
    Calls Try.prog 21 #[.slice A l.length c] w fun e w' => e = .returned (.bool (decide ((1048576 : Int) < l.length))) ∧ w = w' := by
  unfold maxLen at hl
  go_enter Try.func21, Try.ntmps21
  go_wp2_with fail
  go_ret
  go_light
  exact ⟨rfl, rfl⟩

namespace fnBuying
set_option maxHeartbeats 1000000 in
theorem walk (w : World) (code : List UInt8) (A : Option Addr) (c : Nat) (r_code : Rd Byt.E w A code) (q_code : code.length ≤ c ∧ c ≤ maxLen) :
    Calls Try.prog 7 #[.slice A code.length c] w fun e w' => e = .returned (.bool true) ∧ Grew w w' := by
  have hql := q_code
  by_cases hbig : (1048576 : Int) < (code.length : Int)
  · have hb : decide ((1048576 : Int) < (code.length : Int)) = true := by simpa using hbig
    go_enter Try.func7, Try.ntmps7
    go_wp2_with fail
    refine (big_any code _ _ _ (by omega)).mono ?_; rintro e w0 ⟨rfl, rfl⟩
    go_wp2_with fail
    go_ret
    go_light
    exact ⟨rfl, Grew.refl _⟩
  have hb : decide ((1048576 : Int) < (code.length : Int)) = false := by simpa using hbig
  have HR := Lib.hid r_code
  clear r_code
  go_enter Try.func7, Try.ntmps7
  go_wp2_with fail
  refine (big_any code _ _ _ (by omega)).mono ?_; rintro e w0 ⟨rfl, rfl⟩
  go_wp2_with fail
  refine (drawBestBuy_any _ _ _ code HR.out (by omega)).mono ?_; rintro e w1 ⟨l, B, d, q, rfl, hl, hr, hq0, hq1, hg⟩
  have HL := Lib.hid hr
  have HG := Lib.hid hg
  clear hr hg
  go_wp2_with fail
  refine (bestBuy_impl l _ _ q _ HL.out (by omega)).mono ?_; rintro e w2 ⟨rfl, h2⟩
  have HG2 := Lib.hid (HG.out.trans h2)
  have HL2 := Lib.hid (HL.out.grew h2)
  clear h2
  go_wp2_with fail
  refine (bestBuy_spec l _ _ q _ HL2.out (by omega)).mono ?_; rintro e w3 ⟨rfl, h3⟩
  have HG3 := Lib.hid (HG2.out.trans h3)
  have HL3 := Lib.hid (HL2.out.grew h3)
  clear h3
  cases ho : (costF l q).2
  · have hbf : bestF l q = (0, 0, false) := by simp [bestF, ho]
    rw [hbf]
    clear hbf ho
    go_wp2_with fail
    go_ret
    go_light
    exact ⟨rfl, HG3.out⟩
  obtain ⟨ha, hq2, hq3⟩ := cost_ok ho
  have hbf : bestF l q = ((bestTo l q l.length).1, (bestTo l q l.length).2, true) := by simp [bestF, ho]
  have HALL := Lib.hid (fun m => best_all ha hq2 hq3 (m := m))
  have I := best_inv ha hq2 hq3 l.length (Nat.le_refl _)
  rw [hbf]
  generalize bestTo l q l.length = r at *
  obtain ⟨n, cost⟩ := r
  have hn1 := I.lo
  have hn2 := I.hi
  have hcc := I.cost
  simp only at hn1 hn2 hcc HALL
  have hce := costF_eq ha (m := n) (by omega) hn2
  have hpe : priceF l n = (priceTo l n l.length, true) := by
    have hq : inB n 1 100000 = true := inB_iff.2 ⟨by omega, hn2⟩
    simp [priceF, ha, hq]
  have hpb := priceTo_bound ha n l.length (Nat.le_refl _)
  have HCE := Lib.hid (show costF l n = (cost, true) by rw [hce] at hcc ⊢; simp only at hcc; rw [hcc])
  have HCM := Lib.hid (show n * priceTo l n l.length = cost by rw [hce] at hcc; simpa using hcc)
  have hcb := mul_bound (a := n) (b := priceTo l n l.length) (by omega) hn2 hpb.1 hpb.2
  have HPE := Lib.hid hpe
  have HA := Lib.hid ha
  clear hbf ho I hcc hce hpe ha
  go_wp2_with fail
  refine (buyCost_impl l _ _ n _ HL3.out (by omega)).mono ?_; rintro e w4 ⟨rfl, h4⟩
  rw [HCE.out]
  have HG4 := Lib.hid (HG3.out.trans h4)
  have HL4 := Lib.hid (HL3.out.grew h4)
  clear h4
  go_wp2_with fail
  refine (priceFor_impl l _ _ n _ HL4.out (by omega)).mono ?_; rintro e w5 ⟨rfl, h5⟩
  rw [HPE.out]
  have HG5 := Lib.hid (HG4.out.trans h5)
  have HL5 := Lib.hid (HL4.out.grew h5)
  clear h5
  obtain ⟨P, hP⟩ : ∃ P, P = priceTo l n l.length := ⟨_, rfl⟩
  rw [← hP] at hcb HCM hpb ⊢
  have HPP := Lib.hid hP
  clear hP
  have hcm := HCM.out
  have hcb0 : 0 ≤ n * P := hcb.1
  have hcb1 : n * P ≤ 1000000000 := hcb.2
  have hne : (cost != n * P) = false := by simp [hcm]
  clear hcm
  go_wp2_with fail
  go_loopw [15] (fun i wr => ∃ m : Int, q ≤ m ∧ m ≤ 100001 ∧ i = .int .i64 m ∧ Grew w5 wr) (fun i _ => (100001 - intOf i).toNat)
  case atStart => exact ⟨q, Int.le_refl _, by omega, rfl, Grew.refl _⟩
  case round =>
    obtain ⟨m, hm1, hm2, rfl, hg⟩ := hrel
    have HGR := Lib.hid hg
    clear hg
    by_cases hmq : m ≤ q + 200
    · by_cases hmm : m ≤ 100000
      · obtain ⟨ha1, ha2⟩ := HALL.out m hm1 hmm
        have hce := costF_eq HA.out (m := m) (by omega) hmm
        have HCE := Lib.hid (show (costF l m).2 = true by rw [hce])
        have HA2 := Lib.hid ha2
        clear ha2 hce
        by_cases heq : (costF l m).1 = cost
        · have hnm := HA2.out heq
          generalize hcf : costF l m = cf at *
          obtain ⟨dc, df⟩ := cf
          have HCF := Lib.hid hcf
          simp only at heq ha1
          subst heq
          clear hcf
          go_wp2_with fail
          refine (buyCost_spec l _ _ m _ (HL5.out.grew HGR.out) (by omega)).mono ?_; rintro e w6 ⟨rfl, h6⟩
          rw [HCF.out]
          go_wp2_with fail
          go_roundw
          case rel => go_light; exact ⟨m + 1, by omega, by omega, rfl, HGR.out.trans h6⟩
          case measure => go_light; simp [intOf]; omega
        · have hlt : cost < (costF l m).1 := by omega
          generalize hcf : costF l m = cf at *
          obtain ⟨dc, df⟩ := cf
          have HCF := Lib.hid hcf
          simp only at heq ha1 hlt
          have hnb : (dc == cost) = false := by simp; omega
          clear hcf heq
          go_wp2_with fail
          refine (buyCost_spec l _ _ m _ (HL5.out.grew HGR.out) (by omega)).mono ?_; rintro e w6 ⟨rfl, h6⟩
          rw [HCF.out]
          go_wp2_with fail
          go_roundw
          case rel => go_light; exact ⟨m + 1, by omega, by omega, rfl, HGR.out.trans h6⟩
          case measure => go_light; simp [intOf]; omega
      · go_wp2_with fail
        go_ret
        go_light
        exact ⟨rfl, HG5.out.trans HGR.out⟩
    · go_wp2_with fail
      go_ret
      go_light
      exact ⟨rfl, HG5.out.trans HGR.out⟩

set_option maxRecDepth 100000 in
theorem lifted (os : Os) (started : os.Started) (H : Type) (enc : TypeId × Value → H) :
    ReturnsInHanded {} Try.checked os 7 .any (Rows.fnBuyingSpec.pre6 enc Try.prog Try.f7 Rows.fnBuyingRow.domain false) (Rows.fnBuyingSpec.post enc Try.prog Try.f7 false true false false) := by
  refine returnsInHanded_of_change (C := Try.checked) own started (by kernel_rfl) Try.func7
    (ChangeSpec.witness6 (enc := enc) (C := Try.checked) false ⟨#[], #[.slice none 0 0], []⟩ 8 (by kernel_rfl) (by kernel_rfl) (by kernel_rfl) (by kernel_rfl)) ?_
  intro W base args ds gs before hval0 hW hcnd _
  have hval : ∀ (j : Nat) t v, Try.f7.params[j]? = some t → args[j]? = some v → Value.okWide Try.prog W .any base t v := hval0
  have hW' := hW
  obtain ⟨p, q, hA0, hV, rfl, hfz, hnd⟩ := hW
  have hA : DataW.TrodAll enc Try.prog W 0 (fun _ => true) true Try.f7.params.toList args.toList ds p := hA0
  rw [Try.params7] at hA hval
  obtain ⟨v0, vs0, d0, ds0, p0, q0, hargs, rfl, rfl, h0, r0⟩ := trodAll_cons hA
  obtain ⟨rfl, rfl, rfl⟩ := trodAll_nil r0
  obtain rfl : args = #[v0] := by cases args; simp_all
  obtain ⟨code, A, c, rfl, r_code, q1_code, q2_code⟩ := Byt.open_ (hval 0 34 v0 rfl rfl) h0
  refine (walk W code A c r_code ⟨q1_code, q2_code⟩).mono fun e W' ⟨he, hg⟩ => ?_
  subst he
  exact ⟨_, rfl, law_step (tb := 4) laidOut (by rw [Try.params7]; exact pars_of (by kernel_rfl)) rfl hW' rfl rfl rfl (by kernel_rfl) Try.underlying4 hg⟩

theorem over : Rows.fnBuyingRow.holds Try.pinned (OpenSpec.ofChange Rows.fnBuyingSpec) :=
  OpenClaim.holds_of_wide 7 Try.f7 rfl rfl rfl rfl rfl rfl rfl ⟨rfl, rfl, rfl, rfl, rfl⟩ rfl rfl rfl rfl rfl (by kernel_rfl) Try.func7 (by kernel_rfl)
    (of_decide_eq_true (by kernel_rfl)) (by unfold Func.isWrapper; first | (rw [if_pos (by decide +kernel)]; kernel_rfl) | (rw [if_neg (by decide +kernel)]; exact ⟨rfl, rfl⟩))
    (fun os started H enc _ => lifted os started H enc)

theorem proved : Rows.FnBuyingSaid := over
end fnBuying
end Go.Proofs.Ytlaiemjeoceehaa
