/- The law on suppliers: no supplier costs less than the best one. Conditions: none. -/
import Derived.Test.YtlaiemjeoceehaaDrawB
import Derived.Test.YtlaiemjeoceehaaSup
namespace Go.Proofs.Ytlaiemjeoceehaa
open Go.ChangeShapes Go.WideShapes Go.ChangeAt Go.RowKit Go.Joins Go.Deep
set_option linter.unusedVariables false
set_option linter.unusedSimpArgs false

theorem cost_bound {l : List Brk} {q : Int} (h : (costF l q).2 = true) : 0 ≤ (costF l q).1 ∧ (costF l q).1 ≤ 1000000000 := by
  obtain ⟨ha, hq1, hq2⟩ := cost_ok h
  have hp := priceTo_bound ha q l.length (Nat.le_refl _)
  have hm := mul_bound (a := q) (b := priceTo l q l.length) (by omega) (by omega) (by omega) (by omega)
  have e : (costF l q).1 = wrap64 (priceTo l q l.length * q) := by
    have hq : inB q 1 100000 = true := inB_iff.2 ⟨hq1, hq2⟩
    simp [costF, priceF, ha, hq]
  rw [e, Int.mul_comm, wrap_small ⟨by omega, by omega⟩]
  omega
theorem bestTo_bound {l : List Brk} {q : Int} (h : (costF l q).2 = true) : ∀ k, k ≤ l.length → 0 ≤ (bestTo l q k).2 ∧ (bestTo l q k).2 ≤ 1000000000
  | 0, _ => cost_bound h
  | k + 1, hk => by
    have h1 := bestTo_bound h k (by omega)
    have h2 := areB_at (cost_ok h).1 (k := k) (by omega)
    have hm := mul_bound (a := (l.getD k brk0).f) (b := (l.getD k brk0).p) (by omega) (by omega) (by omega) (by omega)
    simp only [bestTo]
    split
    · simp only; omega
    · omega
theorem best_bound {l : List Brk} {q : Int} (h : (bestF l q).2.2 = true) : 0 ≤ (bestF l q).2.1 ∧ (bestF l q).2.1 ≤ 1000000000 := by
  unfold bestF at h ⊢
  split at h
  · rename_i h1
    rw [if_pos h1]
    exact bestTo_bound h1 _ (Nat.le_refl _)
  · cases h

/-- The least cost so far, -1 if there is none. -/
def leastTo (l : List (List Brk)) (q : Int) : Nat → Int
  | 0 => -1
  | k + 1 => if (bestF (l.getD k []) q).2.2 = true ∧ (leastTo l q k < 0 ∨ (bestF (l.getD k []) q).2.1 < leastTo l q k) then (bestF (l.getD k []) q).2.1 else leastTo l q k
theorem least_sup (l : List (List Brk)) (q : Int) : ∀ k, k ≤ l.length → ((supTo l q k).1 < 0 ∧ leastTo l q k = -1) ∨
    (0 ≤ (supTo l q k).1 ∧ (supTo l q k).1 < k ∧ 0 ≤ leastTo l q k ∧ leastTo l q k ≤ 1000000000 ∧ (supTo l q k).2 = leastTo l q k ∧ (bestF (l.getD (supTo l q k).1.toNat []) q).2.2 = true ∧ (bestF (l.getD (supTo l q k).1.toNat []) q).2.1 = leastTo l q k)
  | 0, _ => by simp [supTo, leastTo]
  | k + 1, hk => by
    have ih := least_sup l q k (by omega)
    have hb : (bestF (l.getD k []) q).2.2 = true → 0 ≤ (bestF (l.getD k []) q).2.1 ∧ (bestF (l.getD k []) q).2.1 ≤ 1000000000 := best_bound
    simp only [supTo, leastTo]
    generalize hr : bestF (l.getD k []) q = r at *
    rcases ih with ⟨h1, h2⟩ | ⟨h1, h1', h2, h2', h3, h4, h5⟩
    · by_cases hc : r.2.2 = true
      · rw [if_pos ⟨hc, .inl h1⟩, if_pos ⟨hc, .inl (by omega)⟩]
        right
        have := hb hc
        refine ⟨by simp only; omega, by simp only; omega, by omega, by omega, rfl, ?_, ?_⟩ <;> simp only [Int.toNat_natCast] <;> rw [hr]
        exact hc
      · rw [if_neg (fun h => hc h.1), if_neg (fun h => hc h.1)]
        exact .inl ⟨h1, h2⟩
    · by_cases hc : r.2.2 = true ∧ r.2.1 < leastTo l q k
      · rw [if_pos ⟨hc.1, .inr (by omega)⟩, if_pos ⟨hc.1, .inr hc.2⟩]
        right
        have := hb hc.1
        refine ⟨by simp only; omega, by simp only; omega, by omega, by omega, rfl, ?_, ?_⟩ <;> simp only [Int.toNat_natCast] <;> rw [hr]
        exact hc.1
      · rw [if_neg (fun h => hc ⟨h.1, by rcases h.2 with h | h <;> omega⟩), if_neg (fun h => hc ⟨h.1, by rcases h.2 with h | h <;> omega⟩)]
        exact .inr ⟨h1, by omega, h2, h2', h3, h4, h5⟩

theorem big_any (l : List UInt8) (A : Option Addr) (c : Nat) (w : World) (hl : l.length ≤ maxLen) :
    Calls Try.prog 21 #[.slice A l.length c] w fun e w' => e = .returned (.bool (decide ((1048576 : Int) < l.length))) ∧ w = w' := by
  unfold maxLen at hl
  go_enter Try.func21, Try.ntmps21
  go_wp2_with fail
  go_ret
  go_light
  exact ⟨rfl, rfl⟩

namespace fnSuppliers
set_option maxHeartbeats 1000000 in
theorem walk (w : World) (code : List UInt8) (A : Option Addr) (c : Nat) (r_code : Rd Byt.E w A code) (q_code : code.length ≤ c ∧ c ≤ maxLen) :
    Calls Try.prog 9 #[.slice A code.length c] w fun e w' => e = .returned (.bool true) ∧ Grew w w' := by
  have hql := q_code
  by_cases hbig : (1048576 : Int) < (code.length : Int)
  · have hb : decide ((1048576 : Int) < (code.length : Int)) = true := by simpa using hbig
    go_enter Try.func9, Try.ntmps9
    go_wp2_with fail
    refine (big_any code _ _ _ (by omega)).mono ?_; rintro e w0 ⟨rfl, rfl⟩
    go_wp2_with fail
    go_ret
    go_light
    exact ⟨rfl, Grew.refl _⟩
  have hb : decide ((1048576 : Int) < (code.length : Int)) = false := by simpa using hbig
  have HR := Lib.hid r_code
  clear r_code
  go_enter Try.func9, Try.ntmps9
  go_wp2_with fail
  refine (big_any code _ _ _ (by omega)).mono ?_; rintro e w0 ⟨rfl, rfl⟩
  go_wp2_with fail
  refine (drawBestSupplier_any _ _ _ code HR.out (by omega)).mono ?_; rintro e w1 ⟨L, B, d, q, rfl, hL, hm, hr, hq0, hq1, hg⟩
  have HL := Lib.hid hr
  have HM := Lib.hid hm
  have HG := Lib.hid hg
  clear hr hm hg
  go_wp2_with fail
  refine (bestSupplier_impl L _ _ q _ HL.out (by omega) (fun m hm => by have := HM.out m hm; omega)).mono ?_; rintro e w2 ⟨rfl, h2⟩
  have HG2 := Lib.hid (HG.out.trans h2)
  have HL2 := Lib.hid (HL.out.grew h2)
  have HLS := Lib.hid (least_sup L q)
  clear h2
  go_wp2_with fail
  go_loopw [7, 8] (fun b i wr => ∃ k : Nat, k ≤ L.length ∧ i = .int .i64 k ∧ b = .int .i64 (leastTo L q k) ∧ Grew w2 wr) (fun _ i _ => L.length - (intOf i).toNat)
  case atStart => exact ⟨0, Nat.zero_le _, rfl, rfl, Grew.refl _⟩
  case round =>
    obtain ⟨k, hk, rfl, rfl, hg⟩ := hrel
    have HGR := Lib.hid hg
    have HS := Lib.hid (HLS.out k hk)
    have hls : -1 ≤ leastTo L q k ∧ leastTo L q k ≤ 1000000000 := by rcases HS.out with h | h <;> omega
    obtain ⟨hls0, hls1⟩ := hls
    by_cases hlt : k < L.length
    · obtain ⟨m, hm⟩ : ∃ m, L[k]? = some m := ⟨_, List.getElem?_eq_getElem hlt⟩
      have hd : L.getD k [] = m := by simp [List.getD_eq_getElem?_getD, hm]
      obtain ⟨b, o, C, c', rfl, hbb, hc, hrd⟩ := (HL2.out.grew hg).at_ hm
      have hml := HM.out m (List.mem_of_getElem? hm)
      have HK : Hid (leastTo L q (k + 1) = if (bestF m q).2.2 = true ∧ (leastTo L q k < 0 ∨ (bestF m q).2.1 < leastTo L q k) then (bestF m q).2.1 else leastTo L q k) := Lib.hid (by simp only [leastTo, hd])
      have HRD := Lib.hid hrd
      clear hm hd hrd hg
      generalize leastTo L q k = t at *
      generalize hr : bestF m q = r at *
      obtain ⟨rn, rc, ro⟩ := r
      have HRR := Lib.hid hr
      clear hr
      simp only at *
      have HC : Calls Try.prog 19 #[.slice C m.length c', .int .i64 q] wr fun e w' => e = .returned (.tuple #[.int .i64 rn, .int .i64 rc, .bool ro]) ∧ Grew wr w' := by
        have := bestBuy_spec m C c' q wr HRD.out (by omega)
        rw [HRR.out] at this
        exact this
      have HCC := Lib.hid HC
      clear HC
      cases ro
      · go_wp2_with fail
        refine HCC.out.mono ?_; rintro e w1 ⟨rfl, h1⟩
        go_wp2_with fail
        go_roundw
        case rel => go_light; exact ⟨k + 1, by omega, by go_num, by rw [HK.out, if_neg (by simp)], HGR.out.trans h1⟩
        case measure => go_light; simp [intOf]; omega
      · by_cases hbl : t < 0
        · go_wp2_with fail
          refine HCC.out.mono ?_; rintro e w1 ⟨rfl, h1⟩
          go_wp2_with fail
          go_roundw
          case rel => go_light; exact ⟨k + 1, by omega, by go_num, by rw [HK.out, if_pos ⟨by first | rfl | trivial, .inl hbl⟩], HGR.out.trans h1⟩
          case measure => go_light; simp [intOf]; omega
        · by_cases hrc : rc < t
          · go_wp2_with fail
            refine HCC.out.mono ?_; rintro e w1 ⟨rfl, h1⟩
            go_wp2_with fail
            go_roundw
            case rel => go_light; exact ⟨k + 1, by omega, by go_num, by rw [HK.out, if_pos ⟨by first | rfl | trivial, .inr hrc⟩], HGR.out.trans h1⟩
            case measure => go_light; simp [intOf]; omega
          · go_wp2_with fail
            refine HCC.out.mono ?_; rintro e w1 ⟨rfl, h1⟩
            go_wp2_with fail
            go_roundw
            case rel => go_light; exact ⟨k + 1, by omega, by go_num, by rw [HK.out, if_neg (by omega)], HGR.out.trans h1⟩
            case measure => go_light; simp [intOf]; omega
    · obtain rfl : k = L.length := by omega
      rcases HS.out with ⟨h1, h2⟩ | ⟨h1, h1', h2, h2', h3, h4, h5⟩
      · have hsf : supF L q = (0, false) := by simp only [supF]; rw [if_neg (by omega)]
        rw [hsf, h2]
        clear hsf h1 h2 hls0 hls1 hg
        go_wp2_with fail
        go_ret
        go_light
        exact ⟨rfl, HG2.out.trans HGR.out⟩
      · have hsf : supF L q = ((supTo L q L.length).1, true) := by simp only [supF]; rw [if_pos ⟨by omega, h1⟩]
        rw [hsf]
        obtain ⟨j, hj⟩ := Int.eq_ofNat_of_zero_le h1
        rw [hj] at h1' h4 h5 ⊢
        simp only [Int.toNat_natCast] at h4 h5
        have hjl : j < L.length := by omega
        obtain ⟨m, hm⟩ : ∃ m, L[j]? = some m := ⟨_, List.getElem?_eq_getElem hjl⟩
        have hd : L.getD j [] = m := by simp [List.getD_eq_getElem?_getD, hm]
        rw [hd] at h4 h5
        obtain ⟨b, o, C, c', rfl, hbb, hc, hrd⟩ := (HL2.out.grew hg).at_ hm
        have hml := HM.out m (List.mem_of_getElem? hm)
        have HRD := Lib.hid hrd
        generalize hr : bestF m q = r at *
        obtain ⟨rn, rc, ro⟩ := r
        simp only at h4 h5
        subst h4
        have HC : Calls Try.prog 20 #[.slice C m.length c', .int .i64 q] wr fun e w' => e = .returned (.tuple #[.int .i64 rn, .int .i64 rc, .bool true]) ∧ Grew wr w' := by
          have := bestBuy_impl m C c' q wr HRD.out (by omega)
          rw [hr] at this
          exact this
        have HCC := Lib.hid HC
        rw [← h5] at hls0 hls1 ⊢
        clear HC hm hd hrd hr h5 h3 h1 hj hsf h2 h2' hg
        have hi1 : (0 : Int) ≤ (j : Int) := by omega
        have hi2 : (j : Int) < (L.length : Int) := by omega
        go_wp2_with fail
        refine HCC.out.mono ?_; rintro e w3 ⟨rfl, h3⟩
        go_wp2_with fail
        go_ret
        go_light
        exact ⟨rfl, (HG2.out.trans HGR.out).trans h3⟩

set_option maxRecDepth 100000 in
theorem lifted (os : Os) (started : os.Started) (H : Type) (enc : TypeId × Value → H) :
    ReturnsInHanded {} Try.checked os 9 .any (Rows.fnSuppliersSpec.pre6 enc Try.prog Try.f9 Rows.fnSuppliersRow.domain false) (Rows.fnSuppliersSpec.post enc Try.prog Try.f9 false true false false) := by
  refine returnsInHanded_of_change (C := Try.checked) own started (by kernel_rfl) Try.func9
    (ChangeSpec.witness6 (enc := enc) (C := Try.checked) false ⟨#[], #[.slice none 0 0], []⟩ 8 (by kernel_rfl) (by kernel_rfl) (by kernel_rfl) (by kernel_rfl)) ?_
  intro W base args ds gs before hval0 hW hcnd _
  have hval : ∀ (j : Nat) t v, Try.f9.params[j]? = some t → args[j]? = some v → Value.okWide Try.prog W .any base t v := hval0
  have hW' := hW
  obtain ⟨p, q, hA0, hV, rfl, hfz, hnd⟩ := hW
  have hA : DataW.TrodAll enc Try.prog W 0 (fun _ => true) true Try.f9.params.toList args.toList ds p := hA0
  rw [Try.params9] at hA hval
  obtain ⟨v0, vs0, d0, ds0, p0, q0, hargs, rfl, rfl, h0, r0⟩ := trodAll_cons hA
  obtain ⟨rfl, rfl, rfl⟩ := trodAll_nil r0
  obtain rfl : args = #[v0] := by cases args; simp_all
  obtain ⟨code, A, c, rfl, r_code, q1_code, q2_code⟩ := Byt.open_ (hval 0 34 v0 rfl rfl) h0
  refine (walk W code A c r_code ⟨q1_code, q2_code⟩).mono fun e W' ⟨he, hg⟩ => ?_
  subst he
  exact ⟨_, rfl, law_step (tb := 4) laidOut (by rw [Try.params9]; exact pars_of (by kernel_rfl)) rfl hW' rfl rfl rfl (by kernel_rfl) Try.underlying4 hg⟩

theorem over : Rows.fnSuppliersRow.holds Try.pinned (OpenSpec.ofChange Rows.fnSuppliersSpec) :=
  OpenClaim.holds_of_wide 9 Try.f9 rfl rfl rfl rfl rfl rfl rfl ⟨rfl, rfl, rfl, rfl, rfl⟩ rfl rfl rfl rfl rfl (by kernel_rfl) Try.func9 (by kernel_rfl)
    (of_decide_eq_true (by kernel_rfl)) (by unfold Func.isWrapper; first | (rw [if_pos (by decide +kernel)]; kernel_rfl) | (rw [if_neg (by decide +kernel)]; exact ⟨rfl, rfl⟩))
    (fun os started H enc _ => lifted os started H enc)

theorem proved : Rows.FnSuppliersSaid := over
end fnSuppliers
end Go.Proofs.Ytlaiemjeoceehaa
