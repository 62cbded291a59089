/- The best supplier: BestSupplier of the program and of the reference return what a plain function returns. Conditions: none. -/
import Derived.Test.YtlaiemjeoceehaaBrkH
import Derived.Test.YtlaiemjeoceehaaGridB
namespace Go.Proofs.Ytlaiemjeoceehaa
open Go.RowKit Go.ChangeShapes Go.WideShapes Go.Deep
set_option linter.unusedVariables false
set_option linter.unusedSimpArgs false

/-- The first of the suppliers so far that cost least, and what it costs; -1 if there is none. -/
def supTo (l : List (List Brk)) (q : Int) : Nat → Int × Int
  | 0 => (-1, 0)
  | k + 1 => if (bestF (l.getD k []) q).2.2 = true ∧ ((supTo l q k).1 < 0 ∨ (bestF (l.getD k []) q).2.1 < (supTo l q k).2) then ((k : Int), (bestF (l.getD k []) q).2.1) else supTo l q k
def supF (l : List (List Brk)) (q : Int) : Int × Bool := if (l.length : Int) ≤ 12 ∧ 0 ≤ (supTo l q l.length).1 then ((supTo l q l.length).1, true) else (0, false)
theorem supTo_bound (l : List (List Brk)) (q : Int) : ∀ k : Nat, -1 ≤ (supTo l q k).1 ∧ (supTo l q k).1 < k
  | 0 => by simp [supTo]
  | k + 1 => by
    have := supTo_bound l q k
    simp only [supTo]
    split <;> (try simp only) <;> omega

set_option maxHeartbeats 4000000 in
theorem bestSupplier_impl (l : List (List Brk)) (A : Option Addr) (c : Nat) (q : Int) (w : World) (h : RdR w A l) (hn : l.length ≤ 4194304) (hr : ∀ m ∈ l, m.length ≤ 4194304) :
    Calls Try.prog 26 #[.slice A l.length c, .int .i64 q] w fun e w' => e = .returned (.tuple #[.int .i64 (supF l q).1, .bool (supF l q).2]) ∧ Grew w w' := by
  have HL := Lib.hid h
  have HR := Lib.hid hr
  clear h hr
  by_cases hl : (12 : Int) < (l.length : Int)
  · have HF := Lib.hid (show supF l q = (0, false) by simp only [supF]; rw [if_neg (by omega)])
    have hl2 : decide ((l.length : Int) ≤ 12) = false := by simp; omega
    have hl3 : decide ((0 : Int) < (l.length : Int)) = true := by simp; omega
    have hlp : 0 < l.length := by omega
    go_enter Try.func26, Try.ntmps26
    go_wp2_with fail
    first
    | (go_ret2
       go_light
       exact ⟨by rw [HF.out]; rfl, Grew.refl _⟩)
    | (go_loopw [6, 7, 8] (fun b n i wr => i = .int .i64 0 ∧ b = .int .i64 (-1) ∧ n = .int .i64 0 ∧ wr = w) (fun _ _ _ _ => 0)
       case atStart => exact ⟨rfl, rfl, rfl, rfl⟩
       case round =>
         obtain ⟨rfl, rfl, rfl, rfl⟩ := hrel
         go_wp2_with fail
         go_ret2
         go_light
         exact ⟨by rw [HF.out]; rfl, Grew.refl _⟩)
  have HB := Lib.hid (supTo_bound l q)
  have HF1 := Lib.hid (show (supTo l q l.length).1 < 0 → supF l q = (0, false) from fun h0 => by simp only [supF]; rw [if_neg (by omega)])
  have HF2 := Lib.hid (show 0 ≤ (supTo l q l.length).1 → supF l q = ((supTo l q l.length).1, true) from fun h0 => by simp only [supF]; rw [if_pos ⟨by omega, h0⟩])
  have hl2 : decide ((l.length : Int) ≤ 12) = true := by simp; omega
  go_enter Try.func26, Try.ntmps26
  go_wp2_with fail
  go_loopw [6, 7, 18] (fun b n i wr => ∃ k : Nat, k ≤ l.length ∧ i = .int .i64 k ∧ b = .int .i64 (supTo l q k).1 ∧ n = .int .i64 (supTo l q k).2 ∧ Grew w wr) (fun _ _ i _ => l.length - (intOf i).toNat)
  case atStart => exact ⟨0, Nat.zero_le _, rfl, rfl, rfl, Grew.refl _⟩
  case round =>
    obtain ⟨k, hk, rfl, rfl, rfl, hg⟩ := hrel
    have HG := Lib.hid hg
    have hb1 := (HB.out k).1
    have hb2 := (HB.out k).2
    by_cases hlt : k < l.length
    · obtain ⟨m, hm⟩ : ∃ m, l[k]? = some m := ⟨_, List.getElem?_eq_getElem hlt⟩
      have hd : l.getD k [] = m := by simp [List.getD_eq_getElem?_getD, hm]
      obtain ⟨b, o, B, c', rfl, hb, hc, hrd⟩ := (HL.out.grew hg).at_ hm
      have hml := HR.out m (List.mem_of_getElem? hm)
      have HK : Hid (supTo l q (k + 1) = if (bestF m q).2.2 = true ∧ ((supTo l q k).1 < 0 ∨ (bestF m q).2.1 < (supTo l q k).2) then ((k : Int), (bestF m q).2.1) else supTo l q k) := Lib.hid (by simp only [supTo, hd])
      have HRD := Lib.hid hrd
      clear hm hd hrd hg
      generalize supTo l q k = s at *
      obtain ⟨best, least⟩ := s
      simp only at *
      generalize hr : bestF m q = r at *
      obtain ⟨rn, rc, ro⟩ := r
      have HRR := Lib.hid hr
      clear hr
      simp only at *
      have hdk : decide ((k : Int) < (l.length : Int)) = true := by simp; omega
      have HC : Calls Try.prog 20 #[.slice B m.length c', .int .i64 q] wr fun e w' => e = .returned (.tuple #[.int .i64 rn, .int .i64 rc, .bool ro]) ∧ Grew wr w' := by
        have := bestBuy_impl m B c' q wr HRD.out hml
        rw [HRR.out] at this
        exact this
      have HCC := Lib.hid HC
      clear HC
      cases ro
      · go_wp2_with fail
        refine HCC.out.mono ?_; rintro e w1 ⟨rfl, h1⟩
        go_wp2_with fail
        go_roundw
        case rel => go_light; exact ⟨k + 1, by omega, by go_num, by rw [HK.out, if_neg (by simp)], by rw [HK.out, if_neg (by simp)], HG.out.trans h1⟩
        case measure => go_light; simp [intOf]; omega
      · by_cases hbl : best < 0
        · go_wp2_with fail
          refine HCC.out.mono ?_; rintro e w1 ⟨rfl, h1⟩
          go_wp2_with fail
          go_roundw
          case rel => go_light; exact ⟨k + 1, by omega, by go_num, by rw [HK.out, if_pos ⟨by first | rfl | trivial, .inl hbl⟩], by rw [HK.out, if_pos ⟨by first | rfl | trivial, .inl hbl⟩], HG.out.trans h1⟩
          case measure => go_light; simp [intOf]; omega
        · by_cases hrc : rc < least
          · go_wp2_with fail
            refine HCC.out.mono ?_; rintro e w1 ⟨rfl, h1⟩
            go_wp2_with fail
            go_roundw
            case rel => go_light; exact ⟨k + 1, by omega, by go_num, by rw [HK.out, if_pos ⟨by first | rfl | trivial, .inr hrc⟩], by rw [HK.out, if_pos ⟨by first | rfl | trivial, .inr hrc⟩], HG.out.trans h1⟩
            case measure => go_light; simp [intOf]; omega
          · go_wp2_with fail
            refine HCC.out.mono ?_; rintro e w1 ⟨rfl, h1⟩
            go_wp2_with fail
            go_roundw
            case rel => go_light; exact ⟨k + 1, by omega, by go_num, by rw [HK.out, if_neg (by omega)], by rw [HK.out, if_neg (by omega)], HG.out.trans h1⟩
            case measure => go_light; simp [intOf]; omega
    · obtain rfl : k = l.length := by omega
      have hdk : decide ((l.length : Int) < (l.length : Int)) = false := by simp
      clear hg
      rcases Int.lt_or_le (supTo l q l.length).1 0 with h0 | h0
      · have HE := Lib.hid (HF1.out h0)
        go_wp2_with fail
        go_ret2
        go_light
        exact ⟨by rw [HE.out]; first | rfl | (congr 3; simp; omega), HG.out⟩
      · have HE := Lib.hid (HF2.out h0)
        go_wp2_with fail
        go_ret2
        go_light
        exact ⟨by rw [HE.out]; first | rfl | (congr 3; simp; omega), HG.out⟩
set_option maxHeartbeats 4000000 in
theorem bestSupplier_spec (l : List (List Brk)) (A : Option Addr) (c : Nat) (q : Int) (w : World) (h : RdR w A l) (hn : l.length ≤ 4194304) (hr : ∀ m ∈ l, m.length ≤ 4194304) :
    Calls Try.prog 24 #[.slice A l.length c, .int .i64 q] w fun e w' => e = .returned (.tuple #[.int .i64 (supF l q).1, .bool (supF l q).2]) ∧ Grew w w' := by
  have HL := Lib.hid h
  have HR := Lib.hid hr
  clear h hr
  by_cases hl : (12 : Int) < (l.length : Int)
  · have HF := Lib.hid (show supF l q = (0, false) by simp only [supF]; rw [if_neg (by omega)])
    have hl2 : decide ((l.length : Int) ≤ 12) = false := by simp; omega
    have hl3 : decide ((0 : Int) < (l.length : Int)) = true := by simp; omega
    have hlp : 0 < l.length := by omega
    go_enter Try.func24, Try.ntmps24
    go_wp2_with fail
    first
    | (go_ret2
       go_light
       exact ⟨by rw [HF.out]; rfl, Grew.refl _⟩)
    | (go_loopw [6, 7, 8] (fun b n i wr => i = .int .i64 0 ∧ b = .int .i64 (-1) ∧ n = .int .i64 0 ∧ wr = w) (fun _ _ _ _ => 0)
       case atStart => exact ⟨rfl, rfl, rfl, rfl⟩
       case round =>
         obtain ⟨rfl, rfl, rfl, rfl⟩ := hrel
         go_wp2_with fail
         go_ret2
         go_light
         exact ⟨by rw [HF.out]; rfl, Grew.refl _⟩)
  have HB := Lib.hid (supTo_bound l q)
  have HF1 := Lib.hid (show (supTo l q l.length).1 < 0 → supF l q = (0, false) from fun h0 => by simp only [supF]; rw [if_neg (by omega)])
  have HF2 := Lib.hid (show 0 ≤ (supTo l q l.length).1 → supF l q = ((supTo l q l.length).1, true) from fun h0 => by simp only [supF]; rw [if_pos ⟨by omega, h0⟩])
  have hl2 : decide ((l.length : Int) ≤ 12) = true := by simp; omega
  go_enter Try.func24, Try.ntmps24
  go_wp2_with fail
  go_loopw [6, 7, 8] (fun b n i wr => ∃ k : Nat, k ≤ l.length ∧ i = .int .i64 k ∧ b = .int .i64 (supTo l q k).1 ∧ n = .int .i64 (supTo l q k).2 ∧ Grew w wr) (fun _ _ i _ => l.length - (intOf i).toNat)
  case atStart => exact ⟨0, Nat.zero_le _, rfl, rfl, rfl, Grew.refl _⟩
  case round =>
    obtain ⟨k, hk, rfl, rfl, rfl, hg⟩ := hrel
    have HG := Lib.hid hg
    have hb1 := (HB.out k).1
    have hb2 := (HB.out k).2
    by_cases hlt : k < l.length
    · obtain ⟨m, hm⟩ : ∃ m, l[k]? = some m := ⟨_, List.getElem?_eq_getElem hlt⟩
      have hd : l.getD k [] = m := by simp [List.getD_eq_getElem?_getD, hm]
      obtain ⟨b, o, B, c', rfl, hb, hc, hrd⟩ := (HL.out.grew hg).at_ hm
      have hml := HR.out m (List.mem_of_getElem? hm)
      have HK : Hid (supTo l q (k + 1) = if (bestF m q).2.2 = true ∧ ((supTo l q k).1 < 0 ∨ (bestF m q).2.1 < (supTo l q k).2) then ((k : Int), (bestF m q).2.1) else supTo l q k) := Lib.hid (by simp only [supTo, hd])
      have HRD := Lib.hid hrd
      clear hm hd hrd hg
      generalize supTo l q k = s at *
      obtain ⟨best, least⟩ := s
      simp only at *
      generalize hr : bestF m q = r at *
      obtain ⟨rn, rc, ro⟩ := r
      have HRR := Lib.hid hr
      clear hr
      simp only at *
      have hdk : decide ((k : Int) < (l.length : Int)) = true := by simp; omega
      have HC : Calls Try.prog 19 #[.slice B m.length c', .int .i64 q] wr fun e w' => e = .returned (.tuple #[.int .i64 rn, .int .i64 rc, .bool ro]) ∧ Grew wr w' := by
        have := bestBuy_spec m B c' q wr HRD.out hml
        rw [HRR.out] at this
        exact this
      have HCC := Lib.hid HC
      clear HC
      cases ro
      · go_wp2_with fail
        refine HCC.out.mono ?_; rintro e w1 ⟨rfl, h1⟩
        go_wp2_with fail
        go_roundw
        case rel => go_light; exact ⟨k + 1, by omega, by go_num, by rw [HK.out, if_neg (by simp)], by rw [HK.out, if_neg (by simp)], HG.out.trans h1⟩
        case measure => go_light; simp [intOf]; omega
      · by_cases hbl : best < 0
        · go_wp2_with fail
          refine HCC.out.mono ?_; rintro e w1 ⟨rfl, h1⟩
          go_wp2_with fail
          go_roundw
          case rel => go_light; exact ⟨k + 1, by omega, by go_num, by rw [HK.out, if_pos ⟨by first | rfl | trivial, .inl hbl⟩], by rw [HK.out, if_pos ⟨by first | rfl | trivial, .inl hbl⟩], HG.out.trans h1⟩
          case measure => go_light; simp [intOf]; omega
        · by_cases hrc : rc < least
          · go_wp2_with fail
            refine HCC.out.mono ?_; rintro e w1 ⟨rfl, h1⟩
            go_wp2_with fail
            go_roundw
            case rel => go_light; exact ⟨k + 1, by omega, by go_num, by rw [HK.out, if_pos ⟨by first | rfl | trivial, .inr hrc⟩], by rw [HK.out, if_pos ⟨by first | rfl | trivial, .inr hrc⟩], HG.out.trans h1⟩
            case measure => go_light; simp [intOf]; omega
          · go_wp2_with fail
            refine HCC.out.mono ?_; rintro e w1 ⟨rfl, h1⟩
            go_wp2_with fail
            go_roundw
            case rel => go_light; exact ⟨k + 1, by omega, by go_num, by rw [HK.out, if_neg (by omega)], by rw [HK.out, if_neg (by omega)], HG.out.trans h1⟩
            case measure => go_light; simp [intOf]; omega
    · obtain rfl : k = l.length := by omega
      have hdk : decide ((l.length : Int) < (l.length : Int)) = false := by simp
      clear hg
      rcases Int.lt_or_le (supTo l q l.length).1 0 with h0 | h0
      · have HE := Lib.hid (HF1.out h0)
        go_wp2_with fail
        go_ret2
        go_light
        exact ⟨by rw [HE.out]; first | rfl | (congr 3; simp; omega), HG.out⟩
      · have HE := Lib.hid (HF2.out h0)
        go_wp2_with fail
        go_ret2
        go_light
        exact ⟨by rw [HE.out]; first | rfl | (congr 3; simp; omega), HG.out⟩
end Go.Proofs.Ytlaiemjeoceehaa
