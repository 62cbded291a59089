/- The law on setups: no order takes fewer minutes than the best one. Conditions: none. -/
import Derived.Test.YtfplgagdjdhopaaBstL
import Derived.Test.YtfplgagdjdhopaaBstS
import Derived.Test.YtfplgagdjdhopaaBstW
import Derived.Test.YtfplgagdjdhopaaDrawD
import Derived.Test.YtfplgagdjdhopaaPerm
import Derived.Deep.RegionHeld3
namespace Go.Proofs.Ytfplgagdjdhopaa
open Go.ChangeShapes Go.WideShapes Go.ChangeAt Go.RowKit Go.Joins Go.Deep
set_option linter.unusedVariables false
set_option linter.unusedSimpArgs false

theorem big_any (l : List UInt8) (A : Option Addr) (c : Nat) (w : World) (hl : l.length ≤ maxLen) :
    Calls Try.prog 24 #[.slice A l.length c] w fun e w' => e = .returned (.bool (decide ((1048576 : Int) < l.length))) ∧ w = w' := by
  unfold maxLen at hl
  go_enter Try.func24, Try.ntmps24
  go_wp2_with fail
  go_ret
  go_light
  exact ⟨rfl, rfl⟩
theorem bestE_impl {L : List (List Int)} {o : List Int} {m : Int} {v : Bool} {k n : Nat} (hF : bestF L = (o, m, v)) (hk : L.length = k) (ho : o.length = n) (A : Option Addr) (c : Nat) (w : World) (h : RdR w A L) (hr : ∀ m ∈ L, m.length ≤ maxLen) (hn : L.length ≤ 4194304) :
    Calls Try.prog 23 #[.slice A k c] w fun e w' => ∃ A' c', e = .returned (.tuple #[.slice A' n c', .int .i64 m, .bool v]) ∧ Rd IntS.E w' A' o ∧ Grew w w' := by
  subst hk; subst ho
  have := best_impl L A c w h hr hn
  rw [hF] at this
  exact this.mono (by rintro e w' ⟨A', c', rfl, h1, h2⟩; exact ⟨A', c', rfl, h1.rd, h2⟩)
theorem setE_impl {L : List (List Int)} {o : List Int} {x : Int} {v : Bool} {k n : Nat} (hF : setupF L o = (x, v)) (hk : L.length = k) (ho : o.length = n) (A : Option Addr) (c : Nat) (B : Option Addr) (d : Nat) (w : World) (h : RdR w A L) (hr : ∀ m ∈ L, m.length ≤ maxLen) (hn : L.length ≤ 4194304) (h' : Rd IntS.E w B o) (hm : o.length ≤ 4194304) :
    Calls Try.prog 15 #[.slice A k c, .slice B n d] w fun e w' => e = .returned (.tuple #[.int .i64 x, .bool v]) ∧ Grew w w' := by
  subst hk; subst ho
  have := setupIn_impl L A c o B d w h hr hn h' (fun _ _ => trivial) hm
  rw [hF] at this
  exact this
theorem bestE_spec {L : List (List Int)} {o : List Int} {m : Int} {v : Bool} {k n : Nat} (hF : bestF L = (o, m, v)) (hk : L.length = k) (ho : o.length = n) (A : Option Addr) (c : Nat) (w : World) (h : RdR w A L) (hr : ∀ m ∈ L, m.length ≤ maxLen) (hn : L.length ≤ 4194304) :
    Calls Try.prog 22 #[.slice A k c] w fun e w' => ∃ A' c', e = .returned (.tuple #[.slice A' n c', .int .i64 m, .bool v]) ∧ Rd IntS.E w' A' o ∧ Grew w w' := by
  subst hk; subst ho
  have := best_spec L A c w h hr hn
  rw [hF] at this
  exact this.mono (by rintro e w' ⟨A', c', rfl, h1, h2⟩; exact ⟨A', c', rfl, h1.rd, h2⟩)
theorem setE_spec {L : List (List Int)} {o : List Int} {x : Int} {v : Bool} {k n : Nat} (hF : setupF L o = (x, v)) (hk : L.length = k) (ho : o.length = n) (A : Option Addr) (c : Nat) (B : Option Addr) (d : Nat) (w : World) (h : RdR w A L) (hr : ∀ m ∈ L, m.length ≤ maxLen) (hn : L.length ≤ 4194304) (h' : Rd IntS.E w B o) (hm : o.length ≤ 4194304) :
    Calls Try.prog 13 #[.slice A k c, .slice B n d] w fun e w' => e = .returned (.tuple #[.int .i64 x, .bool v]) ∧ Grew w w' := by
  subst hk; subst ho
  have := setupIn_spec L A c o B d w h hr hn h' (fun _ _ => trivial) hm
  rw [hF] at this
  exact this
theorem nearE {L : List (List Int)} {o : List Int} {v : Bool} {k n : Nat} (hF : nearF L = (o, v)) (hk : L.length = k) (ho : o.length = n) (A : Option Addr) (c : Nat) (w : World) (h : RdR w A L) (hr : ∀ m ∈ L, m.length ≤ maxLen) (hn : L.length ≤ 4194304) :
    Calls Try.prog 18 #[.slice A k c] w fun e w' => ∃ A' c', e = .returned (.tuple #[.slice A' n c', .bool v]) ∧ Rd IntS.E w' A' o ∧ Grew w w' := by
  subst hk; subst ho
  have := nearest_impl L A c w h hr hn
  rw [hF] at this
  exact this.mono (by rintro e w' ⟨A', c', rfl, h1, h2⟩; exact ⟨A', c', rfl, h1.rd, h2⟩)

namespace fnSetups
set_option maxRecDepth 100000 in
set_option maxHeartbeats 40000000 in
theorem walk (w : World) (code : List UInt8) (A : Option Addr) (c : Nat) (r_code : Rd Byt.E w A code) (q_code : code.length ≤ c ∧ c ≤ maxLen) :
    Calls Try.prog 7 #[.slice A code.length c] w fun e w' => e = .returned (.bool true) ∧ Grew w w' := by
  have hql := q_code
  by_cases hbig : (1048576 : Int) < (code.length : Int)
  · have hb : decide ((1048576 : Int) < (code.length : Int)) = true := by simpa using hbig
    go_enter Try.func7, Try.ntmps7
    go_wp2_with fail
    refine (big_any code _ _ _ (by omega)).mono ?_; rintro e w0 ⟨rfl, rfl⟩
    go_wp2_with fail
    go_ret
    go_light
    exact ⟨rfl, Grew.refl _⟩
  have hb : decide ((1048576 : Int) < (code.length : Int)) = false := by simpa using hbig
  have HR := Lib.hid r_code
  clear r_code
  go_enter Try.func7, Try.ntmps7
  go_wp2_with fail
  refine (big_any code _ _ _ (by omega)).mono ?_; rintro e w0 ⟨rfl, rfl⟩
  go_wp2_with fail
  refine (drawBestOrder_any _ _ _ code HR.out (by omega)).mono ?_; rintro e w1 ⟨L, B, d, rfl, h7, hrows, hrd, hg1⟩
  have HL := Lib.hid hrd
  have HG1 := Lib.hid hg1
  have HRW := Lib.hid (show ∀ m ∈ L, m.length ≤ maxLen from fun m hm => by have := hrows m hm; simp only [maxLen]; omega)
  clear hrd hrows hg1
  cases har : setB L
  · have HB := Lib.hid (show bestF L = ([], 0, false) by simp [bestF, har])
    have HN := Lib.hid (show nearF L = ([], false) by simp [nearF, har])
    clear har
    go_wp2_with fail
    refine (bestE_impl (n := 0) HB.out rfl rfl _ _ _ HL.out HRW.out (by omega)).mono ?_; rintro e w2 ⟨A2, c2, rfl, ho2, hg2⟩
    have HG2 := Lib.hid (HG1.out.trans hg2)
    have HL2 := Lib.hid (HL.out.grew hg2)
    clear ho2 hg2
    go_wp2_with fail
    refine (bestE_spec (n := 0) HB.out rfl rfl _ _ _ HL2.out HRW.out (by omega)).mono ?_; rintro e w3 ⟨A3, c3, rfl, ho3, hg3⟩
    have HG3 := Lib.hid (HG2.out.trans hg3)
    have HL3 := Lib.hid (HL2.out.grew hg3)
    clear ho3 hg3
    go_wp2_with fail
    refine (nearE (n := 0) HN.out rfl rfl _ _ _ HL3.out HRW.out (by omega)).mono ?_; rintro e w4 ⟨A4, c4, rfl, ho4, hg4⟩
    have HG4 := Lib.hid (HG3.out.trans hg4)
    clear ho4 hg4
    go_wp2_with fail
    go_ret
    go_light
    exact ⟨rfl, HG4.out⟩
  · obtain ⟨n, hnL⟩ : ∃ n, L.length = n + 1 := ⟨L.length - 1, by have := (setB_at har).1; omega⟩
    obtain ⟨o, near, m, y, hB, hN, hSO, hSN, hmy, hol, hnl, hall⟩ := setups_ok har hnL
    have HB := Lib.hid hB
    have HN := Lib.hid hN
    have HSO := Lib.hid hSO
    have HSN := Lib.hid hSN
    have HOL := Lib.hid hol
    have HNL := Lib.hid hnl
    have HALL := Lib.hid hall
    have HLL := Lib.hid hnL
    have hn6 : n ≤ 6 := by omega
    rw [hnL]
    clear hB hN hSO hSN hol hnl hall har hnL h7
    go_wp2_with fail
    refine (bestE_impl (n := n) HB.out HLL.out HOL.out _ _ _ HL.out HRW.out (by have := HLL.out; omega)).mono ?_; rintro e w2 ⟨A2, c2, rfl, ho2, hg2⟩
    have HG2 := Lib.hid (HG1.out.trans hg2)
    have HL2 := Lib.hid (HL.out.grew hg2)
    have HO2 := Lib.hid ho2
    clear ho2 hg2
    go_wp2_with fail
    refine (bestE_spec (n := n) HB.out HLL.out HOL.out _ _ _ HL2.out HRW.out (by have := HLL.out; omega)).mono ?_; rintro e w3 ⟨A3, c3, rfl, ho3, hg3⟩
    have HG3 := Lib.hid (HG2.out.trans hg3)
    have HL3 := Lib.hid (HL2.out.grew hg3)
    have HO3 := Lib.hid (HO2.out.grew hg3)
    clear ho3 hg3
    go_wp2_with fail
    refine (nearE (n := n) HN.out HLL.out HNL.out _ _ _ HL3.out HRW.out (by have := HLL.out; omega)).mono ?_; rintro e w4 ⟨A4, c4, rfl, ho4, hg4⟩
    have HG4 := Lib.hid (HG3.out.trans hg4)
    have HL4 := Lib.hid (HL3.out.grew hg4)
    have HO4 := Lib.hid (HO3.out.grew hg4)
    have HN4 := Lib.hid ho4
    clear ho4 hg4
    go_wp2_with fail
    refine (setE_impl (n := n) HSO.out HLL.out HOL.out _ _ _ _ _ HL4.out HRW.out (by have := HLL.out; omega) HO4.out (by have := HOL.out; omega)).mono ?_; rintro e w5 ⟨rfl, hg5⟩
    have HG5 := Lib.hid (HG4.out.trans hg5)
    have HL5 := Lib.hid (HL4.out.grew hg5)
    have HN5 := Lib.hid (HN4.out.grew hg5)
    clear hg5
    go_wp2_with fail
    refine (setE_impl (n := n) HSN.out HLL.out HNL.out _ _ _ _ _ HL5.out HRW.out (by have := HLL.out; omega) HN5.out (by have := HNL.out; omega)).mono ?_; rintro e w6 ⟨rfl, hg6⟩
    have HG6 := Lib.hid (HG5.out.trans hg6)
    have HL6 := Lib.hid (HL5.out.grew hg6)
    clear hg6
    have hd6 : decide (y < m) = false := decide_eq_false (by omega)
    have hn1 : (n : Int) + 1 - 1 = (n : Int) := by omega
    go_wp2_with fail
    · refine (perms_any 5 (by omega) _).mono ?_; rintro e w7 ⟨R, P, dp, rfl, hrd, hrows, hrl, hg7⟩
      have HG7 := Lib.hid (HG6.out.trans hg7)
      have hle6 : ¬ ((n : Int) + 1 ≤ 6) := by omega
      have hle7 : (6 : Int) < (n : Int) + 1 := by omega
      clear hrd hrows hg7
      go_wp2_with fail
      go_loopw [17, 18, 19] (fun i _ _ wr => ∃ k : Nat, k ≤ R.length ∧ i = .int .i64 k ∧ wr = w7) (fun i _ _ _ => R.length - (intOf i).toNat)
      case atStart => exact ⟨0, Nat.zero_le _, rfl, rfl⟩
      case round =>
        obtain ⟨k, hk, rfl, rfl⟩ := hrel
        go_wp2_with fail
        all_goals go_ret
        all_goals go_light
        all_goals exact ⟨rfl, HG7.out⟩
    · refine (perms_any n (by omega) _).mono ?_; rintro e w7 ⟨R, P, dp, rfl, hrd, hrows, hrl, hg7⟩
      have HG7 := Lib.hid (HG6.out.trans hg7)
      have HL7 := Lib.hid (HL6.out.grew hg7)
      have HRD := Lib.hid hrd
      have HRS := Lib.hid hrows
      have hle6 : (n : Int) + 1 ≤ 6 := by omega
      clear hrd hrows hg7
      go_wp2_with fail
      go_loopw [17, 18, 19] (fun i _ _ wr => ∃ k : Nat, k ≤ R.length ∧ i = .int .i64 k ∧ Grew w7 wr) (fun i _ _ _ => R.length - (intOf i).toNat)
      case atStart => exact ⟨0, Nat.zero_le _, rfl, Grew.refl _⟩
      case round =>
        obtain ⟨k, hk, rfl, hgk⟩ := hrel
        have HGK := Lib.hid hgk
        clear hgk
        by_cases hlt : k < R.length
        · obtain ⟨x, hx⟩ : ∃ x, R[k]? = some x := ⟨_, List.getElem?_eq_getElem hlt⟩
          have hpx := (HRS.out x (List.mem_of_getElem? hx)).grew HGK.out
          have hxl : x.l.length = n := hpx.len
          have HXL := Lib.hid hxl
          obtain ⟨z, hz1, hz2⟩ := HALL.out x.l hpx.2.1
          have HZ := Lib.hid hz1
          have hd7 : decide (z < m) = false := decide_eq_false (by omega)
          have hd8 : m ≤ z := hz2
          obtain ⟨bo, oo, rfl, hbo, hco⟩ := (HRD.out.grew HGK.out).at_ hlt
          have hcell := PRow.at_ hco hx
          rw [hxl] at hcell
          have HPX := Lib.hid hpx.1
          have HLk := Lib.hid (HL7.out.grew HGK.out)
          have hi1 : (0 : Int) ≤ (k : Int) := by omega
          have hi2 : (k : Int) < (R.length : Int) := by omega
          clear hx hpx hxl hco hz1 hz2
          go_wp2_with fail
          refine (setE_spec (n := n) HZ.out HLL.out HXL.out _ _ _ _ _ HLk.out HRW.out (by have := HLL.out; omega) HPX.out (by have := HXL.out; omega)).mono ?_; rintro e wa ⟨rfl, hga⟩
          have HGa := Lib.hid (HGK.out.trans hga)
          clear hga hcell
          go_wp2_with fail
          go_roundw
          case rel => go_light; exact ⟨k + 1, by omega, by go_num, HGa.out⟩
          case measure => go_light; simp [intOf]; omega
        · obtain rfl : k = R.length := by omega
          go_wp2_with fail
          go_ret
          go_light
          exact ⟨rfl, HG7.out.trans HGK.out⟩

set_option maxRecDepth 100000 in
theorem lifted (os : Os) (started : os.Started) (H : Type) (enc : TypeId × Value → H) :
    ReturnsInHanded {} Try.checked os 7 .any (Rows.fnSetupsSpec.pre6 enc Try.prog Try.f7 Rows.fnSetupsRow.domain false) (Rows.fnSetupsSpec.post enc Try.prog Try.f7 false true false false) := by
  refine returnsInHanded_of_change (C := Try.checked) own started (by kernel_rfl) Try.func7
    (ChangeSpec.witness6 (enc := enc) (C := Try.checked) false ⟨#[], #[.slice none 0 0], []⟩ 8 (by kernel_rfl) (by kernel_rfl) (by kernel_rfl) (by kernel_rfl)) ?_
  intro W base args ds gs before hval0 hW hcnd _
  have hval : ∀ (j : Nat) t v, Try.f7.params[j]? = some t → args[j]? = some v → Value.okWide Try.prog W .any base t v := hval0
  have hW' := hW
  obtain ⟨p, q, hA0, hV, rfl, hfz, hnd⟩ := hW
  have hA : DataW.TrodAll enc Try.prog W 0 (fun _ => true) true Try.f7.params.toList args.toList ds p := hA0
  rw [Try.params7] at hA hval
  obtain ⟨v0, vs0, d0, ds0, p0, q0, hargs, rfl, rfl, h0, r0⟩ := trodAll_cons hA
  obtain ⟨rfl, rfl, rfl⟩ := trodAll_nil r0
  obtain rfl : args = #[v0] := by cases args; simp_all
  obtain ⟨code, A, c, rfl, r_code, q1_code, q2_code⟩ := Byt.open_ (hval 0 38 v0 rfl rfl) h0
  refine (walk W code A c r_code ⟨q1_code, q2_code⟩).mono fun e W' ⟨he, hg⟩ => ?_
  subst he
  exact ⟨_, rfl, law_step (tb := 4) laidOut (by rw [Try.params7]; exact pars_of (by kernel_rfl)) rfl hW' rfl rfl rfl (by kernel_rfl) Try.underlying4 hg⟩

theorem over : Rows.fnSetupsRow.holds Try.pinned (OpenSpec.ofChange Rows.fnSetupsSpec) :=
  OpenClaim.holds_of_wide 7 Try.f7 rfl rfl rfl rfl rfl rfl rfl ⟨rfl, rfl, rfl, rfl, rfl⟩ rfl rfl rfl rfl rfl (by kernel_rfl) Try.func7 (by kernel_rfl)
    (of_decide_eq_true (by kernel_rfl)) (by unfold Func.isWrapper; first | (rw [if_pos (by decide +kernel)]; kernel_rfl) | (rw [if_neg (by decide +kernel)]; exact ⟨rfl, rfl⟩))
    (fun os started H enc _ => lifted os started H enc)

theorem proved : Rows.FnSetupsSaid := over
end fnSetups
end Go.Proofs.Ytfplgagdjdhopaa
