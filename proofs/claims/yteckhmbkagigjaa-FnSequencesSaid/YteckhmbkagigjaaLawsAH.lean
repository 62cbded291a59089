/- The law on sequences: no order is better than the three. Conditions: none. -/
import Derived.Test.YteckhmbkagigjaaSeqR
import Derived.Test.YteckhmbkagigjaaPerm
import Derived.Test.YteckhmbkagigjaaDrawC
import Derived.Test.YteckhmbkagigjaaFewI
import Derived.Test.YteckhmbkagigjaaEndsS
import Derived.Deep.RegionHeld3
namespace Go.Proofs.Yteckhmbkagigjaa
open Go.ChangeShapes Go.WideShapes Go.ChangeAt Go.RowKit Go.Joins Go.Deep
set_option linter.unusedVariables false
set_option linter.unusedSimpArgs false

theorem big_any (l : List UInt8) (A : Option Addr) (c : Nat) (w : World) (hl : l.length ≤ maxLen) :
    Calls Try.prog 36 #[.slice A l.length c] w fun e w' => e = .returned (.bool (decide ((1048576 : Int) < l.length))) ∧ w = w' := by
  unfold maxLen at hl
  go_enter Try.func36, Try.ntmps36
  go_wp2_with fail
  go_ret
  go_light
  exact ⟨rfl, rfl⟩

theorem earliestE {l : List Tsk} {o : List Int} {n : Nat} (ho : ordF dueC l = o) (hn' : n = o.length) (A : Option Addr) (c : Nat) (w : World) (h : Rd Tsk.E w A l) (hn : l.length ≤ 4194304) :
    Calls Try.prog 28 #[.slice A l.length c] w fun e w' => ∃ A' c', e = .returned (.slice A' n c') ∧ Rd IntS.E w' A' o ∧ Grew w w' := by
  subst hn'; subst ho
  exact (earliest_impl l A c w h hn).mono (by rintro e w' ⟨A', c', rfl, h1, h2⟩; exact ⟨A', c', rfl, h1.rd, h2⟩)
theorem shortestE {l : List Tsk} {o : List Int} {n : Nat} (ho : ordF wtC l = o) (hn' : n = o.length) (A : Option Addr) (c : Nat) (w : World) (h : Rd Tsk.E w A l) (hn : l.length ≤ 4194304) :
    Calls Try.prog 33 #[.slice A l.length c] w fun e w' => ∃ A' c', e = .returned (.slice A' n c') ∧ Rd IntS.E w' A' o ∧ Grew w w' := by
  subst hn'; subst ho
  exact (shortest_impl l A c w h hn).mono (by rintro e w' ⟨A', c', rfl, h1, h2⟩; exact ⟨A', c', rfl, h1.rd, h2⟩)
theorem fewestE {l : List Tsk} {o : List Int} {n : Nat} (ho : flF l = o) (hn' : n = o.length) (A : Option Addr) (c : Nat) (w : World) (h : Rd Tsk.E w A l) (hn : l.length ≤ 4194304) :
    Calls Try.prog 35 #[.slice A l.length c] w fun e w' => ∃ A' c', e = .returned (.slice A' n c') ∧ Rd IntS.E w' A' o ∧ Grew w w' := by
  subst hn'; subst ho
  exact (fewest_impl l A c w h hn).mono (by rintro e w' ⟨A', c', rfl, h1, h2⟩; exact ⟨A', c', rfl, h1.rd, h2⟩)
theorem latenessInE_impl {l : List Tsk} {o : List Int} {n : Nat} {x : Int} {b : Bool} (hv : sumF max (-100000) gLns l o = (x, b)) (hn' : n = o.length) (A : Option Addr) (c : Nat) (B : Option Addr) (d : Nat) (w : World) (h : Rd Tsk.E w A l) (hn : l.length ≤ 4194304) (h' : Rd IntS.E w B o) (hm : o.length ≤ 4194304) :
    Calls Try.prog 24 #[.slice A l.length c, .slice B n d] w fun e w' => e = .returned (.tuple #[.int .i64 x, .bool b]) ∧ Grew w w' := by
  subst hn'
  have := latenessIn_impl l A c o B d w h hn h' hm
  rw [hv] at this
  exact this
theorem waitInE_impl {l : List Tsk} {o : List Int} {n : Nat} {x : Int} {b : Bool} (hv : sumF (· + ·) 0 gWt l o = (x, b)) (hn' : n = o.length) (A : Option Addr) (c : Nat) (B : Option Addr) (d : Nat) (w : World) (h : Rd Tsk.E w A l) (hn : l.length ≤ 4194304) (h' : Rd IntS.E w B o) (hm : o.length ≤ 4194304) :
    Calls Try.prog 22 #[.slice A l.length c, .slice B n d] w fun e w' => e = .returned (.tuple #[.int .i64 x, .bool b]) ∧ Grew w w' := by
  subst hn'
  have := waitIn_impl l A c o B d w h hn h' hm
  rw [hv] at this
  exact this
theorem lateInE_impl {l : List Tsk} {o : List Int} {n : Nat} {x : Int} {b : Bool} (hv : sumF (· + ·) 0 gLt l o = (x, b)) (hn' : n = o.length) (A : Option Addr) (c : Nat) (B : Option Addr) (d : Nat) (w : World) (h : Rd Tsk.E w A l) (hn : l.length ≤ 4194304) (h' : Rd IntS.E w B o) (hm : o.length ≤ 4194304) :
    Calls Try.prog 26 #[.slice A l.length c, .slice B n d] w fun e w' => e = .returned (.tuple #[.int .i64 x, .bool b]) ∧ Grew w w' := by
  subst hn'
  have := lateIn_impl l A c o B d w h hn h' hm
  rw [hv] at this
  exact this
theorem latenessInE_spec {l : List Tsk} {o : List Int} {n : Nat} {x : Int} {b : Bool} (hv : sumF max (-100000) gLns l o = (x, b)) (hn' : n = o.length) (A : Option Addr) (c : Nat) (B : Option Addr) (d : Nat) (w : World) (h : Rd Tsk.E w A l) (hn : l.length ≤ 4194304) (h' : Rd IntS.E w B o) (hm : o.length ≤ 4194304) :
    Calls Try.prog 23 #[.slice A l.length c, .slice B n d] w fun e w' => e = .returned (.tuple #[.int .i64 x, .bool b]) ∧ Grew w w' := by
  subst hn'
  have := latenessIn_spec l A c o B d w h hn h' hm
  rw [hv] at this
  exact this
theorem waitInE_spec {l : List Tsk} {o : List Int} {n : Nat} {x : Int} {b : Bool} (hv : sumF (· + ·) 0 gWt l o = (x, b)) (hn' : n = o.length) (A : Option Addr) (c : Nat) (B : Option Addr) (d : Nat) (w : World) (h : Rd Tsk.E w A l) (hn : l.length ≤ 4194304) (h' : Rd IntS.E w B o) (hm : o.length ≤ 4194304) :
    Calls Try.prog 21 #[.slice A l.length c, .slice B n d] w fun e w' => e = .returned (.tuple #[.int .i64 x, .bool b]) ∧ Grew w w' := by
  subst hn'
  have := waitIn_spec l A c o B d w h hn h' hm
  rw [hv] at this
  exact this
theorem lateInE_spec {l : List Tsk} {o : List Int} {n : Nat} {x : Int} {b : Bool} (hv : sumF (· + ·) 0 gLt l o = (x, b)) (hn' : n = o.length) (A : Option Addr) (c : Nat) (B : Option Addr) (d : Nat) (w : World) (h : Rd Tsk.E w A l) (hn : l.length ≤ 4194304) (h' : Rd IntS.E w B o) (hm : o.length ≤ 4194304) :
    Calls Try.prog 25 #[.slice A l.length c, .slice B n d] w fun e w' => e = .returned (.tuple #[.int .i64 x, .bool b]) ∧ Grew w w' := by
  subst hn'
  have := lateIn_spec l A c o B d w h hn h' hm
  rw [hv] at this
  exact this
theorem areE {l : List Tsk} {v : Bool} (hv : areT l = v) (A : Option Addr) (c : Nat) (w : World) (h : Rd Tsk.E w A l) (hn : l.length ≤ 4194304) :
    Calls Try.prog 17 #[.slice A l.length c] w fun e w' => e = .returned (.bool v) ∧ Grew w w' := hv ▸ areTasks_spec l A c w h hn
theorem okO_perm {l : List Tsk} {o : List Int} (ha : areT l = true) (h : o.Perm (idxs l.length)) : okO l o = true := by simp only [okO, ha, ordB_mk h, Bool.and_self]
theorem perm_okO {l : List Tsk} {o : List Int} (h : okO l o = true) : o.length = l.length := by
  simp only [okO, Bool.and_eq_true] at h
  rw [(ordB_perm h.2).length_eq, idxs_len]
theorem sumF_ok {op : Int → Int → Int} {z : Int} {g : Int → Tsk → Int} {l : List Tsk} {o : List Int} (h : okO l o = true) : sumF op z g l o = ((sumF op z g l o).1, true) := by
  simp [sumF, h]

namespace fnSequences
set_option maxRecDepth 100000 in
set_option maxHeartbeats 40000000 in
theorem walk (w : World) (code : List UInt8) (A : Option Addr) (c : Nat) (r_code : Rd Byt.E w A code) (q_code : code.length ≤ c ∧ c ≤ maxLen) :
    Calls Try.prog 11 #[.slice A code.length c] w fun e w' => e = .returned (.bool true) ∧ Grew w w' := by
  have hql := q_code
  by_cases hbig : (1048576 : Int) < (code.length : Int)
  · have hb : decide ((1048576 : Int) < (code.length : Int)) = true := by simpa using hbig
    go_enter Try.func11, Try.ntmps11
    go_wp2_with fail
    refine (big_any code _ _ _ (by omega)).mono ?_; rintro e w0 ⟨rfl, rfl⟩
    go_wp2_with fail
    go_ret
    go_light
    exact ⟨rfl, Grew.refl _⟩
  have hb : decide ((1048576 : Int) < (code.length : Int)) = false := by simpa using hbig
  have HR := Lib.hid r_code
  clear r_code
  go_enter Try.func11, Try.ntmps11
  go_wp2_with fail
  refine (big_any code _ _ _ (by omega)).mono ?_; rintro e w0 ⟨rfl, rfl⟩
  go_wp2_with fail
  refine (drawEarliest_any _ _ _ code HR.out (by omega)).mono ?_; rintro e w1 ⟨l, B, d, rfl, h5, hok, hrd, hg1⟩
  have HL := Lib.hid hrd
  have HG1 := Lib.hid hg1
  clear hrd hok hg1
  cases har : areT l
  · have HA := Lib.hid har
    have HE := Lib.hid (show ordF dueC l = [] by simp [ordF, har])
    have HW := Lib.hid (show ordF wtC l = [] by simp [ordF, har])
    have HF := Lib.hid (show flF l = [] by
      have h0 := HE.out
      show (flTo l (ordF dueC l) (ordF dueC l).length).1 ++ (flTo l (ordF dueC l) (ordF dueC l).length).2.1 = []
      rw [h0]; rfl)
    clear har
    go_wp2_with fail
    refine (earliestE (n := 0) HE.out rfl _ _ _ HL.out (by omega)).mono ?_; rintro e w2 ⟨A2, c2, rfl, ho2, hg2⟩
    have HG2 := Lib.hid (HG1.out.trans hg2)
    have HL2 := Lib.hid (HL.out.grew hg2)
    clear ho2 hg2
    go_wp2_with fail
    refine (shortestE (n := 0) HW.out rfl _ _ _ HL2.out (by omega)).mono ?_; rintro e w3 ⟨A3, c3, rfl, ho3, hg3⟩
    have HG3 := Lib.hid (HG2.out.trans hg3)
    have HL3 := Lib.hid (HL2.out.grew hg3)
    clear ho3 hg3
    go_wp2_with fail
    refine (fewestE (n := 0) HF.out rfl _ _ _ HL3.out (by omega)).mono ?_; rintro e w4 ⟨A4, c4, rfl, ho4, hg4⟩
    have HG4 := Lib.hid (HG3.out.trans hg4)
    have HL4 := Lib.hid (HL3.out.grew hg4)
    clear ho4 hg4
    go_wp2_with fail
    refine (areE HA.out _ _ _ HL4.out (by omega)).mono ?_; rintro e w5 ⟨rfl, h5⟩
    have HG5 := Lib.hid (HG4.out.trans h5)
    clear h5
    have hd5 : decide ((5 : Int) < (l.length : Int)) = false := decide_eq_false (by omega)
    go_wp2_with fail
    go_ret
    go_light
    exact ⟨ret_bool (by simp), HG5.out⟩
  · have hso := seq_ok har
    have HA := Lib.hid har
    have HSO := Lib.hid hso
    obtain ⟨oa, hoa⟩ : ∃ o, ordF dueC l = o := ⟨_, rfl⟩
    obtain ⟨ob, hob⟩ : ∃ o, ordF wtC l = o := ⟨_, rfl⟩
    obtain ⟨oc, hoc⟩ : ∃ o, flF l = o := ⟨_, rfl⟩
    have HOA := Lib.hid hoa
    have HOB := Lib.hid hob
    have HOC := Lib.hid hoc
    have ha := perm_okO (hoa ▸ hso.o1)
    have hb2 := perm_okO (hob ▸ hso.o2)
    have hc := perm_okO (hoc ▸ hso.o3)
    obtain ⟨X, hX⟩ : ∃ x, (sumF max (-100000) gLns l oa).1 = x := ⟨_, rfl⟩
    obtain ⟨Y, hY⟩ : ∃ x, (sumF (· + ·) 0 gWt l ob).1 = x := ⟨_, rfl⟩
    obtain ⟨Z, hZ⟩ : ∃ x, (sumF (· + ·) 0 gLt l oc).1 = x := ⟨_, rfl⟩
    have HX := Lib.hid (show sumF max (-100000) gLns l oa = (X, true) by rw [sumF_ok (hoa ▸ hso.o1), hX])
    have HY := Lib.hid (show sumF (· + ·) 0 gWt l ob = (Y, true) by rw [sumF_ok (hob ▸ hso.o2), hY])
    have HZ := Lib.hid (show sumF (· + ·) 0 gLt l oc = (Z, true) by rw [sumF_ok (hoc ▸ hso.o3), hZ])
    have HBX := Lib.hid (show ∀ o, okO l o = true → X ≤ (sumF max (-100000) gLns l o).1 from fun o h => by rw [← hX, ← hoa]; exact hso.b1 o h)
    have HBY := Lib.hid (show ∀ o, okO l o = true → Y ≤ (sumF (· + ·) 0 gWt l o).1 from fun o h => by rw [← hY, ← hob]; exact hso.b2 o h)
    have HBZ := Lib.hid (show ∀ o, okO l o = true → Z ≤ (sumF (· + ·) 0 gLt l o).1 from fun o h => by rw [← hZ, ← hoc]; exact hso.b3 o h)
    have hd5 : decide ((5 : Int) < (l.length : Int)) = false := decide_eq_false (by omega)
    clear har hso hoa hob hoc hX hY hZ
    have HLA := Lib.hid ha.symm
    have HLB := Lib.hid hb2.symm
    have HLC := Lib.hid hc.symm
    have hoa5 : oa.length ≤ 4194304 := by omega
    have hob5 : ob.length ≤ 4194304 := by omega
    have hoc5 : oc.length ≤ 4194304 := by omega
    clear ha hb2 hc
    go_wp2_with fail
    refine (earliestE (n := l.length) HOA.out HLA.out _ _ _ HL.out (by omega)).mono ?_; rintro e w2 ⟨A2, c2, rfl, ho2, hg2⟩
    have HG2 := Lib.hid (HG1.out.trans hg2)
    have HL2 := Lib.hid (HL.out.grew hg2)
    have HA2 := Lib.hid ho2
    clear ho2 hg2
    go_wp2_with fail
    refine (shortestE (n := l.length) HOB.out HLB.out _ _ _ HL2.out (by omega)).mono ?_; rintro e w3 ⟨A3, c3, rfl, ho3, hg3⟩
    have HG3 := Lib.hid (HG2.out.trans hg3)
    have HL3 := Lib.hid (HL2.out.grew hg3)
    have HA3 := Lib.hid (HA2.out.grew hg3)
    have HB3 := Lib.hid ho3
    clear ho3 hg3
    go_wp2_with fail
    refine (fewestE (n := l.length) HOC.out HLC.out _ _ _ HL3.out (by omega)).mono ?_; rintro e w4 ⟨A4, c4, rfl, ho4, hg4⟩
    have HG4 := Lib.hid (HG3.out.trans hg4)
    have HL4 := Lib.hid (HL3.out.grew hg4)
    have HA4 := Lib.hid (HA3.out.grew hg4)
    have HB4 := Lib.hid (HB3.out.grew hg4)
    have HC4 := Lib.hid ho4
    clear ho4 hg4
    go_wp2_with fail
    refine (areE HA.out _ _ _ HL4.out (by omega)).mono ?_; rintro e w5 ⟨rfl, hg5⟩
    have HG5 := Lib.hid (HG4.out.trans hg5)
    have HL5 := Lib.hid (HL4.out.grew hg5)
    have HA5 := Lib.hid (HA4.out.grew hg5)
    have HB5 := Lib.hid (HB4.out.grew hg5)
    have HC5 := Lib.hid (HC4.out.grew hg5)
    clear hg5
    go_wp2_with fail
    refine (latenessInE_impl HX.out HLA.out _ _ _ _ _ HL5.out (by omega) HA5.out hoa5).mono ?_; rintro e w6 ⟨rfl, hg6⟩
    have HG6 := Lib.hid (HG5.out.trans hg6)
    have HL6 := Lib.hid (HL5.out.grew hg6)
    have HB6 := Lib.hid (HB5.out.grew hg6)
    have HC6 := Lib.hid (HC5.out.grew hg6)
    clear hg6
    go_wp2_with fail
    refine (waitInE_impl HY.out HLB.out _ _ _ _ _ HL6.out (by omega) HB6.out hob5).mono ?_; rintro e w7 ⟨rfl, hg7⟩
    have HG7 := Lib.hid (HG6.out.trans hg7)
    have HL7 := Lib.hid (HL6.out.grew hg7)
    have HC7 := Lib.hid (HC6.out.grew hg7)
    clear hg7
    go_wp2_with fail
    refine (lateInE_impl HZ.out HLC.out _ _ _ _ _ HL7.out (by omega) HC7.out hoc5).mono ?_; rintro e w8 ⟨rfl, hg8⟩
    have HG8 := Lib.hid (HG7.out.trans hg8)
    have HL8 := Lib.hid (HL7.out.grew hg8)
    clear hg8
    go_wp2_with fail
    refine (perms_any l.length h5 _).mono ?_; rintro e w9 ⟨R, P, dp, rfl, hrd, hrows, hrl, hg9⟩
    have HG9 := Lib.hid (HG8.out.trans hg9)
    have HL9 := Lib.hid (HL8.out.grew hg9)
    have HRD := Lib.hid hrd
    have HRW := Lib.hid hrows
    clear hrd hrows hg9
    go_wp2_with fail
    go_loopw [14, 15, 16, 17, 18, 19, 20] (fun i _ _ _ _ _ _ wr => ∃ k : Nat, k ≤ R.length ∧ i = .int .i64 k ∧ Grew w9 wr) (fun i _ _ _ _ _ _ _ => R.length - (intOf i).toNat)
    case atStart => exact ⟨0, Nat.zero_le _, rfl, Grew.refl _⟩
    case round =>
      obtain ⟨k, hk, rfl, hgk⟩ := hrel
      have HGK := Lib.hid hgk
      clear hgk
      by_cases hlt : k < R.length
      · obtain ⟨x, hx⟩ : ∃ x, R[k]? = some x := ⟨_, List.getElem?_eq_getElem hlt⟩
        have hpx := (HRW.out x (List.mem_of_getElem? hx)).grew HGK.out
        have hxl : l.length = x.l.length := hpx.len.symm
        have HXL := Lib.hid hxl
        have hokx := okO_perm HA.out hpx.2.1
        obtain ⟨U, hU⟩ : ∃ u, (sumF max (-100000) gLns l x.l).1 = u := ⟨_, rfl⟩
        obtain ⟨V, hV⟩ : ∃ u, (sumF (· + ·) 0 gWt l x.l).1 = u := ⟨_, rfl⟩
        obtain ⟨W, hW⟩ : ∃ u, (sumF (· + ·) 0 gLt l x.l).1 = u := ⟨_, rfl⟩
        have HU := Lib.hid (show sumF max (-100000) gLns l x.l = (U, true) by rw [sumF_ok hokx, hU])
        have HV := Lib.hid (show sumF (· + ·) 0 gWt l x.l = (V, true) by rw [sumF_ok hokx, hV])
        have HW := Lib.hid (show sumF (· + ·) 0 gLt l x.l = (W, true) by rw [sumF_ok hokx, hW])
        have hd6 : decide (U < X) = false := decide_eq_false (by have := HBX.out x.l hokx; omega)
        have hd7 : decide (V < Y) = false := decide_eq_false (by have := HBY.out x.l hokx; omega)
        have hd8 : decide (W < Z) = false := decide_eq_false (by have := HBZ.out x.l hokx; omega)
        obtain ⟨bo, oo, rfl, hbo, hco⟩ := (HRD.out.grew HGK.out).at_ hlt
        have hcell := PRow.at_ hco hx
        rw [← hxl] at hcell
        have HCE := Lib.hid hcell
        have HPX := Lib.hid hpx.1
        have HLk := Lib.hid (HL9.out.grew HGK.out)
        have hi1 : (0 : Int) ≤ (k : Int) := by omega
        have hi2 : (k : Int) < (R.length : Int) := by omega
        have hx5 : x.l.length ≤ 4194304 := by omega
        clear hx hpx hxl hco hU hV hW hokx
        go_wp2_with fail
        refine (latenessInE_spec HU.out HXL.out _ _ _ _ _ HLk.out (by omega) HPX.out hx5).mono ?_; rintro e wa ⟨rfl, hga⟩
        have HHa := Lib.hid hga
        have hcella := (hga.rules.1 bo _ hbo).trans HCE.out
        have HLa := Lib.hid (HLk.out.grew hga)
        have HPa := Lib.hid (HPX.out.grew hga)
        have HGa := Lib.hid (HGK.out.trans hga)
        have HCa := Lib.hid hcella
        clear hga hcell
        go_wp2_with fail
        refine (waitInE_spec HV.out HXL.out _ _ _ _ _ HLa.out (by omega) HPa.out hx5).mono ?_; rintro e wb ⟨rfl, hgb⟩
        have hcellb := (hgb.rules.1 bo _ (Nat.lt_of_lt_of_le hbo HHa.out.le)).trans HCa.out
        have HLb := Lib.hid (HLa.out.grew hgb)
        have HPb := Lib.hid (HPa.out.grew hgb)
        have HGb := Lib.hid (HGa.out.trans hgb)
        clear hgb hcella
        go_wp2_with fail
        refine (lateInE_spec HW.out HXL.out _ _ _ _ _ HLb.out (by omega) HPb.out hx5).mono ?_; rintro e wc ⟨rfl, hgc⟩
        have HGc := Lib.hid (HGb.out.trans hgc)
        clear hgc hcellb
        go_wp2_with fail
        go_roundw
        case rel => go_light; exact ⟨k + 1, by omega, by go_num, HGc.out⟩
        case measure => go_light; simp [intOf]; omega
      · obtain rfl : k = R.length := by omega
        go_wp2_with fail
        go_ret
        go_light
        exact ⟨rfl, HG9.out.trans HGK.out⟩

set_option maxRecDepth 100000 in
theorem lifted (os : Os) (started : os.Started) (H : Type) (enc : TypeId × Value → H) :
    ReturnsInHanded {} Try.checked os 11 .any (Rows.fnSequencesSpec.pre6 enc Try.prog Try.f11 Rows.fnSequencesRow.domain false) (Rows.fnSequencesSpec.post enc Try.prog Try.f11 false true false false) := by
  refine returnsInHanded_of_change (C := Try.checked) own started (by kernel_rfl) Try.func11
    (ChangeSpec.witness6 (enc := enc) (C := Try.checked) false ⟨#[], #[.slice none 0 0], []⟩ 8 (by kernel_rfl) (by kernel_rfl) (by kernel_rfl) (by kernel_rfl)) ?_
  intro W base args ds gs before hval0 hW hcnd _
  have hval : ∀ (j : Nat) t v, Try.f11.params[j]? = some t → args[j]? = some v → Value.okWide Try.prog W .any base t v := hval0
  have hW' := hW
  obtain ⟨p, q, hA0, hV, rfl, hfz, hnd⟩ := hW
  have hA : DataW.TrodAll enc Try.prog W 0 (fun _ => true) true Try.f11.params.toList args.toList ds p := hA0
  rw [Try.params11] at hA hval
  obtain ⟨v0, vs0, d0, ds0, p0, q0, hargs, rfl, rfl, h0, r0⟩ := trodAll_cons hA
  obtain ⟨rfl, rfl, rfl⟩ := trodAll_nil r0
  obtain rfl : args = #[v0] := by cases args; simp_all
  obtain ⟨code, A, c, rfl, r_code, q1_code, q2_code⟩ := Byt.open_ (hval 0 39 v0 rfl rfl) h0
  refine (walk W code A c r_code ⟨q1_code, q2_code⟩).mono fun e W' ⟨he, hg⟩ => ?_
  subst he
  exact ⟨_, rfl, law_step (tb := 4) laidOut (by rw [Try.params11]; exact pars_of (by kernel_rfl)) rfl hW' rfl rfl rfl (by kernel_rfl) Try.underlying4 hg⟩

theorem over : Rows.fnSequencesRow.holds Try.pinned (OpenSpec.ofChange Rows.fnSequencesSpec) :=
  OpenClaim.holds_of_wide 11 Try.f11 rfl rfl rfl rfl rfl rfl rfl ⟨rfl, rfl, rfl, rfl, rfl⟩ rfl rfl rfl rfl rfl (by kernel_rfl) Try.func11 (by kernel_rfl)
    (of_decide_eq_true (by kernel_rfl)) (by unfold Func.isWrapper; first | (rw [if_pos (by decide +kernel)]; kernel_rfl) | (rw [if_neg (by decide +kernel)]; exact ⟨rfl, rfl⟩))
    (fun os started H enc _ => lifted os started H enc)

theorem proved : Rows.FnSequencesSaid := over
end fnSequences
end Go.Proofs.Yteckhmbkagigjaa
