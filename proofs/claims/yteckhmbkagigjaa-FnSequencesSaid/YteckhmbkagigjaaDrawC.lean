/- The draws of tasks: few, in the machine's range; nothing old but the cursor is written. Conditions: none. -/
import Derived.Test.YteckhmbkagigjaaTask
import Derived.Test.YteckhmbkagigjaaOwn
import Derived.Test.YteckhmbkagigjaaDrawO
namespace Go.Proofs.Yteckhmbkagigjaa
open Go.RowKit Go.ChangeShapes Go.WideShapes Go.Deep
set_option linter.unusedVariables false
set_option linter.unusedSimpArgs false

theorem sl_Tsk : SlInf Try.prog Tsk.E 29 47 := info_sl Try.underlying29 info_impl_Tsk rfl rfl (by decide)
theorem set_by (w : World) (b j : Nat) (u : Value) : w.grownBy (w.setCell ⟨b, j, none⟩ u) (some b) := ⟨rfl, rfl, rfl, by simp, fun k _ hk => heap_setCell_other w ⟨b, j, none⟩ k u (fun e => hk (by rw [e]))⟩
theorem Cur.store {w0 w w' : World} {g c b : Nat} {A : Option Addr} {l : List UInt8} (h : Cur w g A c l) (h0 : Rd Byt.E w0 A l) (hg : g ≠ b) (hb : w0.heap.size ≤ b) (hgr : w.grownBy w' (some b)) : Cur w' g A c l :=
  h.kept hgr (by simp; omega) (fun hp b' o e e2 => by
    obtain ⟨b2, o2, e3, hb2, _⟩ := h0 hp
    rw [e] at e3
    simp only [Option.some.injEq, Addr.mk.injEq, and_true] at e3 e2
    omega)
theorem only_store {w0 w w' : World} {g b : Nat} (h : w0.grownBy w (some g)) (hb : w0.heap.size ≤ b) (hgr : w.grownBy w' (some b)) : w0.grownBy w' (some g) :=
  ⟨hgr.os.trans h.os, hgr.tape.trans h.tape, hgr.output.trans h.output, Nat.le_trans h.size hgr.size, fun j hj hne =>
    (hgr.block j (Nat.lt_of_lt_of_le hj h.size) (fun e => by injection e with e; omega)).trans (h.block j hj hne)⟩
theorem own_cur {T : Type} {E : Enc T} {t : TypeId} {w w' : World} {base g : Nat} {v : Value} {l : List T} (h : Own E t w base v l) (hg : g < base) (k : w.grownBy w' (some g)) : Own E t w' base v l := h.kept k (.inr (h.ne_ (.inl hg)))
set_option maxRecDepth 100000 in
set_option maxHeartbeats 8000000 in
theorem l23Tasks_any (w : World) (g c : Nat) (A : Option Addr) (l : List UInt8) (h : Cur w g A c l) :
    Calls Try.prog 49 #[.pointer (some ⟨g, 0, none⟩)] w fun e w' => ∃ (m : List Tsk) (B : Option Addr) (d : Nat), e = .returned (.slice B m.length d) ∧ m.length ≤ 5 ∧ (∀ x ∈ m, x.Ok) ∧ Own Tsk.E 47 w' w.heap.size (.slice B m.length d) m ∧ Cur w' g A c l ∧ w.grownBy w' (some g) := by
  have HC := Lib.hid h
  have hgl : g < w.heap.size := h.1
  have H0 := Lib.hid h.2.2.2.2.2.1
  clear h
  go_enter Try.func49, Try.ntmps49
  go_wp2_with fail
  refine (l1Below_any _ _ _ _ _ 6 (HC.out.grew ((Grew.refl _).alloc _)) (by omega)).mono ?_; rintro e w1 ⟨n, rfl, hn0, hn1, hn2, hc1, hg1⟩
  have HC1 := Lib.hid hc1
  have HO1 := Lib.hid (own_cur (Own.new_ (E := Tsk.E) (t := 47) (Nat.le_refl w.heap.size)) hgl hg1)
  have HG1 := Lib.hid ((World.grownBy_alloc w _ _).trans hg1)
  have hn3 := hn1 (by omega)
  clear hc1 hg1 hn1 hn2
  go_wp2_with fail
  go_loopw [3, 4] (fun v i wr => ∃ (m : List Tsk) (j : Int) (B : Option Addr) (d : Nat), 0 ≤ j ∧ (m.length : Int) + j ≤ 5 ∧ i = .int .i64 j ∧ v = .slice B m.length d ∧ (∀ x ∈ m, x.Ok) ∧ Own Tsk.E 47 wr w.heap.size v m ∧ Cur wr g A c l ∧ w.grownBy wr (some g)) (fun _ i _ => (intOf i).toNat)
  case atStart => exact ⟨[], n, _, _, by omega, by simp; omega, rfl, rfl, by simp, HO1.out, HC1.out, HG1.out⟩
  case round =>
    obtain ⟨m, j, B, d, hj0, hj1, rfl, rfl, hok, hown, hcur, hgr⟩ := hrel
    have HO := Lib.hid hown
    have HCU := Lib.hid hcur
    have HG := Lib.hid hgr
    have HOK := Lib.hid hok
    clear hown hcur hgr hok HC1 HO1 HG1
    by_cases hj : 0 < j
    · go_wp2_with fail
      refine (l1Below_any _ _ _ _ _ 20 HCU.out (by omega)).mono ?_; rintro e w2 ⟨x1, rfl, ha0, ha1, ha2, hc2, hg2⟩
      have HC2 := Lib.hid hc2
      have HO2 := Lib.hid (own_cur HO.out hgl hg2)
      have HG2 := Lib.hid (HG.out.trans hg2)
      have ha3 := ha1 (by omega)
      clear ha1 ha2 hc2 hg2
      go_wp2_with fail
      refine (l1Below_any _ _ _ _ _ 60 HC2.out (by omega)).mono ?_; rintro e w3 ⟨x2, rfl, hb0, hb1, hb2, hc2, hg2⟩
      have HC3 := Lib.hid hc2
      have HO3 := Lib.hid (own_cur HO2.out hgl hg2)
      have HG3 := Lib.hid (HG2.out.trans hg2)
      have hb3 := hb1 (by omega)
      clear hb1 hb2 hc2 hg2
      go_wp2_with fail
      refine (l1Below_any _ _ _ _ _ 5 HC3.out (by omega)).mono ?_; rintro e w4 ⟨x3, rfl, hd0, hd1, hd2, hc2, hg2⟩
      have HC4 := Lib.hid hc2
      have HO4 := Lib.hid (own_cur HO3.out hgl hg2)
      have HG4 := Lib.hid (HG3.out.trans hg2)
      have hd3 := hd1 (by omega)
      clear hd1 hd2 hc2 hg2
      have HX := Lib.hid (show (⟨1 + x1, x2, 1 + x3⟩ : Tsk).Ok from ⟨trivial, (show i64B (1 + x1) from by unfold i64B; omega).wf, (show i64B x2 from by unfold i64B; omega).wf, (show i64B (1 + x3) from by unfold i64B; omega).wf, trivial⟩)
      have hml : m.length < 5 := by omega
      go_wp2_with (at_builtin; refine wpList_append_rd _ rfl (.tmp 12) (.tmp 22) _ rfl sl_Tsk w.heap.size _ _ _ m rfl (HO4.out.alloc _) _ _ _ [⟨1 + x1, x2, 1 + x3⟩] rfl rfl (rd_new (E := Tsk.E) _ ⟨1 + x1, x2, 1 + x3⟩ _ rfl) (by simp only [List.length_cons, List.length_nil]; omega) (by have := HG4.out.size; simp; omega) ?_; intro A3 c3 w5 ho3 hgr3 hat3; have HO5 := Lib.hid ho3; have HC5 := Lib.hid ((HC4.out.grew ((Grew.refl _).alloc _)).app H0.out hgl (Nat.le_refl _) (HO4.out.alloc _) hgr3); have HG5 := Lib.hid (only_app (only_grew HG4.out ((Grew.refl _).alloc _)) (HO4.out.alloc _) (Nat.le_refl _) hgr3); clear ho3 hgr3 hat3)
      go_roundw
      case rel =>
        go_light
        refine ⟨m ++ [⟨1 + x1, x2, 1 + x3⟩], j - 1, A3, c3, by omega, by simp only [List.length_append, List.length_cons, List.length_nil]; omega, rfl, by simp, fun y hy => ?_, HO5.out, HC5.out, HG5.out⟩
        rcases List.mem_append.1 hy with hy | hy
        · exact HOK.out y hy
        · obtain rfl : y = _ := by simpa using hy
          exact HX.out
      case measure => go_light; simp [intOf]; omega
    · obtain rfl : j = 0 := by omega
      have hm5 : m.length ≤ 5 := by omega
      go_wp2_with fail
      refine (l1Once_any _ _ _ _ _ 14 HCU.out (by omega)).mono ?_; rintro e w3 ⟨b, rfl, hc3, hg3⟩
      have HC3 := Lib.hid hc3
      have HO3 := Lib.hid (own_cur HO.out hgl hg3)
      have HG3 := Lib.hid (HG.out.trans hg3)
      clear hc3 hg3
      cases b
      · go_wp2_with fail
        go_ret
        go_light
        exact ⟨m, B, d, rfl, hm5, HOK.out, HO3.out, HC3.out, HG3.out⟩
      · by_cases hm : 0 < m.length
        · have hd : decide ((0 : Int) < (m.length : Int)) = true := decide_eq_true (by omega)
          have hd2 : decide (0 < m.length) = true := decide_eq_true hm
          go_wp2_with fail
          refine (l1Below_any _ _ _ _ _ 3 HC3.out (by omega)).mono ?_; rintro e w4 ⟨k, rfl, hk0, hk1, hk2, hc4, hg4⟩
          have HC4 := Lib.hid hc4
          have HO4 := Lib.hid (own_cur HO3.out hgl hg4)
          have HG4 := Lib.hid (HG3.out.trans hg4)
          have hk3 := hk1 (by omega)
          clear hc4 hg4 hk1 hk2 hd hd2
          obtain ⟨x, hx⟩ : ∃ x, m[0]? = some x := ⟨_, List.getElem?_eq_getElem (by omega)⟩
          have HX := Lib.hid hx
          clear hx
          have h3 : k = 0 ∨ k = 1 ∨ k = 2 := by omega
          rcases h3 with rfl | rfl | rfl
          · go_wp2_with fail
            refine (l1PickInt_any _ g c A l [0, 1000, 1001] _ _ (HC4.out.grew ((Grew.refl _).alloc _)) (rd_ints w4 [0, 1000, 1001] _ rfl) (by decide) (by decide) (by have := HC4.out.1; omega)).mono ?_; rintro e w6 ⟨q, rfl, hq, hc6, hg6⟩
            have HQ := Lib.hid (show i64B q from by simp at hq; unfold i64B; omega)
            have HC6 := Lib.hid hc6
            have HO6 := Lib.hid (own_cur (HO4.out.alloc _) hgl hg6)
            have HG6 := Lib.hid ((only_grew HG4.out ((Grew.refl _).alloc _)).trans hg6)
            clear hq hc6 hg6
            obtain ⟨gb, db, hv, hgb1, hgb2⟩ := HO6.out.addr (by omega)
            simp only [Value.slice.injEq, true_and] at hv
            obtain ⟨rfl, rfl⟩ := hv
            have hcq := HO6.out.at_ (j := 0) HX.out rfl
            have hfz := HO6.out.frozen
            simp only [Tsk.E, Nat.zero_mul, Nat.zero_add] at hcq
            go_wp2_with fail
            go_ret
            go_light
            have HS := HO6.out.set_ (x' := ⟨q, x.d, x.wt⟩) (j := 0) (u := .int .i64 q) HX.out rfl (by decide)
            simp only [Tsk.E, Nat.zero_mul, Nat.zero_add] at HS
            refine ⟨m.set 0 ⟨q, x.d, x.wt⟩, some ⟨gb, 0, none⟩, d, by rw [List.length_set]; rfl, by rw [List.length_set]; exact hm5, fun y hy => ?_, by rw [List.length_set]; exact HS, HC6.out.store H0.out (by omega) hgb1 (set_by _ _ _ _), only_store HG6.out hgb1 (set_by _ _ _ _)⟩
            rcases List.mem_or_eq_of_mem_set hy with hy | rfl
            · exact HOK.out y hy
            · obtain ⟨_, q1, q2, q3, _⟩ := HOK.out x (List.mem_of_getElem? HX.out)
              exact ⟨trivial, HQ.out.wf, q2, q3, trivial⟩
          · go_wp2_with fail
            refine (l1Odd_any _ g c A l HC4.out).mono ?_; rintro e w6 ⟨q, rfl, hq, hc6, hg6⟩
            have HQ := Lib.hid hq
            have HC6 := Lib.hid hc6
            have HO6 := Lib.hid (own_cur HO4.out hgl hg6)
            have HG6 := Lib.hid (HG4.out.trans hg6)
            clear hq hc6 hg6
            obtain ⟨gb, db, hv, hgb1, hgb2⟩ := HO6.out.addr (by omega)
            simp only [Value.slice.injEq, true_and] at hv
            obtain ⟨rfl, rfl⟩ := hv
            have hcq := HO6.out.at_ (j := 1) HX.out rfl
            have hfz := HO6.out.frozen
            simp only [Tsk.E, Nat.zero_mul, Nat.zero_add] at hcq
            go_wp2_with fail
            go_ret
            go_light
            have HS := HO6.out.set_ (x' := ⟨x.m, q, x.wt⟩) (j := 1) (u := .int .i64 q) HX.out rfl (by decide)
            simp only [Tsk.E, Nat.zero_mul, Nat.zero_add] at HS
            refine ⟨m.set 0 ⟨x.m, q, x.wt⟩, some ⟨gb, 0, none⟩, d, by rw [List.length_set]; rfl, by rw [List.length_set]; exact hm5, fun y hy => ?_, by rw [List.length_set]; exact HS, HC6.out.store H0.out (by omega) hgb1 (set_by _ _ _ _), only_store HG6.out hgb1 (set_by _ _ _ _)⟩
            rcases List.mem_or_eq_of_mem_set hy with hy | rfl
            · exact HOK.out y hy
            · obtain ⟨_, q1, q2, q3, _⟩ := HOK.out x (List.mem_of_getElem? HX.out)
              exact ⟨trivial, q1, HQ.out.wf, q3, trivial⟩
          · go_wp2_with fail
            refine (l1PickInt_any _ g c A l [0, 100, 101] _ _ (HC4.out.grew ((Grew.refl _).alloc _)) (rd_ints w4 [0, 100, 101] _ rfl) (by decide) (by decide) (by have := HC4.out.1; omega)).mono ?_; rintro e w6 ⟨q, rfl, hq, hc6, hg6⟩
            have HQ := Lib.hid (show i64B q from by simp at hq; unfold i64B; omega)
            have HC6 := Lib.hid hc6
            have HO6 := Lib.hid (own_cur (HO4.out.alloc _) hgl hg6)
            have HG6 := Lib.hid ((only_grew HG4.out ((Grew.refl _).alloc _)).trans hg6)
            clear hq hc6 hg6
            obtain ⟨gb, db, hv, hgb1, hgb2⟩ := HO6.out.addr (by omega)
            simp only [Value.slice.injEq, true_and] at hv
            obtain ⟨rfl, rfl⟩ := hv
            have hcq := HO6.out.at_ (j := 2) HX.out rfl
            have hfz := HO6.out.frozen
            simp only [Tsk.E, Nat.zero_mul, Nat.zero_add] at hcq
            go_wp2_with fail
            go_ret
            go_light
            have HS := HO6.out.set_ (x' := ⟨x.m, x.d, q⟩) (j := 2) (u := .int .i64 q) HX.out rfl (by decide)
            simp only [Tsk.E, Nat.zero_mul, Nat.zero_add] at HS
            refine ⟨m.set 0 ⟨x.m, x.d, q⟩, some ⟨gb, 0, none⟩, d, by rw [List.length_set]; rfl, by rw [List.length_set]; exact hm5, fun y hy => ?_, by rw [List.length_set]; exact HS, HC6.out.store H0.out (by omega) hgb1 (set_by _ _ _ _), only_store HG6.out hgb1 (set_by _ _ _ _)⟩
            rcases List.mem_or_eq_of_mem_set hy with hy | rfl
            · exact HOK.out y hy
            · obtain ⟨_, q1, q2, q3, _⟩ := HOK.out x (List.mem_of_getElem? HX.out)
              exact ⟨trivial, q1, q2, HQ.out.wf, trivial⟩
        · have hd : decide ((0 : Int) < (m.length : Int)) = false := decide_eq_false (by omega)
          have hd2 : decide (0 < m.length) = false := decide_eq_false hm
          go_wp2_with fail
          go_ret
          go_light
          exact ⟨m, B, d, rfl, hm5, HOK.out, HO3.out, HC3.out, HG3.out⟩

set_option maxRecDepth 100000 in
set_option maxHeartbeats 4000000 in
theorem drawEarliest_any (w : World) (c : Nat) (A : Option Addr) (l : List UInt8) (h : Rd Byt.E w A l) (hl : l.length ≤ 1048576) :
    Calls Try.prog 37 #[.slice A l.length c] w fun e w' => ∃ (m : List Tsk) (B : Option Addr) (d : Nat), e = .returned (.slice B m.length d) ∧ m.length ≤ 5 ∧ (∀ x ∈ m, x.Ok) ∧ Rd Tsk.E w' B m ∧ Grew w w' := by
  have HL := Lib.hid h
  clear h
  go_enter Try.func37, Try.ntmps37
  go_wp2_with fail
  refine (l1New_any _ _ _ _ HL.out hl).mono ?_; rintro e w1 ⟨g, rfl, hc1, hg1, hgs⟩
  have HC1 := Lib.hid hc1
  have HG1 := Lib.hid hg1
  clear hc1 hg1
  go_wp2_with fail
  refine (l23Tasks_any _ g _ _ _ HC1.out).mono ?_; rintro e w2 ⟨m, B, d, rfl, h5, hm, ho2, hc2, hg2⟩
  have HO2 := Lib.hid ho2
  have HG2 := Lib.hid (grew_only HG1.out hg2 hgs)
  have HM := Lib.hid hm
  clear ho2 hc2 hg2 hm
  go_wp2_with fail
  go_ret
  go_light
  exact ⟨m, B, d, rfl, h5, HM.out, HO2.out.rd, HG2.out⟩
end Go.Proofs.Yteckhmbkagigjaa
