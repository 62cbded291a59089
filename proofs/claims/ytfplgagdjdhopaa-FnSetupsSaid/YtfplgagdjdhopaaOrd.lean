/- Orders: IsOrder of the program and of the reference return what a plain function returns. Conditions: none. -/
import Derived.Test.YtfplgagdjdhopaaInts
namespace Go.Proofs.Ytfplgagdjdhopaa
open Go.RowKit Go.ChangeShapes Go.WideShapes Go.Deep
set_option linter.unusedVariables false
set_option linter.unusedSimpArgs false

def ordOk (l : List Int) (i : Nat) : Bool := inB (l.getD i 0) 0 ((l.length : Int) - 1) && !((l.take i).contains (l.getD i 0))
def ordB (l : List Int) (n : Int) : Bool := decide ((l.length : Int) = n) && allTo (ordOk l) l.length

theorem info_bool : (Try.prog.info? 4).map (fun i => (i.zero, i.size, i.bytes)) = some (some (.bool false), 1, 1) := by kernel_rfl
def seenL (l : List Int) (k : Nat) : List Value := (List.range l.length).map fun (j : Nat) => Value.bool ((l.take k).contains (j : Int))
theorem seenL_get {l : List Int} {k j : Nat} (hj : j < l.length) : (seenL l k)[j]? = some (.bool ((l.take k).contains (j : Int))) := by
  simp [seenL, List.getElem?_map, List.getElem?_range hj]
theorem seenL_zero (l : List Int) : seenL l 0 = (madeCells (Value.cells (.bool false)) (l.length * 1)).toList := by
  apply List.ext_getElem?
  intro i
  by_cases h : i < l.length
  · rw [seenL_get h]
    simp [madeCells, Value.cells, h, List.getElem?_range, Nat.mod_one]
  · simp [seenL, madeCells, h]
theorem seenL_set {l : List Int} {k m : Nat} (hk : l[k]? = some (m : Int)) (hm : m < l.length) : (seenL l k).set m (.bool true) = seenL l (k + 1) := by
  apply List.ext_getElem?
  intro i
  by_cases h : i < l.length
  · rw [List.getElem?_set, seenL_get h, seenL_get h, List.take_add_one, hk]
    by_cases hi : m = i
    · subst hi
      simp [seenL, h]
    · rw [if_neg hi]
      have : ((i : Int) == (m : Int)) = false := by simp; omega
      simp
      intro h9
      omega
  · simp [seenL, h]

set_option maxHeartbeats 2000000 in
theorem isOrder_impl (l : List IntS) (A : Option Addr) (c : Nat) (n : Int) (w : World) (h : Rd IntS.E w A l) (hn : l.length ≤ 4194304) :
    Calls Try.prog 31 #[.slice A l.length c, .int .i64 n] w fun e w' => e = .returned (.bool (ordB l n)) ∧ Grew w w' := by
  by_cases hln : (l.length : Int) = n
  case neg =>
    have HF := Lib.hid (show ordB l n = false by simp [ordB, hln])
    have hne : ((l.length : Int) != n) = true := by simpa using hln
    clear h
    by_cases hn0 : n < 0
    all_goals
      go_enter Try.func31, Try.ntmps31
      go_wp2_with fail
      go_ret
      go_light
      exact ⟨ret_bool HF.out.symm, Grew.refl _⟩
  subst hln
  have HF := Lib.hid (show ordB l l.length = allTo (ordOk l) l.length by simp [ordB])
  have hnl : ¬ (l.length : Int) < 0 := by omega
  obtain ⟨i0, hi0, hz0, hz1, hz2⟩ := info_parts info_bool
  go_enter Try.func31, Try.ntmps31
  go_wp2_with (at_make; refine wpList_make_full _ rfl _ _ _ rfl w.heap.size 4 i0 _ 1 Try.underlying44 hi0 hz0 hz1 _ _ _ _ l.length rfl rfl rfl rfl (by rw [hz2]; omega) (by simp only [maxLen]; omega) (Nat.le_refl _) ?_; intro w1 hown1 hgr1)
  have hg1 : Grew w w1 := (Grew.refl w).grown hgr1 (by simp)
  go_loopw [20] (fun i wr => ∃ k : Nat, k ≤ l.length ∧ i = .int .i64 k ∧ Grew w wr ∧ allTo (ordOk l) k = true ∧ wr.ownsRow w.heap.size 4 1 (.slice (some ⟨w.heap.size, 0, none⟩) l.length l.length) l.length (seenL l k)) (fun i _ => l.length - (intOf i).toNat)
  case atStart => exact ⟨0, Nat.zero_le _, rfl, hg1, rfl, by rw [seenL_zero]; exact hown1⟩
  case round =>
    obtain ⟨k, hk, rfl, hg, hall, hown⟩ := hrel
    have HALL := Lib.hid hall
    have HG := Lib.hid hg
    have HO := Lib.hid hown
    clear hown1 hgr1 hg1 hall hown hi0 hz0 hz1 hz2
    by_cases hlt : k < l.length
    · obtain ⟨x, hx⟩ : ∃ x, l[k]? = some x := ⟨_, List.getElem?_eq_getElem hlt⟩
      obtain ⟨b, o, rfl, hb, hc⟩ := (h.grew hg).at_ hlt
      have hc0 := IntS.at_ hc hx
      have HK := Lib.hid (show ordOk l k = (inB x 0 ((l.length : Int) - 1) && !((l.take k).contains x)) by simp [ordOk, List.getD_eq_getElem?_getD, hx])
      have HX := Lib.hid hx
      clear hx hc hg h
      cases hin : inB x 0 ((l.length : Int) - 1)
      · go_wp2_with (go_at_call 29; refine (in_any _ _ _ _).mono ?_; rintro e w' ⟨rfl, rfl⟩)
        go_ret
        go_light
        exact ⟨ret_bool (by rw [HF.out, allTo_not hlt (by rw [HK.out, hin]; rfl)]), HG.out⟩
      · have hinb := inB_iff.1 hin
        obtain ⟨m, rfl⟩ := Int.eq_ofNat_of_zero_le hinb.1
        have hml : m < l.length := by omega
        have hcell : wr.cell? ⟨w.heap.size, m, none⟩ = some (.bool ((l.take k).contains (m : Int))) := by
          rw [HO.out.cellAt m (by omega), seenL_get hml]
        have hf2 : ∀ j, wr.frozen? ⟨w.heap.size, j, none⟩ = false := fun j => HO.out.frozenAt j
        cases hcon : (l.take k).contains (m : Int)
        · have HCON := Lib.hid hcon
          rw [hcon] at hcell
          clear hcon
          go_wp2_with (go_at_call 29; refine (in_any _ _ _ _).mono ?_; rintro e w' ⟨rfl, rfl⟩)
          go_roundw
          case rel =>
            go_light
            refine ⟨k + 1, by omega, by go_num, HG.out.setCell (by simp) _, allTo_step HALL.out (by rw [HK.out, hin, HCON.out]; rfl), ?_⟩
            have h5 := (HO.out.stored m (.bool true)).1
            rwa [seenL_set HX.out hml] at h5
          case measure => go_light; simp [intOf]; omega
        · have HCON := Lib.hid hcon
          rw [hcon] at hcell
          clear hcon
          go_wp2_with (go_at_call 29; refine (in_any _ _ _ _).mono ?_; rintro e w' ⟨rfl, rfl⟩)
          go_ret
          go_light
          exact ⟨ret_bool (by rw [HF.out, allTo_not hlt (by rw [HK.out, hin, HCON.out]; rfl)]), HG.out⟩
    · obtain rfl : k = l.length := by omega
      clear h
      go_wp2_with fail
      go_ret
      go_light
      exact ⟨ret_bool (by rw [HF.out, HALL.out]), HG.out⟩
end Go.Proofs.Ytfplgagdjdhopaa
