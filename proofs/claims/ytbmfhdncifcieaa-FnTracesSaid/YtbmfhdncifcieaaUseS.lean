/- AreUses of the reference returns what a plain function returns. Conditions: none. -/
import Derived.Test.YtbmfhdncifcieaaUseA
import Derived.Deep.RegionHeld3
namespace Go.Proofs.Ytbmfhdncifcieaa
open Go.RowKit Go.ChangeShapes Go.WideShapes Go.Deep
set_option linter.unusedVariables false
set_option linter.unusedSimpArgs false

theorem findT_spec (s : ByteArray) (l : List ByteArray) (A : Option Addr) (c : Nat) (w : World) (h : Rd Str.E w A l.tail) (hn : l.length ≤ 1099511627776) :
    Calls Try.prog 31 #[.slice A (l.length - 1) c, .string s] w fun e w' => e = .returned (.int .i64 (findI s l.tail)) ∧ w = w' := by
  have := find_spec s l.tail A c w h (by rw [List.length_tail]; omega)
  rwa [List.length_tail] at this

set_option maxHeartbeats 4000000 in
theorem areUses_spec (l : List Use) (A : Option Addr) (c : Nat) (w : World) (h : Rd Use.E w A l) (hok : ∀ x ∈ l, x.Ok) (hn : l.length ≤ 4194304) :
    Calls Try.prog 8 #[.slice A l.length c] w fun e w' => e = .returned (.bool (areU l)) ∧ Grew w w' := by
  have HL := Lib.hid h
  have HN1 := Lib.hid (fun k hk hh => areU_no1 (l := l) (k := k) hk hh)
  have HN2 := Lib.hid (fun k hk hh => areU_no2 (l := l) (k := k) hk hh)
  have HA := Lib.hid (show areU l = (allTo (useOk l) l.length && decide ((l.length : Int) ≤ 24) && allTo (freeU l) l.length) from rfl)
  have HOK := Lib.hid hok
  clear hok h
  by_cases hl : (24 : Int) < (l.length : Int)
  · have hlp : 0 < l.length := by omega
    have HF : Hid (areU l = false) := Lib.hid (by rw [HA.out, decide_eq_false (by omega : ¬ (l.length : Int) ≤ 24)]; simp)
    go_enter Try.func8, Try.ntmps8
    go_wp2_with fail
    go_loopw [3] (fun i wr => i = .int .i64 0 ∧ w = wr) (fun _ _ => 0)
    case atStart => exact ⟨rfl, rfl⟩
    case round =>
      obtain ⟨rfl, rfl⟩ := hrel
      go_wp2_with fail
      go_loopw [4] (fun i wr => i = .int .i64 0 ∧ w = wr) (fun _ _ => 0)
      case atStart => exact ⟨rfl, rfl⟩
      case round =>
        obtain ⟨rfl, rfl⟩ := hrel
        go_wp2_with fail
        go_ret
        go_light
        exact ⟨ret_bool (by rw [HF.out]; simp; omega), Grew.refl _⟩
  have h24 : (l.length : Int) ≤ 24 := by omega
  go_enter Try.func8, Try.ntmps8
  go_wp2_with fail
  go_loopw [3] (fun i wr => ∃ k : Nat, k ≤ l.length ∧ i = .int .i64 k ∧ Grew w wr ∧ allTo (useOk l) k = true) (fun i _ => l.length - (intOf i).toNat)
  case atStart => exact ⟨0, Nat.zero_le _, rfl, Grew.refl _, rfl⟩
  case round =>
    obtain ⟨k, hk, rfl, hg, hall⟩ := hrel
    have HALL := Lib.hid hall
    have HG := Lib.hid hg
    clear hall
    by_cases hlt : k < l.length
    · obtain ⟨x, hx⟩ : ∃ x, l[k]? = some x := ⟨_, List.getElem?_eq_getElem hlt⟩
      obtain ⟨b, o, rfl, hb, hc⟩ := (HL.out.grew hg).at_ hlt
      obtain ⟨hc0, hc1, hc2⟩ := Use.at_ hc hx
      have HX := Lib.hid (HOK.out x (List.mem_of_getElem? hx))
      have HK := Lib.hid (show useOk l k = (codeB x.fr && codeB x.nt && !(x.fr.toList == x.nt.toList) && inB x.q 1 100000) by simp [useOk, List.getD_eq_getElem?_getD, hx])
      have hi3 : (k : Int) < (l.length : Int) := by omega
      clear hx hc hg
      cases heq : x.fr.toList == x.nt.toList
      all_goals
        go_wp2_with fail
        (refine wp_region_grow_lit (by kernel_rfl) (by kernel_rfl) ?_; repeat (any_goals (first | go_big_quiet_step ((first | (go_at_call 30; exact quiet_same (l1In_any _ _ _ _)) | (go_at_call 29; exact quiet_same (isCode_spec _ _ (by first | exact HX.out.2.1 | exact HX.out.2.2.1))))) | quiet_step ((first | (go_at_call 30; exact quiet_same (l1In_any _ _ _ _)) | (go_at_call 29; exact quiet_same (isCode_spec _ _ (by first | exact HX.out.2.1 | exact HX.out.2.2.1))))) | (refine wpQuiet_step (fun K hK => ?_); go_simp; split <;> rename_i hsp <;> (refine hK _ ?_; clear hK K) <;> (try first | simp only [hsp, decide_true, decide_false, Bool.not_true, Bool.not_false] | simp only [Int.not_le.2 hsp, decide_false, Bool.not_false] | simp only [Int.not_lt.2 hsp, decide_false, Bool.not_false] | simp only [Nat.not_le.2 hsp, decide_false, Bool.not_false] | simp only [Nat.not_lt.2 hsp, decide_false, Bool.not_false])))))
        all_goals (refine wpQuiet_nil ?_; intro w1 h1)
        all_goals go_wp2_with fail
        all_goals first
          | (go_ret; go_light; exact ⟨ret_bool (by rw [HN1.out k hlt (by rw [HK.out]; simp_all)]), HG.out.trans h1⟩)
          | (go_roundw
             case rel => go_light; exact ⟨k + 1, by omega, by go_num, HG.out.trans h1, allTo_step HALL.out (by rw [HK.out]; simp_all)⟩
             case measure => go_light; simp [intOf]; omega)
    · obtain rfl : k = l.length := by omega
      go_wp2_with fail
      go_loopw [4] (fun i wr => ∃ k : Nat, k ≤ l.length ∧ i = .int .i64 k ∧ Grew w wr ∧ allTo (freeU l) k = true) (fun i _ => l.length - (intOf i).toNat)
      case atStart => exact ⟨0, Nat.zero_le _, rfl, HG.out, rfl⟩
      case round =>
        obtain ⟨k, hk, rfl, hg, hall⟩ := hrel
        have HALL2 := Lib.hid hall
        have HG2 := Lib.hid hg
        clear hall
        by_cases hlt : k < l.length
        · obtain ⟨x, hx⟩ : ∃ x, l[k]? = some x := ⟨_, List.getElem?_eq_getElem hlt⟩
          obtain ⟨b, o, rfl, hb, hc⟩ := (HL.out.grew hg).at_ hlt
          obtain ⟨hc0, hc1, hc2⟩ := Use.at_ hc hx
          have HK := Lib.hid (show freeU l k = !decide (fnd x.fr (trF false l x.nt).1 < (trF false l x.nt).1.length) by simp [freeU, List.getD_eq_getElem?_getD, hx])
          have HLE := Lib.hid (trF_len false l x.nt)
          have hne : x.nt.toList ≠ x.fr.toList := by
            have h8 := allTo_iff.1 HALL.out k hlt
            simp only [useOk, List.getD_eq_getElem?_getD, hx, Option.getD_some, Bool.and_eq_true, Bool.not_eq_true', beq_eq_false_iff_ne] at h8
            exact fun e => h8.1.2 e.symm
          have HT := Lib.hid (fnd_tail (s := x.fr) (b := x.nt) (up := false) (l := l) hne)
          have hi3 : (k : Int) < (l.length : Int) := by omega
          clear hx hc hg hne
          by_cases hf : fnd x.fr (trF false l x.nt).1 < (trF false l x.nt).1.length
          · have hfi : decide (0 ≤ findI x.fr (trF false l x.nt).1.tail) = true := decide_eq_true (by have := findI_neg (s := x.fr) (l := (trF false l x.nt).1.tail); have := HT.out.1 hf; omega)
            have HF := Lib.hid hf
            clear hf
            go_wp2_with fail
            have hbd : b < wr.drew.heap.size := hb
            have HFT := Lib.hid (fun A c w h => findT_spec x.fr (trF false l x.nt).1 A c w h (by have := HLE.out; omega))
            have hk0 : wr.drew.cell? ⟨b, o + k * 3, none⟩ = some (.string x.fr) := hc0
            have hk1 : wr.drew.cell? ⟨b, o + k * 3 + 1, none⟩ = some (.string x.nt) := hc1
            have HRD := Lib.hid (HL.out.grew HG2.out.drew)
            go_region_held3 (fun w' => w'.cell? ⟨b, o + k * 3, none⟩ = some (.string x.fr) ∧ w'.cell? ⟨b, o + k * 3 + 1, none⟩ = some (.string x.nt))
              (first | (with_reducible exact ⟨hd0, hd1⟩) | (with_reducible exact ⟨hk0, hk1⟩))
              ((first
                | (go_at_call 32; (with_reducible refine (walk_spec false l _ _ x.nt _ HRD.out hn).mono ?_); rintro e w1 ⟨A1, c1, rfl, hr1, h1⟩; have hd0 := (h1.rules.1 b (o + k * 3) hbd).trans hk0; have hd1 := (h1.rules.1 b (o + k * 3 + 1) hbd).trans hk1)
                | (go_at_call 31; (with_reducible refine (HFT.out _ _ _ hr1).mono ?_); rintro e w' ⟨rfl, rfl⟩)))
            all_goals go_wp2_with fail
            all_goals
              go_ret
              go_light
              exact ⟨ret_bool (by rw [HN2.out k hlt (by rw [HK.out, decide_eq_true HF.out]; rfl)]), HG2.out.drew.trans h1⟩
          · have hfi : decide (0 ≤ findI x.fr (trF false l x.nt).1.tail) = false := decide_eq_false (by have := findI_neg (s := x.fr) (l := (trF false l x.nt).1.tail); have h7 : ¬ _ := fun hh => hf (HT.out.2 hh); exact fun hh => absurd (findI_neg.2 h7) (by omega))
            have HF := Lib.hid hf
            clear hf
            go_wp2_with fail
            have hbd : b < wr.drew.heap.size := hb
            have HFT := Lib.hid (fun A c w h => findT_spec x.fr (trF false l x.nt).1 A c w h (by have := HLE.out; omega))
            have hk0 : wr.drew.cell? ⟨b, o + k * 3, none⟩ = some (.string x.fr) := hc0
            have hk1 : wr.drew.cell? ⟨b, o + k * 3 + 1, none⟩ = some (.string x.nt) := hc1
            have HRD := Lib.hid (HL.out.grew HG2.out.drew)
            go_region_held3 (fun w' => w'.cell? ⟨b, o + k * 3, none⟩ = some (.string x.fr) ∧ w'.cell? ⟨b, o + k * 3 + 1, none⟩ = some (.string x.nt))
              (first | (with_reducible exact ⟨hd0, hd1⟩) | (with_reducible exact ⟨hk0, hk1⟩))
              ((first
                | (go_at_call 32; (with_reducible refine (walk_spec false l _ _ x.nt _ HRD.out hn).mono ?_); rintro e w1 ⟨A1, c1, rfl, hr1, h1⟩; have hd0 := (h1.rules.1 b (o + k * 3) hbd).trans hk0; have hd1 := (h1.rules.1 b (o + k * 3 + 1) hbd).trans hk1)
                | (go_at_call 31; (with_reducible refine (HFT.out _ _ _ hr1).mono ?_); rintro e w' ⟨rfl, rfl⟩)))
            all_goals go_wp2_with fail
            all_goals
              go_roundw
              case rel => go_light; exact ⟨k + 1, by omega, by go_num, HG2.out.drew.trans h1, allTo_step HALL2.out (by rw [HK.out, decide_eq_false HF.out]; rfl)⟩
              case measure => go_light; simp [intOf]; omega
        · obtain rfl : k = l.length := by omega
          go_wp2_with fail
          go_ret
          go_light
          exact ⟨ret_bool (by rw [HA.out, HALL.out, HALL2.out]; simp; omega), HG2.out⟩
end Go.Proofs.Ytbmfhdncifcieaa
