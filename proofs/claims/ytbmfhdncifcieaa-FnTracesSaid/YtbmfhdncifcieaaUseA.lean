/- AreUses of the program and of the reference return what a plain function returns. Conditions: none. -/
import Derived.Test.YtbmfhdncifcieaaReach
import Derived.Deep.RegionWith
namespace Go.Proofs.Ytbmfhdncifcieaa
open Go.RowKit Go.ChangeShapes Go.WideShapes Go.Deep
set_option linter.unusedVariables false
set_option linter.unusedSimpArgs false

def useOk (l : List Use) (i : Nat) : Bool := codeB (l.getD i use0).fr && codeB (l.getD i use0).nt && !((l.getD i use0).fr.toList == (l.getD i use0).nt.toList) && inB (l.getD i use0).q 1 100000
def freeU (l : List Use) (i : Nat) : Bool := !decide (fnd (l.getD i use0).fr (trF false l (l.getD i use0).nt).1 < (trF false l (l.getD i use0).nt).1.length)
def areU (l : List Use) : Bool := allTo (useOk l) l.length && decide ((l.length : Int) ≤ 24) && allTo (freeU l) l.length
theorem trF_tail (up : Bool) (l : List Use) (b : ByteArray) : (trF up l b).1 = b :: (trF up l b).1.tail := by
  have h1 := trTo_pos up l b (l.length + 1)
  have h2 := trTo_first up l b (l.length + 1)
  show (trTo up l b (l.length + 1)).1 = b :: (trTo up l b (l.length + 1)).1.tail
  cases h : (trTo up l b (l.length + 1)).1 with
  | nil => rw [h] at h1; simp at h1
  | cons y t => rw [h] at h2; simp only [List.getD_cons_zero] at h2; rw [h2]; rfl
theorem fnd_tail {s b : ByteArray} {up : Bool} {l : List Use} (h : b.toList ≠ s.toList) : (fnd s (trF up l b).1 < (trF up l b).1.length ↔ fnd s (trF up l b).1.tail < (trF up l b).1.tail.length) := by
  conv => lhs; rw [trF_tail]
  simp only [fnd, if_neg h, List.length_cons, Nat.add_lt_add_iff_right]
theorem trF_len (up : Bool) (l : List Use) (b : ByteArray) : (trF up l b).1.length ≤ l.length + 1 := (trTo_ok up l b _).le
theorem areU_no1 {l : List Use} {k : Nat} (hk : k < l.length) (h : useOk l k = false) : areU l = false := by simp [areU, allTo_not hk h]
theorem areU_no2 {l : List Use} {k : Nat} (hk : k < l.length) (h : freeU l k = false) : areU l = false := by simp [areU, allTo_not hk h]

set_option maxHeartbeats 4000000 in
theorem areUses_impl (l : List Use) (A : Option Addr) (c : Nat) (w : World) (h : Rd Use.E w A l) (hok : ∀ x ∈ l, x.Ok) (hn : l.length ≤ 4194304) :
    Calls Try.prog 10 #[.slice A l.length c] w fun e w' => e = .returned (.bool (areU l)) ∧ Grew w w' := by
  have HL := Lib.hid h
  have HN1 := Lib.hid (fun k hk hh => areU_no1 (l := l) (k := k) hk hh)
  have HN2 := Lib.hid (fun k hk hh => areU_no2 (l := l) (k := k) hk hh)
  have HA := Lib.hid (show areU l = (allTo (useOk l) l.length && decide ((l.length : Int) ≤ 24) && allTo (freeU l) l.length) from rfl)
  have HOK := Lib.hid hok
  clear hok h
  go_enter Try.func10, Try.ntmps10
  go_wp2_with fail
  go_loopw [11] (fun i wr => ∃ k : Nat, k ≤ l.length ∧ i = .int .i64 k ∧ Grew w wr ∧ allTo (useOk l) k = true) (fun i _ => l.length - (intOf i).toNat)
  case atStart => exact ⟨0, Nat.zero_le _, rfl, Grew.refl _, rfl⟩
  case round =>
    obtain ⟨k, hk, rfl, hg, hall⟩ := hrel
    have HALL := Lib.hid hall
    have HG := Lib.hid hg
    clear hall
    by_cases hlt : k < l.length
    · obtain ⟨x, hx⟩ : ∃ x, l[k]? = some x := ⟨_, List.getElem?_eq_getElem hlt⟩
      obtain ⟨b, o, rfl, hb, hc⟩ := (HL.out.grew hg).at_ hlt
      obtain ⟨hc0, hc1, hc2⟩ := Use.at_ hc hx
      have HX := Lib.hid (HOK.out x (List.mem_of_getElem? hx))
      have HK := Lib.hid (show useOk l k = (codeB x.fr && codeB x.nt && !(x.fr.toList == x.nt.toList) && inB x.q 1 100000) by simp [useOk, List.getD_eq_getElem?_getD, hx])
      clear hx hc hg
      cases heq : x.fr.toList == x.nt.toList
      all_goals
        go_wp2_with (first | (go_at_call 34; refine (isCode_impl _ _ (by first | exact HX.out.2.1 | exact HX.out.2.2.1)).mono ?_; rintro e w' ⟨rfl, rfl⟩) | (go_at_call 35; refine (in_any _ _ _ _).mono ?_; rintro e w' ⟨rfl, rfl⟩))
        all_goals first
          | (go_ret; go_light; exact ⟨ret_bool (by rw [HN1.out k hlt (by rw [HK.out]; simp_all)]), HG.out.alloc _⟩)
          | (go_roundw
             case rel => go_light; exact ⟨k + 1, by omega, by go_num, HG.out.alloc _, allTo_step HALL.out (by rw [HK.out]; simp_all)⟩
             case measure => go_light; simp [intOf]; omega)
    · obtain rfl : k = l.length := by omega
      by_cases h24 : (l.length : Int) ≤ 24
      case neg =>
        go_wp2_with fail
        go_ret
        go_light
        exact ⟨ret_bool (by rw [HA.out, decide_eq_false (by omega : ¬ (l.length : Int) ≤ 24)]; simp), HG.out⟩
      go_wp2_with fail
      go_loopw [44] (fun i wr => ∃ k : Nat, k ≤ l.length ∧ i = .int .i64 k ∧ Grew w wr ∧ allTo (freeU l) k = true) (fun i _ => l.length - (intOf i).toNat)
      case atStart => exact ⟨0, Nat.zero_le _, rfl, HG.out, rfl⟩
      case round =>
        obtain ⟨k, hk, rfl, hg, hall⟩ := hrel
        have HALL2 := Lib.hid hall
        have HG2 := Lib.hid hg
        clear hall
        by_cases hlt : k < l.length
        · obtain ⟨x, hx⟩ : ∃ x, l[k]? = some x := ⟨_, List.getElem?_eq_getElem hlt⟩
          obtain ⟨b, o, rfl, hb, hc⟩ := (HL.out.grew hg).at_ hlt
          obtain ⟨hc0, hc1, hc2⟩ := Use.at_ hc hx
          have HK := Lib.hid (show freeU l k = !decide (fnd x.fr (trF false l x.nt).1 < (trF false l x.nt).1.length) by simp [freeU, List.getD_eq_getElem?_getD, hx])
          have HLE := Lib.hid (trF_len false l x.nt)
          clear hx hc hg
          by_cases hf : fnd x.fr (trF false l x.nt).1 < (trF false l x.nt).1.length
          · have hfi : decide (0 ≤ findI x.fr (trF false l x.nt).1) = true := decide_eq_true (by have := findI_neg (s := x.fr) (l := (trF false l x.nt).1); omega)
            have HF := Lib.hid hf
            clear hf
            go_wp2_with (first | (go_at_call 36; refine (reach_impl false l _ _ x.nt _ (HL.out.grew (HG2.out.alloc _)) hn).mono ?_; rintro e w1 ⟨A1, c1, A2, c2, rfl, ho1, ho2, h1⟩; have hd0 := ((Bx.new_ (E := Use.E) wr x 50).grew h1).2.1 0 _ rfl) | (go_at_call 37; refine (find_impl _ _ _ _ _ ho1.rd (by have := HLE.out; omega)).mono ?_; rintro e w' ⟨rfl, rfl⟩))
            go_ret
            go_light
            exact ⟨ret_bool (by rw [HN2.out k hlt (by rw [HK.out, decide_eq_true HF.out]; rfl)]), (HG2.out.alloc _).trans h1⟩
          · have hfi : decide (0 ≤ findI x.fr (trF false l x.nt).1) = false := decide_eq_false (by have := findI_neg (s := x.fr) (l := (trF false l x.nt).1); omega)
            have HF := Lib.hid hf
            clear hf
            go_wp2_with (first | (go_at_call 36; refine (reach_impl false l _ _ x.nt _ (HL.out.grew (HG2.out.alloc _)) hn).mono ?_; rintro e w1 ⟨A1, c1, A2, c2, rfl, ho1, ho2, h1⟩; have hd0 := ((Bx.new_ (E := Use.E) wr x 50).grew h1).2.1 0 _ rfl) | (go_at_call 37; refine (find_impl _ _ _ _ _ ho1.rd (by have := HLE.out; omega)).mono ?_; rintro e w' ⟨rfl, rfl⟩))
            go_roundw
            case rel => go_light; exact ⟨k + 1, by omega, by go_num, (HG2.out.alloc _).trans h1, allTo_step HALL2.out (by rw [HK.out, decide_eq_false HF.out]; rfl)⟩
            case measure => go_light; simp [intOf]; omega
        · obtain rfl : k = l.length := by omega
          go_wp2_with fail
          go_ret
          go_light
          exact ⟨ret_bool (by rw [HA.out, HALL.out, HALL2.out, decide_eq_true h24]; rfl), HG2.out⟩
end Go.Proofs.Ytbmfhdncifcieaa
