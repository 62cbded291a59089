/- WentInto and MadeFrom of the program return the batches that are reached, in some order. Conditions: none. -/
import Derived.Test.YtbmfhdncifcieaaSrtG
import Derived.Test.YtbmfhdncifcieaaHas
namespace Go.Proofs.Ytbmfhdncifcieaa
open Go.RowKit Go.ChangeShapes Go.WideShapes Go.Deep
set_option linter.unusedVariables false
set_option linter.unusedSimpArgs false

set_option maxHeartbeats 4000000 in
theorem trcWentInto_any (l : List Use) (A : Option Addr) (c : Nat) (b : ByteArray) (w : World) (h : Rd Use.E w A l) (hok : ∀ x ∈ l, x.Ok) (hn : l.length ≤ 4194304) :
    Calls Try.prog 26 #[.slice A l.length c, .string b] w fun e w' => ∃ (m : List ByteArray) (A' : Option Addr) (c' : Nat), e = .returned (.slice A' m.length c') ∧ Rd Str.E w' A' m ∧ m.length ≤ 4194304 ∧ (∀ x, x ∈ m ↔ areU l = true ∧ x ∈ (trF false l b).1.tail) ∧ Grew w w' := by
  have HL := Lib.hid h
  have HOK := Lib.hid hok
  clear h hok
  have HLE := Lib.hid (trF_len false l b)
  have HTL := Lib.hid (trF_tail false l b)
  cases a1 : areU l
  · go_enter Try.func26, Try.ntmps26
    go_wp2_with (go_at_call 10; refine (areUsesE_impl a1 _ _ _ (HL.out.grew (by (repeat (with_reducible first | exact Grew.refl _ | assumption | apply Grew.alloc | apply Grew.drew | apply Grew.drewN | (refine Grew.setCell ?_ (by simp; try omega) _) | (refine Grew.trans ?_ (by assumption)))))) HOK.out hn).mono ?_; rintro e w1 ⟨rfl, h1⟩)
    go_ret
    go_light
    exact ⟨[], none, 0, rfl, Rd.nil, by simp, fun x => by simp, h1⟩
  have h24 := areU_len a1
  go_enter Try.func26, Try.ntmps26
  go_wp2_with (go_at_call 10; refine (areUsesE_impl a1 _ _ _ (HL.out.grew (by (repeat (with_reducible first | exact Grew.refl _ | assumption | apply Grew.alloc | apply Grew.drew | apply Grew.drewN | (refine Grew.setCell ?_ (by simp; try omega) _) | (refine Grew.trans ?_ (by assumption)))))) HOK.out hn).mono ?_; rintro e w1 ⟨rfl, h1⟩)
  refine (reach_impl false l _ _ b _ (HL.out.grew h1) hn).mono ?_; rintro e w2 ⟨A1, c1, A2, c2, rfl, ho1, ho2, h2⟩
  have HG2 := Lib.hid (h1.trans h2)
  have HO := Lib.hid ho1
  have HLE1 := Lib.hid h1.le
  clear h1 h2 ho1 ho2
  generalize hs : trF false l b = s at *
  have HS := Lib.hid hs
  clear hs
  obtain ⟨_, hcap1, hcap2⟩ := HO.out.cap
  have hpos : 0 < s.1.length := by have := congrArg List.length HTL.out; rw [List.length_cons] at this; omega
  obtain ⟨g, d, hv, hbg, hgw⟩ := HO.out.addr hpos
  simp only [Value.slice.injEq, true_and] at hv
  obtain ⟨rfl, rfl⟩ := hv
  obtain ⟨N, hN⟩ : ∃ N, s.1.length = N + 1 := ⟨s.1.length - 1, by omega⟩
  have HN := Lib.hid hN
  have HCAP := Lib.hid hcap1
  have hsl := HLE.out
  rw [hN] at hcap1 hsl ⊢
  have hq1 : (1 : Int) ≤ (N : Int) + 1 := by omega
  have hq2 : (N : Int) + 1 ≤ (c1 : Int) := by omega
  clear hpos hN
  by_cases hc1 : c1 = 1
  all_goals
    have HC1 := Lib.hid hc1
    go_wp2_with (first | (go_at_call 47; refine (sortS_any s.1 1 g _ _ _ _ _ HO.out (by have := HN.out; omega) (fun hh => by have := HN.out; have := HC1.out; have := HCAP.out; first | rfl | exact if_neg (by omega) | omega) hgw (by have := HN.out; omega) (by have := HN.out; first | omega | (simp; omega))).mono ?_; rintro e w3 ⟨rfl, m, hml, hm, hperm, h3⟩; have hg3 := HG2.out.grown h3 (fun k hk => by injection hk with hk; have := HLE1.out; omega); have HG3 := Lib.hid hg3; have HM := Lib.hid hm; have HP := Lib.hid hperm; have HML := Lib.hid hml; clear h3 hg3 hm hperm hml hq1 hq2 hcap1 hc1 hbg) | (at_builtin; refine wpList_append_rd _ rfl (.tmp 21) (.tmp 22) _ rfl sl_Str w.heap.size _ _ _ [] rfl (Own.new_ HG3.out.le) _ _ _ m rfl (by have := HML.out; omega) (HM.out.grew ((Grew.refl _).alloc _)) (by have := HML.out; simp only [List.length_nil]; omega) (le_al HG3.out rfl) ?_; intro A5 c5 w5 ho5 hgr5 hat5))
    all_goals
      go_ret
      go_light
      refine ⟨m, A5, c5, ret_val (congrArg (fun n => Value.slice A5 n c5) (by have := HML.out; first | omega | (simp; omega))), ho5.rd, by have := HML.out; omega, fun x => ?_, (HG3.out.alloc _).app (Own.new_ (E := Str.E) HG3.out.le) (Nat.le_refl _) hgr5⟩
      rw [HP.out.mem_iff, List.drop_one, HS.out]
      simp
set_option maxHeartbeats 4000000 in
theorem trcMadeFrom_any (l : List Use) (A : Option Addr) (c : Nat) (b : ByteArray) (w : World) (h : Rd Use.E w A l) (hok : ∀ x ∈ l, x.Ok) (hn : l.length ≤ 4194304) :
    Calls Try.prog 27 #[.slice A l.length c, .string b] w fun e w' => ∃ (m : List ByteArray) (A' : Option Addr) (c' : Nat), e = .returned (.slice A' m.length c') ∧ Rd Str.E w' A' m ∧ m.length ≤ 4194304 ∧ (∀ x, x ∈ m ↔ areU l = true ∧ x ∈ (trF true l b).1.tail) ∧ Grew w w' := by
  have HL := Lib.hid h
  have HOK := Lib.hid hok
  clear h hok
  have HLE := Lib.hid (trF_len true l b)
  have HTL := Lib.hid (trF_tail true l b)
  cases a1 : areU l
  · go_enter Try.func27, Try.ntmps27
    go_wp2_with (go_at_call 10; refine (areUsesE_impl a1 _ _ _ (HL.out.grew (by (repeat (with_reducible first | exact Grew.refl _ | assumption | apply Grew.alloc | apply Grew.drew | apply Grew.drewN | (refine Grew.setCell ?_ (by simp; try omega) _) | (refine Grew.trans ?_ (by assumption)))))) HOK.out hn).mono ?_; rintro e w1 ⟨rfl, h1⟩)
    go_ret
    go_light
    exact ⟨[], none, 0, rfl, Rd.nil, by simp, fun x => by simp, h1⟩
  have h24 := areU_len a1
  go_enter Try.func27, Try.ntmps27
  go_wp2_with (go_at_call 10; refine (areUsesE_impl a1 _ _ _ (HL.out.grew (by (repeat (with_reducible first | exact Grew.refl _ | assumption | apply Grew.alloc | apply Grew.drew | apply Grew.drewN | (refine Grew.setCell ?_ (by simp; try omega) _) | (refine Grew.trans ?_ (by assumption)))))) HOK.out hn).mono ?_; rintro e w1 ⟨rfl, h1⟩)
  refine (reach_impl true l _ _ b _ (HL.out.grew h1) hn).mono ?_; rintro e w2 ⟨A1, c1, A2, c2, rfl, ho1, ho2, h2⟩
  have HG2 := Lib.hid (h1.trans h2)
  have HO := Lib.hid ho1
  have HLE1 := Lib.hid h1.le
  clear h1 h2 ho1 ho2
  generalize hs : trF true l b = s at *
  have HS := Lib.hid hs
  clear hs
  obtain ⟨_, hcap1, hcap2⟩ := HO.out.cap
  have hpos : 0 < s.1.length := by have := congrArg List.length HTL.out; rw [List.length_cons] at this; omega
  obtain ⟨g, d, hv, hbg, hgw⟩ := HO.out.addr hpos
  simp only [Value.slice.injEq, true_and] at hv
  obtain ⟨rfl, rfl⟩ := hv
  obtain ⟨N, hN⟩ : ∃ N, s.1.length = N + 1 := ⟨s.1.length - 1, by omega⟩
  have HN := Lib.hid hN
  have HCAP := Lib.hid hcap1
  have hsl := HLE.out
  rw [hN] at hcap1 hsl ⊢
  have hq1 : (1 : Int) ≤ (N : Int) + 1 := by omega
  have hq2 : (N : Int) + 1 ≤ (c1 : Int) := by omega
  clear hpos hN
  by_cases hc1 : c1 = 1
  all_goals
    have HC1 := Lib.hid hc1
    go_wp2_with (first | (go_at_call 47; refine (sortS_any s.1 1 g _ _ _ _ _ HO.out (by have := HN.out; omega) (fun hh => by have := HN.out; have := HC1.out; have := HCAP.out; first | rfl | exact if_neg (by omega) | omega) hgw (by have := HN.out; omega) (by have := HN.out; first | omega | (simp; omega))).mono ?_; rintro e w3 ⟨rfl, m, hml, hm, hperm, h3⟩; have hg3 := HG2.out.grown h3 (fun k hk => by injection hk with hk; have := HLE1.out; omega); have HG3 := Lib.hid hg3; have HM := Lib.hid hm; have HP := Lib.hid hperm; have HML := Lib.hid hml; clear h3 hg3 hm hperm hml hq1 hq2 hcap1 hc1 hbg) | (at_builtin; refine wpList_append_rd _ rfl (.tmp 21) (.tmp 22) _ rfl sl_Str w.heap.size _ _ _ [] rfl (Own.new_ HG3.out.le) _ _ _ m rfl (by have := HML.out; omega) (HM.out.grew ((Grew.refl _).alloc _)) (by have := HML.out; simp only [List.length_nil]; omega) (le_al HG3.out rfl) ?_; intro A5 c5 w5 ho5 hgr5 hat5))
    all_goals
      go_ret
      go_light
      refine ⟨m, A5, c5, ret_val (congrArg (fun n => Value.slice A5 n c5) (by have := HML.out; first | omega | (simp; omega))), ho5.rd, by have := HML.out; omega, fun x => ?_, (HG3.out.alloc _).app (Own.new_ (E := Str.E) HG3.out.le) (Nat.le_refl _) hgr5⟩
      rw [HP.out.mem_iff, List.drop_one, HS.out]
      simp
end Go.Proofs.Ytbmfhdncifcieaa
