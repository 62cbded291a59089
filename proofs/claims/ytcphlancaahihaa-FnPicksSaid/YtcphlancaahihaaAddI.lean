/- AddLot of the program returns what a plain function returns. Conditions: none. -/
import Derived.Test.YtcphlancaahihaaAddP
import Derived.Deep.RegionHeld3
namespace Go.Proofs.Ytcphlancaahihaa
open Go.RowKit Go.ChangeShapes Go.WideShapes Go.Deep
set_option linter.unusedVariables false
set_option linter.unusedSimpArgs false

theorem Lt.b3 {w : World} {b : Nat} {x : Lt} (h : Bx Lt.E w b x) : w.cell? ⟨b, 0, none⟩ = some (.string x.ba) ∧ w.cell? ⟨b, 1, none⟩ = some (.int .i64 x.ex) ∧ w.cell? ⟨b, 2, none⟩ = some (.int .i64 x.q) := ⟨h.2.1 0 _ rfl, h.2.1 1 _ rfl, h.2.1 2 _ rfl⟩
theorem findLotZ {m : List Lt} {b : ByteArray} {z : Int} (hz : findF b m 0 = z) (A : Option Addr) (c : Nat) (w : World) (h : Rd Lt.E w A m) (hn : m.length ≤ 4194304) :
    Calls Try.prog 39 #[.slice A m.length c, .string b] w fun e w' => e = .returned (.int .i64 z) ∧ Grew w w' := hz ▸ findLot_any m A c b w h hn
set_option maxRecDepth 100000 in
set_option maxHeartbeats 40000000 in
theorem addLot_impl (l : List Lt) (A : Option Addr) (c : Nat) (x : Lt) (w : World) (h : Rd Lt.E w A l) (hok : ∀ y ∈ l, y.Ok) (hn : l.length ≤ 4194304) (hx : x.Ok) (hlc : l.length ≤ c) (hcm : c ≤ maxLen) :
    Calls Try.prog 19 #[.slice A l.length c, x.v] w fun e w' => ∃ A' c', e = .returned (.tuple #[.slice A' (addF l x).1.length c', .bool (addF l x).2]) ∧ Own Lt.E 36 w' w.heap.size (.slice A' (addF l x).1.length c') (addF l x).1 ∧ Grew w w' := by
  have HL := Lib.hid h
  have HOK := Lib.hid hok
  have HXO := Lib.hid hx
  clear h hok hx
  unfold maxLen at hcm
  have HFL := Lib.hid (findF_lt (b := x.ba) l 0)
  have HB0 := Lib.hid (Bx.new_ (E := Lt.E) w x 36)
  obtain ⟨z, hz⟩ : ∃ z, findF x.ba l 0 = z := ⟨_, rfl⟩
  have HZ := Lib.hid hz
  have HPR := Lib.hid (show preAdd l x = (areL l && areL [x] && (decide (findF x.ba l 0 < 0) || decide ((l.getD (findF x.ba l 0).toNat lt0).ex = x.ex))) from rfl)
  rw [hz] at HPR HFL
  clear hz
  go_enter Try.func19, Try.ntmps19
  go_wp2_with fail
  refine (findLotZ HZ.out _ _ _ (HL.out.grew ((Grew.refl _).alloc _)) hn).mono ?_; rintro e w0 ⟨rfl, h0⟩
  have HB := Lib.hid (HB0.out.grew h0)
  have HG := Lib.hid (((Grew.refl w).alloc _).trans h0)
  clear h0 HB0
  go_upto_region 2 with fail
  go_cut [35] (fun s wx => s = .bool (!preAdd l x) ∧ Bx Lt.E wx w.heap.size x ∧ Grew w wx)
  case first =>
    have HBD := Lib.hid HB.out.drew
    have HGD := Lib.hid HG.out.drew
    obtain ⟨x0, x1, x2, xs, xf⟩ := Lt.bx HB.out
    cases a1 : areL l
    · have HP := Lib.hid (show preAdd l x = false by rw [HPR.out, a1]; rfl)
      clear x0 x1 x2 xs xf
      (refine wp_region_grow_lit (by kernel_rfl) (by kernel_rfl) ?_; repeat (any_goals (first | go_big_quiet_step (((go_at_call 12; exact quiet_grew (areLotsE_impl a1 _ _ _ ((HL.out.grew HG.out).gw _) HOK.out hn)))) | quiet_step (((go_at_call 12; exact quiet_grew (areLotsE_impl a1 _ _ _ ((HL.out.grew HG.out).gw _) HOK.out hn)))) | (refine wpQuiet_step (fun K hK => ?_); go_simp; split <;> rename_i hsp <;> (refine hK _ ?_; clear hK K) <;> (try first | simp only [hsp, decide_true, decide_false, Bool.not_true, Bool.not_false] | simp only [Int.not_le.2 hsp, decide_false, Bool.not_false] | simp only [Int.not_lt.2 hsp, decide_false, Bool.not_false] | simp only [Nat.not_le.2 hsp, decide_false, Bool.not_false] | simp only [Nat.not_lt.2 hsp, decide_false, Bool.not_false])))))
      all_goals (refine wpQuiet_nil ?_; intro wqq hqq)
      go_wp2_with fail
      go_meet
      exact ⟨by rw [HP.out]; try rfl, HB.out.grew hqq, HG.out.trans hqq⟩
    cases a2 : areL [x]
    · have HP := Lib.hid (show preAdd l x = false by rw [HPR.out, a1, a2]; rfl)
      clear x0 x1 x2 xs xf
      refine wp_region_held_drew (S := (fun w' => w'.cell? ⟨w.heap.size, 0, none⟩ = some (.string x.ba) ∧ w'.cell? ⟨w.heap.size, 1, none⟩ = some (.int .i64 x.ex) ∧ w'.cell? ⟨w.heap.size, 2, none⟩ = some (.int .i64 x.q))) (by kernel_rfl) (Lt.b3 HBD.out) (fun hH => ?_)
      refine wpAnyH_take (i := 0) (v := ?_) (by simp only [List.getElem?_toArray, List.getElem?_cons_succ, List.getElem?_cons_zero]; rfl) (by kernel_rfl) (by kernel_rfl) (by kernel_rfl) (by intro _ _ _ h; exact h) (Or.inl ⟨by rfl, ?_⟩) hH ?_; rotate_left; · ((intro w hSw); (try dsimp only at hSw); go_simp; (try with_reducible rfl); done)
      (try simp only [Act.put, List.setIfInBounds_toArray, List.set_cons_zero, List.set_cons_succ])
      refine wpAnyH_ready (rs := [1]) (by kernel_rfl) (by simp) ?_
      refine AllReadyH.cons (by simp only [List.getElem?_toArray, List.getElem?_cons_succ, List.getElem?_cons_zero]; rfl) (fun K hK => ?_) AllReadyH.nil
      go_simp; (with_reducible refine (areLotsE_impl a1 _ _ _ (HL.out.grew HGD.out) HOK.out hn).mono ?_); rintro e w1 ⟨rfl, h1⟩; have HB1 := Lib.hid (HBD.out.grew h1); have HG1 := Lib.hid (HGD.out.trans h1); clear h1; (try go_wp2_with fail)
      refine hK.out _ _ (Lt.b3 HB1.out) (fun hH => ?_)
      clear hK K
      (try simp only [Act.put, List.setIfInBounds_toArray, List.set_cons_zero, List.set_cons_succ])
      refine wpAnyH_take (i := 2) (v := ?_) (by simp only [List.getElem?_toArray, List.getElem?_cons_succ, List.getElem?_cons_zero]; rfl) (by kernel_rfl) (by kernel_rfl) (by kernel_rfl) (by intro _ _ _ h; exact h) (Or.inl ⟨by rfl, ?_⟩) hH ?_; rotate_left; · ((intro w hSw); (try dsimp only at hSw); go_simp; (try with_reducible rfl); done)
      (try simp only [Act.put, List.setIfInBounds_toArray, List.set_cons_zero, List.set_cons_succ])
      refine wpAnyH_take (i := 3) (v := ?_) (by simp only [List.getElem?_toArray, List.getElem?_cons_succ, List.getElem?_cons_zero]; rfl) (by kernel_rfl) (by kernel_rfl) (by kernel_rfl) (by intro _ _ _ h; exact h) (Or.inl ⟨by rfl, ?_⟩) hH ?_; rotate_left; · ((intro w hSw); (try dsimp only at hSw); go_simp; (try with_reducible rfl); done)
      (try simp only [Act.put, List.setIfInBounds_toArray, List.set_cons_zero, List.set_cons_succ])
      refine wpAnyH_take (i := 4) (v := ?_) (by simp only [List.getElem?_toArray, List.getElem?_cons_succ, List.getElem?_cons_zero]; rfl) (by kernel_rfl) (by kernel_rfl) (by kernel_rfl) (by intro _ _ _ h; exact h) (Or.inl ⟨by rfl, ?_⟩) hH ?_; rotate_left; · ((intro w hSw); (try dsimp only at hSw); go_simp; (try with_reducible rfl); done)
      (try simp only [Act.put, List.setIfInBounds_toArray, List.set_cons_zero, List.set_cons_succ])
      refine wpAnyH_ready (rs := [5]) (by kernel_rfl) (by simp) ?_
      refine AllReadyH.cons (by simp only [List.getElem?_toArray, List.getElem?_cons_succ, List.getElem?_cons_zero]; rfl) (fun K hK => ?_) AllReadyH.nil
      go_simp
      refine hK.out _ _ (Lt.b3 (HB1.out.alloc _)) (fun hH => ?_)
      clear hK K
      (try simp only [Act.put, List.setIfInBounds_toArray, List.set_cons_zero, List.set_cons_succ])
      refine wpAnyH_ready (rs := [6]) (by kernel_rfl) (by simp) ?_
      refine AllReadyH.cons (by simp only [List.getElem?_toArray, List.getElem?_cons_succ, List.getElem?_cons_zero]; rfl) (fun K hK => ?_) AllReadyH.nil
      go_simp; refine (areOneE_impl a2 _ _ _ (rd_new (E := Lt.E) _ x _ (by simp)) HXO.out).mono ?_; rintro e w2 ⟨rfl, h2⟩; have HB2 := Lib.hid ((HB1.out.alloc _).grew h2); have HG2 := Lib.hid ((HG1.out.alloc _).trans h2); clear h2; (try go_wp2_with fail)
      refine hK.out _ _ (Lt.b3 HB2.out) (fun hH => ?_)
      clear hK K
      (try simp only [Act.put, List.setIfInBounds_toArray, List.set_cons_zero, List.set_cons_succ])
      refine wpAnyH_take (i := 7) (v := ?_) (by simp only [List.getElem?_toArray, List.getElem?_cons_succ, List.getElem?_cons_zero]; rfl) (by kernel_rfl) (by kernel_rfl) (by kernel_rfl) (by intro _ _ _ h; exact h) (Or.inl ⟨by rfl, ?_⟩) hH ?_; rotate_left; · ((intro w hSw); (try dsimp only at hSw); go_simp; (try with_reducible rfl); done)
      (try simp only [Act.put, List.setIfInBounds_toArray, List.set_cons_zero, List.set_cons_succ])
      refine wpAnyH_take (i := 8) (v := ?_) (by simp only [List.getElem?_toArray, List.getElem?_cons_succ, List.getElem?_cons_zero]; rfl) (by kernel_rfl) (by kernel_rfl) (by kernel_rfl) (by intro _ _ _ h; exact h) (Or.inl ⟨by rfl, ?_⟩) hH ?_; rotate_left; · ((intro w hSw); (try dsimp only at hSw); go_simp; (try with_reducible rfl); done)
      (try simp only [Act.put, List.setIfInBounds_toArray, List.set_cons_zero, List.set_cons_succ])
      refine wpAnyH_take (i := 9) (v := ?_) (by simp only [List.getElem?_toArray, List.getElem?_cons_succ, List.getElem?_cons_zero]; rfl) (by kernel_rfl) (by kernel_rfl) (by kernel_rfl) (by intro _ _ _ h; exact h) (Or.inl ⟨by rfl, ?_⟩) hH ?_; rotate_left; · ((intro w hSw); (try dsimp only at hSw); go_simp; (try with_reducible rfl); done)
      (try simp only [Act.put, List.setIfInBounds_toArray, List.set_cons_zero, List.set_cons_succ])
      refine wpAnyH_take (i := 10) (v := undef) (by simp only [List.getElem?_toArray, List.getElem?_cons_succ, List.getElem?_cons_zero]; rfl) (by kernel_rfl) (by kernel_rfl) (by kernel_rfl) (by intro _ _ _ h; exact h) (Or.inr ⟨by rfl, rfl⟩) hH ?_
      (try simp only [Act.put, List.setIfInBounds_toArray, List.set_cons_zero, List.set_cons_succ])
      refine wpAnyH_take (i := 11) (v := undef) (by simp only [List.getElem?_toArray, List.getElem?_cons_succ, List.getElem?_cons_zero]; rfl) (by kernel_rfl) (by kernel_rfl) (by kernel_rfl) (by intro _ _ _ h; exact h) (Or.inr ⟨by rfl, rfl⟩) hH ?_
      (try simp only [Act.put, List.setIfInBounds_toArray, List.set_cons_zero, List.set_cons_succ])
      refine wpAnyH_take (i := 12) (v := undef) (by simp only [List.getElem?_toArray, List.getElem?_cons_succ, List.getElem?_cons_zero]; rfl) (by kernel_rfl) (by kernel_rfl) (by kernel_rfl) (by intro _ _ _ h; exact h) (Or.inr ⟨by rfl, rfl⟩) hH ?_
      (try simp only [Act.put, List.setIfInBounds_toArray, List.set_cons_zero, List.set_cons_succ])
      refine wpAnyH_take (i := 13) (v := undef) (by simp only [List.getElem?_toArray, List.getElem?_cons_succ, List.getElem?_cons_zero]; rfl) (by kernel_rfl) (by kernel_rfl) (by kernel_rfl) (by intro _ _ _ h; exact h) (Or.inr ⟨by rfl, rfl⟩) hH ?_
      (try simp only [Act.put, List.setIfInBounds_toArray, List.set_cons_zero, List.set_cons_succ])
      refine wpAnyH_take (i := 14) (v := undef) (by simp only [List.getElem?_toArray, List.getElem?_cons_succ, List.getElem?_cons_zero]; rfl) (by kernel_rfl) (by kernel_rfl) (by kernel_rfl) (by intro _ _ _ h; exact h) (Or.inr ⟨by rfl, rfl⟩) hH ?_
      (try simp only [Act.put, List.setIfInBounds_toArray, List.set_cons_zero, List.set_cons_succ])
      refine wpAnyH_take (i := 15) (v := undef) (by simp only [List.getElem?_toArray, List.getElem?_cons_succ, List.getElem?_cons_zero]; rfl) (by kernel_rfl) (by kernel_rfl) (by kernel_rfl) (by intro _ _ _ h; exact h) (Or.inr ⟨by rfl, rfl⟩) hH ?_
      (try simp only [Act.put, List.setIfInBounds_toArray, List.set_cons_zero, List.set_cons_succ])
      refine wpAnyH_take (i := 16) (v := undef) (by simp only [List.getElem?_toArray, List.getElem?_cons_succ, List.getElem?_cons_zero]; rfl) (by kernel_rfl) (by kernel_rfl) (by kernel_rfl) (by intro _ _ _ h; exact h) (Or.inr ⟨by rfl, rfl⟩) hH ?_
      (try simp only [Act.put, List.setIfInBounds_toArray, List.set_cons_zero, List.set_cons_succ])
      refine wpAnyH_take (i := 17) (v := undef) (by simp only [List.getElem?_toArray, List.getElem?_cons_succ, List.getElem?_cons_zero]; rfl) (by kernel_rfl) (by kernel_rfl) (by kernel_rfl) (by intro _ _ _ h; exact h) (Or.inr ⟨by rfl, rfl⟩) hH ?_
      (try simp only [Act.put, List.setIfInBounds_toArray, List.set_cons_zero, List.set_cons_succ])
      refine wpAnyH_take (i := 18) (v := undef) (by simp only [List.getElem?_toArray, List.getElem?_cons_succ, List.getElem?_cons_zero]; rfl) (by kernel_rfl) (by kernel_rfl) (by kernel_rfl) (by intro _ _ _ h; exact h) (Or.inr ⟨by rfl, rfl⟩) hH ?_
      (try simp only [Act.put, List.setIfInBounds_toArray, List.set_cons_zero, List.set_cons_succ])
      refine wpAnyH_take (i := 19) (v := undef) (by simp only [List.getElem?_toArray, List.getElem?_cons_succ, List.getElem?_cons_zero]; rfl) (by kernel_rfl) (by kernel_rfl) (by kernel_rfl) (by intro _ _ _ h; exact h) (Or.inr ⟨by rfl, rfl⟩) hH ?_
      (try simp only [Act.put, List.setIfInBounds_toArray, List.set_cons_zero, List.set_cons_succ])
      refine wpAnyH_take (i := 20) (v := undef) (by simp only [List.getElem?_toArray, List.getElem?_cons_succ, List.getElem?_cons_zero]; rfl) (by kernel_rfl) (by kernel_rfl) (by kernel_rfl) (by intro _ _ _ h; exact h) (Or.inr ⟨by rfl, rfl⟩) hH ?_
      (try simp only [Act.put, List.setIfInBounds_toArray, List.set_cons_zero, List.set_cons_succ])
      refine wpAnyH_take (i := 21) (v := undef) (by simp only [List.getElem?_toArray, List.getElem?_cons_succ, List.getElem?_cons_zero]; rfl) (by kernel_rfl) (by kernel_rfl) (by kernel_rfl) (by intro _ _ _ h; exact h) (Or.inr ⟨by rfl, rfl⟩) hH ?_
      (try simp only [Act.put, List.setIfInBounds_toArray, List.set_cons_zero, List.set_cons_succ])
      refine wpAnyH_take (i := 22) (v := ?_) (by simp only [List.getElem?_toArray, List.getElem?_cons_succ, List.getElem?_cons_zero]; rfl) (by kernel_rfl) (by kernel_rfl) (by kernel_rfl) (by intro _ _ _ h; exact h) (Or.inl ⟨by rfl, ?_⟩) hH ?_; rotate_left; · ((intro w hSw); (try dsimp only at hSw); go_simp; (try with_reducible rfl); done)
      (try simp only [Act.put, List.setIfInBounds_toArray, List.set_cons_zero, List.set_cons_succ])
      refine wpAnyH_done (by kernel_rfl) ?_ _
      go_wp2_with fail
      go_meet
      exact ⟨by rw [HP.out]; try rfl, HB2.out, HG2.out⟩
    rcases HFL.out with hf | ⟨i, y, hf, hy, hyb⟩
    · have HP := Lib.hid (show preAdd l x = true by rw [HPR.out, a1, a2, hf]; rfl)
      subst hf
      clear x0 x1 x2 xs xf
      refine wp_region_held_drew (S := (fun w' => w'.cell? ⟨w.heap.size, 0, none⟩ = some (.string x.ba) ∧ w'.cell? ⟨w.heap.size, 1, none⟩ = some (.int .i64 x.ex) ∧ w'.cell? ⟨w.heap.size, 2, none⟩ = some (.int .i64 x.q))) (by kernel_rfl) (Lt.b3 HBD.out) (fun hH => ?_)
      refine wpAnyH_take (i := 0) (v := ?_) (by simp only [List.getElem?_toArray, List.getElem?_cons_succ, List.getElem?_cons_zero]; rfl) (by kernel_rfl) (by kernel_rfl) (by kernel_rfl) (by intro _ _ _ h; exact h) (Or.inl ⟨by rfl, ?_⟩) hH ?_; rotate_left; · ((intro w hSw); (try dsimp only at hSw); go_simp; (try with_reducible rfl); done)
      (try simp only [Act.put, List.setIfInBounds_toArray, List.set_cons_zero, List.set_cons_succ])
      refine wpAnyH_ready (rs := [1]) (by kernel_rfl) (by simp) ?_
      refine AllReadyH.cons (by simp only [List.getElem?_toArray, List.getElem?_cons_succ, List.getElem?_cons_zero]; rfl) (fun K hK => ?_) AllReadyH.nil
      go_simp; (with_reducible refine (areLotsE_impl a1 _ _ _ (HL.out.grew HGD.out) HOK.out hn).mono ?_); rintro e w1 ⟨rfl, h1⟩; have HB1 := Lib.hid (HBD.out.grew h1); have HG1 := Lib.hid (HGD.out.trans h1); clear h1; (try go_wp2_with fail)
      refine hK.out _ _ (Lt.b3 HB1.out) (fun hH => ?_)
      clear hK K
      (try simp only [Act.put, List.setIfInBounds_toArray, List.set_cons_zero, List.set_cons_succ])
      refine wpAnyH_take (i := 2) (v := ?_) (by simp only [List.getElem?_toArray, List.getElem?_cons_succ, List.getElem?_cons_zero]; rfl) (by kernel_rfl) (by kernel_rfl) (by kernel_rfl) (by intro _ _ _ h; exact h) (Or.inl ⟨by rfl, ?_⟩) hH ?_; rotate_left; · ((intro w hSw); (try dsimp only at hSw); go_simp; (try with_reducible rfl); done)
      (try simp only [Act.put, List.setIfInBounds_toArray, List.set_cons_zero, List.set_cons_succ])
      refine wpAnyH_take (i := 3) (v := ?_) (by simp only [List.getElem?_toArray, List.getElem?_cons_succ, List.getElem?_cons_zero]; rfl) (by kernel_rfl) (by kernel_rfl) (by kernel_rfl) (by intro _ _ _ h; exact h) (Or.inl ⟨by rfl, ?_⟩) hH ?_; rotate_left; · ((intro w hSw); (try dsimp only at hSw); go_simp; (try with_reducible rfl); done)
      (try simp only [Act.put, List.setIfInBounds_toArray, List.set_cons_zero, List.set_cons_succ])
      refine wpAnyH_take (i := 4) (v := ?_) (by simp only [List.getElem?_toArray, List.getElem?_cons_succ, List.getElem?_cons_zero]; rfl) (by kernel_rfl) (by kernel_rfl) (by kernel_rfl) (by intro _ _ _ h; exact h) (Or.inl ⟨by rfl, ?_⟩) hH ?_; rotate_left; · ((intro w hSw); (try dsimp only at hSw); go_simp; (try with_reducible rfl); done)
      (try simp only [Act.put, List.setIfInBounds_toArray, List.set_cons_zero, List.set_cons_succ])
      refine wpAnyH_ready (rs := [5]) (by kernel_rfl) (by simp) ?_
      refine AllReadyH.cons (by simp only [List.getElem?_toArray, List.getElem?_cons_succ, List.getElem?_cons_zero]; rfl) (fun K hK => ?_) AllReadyH.nil
      go_simp
      refine hK.out _ _ (Lt.b3 (HB1.out.alloc _)) (fun hH => ?_)
      clear hK K
      (try simp only [Act.put, List.setIfInBounds_toArray, List.set_cons_zero, List.set_cons_succ])
      refine wpAnyH_ready (rs := [6]) (by kernel_rfl) (by simp) ?_
      refine AllReadyH.cons (by simp only [List.getElem?_toArray, List.getElem?_cons_succ, List.getElem?_cons_zero]; rfl) (fun K hK => ?_) AllReadyH.nil
      go_simp; refine (areOneE_impl a2 _ _ _ (rd_new (E := Lt.E) _ x _ (by simp)) HXO.out).mono ?_; rintro e w2 ⟨rfl, h2⟩; have HB2 := Lib.hid ((HB1.out.alloc _).grew h2); have HG2 := Lib.hid ((HG1.out.alloc _).trans h2); clear h2; (try go_wp2_with fail)
      refine hK.out _ _ (Lt.b3 HB2.out) (fun hH => ?_)
      clear hK K
      (try simp only [Act.put, List.setIfInBounds_toArray, List.set_cons_zero, List.set_cons_succ])
      refine wpAnyH_take (i := 7) (v := ?_) (by simp only [List.getElem?_toArray, List.getElem?_cons_succ, List.getElem?_cons_zero]; rfl) (by kernel_rfl) (by kernel_rfl) (by kernel_rfl) (by intro _ _ _ h; exact h) (Or.inl ⟨by rfl, ?_⟩) hH ?_; rotate_left; · ((intro w hSw); (try dsimp only at hSw); go_simp; (try with_reducible rfl); done)
      (try simp only [Act.put, List.setIfInBounds_toArray, List.set_cons_zero, List.set_cons_succ])
      refine wpAnyH_take (i := 8) (v := ?_) (by simp only [List.getElem?_toArray, List.getElem?_cons_succ, List.getElem?_cons_zero]; rfl) (by kernel_rfl) (by kernel_rfl) (by kernel_rfl) (by intro _ _ _ h; exact h) (Or.inl ⟨by rfl, ?_⟩) hH ?_; rotate_left; · ((intro w hSw); (try dsimp only at hSw); go_simp; (try with_reducible rfl); done)
      (try simp only [Act.put, List.setIfInBounds_toArray, List.set_cons_zero, List.set_cons_succ])
      refine wpAnyH_take (i := 9) (v := ?_) (by simp only [List.getElem?_toArray, List.getElem?_cons_succ, List.getElem?_cons_zero]; rfl) (by kernel_rfl) (by kernel_rfl) (by kernel_rfl) (by intro _ _ _ h; exact h) (Or.inl ⟨by rfl, ?_⟩) hH ?_; rotate_left; · ((intro w hSw); (try dsimp only at hSw); go_simp; (try with_reducible rfl); done)
      (try simp only [Act.put, List.setIfInBounds_toArray, List.set_cons_zero, List.set_cons_succ])
      refine wpAnyH_take (i := 10) (v := ?_) (by simp only [List.getElem?_toArray, List.getElem?_cons_succ, List.getElem?_cons_zero]; rfl) (by kernel_rfl) (by kernel_rfl) (by kernel_rfl) (by intro _ _ _ h; exact h) (Or.inl ⟨by rfl, ?_⟩) hH ?_; rotate_left; · ((intro w hSw); (try dsimp only at hSw); go_simp; (try with_reducible rfl); done)
      (try simp only [Act.put, List.setIfInBounds_toArray, List.set_cons_zero, List.set_cons_succ])
      refine wpAnyH_take (i := 11) (v := ?_) (by simp only [List.getElem?_toArray, List.getElem?_cons_succ, List.getElem?_cons_zero]; rfl) (by kernel_rfl) (by kernel_rfl) (by kernel_rfl) (by intro _ _ _ h; exact h) (Or.inl ⟨by rfl, ?_⟩) hH ?_; rotate_left; · ((intro w hSw); (try dsimp only at hSw); go_simp; (try with_reducible rfl); done)
      (try simp only [Act.put, List.setIfInBounds_toArray, List.set_cons_zero, List.set_cons_succ])
      refine wpAnyH_take (i := 12) (v := ?_) (by simp only [List.getElem?_toArray, List.getElem?_cons_succ, List.getElem?_cons_zero]; rfl) (by kernel_rfl) (by kernel_rfl) (by kernel_rfl) (by intro _ _ _ h; exact h) (Or.inl ⟨by rfl, ?_⟩) hH ?_; rotate_left; · ((intro w hSw); (try dsimp only at hSw); go_simp; (try with_reducible rfl); done)
      (try simp only [Act.put, List.setIfInBounds_toArray, List.set_cons_zero, List.set_cons_succ])
      refine wpAnyH_take (i := 13) (v := undef) (by simp only [List.getElem?_toArray, List.getElem?_cons_succ, List.getElem?_cons_zero]; rfl) (by kernel_rfl) (by kernel_rfl) (by kernel_rfl) (by intro _ _ _ h; exact h) (Or.inr ⟨by rfl, rfl⟩) hH ?_
      (try simp only [Act.put, List.setIfInBounds_toArray, List.set_cons_zero, List.set_cons_succ])
      refine wpAnyH_take (i := 14) (v := undef) (by simp only [List.getElem?_toArray, List.getElem?_cons_succ, List.getElem?_cons_zero]; rfl) (by kernel_rfl) (by kernel_rfl) (by kernel_rfl) (by intro _ _ _ h; exact h) (Or.inr ⟨by rfl, rfl⟩) hH ?_
      (try simp only [Act.put, List.setIfInBounds_toArray, List.set_cons_zero, List.set_cons_succ])
      refine wpAnyH_take (i := 15) (v := undef) (by simp only [List.getElem?_toArray, List.getElem?_cons_succ, List.getElem?_cons_zero]; rfl) (by kernel_rfl) (by kernel_rfl) (by kernel_rfl) (by intro _ _ _ h; exact h) (Or.inr ⟨by rfl, rfl⟩) hH ?_
      (try simp only [Act.put, List.setIfInBounds_toArray, List.set_cons_zero, List.set_cons_succ])
      refine wpAnyH_take (i := 16) (v := undef) (by simp only [List.getElem?_toArray, List.getElem?_cons_succ, List.getElem?_cons_zero]; rfl) (by kernel_rfl) (by kernel_rfl) (by kernel_rfl) (by intro _ _ _ h; exact h) (Or.inr ⟨by rfl, rfl⟩) hH ?_
      (try simp only [Act.put, List.setIfInBounds_toArray, List.set_cons_zero, List.set_cons_succ])
      refine wpAnyH_take (i := 17) (v := undef) (by simp only [List.getElem?_toArray, List.getElem?_cons_succ, List.getElem?_cons_zero]; rfl) (by kernel_rfl) (by kernel_rfl) (by kernel_rfl) (by intro _ _ _ h; exact h) (Or.inr ⟨by rfl, rfl⟩) hH ?_
      (try simp only [Act.put, List.setIfInBounds_toArray, List.set_cons_zero, List.set_cons_succ])
      refine wpAnyH_take (i := 18) (v := undef) (by simp only [List.getElem?_toArray, List.getElem?_cons_succ, List.getElem?_cons_zero]; rfl) (by kernel_rfl) (by kernel_rfl) (by kernel_rfl) (by intro _ _ _ h; exact h) (Or.inr ⟨by rfl, rfl⟩) hH ?_
      (try simp only [Act.put, List.setIfInBounds_toArray, List.set_cons_zero, List.set_cons_succ])
      refine wpAnyH_take (i := 19) (v := undef) (by simp only [List.getElem?_toArray, List.getElem?_cons_succ, List.getElem?_cons_zero]; rfl) (by kernel_rfl) (by kernel_rfl) (by kernel_rfl) (by intro _ _ _ h; exact h) (Or.inr ⟨by rfl, rfl⟩) hH ?_
      (try simp only [Act.put, List.setIfInBounds_toArray, List.set_cons_zero, List.set_cons_succ])
      refine wpAnyH_take (i := 20) (v := undef) (by simp only [List.getElem?_toArray, List.getElem?_cons_succ, List.getElem?_cons_zero]; rfl) (by kernel_rfl) (by kernel_rfl) (by kernel_rfl) (by intro _ _ _ h; exact h) (Or.inr ⟨by rfl, rfl⟩) hH ?_
      (try simp only [Act.put, List.setIfInBounds_toArray, List.set_cons_zero, List.set_cons_succ])
      refine wpAnyH_take (i := 21) (v := ?_) (by simp only [List.getElem?_toArray, List.getElem?_cons_succ, List.getElem?_cons_zero]; rfl) (by kernel_rfl) (by kernel_rfl) (by kernel_rfl) (by intro _ _ _ h; exact h) (Or.inl ⟨by rfl, ?_⟩) hH ?_; rotate_left; · ((intro w hSw); (try dsimp only at hSw); go_simp; (try with_reducible rfl); done)
      (try simp only [Act.put, List.setIfInBounds_toArray, List.set_cons_zero, List.set_cons_succ])
      refine wpAnyH_take (i := 22) (v := ?_) (by simp only [List.getElem?_toArray, List.getElem?_cons_succ, List.getElem?_cons_zero]; rfl) (by kernel_rfl) (by kernel_rfl) (by kernel_rfl) (by intro _ _ _ h; exact h) (Or.inl ⟨by rfl, ?_⟩) hH ?_; rotate_left; · ((intro w hSw); (try dsimp only at hSw); go_simp; (try with_reducible rfl); done)
      (try simp only [Act.put, List.setIfInBounds_toArray, List.set_cons_zero, List.set_cons_succ])
      refine wpAnyH_done (by kernel_rfl) ?_ _
      go_wp2_with fail
      go_meet
      exact ⟨by rw [HP.out]; try rfl, HB2.out, HG2.out⟩
    · rw [Nat.zero_add] at hf
      subst hf
      have hgd : l.getD i lt0 = y := by simp [List.getD_eq_getElem?_getD, hy]
      have hil : i < l.length := (List.getElem?_eq_some_iff.1 hy).1
      obtain ⟨bl, o, rfl, hbl, hc⟩ := HL.out.at_ hil
      obtain ⟨hc0, hc1, hc2⟩ := Lt.at_ hc hy
      have HC := Lib.hid (fun (w' : World) (hw : Grew w w') => (hw.rules.1 bl _ hbl).trans hc1)
      have hi0 : (0 : Int) ≤ (i : Int) := by omega
      have hi1 : (i : Int) < (l.length : Int) := by omega
      have HP := Lib.hid (show preAdd l x = decide (y.ex = x.ex) by
        rw [HPR.out, a1, a2, Int.toNat_natCast, hgd]
        have : decide ((i : Int) < 0) = false := by simp
        rw [this]; rfl)
      clear hgd hil hc hc0 hc1 hc2 hy hyb
      by_cases hex : y.ex = x.ex
      · have hne : (y.ex != x.ex) = false := by simp [hex]
        have HP2 := Lib.hid (HP.out.trans (decide_eq_true hex))
        clear hex
        clear x0 x1 x2 xs xf
        refine wp_region_held_drew (S := (fun w' => w'.cell? ⟨w.heap.size, 0, none⟩ = some (.string x.ba) ∧ w'.cell? ⟨w.heap.size, 1, none⟩ = some (.int .i64 x.ex) ∧ w'.cell? ⟨w.heap.size, 2, none⟩ = some (.int .i64 x.q) ∧ w'.cell? ⟨bl, o + i * 3 + 1, none⟩ = some (.int .i64 y.ex))) (by kernel_rfl) (⟨(Lt.b3 HBD.out).1, (Lt.b3 HBD.out).2.1, (Lt.b3 HBD.out).2.2, HC.out _ HGD.out⟩) (fun hH => ?_)
        refine wpAnyH_take (i := 0) (v := ?_) (by simp only [List.getElem?_toArray, List.getElem?_cons_succ, List.getElem?_cons_zero]; rfl) (by kernel_rfl) (by kernel_rfl) (by kernel_rfl) (by intro _ _ _ h; exact h) (Or.inl ⟨by rfl, ?_⟩) hH ?_; rotate_left; · ((intro w hSw); (try dsimp only at hSw); go_simp; (try with_reducible rfl); done)
        (try simp only [Act.put, List.setIfInBounds_toArray, List.set_cons_zero, List.set_cons_succ])
        refine wpAnyH_ready (rs := [1]) (by kernel_rfl) (by simp) ?_
        refine AllReadyH.cons (by simp only [List.getElem?_toArray, List.getElem?_cons_succ, List.getElem?_cons_zero]; rfl) (fun K hK => ?_) AllReadyH.nil
        go_simp; (with_reducible refine (areLotsE_impl a1 _ _ _ (HL.out.grew HGD.out) HOK.out hn).mono ?_); rintro e w1 ⟨rfl, h1⟩; have HB1 := Lib.hid (HBD.out.grew h1); have HG1 := Lib.hid (HGD.out.trans h1); clear h1; (try go_wp2_with fail)
        refine hK.out _ _ (⟨(Lt.b3 HB1.out).1, (Lt.b3 HB1.out).2.1, (Lt.b3 HB1.out).2.2, HC.out _ HG1.out⟩) (fun hH => ?_)
        clear hK K
        (try simp only [Act.put, List.setIfInBounds_toArray, List.set_cons_zero, List.set_cons_succ])
        refine wpAnyH_take (i := 2) (v := ?_) (by simp only [List.getElem?_toArray, List.getElem?_cons_succ, List.getElem?_cons_zero]; rfl) (by kernel_rfl) (by kernel_rfl) (by kernel_rfl) (by intro _ _ _ h; exact h) (Or.inl ⟨by rfl, ?_⟩) hH ?_; rotate_left; · ((intro w hSw); (try dsimp only at hSw); go_simp; (try with_reducible rfl); done)
        (try simp only [Act.put, List.setIfInBounds_toArray, List.set_cons_zero, List.set_cons_succ])
        refine wpAnyH_take (i := 3) (v := ?_) (by simp only [List.getElem?_toArray, List.getElem?_cons_succ, List.getElem?_cons_zero]; rfl) (by kernel_rfl) (by kernel_rfl) (by kernel_rfl) (by intro _ _ _ h; exact h) (Or.inl ⟨by rfl, ?_⟩) hH ?_; rotate_left; · ((intro w hSw); (try dsimp only at hSw); go_simp; (try with_reducible rfl); done)
        (try simp only [Act.put, List.setIfInBounds_toArray, List.set_cons_zero, List.set_cons_succ])
        refine wpAnyH_take (i := 4) (v := ?_) (by simp only [List.getElem?_toArray, List.getElem?_cons_succ, List.getElem?_cons_zero]; rfl) (by kernel_rfl) (by kernel_rfl) (by kernel_rfl) (by intro _ _ _ h; exact h) (Or.inl ⟨by rfl, ?_⟩) hH ?_; rotate_left; · ((intro w hSw); (try dsimp only at hSw); go_simp; (try with_reducible rfl); done)
        (try simp only [Act.put, List.setIfInBounds_toArray, List.set_cons_zero, List.set_cons_succ])
        refine wpAnyH_ready (rs := [5]) (by kernel_rfl) (by simp) ?_
        refine AllReadyH.cons (by simp only [List.getElem?_toArray, List.getElem?_cons_succ, List.getElem?_cons_zero]; rfl) (fun K hK => ?_) AllReadyH.nil
        go_simp
        refine hK.out _ _ (⟨(Lt.b3 (HB1.out.alloc _)).1, (Lt.b3 (HB1.out.alloc _)).2.1, (Lt.b3 (HB1.out.alloc _)).2.2, HC.out _ (HG1.out.alloc _)⟩) (fun hH => ?_)
        clear hK K
        (try simp only [Act.put, List.setIfInBounds_toArray, List.set_cons_zero, List.set_cons_succ])
        refine wpAnyH_ready (rs := [6]) (by kernel_rfl) (by simp) ?_
        refine AllReadyH.cons (by simp only [List.getElem?_toArray, List.getElem?_cons_succ, List.getElem?_cons_zero]; rfl) (fun K hK => ?_) AllReadyH.nil
        go_simp; refine (areOneE_impl a2 _ _ _ (rd_new (E := Lt.E) _ x _ (by simp)) HXO.out).mono ?_; rintro e w2 ⟨rfl, h2⟩; have HB2 := Lib.hid ((HB1.out.alloc _).grew h2); have HG2 := Lib.hid ((HG1.out.alloc _).trans h2); clear h2; (try go_wp2_with fail)
        refine hK.out _ _ (⟨(Lt.b3 HB2.out).1, (Lt.b3 HB2.out).2.1, (Lt.b3 HB2.out).2.2, HC.out _ HG2.out⟩) (fun hH => ?_)
        clear hK K
        (try simp only [Act.put, List.setIfInBounds_toArray, List.set_cons_zero, List.set_cons_succ])
        refine wpAnyH_take (i := 7) (v := ?_) (by simp only [List.getElem?_toArray, List.getElem?_cons_succ, List.getElem?_cons_zero]; rfl) (by kernel_rfl) (by kernel_rfl) (by kernel_rfl) (by intro _ _ _ h; exact h) (Or.inl ⟨by rfl, ?_⟩) hH ?_; rotate_left; · ((intro w hSw); (try dsimp only at hSw); go_simp; (try with_reducible rfl); done)
        (try simp only [Act.put, List.setIfInBounds_toArray, List.set_cons_zero, List.set_cons_succ])
        refine wpAnyH_take (i := 8) (v := ?_) (by simp only [List.getElem?_toArray, List.getElem?_cons_succ, List.getElem?_cons_zero]; rfl) (by kernel_rfl) (by kernel_rfl) (by kernel_rfl) (by intro _ _ _ h; exact h) (Or.inl ⟨by rfl, ?_⟩) hH ?_; rotate_left; · ((intro w hSw); (try dsimp only at hSw); go_simp; (try with_reducible rfl); done)
        (try simp only [Act.put, List.setIfInBounds_toArray, List.set_cons_zero, List.set_cons_succ])
        refine wpAnyH_take (i := 9) (v := ?_) (by simp only [List.getElem?_toArray, List.getElem?_cons_succ, List.getElem?_cons_zero]; rfl) (by kernel_rfl) (by kernel_rfl) (by kernel_rfl) (by intro _ _ _ h; exact h) (Or.inl ⟨by rfl, ?_⟩) hH ?_; rotate_left; · ((intro w hSw); (try dsimp only at hSw); go_simp; (try with_reducible rfl); done)
        (try simp only [Act.put, List.setIfInBounds_toArray, List.set_cons_zero, List.set_cons_succ])
        refine wpAnyH_take (i := 10) (v := ?_) (by simp only [List.getElem?_toArray, List.getElem?_cons_succ, List.getElem?_cons_zero]; rfl) (by kernel_rfl) (by kernel_rfl) (by kernel_rfl) (by intro _ _ _ h; exact h) (Or.inl ⟨by rfl, ?_⟩) hH ?_; rotate_left; · ((intro w hSw); (try dsimp only at hSw); go_simp; (try with_reducible rfl); done)
        (try simp only [Act.put, List.setIfInBounds_toArray, List.set_cons_zero, List.set_cons_succ])
        refine wpAnyH_take (i := 11) (v := ?_) (by simp only [List.getElem?_toArray, List.getElem?_cons_succ, List.getElem?_cons_zero]; rfl) (by kernel_rfl) (by kernel_rfl) (by kernel_rfl) (by intro _ _ _ h; exact h) (Or.inl ⟨by rfl, ?_⟩) hH ?_; rotate_left; · ((intro w hSw); (try dsimp only at hSw); go_simp; (try with_reducible rfl); done)
        (try simp only [Act.put, List.setIfInBounds_toArray, List.set_cons_zero, List.set_cons_succ])
        refine wpAnyH_take (i := 12) (v := ?_) (by simp only [List.getElem?_toArray, List.getElem?_cons_succ, List.getElem?_cons_zero]; rfl) (by kernel_rfl) (by kernel_rfl) (by kernel_rfl) (by intro _ _ _ h; exact h) (Or.inl ⟨by rfl, ?_⟩) hH ?_; rotate_left; · ((intro w hSw); (try dsimp only at hSw); go_simp; (try with_reducible rfl); done)
        (try simp only [Act.put, List.setIfInBounds_toArray, List.set_cons_zero, List.set_cons_succ])
        refine wpAnyH_take (i := 13) (v := ?_) (by simp only [List.getElem?_toArray, List.getElem?_cons_succ, List.getElem?_cons_zero]; rfl) (by kernel_rfl) (by kernel_rfl) (by kernel_rfl) (by intro _ _ _ h; exact h) (Or.inl ⟨by rfl, ?_⟩) hH ?_; rotate_left; · ((intro w hSw); (try dsimp only at hSw); go_simp; (try with_reducible rfl); done)
        (try simp only [Act.put, List.setIfInBounds_toArray, List.set_cons_zero, List.set_cons_succ])
        refine wpAnyH_take (i := 14) (v := ?_) (by simp only [List.getElem?_toArray, List.getElem?_cons_succ, List.getElem?_cons_zero]; rfl) (by kernel_rfl) (by kernel_rfl) (by kernel_rfl) (by intro _ _ _ h; exact h) (Or.inl ⟨by rfl, ?_⟩) hH ?_; rotate_left; · ((intro w hSw); (try dsimp only at hSw); go_simp; (try with_reducible rfl); done)
        (try simp only [Act.put, List.setIfInBounds_toArray, List.set_cons_zero, List.set_cons_succ])
        refine wpAnyH_take (i := 15) (v := ?_) (by simp only [List.getElem?_toArray, List.getElem?_cons_succ, List.getElem?_cons_zero]; rfl) (by kernel_rfl) (by kernel_rfl) (by kernel_rfl) (by intro _ _ _ h; exact h) (Or.inl ⟨by rfl, ?_⟩) hH ?_; rotate_left; · ((intro w hSw); (try dsimp only at hSw); go_simp; (try with_reducible rfl); done)
        (try simp only [Act.put, List.setIfInBounds_toArray, List.set_cons_zero, List.set_cons_succ])
        refine wpAnyH_take (i := 16) (v := ?_) (by simp only [List.getElem?_toArray, List.getElem?_cons_succ, List.getElem?_cons_zero]; rfl) (by kernel_rfl) (by kernel_rfl) (by kernel_rfl) (by intro _ _ _ h; exact h) (Or.inl ⟨by rfl, ?_⟩) hH ?_; rotate_left; · ((intro w hSw); (try dsimp only at hSw); go_simp; (try with_reducible rfl); done)
        (try simp only [Act.put, List.setIfInBounds_toArray, List.set_cons_zero, List.set_cons_succ])
        refine wpAnyH_take (i := 17) (v := ?_) (by simp only [List.getElem?_toArray, List.getElem?_cons_succ, List.getElem?_cons_zero]; rfl) (by kernel_rfl) (by kernel_rfl) (by kernel_rfl) (by intro _ _ _ h; exact h) (Or.inl ⟨by rfl, ?_⟩) hH ?_; rotate_left; · ((intro w hSw); (try dsimp only at hSw); go_simp; (try with_reducible rfl); done)
        (try simp only [Act.put, List.setIfInBounds_toArray, List.set_cons_zero, List.set_cons_succ])
        refine wpAnyH_take (i := 18) (v := ?_) (by simp only [List.getElem?_toArray, List.getElem?_cons_succ, List.getElem?_cons_zero]; rfl) (by kernel_rfl) (by kernel_rfl) (by kernel_rfl) (by intro _ _ _ h; exact h) (Or.inl ⟨by rfl, ?_⟩) hH ?_; rotate_left; · ((intro w hSw); (try dsimp only at hSw); go_simp; (try with_reducible rfl); done)
        (try simp only [Act.put, List.setIfInBounds_toArray, List.set_cons_zero, List.set_cons_succ])
        refine wpAnyH_take (i := 19) (v := ?_) (by simp only [List.getElem?_toArray, List.getElem?_cons_succ, List.getElem?_cons_zero]; rfl) (by kernel_rfl) (by kernel_rfl) (by kernel_rfl) (by intro _ _ _ h; exact h) (Or.inl ⟨by rfl, ?_⟩) hH ?_; rotate_left; · ((intro w hSw); (try dsimp only at hSw); go_simp; (try with_reducible rfl); done)
        (try simp only [Act.put, List.setIfInBounds_toArray, List.set_cons_zero, List.set_cons_succ])
        refine wpAnyH_take (i := 20) (v := ?_) (by simp only [List.getElem?_toArray, List.getElem?_cons_succ, List.getElem?_cons_zero]; rfl) (by kernel_rfl) (by kernel_rfl) (by kernel_rfl) (by intro _ _ _ h; exact h) (Or.inl ⟨by rfl, ?_⟩) hH ?_; rotate_left; · ((intro w hSw); (try dsimp only at hSw); go_simp; (try with_reducible rfl); done)
        (try simp only [Act.put, List.setIfInBounds_toArray, List.set_cons_zero, List.set_cons_succ])
        refine wpAnyH_take (i := 21) (v := ?_) (by simp only [List.getElem?_toArray, List.getElem?_cons_succ, List.getElem?_cons_zero]; rfl) (by kernel_rfl) (by kernel_rfl) (by kernel_rfl) (by intro _ _ _ h; exact h) (Or.inl ⟨by rfl, ?_⟩) hH ?_; rotate_left; · ((intro w hSw); (try dsimp only at hSw); go_simp; (try with_reducible rfl); done)
        (try simp only [Act.put, List.setIfInBounds_toArray, List.set_cons_zero, List.set_cons_succ])
        refine wpAnyH_take (i := 22) (v := ?_) (by simp only [List.getElem?_toArray, List.getElem?_cons_succ, List.getElem?_cons_zero]; rfl) (by kernel_rfl) (by kernel_rfl) (by kernel_rfl) (by intro _ _ _ h; exact h) (Or.inl ⟨by rfl, ?_⟩) hH ?_; rotate_left; · ((intro w hSw); (try dsimp only at hSw); go_simp; (try with_reducible rfl); done)
        (try simp only [Act.put, List.setIfInBounds_toArray, List.set_cons_zero, List.set_cons_succ])
        refine wpAnyH_done (by kernel_rfl) ?_ _
        go_wp2_with fail
        go_meet
        exact ⟨by rw [HP2.out]; try rfl, HB2.out, HG2.out⟩
      · have hne : (y.ex != x.ex) = true := by simp [hex]
        have HP2 := Lib.hid (HP.out.trans (decide_eq_false hex))
        clear hex
        clear x0 x1 x2 xs xf
        refine wp_region_held_drew (S := (fun w' => w'.cell? ⟨w.heap.size, 0, none⟩ = some (.string x.ba) ∧ w'.cell? ⟨w.heap.size, 1, none⟩ = some (.int .i64 x.ex) ∧ w'.cell? ⟨w.heap.size, 2, none⟩ = some (.int .i64 x.q) ∧ w'.cell? ⟨bl, o + i * 3 + 1, none⟩ = some (.int .i64 y.ex))) (by kernel_rfl) (⟨(Lt.b3 HBD.out).1, (Lt.b3 HBD.out).2.1, (Lt.b3 HBD.out).2.2, HC.out _ HGD.out⟩) (fun hH => ?_)
        refine wpAnyH_take (i := 0) (v := ?_) (by simp only [List.getElem?_toArray, List.getElem?_cons_succ, List.getElem?_cons_zero]; rfl) (by kernel_rfl) (by kernel_rfl) (by kernel_rfl) (by intro _ _ _ h; exact h) (Or.inl ⟨by rfl, ?_⟩) hH ?_; rotate_left; · ((intro w hSw); (try dsimp only at hSw); go_simp; (try with_reducible rfl); done)
        (try simp only [Act.put, List.setIfInBounds_toArray, List.set_cons_zero, List.set_cons_succ])
        refine wpAnyH_ready (rs := [1]) (by kernel_rfl) (by simp) ?_
        refine AllReadyH.cons (by simp only [List.getElem?_toArray, List.getElem?_cons_succ, List.getElem?_cons_zero]; rfl) (fun K hK => ?_) AllReadyH.nil
        go_simp; (with_reducible refine (areLotsE_impl a1 _ _ _ (HL.out.grew HGD.out) HOK.out hn).mono ?_); rintro e w1 ⟨rfl, h1⟩; have HB1 := Lib.hid (HBD.out.grew h1); have HG1 := Lib.hid (HGD.out.trans h1); clear h1; (try go_wp2_with fail)
        refine hK.out _ _ (⟨(Lt.b3 HB1.out).1, (Lt.b3 HB1.out).2.1, (Lt.b3 HB1.out).2.2, HC.out _ HG1.out⟩) (fun hH => ?_)
        clear hK K
        (try simp only [Act.put, List.setIfInBounds_toArray, List.set_cons_zero, List.set_cons_succ])
        refine wpAnyH_take (i := 2) (v := ?_) (by simp only [List.getElem?_toArray, List.getElem?_cons_succ, List.getElem?_cons_zero]; rfl) (by kernel_rfl) (by kernel_rfl) (by kernel_rfl) (by intro _ _ _ h; exact h) (Or.inl ⟨by rfl, ?_⟩) hH ?_; rotate_left; · ((intro w hSw); (try dsimp only at hSw); go_simp; (try with_reducible rfl); done)
        (try simp only [Act.put, List.setIfInBounds_toArray, List.set_cons_zero, List.set_cons_succ])
        refine wpAnyH_take (i := 3) (v := ?_) (by simp only [List.getElem?_toArray, List.getElem?_cons_succ, List.getElem?_cons_zero]; rfl) (by kernel_rfl) (by kernel_rfl) (by kernel_rfl) (by intro _ _ _ h; exact h) (Or.inl ⟨by rfl, ?_⟩) hH ?_; rotate_left; · ((intro w hSw); (try dsimp only at hSw); go_simp; (try with_reducible rfl); done)
        (try simp only [Act.put, List.setIfInBounds_toArray, List.set_cons_zero, List.set_cons_succ])
        refine wpAnyH_take (i := 4) (v := ?_) (by simp only [List.getElem?_toArray, List.getElem?_cons_succ, List.getElem?_cons_zero]; rfl) (by kernel_rfl) (by kernel_rfl) (by kernel_rfl) (by intro _ _ _ h; exact h) (Or.inl ⟨by rfl, ?_⟩) hH ?_; rotate_left; · ((intro w hSw); (try dsimp only at hSw); go_simp; (try with_reducible rfl); done)
        (try simp only [Act.put, List.setIfInBounds_toArray, List.set_cons_zero, List.set_cons_succ])
        refine wpAnyH_ready (rs := [5]) (by kernel_rfl) (by simp) ?_
        refine AllReadyH.cons (by simp only [List.getElem?_toArray, List.getElem?_cons_succ, List.getElem?_cons_zero]; rfl) (fun K hK => ?_) AllReadyH.nil
        go_simp
        refine hK.out _ _ (⟨(Lt.b3 (HB1.out.alloc _)).1, (Lt.b3 (HB1.out.alloc _)).2.1, (Lt.b3 (HB1.out.alloc _)).2.2, HC.out _ (HG1.out.alloc _)⟩) (fun hH => ?_)
        clear hK K
        (try simp only [Act.put, List.setIfInBounds_toArray, List.set_cons_zero, List.set_cons_succ])
        refine wpAnyH_ready (rs := [6]) (by kernel_rfl) (by simp) ?_
        refine AllReadyH.cons (by simp only [List.getElem?_toArray, List.getElem?_cons_succ, List.getElem?_cons_zero]; rfl) (fun K hK => ?_) AllReadyH.nil
        go_simp; refine (areOneE_impl a2 _ _ _ (rd_new (E := Lt.E) _ x _ (by simp)) HXO.out).mono ?_; rintro e w2 ⟨rfl, h2⟩; have HB2 := Lib.hid ((HB1.out.alloc _).grew h2); have HG2 := Lib.hid ((HG1.out.alloc _).trans h2); clear h2; (try go_wp2_with fail)
        refine hK.out _ _ (⟨(Lt.b3 HB2.out).1, (Lt.b3 HB2.out).2.1, (Lt.b3 HB2.out).2.2, HC.out _ HG2.out⟩) (fun hH => ?_)
        clear hK K
        (try simp only [Act.put, List.setIfInBounds_toArray, List.set_cons_zero, List.set_cons_succ])
        refine wpAnyH_take (i := 7) (v := ?_) (by simp only [List.getElem?_toArray, List.getElem?_cons_succ, List.getElem?_cons_zero]; rfl) (by kernel_rfl) (by kernel_rfl) (by kernel_rfl) (by intro _ _ _ h; exact h) (Or.inl ⟨by rfl, ?_⟩) hH ?_; rotate_left; · ((intro w hSw); (try dsimp only at hSw); go_simp; (try with_reducible rfl); done)
        (try simp only [Act.put, List.setIfInBounds_toArray, List.set_cons_zero, List.set_cons_succ])
        refine wpAnyH_take (i := 8) (v := ?_) (by simp only [List.getElem?_toArray, List.getElem?_cons_succ, List.getElem?_cons_zero]; rfl) (by kernel_rfl) (by kernel_rfl) (by kernel_rfl) (by intro _ _ _ h; exact h) (Or.inl ⟨by rfl, ?_⟩) hH ?_; rotate_left; · ((intro w hSw); (try dsimp only at hSw); go_simp; (try with_reducible rfl); done)
        (try simp only [Act.put, List.setIfInBounds_toArray, List.set_cons_zero, List.set_cons_succ])
        refine wpAnyH_take (i := 9) (v := ?_) (by simp only [List.getElem?_toArray, List.getElem?_cons_succ, List.getElem?_cons_zero]; rfl) (by kernel_rfl) (by kernel_rfl) (by kernel_rfl) (by intro _ _ _ h; exact h) (Or.inl ⟨by rfl, ?_⟩) hH ?_; rotate_left; · ((intro w hSw); (try dsimp only at hSw); go_simp; (try with_reducible rfl); done)
        (try simp only [Act.put, List.setIfInBounds_toArray, List.set_cons_zero, List.set_cons_succ])
        refine wpAnyH_take (i := 10) (v := ?_) (by simp only [List.getElem?_toArray, List.getElem?_cons_succ, List.getElem?_cons_zero]; rfl) (by kernel_rfl) (by kernel_rfl) (by kernel_rfl) (by intro _ _ _ h; exact h) (Or.inl ⟨by rfl, ?_⟩) hH ?_; rotate_left; · ((intro w hSw); (try dsimp only at hSw); go_simp; (try with_reducible rfl); done)
        (try simp only [Act.put, List.setIfInBounds_toArray, List.set_cons_zero, List.set_cons_succ])
        refine wpAnyH_take (i := 11) (v := ?_) (by simp only [List.getElem?_toArray, List.getElem?_cons_succ, List.getElem?_cons_zero]; rfl) (by kernel_rfl) (by kernel_rfl) (by kernel_rfl) (by intro _ _ _ h; exact h) (Or.inl ⟨by rfl, ?_⟩) hH ?_; rotate_left; · ((intro w hSw); (try dsimp only at hSw); go_simp; (try with_reducible rfl); done)
        (try simp only [Act.put, List.setIfInBounds_toArray, List.set_cons_zero, List.set_cons_succ])
        refine wpAnyH_take (i := 12) (v := ?_) (by simp only [List.getElem?_toArray, List.getElem?_cons_succ, List.getElem?_cons_zero]; rfl) (by kernel_rfl) (by kernel_rfl) (by kernel_rfl) (by intro _ _ _ h; exact h) (Or.inl ⟨by rfl, ?_⟩) hH ?_; rotate_left; · ((intro w hSw); (try dsimp only at hSw); go_simp; (try with_reducible rfl); done)
        (try simp only [Act.put, List.setIfInBounds_toArray, List.set_cons_zero, List.set_cons_succ])
        refine wpAnyH_take (i := 13) (v := ?_) (by simp only [List.getElem?_toArray, List.getElem?_cons_succ, List.getElem?_cons_zero]; rfl) (by kernel_rfl) (by kernel_rfl) (by kernel_rfl) (by intro _ _ _ h; exact h) (Or.inl ⟨by rfl, ?_⟩) hH ?_; rotate_left; · ((intro w hSw); (try dsimp only at hSw); go_simp; (try with_reducible rfl); done)
        (try simp only [Act.put, List.setIfInBounds_toArray, List.set_cons_zero, List.set_cons_succ])
        refine wpAnyH_take (i := 14) (v := ?_) (by simp only [List.getElem?_toArray, List.getElem?_cons_succ, List.getElem?_cons_zero]; rfl) (by kernel_rfl) (by kernel_rfl) (by kernel_rfl) (by intro _ _ _ h; exact h) (Or.inl ⟨by rfl, ?_⟩) hH ?_; rotate_left; · ((intro w hSw); (try dsimp only at hSw); go_simp; (try with_reducible rfl); done)
        (try simp only [Act.put, List.setIfInBounds_toArray, List.set_cons_zero, List.set_cons_succ])
        refine wpAnyH_take (i := 15) (v := ?_) (by simp only [List.getElem?_toArray, List.getElem?_cons_succ, List.getElem?_cons_zero]; rfl) (by kernel_rfl) (by kernel_rfl) (by kernel_rfl) (by intro _ _ _ h; exact h) (Or.inl ⟨by rfl, ?_⟩) hH ?_; rotate_left; · ((intro w hSw); (try dsimp only at hSw); go_simp; (try with_reducible rfl); done)
        (try simp only [Act.put, List.setIfInBounds_toArray, List.set_cons_zero, List.set_cons_succ])
        refine wpAnyH_take (i := 16) (v := ?_) (by simp only [List.getElem?_toArray, List.getElem?_cons_succ, List.getElem?_cons_zero]; rfl) (by kernel_rfl) (by kernel_rfl) (by kernel_rfl) (by intro _ _ _ h; exact h) (Or.inl ⟨by rfl, ?_⟩) hH ?_; rotate_left; · ((intro w hSw); (try dsimp only at hSw); go_simp; (try with_reducible rfl); done)
        (try simp only [Act.put, List.setIfInBounds_toArray, List.set_cons_zero, List.set_cons_succ])
        refine wpAnyH_take (i := 17) (v := ?_) (by simp only [List.getElem?_toArray, List.getElem?_cons_succ, List.getElem?_cons_zero]; rfl) (by kernel_rfl) (by kernel_rfl) (by kernel_rfl) (by intro _ _ _ h; exact h) (Or.inl ⟨by rfl, ?_⟩) hH ?_; rotate_left; · ((intro w hSw); (try dsimp only at hSw); go_simp; (try with_reducible rfl); done)
        (try simp only [Act.put, List.setIfInBounds_toArray, List.set_cons_zero, List.set_cons_succ])
        refine wpAnyH_take (i := 18) (v := ?_) (by simp only [List.getElem?_toArray, List.getElem?_cons_succ, List.getElem?_cons_zero]; rfl) (by kernel_rfl) (by kernel_rfl) (by kernel_rfl) (by intro _ _ _ h; exact h) (Or.inl ⟨by rfl, ?_⟩) hH ?_; rotate_left; · ((intro w hSw); (try dsimp only at hSw); go_simp; (try with_reducible rfl); done)
        (try simp only [Act.put, List.setIfInBounds_toArray, List.set_cons_zero, List.set_cons_succ])
        refine wpAnyH_take (i := 19) (v := ?_) (by simp only [List.getElem?_toArray, List.getElem?_cons_succ, List.getElem?_cons_zero]; rfl) (by kernel_rfl) (by kernel_rfl) (by kernel_rfl) (by intro _ _ _ h; exact h) (Or.inl ⟨by rfl, ?_⟩) hH ?_; rotate_left; · ((intro w hSw); (try dsimp only at hSw); go_simp; (try with_reducible rfl); done)
        (try simp only [Act.put, List.setIfInBounds_toArray, List.set_cons_zero, List.set_cons_succ])
        refine wpAnyH_take (i := 20) (v := ?_) (by simp only [List.getElem?_toArray, List.getElem?_cons_succ, List.getElem?_cons_zero]; rfl) (by kernel_rfl) (by kernel_rfl) (by kernel_rfl) (by intro _ _ _ h; exact h) (Or.inl ⟨by rfl, ?_⟩) hH ?_; rotate_left; · ((intro w hSw); (try dsimp only at hSw); go_simp; (try with_reducible rfl); done)
        (try simp only [Act.put, List.setIfInBounds_toArray, List.set_cons_zero, List.set_cons_succ])
        refine wpAnyH_take (i := 21) (v := ?_) (by simp only [List.getElem?_toArray, List.getElem?_cons_succ, List.getElem?_cons_zero]; rfl) (by kernel_rfl) (by kernel_rfl) (by kernel_rfl) (by intro _ _ _ h; exact h) (Or.inl ⟨by rfl, ?_⟩) hH ?_; rotate_left; · ((intro w hSw); (try dsimp only at hSw); go_simp; (try with_reducible rfl); done)
        (try simp only [Act.put, List.setIfInBounds_toArray, List.set_cons_zero, List.set_cons_succ])
        refine wpAnyH_take (i := 22) (v := ?_) (by simp only [List.getElem?_toArray, List.getElem?_cons_succ, List.getElem?_cons_zero]; rfl) (by kernel_rfl) (by kernel_rfl) (by kernel_rfl) (by intro _ _ _ h; exact h) (Or.inl ⟨by rfl, ?_⟩) hH ?_; rotate_left; · ((intro w hSw); (try dsimp only at hSw); go_simp; (try with_reducible rfl); done)
        (try simp only [Act.put, List.setIfInBounds_toArray, List.set_cons_zero, List.set_cons_succ])
        refine wpAnyH_done (by kernel_rfl) ?_ _
        go_wp2_with fail
        go_meet
        exact ⟨by rw [HP2.out]; try rfl, HB2.out, HG2.out⟩
  case rest =>
    obtain ⟨rfl, hbx, hg⟩ := hcut
    replace HB := Lib.hid hbx
    replace HG := Lib.hid hg
    clear hbx hg HFL HPR
    have HFL := Lib.hid (findF_lt (b := x.ba) l 0)
    rw [HZ.out] at HFL
    cases hpre : preAdd l x
    · have HF := Lib.hid (show addF l x = ([], false) by simp [addF, hpre])
      clear hpre
      go_wp2_with fail
      go_ret2
      go_light
      exact ⟨none, 0, by rw [HF.out]; rfl, by rw [HF.out]; exact Own.none_, HG.out⟩
    have HAO := Lib.hid (addOut_ok hpre HOK.out HXO.out)
    have HA1 := Lib.hid (show areL l = true by simp only [preAdd, Bool.and_eq_true] at hpre; exact hpre.1.1)
    have HA2 := Lib.hid (show areL [x] = true by simp only [preAdd, Bool.and_eq_true] at hpre; exact hpre.1.2)
    have HFA := Lib.hid (show addF l x = (if areL (addOut l x) then addOut l x else [], areL (addOut l x)) by simp [addF, hpre])
    have h20 := areL_len HA1.out
    obtain ⟨x0, x1, x2, xs, xf⟩ := Lt.bx HB.out
    clear hpre
    go_upto_if 40 with (at_builtin; refine wpList_append_rd _ rfl (.tmp 36) (.tmp 37) _ rfl sl_Lt (w.heap.size + 1) _ _ _ ([] : List Lt) rfl (Own.new_ xs) _ _ _ l rfl rfl (HL.out.grew (HG.out.alloc _)) (by simp; omega) (by simp; omega) ?_; intro A3 c3 w3 ho3 hgr3 hat3; have HO3 := Lib.hid (show Own Lt.E 36 w3 (w.heap.size + 1) (.slice A3 l.length c3) l by simpa using ho3); have HG3 := Lib.hid ((HG.out.alloc _).app (Own.new_ (E := Lt.E) xs) (Nat.le_succ _) hgr3); have HB3 := Lib.hid ((HB.out.alloc (.cells #[] 36)).kept hgr3 (by intro e; simp [Value.ownBlock] at e; omega)); clear ho3 hgr3 hat3 x0 x1 x2 xs xf; obtain ⟨x0, x1, x2, xs, xf⟩ := Lt.bx HB3.out)
    go_cut [7, 8] (fun s7 s8 wx => ∃ A4 c4, s7 = .slice A4 (addOut l x).length c4 ∧ Own Lt.E 36 wx (w.heap.size + 1) s7 (addOut l x) ∧ Grew w wx)
    case first =>
      rcases HFL.out with rfl | ⟨i, y, hf, hy, hyb⟩
      · have HO_ := Lib.hid (show addOut l x = l.take (frontN (fun y => befL y x) l) ++ [x] ++ l.drop (frontN (fun y => befL y x) l) by
          simp only [addOut]
          rw [HZ.out, if_neg (by omega)])
        obtain ⟨tw, htw⟩ : ∃ tw, tw = frontN (fun y => befL y x) l := ⟨_, rfl⟩
        have HT := Lib.hid (show ∀ (i : Nat) (y : Lt), i < tw → l[i]? = some y → befL y x = true by rw [htw]; exact frontN_take _ l)
        have HSt := Lib.hid (show ∀ (y : Lt), l[tw]? = some y → befL y x = false by rw [htw]; exact frontN_stop _ l)
        have htl : tw ≤ l.length := by rw [htw]; exact frontN_le _ l
        rw [← htw] at HO_
        clear htw
        go_wp2_with fail
        go_loopw [8] (fun i wr => ∃ k : Nat, k ≤ tw ∧ i = .int .i64 k ∧ Grew w3 wr) (fun i _ => tw - (intOf i).toNat)
        case atStart => exact ⟨0, Nat.zero_le _, rfl, Grew.refl _⟩
        case round =>
          obtain ⟨k, hk, rfl, hgk⟩ := hrel
          have HGK := Lib.hid hgk
          clear x0 x1 x2 xs xf
          have HXB := Lib.hid (HB3.out.grew hgk)
          have HGW := Lib.hid (HG3.out.trans hgk)
          obtain ⟨x0, x1, x2, xs, xf⟩ := Lt.bx HXB.out
          by_cases hlt : k < l.length
          · obtain ⟨y, hy⟩ : ∃ y, l[k]? = some y := ⟨_, List.getElem?_eq_getElem hlt⟩
            obtain ⟨bl, o, rfl, hbl, hc⟩ := (HL.out.grew HGW.out).at_ (k := k) hlt
            obtain ⟨hc0, hc1, hc2⟩ := Lt.at_ hc hy
            have hd : decide ((k : Int) < (l.length : Int)) = true := by simp; omega
            have hi1 : (0 : Int) ≤ (k : Int) := by omega
            have hi2 : (k : Int) < (l.length : Int) := by omega
            by_cases hkt : k < tw
            · have hbe := HT.out k y hkt hy
              clear hy hc hgk
              go_wp2_with fail
              (refine wp_region_grow_lit (by kernel_rfl) (by kernel_rfl) ?_; repeat (any_goals (first | go_big_quiet_step (((go_at_call 40; exact quiet_grew (before_impl y x _)))) | quiet_step (((go_at_call 40; exact quiet_grew (before_impl y x _)))) | (refine wpQuiet_step (fun K hK => ?_); go_simp; split <;> rename_i hsp <;> (refine hK _ ?_; clear hK K) <;> (try first | simp only [hsp, decide_true, decide_false, Bool.not_true, Bool.not_false] | simp only [Int.not_le.2 hsp, decide_false, Bool.not_false] | simp only [Int.not_lt.2 hsp, decide_false, Bool.not_false] | simp only [Nat.not_le.2 hsp, decide_false, Bool.not_false] | simp only [Nat.not_lt.2 hsp, decide_false, Bool.not_false])))))
              all_goals (refine wpQuiet_nil ?_; intro w1 h1)
              go_wp2_with fail
              go_roundw
              case rel => go_light; exact ⟨k + 1, by omega, by go_num, HGK.out.trans h1⟩
              case measure => go_light; simp [intOf]; omega
            · obtain rfl : k = tw := by omega
              have hbe := HSt.out y hy
              clear hy hc hgk
              go_wp2_with fail
              (refine wp_region_grow_lit (by kernel_rfl) (by kernel_rfl) ?_; repeat (any_goals (first | go_big_quiet_step (((go_at_call 40; exact quiet_grew (before_impl y x _)))) | quiet_step (((go_at_call 40; exact quiet_grew (before_impl y x _)))) | (refine wpQuiet_step (fun K hK => ?_); go_simp; split <;> rename_i hsp <;> (refine hK _ ?_; clear hK K) <;> (try first | simp only [hsp, decide_true, decide_false, Bool.not_true, Bool.not_false] | simp only [Int.not_le.2 hsp, decide_false, Bool.not_false] | simp only [Int.not_lt.2 hsp, decide_false, Bool.not_false] | simp only [Nat.not_le.2 hsp, decide_false, Bool.not_false] | simp only [Nat.not_lt.2 hsp, decide_false, Bool.not_false])))))
              all_goals (refine wpQuiet_nil ?_; intro w1 h1)
              have HXR := Lib.hid (HXB.out.grew h1)
              have HGR := Lib.hid (HGW.out.trans h1)
              clear x0 x1 x2 xs xf hc0 hc1 hc2 h1 hbl hbe hd
              obtain ⟨x0, x1, x2, xs, xf⟩ := Lt.bx HXR.out
              have hi3 : (k : Int) ≤ (c : Int) := by omega
              have hi4 : k ≠ c := by omega
              go_wp2_with fail
              have HBD := Lib.hid HXR.out.drew
              have HGD := Lib.hid HGR.out.drew
              clear x0 x1 x2 xs xf
              refine wp_region_held_drew (S := (fun w' => w'.cell? ⟨w.heap.size, 0, none⟩ = some (.string x.ba) ∧ w'.cell? ⟨w.heap.size, 1, none⟩ = some (.int .i64 x.ex) ∧ w'.cell? ⟨w.heap.size, 2, none⟩ = some (.int .i64 x.q))) (by kernel_rfl) (Lt.b3 HBD.out) (fun hH => ?_)
              refine wpAnyH_take (i := 1) (v := ?_) (by simp only [List.getElem?_toArray, List.getElem?_cons_succ, List.getElem?_cons_zero]; rfl) (by kernel_rfl) (by kernel_rfl) (by kernel_rfl) (by intro _ _ _ h; exact h) (Or.inl ⟨by rfl, ?_⟩) hH ?_; rotate_left; · ((intro w hSw); (try dsimp only at hSw); go_simp; (try with_reducible rfl); done)
              (try simp only [Act.put, List.setIfInBounds_toArray, List.set_cons_zero, List.set_cons_succ])
              refine wpAnyH_take (i := 2) (v := ?_) (by simp only [List.getElem?_toArray, List.getElem?_cons_succ, List.getElem?_cons_zero]; rfl) (by kernel_rfl) (by kernel_rfl) (by kernel_rfl) (by intro _ _ _ h; exact h) (Or.inl ⟨by rfl, ?_⟩) hH ?_; rotate_left; · ((intro w hSw); (try dsimp only at hSw); go_simp; (try with_reducible rfl); done)
              (try simp only [Act.put, List.setIfInBounds_toArray, List.set_cons_zero, List.set_cons_succ])
              refine wpAnyH_take (i := 3) (v := ?_) (by simp only [List.getElem?_toArray, List.getElem?_cons_succ, List.getElem?_cons_zero]; rfl) (by kernel_rfl) (by kernel_rfl) (by kernel_rfl) (by intro _ _ _ h; exact h) (Or.inl ⟨by rfl, ?_⟩) hH ?_; rotate_left; · ((intro w hSw); (try dsimp only at hSw); go_simp; (try with_reducible rfl); done)
              (try simp only [Act.put, List.setIfInBounds_toArray, List.set_cons_zero, List.set_cons_succ])
              refine wpAnyH_take (i := 5) (v := ?_) (by simp only [List.getElem?_toArray, List.getElem?_cons_succ, List.getElem?_cons_zero]; rfl) (by kernel_rfl) (by kernel_rfl) (by kernel_rfl) (by intro _ _ _ h; exact h) (Or.inl ⟨by rfl, ?_⟩) hH ?_; rotate_left; · ((intro w hSw); (try dsimp only at hSw); go_simp; (try with_reducible rfl); done)
              (try simp only [Act.put, List.setIfInBounds_toArray, List.set_cons_zero, List.set_cons_succ])
              refine wpAnyH_take (i := 8) (v := ?_) (by simp only [List.getElem?_toArray, List.getElem?_cons_succ, List.getElem?_cons_zero]; rfl) (by kernel_rfl) (by kernel_rfl) (by kernel_rfl) (by intro _ _ _ h; exact h) (Or.inl ⟨by rfl, ?_⟩) hH ?_; rotate_left; · ((intro w hSw); (try dsimp only at hSw); go_simp; (try with_reducible rfl); done)
              (try simp only [Act.put, List.setIfInBounds_toArray, List.set_cons_zero, List.set_cons_succ])
              refine wpAnyH_take (i := 9) (v := ?_) (by simp only [List.getElem?_toArray, List.getElem?_cons_succ, List.getElem?_cons_zero]; rfl) (by kernel_rfl) (by kernel_rfl) (by kernel_rfl) (by intro _ _ _ h; exact h) (Or.inl ⟨by rfl, ?_⟩) hH ?_; rotate_left; · ((intro w hSw); (try dsimp only at hSw); go_simp; (try with_reducible rfl); done)
              (try simp only [Act.put, List.setIfInBounds_toArray, List.set_cons_zero, List.set_cons_succ])
              refine wpAnyH_take (i := 10) (v := ?_) (by simp only [List.getElem?_toArray, List.getElem?_cons_succ, List.getElem?_cons_zero]; rfl) (by kernel_rfl) (by kernel_rfl) (by kernel_rfl) (by intro _ _ _ h; exact h) (Or.inl ⟨by rfl, ?_⟩) hH ?_; rotate_left; · ((intro w hSw); (try dsimp only at hSw); go_simp; (try with_reducible rfl); done)
              (try simp only [Act.put, List.setIfInBounds_toArray, List.set_cons_zero, List.set_cons_succ])
              have HT1 := Lib.hid (show (l.take k).length = k by rw [List.length_take]; omega)
              have hWs : w.heap.size < w1.drew.heap.size := HBD.out.1
              have hWs2 : w.heap.size < w1.heap.size := HBD.out.1
              have HBE := Lib.hid (HBD.out.alloc (.cells #[] 36))
              have HGE := Lib.hid (HGD.out.alloc (.cells #[] 36))
              have HBX := Lib.hid (HBD.out.alloc (.cells #[.string x.ba, .int .i64 x.ex, .int .i64 x.q] 36))
              have HGX := Lib.hid (HGD.out.alloc (.cells #[.string x.ba, .int .i64 x.ex, .int .i64 x.q] 36))
              have HRX := Lib.hid (rd_new (E := Lt.E) w1.drew x 36 rfl)
              have HOE := Lib.hid (Own.new_ (E := Lt.E) (t := 36) (w := w1.drew) (base := w.heap.size + 1) hWs)
              refine wpAnyH_ready (rs := [0, 6]) (by kernel_rfl) (by simp) ?_
              refine (AllReadyH.cons (by simp only [List.getElem?_toArray, List.getElem?_cons_succ, List.getElem?_cons_zero]; rfl) (fun K hK => ?_) (AllReadyH.cons (by simp only [List.getElem?_toArray, List.getElem?_cons_succ, List.getElem?_cons_zero]; rfl) (fun K hK => ?_) AllReadyH.nil))
              ·
                go_simp
                refine hK.out _ _ (Lt.b3 HBE.out) (fun hH => ?_)
                clear hK K
                (try simp only [Act.put, List.setIfInBounds_toArray, List.set_cons_zero, List.set_cons_succ])
                refine wpAnyH_ready (rs := [4, 6]) (by kernel_rfl) (by simp) ?_
                refine (AllReadyH.cons (by simp only [List.getElem?_toArray, List.getElem?_cons_succ, List.getElem?_cons_zero]; rfl) (fun K hK => ?_) (AllReadyH.cons (by simp only [List.getElem?_toArray, List.getElem?_cons_succ, List.getElem?_cons_zero]; rfl) (fun K hK => ?_) AllReadyH.nil))
                ·
                  refine step_append_rd _ rfl (.tmp 65) (.tmp 68) _ rfl sl_Lt (w.heap.size + 1) _ _ _ ([] : List Lt) rfl HOE.out _ _ _ (l.take k) rfl HT1.out.symm ((HL.out.grew HGE.out).take k) (by rw [HT1.out]; simp only [List.length_nil]; omega) HBE.out.1 ?_; intro A5 c5 w5 ho5 hgr5 hat5; have HB5 := Lib.hid (HBE.out.kept hgr5 (by simp only [Value.ownBlock]; intro e; injection e with e; omega)); have HG5 := Lib.hid (HGE.out.app (E := Lt.E) HOE.out (Nat.le_succ _) hgr5); have HO5 := Lib.hid (show Own Lt.E 36 w5 (w.heap.size + 1) (.slice A5 k c5) (l.take k) by simpa using ho5); clear ho5 hgr5 hat5
                  refine hK.out _ _ (Lt.b3 HB5.out) (fun hH => ?_)
                  clear hK K
                  (try simp only [Act.put, List.setIfInBounds_toArray, List.set_cons_zero, List.set_cons_succ])
                  (try simp only [Nat.zero_add])
                  refine wpAnyH_ready (rs := [6]) (by kernel_rfl) (by simp) ?_
                  refine (AllReadyH.cons (by simp only [List.getElem?_toArray, List.getElem?_cons_succ, List.getElem?_cons_zero]; rfl) (fun K hK => ?_) AllReadyH.nil)
                  go_simp
                  refine hK.out _ _ (Lt.b3 (HB5.out.alloc _)) (fun hH => ?_)
                  clear hK K
                  (try simp only [Act.put, List.setIfInBounds_toArray, List.set_cons_zero, List.set_cons_succ])
                  have HB6 := Lib.hid (HB5.out.alloc (.cells #[.string x.ba, .int .i64 x.ex, .int .i64 x.q] 36))
                  have HG6 := Lib.hid (HG5.out.alloc (.cells #[.string x.ba, .int .i64 x.ex, .int .i64 x.q] 36))
                  have HO6 := Lib.hid (HO5.out.alloc (.cells #[.string x.ba, .int .i64 x.ex, .int .i64 x.q] 36))
                  have HR6 := Lib.hid (rd_new (E := Lt.E) w5 x 36 rfl)
                  refine wpAnyH_ready (rs := [7]) (by kernel_rfl) (by simp) ?_
                  refine (AllReadyH.cons (by simp only [List.getElem?_toArray, List.getElem?_cons_succ, List.getElem?_cons_zero]; rfl) (fun K hK => ?_) AllReadyH.nil)
                  refine step_append_rd _ rfl (.tmp 69) (.tmp 71) _ rfl sl_Lt (w.heap.size + 1) _ _ _ (l.take k) rfl HO6.out _ _ _ [x] rfl rfl HR6.out (by rw [HT1.out]; simp only [List.length_cons, List.length_nil]; omega) HB6.out.1 ?_; intro A7 c7 w7 ho7 hgr7 hat7; have HB7 := Lib.hid (HB6.out.kept hgr7 (Own.ne_ HO6.out (.inl (Nat.lt_succ_self _)))); have HG7 := Lib.hid (HG6.out.app HO6.out (Nat.le_succ _) hgr7); have HO7 := Lib.hid ho7; clear ho7 hgr7 hat7
                  refine hK.out _ _ (Lt.b3 HB7.out) (fun hH => ?_)
                  clear hK K
                  (try simp only [Act.put, List.setIfInBounds_toArray, List.set_cons_zero, List.set_cons_succ])
                  refine wpAnyH_ready (rs := [11]) (by kernel_rfl) (by simp) ?_
                  refine (AllReadyH.cons (by simp only [List.getElem?_toArray, List.getElem?_cons_succ, List.getElem?_cons_zero]; rfl) (fun K hK => ?_) AllReadyH.nil)
                  refine step_append_rd _ rfl (.tmp 72) (.tmp 75) _ rfl sl_Lt (w.heap.size + 1) _ _ _ (l.take k ++ [x]) rfl HO7.out _ _ _ (l.drop k) rfl (by simp) (Rd.drop (E := Lt.E) (k := k) (HL.out.grew HG7.out) (fun _ => by simp [Lt.E]; intro e; exact absurd e.symm hi4)) (by rw [List.length_append, HT1.out, List.length_drop]; simp only [List.length_cons, List.length_nil]; omega) HB7.out.1 ?_; intro A8 c8 w8 ho8 hgr8 hat8; have HB8 := Lib.hid (HB7.out.kept hgr8 (Own.ne_ HO7.out (.inl (Nat.lt_succ_self _)))); have HG8 := Lib.hid (HG7.out.app HO7.out (Nat.le_succ _) hgr8); have HO8 := Lib.hid ho8; clear ho8 hgr8 hat8
                  refine hK.out _ _ (Lt.b3 HB8.out) (fun hH => ?_)
                  clear hK K
                  (try simp only [Act.put, List.setIfInBounds_toArray, List.set_cons_zero, List.set_cons_succ])
                  refine wpAnyH_take (i := 12) (v := ?_) (by simp only [List.getElem?_toArray, List.getElem?_cons_succ, List.getElem?_cons_zero]; rfl) (by kernel_rfl) (by kernel_rfl) (by kernel_rfl) (by intro _ _ _ h; exact h) (Or.inl ⟨by rfl, ?_⟩) hH ?_; rotate_left; · ((intro w hSw); (try dsimp only at hSw); go_simp; (try with_reducible rfl); done)
                  (try simp only [Act.put, List.setIfInBounds_toArray, List.set_cons_zero, List.set_cons_succ])
                  refine wpAnyH_done (by kernel_rfl) ?_ _
                  go_wp2_with fail
                  go_meet
                  have HAL := Lib.hid (show (addOut l x).length = k + 1 + (l.length - k) by rw [HO_.out, List.length_append, List.length_append, HT1.out, List.length_drop]; rfl)
                  refine ⟨A8, c8, by rw [HAL.out], ?_, HG8.out⟩
                  rw [HO_.out]
                  exact HO8.out
                ·
                  go_simp
                  refine hK.out _ _ (Lt.b3 (HBE.out.alloc _)) (fun hH => ?_)
                  clear hK K
                  (try simp only [Act.put, List.setIfInBounds_toArray, List.set_cons_zero, List.set_cons_succ])
                  have HBEX := Lib.hid (HBE.out.alloc (.cells #[.string x.ba, .int .i64 x.ex, .int .i64 x.q] 36))
                  have HGEX := Lib.hid (HGE.out.alloc (.cells #[.string x.ba, .int .i64 x.ex, .int .i64 x.q] 36))
                  have HOEX := Lib.hid (HOE.out.alloc (.cells #[.string x.ba, .int .i64 x.ex, .int .i64 x.q] 36))
                  have HREX := Lib.hid (rd_new (E := Lt.E) (w1.drew.alloc (.cells #[] 36)) x 36 (n := w1.heap.size + 1) (by simp))
                  refine wpAnyH_ready (rs := [4]) (by kernel_rfl) (by simp) ?_
                  refine (AllReadyH.cons (by simp only [List.getElem?_toArray, List.getElem?_cons_succ, List.getElem?_cons_zero]; rfl) (fun K hK => ?_) AllReadyH.nil)
                  refine step_append_rd _ rfl (.tmp 65) (.tmp 68) _ rfl sl_Lt (w.heap.size + 1) _ _ _ ([] : List Lt) rfl HOEX.out _ _ _ (l.take k) rfl HT1.out.symm ((HL.out.grew HGEX.out).take k) (by rw [HT1.out]; simp only [List.length_nil]; omega) HBEX.out.1 ?_; intro A5 c5 w5 ho5 hgr5 hat5; have HB5 := Lib.hid (HBEX.out.kept hgr5 (by simp only [Value.ownBlock]; intro e; injection e with e; omega)); have HG5 := Lib.hid (HGEX.out.app (E := Lt.E) HOEX.out (Nat.le_succ _) hgr5); have HO5 := Lib.hid (show Own Lt.E 36 w5 (w.heap.size + 1) (.slice A5 k c5) (l.take k) by simpa using ho5); have HR6 := Lib.hid (HREX.out.kept hgr5 (by intro b o e1 e2; simp only [Option.some.injEq, Addr.mk.injEq] at e1; simp [Value.ownBlock] at e2; have h9 : w1.drew.heap.size = w1.heap.size := rfl; omega)); clear ho5 hgr5 hat5
                  refine hK.out _ _ (Lt.b3 HB5.out) (fun hH => ?_)
                  clear hK K
                  (try simp only [Act.put, List.setIfInBounds_toArray, List.set_cons_zero, List.set_cons_succ])
                  (try simp only [Nat.zero_add])
                  have HB6 := HB5
                  have HG6 := HG5
                  have HO6 := HO5
                  refine wpAnyH_ready (rs := [7]) (by kernel_rfl) (by simp) ?_
                  refine (AllReadyH.cons (by simp only [List.getElem?_toArray, List.getElem?_cons_succ, List.getElem?_cons_zero]; rfl) (fun K hK => ?_) AllReadyH.nil)
                  refine step_append_rd _ rfl (.tmp 69) (.tmp 71) _ rfl sl_Lt (w.heap.size + 1) _ _ _ (l.take k) rfl HO6.out _ _ _ [x] rfl rfl HR6.out (by rw [HT1.out]; simp only [List.length_cons, List.length_nil]; omega) HB6.out.1 ?_; intro A7 c7 w7 ho7 hgr7 hat7; have HB7 := Lib.hid (HB6.out.kept hgr7 (Own.ne_ HO6.out (.inl (Nat.lt_succ_self _)))); have HG7 := Lib.hid (HG6.out.app HO6.out (Nat.le_succ _) hgr7); have HO7 := Lib.hid ho7; clear ho7 hgr7 hat7
                  refine hK.out _ _ (Lt.b3 HB7.out) (fun hH => ?_)
                  clear hK K
                  (try simp only [Act.put, List.setIfInBounds_toArray, List.set_cons_zero, List.set_cons_succ])
                  refine wpAnyH_ready (rs := [11]) (by kernel_rfl) (by simp) ?_
                  refine (AllReadyH.cons (by simp only [List.getElem?_toArray, List.getElem?_cons_succ, List.getElem?_cons_zero]; rfl) (fun K hK => ?_) AllReadyH.nil)
                  refine step_append_rd _ rfl (.tmp 72) (.tmp 75) _ rfl sl_Lt (w.heap.size + 1) _ _ _ (l.take k ++ [x]) rfl HO7.out _ _ _ (l.drop k) rfl (by simp) (Rd.drop (E := Lt.E) (k := k) (HL.out.grew HG7.out) (fun _ => by simp [Lt.E]; intro e; exact absurd e.symm hi4)) (by rw [List.length_append, HT1.out, List.length_drop]; simp only [List.length_cons, List.length_nil]; omega) HB7.out.1 ?_; intro A8 c8 w8 ho8 hgr8 hat8; have HB8 := Lib.hid (HB7.out.kept hgr8 (Own.ne_ HO7.out (.inl (Nat.lt_succ_self _)))); have HG8 := Lib.hid (HG7.out.app HO7.out (Nat.le_succ _) hgr8); have HO8 := Lib.hid ho8; clear ho8 hgr8 hat8
                  refine hK.out _ _ (Lt.b3 HB8.out) (fun hH => ?_)
                  clear hK K
                  (try simp only [Act.put, List.setIfInBounds_toArray, List.set_cons_zero, List.set_cons_succ])
                  refine wpAnyH_take (i := 12) (v := ?_) (by simp only [List.getElem?_toArray, List.getElem?_cons_succ, List.getElem?_cons_zero]; rfl) (by kernel_rfl) (by kernel_rfl) (by kernel_rfl) (by intro _ _ _ h; exact h) (Or.inl ⟨by rfl, ?_⟩) hH ?_; rotate_left; · ((intro w hSw); (try dsimp only at hSw); go_simp; (try with_reducible rfl); done)
                  (try simp only [Act.put, List.setIfInBounds_toArray, List.set_cons_zero, List.set_cons_succ])
                  refine wpAnyH_done (by kernel_rfl) ?_ _
                  go_wp2_with fail
                  go_meet
                  have HAL := Lib.hid (show (addOut l x).length = k + 1 + (l.length - k) by rw [HO_.out, List.length_append, List.length_append, HT1.out, List.length_drop]; rfl)
                  refine ⟨A8, c8, by rw [HAL.out], ?_, HG8.out⟩
                  rw [HO_.out]
                  exact HO8.out
              ·
                go_simp
                refine hK.out _ _ (Lt.b3 HBX.out) (fun hH => ?_)
                clear hK K
                (try simp only [Act.put, List.setIfInBounds_toArray, List.set_cons_zero, List.set_cons_succ])
                have HBXE := Lib.hid (HBX.out.alloc (.cells #[] 36))
                have HGXE := Lib.hid (HGX.out.alloc (.cells #[] 36))
                have HRXE := Lib.hid (HRX.out.grew ((Grew.refl _).alloc (.cells #[] 36)))
                have HOXE := Lib.hid (Own.new_ (E := Lt.E) (t := 36) (w := w1.drew.alloc (.cells #[.string x.ba, .int .i64 x.ex, .int .i64 x.q] 36)) (base := w.heap.size + 1) HBX.out.1)
                have hsz1 : (w1.drew.alloc (.cells #[.string x.ba, .int .i64 x.ex, .int .i64 x.q] 36)).heap.size = w1.heap.size + 1 := by simp
                rw [hsz1] at HOXE
                clear hsz1
                refine wpAnyH_ready (rs := [0]) (by kernel_rfl) (by simp) ?_
                refine (AllReadyH.cons (by simp only [List.getElem?_toArray, List.getElem?_cons_succ, List.getElem?_cons_zero]; rfl) (fun K hK => ?_) AllReadyH.nil)
                go_simp
                refine hK.out _ _ (Lt.b3 HBXE.out) (fun hH => ?_)
                clear hK K
                (try simp only [Act.put, List.setIfInBounds_toArray, List.set_cons_zero, List.set_cons_succ])
                refine wpAnyH_ready (rs := [4]) (by kernel_rfl) (by simp) ?_
                refine (AllReadyH.cons (by simp only [List.getElem?_toArray, List.getElem?_cons_succ, List.getElem?_cons_zero]; rfl) (fun K hK => ?_) AllReadyH.nil)
                refine step_append_rd _ rfl (.tmp 65) (.tmp 68) _ rfl sl_Lt (w.heap.size + 1) _ _ _ ([] : List Lt) rfl HOXE.out _ _ _ (l.take k) rfl HT1.out.symm ((HL.out.grew HGXE.out).take k) (by rw [HT1.out]; simp only [List.length_nil]; omega) HBXE.out.1 ?_; intro A5 c5 w5 ho5 hgr5 hat5; have HB5 := Lib.hid (HBXE.out.kept hgr5 (by simp only [Value.ownBlock]; intro e; injection e with e; omega)); have HG5 := Lib.hid (HGXE.out.app (E := Lt.E) HOXE.out (Nat.le_succ _) hgr5); have HO5 := Lib.hid (show Own Lt.E 36 w5 (w.heap.size + 1) (.slice A5 k c5) (l.take k) by simpa using ho5); have HR6 := Lib.hid (HRXE.out.kept hgr5 (by intro b o e1 e2; simp only [Option.some.injEq, Addr.mk.injEq] at e1; simp [Value.ownBlock] at e2; have h9 : w1.drew.heap.size = w1.heap.size := rfl; omega)); clear ho5 hgr5 hat5
                refine hK.out _ _ (Lt.b3 HB5.out) (fun hH => ?_)
                clear hK K
                (try simp only [Act.put, List.setIfInBounds_toArray, List.set_cons_zero, List.set_cons_succ])
                (try simp only [Nat.zero_add])
                have HB6 := HB5
                have HG6 := HG5
                have HO6 := HO5
                refine wpAnyH_ready (rs := [7]) (by kernel_rfl) (by simp) ?_
                refine (AllReadyH.cons (by simp only [List.getElem?_toArray, List.getElem?_cons_succ, List.getElem?_cons_zero]; rfl) (fun K hK => ?_) AllReadyH.nil)
                refine step_append_rd _ rfl (.tmp 69) (.tmp 71) _ rfl sl_Lt (w.heap.size + 1) _ _ _ (l.take k) rfl HO6.out _ _ _ [x] rfl rfl HR6.out (by rw [HT1.out]; simp only [List.length_cons, List.length_nil]; omega) HB6.out.1 ?_; intro A7 c7 w7 ho7 hgr7 hat7; have HB7 := Lib.hid (HB6.out.kept hgr7 (Own.ne_ HO6.out (.inl (Nat.lt_succ_self _)))); have HG7 := Lib.hid (HG6.out.app HO6.out (Nat.le_succ _) hgr7); have HO7 := Lib.hid ho7; clear ho7 hgr7 hat7
                refine hK.out _ _ (Lt.b3 HB7.out) (fun hH => ?_)
                clear hK K
                (try simp only [Act.put, List.setIfInBounds_toArray, List.set_cons_zero, List.set_cons_succ])
                refine wpAnyH_ready (rs := [11]) (by kernel_rfl) (by simp) ?_
                refine (AllReadyH.cons (by simp only [List.getElem?_toArray, List.getElem?_cons_succ, List.getElem?_cons_zero]; rfl) (fun K hK => ?_) AllReadyH.nil)
                refine step_append_rd _ rfl (.tmp 72) (.tmp 75) _ rfl sl_Lt (w.heap.size + 1) _ _ _ (l.take k ++ [x]) rfl HO7.out _ _ _ (l.drop k) rfl (by simp) (Rd.drop (E := Lt.E) (k := k) (HL.out.grew HG7.out) (fun _ => by simp [Lt.E]; intro e; exact absurd e.symm hi4)) (by rw [List.length_append, HT1.out, List.length_drop]; simp only [List.length_cons, List.length_nil]; omega) HB7.out.1 ?_; intro A8 c8 w8 ho8 hgr8 hat8; have HB8 := Lib.hid (HB7.out.kept hgr8 (Own.ne_ HO7.out (.inl (Nat.lt_succ_self _)))); have HG8 := Lib.hid (HG7.out.app HO7.out (Nat.le_succ _) hgr8); have HO8 := Lib.hid ho8; clear ho8 hgr8 hat8
                refine hK.out _ _ (Lt.b3 HB8.out) (fun hH => ?_)
                clear hK K
                (try simp only [Act.put, List.setIfInBounds_toArray, List.set_cons_zero, List.set_cons_succ])
                refine wpAnyH_take (i := 12) (v := ?_) (by simp only [List.getElem?_toArray, List.getElem?_cons_succ, List.getElem?_cons_zero]; rfl) (by kernel_rfl) (by kernel_rfl) (by kernel_rfl) (by intro _ _ _ h; exact h) (Or.inl ⟨by rfl, ?_⟩) hH ?_; rotate_left; · ((intro w hSw); (try dsimp only at hSw); go_simp; (try with_reducible rfl); done)
                (try simp only [Act.put, List.setIfInBounds_toArray, List.set_cons_zero, List.set_cons_succ])
                refine wpAnyH_done (by kernel_rfl) ?_ _
                go_wp2_with fail
                go_meet
                have HAL := Lib.hid (show (addOut l x).length = k + 1 + (l.length - k) by rw [HO_.out, List.length_append, List.length_append, HT1.out, List.length_drop]; rfl)
                refine ⟨A8, c8, by rw [HAL.out], ?_, HG8.out⟩
                rw [HO_.out]
                exact HO8.out
          · obtain rfl : k = l.length := by omega
            obtain rfl : tw = l.length := by omega
            have hd : decide ((l.length : Int) < (l.length : Int)) = false := by simp
            clear hgk
            go_wp2_with fail
            (refine wp_region_grow_lit (by kernel_rfl) (by kernel_rfl) ?_; repeat (any_goals (first | go_big_quiet_step ((fail)) | quiet_step ((fail)) | (refine wpQuiet_step (fun K hK => ?_); go_simp; split <;> rename_i hsp <;> (refine hK _ ?_; clear hK K) <;> (try first | simp only [hsp, decide_true, decide_false, Bool.not_true, Bool.not_false] | simp only [Int.not_le.2 hsp, decide_false, Bool.not_false] | simp only [Int.not_lt.2 hsp, decide_false, Bool.not_false] | simp only [Nat.not_le.2 hsp, decide_false, Bool.not_false] | simp only [Nat.not_lt.2 hsp, decide_false, Bool.not_false])))))
            all_goals (refine wpQuiet_nil ?_; intro w1 h1)
            have HXR := Lib.hid (HXB.out.grew h1)
            have HGR := Lib.hid (HGW.out.trans h1)
            clear x0 x1 x2 xs xf h1 hd
            obtain ⟨x0, x1, x2, xs, xf⟩ := Lt.bx HXR.out
            have hi3 : (l.length : Int) ≤ (c : Int) := by omega
            go_wp2_with fail
            have HBD := Lib.hid HXR.out.drew
            have HGD := Lib.hid HGR.out.drew
            clear x0 x1 x2 xs xf
            rcases A with _ | ⟨ab, ao, asp⟩
            ·
              refine wp_region_held_drew (S := (fun w' => w'.cell? ⟨w.heap.size, 0, none⟩ = some (.string x.ba) ∧ w'.cell? ⟨w.heap.size, 1, none⟩ = some (.int .i64 x.ex) ∧ w'.cell? ⟨w.heap.size, 2, none⟩ = some (.int .i64 x.q))) (by kernel_rfl) (Lt.b3 HBD.out) (fun hH => ?_)
              refine wpAnyH_take (i := 1) (v := ?_) (by simp only [List.getElem?_toArray, List.getElem?_cons_succ, List.getElem?_cons_zero]; rfl) (by kernel_rfl) (by kernel_rfl) (by kernel_rfl) (by intro _ _ _ h; exact h) (Or.inl ⟨by rfl, ?_⟩) hH ?_; rotate_left; · ((intro w hSw); (try dsimp only at hSw); go_simp; (try with_reducible rfl); done)
              (try simp only [Act.put, List.setIfInBounds_toArray, List.set_cons_zero, List.set_cons_succ])
              refine wpAnyH_take (i := 2) (v := ?_) (by simp only [List.getElem?_toArray, List.getElem?_cons_succ, List.getElem?_cons_zero]; rfl) (by kernel_rfl) (by kernel_rfl) (by kernel_rfl) (by intro _ _ _ h; exact h) (Or.inl ⟨by rfl, ?_⟩) hH ?_; rotate_left; · ((intro w hSw); (try dsimp only at hSw); go_simp; (try with_reducible rfl); done)
              (try simp only [Act.put, List.setIfInBounds_toArray, List.set_cons_zero, List.set_cons_succ])
              refine wpAnyH_take (i := 3) (v := ?_) (by simp only [List.getElem?_toArray, List.getElem?_cons_succ, List.getElem?_cons_zero]; rfl) (by kernel_rfl) (by kernel_rfl) (by kernel_rfl) (by intro _ _ _ h; exact h) (Or.inl ⟨by rfl, ?_⟩) hH ?_; rotate_left; · ((intro w hSw); (try dsimp only at hSw); go_simp; (try with_reducible rfl); done)
              (try simp only [Act.put, List.setIfInBounds_toArray, List.set_cons_zero, List.set_cons_succ])
              refine wpAnyH_take (i := 5) (v := ?_) (by simp only [List.getElem?_toArray, List.getElem?_cons_succ, List.getElem?_cons_zero]; rfl) (by kernel_rfl) (by kernel_rfl) (by kernel_rfl) (by intro _ _ _ h; exact h) (Or.inl ⟨by rfl, ?_⟩) hH ?_; rotate_left; · ((intro w hSw); (try dsimp only at hSw); go_simp; (try with_reducible rfl); done)
              (try simp only [Act.put, List.setIfInBounds_toArray, List.set_cons_zero, List.set_cons_succ])
              refine wpAnyH_take (i := 8) (v := ?_) (by simp only [List.getElem?_toArray, List.getElem?_cons_succ, List.getElem?_cons_zero]; rfl) (by kernel_rfl) (by kernel_rfl) (by kernel_rfl) (by intro _ _ _ h; exact h) (Or.inl ⟨by rfl, ?_⟩) hH ?_; rotate_left; · ((intro w hSw); (try dsimp only at hSw); go_simp; (try with_reducible rfl); done)
              (try simp only [Act.put, List.setIfInBounds_toArray, List.set_cons_zero, List.set_cons_succ])
              refine wpAnyH_take (i := 9) (v := ?_) (by simp only [List.getElem?_toArray, List.getElem?_cons_succ, List.getElem?_cons_zero]; rfl) (by kernel_rfl) (by kernel_rfl) (by kernel_rfl) (by intro _ _ _ h; exact h) (Or.inl ⟨by rfl, ?_⟩) hH ?_; rotate_left; · ((intro w hSw); (try dsimp only at hSw); go_simp; (try with_reducible rfl); done)
              (try simp only [Act.put, List.setIfInBounds_toArray, List.set_cons_zero, List.set_cons_succ])
              refine wpAnyH_take (i := 10) (v := ?_) (by simp only [List.getElem?_toArray, List.getElem?_cons_succ, List.getElem?_cons_zero]; rfl) (by kernel_rfl) (by kernel_rfl) (by kernel_rfl) (by intro _ _ _ h; exact h) (Or.inl ⟨by rfl, ?_⟩) hH ?_; rotate_left; · ((intro w hSw); (try dsimp only at hSw); go_simp; (try with_reducible rfl); done)
              (try simp only [Act.put, List.setIfInBounds_toArray, List.set_cons_zero, List.set_cons_succ])
              have HT1 := Lib.hid (show (l.take l.length).length = l.length by rw [List.length_take]; omega)
              have hWs : w.heap.size < w1.drew.heap.size := HBD.out.1
              have hWs2 : w.heap.size < w1.heap.size := HBD.out.1
              have HBE := Lib.hid (HBD.out.alloc (.cells #[] 36))
              have HGE := Lib.hid (HGD.out.alloc (.cells #[] 36))
              have HBX := Lib.hid (HBD.out.alloc (.cells #[.string x.ba, .int .i64 x.ex, .int .i64 x.q] 36))
              have HGX := Lib.hid (HGD.out.alloc (.cells #[.string x.ba, .int .i64 x.ex, .int .i64 x.q] 36))
              have HRX := Lib.hid (rd_new (E := Lt.E) w1.drew x 36 rfl)
              have HOE := Lib.hid (Own.new_ (E := Lt.E) (t := 36) (w := w1.drew) (base := w.heap.size + 1) hWs)
              refine wpAnyH_ready (rs := [0, 6]) (by kernel_rfl) (by simp) ?_
              refine (AllReadyH.cons (by simp only [List.getElem?_toArray, List.getElem?_cons_succ, List.getElem?_cons_zero]; rfl) (fun K hK => ?_) (AllReadyH.cons (by simp only [List.getElem?_toArray, List.getElem?_cons_succ, List.getElem?_cons_zero]; rfl) (fun K hK => ?_) AllReadyH.nil))
              ·
                go_simp
                refine hK.out _ _ (Lt.b3 HBE.out) (fun hH => ?_)
                clear hK K
                (try simp only [Act.put, List.setIfInBounds_toArray, List.set_cons_zero, List.set_cons_succ])
                refine wpAnyH_ready (rs := [4, 6]) (by kernel_rfl) (by simp) ?_
                refine (AllReadyH.cons (by simp only [List.getElem?_toArray, List.getElem?_cons_succ, List.getElem?_cons_zero]; rfl) (fun K hK => ?_) (AllReadyH.cons (by simp only [List.getElem?_toArray, List.getElem?_cons_succ, List.getElem?_cons_zero]; rfl) (fun K hK => ?_) AllReadyH.nil))
                ·
                  refine step_append_rd _ rfl (.tmp 65) (.tmp 68) _ rfl sl_Lt (w.heap.size + 1) _ _ _ ([] : List Lt) rfl HOE.out _ _ _ (l.take l.length) rfl HT1.out.symm ((HL.out.grew HGE.out).take l.length) (by rw [HT1.out]; simp only [List.length_nil]; omega) HBE.out.1 ?_; intro A5 c5 w5 ho5 hgr5 hat5; have HB5 := Lib.hid (HBE.out.kept hgr5 (by simp only [Value.ownBlock]; intro e; injection e with e; omega)); have HG5 := Lib.hid (HGE.out.app (E := Lt.E) HOE.out (Nat.le_succ _) hgr5); have HO5 := Lib.hid (show Own Lt.E 36 w5 (w.heap.size + 1) (.slice A5 l.length c5) (l.take l.length) by simpa using ho5); clear ho5 hgr5 hat5
                  refine hK.out _ _ (Lt.b3 HB5.out) (fun hH => ?_)
                  clear hK K
                  (try simp only [Act.put, List.setIfInBounds_toArray, List.set_cons_zero, List.set_cons_succ])
                  (try simp only [Nat.zero_add])
                  refine wpAnyH_ready (rs := [6]) (by kernel_rfl) (by simp) ?_
                  refine (AllReadyH.cons (by simp only [List.getElem?_toArray, List.getElem?_cons_succ, List.getElem?_cons_zero]; rfl) (fun K hK => ?_) AllReadyH.nil)
                  go_simp
                  refine hK.out _ _ (Lt.b3 (HB5.out.alloc _)) (fun hH => ?_)
                  clear hK K
                  (try simp only [Act.put, List.setIfInBounds_toArray, List.set_cons_zero, List.set_cons_succ])
                  have HB6 := Lib.hid (HB5.out.alloc (.cells #[.string x.ba, .int .i64 x.ex, .int .i64 x.q] 36))
                  have HG6 := Lib.hid (HG5.out.alloc (.cells #[.string x.ba, .int .i64 x.ex, .int .i64 x.q] 36))
                  have HO6 := Lib.hid (HO5.out.alloc (.cells #[.string x.ba, .int .i64 x.ex, .int .i64 x.q] 36))
                  have HR6 := Lib.hid (rd_new (E := Lt.E) w5 x 36 rfl)
                  refine wpAnyH_ready (rs := [7]) (by kernel_rfl) (by simp) ?_
                  refine (AllReadyH.cons (by simp only [List.getElem?_toArray, List.getElem?_cons_succ, List.getElem?_cons_zero]; rfl) (fun K hK => ?_) AllReadyH.nil)
                  refine step_append_rd _ rfl (.tmp 69) (.tmp 71) _ rfl sl_Lt (w.heap.size + 1) _ _ _ (l.take l.length) rfl HO6.out _ _ _ [x] rfl rfl HR6.out (by rw [HT1.out]; simp only [List.length_cons, List.length_nil]; omega) HB6.out.1 ?_; intro A7 c7 w7 ho7 hgr7 hat7; have HB7 := Lib.hid (HB6.out.kept hgr7 (Own.ne_ HO6.out (.inl (Nat.lt_succ_self _)))); have HG7 := Lib.hid (HG6.out.app HO6.out (Nat.le_succ _) hgr7); have HO7 := Lib.hid ho7; clear ho7 hgr7 hat7
                  refine hK.out _ _ (Lt.b3 HB7.out) (fun hH => ?_)
                  clear hK K
                  (try simp only [Act.put, List.setIfInBounds_toArray, List.set_cons_zero, List.set_cons_succ])
                  refine wpAnyH_ready (rs := [11]) (by kernel_rfl) (by simp) ?_
                  refine (AllReadyH.cons (by simp only [List.getElem?_toArray, List.getElem?_cons_succ, List.getElem?_cons_zero]; rfl) (fun K hK => ?_) AllReadyH.nil)
                  refine step_append_rd _ rfl (.tmp 72) (.tmp 75) _ rfl sl_Lt (w.heap.size + 1) _ _ _ (l.take l.length ++ [x]) rfl HO7.out _ _ _ (l.drop l.length) rfl (by simp) (by rw [List.drop_length]; exact Rd.nil) (by rw [List.length_append, HT1.out, List.length_drop]; simp only [List.length_cons, List.length_nil]; omega) HB7.out.1 ?_; intro A8 c8 w8 ho8 hgr8 hat8; have HB8 := Lib.hid (HB7.out.kept hgr8 (Own.ne_ HO7.out (.inl (Nat.lt_succ_self _)))); have HG8 := Lib.hid (HG7.out.app HO7.out (Nat.le_succ _) hgr8); have HO8 := Lib.hid ho8; clear ho8 hgr8 hat8
                  refine hK.out _ _ (Lt.b3 HB8.out) (fun hH => ?_)
                  clear hK K
                  (try simp only [Act.put, List.setIfInBounds_toArray, List.set_cons_zero, List.set_cons_succ])
                  refine wpAnyH_take (i := 12) (v := ?_) (by simp only [List.getElem?_toArray, List.getElem?_cons_succ, List.getElem?_cons_zero]; rfl) (by kernel_rfl) (by kernel_rfl) (by kernel_rfl) (by intro _ _ _ h; exact h) (Or.inl ⟨by rfl, ?_⟩) hH ?_; rotate_left; · ((intro w hSw); (try dsimp only at hSw); go_simp; (try with_reducible rfl); done)
                  (try simp only [Act.put, List.setIfInBounds_toArray, List.set_cons_zero, List.set_cons_succ])
                  refine wpAnyH_done (by kernel_rfl) ?_ _
                  go_wp2_with fail
                  go_meet
                  have HAL := Lib.hid (show (addOut l x).length = l.length + 1 by rw [HO_.out]; simp)
                  refine ⟨A8, c8, by rw [HAL.out], ?_, HG8.out⟩
                  rw [HO_.out]
                  exact HO8.out
                ·
                  go_simp
                  refine hK.out _ _ (Lt.b3 (HBE.out.alloc _)) (fun hH => ?_)
                  clear hK K
                  (try simp only [Act.put, List.setIfInBounds_toArray, List.set_cons_zero, List.set_cons_succ])
                  have HBEX := Lib.hid (HBE.out.alloc (.cells #[.string x.ba, .int .i64 x.ex, .int .i64 x.q] 36))
                  have HGEX := Lib.hid (HGE.out.alloc (.cells #[.string x.ba, .int .i64 x.ex, .int .i64 x.q] 36))
                  have HOEX := Lib.hid (HOE.out.alloc (.cells #[.string x.ba, .int .i64 x.ex, .int .i64 x.q] 36))
                  have HREX := Lib.hid (rd_new (E := Lt.E) (w1.drew.alloc (.cells #[] 36)) x 36 (n := w1.heap.size + 1) (by simp))
                  refine wpAnyH_ready (rs := [4]) (by kernel_rfl) (by simp) ?_
                  refine (AllReadyH.cons (by simp only [List.getElem?_toArray, List.getElem?_cons_succ, List.getElem?_cons_zero]; rfl) (fun K hK => ?_) AllReadyH.nil)
                  refine step_append_rd _ rfl (.tmp 65) (.tmp 68) _ rfl sl_Lt (w.heap.size + 1) _ _ _ ([] : List Lt) rfl HOEX.out _ _ _ (l.take l.length) rfl HT1.out.symm ((HL.out.grew HGEX.out).take l.length) (by rw [HT1.out]; simp only [List.length_nil]; omega) HBEX.out.1 ?_; intro A5 c5 w5 ho5 hgr5 hat5; have HB5 := Lib.hid (HBEX.out.kept hgr5 (by simp only [Value.ownBlock]; intro e; injection e with e; omega)); have HG5 := Lib.hid (HGEX.out.app (E := Lt.E) HOEX.out (Nat.le_succ _) hgr5); have HO5 := Lib.hid (show Own Lt.E 36 w5 (w.heap.size + 1) (.slice A5 l.length c5) (l.take l.length) by simpa using ho5); have HR6 := Lib.hid (HREX.out.kept hgr5 (by intro b o e1 e2; simp only [Option.some.injEq, Addr.mk.injEq] at e1; simp [Value.ownBlock] at e2; have h9 : w1.drew.heap.size = w1.heap.size := rfl; omega)); clear ho5 hgr5 hat5
                  refine hK.out _ _ (Lt.b3 HB5.out) (fun hH => ?_)
                  clear hK K
                  (try simp only [Act.put, List.setIfInBounds_toArray, List.set_cons_zero, List.set_cons_succ])
                  (try simp only [Nat.zero_add])
                  have HB6 := HB5
                  have HG6 := HG5
                  have HO6 := HO5
                  refine wpAnyH_ready (rs := [7]) (by kernel_rfl) (by simp) ?_
                  refine (AllReadyH.cons (by simp only [List.getElem?_toArray, List.getElem?_cons_succ, List.getElem?_cons_zero]; rfl) (fun K hK => ?_) AllReadyH.nil)
                  refine step_append_rd _ rfl (.tmp 69) (.tmp 71) _ rfl sl_Lt (w.heap.size + 1) _ _ _ (l.take l.length) rfl HO6.out _ _ _ [x] rfl rfl HR6.out (by rw [HT1.out]; simp only [List.length_cons, List.length_nil]; omega) HB6.out.1 ?_; intro A7 c7 w7 ho7 hgr7 hat7; have HB7 := Lib.hid (HB6.out.kept hgr7 (Own.ne_ HO6.out (.inl (Nat.lt_succ_self _)))); have HG7 := Lib.hid (HG6.out.app HO6.out (Nat.le_succ _) hgr7); have HO7 := Lib.hid ho7; clear ho7 hgr7 hat7
                  refine hK.out _ _ (Lt.b3 HB7.out) (fun hH => ?_)
                  clear hK K
                  (try simp only [Act.put, List.setIfInBounds_toArray, List.set_cons_zero, List.set_cons_succ])
                  refine wpAnyH_ready (rs := [11]) (by kernel_rfl) (by simp) ?_
                  refine (AllReadyH.cons (by simp only [List.getElem?_toArray, List.getElem?_cons_succ, List.getElem?_cons_zero]; rfl) (fun K hK => ?_) AllReadyH.nil)
                  refine step_append_rd _ rfl (.tmp 72) (.tmp 75) _ rfl sl_Lt (w.heap.size + 1) _ _ _ (l.take l.length ++ [x]) rfl HO7.out _ _ _ (l.drop l.length) rfl (by simp) (by rw [List.drop_length]; exact Rd.nil) (by rw [List.length_append, HT1.out, List.length_drop]; simp only [List.length_cons, List.length_nil]; omega) HB7.out.1 ?_; intro A8 c8 w8 ho8 hgr8 hat8; have HB8 := Lib.hid (HB7.out.kept hgr8 (Own.ne_ HO7.out (.inl (Nat.lt_succ_self _)))); have HG8 := Lib.hid (HG7.out.app HO7.out (Nat.le_succ _) hgr8); have HO8 := Lib.hid ho8; clear ho8 hgr8 hat8
                  refine hK.out _ _ (Lt.b3 HB8.out) (fun hH => ?_)
                  clear hK K
                  (try simp only [Act.put, List.setIfInBounds_toArray, List.set_cons_zero, List.set_cons_succ])
                  refine wpAnyH_take (i := 12) (v := ?_) (by simp only [List.getElem?_toArray, List.getElem?_cons_succ, List.getElem?_cons_zero]; rfl) (by kernel_rfl) (by kernel_rfl) (by kernel_rfl) (by intro _ _ _ h; exact h) (Or.inl ⟨by rfl, ?_⟩) hH ?_; rotate_left; · ((intro w hSw); (try dsimp only at hSw); go_simp; (try with_reducible rfl); done)
                  (try simp only [Act.put, List.setIfInBounds_toArray, List.set_cons_zero, List.set_cons_succ])
                  refine wpAnyH_done (by kernel_rfl) ?_ _
                  go_wp2_with fail
                  go_meet
                  have HAL := Lib.hid (show (addOut l x).length = l.length + 1 by rw [HO_.out]; simp)
                  refine ⟨A8, c8, by rw [HAL.out], ?_, HG8.out⟩
                  rw [HO_.out]
                  exact HO8.out
              ·
                go_simp
                refine hK.out _ _ (Lt.b3 HBX.out) (fun hH => ?_)
                clear hK K
                (try simp only [Act.put, List.setIfInBounds_toArray, List.set_cons_zero, List.set_cons_succ])
                have HBXE := Lib.hid (HBX.out.alloc (.cells #[] 36))
                have HGXE := Lib.hid (HGX.out.alloc (.cells #[] 36))
                have HRXE := Lib.hid (HRX.out.grew ((Grew.refl _).alloc (.cells #[] 36)))
                have HOXE := Lib.hid (Own.new_ (E := Lt.E) (t := 36) (w := w1.drew.alloc (.cells #[.string x.ba, .int .i64 x.ex, .int .i64 x.q] 36)) (base := w.heap.size + 1) HBX.out.1)
                have hsz1 : (w1.drew.alloc (.cells #[.string x.ba, .int .i64 x.ex, .int .i64 x.q] 36)).heap.size = w1.heap.size + 1 := by simp
                rw [hsz1] at HOXE
                clear hsz1
                refine wpAnyH_ready (rs := [0]) (by kernel_rfl) (by simp) ?_
                refine (AllReadyH.cons (by simp only [List.getElem?_toArray, List.getElem?_cons_succ, List.getElem?_cons_zero]; rfl) (fun K hK => ?_) AllReadyH.nil)
                go_simp
                refine hK.out _ _ (Lt.b3 HBXE.out) (fun hH => ?_)
                clear hK K
                (try simp only [Act.put, List.setIfInBounds_toArray, List.set_cons_zero, List.set_cons_succ])
                refine wpAnyH_ready (rs := [4]) (by kernel_rfl) (by simp) ?_
                refine (AllReadyH.cons (by simp only [List.getElem?_toArray, List.getElem?_cons_succ, List.getElem?_cons_zero]; rfl) (fun K hK => ?_) AllReadyH.nil)
                refine step_append_rd _ rfl (.tmp 65) (.tmp 68) _ rfl sl_Lt (w.heap.size + 1) _ _ _ ([] : List Lt) rfl HOXE.out _ _ _ (l.take l.length) rfl HT1.out.symm ((HL.out.grew HGXE.out).take l.length) (by rw [HT1.out]; simp only [List.length_nil]; omega) HBXE.out.1 ?_; intro A5 c5 w5 ho5 hgr5 hat5; have HB5 := Lib.hid (HBXE.out.kept hgr5 (by simp only [Value.ownBlock]; intro e; injection e with e; omega)); have HG5 := Lib.hid (HGXE.out.app (E := Lt.E) HOXE.out (Nat.le_succ _) hgr5); have HO5 := Lib.hid (show Own Lt.E 36 w5 (w.heap.size + 1) (.slice A5 l.length c5) (l.take l.length) by simpa using ho5); have HR6 := Lib.hid (HRXE.out.kept hgr5 (by intro b o e1 e2; simp only [Option.some.injEq, Addr.mk.injEq] at e1; simp [Value.ownBlock] at e2; have h9 : w1.drew.heap.size = w1.heap.size := rfl; omega)); clear ho5 hgr5 hat5
                refine hK.out _ _ (Lt.b3 HB5.out) (fun hH => ?_)
                clear hK K
                (try simp only [Act.put, List.setIfInBounds_toArray, List.set_cons_zero, List.set_cons_succ])
                (try simp only [Nat.zero_add])
                have HB6 := HB5
                have HG6 := HG5
                have HO6 := HO5
                refine wpAnyH_ready (rs := [7]) (by kernel_rfl) (by simp) ?_
                refine (AllReadyH.cons (by simp only [List.getElem?_toArray, List.getElem?_cons_succ, List.getElem?_cons_zero]; rfl) (fun K hK => ?_) AllReadyH.nil)
                refine step_append_rd _ rfl (.tmp 69) (.tmp 71) _ rfl sl_Lt (w.heap.size + 1) _ _ _ (l.take l.length) rfl HO6.out _ _ _ [x] rfl rfl HR6.out (by rw [HT1.out]; simp only [List.length_cons, List.length_nil]; omega) HB6.out.1 ?_; intro A7 c7 w7 ho7 hgr7 hat7; have HB7 := Lib.hid (HB6.out.kept hgr7 (Own.ne_ HO6.out (.inl (Nat.lt_succ_self _)))); have HG7 := Lib.hid (HG6.out.app HO6.out (Nat.le_succ _) hgr7); have HO7 := Lib.hid ho7; clear ho7 hgr7 hat7
                refine hK.out _ _ (Lt.b3 HB7.out) (fun hH => ?_)
                clear hK K
                (try simp only [Act.put, List.setIfInBounds_toArray, List.set_cons_zero, List.set_cons_succ])
                refine wpAnyH_ready (rs := [11]) (by kernel_rfl) (by simp) ?_
                refine (AllReadyH.cons (by simp only [List.getElem?_toArray, List.getElem?_cons_succ, List.getElem?_cons_zero]; rfl) (fun K hK => ?_) AllReadyH.nil)
                refine step_append_rd _ rfl (.tmp 72) (.tmp 75) _ rfl sl_Lt (w.heap.size + 1) _ _ _ (l.take l.length ++ [x]) rfl HO7.out _ _ _ (l.drop l.length) rfl (by simp) (by rw [List.drop_length]; exact Rd.nil) (by rw [List.length_append, HT1.out, List.length_drop]; simp only [List.length_cons, List.length_nil]; omega) HB7.out.1 ?_; intro A8 c8 w8 ho8 hgr8 hat8; have HB8 := Lib.hid (HB7.out.kept hgr8 (Own.ne_ HO7.out (.inl (Nat.lt_succ_self _)))); have HG8 := Lib.hid (HG7.out.app HO7.out (Nat.le_succ _) hgr8); have HO8 := Lib.hid ho8; clear ho8 hgr8 hat8
                refine hK.out _ _ (Lt.b3 HB8.out) (fun hH => ?_)
                clear hK K
                (try simp only [Act.put, List.setIfInBounds_toArray, List.set_cons_zero, List.set_cons_succ])
                refine wpAnyH_take (i := 12) (v := ?_) (by simp only [List.getElem?_toArray, List.getElem?_cons_succ, List.getElem?_cons_zero]; rfl) (by kernel_rfl) (by kernel_rfl) (by kernel_rfl) (by intro _ _ _ h; exact h) (Or.inl ⟨by rfl, ?_⟩) hH ?_; rotate_left; · ((intro w hSw); (try dsimp only at hSw); go_simp; (try with_reducible rfl); done)
                (try simp only [Act.put, List.setIfInBounds_toArray, List.set_cons_zero, List.set_cons_succ])
                refine wpAnyH_done (by kernel_rfl) ?_ _
                go_wp2_with fail
                go_meet
                have HAL := Lib.hid (show (addOut l x).length = l.length + 1 by rw [HO_.out]; simp)
                refine ⟨A8, c8, by rw [HAL.out], ?_, HG8.out⟩
                rw [HO_.out]
                exact HO8.out
            · by_cases hlc2 : l.length = c
              ·
                subst hlc2
                refine wp_region_held_drew (S := (fun w' => w'.cell? ⟨w.heap.size, 0, none⟩ = some (.string x.ba) ∧ w'.cell? ⟨w.heap.size, 1, none⟩ = some (.int .i64 x.ex) ∧ w'.cell? ⟨w.heap.size, 2, none⟩ = some (.int .i64 x.q))) (by kernel_rfl) (Lt.b3 HBD.out) (fun hH => ?_)
                refine wpAnyH_take (i := 1) (v := ?_) (by simp only [List.getElem?_toArray, List.getElem?_cons_succ, List.getElem?_cons_zero]; rfl) (by kernel_rfl) (by kernel_rfl) (by kernel_rfl) (by intro _ _ _ h; exact h) (Or.inl ⟨by rfl, ?_⟩) hH ?_; rotate_left; · ((intro w hSw); (try dsimp only at hSw); go_simp; (try with_reducible rfl); done)
                (try simp only [Act.put, List.setIfInBounds_toArray, List.set_cons_zero, List.set_cons_succ])
                refine wpAnyH_take (i := 2) (v := ?_) (by simp only [List.getElem?_toArray, List.getElem?_cons_succ, List.getElem?_cons_zero]; rfl) (by kernel_rfl) (by kernel_rfl) (by kernel_rfl) (by intro _ _ _ h; exact h) (Or.inl ⟨by rfl, ?_⟩) hH ?_; rotate_left; · ((intro w hSw); (try dsimp only at hSw); go_simp; (try with_reducible rfl); done)
                (try simp only [Act.put, List.setIfInBounds_toArray, List.set_cons_zero, List.set_cons_succ])
                refine wpAnyH_take (i := 3) (v := ?_) (by simp only [List.getElem?_toArray, List.getElem?_cons_succ, List.getElem?_cons_zero]; rfl) (by kernel_rfl) (by kernel_rfl) (by kernel_rfl) (by intro _ _ _ h; exact h) (Or.inl ⟨by rfl, ?_⟩) hH ?_; rotate_left; · ((intro w hSw); (try dsimp only at hSw); go_simp; (try with_reducible rfl); done)
                (try simp only [Act.put, List.setIfInBounds_toArray, List.set_cons_zero, List.set_cons_succ])
                refine wpAnyH_take (i := 5) (v := ?_) (by simp only [List.getElem?_toArray, List.getElem?_cons_succ, List.getElem?_cons_zero]; rfl) (by kernel_rfl) (by kernel_rfl) (by kernel_rfl) (by intro _ _ _ h; exact h) (Or.inl ⟨by rfl, ?_⟩) hH ?_; rotate_left; · ((intro w hSw); (try dsimp only at hSw); go_simp; (try with_reducible rfl); done)
                (try simp only [Act.put, List.setIfInBounds_toArray, List.set_cons_zero, List.set_cons_succ])
                refine wpAnyH_take (i := 8) (v := ?_) (by simp only [List.getElem?_toArray, List.getElem?_cons_succ, List.getElem?_cons_zero]; rfl) (by kernel_rfl) (by kernel_rfl) (by kernel_rfl) (by intro _ _ _ h; exact h) (Or.inl ⟨by rfl, ?_⟩) hH ?_; rotate_left; · ((intro w hSw); (try dsimp only at hSw); go_simp; (try with_reducible rfl); done)
                (try simp only [Act.put, List.setIfInBounds_toArray, List.set_cons_zero, List.set_cons_succ])
                refine wpAnyH_take (i := 9) (v := ?_) (by simp only [List.getElem?_toArray, List.getElem?_cons_succ, List.getElem?_cons_zero]; rfl) (by kernel_rfl) (by kernel_rfl) (by kernel_rfl) (by intro _ _ _ h; exact h) (Or.inl ⟨by rfl, ?_⟩) hH ?_; rotate_left; · ((intro w hSw); (try dsimp only at hSw); go_simp; (try with_reducible rfl); done)
                (try simp only [Act.put, List.setIfInBounds_toArray, List.set_cons_zero, List.set_cons_succ])
                refine wpAnyH_take (i := 10) (v := ?_) (by simp only [List.getElem?_toArray, List.getElem?_cons_succ, List.getElem?_cons_zero]; rfl) (by kernel_rfl) (by kernel_rfl) (by kernel_rfl) (by intro _ _ _ h; exact h) (Or.inl ⟨by rfl, ?_⟩) hH ?_; rotate_left; · ((intro w hSw); (try dsimp only at hSw); go_simp; (try with_reducible rfl); done)
                (try simp only [Act.put, List.setIfInBounds_toArray, List.set_cons_zero, List.set_cons_succ])
                have HT1 := Lib.hid (show (l.take l.length).length = l.length by rw [List.length_take]; omega)
                have hWs : w.heap.size < w1.drew.heap.size := HBD.out.1
                have hWs2 : w.heap.size < w1.heap.size := HBD.out.1
                have HBE := Lib.hid (HBD.out.alloc (.cells #[] 36))
                have HGE := Lib.hid (HGD.out.alloc (.cells #[] 36))
                have HBX := Lib.hid (HBD.out.alloc (.cells #[.string x.ba, .int .i64 x.ex, .int .i64 x.q] 36))
                have HGX := Lib.hid (HGD.out.alloc (.cells #[.string x.ba, .int .i64 x.ex, .int .i64 x.q] 36))
                have HRX := Lib.hid (rd_new (E := Lt.E) w1.drew x 36 rfl)
                have HOE := Lib.hid (Own.new_ (E := Lt.E) (t := 36) (w := w1.drew) (base := w.heap.size + 1) hWs)
                refine wpAnyH_ready (rs := [0, 6]) (by kernel_rfl) (by simp) ?_
                refine (AllReadyH.cons (by simp only [List.getElem?_toArray, List.getElem?_cons_succ, List.getElem?_cons_zero]; rfl) (fun K hK => ?_) (AllReadyH.cons (by simp only [List.getElem?_toArray, List.getElem?_cons_succ, List.getElem?_cons_zero]; rfl) (fun K hK => ?_) AllReadyH.nil))
                ·
                  go_simp
                  refine hK.out _ _ (Lt.b3 HBE.out) (fun hH => ?_)
                  clear hK K
                  (try simp only [Act.put, List.setIfInBounds_toArray, List.set_cons_zero, List.set_cons_succ])
                  refine wpAnyH_ready (rs := [4, 6]) (by kernel_rfl) (by simp) ?_
                  refine (AllReadyH.cons (by simp only [List.getElem?_toArray, List.getElem?_cons_succ, List.getElem?_cons_zero]; rfl) (fun K hK => ?_) (AllReadyH.cons (by simp only [List.getElem?_toArray, List.getElem?_cons_succ, List.getElem?_cons_zero]; rfl) (fun K hK => ?_) AllReadyH.nil))
                  ·
                    refine step_append_rd _ rfl (.tmp 65) (.tmp 68) _ rfl sl_Lt (w.heap.size + 1) _ _ _ ([] : List Lt) rfl HOE.out _ _ _ (l.take l.length) rfl HT1.out.symm ((HL.out.grew HGE.out).take l.length) (by rw [HT1.out]; simp only [List.length_nil]; omega) HBE.out.1 ?_; intro A5 c5 w5 ho5 hgr5 hat5; have HB5 := Lib.hid (HBE.out.kept hgr5 (by simp only [Value.ownBlock]; intro e; injection e with e; omega)); have HG5 := Lib.hid (HGE.out.app (E := Lt.E) HOE.out (Nat.le_succ _) hgr5); have HO5 := Lib.hid (show Own Lt.E 36 w5 (w.heap.size + 1) (.slice A5 l.length c5) (l.take l.length) by simpa using ho5); clear ho5 hgr5 hat5
                    refine hK.out _ _ (Lt.b3 HB5.out) (fun hH => ?_)
                    clear hK K
                    (try simp only [Act.put, List.setIfInBounds_toArray, List.set_cons_zero, List.set_cons_succ])
                    (try simp only [Nat.zero_add])
                    refine wpAnyH_ready (rs := [6]) (by kernel_rfl) (by simp) ?_
                    refine (AllReadyH.cons (by simp only [List.getElem?_toArray, List.getElem?_cons_succ, List.getElem?_cons_zero]; rfl) (fun K hK => ?_) AllReadyH.nil)
                    go_simp
                    refine hK.out _ _ (Lt.b3 (HB5.out.alloc _)) (fun hH => ?_)
                    clear hK K
                    (try simp only [Act.put, List.setIfInBounds_toArray, List.set_cons_zero, List.set_cons_succ])
                    have HB6 := Lib.hid (HB5.out.alloc (.cells #[.string x.ba, .int .i64 x.ex, .int .i64 x.q] 36))
                    have HG6 := Lib.hid (HG5.out.alloc (.cells #[.string x.ba, .int .i64 x.ex, .int .i64 x.q] 36))
                    have HO6 := Lib.hid (HO5.out.alloc (.cells #[.string x.ba, .int .i64 x.ex, .int .i64 x.q] 36))
                    have HR6 := Lib.hid (rd_new (E := Lt.E) w5 x 36 rfl)
                    refine wpAnyH_ready (rs := [7]) (by kernel_rfl) (by simp) ?_
                    refine (AllReadyH.cons (by simp only [List.getElem?_toArray, List.getElem?_cons_succ, List.getElem?_cons_zero]; rfl) (fun K hK => ?_) AllReadyH.nil)
                    refine step_append_rd _ rfl (.tmp 69) (.tmp 71) _ rfl sl_Lt (w.heap.size + 1) _ _ _ (l.take l.length) rfl HO6.out _ _ _ [x] rfl rfl HR6.out (by rw [HT1.out]; simp only [List.length_cons, List.length_nil]; omega) HB6.out.1 ?_; intro A7 c7 w7 ho7 hgr7 hat7; have HB7 := Lib.hid (HB6.out.kept hgr7 (Own.ne_ HO6.out (.inl (Nat.lt_succ_self _)))); have HG7 := Lib.hid (HG6.out.app HO6.out (Nat.le_succ _) hgr7); have HO7 := Lib.hid ho7; clear ho7 hgr7 hat7
                    refine hK.out _ _ (Lt.b3 HB7.out) (fun hH => ?_)
                    clear hK K
                    (try simp only [Act.put, List.setIfInBounds_toArray, List.set_cons_zero, List.set_cons_succ])
                    refine wpAnyH_ready (rs := [11]) (by kernel_rfl) (by simp) ?_
                    refine (AllReadyH.cons (by simp only [List.getElem?_toArray, List.getElem?_cons_succ, List.getElem?_cons_zero]; rfl) (fun K hK => ?_) AllReadyH.nil)
                    refine step_append_rd _ rfl (.tmp 72) (.tmp 75) _ rfl sl_Lt (w.heap.size + 1) _ _ _ (l.take l.length ++ [x]) rfl HO7.out _ _ _ (l.drop l.length) rfl (by simp) (by rw [List.drop_length]; exact Rd.nil) (by rw [List.length_append, HT1.out, List.length_drop]; simp only [List.length_cons, List.length_nil]; omega) HB7.out.1 ?_; intro A8 c8 w8 ho8 hgr8 hat8; have HB8 := Lib.hid (HB7.out.kept hgr8 (Own.ne_ HO7.out (.inl (Nat.lt_succ_self _)))); have HG8 := Lib.hid (HG7.out.app HO7.out (Nat.le_succ _) hgr8); have HO8 := Lib.hid ho8; clear ho8 hgr8 hat8
                    refine hK.out _ _ (Lt.b3 HB8.out) (fun hH => ?_)
                    clear hK K
                    (try simp only [Act.put, List.setIfInBounds_toArray, List.set_cons_zero, List.set_cons_succ])
                    refine wpAnyH_take (i := 12) (v := ?_) (by simp only [List.getElem?_toArray, List.getElem?_cons_succ, List.getElem?_cons_zero]; rfl) (by kernel_rfl) (by kernel_rfl) (by kernel_rfl) (by intro _ _ _ h; exact h) (Or.inl ⟨by rfl, ?_⟩) hH ?_; rotate_left; · ((intro w hSw); (try dsimp only at hSw); go_simp; (try with_reducible rfl); done)
                    (try simp only [Act.put, List.setIfInBounds_toArray, List.set_cons_zero, List.set_cons_succ])
                    refine wpAnyH_done (by kernel_rfl) ?_ _
                    go_wp2_with fail
                    go_meet
                    have HAL := Lib.hid (show (addOut l x).length = l.length + 1 by rw [HO_.out]; simp)
                    refine ⟨A8, c8, by rw [HAL.out], ?_, HG8.out⟩
                    rw [HO_.out]
                    exact HO8.out
                  ·
                    go_simp
                    refine hK.out _ _ (Lt.b3 (HBE.out.alloc _)) (fun hH => ?_)
                    clear hK K
                    (try simp only [Act.put, List.setIfInBounds_toArray, List.set_cons_zero, List.set_cons_succ])
                    have HBEX := Lib.hid (HBE.out.alloc (.cells #[.string x.ba, .int .i64 x.ex, .int .i64 x.q] 36))
                    have HGEX := Lib.hid (HGE.out.alloc (.cells #[.string x.ba, .int .i64 x.ex, .int .i64 x.q] 36))
                    have HOEX := Lib.hid (HOE.out.alloc (.cells #[.string x.ba, .int .i64 x.ex, .int .i64 x.q] 36))
                    have HREX := Lib.hid (rd_new (E := Lt.E) (w1.drew.alloc (.cells #[] 36)) x 36 (n := w1.heap.size + 1) (by simp))
                    refine wpAnyH_ready (rs := [4]) (by kernel_rfl) (by simp) ?_
                    refine (AllReadyH.cons (by simp only [List.getElem?_toArray, List.getElem?_cons_succ, List.getElem?_cons_zero]; rfl) (fun K hK => ?_) AllReadyH.nil)
                    refine step_append_rd _ rfl (.tmp 65) (.tmp 68) _ rfl sl_Lt (w.heap.size + 1) _ _ _ ([] : List Lt) rfl HOEX.out _ _ _ (l.take l.length) rfl HT1.out.symm ((HL.out.grew HGEX.out).take l.length) (by rw [HT1.out]; simp only [List.length_nil]; omega) HBEX.out.1 ?_; intro A5 c5 w5 ho5 hgr5 hat5; have HB5 := Lib.hid (HBEX.out.kept hgr5 (by simp only [Value.ownBlock]; intro e; injection e with e; omega)); have HG5 := Lib.hid (HGEX.out.app (E := Lt.E) HOEX.out (Nat.le_succ _) hgr5); have HO5 := Lib.hid (show Own Lt.E 36 w5 (w.heap.size + 1) (.slice A5 l.length c5) (l.take l.length) by simpa using ho5); have HR6 := Lib.hid (HREX.out.kept hgr5 (by intro b o e1 e2; simp only [Option.some.injEq, Addr.mk.injEq] at e1; simp [Value.ownBlock] at e2; have h9 : w1.drew.heap.size = w1.heap.size := rfl; omega)); clear ho5 hgr5 hat5
                    refine hK.out _ _ (Lt.b3 HB5.out) (fun hH => ?_)
                    clear hK K
                    (try simp only [Act.put, List.setIfInBounds_toArray, List.set_cons_zero, List.set_cons_succ])
                    (try simp only [Nat.zero_add])
                    have HB6 := HB5
                    have HG6 := HG5
                    have HO6 := HO5
                    refine wpAnyH_ready (rs := [7]) (by kernel_rfl) (by simp) ?_
                    refine (AllReadyH.cons (by simp only [List.getElem?_toArray, List.getElem?_cons_succ, List.getElem?_cons_zero]; rfl) (fun K hK => ?_) AllReadyH.nil)
                    refine step_append_rd _ rfl (.tmp 69) (.tmp 71) _ rfl sl_Lt (w.heap.size + 1) _ _ _ (l.take l.length) rfl HO6.out _ _ _ [x] rfl rfl HR6.out (by rw [HT1.out]; simp only [List.length_cons, List.length_nil]; omega) HB6.out.1 ?_; intro A7 c7 w7 ho7 hgr7 hat7; have HB7 := Lib.hid (HB6.out.kept hgr7 (Own.ne_ HO6.out (.inl (Nat.lt_succ_self _)))); have HG7 := Lib.hid (HG6.out.app HO6.out (Nat.le_succ _) hgr7); have HO7 := Lib.hid ho7; clear ho7 hgr7 hat7
                    refine hK.out _ _ (Lt.b3 HB7.out) (fun hH => ?_)
                    clear hK K
                    (try simp only [Act.put, List.setIfInBounds_toArray, List.set_cons_zero, List.set_cons_succ])
                    refine wpAnyH_ready (rs := [11]) (by kernel_rfl) (by simp) ?_
                    refine (AllReadyH.cons (by simp only [List.getElem?_toArray, List.getElem?_cons_succ, List.getElem?_cons_zero]; rfl) (fun K hK => ?_) AllReadyH.nil)
                    refine step_append_rd _ rfl (.tmp 72) (.tmp 75) _ rfl sl_Lt (w.heap.size + 1) _ _ _ (l.take l.length ++ [x]) rfl HO7.out _ _ _ (l.drop l.length) rfl (by simp) (by rw [List.drop_length]; exact Rd.nil) (by rw [List.length_append, HT1.out, List.length_drop]; simp only [List.length_cons, List.length_nil]; omega) HB7.out.1 ?_; intro A8 c8 w8 ho8 hgr8 hat8; have HB8 := Lib.hid (HB7.out.kept hgr8 (Own.ne_ HO7.out (.inl (Nat.lt_succ_self _)))); have HG8 := Lib.hid (HG7.out.app HO7.out (Nat.le_succ _) hgr8); have HO8 := Lib.hid ho8; clear ho8 hgr8 hat8
                    refine hK.out _ _ (Lt.b3 HB8.out) (fun hH => ?_)
                    clear hK K
                    (try simp only [Act.put, List.setIfInBounds_toArray, List.set_cons_zero, List.set_cons_succ])
                    refine wpAnyH_take (i := 12) (v := ?_) (by simp only [List.getElem?_toArray, List.getElem?_cons_succ, List.getElem?_cons_zero]; rfl) (by kernel_rfl) (by kernel_rfl) (by kernel_rfl) (by intro _ _ _ h; exact h) (Or.inl ⟨by rfl, ?_⟩) hH ?_; rotate_left; · ((intro w hSw); (try dsimp only at hSw); go_simp; (try with_reducible rfl); done)
                    (try simp only [Act.put, List.setIfInBounds_toArray, List.set_cons_zero, List.set_cons_succ])
                    refine wpAnyH_done (by kernel_rfl) ?_ _
                    go_wp2_with fail
                    go_meet
                    have HAL := Lib.hid (show (addOut l x).length = l.length + 1 by rw [HO_.out]; simp)
                    refine ⟨A8, c8, by rw [HAL.out], ?_, HG8.out⟩
                    rw [HO_.out]
                    exact HO8.out
                ·
                  go_simp
                  refine hK.out _ _ (Lt.b3 HBX.out) (fun hH => ?_)
                  clear hK K
                  (try simp only [Act.put, List.setIfInBounds_toArray, List.set_cons_zero, List.set_cons_succ])
                  have HBXE := Lib.hid (HBX.out.alloc (.cells #[] 36))
                  have HGXE := Lib.hid (HGX.out.alloc (.cells #[] 36))
                  have HRXE := Lib.hid (HRX.out.grew ((Grew.refl _).alloc (.cells #[] 36)))
                  have HOXE := Lib.hid (Own.new_ (E := Lt.E) (t := 36) (w := w1.drew.alloc (.cells #[.string x.ba, .int .i64 x.ex, .int .i64 x.q] 36)) (base := w.heap.size + 1) HBX.out.1)
                  have hsz1 : (w1.drew.alloc (.cells #[.string x.ba, .int .i64 x.ex, .int .i64 x.q] 36)).heap.size = w1.heap.size + 1 := by simp
                  rw [hsz1] at HOXE
                  clear hsz1
                  refine wpAnyH_ready (rs := [0]) (by kernel_rfl) (by simp) ?_
                  refine (AllReadyH.cons (by simp only [List.getElem?_toArray, List.getElem?_cons_succ, List.getElem?_cons_zero]; rfl) (fun K hK => ?_) AllReadyH.nil)
                  go_simp
                  refine hK.out _ _ (Lt.b3 HBXE.out) (fun hH => ?_)
                  clear hK K
                  (try simp only [Act.put, List.setIfInBounds_toArray, List.set_cons_zero, List.set_cons_succ])
                  refine wpAnyH_ready (rs := [4]) (by kernel_rfl) (by simp) ?_
                  refine (AllReadyH.cons (by simp only [List.getElem?_toArray, List.getElem?_cons_succ, List.getElem?_cons_zero]; rfl) (fun K hK => ?_) AllReadyH.nil)
                  refine step_append_rd _ rfl (.tmp 65) (.tmp 68) _ rfl sl_Lt (w.heap.size + 1) _ _ _ ([] : List Lt) rfl HOXE.out _ _ _ (l.take l.length) rfl HT1.out.symm ((HL.out.grew HGXE.out).take l.length) (by rw [HT1.out]; simp only [List.length_nil]; omega) HBXE.out.1 ?_; intro A5 c5 w5 ho5 hgr5 hat5; have HB5 := Lib.hid (HBXE.out.kept hgr5 (by simp only [Value.ownBlock]; intro e; injection e with e; omega)); have HG5 := Lib.hid (HGXE.out.app (E := Lt.E) HOXE.out (Nat.le_succ _) hgr5); have HO5 := Lib.hid (show Own Lt.E 36 w5 (w.heap.size + 1) (.slice A5 l.length c5) (l.take l.length) by simpa using ho5); have HR6 := Lib.hid (HRXE.out.kept hgr5 (by intro b o e1 e2; simp only [Option.some.injEq, Addr.mk.injEq] at e1; simp [Value.ownBlock] at e2; have h9 : w1.drew.heap.size = w1.heap.size := rfl; omega)); clear ho5 hgr5 hat5
                  refine hK.out _ _ (Lt.b3 HB5.out) (fun hH => ?_)
                  clear hK K
                  (try simp only [Act.put, List.setIfInBounds_toArray, List.set_cons_zero, List.set_cons_succ])
                  (try simp only [Nat.zero_add])
                  have HB6 := HB5
                  have HG6 := HG5
                  have HO6 := HO5
                  refine wpAnyH_ready (rs := [7]) (by kernel_rfl) (by simp) ?_
                  refine (AllReadyH.cons (by simp only [List.getElem?_toArray, List.getElem?_cons_succ, List.getElem?_cons_zero]; rfl) (fun K hK => ?_) AllReadyH.nil)
                  refine step_append_rd _ rfl (.tmp 69) (.tmp 71) _ rfl sl_Lt (w.heap.size + 1) _ _ _ (l.take l.length) rfl HO6.out _ _ _ [x] rfl rfl HR6.out (by rw [HT1.out]; simp only [List.length_cons, List.length_nil]; omega) HB6.out.1 ?_; intro A7 c7 w7 ho7 hgr7 hat7; have HB7 := Lib.hid (HB6.out.kept hgr7 (Own.ne_ HO6.out (.inl (Nat.lt_succ_self _)))); have HG7 := Lib.hid (HG6.out.app HO6.out (Nat.le_succ _) hgr7); have HO7 := Lib.hid ho7; clear ho7 hgr7 hat7
                  refine hK.out _ _ (Lt.b3 HB7.out) (fun hH => ?_)
                  clear hK K
                  (try simp only [Act.put, List.setIfInBounds_toArray, List.set_cons_zero, List.set_cons_succ])
                  refine wpAnyH_ready (rs := [11]) (by kernel_rfl) (by simp) ?_
                  refine (AllReadyH.cons (by simp only [List.getElem?_toArray, List.getElem?_cons_succ, List.getElem?_cons_zero]; rfl) (fun K hK => ?_) AllReadyH.nil)
                  refine step_append_rd _ rfl (.tmp 72) (.tmp 75) _ rfl sl_Lt (w.heap.size + 1) _ _ _ (l.take l.length ++ [x]) rfl HO7.out _ _ _ (l.drop l.length) rfl (by simp) (by rw [List.drop_length]; exact Rd.nil) (by rw [List.length_append, HT1.out, List.length_drop]; simp only [List.length_cons, List.length_nil]; omega) HB7.out.1 ?_; intro A8 c8 w8 ho8 hgr8 hat8; have HB8 := Lib.hid (HB7.out.kept hgr8 (Own.ne_ HO7.out (.inl (Nat.lt_succ_self _)))); have HG8 := Lib.hid (HG7.out.app HO7.out (Nat.le_succ _) hgr8); have HO8 := Lib.hid ho8; clear ho8 hgr8 hat8
                  refine hK.out _ _ (Lt.b3 HB8.out) (fun hH => ?_)
                  clear hK K
                  (try simp only [Act.put, List.setIfInBounds_toArray, List.set_cons_zero, List.set_cons_succ])
                  refine wpAnyH_take (i := 12) (v := ?_) (by simp only [List.getElem?_toArray, List.getElem?_cons_succ, List.getElem?_cons_zero]; rfl) (by kernel_rfl) (by kernel_rfl) (by kernel_rfl) (by intro _ _ _ h; exact h) (Or.inl ⟨by rfl, ?_⟩) hH ?_; rotate_left; · ((intro w hSw); (try dsimp only at hSw); go_simp; (try with_reducible rfl); done)
                  (try simp only [Act.put, List.setIfInBounds_toArray, List.set_cons_zero, List.set_cons_succ])
                  refine wpAnyH_done (by kernel_rfl) ?_ _
                  go_wp2_with fail
                  go_meet
                  have HAL := Lib.hid (show (addOut l x).length = l.length + 1 by rw [HO_.out]; simp)
                  refine ⟨A8, c8, by rw [HAL.out], ?_, HG8.out⟩
                  rw [HO_.out]
                  exact HO8.out
              ·
                have hi4 : l.length ≠ c := hlc2
                have hi5 : ¬ c = l.length := fun e => hlc2 e.symm
                refine wp_region_held_drew (S := (fun w' => w'.cell? ⟨w.heap.size, 0, none⟩ = some (.string x.ba) ∧ w'.cell? ⟨w.heap.size, 1, none⟩ = some (.int .i64 x.ex) ∧ w'.cell? ⟨w.heap.size, 2, none⟩ = some (.int .i64 x.q))) (by kernel_rfl) (Lt.b3 HBD.out) (fun hH => ?_)
                refine wpAnyH_take (i := 1) (v := ?_) (by simp only [List.getElem?_toArray, List.getElem?_cons_succ, List.getElem?_cons_zero]; rfl) (by kernel_rfl) (by kernel_rfl) (by kernel_rfl) (by intro _ _ _ h; exact h) (Or.inl ⟨by rfl, ?_⟩) hH ?_; rotate_left; · ((intro w hSw); (try dsimp only at hSw); go_simp; (try with_reducible rfl); done)
                (try simp only [Act.put, List.setIfInBounds_toArray, List.set_cons_zero, List.set_cons_succ])
                refine wpAnyH_take (i := 2) (v := ?_) (by simp only [List.getElem?_toArray, List.getElem?_cons_succ, List.getElem?_cons_zero]; rfl) (by kernel_rfl) (by kernel_rfl) (by kernel_rfl) (by intro _ _ _ h; exact h) (Or.inl ⟨by rfl, ?_⟩) hH ?_; rotate_left; · ((intro w hSw); (try dsimp only at hSw); go_simp; (try with_reducible rfl); done)
                (try simp only [Act.put, List.setIfInBounds_toArray, List.set_cons_zero, List.set_cons_succ])
                refine wpAnyH_take (i := 3) (v := ?_) (by simp only [List.getElem?_toArray, List.getElem?_cons_succ, List.getElem?_cons_zero]; rfl) (by kernel_rfl) (by kernel_rfl) (by kernel_rfl) (by intro _ _ _ h; exact h) (Or.inl ⟨by rfl, ?_⟩) hH ?_; rotate_left; · ((intro w hSw); (try dsimp only at hSw); go_simp; (try with_reducible rfl); done)
                (try simp only [Act.put, List.setIfInBounds_toArray, List.set_cons_zero, List.set_cons_succ])
                refine wpAnyH_take (i := 5) (v := ?_) (by simp only [List.getElem?_toArray, List.getElem?_cons_succ, List.getElem?_cons_zero]; rfl) (by kernel_rfl) (by kernel_rfl) (by kernel_rfl) (by intro _ _ _ h; exact h) (Or.inl ⟨by rfl, ?_⟩) hH ?_; rotate_left; · ((intro w hSw); (try dsimp only at hSw); go_simp; (try with_reducible rfl); done)
                (try simp only [Act.put, List.setIfInBounds_toArray, List.set_cons_zero, List.set_cons_succ])
                refine wpAnyH_take (i := 8) (v := ?_) (by simp only [List.getElem?_toArray, List.getElem?_cons_succ, List.getElem?_cons_zero]; rfl) (by kernel_rfl) (by kernel_rfl) (by kernel_rfl) (by intro _ _ _ h; exact h) (Or.inl ⟨by rfl, ?_⟩) hH ?_; rotate_left; · ((intro w hSw); (try dsimp only at hSw); go_simp; (try with_reducible rfl); done)
                (try simp only [Act.put, List.setIfInBounds_toArray, List.set_cons_zero, List.set_cons_succ])
                refine wpAnyH_take (i := 9) (v := ?_) (by simp only [List.getElem?_toArray, List.getElem?_cons_succ, List.getElem?_cons_zero]; rfl) (by kernel_rfl) (by kernel_rfl) (by kernel_rfl) (by intro _ _ _ h; exact h) (Or.inl ⟨by rfl, ?_⟩) hH ?_; rotate_left; · ((intro w hSw); (try dsimp only at hSw); go_simp; (try with_reducible rfl); done)
                (try simp only [Act.put, List.setIfInBounds_toArray, List.set_cons_zero, List.set_cons_succ])
                refine wpAnyH_take (i := 10) (v := ?_) (by simp only [List.getElem?_toArray, List.getElem?_cons_succ, List.getElem?_cons_zero]; rfl) (by kernel_rfl) (by kernel_rfl) (by kernel_rfl) (by intro _ _ _ h; exact h) (Or.inl ⟨by rfl, ?_⟩) hH ?_; rotate_left; · ((intro w hSw); (try dsimp only at hSw); go_simp; (try with_reducible rfl); done)
                (try simp only [Act.put, List.setIfInBounds_toArray, List.set_cons_zero, List.set_cons_succ])
                have HT1 := Lib.hid (show (l.take l.length).length = l.length by rw [List.length_take]; omega)
                have hWs : w.heap.size < w1.drew.heap.size := HBD.out.1
                have hWs2 : w.heap.size < w1.heap.size := HBD.out.1
                have HBE := Lib.hid (HBD.out.alloc (.cells #[] 36))
                have HGE := Lib.hid (HGD.out.alloc (.cells #[] 36))
                have HBX := Lib.hid (HBD.out.alloc (.cells #[.string x.ba, .int .i64 x.ex, .int .i64 x.q] 36))
                have HGX := Lib.hid (HGD.out.alloc (.cells #[.string x.ba, .int .i64 x.ex, .int .i64 x.q] 36))
                have HRX := Lib.hid (rd_new (E := Lt.E) w1.drew x 36 rfl)
                have HOE := Lib.hid (Own.new_ (E := Lt.E) (t := 36) (w := w1.drew) (base := w.heap.size + 1) hWs)
                refine wpAnyH_ready (rs := [0, 6]) (by kernel_rfl) (by simp) ?_
                refine (AllReadyH.cons (by simp only [List.getElem?_toArray, List.getElem?_cons_succ, List.getElem?_cons_zero]; rfl) (fun K hK => ?_) (AllReadyH.cons (by simp only [List.getElem?_toArray, List.getElem?_cons_succ, List.getElem?_cons_zero]; rfl) (fun K hK => ?_) AllReadyH.nil))
                ·
                  go_simp
                  refine hK.out _ _ (Lt.b3 HBE.out) (fun hH => ?_)
                  clear hK K
                  (try simp only [Act.put, List.setIfInBounds_toArray, List.set_cons_zero, List.set_cons_succ])
                  refine wpAnyH_ready (rs := [4, 6]) (by kernel_rfl) (by simp) ?_
                  refine (AllReadyH.cons (by simp only [List.getElem?_toArray, List.getElem?_cons_succ, List.getElem?_cons_zero]; rfl) (fun K hK => ?_) (AllReadyH.cons (by simp only [List.getElem?_toArray, List.getElem?_cons_succ, List.getElem?_cons_zero]; rfl) (fun K hK => ?_) AllReadyH.nil))
                  ·
                    refine step_append_rd _ rfl (.tmp 65) (.tmp 68) _ rfl sl_Lt (w.heap.size + 1) _ _ _ ([] : List Lt) rfl HOE.out _ _ _ (l.take l.length) rfl HT1.out.symm ((HL.out.grew HGE.out).take l.length) (by rw [HT1.out]; simp only [List.length_nil]; omega) HBE.out.1 ?_; intro A5 c5 w5 ho5 hgr5 hat5; have HB5 := Lib.hid (HBE.out.kept hgr5 (by simp only [Value.ownBlock]; intro e; injection e with e; omega)); have HG5 := Lib.hid (HGE.out.app (E := Lt.E) HOE.out (Nat.le_succ _) hgr5); have HO5 := Lib.hid (show Own Lt.E 36 w5 (w.heap.size + 1) (.slice A5 l.length c5) (l.take l.length) by simpa using ho5); clear ho5 hgr5 hat5
                    refine hK.out _ _ (Lt.b3 HB5.out) (fun hH => ?_)
                    clear hK K
                    (try simp only [Act.put, List.setIfInBounds_toArray, List.set_cons_zero, List.set_cons_succ])
                    (try simp only [Nat.zero_add])
                    refine wpAnyH_ready (rs := [6]) (by kernel_rfl) (by simp) ?_
                    refine (AllReadyH.cons (by simp only [List.getElem?_toArray, List.getElem?_cons_succ, List.getElem?_cons_zero]; rfl) (fun K hK => ?_) AllReadyH.nil)
                    go_simp
                    refine hK.out _ _ (Lt.b3 (HB5.out.alloc _)) (fun hH => ?_)
                    clear hK K
                    (try simp only [Act.put, List.setIfInBounds_toArray, List.set_cons_zero, List.set_cons_succ])
                    have HB6 := Lib.hid (HB5.out.alloc (.cells #[.string x.ba, .int .i64 x.ex, .int .i64 x.q] 36))
                    have HG6 := Lib.hid (HG5.out.alloc (.cells #[.string x.ba, .int .i64 x.ex, .int .i64 x.q] 36))
                    have HO6 := Lib.hid (HO5.out.alloc (.cells #[.string x.ba, .int .i64 x.ex, .int .i64 x.q] 36))
                    have HR6 := Lib.hid (rd_new (E := Lt.E) w5 x 36 rfl)
                    refine wpAnyH_ready (rs := [7]) (by kernel_rfl) (by simp) ?_
                    refine (AllReadyH.cons (by simp only [List.getElem?_toArray, List.getElem?_cons_succ, List.getElem?_cons_zero]; rfl) (fun K hK => ?_) AllReadyH.nil)
                    refine step_append_rd _ rfl (.tmp 69) (.tmp 71) _ rfl sl_Lt (w.heap.size + 1) _ _ _ (l.take l.length) rfl HO6.out _ _ _ [x] rfl rfl HR6.out (by rw [HT1.out]; simp only [List.length_cons, List.length_nil]; omega) HB6.out.1 ?_; intro A7 c7 w7 ho7 hgr7 hat7; have HB7 := Lib.hid (HB6.out.kept hgr7 (Own.ne_ HO6.out (.inl (Nat.lt_succ_self _)))); have HG7 := Lib.hid (HG6.out.app HO6.out (Nat.le_succ _) hgr7); have HO7 := Lib.hid ho7; clear ho7 hgr7 hat7
                    refine hK.out _ _ (Lt.b3 HB7.out) (fun hH => ?_)
                    clear hK K
                    (try simp only [Act.put, List.setIfInBounds_toArray, List.set_cons_zero, List.set_cons_succ])
                    refine wpAnyH_ready (rs := [11]) (by kernel_rfl) (by simp) ?_
                    refine (AllReadyH.cons (by simp only [List.getElem?_toArray, List.getElem?_cons_succ, List.getElem?_cons_zero]; rfl) (fun K hK => ?_) AllReadyH.nil)
                    refine step_append_rd _ rfl (.tmp 72) (.tmp 75) _ rfl sl_Lt (w.heap.size + 1) _ _ _ (l.take l.length ++ [x]) rfl HO7.out _ _ _ (l.drop l.length) rfl (by simp) (by rw [List.drop_length]; exact Rd.nil) (by rw [List.length_append, HT1.out, List.length_drop]; simp only [List.length_cons, List.length_nil]; omega) HB7.out.1 ?_; intro A8 c8 w8 ho8 hgr8 hat8; have HB8 := Lib.hid (HB7.out.kept hgr8 (Own.ne_ HO7.out (.inl (Nat.lt_succ_self _)))); have HG8 := Lib.hid (HG7.out.app HO7.out (Nat.le_succ _) hgr8); have HO8 := Lib.hid ho8; clear ho8 hgr8 hat8
                    refine hK.out _ _ (Lt.b3 HB8.out) (fun hH => ?_)
                    clear hK K
                    (try simp only [Act.put, List.setIfInBounds_toArray, List.set_cons_zero, List.set_cons_succ])
                    refine wpAnyH_take (i := 12) (v := ?_) (by simp only [List.getElem?_toArray, List.getElem?_cons_succ, List.getElem?_cons_zero]; rfl) (by kernel_rfl) (by kernel_rfl) (by kernel_rfl) (by intro _ _ _ h; exact h) (Or.inl ⟨by rfl, ?_⟩) hH ?_; rotate_left; · ((intro w hSw); (try dsimp only at hSw); go_simp; (try with_reducible rfl); done)
                    (try simp only [Act.put, List.setIfInBounds_toArray, List.set_cons_zero, List.set_cons_succ])
                    refine wpAnyH_done (by kernel_rfl) ?_ _
                    go_wp2_with fail
                    go_meet
                    have HAL := Lib.hid (show (addOut l x).length = l.length + 1 by rw [HO_.out]; simp)
                    refine ⟨A8, c8, by rw [HAL.out], ?_, HG8.out⟩
                    rw [HO_.out]
                    exact HO8.out
                  ·
                    go_simp
                    refine hK.out _ _ (Lt.b3 (HBE.out.alloc _)) (fun hH => ?_)
                    clear hK K
                    (try simp only [Act.put, List.setIfInBounds_toArray, List.set_cons_zero, List.set_cons_succ])
                    have HBEX := Lib.hid (HBE.out.alloc (.cells #[.string x.ba, .int .i64 x.ex, .int .i64 x.q] 36))
                    have HGEX := Lib.hid (HGE.out.alloc (.cells #[.string x.ba, .int .i64 x.ex, .int .i64 x.q] 36))
                    have HOEX := Lib.hid (HOE.out.alloc (.cells #[.string x.ba, .int .i64 x.ex, .int .i64 x.q] 36))
                    have HREX := Lib.hid (rd_new (E := Lt.E) (w1.drew.alloc (.cells #[] 36)) x 36 (n := w1.heap.size + 1) (by simp))
                    refine wpAnyH_ready (rs := [4]) (by kernel_rfl) (by simp) ?_
                    refine (AllReadyH.cons (by simp only [List.getElem?_toArray, List.getElem?_cons_succ, List.getElem?_cons_zero]; rfl) (fun K hK => ?_) AllReadyH.nil)
                    refine step_append_rd _ rfl (.tmp 65) (.tmp 68) _ rfl sl_Lt (w.heap.size + 1) _ _ _ ([] : List Lt) rfl HOEX.out _ _ _ (l.take l.length) rfl HT1.out.symm ((HL.out.grew HGEX.out).take l.length) (by rw [HT1.out]; simp only [List.length_nil]; omega) HBEX.out.1 ?_; intro A5 c5 w5 ho5 hgr5 hat5; have HB5 := Lib.hid (HBEX.out.kept hgr5 (by simp only [Value.ownBlock]; intro e; injection e with e; omega)); have HG5 := Lib.hid (HGEX.out.app (E := Lt.E) HOEX.out (Nat.le_succ _) hgr5); have HO5 := Lib.hid (show Own Lt.E 36 w5 (w.heap.size + 1) (.slice A5 l.length c5) (l.take l.length) by simpa using ho5); have HR6 := Lib.hid (HREX.out.kept hgr5 (by intro b o e1 e2; simp only [Option.some.injEq, Addr.mk.injEq] at e1; simp [Value.ownBlock] at e2; have h9 : w1.drew.heap.size = w1.heap.size := rfl; omega)); clear ho5 hgr5 hat5
                    refine hK.out _ _ (Lt.b3 HB5.out) (fun hH => ?_)
                    clear hK K
                    (try simp only [Act.put, List.setIfInBounds_toArray, List.set_cons_zero, List.set_cons_succ])
                    (try simp only [Nat.zero_add])
                    have HB6 := HB5
                    have HG6 := HG5
                    have HO6 := HO5
                    refine wpAnyH_ready (rs := [7]) (by kernel_rfl) (by simp) ?_
                    refine (AllReadyH.cons (by simp only [List.getElem?_toArray, List.getElem?_cons_succ, List.getElem?_cons_zero]; rfl) (fun K hK => ?_) AllReadyH.nil)
                    refine step_append_rd _ rfl (.tmp 69) (.tmp 71) _ rfl sl_Lt (w.heap.size + 1) _ _ _ (l.take l.length) rfl HO6.out _ _ _ [x] rfl rfl HR6.out (by rw [HT1.out]; simp only [List.length_cons, List.length_nil]; omega) HB6.out.1 ?_; intro A7 c7 w7 ho7 hgr7 hat7; have HB7 := Lib.hid (HB6.out.kept hgr7 (Own.ne_ HO6.out (.inl (Nat.lt_succ_self _)))); have HG7 := Lib.hid (HG6.out.app HO6.out (Nat.le_succ _) hgr7); have HO7 := Lib.hid ho7; clear ho7 hgr7 hat7
                    refine hK.out _ _ (Lt.b3 HB7.out) (fun hH => ?_)
                    clear hK K
                    (try simp only [Act.put, List.setIfInBounds_toArray, List.set_cons_zero, List.set_cons_succ])
                    refine wpAnyH_ready (rs := [11]) (by kernel_rfl) (by simp) ?_
                    refine (AllReadyH.cons (by simp only [List.getElem?_toArray, List.getElem?_cons_succ, List.getElem?_cons_zero]; rfl) (fun K hK => ?_) AllReadyH.nil)
                    refine step_append_rd _ rfl (.tmp 72) (.tmp 75) _ rfl sl_Lt (w.heap.size + 1) _ _ _ (l.take l.length ++ [x]) rfl HO7.out _ _ _ (l.drop l.length) rfl (by simp) (by rw [List.drop_length]; exact Rd.nil) (by rw [List.length_append, HT1.out, List.length_drop]; simp only [List.length_cons, List.length_nil]; omega) HB7.out.1 ?_; intro A8 c8 w8 ho8 hgr8 hat8; have HB8 := Lib.hid (HB7.out.kept hgr8 (Own.ne_ HO7.out (.inl (Nat.lt_succ_self _)))); have HG8 := Lib.hid (HG7.out.app HO7.out (Nat.le_succ _) hgr8); have HO8 := Lib.hid ho8; clear ho8 hgr8 hat8
                    refine hK.out _ _ (Lt.b3 HB8.out) (fun hH => ?_)
                    clear hK K
                    (try simp only [Act.put, List.setIfInBounds_toArray, List.set_cons_zero, List.set_cons_succ])
                    refine wpAnyH_take (i := 12) (v := ?_) (by simp only [List.getElem?_toArray, List.getElem?_cons_succ, List.getElem?_cons_zero]; rfl) (by kernel_rfl) (by kernel_rfl) (by kernel_rfl) (by intro _ _ _ h; exact h) (Or.inl ⟨by rfl, ?_⟩) hH ?_; rotate_left; · ((intro w hSw); (try dsimp only at hSw); go_simp; (try with_reducible rfl); done)
                    (try simp only [Act.put, List.setIfInBounds_toArray, List.set_cons_zero, List.set_cons_succ])
                    refine wpAnyH_done (by kernel_rfl) ?_ _
                    go_wp2_with fail
                    go_meet
                    have HAL := Lib.hid (show (addOut l x).length = l.length + 1 by rw [HO_.out]; simp)
                    refine ⟨A8, c8, by rw [HAL.out], ?_, HG8.out⟩
                    rw [HO_.out]
                    exact HO8.out
                ·
                  go_simp
                  refine hK.out _ _ (Lt.b3 HBX.out) (fun hH => ?_)
                  clear hK K
                  (try simp only [Act.put, List.setIfInBounds_toArray, List.set_cons_zero, List.set_cons_succ])
                  have HBXE := Lib.hid (HBX.out.alloc (.cells #[] 36))
                  have HGXE := Lib.hid (HGX.out.alloc (.cells #[] 36))
                  have HRXE := Lib.hid (HRX.out.grew ((Grew.refl _).alloc (.cells #[] 36)))
                  have HOXE := Lib.hid (Own.new_ (E := Lt.E) (t := 36) (w := w1.drew.alloc (.cells #[.string x.ba, .int .i64 x.ex, .int .i64 x.q] 36)) (base := w.heap.size + 1) HBX.out.1)
                  have hsz1 : (w1.drew.alloc (.cells #[.string x.ba, .int .i64 x.ex, .int .i64 x.q] 36)).heap.size = w1.heap.size + 1 := by simp
                  rw [hsz1] at HOXE
                  clear hsz1
                  refine wpAnyH_ready (rs := [0]) (by kernel_rfl) (by simp) ?_
                  refine (AllReadyH.cons (by simp only [List.getElem?_toArray, List.getElem?_cons_succ, List.getElem?_cons_zero]; rfl) (fun K hK => ?_) AllReadyH.nil)
                  go_simp
                  refine hK.out _ _ (Lt.b3 HBXE.out) (fun hH => ?_)
                  clear hK K
                  (try simp only [Act.put, List.setIfInBounds_toArray, List.set_cons_zero, List.set_cons_succ])
                  refine wpAnyH_ready (rs := [4]) (by kernel_rfl) (by simp) ?_
                  refine (AllReadyH.cons (by simp only [List.getElem?_toArray, List.getElem?_cons_succ, List.getElem?_cons_zero]; rfl) (fun K hK => ?_) AllReadyH.nil)
                  refine step_append_rd _ rfl (.tmp 65) (.tmp 68) _ rfl sl_Lt (w.heap.size + 1) _ _ _ ([] : List Lt) rfl HOXE.out _ _ _ (l.take l.length) rfl HT1.out.symm ((HL.out.grew HGXE.out).take l.length) (by rw [HT1.out]; simp only [List.length_nil]; omega) HBXE.out.1 ?_; intro A5 c5 w5 ho5 hgr5 hat5; have HB5 := Lib.hid (HBXE.out.kept hgr5 (by simp only [Value.ownBlock]; intro e; injection e with e; omega)); have HG5 := Lib.hid (HGXE.out.app (E := Lt.E) HOXE.out (Nat.le_succ _) hgr5); have HO5 := Lib.hid (show Own Lt.E 36 w5 (w.heap.size + 1) (.slice A5 l.length c5) (l.take l.length) by simpa using ho5); have HR6 := Lib.hid (HRXE.out.kept hgr5 (by intro b o e1 e2; simp only [Option.some.injEq, Addr.mk.injEq] at e1; simp [Value.ownBlock] at e2; have h9 : w1.drew.heap.size = w1.heap.size := rfl; omega)); clear ho5 hgr5 hat5
                  refine hK.out _ _ (Lt.b3 HB5.out) (fun hH => ?_)
                  clear hK K
                  (try simp only [Act.put, List.setIfInBounds_toArray, List.set_cons_zero, List.set_cons_succ])
                  (try simp only [Nat.zero_add])
                  have HB6 := HB5
                  have HG6 := HG5
                  have HO6 := HO5
                  refine wpAnyH_ready (rs := [7]) (by kernel_rfl) (by simp) ?_
                  refine (AllReadyH.cons (by simp only [List.getElem?_toArray, List.getElem?_cons_succ, List.getElem?_cons_zero]; rfl) (fun K hK => ?_) AllReadyH.nil)
                  refine step_append_rd _ rfl (.tmp 69) (.tmp 71) _ rfl sl_Lt (w.heap.size + 1) _ _ _ (l.take l.length) rfl HO6.out _ _ _ [x] rfl rfl HR6.out (by rw [HT1.out]; simp only [List.length_cons, List.length_nil]; omega) HB6.out.1 ?_; intro A7 c7 w7 ho7 hgr7 hat7; have HB7 := Lib.hid (HB6.out.kept hgr7 (Own.ne_ HO6.out (.inl (Nat.lt_succ_self _)))); have HG7 := Lib.hid (HG6.out.app HO6.out (Nat.le_succ _) hgr7); have HO7 := Lib.hid ho7; clear ho7 hgr7 hat7
                  refine hK.out _ _ (Lt.b3 HB7.out) (fun hH => ?_)
                  clear hK K
                  (try simp only [Act.put, List.setIfInBounds_toArray, List.set_cons_zero, List.set_cons_succ])
                  refine wpAnyH_ready (rs := [11]) (by kernel_rfl) (by simp) ?_
                  refine (AllReadyH.cons (by simp only [List.getElem?_toArray, List.getElem?_cons_succ, List.getElem?_cons_zero]; rfl) (fun K hK => ?_) AllReadyH.nil)
                  refine step_append_rd _ rfl (.tmp 72) (.tmp 75) _ rfl sl_Lt (w.heap.size + 1) _ _ _ (l.take l.length ++ [x]) rfl HO7.out _ _ _ (l.drop l.length) rfl (by simp) (by rw [List.drop_length]; exact Rd.nil) (by rw [List.length_append, HT1.out, List.length_drop]; simp only [List.length_cons, List.length_nil]; omega) HB7.out.1 ?_; intro A8 c8 w8 ho8 hgr8 hat8; have HB8 := Lib.hid (HB7.out.kept hgr8 (Own.ne_ HO7.out (.inl (Nat.lt_succ_self _)))); have HG8 := Lib.hid (HG7.out.app HO7.out (Nat.le_succ _) hgr8); have HO8 := Lib.hid ho8; clear ho8 hgr8 hat8
                  refine hK.out _ _ (Lt.b3 HB8.out) (fun hH => ?_)
                  clear hK K
                  (try simp only [Act.put, List.setIfInBounds_toArray, List.set_cons_zero, List.set_cons_succ])
                  refine wpAnyH_take (i := 12) (v := ?_) (by simp only [List.getElem?_toArray, List.getElem?_cons_succ, List.getElem?_cons_zero]; rfl) (by kernel_rfl) (by kernel_rfl) (by kernel_rfl) (by intro _ _ _ h; exact h) (Or.inl ⟨by rfl, ?_⟩) hH ?_; rotate_left; · ((intro w hSw); (try dsimp only at hSw); go_simp; (try with_reducible rfl); done)
                  (try simp only [Act.put, List.setIfInBounds_toArray, List.set_cons_zero, List.set_cons_succ])
                  refine wpAnyH_done (by kernel_rfl) ?_ _
                  go_wp2_with fail
                  go_meet
                  have HAL := Lib.hid (show (addOut l x).length = l.length + 1 by rw [HO_.out]; simp)
                  refine ⟨A8, c8, by rw [HAL.out], ?_, HG8.out⟩
                  rw [HO_.out]
                  exact HO8.out
      · rw [Nat.zero_add] at hf
        subst hf
        have hgd : l.getD i lt0 = y := by simp [List.getD_eq_getElem?_getD, hy]
        have hil : i < l.length := (List.getElem?_eq_some_iff.1 hy).1
        have HO_ := Lib.hid (show addOut l x = l.set i ⟨y.ba, y.ex, y.q + x.q⟩ by
          simp only [addOut]
          rw [HZ.out, if_pos (by omega), Int.toNat_natCast, hgd])
        have hyq := (lots_ok HA1.out).2 y (List.mem_of_getElem? hy)
        have hxq := (lots_ok HA2.out).2 x (by simp)
        have hwq : IntKind.i64.wrap (y.q + x.q) = y.q + x.q := IntWalk.i64_in _ (by omega)
        obtain ⟨g, d, hv, hg1, hg2⟩ := HO3.out.addr (by omega)
        simp only [Value.slice.injEq, true_and] at hv
        obtain ⟨rfl, rfl⟩ := hv
        have hq0 := HO3.out.at_ (j := 2) hy rfl
        have hof := HO3.out.frozen
        simp only [Lt.E] at hq0
        have hi1 : (i : Int) < (l.length : Int) := by omega
        have hi0 : (0 : Int) ≤ (i : Int) := by omega
        have HY := Lib.hid hy
        clear hgd hil hy hyb
        go_wp2_with fail
        go_region
        have HS := Lib.hid (HO3.out.set_ (x' := ⟨y.ba, y.ex, y.q + x.q⟩) (j := 2) (u := .int .i64 (y.q + x.q)) HY.out rfl (by decide))
        have HGS := Lib.hid (HG3.out.setCell (p := ⟨g, i * 3 + 2, none⟩) (Nat.le_of_succ_le hg1) (.int .i64 (y.q + x.q)))
        go_wp2_with fail
        go_meet
        refine ⟨some ⟨g, 0, none⟩, c3, by rw [HO_.out, List.length_set], ?_, HGS.out.drew⟩
        rw [HO_.out]
        exact HS.out.drew
    case rest =>
      obtain ⟨A4, c4, rfl, ho4, hg4⟩ := hcut
      have HO4 := Lib.hid ho4
      have HG4 := Lib.hid hg4
      clear ho4 hg4
      cases ha : areL (addOut l x)
      · have HF := Lib.hid (show addF l x = ([], false) by rw [HFA.out, ha]; rfl)
        have HA := Lib.hid ha
        clear ha
        go_wp2_with (go_at_call 12; refine (areLotsE_impl HA.out _ _ _ HO4.out.rd HAO.out.1 (by have := HAO.out.2; omega)).mono ?_; rintro e w5 ⟨rfl, h5⟩)
        go_ret2
        go_light
        exact ⟨none, 0, by rw [HF.out]; rfl, by rw [HF.out]; exact Own.none_, HG4.out.trans h5⟩
      · have HF := Lib.hid (show addF l x = (addOut l x, true) by rw [HFA.out, ha]; rfl)
        have HA := Lib.hid ha
        clear ha
        go_wp2_with (go_at_call 12; refine (areLotsE_impl HA.out _ _ _ HO4.out.rd HAO.out.1 (by have := HAO.out.2; omega)).mono ?_; rintro e w5 ⟨rfl, h5⟩)
        go_ret2
        go_light
        exact ⟨A4, c4, by rw [HF.out]; try rfl, by rw [HF.out]; exact (HO4.out.grew h5).mono (Nat.le_succ _), HG4.out.trans h5⟩
end Go.Proofs.Ytcphlancaahihaa
