/- The exact laws on a move undone and on moves one after the other: the program's functions return what the reference's return. Conditions: none. -/
import Derived.Test.YtfbfhccgohmeiaaAplU
import Derived.Deep.RegionHeld3
namespace Go.Proofs.Ytfbfhccgohmeiaa
open Go.ChangeShapes Go.WideShapes Go.ChangeAt Go.RowKit Go.Joins Go.Deep
set_option linter.unusedVariables false
set_option linter.unusedSimpArgs false

theorem undoF_le (l : List Hold) (x : Mv) : (undoF l x).1.length ≤ 4194304 := by have := applyF_len l (backM x); unfold undoF; omega
theorem amF_le (l : List Mv) : (amF l).1.length ≤ 4194304 := by have := amF_len l; omega
namespace fnExactUndoMove
set_option maxHeartbeats 1000000 in
theorem walk (w : World) (l : List Hold) (A : Option Addr) (c : Nat) (r_l : Rd Hold.E w A l) (q_l : l.length ≤ c ∧ c ≤ maxLen) (k_l : ∀ x ∈ l, x.Ok) (day : Int) (w_day : (Lit.int .i64 day).wf = true) (it : ByteArray) (w_it : it.size ≤ maxLen) (ba : ByteArray) (w_ba : ba.size ≤ maxLen) (ff : ByteArray) (w_ff : ff.size ≤ maxLen) (tt : ByteArray) (w_tt : tt.size ≤ maxLen) (q : Int) (w_q : (Lit.int .i64 q).wf = true) :
    Calls Try.prog 8 #[.slice A l.length c, .agg #[.int .i64 day, .string it, .string ba, .string ff, .string tt, .int .i64 q]] w fun e w' => e = .returned (.bool true) ∧ Grew w w' := by
  have hRl : ((undoF l ⟨day, it, ba, ff, tt, q⟩).1).length ≤ 4194304 := undoF_le _ _
  have hq_l := q_l
  unfold maxLen at hq_l
  go_enter Try.func8, Try.ntmps8
  go_wp2_with fail
  refine (szHoldingS_any l A c _ _ (r_l.grew (by (repeat (with_reducible first | exact Grew.refl _ | assumption | apply Grew.alloc | apply Grew.drew | apply Grew.drewN | (refine Grew.setCell ?_ (by simp; try omega) _) | (refine Grew.trans ?_ (by assumption)))))) k_l (by omega) (by omega) (by simp only [maxLen]; omega)).mono ?_; rintro e w1 ⟨r1, rfl, hle1, hr1, h1⟩; have hz_w1_0 : w.heap.size < w1.heap.size := Nat.lt_of_lt_of_le (by first | (simp +arith; done) | (simp; omega) | omega) h1.le; have hb_w1_0 := fun o => h1.rules.1 w.heap.size o (by first | (simp +arith; done) | (simp; omega) | omega); have hf_w1_0 := fun o => h1.rules.2 w.heap.size o (by first | (simp +arith; done) | (simp; omega) | omega); (try simp [World.cell?_alloc_past, World.frozen?_alloc_past, Nat.lt_add_right] at hb_w1_0 hf_w1_0)
  by_cases hr0_1 : r1 < 0
  · go_wp2_with fail
    go_ret
    go_light
    refine ⟨rfl, ?_⟩
    (repeat (with_reducible first | exact Grew.refl _ | assumption | apply Grew.alloc | apply Grew.drew | apply Grew.drewN | (refine Grew.setCell ?_ (by simp; try omega) _) | (refine Grew.trans ?_ (by assumption))))
  have hn_l := hr1 (by omega)
  go_wp2_with fail
  refine (szMove_any (⟨day, it, ba, ff, tt, q⟩ : Mv) r1 _ (by omega) (by omega) w_it w_ba w_ff w_tt).mono ?_; rintro e w2 ⟨rfl, h2⟩; have hz_w2_0 : w.heap.size < w2.heap.size := Nat.lt_of_lt_of_le (by first | (simp +arith; done) | (simp; omega) | omega) h2.le; have hb_w2_0 := fun o => h2.rules.1 w.heap.size o (by first | (simp +arith; done) | (simp; omega) | omega); have hf_w2_0 := fun o => h2.rules.2 w.heap.size o (by first | (simp +arith; done) | (simp; omega) | omega); (try simp [World.cell?_alloc_past, World.frozen?_alloc_past, Nat.lt_add_right, hz_w1_0, hb_w1_0, hf_w1_0] at hb_w2_0 hf_w2_0)
  by_cases hsz_2 : (r1 : Int) < ((⟨day, it, ba, ff, tt, q⟩ : Mv).w : Int)
  · go_wp2_with fail
    go_ret
    go_light
    refine ⟨rfl, ?_⟩
    (repeat (with_reducible first | exact Grew.refl _ | assumption | apply Grew.alloc | apply Grew.drew | apply Grew.drewN | (refine Grew.setCell ?_ (by simp; try omega) _) | (refine Grew.trans ?_ (by assumption))))
  have hsy_2 : (0 : Int) ≤ (r1 : Int) - ((⟨day, it, ba, ff, tt, q⟩ : Mv).w : Int) := by omega
  go_wp2_with fail
  go_region_held3 (fun w' => w'.cell? ⟨w.heap.size, 0, none⟩ = some (.int .i64 day) ∧ w'.cell? ⟨w.heap.size, 1, none⟩ = some (.string it) ∧ w'.cell? ⟨w.heap.size, 2, none⟩ = some (.string ba) ∧ w'.cell? ⟨w.heap.size, 3, none⟩ = some (.string ff) ∧ w'.cell? ⟨w.heap.size, 4, none⟩ = some (.string tt) ∧ w'.cell? ⟨w.heap.size, 5, none⟩ = some (.int .i64 q)) (first | exact ⟨hb_w5_0 0, hb_w5_0 1, hb_w5_0 2, hb_w5_0 3, hb_w5_0 4, hb_w5_0 5⟩ | exact ⟨hb_w4_0 0, hb_w4_0 1, hb_w4_0 2, hb_w4_0 3, hb_w4_0 4, hb_w4_0 5⟩ | exact ⟨hb_w3_0 0, hb_w3_0 1, hb_w3_0 2, hb_w3_0 3, hb_w3_0 4, hb_w3_0 5⟩ | exact ⟨hb_w2_0 0, hb_w2_0 1, hb_w2_0 2, hb_w2_0 3, hb_w2_0 4, hb_w2_0 5⟩) ((first | (go_at_call 18; refine (toHoldingS_any l A c _ (r_l.grew (by (repeat (with_reducible first | exact Grew.refl _ | assumption | apply Grew.alloc | apply Grew.drew | apply Grew.drewN | (refine Grew.setCell ?_ (by simp; try omega) _) | (refine Grew.trans ?_ (by assumption)))))) (by omega)).mono ?_; rintro e w3 ⟨rfl, os_l, h3⟩; have hz_w3_0 : w.heap.size < w3.heap.size := Nat.lt_of_lt_of_le (by first | (simp +arith; done) | (simp; omega) | omega) h3.le; have hb_w3_0 := fun o => h3.rules.1 w.heap.size o (by first | (simp +arith; done) | (simp; omega) | omega); have hf_w3_0 := fun o => h3.rules.2 w.heap.size o (by first | (simp +arith; done) | (simp; omega) | omega); (try simp [World.cell?_alloc_past, World.frozen?_alloc_past, Nat.lt_add_right, hz_w2_0, hb_w2_0, hf_w2_0] at hb_w3_0 hf_w3_0)) | (go_at_call 14; refine (toMove_any ⟨day, it, ba, ff, tt, q⟩ _).mono ?_; rintro e w4 ⟨rfl, h4⟩; have hz_w4_0 : w.heap.size < w4.heap.size := Nat.lt_of_lt_of_le (by first | (simp +arith; done) | (simp; omega) | omega) h4.le; have hb_w4_0 := fun o => h4.rules.1 w.heap.size o (by first | (simp +arith; done) | (simp; omega) | omega); have hf_w4_0 := fun o => h4.rules.2 w.heap.size o (by first | (simp +arith; done) | (simp; omega) | omega); (try simp [World.cell?_alloc_past, World.frozen?_alloc_past, Nat.lt_add_right, hz_w3_0, hb_w3_0, hf_w3_0] at hb_w4_0 hf_w4_0)) | (go_at_call 32; refine (undoMove_spec l _ _ ⟨day, it, ba, ff, tt, q⟩ _ (os_l.grew (by (repeat (with_reducible first | exact Grew.refl _ | assumption | apply Grew.alloc | apply Grew.drew | apply Grew.drewN | (refine Grew.setCell ?_ (by simp; try omega) _) | (refine Grew.trans ?_ (by assumption)))))).rd k_l (by omega) ⟨trivial, w_it, w_ba, w_ff, w_tt, w_day, w_q, trivial⟩ (Nat.le_refl _) (by simp only [maxLen]; omega)).mono ?_; rintro e w5 ⟨As, cs, rfl, os, h5⟩; have hz_w5_0 : w.heap.size < w5.heap.size := Nat.lt_of_lt_of_le (by first | (simp +arith; done) | (simp; omega) | omega) h5.le; have hb_w5_0 := fun o => h5.rules.1 w.heap.size o (by first | (simp +arith; done) | (simp; omega) | omega); have hf_w5_0 := fun o => h5.rules.2 w.heap.size o (by first | (simp +arith; done) | (simp; omega) | omega); (try simp [World.cell?_alloc_past, World.frozen?_alloc_past, Nat.lt_add_right, hz_w4_0, hb_w4_0, hf_w4_0] at hb_w5_0 hf_w5_0))))
  go_wp2_with fail
  refine (toHoldingS_any l A c _ (r_l.grew (by (repeat (with_reducible first | exact Grew.refl _ | assumption | apply Grew.alloc | apply Grew.drew | apply Grew.drewN | (refine Grew.setCell ?_ (by simp; try omega) _) | (refine Grew.trans ?_ (by assumption)))))) (by omega)).mono ?_; rintro e w6 ⟨rfl, oi_l, h6⟩; have hz_w6_0 : w.heap.size < w6.heap.size := Nat.lt_of_lt_of_le (by first | (simp +arith; done) | (simp; omega) | omega) h6.le; have hb_w6_0 := fun o => h6.rules.1 w.heap.size o (by first | (simp +arith; done) | (simp; omega) | omega); have hf_w6_0 := fun o => h6.rules.2 w.heap.size o (by first | (simp +arith; done) | (simp; omega) | omega); (try simp [World.cell?_alloc_past, World.frozen?_alloc_past, Nat.lt_add_right, hz_w5_0, hb_w5_0, hf_w5_0] at hb_w6_0 hf_w6_0)
  go_wp2_with fail
  refine (toMove_any ⟨day, it, ba, ff, tt, q⟩ _).mono ?_; rintro e w7 ⟨rfl, h7⟩; have hz_w7_0 : w.heap.size < w7.heap.size := Nat.lt_of_lt_of_le (by first | (simp +arith; done) | (simp; omega) | omega) h7.le; have hb_w7_0 := fun o => h7.rules.1 w.heap.size o (by first | (simp +arith; done) | (simp; omega) | omega); have hf_w7_0 := fun o => h7.rules.2 w.heap.size o (by first | (simp +arith; done) | (simp; omega) | omega); (try simp [World.cell?_alloc_past, World.frozen?_alloc_past, Nat.lt_add_right, hz_w6_0, hb_w6_0, hf_w6_0] at hb_w7_0 hf_w7_0)
  go_wp2_with fail
  refine (undoMove_impl l _ _ ⟨day, it, ba, ff, tt, q⟩ _ (oi_l.grew (by (repeat (with_reducible first | exact Grew.refl _ | assumption | apply Grew.alloc | apply Grew.drew | apply Grew.drewN | (refine Grew.setCell ?_ (by simp; try omega) _) | (refine Grew.trans ?_ (by assumption)))))).rd k_l (by omega) ⟨trivial, w_it, w_ba, w_ff, w_tt, w_day, w_q, trivial⟩).mono ?_; rintro e w8 ⟨Ag, cg, rfl, og, h8⟩; have hz_w8_0 : w.heap.size < w8.heap.size := Nat.lt_of_lt_of_le (by first | (simp +arith; done) | (simp; omega) | omega) h8.le; have hb_w8_0 := fun o => h8.rules.1 w.heap.size o (by first | (simp +arith; done) | (simp; omega) | omega); have hf_w8_0 := fun o => h8.rules.2 w.heap.size o (by first | (simp +arith; done) | (simp; omega) | omega); (try simp [World.cell?_alloc_past, World.frozen?_alloc_past, Nat.lt_add_right, hz_w7_0, hb_w7_0, hf_w7_0] at hb_w8_0 hf_w8_0)
  go_wp2_with fail
  refine (eqHoldingS_any ((undoF l ⟨day, it, ba, ff, tt, q⟩).1) ((undoF l ⟨day, it, ba, ff, tt, q⟩).1) _ _ _ _ _ (og.grew (by (repeat (with_reducible first | exact Grew.refl _ | assumption | apply Grew.alloc | apply Grew.drew | apply Grew.drewN | (refine Grew.setCell ?_ (by simp; try omega) _) | (refine Grew.trans ?_ (by assumption)))))).rd (os.grew (by (repeat (with_reducible first | exact Grew.refl _ | assumption | apply Grew.alloc | apply Grew.drew | apply Grew.drewN | (refine Grew.setCell ?_ (by simp; try omega) _) | (refine Grew.trans ?_ (by assumption)))))).rd hRl hRl).mono ?_; rintro e w9 ⟨rfl, h9⟩; have hz_w9_0 : w.heap.size < w9.heap.size := Nat.lt_of_lt_of_le (by first | (simp +arith; done) | (simp; omega) | omega) h9.le; have hb_w9_0 := fun o => h9.rules.1 w.heap.size o (by first | (simp +arith; done) | (simp; omega) | omega); have hf_w9_0 := fun o => h9.rules.2 w.heap.size o (by first | (simp +arith; done) | (simp; omega) | omega); (try simp [World.cell?_alloc_past, World.frozen?_alloc_past, Nat.lt_add_right, hz_w8_0, hb_w8_0, hf_w8_0] at hb_w9_0 hf_w9_0)
  go_wp2_with fail
  refine (toHoldingS_any l A c _ (r_l.grew (by (repeat (with_reducible first | exact Grew.refl _ | assumption | apply Grew.alloc | apply Grew.drew | apply Grew.drewN | (refine Grew.setCell ?_ (by simp; try omega) _) | (refine Grew.trans ?_ (by assumption)))))) (by omega)).mono ?_; rintro e w10 ⟨rfl, oe_l, h10⟩; have hz_w10_0 : w.heap.size < w10.heap.size := Nat.lt_of_lt_of_le (by first | (simp +arith; done) | (simp; omega) | omega) h10.le; have hb_w10_0 := fun o => h10.rules.1 w.heap.size o (by first | (simp +arith; done) | (simp; omega) | omega); have hf_w10_0 := fun o => h10.rules.2 w.heap.size o (by first | (simp +arith; done) | (simp; omega) | omega); (try simp [World.cell?_alloc_past, World.frozen?_alloc_past, Nat.lt_add_right, hz_w9_0, hb_w9_0, hf_w9_0] at hb_w10_0 hf_w10_0)
  go_wp2_with fail
  refine (eqHoldingS_any l l _ _ _ _ _ (oi_l.grew (by (repeat (with_reducible first | exact Grew.refl _ | assumption | apply Grew.alloc | apply Grew.drew | apply Grew.drewN | (refine Grew.setCell ?_ (by simp; try omega) _) | (refine Grew.trans ?_ (by assumption)))))).rd (oe_l.grew (by (repeat (with_reducible first | exact Grew.refl _ | assumption | apply Grew.alloc | apply Grew.drew | apply Grew.drewN | (refine Grew.setCell ?_ (by simp; try omega) _) | (refine Grew.trans ?_ (by assumption)))))).rd (by omega) (by omega)).mono ?_; rintro e w11 ⟨rfl, h11⟩; have hz_w11_0 : w.heap.size < w11.heap.size := Nat.lt_of_lt_of_le (by first | (simp +arith; done) | (simp; omega) | omega) h11.le; have hb_w11_0 := fun o => h11.rules.1 w.heap.size o (by first | (simp +arith; done) | (simp; omega) | omega); have hf_w11_0 := fun o => h11.rules.2 w.heap.size o (by first | (simp +arith; done) | (simp; omega) | omega); (try simp [World.cell?_alloc_past, World.frozen?_alloc_past, Nat.lt_add_right, hz_w10_0, hb_w10_0, hf_w10_0] at hb_w11_0 hf_w11_0)
  go_wp2_with fail
  refine (markHoldingS_any l _ _ _ _ _ (oi_l.grew (by (repeat (with_reducible first | exact Grew.refl _ | assumption | apply Grew.alloc | apply Grew.drew | apply Grew.drewN | (refine Grew.setCell ?_ (by simp; try omega) _) | (refine Grew.trans ?_ (by assumption)))))) (by omega) (by omega) (by omega)).mono ?_; rintro e w12 ⟨rfl, om12, hr12⟩
  have h12 : Grew w5 w12 := Grew.app (by (repeat (with_reducible first | exact Grew.refl _ | assumption | apply Grew.alloc | apply Grew.drew | apply Grew.drewN | (refine Grew.setCell ?_ (by simp; try omega) _) | (refine Grew.trans ?_ (by assumption))))) (oi_l.grew (by (repeat (with_reducible first | exact Grew.refl _ | assumption | apply Grew.alloc | apply Grew.drew | apply Grew.drewN | (refine Grew.setCell ?_ (by simp; try omega) _) | (refine Grew.trans ?_ (by assumption)))))) (show Grew w5 w5 by (repeat (with_reducible first | exact Grew.refl _ | assumption | apply Grew.alloc | apply Grew.drew | apply Grew.drewN | (refine Grew.setCell ?_ (by simp; try omega) _) | (refine Grew.trans ?_ (by assumption))))).le hr12; have hz_w12_0 : w.heap.size < w12.heap.size := Nat.lt_of_lt_of_le (by first | (simp +arith; done) | (simp; omega) | omega) h12.le; have hb_w12_0 := fun o => h12.rules.1 w.heap.size o (by first | (simp +arith; done) | (simp; omega) | omega); have hf_w12_0 := fun o => h12.rules.2 w.heap.size o (by first | (simp +arith; done) | (simp; omega) | omega); (try simp [World.cell?_alloc_past, World.frozen?_alloc_past, Nat.lt_add_right, hz_w5_0, hb_w5_0, hf_w5_0] at hb_w12_0 hf_w12_0)
  have og12 := (og.grew (by (repeat (with_reducible first | exact Grew.refl _ | assumption | apply Grew.alloc | apply Grew.drew | apply Grew.drewN | (refine Grew.setCell ?_ (by simp; try omega) _) | (refine Grew.trans ?_ (by assumption)))))).kept hr12 (own_ne oi_l og (show Grew w6 w7 by (repeat (with_reducible first | exact Grew.refl _ | assumption | apply Grew.alloc | apply Grew.drew | apply Grew.drewN | (refine Grew.setCell ?_ (by simp; try omega) _) | (refine Grew.trans ?_ (by assumption))))).le)
  go_wp2_with fail
  refine (eqHoldingS_any ((undoF l ⟨day, it, ba, ff, tt, q⟩).1) ((undoF l ⟨day, it, ba, ff, tt, q⟩).1) _ _ _ _ _ (og12.grew (by (repeat (with_reducible first | exact Grew.refl _ | assumption | apply Grew.alloc | apply Grew.drew | apply Grew.drewN | (refine Grew.setCell ?_ (by simp; try omega) _) | (refine Grew.trans ?_ (by assumption)))))).rd (os.grew (by (repeat (with_reducible first | exact Grew.refl _ | assumption | apply Grew.alloc | apply Grew.drew | apply Grew.drewN | (refine Grew.setCell ?_ (by simp; try omega) _) | (refine Grew.trans ?_ (by assumption)))))).rd hRl hRl).mono ?_; rintro e w13 ⟨rfl, h13⟩; have hz_w13_0 : w.heap.size < w13.heap.size := Nat.lt_of_lt_of_le (by first | (simp +arith; done) | (simp; omega) | omega) h13.le; have hb_w13_0 := fun o => h13.rules.1 w.heap.size o (by first | (simp +arith; done) | (simp; omega) | omega); have hf_w13_0 := fun o => h13.rules.2 w.heap.size o (by first | (simp +arith; done) | (simp; omega) | omega); (try simp [World.cell?_alloc_past, World.frozen?_alloc_past, Nat.lt_add_right, hz_w12_0, hb_w12_0, hf_w12_0] at hb_w13_0 hf_w13_0)
  go_wp2_with fail
  refine (markHoldingS_any ((undoF l ⟨day, it, ba, ff, tt, q⟩).1) _ _ _ _ _ (og12.grew (by (repeat (with_reducible first | exact Grew.refl _ | assumption | apply Grew.alloc | apply Grew.drew | apply Grew.drewN | (refine Grew.setCell ?_ (by simp; try omega) _) | (refine Grew.trans ?_ (by assumption)))))) (by omega) (by omega) (by omega)).mono ?_; rintro e w14 ⟨rfl, omg, hr14⟩
  have h14 : Grew w5 w14 := Grew.app (by (repeat (with_reducible first | exact Grew.refl _ | assumption | apply Grew.alloc | apply Grew.drew | apply Grew.drewN | (refine Grew.setCell ?_ (by simp; try omega) _) | (refine Grew.trans ?_ (by assumption))))) (og12.grew (by (repeat (with_reducible first | exact Grew.refl _ | assumption | apply Grew.alloc | apply Grew.drew | apply Grew.drewN | (refine Grew.setCell ?_ (by simp; try omega) _) | (refine Grew.trans ?_ (by assumption)))))) (show Grew w5 w7 by (repeat (with_reducible first | exact Grew.refl _ | assumption | apply Grew.alloc | apply Grew.drew | apply Grew.drewN | (refine Grew.setCell ?_ (by simp; try omega) _) | (refine Grew.trans ?_ (by assumption))))).le hr14; have hz_w14_0 : w.heap.size < w14.heap.size := Nat.lt_of_lt_of_le (by first | (simp +arith; done) | (simp; omega) | omega) h14.le; have hb_w14_0 := fun o => h14.rules.1 w.heap.size o (by first | (simp +arith; done) | (simp; omega) | omega); have hf_w14_0 := fun o => h14.rules.2 w.heap.size o (by first | (simp +arith; done) | (simp; omega) | omega); (try simp [World.cell?_alloc_past, World.frozen?_alloc_past, Nat.lt_add_right, hz_w5_0, hb_w5_0, hf_w5_0] at hb_w14_0 hf_w14_0)
  go_wp2_with fail
  refine (heldHoldingS_any ((undoF l ⟨day, it, ba, ff, tt, q⟩).1).length _ _ _ _ (own_up omg (by (repeat (with_reducible first | exact Grew.refl _ | assumption | apply Grew.alloc | apply Grew.drew | apply Grew.drewN | (refine Grew.setCell ?_ (by simp; try omega) _) | (refine Grew.trans ?_ (by assumption))))) (upHold_length _ _)) (by omega) (by omega) hRl).mono ?_; rintro e w15 ⟨rfl, h15⟩; have hz_w15_0 : w.heap.size < w15.heap.size := Nat.lt_of_lt_of_le (by first | (simp +arith; done) | (simp; omega) | omega) h15.le; have hb_w15_0 := fun o => h15.rules.1 w.heap.size o (by first | (simp +arith; done) | (simp; omega) | omega); have hf_w15_0 := fun o => h15.rules.2 w.heap.size o (by first | (simp +arith; done) | (simp; omega) | omega); (try simp [World.cell?_alloc_past, World.frozen?_alloc_past, Nat.lt_add_right, hz_w14_0, hb_w14_0, hf_w14_0] at hb_w15_0 hf_w15_0)
  go_wp2_with fail
  go_region_held3 (fun w' => w'.cell? ⟨w.heap.size, 0, none⟩ = some (.int .i64 day) ∧ w'.cell? ⟨w.heap.size, 1, none⟩ = some (.string it) ∧ w'.cell? ⟨w.heap.size, 2, none⟩ = some (.string ba) ∧ w'.cell? ⟨w.heap.size, 3, none⟩ = some (.string ff) ∧ w'.cell? ⟨w.heap.size, 4, none⟩ = some (.string tt) ∧ w'.cell? ⟨w.heap.size, 5, none⟩ = some (.int .i64 q)) (first | exact ⟨hb_w18_0 0, hb_w18_0 1, hb_w18_0 2, hb_w18_0 3, hb_w18_0 4, hb_w18_0 5⟩ | exact ⟨hb_w17_0 0, hb_w17_0 1, hb_w17_0 2, hb_w17_0 3, hb_w17_0 4, hb_w17_0 5⟩ | exact ⟨hb_w16_0 0, hb_w16_0 1, hb_w16_0 2, hb_w16_0 3, hb_w16_0 4, hb_w16_0 5⟩ | exact ⟨hb_w15_0 0, hb_w15_0 1, hb_w15_0 2, hb_w15_0 3, hb_w15_0 4, hb_w15_0 5⟩) ((first | (go_at_call 18; refine (toHoldingS_any l A c _ (r_l.grew (by (repeat (with_reducible first | exact Grew.refl _ | assumption | apply Grew.alloc | apply Grew.drew | apply Grew.drewN | (refine Grew.setCell ?_ (by simp; try omega) _) | (refine Grew.trans ?_ (by assumption)))))) (by omega)).mono ?_; rintro e w16 ⟨rfl, oh_l, h16⟩; have hz_w16_0 : w.heap.size < w16.heap.size := Nat.lt_of_lt_of_le (by first | (simp +arith; done) | (simp; omega) | omega) h16.le; have hb_w16_0 := fun o => h16.rules.1 w.heap.size o (by first | (simp +arith; done) | (simp; omega) | omega); have hf_w16_0 := fun o => h16.rules.2 w.heap.size o (by first | (simp +arith; done) | (simp; omega) | omega); (try simp [World.cell?_alloc_past, World.frozen?_alloc_past, Nat.lt_add_right, hz_w15_0, hb_w15_0, hf_w15_0] at hb_w16_0 hf_w16_0)) | (go_at_call 14; refine (toMove_any ⟨day, it, ba, ff, tt, q⟩ _).mono ?_; rintro e w17 ⟨rfl, h17⟩; have hz_w17_0 : w.heap.size < w17.heap.size := Nat.lt_of_lt_of_le (by first | (simp +arith; done) | (simp; omega) | omega) h17.le; have hb_w17_0 := fun o => h17.rules.1 w.heap.size o (by first | (simp +arith; done) | (simp; omega) | omega); have hf_w17_0 := fun o => h17.rules.2 w.heap.size o (by first | (simp +arith; done) | (simp; omega) | omega); (try simp [World.cell?_alloc_past, World.frozen?_alloc_past, Nat.lt_add_right, hz_w16_0, hb_w16_0, hf_w16_0] at hb_w17_0 hf_w17_0)) | (go_at_call 33; refine (undoMove_impl l _ _ ⟨day, it, ba, ff, tt, q⟩ _ (oh_l.grew (by (repeat (with_reducible first | exact Grew.refl _ | assumption | apply Grew.alloc | apply Grew.drew | apply Grew.drewN | (refine Grew.setCell ?_ (by simp; try omega) _) | (refine Grew.trans ?_ (by assumption)))))).rd k_l (by omega) ⟨trivial, w_it, w_ba, w_ff, w_tt, w_day, w_q, trivial⟩).mono ?_; rintro e w18 ⟨Ah, ch, rfl, oh, h18⟩; have hz_w18_0 : w.heap.size < w18.heap.size := Nat.lt_of_lt_of_le (by first | (simp +arith; done) | (simp; omega) | omega) h18.le; have hb_w18_0 := fun o => h18.rules.1 w.heap.size o (by first | (simp +arith; done) | (simp; omega) | omega); have hf_w18_0 := fun o => h18.rules.2 w.heap.size o (by first | (simp +arith; done) | (simp; omega) | omega); (try simp [World.cell?_alloc_past, World.frozen?_alloc_past, Nat.lt_add_right, hz_w17_0, hb_w17_0, hf_w17_0] at hb_w18_0 hf_w18_0))))
  go_wp2_with fail
  refine (eqHoldingS_any ((undoF l ⟨day, it, ba, ff, tt, q⟩).1) ((undoF l ⟨day, it, ba, ff, tt, q⟩).1) _ _ _ _ _ (oh.grew (by (repeat (with_reducible first | exact Grew.refl _ | assumption | apply Grew.alloc | apply Grew.drew | apply Grew.drewN | (refine Grew.setCell ?_ (by simp; try omega) _) | (refine Grew.trans ?_ (by assumption)))))).rd (os.grew (by (repeat (with_reducible first | exact Grew.refl _ | assumption | apply Grew.alloc | apply Grew.drew | apply Grew.drewN | (refine Grew.setCell ?_ (by simp; try omega) _) | (refine Grew.trans ?_ (by assumption)))))).rd hRl hRl).mono ?_; rintro e w19 ⟨rfl, h19⟩; have hz_w19_0 : w.heap.size < w19.heap.size := Nat.lt_of_lt_of_le (by first | (simp +arith; done) | (simp; omega) | omega) h19.le; have hb_w19_0 := fun o => h19.rules.1 w.heap.size o (by first | (simp +arith; done) | (simp; omega) | omega); have hf_w19_0 := fun o => h19.rules.2 w.heap.size o (by first | (simp +arith; done) | (simp; omega) | omega); (try simp [World.cell?_alloc_past, World.frozen?_alloc_past, Nat.lt_add_right, hz_w18_0, hb_w18_0, hf_w18_0] at hb_w19_0 hf_w19_0)
  go_wp2_with fail
  refine (heldHoldingS_any ((undoF l ⟨day, it, ba, ff, tt, q⟩).1).length _ _ _ _ (own_up omg (by (repeat (with_reducible first | exact Grew.refl _ | assumption | apply Grew.alloc | apply Grew.drew | apply Grew.drewN | (refine Grew.setCell ?_ (by simp; try omega) _) | (refine Grew.trans ?_ (by assumption))))) (upHold_length _ _)) (by omega) (by omega) hRl).mono ?_; rintro e w20 ⟨rfl, h20⟩; have hz_w20_0 : w.heap.size < w20.heap.size := Nat.lt_of_lt_of_le (by first | (simp +arith; done) | (simp; omega) | omega) h20.le; have hb_w20_0 := fun o => h20.rules.1 w.heap.size o (by first | (simp +arith; done) | (simp; omega) | omega); have hf_w20_0 := fun o => h20.rules.2 w.heap.size o (by first | (simp +arith; done) | (simp; omega) | omega); (try simp [World.cell?_alloc_past, World.frozen?_alloc_past, Nat.lt_add_right, hz_w19_0, hb_w19_0, hf_w19_0] at hb_w20_0 hf_w20_0)
  go_wp2_with fail
  go_ret
  go_light
  refine ⟨rfl, ?_⟩
  (repeat (with_reducible first | exact Grew.refl _ | assumption | apply Grew.alloc | apply Grew.drew | apply Grew.drewN | (refine Grew.setCell ?_ (by simp; try omega) _) | (refine Grew.trans ?_ (by assumption))))

set_option maxRecDepth 100000 in
theorem lifted (os : Os) (started : os.Started) (H : Type) (enc : TypeId × Value → H) :
    ReturnsInHanded {} Try.checked os 8 .any (Rows.fnExactUndoMoveSpec.pre6 enc Try.prog Try.f8 Rows.fnExactUndoMoveRow.domain false) (Rows.fnExactUndoMoveSpec.post enc Try.prog Try.f8 false true false false) := by
  refine returnsInHanded_of_change (C := Try.checked) own started (by kernel_rfl) Try.func8
    (ChangeSpec.witness6 (enc := enc) (C := Try.checked) false ⟨#[], #[.slice none 0 0, .agg #[.int .i64 0, .string ByteArray.empty, .string ByteArray.empty, .string ByteArray.empty, .string ByteArray.empty, .int .i64 0]], []⟩ 8 (by kernel_rfl) (by kernel_rfl) (by kernel_rfl) (by kernel_rfl)) ?_
  intro W base args ds gs before hval0 hW hcnd _
  have hval : ∀ (j : Nat) t v, Try.f8.params[j]? = some t → args[j]? = some v → Value.okWide Try.prog W .any base t v := hval0
  have hW' := hW
  obtain ⟨p, q, hA0, hV, rfl, hfz, hnd⟩ := hW
  have hA : DataW.TrodAll enc Try.prog W 0 (fun _ => true) true Try.f8.params.toList args.toList ds p := hA0
  rw [Try.params8] at hA hval
  obtain ⟨v0, vs0, d0, ds0, p0, q0, hargs, rfl, rfl, h0, r0⟩ := trodAll_cons hA
  obtain ⟨v1, vs1, d1, ds1, p1, q1, rfl, rfl, rfl, h1, r1⟩ := trodAll_cons r0
  obtain ⟨rfl, rfl, rfl⟩ := trodAll_nil r1
  obtain rfl : args = #[v0, v1] := by cases args; simp_all
  obtain ⟨l, A, c, rfl, r_l, q1_l, q2_l, k_l⟩ := Hold.open_ (hval 0 29 v0 rfl rfl) h0
  obtain ⟨cs1, rfl, hsz1, hfs1⟩ := open_aggN Try.underlying23 (by kernel_rfl) (by kernel_rfl) (hval 1 23 v1 rfl rfl) h1
  obtain ⟨l1⟩ := cs1
  obtain ⟨c1_0, c1_1, c1_2, c1_3, c1_4, c1_5, rfl⟩ := len6_form (l := l1) hsz1
  obtain ⟨u1_0, n1_0, y1_0, e1_0, t1_0⟩ := hfs1 0 _ rfl
  obtain ⟨day, eq1_0, _, w_day⟩ := DataW.trod_int Try.underlying3 t1_0
  obtain rfl : c1_0 = .int .i64 day := by simp at e1_0 eq1_0; rw [e1_0, eq1_0]
  obtain ⟨u1_1, n1_1, y1_1, e1_1, t1_1⟩ := hfs1 1 _ rfl
  obtain ⟨it, eq1_1, _, w_it⟩ := DataW.trod_string Try.underlying9 t1_1
  obtain rfl : c1_1 = .string it := by simp at e1_1 eq1_1; rw [e1_1, eq1_1]
  obtain ⟨u1_2, n1_2, y1_2, e1_2, t1_2⟩ := hfs1 2 _ rfl
  obtain ⟨ba, eq1_2, _, w_ba⟩ := DataW.trod_string Try.underlying9 t1_2
  obtain rfl : c1_2 = .string ba := by simp at e1_2 eq1_2; rw [e1_2, eq1_2]
  obtain ⟨u1_3, n1_3, y1_3, e1_3, t1_3⟩ := hfs1 3 _ rfl
  obtain ⟨ff, eq1_3, _, w_ff⟩ := DataW.trod_string Try.underlying9 t1_3
  obtain rfl : c1_3 = .string ff := by simp at e1_3 eq1_3; rw [e1_3, eq1_3]
  obtain ⟨u1_4, n1_4, y1_4, e1_4, t1_4⟩ := hfs1 4 _ rfl
  obtain ⟨tt, eq1_4, _, w_tt⟩ := DataW.trod_string Try.underlying9 t1_4
  obtain rfl : c1_4 = .string tt := by simp at e1_4 eq1_4; rw [e1_4, eq1_4]
  obtain ⟨u1_5, n1_5, y1_5, e1_5, t1_5⟩ := hfs1 5 _ rfl
  obtain ⟨q, eq1_5, _, w_q⟩ := DataW.trod_int Try.underlying3 t1_5
  obtain rfl : c1_5 = .int .i64 q := by simp at e1_5 eq1_5; rw [e1_5, eq1_5]
  refine (walk W l A c r_l ⟨q1_l, q2_l⟩ k_l day w_day it w_it ba w_ba ff w_ff tt w_tt q w_q).mono fun e W' ⟨he, hg⟩ => ?_
  subst he
  exact ⟨_, rfl, law_step (tb := 4) laidOut (by rw [Try.params8]; exact pars_of (by kernel_rfl)) rfl hW' rfl rfl rfl (by kernel_rfl) Try.underlying4 hg⟩

theorem over : Rows.fnExactUndoMoveRow.holds Try.pinned (OpenSpec.ofChange Rows.fnExactUndoMoveSpec) :=
  OpenClaim.holds_of_wide 8 Try.f8 rfl rfl rfl rfl rfl rfl rfl ⟨rfl, rfl, rfl, rfl, rfl⟩ rfl rfl rfl rfl rfl (by kernel_rfl) Try.func8 (by kernel_rfl)
    (of_decide_eq_true (by kernel_rfl)) (by unfold Func.isWrapper; first | (rw [if_pos (by decide +kernel)]; kernel_rfl) | (rw [if_neg (by decide +kernel)]; exact ⟨rfl, rfl⟩))
    (fun os started H enc _ => lifted os started H enc)

theorem proved : Rows.FnExactUndoMoveSaid := over
end fnExactUndoMove
namespace fnExactApplyMoves
set_option maxHeartbeats 1000000 in
theorem walk (w : World) (l : List Mv) (A : Option Addr) (c : Nat) (r_l : Rd Mv.E w A l) (q_l : l.length ≤ c ∧ c ≤ maxLen) (k_l : ∀ x ∈ l, x.Ok) :
    Calls Try.prog 9 #[.slice A l.length c] w fun e w' => e = .returned (.bool true) ∧ Grew w w' := by
  have hRl : ((amF l).1).length ≤ 4194304 := amF_le _
  have hq_l := q_l
  unfold maxLen at hq_l
  go_enter Try.func9, Try.ntmps9
  go_wp2_with fail
  refine (szMoveS_any l A c _ _ (r_l.grew (by (repeat (with_reducible first | exact Grew.refl _ | assumption | apply Grew.alloc | apply Grew.drew | apply Grew.drewN | (refine Grew.setCell ?_ (by simp; try omega) _) | (refine Grew.trans ?_ (by assumption)))))) k_l (by omega) (by omega) (by simp only [maxLen]; omega)).mono ?_; rintro e w1 ⟨r1, rfl, hle1, hr1, h1⟩
  by_cases hr0_1 : r1 < 0
  · go_wp2_with fail
    go_ret
    go_light
    refine ⟨rfl, ?_⟩
    (repeat (with_reducible first | exact Grew.refl _ | assumption | apply Grew.alloc | apply Grew.drew | apply Grew.drewN | (refine Grew.setCell ?_ (by simp; try omega) _) | (refine Grew.trans ?_ (by assumption))))
  have hn_l := hr1 (by omega)
  go_wp2_with fail
  refine (toMoveS_any l A c _ (r_l.grew (by (repeat (with_reducible first | exact Grew.refl _ | assumption | apply Grew.alloc | apply Grew.drew | apply Grew.drewN | (refine Grew.setCell ?_ (by simp; try omega) _) | (refine Grew.trans ?_ (by assumption)))))) (by omega)).mono ?_; rintro e w2 ⟨rfl, os_l, h2⟩
  go_wp2_with fail
  refine (applyMoves_spec l _ _ _ (os_l.grew (by (repeat (with_reducible first | exact Grew.refl _ | assumption | apply Grew.alloc | apply Grew.drew | apply Grew.drewN | (refine Grew.setCell ?_ (by simp; try omega) _) | (refine Grew.trans ?_ (by assumption)))))).rd k_l (by omega)).mono ?_; rintro e w3 ⟨As, cs, rfl, os, h3⟩
  go_wp2_with fail
  refine (toMoveS_any l A c _ (r_l.grew (by (repeat (with_reducible first | exact Grew.refl _ | assumption | apply Grew.alloc | apply Grew.drew | apply Grew.drewN | (refine Grew.setCell ?_ (by simp; try omega) _) | (refine Grew.trans ?_ (by assumption)))))) (by omega)).mono ?_; rintro e w4 ⟨rfl, oi_l, h4⟩
  go_wp2_with fail
  refine (applyMoves_impl l _ _ _ (oi_l.grew (by (repeat (with_reducible first | exact Grew.refl _ | assumption | apply Grew.alloc | apply Grew.drew | apply Grew.drewN | (refine Grew.setCell ?_ (by simp; try omega) _) | (refine Grew.trans ?_ (by assumption)))))).rd k_l (by omega)).mono ?_; rintro e w5 ⟨Ag, cg, rfl, og, h5⟩
  go_wp2_with fail
  refine (eqHoldingS_any ((amF l).1) ((amF l).1) _ _ _ _ _ (og.grew (by (repeat (with_reducible first | exact Grew.refl _ | assumption | apply Grew.alloc | apply Grew.drew | apply Grew.drewN | (refine Grew.setCell ?_ (by simp; try omega) _) | (refine Grew.trans ?_ (by assumption)))))).rd (os.grew (by (repeat (with_reducible first | exact Grew.refl _ | assumption | apply Grew.alloc | apply Grew.drew | apply Grew.drewN | (refine Grew.setCell ?_ (by simp; try omega) _) | (refine Grew.trans ?_ (by assumption)))))).rd hRl hRl).mono ?_; rintro e w6 ⟨rfl, h6⟩
  go_wp2_with fail
  refine (toMoveS_any l A c _ (r_l.grew (by (repeat (with_reducible first | exact Grew.refl _ | assumption | apply Grew.alloc | apply Grew.drew | apply Grew.drewN | (refine Grew.setCell ?_ (by simp; try omega) _) | (refine Grew.trans ?_ (by assumption)))))) (by omega)).mono ?_; rintro e w7 ⟨rfl, oe_l, h7⟩
  go_wp2_with fail
  refine (eqMoveS_any l l _ _ _ _ _ (oi_l.grew (by (repeat (with_reducible first | exact Grew.refl _ | assumption | apply Grew.alloc | apply Grew.drew | apply Grew.drewN | (refine Grew.setCell ?_ (by simp; try omega) _) | (refine Grew.trans ?_ (by assumption)))))).rd (oe_l.grew (by (repeat (with_reducible first | exact Grew.refl _ | assumption | apply Grew.alloc | apply Grew.drew | apply Grew.drewN | (refine Grew.setCell ?_ (by simp; try omega) _) | (refine Grew.trans ?_ (by assumption)))))).rd (by omega) (by omega)).mono ?_; rintro e w8 ⟨rfl, h8⟩
  go_wp2_with fail
  refine (markMoveS_any l _ _ _ _ _ (oi_l.grew (by (repeat (with_reducible first | exact Grew.refl _ | assumption | apply Grew.alloc | apply Grew.drew | apply Grew.drewN | (refine Grew.setCell ?_ (by simp; try omega) _) | (refine Grew.trans ?_ (by assumption)))))) (by omega) (by omega) (by omega)).mono ?_; rintro e w9 ⟨rfl, om9, hr9⟩
  have h9 : Grew w3 w9 := Grew.app (by (repeat (with_reducible first | exact Grew.refl _ | assumption | apply Grew.alloc | apply Grew.drew | apply Grew.drewN | (refine Grew.setCell ?_ (by simp; try omega) _) | (refine Grew.trans ?_ (by assumption))))) (oi_l.grew (by (repeat (with_reducible first | exact Grew.refl _ | assumption | apply Grew.alloc | apply Grew.drew | apply Grew.drewN | (refine Grew.setCell ?_ (by simp; try omega) _) | (refine Grew.trans ?_ (by assumption)))))) (show Grew w3 w3 by (repeat (with_reducible first | exact Grew.refl _ | assumption | apply Grew.alloc | apply Grew.drew | apply Grew.drewN | (refine Grew.setCell ?_ (by simp; try omega) _) | (refine Grew.trans ?_ (by assumption))))).le hr9
  have og9 := (og.grew (by (repeat (with_reducible first | exact Grew.refl _ | assumption | apply Grew.alloc | apply Grew.drew | apply Grew.drewN | (refine Grew.setCell ?_ (by simp; try omega) _) | (refine Grew.trans ?_ (by assumption)))))).kept hr9 (own_ne oi_l og (show Grew w4 w4 by (repeat (with_reducible first | exact Grew.refl _ | assumption | apply Grew.alloc | apply Grew.drew | apply Grew.drewN | (refine Grew.setCell ?_ (by simp; try omega) _) | (refine Grew.trans ?_ (by assumption))))).le)
  go_wp2_with fail
  refine (eqHoldingS_any ((amF l).1) ((amF l).1) _ _ _ _ _ (og9.grew (by (repeat (with_reducible first | exact Grew.refl _ | assumption | apply Grew.alloc | apply Grew.drew | apply Grew.drewN | (refine Grew.setCell ?_ (by simp; try omega) _) | (refine Grew.trans ?_ (by assumption)))))).rd (os.grew (by (repeat (with_reducible first | exact Grew.refl _ | assumption | apply Grew.alloc | apply Grew.drew | apply Grew.drewN | (refine Grew.setCell ?_ (by simp; try omega) _) | (refine Grew.trans ?_ (by assumption)))))).rd hRl hRl).mono ?_; rintro e w10 ⟨rfl, h10⟩
  go_wp2_with fail
  refine (markHoldingS_any ((amF l).1) _ _ _ _ _ (og9.grew (by (repeat (with_reducible first | exact Grew.refl _ | assumption | apply Grew.alloc | apply Grew.drew | apply Grew.drewN | (refine Grew.setCell ?_ (by simp; try omega) _) | (refine Grew.trans ?_ (by assumption)))))) (by omega) (by omega) (by omega)).mono ?_; rintro e w11 ⟨rfl, omg, hr11⟩
  have h11 : Grew w3 w11 := Grew.app (by (repeat (with_reducible first | exact Grew.refl _ | assumption | apply Grew.alloc | apply Grew.drew | apply Grew.drewN | (refine Grew.setCell ?_ (by simp; try omega) _) | (refine Grew.trans ?_ (by assumption))))) (og9.grew (by (repeat (with_reducible first | exact Grew.refl _ | assumption | apply Grew.alloc | apply Grew.drew | apply Grew.drewN | (refine Grew.setCell ?_ (by simp; try omega) _) | (refine Grew.trans ?_ (by assumption)))))) (show Grew w3 w4 by (repeat (with_reducible first | exact Grew.refl _ | assumption | apply Grew.alloc | apply Grew.drew | apply Grew.drewN | (refine Grew.setCell ?_ (by simp; try omega) _) | (refine Grew.trans ?_ (by assumption))))).le hr11
  go_wp2_with fail
  refine (heldHoldingS_any ((amF l).1).length _ _ _ _ (own_up omg (by (repeat (with_reducible first | exact Grew.refl _ | assumption | apply Grew.alloc | apply Grew.drew | apply Grew.drewN | (refine Grew.setCell ?_ (by simp; try omega) _) | (refine Grew.trans ?_ (by assumption))))) (upHold_length _ _)) (by omega) (by omega) hRl).mono ?_; rintro e w12 ⟨rfl, h12⟩
  go_wp2_with fail
  refine (toMoveS_any l A c _ (r_l.grew (by (repeat (with_reducible first | exact Grew.refl _ | assumption | apply Grew.alloc | apply Grew.drew | apply Grew.drewN | (refine Grew.setCell ?_ (by simp; try omega) _) | (refine Grew.trans ?_ (by assumption)))))) (by omega)).mono ?_; rintro e w13 ⟨rfl, oh_l, h13⟩
  go_wp2_with fail
  refine (applyMoves_impl l _ _ _ (oh_l.grew (by (repeat (with_reducible first | exact Grew.refl _ | assumption | apply Grew.alloc | apply Grew.drew | apply Grew.drewN | (refine Grew.setCell ?_ (by simp; try omega) _) | (refine Grew.trans ?_ (by assumption)))))).rd k_l (by omega)).mono ?_; rintro e w14 ⟨Ah, ch, rfl, oh, h14⟩
  go_wp2_with fail
  refine (eqHoldingS_any ((amF l).1) ((amF l).1) _ _ _ _ _ (oh.grew (by (repeat (with_reducible first | exact Grew.refl _ | assumption | apply Grew.alloc | apply Grew.drew | apply Grew.drewN | (refine Grew.setCell ?_ (by simp; try omega) _) | (refine Grew.trans ?_ (by assumption)))))).rd (os.grew (by (repeat (with_reducible first | exact Grew.refl _ | assumption | apply Grew.alloc | apply Grew.drew | apply Grew.drewN | (refine Grew.setCell ?_ (by simp; try omega) _) | (refine Grew.trans ?_ (by assumption)))))).rd hRl hRl).mono ?_; rintro e w15 ⟨rfl, h15⟩
  go_wp2_with fail
  refine (heldHoldingS_any ((amF l).1).length _ _ _ _ (own_up omg (by (repeat (with_reducible first | exact Grew.refl _ | assumption | apply Grew.alloc | apply Grew.drew | apply Grew.drewN | (refine Grew.setCell ?_ (by simp; try omega) _) | (refine Grew.trans ?_ (by assumption))))) (upHold_length _ _)) (by omega) (by omega) hRl).mono ?_; rintro e w16 ⟨rfl, h16⟩
  go_wp2_with fail
  go_ret
  go_light
  refine ⟨rfl, ?_⟩
  (repeat (with_reducible first | exact Grew.refl _ | assumption | apply Grew.alloc | apply Grew.drew | apply Grew.drewN | (refine Grew.setCell ?_ (by simp; try omega) _) | (refine Grew.trans ?_ (by assumption))))

set_option maxRecDepth 100000 in
theorem lifted (os : Os) (started : os.Started) (H : Type) (enc : TypeId × Value → H) :
    ReturnsInHanded {} Try.checked os 9 .any (Rows.fnExactApplyMovesSpec.pre6 enc Try.prog Try.f9 Rows.fnExactApplyMovesRow.domain false) (Rows.fnExactApplyMovesSpec.post enc Try.prog Try.f9 false true false false) := by
  refine returnsInHanded_of_change (C := Try.checked) own started (by kernel_rfl) Try.func9
    (ChangeSpec.witness6 (enc := enc) (C := Try.checked) false ⟨#[], #[.slice none 0 0], []⟩ 8 (by kernel_rfl) (by kernel_rfl) (by kernel_rfl) (by kernel_rfl)) ?_
  intro W base args ds gs before hval0 hW hcnd _
  have hval : ∀ (j : Nat) t v, Try.f9.params[j]? = some t → args[j]? = some v → Value.okWide Try.prog W .any base t v := hval0
  have hW' := hW
  obtain ⟨p, q, hA0, hV, rfl, hfz, hnd⟩ := hW
  have hA : DataW.TrodAll enc Try.prog W 0 (fun _ => true) true Try.f9.params.toList args.toList ds p := hA0
  rw [Try.params9] at hA hval
  obtain ⟨v0, vs0, d0, ds0, p0, q0, hargs, rfl, rfl, h0, r0⟩ := trodAll_cons hA
  obtain ⟨rfl, rfl, rfl⟩ := trodAll_nil r0
  obtain rfl : args = #[v0] := by cases args; simp_all
  obtain ⟨l, A, c, rfl, r_l, q1_l, q2_l, k_l⟩ := Mv.open_ (hval 0 38 v0 rfl rfl) h0
  refine (walk W l A c r_l ⟨q1_l, q2_l⟩ k_l).mono fun e W' ⟨he, hg⟩ => ?_
  subst he
  exact ⟨_, rfl, law_step (tb := 4) laidOut (by rw [Try.params9]; exact pars_of (by kernel_rfl)) rfl hW' rfl rfl rfl (by kernel_rfl) Try.underlying4 hg⟩

theorem over : Rows.fnExactApplyMovesRow.holds Try.pinned (OpenSpec.ofChange Rows.fnExactApplyMovesSpec) :=
  OpenClaim.holds_of_wide 9 Try.f9 rfl rfl rfl rfl rfl rfl rfl ⟨rfl, rfl, rfl, rfl, rfl⟩ rfl rfl rfl rfl rfl (by kernel_rfl) Try.func9 (by kernel_rfl)
    (of_decide_eq_true (by kernel_rfl)) (by unfold Func.isWrapper; first | (rw [if_pos (by decide +kernel)]; kernel_rfl) | (rw [if_neg (by decide +kernel)]; exact ⟨rfl, rfl⟩))
    (fun os started H enc _ => lifted os started H enc)

theorem proved : Rows.FnExactApplyMovesSaid := over
end fnExactApplyMoves
end Go.Proofs.Ytfbfhccgohmeiaa
