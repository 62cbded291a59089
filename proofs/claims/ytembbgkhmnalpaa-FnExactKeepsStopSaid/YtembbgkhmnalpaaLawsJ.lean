/- The exact laws on stops: the program's functions return what the reference's return. Conditions: none. -/
import Derived.Test.YtembbgkhmnalpaaStop
import Derived.Deep.RegionHeld3
namespace Go.Proofs.Ytembbgkhmnalpaa
open Go.ChangeShapes Go.WideShapes Go.ChangeAt Go.RowKit Go.Joins Go.Deep
set_option linter.unusedVariables false
set_option linter.unusedSimpArgs false

namespace fnExactKeepsStop
set_option maxHeartbeats 1000000 in
theorem walk (w : World) (l : List Slt) (A : Option Addr) (c : Nat) (r_l : Rd Slt.E w A l) (q_l : l.length ≤ c ∧ c ≤ maxLen) (k_l : ∀ x ∈ l, x.Ok) (ce : ByteArray) (w_ce : ce.size ≤ maxLen) (fr : Int) (w_fr : (Lit.int .i64 fr).wf = true) (un : Int) (w_un : (Lit.int .i64 un).wf = true) :
    Calls Try.prog 5 #[.slice A l.length c, .agg #[.string ce, .int .i64 fr, .int .i64 un]] w fun e w' => e = .returned (.bool true) ∧ Grew w w' := by
  have hq_l := q_l
  unfold maxLen at hq_l
  go_enter Try.func5, Try.ntmps5
  go_wp2_with fail
  refine (szSlotS_any l A c _ _ (r_l.grew (by (repeat (with_reducible first | exact Grew.refl _ | assumption | apply Grew.alloc | apply Grew.drew | apply Grew.drewN | (refine Grew.setCell ?_ (by simp; try omega) _) | (refine Grew.trans ?_ (by assumption)))))) k_l (by omega) (by omega) (by simp only [maxLen]; omega)).mono ?_; rintro e w1 ⟨r1, rfl, hle1, hr1, h1⟩; have hz_w1_0 : w.heap.size < w1.heap.size := Nat.lt_of_lt_of_le (by first | (simp +arith; done) | (simp; omega) | omega) h1.le; have hb_w1_0 := fun o => h1.rules.1 w.heap.size o (by first | (simp +arith; done) | (simp; omega) | omega); have hf_w1_0 := fun o => h1.rules.2 w.heap.size o (by first | (simp +arith; done) | (simp; omega) | omega); (try simp [World.cell?_alloc_past, World.frozen?_alloc_past, Nat.lt_add_right] at hb_w1_0 hf_w1_0)
  by_cases hr0_1 : r1 < 0
  · go_wp2_with fail
    go_ret
    go_light
    refine ⟨rfl, ?_⟩
    (repeat (with_reducible first | exact Grew.refl _ | assumption | apply Grew.alloc | apply Grew.drew | apply Grew.drewN | (refine Grew.setCell ?_ (by simp; try omega) _) | (refine Grew.trans ?_ (by assumption))))
  have hn_l := hr1 (by omega)
  go_wp2_with fail
  refine (szStop_any (⟨ce, fr, un⟩ : Stp) r1 _ (by omega) (by omega) w_ce).mono ?_; rintro e w2 ⟨rfl, h2⟩; have hz_w2_0 : w.heap.size < w2.heap.size := Nat.lt_of_lt_of_le (by first | (simp +arith; done) | (simp; omega) | omega) h2.le; have hb_w2_0 := fun o => h2.rules.1 w.heap.size o (by first | (simp +arith; done) | (simp; omega) | omega); have hf_w2_0 := fun o => h2.rules.2 w.heap.size o (by first | (simp +arith; done) | (simp; omega) | omega); (try simp [World.cell?_alloc_past, World.frozen?_alloc_past, Nat.lt_add_right, hz_w1_0, hb_w1_0, hf_w1_0] at hb_w2_0 hf_w2_0)
  by_cases hsz_2 : (r1 : Int) < ((⟨ce, fr, un⟩ : Stp).w : Int)
  · go_wp2_with fail
    go_ret
    go_light
    refine ⟨rfl, ?_⟩
    (repeat (with_reducible first | exact Grew.refl _ | assumption | apply Grew.alloc | apply Grew.drew | apply Grew.drewN | (refine Grew.setCell ?_ (by simp; try omega) _) | (refine Grew.trans ?_ (by assumption))))
  have hsy_2 : (0 : Int) ≤ (r1 : Int) - ((⟨ce, fr, un⟩ : Stp).w : Int) := by omega
  go_wp2_with fail
  go_region_held3 (fun w' => w'.cell? ⟨w.heap.size, 0, none⟩ = some (.string ce) ∧ w'.cell? ⟨w.heap.size, 1, none⟩ = some (.int .i64 fr) ∧ w'.cell? ⟨w.heap.size, 2, none⟩ = some (.int .i64 un)) (first | exact ⟨hb_w5_0 0, hb_w5_0 1, hb_w5_0 2⟩ | exact ⟨hb_w4_0 0, hb_w4_0 1, hb_w4_0 2⟩ | exact ⟨hb_w3_0 0, hb_w3_0 1, hb_w3_0 2⟩ | exact ⟨hb_w2_0 0, hb_w2_0 1, hb_w2_0 2⟩) ((first | (go_at_call 15; refine (toSlotS_any l A c _ (r_l.grew (by (repeat (with_reducible first | exact Grew.refl _ | assumption | apply Grew.alloc | apply Grew.drew | apply Grew.drewN | (refine Grew.setCell ?_ (by simp; try omega) _) | (refine Grew.trans ?_ (by assumption)))))) (by omega)).mono ?_; rintro e w3 ⟨rfl, os_l, h3⟩; have hz_w3_0 : w.heap.size < w3.heap.size := Nat.lt_of_lt_of_le (by first | (simp +arith; done) | (simp; omega) | omega) h3.le; have hb_w3_0 := fun o => h3.rules.1 w.heap.size o (by first | (simp +arith; done) | (simp; omega) | omega); have hf_w3_0 := fun o => h3.rules.2 w.heap.size o (by first | (simp +arith; done) | (simp; omega) | omega); (try simp [World.cell?_alloc_past, World.frozen?_alloc_past, Nat.lt_add_right, hz_w2_0, hb_w2_0, hf_w2_0] at hb_w3_0 hf_w3_0)) | (go_at_call 11; refine (toStop_any ⟨ce, fr, un⟩ _).mono ?_; rintro e w4 ⟨rfl, h4⟩; have hz_w4_0 : w.heap.size < w4.heap.size := Nat.lt_of_lt_of_le (by first | (simp +arith; done) | (simp; omega) | omega) h4.le; have hb_w4_0 := fun o => h4.rules.1 w.heap.size o (by first | (simp +arith; done) | (simp; omega) | omega); have hf_w4_0 := fun o => h4.rules.2 w.heap.size o (by first | (simp +arith; done) | (simp; omega) | omega); (try simp [World.cell?_alloc_past, World.frozen?_alloc_past, Nat.lt_add_right, hz_w3_0, hb_w3_0, hf_w3_0] at hb_w4_0 hf_w4_0)) | (go_at_call 18; refine (keepsStop_spec l _ _ ⟨ce, fr, un⟩ _ w_ce (os_l.grew (by (repeat (with_reducible first | exact Grew.refl _ | assumption | apply Grew.alloc | apply Grew.drew | apply Grew.drewN | (refine Grew.setCell ?_ (by simp; try omega) _) | (refine Grew.trans ?_ (by assumption)))))).rd (by omega)).mono ?_; rintro e w5 ⟨rfl, h5⟩; have hz_w5_0 : w.heap.size < w5.heap.size := Nat.lt_of_lt_of_le (by first | (simp +arith; done) | (simp; omega) | omega) h5.le; have hb_w5_0 := fun o => h5.rules.1 w.heap.size o (by first | (simp +arith; done) | (simp; omega) | omega); have hf_w5_0 := fun o => h5.rules.2 w.heap.size o (by first | (simp +arith; done) | (simp; omega) | omega); (try simp [World.cell?_alloc_past, World.frozen?_alloc_past, Nat.lt_add_right, hz_w4_0, hb_w4_0, hf_w4_0] at hb_w5_0 hf_w5_0))))
  go_wp2_with fail
  refine (toSlotS_any l A c _ (r_l.grew (by (repeat (with_reducible first | exact Grew.refl _ | assumption | apply Grew.alloc | apply Grew.drew | apply Grew.drewN | (refine Grew.setCell ?_ (by simp; try omega) _) | (refine Grew.trans ?_ (by assumption)))))) (by omega)).mono ?_; rintro e w6 ⟨rfl, oi_l, h6⟩; have hz_w6_0 : w.heap.size < w6.heap.size := Nat.lt_of_lt_of_le (by first | (simp +arith; done) | (simp; omega) | omega) h6.le; have hb_w6_0 := fun o => h6.rules.1 w.heap.size o (by first | (simp +arith; done) | (simp; omega) | omega); have hf_w6_0 := fun o => h6.rules.2 w.heap.size o (by first | (simp +arith; done) | (simp; omega) | omega); (try simp [World.cell?_alloc_past, World.frozen?_alloc_past, Nat.lt_add_right, hz_w5_0, hb_w5_0, hf_w5_0] at hb_w6_0 hf_w6_0)
  go_wp2_with fail
  refine (toStop_any ⟨ce, fr, un⟩ _).mono ?_; rintro e w7 ⟨rfl, h7⟩; have hz_w7_0 : w.heap.size < w7.heap.size := Nat.lt_of_lt_of_le (by first | (simp +arith; done) | (simp; omega) | omega) h7.le; have hb_w7_0 := fun o => h7.rules.1 w.heap.size o (by first | (simp +arith; done) | (simp; omega) | omega); have hf_w7_0 := fun o => h7.rules.2 w.heap.size o (by first | (simp +arith; done) | (simp; omega) | omega); (try simp [World.cell?_alloc_past, World.frozen?_alloc_past, Nat.lt_add_right, hz_w6_0, hb_w6_0, hf_w6_0] at hb_w7_0 hf_w7_0)
  go_wp2_with fail
  refine (keepsStop_impl l _ _ ⟨ce, fr, un⟩ _ w_ce (oi_l.grew (by (repeat (with_reducible first | exact Grew.refl _ | assumption | apply Grew.alloc | apply Grew.drew | apply Grew.drewN | (refine Grew.setCell ?_ (by simp; try omega) _) | (refine Grew.trans ?_ (by assumption)))))).rd (by omega)).mono ?_; rintro e w8 ⟨rfl, h8⟩; have hz_w8_0 : w.heap.size < w8.heap.size := Nat.lt_of_lt_of_le (by first | (simp +arith; done) | (simp; omega) | omega) h8.le; have hb_w8_0 := fun o => h8.rules.1 w.heap.size o (by first | (simp +arith; done) | (simp; omega) | omega); have hf_w8_0 := fun o => h8.rules.2 w.heap.size o (by first | (simp +arith; done) | (simp; omega) | omega); (try simp [World.cell?_alloc_past, World.frozen?_alloc_past, Nat.lt_add_right, hz_w7_0, hb_w7_0, hf_w7_0] at hb_w8_0 hf_w8_0)
  go_wp2_with fail
  refine (toSlotS_any l A c _ (r_l.grew (by (repeat (with_reducible first | exact Grew.refl _ | assumption | apply Grew.alloc | apply Grew.drew | apply Grew.drewN | (refine Grew.setCell ?_ (by simp; try omega) _) | (refine Grew.trans ?_ (by assumption)))))) (by omega)).mono ?_; rintro e w9 ⟨rfl, oe_l, h9⟩; have hz_w9_0 : w.heap.size < w9.heap.size := Nat.lt_of_lt_of_le (by first | (simp +arith; done) | (simp; omega) | omega) h9.le; have hb_w9_0 := fun o => h9.rules.1 w.heap.size o (by first | (simp +arith; done) | (simp; omega) | omega); have hf_w9_0 := fun o => h9.rules.2 w.heap.size o (by first | (simp +arith; done) | (simp; omega) | omega); (try simp [World.cell?_alloc_past, World.frozen?_alloc_past, Nat.lt_add_right, hz_w8_0, hb_w8_0, hf_w8_0] at hb_w9_0 hf_w9_0)
  go_wp2_with fail
  refine (eqSlotS_any l l _ _ _ _ _ (oi_l.grew (by (repeat (with_reducible first | exact Grew.refl _ | assumption | apply Grew.alloc | apply Grew.drew | apply Grew.drewN | (refine Grew.setCell ?_ (by simp; try omega) _) | (refine Grew.trans ?_ (by assumption)))))).rd (oe_l.grew (by (repeat (with_reducible first | exact Grew.refl _ | assumption | apply Grew.alloc | apply Grew.drew | apply Grew.drewN | (refine Grew.setCell ?_ (by simp; try omega) _) | (refine Grew.trans ?_ (by assumption)))))).rd (by omega) (by omega)).mono ?_; rintro e w10 ⟨rfl, h10⟩; have hz_w10_0 : w.heap.size < w10.heap.size := Nat.lt_of_lt_of_le (by first | (simp +arith; done) | (simp; omega) | omega) h10.le; have hb_w10_0 := fun o => h10.rules.1 w.heap.size o (by first | (simp +arith; done) | (simp; omega) | omega); have hf_w10_0 := fun o => h10.rules.2 w.heap.size o (by first | (simp +arith; done) | (simp; omega) | omega); (try simp [World.cell?_alloc_past, World.frozen?_alloc_past, Nat.lt_add_right, hz_w9_0, hb_w9_0, hf_w9_0] at hb_w10_0 hf_w10_0)
  go_wp2_with fail
  go_ret
  go_light
  refine ⟨rfl, ?_⟩
  (repeat (with_reducible first | exact Grew.refl _ | assumption | apply Grew.alloc | apply Grew.drew | apply Grew.drewN | (refine Grew.setCell ?_ (by simp; try omega) _) | (refine Grew.trans ?_ (by assumption))))

set_option maxRecDepth 100000 in
theorem lifted (os : Os) (started : os.Started) (H : Type) (enc : TypeId × Value → H) :
    ReturnsInHanded {} Try.checked os 5 .any (Rows.fnExactKeepsStopSpec.pre6 enc Try.prog Try.f5 Rows.fnExactKeepsStopRow.domain false) (Rows.fnExactKeepsStopSpec.post enc Try.prog Try.f5 false true false false) := by
  refine returnsInHanded_of_change (C := Try.checked) own started (by kernel_rfl) Try.func5
    (ChangeSpec.witness6 (enc := enc) (C := Try.checked) false ⟨#[], #[.slice none 0 0, .agg #[.string ByteArray.empty, .int .i64 0, .int .i64 0]], []⟩ 8 (by kernel_rfl) (by kernel_rfl) (by kernel_rfl) (by kernel_rfl)) ?_
  intro W base args ds gs before hval0 hW hcnd _
  have hval : ∀ (j : Nat) t v, Try.f5.params[j]? = some t → args[j]? = some v → Value.okWide Try.prog W .any base t v := hval0
  have hW' := hW
  obtain ⟨p, q, hA0, hV, rfl, hfz, hnd⟩ := hW
  have hA : DataW.TrodAll enc Try.prog W 0 (fun _ => true) true Try.f5.params.toList args.toList ds p := hA0
  rw [Try.params5] at hA hval
  obtain ⟨v0, vs0, d0, ds0, p0, q0, hargs, rfl, rfl, h0, r0⟩ := trodAll_cons hA
  obtain ⟨v1, vs1, d1, ds1, p1, q1, rfl, rfl, rfl, h1, r1⟩ := trodAll_cons r0
  obtain ⟨rfl, rfl, rfl⟩ := trodAll_nil r1
  obtain rfl : args = #[v0, v1] := by cases args; simp_all
  obtain ⟨l, A, c, rfl, r_l, q1_l, q2_l, k_l⟩ := Slt.open_ (hval 0 29 v0 rfl rfl) h0
  obtain ⟨cs1, rfl, hsz1, hfs1⟩ := open_aggN Try.underlying23 (by kernel_rfl) (by kernel_rfl) (hval 1 23 v1 rfl rfl) h1
  obtain ⟨l1⟩ := cs1
  obtain ⟨c1_0, c1_1, c1_2, rfl⟩ := len3_form (l := l1) hsz1
  obtain ⟨u1_0, n1_0, y1_0, e1_0, t1_0⟩ := hfs1 0 _ rfl
  obtain ⟨ce, eq1_0, _, w_ce⟩ := DataW.trod_string Try.underlying9 t1_0
  obtain rfl : c1_0 = .string ce := by simp at e1_0 eq1_0; rw [e1_0, eq1_0]
  obtain ⟨u1_1, n1_1, y1_1, e1_1, t1_1⟩ := hfs1 1 _ rfl
  obtain ⟨fr, eq1_1, _, w_fr⟩ := DataW.trod_int Try.underlying3 t1_1
  obtain rfl : c1_1 = .int .i64 fr := by simp at e1_1 eq1_1; rw [e1_1, eq1_1]
  obtain ⟨u1_2, n1_2, y1_2, e1_2, t1_2⟩ := hfs1 2 _ rfl
  obtain ⟨un, eq1_2, _, w_un⟩ := DataW.trod_int Try.underlying3 t1_2
  obtain rfl : c1_2 = .int .i64 un := by simp at e1_2 eq1_2; rw [e1_2, eq1_2]
  refine (walk W l A c r_l ⟨q1_l, q2_l⟩ k_l ce w_ce fr w_fr un w_un).mono fun e W' ⟨he, hg⟩ => ?_
  subst he
  exact ⟨_, rfl, law_step (tb := 4) laidOut (by rw [Try.params5]; exact pars_of (by kernel_rfl)) rfl hW' rfl rfl rfl (by kernel_rfl) Try.underlying4 hg⟩

theorem over : Rows.fnExactKeepsStopRow.holds Try.pinned (OpenSpec.ofChange Rows.fnExactKeepsStopSpec) :=
  OpenClaim.holds_of_wide 5 Try.f5 rfl rfl rfl rfl rfl rfl rfl ⟨rfl, rfl, rfl, rfl, rfl⟩ rfl rfl rfl rfl rfl (by kernel_rfl) Try.func5 (by kernel_rfl)
    (of_decide_eq_true (by kernel_rfl)) (by unfold Func.isWrapper; first | (rw [if_pos (by decide +kernel)]; kernel_rfl) | (rw [if_neg (by decide +kernel)]; exact ⟨rfl, rfl⟩))
    (fun os started H enc _ => lifted os started H enc)

theorem proved : Rows.FnExactKeepsStopSaid := over
end fnExactKeepsStop
end Go.Proofs.Ytembbgkhmnalpaa
