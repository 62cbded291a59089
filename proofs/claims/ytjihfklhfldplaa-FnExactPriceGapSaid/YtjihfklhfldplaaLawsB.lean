/- The exact laws on purchases: the program's functions return what the reference's return. Conditions: none. -/
import Derived.Test.YtjihfklhfldplaaPurC
import Derived.Test.YtjihfklhfldplaaLift
namespace Go.Proofs.Ytjihfklhfldplaa
open Go.ChangeShapes Go.WideShapes Go.ChangeAt Go.RowKit Go.Joins Go.Deep
set_option linter.unusedVariables false
set_option linter.unusedSimpArgs false

namespace fnExactPriceGap
set_option maxHeartbeats 1000000 in
theorem walk (w : World) (q : Int) (w_q : (Lit.int .i64 q).wf = true) (p : Int) (w_p : (Lit.int .i64 p).wf = true) (t : Int) (w_t : (Lit.int .i64 t).wf = true) (r : Int) (w_r : (Lit.int .i64 r).wf = true) (i : Int) (w_i : (Lit.int .i64 i).wf = true) (d : Int) (w_d : (Lit.int .i64 d).wf = true) (c : Bool) :
    Calls Try.prog 4 #[.agg #[.int .i64 q, .int .i64 p, .int .i64 t, .int .i64 r, .int .i64 i, .int .i64 d, .bool c]] w fun e w' => e = .returned (.bool true) ∧ Grew w w' := by
  go_enter Try.func4, Try.ntmps4
  go_wp2_with fail
  refine (toPurchase_any _ _ _ _ _ _ _ _).mono ?_; rintro e w1 ⟨rfl, h1⟩; have hz_w1_0 : w.heap.size < w1.heap.size := Nat.lt_of_lt_of_le (by first | (simp +arith; done) | (simp; omega) | omega) h1.le; have hb_w1_0 := fun o => h1.rules.1 w.heap.size o (by first | (simp +arith; done) | (simp; omega) | omega); have hf_w1_0 := fun o => h1.rules.2 w.heap.size o (by first | (simp +arith; done) | (simp; omega) | omega); (try simp [World.cell?_alloc_past, World.frozen?_alloc_past, Nat.lt_add_right] at hb_w1_0 hf_w1_0)
  go_wp2_with fail
  refine (priceGap_spec _ _ _ _ _ _ _ _).mono ?_; rintro e w2 ⟨rfl, h2⟩; have hz_w2_0 : w.heap.size < w2.heap.size := Nat.lt_of_lt_of_le (by first | (simp +arith; done) | (simp; omega) | omega) h2.le; have hb_w2_0 := fun o => h2.rules.1 w.heap.size o (by first | (simp +arith; done) | (simp; omega) | omega); have hf_w2_0 := fun o => h2.rules.2 w.heap.size o (by first | (simp +arith; done) | (simp; omega) | omega); (try simp [World.cell?_alloc_past, World.frozen?_alloc_past, Nat.lt_add_right, hz_w1_0, hb_w1_0, hf_w1_0] at hb_w2_0 hf_w2_0)
  go_wp2_with fail
  refine (toPurchase_any _ _ _ _ _ _ _ _).mono ?_; rintro e w3 ⟨rfl, h3⟩; have hz_w3_0 : w.heap.size < w3.heap.size := Nat.lt_of_lt_of_le (by first | (simp +arith; done) | (simp; omega) | omega) h3.le; have hb_w3_0 := fun o => h3.rules.1 w.heap.size o (by first | (simp +arith; done) | (simp; omega) | omega); have hf_w3_0 := fun o => h3.rules.2 w.heap.size o (by first | (simp +arith; done) | (simp; omega) | omega); (try simp [World.cell?_alloc_past, World.frozen?_alloc_past, Nat.lt_add_right, hz_w2_0, hb_w2_0, hf_w2_0] at hb_w3_0 hf_w3_0)
  go_wp2_with fail
  refine (priceGap_impl _ _ _ _ _ _ _ _).mono ?_; rintro e w4 ⟨rfl, h4⟩
  go_wp2_with fail
  go_ret
  go_light
  refine ⟨rfl, ?_⟩
  (repeat (with_reducible first | exact Grew.refl _ | assumption | apply Grew.alloc | apply Grew.drew | apply Grew.drewN | (refine Grew.setCell ?_ (by simp; try omega) _) | (refine Grew.trans ?_ (by assumption))))

set_option maxRecDepth 100000 in
theorem lifted (os : Os) (started : os.Started) (H : Type) (enc : TypeId × Value → H) :
    ReturnsInHanded {} Try.checked os 4 .any (Rows.fnExactPriceGapSpec.pre6 enc Try.prog Try.f4 Rows.fnExactPriceGapRow.domain false) (Rows.fnExactPriceGapSpec.post enc Try.prog Try.f4 false true false false) := by
  refine returnsInHanded_of_change (C := Try.checked) own started (by kernel_rfl) Try.func4
    (ChangeSpec.witness6 (enc := enc) (C := Try.checked) false ⟨#[], #[.agg #[.int .i64 0, .int .i64 0, .int .i64 0, .int .i64 0, .int .i64 0, .int .i64 0, .bool false]], []⟩ 8 (by kernel_rfl) (by kernel_rfl) (by kernel_rfl) (by kernel_rfl)) ?_
  intro W base args ds gs before hval0 hW hcnd _
  have hval : ∀ (j : Nat) t v, Try.f4.params[j]? = some t → args[j]? = some v → Value.okWide Try.prog W .any base t v := hval0
  have hW' := hW
  obtain ⟨p, q, hA0, hV, rfl, hfz, hnd⟩ := hW
  have hA : DataW.TrodAll enc Try.prog W 0 (fun _ => true) true Try.f4.params.toList args.toList ds p := hA0
  rw [Try.params4] at hA hval
  obtain ⟨v0, vs0, d0, ds0, p0, q0, hargs, rfl, rfl, h0, r0⟩ := trodAll_cons hA
  obtain ⟨rfl, rfl, rfl⟩ := trodAll_nil r0
  obtain rfl : args = #[v0] := by cases args; simp_all
  obtain ⟨cs0, rfl, hsz0, hfs0⟩ := open_aggN Try.underlying23 (by kernel_rfl) (by kernel_rfl) (hval 0 23 v0 rfl rfl) h0
  obtain ⟨l0⟩ := cs0
  obtain ⟨c0_0, c0_1, c0_2, c0_3, c0_4, c0_5, c0_6, rfl⟩ := len7_form (l := l0) hsz0
  obtain ⟨u0_0, n0_0, y0_0, e0_0, t0_0⟩ := hfs0 0 _ rfl
  obtain ⟨q, eq0_0, _, w_q⟩ := DataW.trod_int Try.underlying3 t0_0
  obtain rfl : c0_0 = .int .i64 q := by simp at e0_0 eq0_0; rw [e0_0, eq0_0]
  obtain ⟨u0_1, n0_1, y0_1, e0_1, t0_1⟩ := hfs0 1 _ rfl
  obtain ⟨p, eq0_1, _, w_p⟩ := DataW.trod_int Try.underlying3 t0_1
  obtain rfl : c0_1 = .int .i64 p := by simp at e0_1 eq0_1; rw [e0_1, eq0_1]
  obtain ⟨u0_2, n0_2, y0_2, e0_2, t0_2⟩ := hfs0 2 _ rfl
  obtain ⟨t, eq0_2, _, w_t⟩ := DataW.trod_int Try.underlying3 t0_2
  obtain rfl : c0_2 = .int .i64 t := by simp at e0_2 eq0_2; rw [e0_2, eq0_2]
  obtain ⟨u0_3, n0_3, y0_3, e0_3, t0_3⟩ := hfs0 3 _ rfl
  obtain ⟨r, eq0_3, _, w_r⟩ := DataW.trod_int Try.underlying3 t0_3
  obtain rfl : c0_3 = .int .i64 r := by simp at e0_3 eq0_3; rw [e0_3, eq0_3]
  obtain ⟨u0_4, n0_4, y0_4, e0_4, t0_4⟩ := hfs0 4 _ rfl
  obtain ⟨i, eq0_4, _, w_i⟩ := DataW.trod_int Try.underlying3 t0_4
  obtain rfl : c0_4 = .int .i64 i := by simp at e0_4 eq0_4; rw [e0_4, eq0_4]
  obtain ⟨u0_5, n0_5, y0_5, e0_5, t0_5⟩ := hfs0 5 _ rfl
  obtain ⟨d, eq0_5, _, w_d⟩ := DataW.trod_int Try.underlying3 t0_5
  obtain rfl : c0_5 = .int .i64 d := by simp at e0_5 eq0_5; rw [e0_5, eq0_5]
  obtain ⟨u0_6, n0_6, y0_6, e0_6, t0_6⟩ := hfs0 6 _ rfl
  obtain ⟨c, eq0_6, _⟩ := DataW.trod_bool Try.underlying4 t0_6
  obtain rfl : c0_6 = .bool c := by simp at e0_6 eq0_6; rw [e0_6, eq0_6]
  refine (walk W q w_q p w_p t w_t r w_r i w_i d w_d c).mono fun e W' ⟨he, hg⟩ => ?_
  subst he
  exact ⟨_, rfl, law_step (tb := 4) laidOut (by rw [Try.params4]; exact pars_of (by kernel_rfl)) rfl hW' rfl rfl rfl (by kernel_rfl) Try.underlying4 hg⟩

theorem over : Rows.fnExactPriceGapRow.holds Try.pinned (OpenSpec.ofChange Rows.fnExactPriceGapSpec) :=
  OpenClaim.holds_of_wide 4 Try.f4 rfl rfl rfl rfl rfl rfl rfl ⟨rfl, rfl, rfl, rfl, rfl⟩ rfl rfl rfl rfl rfl (by kernel_rfl) Try.func4 (by kernel_rfl)
    (of_decide_eq_true (by kernel_rfl)) (by unfold Func.isWrapper; first | (rw [if_pos (by decide +kernel)]; kernel_rfl) | (rw [if_neg (by decide +kernel)]; exact ⟨rfl, rfl⟩))
    (fun os started H enc _ => lifted os started H enc)

theorem proved : Rows.FnExactPriceGapSaid := over
end fnExactPriceGap

namespace fnExactOrderGoods
set_option maxHeartbeats 1000000 in
theorem walk (w : World) (q : Int) (w_q : (Lit.int .i64 q).wf = true) (p : Int) (w_p : (Lit.int .i64 p).wf = true) (t : Int) (w_t : (Lit.int .i64 t).wf = true) :
    Calls Try.prog 5 #[.int .i64 q, .int .i64 p, .int .i64 t] w fun e w' => e = .returned (.bool true) ∧ Grew w w' := by
  go_enter Try.func5, Try.ntmps5
  cases hp : purB q p t 0 0 0
  all_goals
    go_wp2_with fail
    refine (order_spec _ _ _ _).mono ?_; rintro e w1 ⟨rfl, h1⟩
    go_wp2_with fail
    refine (order_impl _ _ _ _).mono ?_; rintro e w2 ⟨rfl, h2⟩; have hz_w2_a0 : w1.heap.size < w2.heap.size := Nat.lt_of_lt_of_le (by first | (simp +arith; done) | (simp; omega) | omega) h2.le; have hb_w2_a0 := fun o => h2.rules.1 w1.heap.size o (by first | (simp +arith; done) | (simp; omega) | omega); have hf_w2_a0 := fun o => h2.rules.2 w1.heap.size o (by first | (simp +arith; done) | (simp; omega) | omega); (try simp [World.cell?_alloc_past, World.frozen?_alloc_past, Nat.lt_add_right] at hb_w2_a0 hf_w2_a0)
    go_wp2_with fail
    refine (eqPurchase_any _ _ _ _ _ _ _ _ _ _ _ _ _ _ _).mono ?_; rintro e w3 ⟨rfl, h3⟩
    go_wp2_with fail
    go_ret
    go_light
    refine ⟨rfl, ?_⟩
    (repeat (with_reducible first | exact Grew.refl _ | assumption | apply Grew.alloc | apply Grew.drew | apply Grew.drewN | (refine Grew.setCell ?_ (by simp; try omega) _) | (refine Grew.trans ?_ (by assumption))))

set_option maxRecDepth 100000 in
theorem lifted (os : Os) (started : os.Started) (H : Type) (enc : TypeId × Value → H) :
    ReturnsInHanded {} Try.checked os 5 .any (Rows.fnExactOrderGoodsSpec.pre6 enc Try.prog Try.f5 Rows.fnExactOrderGoodsRow.domain false) (Rows.fnExactOrderGoodsSpec.post enc Try.prog Try.f5 false true false false) := by
  refine returnsInHanded_of_change (C := Try.checked) own started (by kernel_rfl) Try.func5
    (ChangeSpec.witness6 (enc := enc) (C := Try.checked) false ⟨#[], #[.int .i64 0, .int .i64 0, .int .i64 0], []⟩ 8 (by kernel_rfl) (by kernel_rfl) (by kernel_rfl) (by kernel_rfl)) ?_
  intro W base args ds gs before hval0 hW hcnd _
  have hval : ∀ (j : Nat) t v, Try.f5.params[j]? = some t → args[j]? = some v → Value.okWide Try.prog W .any base t v := hval0
  have hW' := hW
  obtain ⟨p, q, hA0, hV, rfl, hfz, hnd⟩ := hW
  have hA : DataW.TrodAll enc Try.prog W 0 (fun _ => true) true Try.f5.params.toList args.toList ds p := hA0
  rw [Try.params5] at hA hval
  obtain ⟨v0, vs0, d0, ds0, p0, q0, hargs, rfl, rfl, h0, r0⟩ := trodAll_cons hA
  obtain ⟨v1, vs1, d1, ds1, p1, q1, rfl, rfl, rfl, h1, r1⟩ := trodAll_cons r0
  obtain ⟨v2, vs2, d2, ds2, p2, q2, rfl, rfl, rfl, h2, r2⟩ := trodAll_cons r1
  obtain ⟨rfl, rfl, rfl⟩ := trodAll_nil r2
  obtain rfl : args = #[v0, v1, v2] := by cases args; simp_all
  obtain ⟨q, rfl, _, _, w_q⟩ := open_int Try.underlying3 (hval 0 3 v0 rfl rfl) h0
  obtain ⟨p, rfl, _, _, w_p⟩ := open_int Try.underlying3 (hval 1 3 v1 rfl rfl) h1
  obtain ⟨t, rfl, _, _, w_t⟩ := open_int Try.underlying3 (hval 2 3 v2 rfl rfl) h2
  refine (walk W q w_q p w_p t w_t).mono fun e W' ⟨he, hg⟩ => ?_
  subst he
  exact ⟨_, rfl, law_step (tb := 4) laidOut (by rw [Try.params5]; exact pars_of (by kernel_rfl)) rfl hW' rfl rfl rfl (by kernel_rfl) Try.underlying4 hg⟩

theorem over : Rows.fnExactOrderGoodsRow.holds Try.pinned (OpenSpec.ofChange Rows.fnExactOrderGoodsSpec) :=
  OpenClaim.holds_of_wide 5 Try.f5 rfl rfl rfl rfl rfl rfl rfl ⟨rfl, rfl, rfl, rfl, rfl⟩ rfl rfl rfl rfl rfl (by kernel_rfl) Try.func5 (by kernel_rfl)
    (of_decide_eq_true (by kernel_rfl)) (by unfold Func.isWrapper; first | (rw [if_pos (by decide +kernel)]; kernel_rfl) | (rw [if_neg (by decide +kernel)]; exact ⟨rfl, rfl⟩))
    (fun os started H enc _ => lifted os started H enc)

theorem proved : Rows.FnExactOrderGoodsSaid := over
end fnExactOrderGoods

namespace fnExactClosePurchase
set_option maxHeartbeats 1000000 in
theorem walk (w : World) (q : Int) (w_q : (Lit.int .i64 q).wf = true) (p : Int) (w_p : (Lit.int .i64 p).wf = true) (t : Int) (w_t : (Lit.int .i64 t).wf = true) (r : Int) (w_r : (Lit.int .i64 r).wf = true) (i : Int) (w_i : (Lit.int .i64 i).wf = true) (d : Int) (w_d : (Lit.int .i64 d).wf = true) (c : Bool) :
    Calls Try.prog 6 #[.agg #[.int .i64 q, .int .i64 p, .int .i64 t, .int .i64 r, .int .i64 i, .int .i64 d, .bool c]] w fun e w' => e = .returned (.bool true) ∧ Grew w w' := by
  go_enter Try.func6, Try.ntmps6
  go_wp2_with fail
  refine (toPurchase_any _ _ _ _ _ _ _ _).mono ?_; rintro e w1 ⟨rfl, h1⟩; have hz_w1_0 : w.heap.size < w1.heap.size := Nat.lt_of_lt_of_le (by first | (simp +arith; done) | (simp; omega) | omega) h1.le; have hb_w1_0 := fun o => h1.rules.1 w.heap.size o (by first | (simp +arith; done) | (simp; omega) | omega); have hf_w1_0 := fun o => h1.rules.2 w.heap.size o (by first | (simp +arith; done) | (simp; omega) | omega); (try simp [World.cell?_alloc_past, World.frozen?_alloc_past, Nat.lt_add_right] at hb_w1_0 hf_w1_0)
  go_wp2_with fail
  refine (close_spec _ _ _ _ _ _ _ _).mono ?_; rintro e w2 ⟨rfl, h2⟩; have hz_w2_0 : w.heap.size < w2.heap.size := Nat.lt_of_lt_of_le (by first | (simp +arith; done) | (simp; omega) | omega) h2.le; have hb_w2_0 := fun o => h2.rules.1 w.heap.size o (by first | (simp +arith; done) | (simp; omega) | omega); have hf_w2_0 := fun o => h2.rules.2 w.heap.size o (by first | (simp +arith; done) | (simp; omega) | omega); (try simp [World.cell?_alloc_past, World.frozen?_alloc_past, Nat.lt_add_right, hz_w1_0, hb_w1_0, hf_w1_0] at hb_w2_0 hf_w2_0)
  go_wp2_with fail
  refine (toPurchase_any _ _ _ _ _ _ _ _).mono ?_; rintro e w3 ⟨rfl, h3⟩; have hz_w3_0 : w.heap.size < w3.heap.size := Nat.lt_of_lt_of_le (by first | (simp +arith; done) | (simp; omega) | omega) h3.le; have hb_w3_0 := fun o => h3.rules.1 w.heap.size o (by first | (simp +arith; done) | (simp; omega) | omega); have hf_w3_0 := fun o => h3.rules.2 w.heap.size o (by first | (simp +arith; done) | (simp; omega) | omega); (try simp [World.cell?_alloc_past, World.frozen?_alloc_past, Nat.lt_add_right, hz_w2_0, hb_w2_0, hf_w2_0] at hb_w3_0 hf_w3_0); have hz_w3_a0 : w2.heap.size < w3.heap.size := Nat.lt_of_lt_of_le (by first | (simp +arith; done) | (simp; omega) | omega) h3.le; have hb_w3_a0 := fun o => h3.rules.1 w2.heap.size o (by first | (simp +arith; done) | (simp; omega) | omega); have hf_w3_a0 := fun o => h3.rules.2 w2.heap.size o (by first | (simp +arith; done) | (simp; omega) | omega); (try simp [World.cell?_alloc_past, World.frozen?_alloc_past, Nat.lt_add_right] at hb_w3_a0 hf_w3_a0)
  go_wp2_with fail
  refine (close_impl _ _ _ _ _ _ _ _).mono ?_; rintro e w4 ⟨rfl, h4⟩; have hz_w4_a0 : w2.heap.size < w4.heap.size := Nat.lt_of_lt_of_le (by first | (simp +arith; done) | (simp; omega) | omega) h4.le; have hb_w4_a0 := fun o => h4.rules.1 w2.heap.size o (by first | (simp +arith; done) | (simp; omega) | omega); have hf_w4_a0 := fun o => h4.rules.2 w2.heap.size o (by first | (simp +arith; done) | (simp; omega) | omega); (try simp [World.cell?_alloc_past, World.frozen?_alloc_past, Nat.lt_add_right, hz_w3_a0, hb_w3_a0, hf_w3_a0] at hb_w4_a0 hf_w4_a0)
  go_wp2_with fail
  refine (eqPurchase_any _ _ _ _ _ _ _ _ _ _ _ _ _ _ _).mono ?_; rintro e w5 ⟨rfl, h5⟩
  go_wp2_with fail
  go_ret
  go_light
  refine ⟨rfl, ?_⟩
  (repeat (with_reducible first | exact Grew.refl _ | assumption | apply Grew.alloc | apply Grew.drew | apply Grew.drewN | (refine Grew.setCell ?_ (by simp; try omega) _) | (refine Grew.trans ?_ (by assumption))))

set_option maxRecDepth 100000 in
theorem lifted (os : Os) (started : os.Started) (H : Type) (enc : TypeId × Value → H) :
    ReturnsInHanded {} Try.checked os 6 .any (Rows.fnExactClosePurchaseSpec.pre6 enc Try.prog Try.f6 Rows.fnExactClosePurchaseRow.domain false) (Rows.fnExactClosePurchaseSpec.post enc Try.prog Try.f6 false true false false) := by
  refine returnsInHanded_of_change (C := Try.checked) own started (by kernel_rfl) Try.func6
    (ChangeSpec.witness6 (enc := enc) (C := Try.checked) false ⟨#[], #[.agg #[.int .i64 0, .int .i64 0, .int .i64 0, .int .i64 0, .int .i64 0, .int .i64 0, .bool false]], []⟩ 8 (by kernel_rfl) (by kernel_rfl) (by kernel_rfl) (by kernel_rfl)) ?_
  intro W base args ds gs before hval0 hW hcnd _
  have hval : ∀ (j : Nat) t v, Try.f6.params[j]? = some t → args[j]? = some v → Value.okWide Try.prog W .any base t v := hval0
  have hW' := hW
  obtain ⟨p, q, hA0, hV, rfl, hfz, hnd⟩ := hW
  have hA : DataW.TrodAll enc Try.prog W 0 (fun _ => true) true Try.f6.params.toList args.toList ds p := hA0
  rw [Try.params6] at hA hval
  obtain ⟨v0, vs0, d0, ds0, p0, q0, hargs, rfl, rfl, h0, r0⟩ := trodAll_cons hA
  obtain ⟨rfl, rfl, rfl⟩ := trodAll_nil r0
  obtain rfl : args = #[v0] := by cases args; simp_all
  obtain ⟨cs0, rfl, hsz0, hfs0⟩ := open_aggN Try.underlying23 (by kernel_rfl) (by kernel_rfl) (hval 0 23 v0 rfl rfl) h0
  obtain ⟨l0⟩ := cs0
  obtain ⟨c0_0, c0_1, c0_2, c0_3, c0_4, c0_5, c0_6, rfl⟩ := len7_form (l := l0) hsz0
  obtain ⟨u0_0, n0_0, y0_0, e0_0, t0_0⟩ := hfs0 0 _ rfl
  obtain ⟨q, eq0_0, _, w_q⟩ := DataW.trod_int Try.underlying3 t0_0
  obtain rfl : c0_0 = .int .i64 q := by simp at e0_0 eq0_0; rw [e0_0, eq0_0]
  obtain ⟨u0_1, n0_1, y0_1, e0_1, t0_1⟩ := hfs0 1 _ rfl
  obtain ⟨p, eq0_1, _, w_p⟩ := DataW.trod_int Try.underlying3 t0_1
  obtain rfl : c0_1 = .int .i64 p := by simp at e0_1 eq0_1; rw [e0_1, eq0_1]
  obtain ⟨u0_2, n0_2, y0_2, e0_2, t0_2⟩ := hfs0 2 _ rfl
  obtain ⟨t, eq0_2, _, w_t⟩ := DataW.trod_int Try.underlying3 t0_2
  obtain rfl : c0_2 = .int .i64 t := by simp at e0_2 eq0_2; rw [e0_2, eq0_2]
  obtain ⟨u0_3, n0_3, y0_3, e0_3, t0_3⟩ := hfs0 3 _ rfl
  obtain ⟨r, eq0_3, _, w_r⟩ := DataW.trod_int Try.underlying3 t0_3
  obtain rfl : c0_3 = .int .i64 r := by simp at e0_3 eq0_3; rw [e0_3, eq0_3]
  obtain ⟨u0_4, n0_4, y0_4, e0_4, t0_4⟩ := hfs0 4 _ rfl
  obtain ⟨i, eq0_4, _, w_i⟩ := DataW.trod_int Try.underlying3 t0_4
  obtain rfl : c0_4 = .int .i64 i := by simp at e0_4 eq0_4; rw [e0_4, eq0_4]
  obtain ⟨u0_5, n0_5, y0_5, e0_5, t0_5⟩ := hfs0 5 _ rfl
  obtain ⟨d, eq0_5, _, w_d⟩ := DataW.trod_int Try.underlying3 t0_5
  obtain rfl : c0_5 = .int .i64 d := by simp at e0_5 eq0_5; rw [e0_5, eq0_5]
  obtain ⟨u0_6, n0_6, y0_6, e0_6, t0_6⟩ := hfs0 6 _ rfl
  obtain ⟨c, eq0_6, _⟩ := DataW.trod_bool Try.underlying4 t0_6
  obtain rfl : c0_6 = .bool c := by simp at e0_6 eq0_6; rw [e0_6, eq0_6]
  refine (walk W q w_q p w_p t w_t r w_r i w_i d w_d c).mono fun e W' ⟨he, hg⟩ => ?_
  subst he
  exact ⟨_, rfl, law_step (tb := 4) laidOut (by rw [Try.params6]; exact pars_of (by kernel_rfl)) rfl hW' rfl rfl rfl (by kernel_rfl) Try.underlying4 hg⟩

theorem over : Rows.fnExactClosePurchaseRow.holds Try.pinned (OpenSpec.ofChange Rows.fnExactClosePurchaseSpec) :=
  OpenClaim.holds_of_wide 6 Try.f6 rfl rfl rfl rfl rfl rfl rfl ⟨rfl, rfl, rfl, rfl, rfl⟩ rfl rfl rfl rfl rfl (by kernel_rfl) Try.func6 (by kernel_rfl)
    (of_decide_eq_true (by kernel_rfl)) (by unfold Func.isWrapper; first | (rw [if_pos (by decide +kernel)]; kernel_rfl) | (rw [if_neg (by decide +kernel)]; exact ⟨rfl, rfl⟩))
    (fun os started H enc _ => lifted os started H enc)

theorem proved : Rows.FnExactClosePurchaseSaid := over
end fnExactClosePurchase

namespace fnExactReceiveGoods
set_option maxHeartbeats 1000000 in
theorem walk (w : World) (q : Int) (w_q : (Lit.int .i64 q).wf = true) (p : Int) (w_p : (Lit.int .i64 p).wf = true) (t : Int) (w_t : (Lit.int .i64 t).wf = true) (r : Int) (w_r : (Lit.int .i64 r).wf = true) (i : Int) (w_i : (Lit.int .i64 i).wf = true) (d : Int) (w_d : (Lit.int .i64 d).wf = true) (c : Bool) (k : Int) (w_k : (Lit.int .i64 k).wf = true) :
    Calls Try.prog 7 #[.agg #[.int .i64 q, .int .i64 p, .int .i64 t, .int .i64 r, .int .i64 i, .int .i64 d, .bool c], .int .i64 k] w fun e w' => e = .returned (.bool true) ∧ Grew w w' := by
  go_enter Try.func7, Try.ntmps7
  go_wp2_with fail
  refine (toPurchase_any _ _ _ _ _ _ _ _).mono ?_; rintro e w1 ⟨rfl, h1⟩; have hz_w1_0 : w.heap.size < w1.heap.size := Nat.lt_of_lt_of_le (by first | (simp +arith; done) | (simp; omega) | omega) h1.le; have hb_w1_0 := fun o => h1.rules.1 w.heap.size o (by first | (simp +arith; done) | (simp; omega) | omega); have hf_w1_0 := fun o => h1.rules.2 w.heap.size o (by first | (simp +arith; done) | (simp; omega) | omega); (try simp [World.cell?_alloc_past, World.frozen?_alloc_past, Nat.lt_add_right] at hb_w1_0 hf_w1_0)
  go_wp2_with fail
  refine (recv_spec _ _ _ _ _ _ _ _ _).mono ?_; rintro e w2 ⟨rfl, h2⟩; have hz_w2_0 : w.heap.size < w2.heap.size := Nat.lt_of_lt_of_le (by first | (simp +arith; done) | (simp; omega) | omega) h2.le; have hb_w2_0 := fun o => h2.rules.1 w.heap.size o (by first | (simp +arith; done) | (simp; omega) | omega); have hf_w2_0 := fun o => h2.rules.2 w.heap.size o (by first | (simp +arith; done) | (simp; omega) | omega); (try simp [World.cell?_alloc_past, World.frozen?_alloc_past, Nat.lt_add_right, hz_w1_0, hb_w1_0, hf_w1_0] at hb_w2_0 hf_w2_0)
  go_wp2_with fail
  refine (toPurchase_any _ _ _ _ _ _ _ _).mono ?_; rintro e w3 ⟨rfl, h3⟩; have hz_w3_0 : w.heap.size < w3.heap.size := Nat.lt_of_lt_of_le (by first | (simp +arith; done) | (simp; omega) | omega) h3.le; have hb_w3_0 := fun o => h3.rules.1 w.heap.size o (by first | (simp +arith; done) | (simp; omega) | omega); have hf_w3_0 := fun o => h3.rules.2 w.heap.size o (by first | (simp +arith; done) | (simp; omega) | omega); (try simp [World.cell?_alloc_past, World.frozen?_alloc_past, Nat.lt_add_right, hz_w2_0, hb_w2_0, hf_w2_0] at hb_w3_0 hf_w3_0); have hz_w3_a0 : w2.heap.size < w3.heap.size := Nat.lt_of_lt_of_le (by first | (simp +arith; done) | (simp; omega) | omega) h3.le; have hb_w3_a0 := fun o => h3.rules.1 w2.heap.size o (by first | (simp +arith; done) | (simp; omega) | omega); have hf_w3_a0 := fun o => h3.rules.2 w2.heap.size o (by first | (simp +arith; done) | (simp; omega) | omega); (try simp [World.cell?_alloc_past, World.frozen?_alloc_past, Nat.lt_add_right] at hb_w3_a0 hf_w3_a0)
  go_wp2_with fail
  refine (recv_impl _ _ _ _ _ _ _ _ _).mono ?_; rintro e w4 ⟨rfl, h4⟩; have hz_w4_a0 : w2.heap.size < w4.heap.size := Nat.lt_of_lt_of_le (by first | (simp +arith; done) | (simp; omega) | omega) h4.le; have hb_w4_a0 := fun o => h4.rules.1 w2.heap.size o (by first | (simp +arith; done) | (simp; omega) | omega); have hf_w4_a0 := fun o => h4.rules.2 w2.heap.size o (by first | (simp +arith; done) | (simp; omega) | omega); (try simp [World.cell?_alloc_past, World.frozen?_alloc_past, Nat.lt_add_right, hz_w3_a0, hb_w3_a0, hf_w3_a0] at hb_w4_a0 hf_w4_a0)
  go_wp2_with fail
  refine (eqPurchase_any _ _ _ _ _ _ _ _ _ _ _ _ _ _ _).mono ?_; rintro e w5 ⟨rfl, h5⟩
  go_wp2_with fail
  go_ret
  go_light
  refine ⟨rfl, ?_⟩
  (repeat (with_reducible first | exact Grew.refl _ | assumption | apply Grew.alloc | apply Grew.drew | apply Grew.drewN | (refine Grew.setCell ?_ (by simp; try omega) _) | (refine Grew.trans ?_ (by assumption))))

set_option maxRecDepth 100000 in
theorem lifted (os : Os) (started : os.Started) (H : Type) (enc : TypeId × Value → H) :
    ReturnsInHanded {} Try.checked os 7 .any (Rows.fnExactReceiveGoodsSpec.pre6 enc Try.prog Try.f7 Rows.fnExactReceiveGoodsRow.domain false) (Rows.fnExactReceiveGoodsSpec.post enc Try.prog Try.f7 false true false false) := by
  refine returnsInHanded_of_change (C := Try.checked) own started (by kernel_rfl) Try.func7
    (ChangeSpec.witness6 (enc := enc) (C := Try.checked) false ⟨#[], #[.agg #[.int .i64 0, .int .i64 0, .int .i64 0, .int .i64 0, .int .i64 0, .int .i64 0, .bool false], .int .i64 0], []⟩ 8 (by kernel_rfl) (by kernel_rfl) (by kernel_rfl) (by kernel_rfl)) ?_
  intro W base args ds gs before hval0 hW hcnd _
  have hval : ∀ (j : Nat) t v, Try.f7.params[j]? = some t → args[j]? = some v → Value.okWide Try.prog W .any base t v := hval0
  have hW' := hW
  obtain ⟨p, q, hA0, hV, rfl, hfz, hnd⟩ := hW
  have hA : DataW.TrodAll enc Try.prog W 0 (fun _ => true) true Try.f7.params.toList args.toList ds p := hA0
  rw [Try.params7] at hA hval
  obtain ⟨v0, vs0, d0, ds0, p0, q0, hargs, rfl, rfl, h0, r0⟩ := trodAll_cons hA
  obtain ⟨v1, vs1, d1, ds1, p1, q1, rfl, rfl, rfl, h1, r1⟩ := trodAll_cons r0
  obtain ⟨rfl, rfl, rfl⟩ := trodAll_nil r1
  obtain rfl : args = #[v0, v1] := by cases args; simp_all
  obtain ⟨cs0, rfl, hsz0, hfs0⟩ := open_aggN Try.underlying23 (by kernel_rfl) (by kernel_rfl) (hval 0 23 v0 rfl rfl) h0
  obtain ⟨l0⟩ := cs0
  obtain ⟨c0_0, c0_1, c0_2, c0_3, c0_4, c0_5, c0_6, rfl⟩ := len7_form (l := l0) hsz0
  obtain ⟨u0_0, n0_0, y0_0, e0_0, t0_0⟩ := hfs0 0 _ rfl
  obtain ⟨q, eq0_0, _, w_q⟩ := DataW.trod_int Try.underlying3 t0_0
  obtain rfl : c0_0 = .int .i64 q := by simp at e0_0 eq0_0; rw [e0_0, eq0_0]
  obtain ⟨u0_1, n0_1, y0_1, e0_1, t0_1⟩ := hfs0 1 _ rfl
  obtain ⟨p, eq0_1, _, w_p⟩ := DataW.trod_int Try.underlying3 t0_1
  obtain rfl : c0_1 = .int .i64 p := by simp at e0_1 eq0_1; rw [e0_1, eq0_1]
  obtain ⟨u0_2, n0_2, y0_2, e0_2, t0_2⟩ := hfs0 2 _ rfl
  obtain ⟨t, eq0_2, _, w_t⟩ := DataW.trod_int Try.underlying3 t0_2
  obtain rfl : c0_2 = .int .i64 t := by simp at e0_2 eq0_2; rw [e0_2, eq0_2]
  obtain ⟨u0_3, n0_3, y0_3, e0_3, t0_3⟩ := hfs0 3 _ rfl
  obtain ⟨r, eq0_3, _, w_r⟩ := DataW.trod_int Try.underlying3 t0_3
  obtain rfl : c0_3 = .int .i64 r := by simp at e0_3 eq0_3; rw [e0_3, eq0_3]
  obtain ⟨u0_4, n0_4, y0_4, e0_4, t0_4⟩ := hfs0 4 _ rfl
  obtain ⟨i, eq0_4, _, w_i⟩ := DataW.trod_int Try.underlying3 t0_4
  obtain rfl : c0_4 = .int .i64 i := by simp at e0_4 eq0_4; rw [e0_4, eq0_4]
  obtain ⟨u0_5, n0_5, y0_5, e0_5, t0_5⟩ := hfs0 5 _ rfl
  obtain ⟨d, eq0_5, _, w_d⟩ := DataW.trod_int Try.underlying3 t0_5
  obtain rfl : c0_5 = .int .i64 d := by simp at e0_5 eq0_5; rw [e0_5, eq0_5]
  obtain ⟨u0_6, n0_6, y0_6, e0_6, t0_6⟩ := hfs0 6 _ rfl
  obtain ⟨c, eq0_6, _⟩ := DataW.trod_bool Try.underlying4 t0_6
  obtain rfl : c0_6 = .bool c := by simp at e0_6 eq0_6; rw [e0_6, eq0_6]
  obtain ⟨k, rfl, _, _, w_k⟩ := open_int Try.underlying3 (hval 1 3 v1 rfl rfl) h1
  refine (walk W q w_q p w_p t w_t r w_r i w_i d w_d c k w_k).mono fun e W' ⟨he, hg⟩ => ?_
  subst he
  exact ⟨_, rfl, law_step (tb := 4) laidOut (by rw [Try.params7]; exact pars_of (by kernel_rfl)) rfl hW' rfl rfl rfl (by kernel_rfl) Try.underlying4 hg⟩

theorem over : Rows.fnExactReceiveGoodsRow.holds Try.pinned (OpenSpec.ofChange Rows.fnExactReceiveGoodsSpec) :=
  OpenClaim.holds_of_wide 7 Try.f7 rfl rfl rfl rfl rfl rfl rfl ⟨rfl, rfl, rfl, rfl, rfl⟩ rfl rfl rfl rfl rfl (by kernel_rfl) Try.func7 (by kernel_rfl)
    (of_decide_eq_true (by kernel_rfl)) (by unfold Func.isWrapper; first | (rw [if_pos (by decide +kernel)]; kernel_rfl) | (rw [if_neg (by decide +kernel)]; exact ⟨rfl, rfl⟩))
    (fun os started H enc _ => lifted os started H enc)

theorem proved : Rows.FnExactReceiveGoodsSaid := over
end fnExactReceiveGoods

namespace fnExactMatchInvoice
set_option maxHeartbeats 1000000 in
theorem walk (w : World) (q : Int) (w_q : (Lit.int .i64 q).wf = true) (p : Int) (w_p : (Lit.int .i64 p).wf = true) (t : Int) (w_t : (Lit.int .i64 t).wf = true) (r : Int) (w_r : (Lit.int .i64 r).wf = true) (i : Int) (w_i : (Lit.int .i64 i).wf = true) (d : Int) (w_d : (Lit.int .i64 d).wf = true) (c : Bool) (k : Int) (w_k : (Lit.int .i64 k).wf = true) (m : Int) (w_m : (Lit.int .i64 m).wf = true) :
    Calls Try.prog 8 #[.agg #[.int .i64 q, .int .i64 p, .int .i64 t, .int .i64 r, .int .i64 i, .int .i64 d, .bool c], .int .i64 k, .int .i64 m] w fun e w' => e = .returned (.bool true) ∧ Grew w w' := by
  go_enter Try.func8, Try.ntmps8
  go_wp2_with fail
  refine (toPurchase_any _ _ _ _ _ _ _ _).mono ?_; rintro e w1 ⟨rfl, h1⟩; have hz_w1_0 : w.heap.size < w1.heap.size := Nat.lt_of_lt_of_le (by first | (simp +arith; done) | (simp; omega) | omega) h1.le; have hb_w1_0 := fun o => h1.rules.1 w.heap.size o (by first | (simp +arith; done) | (simp; omega) | omega); have hf_w1_0 := fun o => h1.rules.2 w.heap.size o (by first | (simp +arith; done) | (simp; omega) | omega); (try simp [World.cell?_alloc_past, World.frozen?_alloc_past, Nat.lt_add_right] at hb_w1_0 hf_w1_0)
  go_wp2_with fail
  refine (inv_spec _ _ _ _ _ _ _ _ _ _).mono ?_; rintro e w2 ⟨rfl, h2⟩; have hz_w2_0 : w.heap.size < w2.heap.size := Nat.lt_of_lt_of_le (by first | (simp +arith; done) | (simp; omega) | omega) h2.le; have hb_w2_0 := fun o => h2.rules.1 w.heap.size o (by first | (simp +arith; done) | (simp; omega) | omega); have hf_w2_0 := fun o => h2.rules.2 w.heap.size o (by first | (simp +arith; done) | (simp; omega) | omega); (try simp [World.cell?_alloc_past, World.frozen?_alloc_past, Nat.lt_add_right, hz_w1_0, hb_w1_0, hf_w1_0] at hb_w2_0 hf_w2_0)
  go_wp2_with fail
  refine (toPurchase_any _ _ _ _ _ _ _ _).mono ?_; rintro e w3 ⟨rfl, h3⟩; have hz_w3_0 : w.heap.size < w3.heap.size := Nat.lt_of_lt_of_le (by first | (simp +arith; done) | (simp; omega) | omega) h3.le; have hb_w3_0 := fun o => h3.rules.1 w.heap.size o (by first | (simp +arith; done) | (simp; omega) | omega); have hf_w3_0 := fun o => h3.rules.2 w.heap.size o (by first | (simp +arith; done) | (simp; omega) | omega); (try simp [World.cell?_alloc_past, World.frozen?_alloc_past, Nat.lt_add_right, hz_w2_0, hb_w2_0, hf_w2_0] at hb_w3_0 hf_w3_0); have hz_w3_a0 : w2.heap.size < w3.heap.size := Nat.lt_of_lt_of_le (by first | (simp +arith; done) | (simp; omega) | omega) h3.le; have hb_w3_a0 := fun o => h3.rules.1 w2.heap.size o (by first | (simp +arith; done) | (simp; omega) | omega); have hf_w3_a0 := fun o => h3.rules.2 w2.heap.size o (by first | (simp +arith; done) | (simp; omega) | omega); (try simp [World.cell?_alloc_past, World.frozen?_alloc_past, Nat.lt_add_right] at hb_w3_a0 hf_w3_a0)
  go_wp2_with fail
  refine (inv_impl _ _ _ _ _ _ _ _ _ _).mono ?_; rintro e w4 ⟨rfl, h4⟩; have hz_w4_a0 : w2.heap.size < w4.heap.size := Nat.lt_of_lt_of_le (by first | (simp +arith; done) | (simp; omega) | omega) h4.le; have hb_w4_a0 := fun o => h4.rules.1 w2.heap.size o (by first | (simp +arith; done) | (simp; omega) | omega); have hf_w4_a0 := fun o => h4.rules.2 w2.heap.size o (by first | (simp +arith; done) | (simp; omega) | omega); (try simp [World.cell?_alloc_past, World.frozen?_alloc_past, Nat.lt_add_right, hz_w3_a0, hb_w3_a0, hf_w3_a0] at hb_w4_a0 hf_w4_a0)
  go_wp2_with fail
  refine (eqPurchase_any _ _ _ _ _ _ _ _ _ _ _ _ _ _ _).mono ?_; rintro e w5 ⟨rfl, h5⟩
  go_wp2_with fail
  go_ret
  go_light
  refine ⟨rfl, ?_⟩
  (repeat (with_reducible first | exact Grew.refl _ | assumption | apply Grew.alloc | apply Grew.drew | apply Grew.drewN | (refine Grew.setCell ?_ (by simp; try omega) _) | (refine Grew.trans ?_ (by assumption))))

set_option maxRecDepth 100000 in
theorem lifted (os : Os) (started : os.Started) (H : Type) (enc : TypeId × Value → H) :
    ReturnsInHanded {} Try.checked os 8 .any (Rows.fnExactMatchInvoiceSpec.pre6 enc Try.prog Try.f8 Rows.fnExactMatchInvoiceRow.domain false) (Rows.fnExactMatchInvoiceSpec.post enc Try.prog Try.f8 false true false false) := by
  refine returnsInHanded_of_change (C := Try.checked) own started (by kernel_rfl) Try.func8
    (ChangeSpec.witness6 (enc := enc) (C := Try.checked) false ⟨#[], #[.agg #[.int .i64 0, .int .i64 0, .int .i64 0, .int .i64 0, .int .i64 0, .int .i64 0, .bool false], .int .i64 0, .int .i64 0], []⟩ 8 (by kernel_rfl) (by kernel_rfl) (by kernel_rfl) (by kernel_rfl)) ?_
  intro W base args ds gs before hval0 hW hcnd _
  have hval : ∀ (j : Nat) t v, Try.f8.params[j]? = some t → args[j]? = some v → Value.okWide Try.prog W .any base t v := hval0
  have hW' := hW
  obtain ⟨p, q, hA0, hV, rfl, hfz, hnd⟩ := hW
  have hA : DataW.TrodAll enc Try.prog W 0 (fun _ => true) true Try.f8.params.toList args.toList ds p := hA0
  rw [Try.params8] at hA hval
  obtain ⟨v0, vs0, d0, ds0, p0, q0, hargs, rfl, rfl, h0, r0⟩ := trodAll_cons hA
  obtain ⟨v1, vs1, d1, ds1, p1, q1, rfl, rfl, rfl, h1, r1⟩ := trodAll_cons r0
  obtain ⟨v2, vs2, d2, ds2, p2, q2, rfl, rfl, rfl, h2, r2⟩ := trodAll_cons r1
  obtain ⟨rfl, rfl, rfl⟩ := trodAll_nil r2
  obtain rfl : args = #[v0, v1, v2] := by cases args; simp_all
  obtain ⟨cs0, rfl, hsz0, hfs0⟩ := open_aggN Try.underlying23 (by kernel_rfl) (by kernel_rfl) (hval 0 23 v0 rfl rfl) h0
  obtain ⟨l0⟩ := cs0
  obtain ⟨c0_0, c0_1, c0_2, c0_3, c0_4, c0_5, c0_6, rfl⟩ := len7_form (l := l0) hsz0
  obtain ⟨u0_0, n0_0, y0_0, e0_0, t0_0⟩ := hfs0 0 _ rfl
  obtain ⟨q, eq0_0, _, w_q⟩ := DataW.trod_int Try.underlying3 t0_0
  obtain rfl : c0_0 = .int .i64 q := by simp at e0_0 eq0_0; rw [e0_0, eq0_0]
  obtain ⟨u0_1, n0_1, y0_1, e0_1, t0_1⟩ := hfs0 1 _ rfl
  obtain ⟨p, eq0_1, _, w_p⟩ := DataW.trod_int Try.underlying3 t0_1
  obtain rfl : c0_1 = .int .i64 p := by simp at e0_1 eq0_1; rw [e0_1, eq0_1]
  obtain ⟨u0_2, n0_2, y0_2, e0_2, t0_2⟩ := hfs0 2 _ rfl
  obtain ⟨t, eq0_2, _, w_t⟩ := DataW.trod_int Try.underlying3 t0_2
  obtain rfl : c0_2 = .int .i64 t := by simp at e0_2 eq0_2; rw [e0_2, eq0_2]
  obtain ⟨u0_3, n0_3, y0_3, e0_3, t0_3⟩ := hfs0 3 _ rfl
  obtain ⟨r, eq0_3, _, w_r⟩ := DataW.trod_int Try.underlying3 t0_3
  obtain rfl : c0_3 = .int .i64 r := by simp at e0_3 eq0_3; rw [e0_3, eq0_3]
  obtain ⟨u0_4, n0_4, y0_4, e0_4, t0_4⟩ := hfs0 4 _ rfl
  obtain ⟨i, eq0_4, _, w_i⟩ := DataW.trod_int Try.underlying3 t0_4
  obtain rfl : c0_4 = .int .i64 i := by simp at e0_4 eq0_4; rw [e0_4, eq0_4]
  obtain ⟨u0_5, n0_5, y0_5, e0_5, t0_5⟩ := hfs0 5 _ rfl
  obtain ⟨d, eq0_5, _, w_d⟩ := DataW.trod_int Try.underlying3 t0_5
  obtain rfl : c0_5 = .int .i64 d := by simp at e0_5 eq0_5; rw [e0_5, eq0_5]
  obtain ⟨u0_6, n0_6, y0_6, e0_6, t0_6⟩ := hfs0 6 _ rfl
  obtain ⟨c, eq0_6, _⟩ := DataW.trod_bool Try.underlying4 t0_6
  obtain rfl : c0_6 = .bool c := by simp at e0_6 eq0_6; rw [e0_6, eq0_6]
  obtain ⟨k, rfl, _, _, w_k⟩ := open_int Try.underlying3 (hval 1 3 v1 rfl rfl) h1
  obtain ⟨m, rfl, _, _, w_m⟩ := open_int Try.underlying3 (hval 2 3 v2 rfl rfl) h2
  refine (walk W q w_q p w_p t w_t r w_r i w_i d w_d c k w_k m w_m).mono fun e W' ⟨he, hg⟩ => ?_
  subst he
  exact ⟨_, rfl, law_step (tb := 4) laidOut (by rw [Try.params8]; exact pars_of (by kernel_rfl)) rfl hW' rfl rfl rfl (by kernel_rfl) Try.underlying4 hg⟩

theorem over : Rows.fnExactMatchInvoiceRow.holds Try.pinned (OpenSpec.ofChange Rows.fnExactMatchInvoiceSpec) :=
  OpenClaim.holds_of_wide 8 Try.f8 rfl rfl rfl rfl rfl rfl rfl ⟨rfl, rfl, rfl, rfl, rfl⟩ rfl rfl rfl rfl rfl (by kernel_rfl) Try.func8 (by kernel_rfl)
    (of_decide_eq_true (by kernel_rfl)) (by unfold Func.isWrapper; first | (rw [if_pos (by decide +kernel)]; kernel_rfl) | (rw [if_neg (by decide +kernel)]; exact ⟨rfl, rfl⟩))
    (fun os started H enc _ => lifted os started H enc)

theorem proved : Rows.FnExactMatchInvoiceSaid := over
end fnExactMatchInvoice
end Go.Proofs.Ytjihfklhfldplaa
