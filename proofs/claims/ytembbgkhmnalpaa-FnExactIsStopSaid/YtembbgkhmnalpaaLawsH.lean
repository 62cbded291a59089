/- The exact laws on stops: the program's functions return what the reference's return. Conditions: none. -/
import Derived.Test.YtembbgkhmnalpaaStop
namespace Go.Proofs.Ytembbgkhmnalpaa
open Go.ChangeShapes Go.WideShapes Go.ChangeAt Go.RowKit Go.Joins Go.Deep
set_option linter.unusedVariables false
set_option linter.unusedSimpArgs false

namespace fnExactIsStop
set_option maxHeartbeats 1000000 in
theorem walk (w : World) (ce : ByteArray) (w_ce : ce.size ≤ maxLen) (fr : Int) (w_fr : (Lit.int .i64 fr).wf = true) (un : Int) (w_un : (Lit.int .i64 un).wf = true) :
    Calls Try.prog 3 #[.agg #[.string ce, .int .i64 fr, .int .i64 un]] w fun e w' => e = .returned (.bool true) ∧ Grew w w' := by
  go_enter Try.func3, Try.ntmps3
  go_wp2_with fail
  refine (szStop_any (⟨ce, fr, un⟩ : Stp) _ _ (by omega) (by omega) w_ce).mono ?_; rintro e w1 ⟨rfl, h1⟩; have hz_w1_0 : w.heap.size < w1.heap.size := Nat.lt_of_lt_of_le (by first | (simp +arith; done) | (simp; omega) | omega) h1.le; have hb_w1_0 := fun o => h1.rules.1 w.heap.size o (by first | (simp +arith; done) | (simp; omega) | omega); have hf_w1_0 := fun o => h1.rules.2 w.heap.size o (by first | (simp +arith; done) | (simp; omega) | omega); (try simp [World.cell?_alloc_past, World.frozen?_alloc_past, Nat.lt_add_right] at hb_w1_0 hf_w1_0)
  by_cases hsz_1 : (1048576 : Int) < ((⟨ce, fr, un⟩ : Stp).w : Int)
  · go_wp2_with fail
    go_ret
    go_light
    refine ⟨rfl, ?_⟩
    (repeat (with_reducible first | exact Grew.refl _ | assumption | apply Grew.alloc | apply Grew.drew | apply Grew.drewN | (refine Grew.setCell ?_ (by simp; try omega) _) | (refine Grew.trans ?_ (by assumption))))
  have hsy_1 : (0 : Int) ≤ (1048576 : Int) - ((⟨ce, fr, un⟩ : Stp).w : Int) := by omega
  go_wp2_with fail
  refine (toStop_any ⟨ce, fr, un⟩ _).mono ?_; rintro e w2 ⟨rfl, h2⟩; have hz_w2_0 : w.heap.size < w2.heap.size := Nat.lt_of_lt_of_le (by first | (simp +arith; done) | (simp; omega) | omega) h2.le; have hb_w2_0 := fun o => h2.rules.1 w.heap.size o (by first | (simp +arith; done) | (simp; omega) | omega); have hf_w2_0 := fun o => h2.rules.2 w.heap.size o (by first | (simp +arith; done) | (simp; omega) | omega); (try simp [World.cell?_alloc_past, World.frozen?_alloc_past, Nat.lt_add_right, hz_w1_0, hb_w1_0, hf_w1_0] at hb_w2_0 hf_w2_0)
  go_wp2_with fail
  refine (isStop_spec ⟨ce, fr, un⟩ _ w_ce).mono ?_; rintro e w3 ⟨rfl, h3⟩; have hz_w3_0 : w.heap.size < w3.heap.size := Nat.lt_of_lt_of_le (by first | (simp +arith; done) | (simp; omega) | omega) h3.le; have hb_w3_0 := fun o => h3.rules.1 w.heap.size o (by first | (simp +arith; done) | (simp; omega) | omega); have hf_w3_0 := fun o => h3.rules.2 w.heap.size o (by first | (simp +arith; done) | (simp; omega) | omega); (try simp [World.cell?_alloc_past, World.frozen?_alloc_past, Nat.lt_add_right, hz_w2_0, hb_w2_0, hf_w2_0] at hb_w3_0 hf_w3_0)
  go_wp2_with fail
  refine (toStop_any ⟨ce, fr, un⟩ _).mono ?_; rintro e w4 ⟨rfl, h4⟩; have hz_w4_0 : w.heap.size < w4.heap.size := Nat.lt_of_lt_of_le (by first | (simp +arith; done) | (simp; omega) | omega) h4.le; have hb_w4_0 := fun o => h4.rules.1 w.heap.size o (by first | (simp +arith; done) | (simp; omega) | omega); have hf_w4_0 := fun o => h4.rules.2 w.heap.size o (by first | (simp +arith; done) | (simp; omega) | omega); (try simp [World.cell?_alloc_past, World.frozen?_alloc_past, Nat.lt_add_right, hz_w3_0, hb_w3_0, hf_w3_0] at hb_w4_0 hf_w4_0)
  go_wp2_with fail
  refine (isStop_impl ⟨ce, fr, un⟩ _ w_ce).mono ?_; rintro e w5 ⟨rfl, h5⟩; have hz_w5_0 : w.heap.size < w5.heap.size := Nat.lt_of_lt_of_le (by first | (simp +arith; done) | (simp; omega) | omega) h5.le; have hb_w5_0 := fun o => h5.rules.1 w.heap.size o (by first | (simp +arith; done) | (simp; omega) | omega); have hf_w5_0 := fun o => h5.rules.2 w.heap.size o (by first | (simp +arith; done) | (simp; omega) | omega); (try simp [World.cell?_alloc_past, World.frozen?_alloc_past, Nat.lt_add_right, hz_w4_0, hb_w4_0, hf_w4_0] at hb_w5_0 hf_w5_0)
  go_wp2_with fail
  go_ret
  go_light
  refine ⟨rfl, ?_⟩
  (repeat (with_reducible first | exact Grew.refl _ | assumption | apply Grew.alloc | apply Grew.drew | apply Grew.drewN | (refine Grew.setCell ?_ (by simp; try omega) _) | (refine Grew.trans ?_ (by assumption))))

set_option maxRecDepth 100000 in
theorem lifted (os : Os) (started : os.Started) (H : Type) (enc : TypeId × Value → H) :
    ReturnsInHanded {} Try.checked os 3 .any (Rows.fnExactIsStopSpec.pre6 enc Try.prog Try.f3 Rows.fnExactIsStopRow.domain false) (Rows.fnExactIsStopSpec.post enc Try.prog Try.f3 false true false false) := by
  refine returnsInHanded_of_change (C := Try.checked) own started (by kernel_rfl) Try.func3
    (ChangeSpec.witness6 (enc := enc) (C := Try.checked) false ⟨#[], #[.agg #[.string ByteArray.empty, .int .i64 0, .int .i64 0]], []⟩ 8 (by kernel_rfl) (by kernel_rfl) (by kernel_rfl) (by kernel_rfl)) ?_
  intro W base args ds gs before hval0 hW hcnd _
  have hval : ∀ (j : Nat) t v, Try.f3.params[j]? = some t → args[j]? = some v → Value.okWide Try.prog W .any base t v := hval0
  have hW' := hW
  obtain ⟨p, q, hA0, hV, rfl, hfz, hnd⟩ := hW
  have hA : DataW.TrodAll enc Try.prog W 0 (fun _ => true) true Try.f3.params.toList args.toList ds p := hA0
  rw [Try.params3] at hA hval
  obtain ⟨v0, vs0, d0, ds0, p0, q0, hargs, rfl, rfl, h0, r0⟩ := trodAll_cons hA
  obtain ⟨rfl, rfl, rfl⟩ := trodAll_nil r0
  obtain rfl : args = #[v0] := by cases args; simp_all
  obtain ⟨cs0, rfl, hsz0, hfs0⟩ := open_aggN Try.underlying23 (by kernel_rfl) (by kernel_rfl) (hval 0 23 v0 rfl rfl) h0
  obtain ⟨l0⟩ := cs0
  obtain ⟨c0_0, c0_1, c0_2, rfl⟩ := len3_form (l := l0) hsz0
  obtain ⟨u0_0, n0_0, y0_0, e0_0, t0_0⟩ := hfs0 0 _ rfl
  obtain ⟨ce, eq0_0, _, w_ce⟩ := DataW.trod_string Try.underlying9 t0_0
  obtain rfl : c0_0 = .string ce := by simp at e0_0 eq0_0; rw [e0_0, eq0_0]
  obtain ⟨u0_1, n0_1, y0_1, e0_1, t0_1⟩ := hfs0 1 _ rfl
  obtain ⟨fr, eq0_1, _, w_fr⟩ := DataW.trod_int Try.underlying3 t0_1
  obtain rfl : c0_1 = .int .i64 fr := by simp at e0_1 eq0_1; rw [e0_1, eq0_1]
  obtain ⟨u0_2, n0_2, y0_2, e0_2, t0_2⟩ := hfs0 2 _ rfl
  obtain ⟨un, eq0_2, _, w_un⟩ := DataW.trod_int Try.underlying3 t0_2
  obtain rfl : c0_2 = .int .i64 un := by simp at e0_2 eq0_2; rw [e0_2, eq0_2]
  refine (walk W ce w_ce fr w_fr un w_un).mono fun e W' ⟨he, hg⟩ => ?_
  subst he
  exact ⟨_, rfl, law_step (tb := 4) laidOut (by rw [Try.params3]; exact pars_of (by kernel_rfl)) rfl hW' rfl rfl rfl (by kernel_rfl) Try.underlying4 hg⟩

theorem over : Rows.fnExactIsStopRow.holds Try.pinned (OpenSpec.ofChange Rows.fnExactIsStopSpec) :=
  OpenClaim.holds_of_wide 3 Try.f3 rfl rfl rfl rfl rfl rfl rfl ⟨rfl, rfl, rfl, rfl, rfl⟩ rfl rfl rfl rfl rfl (by kernel_rfl) Try.func3 (by kernel_rfl)
    (of_decide_eq_true (by kernel_rfl)) (by unfold Func.isWrapper; first | (rw [if_pos (by decide +kernel)]; kernel_rfl) | (rw [if_neg (by decide +kernel)]; exact ⟨rfl, rfl⟩))
    (fun os started H enc _ => lifted os started H enc)

theorem proved : Rows.FnExactIsStopSaid := over
end fnExactIsStop
end Go.Proofs.Ytembbgkhmnalpaa
