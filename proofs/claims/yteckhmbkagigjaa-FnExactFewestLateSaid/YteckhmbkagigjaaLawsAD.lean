/- The exact law on the order with the fewest late tasks: the program's function returns what the reference's returns. Conditions: none. -/
import Derived.Test.YteckhmbkagigjaaFewI
import Derived.Test.YteckhmbkagigjaaFewS
import Derived.Test.YteckhmbkagigjaaIntsR
namespace Go.Proofs.Yteckhmbkagigjaa
open Go.ChangeShapes Go.WideShapes Go.ChangeAt Go.RowKit Go.Joins Go.Deep
set_option linter.unusedVariables false
set_option linter.unusedSimpArgs false

theorem sl_Tsk : SlInf Try.prog Tsk.E 29 47 := info_sl Try.underlying29 info_impl_Tsk rfl rfl (by decide)
theorem Tsk.bx {w : World} {b : Nat} {x : Tsk} (h : Bx Tsk.E w b x) : w.cell? ⟨b, 0, none⟩ = some (.int .i64 x.m) ∧ w.cell? ⟨b, 1, none⟩ = some (.int .i64 x.d) ∧ w.cell? ⟨b, 2, none⟩ = some (.int .i64 x.wt) ∧ b < w.heap.size ∧ ∀ j, w.frozen? ⟨b, j, none⟩ = false := ⟨h.2.1 0 _ rfl, h.2.1 1 _ rfl, h.2.1 2 _ rfl, h.1, h.2.2⟩
def mkTsk (q : Int) : Tsk := ⟨q, q + 1, q + 1 + 1⟩
def upTsk (q : Int) (n : Nat) : List Tsk := (List.range n).map fun (i : Nat) => mkTsk (q + 3 * i)
theorem upTsk_length (q : Int) (n : Nat) : (upTsk q n).length = n := by simp [upTsk]
theorem upTsk_get {q : Int} {n j : Nat} (hj : j < n) : (upTsk q n)[j]? = some (mkTsk (q + 3 * j)) := by simp [upTsk, List.getElem?_range hj]
theorem mkdTsk {q : Int} {l : List Tsk} {j : Nat} (hj : j < l.length) : setL (flat Tsk.E (upTsk q j ++ l.drop j)) (j * 3) (Tsk.E.enc (mkTsk (q + 3 * j))) = flat Tsk.E (upTsk q (j + 1) ++ l.drop (j + 1)) := by
  have h1 : (flat Tsk.E (upTsk q j)).length = j * 3 := by rw [flat_length, upTsk_length]; rfl
  have h2 : l.drop j = [l[j]] ++ l.drop (j + 1) := by rw [List.drop_eq_getElem_cons hj]; rfl
  have h3 : flat Tsk.E [l[j]] = Tsk.E.enc l[j] := by simp [flat]
  have h4 : upTsk q (j + 1) = upTsk q j ++ [mkTsk (q + 3 * j)] := by simp [upTsk, List.range_succ]
  have h5 : flat Tsk.E [mkTsk (q + 3 * j)] = Tsk.E.enc (mkTsk (q + 3 * j)) := by simp [flat]
  rw [flat_append, ← h1, setL_app _ _ _ (by rw [h2, flat_append, List.length_append, h3, Tsk.E.len, Tsk.E.len]; omega), h4, flat_append, flat_append, h5, h2, flat_append, h3, Tsk.E.len, ← Tsk.E.len l[j], List.drop_left]

set_option maxHeartbeats 2000000 in
theorem markTaskS_any (l : List Tsk) (base : Nat) (A : Option Addr) (c : Nat) (k : Int) (w : World) (h : Own Tsk.E 47 w base (.slice A l.length c) l) (h0 : 0 ≤ k) (hk : k ≤ 1073741824) (hn : l.length ≤ 4194304) :
    Calls Try.prog 29 #[.slice A l.length c, .int .i64 k] w fun e w' => e = .returned (.int .i64 (k + 3 * l.length)) ∧
      Own Tsk.E 47 w' base (.slice A l.length c) (upTsk k l.length) ∧ w.grownBy w' (Value.ownBlock (.slice A l.length c)) := by
  have H := Lib.hid h
  rcases Nat.eq_zero_or_pos l.length with hl0 | hl0
  · obtain rfl : l = [] := List.eq_nil_of_length_eq_zero hl0
    clear h hl0 hn
    go_enter Try.func29, Try.ntmps29
    go_wp2_with fail
    go_loopw [1, 5] (fun t i wr => i = .int .i64 0 ∧ t = .int .i64 k ∧ wr = w) (fun _ _ _ => 0)
    case atStart => exact ⟨rfl, rfl, rfl⟩
    case round =>
      obtain ⟨rfl, rfl, rfl⟩ := hrel
      go_wp2_with fail
      go_ret
      go_light
      exact ⟨ret_int (by simp), H.out, World.grownBy.refl _ _⟩
  obtain ⟨g, cap, hv, _, hg0⟩ := h.form hl0
  simp only [Value.slice.injEq] at hv
  obtain ⟨rfl, _, rfl⟩ := hv
  clear h
  go_enter Try.func29, Try.ntmps29
  go_wp2_with fail
  go_loopw [1, 5] (fun t i wr => ∃ j : Nat, j ≤ l.length ∧ i = .int .i64 j ∧ t = .int .i64 (k + 3 * j) ∧ wr.ownsRow base 47 3 (.slice (some ⟨g, 0, none⟩) l.length c) l.length (flat Tsk.E (upTsk k j ++ l.drop j)) ∧ w.grownBy wr (some g)) (fun _ i _ => l.length - (intOf i).toNat)
  case atStart => exact ⟨0, Nat.zero_le _, rfl, by simp, by rw [show upTsk k 0 ++ l.drop 0 = l by simp [upTsk]]; exact H.out, World.grownBy.refl _ _⟩
  case round =>
    obtain ⟨j, hj, rfl, rfl, hown, hgr⟩ := hrel
    have HO := Lib.hid hown
    have HG := Lib.hid hgr
    clear hown hgr
    by_cases hlt : j < l.length
    · have HE := Lib.hid (mkdTsk (q := k) hlt)
      have hln : (flat Tsk.E (upTsk k j ++ l.drop j)).length = l.length * 3 := HO.out.1
      have HLN := Lib.hid hln
      have hjk : (j + 1) * 3 ≤ l.length * 3 := Nat.mul_le_mul_right _ hlt
      have HJK := Lib.hid hjk
      clear hln hjk
      obtain ⟨q, hq⟩ : ∃ q : Int, q = k + 3 * (j : Int) := ⟨_, rfl⟩
      have hq0 : 0 ≤ q := by omega
      have hq1 : q ≤ 1099000000000 := by omega
      have HQ := Lib.hid hq
      rw [← hq] at HE ⊢
      clear hq

      have hcca : ∀ j2, j2 < 3 → ∃ u, wr.cell? ⟨g, j * 3 + j2, none⟩ = some u := fun j2 hj2 => by rw [HO.out.cellAt (j * 3 + j2) (by have := HJK.out; omega)]; exact ⟨_, List.getElem?_eq_getElem (by have := HO.out.1; have := HJK.out; omega)⟩
      obtain ⟨ua_0, hua_0⟩ := hcca 0 (by decide)
      simp only [Nat.add_zero] at hua_0
      obtain ⟨ua_1, hua_1⟩ := hcca 1 (by decide)
      obtain ⟨ua_2, hua_2⟩ := hcca 2 (by decide)
      have hfa : ∀ j2, wr.frozen? ⟨g, j2, none⟩ = false := fun j2 => HO.out.frozenAt j2
      clear hcca
      go_wp2_with fail
      go_roundw
      case rel =>
        go_light
        refine ⟨j + 1, by omega, by go_num, by rw [HQ.out]; congr 1; push_cast; omega, ?_, (((HG.out).trans ((HO.out).stored _ _).2).trans ((((HO.out).stored _ _).1).stored _ _).2).trans ((((((HO.out).stored _ _).1).stored _ _).1).stored _ _).2⟩
        rw [← HE.out]
        exact ((((((HO.out).stored _ _).1).stored _ _).1).stored _ _).1
      case measure => go_light; simp [intOf]; omega
    · obtain rfl : j = l.length := by omega
      go_wp2_with fail
      go_ret
      go_light
      refine ⟨rfl, ?_, HG.out⟩
      have := HO.out
      rw [List.drop_length, List.append_nil] at this
      unfold Own
      rw [upTsk_length]
      exact this
namespace fnExactFewestLate
set_option maxRecDepth 100000 in
set_option maxHeartbeats 40000000 in
theorem walk (w : World) (l : List Tsk) (A : Option Addr) (c : Nat) (r_l : Rd Tsk.E w A l) (q_l : l.length ≤ c ∧ c ≤ maxLen) (k_l : ∀ x ∈ l, x.Ok) :
    Calls Try.prog 10 #[.slice A l.length c] w fun e w' => e = .returned (.bool true) ∧ Grew w w' := by
  have hRl : (flF l).length ≤ 4194304 := (Nat.le_trans (flF_le l) (by decide))
  have hq_l := q_l
  unfold maxLen at hq_l
  go_enter Try.func10, Try.ntmps10
  go_wp2_with fail
  refine (szTaskS_any l A c _ _ (by omega) (by omega) (by simp only [maxLen]; omega)).mono ?_; rintro e w1 ⟨r1, rfl, hle1, hr1, h1⟩
  by_cases hr0_1 : r1 < 0
  · go_wp2_with fail
    go_ret
    go_light
    refine ⟨rfl, ?_⟩
    (repeat (with_reducible first | exact Grew.refl _ | assumption | apply Grew.alloc | apply Grew.drew | apply Grew.drewN | (refine Grew.setCell ?_ (by simp; try omega) _) | (refine Grew.trans ?_ (by assumption))))
  have hn_l := hr1 (by omega)
  go_wp2_with fail
  refine (toTaskS_any l A c _ (r_l.grew (by (repeat (with_reducible first | exact Grew.refl _ | assumption | apply Grew.alloc | apply Grew.drew | apply Grew.drewN | (refine Grew.setCell ?_ (by simp; try omega) _) | (refine Grew.trans ?_ (by assumption)))))) (by omega)).mono ?_; rintro e w2 ⟨rfl, os_l, h2⟩
  go_wp2_with fail
  refine (fewest_spec l _ _ _ (os_l.grew (by (repeat (with_reducible first | exact Grew.refl _ | assumption | apply Grew.alloc | apply Grew.drew | apply Grew.drewN | (refine Grew.setCell ?_ (by simp; try omega) _) | (refine Grew.trans ?_ (by assumption)))))).rd (by omega)).mono ?_; rintro e w3 ⟨As, cs, rfl, os, h3⟩
  go_wp2_with fail
  refine (toTaskS_any l A c _ (r_l.grew (by (repeat (with_reducible first | exact Grew.refl _ | assumption | apply Grew.alloc | apply Grew.drew | apply Grew.drewN | (refine Grew.setCell ?_ (by simp; try omega) _) | (refine Grew.trans ?_ (by assumption)))))) (by omega)).mono ?_; rintro e w4 ⟨rfl, oi_l, h4⟩
  go_wp2_with fail
  refine (fewest_impl l _ _ _ (oi_l.grew (by (repeat (with_reducible first | exact Grew.refl _ | assumption | apply Grew.alloc | apply Grew.drew | apply Grew.drewN | (refine Grew.setCell ?_ (by simp; try omega) _) | (refine Grew.trans ?_ (by assumption)))))).rd (by omega)).mono ?_; rintro e w5 ⟨Ag, cg, rfl, og, h5⟩
  go_wp2_with fail
  refine (eqIntRS_any (flF l) (flF l) _ _ _ _ _ (og.grew (by (repeat (with_reducible first | exact Grew.refl _ | assumption | apply Grew.alloc | apply Grew.drew | apply Grew.drewN | (refine Grew.setCell ?_ (by simp; try omega) _) | (refine Grew.trans ?_ (by assumption)))))).rd (os.grew (by (repeat (with_reducible first | exact Grew.refl _ | assumption | apply Grew.alloc | apply Grew.drew | apply Grew.drewN | (refine Grew.setCell ?_ (by simp; try omega) _) | (refine Grew.trans ?_ (by assumption)))))).rd hRl hRl).mono ?_; rintro e w6 ⟨rfl, h6⟩
  go_wp2_with fail
  refine (toTaskS_any l A c _ (r_l.grew (by (repeat (with_reducible first | exact Grew.refl _ | assumption | apply Grew.alloc | apply Grew.drew | apply Grew.drewN | (refine Grew.setCell ?_ (by simp; try omega) _) | (refine Grew.trans ?_ (by assumption)))))) (by omega)).mono ?_; rintro e w7 ⟨rfl, oe_l, h7⟩
  go_wp2_with fail
  refine (eqTaskS_any l l _ _ _ _ _ (oi_l.grew (by (repeat (with_reducible first | exact Grew.refl _ | assumption | apply Grew.alloc | apply Grew.drew | apply Grew.drewN | (refine Grew.setCell ?_ (by simp; try omega) _) | (refine Grew.trans ?_ (by assumption)))))).rd (oe_l.grew (by (repeat (with_reducible first | exact Grew.refl _ | assumption | apply Grew.alloc | apply Grew.drew | apply Grew.drewN | (refine Grew.setCell ?_ (by simp; try omega) _) | (refine Grew.trans ?_ (by assumption)))))).rd (by omega) (by omega)).mono ?_; rintro e w8 ⟨rfl, h8⟩
  go_wp2_with fail
  refine (markTaskS_any l _ _ _ _ _ (oi_l.grew (by (repeat (with_reducible first | exact Grew.refl _ | assumption | apply Grew.alloc | apply Grew.drew | apply Grew.drewN | (refine Grew.setCell ?_ (by simp; try omega) _) | (refine Grew.trans ?_ (by assumption)))))) (by omega) (by omega) (by omega)).mono ?_; rintro e w9 ⟨rfl, om9, hr9⟩
  have h9 : Grew w3 w9 := Grew.app (by (repeat (with_reducible first | exact Grew.refl _ | assumption | apply Grew.alloc | apply Grew.drew | apply Grew.drewN | (refine Grew.setCell ?_ (by simp; try omega) _) | (refine Grew.trans ?_ (by assumption))))) (oi_l.grew (by (repeat (with_reducible first | exact Grew.refl _ | assumption | apply Grew.alloc | apply Grew.drew | apply Grew.drewN | (refine Grew.setCell ?_ (by simp; try omega) _) | (refine Grew.trans ?_ (by assumption)))))) (show Grew w3 w3 by (repeat (with_reducible first | exact Grew.refl _ | assumption | apply Grew.alloc | apply Grew.drew | apply Grew.drewN | (refine Grew.setCell ?_ (by simp; try omega) _) | (refine Grew.trans ?_ (by assumption))))).le hr9
  have og9 := (og.grew (by (repeat (with_reducible first | exact Grew.refl _ | assumption | apply Grew.alloc | apply Grew.drew | apply Grew.drewN | (refine Grew.setCell ?_ (by simp; try omega) _) | (refine Grew.trans ?_ (by assumption)))))).kept hr9 (own_ne oi_l og (show Grew w4 w4 by (repeat (with_reducible first | exact Grew.refl _ | assumption | apply Grew.alloc | apply Grew.drew | apply Grew.drewN | (refine Grew.setCell ?_ (by simp; try omega) _) | (refine Grew.trans ?_ (by assumption))))).le)
  go_wp2_with fail
  refine (eqIntRS_any (flF l) (flF l) _ _ _ _ _ (og9.grew (by (repeat (with_reducible first | exact Grew.refl _ | assumption | apply Grew.alloc | apply Grew.drew | apply Grew.drewN | (refine Grew.setCell ?_ (by simp; try omega) _) | (refine Grew.trans ?_ (by assumption)))))).rd (os.grew (by (repeat (with_reducible first | exact Grew.refl _ | assumption | apply Grew.alloc | apply Grew.drew | apply Grew.drewN | (refine Grew.setCell ?_ (by simp; try omega) _) | (refine Grew.trans ?_ (by assumption)))))).rd hRl hRl).mono ?_; rintro e w10 ⟨rfl, h10⟩
  go_wp2_with fail
  refine (markIntRS_any (flF l) _ _ _ _ _ (og9.grew (by (repeat (with_reducible first | exact Grew.refl _ | assumption | apply Grew.alloc | apply Grew.drew | apply Grew.drewN | (refine Grew.setCell ?_ (by simp; try omega) _) | (refine Grew.trans ?_ (by assumption)))))) (by omega) (by omega) (by omega)).mono ?_; rintro e w11 ⟨rfl, omg, hr11⟩
  have h11 : Grew w3 w11 := Grew.app (by (repeat (with_reducible first | exact Grew.refl _ | assumption | apply Grew.alloc | apply Grew.drew | apply Grew.drewN | (refine Grew.setCell ?_ (by simp; try omega) _) | (refine Grew.trans ?_ (by assumption))))) (og9.grew (by (repeat (with_reducible first | exact Grew.refl _ | assumption | apply Grew.alloc | apply Grew.drew | apply Grew.drewN | (refine Grew.setCell ?_ (by simp; try omega) _) | (refine Grew.trans ?_ (by assumption)))))) (show Grew w3 w4 by (repeat (with_reducible first | exact Grew.refl _ | assumption | apply Grew.alloc | apply Grew.drew | apply Grew.drewN | (refine Grew.setCell ?_ (by simp; try omega) _) | (refine Grew.trans ?_ (by assumption))))).le hr11
  go_wp2_with fail
  refine (heldIntRS_any (flF l).length _ _ _ _ (own_up omg (by (repeat (with_reducible first | exact Grew.refl _ | assumption | apply Grew.alloc | apply Grew.drew | apply Grew.drewN | (refine Grew.setCell ?_ (by simp; try omega) _) | (refine Grew.trans ?_ (by assumption))))) (upIntR_length _ _)) (by omega) (by omega) hRl).mono ?_; rintro e w12 ⟨rfl, h12⟩
  go_wp2_with fail
  refine (toTaskS_any l A c _ (r_l.grew (by (repeat (with_reducible first | exact Grew.refl _ | assumption | apply Grew.alloc | apply Grew.drew | apply Grew.drewN | (refine Grew.setCell ?_ (by simp; try omega) _) | (refine Grew.trans ?_ (by assumption)))))) (by omega)).mono ?_; rintro e w13 ⟨rfl, oh_l, h13⟩
  go_wp2_with fail
  refine (fewest_impl l _ _ _ (oh_l.grew (by (repeat (with_reducible first | exact Grew.refl _ | assumption | apply Grew.alloc | apply Grew.drew | apply Grew.drewN | (refine Grew.setCell ?_ (by simp; try omega) _) | (refine Grew.trans ?_ (by assumption)))))).rd (by omega)).mono ?_; rintro e w14 ⟨Ah, ch, rfl, oh, h14⟩
  go_wp2_with fail
  refine (eqIntRS_any (flF l) (flF l) _ _ _ _ _ (oh.grew (by (repeat (with_reducible first | exact Grew.refl _ | assumption | apply Grew.alloc | apply Grew.drew | apply Grew.drewN | (refine Grew.setCell ?_ (by simp; try omega) _) | (refine Grew.trans ?_ (by assumption)))))).rd (os.grew (by (repeat (with_reducible first | exact Grew.refl _ | assumption | apply Grew.alloc | apply Grew.drew | apply Grew.drewN | (refine Grew.setCell ?_ (by simp; try omega) _) | (refine Grew.trans ?_ (by assumption)))))).rd hRl hRl).mono ?_; rintro e w15 ⟨rfl, h15⟩
  go_wp2_with fail
  refine (heldIntRS_any (flF l).length _ _ _ _ (own_up omg (by (repeat (with_reducible first | exact Grew.refl _ | assumption | apply Grew.alloc | apply Grew.drew | apply Grew.drewN | (refine Grew.setCell ?_ (by simp; try omega) _) | (refine Grew.trans ?_ (by assumption))))) (upIntR_length _ _)) (by omega) (by omega) hRl).mono ?_; rintro e w16 ⟨rfl, h16⟩
  go_wp2_with fail
  go_ret
  go_light
  refine ⟨rfl, ?_⟩
  (repeat (with_reducible first | exact Grew.refl _ | assumption | apply Grew.alloc | apply Grew.drew | apply Grew.drewN | (refine Grew.setCell ?_ (by simp; try omega) _) | (refine Grew.trans ?_ (by assumption))))

set_option maxRecDepth 100000 in
theorem lifted (os : Os) (started : os.Started) (H : Type) (enc : TypeId × Value → H) :
    ReturnsInHanded {} Try.checked os 10 .any (Rows.fnExactFewestLateSpec.pre6 enc Try.prog Try.f10 Rows.fnExactFewestLateRow.domain false) (Rows.fnExactFewestLateSpec.post enc Try.prog Try.f10 false true false false) := by
  refine returnsInHanded_of_change (C := Try.checked) own started (by kernel_rfl) Try.func10
    (ChangeSpec.witness6 (enc := enc) (C := Try.checked) false ⟨#[], #[.slice none 0 0], []⟩ 8 (by kernel_rfl) (by kernel_rfl) (by kernel_rfl) (by kernel_rfl)) ?_
  intro W base args ds gs before hval0 hW hcnd _
  have hval : ∀ (j : Nat) t v, Try.f10.params[j]? = some t → args[j]? = some v → Value.okWide Try.prog W .any base t v := hval0
  have hW' := hW
  obtain ⟨p, q, hA0, hV, rfl, hfz, hnd⟩ := hW
  have hA : DataW.TrodAll enc Try.prog W 0 (fun _ => true) true Try.f10.params.toList args.toList ds p := hA0
  rw [Try.params10] at hA hval
  obtain ⟨v0, vs0, d0, ds0, p0, q0, hargs, rfl, rfl, h0, r0⟩ := trodAll_cons hA
  obtain ⟨rfl, rfl, rfl⟩ := trodAll_nil r0
  obtain rfl : args = #[v0] := by cases args; simp_all
  obtain ⟨l, A, c, rfl, r_l, q1_l, q2_l, k_l⟩ := Tsk.open_ (hval 0 26 v0 rfl rfl) h0
  refine (walk W l A c r_l ⟨q1_l, q2_l⟩ k_l).mono fun e W' ⟨he, hg⟩ => ?_
  subst he
  exact ⟨_, rfl, law_step (tb := 4) laidOut (by rw [Try.params10]; exact pars_of (by kernel_rfl)) rfl hW' rfl rfl rfl (by kernel_rfl) Try.underlying4 hg⟩

theorem over : Rows.fnExactFewestLateRow.holds Try.pinned (OpenSpec.ofChange Rows.fnExactFewestLateSpec) :=
  OpenClaim.holds_of_wide 10 Try.f10 rfl rfl rfl rfl rfl rfl rfl ⟨rfl, rfl, rfl, rfl, rfl⟩ rfl rfl rfl rfl rfl (by kernel_rfl) Try.func10 (by kernel_rfl)
    (of_decide_eq_true (by kernel_rfl)) (by unfold Func.isWrapper; first | (rw [if_pos (by decide +kernel)]; kernel_rfl) | (rw [if_neg (by decide +kernel)]; exact ⟨rfl, rfl⟩))
    (fun os started H enc _ => lifted os started H enc)

theorem proved : Rows.FnExactFewestLateSaid := over
end fnExactFewestLate
end Go.Proofs.Yteckhmbkagigjaa
