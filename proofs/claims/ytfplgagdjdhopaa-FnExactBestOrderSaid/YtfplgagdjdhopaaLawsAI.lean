/- The exact law on the best order: the program's BestOrder returns what the reference's returns. Conditions: none. -/
import Derived.Test.YtfplgagdjdhopaaBstS
import Derived.Test.YtfplgagdjdhopaaBstW
import Derived.Test.YtfplgagdjdhopaaGridM
import Derived.Test.YtfplgagdjdhopaaIntsR
import Derived.Test.YtfplgagdjdhopaaLift
namespace Go.Proofs.Ytfplgagdjdhopaa
open Go.ChangeShapes Go.WideShapes Go.ChangeAt Go.RowKit Go.Joins Go.Deep
set_option linter.unusedVariables false
set_option linter.unusedSimpArgs false

theorem pth_le (L : List (List Int)) (n : Nat) : ∀ (f a l : Nat), (pth L n f a l).length ≤ f
  | 0, _, _ => Nat.le_refl _
  | f + 1, a, l => by
    simp only [pth]
    split
    · simp
    · simp only [List.length_cons]
      have := pth_le L n f (ag l.testBit (gD L n a l) n) (l - 2 ^ (ag l.testBit (gD L n a l) n))
      omega
theorem bestF_le (L : List (List Int)) : (bestF L).1.length ≤ 4194304 := by
  cases h : setB L
  · simp [bestF, h]
  · have h1 := setB_at h
    obtain ⟨n, hn⟩ : ∃ n, L.length = n + 1 := ⟨L.length - 1, by omega⟩
    rw [best_eq h hn]
    have := pth_le L n n n (2 ^ n - 1)
    have h2 := h1.2.1
    simp only
    omega
namespace fnExactBestOrder
set_option maxRecDepth 100000 in
set_option maxHeartbeats 40000000 in
theorem walk (w : World) (L : List (List Int)) (A : Option Addr) (c : Nat) (r_L : RdR w A L) (q_L : L.length ≤ c ∧ c ≤ maxLen) (k_L : ∀ m ∈ L, m.length ≤ maxLen) :
    Calls Try.prog 6 #[.slice A L.length c] w fun e w' => e = .returned (.bool true) ∧ Grew w w' := by
  have hRl : ((bestF L).1).length ≤ 4194304 := bestF_le _
  have hq_L := q_L
  unfold maxLen at hq_L
  go_enter Try.func6, Try.ntmps6
  go_wp2_with fail
  refine (szIntSS_any L A c _ _ (r_L.grew (by (repeat (with_reducible first | exact Grew.refl _ | assumption | apply Grew.alloc | apply Grew.drew | apply Grew.drewN | (refine Grew.setCell ?_ (by simp; try omega) _) | (refine Grew.trans ?_ (by assumption)))))) k_L (by omega) (by omega) (by simp only [maxLen]; omega)).mono ?_; rintro e w1 ⟨r1, rfl, hle1, hr1, h1⟩
  by_cases hr0_1 : r1 < 0
  · go_wp2_with fail
    go_ret
    go_light
    refine ⟨rfl, ?_⟩
    (repeat (with_reducible first | exact Grew.refl _ | assumption | apply Grew.alloc | apply Grew.drew | apply Grew.drewN | (refine Grew.setCell ?_ (by simp; try omega) _) | (refine Grew.trans ?_ (by assumption))))
  have hn_L := hr1 (by omega)
  go_wp2_with fail
  refine (toIntSS_any L A c _ (r_L.grew (by (repeat (with_reducible first | exact Grew.refl _ | assumption | apply Grew.alloc | apply Grew.drew | apply Grew.drewN | (refine Grew.setCell ?_ (by simp; try omega) _) | (refine Grew.trans ?_ (by assumption)))))) (by omega) (fun m hm => by have := hn_L.2 m hm; omega)).mono ?_; rintro e w2 ⟨rfl, os_L, h2⟩
  go_wp2_with fail
  refine (best_spec L _ _ _ (os_L.grew (by (repeat (with_reducible first | exact Grew.refl _ | assumption | apply Grew.alloc | apply Grew.drew | apply Grew.drewN | (refine Grew.setCell ?_ (by simp; try omega) _) | (refine Grew.trans ?_ (by assumption)))))).rd (fun m hm => by have := hn_L.2 m hm; simp only [maxLen]; omega) (by omega)).mono ?_; rintro e w3 ⟨As, cs, rfl, os, h3⟩
  go_wp2_with fail
  refine (toIntSS_any L A c _ (r_L.grew (by (repeat (with_reducible first | exact Grew.refl _ | assumption | apply Grew.alloc | apply Grew.drew | apply Grew.drewN | (refine Grew.setCell ?_ (by simp; try omega) _) | (refine Grew.trans ?_ (by assumption)))))) (by omega) (fun m hm => by have := hn_L.2 m hm; omega)).mono ?_; rintro e w4 ⟨rfl, oi_L, h4⟩
  go_wp2_with fail
  refine (best_impl L _ _ _ (oi_L.grew (by (repeat (with_reducible first | exact Grew.refl _ | assumption | apply Grew.alloc | apply Grew.drew | apply Grew.drewN | (refine Grew.setCell ?_ (by simp; try omega) _) | (refine Grew.trans ?_ (by assumption)))))).rd (fun m hm => by have := hn_L.2 m hm; simp only [maxLen]; omega) (by omega)).mono ?_; rintro e w5 ⟨Ag, cg, rfl, og, h5⟩
  go_wp2_with fail
  refine (eqIntRS_any ((bestF L).1) ((bestF L).1) _ _ _ _ _ (og.grew (by (repeat (with_reducible first | exact Grew.refl _ | assumption | apply Grew.alloc | apply Grew.drew | apply Grew.drewN | (refine Grew.setCell ?_ (by simp; try omega) _) | (refine Grew.trans ?_ (by assumption)))))).rd (os.grew (by (repeat (with_reducible first | exact Grew.refl _ | assumption | apply Grew.alloc | apply Grew.drew | apply Grew.drewN | (refine Grew.setCell ?_ (by simp; try omega) _) | (refine Grew.trans ?_ (by assumption)))))).rd hRl hRl).mono ?_; rintro e w6 ⟨rfl, h6⟩
  go_wp2_with fail
  refine (toIntSS_any L A c _ (r_L.grew (by (repeat (with_reducible first | exact Grew.refl _ | assumption | apply Grew.alloc | apply Grew.drew | apply Grew.drewN | (refine Grew.setCell ?_ (by simp; try omega) _) | (refine Grew.trans ?_ (by assumption)))))) (by omega) (fun m hm => by have := hn_L.2 m hm; omega)).mono ?_; rintro e w7 ⟨rfl, oe_L, h7⟩
  go_wp2_with fail
  refine (eqIntSS_any L L _ _ _ _ _ (oi_L.grew (by (repeat (with_reducible first | exact Grew.refl _ | assumption | apply Grew.alloc | apply Grew.drew | apply Grew.drewN | (refine Grew.setCell ?_ (by simp; try omega) _) | (refine Grew.trans ?_ (by assumption)))))).rd (oe_L.grew (by (repeat (with_reducible first | exact Grew.refl _ | assumption | apply Grew.alloc | apply Grew.drew | apply Grew.drewN | (refine Grew.setCell ?_ (by simp; try omega) _) | (refine Grew.trans ?_ (by assumption)))))).rd (by omega) (by omega) (fun m hm => by have := hn_L.2 m hm; omega) (fun m hm => by have := hn_L.2 m hm; omega)).mono ?_; rintro e w8 ⟨rfl, h8⟩
  go_wp2_with fail
  refine (markIntSS_any L _ _ _ _ _ oi_L (by (repeat (with_reducible first | exact Grew.refl _ | assumption | apply Grew.alloc | apply Grew.drew | apply Grew.drewN | (refine Grew.setCell ?_ (by simp; try omega) _) | (refine Grew.trans ?_ (by assumption))))) (by omega) hn_L.2).mono ?_; rintro e w9 ⟨rfl, om9, hr9⟩
  have h9 : Grew w3 w9 := hr9.2 w3 (by (repeat (with_reducible first | exact Grew.refl _ | assumption | apply Grew.alloc | apply Grew.drew | apply Grew.drewN | (refine Grew.setCell ?_ (by simp; try omega) _) | (refine Grew.trans ?_ (by assumption))))) (show Grew w3 w3 by (repeat (with_reducible first | exact Grew.refl _ | assumption | apply Grew.alloc | apply Grew.drew | apply Grew.drewN | (refine Grew.setCell ?_ (by simp; try omega) _) | (refine Grew.trans ?_ (by assumption))))).le
  have og9 := (og.grew (by (repeat (with_reducible first | exact Grew.refl _ | assumption | apply Grew.alloc | apply Grew.drew | apply Grew.drewN | (refine Grew.setCell ?_ (by simp; try omega) _) | (refine Grew.trans ?_ (by assumption)))))).kept3 hr9.1 (show Grew w4 w4 by (repeat (with_reducible first | exact Grew.refl _ | assumption | apply Grew.alloc | apply Grew.drew | apply Grew.drewN | (refine Grew.setCell ?_ (by simp; try omega) _) | (refine Grew.trans ?_ (by assumption))))).le
  go_wp2_with fail
  refine (eqIntRS_any ((bestF L).1) ((bestF L).1) _ _ _ _ _ (og9.grew (by (repeat (with_reducible first | exact Grew.refl _ | assumption | apply Grew.alloc | apply Grew.drew | apply Grew.drewN | (refine Grew.setCell ?_ (by simp; try omega) _) | (refine Grew.trans ?_ (by assumption)))))).rd (os.grew (by (repeat (with_reducible first | exact Grew.refl _ | assumption | apply Grew.alloc | apply Grew.drew | apply Grew.drewN | (refine Grew.setCell ?_ (by simp; try omega) _) | (refine Grew.trans ?_ (by assumption)))))).rd hRl hRl).mono ?_; rintro e w10 ⟨rfl, h10⟩
  go_wp2_with fail
  refine (markIntRS_any ((bestF L).1) _ _ _ _ _ (og9.grew (by (repeat (with_reducible first | exact Grew.refl _ | assumption | apply Grew.alloc | apply Grew.drew | apply Grew.drewN | (refine Grew.setCell ?_ (by simp; try omega) _) | (refine Grew.trans ?_ (by assumption)))))) (by omega) (by omega) (by omega)).mono ?_; rintro e w11 ⟨rfl, omg, hr11⟩
  have h11 : Grew w3 w11 := Grew.app (by (repeat (with_reducible first | exact Grew.refl _ | assumption | apply Grew.alloc | apply Grew.drew | apply Grew.drewN | (refine Grew.setCell ?_ (by simp; try omega) _) | (refine Grew.trans ?_ (by assumption))))) (og9.grew (by (repeat (with_reducible first | exact Grew.refl _ | assumption | apply Grew.alloc | apply Grew.drew | apply Grew.drewN | (refine Grew.setCell ?_ (by simp; try omega) _) | (refine Grew.trans ?_ (by assumption)))))) (show Grew w3 w4 by (repeat (with_reducible first | exact Grew.refl _ | assumption | apply Grew.alloc | apply Grew.drew | apply Grew.drewN | (refine Grew.setCell ?_ (by simp; try omega) _) | (refine Grew.trans ?_ (by assumption))))).le hr11
  go_wp2_with fail
  refine (heldIntRS_any ((bestF L).1).length _ _ _ _ (own_up omg (by (repeat (with_reducible first | exact Grew.refl _ | assumption | apply Grew.alloc | apply Grew.drew | apply Grew.drewN | (refine Grew.setCell ?_ (by simp; try omega) _) | (refine Grew.trans ?_ (by assumption))))) (upIntR_length _ _)) (by omega) (by omega) hRl).mono ?_; rintro e w12 ⟨rfl, h12⟩
  go_wp2_with fail
  refine (toIntSS_any L A c _ (r_L.grew (by (repeat (with_reducible first | exact Grew.refl _ | assumption | apply Grew.alloc | apply Grew.drew | apply Grew.drewN | (refine Grew.setCell ?_ (by simp; try omega) _) | (refine Grew.trans ?_ (by assumption)))))) (by omega) (fun m hm => by have := hn_L.2 m hm; omega)).mono ?_; rintro e w13 ⟨rfl, oh_L, h13⟩
  go_wp2_with fail
  refine (best_impl L _ _ _ (oh_L.grew (by (repeat (with_reducible first | exact Grew.refl _ | assumption | apply Grew.alloc | apply Grew.drew | apply Grew.drewN | (refine Grew.setCell ?_ (by simp; try omega) _) | (refine Grew.trans ?_ (by assumption)))))).rd (fun m hm => by have := hn_L.2 m hm; simp only [maxLen]; omega) (by omega)).mono ?_; rintro e w14 ⟨Ah, ch, rfl, oh, h14⟩
  go_wp2_with fail
  refine (eqIntRS_any ((bestF L).1) ((bestF L).1) _ _ _ _ _ (oh.grew (by (repeat (with_reducible first | exact Grew.refl _ | assumption | apply Grew.alloc | apply Grew.drew | apply Grew.drewN | (refine Grew.setCell ?_ (by simp; try omega) _) | (refine Grew.trans ?_ (by assumption)))))).rd (os.grew (by (repeat (with_reducible first | exact Grew.refl _ | assumption | apply Grew.alloc | apply Grew.drew | apply Grew.drewN | (refine Grew.setCell ?_ (by simp; try omega) _) | (refine Grew.trans ?_ (by assumption)))))).rd hRl hRl).mono ?_; rintro e w15 ⟨rfl, h15⟩
  go_wp2_with fail
  refine (heldIntRS_any ((bestF L).1).length _ _ _ _ (own_up omg (by (repeat (with_reducible first | exact Grew.refl _ | assumption | apply Grew.alloc | apply Grew.drew | apply Grew.drewN | (refine Grew.setCell ?_ (by simp; try omega) _) | (refine Grew.trans ?_ (by assumption))))) (upIntR_length _ _)) (by omega) (by omega) hRl).mono ?_; rintro e w16 ⟨rfl, h16⟩
  go_wp2_with fail
  go_ret
  go_light
  refine ⟨rfl, ?_⟩
  (repeat (with_reducible first | exact Grew.refl _ | assumption | apply Grew.alloc | apply Grew.drew | apply Grew.drewN | (refine Grew.setCell ?_ (by simp; try omega) _) | (refine Grew.trans ?_ (by assumption))))

set_option maxRecDepth 100000 in
theorem lifted (os : Os) (started : os.Started) (H : Type) (enc : TypeId × Value → H) :
    ReturnsInHanded {} Try.checked os 6 .any (Rows.fnExactBestOrderSpec.pre6 enc Try.prog Try.f6 Rows.fnExactBestOrderRow.domain false) (Rows.fnExactBestOrderSpec.post enc Try.prog Try.f6 false true false false) := by
  refine returnsInHanded_of_change (C := Try.checked) own started (by kernel_rfl) Try.func6
    (ChangeSpec.witness6 (enc := enc) (C := Try.checked) false ⟨#[], #[.slice none 0 0], []⟩ 8 (by kernel_rfl) (by kernel_rfl) (by kernel_rfl) (by kernel_rfl)) ?_
  intro W base args ds gs before hval0 hW hcnd _
  have hval : ∀ (j : Nat) t v, Try.f6.params[j]? = some t → args[j]? = some v → Value.okWide Try.prog W .any base t v := hval0
  have hW' := hW
  obtain ⟨p, q, hA0, hV, rfl, hfz, hnd⟩ := hW
  have hA : DataW.TrodAll enc Try.prog W 0 (fun _ => true) true Try.f6.params.toList args.toList ds p := hA0
  rw [Try.params6] at hA hval
  obtain ⟨v0, vs0, d0, ds0, p0, q0, hargs, rfl, rfl, h0, r0⟩ := trodAll_cons hA
  obtain ⟨rfl, rfl, rfl⟩ := trodAll_nil r0
  obtain rfl : args = #[v0] := by cases args; simp_all
  obtain ⟨L, A, c, rfl, r_L, q1_L, q2_L, k_L⟩ := IntSS.open_ (hval 0 22 v0 rfl rfl) h0
  refine (walk W L A c r_L ⟨q1_L, q2_L⟩ k_L).mono fun e W' ⟨he, hg⟩ => ?_
  subst he
  exact ⟨_, rfl, law_step (tb := 4) laidOut (by rw [Try.params6]; exact pars_of (by kernel_rfl)) rfl hW' rfl rfl rfl (by kernel_rfl) Try.underlying4 hg⟩

theorem over : Rows.fnExactBestOrderRow.holds Try.pinned (OpenSpec.ofChange Rows.fnExactBestOrderSpec) :=
  OpenClaim.holds_of_wide 6 Try.f6 rfl rfl rfl rfl rfl rfl rfl ⟨rfl, rfl, rfl, rfl, rfl⟩ rfl rfl rfl rfl rfl (by kernel_rfl) Try.func6 (by kernel_rfl)
    (of_decide_eq_true (by kernel_rfl)) (by unfold Func.isWrapper; first | (rw [if_pos (by decide +kernel)]; kernel_rfl) | (rw [if_neg (by decide +kernel)]; exact ⟨rfl, rfl⟩))
    (fun os started H enc _ => lifted os started H enc)

theorem proved : Rows.FnExactBestOrderSaid := over
end fnExactBestOrder
end Go.Proofs.Ytfplgagdjdhopaa
