/- A move applied to holdings: ApplyMove of the program and of the reference return what one plain function returns. Conditions: none. -/
import Derived.Test.YtfbfhccgohmeiaaStk
namespace Go.Proofs.Ytfbfhccgohmeiaa
open Go.RowKit Go.ChangeShapes Go.WideShapes Go.Deep
set_option linter.unusedVariables false
set_option linter.unusedSimpArgs false

theorem change_one {l : List Hold} {x : Mv} (F : MvFacts l x) (hf : x.ff.toList ≠ []) (A : Option Addr) (c : Nat) (w : World) (h : Rd Hold.E w A l) :
    Calls Try.prog 52 #[.slice A l.length c, .agg #[.string x.it, .string x.ba, .string x.ff, .int .i64 (-x.q)]] w fun e w' => ∃ A' c', e = .returned (.slice A' (mvOne l x).length c') ∧ Own Hold.E 60 w' w.heap.size (.slice A' (mvOne l x).length c') (mvOne l x) ∧ Grew w w' := by
  have h1 := F.len
  have h2 := F.q1
  have h3 := F.q2
  have := change_any l A c ⟨x.it, x.ba, x.ff, -x.q⟩ w h (by omega) F.small ⟨by simp only; omega, by simp only; omega⟩
  rw [F.one_chg hf] at this
  exact this
theorem change_two {l : List Hold} {x : Mv} (F : MvFacts l x) (hf : x.tt.toList ≠ []) (A : Option Addr) (n c : Nat) (w : World) (h : Rd Hold.E w A (mvOne l x)) (hn : n = (mvOne l x).length) :
    Calls Try.prog 52 #[.slice A n c, .agg #[.string x.it, .string x.ba, .string x.tt, .int .i64 x.q]] w fun e w' => ∃ A' c', e = .returned (.slice A' (mvF l x).length c') ∧ Own Hold.E 60 w' w.heap.size (.slice A' (mvF l x).length c') (mvF l x) ∧ Grew w w' := by
  have h1 := F.len1
  have h2 := F.q1
  have h3 := F.q2
  subst hn
  have := change_any (mvOne l x) A c ⟨x.it, x.ba, x.tt, x.q⟩ w h (by omega) F.small1 ⟨by simp only; omega, by simp only; omega⟩
  rw [F.two_chg hf] at this
  exact this
theorem areHoldings_n (l : List Hold) (A : Option Addr) (n c : Nat) (w : World) (h : Rd Hold.E w A l) (hok : ∀ x ∈ l, x.Ok) (hn : l.length ≤ 4194304) (e : n = l.length) :
    Calls Try.prog 19 #[.slice A n c] w fun e w' => e = .returned (.bool (areH l)) ∧ Grew w w' := by
  subst e
  exact areHoldings_impl l A c w h hok hn
theorem preMv_no {l : List Hold} {x : Mv} (h : preMv l x = false) : areH l = false ∨ (areH l = true ∧ mvOk x.day x.it x.ba x.ff x.tt x.q = false) ∨ (areH l = true ∧ mvOk x.day x.it x.ba x.ff x.tt x.q = true ∧ x.ff.toList.isEmpty = false ∧ decide (qtyF l x.it x.ba x.ff < x.q) = true) := by
  revert h
  unfold preMv
  cases areH l <;> cases mvOk x.day x.it x.ba x.ff x.tt x.q <;> cases x.ff.toList.isEmpty <;> cases decide (qtyF l x.it x.ba x.ff < x.q) <;> simp
theorem preMv_yes {l : List Hold} {x : Mv} (h : preMv l x = true) : areH l = true ∧ mvOk x.day x.it x.ba x.ff x.tt x.q = true ∧ (x.ff.toList.isEmpty = true ∨ (x.ff.toList.isEmpty = false ∧ decide (qtyF l x.it x.ba x.ff < x.q) = false)) := by
  revert h
  unfold preMv
  cases areH l <;> cases mvOk x.day x.it x.ba x.ff x.tt x.q <;> cases x.ff.toList.isEmpty <;> cases decide (qtyF l x.it x.ba x.ff < x.q) <;> simp
theorem ne_of_isEmpty {l : List UInt8} (h : l.isEmpty = false) : l ≠ [] := fun e => by rw [e] at h; cases h

set_option maxHeartbeats 8000000 in
theorem applyMove_impl (l : List Hold) (A : Option Addr) (c : Nat) (x : Mv) (w : World) (h : Rd Hold.E w A l) (hok : ∀ y ∈ l, y.Ok) (hn : l.length ≤ 4194304) (hx : x.Ok) :
    Calls Try.prog 29 #[.slice A l.length c, x.v] w fun e w' => ∃ A' c', e = .returned (.tuple #[.slice A' (applyF l x).1.length c', .bool (applyF l x).2]) ∧ Own Hold.E 60 w' w.heap.size (.slice A' (applyF l x).1.length c') (applyF l x).1 ∧ Grew w w' := by
  have HL := Lib.hid h
  have HOK := Lib.hid hok
  have HXO := Lib.hid hx
  obtain ⟨_, s1, s2, s3, s4, _⟩ := hx
  clear h hok
  cases hp : preMv l x
  · have HF := Lib.hid (show applyF l x = ([], false) by simp [applyF, canMv, hp])
    rcases preMv_no hp with a1 | ⟨a1, a2⟩ | ⟨a1, a2, a3, a4⟩
    · clear hp
      go_enter Try.func29, Try.ntmps29
      go_wp2_with fail
      (refine wp_region_grow_lit (by kernel_rfl) (by kernel_rfl) ?_; repeat (any_goals (first | go_big_quiet_step ((first | (go_at_call 19; exact quiet_grew (areHoldings_impl l _ _ _ ((HL.out.grew ((Grew.refl _).alloc _)).gw _) HOK.out hn)) | (go_at_call 15; exact quiet_grew (isMove_impl x _ s1 s2 s3 s4)) | (go_at_call 22; exact quiet_grew (quantityAt_impl l _ _ x.it x.ba x.ff _ ((HL.out.grew ((Grew.refl _).alloc _)).gw _) HOK.out hn)))) | quiet_step ((first | (go_at_call 19; exact quiet_grew (areHoldings_impl l _ _ _ ((HL.out.grew ((Grew.refl _).alloc _)).gw _) HOK.out hn)) | (go_at_call 15; exact quiet_grew (isMove_impl x _ s1 s2 s3 s4)) | (go_at_call 22; exact quiet_grew (quantityAt_impl l _ _ x.it x.ba x.ff _ ((HL.out.grew ((Grew.refl _).alloc _)).gw _) HOK.out hn)))) | (refine wpQuiet_step (fun K hK => ?_); go_simp; split <;> rename_i hsp <;> (refine hK _ ?_; clear hK K) <;> (try first | simp only [hsp, decide_true, decide_false, Bool.not_true, Bool.not_false] | simp only [Int.not_le.2 hsp, decide_false, Bool.not_false] | simp only [Int.not_lt.2 hsp, decide_false, Bool.not_false] | simp only [Nat.not_le.2 hsp, decide_false, Bool.not_false] | simp only [Nat.not_lt.2 hsp, decide_false, Bool.not_false])))))
      all_goals (refine wpQuiet_nil ?_; intro w1 h1)
      go_wp2_with fail
      go_ret2
      go_light
      exact ⟨none, 0, by rw [HF.out]; rfl, by rw [HF.out]; exact Own.none_, ((Grew.refl _).alloc _).trans h1⟩
    · clear hp
      go_enter Try.func29, Try.ntmps29
      go_wp2_with fail
      (refine wp_region_grow_lit (by kernel_rfl) (by kernel_rfl) ?_; repeat (any_goals (first | go_big_quiet_step ((first | (go_at_call 19; exact quiet_grew (areHoldings_impl l _ _ _ ((HL.out.grew ((Grew.refl _).alloc _)).gw _) HOK.out hn)) | (go_at_call 15; exact quiet_grew (isMove_impl x _ s1 s2 s3 s4)) | (go_at_call 22; exact quiet_grew (quantityAt_impl l _ _ x.it x.ba x.ff _ ((HL.out.grew ((Grew.refl _).alloc _)).gw _) HOK.out hn)))) | quiet_step ((first | (go_at_call 19; exact quiet_grew (areHoldings_impl l _ _ _ ((HL.out.grew ((Grew.refl _).alloc _)).gw _) HOK.out hn)) | (go_at_call 15; exact quiet_grew (isMove_impl x _ s1 s2 s3 s4)) | (go_at_call 22; exact quiet_grew (quantityAt_impl l _ _ x.it x.ba x.ff _ ((HL.out.grew ((Grew.refl _).alloc _)).gw _) HOK.out hn)))) | (refine wpQuiet_step (fun K hK => ?_); go_simp; split <;> rename_i hsp <;> (refine hK _ ?_; clear hK K) <;> (try first | simp only [hsp, decide_true, decide_false, Bool.not_true, Bool.not_false] | simp only [Int.not_le.2 hsp, decide_false, Bool.not_false] | simp only [Int.not_lt.2 hsp, decide_false, Bool.not_false] | simp only [Nat.not_le.2 hsp, decide_false, Bool.not_false] | simp only [Nat.not_lt.2 hsp, decide_false, Bool.not_false])))))
      all_goals (refine wpQuiet_nil ?_; intro w1 h1)
      go_wp2_with fail
      go_ret2
      go_light
      exact ⟨none, 0, by rw [HF.out]; rfl, by rw [HF.out]; exact Own.none_, ((Grew.refl _).alloc _).trans h1⟩
    · clear hp
      go_enter Try.func29, Try.ntmps29
      go_wp2_with fail
      (refine wp_region_grow_lit (by kernel_rfl) (by kernel_rfl) ?_; repeat (any_goals (first | go_big_quiet_step ((first | (go_at_call 19; exact quiet_grew (areHoldings_impl l _ _ _ ((HL.out.grew ((Grew.refl _).alloc _)).gw _) HOK.out hn)) | (go_at_call 15; exact quiet_grew (isMove_impl x _ s1 s2 s3 s4)) | (go_at_call 22; exact quiet_grew (quantityAt_impl l _ _ x.it x.ba x.ff _ ((HL.out.grew ((Grew.refl _).alloc _)).gw _) HOK.out hn)))) | quiet_step ((first | (go_at_call 19; exact quiet_grew (areHoldings_impl l _ _ _ ((HL.out.grew ((Grew.refl _).alloc _)).gw _) HOK.out hn)) | (go_at_call 15; exact quiet_grew (isMove_impl x _ s1 s2 s3 s4)) | (go_at_call 22; exact quiet_grew (quantityAt_impl l _ _ x.it x.ba x.ff _ ((HL.out.grew ((Grew.refl _).alloc _)).gw _) HOK.out hn)))) | (refine wpQuiet_step (fun K hK => ?_); go_simp; split <;> rename_i hsp <;> (refine hK _ ?_; clear hK K) <;> (try first | simp only [hsp, decide_true, decide_false, Bool.not_true, Bool.not_false] | simp only [Int.not_le.2 hsp, decide_false, Bool.not_false] | simp only [Int.not_lt.2 hsp, decide_false, Bool.not_false] | simp only [Nat.not_le.2 hsp, decide_false, Bool.not_false] | simp only [Nat.not_lt.2 hsp, decide_false, Bool.not_false])))))
      all_goals (refine wpQuiet_nil ?_; intro w1 h1)
      go_wp2_with fail
      go_ret2
      go_light
      exact ⟨none, 0, by rw [HF.out]; rfl, by rw [HF.out]; exact Own.none_, ((Grew.refl _).alloc _).trans h1⟩
  have F := mv_facts hp
  have HMO := Lib.hid (mv_ok hp HOK.out HXO.out)
  obtain ⟨a1, a2, a3⟩ := preMv_yes hp
  have HF := Lib.hid (show areH (mvF l x) = true → applyF l x = (mvF l x, true) from fun hz => by simp [applyF, canMv, hp, hz])
  have HN := Lib.hid (show areH (mvF l x) = false → applyF l x = ([], false) from fun hz => by simp [applyF, canMv, hp, hz])
  have q1 := F.q1
  have q2 := F.q2
  have n0 := F.len
  have n1 := F.len1
  have n2 := F.len2
  have HFA := Lib.hid F
  clear hp F
  rcases a3 with a3 | ⟨a3, a4⟩
  · cases a5 : x.tt.toList.isEmpty
    · go_enter Try.func29, Try.ntmps29
      go_wp2_with fail
      (refine wp_region_grow_lit (by kernel_rfl) (by kernel_rfl) ?_; repeat (any_goals (first | go_big_quiet_step ((first | (go_at_call 19; exact quiet_grew (areHoldings_impl l _ _ _ ((HL.out.grew ((Grew.refl _).alloc _)).gw _) HOK.out hn)) | (go_at_call 15; exact quiet_grew (isMove_impl x _ s1 s2 s3 s4)) | (go_at_call 22; exact quiet_grew (quantityAt_impl l _ _ x.it x.ba x.ff _ ((HL.out.grew ((Grew.refl _).alloc _)).gw _) HOK.out hn)))) | quiet_step ((first | (go_at_call 19; exact quiet_grew (areHoldings_impl l _ _ _ ((HL.out.grew ((Grew.refl _).alloc _)).gw _) HOK.out hn)) | (go_at_call 15; exact quiet_grew (isMove_impl x _ s1 s2 s3 s4)) | (go_at_call 22; exact quiet_grew (quantityAt_impl l _ _ x.it x.ba x.ff _ ((HL.out.grew ((Grew.refl _).alloc _)).gw _) HOK.out hn)))) | (refine wpQuiet_step (fun K hK => ?_); go_simp; split <;> rename_i hsp <;> (refine hK _ ?_; clear hK K) <;> (try first | simp only [hsp, decide_true, decide_false, Bool.not_true, Bool.not_false] | simp only [Int.not_le.2 hsp, decide_false, Bool.not_false] | simp only [Int.not_lt.2 hsp, decide_false, Bool.not_false] | simp only [Nat.not_le.2 hsp, decide_false, Bool.not_false] | simp only [Nat.not_lt.2 hsp, decide_false, Bool.not_false])))))
      all_goals (refine wpQuiet_nil ?_; intro w1 h1)
      have HX1 := Lib.hid ((Bx.new_ (E := Mv.E) w x 26).grew h1)
      have hxs : w.heap.size < w1.heap.size := HX1.out.1
      have HG1 := Lib.hid (((Grew.refl w).alloc _).trans h1)
      clear h1
      go_wp2_with (at_builtin; refine wpList_append_rd _ rfl (.tmp 33) (.tmp 34) _ rfl sl_Hold w.heap.size _ _ _ ([] : List Hold) rfl (Own.new_ HG1.out.le) _ _ _ l rfl rfl (HL.out.grew (HG1.out.alloc _)) (by simp; omega) (le_al HG1.out rfl) ?_; intro A3 c3 w3 ho3 hgr3 hat3; have HO3 := Lib.hid (show Own Hold.E 60 w3 w.heap.size (.slice A3 l.length c3) l by simpa using ho3); have HX3 := Lib.hid ((HX1.out.alloc _).kept hgr3 (by simp [Value.ownBlock]; omega)); have HG3 := Lib.hid ((HG1.out.alloc _).app (Own.new_ (E := Hold.E) (t := 60) (Nat.le_refl _)) HG1.out.le hgr3); clear ho3 hgr3 hat3; obtain ⟨x30, x31, x32, x33, x34, x35, x36, x37⟩ := Mv.bx HX3.out)
      refine (change_two HFA.out (ne_of_isEmpty a5) _ _ _ _ (by rw [HFA.out.one_id (List.isEmpty_iff.1 a3)]; exact HO3.out.rd) (by rw [HFA.out.one_id (List.isEmpty_iff.1 a3)])).mono ?_; rintro e w5 ⟨A5, c5, rfl, ho5, hg5⟩
      have HO5 := Lib.hid (ho5.mono HG3.out.le)
      have HG5 := Lib.hid (HG3.out.trans hg5)
      clear ho5 hg5
      go_wp2_with fail
      have HE := Lib.hid ((rfl : mvF l x = mvF l x))
      have HO6 := Lib.hid (own_fin2 HO5.out HE.out)
      refine (areHoldings_n (mvF l x) _ _ _ _ HO6.out.rd HMO.out (by omega) (by rw [HE.out])).mono ?_; rintro e w6 ⟨rfl, h6⟩
      cases hz : areH (mvF l x)
      · go_wp2_with fail
        go_ret2
        go_light
        exact ⟨none, 0, by rw [HN.out hz]; rfl, by rw [HN.out hz]; exact Own.none_, HG5.out.trans h6⟩
      · go_wp2_with fail
        go_ret2
        go_light
        exact ⟨_, _, by rw [HF.out hz]; exact ret_val (congrArg (fun v => Value.tuple #[v, .bool true]) (own_fin1 HO5.out rfl rfl)), by rw [HF.out hz]; exact HO6.out.grew h6, HG5.out.trans h6⟩
    · go_enter Try.func29, Try.ntmps29
      go_wp2_with fail
      (refine wp_region_grow_lit (by kernel_rfl) (by kernel_rfl) ?_; repeat (any_goals (first | go_big_quiet_step ((first | (go_at_call 19; exact quiet_grew (areHoldings_impl l _ _ _ ((HL.out.grew ((Grew.refl _).alloc _)).gw _) HOK.out hn)) | (go_at_call 15; exact quiet_grew (isMove_impl x _ s1 s2 s3 s4)) | (go_at_call 22; exact quiet_grew (quantityAt_impl l _ _ x.it x.ba x.ff _ ((HL.out.grew ((Grew.refl _).alloc _)).gw _) HOK.out hn)))) | quiet_step ((first | (go_at_call 19; exact quiet_grew (areHoldings_impl l _ _ _ ((HL.out.grew ((Grew.refl _).alloc _)).gw _) HOK.out hn)) | (go_at_call 15; exact quiet_grew (isMove_impl x _ s1 s2 s3 s4)) | (go_at_call 22; exact quiet_grew (quantityAt_impl l _ _ x.it x.ba x.ff _ ((HL.out.grew ((Grew.refl _).alloc _)).gw _) HOK.out hn)))) | (refine wpQuiet_step (fun K hK => ?_); go_simp; split <;> rename_i hsp <;> (refine hK _ ?_; clear hK K) <;> (try first | simp only [hsp, decide_true, decide_false, Bool.not_true, Bool.not_false] | simp only [Int.not_le.2 hsp, decide_false, Bool.not_false] | simp only [Int.not_lt.2 hsp, decide_false, Bool.not_false] | simp only [Nat.not_le.2 hsp, decide_false, Bool.not_false] | simp only [Nat.not_lt.2 hsp, decide_false, Bool.not_false])))))
      all_goals (refine wpQuiet_nil ?_; intro w1 h1)
      have HX1 := Lib.hid ((Bx.new_ (E := Mv.E) w x 26).grew h1)
      have hxs : w.heap.size < w1.heap.size := HX1.out.1
      have HG1 := Lib.hid (((Grew.refl w).alloc _).trans h1)
      clear h1
      go_wp2_with (at_builtin; refine wpList_append_rd _ rfl (.tmp 33) (.tmp 34) _ rfl sl_Hold w.heap.size _ _ _ ([] : List Hold) rfl (Own.new_ HG1.out.le) _ _ _ l rfl rfl (HL.out.grew (HG1.out.alloc _)) (by simp; omega) (le_al HG1.out rfl) ?_; intro A3 c3 w3 ho3 hgr3 hat3; have HO3 := Lib.hid (show Own Hold.E 60 w3 w.heap.size (.slice A3 l.length c3) l by simpa using ho3); have HX3 := Lib.hid ((HX1.out.alloc _).kept hgr3 (by simp [Value.ownBlock]; omega)); have HG3 := Lib.hid ((HG1.out.alloc _).app (Own.new_ (E := Hold.E) (t := 60) (Nat.le_refl _)) HG1.out.le hgr3); clear ho3 hgr3 hat3; obtain ⟨x30, x31, x32, x33, x34, x35, x36, x37⟩ := Mv.bx HX3.out)
      have HE := Lib.hid (((HFA.out.two_id (List.isEmpty_iff.1 a5)).trans (HFA.out.one_id (List.isEmpty_iff.1 a3))))
      have HO6 := Lib.hid (own_fin2 HO3.out HE.out)
      refine (areHoldings_n (mvF l x) _ _ _ _ HO6.out.rd HMO.out (by omega) (by rw [HE.out])).mono ?_; rintro e w6 ⟨rfl, h6⟩
      cases hz : areH (mvF l x)
      · go_wp2_with fail
        go_ret2
        go_light
        exact ⟨none, 0, by rw [HN.out hz]; rfl, by rw [HN.out hz]; exact Own.none_, HG3.out.trans h6⟩
      · go_wp2_with fail
        go_ret2
        go_light
        exact ⟨_, _, by rw [HF.out hz]; exact ret_val (congrArg (fun v => Value.tuple #[v, .bool true]) (own_fin1 HO3.out HE.out rfl)), by rw [HF.out hz]; exact HO6.out.grew h6, HG3.out.trans h6⟩
  · cases a5 : x.tt.toList.isEmpty
    · go_enter Try.func29, Try.ntmps29
      go_wp2_with fail
      (refine wp_region_grow_lit (by kernel_rfl) (by kernel_rfl) ?_; repeat (any_goals (first | go_big_quiet_step ((first | (go_at_call 19; exact quiet_grew (areHoldings_impl l _ _ _ ((HL.out.grew ((Grew.refl _).alloc _)).gw _) HOK.out hn)) | (go_at_call 15; exact quiet_grew (isMove_impl x _ s1 s2 s3 s4)) | (go_at_call 22; exact quiet_grew (quantityAt_impl l _ _ x.it x.ba x.ff _ ((HL.out.grew ((Grew.refl _).alloc _)).gw _) HOK.out hn)))) | quiet_step ((first | (go_at_call 19; exact quiet_grew (areHoldings_impl l _ _ _ ((HL.out.grew ((Grew.refl _).alloc _)).gw _) HOK.out hn)) | (go_at_call 15; exact quiet_grew (isMove_impl x _ s1 s2 s3 s4)) | (go_at_call 22; exact quiet_grew (quantityAt_impl l _ _ x.it x.ba x.ff _ ((HL.out.grew ((Grew.refl _).alloc _)).gw _) HOK.out hn)))) | (refine wpQuiet_step (fun K hK => ?_); go_simp; split <;> rename_i hsp <;> (refine hK _ ?_; clear hK K) <;> (try first | simp only [hsp, decide_true, decide_false, Bool.not_true, Bool.not_false] | simp only [Int.not_le.2 hsp, decide_false, Bool.not_false] | simp only [Int.not_lt.2 hsp, decide_false, Bool.not_false] | simp only [Nat.not_le.2 hsp, decide_false, Bool.not_false] | simp only [Nat.not_lt.2 hsp, decide_false, Bool.not_false])))))
      all_goals (refine wpQuiet_nil ?_; intro w1 h1)
      have HX1 := Lib.hid ((Bx.new_ (E := Mv.E) w x 26).grew h1)
      have hxs : w.heap.size < w1.heap.size := HX1.out.1
      have HG1 := Lib.hid (((Grew.refl w).alloc _).trans h1)
      clear h1
      go_wp2_with (at_builtin; refine wpList_append_rd _ rfl (.tmp 33) (.tmp 34) _ rfl sl_Hold w.heap.size _ _ _ ([] : List Hold) rfl (Own.new_ HG1.out.le) _ _ _ l rfl rfl (HL.out.grew (HG1.out.alloc _)) (by simp; omega) (le_al HG1.out rfl) ?_; intro A3 c3 w3 ho3 hgr3 hat3; have HO3 := Lib.hid (show Own Hold.E 60 w3 w.heap.size (.slice A3 l.length c3) l by simpa using ho3); have HX3 := Lib.hid ((HX1.out.alloc _).kept hgr3 (by simp [Value.ownBlock]; omega)); have HG3 := Lib.hid ((HG1.out.alloc _).app (Own.new_ (E := Hold.E) (t := 60) (Nat.le_refl _)) HG1.out.le hgr3); clear ho3 hgr3 hat3; obtain ⟨x30, x31, x32, x33, x34, x35, x36, x37⟩ := Mv.bx HX3.out)
      refine (change_one HFA.out (ne_of_isEmpty a3) _ _ _ HO3.out.rd).mono ?_; rintro e w4 ⟨A4, c4, rfl, ho4, hg4⟩
      have HO4 := Lib.hid (ho4.mono HG3.out.le)
      have HX4 := Lib.hid (HX3.out.grew hg4)
      have HG4 := Lib.hid (HG3.out.trans hg4)
      clear ho4 hg4 x30 x31 x32 x33 x34 x35 x36 x37
      obtain ⟨x40, x41, x42, x43, x44, x45, x46, x47⟩ := Mv.bx HX4.out
      go_wp2_with fail
      refine (change_two HFA.out (ne_of_isEmpty a5) _ _ _ _ HO4.out.rd rfl).mono ?_; rintro e w5 ⟨A5, c5, rfl, ho5, hg5⟩
      have HO5 := Lib.hid (ho5.mono HG4.out.le)
      have HG5 := Lib.hid (HG4.out.trans hg5)
      clear ho5 hg5
      go_wp2_with fail
      have HE := Lib.hid ((rfl : mvF l x = mvF l x))
      have HO6 := Lib.hid (own_fin2 HO5.out HE.out)
      refine (areHoldings_n (mvF l x) _ _ _ _ HO6.out.rd HMO.out (by omega) (by rw [HE.out])).mono ?_; rintro e w6 ⟨rfl, h6⟩
      cases hz : areH (mvF l x)
      · go_wp2_with fail
        go_ret2
        go_light
        exact ⟨none, 0, by rw [HN.out hz]; rfl, by rw [HN.out hz]; exact Own.none_, HG5.out.trans h6⟩
      · go_wp2_with fail
        go_ret2
        go_light
        exact ⟨_, _, by rw [HF.out hz]; exact ret_val (congrArg (fun v => Value.tuple #[v, .bool true]) (own_fin1 HO5.out rfl rfl)), by rw [HF.out hz]; exact HO6.out.grew h6, HG5.out.trans h6⟩
    · go_enter Try.func29, Try.ntmps29
      go_wp2_with fail
      (refine wp_region_grow_lit (by kernel_rfl) (by kernel_rfl) ?_; repeat (any_goals (first | go_big_quiet_step ((first | (go_at_call 19; exact quiet_grew (areHoldings_impl l _ _ _ ((HL.out.grew ((Grew.refl _).alloc _)).gw _) HOK.out hn)) | (go_at_call 15; exact quiet_grew (isMove_impl x _ s1 s2 s3 s4)) | (go_at_call 22; exact quiet_grew (quantityAt_impl l _ _ x.it x.ba x.ff _ ((HL.out.grew ((Grew.refl _).alloc _)).gw _) HOK.out hn)))) | quiet_step ((first | (go_at_call 19; exact quiet_grew (areHoldings_impl l _ _ _ ((HL.out.grew ((Grew.refl _).alloc _)).gw _) HOK.out hn)) | (go_at_call 15; exact quiet_grew (isMove_impl x _ s1 s2 s3 s4)) | (go_at_call 22; exact quiet_grew (quantityAt_impl l _ _ x.it x.ba x.ff _ ((HL.out.grew ((Grew.refl _).alloc _)).gw _) HOK.out hn)))) | (refine wpQuiet_step (fun K hK => ?_); go_simp; split <;> rename_i hsp <;> (refine hK _ ?_; clear hK K) <;> (try first | simp only [hsp, decide_true, decide_false, Bool.not_true, Bool.not_false] | simp only [Int.not_le.2 hsp, decide_false, Bool.not_false] | simp only [Int.not_lt.2 hsp, decide_false, Bool.not_false] | simp only [Nat.not_le.2 hsp, decide_false, Bool.not_false] | simp only [Nat.not_lt.2 hsp, decide_false, Bool.not_false])))))
      all_goals (refine wpQuiet_nil ?_; intro w1 h1)
      have HX1 := Lib.hid ((Bx.new_ (E := Mv.E) w x 26).grew h1)
      have hxs : w.heap.size < w1.heap.size := HX1.out.1
      have HG1 := Lib.hid (((Grew.refl w).alloc _).trans h1)
      clear h1
      go_wp2_with (at_builtin; refine wpList_append_rd _ rfl (.tmp 33) (.tmp 34) _ rfl sl_Hold w.heap.size _ _ _ ([] : List Hold) rfl (Own.new_ HG1.out.le) _ _ _ l rfl rfl (HL.out.grew (HG1.out.alloc _)) (by simp; omega) (le_al HG1.out rfl) ?_; intro A3 c3 w3 ho3 hgr3 hat3; have HO3 := Lib.hid (show Own Hold.E 60 w3 w.heap.size (.slice A3 l.length c3) l by simpa using ho3); have HX3 := Lib.hid ((HX1.out.alloc _).kept hgr3 (by simp [Value.ownBlock]; omega)); have HG3 := Lib.hid ((HG1.out.alloc _).app (Own.new_ (E := Hold.E) (t := 60) (Nat.le_refl _)) HG1.out.le hgr3); clear ho3 hgr3 hat3; obtain ⟨x30, x31, x32, x33, x34, x35, x36, x37⟩ := Mv.bx HX3.out)
      refine (change_one HFA.out (ne_of_isEmpty a3) _ _ _ HO3.out.rd).mono ?_; rintro e w4 ⟨A4, c4, rfl, ho4, hg4⟩
      have HO4 := Lib.hid (ho4.mono HG3.out.le)
      have HX4 := Lib.hid (HX3.out.grew hg4)
      have HG4 := Lib.hid (HG3.out.trans hg4)
      clear ho4 hg4 x30 x31 x32 x33 x34 x35 x36 x37
      obtain ⟨x40, x41, x42, x43, x44, x45, x46, x47⟩ := Mv.bx HX4.out
      go_wp2_with fail
      have HE := Lib.hid (HFA.out.two_id (List.isEmpty_iff.1 a5))
      have HO6 := Lib.hid (own_fin2 HO4.out HE.out)
      refine (areHoldings_n (mvF l x) _ _ _ _ HO6.out.rd HMO.out (by omega) (by rw [HE.out])).mono ?_; rintro e w6 ⟨rfl, h6⟩
      cases hz : areH (mvF l x)
      · go_wp2_with fail
        go_ret2
        go_light
        exact ⟨none, 0, by rw [HN.out hz]; rfl, by rw [HN.out hz]; exact Own.none_, HG4.out.trans h6⟩
      · go_wp2_with fail
        go_ret2
        go_light
        exact ⟨_, _, by rw [HF.out hz]; exact ret_val (congrArg (fun v => Value.tuple #[v, .bool true]) (own_fin1 HO4.out HE.out rfl)), by rw [HF.out hz]; exact HO6.out.grew h6, HG4.out.trans h6⟩

set_option maxHeartbeats 8000000 in
theorem applyMove_spec (l : List Hold) (A : Option Addr) (c : Nat) (x : Mv) (w : World) (h : Rd Hold.E w A l) (hok : ∀ y ∈ l, y.Ok) (hn : l.length ≤ 4194304) (hx : x.Ok) (hlc : l.length ≤ c) (hcm : c ≤ maxLen) :
    Calls Try.prog 28 #[.slice A l.length c, x.v] w fun e w' => ∃ A' c', e = .returned (.tuple #[.slice A' (applyF l x).1.length c', .bool (applyF l x).2]) ∧ Own Hold.E 60 w' w.heap.size (.slice A' (applyF l x).1.length c') (applyF l x).1 ∧ Grew w w' := by
  have HL := Lib.hid h
  have HOK := Lib.hid hok
  have HXO := Lib.hid hx
  obtain ⟨_, s1, s2, s3, s4, _⟩ := hx
  clear h hok
  cases hp : preMv l x
  · have HF := Lib.hid (show applyF l x = ([], false) by simp [applyF, canMv, hp])
    rcases preMv_no hp with a1 | ⟨a1, a2⟩ | ⟨a1, a2, a3, a4⟩
    · clear hp
      go_enter Try.func28, Try.ntmps28
      go_wp2_with fail
      (refine wp_region_grow_lit (by kernel_rfl) (by kernel_rfl) ?_; repeat (any_goals (first | go_big_quiet_step ((first | (go_at_call 17; exact quiet_grew (areHoldings_spec l _ _ _ ((HL.out.grew ((Grew.refl _).alloc _)).gw _) HOK.out hn)) | (go_at_call 13; exact quiet_grew (isMove_spec x _ s1 s2 s3 s4)) | (go_at_call 21; exact quiet_grew (quantityAt_spec l _ _ x.it x.ba x.ff _ ((HL.out.grew ((Grew.refl _).alloc _)).gw _) HOK.out hn)))) | quiet_step ((first | (go_at_call 17; exact quiet_grew (areHoldings_spec l _ _ _ ((HL.out.grew ((Grew.refl _).alloc _)).gw _) HOK.out hn)) | (go_at_call 13; exact quiet_grew (isMove_spec x _ s1 s2 s3 s4)) | (go_at_call 21; exact quiet_grew (quantityAt_spec l _ _ x.it x.ba x.ff _ ((HL.out.grew ((Grew.refl _).alloc _)).gw _) HOK.out hn)))) | (refine wpQuiet_step (fun K hK => ?_); go_simp; split <;> rename_i hsp <;> (refine hK _ ?_; clear hK K) <;> (try first | simp only [hsp, decide_true, decide_false, Bool.not_true, Bool.not_false] | simp only [Int.not_le.2 hsp, decide_false, Bool.not_false] | simp only [Int.not_lt.2 hsp, decide_false, Bool.not_false] | simp only [Nat.not_le.2 hsp, decide_false, Bool.not_false] | simp only [Nat.not_lt.2 hsp, decide_false, Bool.not_false])))))
      all_goals (refine wpQuiet_nil ?_; intro w1 h1)
      go_wp2_with fail
      go_ret2
      go_light
      exact ⟨some ⟨w1.heap.size, 0, none⟩, 0, by rw [HF.out]; rfl, by rw [HF.out]; exact Own.new_ (le_of_grew (((Grew.refl _).alloc _).trans h1) rfl), (((Grew.refl _).alloc _).trans h1).alloc _⟩
    · clear hp
      go_enter Try.func28, Try.ntmps28
      go_wp2_with fail
      (refine wp_region_grow_lit (by kernel_rfl) (by kernel_rfl) ?_; repeat (any_goals (first | go_big_quiet_step ((first | (go_at_call 17; exact quiet_grew (areHoldings_spec l _ _ _ ((HL.out.grew ((Grew.refl _).alloc _)).gw _) HOK.out hn)) | (go_at_call 13; exact quiet_grew (isMove_spec x _ s1 s2 s3 s4)) | (go_at_call 21; exact quiet_grew (quantityAt_spec l _ _ x.it x.ba x.ff _ ((HL.out.grew ((Grew.refl _).alloc _)).gw _) HOK.out hn)))) | quiet_step ((first | (go_at_call 17; exact quiet_grew (areHoldings_spec l _ _ _ ((HL.out.grew ((Grew.refl _).alloc _)).gw _) HOK.out hn)) | (go_at_call 13; exact quiet_grew (isMove_spec x _ s1 s2 s3 s4)) | (go_at_call 21; exact quiet_grew (quantityAt_spec l _ _ x.it x.ba x.ff _ ((HL.out.grew ((Grew.refl _).alloc _)).gw _) HOK.out hn)))) | (refine wpQuiet_step (fun K hK => ?_); go_simp; split <;> rename_i hsp <;> (refine hK _ ?_; clear hK K) <;> (try first | simp only [hsp, decide_true, decide_false, Bool.not_true, Bool.not_false] | simp only [Int.not_le.2 hsp, decide_false, Bool.not_false] | simp only [Int.not_lt.2 hsp, decide_false, Bool.not_false] | simp only [Nat.not_le.2 hsp, decide_false, Bool.not_false] | simp only [Nat.not_lt.2 hsp, decide_false, Bool.not_false])))))
      all_goals (refine wpQuiet_nil ?_; intro w1 h1)
      go_wp2_with fail
      go_ret2
      go_light
      exact ⟨some ⟨w1.heap.size, 0, none⟩, 0, by rw [HF.out]; rfl, by rw [HF.out]; exact Own.new_ (le_of_grew (((Grew.refl _).alloc _).trans h1) rfl), (((Grew.refl _).alloc _).trans h1).alloc _⟩
    · clear hp
      go_enter Try.func28, Try.ntmps28
      go_wp2_with fail
      (refine wp_region_grow_lit (by kernel_rfl) (by kernel_rfl) ?_; repeat (any_goals (first | go_big_quiet_step ((first | (go_at_call 17; exact quiet_grew (areHoldings_spec l _ _ _ ((HL.out.grew ((Grew.refl _).alloc _)).gw _) HOK.out hn)) | (go_at_call 13; exact quiet_grew (isMove_spec x _ s1 s2 s3 s4)) | (go_at_call 21; exact quiet_grew (quantityAt_spec l _ _ x.it x.ba x.ff _ ((HL.out.grew ((Grew.refl _).alloc _)).gw _) HOK.out hn)))) | quiet_step ((first | (go_at_call 17; exact quiet_grew (areHoldings_spec l _ _ _ ((HL.out.grew ((Grew.refl _).alloc _)).gw _) HOK.out hn)) | (go_at_call 13; exact quiet_grew (isMove_spec x _ s1 s2 s3 s4)) | (go_at_call 21; exact quiet_grew (quantityAt_spec l _ _ x.it x.ba x.ff _ ((HL.out.grew ((Grew.refl _).alloc _)).gw _) HOK.out hn)))) | (refine wpQuiet_step (fun K hK => ?_); go_simp; split <;> rename_i hsp <;> (refine hK _ ?_; clear hK K) <;> (try first | simp only [hsp, decide_true, decide_false, Bool.not_true, Bool.not_false] | simp only [Int.not_le.2 hsp, decide_false, Bool.not_false] | simp only [Int.not_lt.2 hsp, decide_false, Bool.not_false] | simp only [Nat.not_le.2 hsp, decide_false, Bool.not_false] | simp only [Nat.not_lt.2 hsp, decide_false, Bool.not_false])))))
      all_goals (refine wpQuiet_nil ?_; intro w1 h1)
      go_wp2_with fail
      go_ret2
      go_light
      exact ⟨some ⟨w1.heap.size, 0, none⟩, 0, by rw [HF.out]; rfl, by rw [HF.out]; exact Own.new_ (le_of_grew (((Grew.refl _).alloc _).trans h1) rfl), (((Grew.refl _).alloc _).trans h1).alloc _⟩
  have F := mv_facts hp
  have HMO := Lib.hid (mv_ok hp HOK.out HXO.out)
  obtain ⟨a1, a2, a3⟩ := preMv_yes hp
  have HF := Lib.hid (show areH (mvF l x) = true → applyF l x = (mvF l x, true) from fun hz => by simp [applyF, canMv, hp, hz])
  have HN := Lib.hid (show areH (mvF l x) = false → applyF l x = ([], false) from fun hz => by simp [applyF, canMv, hp, hz])
  have q1 := F.q1
  have q2 := F.q2
  have n0 := F.len
  have n1 := F.len1
  have n2 := F.len2
  have HFA := Lib.hid F
  clear hp F
  rcases a3 with a3 | ⟨a3, a4⟩
  · go_enter Try.func28, Try.ntmps28
    go_wp2_with fail
    (refine wp_region_grow_lit (by kernel_rfl) (by kernel_rfl) ?_; repeat (any_goals (first | go_big_quiet_step ((first | (go_at_call 17; exact quiet_grew (areHoldings_spec l _ _ _ ((HL.out.grew ((Grew.refl _).alloc _)).gw _) HOK.out hn)) | (go_at_call 13; exact quiet_grew (isMove_spec x _ s1 s2 s3 s4)) | (go_at_call 21; exact quiet_grew (quantityAt_spec l _ _ x.it x.ba x.ff _ ((HL.out.grew ((Grew.refl _).alloc _)).gw _) HOK.out hn)))) | quiet_step ((first | (go_at_call 17; exact quiet_grew (areHoldings_spec l _ _ _ ((HL.out.grew ((Grew.refl _).alloc _)).gw _) HOK.out hn)) | (go_at_call 13; exact quiet_grew (isMove_spec x _ s1 s2 s3 s4)) | (go_at_call 21; exact quiet_grew (quantityAt_spec l _ _ x.it x.ba x.ff _ ((HL.out.grew ((Grew.refl _).alloc _)).gw _) HOK.out hn)))) | (refine wpQuiet_step (fun K hK => ?_); go_simp; split <;> rename_i hsp <;> (refine hK _ ?_; clear hK K) <;> (try first | simp only [hsp, decide_true, decide_false, Bool.not_true, Bool.not_false] | simp only [Int.not_le.2 hsp, decide_false, Bool.not_false] | simp only [Int.not_lt.2 hsp, decide_false, Bool.not_false] | simp only [Nat.not_le.2 hsp, decide_false, Bool.not_false] | simp only [Nat.not_lt.2 hsp, decide_false, Bool.not_false])))))
    all_goals (refine wpQuiet_nil ?_; intro w1 h1)
    have HX1 := Lib.hid ((Bx.new_ (E := Mv.E) w x 26).grew h1)
    have HG1 := Lib.hid (((Grew.refl w).alloc _).trans h1)
    clear h1
    obtain ⟨x10, x11, x12, x13, x14, x15, x16, x17⟩ := Mv.bx HX1.out
    go_wp2_with fail
    refine (put_any l _ _ ⟨x.it, x.ba, x.ff, -x.q⟩ _ (HL.out.grew HG1.out) hlc hcm (by omega) HFA.out.small ⟨by simp only; omega, by simp only; omega⟩).mono ?_; rintro e w2 ⟨A2, c2, rfl, ho2, hg2⟩
    have HO2 := Lib.hid (show Own Hold.E 60 w2 w.heap.size (.slice A2 (mvOne l x).length c2) (mvOne l x) from ho2.mono HG1.out.le)
    have HX2 := Lib.hid (HX1.out.grew hg2)
    have HG2 := Lib.hid (HG1.out.trans hg2)
    clear ho2 hg2 x10 x11 x12 x13 x14 x15 x16 x17
    obtain ⟨x20, x21, x22, x23, x24, x25, x26, x27⟩ := Mv.bx HX2.out
    go_wp2_with fail
    refine (put_any (mvOne l x) _ _ ⟨x.it, x.ba, x.tt, x.q⟩ _ HO2.out.rd HO2.out.cap.2.1 HO2.out.cap.2.2 (by omega) HFA.out.small1 ⟨by simp only; omega, by simp only; omega⟩).mono ?_; rintro e w3 ⟨A3, c3, rfl, ho3, hg3⟩
    have HO3 := Lib.hid (show Own Hold.E 60 w3 w.heap.size (.slice A3 (mvF l x).length c3) (mvF l x) from ho3.mono HG2.out.le)
    have HG3 := Lib.hid (HG2.out.trans hg3)
    clear ho3 hg3 x20 x21 x22 x23 x24 x25 x26 x27
    go_wp2_with fail
    refine (areHoldings_spec (mvF l x) _ _ _ HO3.out.rd HMO.out (by omega)).mono ?_; rintro e w6 ⟨rfl, h6⟩
    cases hz : areH (mvF l x)
    · go_wp2_with fail
      go_ret2
      go_light
      exact ⟨some ⟨w6.heap.size, 0, none⟩, 0, by rw [HN.out hz]; rfl, by rw [HN.out hz]; exact Own.new_ (HG3.out.trans h6).le, (HG3.out.trans h6).alloc _⟩
    · go_wp2_with fail
      go_ret2
      go_light
      exact ⟨_, _, by rw [HF.out hz]; rfl, by rw [HF.out hz]; exact HO3.out.grew h6, HG3.out.trans h6⟩
  · go_enter Try.func28, Try.ntmps28
    go_wp2_with fail
    (refine wp_region_grow_lit (by kernel_rfl) (by kernel_rfl) ?_; repeat (any_goals (first | go_big_quiet_step ((first | (go_at_call 17; exact quiet_grew (areHoldings_spec l _ _ _ ((HL.out.grew ((Grew.refl _).alloc _)).gw _) HOK.out hn)) | (go_at_call 13; exact quiet_grew (isMove_spec x _ s1 s2 s3 s4)) | (go_at_call 21; exact quiet_grew (quantityAt_spec l _ _ x.it x.ba x.ff _ ((HL.out.grew ((Grew.refl _).alloc _)).gw _) HOK.out hn)))) | quiet_step ((first | (go_at_call 17; exact quiet_grew (areHoldings_spec l _ _ _ ((HL.out.grew ((Grew.refl _).alloc _)).gw _) HOK.out hn)) | (go_at_call 13; exact quiet_grew (isMove_spec x _ s1 s2 s3 s4)) | (go_at_call 21; exact quiet_grew (quantityAt_spec l _ _ x.it x.ba x.ff _ ((HL.out.grew ((Grew.refl _).alloc _)).gw _) HOK.out hn)))) | (refine wpQuiet_step (fun K hK => ?_); go_simp; split <;> rename_i hsp <;> (refine hK _ ?_; clear hK K) <;> (try first | simp only [hsp, decide_true, decide_false, Bool.not_true, Bool.not_false] | simp only [Int.not_le.2 hsp, decide_false, Bool.not_false] | simp only [Int.not_lt.2 hsp, decide_false, Bool.not_false] | simp only [Nat.not_le.2 hsp, decide_false, Bool.not_false] | simp only [Nat.not_lt.2 hsp, decide_false, Bool.not_false])))))
    all_goals (refine wpQuiet_nil ?_; intro w1 h1)
    have HX1 := Lib.hid ((Bx.new_ (E := Mv.E) w x 26).grew h1)
    have HG1 := Lib.hid (((Grew.refl w).alloc _).trans h1)
    clear h1
    obtain ⟨x10, x11, x12, x13, x14, x15, x16, x17⟩ := Mv.bx HX1.out
    go_wp2_with fail
    refine (put_any l _ _ ⟨x.it, x.ba, x.ff, -x.q⟩ _ (HL.out.grew HG1.out) hlc hcm (by omega) HFA.out.small ⟨by simp only; omega, by simp only; omega⟩).mono ?_; rintro e w2 ⟨A2, c2, rfl, ho2, hg2⟩
    have HO2 := Lib.hid (show Own Hold.E 60 w2 w.heap.size (.slice A2 (mvOne l x).length c2) (mvOne l x) from ho2.mono HG1.out.le)
    have HX2 := Lib.hid (HX1.out.grew hg2)
    have HG2 := Lib.hid (HG1.out.trans hg2)
    clear ho2 hg2 x10 x11 x12 x13 x14 x15 x16 x17
    obtain ⟨x20, x21, x22, x23, x24, x25, x26, x27⟩ := Mv.bx HX2.out
    go_wp2_with fail
    refine (put_any (mvOne l x) _ _ ⟨x.it, x.ba, x.tt, x.q⟩ _ HO2.out.rd HO2.out.cap.2.1 HO2.out.cap.2.2 (by omega) HFA.out.small1 ⟨by simp only; omega, by simp only; omega⟩).mono ?_; rintro e w3 ⟨A3, c3, rfl, ho3, hg3⟩
    have HO3 := Lib.hid (show Own Hold.E 60 w3 w.heap.size (.slice A3 (mvF l x).length c3) (mvF l x) from ho3.mono HG2.out.le)
    have HG3 := Lib.hid (HG2.out.trans hg3)
    clear ho3 hg3 x20 x21 x22 x23 x24 x25 x26 x27
    go_wp2_with fail
    refine (areHoldings_spec (mvF l x) _ _ _ HO3.out.rd HMO.out (by omega)).mono ?_; rintro e w6 ⟨rfl, h6⟩
    cases hz : areH (mvF l x)
    · go_wp2_with fail
      go_ret2
      go_light
      exact ⟨some ⟨w6.heap.size, 0, none⟩, 0, by rw [HN.out hz]; rfl, by rw [HN.out hz]; exact Own.new_ (HG3.out.trans h6).le, (HG3.out.trans h6).alloc _⟩
    · go_wp2_with fail
      go_ret2
      go_light
      exact ⟨_, _, by rw [HF.out hz]; rfl, by rw [HF.out hz]; exact HO3.out.grew h6, HG3.out.trans h6⟩

end Go.Proofs.Ytfbfhccgohmeiaa
