/- The library's insertion sort and its stable sort on few numbers, as the program's 'ordered' calls them. Conditions: none. -/
import Derived.Test.YteckhmbkagigjaaSrtP
namespace Go.Proofs.Yteckhmbkagigjaa
open Go.RowKit Go.ChangeShapes Go.WideShapes Go.Deep
set_option linter.unusedVariables false
set_option linter.unusedSimpArgs false

def ltOf_ (cmp : Int → Int → Int) (a b : Int) : Bool := decide (cmp a b < 0)
/-- A comparison of numbers of S by the closure, at every world that has grown out of w0. -/
def CmpIs (S : List Int) (cmp : Int → Int → Int) (p q : Addr) (w0 : World) : Prop :=
  ∀ a b, a ∈ S → b ∈ S → ∀ w', Grew w0 w' → Calls Try.prog 53 #[.int .i64 a, .int .i64 b, .pointer (some p), .pointer (some q)] w' fun e w'' => e = .returned (.int .i64 (cmp a b)) ∧ Grew w' w''
theorem CmpIs.at_ {S : List Int} {cmp : Int → Int → Int} {p q : Addr} {w0 : World} (h : CmpIs S cmp p q w0) {a b v : Int} (hv : cmp a b = v) (ha : a ∈ S) (hb : b ∈ S) {w' : World} (hg : Grew w0 w') :
    Calls Try.prog 53 #[.int .i64 a, .int .i64 b, .pointer (some p), .pointer (some q)] w' fun e w'' => e = .returned (.int .i64 v) ∧ Grew w' w'' := hv ▸ h a b ha hb w' hg

set_option maxRecDepth 100000 in
set_option maxHeartbeats 8000000 in
theorem insertion_any (l : List Int) (cmp : Int → Int → Int) (w0 : World) (g c : Nat) (p q : Addr) (w : World) (hown : Own IntS.E 3 w w0.heap.size (.slice (some ⟨g, 0, none⟩) l.length c) l) (hg : Grew w0 w) (hn : l.length ≤ 20) (hc : CmpIs l cmp p q w0) :
    Calls Try.prog 60 #[.slice (some ⟨g, 0, none⟩) l.length c, .int .i64 0, .int .i64 l.length, .func (.func 53) #[] #[.pointer (some p), .pointer (some q)]] w fun e w' =>
      e = .returned (.tuple #[]) ∧ Own IntS.E 3 w' w0.heap.size (.slice (some ⟨g, 0, none⟩) l.length c) (sortB (ltOf_ cmp) l) ∧ Grew w0 w' := by
  have HO := Lib.hid hown
  have HG := Lib.hid hg
  have HC := Lib.hid hc
  clear hown hg hc
  go_enter Try.func60, Try.ntmps60
  go_wp2_with fail
  go_loopw [8] (fun i wr => ∃ k : Nat, k ≤ l.length + 1 ∧ i = .int .i64 k ∧ Grew w0 wr ∧ Own IntS.E 3 wr w0.heap.size (.slice (some ⟨g, 0, none⟩) l.length c) (sortB (ltOf_ cmp) (l.take k) ++ l.drop k)) (fun i _ => l.length + 1 - (intOf i).toNat)
  case atStart => exact ⟨1, by omega, rfl, HG.out, by
    cases l with
    | nil => simpa [sortB] using HO.out
    | cons x l => simpa [sortB, insB, backN] using HO.out⟩
  case round =>
    obtain ⟨k, hk, rfl, hgk, hok⟩ := hrel
    have HGK := Lib.hid hgk
    have HOK := Lib.hid hok
    clear hgk hok
    by_cases hlt : k < l.length
    · obtain ⟨x, hx⟩ : ∃ x, l[k]? = some x := ⟨_, List.getElem?_eq_getElem hlt⟩
      have hxm : x ∈ l := List.mem_of_getElem? hx
      obtain ⟨s, hs⟩ : ∃ s, s = sortB (ltOf_ cmp) (l.take k) := ⟨_, rfl⟩
      have hsl : s.length = k := by rw [hs, sortB_length, List.length_take]; omega
      have HSM := Lib.hid (show ∀ y ∈ s, y ∈ l from fun y hy => List.mem_of_mem_take (sortB_mem.1 (hs ▸ hy)))
      have HD := Lib.hid (show l.drop k = x :: l.drop (k + 1) by rw [List.drop_eq_getElem_cons hlt]; congr 1; exact (List.getElem?_eq_some_iff.1 hx).2)
      have HN := Lib.hid (show sortB (ltOf_ cmp) (l.take (k + 1)) = insB (ltOf_ cmp) s x by rw [List.take_add_one, hx, hs]; exact sortB_snoc _ _ _)
      rw [← hs] at HOK
      have HOB := Lib.hid (show Own IntS.E 3 wr w0.heap.size (.slice (some ⟨g, 0, none⟩) l.length c) (s.take k ++ [x] ++ s.drop k ++ l.drop (k + 1)) by
        have h1 := HOK.out
        rw [HD.out] at h1
        rw [List.take_of_length_le (by omega), List.drop_eq_nil_of_le (by omega)]
        simpa using h1)
      have HBL := Lib.hid (backN_le (ltOf_ cmp x) s)
      have HSL := Lib.hid hsl
      have HX := Lib.hid hxm
      clear hx hs hsl hxm HOK HO HG
      go_wp2_with fail
      obtain ⟨wo, hwo⟩ : ∃ wo : World, wo = wr := ⟨_, rfl⟩
      subst hwo
      go_loopw [9] (fun i wr => ∃ j : Nat, j ≤ k ∧ backN (ltOf_ cmp x) s ≤ j ∧ i = .int .i64 j ∧ Grew w0 wr ∧ Own IntS.E 3 wr w0.heap.size (.slice (some ⟨g, 0, none⟩) l.length c) (s.take j ++ [x] ++ s.drop j ++ l.drop (k + 1))) (fun i _ => (intOf i).toNat)
      case atStart => exact ⟨k, Nat.le_refl _, by have := HBL.out; have := HSL.out; omega, rfl, HGK.out, HOB.out⟩
      case round =>
        obtain ⟨j, hj, hbj, rfl, hgj, hoj⟩ := hrel
        have HGJ := Lib.hid hgj
        have HOJ := Lib.hid hoj
        clear hgj hoj HGK HOB
        rcases Nat.eq_zero_or_pos j with h0 | h0
        · subst h0
          have HE := Lib.hid (show s.take 0 ++ [x] ++ s.drop 0 ++ l.drop (k + 1) = sortB (ltOf_ cmp) (l.take (k + 1)) ++ l.drop (k + 1) by
            rw [HN.out, insB, show backN (ltOf_ cmp x) s = 0 by omega])
          go_wp2_with fail
          (refine wp_region_grow_lit (by kernel_rfl) (by kernel_rfl) ?_; repeat (any_goals (first | go_big_quiet_step ((fail)) | quiet_step ((fail)) | (refine wpQuiet_step (fun K hK => ?_); go_simp; split <;> rename_i hsp <;> (refine hK _ ?_; clear hK K) <;> (try first | simp only [hsp, decide_true, decide_false, Bool.not_true, Bool.not_false] | simp only [Int.not_le.2 hsp, decide_false, Bool.not_false] | simp only [Int.not_lt.2 hsp, decide_false, Bool.not_false] | simp only [Nat.not_le.2 hsp, decide_false, Bool.not_false] | simp only [Nat.not_lt.2 hsp, decide_false, Bool.not_false])))))
          all_goals (refine wpQuiet_nil ?_; intro w1 h1)
          go_wp2_with fail
          go_roundw
          case rel =>
            go_light
            refine ⟨k + 1, by omega, by go_num, HGJ.out.trans h1, ?_⟩
            rw [← HE.out]
            exact HOJ.out.grew h1
          case measure => go_light; simp [intOf]; omega
        · obtain ⟨i, rfl⟩ : ∃ i, j = i + 1 := ⟨j - 1, by omega⟩
          have his : i < s.length := by have := HSL.out; omega
          obtain ⟨y, hy⟩ : ∃ y, s[i]? = some y := ⟨_, List.getElem?_eq_getElem his⟩
          have hli : (s.take (i + 1) ++ [x] ++ s.drop (i + 1) ++ l.drop (k + 1))[i]? = some y := (midB_prev his).trans hy
          have hlj : (s.take (i + 1) ++ [x] ++ s.drop (i + 1) ++ l.drop (k + 1))[i + 1]? = some x := midB_at his
          have hc0 : wr.cell? ⟨g, i, none⟩ = some (.int .i64 y) := by have := HOJ.out.at_ hli (j := 0) (u := .int .i64 y) rfl; simpa [IntS.E] using this
          have hc1 : wr.cell? ⟨g, i + 1, none⟩ = some (.int .i64 x) := by have := HOJ.out.at_ hlj (j := 0) (u := .int .i64 x) rfl; simpa [IntS.E] using this
          have HSW := Lib.hid (midB_swap (s := s) (r := l.drop (k + 1)) (x := x) his hy)
          have HLI := Lib.hid hli
          have HLJ := Lib.hid hlj
          have hiz : ((i + 1 : Nat) : Int) = (i : Int) + 1 := by omega
          rw [hiz]
          clear hiz
          have hz1 : IntKind.i64.wrap ((i : Int) + 1 - 1) = (i : Int) := by rw [IntKind.wrap_i64]; omega
          have hz2 : ((i : Int) + 1).toNat = i + 1 := by omega
          have hz3 : (0 : Int) ≤ (i : Int) + 1 := by omega
          have hz4 : (i : Int) + 1 < (l.length : Int) := by omega
          have hz5 : (i : Int) < (l.length : Int) := by omega
          have hz6 : (0 : Int) ≤ (i : Int) := by omega
          have hz7 : decide ((0 : Int) < (i : Int) + 1) = true := decide_eq_true (by omega)
          obtain ⟨v, hv⟩ : ∃ v, cmp x y = v := ⟨_, rfl⟩
          have HV := Lib.hid hv
          have HYM := Lib.hid (HSM.out y (List.mem_of_getElem? hy))
          by_cases hneg : v < 0
          · have hd : decide (v < 0) = true := decide_eq_true hneg
            have HB := Lib.hid (show backN (ltOf_ cmp x) s ≤ i by
              rcases Nat.lt_or_ge (backN (ltOf_ cmp x) s) (i + 1) with h9 | h9
              · omega
              · have := backN_out (p := ltOf_ cmp x) (show backN (ltOf_ cmp x) s = i + 1 by omega) hy
                rw [ltOf_, hv, hd] at this
                cases this)
            clear hv hy hli hlj hneg
            go_wp2_with fail
            (refine wp_region_grow_lit (by kernel_rfl) (by kernel_rfl) ?_; repeat (any_goals (first | go_big_quiet_step ((go_at_call 53; exact quiet_grew (HC.out.at_ HV.out HX.out HYM.out (HGJ.out.trans (gw_grew _ _))))) | quiet_step ((go_at_call 53; exact quiet_grew (HC.out.at_ HV.out HX.out HYM.out (HGJ.out.trans (gw_grew _ _))))) | (refine wpQuiet_step (fun K hK => ?_); go_simp; split <;> rename_i hsp <;> (refine hK _ ?_; clear hK K) <;> (try first | simp only [hsp, decide_true, decide_false, Bool.not_true, Bool.not_false] | simp only [Int.not_le.2 hsp, decide_false, Bool.not_false] | simp only [Int.not_lt.2 hsp, decide_false, Bool.not_false] | simp only [Nat.not_le.2 hsp, decide_false, Bool.not_false] | simp only [Nat.not_lt.2 hsp, decide_false, Bool.not_false])))))
            all_goals (refine wpQuiet_nil ?_; intro w1 h1)
            have HO1 := Lib.hid (HOJ.out.grew h1)
            have HG1 := Lib.hid (HGJ.out.trans h1)
            clear hc0 hc1 h1 hd hz7
            have hc0 : w1.cell? ⟨g, i, none⟩ = some (.int .i64 y) := by have := HO1.out.at_ HLI.out (j := 0) (u := .int .i64 y) rfl; simpa [IntS.E] using this
            have hc1 : w1.cell? ⟨g, i + 1, none⟩ = some (.int .i64 x) := by have := HO1.out.at_ HLJ.out (j := 0) (u := .int .i64 x) rfl; simpa [IntS.E] using this
            have hf := HO1.out.frozen
            go_wp2_with fail
            go_region
            have hs1 := HO1.out.set_ (i := i + 1) (j := 0) (x' := y) (u := .int .i64 y) HLJ.out rfl (by decide)
            rw [show (i + 1) * IntS.E.sz + 0 = i + 1 by simp [IntS.E]] at hs1
            have hs2 := hs1.set_ (i := i) (j := 0) (x := y) (x' := x) (u := .int .i64 x) (by rw [List.getElem?_set_ne (by omega)]; exact HLI.out) rfl (by decide)
            rw [show i * IntS.E.sz + 0 = i by simp [IntS.E], HSW.out] at hs2
            have HS2 := Lib.hid hs2
            have hgb := (HO1.out.block g rfl).1
            have HG2 := Lib.hid ((HG1.out.setCell (p := ⟨g, i + 1, none⟩) hgb (.int .i64 y)).setCell (p := ⟨g, i, none⟩) hgb (.int .i64 x))
            clear hs1 hs2 hc0 hc1 hf hgb
            go_wp2_with fail
            go_roundw
            case rel => go_light; exact ⟨i, by omega, HB.out, rfl, HG2.out.drew, HS2.out.drew⟩
            case measure => go_light; simp [intOf] <;> omega
          · have hd : decide (v < 0) = false := decide_eq_false hneg
            have HB := Lib.hid (show backN (ltOf_ cmp x) s = i + 1 by
              rcases Nat.lt_or_ge (backN (ltOf_ cmp x) s) (i + 1) with h9 | h9
              · have := backN_in (p := ltOf_ cmp x) (show backN (ltOf_ cmp x) s ≤ i by omega) hy
                rw [ltOf_, hv, hd] at this
                cases this
              · omega)
            have HE := Lib.hid (show s.take (i + 1) ++ [x] ++ s.drop (i + 1) ++ l.drop (k + 1) = sortB (ltOf_ cmp) (l.take (k + 1)) ++ l.drop (k + 1) by
              rw [HN.out, insB, HB.out])
            clear hv hy hli hlj hneg
            go_wp2_with fail
            (refine wp_region_grow_lit (by kernel_rfl) (by kernel_rfl) ?_; repeat (any_goals (first | go_big_quiet_step ((go_at_call 53; exact quiet_grew (HC.out.at_ HV.out HX.out HYM.out (HGJ.out.trans (gw_grew _ _))))) | quiet_step ((go_at_call 53; exact quiet_grew (HC.out.at_ HV.out HX.out HYM.out (HGJ.out.trans (gw_grew _ _))))) | (refine wpQuiet_step (fun K hK => ?_); go_simp; split <;> rename_i hsp <;> (refine hK _ ?_; clear hK K) <;> (try first | simp only [hsp, decide_true, decide_false, Bool.not_true, Bool.not_false] | simp only [Int.not_le.2 hsp, decide_false, Bool.not_false] | simp only [Int.not_lt.2 hsp, decide_false, Bool.not_false] | simp only [Nat.not_le.2 hsp, decide_false, Bool.not_false] | simp only [Nat.not_lt.2 hsp, decide_false, Bool.not_false])))))
            all_goals (refine wpQuiet_nil ?_; intro w1 h1)
            go_wp2_with fail
            go_roundw
            case rel =>
              go_light
              refine ⟨k + 1, by omega, by go_num, HGJ.out.trans h1, ?_⟩
              rw [← HE.out]
              exact HOJ.out.grew h1
            case measure => go_light; simp [intOf]; omega
    · have HE := Lib.hid (show sortB (ltOf_ cmp) (l.take k) ++ l.drop k = sortB (ltOf_ cmp) l by rw [List.take_of_length_le (by omega), List.drop_eq_nil_of_le (by omega), List.append_nil])
      rw [HE.out] at HOK
      go_wp2_with fail
      (try simp only [Exit.inBlock, Exit.then])
      refine bodyPost_end (results_none rfl _ _ _) rfl ?_
      go_light
      exact ⟨rfl, HOK.out, HGK.out⟩

set_option maxRecDepth 100000 in
set_option maxHeartbeats 8000000 in
theorem insertion_nil (A : Option Addr) (c : Nat) (V : Value) (w : World) :
    Calls Try.prog 60 #[.slice A 0 c, .int .i64 0, .int .i64 0, V] w fun e w' => e = .returned (.tuple #[]) ∧ w = w' := by
  go_enter Try.func60, Try.ntmps60
  go_wp2_with fail
  go_loopw [8] (fun i wr => i = .int .i64 1 ∧ w = wr) (fun _ _ => 0)
  case atStart => exact ⟨rfl, rfl⟩
  case round =>
    obtain ⟨rfl, rfl⟩ := hrel
    go_wp2_with fail
    (try simp only [Exit.inBlock, Exit.then])
    refine bodyPost_end (results_none rfl _ _ _) rfl ?_
    go_light
    exact ⟨rfl, rfl⟩

theorem insertion_ (l : List Int) (cmp : Int → Int → Int) (w0 : World) (A : Option Addr) (c : Nat) (p q : Addr) (w : World) (hown : Own IntS.E 3 w w0.heap.size (.slice A l.length c) l) (hg : Grew w0 w) (hn : l.length ≤ 20) (hc : CmpIs l cmp p q w0) :
    Calls Try.prog 60 #[.slice A l.length c, .int .i64 0, .int .i64 l.length, .func (.func 53) #[] #[.pointer (some p), .pointer (some q)]] w fun e w' =>
      e = .returned (.tuple #[]) ∧ Own IntS.E 3 w' w0.heap.size (.slice A l.length c) (sortB (ltOf_ cmp) l) ∧ Grew w0 w' := by
  rcases Nat.eq_zero_or_pos l.length with h0 | h0
  · obtain rfl : l = [] := List.eq_nil_of_length_eq_zero h0
    refine (insertion_nil A c _ w).mono ?_
    rintro e w' ⟨rfl, rfl⟩
    exact ⟨rfl, by simpa [sortB] using hown, hg⟩
  · obtain ⟨g, c', e, _, _⟩ := hown.addr h0
    simp only [Value.slice.injEq, true_and] at e
    obtain ⟨rfl, rfl⟩ := e
    exact insertion_any l cmp w0 g c p q w hown hg hn hc

set_option maxRecDepth 100000 in
set_option maxHeartbeats 8000000 in
theorem stable_ (l : List Int) (cmp : Int → Int → Int) (w0 : World) (A : Option Addr) (c : Nat) (p q : Addr) (w : World) (hown : Own IntS.E 3 w w0.heap.size (.slice A l.length c) l) (hg : Grew w0 w) (hn : l.length < 20) (hc : CmpIs l cmp p q w0) :
    Calls Try.prog 58 #[.slice A l.length c, .int .i64 l.length, .func (.func 53) #[] #[.pointer (some p), .pointer (some q)]] w fun e w' =>
      e = .returned (.tuple #[]) ∧ Own IntS.E 3 w' w0.heap.size (.slice A l.length c) (sortB (ltOf_ cmp) l) ∧ Grew w0 w' := by
  have HO := Lib.hid hown
  have HG := Lib.hid hg
  have HC := Lib.hid hc
  clear hown hg hc
  go_enter Try.func58, Try.ntmps58
  go_wp2_with fail
  go_loopw [7, 8] (fun a b wr => a = .int .i64 0 ∧ b = .int .i64 20 ∧ w = wr) (fun _ _ _ => 0)
  case atStart => exact ⟨rfl, rfl, rfl⟩
  case round =>
    obtain ⟨rfl, rfl, rfl⟩ := hrel
    go_wp2_with fail
    refine (insertion_ l cmp w0 A c p q _ HO.out HG.out (by omega) HC.out).mono ?_
    rintro e w1 ⟨rfl, ho1, hg1⟩
    have HO1 := Lib.hid ho1
    have HG1 := Lib.hid hg1
    clear ho1 hg1
    go_wp2_with fail
    go_loopw [6] (fun b wr => b = .int .i64 20 ∧ w1 = wr) (fun _ _ => 0)
    case atStart => exact ⟨rfl, rfl⟩
    case round =>
      obtain ⟨rfl, rfl⟩ := hrel
      go_wp2_with fail
      (try simp only [Exit.inBlock, Exit.then])
      refine bodyPost_end (results_none rfl _ _ _) rfl ?_
      go_light
      exact ⟨rfl, HO1.out, HG1.out⟩

set_option maxRecDepth 100000 in
set_option maxHeartbeats 8000000 in
theorem sortStable_ (l : List Int) (cmp : Int → Int → Int) (w0 : World) (A : Option Addr) (c : Nat) (p q : Addr) (w : World) (hown : Own IntS.E 3 w w0.heap.size (.slice A l.length c) l) (hg : Grew w0 w) (hn : l.length < 20) (hc : CmpIs l cmp p q w0) :
    Calls Try.prog 52 #[.slice A l.length c, .func (.func 53) #[] #[.pointer (some p), .pointer (some q)]] w fun e w' =>
      e = .returned (.tuple #[]) ∧ Own IntS.E 3 w' w0.heap.size (.slice A l.length c) (sortB (ltOf_ cmp) l) ∧ Grew w0 w' := by
  have HO := Lib.hid hown
  have HG := Lib.hid hg
  have HC := Lib.hid hc
  clear hown hg hc
  go_enter Try.func52, Try.ntmps52
  go_wp2_with fail
  refine (stable_ l cmp w0 A c p q _ HO.out HG.out hn HC.out).mono ?_
  rintro e w1 ⟨rfl, ho1, hg1⟩
  go_wp2_with fail
  (try simp only [Exit.inBlock, Exit.then])
  refine bodyPost_end (results_none rfl _ _ _) rfl ?_
  go_light
  exact ⟨rfl, ho1, hg1⟩
end Go.Proofs.Yteckhmbkagigjaa
