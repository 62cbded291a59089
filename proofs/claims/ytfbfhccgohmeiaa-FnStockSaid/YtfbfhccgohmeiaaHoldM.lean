/- Holdings and moves: the marks that the laws write into a result's own memory, and their reading back. Conditions: none. -/
import Derived.Test.YtfbfhccgohmeiaaHold
import Derived.Test.YtfbfhccgohmeiaaMove
import Derived.Test.YtfbfhccgohmeiaaApp
import Derived.Test.YtfbfhccgohmeiaaText
namespace Go.Proofs.Ytfbfhccgohmeiaa
open Go.RowKit Go.ChangeShapes Go.WideShapes Go.Deep
set_option linter.unusedVariables false
set_option linter.unusedSimpArgs false

theorem sl_Hold : SlInf Try.prog Hold.E 32 60 := info_sl Try.underlying32 info_impl_Hold rfl rfl (by decide)
theorem Hold.bx {w : World} {b : Nat} {x : Hold} (h : Bx Hold.E w b x) : w.cell? ⟨b, 0, none⟩ = some (.string x.it) ∧ w.cell? ⟨b, 1, none⟩ = some (.string x.ba) ∧ w.cell? ⟨b, 2, none⟩ = some (.string x.pl) ∧ w.cell? ⟨b, 3, none⟩ = some (.int .i64 x.q) ∧ b < w.heap.size ∧ ∀ j, w.frozen? ⟨b, j, none⟩ = false := ⟨h.2.1 0 _ rfl, h.2.1 1 _ rfl, h.2.1 2 _ rfl, h.2.1 3 _ rfl, h.1, h.2.2⟩
def mkHold (q : Int) : Hold := ⟨mtext (q), mtext (q + 1), mtext (q + 1 + 1), q + 1 + 1 + 1⟩
def upHold (q : Int) (n : Nat) : List Hold := (List.range n).map fun (i : Nat) => mkHold (q + 4 * i)
theorem upHold_length (q : Int) (n : Nat) : (upHold q n).length = n := by simp [upHold]
theorem upHold_get {q : Int} {n j : Nat} (hj : j < n) : (upHold q n)[j]? = some (mkHold (q + 4 * j)) := by simp [upHold, List.getElem?_range hj]
theorem mkdHold {q : Int} {l : List Hold} {j : Nat} (hj : j < l.length) : setL (flat Hold.E (upHold q j ++ l.drop j)) (j * 4) (Hold.E.enc (mkHold (q + 4 * j))) = flat Hold.E (upHold q (j + 1) ++ l.drop (j + 1)) := by
  have h1 : (flat Hold.E (upHold q j)).length = j * 4 := by rw [flat_length, upHold_length]; rfl
  have h2 : l.drop j = [l[j]] ++ l.drop (j + 1) := by rw [List.drop_eq_getElem_cons hj]; rfl
  have h3 : flat Hold.E [l[j]] = Hold.E.enc l[j] := by simp [flat]
  have h4 : upHold q (j + 1) = upHold q j ++ [mkHold (q + 4 * j)] := by simp [upHold, List.range_succ]
  have h5 : flat Hold.E [mkHold (q + 4 * j)] = Hold.E.enc (mkHold (q + 4 * j)) := by simp [flat]
  rw [flat_append, ← h1, setL_app _ _ _ (by rw [h2, flat_append, List.length_append, h3, Hold.E.len, Hold.E.len]; omega), h4, flat_append, flat_append, h5, h2, flat_append, h3, Hold.E.len, ← Hold.E.len l[j], List.drop_left]

set_option maxHeartbeats 2000000 in
theorem markHoldingS_any (l : List Hold) (base : Nat) (A : Option Addr) (c : Nat) (k : Int) (w : World) (h : Own Hold.E 60 w base (.slice A l.length c) l) (h0 : 0 ≤ k) (hk : k ≤ 1073741824) (hn : l.length ≤ 4194304) :
    Calls Try.prog 30 #[.slice A l.length c, .int .i64 k] w fun e w' => e = .returned (.int .i64 (k + 4 * l.length)) ∧
      Own Hold.E 60 w' base (.slice A l.length c) (upHold k l.length) ∧ w.grownBy w' (Value.ownBlock (.slice A l.length c)) := by
  have H := Lib.hid h
  rcases Nat.eq_zero_or_pos l.length with hl0 | hl0
  · obtain rfl : l = [] := List.eq_nil_of_length_eq_zero hl0
    clear h hl0 hn
    go_enter Try.func30, Try.ntmps30
    go_wp2_with fail
    go_loopw [1, 5] (fun t i wr => i = .int .i64 0 ∧ t = .int .i64 k ∧ wr = w) (fun _ _ _ => 0)
    case atStart => exact ⟨rfl, rfl, rfl⟩
    case round =>
      obtain ⟨rfl, rfl, rfl⟩ := hrel
      go_wp2_with fail
      go_ret
      go_light
      exact ⟨ret_int (by simp), H.out, World.grownBy.refl _ _⟩
  obtain ⟨g, cap, hv, _, hg0⟩ := h.form hl0
  simp only [Value.slice.injEq] at hv
  obtain ⟨rfl, _, rfl⟩ := hv
  clear h
  go_enter Try.func30, Try.ntmps30
  go_wp2_with fail
  go_loopw [1, 5] (fun t i wr => ∃ j : Nat, j ≤ l.length ∧ i = .int .i64 j ∧ t = .int .i64 (k + 4 * j) ∧ wr.ownsRow base 60 4 (.slice (some ⟨g, 0, none⟩) l.length c) l.length (flat Hold.E (upHold k j ++ l.drop j)) ∧ w.grownBy wr (some g)) (fun _ i _ => l.length - (intOf i).toNat)
  case atStart => exact ⟨0, Nat.zero_le _, rfl, by simp, by rw [show upHold k 0 ++ l.drop 0 = l by simp [upHold]]; exact H.out, World.grownBy.refl _ _⟩
  case round =>
    obtain ⟨j, hj, rfl, rfl, hown, hgr⟩ := hrel
    have HO := Lib.hid hown
    have HG := Lib.hid hgr
    clear hown hgr
    by_cases hlt : j < l.length
    · have HE := Lib.hid (mkdHold (q := k) hlt)
      have hln : (flat Hold.E (upHold k j ++ l.drop j)).length = l.length * 4 := HO.out.1
      have HLN := Lib.hid hln
      have hjk : (j + 1) * 4 ≤ l.length * 4 := Nat.mul_le_mul_right _ hlt
      have HJK := Lib.hid hjk
      clear hln hjk
      obtain ⟨q, hq⟩ : ∃ q : Int, q = k + 4 * (j : Int) := ⟨_, rfl⟩
      have hq0 : 0 ≤ q := by omega
      have hq1 : q ≤ 1099000000000 := by omega
      have HQ := Lib.hid hq
      rw [← hq] at HE ⊢
      clear hq

      go_wp2_with fail
      refine (markText_any _ _ (by omega)).mono ?_; rintro e w0 ⟨rfl, h0⟩
      have HO0 := Lib.hid (ownsRow_grew (HO.out) h0)
      have HG0 := Lib.hid ((HG.out).trans (h0.by_ (some g)))
      clear h0
      have hccs0 : ∀ j2, j2 < 4 → ∃ u, w0.cell? ⟨g, j * 4 + j2, none⟩ = some u := fun j2 hj2 => by rw [HO0.out.cellAt (j * 4 + j2) (by have := HJK.out; omega)]; exact ⟨_, List.getElem?_eq_getElem (by have := HO0.out.1; have := HJK.out; omega)⟩
      obtain ⟨us0_0, hus0_0⟩ := hccs0 0 (by decide)
      simp only [Nat.add_zero] at hus0_0
      obtain ⟨us0_1, hus0_1⟩ := hccs0 1 (by decide)
      obtain ⟨us0_2, hus0_2⟩ := hccs0 2 (by decide)
      obtain ⟨us0_3, hus0_3⟩ := hccs0 3 (by decide)
      have hfs0 : ∀ j2, w0.frozen? ⟨g, j2, none⟩ = false := fun j2 => HO0.out.frozenAt j2
      clear hccs0
      go_wp2_with fail
      refine (markText_any _ _ (by omega)).mono ?_; rintro e w1 ⟨rfl, h1⟩
      have HO1 := Lib.hid (ownsRow_grew (((HO0.out).stored _ _).1) h1)
      have HG1 := Lib.hid (((HG0.out).trans ((HO0.out).stored _ _).2).trans (h1.by_ (some g)))
      clear hfs0 hus0_0 hus0_1 hus0_2 hus0_3
      clear h1
      have hccs1 : ∀ j2, j2 < 4 → ∃ u, w1.cell? ⟨g, j * 4 + j2, none⟩ = some u := fun j2 hj2 => by rw [HO1.out.cellAt (j * 4 + j2) (by have := HJK.out; omega)]; exact ⟨_, List.getElem?_eq_getElem (by have := HO1.out.1; have := HJK.out; omega)⟩
      obtain ⟨us1_1, hus1_1⟩ := hccs1 1 (by decide)
      obtain ⟨us1_2, hus1_2⟩ := hccs1 2 (by decide)
      obtain ⟨us1_3, hus1_3⟩ := hccs1 3 (by decide)
      have hfs1 : ∀ j2, w1.frozen? ⟨g, j2, none⟩ = false := fun j2 => HO1.out.frozenAt j2
      clear hccs1
      go_wp2_with fail
      refine (markText_any _ _ (by omega)).mono ?_; rintro e w2 ⟨rfl, h2⟩
      have HO2 := Lib.hid (ownsRow_grew (((HO1.out).stored _ _).1) h2)
      have HG2 := Lib.hid (((HG1.out).trans ((HO1.out).stored _ _).2).trans (h2.by_ (some g)))
      clear hfs1 hus1_1 hus1_2 hus1_3
      clear h2
      have hccs2 : ∀ j2, j2 < 4 → ∃ u, w2.cell? ⟨g, j * 4 + j2, none⟩ = some u := fun j2 hj2 => by rw [HO2.out.cellAt (j * 4 + j2) (by have := HJK.out; omega)]; exact ⟨_, List.getElem?_eq_getElem (by have := HO2.out.1; have := HJK.out; omega)⟩
      obtain ⟨us2_2, hus2_2⟩ := hccs2 2 (by decide)
      obtain ⟨us2_3, hus2_3⟩ := hccs2 3 (by decide)
      have hfs2 : ∀ j2, w2.frozen? ⟨g, j2, none⟩ = false := fun j2 => HO2.out.frozenAt j2
      clear hccs2
      go_wp2_with fail
      go_roundw
      case rel =>
        go_light
        refine ⟨j + 1, by omega, by go_num, by rw [HQ.out]; congr 1; push_cast; omega, ?_, ((HG2.out).trans ((HO2.out).stored _ _).2).trans ((((HO2.out).stored _ _).1).stored _ _).2⟩
        rw [← HE.out]
        exact ((((HO2.out).stored _ _).1).stored _ _).1
      case measure => go_light; simp [intOf]; omega
    · obtain rfl : j = l.length := by omega
      go_wp2_with fail
      go_ret
      go_light
      refine ⟨rfl, ?_, HG.out⟩
      have := HO.out
      rw [List.drop_length, List.append_nil] at this
      unfold Own
      rw [upHold_length]
      exact this
set_option maxHeartbeats 2000000 in
theorem heldHoldingS_any (n : Nat) (A : Option Addr) (c : Nat) (k : Int) (w : World) (h : Rd Hold.E w A (upHold k n)) (h0 : 0 ≤ k) (hk : k ≤ 1073741824) (hn : n ≤ 4194304) :
    Calls Try.prog 31 #[.slice A n c, .int .i64 k] w fun e w' => e = .returned (.int .i64 (k + 4 * n)) ∧ Grew w w' := by
  have H := Lib.hid h
  clear h
  go_enter Try.func31, Try.ntmps31
  go_wp2_with fail
  go_loopw [1, 5] (fun t i wr => ∃ j : Nat, j ≤ n ∧ i = .int .i64 j ∧ t = .int .i64 (k + 4 * j) ∧ Grew w wr) (fun _ i _ => n - (intOf i).toNat)
  case atStart => exact ⟨0, Nat.zero_le _, rfl, by simp, Grew.refl _⟩
  case round =>
    obtain ⟨j, hj, rfl, rfl, hg⟩ := hrel
    have HG := Lib.hid hg
    by_cases hlt : j < n
    · have hx := upHold_get (q := k) hlt
      obtain ⟨b, o, rfl, hb, hc⟩ := (H.out.grew hg).at_ (k := j) (by rw [upHold_length]; exact hlt)
      have hcx := Hold.at_ hc hx
      obtain ⟨q, hq⟩ : ∃ q : Int, q = k + 4 * (j : Int) := ⟨_, rfl⟩
      have hq0 : 0 ≤ q := by omega
      have hq1 : q ≤ 1099000000000 := by omega
      have HQ := Lib.hid hq
      rw [← hq] at hcx ⊢
      simp only [mkHold] at hcx
      obtain ⟨hc0, hc1, hc2, hc3⟩ := hcx
      clear hq hx hc hg
      have hi1 : (0 : Int) ≤ (j : Int) := by omega
      have hi2 : (j : Int) < (n : Int) := by omega
      go_wp2_with fail
      (refine wp_region_grow_lit (by kernel_rfl) (by kernel_rfl) ?_; repeat (any_goals (first | go_big_quiet_step (((go_at_call 53; exact quiet_grew (markText_any _ _ (by omega))))) | quiet_step (((go_at_call 53; exact quiet_grew (markText_any _ _ (by omega))))) | (refine wpQuiet_step (fun K hK => ?_); go_simp; split <;> rename_i hsp <;> (refine hK _ ?_; clear hK K) <;> (try first | simp only [hsp, decide_true, decide_false, Bool.not_true, Bool.not_false] | simp only [Int.not_le.2 hsp, decide_false, Bool.not_false] | simp only [Int.not_lt.2 hsp, decide_false, Bool.not_false] | simp only [Nat.not_le.2 hsp, decide_false, Bool.not_false] | simp only [Nat.not_lt.2 hsp, decide_false, Bool.not_false])))))
      all_goals (refine wpQuiet_nil ?_; intro ws0 hs0)
      have hc1 := (hs0.rules.1 b _ (by first | exact hb | exact Nat.lt_of_lt_of_le hb (by omega))).trans hc1
      have hc2 := (hs0.rules.1 b _ (by first | exact hb | exact Nat.lt_of_lt_of_le hb (by omega))).trans hc2
      have hc3 := (hs0.rules.1 b _ (by first | exact hb | exact Nat.lt_of_lt_of_le hb (by omega))).trans hc3
      have hb := Nat.lt_of_lt_of_le hb hs0.le
      go_wp2_with fail
      (refine wp_region_grow_lit (by kernel_rfl) (by kernel_rfl) ?_; repeat (any_goals (first | go_big_quiet_step (((go_at_call 53; exact quiet_grew (markText_any _ _ (by omega))))) | quiet_step (((go_at_call 53; exact quiet_grew (markText_any _ _ (by omega))))) | (refine wpQuiet_step (fun K hK => ?_); go_simp; split <;> rename_i hsp <;> (refine hK _ ?_; clear hK K) <;> (try first | simp only [hsp, decide_true, decide_false, Bool.not_true, Bool.not_false] | simp only [Int.not_le.2 hsp, decide_false, Bool.not_false] | simp only [Int.not_lt.2 hsp, decide_false, Bool.not_false] | simp only [Nat.not_le.2 hsp, decide_false, Bool.not_false] | simp only [Nat.not_lt.2 hsp, decide_false, Bool.not_false])))))
      all_goals (refine wpQuiet_nil ?_; intro ws1 hs1)
      have hc2 := (hs1.rules.1 b _ (by first | exact hb | exact Nat.lt_of_lt_of_le hb (by omega))).trans hc2
      have hc3 := (hs1.rules.1 b _ (by first | exact hb | exact Nat.lt_of_lt_of_le hb (by omega))).trans hc3
      have hb := Nat.lt_of_lt_of_le hb hs1.le
      go_wp2_with fail
      (refine wp_region_grow_lit (by kernel_rfl) (by kernel_rfl) ?_; repeat (any_goals (first | go_big_quiet_step (((go_at_call 53; exact quiet_grew (markText_any _ _ (by omega))))) | quiet_step (((go_at_call 53; exact quiet_grew (markText_any _ _ (by omega))))) | (refine wpQuiet_step (fun K hK => ?_); go_simp; split <;> rename_i hsp <;> (refine hK _ ?_; clear hK K) <;> (try first | simp only [hsp, decide_true, decide_false, Bool.not_true, Bool.not_false] | simp only [Int.not_le.2 hsp, decide_false, Bool.not_false] | simp only [Int.not_lt.2 hsp, decide_false, Bool.not_false] | simp only [Nat.not_le.2 hsp, decide_false, Bool.not_false] | simp only [Nat.not_lt.2 hsp, decide_false, Bool.not_false])))))
      all_goals (refine wpQuiet_nil ?_; intro ws2 hs2)
      have hc3 := (hs2.rules.1 b _ (by first | exact hb | exact Nat.lt_of_lt_of_le hb (by omega))).trans hc3
      have hb := Nat.lt_of_lt_of_le hb hs2.le
      go_wp2_with fail
      go_roundw
      case rel => go_light; exact ⟨j + 1, by omega, by go_num, by rw [HQ.out]; congr 1; push_cast; omega, (((HG.out).trans hs0).trans hs1).trans hs2⟩
      case measure => go_light; simp [intOf]; omega
    · obtain rfl : j = n := by omega
      go_wp2_with fail
      go_ret
      go_light
      exact ⟨rfl, hg⟩
theorem sl_Mv : SlInf Try.prog Mv.E 41 26 := info_sl Try.underlying41 info_impl_Mv rfl rfl (by decide)
theorem Mv.bx {w : World} {b : Nat} {x : Mv} (h : Bx Mv.E w b x) : w.cell? ⟨b, 0, none⟩ = some (.int .i64 x.day) ∧ w.cell? ⟨b, 1, none⟩ = some (.string x.it) ∧ w.cell? ⟨b, 2, none⟩ = some (.string x.ba) ∧ w.cell? ⟨b, 3, none⟩ = some (.string x.ff) ∧ w.cell? ⟨b, 4, none⟩ = some (.string x.tt) ∧ w.cell? ⟨b, 5, none⟩ = some (.int .i64 x.q) ∧ b < w.heap.size ∧ ∀ j, w.frozen? ⟨b, j, none⟩ = false := ⟨h.2.1 0 _ rfl, h.2.1 1 _ rfl, h.2.1 2 _ rfl, h.2.1 3 _ rfl, h.2.1 4 _ rfl, h.2.1 5 _ rfl, h.1, h.2.2⟩
def mkMv (q : Int) : Mv := ⟨q, mtext (q + 1), mtext (q + 1 + 1), mtext (q + 1 + 1 + 1), mtext (q + 1 + 1 + 1 + 1), q + 1 + 1 + 1 + 1 + 1⟩
def upMv (q : Int) (n : Nat) : List Mv := (List.range n).map fun (i : Nat) => mkMv (q + 6 * i)
theorem upMv_length (q : Int) (n : Nat) : (upMv q n).length = n := by simp [upMv]
theorem upMv_get {q : Int} {n j : Nat} (hj : j < n) : (upMv q n)[j]? = some (mkMv (q + 6 * j)) := by simp [upMv, List.getElem?_range hj]
theorem mkdMv {q : Int} {l : List Mv} {j : Nat} (hj : j < l.length) : setL (flat Mv.E (upMv q j ++ l.drop j)) (j * 6) (Mv.E.enc (mkMv (q + 6 * j))) = flat Mv.E (upMv q (j + 1) ++ l.drop (j + 1)) := by
  have h1 : (flat Mv.E (upMv q j)).length = j * 6 := by rw [flat_length, upMv_length]; rfl
  have h2 : l.drop j = [l[j]] ++ l.drop (j + 1) := by rw [List.drop_eq_getElem_cons hj]; rfl
  have h3 : flat Mv.E [l[j]] = Mv.E.enc l[j] := by simp [flat]
  have h4 : upMv q (j + 1) = upMv q j ++ [mkMv (q + 6 * j)] := by simp [upMv, List.range_succ]
  have h5 : flat Mv.E [mkMv (q + 6 * j)] = Mv.E.enc (mkMv (q + 6 * j)) := by simp [flat]
  rw [flat_append, ← h1, setL_app _ _ _ (by rw [h2, flat_append, List.length_append, h3, Mv.E.len, Mv.E.len]; omega), h4, flat_append, flat_append, h5, h2, flat_append, h3, Mv.E.len, ← Mv.E.len l[j], List.drop_left]

set_option maxHeartbeats 2000000 in
theorem markMoveS_any (l : List Mv) (base : Nat) (A : Option Addr) (c : Nat) (k : Int) (w : World) (h : Own Mv.E 26 w base (.slice A l.length c) l) (h0 : 0 ≤ k) (hk : k ≤ 1073741824) (hn : l.length ≤ 4194304) :
    Calls Try.prog 36 #[.slice A l.length c, .int .i64 k] w fun e w' => e = .returned (.int .i64 (k + 6 * l.length)) ∧
      Own Mv.E 26 w' base (.slice A l.length c) (upMv k l.length) ∧ w.grownBy w' (Value.ownBlock (.slice A l.length c)) := by
  have H := Lib.hid h
  rcases Nat.eq_zero_or_pos l.length with hl0 | hl0
  · obtain rfl : l = [] := List.eq_nil_of_length_eq_zero hl0
    clear h hl0 hn
    go_enter Try.func36, Try.ntmps36
    go_wp2_with fail
    go_loopw [1, 5] (fun t i wr => i = .int .i64 0 ∧ t = .int .i64 k ∧ wr = w) (fun _ _ _ => 0)
    case atStart => exact ⟨rfl, rfl, rfl⟩
    case round =>
      obtain ⟨rfl, rfl, rfl⟩ := hrel
      go_wp2_with fail
      go_ret
      go_light
      exact ⟨ret_int (by simp), H.out, World.grownBy.refl _ _⟩
  obtain ⟨g, cap, hv, _, hg0⟩ := h.form hl0
  simp only [Value.slice.injEq] at hv
  obtain ⟨rfl, _, rfl⟩ := hv
  clear h
  go_enter Try.func36, Try.ntmps36
  go_wp2_with fail
  go_loopw [1, 5] (fun t i wr => ∃ j : Nat, j ≤ l.length ∧ i = .int .i64 j ∧ t = .int .i64 (k + 6 * j) ∧ wr.ownsRow base 26 6 (.slice (some ⟨g, 0, none⟩) l.length c) l.length (flat Mv.E (upMv k j ++ l.drop j)) ∧ w.grownBy wr (some g)) (fun _ i _ => l.length - (intOf i).toNat)
  case atStart => exact ⟨0, Nat.zero_le _, rfl, by simp, by rw [show upMv k 0 ++ l.drop 0 = l by simp [upMv]]; exact H.out, World.grownBy.refl _ _⟩
  case round =>
    obtain ⟨j, hj, rfl, rfl, hown, hgr⟩ := hrel
    have HO := Lib.hid hown
    have HG := Lib.hid hgr
    clear hown hgr
    by_cases hlt : j < l.length
    · have HE := Lib.hid (mkdMv (q := k) hlt)
      have hln : (flat Mv.E (upMv k j ++ l.drop j)).length = l.length * 6 := HO.out.1
      have HLN := Lib.hid hln
      have hjk : (j + 1) * 6 ≤ l.length * 6 := Nat.mul_le_mul_right _ hlt
      have HJK := Lib.hid hjk
      clear hln hjk
      obtain ⟨q, hq⟩ : ∃ q : Int, q = k + 6 * (j : Int) := ⟨_, rfl⟩
      have hq0 : 0 ≤ q := by omega
      have hq1 : q ≤ 1099000000000 := by omega
      have HQ := Lib.hid hq
      rw [← hq] at HE ⊢
      clear hq

      have hcca : ∀ j2, j2 < 6 → ∃ u, wr.cell? ⟨g, j * 6 + j2, none⟩ = some u := fun j2 hj2 => by rw [HO.out.cellAt (j * 6 + j2) (by have := HJK.out; omega)]; exact ⟨_, List.getElem?_eq_getElem (by have := HO.out.1; have := HJK.out; omega)⟩
      obtain ⟨ua_0, hua_0⟩ := hcca 0 (by decide)
      simp only [Nat.add_zero] at hua_0
      obtain ⟨ua_1, hua_1⟩ := hcca 1 (by decide)
      obtain ⟨ua_2, hua_2⟩ := hcca 2 (by decide)
      obtain ⟨ua_3, hua_3⟩ := hcca 3 (by decide)
      obtain ⟨ua_4, hua_4⟩ := hcca 4 (by decide)
      obtain ⟨ua_5, hua_5⟩ := hcca 5 (by decide)
      have hfa : ∀ j2, wr.frozen? ⟨g, j2, none⟩ = false := fun j2 => HO.out.frozenAt j2
      clear hcca
      go_wp2_with fail
      refine (markText_any _ _ (by omega)).mono ?_; rintro e w1 ⟨rfl, h1⟩
      have HO1 := Lib.hid (ownsRow_grew (((HO.out).stored _ _).1) h1)
      have HG1 := Lib.hid (((HG.out).trans ((HO.out).stored _ _).2).trans (h1.by_ (some g)))
      clear hfa hua_0 hua_1 hua_2 hua_3 hua_4 hua_5
      clear h1
      have hccs1 : ∀ j2, j2 < 6 → ∃ u, w1.cell? ⟨g, j * 6 + j2, none⟩ = some u := fun j2 hj2 => by rw [HO1.out.cellAt (j * 6 + j2) (by have := HJK.out; omega)]; exact ⟨_, List.getElem?_eq_getElem (by have := HO1.out.1; have := HJK.out; omega)⟩
      obtain ⟨us1_1, hus1_1⟩ := hccs1 1 (by decide)
      obtain ⟨us1_2, hus1_2⟩ := hccs1 2 (by decide)
      obtain ⟨us1_3, hus1_3⟩ := hccs1 3 (by decide)
      obtain ⟨us1_4, hus1_4⟩ := hccs1 4 (by decide)
      obtain ⟨us1_5, hus1_5⟩ := hccs1 5 (by decide)
      have hfs1 : ∀ j2, w1.frozen? ⟨g, j2, none⟩ = false := fun j2 => HO1.out.frozenAt j2
      clear hccs1
      go_wp2_with fail
      refine (markText_any _ _ (by omega)).mono ?_; rintro e w2 ⟨rfl, h2⟩
      have HO2 := Lib.hid (ownsRow_grew (((HO1.out).stored _ _).1) h2)
      have HG2 := Lib.hid (((HG1.out).trans ((HO1.out).stored _ _).2).trans (h2.by_ (some g)))
      clear hfs1 hus1_1 hus1_2 hus1_3 hus1_4 hus1_5
      clear h2
      have hccs2 : ∀ j2, j2 < 6 → ∃ u, w2.cell? ⟨g, j * 6 + j2, none⟩ = some u := fun j2 hj2 => by rw [HO2.out.cellAt (j * 6 + j2) (by have := HJK.out; omega)]; exact ⟨_, List.getElem?_eq_getElem (by have := HO2.out.1; have := HJK.out; omega)⟩
      obtain ⟨us2_2, hus2_2⟩ := hccs2 2 (by decide)
      obtain ⟨us2_3, hus2_3⟩ := hccs2 3 (by decide)
      obtain ⟨us2_4, hus2_4⟩ := hccs2 4 (by decide)
      obtain ⟨us2_5, hus2_5⟩ := hccs2 5 (by decide)
      have hfs2 : ∀ j2, w2.frozen? ⟨g, j2, none⟩ = false := fun j2 => HO2.out.frozenAt j2
      clear hccs2
      go_wp2_with fail
      refine (markText_any _ _ (by omega)).mono ?_; rintro e w3 ⟨rfl, h3⟩
      have HO3 := Lib.hid (ownsRow_grew (((HO2.out).stored _ _).1) h3)
      have HG3 := Lib.hid (((HG2.out).trans ((HO2.out).stored _ _).2).trans (h3.by_ (some g)))
      clear hfs2 hus2_2 hus2_3 hus2_4 hus2_5
      clear h3
      have hccs3 : ∀ j2, j2 < 6 → ∃ u, w3.cell? ⟨g, j * 6 + j2, none⟩ = some u := fun j2 hj2 => by rw [HO3.out.cellAt (j * 6 + j2) (by have := HJK.out; omega)]; exact ⟨_, List.getElem?_eq_getElem (by have := HO3.out.1; have := HJK.out; omega)⟩
      obtain ⟨us3_3, hus3_3⟩ := hccs3 3 (by decide)
      obtain ⟨us3_4, hus3_4⟩ := hccs3 4 (by decide)
      obtain ⟨us3_5, hus3_5⟩ := hccs3 5 (by decide)
      have hfs3 : ∀ j2, w3.frozen? ⟨g, j2, none⟩ = false := fun j2 => HO3.out.frozenAt j2
      clear hccs3
      go_wp2_with fail
      refine (markText_any _ _ (by omega)).mono ?_; rintro e w4 ⟨rfl, h4⟩
      have HO4 := Lib.hid (ownsRow_grew (((HO3.out).stored _ _).1) h4)
      have HG4 := Lib.hid (((HG3.out).trans ((HO3.out).stored _ _).2).trans (h4.by_ (some g)))
      clear hfs3 hus3_3 hus3_4 hus3_5
      clear h4
      have hccs4 : ∀ j2, j2 < 6 → ∃ u, w4.cell? ⟨g, j * 6 + j2, none⟩ = some u := fun j2 hj2 => by rw [HO4.out.cellAt (j * 6 + j2) (by have := HJK.out; omega)]; exact ⟨_, List.getElem?_eq_getElem (by have := HO4.out.1; have := HJK.out; omega)⟩
      obtain ⟨us4_4, hus4_4⟩ := hccs4 4 (by decide)
      obtain ⟨us4_5, hus4_5⟩ := hccs4 5 (by decide)
      have hfs4 : ∀ j2, w4.frozen? ⟨g, j2, none⟩ = false := fun j2 => HO4.out.frozenAt j2
      clear hccs4
      go_wp2_with fail
      go_roundw
      case rel =>
        go_light
        refine ⟨j + 1, by omega, by go_num, by rw [HQ.out]; congr 1; push_cast; omega, ?_, ((HG4.out).trans ((HO4.out).stored _ _).2).trans ((((HO4.out).stored _ _).1).stored _ _).2⟩
        rw [← HE.out]
        exact ((((HO4.out).stored _ _).1).stored _ _).1
      case measure => go_light; simp [intOf]; omega
    · obtain rfl : j = l.length := by omega
      go_wp2_with fail
      go_ret
      go_light
      refine ⟨rfl, ?_, HG.out⟩
      have := HO.out
      rw [List.drop_length, List.append_nil] at this
      unfold Own
      rw [upMv_length]
      exact this
end Go.Proofs.Ytfbfhccgohmeiaa
