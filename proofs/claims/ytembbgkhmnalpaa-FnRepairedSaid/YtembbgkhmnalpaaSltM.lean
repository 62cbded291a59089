/- Slots: the marks of the laws. Conditions: none. -/
import Derived.Test.YtembbgkhmnalpaaJobM
import Derived.Test.YtembbgkhmnalpaaDisM
namespace Go.Proofs.Ytembbgkhmnalpaa
open Go.RowKit Go.ChangeShapes Go.WideShapes Go.Deep
set_option linter.unusedVariables false
set_option linter.unusedSimpArgs false

theorem Slt.bx {w : World} {b : Nat} {x : Slt} (h : Bx Slt.E w b x) : w.cell? ⟨b, 0, none⟩ = some (.int .i64 x.jb) ∧ w.cell? ⟨b, 1, none⟩ = some (.int .i64 x.sp) ∧ w.cell? ⟨b, 2, none⟩ = some (.string x.ce) ∧ w.cell? ⟨b, 3, none⟩ = some (.int .i64 x.st) ∧ w.cell? ⟨b, 4, none⟩ = some (.int .i64 x.en) ∧ b < w.heap.size ∧ ∀ j, w.frozen? ⟨b, j, none⟩ = false := ⟨h.2.1 0 _ rfl, h.2.1 1 _ rfl, h.2.1 2 _ rfl, h.2.1 3 _ rfl, h.2.1 4 _ rfl, h.1, h.2.2⟩
def mkSlt (q : Int) : Slt := ⟨q, q + 1, mtext (q + 1 + 1), q + 1 + 1 + 1, q + 1 + 1 + 1 + 1⟩
def upSlt (q : Int) (n : Nat) : List Slt := (List.range n).map fun (i : Nat) => mkSlt (q + 5 * i)
theorem upSlt_length (q : Int) (n : Nat) : (upSlt q n).length = n := by simp [upSlt]
theorem upSlt_get {q : Int} {n j : Nat} (hj : j < n) : (upSlt q n)[j]? = some (mkSlt (q + 5 * j)) := by simp [upSlt, List.getElem?_range hj]
theorem mkdSlt {q : Int} {l : List Slt} {j : Nat} (hj : j < l.length) : setL (flat Slt.E (upSlt q j ++ l.drop j)) (j * 5) (Slt.E.enc (mkSlt (q + 5 * j))) = flat Slt.E (upSlt q (j + 1) ++ l.drop (j + 1)) := by
  have h1 : (flat Slt.E (upSlt q j)).length = j * 5 := by rw [flat_length, upSlt_length]; rfl
  have h2 : l.drop j = [l[j]] ++ l.drop (j + 1) := by rw [List.drop_eq_getElem_cons hj]; rfl
  have h3 : flat Slt.E [l[j]] = Slt.E.enc l[j] := by simp [flat]
  have h4 : upSlt q (j + 1) = upSlt q j ++ [mkSlt (q + 5 * j)] := by simp [upSlt, List.range_succ]
  have h5 : flat Slt.E [mkSlt (q + 5 * j)] = Slt.E.enc (mkSlt (q + 5 * j)) := by simp [flat]
  rw [flat_append, ← h1, setL_app _ _ _ (by rw [h2, flat_append, List.length_append, h3, Slt.E.len, Slt.E.len]; omega), h4, flat_append, flat_append, h5, h2, flat_append, h3, Slt.E.len, ← Slt.E.len l[j], List.drop_left]

set_option maxHeartbeats 2000000 in
theorem markSlotS_any (l : List Slt) (base : Nat) (A : Option Addr) (c : Nat) (k : Int) (w : World) (h : Own Slt.E 56 w base (.slice A l.length c) l) (h0 : 0 ≤ k) (hk : k ≤ 1073741824) (hn : l.length ≤ 4194304) :
    Calls Try.prog 26 #[.slice A l.length c, .int .i64 k] w fun e w' => e = .returned (.int .i64 (k + 5 * l.length)) ∧
      Own Slt.E 56 w' base (.slice A l.length c) (upSlt k l.length) ∧ w.grownBy w' (Value.ownBlock (.slice A l.length c)) := by
  have H := Lib.hid h
  rcases Nat.eq_zero_or_pos l.length with hl0 | hl0
  · obtain rfl : l = [] := List.eq_nil_of_length_eq_zero hl0
    clear h hl0 hn
    go_enter Try.func26, Try.ntmps26
    go_wp2_with fail
    go_loopw [1, 5] (fun t i wr => i = .int .i64 0 ∧ t = .int .i64 k ∧ wr = w) (fun _ _ _ => 0)
    case atStart => exact ⟨rfl, rfl, rfl⟩
    case round =>
      obtain ⟨rfl, rfl, rfl⟩ := hrel
      go_wp2_with fail
      go_ret
      go_light
      exact ⟨ret_int (by simp), H.out, World.grownBy.refl _ _⟩
  obtain ⟨g, cap, hv, _, hg0⟩ := h.form hl0
  simp only [Value.slice.injEq] at hv
  obtain ⟨rfl, _, rfl⟩ := hv
  clear h
  go_enter Try.func26, Try.ntmps26
  go_wp2_with fail
  go_loopw [1, 5] (fun t i wr => ∃ j : Nat, j ≤ l.length ∧ i = .int .i64 j ∧ t = .int .i64 (k + 5 * j) ∧ wr.ownsRow base 56 5 (.slice (some ⟨g, 0, none⟩) l.length c) l.length (flat Slt.E (upSlt k j ++ l.drop j)) ∧ w.grownBy wr (some g)) (fun _ i _ => l.length - (intOf i).toNat)
  case atStart => exact ⟨0, Nat.zero_le _, rfl, by simp, by rw [show upSlt k 0 ++ l.drop 0 = l by simp [upSlt]]; exact H.out, World.grownBy.refl _ _⟩
  case round =>
    obtain ⟨j, hj, rfl, rfl, hown, hgr⟩ := hrel
    have HO := Lib.hid hown
    have HG := Lib.hid hgr
    clear hown hgr
    by_cases hlt : j < l.length
    · have HE := Lib.hid (mkdSlt (q := k) hlt)
      have hln : (flat Slt.E (upSlt k j ++ l.drop j)).length = l.length * 5 := HO.out.1
      have HLN := Lib.hid hln
      have hjk : (j + 1) * 5 ≤ l.length * 5 := Nat.mul_le_mul_right _ hlt
      have HJK := Lib.hid hjk
      clear hln hjk
      obtain ⟨q, hq⟩ : ∃ q : Int, q = k + 5 * (j : Int) := ⟨_, rfl⟩
      have hq0 : 0 ≤ q := by omega
      have hq1 : q ≤ 1099000000000 := by omega
      have HQ := Lib.hid hq
      rw [← hq] at HE ⊢
      clear hq

      have hcca : ∀ j2, j2 < 5 → ∃ u, wr.cell? ⟨g, j * 5 + j2, none⟩ = some u := fun j2 hj2 => by rw [HO.out.cellAt (j * 5 + j2) (by have := HJK.out; omega)]; exact ⟨_, List.getElem?_eq_getElem (by have := HO.out.1; have := HJK.out; omega)⟩
      obtain ⟨ua_0, hua_0⟩ := hcca 0 (by decide)
      simp only [Nat.add_zero] at hua_0
      obtain ⟨ua_1, hua_1⟩ := hcca 1 (by decide)
      obtain ⟨ua_2, hua_2⟩ := hcca 2 (by decide)
      obtain ⟨ua_3, hua_3⟩ := hcca 3 (by decide)
      obtain ⟨ua_4, hua_4⟩ := hcca 4 (by decide)
      have hfa : ∀ j2, wr.frozen? ⟨g, j2, none⟩ = false := fun j2 => HO.out.frozenAt j2
      clear hcca
      go_wp2_with fail
      refine (markText_any _ _ (by omega)).mono ?_; rintro e w2 ⟨rfl, h2⟩
      have HO2 := Lib.hid (ownsRow_grew (((((HO.out).stored _ _).1).stored _ _).1) h2)
      have HG2 := Lib.hid ((((HG.out).trans ((HO.out).stored _ _).2).trans ((((HO.out).stored _ _).1).stored _ _).2).trans (h2.by_ (some g)))
      clear hfa hua_0 hua_1 hua_2 hua_3 hua_4
      clear h2
      have hccs2 : ∀ j2, j2 < 5 → ∃ u, w2.cell? ⟨g, j * 5 + j2, none⟩ = some u := fun j2 hj2 => by rw [HO2.out.cellAt (j * 5 + j2) (by have := HJK.out; omega)]; exact ⟨_, List.getElem?_eq_getElem (by have := HO2.out.1; have := HJK.out; omega)⟩
      obtain ⟨us2_2, hus2_2⟩ := hccs2 2 (by decide)
      obtain ⟨us2_3, hus2_3⟩ := hccs2 3 (by decide)
      obtain ⟨us2_4, hus2_4⟩ := hccs2 4 (by decide)
      have hfs2 : ∀ j2, w2.frozen? ⟨g, j2, none⟩ = false := fun j2 => HO2.out.frozenAt j2
      clear hccs2
      go_wp2_with fail
      go_roundw
      case rel =>
        go_light
        refine ⟨j + 1, by omega, by go_num, by rw [HQ.out]; congr 1; push_cast; omega, ?_, (((HG2.out).trans ((HO2.out).stored _ _).2).trans ((((HO2.out).stored _ _).1).stored _ _).2).trans ((((((HO2.out).stored _ _).1).stored _ _).1).stored _ _).2⟩
        rw [← HE.out]
        exact ((((((HO2.out).stored _ _).1).stored _ _).1).stored _ _).1
      case measure => go_light; simp [intOf]; omega
    · obtain rfl : j = l.length := by omega
      go_wp2_with fail
      go_ret
      go_light
      refine ⟨rfl, ?_, HG.out⟩
      have := HO.out
      rw [List.drop_length, List.append_nil] at this
      unfold Own
      rw [upSlt_length]
      exact this
set_option maxHeartbeats 2000000 in
theorem heldSlotS_any (n : Nat) (A : Option Addr) (c : Nat) (k : Int) (w : World) (h : Rd Slt.E w A (upSlt k n)) (h0 : 0 ≤ k) (hk : k ≤ 1073741824) (hn : n ≤ 4194304) :
    Calls Try.prog 27 #[.slice A n c, .int .i64 k] w fun e w' => e = .returned (.int .i64 (k + 5 * n)) ∧ Grew w w' := by
  have H := Lib.hid h
  clear h
  go_enter Try.func27, Try.ntmps27
  go_wp2_with fail
  go_loopw [1, 5] (fun t i wr => ∃ j : Nat, j ≤ n ∧ i = .int .i64 j ∧ t = .int .i64 (k + 5 * j) ∧ Grew w wr) (fun _ i _ => n - (intOf i).toNat)
  case atStart => exact ⟨0, Nat.zero_le _, rfl, by simp, Grew.refl _⟩
  case round =>
    obtain ⟨j, hj, rfl, rfl, hg⟩ := hrel
    have HG := Lib.hid hg
    by_cases hlt : j < n
    · have hx := upSlt_get (q := k) hlt
      obtain ⟨b, o, rfl, hb, hc⟩ := (H.out.grew hg).at_ (k := j) (by rw [upSlt_length]; exact hlt)
      have hcx := Slt.at_ hc hx
      obtain ⟨q, hq⟩ : ∃ q : Int, q = k + 5 * (j : Int) := ⟨_, rfl⟩
      have hq0 : 0 ≤ q := by omega
      have hq1 : q ≤ 1099000000000 := by omega
      have HQ := Lib.hid hq
      rw [← hq] at hcx ⊢
      simp only [mkSlt] at hcx
      obtain ⟨hc0, hc1, hc2, hc3, hc4⟩ := hcx
      clear hq hx hc hg
      have hi1 : (0 : Int) ≤ (j : Int) := by omega
      have hi2 : (j : Int) < (n : Int) := by omega
      go_wp2_with fail
      (refine wp_region_grow_lit (by kernel_rfl) (by kernel_rfl) ?_; repeat (any_goals (first | go_big_quiet_step (((go_at_call 49; exact quiet_grew (markText_any _ _ (by omega))))) | quiet_step (((go_at_call 49; exact quiet_grew (markText_any _ _ (by omega))))) | (refine wpQuiet_step (fun K hK => ?_); go_simp; split <;> rename_i hsp <;> (refine hK _ ?_; clear hK K) <;> (try first | simp only [hsp, decide_true, decide_false, Bool.not_true, Bool.not_false] | simp only [Int.not_le.2 hsp, decide_false, Bool.not_false] | simp only [Int.not_lt.2 hsp, decide_false, Bool.not_false] | simp only [Nat.not_le.2 hsp, decide_false, Bool.not_false] | simp only [Nat.not_lt.2 hsp, decide_false, Bool.not_false])))))
      all_goals (refine wpQuiet_nil ?_; intro ws2 hs2)
      have hc3 := (hs2.rules.1 b _ (by first | exact hb | exact Nat.lt_of_lt_of_le hb (by omega))).trans hc3
      have hc4 := (hs2.rules.1 b _ (by first | exact hb | exact Nat.lt_of_lt_of_le hb (by omega))).trans hc4
      have hb := Nat.lt_of_lt_of_le hb hs2.le
      go_wp2_with fail
      go_roundw
      case rel => go_light; exact ⟨j + 1, by omega, by go_num, by rw [HQ.out]; congr 1; push_cast; omega, (HG.out).trans hs2⟩
      case measure => go_light; simp [intOf]; omega
    · obtain rfl : j = n := by omega
      go_wp2_with fail
      go_ret
      go_light
      exact ⟨rfl, hg⟩
end Go.Proofs.Ytembbgkhmnalpaa
