/- Slices of string: the laws' comparison, the marks that the laws write into a result's own memory, and their reading back. Conditions: none. -/
import Derived.Test.YtbmfhdncifcieaaPathS
import Derived.Test.YtbmfhdncifcieaaText
namespace Go.Proofs.Ytbmfhdncifcieaa
open Go.RowKit Go.ChangeShapes Go.WideShapes Go.Deep
set_option linter.unusedVariables false
set_option linter.unusedSimpArgs false

def upStr (q : Int) (n : Nat) : List ByteArray := (List.range n).map fun (i : Nat) => mtext (q + i)
theorem upStr_length (q : Int) (n : Nat) : (upStr q n).length = n := by simp [upStr]
theorem upStr_get {q : Int} {n j : Nat} (hj : j < n) : (upStr q n)[j]? = some (mtext (q + j)) := by simp [upStr, List.getElem?_range hj]
theorem upStr_set {q : Int} {l : List ByteArray} {j : Nat} (hj : j < l.length) : (upStr q j ++ l.drop j).set j (mtext (q + j)) = upStr q (j + 1) ++ l.drop (j + 1) := by
  have h1 : (upStr q j).length = j := upStr_length q j
  rw [List.set_append_right _ _ (by omega), h1, Nat.sub_self, List.drop_eq_getElem_cons hj, List.set_cons_zero]
  simp [upStr, List.range_succ]

set_option maxHeartbeats 2000000 in
theorem markStringS_any (l : List ByteArray) (base : Nat) (A : Option Addr) (c : Nat) (k : Int) (w : World) (h : Own Str.E 9 w base (.slice A l.length c) l) (h0 : 0 ≤ k) (hk : k ≤ 1073741824) (hn : l.length ≤ 4194304) :
    Calls Try.prog 21 #[.slice A l.length c, .int .i64 k] w fun e w' => e = .returned (.int .i64 (k + 1 * l.length)) ∧
      Own Str.E 9 w' base (.slice A l.length c) (upStr k l.length) ∧ w.grownBy w' (Value.ownBlock (.slice A l.length c)) := by
  have H := Lib.hid h
  rcases Nat.eq_zero_or_pos l.length with hl0 | hl0
  · obtain rfl : l = [] := List.eq_nil_of_length_eq_zero hl0
    clear h hl0 hn
    go_enter Try.func21, Try.ntmps21
    go_wp2_with fail
    go_loopw [1, 5] (fun t i wr => i = .int .i64 0 ∧ t = .int .i64 k ∧ wr = w) (fun _ _ _ => 0)
    case atStart => exact ⟨rfl, rfl, rfl⟩
    case round =>
      obtain ⟨rfl, rfl, rfl⟩ := hrel
      go_wp2_with fail
      go_ret
      go_light
      exact ⟨ret_int (by simp), H.out, World.grownBy.refl _ _⟩
  obtain ⟨g, c', e, hbg, hgw⟩ := h.addr hl0
  simp only [Value.slice.injEq, true_and] at e
  obtain ⟨rfl, rfl⟩ := e
  clear h
  go_enter Try.func21, Try.ntmps21
  go_wp2_with fail
  go_loopw [1, 5] (fun t i wr => ∃ j : Nat, j ≤ l.length ∧ i = .int .i64 j ∧ t = .int .i64 (k + 1 * j) ∧ Own Str.E 9 wr base (.slice (some ⟨g, 0, none⟩) l.length c) (upStr k j ++ l.drop j) ∧ w.grownBy wr (some g)) (fun _ i _ => l.length - (intOf i).toNat)
  case atStart => exact ⟨0, Nat.zero_le _, rfl, by simp, by rw [show upStr k 0 ++ l.drop 0 = l by simp [upStr]]; exact H.out, World.grownBy.refl _ _⟩
  case round =>
    obtain ⟨j, hj, rfl, rfl, hown, hgr⟩ := hrel
    have HO := Lib.hid hown
    have HG := Lib.hid hgr
    clear hown hgr
    by_cases hlt : j < l.length
    · have HE := Lib.hid (upStr_set (q := k) hlt)
      obtain ⟨q, hq⟩ : ∃ q : Int, q = k + 1 * (j : Int) := ⟨_, rfl⟩
      have hq0 : 0 ≤ q := by omega
      have hq1 : q ≤ 1099000000000 := by omega
      have HQ := Lib.hid hq
      rw [show k + (j : Int) = q by omega] at HE
      rw [← hq]
      clear hq
      go_wp2_with fail
      refine (markText_any _ _ (by omega)).mono ?_; rintro e w1 ⟨rfl, h1⟩
      have HO1 := Lib.hid (HO.out.grew h1)
      have HG1 := Lib.hid (HG.out.trans (h1.by_ (some g)))
      clear h1
      obtain ⟨x, hx⟩ : ∃ x, (upStr k j ++ l.drop j)[j]? = some x := ⟨_, List.getElem?_eq_getElem (by rw [List.length_append, upStr_length, List.length_drop]; omega)⟩
      have hc0 : w1.cell? ⟨g, j, none⟩ = some (.string x) := by have := HO1.out.at_ hx (j := 0) (u := .string x) rfl; simpa [Str.E] using this
      have hf := HO1.out.frozen
      have hs1 := HO1.out.set_ (i := j) (j := 0) (x' := mtext q) (u := .string (mtext q)) hx rfl (by decide)
      rw [show j * Str.E.sz + 0 = j by simp [Str.E], HE.out] at hs1
      have HS1 := Lib.hid hs1
      clear hs1 hx
      go_wp2_with fail
      go_roundw
      case rel => go_light; exact ⟨j + 1, by omega, by go_num, by rw [HQ.out]; congr 1; push_cast; omega, HS1.out, grownBy_set HG1.out rfl⟩
      case measure => go_light; simp [intOf]; omega
    · obtain rfl : j = l.length := by omega
      go_wp2_with fail
      go_ret
      go_light
      refine ⟨rfl, ?_, HG.out⟩
      have := HO.out
      rwa [List.drop_length, List.append_nil] at this

set_option maxHeartbeats 2000000 in
theorem heldStringS_any (n : Nat) (A : Option Addr) (c : Nat) (k : Int) (w : World) (h : Rd Str.E w A (upStr k n)) (h0 : 0 ≤ k) (hk : k ≤ 1073741824) (hn : n ≤ 4194304) :
    Calls Try.prog 22 #[.slice A n c, .int .i64 k] w fun e w' => e = .returned (.int .i64 (k + 1 * n)) ∧ Grew w w' := by
  have H := Lib.hid h
  clear h
  go_enter Try.func22, Try.ntmps22
  go_wp2_with fail
  go_loopw [1, 5] (fun t i wr => ∃ j : Nat, j ≤ n ∧ i = .int .i64 j ∧ t = .int .i64 (k + 1 * j) ∧ Grew w wr) (fun _ i _ => n - (intOf i).toNat)
  case atStart => exact ⟨0, Nat.zero_le _, rfl, by simp, Grew.refl _⟩
  case round =>
    obtain ⟨j, hj, rfl, rfl, hg⟩ := hrel
    have HG := Lib.hid hg
    by_cases hlt : j < n
    · have hx := upStr_get (q := k) hlt
      obtain ⟨b, o, rfl, hb, hc⟩ := (H.out.grew hg).at_ (k := j) (by rw [upStr_length]; exact hlt)
      have hcx := Str.at_ hc hx
      obtain ⟨q, hq⟩ : ∃ q : Int, q = k + 1 * (j : Int) := ⟨_, rfl⟩
      have hq0 : 0 ≤ q := by omega
      have hq1 : q ≤ 1099000000000 := by omega
      have HQ := Lib.hid hq
      rw [show k + (j : Int) = q by omega] at hcx
      rw [← hq]
      clear hq hx hc hg
      have hi1 : (0 : Int) ≤ (j : Int) := by omega
      have hi2 : (j : Int) < (n : Int) := by omega
      go_wp2_with fail
      (refine wp_region_grow_lit (by kernel_rfl) (by kernel_rfl) ?_; repeat (any_goals (first | go_big_quiet_step (((go_at_call 43; exact quiet_grew (markText_any _ _ (by omega))))) | quiet_step (((go_at_call 43; exact quiet_grew (markText_any _ _ (by omega))))) | (refine wpQuiet_step (fun K hK => ?_); go_simp; split <;> rename_i hsp <;> (refine hK _ ?_; clear hK K) <;> (try first | simp only [hsp, decide_true, decide_false, Bool.not_true, Bool.not_false] | simp only [Int.not_le.2 hsp, decide_false, Bool.not_false] | simp only [Int.not_lt.2 hsp, decide_false, Bool.not_false] | simp only [Nat.not_le.2 hsp, decide_false, Bool.not_false] | simp only [Nat.not_lt.2 hsp, decide_false, Bool.not_false])))))
      all_goals (refine wpQuiet_nil ?_; intro ws0 hs0)
      have hb := Nat.lt_of_lt_of_le hb hs0.le
      go_wp2_with fail
      go_roundw
      case rel => go_light; exact ⟨j + 1, by omega, by go_num, by rw [HQ.out]; congr 1; push_cast; omega, HG.out.trans hs0⟩
      case measure => go_light; simp [intOf]; omega
    · obtain rfl : j = n := by omega
      go_wp2_with fail
      go_ret
      go_light
      exact ⟨rfl, hg⟩

set_option maxHeartbeats 1000000 in
theorem eqStringS_any (l m : List ByteArray) (A B : Option Addr) (c d : Nat) (w : World) (h : Rd Str.E w A l) (h' : Rd Str.E w B m) (hn : l.length ≤ 4194304) (hm : m.length ≤ 4194304) :
    Calls Try.prog 19 #[.slice A l.length c, .slice B m.length d] w fun e w' => e = .returned (.bool (decide (l = m))) ∧ Grew w w' := by
  by_cases hlen : l.length = m.length
  · have hb : ((l.length : Int) != (m.length : Int)) = false := by simp [hlen]
    have HL := Lib.hid hlen
    clear hlen
    go_enter Try.func19, Try.ntmps19
    go_wp2_with fail
    go_loopw [5] (fun i wr => ∃ k : Nat, k ≤ l.length ∧ i = .int .i64 k ∧ Grew w wr ∧ l.take k = m.take k) (fun i _ => l.length - (intOf i).toNat)
    case atStart => exact ⟨0, Nat.zero_le _, rfl, Grew.refl _, by simp⟩
    case round =>
      obtain ⟨k, hk, rfl, hg, heq⟩ := hrel
      have HQ := Lib.hid heq
      clear heq
      by_cases hlt : k < l.length
      · have hlt2 : k < m.length := by rw [← HL.out]; exact hlt
        obtain ⟨x, hx⟩ : ∃ x, l[k]? = some x := ⟨_, List.getElem?_eq_getElem hlt⟩
        obtain ⟨y, hy⟩ : ∃ y, m[k]? = some y := ⟨_, List.getElem?_eq_getElem hlt2⟩
        obtain ⟨b, o, rfl, hb1, hc⟩ := (h.grew hg).at_ hlt
        obtain ⟨b', o', rfl, hb1', hc'⟩ := (h'.grew hg).at_ hlt2
        have hcx := Str.at_ hc hx
        have hcy := Str.at_ hc' hy
        have HX := Lib.hid hx
        have HY := Lib.hid hy
        have HG := Lib.hid hg
        clear hx hy hc hc' hg h h' hb
        have hi1 : (0 : Int) ≤ (k : Int) := by omega
        have hi2 : (k : Int) < (l.length : Int) := by omega
        have hi3 : (k : Int) < (m.length : Int) := by omega
        by_cases hd : x = y
        · have hdd : (x.toList == y.toList) = true := by simp [hd]
          have HD := Lib.hid hd
          clear hd
          go_wp2_with fail
          (refine wp_region_grow_lit (by kernel_rfl) (by kernel_rfl) ?_; repeat (any_goals (first | go_big_quiet_step ((fail)) | quiet_step ((fail)) | (refine wpQuiet_step (fun K hK => ?_); go_simp; split <;> rename_i hsp <;> (refine hK _ ?_; clear hK K) <;> (try first | simp only [hsp, decide_true, decide_false, Bool.not_true, Bool.not_false] | simp only [Int.not_le.2 hsp, decide_false, Bool.not_false] | simp only [Int.not_lt.2 hsp, decide_false, Bool.not_false] | simp only [Nat.not_le.2 hsp, decide_false, Bool.not_false] | simp only [Nat.not_lt.2 hsp, decide_false, Bool.not_false])))))
          all_goals (refine wpQuiet_nil ?_; intro w1 h1)
          all_goals go_wp2_with fail
          go_roundw
          case rel =>
            go_light
            refine ⟨k + 1, by omega, by go_num, HG.out.trans h1, ?_⟩
            rw [List.take_add_one, List.take_add_one, HQ.out, HX.out, HY.out, HD.out]
          case measure => go_light; simp [intOf]; omega
        · have hdd : (x.toList == y.toList) = false := beq_eq_false_iff_ne.2 (fun e => hd (ba_inj.1 e))
          have HD := Lib.hid hd
          clear hd
          go_wp2_with fail
          (refine wp_region_grow_lit (by kernel_rfl) (by kernel_rfl) ?_; repeat (any_goals (first | go_big_quiet_step ((fail)) | quiet_step ((fail)) | (refine wpQuiet_step (fun K hK => ?_); go_simp; split <;> rename_i hsp <;> (refine hK _ ?_; clear hK K) <;> (try first | simp only [hsp, decide_true, decide_false, Bool.not_true, Bool.not_false] | simp only [Int.not_le.2 hsp, decide_false, Bool.not_false] | simp only [Int.not_lt.2 hsp, decide_false, Bool.not_false] | simp only [Nat.not_le.2 hsp, decide_false, Bool.not_false] | simp only [Nat.not_lt.2 hsp, decide_false, Bool.not_false])))))
          all_goals (refine wpQuiet_nil ?_; intro w1 h1)
          all_goals go_wp2_with fail
          go_ret
          go_light
          refine ⟨ret_bool ?_, HG.out.trans h1⟩
          have : l ≠ m := fun e => HD.out (by have h3 := HX.out; rw [e, HY.out] at h3; injection h3 with h3; exact h3.symm)
          simp [this]
      · obtain rfl : k = l.length := by omega
        go_wp2_with fail
        go_ret
        go_light
        refine ⟨ret_bool ?_, hg⟩
        have h3 := HQ.out
        rw [List.take_length, HL.out, List.take_length] at h3
        simp [h3]
  · have hb : ((l.length : Int) != (m.length : Int)) = true := by simpa using fun e => hlen (by omega)
    have HF := Lib.hid (show decide (l = m) = false by simpa using fun e => hlen (by rw [e]))
    clear h h'
    go_enter Try.func19, Try.ntmps19
    go_wp2_with fail
    go_ret
    go_light
    exact ⟨ret_bool HF.out.symm, Grew.refl _⟩
theorem sl_Use : SlInf Try.prog Use.E 25 50 := info_sl Try.underlying25 info_impl_Use rfl rfl (by decide)
theorem Use.bx {w : World} {b : Nat} {x : Use} (h : Bx Use.E w b x) : w.cell? ⟨b, 0, none⟩ = some (.string x.fr) ∧ w.cell? ⟨b, 1, none⟩ = some (.string x.nt) ∧ w.cell? ⟨b, 2, none⟩ = some (.int .i64 x.q) ∧ b < w.heap.size ∧ ∀ j, w.frozen? ⟨b, j, none⟩ = false := ⟨h.2.1 0 _ rfl, h.2.1 1 _ rfl, h.2.1 2 _ rfl, h.1, h.2.2⟩
def mkUse (q : Int) : Use := ⟨mtext (q), mtext (q + 1), q + 1 + 1⟩
def upUse (q : Int) (n : Nat) : List Use := (List.range n).map fun (i : Nat) => mkUse (q + 3 * i)
theorem upUse_length (q : Int) (n : Nat) : (upUse q n).length = n := by simp [upUse]
theorem upUse_get {q : Int} {n j : Nat} (hj : j < n) : (upUse q n)[j]? = some (mkUse (q + 3 * j)) := by simp [upUse, List.getElem?_range hj]
theorem mkdUse {q : Int} {l : List Use} {j : Nat} (hj : j < l.length) : setL (flat Use.E (upUse q j ++ l.drop j)) (j * 3) (Use.E.enc (mkUse (q + 3 * j))) = flat Use.E (upUse q (j + 1) ++ l.drop (j + 1)) := by
  have h1 : (flat Use.E (upUse q j)).length = j * 3 := by rw [flat_length, upUse_length]; rfl
  have h2 : l.drop j = [l[j]] ++ l.drop (j + 1) := by rw [List.drop_eq_getElem_cons hj]; rfl
  have h3 : flat Use.E [l[j]] = Use.E.enc l[j] := by simp [flat]
  have h4 : upUse q (j + 1) = upUse q j ++ [mkUse (q + 3 * j)] := by simp [upUse, List.range_succ]
  have h5 : flat Use.E [mkUse (q + 3 * j)] = Use.E.enc (mkUse (q + 3 * j)) := by simp [flat]
  rw [flat_append, ← h1, setL_app _ _ _ (by rw [h2, flat_append, List.length_append, h3, Use.E.len, Use.E.len]; omega), h4, flat_append, flat_append, h5, h2, flat_append, h3, Use.E.len, ← Use.E.len l[j], List.drop_left]

set_option maxHeartbeats 2000000 in
theorem markUseS_any (l : List Use) (base : Nat) (A : Option Addr) (c : Nat) (k : Int) (w : World) (h : Own Use.E 50 w base (.slice A l.length c) l) (h0 : 0 ≤ k) (hk : k ≤ 1073741824) (hn : l.length ≤ 4194304) :
    Calls Try.prog 20 #[.slice A l.length c, .int .i64 k] w fun e w' => e = .returned (.int .i64 (k + 3 * l.length)) ∧
      Own Use.E 50 w' base (.slice A l.length c) (upUse k l.length) ∧ w.grownBy w' (Value.ownBlock (.slice A l.length c)) := by
  have H := Lib.hid h
  rcases Nat.eq_zero_or_pos l.length with hl0 | hl0
  · obtain rfl : l = [] := List.eq_nil_of_length_eq_zero hl0
    clear h hl0 hn
    go_enter Try.func20, Try.ntmps20
    go_wp2_with fail
    go_loopw [1, 5] (fun t i wr => i = .int .i64 0 ∧ t = .int .i64 k ∧ wr = w) (fun _ _ _ => 0)
    case atStart => exact ⟨rfl, rfl, rfl⟩
    case round =>
      obtain ⟨rfl, rfl, rfl⟩ := hrel
      go_wp2_with fail
      go_ret
      go_light
      exact ⟨ret_int (by simp), H.out, World.grownBy.refl _ _⟩
  obtain ⟨g, cap, hv, _, hg0⟩ := h.form hl0
  simp only [Value.slice.injEq] at hv
  obtain ⟨rfl, _, rfl⟩ := hv
  clear h
  go_enter Try.func20, Try.ntmps20
  go_wp2_with fail
  go_loopw [1, 5] (fun t i wr => ∃ j : Nat, j ≤ l.length ∧ i = .int .i64 j ∧ t = .int .i64 (k + 3 * j) ∧ wr.ownsRow base 50 3 (.slice (some ⟨g, 0, none⟩) l.length c) l.length (flat Use.E (upUse k j ++ l.drop j)) ∧ w.grownBy wr (some g)) (fun _ i _ => l.length - (intOf i).toNat)
  case atStart => exact ⟨0, Nat.zero_le _, rfl, by simp, by rw [show upUse k 0 ++ l.drop 0 = l by simp [upUse]]; exact H.out, World.grownBy.refl _ _⟩
  case round =>
    obtain ⟨j, hj, rfl, rfl, hown, hgr⟩ := hrel
    have HO := Lib.hid hown
    have HG := Lib.hid hgr
    clear hown hgr
    by_cases hlt : j < l.length
    · have HE := Lib.hid (mkdUse (q := k) hlt)
      have hln : (flat Use.E (upUse k j ++ l.drop j)).length = l.length * 3 := HO.out.1
      have HLN := Lib.hid hln
      have hjk : (j + 1) * 3 ≤ l.length * 3 := Nat.mul_le_mul_right _ hlt
      have HJK := Lib.hid hjk
      clear hln hjk
      obtain ⟨q, hq⟩ : ∃ q : Int, q = k + 3 * (j : Int) := ⟨_, rfl⟩
      have hq0 : 0 ≤ q := by omega
      have hq1 : q ≤ 1099000000000 := by omega
      have HQ := Lib.hid hq
      rw [← hq] at HE ⊢
      clear hq

      go_wp2_with fail
      refine (markText_any _ _ (by omega)).mono ?_; rintro e w0 ⟨rfl, h0⟩
      have HO0 := Lib.hid (ownsRow_grew (HO.out) h0)
      have HG0 := Lib.hid ((HG.out).trans (h0.by_ (some g)))
      clear h0
      have hccs0 : ∀ j2, j2 < 3 → ∃ u, w0.cell? ⟨g, j * 3 + j2, none⟩ = some u := fun j2 hj2 => by rw [HO0.out.cellAt (j * 3 + j2) (by have := HJK.out; omega)]; exact ⟨_, List.getElem?_eq_getElem (by have := HO0.out.1; have := HJK.out; omega)⟩
      obtain ⟨us0_0, hus0_0⟩ := hccs0 0 (by decide)
      simp only [Nat.add_zero] at hus0_0
      obtain ⟨us0_1, hus0_1⟩ := hccs0 1 (by decide)
      obtain ⟨us0_2, hus0_2⟩ := hccs0 2 (by decide)
      have hfs0 : ∀ j2, w0.frozen? ⟨g, j2, none⟩ = false := fun j2 => HO0.out.frozenAt j2
      clear hccs0
      go_wp2_with fail
      refine (markText_any _ _ (by omega)).mono ?_; rintro e w1 ⟨rfl, h1⟩
      have HO1 := Lib.hid (ownsRow_grew (((HO0.out).stored _ _).1) h1)
      have HG1 := Lib.hid (((HG0.out).trans ((HO0.out).stored _ _).2).trans (h1.by_ (some g)))
      clear hfs0 hus0_0 hus0_1 hus0_2
      clear h1
      have hccs1 : ∀ j2, j2 < 3 → ∃ u, w1.cell? ⟨g, j * 3 + j2, none⟩ = some u := fun j2 hj2 => by rw [HO1.out.cellAt (j * 3 + j2) (by have := HJK.out; omega)]; exact ⟨_, List.getElem?_eq_getElem (by have := HO1.out.1; have := HJK.out; omega)⟩
      obtain ⟨us1_1, hus1_1⟩ := hccs1 1 (by decide)
      obtain ⟨us1_2, hus1_2⟩ := hccs1 2 (by decide)
      have hfs1 : ∀ j2, w1.frozen? ⟨g, j2, none⟩ = false := fun j2 => HO1.out.frozenAt j2
      clear hccs1
      go_wp2_with fail
      go_roundw
      case rel =>
        go_light
        refine ⟨j + 1, by omega, by go_num, by rw [HQ.out]; congr 1; push_cast; omega, ?_, ((HG1.out).trans ((HO1.out).stored _ _).2).trans ((((HO1.out).stored _ _).1).stored _ _).2⟩
        rw [← HE.out]
        exact ((((HO1.out).stored _ _).1).stored _ _).1
      case measure => go_light; simp [intOf]; omega
    · obtain rfl : j = l.length := by omega
      go_wp2_with fail
      go_ret
      go_light
      refine ⟨rfl, ?_, HG.out⟩
      have := HO.out
      rw [List.drop_length, List.append_nil] at this
      unfold Own
      rw [upUse_length]
      exact this
theorem pathF_le (l : List Use) (a b : ByteArray) : (pathF l a b).1.length ≤ 4194304 := by
  have h1 := pathF_len l a b
  cases h : canPath l a b
  · simp [pathF, h]
  · have := areU_len (canPath_yes h).1
    omega
end Go.Proofs.Ytbmfhdncifcieaa
