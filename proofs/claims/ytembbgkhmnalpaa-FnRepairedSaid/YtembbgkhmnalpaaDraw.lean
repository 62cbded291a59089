/- The draws of the laws: whatever a draw gives lies in its range; it writes the cursor's own block alone. Conditions: none. -/
import Derived.Test.YtembbgkhmnalpaaApp
import Derived.Laws.BitsAllLaws
import Derived.Laws.BitsLemmas
namespace Go.Proofs.Ytembbgkhmnalpaa
open Go.RowKit Go.ChangeShapes Go.WideShapes Go.Deep
set_option linter.unusedVariables false
set_option linter.unusedSimpArgs false

/-- Bytes. -/
def Byt.E : Enc UInt8 := { enc := fun x => [.int .u8 (x.toNat : Int)], sz := 1, pos := by decide, len := fun _ => rfl, one := by intro x u hu; simp at hu; subst hu; rfl }
theorem Byt.at_ {w : World} {b o : Nat} {l : List UInt8} (hc : ∀ i x, l[i]? = some x → ∀ j u, (Byt.E.enc x)[j]? = some u → w.cell? ⟨b, o + i * Byt.E.sz + j, none⟩ = some u) {k : Nat} {x : UInt8} (hx : l[k]? = some x) :
    w.cell? ⟨b, o + k, none⟩ = some (.int .u8 (x.toNat : Int)) := by
  have := hc k x hx 0 _ rfl
  simpa [Byt.E] using this
theorem Rd.kept0 {T : Type} {E : Enc T} {w w' : World} {l : List T} {A : Option Addr} {row : Option Nat} (h : Rd E w A l) (g : w.grownBy w' row) (hne : 0 < l.length → ∀ b o, A = some ⟨b, o, none⟩ → row ≠ some b) : Rd E w' A l := fun hl => (h.kept g (hne hl)) hl
/-- Block g is the cursor over the bytes l, which lie at A. -/
def Cur (w : World) (g : Nat) (A : Option Addr) (c : Nat) (l : List UInt8) : Prop :=
  g < w.heap.size ∧ w.cell? ⟨g, 0, none⟩ = some (.slice A l.length c) ∧ (∃ i : Nat, i ≤ l.length ∧ w.cell? ⟨g, 1, none⟩ = some (.int .i64 i)) ∧ (∃ h : Int, w.cell? ⟨g, 2, none⟩ = some (.int .i64 h)) ∧ (∀ j, w.frozen? ⟨g, j, none⟩ = false) ∧
    Rd Byt.E w A l ∧ (0 < l.length → ∀ b o, A = some ⟨b, o, none⟩ → b ≠ g) ∧ l.length ≤ 1048580
theorem Cur.kept {w w' : World} {g c : Nat} {A : Option Addr} {l : List UInt8} {row : Option Nat} (h : Cur w g A c l) (k : w.grownBy w' row) (hg : row ≠ some g) (hA : 0 < l.length → ∀ b o, A = some ⟨b, o, none⟩ → row ≠ some b) : Cur w' g A c l := by
  obtain ⟨h0, h1, ⟨i, hi, h2⟩, ⟨x, h3⟩, h4, h5, h6, h7⟩ := h
  have hb := k.block g h0 (fun e => hg e.symm)
  exact ⟨Nat.lt_of_lt_of_le h0 k.size, (World.cell?_of_block hb).trans h1, ⟨i, hi, (World.cell?_of_block hb).trans h2⟩, ⟨x, (World.cell?_of_block hb).trans h3⟩, fun j => (World.frozen?_of_block hb).trans (h4 j), h5.kept0 k hA, h6, h7⟩
theorem Cur.grew {w w' : World} {g c : Nat} {A : Option Addr} {l : List UInt8} (h : Cur w g A c l) (k : Grew w w') : Cur w' g A c l := h.kept (k.by_ none) (by simp) (by simp)

theorem Cur.setH {w : World} {g c : Nat} {A : Option Addr} {l : List UInt8} (h : Cur w g A c l) (x : Int) : Cur (w.setCell ⟨g, 2, none⟩ (.int .i64 x)) g A c l ∧ w.grownBy (w.setCell ⟨g, 2, none⟩ (.int .i64 x)) (some g) := by
  have hk : w.grownBy (w.setCell ⟨g, 2, none⟩ (.int .i64 x)) (some g) := ⟨rfl, rfl, rfl, by simp, fun k _ hk => heap_setCell_other w ⟨g, 2, none⟩ k _ (fun e => hk (by rw [e]))⟩
  obtain ⟨h0, h1, ⟨i, hi, h2⟩, ⟨y, h3⟩, h4, h5, h6, h7⟩ := h
  exact ⟨⟨by simpa using h0, by simp [go_sem, h1], ⟨i, hi, by simp [go_sem, h2]⟩, ⟨x, by simp [go_sem, h3]⟩, fun j => by simp [go_sem, h4], h5.kept0 hk (fun hp b o e e2 => h6 hp b o e (by injection e2 with e2; exact e2.symm)), h6, h7⟩, hk⟩
theorem Cur.setI {w : World} {g c : Nat} {A : Option Addr} {l : List UInt8} (h : Cur w g A c l) (x : Nat) (hx : x ≤ l.length) : Cur (w.setCell ⟨g, 1, none⟩ (.int .i64 x)) g A c l ∧ w.grownBy (w.setCell ⟨g, 1, none⟩ (.int .i64 x)) (some g) := by
  have hk : w.grownBy (w.setCell ⟨g, 1, none⟩ (.int .i64 x)) (some g) := ⟨rfl, rfl, rfl, by simp, fun k _ hk => heap_setCell_other w ⟨g, 1, none⟩ k _ (fun e => hk (by rw [e]))⟩
  obtain ⟨h0, h1, ⟨i, hi, h2⟩, ⟨y, h3⟩, h4, h5, h6, h7⟩ := h
  exact ⟨⟨by simpa using h0, by simp [go_sem, h1], ⟨x, hx, by simp [go_sem, h2]⟩, ⟨y, by simp [go_sem, h3]⟩, fun j => by simp [go_sem, h4], h5.kept0 hk (fun hp b o e e2 => h6 hp b o e (by injection e2 with e2; exact e2.symm)), h6, h7⟩, hk⟩

theorem Cur.new_ {w : World} {c : Nat} {A : Option Addr} {l : List UInt8} (h : Rd Byt.E w A l) (hl : l.length ≤ 1048580) (x : Int) (t : TypeId) : Cur (w.alloc (.cells #[.slice A l.length c, .int .i64 0, .int .i64 x] t)) w.heap.size A c l := by
  have hb : (w.alloc (.cells #[.slice A l.length c, .int .i64 0, .int .i64 x] t)).heap[w.heap.size]? = some (.cells #[.slice A l.length c, .int .i64 0, .int .i64 x] t (0, 0)) := heap_alloc_new w _
  refine ⟨by simp, ?_, ⟨0, Nat.zero_le _, ?_⟩, ⟨x, ?_⟩, fun j => frozen_of_row _ _ j _ t hb, h.grew ((Grew.refl w).alloc _), fun hp b o e => ?_, hl⟩
  · rw [cell_of_row _ _ 0 _ t (0, 0) hb]; rfl
  · rw [cell_of_row _ _ 1 _ t (0, 0) hb]; rfl
  · rw [cell_of_row _ _ 2 _ t (0, 0) hb]; rfl
  · obtain ⟨b', o', e', hb', _⟩ := h hp
    rw [e] at e'
    simp only [Option.some.injEq, Addr.mk.injEq, and_true] at e'
    omega

theorem and255 (a : Int) : ∃ x : Int, bits .and .i64 a 255 = x ∧ 0 ≤ x ∧ x ≤ 255 := by
  refine ⟨_, rfl, ?_⟩
  have e : bits .and .i64 a 255 = IntKind.i64.wrap ((BitVec.ofInt 64 a &&& BitVec.ofInt 64 255).toNat : Int) := rfl
  rw [e]
  have h : (BitVec.ofInt 64 a &&& BitVec.ofInt 64 255).toNat ≤ 255 := by
    rw [BitVec.toNat_and]
    exact Nat.le_trans Nat.and_le_right (by decide)
  rw [IntWalk.i64_in _ (by omega)]
  omega

set_option maxRecDepth 100000 in
set_option maxHeartbeats 2000000 in
theorem l1Byte_any (w : World) (g c : Nat) (A : Option Addr) (l : List UInt8) (h : Cur w g A c l) :
    Calls Try.prog 75 #[.pointer (some ⟨g, 0, none⟩)] w fun e w' => ∃ x : Int, e = .returned (.int .i64 x) ∧ 0 ≤ x ∧ x ≤ 255 ∧ Cur w' g A c l ∧ w.grownBy w' (some g) := by
  have HC := Lib.hid h
  obtain ⟨h0, h1, ⟨i, hi, h2⟩, ⟨x, h3⟩, h4, h5, h6, h7⟩ := h
  have HR := Lib.hid h5
  have H6 := Lib.hid h6
  clear h5 h6
  go_enter Try.func75, Try.ntmps75
  go_wp2_with fail
  have HC1 := Lib.hid (HC.out.setH (wrap64 (wrap64 (x * 6364136223846793005) + 1442695040888963407)))
  clear h0 h1 hi h2 h3 h4
  generalize w.setCell ⟨g, 2, none⟩ (.int .i64 (wrap64 (wrap64 (x * 6364136223846793005) + 1442695040888963407))) = w1 at *
  obtain ⟨h0, h1, ⟨i, hi, h2⟩, ⟨y, h3⟩, h4, h5, h6, h7⟩ := HC1.out.1
  clear h5 h6
  (refine wp_region_grow_lit (by kernel_rfl) (by kernel_rfl) ?_; repeat (any_goals (first | go_big_quiet_step (((fail))) | quiet_step (((fail))) | (refine wpQuiet_step (fun K hK => ?_); go_simp; split <;> rename_i hsp <;> (refine hK _ ?_; clear hK K) <;> (try first | simp only [hsp, decide_true, decide_false, Bool.not_true, Bool.not_false] | simp only [Int.not_le.2 hsp, decide_false, Bool.not_false] | simp only [Int.not_lt.2 hsp, decide_false, Bool.not_false] | simp only [Nat.not_le.2 hsp, decide_false, Bool.not_false] | simp only [Nat.not_lt.2 hsp, decide_false, Bool.not_false])))))
  all_goals (refine wpQuiet_nil ?_; intro waa haa)
  have HC2 := Lib.hid (HC1.out.1.grew haa)
  have HG2 := Lib.hid (HC1.out.2.trans (haa.by_ (some g)))
  clear haa h0 h1 hi h2 h3 h4
  obtain ⟨h0, h1, ⟨i, hi, h2⟩, ⟨y2, h3⟩, h4, h5, h6, h7⟩ := HC2.out
  clear h5 h6
  go_wp2_with fail
  obtain ⟨z, hz, hz0, hz1⟩ := and255 (bits .xor .i64 (y / 8589934592) (y / 35184372088832))
  rw [hz]
  clear hz
  by_cases hil : i < l.length
  · have hd : decide ((i : Int) < (l.length : Int)) = true := by simp; omega
    (refine wp_region_grow_lit (by kernel_rfl) (by kernel_rfl) ?_; repeat (any_goals (first | go_big_quiet_step (((fail))) | quiet_step (((fail))) | (refine wpQuiet_step (fun K hK => ?_); go_simp; split <;> rename_i hsp <;> (refine hK _ ?_; clear hK K) <;> (try first | simp only [hsp, decide_true, decide_false, Bool.not_true, Bool.not_false] | simp only [Int.not_le.2 hsp, decide_false, Bool.not_false] | simp only [Int.not_lt.2 hsp, decide_false, Bool.not_false] | simp only [Nat.not_le.2 hsp, decide_false, Bool.not_false] | simp only [Nat.not_lt.2 hsp, decide_false, Bool.not_false])))))
    all_goals (refine wpQuiet_nil ?_; intro wbb hbb)
    have HG3 := Lib.hid (HG2.out.trans (hbb.by_ (some g)))
    have HC3 := Lib.hid (HC2.out.grew hbb)
    have k0 := (hbb.rules.1 g 0 h0).trans h1
    have k1 := (hbb.rules.1 g 1 h0).trans h2
    obtain ⟨u, hu⟩ : ∃ u, l[i]? = some u := ⟨_, List.getElem?_eq_getElem hil⟩
    obtain ⟨b, o, rfl, hb, hc⟩ := (HC3.out.2.2.2.2.2.1).at_ hil
    have hc0 := Byt.at_ hc hu
    have hul : u.toNat < 256 := u.toNat_lt
    have hul0 : (0 : Int) ≤ (u.toNat : Int) := by omega
    have hul1 : (u.toNat : Int) ≤ 255 := by omega
    have hi1 : (0 : Int) ≤ (i : Int) := by omega
    have hi2 : (i : Int) < (l.length : Int) := by omega
    clear hbb h0 h1 hi h2 h3 h4 hd hu hc hul
    generalize (u.toNat : Int) = ub at *
    go_wp2_with fail
    have hzw : IntKind.i64.wrap (z + ub) = z + ub := IntWalk.i64_in _ (by omega)
    (refine wp_region_grow_lit (by kernel_rfl) (by kernel_rfl) ?_; repeat (any_goals (first | go_big_quiet_step (((fail))) | quiet_step (((fail))) | (refine wpQuiet_step (fun K hK => ?_); go_simp; split <;> rename_i hsp <;> (refine hK _ ?_; clear hK K) <;> (try first | simp only [hsp, decide_true, decide_false, Bool.not_true, Bool.not_false] | simp only [Int.not_le.2 hsp, decide_false, Bool.not_false] | simp only [Int.not_lt.2 hsp, decide_false, Bool.not_false] | simp only [Nat.not_le.2 hsp, decide_false, Bool.not_false] | simp only [Nat.not_lt.2 hsp, decide_false, Bool.not_false])))))
    all_goals (refine wpQuiet_nil ?_; intro wcc hcc)
    obtain ⟨z2, hz2, hz20, hz21⟩ := and255 (z + ub)
    try rw [hz2]
    have HC4 := Lib.hid (HC3.out.grew hcc)
    have HG4 := Lib.hid (HG3.out.trans (hcc.by_ (some g)))
    have m1 := (hcc.rules.1 g 1 HC3.out.1).trans k1
    have m2 := HC4.out.2.2.2.2.1
    clear hcc k0 k1 hc0 hz2 hzw
    go_wp2_with fail
    go_ret
    go_light
    have h9 := HC4.out.setI (i + 1) (by omega)
    refine ⟨z2, rfl, hz20, hz21, ?_, ?_⟩
    · have := h9.1; push_cast at this; exact this
    · have := HG4.out.trans h9.2; push_cast at this; exact this
  · have hd : decide ((i : Int) < (l.length : Int)) = false := by simp; omega
    (refine wp_region_grow_lit (by kernel_rfl) (by kernel_rfl) ?_; repeat (any_goals (first | go_big_quiet_step (((fail))) | quiet_step (((fail))) | (refine wpQuiet_step (fun K hK => ?_); go_simp; split <;> rename_i hsp <;> (refine hK _ ?_; clear hK K) <;> (try first | simp only [hsp, decide_true, decide_false, Bool.not_true, Bool.not_false] | simp only [Int.not_le.2 hsp, decide_false, Bool.not_false] | simp only [Int.not_lt.2 hsp, decide_false, Bool.not_false] | simp only [Nat.not_le.2 hsp, decide_false, Bool.not_false] | simp only [Nat.not_lt.2 hsp, decide_false, Bool.not_false])))))
    all_goals (refine wpQuiet_nil ?_; intro wbb hbb)
    go_wp2_with fail
    go_ret
    go_light
    exact ⟨z, rfl, hz0, hz1, HC2.out.grew hbb, HG2.out.trans (hbb.by_ (some g))⟩

set_option maxRecDepth 100000 in
set_option maxHeartbeats 2000000 in
theorem l1Below_any (w : World) (g c : Nat) (A : Option Addr) (l : List UInt8) (n : Int) (h : Cur w g A c l) (hn : n ≤ 4294967296) :
    Calls Try.prog 66 #[.pointer (some ⟨g, 0, none⟩), .int .i64 n] w fun e w' => ∃ x : Int, e = .returned (.int .i64 x) ∧ 0 ≤ x ∧ (0 < n → x < n) ∧ (n ≤ 0 → x = 0) ∧ Cur w' g A c l ∧ w.grownBy w' (some g) := by
  have HC := Lib.hid h
  clear h
  by_cases h0 : n ≤ 0
  · go_enter Try.func66, Try.ntmps66
    go_wp2_with fail
    go_ret
    go_light
    exact ⟨0, rfl, Int.le_refl _, fun h => by omega, fun _ => rfl, HC.out, World.grownBy.refl _ _⟩
  have hnz : n ≠ 0 := by omega
  by_cases h1 : n ≤ 256
  · go_enter Try.func66, Try.ntmps66
    go_wp2_with fail
    refine (l1Byte_any _ _ _ _ _ HC.out).mono ?_; rintro e w1 ⟨x, rfl, hx0, hx1, hc1, hg1⟩
    have HC1 := Lib.hid hc1
    have HG1 := Lib.hid hg1
    clear hc1 hg1
    go_wp2_with fail
    go_ret
    go_light
    exact ⟨_, rfl, Int.emod_nonneg _ hnz, fun h => Int.emod_lt_of_pos _ h, fun h => by omega, HC1.out, HG1.out⟩
  · go_enter Try.func66, Try.ntmps66
    go_wp2_with fail
    refine (l1Byte_any _ _ _ _ _ HC.out).mono ?_; rintro e w1 ⟨x, rfl, hx0, hx1, hc1, hg1⟩
    have HC1 := Lib.hid hc1
    have HG1 := Lib.hid hg1
    clear hc1 hg1
    go_wp2_with fail
    refine (l1Byte_any _ _ _ _ _ HC1.out).mono ?_; rintro e w2 ⟨y, rfl, hy0, hy1, hc2, hg2⟩
    have HC2 := Lib.hid hc2
    have HG2 := Lib.hid (HG1.out.trans hg2)
    clear hc2 hg2
    go_wp2_with fail
    refine (l1Byte_any _ _ _ _ _ HC2.out).mono ?_; rintro e w3 ⟨z, rfl, hz0, hz1, hc3, hg3⟩
    have HC3 := Lib.hid hc3
    have HG3 := Lib.hid (HG2.out.trans hg3)
    clear hc3 hg3
    go_wp2_with fail
    refine (l1Byte_any _ _ _ _ _ HC3.out).mono ?_; rintro e w4 ⟨t, rfl, ht0, ht1, hc4, hg4⟩
    have HC4 := Lib.hid hc4
    have HG4 := Lib.hid (HG3.out.trans hg4)
    clear hc4 hg4
    go_wp2_with fail
    go_ret
    go_light
    exact ⟨_, rfl, Int.emod_nonneg _ hnz, fun h => Int.emod_lt_of_pos _ h, fun h => by omega, HC4.out, HG4.out⟩
set_option maxHeartbeats 1000000 in
theorem l1Once_any (w : World) (g c : Nat) (A : Option Addr) (l : List UInt8) (n : Int) (h : Cur w g A c l) (hn : n ≤ 4294967296) :
    Calls Try.prog 67 #[.pointer (some ⟨g, 0, none⟩), .int .i64 n] w fun e w' => ∃ x : Bool, e = .returned (.bool x) ∧ Cur w' g A c l ∧ w.grownBy w' (some g) := by
  have HC := Lib.hid h
  clear h
  go_enter Try.func67, Try.ntmps67
  go_wp2_with fail
  refine (l1Below_any _ _ _ _ _ n HC.out hn).mono ?_; rintro e w1 ⟨x, rfl, hx0, hx1, hx2, hc1, hg1⟩
  have HC1 := Lib.hid hc1
  have HG1 := Lib.hid hg1
  clear hc1 hg1 hx1 hx2
  go_wp2_with fail
  go_ret
  go_light
  exact ⟨_, rfl, HC1.out, HG1.out⟩
set_option maxRecDepth 100000 in
set_option maxHeartbeats 2000000 in
theorem l1NewX_any (w : World) (c : Nat) (A : Option Addr) (l : List UInt8) (h : Rd Byt.E w A l) (hl : l.length ≤ 1048580) :
    Calls Try.prog 56 #[.slice A l.length c] w fun e w' => ∃ g : Nat, e = .returned (.pointer (some ⟨g, 0, none⟩)) ∧ Cur w' g A c l ∧ Grew w w' ∧ w.heap.size ≤ g := by
  have HL := Lib.hid h
  clear h
  go_enter Try.func56, Try.ntmps56
  go_wp2_with fail
  go_loopw [3, 4] (fun h i wr => ∃ (k : Nat) (x : Int), k ≤ l.length ∧ i = .int .i64 k ∧ h = .int .i64 x ∧ wr = w) (fun _ i _ => l.length - (intOf i).toNat)
  case atStart => exact ⟨0, _, Nat.zero_le _, rfl, rfl, rfl⟩
  case round =>
    obtain ⟨k, x, hk, rfl, rfl, rfl⟩ := hrel
    by_cases hlt : k < l.length
    · obtain ⟨u, hu⟩ : ∃ u, l[k]? = some u := ⟨_, List.getElem?_eq_getElem hlt⟩
      obtain ⟨b, o, rfl, hb, hc⟩ := HL.out.at_ hlt
      have hc0 := Byt.at_ hc hu
      clear hu hc
      generalize (u.toNat : Int) = ub at *
      have hd : decide ((k : Int) < (l.length : Int)) = true := by simp; omega
      by_cases h4 : (k : Int) < 4000
      · have hd4 : decide ((k : Int) < 4000) = true := by simpa using h4
        go_wp2_with fail
        go_roundw
        case rel => go_light; exact ⟨k + 1, _, by omega, by go_num, rfl, by first | rfl | trivial⟩
        case measure => go_light; simp [intOf]; omega
      · have hd4 : decide ((k : Int) < 4000) = false := by simpa using h4
        go_wp2_with fail
        go_ret
        go_light
        exact ⟨wr.heap.size, rfl, Cur.new_ HL.out hl _ _, (Grew.refl _).alloc _, Nat.le_refl _⟩
    · obtain rfl : k = l.length := by omega
      have hd : decide ((l.length : Int) < (l.length : Int)) = false := by simp
      go_wp2_with fail
      go_ret
      go_light
      exact ⟨wr.heap.size, rfl, Cur.new_ HL.out hl _ _, (Grew.refl _).alloc _, Nat.le_refl _⟩

theorem l1New_any (w : World) (c : Nat) (A : Option Addr) (l : List UInt8) (h : Rd Byt.E w A l) (hl : l.length ≤ 1048576) :
    Calls Try.prog 56 #[.slice A l.length c] w fun e w' => ∃ g : Nat, e = .returned (.pointer (some ⟨g, 0, none⟩)) ∧ Cur w' g A c l ∧ Grew w w' ∧ w.heap.size ≤ g := l1NewX_any w c A l h (by omega)

/-- What an element of a list of ints is picked from. -/
def IntP.E : Enc Int := { enc := fun x => [.int .i64 x], sz := 1, pos := by decide, len := fun _ => rfl, one := by intro x u hu; simp at hu; subst hu; rfl }
set_option maxHeartbeats 1000000 in
theorem l1PickInt_any (w : World) (g c : Nat) (A : Option Addr) (l : List UInt8) (xs : List Int) (b cx : Nat) (h : Cur w g A c l) (hx : Rd IntP.E w (some ⟨b, 0, none⟩) xs) (h0 : 0 < xs.length) (hn : xs.length ≤ 1000) (hb : b ≠ g) :
    Calls Try.prog 74 #[.pointer (some ⟨g, 0, none⟩), .slice (some ⟨b, 0, none⟩) xs.length cx] w fun e w' => ∃ x : Int, e = .returned (.int .i64 x) ∧ x ∈ xs ∧ Cur w' g A c l ∧ w.grownBy w' (some g) := by
  have HC := Lib.hid h
  have HX := Lib.hid hx
  clear h hx
  go_enter Try.func74, Try.ntmps74
  go_wp2_with fail
  refine (l1Below_any _ _ _ _ _ (xs.length : Int) HC.out (by omega)).mono ?_; rintro e w1 ⟨x, rfl, hx0, hx1, hx2, hc1, hg1⟩
  have HC1 := Lib.hid hc1
  have HG1 := Lib.hid hg1
  have hlt := hx1 (by omega)
  obtain ⟨k, rfl⟩ := Int.eq_ofNat_of_zero_le hx0
  obtain ⟨y, hy⟩ : ∃ y, xs[k]? = some y := ⟨_, List.getElem?_eq_getElem (by omega)⟩
  have hrd := HX.out.kept hg1 (fun b' o' e e2 => by simp only [Option.some.injEq, Addr.mk.injEq, and_true] at e e2; omega)
  obtain ⟨b2, o2, e2, hb2, hc2⟩ := hrd.at_ (k := k) (by omega)
  simp only [Option.some.injEq, Addr.mk.injEq, and_true] at e2
  obtain ⟨rfl, rfl⟩ := e2
  have hc0 := hc2 k y hy 0 _ rfl
  have HM := Lib.hid (List.mem_of_getElem? hy)
  simp only [IntP.E, Nat.mul_one, Nat.zero_add, Nat.add_zero] at hc0
  have hkl : k < xs.length := by omega
  clear hc1 hg1 hx1 hx2 hy hrd hc2
  go_wp2_with fail
  go_ret
  go_light
  exact ⟨y, rfl, HM.out, HC1.out, HG1.out⟩
theorem cells_byte : Try.prog.cellsOf 5 = 1 := by kernel_rfl
set_option maxRecDepth 100000 in
theorem Byt.open_ {H : Type} {enc : TypeId × Value → H} {w : World} {spare : Nat → Bool} {held : Bool} {v : Value} {d : DataW H} {p : List MemPlace} {rc : Reach} {b0 : Nat}
    (hv : Value.okWide Try.prog w rc b0 50 v) (h : DataW.Trod enc Try.prog w 0 spare held 50 v d p) :
    ∃ (l : List UInt8) (A : Option Addr) (c : Nat), v = .slice A l.length c ∧ Rd Byt.E w A l ∧ l.length ≤ c ∧ c ≤ maxLen := by
  obtain ⟨a0, len0, cap0, rfl⟩ := okWide_slice Try.underlying50 hv
  obtain ⟨fuel, hf0⟩ := h
  have hf1 : DataW.trod enc Try.prog w 0 spare held fuel 50 [.slice a0 len0 cap0] = some (d, p) := by simpa [Value.cells] using hf0
  rcases open_ints Try.underlying50 Try.underlying5 cells_byte hf1 with ⟨hcs, _⟩ | ⟨a, len, cap, zs, hcs, _, hl, hm, hz, _, hcell, hwf⟩
  · simp only [List.cons.injEq, Value.slice.injEq, and_true] at hcs
    obtain ⟨rfl, rfl, rfl⟩ := hcs
    exact ⟨[], none, 0, rfl, Rd.nil, Nat.le_refl _, by simp [maxLen]⟩
  · simp only [List.cons.injEq, Value.slice.injEq, and_true] at hcs
    obtain ⟨rfl, rfl, rfl⟩ := hcs
    have hlz : len0 ≤ zs.length := by rw [hz]; split <;> omega
    have hln : ((zs.take len0).map (fun z => UInt8.ofNat z.toNat)).length = len0 := by rw [List.length_map, List.length_take, Nat.min_eq_left hlz]
    refine ⟨(zs.take len0).map (fun z => UInt8.ofNat z.toNat), some a, cap0, by rw [hln], rd_of_add (E := Byt.E) (fun i x hx j u hu => ?_), by rw [hln]; exact hl, hm⟩
    have hi : i < len0 := by
      have := (List.getElem?_eq_some_iff.1 hx).1
      rw [hln] at this
      exact this
    rw [List.getElem?_map, List.getElem?_take, if_pos hi, Option.map_eq_some_iff] at hx
    obtain ⟨z, hz2, rfl⟩ := hx
    match j, hu with
    | 0, hu =>
      have hux : u = .int .u8 ((UInt8.ofNat z.toNat).toNat : Int) := by simpa [Byt.E] using hu.symm
      subst hux
      have h1 := hcell i (by omega)
      rw [List.getD_eq_getElem?_getD, hz2] at h1
      have h2 := hwf z (List.mem_of_getElem? hz2)
      have h3 : 0 ≤ z ∧ z ≤ 255 := by
        unfold Lit.wf at h2
        rw [Bool.and_eq_true, decide_eq_true_eq, decide_eq_true_eq] at h2
        exact ⟨h2.1, h2.2⟩
      have h4 : ((UInt8.ofNat z.toNat).toNat : Int) = z := by
        rw [UInt8.toNat_ofNat', Nat.mod_eq_of_lt (by omega)]
        omega
      rw [h4]
      simpa [Byt.E] using h1
    | j + 1, hu => simp [Byt.E] at hu
end Go.Proofs.Ytembbgkhmnalpaa
