/- BestOrder of the reference: the table of minutes by families that are left. Conditions: none. -/
import Derived.Test.YtfplgagdjdhopaaBstP
import Derived.Test.YtfplgagdjdhopaaNearI
namespace Go.Proofs.Ytfplgagdjdhopaa
open Go.RowKit Go.ChangeShapes Go.WideShapes Go.Deep
set_option linter.unusedVariables false
set_option linter.unusedSimpArgs false

/-- Block g has n + 1 rows of F numbers; the first i of them are laid, row j in block rb j. -/
structure Tab (w0 w : World) (g : Nat) (rb : Nat → Nat) (n F i : Nat) (T : Nat → Nat → Int) : Prop where
  gr : Grew w0 w
  gl : w0.heap.size ≤ g ∧ g < w.heap.size
  out : ∀ j, j ≤ n → w.cell? ⟨g, j, none⟩ = some (if j < i then .slice (some ⟨rb j, 0, none⟩) F F else .slice none 0 0)
  cel : ∀ j, j < i → ∀ x, x < F → w.cell? ⟨rb j, x, none⟩ = some (.int .i64 (T j x))
  blk : ∀ j, j < i → g < rb j ∧ rb j < w.heap.size
  inj : ∀ j k, j < i → k < i → rb j = rb k → j = k
  fg : ∀ x, w.frozen? ⟨g, x, none⟩ = false
  fr : ∀ j, j < i → ∀ x, w.frozen? ⟨rb j, x, none⟩ = false
section
variable {w0 w w' : World} {g n F i : Nat} {rb : Nat → Nat} {T : Nat → Nat → Int}
theorem Tab.grew (h : Tab w0 w g rb n F i T) (k : Grew w w') : Tab w0 w' g rb n F i T where
  gr := h.gr.trans k
  gl := ⟨h.gl.1, Nat.lt_of_lt_of_le h.gl.2 k.le⟩
  out := fun j hj => (k.rules.1 g _ h.gl.2).trans (h.out j hj)
  cel := fun j hj x hx => (k.rules.1 (rb j) _ (h.blk j hj).2).trans (h.cel j hj x hx)
  blk := fun j hj => ⟨(h.blk j hj).1, Nat.lt_of_lt_of_le (h.blk j hj).2 k.le⟩
  inj := h.inj
  fg := fun x => (k.rules.2 g _ h.gl.2).trans (h.fg x)
  fr := fun j hj x => (k.rules.2 (rb j) _ (h.blk j hj).2).trans (h.fr j hj x)
/-- One number set. -/
theorem Tab.set_ (h : Tab w0 w g rb n F i T) {a l : Nat} (ha : a < i) (hl : l < F) (v : Int) : Tab w0 (w.setCell ⟨rb a, l, none⟩ (.int .i64 v)) g rb n F i (fun j x => if j = a ∧ x = l then v else T j x) := by
  have hb := h.blk a ha
  refine ⟨h.gr.setCell (p := ⟨rb a, l, none⟩) (by have := h.gl.1; show w0.heap.size ≤ rb a; omega) _, by simpa using h.gl, fun j hj => ?_, fun j hj x hx => ?_, fun j hj => by simpa using h.blk j hj, h.inj, fun x => by simp [go_sem, h.fg x], fun j hj x => by simp [go_sem, h.fr j hj x]⟩
  · rw [World.cell?_setCell_other _ _ _ _ (by intro e; simp only [Addr.mk.injEq] at e; omega)]
    exact h.out j hj
  · by_cases e : j = a ∧ x = l
    · obtain ⟨rfl, rfl⟩ := e
      rw [if_pos ⟨rfl, rfl⟩]
      exact World.cell?_setCell_same _ _ _ (h.cel j hj x hx)
    · rw [if_neg e, World.cell?_setCell_other _ _ _ _ (by
        intro e2
        simp only [Addr.mk.injEq] at e2
        exact e ⟨(h.inj a j ha hj e2.1).symm, by omega⟩)]
      exact h.cel j hj x hx
theorem Tab.congr (h : Tab w0 w g rb n F i T) {T' : Nat → Nat → Int} (he : ∀ j x, j < i → x < F → T j x = T' j x) : Tab w0 w g rb n F i T' :=
  ⟨h.gr, h.gl, h.out, fun j hj x hx => by rw [← he j x hj hx]; exact h.cel j hj x hx, h.blk, h.inj, h.fg, h.fr⟩
/-- One row more. -/
theorem Tab.row (h : Tab w0 w g rb n F i (fun _ _ => 0)) (hi : i ≤ n) {w2 : World} (hgr : w.grownBy w2 none) (ho : w2.ownsRow w.heap.size 3 1 (.slice (some ⟨w.heap.size, 0, none⟩) F F) F (madeCells (Value.int .i64 0).cells (F * 1)).toList) :
    Tab w0 (w2.setCell ⟨g, i, none⟩ (.slice (some ⟨w.heap.size, 0, none⟩) F F)) g (fun j => if j = i then w.heap.size else rb j) n F (i + 1) (fun _ _ => 0) := by
  have hG : Grew w w2 := (Grew.refl w).grown hgr (by simp)
  have h2 := h.grew hG
  have hl := World.ownsRow.lt ho w.heap.size rfl
  have hgl := h.gl
  refine ⟨h2.gr.setCell (p := ⟨g, i, none⟩) hgl.1 _, by simpa using h2.gl, fun j hj => ?_, fun j hj x hx => ?_, fun j hj => ?_, fun j k hj hk e => ?_, fun x => by simp [go_sem, h2.fg x], fun j hj x => ?_⟩
  · by_cases e : j = i
    · subst e
      rw [if_pos (by omega), if_pos rfl]
      exact World.cell?_setCell_same _ _ _ (h2.out j hj)
    · rw [World.cell?_setCell_other _ _ _ _ (by intro e2; simp only [Addr.mk.injEq] at e2; omega), h2.out j hj]
      by_cases h3 : j < i
      · rw [if_pos h3, if_pos (by omega), if_neg e]
      · rw [if_neg h3, if_neg (by omega)]
  · by_cases e : j = i
    · subst e
      rw [if_pos rfl, World.cell?_setCell_other _ _ _ _ (by intro e2; simp only [Addr.mk.injEq] at e2; omega), ho.cellAt x (by omega)]
      simp [madeCells, Value.cells, hx, Nat.mod_one]
    · have h3 := h.blk j (by omega)
      rw [if_neg e, World.cell?_setCell_other _ _ _ _ (by intro e2; simp only [Addr.mk.injEq] at e2; omega)]
      exact h2.cel j (by omega) x hx
  · by_cases e : j = i
    · subst e
      rw [if_pos rfl]
      simp only [World.size_setCell]
      omega
    · rw [if_neg e]
      simpa using h2.blk j (by omega)
  · by_cases e1 : j = i <;> by_cases e2 : k = i
    · omega
    · rw [if_pos e1, if_neg e2] at e
      have := h.blk k (by omega); omega
    · rw [if_neg e1, if_pos e2] at e
      have := h.blk j (by omega); omega
    · rw [if_neg e1, if_neg e2] at e
      exact h.inj j k (by omega) (by omega) e
  · by_cases e : j = i
    · subst e
      rw [if_pos rfl]
      simp [go_sem, ho.frozenAt x]
    · rw [if_neg e]
      simp [go_sem, h2.fr j (by omega) x]
end
theorem Tab.start {w0 w1 w2 : World} {n F : Nat} (h1 : Grew w0 w1) (hgr : w1.grownBy w2 none) (ho : w2.ownsRow w1.heap.size 27 1 (.slice (some ⟨w1.heap.size, 0, none⟩) (n + 1) (n + 1)) (n + 1) (madeCells (Value.slice none 0 0).cells ((n + 1) * 1)).toList) :
    Tab w0 w2 w1.heap.size (fun _ => 0) n F 0 (fun _ _ => 0) := by
  have hl := World.ownsRow.lt ho w1.heap.size rfl
  refine ⟨h1.grown hgr (by simp), ⟨h1.le, hl.2⟩, fun j hj => ?_, fun j hj => by omega, fun j hj => by omega, fun j k hj => by omega, fun x => ho.frozenAt x, fun j hj => by omega⟩
  rw [if_neg (by omega), ho.cellAt j (by omega)]
  simp [madeCells, Value.cells, show j < n + 1 by omega, Nat.mod_one]
theorem dD_bd {L : List (List Int)} {n : Nat} (hs : setB L = true) (hL : L.length = n + 1) : ∀ (m l a : Nat), l ≤ m → l < 2 ^ n → a ≤ n → 0 ≤ dD L n a l ∧ dD L n a l ≤ 1000 * (l : Int)
  | 0, l, a, h, _, _ => by
    obtain rfl : l = 0 := by omega
    simp [dD_zero]
  | m + 1, l, a, h, hb, ha => by
    have hlt : ∀ k, l.testBit k = true → k < n := fun k hk => by
      have := tb_le hk
      exact (Nat.pow_lt_pow_iff_right (by decide : 1 < 2)).1 (Nat.lt_of_le_of_lt this hb)
    refine ⟨dD_ok hs hL (m + 1) l a h hlt ha, ?_⟩
    by_cases h0 : l = 0
    · subst h0; simp [dD_zero]
    · obtain ⟨k, hk⟩ := bit_ex (l := l) (by omega)
      have hg : ∀ j, l.testBit j = true → 0 ≤ gD L n a l j := fun j hj => by
        have h1 := (cell_ok hs hL ha (hlt j hj)).1
        have h2 := (dD_bd hs hL m (l - 2 ^ j) j (by have := tb_le hj; have := Nat.two_pow_pos j; omega) (Nat.lt_of_le_of_lt (Nat.sub_le _ _) hb) (by have := hlt j hj; omega)).1
        unfold gD; omega
      obtain ⟨h1, h2, h3⟩ := fm_ok hg n
      rw [dD_eq L n a (by omega)]
      by_cases hm : fm l.testBit (gD L n a l) n < 0
      · omega
      · have h4 := (h3 (by omega)).2.2.2.1 k (hlt k hk) hk
        have hp := tb_le hk
        have hq := Nat.two_pow_pos k
        have h5 := (dD_bd hs hL m (l - 2 ^ k) k (by omega) (Nat.lt_of_le_of_lt (Nat.sub_le _ _) hb) (by have := hlt k hk; omega)).2
        have h6 := (cell_ok hs hL ha (hlt k hk)).2
        have e : gD L n a l k = cellF L a k + dD L n k (l - 2 ^ k) := rfl
        rw [e] at h4
        omega
theorem and1 (m : Nat) (h : m < 1000) : bits .and .i64 (m : Int) 1 = ((m % 2 : Nat) : Int) := by
  have e : bits .and .i64 (m : Int) 1 = IntKind.i64.wrap ((BitVec.ofInt 64 (m : Int) &&& BitVec.ofInt 64 1).toNat : Int) := rfl
  have e2 : (BitVec.ofInt 64 (m : Int) &&& BitVec.ofInt 64 1).toNat = m % 2 := by
    rw [BitVec.toNat_and]
    have h1 : (BitVec.ofInt 64 (m : Int)).toNat = m := by
      rw [BitVec.ofInt_natCast, BitVec.toNat_ofNat]
      exact Nat.mod_eq_of_lt (by omega)
    have h2 : (BitVec.ofInt 64 1).toNat = 1 := rfl
    rw [h1, h2, Nat.and_one_is_mod]
  rw [e, e2, IntWalk.i64_in _ (by omega)]
/-- Whether a family is left. -/
theorem bit_int {l k P : Nat} (hP : 2 ^ k = P) (hl : l < 1000) : bits .and .i64 ((l : Int) / (P : Int)) 1 = (if l.testBit k then 1 else 0) := by
  have h1 : l / P < 1000 := Nat.lt_of_le_of_lt (Nat.div_le_self l P) hl
  have e : ((l : Int) / (P : Int)) = ((l / P : Nat) : Int) := by simp
  rw [e, and1 _ h1, Nat.testBit_eq_decide_div_mod_eq, hP]
  rcases Nat.mod_two_eq_zero_or_one (l / P) with h | h <;> simp [h]
theorem info_intS : (Try.prog.info? 27).map (fun i => (i.zero, i.size, i.bytes)) = some (some (.slice none 0 0), 1, 24) := by kernel_rfl
set_option maxRecDepth 100000 in
set_option maxHeartbeats 8000000 in
theorem best_spec (L : List (List Int)) (A : Option Addr) (c : Nat) (w : World) (h : RdR w A L) (hr : ∀ m ∈ L, m.length ≤ maxLen) (hn : L.length ≤ 4194304) :
    Calls Try.prog 22 #[.slice A L.length c] w fun e w' => ∃ A' c', e = .returned (.tuple #[.slice A' (bestF L).1.length c', .int .i64 (bestF L).2.1, .bool (bestF L).2.2]) ∧ Own IntS.E 3 w' w.heap.size (.slice A' (bestF L).1.length c') (bestF L).1 ∧ Grew w w' := by
  have HL := Lib.hid h
  have HR := Lib.hid hr
  clear h hr
  cases ha : setB L
  · have HF := Lib.hid (show bestF L = ([], 0, false) by simp [bestF, ha])
    have HA := Lib.hid ha
    clear ha
    go_enter Try.func22, Try.ntmps22
    go_wp2_with (go_at_call 9; refine (isSetupsE_spec HA.out rfl _ _ _ HL.out HR.out hn).mono ?_; rintro e w1 ⟨rfl, h1⟩)
    go_ret3
    go_light
    exact ⟨_, 0, by rw [HF.out]; rfl, by rw [HF.out]; exact Own.new_ h1.le, h1.alloc _⟩
  obtain ⟨n, hnL⟩ : ∃ n, L.length = n + 1 := ⟨L.length - 1, by have := (setB_at ha).1; omega⟩
  have h7 : n ≤ 7 := by have := (setB_at ha).2.1; omega
  have HF := Lib.hid (best_eq ha hnL)
  have HA := Lib.hid ha
  have HNL := Lib.hid hnL
  rw [hnL]
  clear ha hnL hn
  obtain ⟨i0, hi0, hz0, hz1, hz2⟩ := info_parts info_intS
  obtain ⟨i1, hj0, hy0, hy1, hy2⟩ := info_parts info_int
  obtain ⟨F, hF⟩ : ∃ F, 2 ^ n = F := ⟨_, rfl⟩
  have hpow : (2 : Int) ^ n = (F : Int) := by rw [← hF]; simp
  have hF1 : 1 ≤ F := by rw [← hF]; exact Nat.two_pow_pos n
  have hF2 : F ≤ 128 := by rw [← hF]; exact Nat.le_trans (Nat.pow_le_pow_right (by decide) h7) (by decide)
  have HPF := Lib.hid hF
  rw [hF] at HF
  clear hF
  go_enter Try.func22, Try.ntmps22
  go_wp2_with (first
    | (go_at_call 9; refine (isSetupsE_spec HA.out HNL.out _ _ _ HL.out HR.out (by have := HNL.out; omega)).mono ?_; rintro e w1 ⟨rfl, h1⟩)
    | (at_make; refine wpList_make_full _ rfl _ _ _ rfl w1.heap.size 27 i0 _ 1 Try.underlying22 hi0 hz0 hz1 _ _ _ _ (n + 1) rfl rfl rfl rfl (by rw [hz2]; omega) (by simp only [maxLen]; omega) (Nat.le_refl _) ?_; intro w2 hown2 hgr2))
  have HT0 := Lib.hid (Tab.start (F := F) h1 hgr2 hown2)
  clear h1 hgr2 hown2 hi0 hz0 hz1 hz2
  obtain ⟨g, hg⟩ : ∃ g, g = w1.heap.size := ⟨_, rfl⟩
  rw [← hg] at HT0 ⊢
  clear hg
  have hm1 : (F : Int) - 1 + 1 = (F : Int) := by omega
  go_loopw [8] (fun i wr => ∃ (k : Nat) (rb : Nat → Nat), k ≤ n + 1 ∧ i = .int .i64 k ∧ Tab w wr g rb n F k (fun _ _ => 0)) (fun i _ => n + 1 - (intOf i).toNat)
  case atStart => exact ⟨0, _, Nat.zero_le _, rfl, HT0.out⟩
  case round =>
    obtain ⟨k, rb, hk, rfl, ht⟩ := hrel
    have HT := Lib.hid ht
    clear ht HT0
    by_cases hlt : k ≤ n
    · have hck := HT.out.out k hlt
      rw [if_neg (by omega)] at hck
      have hfk := HT.out.fg
      have hi1 : (k : Int) ≤ (n : Int) := by omega
      have hi2 : (k : Int) < (n : Int) + 1 := by omega
      go_wp2_with (at_make; refine wpList_make_full _ rfl _ _ _ rfl wr.heap.size 3 i1 _ 1 Try.underlying27 hj0 hy0 hy1 _ _ _ _ F rfl rfl rfl rfl (by rw [hy2]; omega) (by simp only [maxLen]; omega) (Nat.le_refl _) ?_; intro w3 hown3 hgr3; have HR3 := Lib.hid (HT.out.row hlt hgr3 hown3); have hck3 := (HT.out.grew ((Grew.refl wr).grown hgr3 (by simp))).out k hlt; have hfk3 := (HT.out.grew ((Grew.refl wr).grown hgr3 (by simp))).fg; rw [if_neg (by omega)] at hck3; clear hown3 hgr3)
      go_roundw
      case rel => go_light; exact ⟨k + 1, _, by omega, by go_num, HR3.out⟩
      case measure => go_light; simp [intOf]; (try omega)
    · obtain rfl : k = n + 1 := by omega
      have hi1 : ¬ ((n : Int) + 1 ≤ (n : Int)) := by omega
      clear hj0 hy0 hy1 hy2
      have HRB := Lib.hid (show ∀ j, j ≤ n → j < n + 1 from fun j hj => by omega)
      go_wp2_with fail
      go_loopw [9, 10, 11, 12] (fun v _ _ _ wr => ∃ (l : Nat) (T : Nat → Nat → Int), 1 ≤ l ∧ l ≤ F ∧ v = .int .i64 l ∧ Tab w wr g rb n F (n + 1) T ∧ ∀ x, x < l → ∀ j, j ≤ n → T j x = dD L n j x) (fun v _ _ _ _ => F - (intOf v).toNat)
      case atStart => exact ⟨1, _, Nat.le_refl _, hF1, rfl, HT.out, fun x hx j hj => (by have h0 : x = 0 := (by omega); subst h0; rfl)⟩
      case round =>
        obtain ⟨l, T, hl1, hlF, rfl, ht, hdd⟩ := hrel
        have HT1 := Lib.hid ht
        have HD := Lib.hid hdd
        clear ht hdd HT
        by_cases hll : l < F
        · have hi3 : (l : Int) ≤ (F : Int) - 1 := by omega
          go_wp2_with fail
          go_loopw [10, 11, 12] (fun v _ _ wr => ∃ (i : Nat) (T : Nat → Nat → Int), i ≤ n + 1 ∧ v = .int .i64 i ∧ Tab w wr g rb n F (n + 1) T ∧ (∀ x, x < l → ∀ j, j ≤ n → T j x = dD L n j x) ∧ ∀ j, j < i → T j l = dD L n j l) (fun v _ _ _ => n + 1 - (intOf v).toNat)
          case atStart => exact ⟨0, T, Nat.zero_le _, rfl, HT1.out, HD.out, fun j hj => by omega⟩
          case round =>
            obtain ⟨i, T, hi, rfl, ht, hdd, hdl⟩ := hrel
            have HT2 := Lib.hid ht
            have HD2 := Lib.hid hdd
            have HDL := Lib.hid hdl
            clear ht hdd hdl HT1 HD
            by_cases hin : i ≤ n
            · have hi4 : (i : Int) ≤ (n : Int) := by omega
              have hi5 : (i : Int) < (n : Int) + 1 := by omega
              have hro := HT2.out.out i hin
              rw [if_pos (by omega)] at hro
              have hce := HT2.out.cel i (by omega) l hll
              have hfr := HT2.out.fr i (by omega)
              have hl5 : (l : Int) < (F : Int) := by omega
              have HT3 := Lib.hid (HT2.out.set_ (a := i) (l := l) (by omega) hll (-1))
              have hro3 := HT3.out.out i hin
              rw [if_pos (by omega)] at hro3
              go_wp2_with fail
              go_loopw [11, 12] (fun v _ wr => ∃ (k : Nat) (T : Nat → Nat → Int), k ≤ n ∧ v = .int .i64 k ∧ Tab w wr g rb n F (n + 1) T ∧ (∀ x, x < l → ∀ j, j ≤ n → T j x = dD L n j x) ∧ (∀ j, j < i → T j l = dD L n j l) ∧ T i l = fm l.testBit (gD L n i l) k) (fun v _ _ => n - (intOf v).toNat)
              case atStart =>
                refine ⟨0, _, Nat.zero_le _, rfl, HT3.out, fun x hx j hj => ?_, fun j hj => ?_, ?_⟩
                · rw [if_neg (by omega)]; exact HD2.out x hx j hj
                · rw [if_neg (by omega)]; exact HDL.out j hj
                · rw [if_pos ⟨rfl, rfl⟩]; rfl
              case round =>
                obtain ⟨k, T, hk, rfl, ht, hdd, hdl, hfm⟩ := hrel
                have HT4 := Lib.hid ht
                have HD4 := Lib.hid hdd
                have HDL4 := Lib.hid hdl
                have HFM := Lib.hid hfm
                clear ht hdd hdl hfm HT2 HT3 HD2 HDL hro hce hfr hro3
                by_cases hkn : k < n
                · have hi6 : (k : Int) < (n : Int) := by omega
                  obtain ⟨P, hP⟩ : ∃ P, 2 ^ k = P := ⟨_, rfl⟩
                  have hpk : (2 : Int) ^ k = (P : Int) := by rw [← hP]; simp
                  have HP := Lib.hid hP
                  have hbt := bit_int (k := k) hP (show l < 1000 by omega)
                  rcases (Bool.eq_false_or_eq_true (l.testBit k)).symm with hb | hb
                  · rw [hb] at hbt
                    simp only [Bool.false_eq_true, if_false] at hbt
                    have HFN := Lib.hid (show fm l.testBit (gD L n i l) (k + 1) = fm l.testBit (gD L n i l) k by simp [fm, hb])
                    clear hP hb
                    go_wp2_with fail
                    go_roundw
                    case rel => go_light; exact ⟨k + 1, T, by omega, by go_num, HT4.out, HD4.out, HDL4.out, by rw [HFN.out]; exact HFM.out⟩
                    case measure => go_light; simp [intOf]; (try omega)
                  · rw [hb] at hbt
                    simp only [if_true] at hbt
                    have HB := Lib.hid hb
                    have hple : P ≤ l := by rw [← hP]; exact tb_le hb
                    have hp0 : 0 < P := by rw [← hP]; exact Nat.two_pow_pos k
                    obtain ⟨r, hr⟩ : ∃ r, r = l - P := ⟨_, rfl⟩
                    have hsub : (l : Int) - (P : Int) = (r : Int) := by omega
                    have hrF : r < F := by omega
                    obtain ⟨m, hm⟩ : ∃ m, L[i]? = some m := ⟨_, List.getElem?_eq_getElem (by have := HNL.out; omega)⟩
                    have hmn : m.length = n := by
                      have := ((setB_at HA.out).2.2 i (by have := HNL.out; omega)).1
                      rw [List.getD_eq_getElem?_getD, hm, HNL.out] at this
                      simpa using this
                    obtain ⟨x, hx⟩ : ∃ x, m[k]? = some x := ⟨_, List.getElem?_eq_getElem (by omega)⟩
                    have hcf : cellF L i k = x := by simp [cellF, List.getD_eq_getElem?_getD, hm, hx]
                    have hx3 := cell_ok HA.out HNL.out hin hkn
                    rw [hcf] at hx3
                    obtain ⟨hx1, hx2⟩ := hx3
                    obtain ⟨d, hd⟩ : ∃ d, T k r = d := ⟨_, rfl⟩
                    have hdk := HD4.out r (by omega) k (by omega)
                    have hdb := dD_bd HA.out HNL.out r r k (Nat.le_refl _) (by rw [HPF.out]; exact hrF) (by omega)
                    rw [← hdk, hd] at hdb
                    obtain ⟨hd1, hd2⟩ := hdb
                    obtain ⟨e, he⟩ : ∃ e, T i l = e := ⟨_, rfl⟩
                    have HE := Lib.hid he
                    have hgk : gD L n i l k = x + d := by unfold gD; rw [hcf, hP, ← hr, ← hdk, hd]
                    have HFN := Lib.hid (show fm l.testBit (gD L n i l) (k + 1) = if e < 0 ∨ x + d < e then x + d else e by
                      simp only [fm, hb, ← HFM.out, he, hgk]; simp)
                    obtain ⟨bA, oA, B, cB, hAeq, hbA, hcA, hrdm⟩ := (HL.out.grew HT4.out.gr).at_ hm
                    rw [hmn] at hcA
                    obtain ⟨bB, oB, hBeq, hbB, hcB⟩ := hrdm.at_ (k := k) (by omega)
                    have hcx := IntS.at_ hcB hx
                    have hok := HT4.out.out k (by omega)
                    rw [if_pos (by omega)] at hok
                    have hck := HT4.out.cel k (by omega) r hrF
                    rw [hd] at hck
                    have hoi := HT4.out.out i hin
                    rw [if_pos (by omega)] at hoi
                    have hci := HT4.out.cel i (by omega) l hll
                    rw [he] at hci
                    have hfi := HT4.out.fr i (by omega)
                    have hr5 : (r : Int) < (F : Int) := by omega
                    have hk5 : (k : Int) < (n : Int) + 1 := by omega
                    rw [hAeq]
                    subst hBeq
                    clear hP hb hm hx hcf hdk hgk hrdm hcB hr hd he
                    go_wp2_with fail
                    go_region
                    have HT5 := Lib.hid (show Tab w wr.drew g rb n F (n + 1) T from HT4.out.grew ((Grew.refl wr).drew))
                    have hoi5 : wr.drew.cell? ⟨g, i, none⟩ = _ := hoi
                    have hci5 : wr.drew.cell? ⟨rb i, l, none⟩ = _ := hci
                    have hfi5 : ∀ x, wr.drew.frozen? ⟨rb i, x, none⟩ = false := hfi
                    by_cases he0 : e < 0
                    · have hde : decide (e < 0) = true := decide_eq_true he0
                      have HFN2 := Lib.hid (HFN.out.trans (if_pos (.inl he0)))
                      have HT6 := Lib.hid (HT5.out.set_ (a := i) (l := l) (by omega) hll (x + d))
                      go_wp2_with fail
                      go_roundw
                      case rel =>
                        go_light
                        refine ⟨k + 1, _, by omega, by go_num, HT6.out, fun x hx j hj => ?_, fun j hj => ?_, ?_⟩
                        · rw [if_neg (by omega)]; exact HD4.out x hx j hj
                        · rw [if_neg (by omega)]; exact HDL4.out j hj
                        · rw [if_pos ⟨rfl, rfl⟩]; exact HFN2.out.symm
                      case measure => go_light; simp [intOf]; (try omega)
                    · have hde : decide (e < 0) = false := decide_eq_false he0
                      by_cases hxe : x + d < e
                      · have hde2 : decide (x + d < e) = true := decide_eq_true hxe
                        have HFN2 := Lib.hid (HFN.out.trans (if_pos (.inr hxe)))
                        have HT6 := Lib.hid (HT5.out.set_ (a := i) (l := l) (by omega) hll (x + d))
                        go_wp2_with fail
                        go_roundw
                        case rel =>
                          go_light
                          refine ⟨k + 1, _, by omega, by go_num, HT6.out, fun x hx j hj => ?_, fun j hj => ?_, ?_⟩
                          · rw [if_neg (by omega)]; exact HD4.out x hx j hj
                          · rw [if_neg (by omega)]; exact HDL4.out j hj
                          · rw [if_pos ⟨rfl, rfl⟩]; exact HFN2.out.symm
                        case measure => go_light; simp [intOf]; (try omega)
                      · have hde2 : decide (x + d < e) = false := decide_eq_false hxe
                        have HFN2 := Lib.hid (HFN.out.trans (if_neg (by omega)))
                        go_wp2_with fail
                        go_roundw
                        case rel => go_light; exact ⟨k + 1, T, by omega, by go_num, HT5.out, HD4.out, HDL4.out, by rw [HFN2.out]; exact HE.out⟩
                        case measure => go_light; simp [intOf]; (try omega)
                · obtain rfl : k = n := by omega
                  have HDI := Lib.hid (show T i l = dD L k i l by rw [HFM.out, dD_eq L k i hl1])
                  go_wp2_with fail
                  go_roundw
                  case rel =>
                    go_light
                    refine ⟨i + 1, T, by omega, by go_num, HT4.out, HD4.out, fun j hj => ?_⟩
                    rcases Nat.lt_succ_iff_lt_or_eq.1 hj with h5 | rfl
                    · exact HDL4.out j h5
                    · exact HDI.out
                  case measure => go_light; simp [intOf]; (try omega)
            · obtain rfl : i = n + 1 := by omega
              have hi4 : ¬ ((n : Int) + 1 ≤ (n : Int)) := by omega
              go_wp2_with fail
              go_roundw
              case rel =>
                go_light
                refine ⟨l + 1, T, by omega, by omega, by go_num, HT2.out, fun x hx j hj => ?_⟩
                rcases Nat.lt_succ_iff_lt_or_eq.1 hx with h5 | rfl
                · exact HD2.out x h5 j hj
                · exact HDL.out j (by omega)
              case measure => go_light; simp [intOf]; (try omega)
        · obtain rfl : l = F := by omega
          have hi3 : ¬ ((l : Int) ≤ (l : Int) - 1) := by omega
          go_wp2_with fail
          obtain ⟨wt, hwt⟩ : ∃ x : World, x = wr := ⟨_, rfl⟩
          subst hwt
          have HGW := Lib.hid HT1.out.gr
          have HDN := Lib.hid (HD.out (l - 1) (by omega) n (Nat.le_refl _))
          have HLF0 := Lib.hid (show Lf n [] (l - 1) from ⟨fun k => by rw [← HPF.out, Nat.testBit_two_pow_sub_one]; simp, by simp, by simp⟩)
          go_loopw [13, 14, 15, 16] (fun o a v _ wr2 => ∃ (b : List Int) (at_ r f : Nat), Own IntS.E 3 wr2 wt.heap.size o b ∧ a = .int .i64 at_ ∧ v = .int .i64 r ∧ r < l ∧ at_ ≤ n ∧ b.length + f = n ∧ Lf n b r ∧ fr L b b.length = (at_ : Int) ∧ pth L n n n (l - 1) = b ++ pth L n f at_ r ∧ Grew wt wr2) (fun o _ _ _ _ => match o with | .slice _ m _ => n - m | _ => 0)
          case atStart => exact ⟨[], n, l - 1, n, Own.new_ (Nat.le_refl _), rfl, congrArg (Value.int .i64) (by omega), by omega, Nat.le_refl _, by simp, HLF0.out, by simp only [fr, List.length_nil, HNL.out]; omega, by simp, (Grew.refl _).alloc _⟩
          case round =>
            obtain ⟨b, at_, r, f, hown, rfl, rfl, hrl, hat, hbf, hlf, hfr, hpth, hgr⟩ := hrel
            have HO := Lib.hid hown
            have HLF := Lib.hid hlf
            have HFRE := Lib.hid hfr
            have HPTH := Lib.hid hpth
            have HG := Lib.hid hgr
            have HBF := Lib.hid hbf
            clear hown hlf hfr hpth hgr hbf HLF0
            obtain ⟨B, cb, rfl⟩ := HO.out.slice
            obtain ⟨w2_, hw2_⟩ : ∃ x : World, x = wr := ⟨_, rfl⟩
            subst hw2_
            by_cases hr0 : 0 < r
            · have hr1 : (0 : Int) < (r : Int) := by omega
              obtain ⟨f', rfl⟩ : ∃ f', f = f' + 1 := ⟨f - 1, by
                rcases Nat.eq_zero_or_pos f with rfl | h0
                · have := (HLF.out.done (by have := HBF.out; omega)).1; omega
                · omega⟩
              have hg : ∀ j, r.testBit j = true → 0 ≤ gD L n at_ r j := fun j hj => by
                have h1 := (cell_ok HA.out HNL.out hat (HLF.out.lt hj).1).1
                have h2 := dD_ok HA.out HNL.out (r - 2 ^ j) (r - 2 ^ j) j (Nat.le_refl _) (fun k hk => (HLF.out.lt (by rw [tb_sub hj] at hk; simp at hk; exact hk.1)).1) (by have := (HLF.out.lt hj).1; omega)
                unfold gD
                omega
              obtain ⟨_, f2, f3⟩ := fm_ok hg n
              obtain ⟨k0, hk0⟩ := bit_ex hr0
              have hM : ¬ fm r.testBit (gD L n at_ r) n < 0 := fun hm => by rw [f2 hm k0 (HLF.out.lt hk0).1] at hk0; cases hk0
              obtain ⟨a1, a2, a3, a4, a5⟩ := f3 (by omega)
              have hTM : T at_ r = fm r.testBit (gD L n at_ r) n := (HD.out r hrl at_ hat).trans (dD_eq L n at_ hr0)
              have hPT : pth L n (f' + 1) at_ r = (ag r.testBit (gD L n at_ r) n : Int) :: pth L n f' (ag r.testBit (gD L n at_ r) n) (r - 2 ^ ag r.testBit (gD L n at_ r) n) := by simp only [pth]; rw [if_neg (by omega)]
              have HLT := Lib.hid (fun k => HLF.out.lt (k := k))
              generalize ag r.testBit (gD L n at_ r) n = q at *
              generalize fm r.testBit (gD L n at_ r) n = M at *
              have HPT := Lib.hid hPT
              have HA2 := Lib.hid a2
              have HA3 := Lib.hid a3
              have HA5 := Lib.hid a5
              have HTM := Lib.hid hTM
              clear hg f2 f3 hk0 hM a2 a3 a4 a5 hTM hPT
              go_wp2_with fail
              go_loopw [13, 14, 15, 16] (fun o a v kv wr3 => ∃ k : Nat, k ≤ q ∧ kv = .int .i64 k ∧ o = .slice B b.length cb ∧ a = .int .i64 at_ ∧ v = .int .i64 r ∧ Grew w2_ wr3) (fun _ _ _ kv _ => n - (intOf kv).toNat)
              case atStart => exact ⟨0, Nat.zero_le _, rfl, rfl, rfl, rfl, Grew.refl _⟩
              case round =>
                obtain ⟨k, hkq, rfl, rfl, rfl, rfl, hg3⟩ := hrel
                have HG3 := Lib.hid hg3
                clear hg3
                have hkn : k < n := by omega
                have hi6 : (k : Int) < (n : Int) := by omega
                obtain ⟨P, hP⟩ : ∃ P, 2 ^ k = P := ⟨_, rfl⟩
                have hpk : (2 : Int) ^ k = (P : Int) := by rw [← hP]; simp
                have hbt := bit_int (k := k) hP (show r < 1000 by omega)
                rcases (Bool.eq_false_or_eq_true (r.testBit k)).symm with hb | hb
                · rw [hb] at hbt
                  simp only [Bool.false_eq_true, if_false] at hbt
                  have hkq2 : k < q := by
                    rcases Nat.eq_or_lt_of_le hkq with rfl | h
                    · rw [HA2.out] at hb; cases hb
                    · exact h
                  clear hP hb
                  go_wp2_with fail
                  go_region
                  go_wp2_with fail
                  go_roundw
                  case rel => go_light; exact ⟨k + 1, by omega, by go_num, rfl, rfl, rfl, HG3.out.drew⟩
                  case measure => go_light; simp [intOf]; (try omega)
                · rw [hb] at hbt
                  simp only [if_true] at hbt
                  have HB := Lib.hid hb
                  have hple : P ≤ r := by rw [← hP]; exact tb_le hb
                  have hp0 : 0 < P := by rw [← hP]; exact Nat.two_pow_pos k
                  obtain ⟨s, hs⟩ : ∃ s, s = r - P := ⟨_, rfl⟩
                  have hsub : (r : Int) - (P : Int) = (s : Int) := by omega
                  have hsF : s < l := by omega
                  obtain ⟨m, hm⟩ : ∃ m, L[at_]? = some m := ⟨_, List.getElem?_eq_getElem (by have := HNL.out; omega)⟩
                  have hmn : m.length = n := by
                    have := ((setB_at HA.out).2.2 at_ (by have := HNL.out; omega)).1
                    rw [List.getD_eq_getElem?_getD, hm, HNL.out] at this
                    simpa using this
                  obtain ⟨x, hx⟩ : ∃ x, m[k]? = some x := ⟨_, List.getElem?_eq_getElem (by omega)⟩
                  have hcf : cellF L at_ k = x := by simp [cellF, List.getD_eq_getElem?_getD, hm, hx]
                  have hx3 := cell_ok HA.out HNL.out hat hkn
                  rw [hcf] at hx3
                  obtain ⟨hx1, hx2⟩ := hx3
                  obtain ⟨d, hd⟩ : ∃ d, T k s = d := ⟨_, rfl⟩
                  have hdk := HD.out s (by omega) k (by omega)
                  have hdb := dD_bd HA.out HNL.out s s k (Nat.le_refl _) (by rw [HPF.out]; exact hsF) (by omega)
                  rw [← hdk, hd] at hdb
                  obtain ⟨hd1, hd2⟩ := hdb
                  have hgk : gD L n at_ r k = x + d := by unfold gD; rw [hcf, hP, ← hs, ← hdk, hd]
                  have HP := Lib.hid hP
                  have HS := Lib.hid hs
                  have HT2 := Lib.hid (HT1.out.grew (HG.out.trans HG3.out))
                  obtain ⟨bA, oA, B2, cB, hAeq, hbA, hcA, hrdm⟩ := (HL.out.grew HT2.out.gr).at_ hm
                  rw [hmn] at hcA
                  obtain ⟨bB, oB, hBeq, hbB, hcB⟩ := hrdm.at_ (k := k) (by omega)
                  have hcx := IntS.at_ hcB hx
                  have hok := HT2.out.out k (by omega)
                  rw [if_pos (by omega)] at hok
                  have hck := HT2.out.cel k (by omega) s hsF
                  rw [hd] at hck
                  have hoi := HT2.out.out at_ hat
                  rw [if_pos (by omega)] at hoi
                  have hci := HT2.out.cel at_ (by omega) r hrl
                  rw [HTM.out] at hci
                  have hs5 : (s : Int) < (l : Int) := by omega
                  have hr5 : (r : Int) < (l : Int) := by omega
                  have hk5 : (k : Int) < (n : Int) + 1 := by omega
                  have ha5 : (at_ : Int) < (n : Int) + 1 := by omega
                  subst hAeq
                  subst hBeq
                  by_cases hkq2 : k < q
                  · have hne : ((x + d) == M) = false := by
                      have := HA5.out k hkq2 hb
                      rw [hgk] at this
                      simp only [beq_eq_false_iff_ne, ne_eq]
                      omega
                    clear hP hb hm hx hcf hdk hgk hrdm hcB hs hd
                    go_wp2_with fail
                    go_region
                    go_wp2_with fail
                    go_roundw
                    case rel => go_light; exact ⟨k + 1, by omega, by go_num, rfl, rfl, rfl, HG3.out.drew⟩
                    case measure => go_light; simp [intOf]; (try omega)
                  · obtain rfl : k = q := by omega
                    have hMe : x + d = M := by rw [← hgk]; exact HA3.out
                    subst hMe
                    have HO3 := Lib.hid (HO.out.grew HG3.out).drew
                    have HGS := Lib.hid (HG.out.trans HG3.out).drew
                    have HSTEP := Lib.hid (HLF.out.step hb)
                    have hbl : b.length + 1 ≤ n := by have := HBF.out; omega
                    clear hP hb hm hx hcf hdk hgk hrdm hcB hs hd hkq2
                    go_wp2_with fail
                    go_region
                    go_wp2_with (at_builtin; refine wpList_append_rd _ rfl (.tmp 154) (.tmp 156) _ rfl sl_Int wt.heap.size _ _ _ b rfl (Own.alloc HO3.out _) _ _ _ [(k : Int)] rfl rfl (rd_new (E := IntS.E) _ (k : Int) _ (by simp)) (by simp only [List.length_cons, List.length_nil]; omega) (le_al HGS.out rfl) ?_; intro A5 c5 w5 ho5 hgr5 hat5)
                    have HO5 := Lib.hid ho5
                    have HG5 := Lib.hid ((HGS.out.alloc _).app (Own.alloc HO3.out _) (Nat.le_refl _) hgr5)
                    clear ho5 hgr5 hat5
                    go_roundw
                    case rel =>
                      go_light
                      refine ⟨b ++ [(k : Int)], k, s, f', HO5.out, rfl, rfl, by omega, by omega, by simp; have := HBF.out; omega, by rw [HS.out, ← HP.out]; exact HSTEP.out, ?_, ?_, HG5.out⟩
                      · simp only [List.length_append, List.length_cons, List.length_nil, Nat.zero_add]; exact fr_snoc L b k
                      · rw [HPTH.out, HPT.out, HS.out, HP.out, List.append_assoc]; rfl
                    case measure => go_light; simp [intOf]; (try omega)
            · obtain rfl : r = 0 := by omega
              have hr1 : ¬ (0 : Int) < ((0 : Nat) : Int) := by omega
              have HFE := Lib.hid (show bestF L = (b, T n (l - 1), true) by
                rw [HF.out, HDN.out, HPTH.out]
                have : pth L n f at_ 0 = [] := by cases f <;> simp [pth]
                rw [this, List.append_nil])
              have HT2 := Lib.hid (HT1.out.grew HG.out)
              have hoi := HT2.out.out n (Nat.le_refl _)
              rw [if_pos (by omega)] at hoi
              obtain ⟨s, hs⟩ : ∃ s, s = l - 1 := ⟨_, rfl⟩
              have hci := HT2.out.cel n (by omega) (l - 1) (by omega)
              rw [← hs] at HFE hci
              have hls : (l : Int) - 1 = (s : Int) := by omega
              have hs5 : (s : Int) < (l : Int) := by omega
              rw [hls]
              generalize T n s = M at *
              clear hs
              go_wp2_with fail
              go_region
              go_wp2_with fail
              go_ret3
              go_light
              refine ⟨B, cb, by rw [HFE.out]; rfl, by rw [HFE.out]; exact HO.out.mono HGW.out.le, (HGW.out.trans HG.out).drew⟩
end Go.Proofs.Ytfplgagdjdhopaa
