/- The draw of a purchase, a quantity and an amount. Conditions: none. -/
import Derived.Test.YtjihfklhfldplaaPurD
import Derived.Test.YtjihfklhfldplaaDrawO
namespace Go.Proofs.Ytjihfklhfldplaa
open Go.RowKit Go.ChangeShapes Go.WideShapes Go.Deep
set_option linter.unusedVariables false
set_option linter.unusedSimpArgs false

set_option maxRecDepth 100000 in
set_option maxHeartbeats 8000000 in
theorem l27Draw_any (w : World) (g cc : Nat) (A : Option Addr) (l : List UInt8) (h : Cur w g A cc l) :
    Calls Try.prog 29 #[.pointer (some ⟨g, 0, none⟩)] w fun e w' => ∃ (q p t r i d : Int) (c : Bool), e = .returned (purV q p t r i d c) ∧ Cur w' g A cc l ∧ w.grownBy w' (some g) := by
  have HC := Lib.hid h
  have H0 := Lib.hid h.2.2.2.2.2.1
  have hgw : g < w.heap.size := h.1
  clear h
  go_enter Try.func29, Try.ntmps29
  go_wp2_with fail
  refine (l1Below_any _ _ _ _ _ 40 (HC.out.grew ((Grew.refl _).alloc _)) (by omega)).mono ?_; rintro e w1 ⟨n1, rfl, hn10, hn11, hn12, hc1, hg1⟩
  have HB1 := Lib.hid ((Bx.new_ (E := Pu.E) w ⟨0, 0, 0, 0, 0, 0, false⟩ 25).by_ hg1 (by omega))
  have HC1 := Lib.hid hc1
  have HG1 := Lib.hid ((only_grew (World.grownBy.refl _ _) ((Grew.refl w).alloc _)).trans hg1)
  have hn13 := hn11 (by omega)
  clear hc1 hg1 hn11 hn12
  go_wp2_with fail
  refine (l1Below_any _ _ _ _ _ 30 HC1.out (by omega)).mono ?_; rintro e w2 ⟨n2, rfl, hn20, hn21, hn22, hc2, hg2⟩
  have HB2 := Lib.hid (HB1.out.by_ hg2 (by omega))
  have HC2 := Lib.hid hc2
  have HG2 := Lib.hid (HG1.out.trans hg2)
  clear hc2 hg2 hn21 hn22
  go_wp2_with fail
  refine (l1Below_any _ _ _ _ _ 11 HC2.out (by omega)).mono ?_; rintro e w3 ⟨n3, rfl, hn30, hn31, hn32, hc3, hg3⟩
  have HB3 := Lib.hid (HB2.out.by_ hg3 (by omega))
  have HC3 := Lib.hid hc3
  have HG3 := Lib.hid (HG2.out.trans hg3)
  clear hc3 hg3 hn31 hn32
  go_wp2_with fail
  refine (orderE _ _ _ _).mono ?_; rintro e w4 ⟨q, p, t, r, i, d, c, v, rfl, h4⟩
  have HB4 := Lib.hid ((HB3.out.grew h4).alloc (.cells #[.int .i64 q, .int .i64 p, .int .i64 t, .int .i64 r, .int .i64 i, .int .i64 d, .bool c] 25))
  have HX4 := Lib.hid (Bx.new_ (E := Pu.E) w4 ⟨q, p, t, r, i, d, c⟩ 25)
  have HC4 := Lib.hid ((HC3.out.grew h4).grew ((Grew.refl _).alloc (.cells #[.int .i64 q, .int .i64 p, .int .i64 t, .int .i64 r, .int .i64 i, .int .i64 d, .bool c] 25)))
  have HG4 := Lib.hid (only_grew (only_grew HG3.out h4) ((Grew.refl _).alloc (.cells #[.int .i64 q, .int .i64 p, .int .i64 t, .int .i64 r, .int .i64 i, .int .i64 d, .bool c] 25)))
  have HS4 := Lib.hid (only_grew HG3.out h4).size
  have HB2L := Lib.hid (HB3.out.grew h4).1
  clear h4
  go_wp2_with fail
  refine (l1Below_any _ _ _ _ _ 5 HC4.out (by omega)).mono ?_; rintro e w5 ⟨n5, rfl, hn50, hn51, hn52, hc5, hg5⟩
  have hb3g : g < w4.heap.size := Nat.lt_of_lt_of_le hgw HS4.out
  have HB5 := Lib.hid (HB4.out.by_ hg5 (by omega))
  have HX5 := Lib.hid (HX4.out.by_ hg5 (by omega))
  have HC5 := Lib.hid hc5
  have HG5 := Lib.hid (HG4.out.trans hg5)
  have hn53 := hn51 (by omega)
  have hne : w.heap.size ≠ w4.heap.size := by have := HB2L.out; omega
  have hle4 : w.heap.size ≤ w4.heap.size := HS4.out
  clear hc5 hg5 hn51 hn52
  generalize w4.heap.size = b3 at *
  go_wp2_with fail
  go_loopw [5] (fun k wr => ∃ (q p t r i d : Int) (c : Bool) (j : Int), 0 ≤ j ∧ j ≤ 5 ∧ k = .int .i64 j ∧ Bx Pu.E wr w.heap.size ⟨0, 0, 0, 0, 0, 0, false⟩ ∧ Bx Pu.E wr b3 ⟨q, p, t, r, i, d, c⟩ ∧ Cur wr g A cc l ∧ w.grownBy wr (some g)) (fun k _ => (intOf k).toNat)
  case atStart => exact ⟨q, p, t, r, i, d, c, n5, hn50, by omega, rfl, HB5.out, HX5.out, HC5.out, HG5.out⟩
  case round =>
    clear HB1 HB2 HB3 HB4 HB5 HX4 HX5 HC1 HC2 HC3 HC4 HC5 HG1 HG2 HG3 HG4 HG5
    obtain ⟨q, p, t, r, i, d, c, j, hj0, hj1, rfl, hbz, hbx, hcur, hgr⟩ := hrel
    have HB := Lib.hid hbz
    have HX := Lib.hid hbx
    have HCU := Lib.hid hcur
    have HG := Lib.hid hgr
    clear hbz hbx hcur hgr
    by_cases hj : 0 < j
    · go_wp2_with fail
      refine (l1Below_any _ _ _ _ _ 3 HCU.out (by omega)).mono ?_; rintro e w6 ⟨n6, rfl, hn60, hn61, hn62, hc6, hg6⟩
      have HB6 := Lib.hid (HB.out.by_ hg6 (by omega))
      have HX6 := Lib.hid (HX.out.by_ hg6 (by omega))
      have HC6 := Lib.hid hc6
      have HG6 := Lib.hid (HG.out.trans hg6)
      have hn63 := hn61 (by omega)
      clear hc6 hg6 hn61 hn62
      obtain ⟨hx0, hx1, hx2, hx3, hx4, hx5, hx6, hxf, hxs⟩ := Pu.bx HX6.out
      rcases (show n6 = 0 ∨ n6 = 1 ∨ n6 = 2 by omega) with rfl | rfl | rfl
      · go_wp2_with fail
        have HC6D := Lib.hid (show Cur w6.drew g A cc l from HC6.out)
        have HB6D := Lib.hid HB6.out.drew
        have HX6D := Lib.hid HX6.out.drew
        have HG6D := Lib.hid (only_drew HG6.out)
        go_region_with (first
          | (go_at_call 30; (with_reducible refine (l1Below_any _ _ _ _ _ 12 HC6D.out (by omega)).mono ?_); rintro e w7 ⟨n7, rfl, hn70, hn71, hn72, hc7, hg7⟩; have hn73 := hn71 (by omega); have HB7 := Lib.hid (HB6D.out.by_ hg7 (by omega)); have HX7 := Lib.hid (HX6D.out.by_ hg7 (by omega)); have HC7 := Lib.hid hc7; have HG7 := Lib.hid (HG6D.out.trans hg7); clear hc7 hg7 hn71 hn72; have hwq : IntKind.i64.wrap (1 + n7) = 1 + n7 := IntWalk.i64_in _ (by omega); obtain ⟨hy0, hy1, hy2, hy3, hy4, hy5, hy6, hyf, hys⟩ := Pu.bx HX7.out)
          | (go_at_call 20; (with_reducible refine (recvE _ _ _ _ _ _ _ _ _).mono ?_); rintro e w8 ⟨r8, v8, rfl, h8⟩; have HB8 := Lib.hid (HB7.out.grew h8); have HX8 := Lib.hid (HX7.out.grew h8); have HC8 := Lib.hid (HC7.out.grew h8); have HG8 := Lib.hid (only_grew HG7.out h8); clear h8; obtain ⟨hz0, hz1, hz2, hz3, hz4, hz5, hz6, hzf, hzs⟩ := Pu.bx HX8.out))
        all_goals
          have HXN := Lib.hid (HX8.out.store ⟨q, p, t, r8, i, d, c⟩)
          have hsb := storeL_by (Pu.E.enc ⟨q, p, t, r8, i, d, c⟩) w8 b3 0
          have HBN := Lib.hid (HB8.out.by_ hsb hne)
          have HCN := Lib.hid (HC8.out.store H0.out (by omega) hle4 hsb)
          have HGN := Lib.hid (only_store HG8.out hle4 hsb)
          clear hsb
          go_wp2_with fail
          go_roundw
          case rel => go_light; exact ⟨_, _, _, _, _, _, _, j - 1, by omega, by omega, rfl, HBN.out, HXN.out, HCN.out, HGN.out⟩
          case measure => go_light; simp [intOf]; omega
      · go_wp2_with fail
        refine (l1Below_any _ _ _ _ _ 6 HC6.out (by omega)).mono ?_; rintro e w7 ⟨n7, rfl, hn70, hn71, hn72, hc7, hg7⟩
        have HB7 := Lib.hid (HB6.out.by_ hg7 (by omega))
        have HX7 := Lib.hid (HX6.out.by_ hg7 (by omega))
        have HC7 := Lib.hid hc7
        have HG7 := Lib.hid (HG6.out.trans hg7)
        have hn73 := hn71 (by omega)
        clear hc7 hg7 hn71 hn72 hx0 hx1 hx2 hx3 hx4 hx5 hx6 hxf hxs
        obtain ⟨hx0, hx1, hx2, hx3, hx4, hx5, hx6, hxf, hxs⟩ := Pu.bx HX7.out
        go_wp2_with fail
        have HC7D := Lib.hid (show Cur w7.drew g A cc l from HC7.out)
        have HB7D := Lib.hid HB7.out.drew
        have HX7D := Lib.hid HX7.out.drew
        have HG7D := Lib.hid (only_drew HG7.out)
        go_region_with (first
          | (go_at_call 30; (with_reducible refine (l1Below_any _ _ _ _ _ 3 HC7D.out (by omega)).mono ?_); rintro e w8 ⟨n8, rfl, hn80, hn81, hn82, hc8, hg8⟩; have HB8 := Lib.hid (HB7D.out.by_ hg8 (by omega)); have HX8 := Lib.hid (HX7D.out.by_ hg8 (by omega)); have HC8 := Lib.hid hc8; have HG8 := Lib.hid (HG7D.out.trans hg8); clear hc8 hg8 hn81 hn82; obtain ⟨hy0, hy1, hy2, hy3, hy4, hy5, hy6, hyf, hys⟩ := Pu.bx HX8.out)
          | (go_at_call 22; (with_reducible refine (invE _ _ _ _ _ _ _ _ _ _).mono ?_); rintro e w9 ⟨i9, d9, v9, rfl, h9⟩; have HB9 := Lib.hid (HB8.out.grew h9); have HX9 := Lib.hid (HX8.out.grew h9); have HC9 := Lib.hid (HC8.out.grew h9); have HG9 := Lib.hid (only_grew HG8.out h9); clear h9; obtain ⟨hz0, hz1, hz2, hz3, hz4, hz5, hz6, hzf, hzs⟩ := Pu.bx HX9.out))
        all_goals
          have HXN := Lib.hid (HX9.out.store ⟨q, p, t, r, i9, d9, c⟩)
          have hsb := storeL_by (Pu.E.enc ⟨q, p, t, r, i9, d9, c⟩) w9 b3 0
          have HBN := Lib.hid (HB9.out.by_ hsb hne)
          have HCN := Lib.hid (HC9.out.store H0.out (by omega) hle4 hsb)
          have HGN := Lib.hid (only_store HG9.out hle4 hsb)
          clear hsb
          go_wp2_with fail
          go_roundw
          case rel => go_light; exact ⟨_, _, _, _, _, _, _, j - 1, by omega, by omega, rfl, HBN.out, HXN.out, HCN.out, HGN.out⟩
          case measure => go_light; simp [intOf]; omega
      · go_wp2_with fail
        refine (l1Once_any _ _ _ _ _ 3 HC6.out (by omega)).mono ?_; rintro e w7 ⟨x7, rfl, hc7, hg7⟩
        have HB7 := Lib.hid (HB6.out.by_ hg7 (by omega))
        have HX7 := Lib.hid (HX6.out.by_ hg7 (by omega))
        have HC7 := Lib.hid hc7
        have HG7 := Lib.hid (HG6.out.trans hg7)
        clear hc7 hg7 hx0 hx1 hx2 hx3 hx4 hx5 hx6 hxf hxs
        cases x7
        · go_wp2_with fail
          go_roundw
          case rel => go_light; exact ⟨_, _, _, _, _, _, _, j - 1, by omega, by omega, rfl, HB7.out, HX7.out, HC7.out, HG7.out⟩
          case measure => go_light; simp [intOf]; omega
        · obtain ⟨hx0, hx1, hx2, hx3, hx4, hx5, hx6, hxf, hxs⟩ := Pu.bx HX7.out
          go_wp2_with (go_at_call 18; (with_reducible refine (closeE _ _ _ _ _ _ _ _).mono ?_); rintro e w8 ⟨c8, v8, rfl, h8⟩; have HB8 := Lib.hid (HB7.out.grew h8); have HX8 := Lib.hid (HX7.out.grew h8); have HC8 := Lib.hid (HC7.out.grew h8); have HG8 := Lib.hid (only_grew HG7.out h8); clear h8; obtain ⟨hz0, hz1, hz2, hz3, hz4, hz5, hz6, hzf, hzs⟩ := Pu.bx HX8.out)
          have HXN := Lib.hid (HX8.out.store ⟨q, p, t, r, i, d, c8⟩)
          have hsb := storeL_by (Pu.E.enc ⟨q, p, t, r, i, d, c8⟩) w8 b3 0
          have HBN := Lib.hid (HB8.out.by_ hsb hne)
          have HCN := Lib.hid (HC8.out.store H0.out (by omega) hle4 hsb)
          have HGN := Lib.hid (only_store HG8.out hle4 hsb)
          clear hsb
          go_roundw
          case rel => go_light; exact ⟨_, _, _, _, _, _, _, j - 1, by omega, by omega, rfl, HBN.out, HXN.out, HCN.out, HGN.out⟩
          case measure => go_light; simp [intOf]; omega
    · go_wp2_with fail
      refine (l1Below_any _ _ _ _ _ 24 HCU.out (by omega)).mono ?_; rintro e w6 ⟨n6, rfl, hn60, hn61, hn62, hc6, hg6⟩
      have HB6 := Lib.hid (HB.out.by_ hg6 (by omega))
      have HX6 := Lib.hid (HX.out.by_ hg6 (by omega))
      have HC6 := Lib.hid hc6
      have HG6 := Lib.hid (HG.out.trans hg6)
      have hn63 := hn61 (by omega)
      clear hc6 hg6 hn61 hn62
      rcases (show n6 = 0 ∨ n6 = 1 ∨ n6 = 2 ∨ 3 ≤ n6 by omega) with rfl | rfl | rfl | h3
      · go_wp2_with fail
        refine (l1Odd_any _ _ _ _ _ HC6.out).mono ?_; rintro e w7 ⟨x7, rfl, hx7, hc7, hg7⟩
        have HB7 := Lib.hid (HB6.out.by_ hg7 (by omega))
        have HX7 := Lib.hid (HX6.out.by_ hg7 (by omega))
        have HC7 := Lib.hid hc7
        have HG7 := Lib.hid (HG6.out.trans hg7)
        clear hc7 hg7 hx7
        obtain ⟨hx0, hx1, hx2, hx3, hx4, hx5, hx6, hxf, hxs⟩ := Pu.bx HX7.out
        obtain ⟨hy0, hy1, hy2, hy3, hy4, hy5, hy6, hyf, hys⟩ := Pu.bx HB7.out
        go_wp2_with fail
        go_light
        refine bodyPost_ret (v := purV q p t x7 i d c) (by simp [results, Try.results29, go_sem, hy0, hy1, hy2, hy3, hy4, hy5, hy6]) rfl ⟨_, _, _, _, _, _, _, rfl, ?_, ?_⟩
        · exact (HC7.out.store H0.out (by omega) hle4 (storeL_by [.int .i64 x7] w7 b3 3)).store H0.out (by omega) (Nat.le_refl _) (storeL_by (Pu.E.enc ⟨q, p, t, x7, i, d, c⟩) (storeL w7 b3 3 [.int .i64 x7]) w.heap.size 0)
        · exact only_store (only_store HG7.out hle4 (storeL_by [.int .i64 x7] w7 b3 3)) (Nat.le_refl _) (storeL_by (Pu.E.enc ⟨q, p, t, x7, i, d, c⟩) (storeL w7 b3 3 [.int .i64 x7]) w.heap.size 0)
      · go_wp2_with fail
        refine (l1Odd_any _ _ _ _ _ HC6.out).mono ?_; rintro e w7 ⟨x7, rfl, hx7, hc7, hg7⟩
        have HB7 := Lib.hid (HB6.out.by_ hg7 (by omega))
        have HX7 := Lib.hid (HX6.out.by_ hg7 (by omega))
        have HC7 := Lib.hid hc7
        have HG7 := Lib.hid (HG6.out.trans hg7)
        clear hc7 hg7 hx7
        obtain ⟨hx0, hx1, hx2, hx3, hx4, hx5, hx6, hxf, hxs⟩ := Pu.bx HX7.out
        obtain ⟨hy0, hy1, hy2, hy3, hy4, hy5, hy6, hyf, hys⟩ := Pu.bx HB7.out
        go_wp2_with fail
        go_light
        refine bodyPost_ret (v := purV q p t r i x7 c) (by simp [results, Try.results29, go_sem, hy0, hy1, hy2, hy3, hy4, hy5, hy6]) rfl ⟨_, _, _, _, _, _, _, rfl, ?_, ?_⟩
        · exact (HC7.out.store H0.out (by omega) hle4 (storeL_by [.int .i64 x7] w7 b3 5)).store H0.out (by omega) (Nat.le_refl _) (storeL_by (Pu.E.enc ⟨q, p, t, r, i, x7, c⟩) (storeL w7 b3 5 [.int .i64 x7]) w.heap.size 0)
        · exact only_store (only_store HG7.out hle4 (storeL_by [.int .i64 x7] w7 b3 5)) (Nat.le_refl _) (storeL_by (Pu.E.enc ⟨q, p, t, r, i, x7, c⟩) (storeL w7 b3 5 [.int .i64 x7]) w.heap.size 0)
      · have hgw6 : g < w6.heap.size := HC6.out.1
        go_wp2_with fail
        refine (l1PickInt_any _ g cc A l [-1, 100, 101] _ _ (HC6.out.grew ((Grew.refl _).alloc _)) (rd_ints w6 [-1, 100, 101] _ rfl) (by decide) (by decide) (by omega)).mono ?_; rintro e w7 ⟨x7, rfl, hx7, hc7, hg7⟩
        have HB7 := Lib.hid ((HB6.out.alloc _).by_ hg7 (by omega))
        have HX7 := Lib.hid ((HX6.out.alloc _).by_ hg7 (by omega))
        have HC7 := Lib.hid hc7
        have HG7 := Lib.hid ((only_grew HG6.out ((Grew.refl _).alloc _)).trans hg7)
        clear hc7 hg7 hx7
        obtain ⟨hx0, hx1, hx2, hx3, hx4, hx5, hx6, hxf, hxs⟩ := Pu.bx HX7.out
        obtain ⟨hy0, hy1, hy2, hy3, hy4, hy5, hy6, hyf, hys⟩ := Pu.bx HB7.out
        go_wp2_with fail
        go_light
        refine bodyPost_ret (v := purV q p x7 r i d c) (by simp [results, Try.results29, go_sem, hy0, hy1, hy2, hy3, hy4, hy5, hy6]) rfl ⟨_, _, _, _, _, _, _, rfl, ?_, ?_⟩
        · exact (HC7.out.store H0.out (by omega) hle4 (storeL_by [.int .i64 x7] w7 b3 2)).store H0.out (by omega) (Nat.le_refl _) (storeL_by (Pu.E.enc ⟨q, p, x7, r, i, d, c⟩) (storeL w7 b3 2 [.int .i64 x7]) w.heap.size 0)
        · exact only_store (only_store HG7.out hle4 (storeL_by [.int .i64 x7] w7 b3 2)) (Nat.le_refl _) (storeL_by (Pu.E.enc ⟨q, p, x7, r, i, d, c⟩) (storeL w7 b3 2 [.int .i64 x7]) w.heap.size 0)
      · have e0 : (n6 == 0) = false := by simp; omega
        have e1 : (n6 == 1) = false := by simp; omega
        have e2 : (n6 == 2) = false := by simp; omega
        obtain ⟨hx0, hx1, hx2, hx3, hx4, hx5, hx6, hxf, hxs⟩ := Pu.bx HX6.out
        obtain ⟨hy0, hy1, hy2, hy3, hy4, hy5, hy6, hyf, hys⟩ := Pu.bx HB6.out
        go_wp2_with fail
        go_light
        refine bodyPost_ret (v := purV q p t r i d c) (by simp [results, Try.results29, go_sem, hy0, hy1, hy2, hy3, hy4, hy5, hy6]) rfl ⟨_, _, _, _, _, _, _, rfl, ?_, ?_⟩
        · exact HC6.out.store H0.out (by omega) (Nat.le_refl _) (storeL_by (Pu.E.enc ⟨q, p, t, r, i, d, c⟩) w6 w.heap.size 0)
        · exact only_store HG6.out (Nat.le_refl _) (storeL_by (Pu.E.enc ⟨q, p, t, r, i, d, c⟩) w6 w.heap.size 0)
end Go.Proofs.Ytjihfklhfldplaa
