/- The draw of a purchase with a quantity and an amount: whatever they are. Conditions: none. -/
import Derived.Test.YtjihfklhfldplaaPurF
namespace Go.Proofs.Ytjihfklhfldplaa
open Go.RowKit Go.ChangeShapes Go.WideShapes Go.Deep
set_option linter.unusedVariables false
set_option linter.unusedSimpArgs false

def RetPur (e : Ending) : Prop := ∃ (q p t r i d : Int) (c : Bool) (k m : Int), e = .returned (.tuple #[purV q p t r i d c, .int .i64 k, .int .i64 m])
set_option maxRecDepth 100000 in
set_option maxHeartbeats 8000000 in
theorem drawMatchInvoice_any (w : World) (cc : Nat) (A : Option Addr) (l : List UInt8) (h : Rd Byt.E w A l) (hl : l.length ≤ 1048576) :
    Calls Try.prog 25 #[.slice A l.length cc] w fun e w' => RetPur e ∧ Grew w w' := by
  have HL := Lib.hid h
  clear h
  go_enter Try.func25, Try.ntmps25
  go_wp2_with fail
  refine (l1New_any _ _ _ _ (HL.out.grew ((Grew.refl _).alloc _)) hl).mono ?_; rintro e w1 ⟨g, rfl, hc1, hg1, hgs⟩
  have HC1 := Lib.hid hc1
  have hgw1 : g < w1.heap.size := hc1.1
  have hgn : w.heap.size < g := by simp at hgs; omega
  have HB1 := Lib.hid ((Bx.new_ (E := Pu.E) w ⟨0, 0, 0, 0, 0, 0, false⟩ 25).grew hg1)
  have HG1 := Lib.hid (((Grew.refl w).alloc _).trans hg1)
  have HR1 := Lib.hid (HL.out.grew HG1.out)
  clear hc1 hg1 hgs
  go_wp2_with fail
  refine (l27Draw_any _ _ _ _ _ HC1.out).mono ?_; rintro e w2 ⟨q, p, t, r, i, d, c, rfl, hc2, hg2⟩
  have HB2 := Lib.hid ((HB1.out.by_ hg2 (by omega)).alloc (.cells #[.int .i64 q, .int .i64 p, .int .i64 t, .int .i64 r, .int .i64 i, .int .i64 d, .bool c] 25))
  have HX2 := Lib.hid (Bx.new_ (E := Pu.E) w2 ⟨q, p, t, r, i, d, c⟩ 25)
  have HC2 := Lib.hid (hc2.grew ((Grew.refl _).alloc (.cells #[.int .i64 q, .int .i64 p, .int .i64 t, .int .i64 r, .int .i64 i, .int .i64 d, .bool c] 25)))
  have HG2 := Lib.hid ((grew_only HG1.out hg2 (by omega)).alloc (.cells #[.int .i64 q, .int .i64 p, .int .i64 t, .int .i64 r, .int .i64 i, .int .i64 d, .bool c] 25))
  have hs2 : w1.heap.size ≤ w2.heap.size := hg2.size
  clear hc2 hg2
  go_wp2_with fail
  refine (l1Below_any _ _ _ _ _ 6 HC2.out (by omega)).mono ?_; rintro e w3 ⟨n3, rfl, hn30, hn31, hn32, hc3, hg3⟩
  have HB3 := Lib.hid (HB2.out.by_ hg3 (by omega))
  have HX3 := Lib.hid (HX2.out.by_ hg3 (by omega))
  have HC3 := Lib.hid hc3
  have HG3 := Lib.hid (grew_only HG2.out hg3 (by omega))
  have hn33 := hn31 (by omega)
  have hbg : g ≠ w2.heap.size := by omega
  have hbz : w.heap.size ≠ w2.heap.size := by omega
  clear hc3 hg3 hn31 hn32 hs2
  generalize w2.heap.size = b3 at *
  go_wp2_with fail
  refine (l1Once_any _ _ _ _ _ 8 HC3.out (by omega)).mono ?_; rintro e w4 ⟨x4, rfl, hc4, hg4⟩
  have HB4 := Lib.hid (HB3.out.by_ hg4 (by omega))
  have HX4 := Lib.hid (HX3.out.by_ hg4 (by omega))
  have HC4 := Lib.hid hc4
  have HG4 := Lib.hid (grew_only HG3.out hg4 (by omega))
  clear hc4 hg4 HB1 HB2 HX2 HC1 HC2 HG1 HG2 HB3 HX3 HC3 HG3
  cases x4
  · go_upto_region 6 with fail
    go_cut [38] (fun s wx => ∃ b : Bool, s = .bool b ∧ (b = true → wrap64 (r - i) < 1000) ∧ Bx Pu.E wx w.heap.size ⟨0, 0, 0, 0, 0, 0, false⟩ ∧ Bx Pu.E wx b3 ⟨q, p, t, r, i, d, c⟩ ∧ Cur wx g A cc l ∧ Grew w wx)
    case first =>
      go_wp2_with fail
      refine (l1Once_any _ _ _ _ _ 2 HC4.out (by omega)).mono ?_; rintro e w5 ⟨x5, rfl, hc5, hg5⟩
      have HB5 := Lib.hid (HB4.out.by_ hg5 (by omega))
      have HX5 := Lib.hid (HX4.out.by_ hg5 (by omega))
      have HC5 := Lib.hid hc5
      have HG5 := Lib.hid (grew_only HG4.out hg5 (by omega))
      clear hc5 hg5
      obtain ⟨hx0, hx1, hx2, hx3, hx4, hx5, hx6, hxf, hxs⟩ := Pu.bx HX5.out
      cases x5
      · go_wp2_with fail
        go_meet
        exact ⟨_, rfl, (fun h => nomatch h), HB5.out, HX5.out, HC5.out, HG5.out⟩
      · by_cases h1 : i < r
        · by_cases h2 : wrap64 (r - i) < 1000
          · go_wp2_with fail
            go_meet
            exact ⟨_, rfl, (fun _ => h2), HB5.out, HX5.out, HC5.out, HG5.out⟩
          · go_wp2_with fail
            go_meet
            exact ⟨_, rfl, (fun h => by first | exact of_decide_eq_true h | cases h), HB5.out, HX5.out, HC5.out, HG5.out⟩
        · go_wp2_with fail
          go_meet
          exact ⟨_, rfl, (fun h => by first | exact of_decide_eq_true h | cases h), HB5.out, HX5.out, HC5.out, HG5.out⟩
    case rest =>
      obtain ⟨b, rfl, hlt, hb5, hx5, hc5, hg5⟩ := hcut
      obtain ⟨w5, rfl⟩ : ∃ w5 : World, w5 = wc := ⟨_, rfl⟩
      have HB5 := Lib.hid hb5
      have HX5 := Lib.hid hx5
      have HC5 := Lib.hid hc5
      have HG5 := Lib.hid hg5
      clear hb5 hx5 hc5 hg5
      obtain ⟨hx0, hx1, hx2, hx3, hx4, hx5, hx6, hxf, hxs⟩ := Pu.bx HX5.out
      cases b
      · go_upto_region 8 with fail
        go_cut [3, 4] (fun s3 s4 wx => ∃ k m : Int, s3 = .int .i64 k ∧ s4 = .int .i64 m ∧ Bx Pu.E wx w.heap.size ⟨q, p, t, r, i, d, c⟩ ∧ Grew w wx)
        case first =>
          have HC5D := Lib.hid (show Cur w5.drew g A cc l from HC5.out)
          have HB5D := Lib.hid HB5.out.drew
          have HX5D := Lib.hid HX5.out.drew
          have HG5D := Lib.hid HG5.out.drew
          rcases (show p < 0 ∨ (¬ p < 0 ∧ ¬ 10000 < p) ∨ (¬ p < 0 ∧ 10000 < p) by omega) with hm1 | ⟨hm1, hm2⟩ | ⟨hm1, hm2⟩
          all_goals
            go_region_held3 (fun w' => w'.cell? ⟨b3, 0, none⟩ = some (.int .i64 q) ∧ w'.cell? ⟨b3, 1, none⟩ = some (.int .i64 p) ∧ w'.cell? ⟨b3, 2, none⟩ = some (.int .i64 t) ∧ w'.cell? ⟨b3, 3, none⟩ = some (.int .i64 r) ∧ w'.cell? ⟨b3, 4, none⟩ = some (.int .i64 i) ∧ w'.cell? ⟨b3, 5, none⟩ = some (.int .i64 d) ∧ w'.cell? ⟨b3, 6, none⟩ = some (.bool c))
              (first | (with_reducible exact Pu.b7 HX9.out) | (with_reducible exact Pu.b7 HX5D.out) | (exact Pu.b7 (HX9.out.by_ (storeL_by (Pu.E.enc ⟨q, p, t, r, i, d, c⟩) w9 w.heap.size 0) (Ne.symm hbz))))
              ((first
              | (go_at_call 30; (with_reducible refine (l1Below_any _ _ _ _ _ 9 HC5D.out (by omega)).mono ?_); rintro e w9 ⟨n9, rfl, hn90, hn91, hn92, hc9, hg9⟩; have HB9 := Lib.hid (HB5D.out.by_ hg9 (by omega)); have HX9 := Lib.hid (HX5D.out.by_ hg9 (by omega)); have HG9 := Lib.hid (grew_only HG5D.out hg9 (by omega)); clear hc9 hg9 hn91 hn92; obtain ⟨hz0, hz1, hz2, hz3, hz4, hz5, hz6, hzf, hzs⟩ := Pu.bx HX9.out; obtain ⟨hu0, hu1, hu2, hu3, hu4, hu5, hu6, huf, hus⟩ := Pu.bx HB9.out)))
            all_goals
              go_wp2_with fail
              go_meet
              exact ⟨_, _, rfl, rfl, HB9.out.store ⟨q, p, t, r, i, d, c⟩, HG9.out.grown (storeL_by (Pu.E.enc ⟨q, p, t, r, i, d, c⟩) w9 w.heap.size 0) (fun k hk => by injection hk with hk; omega)⟩
        case rest =>
          obtain ⟨k, m, rfl, rfl, hbx, hgw⟩ := hcut
          obtain ⟨hu0, hu1, hu2, hu3, hu4, hu5, hu6, huf, hus⟩ := Pu.bx hbx
          go_wp2_with fail
          go_light
          refine bodyPost_ret (v := .tuple #[purV q p t r i d c, .int .i64 k, .int .i64 m]) (by simp [results, Try.results25, go_sem, hu0, hu1, hu2, hu3, hu4, hu5, hu6]) rfl ⟨⟨_, _, _, _, _, _, _, _, _, rfl⟩, hgw⟩
      · have h2 := hlt rfl
        go_upto_region 8 with (go_at_call 30; go_loud (refine (l1Below_any _ _ _ _ _ (wrap64 (r - i)) HC5.out (by omega)).mono ?_); rintro e w6 ⟨n6, rfl, hn60, hn61, hn62, hc6, hg6⟩; have HB6 := Lib.hid (HB5.out.by_ hg6 (by omega)); have HX6 := Lib.hid (HX5.out.by_ hg6 (by omega)); have HC6 := Lib.hid hc6; have HG6 := Lib.hid (grew_only HG5.out hg6 (by omega)); clear hc6 hg6 hx0 hx1 hx2 hx3 hx4 hx5 hx6 hxf hxs hn61 hn62; obtain ⟨hx0, hx1, hx2, hx3, hx4, hx5, hx6, hxf, hxs⟩ := Pu.bx HX6.out)
        go_cut [3, 4] (fun s3 s4 wx => ∃ k m : Int, s3 = .int .i64 k ∧ s4 = .int .i64 m ∧ Bx Pu.E wx w.heap.size ⟨q, p, t, r, i, d, c⟩ ∧ Grew w wx)
        case first =>
          have HC6D := Lib.hid (show Cur w6.drew g A cc l from HC6.out)
          have HB6D := Lib.hid HB6.out.drew
          have HX6D := Lib.hid HX6.out.drew
          have HG6D := Lib.hid HG6.out.drew
          rcases (show p < 0 ∨ (¬ p < 0 ∧ ¬ 10000 < p) ∨ (¬ p < 0 ∧ 10000 < p) by omega) with hm1 | ⟨hm1, hm2⟩ | ⟨hm1, hm2⟩
          all_goals
            go_region_held3 (fun w' => w'.cell? ⟨b3, 0, none⟩ = some (.int .i64 q) ∧ w'.cell? ⟨b3, 1, none⟩ = some (.int .i64 p) ∧ w'.cell? ⟨b3, 2, none⟩ = some (.int .i64 t) ∧ w'.cell? ⟨b3, 3, none⟩ = some (.int .i64 r) ∧ w'.cell? ⟨b3, 4, none⟩ = some (.int .i64 i) ∧ w'.cell? ⟨b3, 5, none⟩ = some (.int .i64 d) ∧ w'.cell? ⟨b3, 6, none⟩ = some (.bool c))
              (first | (with_reducible exact Pu.b7 HX9.out) | (with_reducible exact Pu.b7 HX6D.out) | (exact Pu.b7 (HX9.out.by_ (storeL_by (Pu.E.enc ⟨q, p, t, r, i, d, c⟩) w9 w.heap.size 0) (Ne.symm hbz))))
              ((first
              | (go_at_call 30; (with_reducible refine (l1Below_any _ _ _ _ _ 9 HC6D.out (by omega)).mono ?_); rintro e w9 ⟨n9, rfl, hn90, hn91, hn92, hc9, hg9⟩; have HB9 := Lib.hid (HB6D.out.by_ hg9 (by omega)); have HX9 := Lib.hid (HX6D.out.by_ hg9 (by omega)); have HG9 := Lib.hid (grew_only HG6D.out hg9 (by omega)); clear hc9 hg9 hn91 hn92; obtain ⟨hz0, hz1, hz2, hz3, hz4, hz5, hz6, hzf, hzs⟩ := Pu.bx HX9.out; obtain ⟨hu0, hu1, hu2, hu3, hu4, hu5, hu6, huf, hus⟩ := Pu.bx HB9.out)))
            all_goals
              go_wp2_with fail
              go_meet
              exact ⟨_, _, rfl, rfl, HB9.out.store ⟨q, p, t, r, i, d, c⟩, HG9.out.grown (storeL_by (Pu.E.enc ⟨q, p, t, r, i, d, c⟩) w9 w.heap.size 0) (fun k hk => by injection hk with hk; omega)⟩
        case rest =>
          obtain ⟨k, m, rfl, rfl, hbx, hgw⟩ := hcut
          obtain ⟨hu0, hu1, hu2, hu3, hu4, hu5, hu6, huf, hus⟩ := Pu.bx hbx
          go_wp2_with fail
          go_light
          refine bodyPost_ret (v := .tuple #[purV q p t r i d c, .int .i64 k, .int .i64 m]) (by simp [results, Try.results25, go_sem, hu0, hu1, hu2, hu3, hu4, hu5, hu6]) rfl ⟨⟨_, _, _, _, _, _, _, _, _, rfl⟩, hgw⟩
  · go_wp2_with fail
    have HC4D := Lib.hid (show Cur w4.drew g A cc l from HC4.out)
    have HB4D := Lib.hid HB4.out.drew
    have HX4D := Lib.hid HX4.out.drew
    have HG4D := Lib.hid HG4.out.drew
    obtain ⟨hx0, hx1, hx2, hx3, hx4, hx5, hx6, hxf, hxs⟩ := Pu.bx HX4.out
    go_region_with (first
      | (go_at_call 32; (with_reducible refine (l10Quantity_any _ _ _ _ _ HC4D.out).mono ?_); rintro e w5 ⟨n5, rfl, hn50, hn51, hc5, hg5⟩; have HB5 := Lib.hid (HB4D.out.by_ hg5 (by omega)); have HX5 := Lib.hid (HX4D.out.by_ hg5 (by omega)); have HC5 := Lib.hid hc5; have HG5 := Lib.hid (grew_only HG4D.out hg5 (by omega)); clear hc5 hg5; obtain ⟨hy0, hy1, hy2, hy3, hy4, hy5, hy6, hyf, hys⟩ := Pu.bx HX5.out)
      | (go_at_call 33; (with_reducible refine (l1Odd_any _ _ _ _ _ HC5.out).mono ?_); rintro e w6 ⟨n6, rfl, hn6, hc6, hg6⟩; have HB6 := Lib.hid (HB5.out.by_ hg6 (by omega)); have HX6 := Lib.hid (HX5.out.by_ hg6 (by omega)); have HG6 := Lib.hid (grew_only HG5.out hg6 (by omega)); clear hc6 hg6; obtain ⟨hz0, hz1, hz2, hz3, hz4, hz5, hz6, hzf, hzs⟩ := Pu.bx HX6.out; obtain ⟨hu0, hu1, hu2, hu3, hu4, hu5, hu6, huf, hus⟩ := Pu.bx HB6.out))
    all_goals
      go_wp2_with fail
      go_light
      refine bodyPost_ret (v := .tuple #[purV q p t r i d c, .int .i64 n5, .int .i64 n6]) (by simp [results, Try.results25, go_sem, hu0, hu1, hu2, hu3, hu4, hu5, hu6]) rfl ⟨⟨_, _, _, _, _, _, _, _, _, rfl⟩, ?_⟩
      exact HG6.out.grown (storeL_by (Pu.E.enc ⟨q, p, t, r, i, d, c⟩) w6 w.heap.size 0) (fun k hk => by injection hk with hk; omega)
end Go.Proofs.Ytjihfklhfldplaa
