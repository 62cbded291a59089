/- Holdings changed at one place: 'l28Put' of the reference returns what a plain function returns. Conditions: none. -/
import Derived.Test.YtfbfhccgohmeiaaHoldQ
import Derived.Test.YtfbfhccgohmeiaaHoldM
namespace Go.Proofs.Ytfbfhccgohmeiaa
open Go.RowKit Go.ChangeShapes Go.WideShapes Go.Deep
set_option linter.unusedVariables false
set_option linter.unusedSimpArgs false

def smallQ (q : Int) : Prop := -2000000000 ≤ q ∧ q ≤ 2000000000
def insH (x : Hold) : List Hold := if x.q ≠ 0 ∧ x.pl.toList ≠ [] then [x] else []
def firstN (p : Hold → Bool) (l : List Hold) : Nat := (l.takeWhile p).length
theorem firstN_le (p : Hold → Bool) (l : List Hold) : firstN p l ≤ l.length := (List.takeWhile_sublist p).length_le
theorem firstN_take (p : Hold → Bool) : ∀ (l : List Hold) (i : Nat) (y : Hold), i < firstN p l → l[i]? = some y → p y = true
  | [], i, y, h, _ => by simp [firstN] at h
  | z :: l, i, y, h, hy => by
    simp only [firstN, List.takeWhile_cons] at h
    split at h
    · rename_i hp
      cases i with
      | zero => simp at hy; exact hy ▸ hp
      | succ i => exact firstN_take p l i y (by simpa [firstN] using h) (by simpa using hy)
    · simp at h
theorem firstN_stop (p : Hold → Bool) : ∀ (l : List Hold) (y : Hold), l[firstN p l]? = some y → p y = false
  | [], y, h => by simp at h
  | z :: l, y, h => by
    simp only [firstN, List.takeWhile_cons] at h
    by_cases hp : p z = true
    · rw [if_pos hp] at h
      exact firstN_stop p l y (by simpa [firstN] using h)
    · rw [if_neg hp] at h
      simp at h
      subst h
      simpa using hp
def putF (x : Hold) (l : List Hold) : List Hold :=
  l.take (firstN (fun y => befH y x) l) ++
    match l[firstN (fun y => befH y x) l]? with
    | none => insH x
    | some y => if befH x y then insH x ++ l.drop (firstN (fun y => befH y x) l) else insH ⟨x.it, x.ba, x.pl, x.q + y.q⟩ ++ l.drop (firstN (fun y => befH y x) l + 1)

theorem hold_setQ {w : World} {b : Nat} {x : Hold} (h : Bx Hold.E w b x) (q : Int) : Bx Hold.E (w.setCell ⟨b, 3, none⟩ (.int .i64 q)) b ⟨x.it, x.ba, x.pl, q⟩ := by
  obtain ⟨h0, h1, h2, h3, h4, h5⟩ := Hold.bx h
  refine ⟨by simpa using h4, fun j u hu => ?_, fun j => by simp [go_sem, h5]⟩
  match j, hu with
  | 0, hu => obtain rfl : _ = u := by simpa [Hold.E] using hu
             simp [go_sem, h0]
  | 1, hu => obtain rfl : _ = u := by simpa [Hold.E] using hu
             simp [go_sem, h1]
  | 2, hu => obtain rfl : _ = u := by simpa [Hold.E] using hu
             simp [go_sem, h2]
  | 3, hu => obtain rfl : _ = u := by simpa [Hold.E] using hu
             simp [go_sem, h3]
  | j + 4, hu => simp [Hold.E] at hu
theorem three (q : Int) (it ba pl : ByteArray) : ((q != 0) = false ∧ Hid (insH ⟨it, ba, pl, q⟩ = [])) ∨ ((q != 0) = true ∧ pl.toList.isEmpty = true ∧ Hid (insH ⟨it, ba, pl, q⟩ = [])) ∨ ((q != 0) = true ∧ pl.toList.isEmpty = false ∧ Hid (insH ⟨it, ba, pl, q⟩ = [⟨it, ba, pl, q⟩])) := by
  by_cases h1 : q = 0
  · exact .inl ⟨by simp [h1], Lib.hid (by simp [insH, h1])⟩
  · cases h2 : pl.toList.isEmpty
    · exact .inr (.inr ⟨by simp [h1], rfl, Lib.hid (by simp only [insH]; rw [if_pos ⟨h1, fun e => by rw [e] at h2; cases h2⟩])⟩)
    · exact .inr (.inl ⟨by simp [h1], rfl, Lib.hid (by simp only [insH]; rw [if_neg (fun h => h.2 (List.isEmpty_iff.1 h2))])⟩)

set_option maxHeartbeats 8000000 in
theorem put_any (l : List Hold) (A : Option Addr) (c : Nat) (x : Hold) (w : World) (h : Rd Hold.E w A l) (hlc : l.length ≤ c) (hcm : c ≤ maxLen) (hn : l.length ≤ 1000000) (hq : ∀ y ∈ l, smallQ y.q) (hx : smallQ x.q) :
    Calls Try.prog 51 #[.slice A l.length c, x.v] w fun e w' => ∃ A' c', e = .returned (.slice A' (putF x l).length c') ∧ Own Hold.E 60 w' w.heap.size (.slice A' (putF x l).length c') (putF x l) ∧ Grew w w' := by
  have HL := Lib.hid h
  have HQ := Lib.hid hq
  obtain ⟨hx1, hx2⟩ := hx
  unfold maxLen at hcm
  obtain ⟨tw, htw⟩ : ∃ tw, tw = firstN (fun y => befH y x) l := ⟨_, rfl⟩
  have HP := Lib.hid (show putF x l = l.take tw ++ match l[tw]? with | none => insH x | some y => if befH x y then insH x ++ l.drop tw else insH ⟨x.it, x.ba, x.pl, x.q + y.q⟩ ++ l.drop (tw + 1) by rw [htw]; rfl)
  have HT := Lib.hid (show ∀ (i : Nat) (y : Hold), i < tw → l[i]? = some y → befH y x = true by rw [htw]; exact firstN_take _ l)
  have HS := Lib.hid (show ∀ (y : Hold), l[tw]? = some y → befH y x = false by rw [htw]; exact firstN_stop _ l)
  have htl : tw ≤ l.length := by rw [htw]; exact firstN_le _ l
  clear h hq htw
  go_enter Try.func51, Try.ntmps51
  go_wp2_with fail
  have HB := Lib.hid (Bx.new_ (E := Hold.E) w x 60)
  go_loopw [5] (fun i wr => ∃ k : Nat, k ≤ tw ∧ i = .int .i64 k ∧ Grew (w.alloc (.cells (Hold.E.enc x).toArray 60)) wr) (fun i _ => tw - (intOf i).toNat)
  case atStart => exact ⟨0, Nat.zero_le _, rfl, Grew.refl _⟩
  case round =>
    obtain ⟨k, hk, rfl, hg⟩ := hrel
    have HG := Lib.hid hg
    have HXB := Lib.hid (HB.out.grew hg)
    obtain ⟨x0, x1, x2, x3, x4, x5⟩ := Hold.bx HXB.out
    by_cases hlt : k < tw
    · obtain ⟨y, hy⟩ : ∃ y, l[k]? = some y := ⟨_, List.getElem?_eq_getElem (by omega)⟩
      obtain ⟨b, o, rfl, hb, hc⟩ := (HL.out.grew ((((Grew.refl w).alloc _)).trans hg)).at_ (k := k) (by omega)
      obtain ⟨hc0, hc1, hc2, hc3⟩ := Hold.at_ hc hy
      have hbe := HT.out k y hlt hy
      have hd : decide ((k : Int) < (l.length : Int)) = true := by simp; omega
      have hi1 : (0 : Int) ≤ (k : Int) := by omega
      have hi2 : (k : Int) < (l.length : Int) := by omega
      clear hy hc hg
      go_wp2_with fail
      (refine wp_region_grow_lit (by kernel_rfl) (by kernel_rfl) ?_; repeat (any_goals (first | go_big_quiet_step (((go_at_call 46; exact quiet_grew (before_spec y x _)))) | quiet_step (((go_at_call 46; exact quiet_grew (before_spec y x _)))) | (refine wpQuiet_step (fun K hK => ?_); go_simp; split <;> rename_i hsp <;> (refine hK _ ?_; clear hK K) <;> (try first | simp only [hsp, decide_true, decide_false, Bool.not_true, Bool.not_false] | simp only [Int.not_le.2 hsp, decide_false, Bool.not_false] | simp only [Int.not_lt.2 hsp, decide_false, Bool.not_false] | simp only [Nat.not_le.2 hsp, decide_false, Bool.not_false] | simp only [Nat.not_lt.2 hsp, decide_false, Bool.not_false])))))
      all_goals (refine wpQuiet_nil ?_; intro w1 h1)
      go_wp2_with fail
      go_roundw
      case rel => go_light; exact ⟨k + 1, by omega, by go_num, HG.out.trans h1⟩
      case measure => go_light; simp [intOf]; omega
    · obtain rfl : k = tw := by omega
      rcases Nat.lt_or_ge k l.length with hkl | hkl
      · obtain ⟨y, hy⟩ : ∃ y, l[k]? = some y := ⟨_, List.getElem?_eq_getElem (by omega)⟩
        obtain ⟨b, o, rfl, hb, hc⟩ := (HL.out.grew ((((Grew.refl w).alloc _)).trans hg)).at_ (k := k) (by omega)
        obtain ⟨hc0, hc1, hc2, hc3⟩ := Hold.at_ hc hy
        have hbe := HS.out y hy
        have hd : decide ((k : Int) < (l.length : Int)) = true := by simp; omega
        have hi1 : (0 : Int) ≤ (k : Int) := by omega
        have hi2 : (k : Int) < (l.length : Int) := by omega
        have hi3 : (k : Int) ≤ (c : Int) := by omega
        have hi4 : k ≠ c := by omega
        have HY := Lib.hid hy
        obtain ⟨hy1, hy2⟩ := HQ.out y (List.mem_of_getElem? hy)
        clear hy hc hg
        go_wp2_with fail
        (refine wp_region_grow_lit (by kernel_rfl) (by kernel_rfl) ?_; repeat (any_goals (first | go_big_quiet_step (((go_at_call 46; exact quiet_grew (before_spec y x _)))) | quiet_step (((go_at_call 46; exact quiet_grew (before_spec y x _)))) | (refine wpQuiet_step (fun K hK => ?_); go_simp; split <;> rename_i hsp <;> (refine hK _ ?_; clear hK K) <;> (try first | simp only [hsp, decide_true, decide_false, Bool.not_true, Bool.not_false] | simp only [Int.not_le.2 hsp, decide_false, Bool.not_false] | simp only [Int.not_lt.2 hsp, decide_false, Bool.not_false] | simp only [Nat.not_le.2 hsp, decide_false, Bool.not_false] | simp only [Nat.not_lt.2 hsp, decide_false, Bool.not_false])))))
        all_goals (refine wpQuiet_nil ?_; intro w1 h1)
        have HLW := Lib.hid ((HL.out.grew ((((Grew.refl w).alloc _)).trans (HG.out.trans h1))))
        go_wp2_with (at_builtin; refine wpList_append_rd _ rfl (.tmp 22) (.tmp 25) _ rfl sl_Hold (w.heap.size + 1) _ _ _ ([] : List Hold) rfl (Own.new_ (le_of_grew (HG.out.trans h1) (by simp))) _ _ _ (l.take k) rfl (by rw [List.length_take]; omega) ((HLW.out.grew ((Grew.refl _).alloc _)).take k) (by simp; omega) (le_al (HG.out.trans h1) (by simp)) ?_; intro A3 c3 w3 ho3 hgr3 hat3)
        have HO3 := Lib.hid (show Own Hold.E 60 w3 (w.heap.size + 1) (.slice A3 k c3) (l.take k) by simpa using ho3)
        have HG3 := Lib.hid (((HG.out.trans h1).alloc _).app (Own.new_ (E := Hold.E) (t := 60) (Nat.le_refl _)) (le_of_grew (HG.out.trans h1) rfl) hgr3)
        have hx1s : w.heap.size < w1.heap.size := (HXB.out.grew h1).1
        have HX3 := Lib.hid (((HXB.out.grew h1).alloc _).kept hgr3 (by simp [Value.ownBlock]; omega))
        have NX3 := Lib.hid (HO3.out.ne_ (b := w.heap.size) (.inl (by omega)))
        clear ho3 hgr3 hat3 HLW x0 x1 x2 x3 x5 hc0 hc1 hc2 hc3
        obtain ⟨x30, x31, x32, x33, x34, x35⟩ := Hold.bx HX3.out
        obtain ⟨b3, o3, hbo, hb3, hc3⟩ := (HL.out.grew (((Grew.refl w).alloc _).trans HG3.out)).at_ (k := k) (by omega)
        simp only [Option.some.injEq, Addr.mk.injEq, and_true] at hbo
        obtain ⟨rfl, rfl⟩ := hbo
        obtain ⟨d30, d31, d32, d33⟩ := Hold.at_ hc3 HY.out
        clear hc3 hb
        have hd2 : decide ((0 : Int) < ((l.length - k : Nat) : Int)) = true := by simp; omega
        have hd3 : decide (0 < l.length - k) = true := by simp; omega
        cases hbf : befH x y
        · have HR := Lib.hid (show putF x l = l.take k ++ (insH ⟨x.it, x.ba, x.pl, x.q + y.q⟩ ++ l.drop (k + 1)) by rw [HP.out, HY.out]; simp [hbf])
          (refine wp_region_grow_lit (by kernel_rfl) (by kernel_rfl) ?_; repeat (any_goals (first | go_big_quiet_step (((go_at_call 46; exact quiet_grew (before_spec x y _)))) | quiet_step (((go_at_call 46; exact quiet_grew (before_spec x y _)))) | (refine wpQuiet_step (fun K hK => ?_); go_simp; split <;> rename_i hsp <;> (refine hK _ ?_; clear hK K) <;> (try first | simp only [hsp, decide_true, decide_false, Bool.not_true, Bool.not_false] | simp only [Int.not_le.2 hsp, decide_false, Bool.not_false] | simp only [Int.not_lt.2 hsp, decide_false, Bool.not_false] | simp only [Nat.not_le.2 hsp, decide_false, Bool.not_false] | simp only [Nat.not_lt.2 hsp, decide_false, Bool.not_false])))))
          all_goals (refine wpQuiet_nil ?_; intro waa haa)
          have HXA := Lib.hid (HX3.out.grew haa)
          obtain ⟨xa0, xa1, xa2, xa3, xa4, xa5⟩ := Hold.bx HXA.out
          have da3 := (haa.rules.1 b _ hb3).trans d33
          clear x30 x31 x32 x33 x34 x35 d30 d31 d32 d33
          go_wp2_with fail
          go_region
          have HOm := Lib.hid ((((HO3.out.grew haa).far (p := ⟨w.heap.size, 3, none⟩) NX3.out (.int .i64 (x.q + y.q))).drew).mono (Nat.le_succ w.heap.size))
          have HGm := Lib.hid (((((Grew.refl w).alloc _).trans (HG3.out.trans haa)).setCell (p := ⟨w.heap.size, 3, none⟩) (Nat.le_refl _) (.int .i64 (x.q + y.q))).drew)
          have HXm := Lib.hid (Bx.drew (hold_setQ HXA.out (x.q + y.q)))
          clear xa0 xa1 xa2 xa3 xa4 xa5 da3 hb3 haa HXA
          generalize (waa.setCell ⟨w.heap.size, 3, none⟩ (.int .i64 (x.q + y.q))).drew = wm at *
          obtain ⟨xm0, xm1, xm2, xm3, xm4, xm5⟩ := Hold.bx HXm.out
          simp only at xm0 xm1 xm2 xm3
          have hd5 : (1 : Int) ≤ ((l.length - k : Nat) : Int) := by omega
          have hd6 : 1 ≤ l.length - k := by omega
          have hd7 : ((l.length - k : Nat) : Int) ≤ ((c - k : Nat) : Int) := by omega
          by_cases hck : c - k = 1
          · skip
            rcases three (x.q + y.q) x.it x.ba x.pl with ⟨q0, HI⟩ | ⟨q0, p0, HI⟩ | ⟨q0, p0, HI⟩
            · have HE := Lib.hid (show putF x l = l.take k ++ l.drop (k + 1) by rw [HR.out, HI.out]; simp)
              go_wp2_with ((at_builtin; refine wpList_append_rd _ rfl (.tmp 63) (.tmp 64) _ rfl sl_Hold w.heap.size _ _ _ (l.take k) rfl HOm.out _ _ _ (l.drop (k + 1)) rfl (by simp; try omega) (Rd.drop (E := Hold.E) (k := k + 1) (HL.out.grew HGm.out) (fun hh => by omega)) (by simp; omega) (le_of_grew HGm.out (by simp)) ?_; intro A9 c9 w9 ho9 hgr9 hat9))
              go_ret
              go_light
              exact ⟨A9, c9, ret_val (own_fin1 ho9 HE.out (by omega)), own_fin2 ho9 HE.out, HGm.out.app HOm.out (Nat.le_refl _) hgr9⟩
            · have HE := Lib.hid (show putF x l = l.take k ++ l.drop (k + 1) by rw [HR.out, HI.out]; simp)
              go_wp2_with ((at_builtin; refine wpList_append_rd _ rfl (.tmp 63) (.tmp 64) _ rfl sl_Hold w.heap.size _ _ _ (l.take k) rfl HOm.out _ _ _ (l.drop (k + 1)) rfl (by simp; try omega) (Rd.drop (E := Hold.E) (k := k + 1) (HL.out.grew HGm.out) (fun hh => by omega)) (by simp; omega) (le_of_grew HGm.out (by simp)) ?_; intro A9 c9 w9 ho9 hgr9 hat9))
              go_ret
              go_light
              exact ⟨A9, c9, ret_val (own_fin1 ho9 HE.out (by omega)), own_fin2 ho9 HE.out, HGm.out.app HOm.out (Nat.le_refl _) hgr9⟩
            · have HE := Lib.hid (show putF x l = l.take k ++ [⟨x.it, x.ba, x.pl, x.q + y.q⟩] ++ l.drop (k + 1) by rw [HR.out, HI.out]; simp)
              go_wp2_with (first | (at_builtin; refine wpList_append_rd _ rfl (.tmp 59) (.tmp 61) _ rfl sl_Hold w.heap.size _ _ _ (l.take k) rfl (Own.alloc HOm.out _) _ _ _ [⟨x.it, x.ba, x.pl, x.q + y.q⟩] rfl rfl (rd_new (E := Hold.E) _ ⟨x.it, x.ba, x.pl, x.q + y.q⟩ _ (by simp)) (by simp; omega) (le_al HGm.out (by simp)) ?_; intro A5 c5 w5 ho5 hgr5 hat5; have HO5 := Lib.hid ho5; have HG5 := Lib.hid ((HGm.out.alloc _).app (Own.alloc HOm.out _) (Nat.le_refl _) hgr5); clear ho5 hgr5 hat5) | (at_builtin; refine wpList_append_rd _ rfl (.tmp 63) (.tmp 64) _ rfl sl_Hold w.heap.size _ _ _ (l.take k ++ [⟨x.it, x.ba, x.pl, x.q + y.q⟩]) rfl HO5.out _ _ _ (l.drop (k + 1)) rfl (by simp; try omega) (Rd.drop (E := Hold.E) (k := k + 1) (HL.out.grew HG5.out) (fun hh => by omega)) (by simp; omega) (le_of_grew HG5.out (by simp)) ?_; intro A9 c9 w9 ho9 hgr9 hat9))
              go_ret
              go_light
              exact ⟨A9, c9, ret_val (own_fin1 ho9 HE.out (by omega)), own_fin2 ho9 HE.out, HG5.out.app HO5.out (Nat.le_refl _) hgr9⟩
          · skip
            rcases three (x.q + y.q) x.it x.ba x.pl with ⟨q0, HI⟩ | ⟨q0, p0, HI⟩ | ⟨q0, p0, HI⟩
            · have HE := Lib.hid (show putF x l = l.take k ++ l.drop (k + 1) by rw [HR.out, HI.out]; simp)
              go_wp2_with ((at_builtin; refine wpList_append_rd _ rfl (.tmp 63) (.tmp 64) _ rfl sl_Hold w.heap.size _ _ _ (l.take k) rfl HOm.out _ _ _ (l.drop (k + 1)) rfl (by simp; try omega) (Rd.drop (E := Hold.E) (k := k + 1) (HL.out.grew HGm.out) (fun _ => by simp [Hold.E]; try omega)) (by simp; omega) (le_of_grew HGm.out (by simp)) ?_; intro A9 c9 w9 ho9 hgr9 hat9))
              go_ret
              go_light
              exact ⟨A9, c9, ret_val (own_fin1 ho9 HE.out (by omega)), own_fin2 ho9 HE.out, HGm.out.app HOm.out (Nat.le_refl _) hgr9⟩
            · have HE := Lib.hid (show putF x l = l.take k ++ l.drop (k + 1) by rw [HR.out, HI.out]; simp)
              go_wp2_with ((at_builtin; refine wpList_append_rd _ rfl (.tmp 63) (.tmp 64) _ rfl sl_Hold w.heap.size _ _ _ (l.take k) rfl HOm.out _ _ _ (l.drop (k + 1)) rfl (by simp; try omega) (Rd.drop (E := Hold.E) (k := k + 1) (HL.out.grew HGm.out) (fun _ => by simp [Hold.E]; try omega)) (by simp; omega) (le_of_grew HGm.out (by simp)) ?_; intro A9 c9 w9 ho9 hgr9 hat9))
              go_ret
              go_light
              exact ⟨A9, c9, ret_val (own_fin1 ho9 HE.out (by omega)), own_fin2 ho9 HE.out, HGm.out.app HOm.out (Nat.le_refl _) hgr9⟩
            · have HE := Lib.hid (show putF x l = l.take k ++ [⟨x.it, x.ba, x.pl, x.q + y.q⟩] ++ l.drop (k + 1) by rw [HR.out, HI.out]; simp)
              go_wp2_with (first | (at_builtin; refine wpList_append_rd _ rfl (.tmp 59) (.tmp 61) _ rfl sl_Hold w.heap.size _ _ _ (l.take k) rfl (Own.alloc HOm.out _) _ _ _ [⟨x.it, x.ba, x.pl, x.q + y.q⟩] rfl rfl (rd_new (E := Hold.E) _ ⟨x.it, x.ba, x.pl, x.q + y.q⟩ _ (by simp)) (by simp; omega) (le_al HGm.out (by simp)) ?_; intro A5 c5 w5 ho5 hgr5 hat5; have HO5 := Lib.hid ho5; have HG5 := Lib.hid ((HGm.out.alloc _).app (Own.alloc HOm.out _) (Nat.le_refl _) hgr5); clear ho5 hgr5 hat5) | (at_builtin; refine wpList_append_rd _ rfl (.tmp 63) (.tmp 64) _ rfl sl_Hold w.heap.size _ _ _ (l.take k ++ [⟨x.it, x.ba, x.pl, x.q + y.q⟩]) rfl HO5.out _ _ _ (l.drop (k + 1)) rfl (by simp; try omega) (Rd.drop (E := Hold.E) (k := k + 1) (HL.out.grew HG5.out) (fun _ => by simp [Hold.E]; try omega)) (by simp; omega) (le_of_grew HG5.out (by simp)) ?_; intro A9 c9 w9 ho9 hgr9 hat9))
              go_ret
              go_light
              exact ⟨A9, c9, ret_val (own_fin1 ho9 HE.out (by omega)), own_fin2 ho9 HE.out, HG5.out.app HO5.out (Nat.le_refl _) hgr9⟩
        · have HR := Lib.hid (show putF x l = l.take k ++ (insH ⟨x.it, x.ba, x.pl, x.q⟩ ++ l.drop k) by rw [HP.out, HY.out]; simp [hbf])
          (refine wp_region_grow_lit (by kernel_rfl) (by kernel_rfl) ?_; repeat (any_goals (first | go_big_quiet_step (((go_at_call 46; exact quiet_grew (before_spec x y _)))) | quiet_step (((go_at_call 46; exact quiet_grew (before_spec x y _)))) | (refine wpQuiet_step (fun K hK => ?_); go_simp; split <;> rename_i hsp <;> (refine hK _ ?_; clear hK K) <;> (try first | simp only [hsp, decide_true, decide_false, Bool.not_true, Bool.not_false] | simp only [Int.not_le.2 hsp, decide_false, Bool.not_false] | simp only [Int.not_lt.2 hsp, decide_false, Bool.not_false] | simp only [Nat.not_le.2 hsp, decide_false, Bool.not_false] | simp only [Nat.not_lt.2 hsp, decide_false, Bool.not_false])))))
          all_goals (refine wpQuiet_nil ?_; intro waa haa)
          have HXm := Lib.hid (HX3.out.grew haa)
          have HOm := Lib.hid ((HO3.out.grew haa).mono (Nat.le_succ w.heap.size))
          have HGm := Lib.hid (((Grew.refl w).alloc _).trans (HG3.out.trans haa))
          clear x30 x31 x32 x33 x34 x35 d30 d31 d32 d33 hb3 haa
          obtain ⟨xm0, xm1, xm2, xm3, xm4, xm5⟩ := Hold.bx HXm.out
          rcases three (x.q) x.it x.ba x.pl with ⟨q0, HI⟩ | ⟨q0, p0, HI⟩ | ⟨q0, p0, HI⟩
          · have HE := Lib.hid (show putF x l = l.take k ++ l.drop k by rw [HR.out, HI.out]; simp)
            go_wp2_with ((at_builtin; refine wpList_append_rd _ rfl (.tmp 63) (.tmp 64) _ rfl sl_Hold w.heap.size _ _ _ (l.take k) rfl HOm.out _ _ _ (l.drop k) rfl (by simp; try omega) (Rd.drop (E := Hold.E) (k := k) (HL.out.grew HGm.out) (fun _ => by simp [Hold.E])) (by simp; omega) (le_of_grew HGm.out (by simp)) ?_; intro A9 c9 w9 ho9 hgr9 hat9))
            go_ret
            go_light
            exact ⟨A9, c9, ret_val (own_fin1 ho9 HE.out (by omega)), own_fin2 ho9 HE.out, HGm.out.app HOm.out (Nat.le_refl _) hgr9⟩
          · have HE := Lib.hid (show putF x l = l.take k ++ l.drop k by rw [HR.out, HI.out]; simp)
            go_wp2_with ((at_builtin; refine wpList_append_rd _ rfl (.tmp 63) (.tmp 64) _ rfl sl_Hold w.heap.size _ _ _ (l.take k) rfl HOm.out _ _ _ (l.drop k) rfl (by simp; try omega) (Rd.drop (E := Hold.E) (k := k) (HL.out.grew HGm.out) (fun _ => by simp [Hold.E])) (by simp; omega) (le_of_grew HGm.out (by simp)) ?_; intro A9 c9 w9 ho9 hgr9 hat9))
            go_ret
            go_light
            exact ⟨A9, c9, ret_val (own_fin1 ho9 HE.out (by omega)), own_fin2 ho9 HE.out, HGm.out.app HOm.out (Nat.le_refl _) hgr9⟩
          · have HE := Lib.hid (show putF x l = l.take k ++ [⟨x.it, x.ba, x.pl, x.q⟩] ++ l.drop k by rw [HR.out, HI.out]; simp)
            go_wp2_with (first | (at_builtin; refine wpList_append_rd _ rfl (.tmp 59) (.tmp 61) _ rfl sl_Hold w.heap.size _ _ _ (l.take k) rfl (Own.alloc HOm.out _) _ _ _ [⟨x.it, x.ba, x.pl, x.q⟩] rfl rfl (rd_new (E := Hold.E) _ ⟨x.it, x.ba, x.pl, x.q⟩ _ (by simp)) (by simp; omega) (le_al HGm.out (by simp)) ?_; intro A5 c5 w5 ho5 hgr5 hat5; have HO5 := Lib.hid ho5; have HG5 := Lib.hid ((HGm.out.alloc _).app (Own.alloc HOm.out _) (Nat.le_refl _) hgr5); clear ho5 hgr5 hat5) | (at_builtin; refine wpList_append_rd _ rfl (.tmp 63) (.tmp 64) _ rfl sl_Hold w.heap.size _ _ _ (l.take k ++ [⟨x.it, x.ba, x.pl, x.q⟩]) rfl HO5.out _ _ _ (l.drop k) rfl (by simp; try omega) (Rd.drop (E := Hold.E) (k := k) (HL.out.grew HG5.out) (fun _ => by simp [Hold.E])) (by simp; omega) (le_of_grew HG5.out (by simp)) ?_; intro A9 c9 w9 ho9 hgr9 hat9))
            go_ret
            go_light
            exact ⟨A9, c9, ret_val (own_fin1 ho9 HE.out (by omega)), own_fin2 ho9 HE.out, HG5.out.app HO5.out (Nat.le_refl _) hgr9⟩
      · obtain rfl : k = l.length := by omega
        have hd : decide ((l.length : Int) < (l.length : Int)) = false := by simp
        have hi1 : (0 : Int) ≤ (l.length : Int) := by omega
        have hi3 : (l.length : Int) ≤ (c : Int) := by omega
        clear hg
        have HR := Lib.hid (show putF x l = l.take l.length ++ (insH ⟨x.it, x.ba, x.pl, x.q⟩ ++ ([] : List Hold)) by rw [HP.out]; simp)
        have hgd : decide ((0 : Int) < 0) = false := rfl
        by_cases hcl : c = l.length
        · skip
          go_wp2_with fail
          (refine wp_region_grow_lit (by kernel_rfl) (by kernel_rfl) ?_; repeat (any_goals (first | go_big_quiet_step (((fail))) | quiet_step (((fail))) | (refine wpQuiet_step (fun K hK => ?_); go_simp; split <;> rename_i hsp <;> (refine hK _ ?_; clear hK K) <;> (try first | simp only [hsp, decide_true, decide_false, Bool.not_true, Bool.not_false] | simp only [Int.not_le.2 hsp, decide_false, Bool.not_false] | simp only [Int.not_lt.2 hsp, decide_false, Bool.not_false] | simp only [Nat.not_le.2 hsp, decide_false, Bool.not_false] | simp only [Nat.not_lt.2 hsp, decide_false, Bool.not_false])))))
          all_goals (refine wpQuiet_nil ?_; intro w1 h1)
          have HLW := Lib.hid ((HL.out.grew ((((Grew.refl w).alloc _)).trans (HG.out.trans h1))))
          go_wp2_with (at_builtin; refine wpList_append_rd _ rfl (.tmp 22) (.tmp 25) _ rfl sl_Hold (w.heap.size + 1) _ _ _ ([] : List Hold) rfl (Own.new_ (le_of_grew (HG.out.trans h1) (by simp))) _ _ _ (l.take l.length) rfl (by rw [List.length_take]; omega) ((HLW.out.grew ((Grew.refl _).alloc _)).take l.length) (by simp; omega) (le_al (HG.out.trans h1) (by simp)) ?_; intro A3 c3 w3 ho3 hgr3 hat3)
          have HO3 := Lib.hid (show Own Hold.E 60 w3 (w.heap.size + 1) (.slice A3 l.length c3) (l.take l.length) by simpa using ho3)
          have HG3 := Lib.hid (((HG.out.trans h1).alloc _).app (Own.new_ (E := Hold.E) (t := 60) (Nat.le_refl _)) (le_of_grew (HG.out.trans h1) rfl) hgr3)
          have hx1s : w.heap.size < w1.heap.size := (HXB.out.grew h1).1
          have HX3 := Lib.hid (((HXB.out.grew h1).alloc _).kept hgr3 (by simp [Value.ownBlock]; omega))
          clear ho3 hgr3 hat3 HLW x0 x1 x2 x3 x5
          obtain ⟨x30, x31, x32, x33, x34, x35⟩ := Hold.bx HX3.out
          (refine wp_region_grow_lit (by kernel_rfl) (by kernel_rfl) ?_; repeat (any_goals (first | go_big_quiet_step (((fail))) | quiet_step (((fail))) | (refine wpQuiet_step (fun K hK => ?_); go_simp; split <;> rename_i hsp <;> (refine hK _ ?_; clear hK K) <;> (try first | simp only [hsp, decide_true, decide_false, Bool.not_true, Bool.not_false] | simp only [Int.not_le.2 hsp, decide_false, Bool.not_false] | simp only [Int.not_lt.2 hsp, decide_false, Bool.not_false] | simp only [Nat.not_le.2 hsp, decide_false, Bool.not_false] | simp only [Nat.not_lt.2 hsp, decide_false, Bool.not_false])))))
          all_goals (refine wpQuiet_nil ?_; intro waa haa)
          have HXm := Lib.hid (HX3.out.grew haa)
          have HOm := Lib.hid ((HO3.out.grew haa).mono (Nat.le_succ w.heap.size))
          have HGm := Lib.hid (((Grew.refl w).alloc _).trans (HG3.out.trans haa))
          clear x30 x31 x32 x33 x34 x35 haa
          obtain ⟨xm0, xm1, xm2, xm3, xm4, xm5⟩ := Hold.bx HXm.out
          rcases three (x.q) x.it x.ba x.pl with ⟨q0, HI⟩ | ⟨q0, p0, HI⟩ | ⟨q0, p0, HI⟩
          · have HE := Lib.hid (show putF x l = l.take l.length ++ ([] : List Hold) by rw [HR.out, HI.out]; simp)
            go_wp2_with ((at_builtin; refine wpList_append_rd _ rfl (.tmp 63) (.tmp 64) _ rfl sl_Hold w.heap.size _ _ _ (l.take l.length) rfl HOm.out _ _ _ (([] : List Hold)) rfl (by simp; try omega) (rdnil_ HGm.out) (by simp; omega) (le_of_grew HGm.out (by simp)) ?_; intro A9 c9 w9 ho9 hgr9 hat9))
            go_ret
            go_light
            exact ⟨A9, c9, ret_val (own_fin1 ho9 HE.out (by omega)), own_fin2 ho9 HE.out, HGm.out.app HOm.out (Nat.le_refl _) hgr9⟩
          · have HE := Lib.hid (show putF x l = l.take l.length ++ ([] : List Hold) by rw [HR.out, HI.out]; simp)
            go_wp2_with ((at_builtin; refine wpList_append_rd _ rfl (.tmp 63) (.tmp 64) _ rfl sl_Hold w.heap.size _ _ _ (l.take l.length) rfl HOm.out _ _ _ (([] : List Hold)) rfl (by simp; try omega) (rdnil_ HGm.out) (by simp; omega) (le_of_grew HGm.out (by simp)) ?_; intro A9 c9 w9 ho9 hgr9 hat9))
            go_ret
            go_light
            exact ⟨A9, c9, ret_val (own_fin1 ho9 HE.out (by omega)), own_fin2 ho9 HE.out, HGm.out.app HOm.out (Nat.le_refl _) hgr9⟩
          · have HE := Lib.hid (show putF x l = l.take l.length ++ [⟨x.it, x.ba, x.pl, x.q⟩] ++ ([] : List Hold) by rw [HR.out, HI.out]; simp)
            go_wp2_with (first | (at_builtin; refine wpList_append_rd _ rfl (.tmp 59) (.tmp 61) _ rfl sl_Hold w.heap.size _ _ _ (l.take l.length) rfl (Own.alloc HOm.out _) _ _ _ [⟨x.it, x.ba, x.pl, x.q⟩] rfl rfl (rd_new (E := Hold.E) _ ⟨x.it, x.ba, x.pl, x.q⟩ _ (by simp)) (by simp; omega) (le_al HGm.out (by simp)) ?_; intro A5 c5 w5 ho5 hgr5 hat5; have HO5 := Lib.hid ho5; have HG5 := Lib.hid ((HGm.out.alloc _).app (Own.alloc HOm.out _) (Nat.le_refl _) hgr5); clear ho5 hgr5 hat5) | (at_builtin; refine wpList_append_rd _ rfl (.tmp 63) (.tmp 64) _ rfl sl_Hold w.heap.size _ _ _ (l.take l.length ++ [⟨x.it, x.ba, x.pl, x.q⟩]) rfl HO5.out _ _ _ (([] : List Hold)) rfl (by simp; try omega) (rdnil_ HG5.out) (by simp; omega) (le_of_grew HG5.out (by simp)) ?_; intro A9 c9 w9 ho9 hgr9 hat9))
            go_ret
            go_light
            exact ⟨A9, c9, ret_val (own_fin1 ho9 HE.out (by omega)), own_fin2 ho9 HE.out, HG5.out.app HO5.out (Nat.le_refl _) hgr9⟩
        · skip
          go_wp2_with fail
          (refine wp_region_grow_lit (by kernel_rfl) (by kernel_rfl) ?_; repeat (any_goals (first | go_big_quiet_step (((fail))) | quiet_step (((fail))) | (refine wpQuiet_step (fun K hK => ?_); go_simp; split <;> rename_i hsp <;> (refine hK _ ?_; clear hK K) <;> (try first | simp only [hsp, decide_true, decide_false, Bool.not_true, Bool.not_false] | simp only [Int.not_le.2 hsp, decide_false, Bool.not_false] | simp only [Int.not_lt.2 hsp, decide_false, Bool.not_false] | simp only [Nat.not_le.2 hsp, decide_false, Bool.not_false] | simp only [Nat.not_lt.2 hsp, decide_false, Bool.not_false])))))
          all_goals (refine wpQuiet_nil ?_; intro w1 h1)
          have HLW := Lib.hid ((HL.out.grew ((((Grew.refl w).alloc _)).trans (HG.out.trans h1))))
          go_wp2_with (at_builtin; refine wpList_append_rd _ rfl (.tmp 22) (.tmp 25) _ rfl sl_Hold (w.heap.size + 1) _ _ _ ([] : List Hold) rfl (Own.new_ (le_of_grew (HG.out.trans h1) (by simp))) _ _ _ (l.take l.length) rfl (by rw [List.length_take]; omega) ((HLW.out.grew ((Grew.refl _).alloc _)).take l.length) (by simp; omega) (le_al (HG.out.trans h1) (by simp)) ?_; intro A3 c3 w3 ho3 hgr3 hat3)
          have HO3 := Lib.hid (show Own Hold.E 60 w3 (w.heap.size + 1) (.slice A3 l.length c3) (l.take l.length) by simpa using ho3)
          have HG3 := Lib.hid (((HG.out.trans h1).alloc _).app (Own.new_ (E := Hold.E) (t := 60) (Nat.le_refl _)) (le_of_grew (HG.out.trans h1) rfl) hgr3)
          have hx1s : w.heap.size < w1.heap.size := (HXB.out.grew h1).1
          have HX3 := Lib.hid (((HXB.out.grew h1).alloc _).kept hgr3 (by simp [Value.ownBlock]; omega))
          clear ho3 hgr3 hat3 HLW x0 x1 x2 x3 x5
          obtain ⟨x30, x31, x32, x33, x34, x35⟩ := Hold.bx HX3.out
          (refine wp_region_grow_lit (by kernel_rfl) (by kernel_rfl) ?_; repeat (any_goals (first | go_big_quiet_step (((fail))) | quiet_step (((fail))) | (refine wpQuiet_step (fun K hK => ?_); go_simp; split <;> rename_i hsp <;> (refine hK _ ?_; clear hK K) <;> (try first | simp only [hsp, decide_true, decide_false, Bool.not_true, Bool.not_false] | simp only [Int.not_le.2 hsp, decide_false, Bool.not_false] | simp only [Int.not_lt.2 hsp, decide_false, Bool.not_false] | simp only [Nat.not_le.2 hsp, decide_false, Bool.not_false] | simp only [Nat.not_lt.2 hsp, decide_false, Bool.not_false])))))
          all_goals (refine wpQuiet_nil ?_; intro waa haa)
          have HXm := Lib.hid (HX3.out.grew haa)
          have HOm := Lib.hid ((HO3.out.grew haa).mono (Nat.le_succ w.heap.size))
          have HGm := Lib.hid (((Grew.refl w).alloc _).trans (HG3.out.trans haa))
          clear x30 x31 x32 x33 x34 x35 haa
          obtain ⟨xm0, xm1, xm2, xm3, xm4, xm5⟩ := Hold.bx HXm.out
          rcases three (x.q) x.it x.ba x.pl with ⟨q0, HI⟩ | ⟨q0, p0, HI⟩ | ⟨q0, p0, HI⟩
          · have HE := Lib.hid (show putF x l = l.take l.length ++ ([] : List Hold) by rw [HR.out, HI.out]; simp)
            go_wp2_with ((at_builtin; refine wpList_append_rd _ rfl (.tmp 63) (.tmp 64) _ rfl sl_Hold w.heap.size _ _ _ (l.take l.length) rfl HOm.out _ _ _ (([] : List Hold)) rfl (by simp; try omega) (rdnil_ HGm.out) (by simp; omega) (le_of_grew HGm.out (by simp)) ?_; intro A9 c9 w9 ho9 hgr9 hat9))
            go_ret
            go_light
            exact ⟨A9, c9, ret_val (own_fin1 ho9 HE.out (by omega)), own_fin2 ho9 HE.out, HGm.out.app HOm.out (Nat.le_refl _) hgr9⟩
          · have HE := Lib.hid (show putF x l = l.take l.length ++ ([] : List Hold) by rw [HR.out, HI.out]; simp)
            go_wp2_with ((at_builtin; refine wpList_append_rd _ rfl (.tmp 63) (.tmp 64) _ rfl sl_Hold w.heap.size _ _ _ (l.take l.length) rfl HOm.out _ _ _ (([] : List Hold)) rfl (by simp; try omega) (rdnil_ HGm.out) (by simp; omega) (le_of_grew HGm.out (by simp)) ?_; intro A9 c9 w9 ho9 hgr9 hat9))
            go_ret
            go_light
            exact ⟨A9, c9, ret_val (own_fin1 ho9 HE.out (by omega)), own_fin2 ho9 HE.out, HGm.out.app HOm.out (Nat.le_refl _) hgr9⟩
          · have HE := Lib.hid (show putF x l = l.take l.length ++ [⟨x.it, x.ba, x.pl, x.q⟩] ++ ([] : List Hold) by rw [HR.out, HI.out]; simp)
            go_wp2_with (first | (at_builtin; refine wpList_append_rd _ rfl (.tmp 59) (.tmp 61) _ rfl sl_Hold w.heap.size _ _ _ (l.take l.length) rfl (Own.alloc HOm.out _) _ _ _ [⟨x.it, x.ba, x.pl, x.q⟩] rfl rfl (rd_new (E := Hold.E) _ ⟨x.it, x.ba, x.pl, x.q⟩ _ (by simp)) (by simp; omega) (le_al HGm.out (by simp)) ?_; intro A5 c5 w5 ho5 hgr5 hat5; have HO5 := Lib.hid ho5; have HG5 := Lib.hid ((HGm.out.alloc _).app (Own.alloc HOm.out _) (Nat.le_refl _) hgr5); clear ho5 hgr5 hat5) | (at_builtin; refine wpList_append_rd _ rfl (.tmp 63) (.tmp 64) _ rfl sl_Hold w.heap.size _ _ _ (l.take l.length ++ [⟨x.it, x.ba, x.pl, x.q⟩]) rfl HO5.out _ _ _ (([] : List Hold)) rfl (by simp; try omega) (rdnil_ HG5.out) (by simp; omega) (le_of_grew HG5.out (by simp)) ?_; intro A9 c9 w9 ho9 hgr9 hat9))
            go_ret
            go_light
            exact ⟨A9, c9, ret_val (own_fin1 ho9 HE.out (by omega)), own_fin2 ho9 HE.out, HG5.out.app HO5.out (Nat.le_refl _) hgr9⟩
end Go.Proofs.Ytfbfhccgohmeiaa
