/- Holdings changed at one place: 'change' of the program returns what a plain function returns. Conditions: none. -/
import Derived.Test.YtfbfhccgohmeiaaPut
namespace Go.Proofs.Ytfbfhccgohmeiaa
open Go.RowKit Go.ChangeShapes Go.WideShapes Go.Deep
set_option linter.unusedVariables false
set_option linter.unusedSimpArgs false

def sameH (x h : Hold) : Bool := matchH x.it x.ba x.pl h
def chgStep (x : Hold) (s : List Hold × Bool) (h : Hold) : List Hold × Bool :=
  (s.1 ++ (if !s.2 && befH x h then [x] else []) ++ (if 0 < (if sameH x h then h.q + x.q else h.q) then [⟨h.it, h.ba, h.pl, if sameH x h then h.q + x.q else h.q⟩] else []), s.2 || befH x h || sameH x h)
def chgTo (x : Hold) (l : List Hold) (k : Nat) : List Hold × Bool := (l.take k).foldl (chgStep x) ([], false)
def chgF (x : Hold) (l : List Hold) : List Hold := (chgTo x l l.length).1 ++ (if (chgTo x l l.length).2 then [] else [x])
theorem chgTo_step {x y : Hold} {l : List Hold} {k : Nat} (h : l[k]? = some y) : chgTo x l (k + 1) = chgStep x (chgTo x l k) y := by
  simp only [chgTo, List.take_add_one, h, Option.toList_some, List.foldl_append, List.foldl_cons, List.foldl_nil]
theorem chgTo_len (x : Hold) (l : List Hold) : ∀ k, (chgTo x l k).1.length ≤ 2 * k
  | 0 => by simp [chgTo]
  | k + 1 => by
    have ih := chgTo_len x l k
    rcases Nat.lt_or_ge k l.length with h | h
    · have hx : l[k]? = some l[k] := List.getElem?_eq_getElem h
      rw [chgTo_step hx]
      have h1 : ∀ (p : Prop) [Decidable p] (y : Hold), (if p then [y] else []).length ≤ 1 := fun p _ y => by split <;> simp
      simp only [chgStep, List.length_append]
      have h2 := h1 ((!(chgTo x l k).2 && befH x l[k]) = true) x
      have h3 := h1 (0 < (if sameH x l[k] then l[k].q + x.q else l[k].q)) ⟨l[k].it, l[k].ba, l[k].pl, if sameH x l[k] then l[k].q + x.q else l[k].q⟩
      omega
    · have : chgTo x l (k + 1) = chgTo x l k := by simp only [chgTo]; rw [List.take_of_length_le h, List.take_of_length_le (by omega)]
      rw [this]; omega


theorem four (x y : Hold) : Hid (((y.it.toList == x.it.toList) = false ∧ sameH x y = false) ∨ ((y.it.toList == x.it.toList) = true ∧ (y.ba.toList == x.ba.toList) = false ∧ sameH x y = false) ∨ ((y.it.toList == x.it.toList) = true ∧ (y.ba.toList == x.ba.toList) = true ∧ (y.pl.toList == x.pl.toList) = false ∧ sameH x y = false) ∨ ((y.it.toList == x.it.toList) = true ∧ (y.ba.toList == x.ba.toList) = true ∧ (y.pl.toList == x.pl.toList) = true ∧ sameH x y = true)) := by
  apply Lib.hid
  simp only [sameH, matchH]
  by_cases h1 : y.it.toList = x.it.toList <;> by_cases h2 : y.ba.toList = x.ba.toList <;> by_cases h3 : y.pl.toList = x.pl.toList <;> simp [h1, h2, h3]
set_option maxHeartbeats 8000000 in
theorem change_any (l : List Hold) (A : Option Addr) (c : Nat) (x : Hold) (w : World) (h : Rd Hold.E w A l) (hn : l.length ≤ 1000000) (hq : ∀ y ∈ l, smallQ y.q) (hx : smallQ x.q) :
    Calls Try.prog 52 #[.slice A l.length c, x.v] w fun e w' => ∃ A' c', e = .returned (.slice A' (chgF x l).length c') ∧ Own Hold.E 60 w' w.heap.size (.slice A' (chgF x l).length c') (chgF x l) ∧ Grew w w' := by
  have HL := Lib.hid h
  have HQ := Lib.hid hq
  have HN := Lib.hid (chgTo_len x l)
  have HF := Lib.hid (show chgF x l = (chgTo x l l.length).1 ++ (if (chgTo x l l.length).2 then [] else [x]) from rfl)
  obtain ⟨hx1, hx2⟩ := hx
  clear h hq
  go_enter Try.func52, Try.ntmps52
  go_wp2_with fail
  have HB := Lib.hid (Bx.new_ (E := Hold.E) w x 60)
  go_loopw [5, 6, 12] (fun v p i wr => ∃ k : Nat, k ≤ l.length ∧ i = .int .i64 k ∧ p = .bool (chgTo x l k).2 ∧ Own Hold.E 60 wr (w.heap.size + 1) v (chgTo x l k).1 ∧ Grew (w.alloc (.cells (Hold.E.enc x).toArray 60)) wr) (fun _ _ i _ => l.length - (intOf i).toNat)
  case atStart => exact ⟨0, Nat.zero_le _, rfl, rfl, by have := Own.new_ (E := Hold.E) (t := 60) (w := w.alloc (.cells (Hold.E.enc x).toArray 60)) (base := w.heap.size + 1) (by simp); rw [World.size_alloc] at this; exact this, (Grew.refl _).alloc _⟩
  case round =>
    obtain ⟨k, hk, rfl, rfl, hown, hg⟩ := hrel
    have HO := Lib.hid hown
    have HG := Lib.hid hg
    have HXB := Lib.hid (HB.out.grew hg)
    obtain ⟨x0, x1, x2, x3, x4, x5⟩ := Hold.bx HXB.out
    have hln := HN.out k
    by_cases hlt : k < l.length
    · obtain ⟨y, hy⟩ : ∃ y, l[k]? = some y := ⟨_, List.getElem?_eq_getElem hlt⟩
      obtain ⟨b, o, rfl, hb, hc⟩ := (HL.out.grew ((((Grew.refl w).alloc _)).trans hg)).at_ hlt
      obtain ⟨hc0, hc1, hc2, hc3⟩ := Hold.at_ hc hy
      have HS := Lib.hid (chgTo_step (x := x) hy)
      obtain ⟨hy1, hy2⟩ := HQ.out y (List.mem_of_getElem? hy)
      clear hy hc hg hown
      generalize hs : chgTo x l k = s at *
      clear hs
      obtain ⟨out, put⟩ := s
      simp only at *
      obtain ⟨A0, c0, rfl⟩ := HO.out.slice
      have H4 : Hid (((y.it.toList == x.it.toList) = false ∧ sameH x y = false) ∨ ((y.it.toList == x.it.toList) = true ∧ (y.ba.toList == x.ba.toList) = false ∧ sameH x y = false) ∨ ((y.it.toList == x.it.toList) = true ∧ (y.ba.toList == x.ba.toList) = true ∧ (y.pl.toList == x.pl.toList) = false ∧ sameH x y = false) ∨ ((y.it.toList == x.it.toList) = true ∧ (y.ba.toList == x.ba.toList) = true ∧ (y.pl.toList == x.pl.toList) = true ∧ sameH x y = true)) := four x y
      have NX := Lib.hid (HO.out.ne_ (b := w.heap.size) (.inl (by omega)))
      have NY := Lib.hid (HO.out.ne_ (b := wr.heap.size) (.inr (by omega)))
      cases put
      · cases hbf : befH x y
        · go_wp2_with fail
          refine (before_impl x y _).mono ?_; rintro e w2 ⟨rfl, h2⟩
          have HO2 := Lib.hid ((HO.out.alloc (.cells (Hold.E.enc y).toArray 60)).grew h2)
          have HG2 := Lib.hid ((HG.out.alloc _).trans h2)
          have HX2 := Lib.hid ((HXB.out.alloc _).grew h2)
          have HY2 := Lib.hid ((Bx.new_ (E := Hold.E) wr y 60).grew h2)
          have hws : wr.heap.size < w2.heap.size := HY2.out.1
          obtain ⟨x20, x21, x22, x23, x24, x25⟩ := Hold.bx HX2.out
          obtain ⟨y20, y21, y22, y23, y24, y25⟩ := Hold.bx HY2.out
          clear x0 x1 x2 x3 x5 hc0 hc1 hc2 hc3 hb h2
          have NY2 := NY
          rcases H4.out with ⟨e0, hsm⟩ | ⟨e0, e1, hsm⟩ | ⟨e0, e1, e2, hsm⟩ | ⟨e0, e1, e2, hsm⟩
          · by_cases hpq : 0 < y.q
            · have HC := Lib.hid (show chgStep x (out, false) y = (out ++ [(⟨y.it, y.ba, y.pl, y.q⟩ : Hold)], false) by simp [chgStep, hsm, hpq, hbf])
              clear hsm
              go_wp2_with ((at_builtin; refine wpList_append_rd _ rfl (.tmp 55) (.tmp 57) _ rfl sl_Hold (w.heap.size + 1) _ _ _ _ rfl (Own.alloc HO2.out _) _ _ _ [⟨y.it, y.ba, y.pl, y.q⟩] rfl rfl (rd_new (E := Hold.E) _ ⟨y.it, y.ba, y.pl, y.q⟩ _ (by simp)) (by simp only [List.length_cons, List.length_nil, List.length_append]; omega) (le_al (HG2.out) (by simp)) ?_; intro A9 c9 w9 ho9 hgr9 hat9))
              go_roundw
              case rel =>
                go_light
                exact ⟨k + 1, by omega, by go_num, by rw [HS.out, HC.out], by rw [HS.out, HC.out]; exact ho9, ((HG2.out).alloc _).app (Own.alloc HO2.out _) (by simp) hgr9⟩
              case measure => go_light; simp [intOf]; omega
            · have HC := Lib.hid (show chgStep x (out, false) y = (out, false) by simp [chgStep, hsm, hpq, hbf])
              clear hsm
              go_wp2_with (fail)
              go_roundw
              case rel =>
                go_light
                exact ⟨k + 1, by omega, by go_num, by rw [HS.out, HC.out], by rw [HS.out, HC.out]; exact HO2.out, HG2.out⟩
              case measure => go_light; simp [intOf]; omega
          · by_cases hpq : 0 < y.q
            · have HC := Lib.hid (show chgStep x (out, false) y = (out ++ [(⟨y.it, y.ba, y.pl, y.q⟩ : Hold)], false) by simp [chgStep, hsm, hpq, hbf])
              clear hsm
              go_wp2_with ((at_builtin; refine wpList_append_rd _ rfl (.tmp 55) (.tmp 57) _ rfl sl_Hold (w.heap.size + 1) _ _ _ _ rfl (Own.alloc HO2.out _) _ _ _ [⟨y.it, y.ba, y.pl, y.q⟩] rfl rfl (rd_new (E := Hold.E) _ ⟨y.it, y.ba, y.pl, y.q⟩ _ (by simp)) (by simp only [List.length_cons, List.length_nil, List.length_append]; omega) (le_al (HG2.out) (by simp)) ?_; intro A9 c9 w9 ho9 hgr9 hat9))
              go_roundw
              case rel =>
                go_light
                exact ⟨k + 1, by omega, by go_num, by rw [HS.out, HC.out], by rw [HS.out, HC.out]; exact ho9, ((HG2.out).alloc _).app (Own.alloc HO2.out _) (by simp) hgr9⟩
              case measure => go_light; simp [intOf]; omega
            · have HC := Lib.hid (show chgStep x (out, false) y = (out, false) by simp [chgStep, hsm, hpq, hbf])
              clear hsm
              go_wp2_with (fail)
              go_roundw
              case rel =>
                go_light
                exact ⟨k + 1, by omega, by go_num, by rw [HS.out, HC.out], by rw [HS.out, HC.out]; exact HO2.out, HG2.out⟩
              case measure => go_light; simp [intOf]; omega
          · by_cases hpq : 0 < y.q
            · have HC := Lib.hid (show chgStep x (out, false) y = (out ++ [(⟨y.it, y.ba, y.pl, y.q⟩ : Hold)], false) by simp [chgStep, hsm, hpq, hbf])
              clear hsm
              go_wp2_with ((at_builtin; refine wpList_append_rd _ rfl (.tmp 55) (.tmp 57) _ rfl sl_Hold (w.heap.size + 1) _ _ _ _ rfl (Own.alloc HO2.out _) _ _ _ [⟨y.it, y.ba, y.pl, y.q⟩] rfl rfl (rd_new (E := Hold.E) _ ⟨y.it, y.ba, y.pl, y.q⟩ _ (by simp)) (by simp only [List.length_cons, List.length_nil, List.length_append]; omega) (le_al (HG2.out) (by simp)) ?_; intro A9 c9 w9 ho9 hgr9 hat9))
              go_roundw
              case rel =>
                go_light
                exact ⟨k + 1, by omega, by go_num, by rw [HS.out, HC.out], by rw [HS.out, HC.out]; exact ho9, ((HG2.out).alloc _).app (Own.alloc HO2.out _) (by simp) hgr9⟩
              case measure => go_light; simp [intOf]; omega
            · have HC := Lib.hid (show chgStep x (out, false) y = (out, false) by simp [chgStep, hsm, hpq, hbf])
              clear hsm
              go_wp2_with (fail)
              go_roundw
              case rel =>
                go_light
                exact ⟨k + 1, by omega, by go_num, by rw [HS.out, HC.out], by rw [HS.out, HC.out]; exact HO2.out, HG2.out⟩
              case measure => go_light; simp [intOf]; omega
          · by_cases hpq : 0 < y.q + x.q
            · have HC := Lib.hid (show chgStep x (out, false) y = (out ++ [(⟨y.it, y.ba, y.pl, y.q + x.q⟩ : Hold)], true) by simp [chgStep, hsm, hpq, hbf])
              clear hsm
              go_wp2_with ((at_builtin; refine wpList_append_rd _ rfl (.tmp 55) (.tmp 57) _ rfl sl_Hold (w.heap.size + 1) _ _ _ _ rfl (Own.alloc (Own.far (HO2.out) (p := ⟨wr.heap.size, 3, none⟩) NY2.out _) _) _ _ _ [⟨y.it, y.ba, y.pl, y.q + x.q⟩] rfl rfl (rd_new (E := Hold.E) _ ⟨y.it, y.ba, y.pl, y.q + x.q⟩ _ (by simp)) (by simp only [List.length_cons, List.length_nil, List.length_append]; omega) (le_al ((HG2.out).setCell (p := ⟨wr.heap.size, 3, none⟩) HG.out.le _) (by simp)) ?_; intro A9 c9 w9 ho9 hgr9 hat9))
              go_roundw
              case rel =>
                go_light
                exact ⟨k + 1, by omega, by go_num, by rw [HS.out, HC.out], by rw [HS.out, HC.out]; exact ho9, (((HG2.out).setCell (p := ⟨wr.heap.size, 3, none⟩) HG.out.le _).alloc _).app (Own.alloc (Own.far (HO2.out) (p := ⟨wr.heap.size, 3, none⟩) NY2.out _) _) (by simp) hgr9⟩
              case measure => go_light; simp [intOf]; omega
            · have HC := Lib.hid (show chgStep x (out, false) y = (out, true) by simp [chgStep, hsm, hpq, hbf])
              clear hsm
              go_wp2_with (fail)
              go_roundw
              case rel =>
                go_light
                exact ⟨k + 1, by omega, by go_num, by rw [HS.out, HC.out], by rw [HS.out, HC.out]; exact (Own.far (HO2.out) (p := ⟨wr.heap.size, 3, none⟩) NY2.out _), (HG2.out).setCell (p := ⟨wr.heap.size, 3, none⟩) HG.out.le _⟩
              case measure => go_light; simp [intOf]; omega
        · go_wp2_with fail
          refine (before_impl x y _).mono ?_; rintro e w2 ⟨rfl, h2⟩
          have HO2 := Lib.hid ((HO.out.alloc (.cells (Hold.E.enc y).toArray 60)).grew h2)
          have HG2 := Lib.hid ((HG.out.alloc _).trans h2)
          have HX2 := Lib.hid ((HXB.out.alloc _).grew h2)
          have HY2 := Lib.hid ((Bx.new_ (E := Hold.E) wr y 60).grew h2)
          have hws : wr.heap.size < w2.heap.size := HY2.out.1
          obtain ⟨x20, x21, x22, x23, x24, x25⟩ := Hold.bx HX2.out
          obtain ⟨y20, y21, y22, y23, y24, y25⟩ := Hold.bx HY2.out
          clear x0 x1 x2 x3 x5 hc0 hc1 hc2 hc3 hb h2
          have NY2 := NY
          rcases H4.out with ⟨e0, hsm⟩ | ⟨e0, e1, hsm⟩ | ⟨e0, e1, e2, hsm⟩ | ⟨e0, e1, e2, hsm⟩
          · by_cases hpq : 0 < y.q
            · have HC := Lib.hid (show chgStep x (out, false) y = (out ++ [x] ++ [(⟨y.it, y.ba, y.pl, y.q⟩ : Hold)], true) by simp [chgStep, hsm, hpq, hbf])
              clear hsm
              go_wp2_with (first | (at_builtin; refine wpList_append_rd _ rfl (.tmp 23) (.tmp 25) _ rfl sl_Hold (w.heap.size + 1) _ _ _ out rfl (HO2.out.alloc _) _ _ _ [x] rfl rfl (rd_new (E := Hold.E) _ x _ (by simp)) (by simp only [List.length_cons, List.length_nil]; omega) (by simp; omega) ?_; intro A3 c3 w3 ho3 hgr3 hat3; have HO3 := Lib.hid ho3; have HX3 := Lib.hid (((HX2.out.alloc _).kept hgr3 NX.out)); have HY3 := Lib.hid (((HY2.out.alloc _).kept hgr3 NY2.out)); have HG3 := Lib.hid ((HG2.out.alloc _).app (HO2.out.alloc _) (by simp) hgr3); have NY3 := Lib.hid (ne_of_at hat3 NY2.out (by simp; omega)); clear ho3 hgr3 hat3; obtain ⟨x30, x31, x32, x33, x34, x35⟩ := Hold.bx HX3.out; obtain ⟨y30, y31, y32, y33, y34, y35⟩ := Hold.bx HY3.out; clear x20 x21 x22 x23 x24 x25 y20 y21 y22 y23 y24 y25) | (at_builtin; refine wpList_append_rd _ rfl (.tmp 55) (.tmp 57) _ rfl sl_Hold (w.heap.size + 1) _ _ _ _ rfl (Own.alloc HO3.out _) _ _ _ [⟨y.it, y.ba, y.pl, y.q⟩] rfl rfl (rd_new (E := Hold.E) _ ⟨y.it, y.ba, y.pl, y.q⟩ _ (by simp)) (by simp only [List.length_cons, List.length_nil, List.length_append]; omega) (le_al (HG3.out) (by simp)) ?_; intro A9 c9 w9 ho9 hgr9 hat9))
              go_roundw
              case rel =>
                go_light
                exact ⟨k + 1, by omega, by go_num, by rw [HS.out, HC.out], by rw [HS.out, HC.out]; exact ho9, ((HG3.out).alloc _).app (Own.alloc HO3.out _) (by simp) hgr9⟩
              case measure => go_light; simp [intOf]; omega
            · have HC := Lib.hid (show chgStep x (out, false) y = (out ++ [x], true) by simp [chgStep, hsm, hpq, hbf])
              clear hsm
              go_wp2_with ((at_builtin; refine wpList_append_rd _ rfl (.tmp 23) (.tmp 25) _ rfl sl_Hold (w.heap.size + 1) _ _ _ out rfl (HO2.out.alloc _) _ _ _ [x] rfl rfl (rd_new (E := Hold.E) _ x _ (by simp)) (by simp only [List.length_cons, List.length_nil]; omega) (by simp; omega) ?_; intro A3 c3 w3 ho3 hgr3 hat3; have HO3 := Lib.hid ho3; have HX3 := Lib.hid (((HX2.out.alloc _).kept hgr3 NX.out)); have HY3 := Lib.hid (((HY2.out.alloc _).kept hgr3 NY2.out)); have HG3 := Lib.hid ((HG2.out.alloc _).app (HO2.out.alloc _) (by simp) hgr3); have NY3 := Lib.hid (ne_of_at hat3 NY2.out (by simp; omega)); clear ho3 hgr3 hat3; obtain ⟨x30, x31, x32, x33, x34, x35⟩ := Hold.bx HX3.out; obtain ⟨y30, y31, y32, y33, y34, y35⟩ := Hold.bx HY3.out; clear x20 x21 x22 x23 x24 x25 y20 y21 y22 y23 y24 y25))
              go_roundw
              case rel =>
                go_light
                exact ⟨k + 1, by omega, by go_num, by rw [HS.out, HC.out], by rw [HS.out, HC.out]; exact HO3.out, HG3.out⟩
              case measure => go_light; simp [intOf]; omega
          · by_cases hpq : 0 < y.q
            · have HC := Lib.hid (show chgStep x (out, false) y = (out ++ [x] ++ [(⟨y.it, y.ba, y.pl, y.q⟩ : Hold)], true) by simp [chgStep, hsm, hpq, hbf])
              clear hsm
              go_wp2_with (first | (at_builtin; refine wpList_append_rd _ rfl (.tmp 23) (.tmp 25) _ rfl sl_Hold (w.heap.size + 1) _ _ _ out rfl (HO2.out.alloc _) _ _ _ [x] rfl rfl (rd_new (E := Hold.E) _ x _ (by simp)) (by simp only [List.length_cons, List.length_nil]; omega) (by simp; omega) ?_; intro A3 c3 w3 ho3 hgr3 hat3; have HO3 := Lib.hid ho3; have HX3 := Lib.hid (((HX2.out.alloc _).kept hgr3 NX.out)); have HY3 := Lib.hid (((HY2.out.alloc _).kept hgr3 NY2.out)); have HG3 := Lib.hid ((HG2.out.alloc _).app (HO2.out.alloc _) (by simp) hgr3); have NY3 := Lib.hid (ne_of_at hat3 NY2.out (by simp; omega)); clear ho3 hgr3 hat3; obtain ⟨x30, x31, x32, x33, x34, x35⟩ := Hold.bx HX3.out; obtain ⟨y30, y31, y32, y33, y34, y35⟩ := Hold.bx HY3.out; clear x20 x21 x22 x23 x24 x25 y20 y21 y22 y23 y24 y25) | (at_builtin; refine wpList_append_rd _ rfl (.tmp 55) (.tmp 57) _ rfl sl_Hold (w.heap.size + 1) _ _ _ _ rfl (Own.alloc HO3.out _) _ _ _ [⟨y.it, y.ba, y.pl, y.q⟩] rfl rfl (rd_new (E := Hold.E) _ ⟨y.it, y.ba, y.pl, y.q⟩ _ (by simp)) (by simp only [List.length_cons, List.length_nil, List.length_append]; omega) (le_al (HG3.out) (by simp)) ?_; intro A9 c9 w9 ho9 hgr9 hat9))
              go_roundw
              case rel =>
                go_light
                exact ⟨k + 1, by omega, by go_num, by rw [HS.out, HC.out], by rw [HS.out, HC.out]; exact ho9, ((HG3.out).alloc _).app (Own.alloc HO3.out _) (by simp) hgr9⟩
              case measure => go_light; simp [intOf]; omega
            · have HC := Lib.hid (show chgStep x (out, false) y = (out ++ [x], true) by simp [chgStep, hsm, hpq, hbf])
              clear hsm
              go_wp2_with ((at_builtin; refine wpList_append_rd _ rfl (.tmp 23) (.tmp 25) _ rfl sl_Hold (w.heap.size + 1) _ _ _ out rfl (HO2.out.alloc _) _ _ _ [x] rfl rfl (rd_new (E := Hold.E) _ x _ (by simp)) (by simp only [List.length_cons, List.length_nil]; omega) (by simp; omega) ?_; intro A3 c3 w3 ho3 hgr3 hat3; have HO3 := Lib.hid ho3; have HX3 := Lib.hid (((HX2.out.alloc _).kept hgr3 NX.out)); have HY3 := Lib.hid (((HY2.out.alloc _).kept hgr3 NY2.out)); have HG3 := Lib.hid ((HG2.out.alloc _).app (HO2.out.alloc _) (by simp) hgr3); have NY3 := Lib.hid (ne_of_at hat3 NY2.out (by simp; omega)); clear ho3 hgr3 hat3; obtain ⟨x30, x31, x32, x33, x34, x35⟩ := Hold.bx HX3.out; obtain ⟨y30, y31, y32, y33, y34, y35⟩ := Hold.bx HY3.out; clear x20 x21 x22 x23 x24 x25 y20 y21 y22 y23 y24 y25))
              go_roundw
              case rel =>
                go_light
                exact ⟨k + 1, by omega, by go_num, by rw [HS.out, HC.out], by rw [HS.out, HC.out]; exact HO3.out, HG3.out⟩
              case measure => go_light; simp [intOf]; omega
          · by_cases hpq : 0 < y.q
            · have HC := Lib.hid (show chgStep x (out, false) y = (out ++ [x] ++ [(⟨y.it, y.ba, y.pl, y.q⟩ : Hold)], true) by simp [chgStep, hsm, hpq, hbf])
              clear hsm
              go_wp2_with (first | (at_builtin; refine wpList_append_rd _ rfl (.tmp 23) (.tmp 25) _ rfl sl_Hold (w.heap.size + 1) _ _ _ out rfl (HO2.out.alloc _) _ _ _ [x] rfl rfl (rd_new (E := Hold.E) _ x _ (by simp)) (by simp only [List.length_cons, List.length_nil]; omega) (by simp; omega) ?_; intro A3 c3 w3 ho3 hgr3 hat3; have HO3 := Lib.hid ho3; have HX3 := Lib.hid (((HX2.out.alloc _).kept hgr3 NX.out)); have HY3 := Lib.hid (((HY2.out.alloc _).kept hgr3 NY2.out)); have HG3 := Lib.hid ((HG2.out.alloc _).app (HO2.out.alloc _) (by simp) hgr3); have NY3 := Lib.hid (ne_of_at hat3 NY2.out (by simp; omega)); clear ho3 hgr3 hat3; obtain ⟨x30, x31, x32, x33, x34, x35⟩ := Hold.bx HX3.out; obtain ⟨y30, y31, y32, y33, y34, y35⟩ := Hold.bx HY3.out; clear x20 x21 x22 x23 x24 x25 y20 y21 y22 y23 y24 y25) | (at_builtin; refine wpList_append_rd _ rfl (.tmp 55) (.tmp 57) _ rfl sl_Hold (w.heap.size + 1) _ _ _ _ rfl (Own.alloc HO3.out _) _ _ _ [⟨y.it, y.ba, y.pl, y.q⟩] rfl rfl (rd_new (E := Hold.E) _ ⟨y.it, y.ba, y.pl, y.q⟩ _ (by simp)) (by simp only [List.length_cons, List.length_nil, List.length_append]; omega) (le_al (HG3.out) (by simp)) ?_; intro A9 c9 w9 ho9 hgr9 hat9))
              go_roundw
              case rel =>
                go_light
                exact ⟨k + 1, by omega, by go_num, by rw [HS.out, HC.out], by rw [HS.out, HC.out]; exact ho9, ((HG3.out).alloc _).app (Own.alloc HO3.out _) (by simp) hgr9⟩
              case measure => go_light; simp [intOf]; omega
            · have HC := Lib.hid (show chgStep x (out, false) y = (out ++ [x], true) by simp [chgStep, hsm, hpq, hbf])
              clear hsm
              go_wp2_with ((at_builtin; refine wpList_append_rd _ rfl (.tmp 23) (.tmp 25) _ rfl sl_Hold (w.heap.size + 1) _ _ _ out rfl (HO2.out.alloc _) _ _ _ [x] rfl rfl (rd_new (E := Hold.E) _ x _ (by simp)) (by simp only [List.length_cons, List.length_nil]; omega) (by simp; omega) ?_; intro A3 c3 w3 ho3 hgr3 hat3; have HO3 := Lib.hid ho3; have HX3 := Lib.hid (((HX2.out.alloc _).kept hgr3 NX.out)); have HY3 := Lib.hid (((HY2.out.alloc _).kept hgr3 NY2.out)); have HG3 := Lib.hid ((HG2.out.alloc _).app (HO2.out.alloc _) (by simp) hgr3); have NY3 := Lib.hid (ne_of_at hat3 NY2.out (by simp; omega)); clear ho3 hgr3 hat3; obtain ⟨x30, x31, x32, x33, x34, x35⟩ := Hold.bx HX3.out; obtain ⟨y30, y31, y32, y33, y34, y35⟩ := Hold.bx HY3.out; clear x20 x21 x22 x23 x24 x25 y20 y21 y22 y23 y24 y25))
              go_roundw
              case rel =>
                go_light
                exact ⟨k + 1, by omega, by go_num, by rw [HS.out, HC.out], by rw [HS.out, HC.out]; exact HO3.out, HG3.out⟩
              case measure => go_light; simp [intOf]; omega
          · by_cases hpq : 0 < y.q + x.q
            · have HC := Lib.hid (show chgStep x (out, false) y = (out ++ [x] ++ [(⟨y.it, y.ba, y.pl, y.q + x.q⟩ : Hold)], true) by simp [chgStep, hsm, hpq, hbf])
              clear hsm
              go_wp2_with (first | (at_builtin; refine wpList_append_rd _ rfl (.tmp 23) (.tmp 25) _ rfl sl_Hold (w.heap.size + 1) _ _ _ out rfl (HO2.out.alloc _) _ _ _ [x] rfl rfl (rd_new (E := Hold.E) _ x _ (by simp)) (by simp only [List.length_cons, List.length_nil]; omega) (by simp; omega) ?_; intro A3 c3 w3 ho3 hgr3 hat3; have HO3 := Lib.hid ho3; have HX3 := Lib.hid (((HX2.out.alloc _).kept hgr3 NX.out)); have HY3 := Lib.hid (((HY2.out.alloc _).kept hgr3 NY2.out)); have HG3 := Lib.hid ((HG2.out.alloc _).app (HO2.out.alloc _) (by simp) hgr3); have NY3 := Lib.hid (ne_of_at hat3 NY2.out (by simp; omega)); clear ho3 hgr3 hat3; obtain ⟨x30, x31, x32, x33, x34, x35⟩ := Hold.bx HX3.out; obtain ⟨y30, y31, y32, y33, y34, y35⟩ := Hold.bx HY3.out; clear x20 x21 x22 x23 x24 x25 y20 y21 y22 y23 y24 y25) | (at_builtin; refine wpList_append_rd _ rfl (.tmp 55) (.tmp 57) _ rfl sl_Hold (w.heap.size + 1) _ _ _ _ rfl (Own.alloc (Own.far (HO3.out) (p := ⟨wr.heap.size, 3, none⟩) NY3.out _) _) _ _ _ [⟨y.it, y.ba, y.pl, y.q + x.q⟩] rfl rfl (rd_new (E := Hold.E) _ ⟨y.it, y.ba, y.pl, y.q + x.q⟩ _ (by simp)) (by simp only [List.length_cons, List.length_nil, List.length_append]; omega) (le_al ((HG3.out).setCell (p := ⟨wr.heap.size, 3, none⟩) HG.out.le _) (by simp)) ?_; intro A9 c9 w9 ho9 hgr9 hat9))
              go_roundw
              case rel =>
                go_light
                exact ⟨k + 1, by omega, by go_num, by rw [HS.out, HC.out], by rw [HS.out, HC.out]; exact ho9, (((HG3.out).setCell (p := ⟨wr.heap.size, 3, none⟩) HG.out.le _).alloc _).app (Own.alloc (Own.far (HO3.out) (p := ⟨wr.heap.size, 3, none⟩) NY3.out _) _) (by simp) hgr9⟩
              case measure => go_light; simp [intOf]; omega
            · have HC := Lib.hid (show chgStep x (out, false) y = (out ++ [x], true) by simp [chgStep, hsm, hpq, hbf])
              clear hsm
              go_wp2_with ((at_builtin; refine wpList_append_rd _ rfl (.tmp 23) (.tmp 25) _ rfl sl_Hold (w.heap.size + 1) _ _ _ out rfl (HO2.out.alloc _) _ _ _ [x] rfl rfl (rd_new (E := Hold.E) _ x _ (by simp)) (by simp only [List.length_cons, List.length_nil]; omega) (by simp; omega) ?_; intro A3 c3 w3 ho3 hgr3 hat3; have HO3 := Lib.hid ho3; have HX3 := Lib.hid (((HX2.out.alloc _).kept hgr3 NX.out)); have HY3 := Lib.hid (((HY2.out.alloc _).kept hgr3 NY2.out)); have HG3 := Lib.hid ((HG2.out.alloc _).app (HO2.out.alloc _) (by simp) hgr3); have NY3 := Lib.hid (ne_of_at hat3 NY2.out (by simp; omega)); clear ho3 hgr3 hat3; obtain ⟨x30, x31, x32, x33, x34, x35⟩ := Hold.bx HX3.out; obtain ⟨y30, y31, y32, y33, y34, y35⟩ := Hold.bx HY3.out; clear x20 x21 x22 x23 x24 x25 y20 y21 y22 y23 y24 y25))
              go_roundw
              case rel =>
                go_light
                exact ⟨k + 1, by omega, by go_num, by rw [HS.out, HC.out], by rw [HS.out, HC.out]; exact (Own.far (HO3.out) (p := ⟨wr.heap.size, 3, none⟩) NY3.out _), (HG3.out).setCell (p := ⟨wr.heap.size, 3, none⟩) HG.out.le _⟩
              case measure => go_light; simp [intOf]; omega
      · skip
        rcases H4.out with ⟨e0, hsm⟩ | ⟨e0, e1, hsm⟩ | ⟨e0, e1, e2, hsm⟩ | ⟨e0, e1, e2, hsm⟩
        · by_cases hpq : 0 < y.q
          · have HC := Lib.hid (show chgStep x (out, true) y = (out ++ [(⟨y.it, y.ba, y.pl, y.q⟩ : Hold)], true) by simp [chgStep, hsm, hpq])
            clear hsm
            go_wp2_with ((at_builtin; refine wpList_append_rd _ rfl (.tmp 55) (.tmp 57) _ rfl sl_Hold (w.heap.size + 1) _ _ _ _ rfl (Own.alloc (Own.alloc HO.out _) _) _ _ _ [⟨y.it, y.ba, y.pl, y.q⟩] rfl rfl (rd_new (E := Hold.E) _ ⟨y.it, y.ba, y.pl, y.q⟩ _ (by simp)) (by simp only [List.length_cons, List.length_nil, List.length_append]; omega) (le_al ((HG.out.alloc _)) (by simp)) ?_; intro A9 c9 w9 ho9 hgr9 hat9))
            go_roundw
            case rel =>
              go_light
              exact ⟨k + 1, by omega, by go_num, by rw [HS.out, HC.out], by rw [HS.out, HC.out]; exact ho9, (((HG.out.alloc _)).alloc _).app (Own.alloc (Own.alloc HO.out _) _) (by simp) hgr9⟩
            case measure => go_light; simp [intOf]; omega
          · have HC := Lib.hid (show chgStep x (out, true) y = (out, true) by simp [chgStep, hsm, hpq])
            clear hsm
            go_wp2_with (fail)
            go_roundw
            case rel =>
              go_light
              exact ⟨k + 1, by omega, by go_num, by rw [HS.out, HC.out], by rw [HS.out, HC.out]; exact (Own.alloc HO.out _), (HG.out.alloc _)⟩
            case measure => go_light; simp [intOf]; omega
        · by_cases hpq : 0 < y.q
          · have HC := Lib.hid (show chgStep x (out, true) y = (out ++ [(⟨y.it, y.ba, y.pl, y.q⟩ : Hold)], true) by simp [chgStep, hsm, hpq])
            clear hsm
            go_wp2_with ((at_builtin; refine wpList_append_rd _ rfl (.tmp 55) (.tmp 57) _ rfl sl_Hold (w.heap.size + 1) _ _ _ _ rfl (Own.alloc (Own.alloc HO.out _) _) _ _ _ [⟨y.it, y.ba, y.pl, y.q⟩] rfl rfl (rd_new (E := Hold.E) _ ⟨y.it, y.ba, y.pl, y.q⟩ _ (by simp)) (by simp only [List.length_cons, List.length_nil, List.length_append]; omega) (le_al ((HG.out.alloc _)) (by simp)) ?_; intro A9 c9 w9 ho9 hgr9 hat9))
            go_roundw
            case rel =>
              go_light
              exact ⟨k + 1, by omega, by go_num, by rw [HS.out, HC.out], by rw [HS.out, HC.out]; exact ho9, (((HG.out.alloc _)).alloc _).app (Own.alloc (Own.alloc HO.out _) _) (by simp) hgr9⟩
            case measure => go_light; simp [intOf]; omega
          · have HC := Lib.hid (show chgStep x (out, true) y = (out, true) by simp [chgStep, hsm, hpq])
            clear hsm
            go_wp2_with (fail)
            go_roundw
            case rel =>
              go_light
              exact ⟨k + 1, by omega, by go_num, by rw [HS.out, HC.out], by rw [HS.out, HC.out]; exact (Own.alloc HO.out _), (HG.out.alloc _)⟩
            case measure => go_light; simp [intOf]; omega
        · by_cases hpq : 0 < y.q
          · have HC := Lib.hid (show chgStep x (out, true) y = (out ++ [(⟨y.it, y.ba, y.pl, y.q⟩ : Hold)], true) by simp [chgStep, hsm, hpq])
            clear hsm
            go_wp2_with ((at_builtin; refine wpList_append_rd _ rfl (.tmp 55) (.tmp 57) _ rfl sl_Hold (w.heap.size + 1) _ _ _ _ rfl (Own.alloc (Own.alloc HO.out _) _) _ _ _ [⟨y.it, y.ba, y.pl, y.q⟩] rfl rfl (rd_new (E := Hold.E) _ ⟨y.it, y.ba, y.pl, y.q⟩ _ (by simp)) (by simp only [List.length_cons, List.length_nil, List.length_append]; omega) (le_al ((HG.out.alloc _)) (by simp)) ?_; intro A9 c9 w9 ho9 hgr9 hat9))
            go_roundw
            case rel =>
              go_light
              exact ⟨k + 1, by omega, by go_num, by rw [HS.out, HC.out], by rw [HS.out, HC.out]; exact ho9, (((HG.out.alloc _)).alloc _).app (Own.alloc (Own.alloc HO.out _) _) (by simp) hgr9⟩
            case measure => go_light; simp [intOf]; omega
          · have HC := Lib.hid (show chgStep x (out, true) y = (out, true) by simp [chgStep, hsm, hpq])
            clear hsm
            go_wp2_with (fail)
            go_roundw
            case rel =>
              go_light
              exact ⟨k + 1, by omega, by go_num, by rw [HS.out, HC.out], by rw [HS.out, HC.out]; exact (Own.alloc HO.out _), (HG.out.alloc _)⟩
            case measure => go_light; simp [intOf]; omega
        · by_cases hpq : 0 < y.q + x.q
          · have HC := Lib.hid (show chgStep x (out, true) y = (out ++ [(⟨y.it, y.ba, y.pl, y.q + x.q⟩ : Hold)], true) by simp [chgStep, hsm, hpq])
            clear hsm
            go_wp2_with ((at_builtin; refine wpList_append_rd _ rfl (.tmp 55) (.tmp 57) _ rfl sl_Hold (w.heap.size + 1) _ _ _ _ rfl (Own.alloc (Own.alloc HO.out _) _) _ _ _ [⟨y.it, y.ba, y.pl, y.q + x.q⟩] rfl rfl (rd_new (E := Hold.E) _ ⟨y.it, y.ba, y.pl, y.q + x.q⟩ _ (by simp)) (by simp only [List.length_cons, List.length_nil, List.length_append]; omega) (le_al (HG.out.alloc _) (by simp)) ?_; intro A9 c9 w9 ho9 hgr9 hat9))
            go_roundw
            case rel =>
              go_light
              exact ⟨k + 1, by omega, by go_num, by rw [HS.out, HC.out], by rw [HS.out, HC.out]; exact ho9, ((HG.out.alloc _).alloc _).app (Own.alloc (Own.alloc HO.out _) _) (by simp) hgr9⟩
            case measure => go_light; simp [intOf]; omega
          · have HC := Lib.hid (show chgStep x (out, true) y = (out, true) by simp [chgStep, hsm, hpq])
            clear hsm
            go_wp2_with (fail)
            go_roundw
            case rel =>
              go_light
              exact ⟨k + 1, by omega, by go_num, by rw [HS.out, HC.out], by rw [HS.out, HC.out]; exact (Own.alloc HO.out _), HG.out.alloc _⟩
            case measure => go_light; simp [intOf]; omega
    · obtain rfl : k = l.length := by omega
      generalize hs : chgTo x l l.length = s at *
      have HS := Lib.hid hs
      clear hs
      obtain ⟨out, put⟩ := s
      simp only at *
      obtain ⟨A0, c0, rfl⟩ := HO.out.slice
      clear hown hg
      cases put
      · have HC : Hid (chgF x l = out ++ [x]) := Lib.hid (by rw [HF.out]; simp)
        go_wp2_with (at_builtin; refine wpList_append_rd _ rfl (.tmp 62) (.tmp 64) _ rfl sl_Hold (w.heap.size + 1) _ _ _ _ rfl (HO.out.alloc _) _ _ _ [x] rfl rfl (rd_new (E := Hold.E) _ x _ (by simp)) (by simp only [List.length_cons, List.length_nil]; omega) (by simp; omega) ?_; intro A9 c9 w9 ho9 hgr9 hat9)
        go_ret
        go_light
        exact ⟨A9, c9, by rw [HC.out, List.length_append]; rfl, by rw [HC.out, List.length_append]; exact ho9.mono (by omega), ((Grew.refl _).alloc _).trans ((HG.out.alloc _).app (HO.out.alloc _) (by simp) hgr9)⟩
      · have HC : Hid (chgF x l = out) := Lib.hid (by rw [HF.out]; simp)
        go_wp2_with fail
        go_ret
        go_light
        exact ⟨A0, c0, by rw [HC.out]; rfl, by rw [HC.out]; exact HO.out.mono (by omega), ((Grew.refl _).alloc _).trans HG.out⟩
end Go.Proofs.Ytfbfhccgohmeiaa
