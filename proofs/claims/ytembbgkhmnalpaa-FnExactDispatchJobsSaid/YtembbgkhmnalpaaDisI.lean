/- DispatchJobs of the program returns what the plain function returns. Conditions: none. -/
import Derived.Test.YtembbgkhmnalpaaDisM
import Derived.Deep.RegionHeld3
import Derived.Maps.OwnOps
import Derived.Maps.Views
import Derived.StringKeys
namespace Go.Proofs.Ytembbgkhmnalpaa
open Go.RowKit Go.ChangeShapes Go.WideShapes Go.Deep Go.Maps
set_option linter.unusedVariables false
set_option linter.unusedSimpArgs false

theorem lawS : Keyed Try.prog 9 := string_keyed Try.underlying9
theorem zeroI (w : World) : (zeroValue 3).run Try.prog w = .ok (.int .i64 0) w := by kernel_rfl
/-- Block b is a map of at most n entries; at each text it gives f. -/
def MF (w : World) (b n : Nat) (f : ByteArray → Int) : Prop :=
  ∃ D : DataW Unit, w.ownsMap Try.prog 9 (plainElem Try.prog 3) b n D ∧ IsMap D ∧ ∀ s : ByteArray, D.atKey (.string s.data.toList) (.lit (.int .i64 0)) = .lit (.int .i64 (f s))
section
variable {w w' : World} {b n : Nat} {f : ByteArray → Int}
theorem MF.made (w : World) : MF (w.alloc (.map #[] 0)) w.heap.size 0 (fun _ => 0) := ⟨.map [], World.ownsMap_made _ _ _ _, isMap_empty, fun s => rfl⟩
theorem MF.lt (h : MF w b n f) : b < w.heap.size := by
  obtain ⟨D, h1, _⟩ := h
  exact h1.lt
theorem MF.kept {row : Option Nat} (h : MF w b n f) (k : w.grownBy w' row) (hne : row ≠ some b) : MF w' b n f := by
  obtain ⟨D, h1, h2, h3⟩ := h
  exact ⟨D, h1.kept k (fun e => hne e.symm), h2, h3⟩
theorem MF.grew (h : MF w b n f) (k : Grew w w') : MF w' b n f := h.kept (k.by_ none) (by simp)
theorem MF.look (h : MF w b n f) {s : ByteArray} (hs : s.size ≤ maxLen) : (Instr.lookup 77 (.map (some b)) (.string s) false).run Try.prog w = .ok (.int .i64 (f s)) w := by
  obtain ⟨D, h1, h2, h3⟩ := h
  obtain ⟨c, hrun, hat, _⟩ := h1.lookup_int lawS Try.underlying77 Try.underlying3 (zeroI _) (Go.WideMaps.keyOf_string_mk Try.underlying9 hs)
  rw [h3] at hat
  simp only [DataW.lit.injEq, Lit.int.injEq, true_and] at hat
  rw [hat]
  exact hrun
theorem MF.congr {g : ByteArray → Int} (h : MF w b n f) (e : ∀ s, f s = g s) : MF w b n g := by
  obtain ⟨D, h1, h2, h3⟩ := h
  exact ⟨D, h1, h2, fun s => by rw [← e]; exact h3 s⟩
end
theorem data_inj {a b : ByteArray} (h : a.data.toList = b.data.toList) : a = b := by
  obtain ⟨a⟩ := a
  obtain ⟨b⟩ := b
  have : a = b := Array.toList_inj.1 h
  rw [this]
theorem MF.put {w' : World} {b n : Nat} {f : ByteArray → Int} {k : ByteArray} {v : Int} {D : DataW Unit} (h2 : IsMap D) (h3 : ∀ s : ByteArray, D.atKey (.string s.data.toList) (.lit (.int .i64 0)) = .lit (.int .i64 (f s)))
    (h : w'.ownsMap Try.prog 9 (plainElem Try.prog 3) b (n + 1) (D.put (.string k.data.toList) (.lit (.int .i64 v)))) : MF w' b (n + 1) (fun s => if s = k then v else f s) := by
  refine ⟨_, h, h2.put _ _, fun s => ?_⟩
  show _ = DataW.lit (.int .i64 (if s = k then v else f s))
  by_cases e : s = k
  · subst e
    rw [if_pos rfl]
    exact atKey_put_same h2 (by first | exact trivial | rfl | simp [WideAt.IsKeyLit]) _ _
  · rw [if_neg e, atKey_put_other (fun e2 => e (data_inj (by injection e2)))]
    exact h3 s

theorem DM.by_ {w0 w w' : World} {s : DS} {vo vn vr : Value} {mb : Nat} (h : DM w0 w s vo vn vr) (k : w.grownBy w' (some mb)) (hm : w0.heap.size ≤ mb) (h1 : vo.ownBlock ≠ some mb) (h2 : vn.ownBlock ≠ some mb) (h3 : vr.ownBlock ≠ some mb) : DM w0 w' s vo vn vr :=
  ⟨h.g.grown k (fun j hj => by injection hj with hj; omega), h.oo.kept k (.inr h1), h.on.kept k (.inr h2), h.or.kept k (.inr h3), h.s1, h.s2⟩
theorem beforeE {J : List Jb} {nx : List Int} {a b : Nat} {x y : Jb} {s t : Nat} {r K1 K2 : Int} {n m : Nat} (h1 : keyF x s r = K1) (h2 : keyF y t r = K2) (hJ : J.length = n) (hX : nx.length = m) (A : Option Addr) (c : Nat) (B : Option Addr) (d : Nat) (w : World) (h : RdJ w A J) (h' : Rd IntS.E w B nx) (hn : J.length ≤ 6)
    (hx : J[a]? = some x) (hs : nx[a]? = some (s : Int)) (hk : StOk x.st) (hsl : s < x.st.length) (hy : J[b]? = some y) (ht : nx[b]? = some (t : Int)) (hk' : StOk y.st) (htl : t < y.st.length) :
    Calls Try.prog 46 #[.slice A n c, .slice B m d, .int .i64 r, .int .i64 a, .int .i64 b] w fun e w' => e = .returned (.bool (decide (K1 < K2))) ∧ Grew w w' := by
  subst hJ; subst hX; subst h1; subst h2
  exact before_any J A c nx B d a b x y s t r w h h' hn hx hs hk hsl hy ht hk' htl
set_option maxRecDepth 100000 in
set_option maxHeartbeats 16000000 in
theorem dispatch_impl (J : List Jb) (A : Option Addr) (c : Nat) (r : Int) (w : World) (h : RdJ w A J) (hs : JSm J) (hn : J.length ≤ 4194304) :
    Calls Try.prog 23 #[.slice A J.length c, .int .i64 r] w fun e w' => ∃ A' c', e = .returned (.tuple #[.slice A' (dispF J r).1.length c', .bool (dispF J r).2]) ∧ Own Slt.E 56 w' w.heap.size (.slice A' (dispF J r).1.length c') (dispF J r).1 ∧ Grew w w' := by
  have HL := Lib.hid h
  have HS := Lib.hid hs
  clear h hs
  cases ha : areJ J
  · have HF := Lib.hid (show dispF J r = ([], false) by simp [dispF, ha])
    have HA := Lib.hid ha
    clear ha
    go_enter Try.func23, Try.ntmps23
    go_wp2_with (first | (go_at_call 45; refine (areE_impl HA.out _ _ _ rfl _ HL.out HS.out hn).mono ?_; rintro e w1 ⟨rfl, h1⟩) | (go_at_call 36; refine (in_any _ _ _ _).mono ?_; rintro e w' ⟨rfl, rfl⟩))
    go_ret2
    go_light
    exact ⟨none, 0, by rw [HF.out]; rfl, by rw [HF.out]; exact Own.none_, h1⟩
  cases hr : inB r 0 2
  · have HF := Lib.hid (show dispF J r = ([], false) by simp [dispF, hr])
    have HA := Lib.hid ha
    clear ha
    go_enter Try.func23, Try.ntmps23
    go_wp2_with (first | (go_at_call 45; refine (areE_impl HA.out _ _ _ rfl _ HL.out HS.out hn).mono ?_; rintro e w1 ⟨rfl, h1⟩) | (go_at_call 36; refine (in_any _ _ _ _).mono ?_; rintro e w' ⟨rfl, rfl⟩))
    go_ret2
    go_light
    exact ⟨none, 0, by rw [HF.out]; rfl, by rw [HF.out]; exact Own.none_, h1⟩
  have HF := Lib.hid (show dispF J r = ((dsN J r (totJ J J.length)).out, true) by simp [dispF, ha, hr])
  have HA := Lib.hid ha
  have HJ := Lib.hid (areJ_at ha).2
  have hj6 : J.length ≤ 6 := (areJ_at ha).1
  have HT := Lib.hid (totJ_30 ha)
  obtain ⟨i1, hj0, hy0, hy1, hy2⟩ := info_parts info_int
  have hmm := @run_makeMap Try.prog
  clear ha hn
  go_enter Try.func23, Try.ntmps23
  go_wp2_with (first
    | (go_at_call 45; refine (areE_impl HA.out _ _ _ rfl _ HL.out HS.out (by omega)).mono ?_; rintro e w1 ⟨rfl, h1⟩)
    | (go_at_call 36; refine (in_any _ _ _ _).mono ?_; rintro e w' ⟨rfl, rfl⟩)
    | (at_make; refine wpList_make_full _ rfl _ _ _ rfl w1.heap.size 3 i1 _ 1 Try.underlying69 hj0 hy0 hy1 _ _ _ _ J.length rfl rfl rfl rfl (by rw [hy2]; omega) (by simp only [maxLen]; omega) (Nat.le_refl _) ?_; intro w2 hown2 hgr2))
  have HD0 := Lib.hid (show DM w (w2.alloc (.cells #[] 3)) ⟨List.replicate J.length 0, (J.map (·.rl)).take 0, []⟩ (.slice none 0 0) (.slice (some ⟨w1.heap.size, 0, none⟩) J.length J.length) (.slice (some ⟨w2.heap.size, 0, none⟩) 0 0) from by
    rw [zeros_cells] at hown2
    have hlt2 := (World.ownsRow.lt hown2 w1.heap.size rfl).2
    have hg : Grew w1 w2 := (Grew.refl _).grown hgr2 (by simp)
    have hw1 := h1.le
    refine ⟨(h1.trans hg).alloc _, Own.none_, ?_, Own.new_ (by omega), fun k e => by simp [Value.ownBlock] at e, fun k e => ?_⟩
    · have : Own IntS.E 3 w2 w1.heap.size (.slice (some ⟨w1.heap.size, 0, none⟩) J.length J.length) (List.replicate J.length (0 : Int)) := by
        unfold Own
        rw [List.length_replicate]
        exact hown2
      exact (this.mono (by omega)).alloc _
    · have : w1.heap.size = k := by simpa [Value.ownBlock] using e
      simp [Value.ownBlock]; omega)
  clear h1 hown2 hgr2 hj0 hy0 hy1 hy2
  go_loopw [7, 32] (fun v i wr => ∃ (k : Nat) (B : Option Addr) (d : Nat), k ≤ J.length ∧ i = .int .i64 k ∧ v = .slice B k d ∧ DM w wr ⟨List.replicate J.length 0, (J.map (·.rl)).take k, []⟩ (.slice none 0 0) (.slice (some ⟨w1.heap.size, 0, none⟩) J.length J.length) v) (fun _ i _ => J.length - (intOf i).toNat)
  case atStart => exact ⟨0, _, _, Nat.zero_le _, rfl, rfl, HD0.out⟩
  case round =>
    obtain ⟨k, B, d, hk, rfl, rfl, hdm⟩ := hrel
    have HD := Lib.hid hdm
    clear hdm HD0
    by_cases hlt : k < J.length
    · obtain ⟨x, hx⟩ : ∃ x, J[k]? = some x := ⟨_, List.getElem?_eq_getElem hlt⟩
      obtain ⟨b, o, X, cx, rfl, hb, ⟨hc0, hc1, hc2⟩, hrd⟩ := (HL.out.grew HD.out.g).at_ hx
      have HSX := Lib.hid (show (J.map (·.rl)).take (k + 1) = (J.map (·.rl)).take k ++ [x.rl] by rw [List.take_add_one]; simp [hx])
      have HKL := Lib.hid (show ((J.map (·.rl)).take k).length = k by rw [List.length_take, List.length_map]; omega)
      clear hx hrd
      obtain ⟨rl, du, st⟩ := x
      simp only at *
      have HDC := Lib.hid (HD.out.grew ((Grew.refl wr).alloc (.cells #[.int .i64 rl, .int .i64 du, .slice X st.length cx] 72)))
      go_wp2_with (at_builtin; refine wpList_append_rd _ rfl (.tmp 36) (.tmp 39) _ rfl sl_Int w.heap.size _ _ _ ((J.map (·.rl)).take k) rfl (HDC.out.or.alloc _) _ _ _ [rl] rfl rfl (rd_new (E := IntS.E) _ rl _ (by simp)) (by rw [HKL.out]; simp only [List.length_cons, List.length_nil]; omega) (by have := HD.out.g.le; simp; omega) ?_; intro A5 c5 w5 ho5 hgr5 hat5; have HD5 := Lib.hid ((HDC.out.grew ((Grew.refl _).alloc _)).appR ho5 hgr5 hat5 (Nat.le_refl _)); clear ho5 hgr5 hat5)
      go_roundw
      case rel => go_light; exact ⟨k + 1, A5, c5, by omega, by go_num, rfl, by rw [HSX.out]; exact HD5.out⟩
      case measure => go_light; simp [intOf]; omega
    · obtain rfl : k = J.length := by omega
      have HD1 := Lib.hid (show DM w wr (dsN J r 0) (.slice none 0 0) (.slice (some ⟨w1.heap.size, 0, none⟩) J.length J.length) (.slice B J.length d) from by
        have := HD.out
        rw [List.take_of_length_le (by simp)] at this
        exact this)
      clear HD
      go_wp2_with fail
      have hwl := HD1.out.g.le
      have HDM2 := Lib.hid (show DM w ((wr.alloc (.map #[] 0)).alloc (.cells #[] 56)) (dsN J r 0) (.slice (some ⟨wr.heap.size + 1, 0, none⟩) 0 0) (.slice (some ⟨w1.heap.size, 0, none⟩) J.length J.length) (.slice B J.length d) from by
        have g := ((Grew.refl wr).alloc (.map #[] 0)).alloc (.cells #[] 56)
        refine ⟨HD1.out.g.trans g, ?_, HD1.out.on.grew g, HD1.out.or.grew g, fun k e => ?_, HD1.out.s2⟩
        · have := Own.new_ (E := Slt.E) (t := 56) (w := wr.alloc (.map #[] 0)) (base := w.heap.size) (by simp; omega)
          simp only [World.size_alloc] at this
          exact this
        · have : wr.heap.size + 1 = k := by simpa [Value.ownBlock] using e
          exact ⟨fun e2 => by have := (HD1.out.on.block k e2).2; omega, fun e2 => by have := (HD1.out.or.block k e2).2; omega⟩)
      have HMF := Lib.hid (show MF ((wr.alloc (.map #[] 0)).alloc (.cells #[] 56)) wr.heap.size 0 (fun ce => frF (dsN J r 0).out ce) from ((MF.made wr).grew ((Grew.refl _).alloc _)).congr (fun s => rfl))
      have HMS := Lib.hid (show (Value.slice (some ⟨w1.heap.size, 0, none⟩) J.length J.length).ownBlock ≠ some wr.heap.size ∧ (Value.slice B J.length d).ownBlock ≠ some wr.heap.size from
        ⟨fun e => by have := (HD1.out.on.block _ e).2; omega, fun e => by have := (HD1.out.or.block _ e).2; omega⟩)
      have HMW := Lib.hid (show w.heap.size ≤ wr.heap.size from hwl)
      obtain ⟨gn, hgn⟩ : ∃ g, g = w1.heap.size := ⟨_, rfl⟩
      rw [← hgn] at HDM2 HMS ⊢
      have HMO := Lib.hid (show (Value.slice (some ⟨wr.heap.size + 1, 0, none⟩) 0 0).ownBlock ≠ some wr.heap.size by simp [Value.ownBlock])
      obtain ⟨mb, hmb⟩ : ∃ g, g = wr.heap.size := ⟨_, rfl⟩
      rw [← hmb] at HMF HMS HMW HMO
      have HMB := Lib.hid hmb
      clear hgn hmb HD1 hmm hwl
      rw [← HMB.out]
      rw [← HMB.out] at HDM2
      go_loopw [11] (fun vo wr => ∃ m : Nat, m ≤ totJ J J.length ∧ DOk J m (dsN J r m) ∧ DM w wr (dsN J r m) vo (.slice (some ⟨gn, 0, none⟩) J.length J.length) (.slice B J.length d) ∧ MF wr mb m (fun ce => frF (dsN J r m).out ce) ∧ vo.ownBlock ≠ some mb) (fun vo _ => match vo with | .slice _ n _ => totJ J J.length - n | _ => 0)
      case atStart => exact ⟨0, Nat.zero_le _, ds0_ok HA.out, HDM2.out, HMF.out, HMO.out⟩
      case round =>
        obtain ⟨m, hm, hok, hdm, hmf, hmo⟩ := hrel
        have HOK := Lib.hid hok
        have HD := Lib.hid hdm
        have HMF2 := Lib.hid hmf
        have HMO2 := Lib.hid hmo
        obtain ⟨BO, dO, rfl⟩ := hdm.oo.slice
        clear hok hdm hmf hmo HDM2 HMF HMO HMB
        have HM := Lib.hid hm
        have hm30 : m ≤ 30 := Nat.le_trans hm HT.out
        clear hm
        obtain ⟨s, hs⟩ : ∃ s, s = dsN J r m := ⟨_, rfl⟩
        have HSD := Lib.hid hs
        rw [← hs] at HOK HD HMF2 HMO2 ⊢
        clear hs
        have HLO := Lib.hid HOK.out.lo
        obtain ⟨wt, hwt⟩ : ∃ x : World, x = wr := ⟨_, rfl⟩
        subst hwt
        go_wp2_with fail
        go_loopw [12, 13, 46] (fun bv sv i wr2 => ∃ k : Nat, k ≤ J.length ∧ i = .int .i64 k ∧ bv = .int .i64 (bstT J r s k).1 ∧ sv = .int .i64 (bstT J r s k).2 ∧ Grew wt wr2) (fun _ _ i _ => J.length - (intOf i).toNat)
        case atStart => exact ⟨0, Nat.zero_le _, rfl, rfl, rfl, Grew.refl _⟩
        case round =>
          obtain ⟨k, hk, rfl, rfl, rfl, hg⟩ := hrel
          have HG := Lib.hid hg
          clear hg
          have HBK := Lib.hid (bst_ok (r := r) HOK.out k hk)
          have HBS := Lib.hid (show bstT J r s (k + 1) = if doneB J s k = true then bstT J r s k else if btr J r s k (bstT J r s k) = true then ((k : Int), tF J s k) else bstT J r s k from rfl)
          by_cases hlt : k < J.length
          · obtain ⟨x, hx⟩ : ∃ x, J[k]? = some x := ⟨_, List.getElem?_eq_getElem hlt⟩
            obtain ⟨b, o, X, cx, rfl, hb, ⟨hc0, hc1, hc2⟩, hrd⟩ := (HL.out.grew (HD.out.g.trans HG.out)).at_ hx
            have HRX := Lib.hid hrd
            have hnk := HOK.out.nx_ hlt
            have ex : J.getD k jb0 = x := by simp [List.getD_eq_getElem?_getD, hx]
            rw [ex] at hnk
            have HSO := Lib.hid (HJ.out k x hx).2.2
            have HXS := Lib.hid (HS.out x (List.mem_of_getElem? hx)).2
            have hx5 := HSO.out.1
            obtain ⟨n, hnn⟩ : ∃ n, n = nxF s k := ⟨_, rfl⟩
            rw [← hnn] at hnk
            have hnl := hnk.2
            have HNK := Lib.hid hnk.1
            have hi1 : (k : Int) < (J.length : Int) := by omega
            have HX := Lib.hid hx
            have HNN := Lib.hid hnn
            have HDB := Lib.hid (show doneB J s k = decide (n = x.st.length) by unfold doneB; rw [ex, ← hnn])
            have HEX := Lib.hid ex
            clear hx hrd hnk hnn ex
            obtain ⟨bst, hbst⟩ : ∃ b, b = bstT J r s k := ⟨_, rfl⟩
            rw [← hbst] at HBK HBS ⊢
            have HBST := Lib.hid hbst
            clear hbst
            obtain ⟨bi, bt⟩ := bst
            have hbl := HBK.out.lo
            have hbt := HBK.out.tb
            simp only at hbl hbt
            obtain ⟨wj, hwj⟩ : ∃ x', x' = wr.alloc (.cells #[.int .i64 x.rl, .int .i64 x.du, .slice X x.st.length cx] 72) := ⟨_, rfl⟩
            have HGJ := Lib.hid (show Grew wr wj from hwj ▸ (Grew.refl wr).alloc _)
            have HDJ := Lib.hid (HD.out.grew (HG.out.trans HGJ.out))
            have hcn := IntS.cell_ HDJ.out.on HNK.out
            have hj0 : wj.cell? ⟨wr.heap.size, 0, none⟩ = some (.int .i64 x.rl) := by rw [hwj]; simp
            have hj1 : wj.cell? ⟨wr.heap.size, 1, none⟩ = some (.int .i64 x.du) := by rw [hwj]; simp
            have hj2 : wj.cell? ⟨wr.heap.size, 2, none⟩ = some (.slice X x.st.length cx) := by rw [hwj]; simp
            have HJB := Lib.hid (show wr.heap.size < wj.heap.size by rw [hwj]; simp)
            by_cases hdn : n = x.st.length
            · have hde : ((n : Int) == (x.st.length : Int)) = true := by simp [hdn]
              have HE := Lib.hid (show bstT J r s (k + 1) = (bi, bt) by rw [HBS.out, HDB.out]; simp [hdn])
              clear hdn
              go_wp2_with fail
              rw [← hwj]
              clear hwj
              go_region
              go_wp2_with fail
              go_roundw
              case rel => go_light; exact ⟨k + 1, by omega, by go_num, by rw [HE.out], by rw [HE.out], (HG.out.trans HGJ.out).drew⟩
              case measure => go_light; simp [intOf]; omega
            · have hde : ((n : Int) == (x.st.length : Int)) = false := by simp; omega
              have hnl2 : n < x.st.length := by omega
              have HND := Lib.hid (show doneB J s k = false by rw [HDB.out]; simp [hdn])
              clear hdn hnl
              go_wp2_with fail
              rw [← hwj]
              clear hwj
              go_region
              obtain ⟨y, hy⟩ : ∃ y, x.st[n]? = some y := ⟨_, List.getElem?_eq_getElem hnl2⟩
              have hyw : wkF J s k = y := by unfold wkF; rw [HEX.out, ← HNN.out]; simp [List.getD_eq_getElem?_getD, hy]
              obtain ⟨v, hv, hv0, hv1⟩ := HOK.out.rb k hlt
              have HTV := Lib.hid (show tF J s k = max v (frF s.out y.ce) by unfold tF; rw [hyw]; simp [List.getD_eq_getElem?_getD, hv])
              have hfb := HOK.out.fr_ y.ce
              have hys := HXS.out y (List.mem_of_getElem? hy)
              obtain ⟨wd, hwd⟩ : ∃ q, q = wj.drew := ⟨_, rfl⟩
              have HGW := Lib.hid (show Grew wr wd from hwd ▸ HGJ.out.drew)
              have HDW := Lib.hid (HD.out.grew (HG.out.trans HGW.out))
              have hcn' := IntS.cell_ HDW.out.on HNK.out
              obtain ⟨br, orr, rfl, hcr⟩ := Int.cell0 HDW.out.or.rd hv
              have hj2' : wd.cell? ⟨wr.heap.size, 2, none⟩ = some (.slice X x.st.length cx) := by rw [hwd]; exact hj2
              obtain ⟨b3, o3, rfl, hb3, hcw⟩ := (HRX.out.grew HGW.out).at_ hnl2
              obtain ⟨hw0, hw1⟩ := Wk.at_ hcw hy
              have hlk := (HMF2.out.grew (HG.out.trans HGW.out.drew)).look hys
              have hi3 : (n : Int) < (x.st.length : Int) := by omega
              obtain ⟨f, hf⟩ : ∃ f, f = frF s.out y.ce := ⟨_, rfl⟩
              rw [← hf] at HTV hfb hlk
              obtain ⟨t, ht⟩ : ∃ t, t = tF J s k := ⟨_, rfl⟩
              have HTM := Lib.hid (show t = max v f from ht.trans HTV.out)
              have htb := HOK.out.t_ hlt
              have HBTR := Lib.hid (show btr J r s k (bi, bt) = (decide (bi < 0) || (decide (t < bt) || (decide (t = bt) && decide (kyF J r s k < kyF J r s bi.toNat)))) by rw [ht]; rfl)
              have HBS2 := Lib.hid (show bstT J r s (k + 1) = if btr J r s k (bi, bt) = true then ((k : Int), t) else (bi, bt) by rw [HBS.out, HND.out, ht]; rfl)
              rw [← ht] at htb
              have HCE := Lib.hid hcr
              clear hy hyw hv hcw hf ht hcn hj0 hj1 hj2
              go_wp2_with fail
              rw [← hwd]
              clear hwd
              have hcase : (v < f ∧ t = f) ∨ (¬ v < f ∧ t = v) := by have := HTM.out; omega
              have HVB := Lib.hid hv1
              clear hv1
              rcases hcase with ⟨hvf, rfl⟩ | ⟨hvf, rfl⟩
              all_goals
                have hmx := HTM.out.symm
                have HGG := Lib.hid (HG.out.trans HGW.out.drew)
                by_cases hb0 : bi < 0
                · have hd0 : decide (bi < 0) = true := decide_eq_true hb0
                  have hb0' : ¬ (0 ≤ bi) := by omega
                  have HE := Lib.hid (show bstT J r s (k + 1) = ((k : Int), t) by rw [HBS2.out, HBTR.out, hd0]; rfl)
                  go_region
                  go_wp2_with fail
                  go_roundw
                  case rel => go_light; exact ⟨k + 1, by omega, by go_num, by rw [HE.out], by rw [HE.out], HGG.out⟩
                  case measure => go_light; simp [intOf]; omega
                have hd0 : decide (bi < 0) = false := decide_eq_false hb0
                have hb0' : 0 ≤ bi := by omega
                by_cases hb1 : t < bt
                · have hd1 : decide (t < bt) = true := decide_eq_true hb1
                  have hb1' : ¬ (bt ≤ t) := by omega
                  have HE := Lib.hid (show bstT J r s (k + 1) = ((k : Int), t) by rw [HBS2.out, HBTR.out, hd0, hd1]; rfl)
                  go_region
                  go_wp2_with fail
                  go_roundw
                  case rel => go_light; exact ⟨k + 1, by omega, by go_num, by rw [HE.out], by rw [HE.out], HGG.out⟩
                  case measure => go_light; simp [intOf]; omega
                have hd1 : decide (t < bt) = false := decide_eq_false hb1
                have hb1' : bt ≤ t := by omega
                by_cases hb2 : t = bt
                · obtain rfl : bt = t := hb2.symm
                  obtain ⟨p, rfl⟩ := Int.eq_ofNat_of_zero_le (show 0 ≤ bi by omega)
                  have hpl : p < J.length := by omega
                  have hpd := (HBK.out.nd (by simp only; omega)).1
                  simp only [Int.toNat_natCast] at hpd
                  obtain ⟨z, hz⟩ : ∃ z, J[p]? = some z := ⟨_, List.getElem?_eq_getElem hpl⟩
                  have ez : J.getD p jb0 = z := by simp [List.getD_eq_getElem?_getD, hz]
                  have hnb := not_done HOK.out hpl hpd
                  rw [ez] at hnb
                  have hnp := (HOK.out.nx_ hpl).1
                  obtain ⟨nb, hnbe⟩ : ∃ q, q = nxF s p := ⟨_, rfl⟩
                  rw [← hnbe] at hnb hnp
                  obtain ⟨K1, hK1⟩ : ∃ v, v = kyF J r s k := ⟨_, rfl⟩
                  obtain ⟨K2, hK2⟩ : ∃ v, v = kyF J r s p := ⟨_, rfl⟩
                  have HKX := Lib.hid (show keyF x n r = K1 by rw [hK1]; unfold kyF; rw [HEX.out, ← HNN.out])
                  have HKZ := Lib.hid (show keyF z nb r = K2 by rw [hK2]; unfold kyF; rw [ez, ← hnbe])
                  have HBTR2 := Lib.hid (show btr J r s k ((p : Int), bt) = decide (K1 < K2) by rw [HBTR.out, hd0, hd1, hK1, hK2]; simp)
                  have HZO := Lib.hid (HJ.out p z hz).2.2
                  have HZ := Lib.hid hz
                  have HNP := Lib.hid hnp
                  have HDE := Lib.hid (HD.out.grew HGG.out)
                  clear hz ez hnp hnbe hK1 hK2 hpd
                  cases hdk : decide (K1 < K2)
                  all_goals
                    have HDK := Lib.hid hdk
                    go_region
                    go_wp2_with (go_at_call 46; refine (beforeE HKX.out HKZ.out rfl HOK.out.ln _ _ _ _ _ (HL.out.grew HDE.out.g) HDE.out.on.rd hj6 HX.out HNK.out HSO.out hnl2 HZ.out HNP.out HZO.out hnb).mono ?_; rintro e w4 ⟨rfl, h4⟩)
                  · have HE := Lib.hid (show bstT J r s (k + 1) = ((p : Int), bt) by rw [HBS2.out, HBTR2.out, HDK.out]; rfl)
                    go_roundw
                    case rel => go_light; exact ⟨k + 1, by omega, by go_num, by rw [HE.out], by rw [HE.out], HGG.out.trans h4⟩
                    case measure => go_light; simp [intOf]; omega
                  · have HE := Lib.hid (show bstT J r s (k + 1) = ((k : Int), bt) by rw [HBS2.out, HBTR2.out, HDK.out]; rfl)
                    go_roundw
                    case rel => go_light; exact ⟨k + 1, by omega, by go_num, by rw [HE.out], by rw [HE.out], HGG.out.trans h4⟩
                    case measure => go_light; simp [intOf]; omega
                · have hd2 : (t == bt) = false := by simpa using hb2
                  have HE := Lib.hid (show bstT J r s (k + 1) = (bi, bt) by rw [HBS2.out, HBTR.out, hd0, hd1, decide_eq_false hb2]; rfl)
                  go_region
                  go_wp2_with fail
                  go_roundw
                  case rel => go_light; exact ⟨k + 1, by omega, by go_num, by rw [HE.out], by rw [HE.out], HGG.out⟩
                  case measure => go_light; simp [intOf]; omega
          · obtain rfl : k = J.length := by omega
            have HBS2 := Lib.hid HBS.out
            obtain ⟨bst, hbst⟩ : ∃ b, b = bstT J r s J.length := ⟨_, rfl⟩
            rw [← hbst] at HBK ⊢
            have HBST := Lib.hid hbst
            clear hbst HBS HBS2
            obtain ⟨bi, bt⟩ := bst
            have hbl := HBK.out.lo
            have hbt := HBK.out.tb
            simp only at hbl hbt
            have HDG := Lib.hid (HD.out.grew HG.out)
            by_cases hb0 : bi < 0
            · have hd0 : decide (bi < 0) = true := decide_eq_true hb0
              have HFE := Lib.hid (show dispF J r = (s.out, true) by
                rw [HF.out, disp_end (m := m) (by rw [← HSD.out, ← HBST.out]; exact hb0) HM.out, ← HSD.out])
              go_wp2_with fail
              go_ret2
              go_light
              exact ⟨BO, dO, by rw [HFE.out]; rfl, by rw [HFE.out]; exact HDG.out.oo, HDG.out.g⟩
            · have hd0 : decide (bi < 0) = false := decide_eq_false hb0
              obtain ⟨p, rfl⟩ := Int.eq_ofNat_of_zero_le (show 0 ≤ bi by omega)
              have hpl : p < J.length := by omega
              have hpd := HBK.out.nd (by simp only; omega)
              simp only [Int.toNat_natCast] at hpd
              have HPO := put_ok HA.out HOK.out hpl hpd.1 hbt
              have HTP := Lib.hid hpd.2
              have HSTEP := Lib.hid (show dsN J r (m + 1) = putF J s p bt by
                show stepF J r (dsN J r m) = _
                rw [← HSD.out]
                unfold stepF
                rw [← HBST.out, if_neg hb0]
                rfl)
              have HPK := Lib.hid HPO.1
              have HMT := Lib.hid HPO.2
              obtain ⟨z, hz⟩ : ∃ z, J[p]? = some z := ⟨_, List.getElem?_eq_getElem hpl⟩
              have ez : J.getD p jb0 = z := by simp [List.getD_eq_getElem?_getD, hz]
              have hnb := not_done HOK.out hpl hpd.1
              rw [ez] at hnb
              have hnp := (HOK.out.nx_ hpl).1
              obtain ⟨y, hy⟩ : ∃ y, z.st[nxF s p]? = some y := ⟨_, List.getElem?_eq_getElem hnb⟩
              have hyw : wkF J s p = y := by unfold wkF; rw [ez]; simp [List.getD_eq_getElem?_getD, hy]
              have HPUT := Lib.hid (show putF J s p bt = ⟨s.nx.set p ((nxF s p : Int) + 1), s.rd.set p (bt + y.mi), s.out ++ [⟨(p : Int), (nxF s p : Int), y.ce, bt, bt + y.mi⟩]⟩ by unfold putF; rw [hyw])
              obtain ⟨nb, hnbe⟩ : ∃ q, q = nxF s p := ⟨_, rfl⟩
              rw [← hnbe] at hnb hnp hy HPUT
              obtain ⟨v, hv, hv0, hv1⟩ := HOK.out.rb p hpl
              have HYB := Lib.hid ((HJ.out p z hz).2.2.2 nb y hy)
              have HYS := Lib.hid ((HS.out z (List.mem_of_getElem? hz)).2 y (List.mem_of_getElem? hy))
              have HYW := Lib.hid hyw
              have hyb1 := HYB.out.1
              have hyb2 := HYB.out.2.1
              obtain ⟨b, o, Z2, cz2, rfl, hb2, ⟨hc0, hc1, hc2⟩, hrz⟩ := (HL.out.grew HDG.out.g).at_ hz
              obtain ⟨b3, o3, rfl, hb3, hcw⟩ := hrz.at_ hnb
              obtain ⟨hw0, hw1⟩ := Wk.at_ hcw hy
              have hcn := IntS.cell_ HDG.out.on hnp
              have hgnl := (HDG.out.on.block gn rfl).2
              have HNP := Lib.hid hnp
              have HV := Lib.hid hv
              have hp1 : (p : Int) < (J.length : Int) := by omega
              have hp2 : (0 : Int) ≤ (p : Int) := by omega
              have hp3 : (nb : Int) < (z.st.length : Int) := by omega
              have hz5 := (HJ.out p z hz).2.2.1
              have hnb5 : nb ≤ 5 := by omega
              have HLOm := HLO.out
              have hol : s.out.length ≤ 30 := by omega
              clear hz ez hyw hnbe hv hnp hrz hcw hy HLOm hpd HPO
              obtain ⟨ce, mi⟩ := y
              simp only at *
              go_wp2_with fail
              go_region
              have HGA := Lib.hid (show Grew wr (wr.alloc (.cells #[.string ce, .int .i64 mi] 74)).drew from ((Grew.refl wr).alloc _).drew)
              have HDA := Lib.hid (HDG.out.grew HGA.out)
              have HMA := Lib.hid (HMF2.out.grew (HG.out.trans HGA.out))
              have hwc0 : (wr.alloc (.cells #[.string ce, .int .i64 mi] 74)).drew.cell? ⟨wr.heap.size, 0, none⟩ = some (.string ce) := by simp
              have hwc1 : (wr.alloc (.cells #[.string ce, .int .i64 mi] 74)).drew.cell? ⟨wr.heap.size, 1, none⟩ = some (.int .i64 mi) := by simp
              have hbw : wr.heap.size < (wr.alloc (.cells #[.string ce, .int .i64 mi] 74)).drew.heap.size := by simp
              obtain ⟨gr, dr, hvr, hgr0, hgr1⟩ := HDA.out.or.addr (by rw [HOK.out.lr]; omega)
              rw [HOK.out.lr] at hvr
              simp only [Value.slice.injEq, true_and] at hvr
              obtain ⟨rfl, rfl⟩ := hvr
              have HOB := Lib.hid (show (Value.slice BO s.out.length dO).ownBlock ≠ some wr.heap.size from fun e => by have := (HDG.out.oo.block _ e).2; omega)
              have hbgn : gn ≠ wr.heap.size := by omega
              have hbgr : gr ≠ wr.heap.size := by have := (HDG.out.or.block gr rfl).2; omega
              obtain ⟨bw, hbwe⟩ : ∃ x, x = wr.heap.size := ⟨_, rfl⟩
              rw [← hbwe] at hwc0 hwc1 hbw HOB hbgn hbgr ⊢
              clear hbwe hc0 hc1 hc2 hw0 hw1 HDG HBK
              have hcnA := IntS.cell_ HDA.out.on HNP.out
              have hgnA := (HDA.out.on.block gn rfl).2
              generalize (wr.alloc (.cells #[.string ce, .int .i64 mi] 74)).drew = wa at *
              have HON := Lib.hid (show (Value.slice BO s.out.length dO).ownBlock ≠ some gn from fun e => (HDA.out.s1 gn e).1 rfl)
              have hwrap : IntKind.i64.wrap (bt + mi) = bt + mi := IntWalk.i64_in _ (by omega)
              have HCS := Lib.hid (fun (w' : World) (hw : Grew wa w') => show w'.cell? ⟨gn, p, none⟩ = some (.int .i64 nb) ∧ w'.cell? ⟨bw, 0, none⟩ = some (.string ce) ∧ w'.cell? ⟨bw, 1, none⟩ = some (.int .i64 mi) from
                ⟨(hw.rules.1 _ _ hgnA).trans hcnA, (hw.rules.1 _ _ hbw).trans hwc0, (hw.rules.1 _ _ hbw).trans hwc1⟩)
              have HGD := Lib.hid ((Grew.refl wa).drew)
              have hsA := HDA.out.g.le
              go_wp2_with fail
              go_region_held3 (fun w' => w'.cell? ⟨gn, p, none⟩ = some (.int .i64 nb) ∧ w'.cell? ⟨bw, 0, none⟩ = some (.string ce) ∧ w'.cell? ⟨bw, 1, none⟩ = some (.int .i64 mi))
                (first | (with_reducible exact HCS.out _ HGD.out) | (with_reducible exact HCS.out _ (HGD.out.alloc _)) | (with_reducible exact HCS.out _ ((Grew.refl _).alloc _).drew) | (with_reducible exact HC5.out))
                ((refine step_append_rd _ rfl (.tmp 112) (.tmp 126) _ rfl sl_Slt w.heap.size _ _ _ s.out rfl (Own.alloc HDA.out.oo _) _ _ _ [⟨(p : Int), (nb : Int), ce, bt, bt + mi⟩] rfl rfl (rd_new (E := Slt.E) _ ⟨(p : Int), (nb : Int), ce, bt, bt + mi⟩ _ rfl) (by simp only [List.length_cons, List.length_nil]; omega) (by simp; omega) ?_; intro A5 c5 w5 ho5 hgr5 hat5; have HD5 := Lib.hid ((HDA.out.grew (((Grew.refl _).alloc _).drew)).app ho5 hgr5 hat5 (Nat.le_refl _)); have HM5 := Lib.hid ((HMA.out.grew (((Grew.refl _).alloc _).drew)).kept hgr5 HMO2.out); have HMO5 := Lib.hid (ne_of_at hat5 HMO2.out (by have := HMA.out.lt; simp; omega)); have HC5 := Lib.hid (show w5.cell? ⟨gn, p, none⟩ = some (.int .i64 nb) ∧ w5.cell? ⟨bw, 0, none⟩ = some (.string ce) ∧ w5.cell? ⟨bw, 1, none⟩ = some (.int .i64 mi) from ⟨(World.cell?_of_block (hgr5.block gn (by simp; omega) (Ne.symm HON.out))).trans (HCS.out _ (((Grew.refl _).alloc _).drew)).1, (World.cell?_of_block (hgr5.block bw (by simp; omega) (Ne.symm HOB.out))).trans (HCS.out _ (((Grew.refl _).alloc _).drew)).2.1, (World.cell?_of_block (hgr5.block bw (by simp; omega) (Ne.symm HOB.out))).trans (HCS.out _ (((Grew.refl _).alloc _).drew)).2.2⟩); clear ho5 hgr5 hat5))
              have HMF5 := Lib.hid HM5.out
              have hw50 := HC5.out.2.1
              have hw51 := HC5.out.2.2
              have hn5 := IntS.cell_ HD5.out.on HNP.out
              have hfn5 := HD5.out.on.frozen
              have HD6 := Lib.hid (HD5.out.setN (y := (nb : Int) + 1) HNP.out)
              have hr6 := IntS.cell_ HD6.out.or HV.out
              have hfr6 := HD6.out.or.frozen
              have HD7 := Lib.hid (HD6.out.setR (y := bt + mi) HV.out)
              have HMF7 := Lib.hid ((HMF5.out.kept (set_by2 _ gn p (.int .i64 ((nb : Int) + 1))) (fun e => HMS.out.1 (by rw [← e]; rfl))).kept (set_by2 _ gr p (.int .i64 (bt + mi))) (fun e => HMS.out.2 (by rw [← e]; rfl)))
              obtain ⟨D, hown, hD1, hD2⟩ := HMF7.out
              have HHD := Lib.hid hown
              have HH1 := Lib.hid hD1
              have HH2 := Lib.hid hD2
              clear hown hD1 hD2
              have hw61 : (w5.setCell ⟨gn, p, none⟩ (.int .i64 ((nb : Int) + 1))).cell? ⟨bw, 1, none⟩ = some (.int .i64 mi) := by
                rw [World.cell?_setCell_other _ _ _ _ (by intro e; simp only [Addr.mk.injEq] at e; omega)]; exact hw51
              have hw70 : ((w5.setCell ⟨gn, p, none⟩ (.int .i64 ((nb : Int) + 1))).setCell ⟨gr, p, none⟩ (.int .i64 (bt + mi))).cell? ⟨bw, 0, none⟩ = some (.string ce) := by
                rw [World.cell?_setCell_other _ _ _ _ (by intro e; simp only [Addr.mk.injEq] at e; omega), World.cell?_setCell_other _ _ _ _ (by intro e; simp only [Addr.mk.injEq] at e; omega)]; exact hw50
              have hw71 : ((w5.setCell ⟨gn, p, none⟩ (.int .i64 ((nb : Int) + 1))).setCell ⟨gr, p, none⟩ (.int .i64 (bt + mi))).cell? ⟨bw, 1, none⟩ = some (.int .i64 mi) := by
                rw [World.cell?_setCell_other _ _ _ _ (by intro e; simp only [Addr.mk.injEq] at e; omega)]; exact hw61
              have HFB := Lib.hid (show frF s.out ce ≤ bt by
                have h1 := HTP.out
                unfold tF at h1
                rw [HYW.out] at h1
                simp only at h1
                omega)
              have HFR := Lib.hid (show ∀ q : ByteArray, (if q = ce then bt + mi else frF s.out q) = frF (s.out ++ [(⟨(p : Int), (nb : Int), ce, bt, bt + mi⟩ : Slt)]) q from fun q => by
                rw [frF_snoc]
                by_cases e : q = ce
                · subst e
                  rw [if_pos rfl, if_pos rfl]
                  have := HFB.out
                  simp only
                  omega
                · rw [if_neg e, if_neg (fun e2 => e (ba_inj.1 e2).symm)])
              have hwf : (Lit.int .i64 (bt + mi)).wf = true := by
                unfold Lit.wf
                simp only [Bool.and_eq_true, decide_eq_true_eq]
                exact (show -9223372036854775808 ≤ bt + mi ∧ bt + mi ≤ 9223372036854775807 from by omega)
              have HML := Lib.hid (show m < maxLen by unfold maxLen; omega)
              have HPE := Lib.hid (plainElem_int (H := Unit) Try.underlying3 hwf)
              have HKY := Lib.hid (Go.WideMaps.keyOf_string_mk Try.underlying9 HYS.out)
              clear hwf
              go_wp2_with (at_mapUpdate; refine wpList_mapUpdate_own _ rfl _ _ _ 77 rfl 9 3 lawS Try.underlying77 _ mb m D rfl HHD.out HML.out _ _ _ rfl rfl HKY.out _ [] HPE.out ?_; intro w8 hown8 hgr8; have HMF8 := Lib.hid (MF.put (f := fun q => frF s.out q) HH1.out HH2.out hown8); have HD8 := Lib.hid (HD7.out.by_ hgr8 HMW.out HMO5.out HMS.out.1 HMS.out.2); clear hown8 hgr8; (try simp only [Act.put]))
              (try simp only [Act.put])
              go_roundw
              case rel =>
                go_light
                exact ⟨m + 1, HMT.out, by rw [HSTEP.out]; exact HPK.out, by rw [HSTEP.out, HPUT.out]; exact HD8.out, by rw [HSTEP.out, HPUT.out]; exact HMF8.out.congr HFR.out, HMO5.out⟩
              case measure => go_light; (try simp); have := HMT.out; have := HLO.out; omega
end Go.Proofs.Ytembbgkhmnalpaa
