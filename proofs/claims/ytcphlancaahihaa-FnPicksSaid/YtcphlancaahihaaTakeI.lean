/- TakeLots of the program returns what a plain function returns. Conditions: none. -/
import Derived.Test.YtcphlancaahihaaTake
namespace Go.Proofs.Ytcphlancaahihaa
open Go.RowKit Go.ChangeShapes Go.WideShapes Go.Deep
set_option linter.unusedVariables false
set_option linter.unusedSimpArgs false

theorem areLotsE_impl {l : List Lt} {v : Bool} (hv : areL l = v) (A : Option Addr) (c : Nat) (w : World) (h : Rd Lt.E w A l) (hok : ∀ x ∈ l, x.Ok) (hn : l.length ≤ 4194304) :
    Calls Try.prog 12 #[.slice A l.length c] w fun e w' => e = .returned (.bool v) ∧ Grew w w' := hv ▸ areLots_impl l A c w h hok hn
theorem areLotsE_spec {l : List Lt} {v : Bool} (hv : areL l = v) (A : Option Addr) (c : Nat) (w : World) (h : Rd Lt.E w A l) (hok : ∀ x ∈ l, x.Ok) (hn : l.length ≤ 4194304) :
    Calls Try.prog 10 #[.slice A l.length c] w fun e w' => e = .returned (.bool v) ∧ Grew w w' := hv ▸ areLots_spec l A c w h hok hn
theorem inE {n a b : Int} {v : Bool} (hv : inB n a b = v) (w : World) : Calls Try.prog 38 #[.int .i64 n, .int .i64 a, .int .i64 b] w fun e w' => e = .returned (.bool v) ∧ w = w' := hv ▸ in_any n a b w
theorem l1InE {n a b : Int} {v : Bool} (hv : inB n a b = v) (w : World) : Calls Try.prog 35 #[.int .i64 n, .int .i64 a, .int .i64 b] w fun e w' => e = .returned (.bool v) ∧ w = w' := hv ▸ l1In_any n a b w
theorem findLotE {m : List Lt} {n : Nat} (hm : m.length = n) (A : Option Addr) (c : Nat) (b : ByteArray) (w : World) (h : Rd Lt.E w A m) (hn : n ≤ 4194304) :
    Calls Try.prog 39 #[.slice A n c, .string b] w fun e w' => e = .returned (.int .i64 (findF b m 0)) ∧ Grew w w' := by
  subst hm
  exact findLot_any m A c b w h hn
set_option maxRecDepth 100000 in
set_option maxHeartbeats 8000000 in
theorem takeLots_impl (l : List Lt) (A : Option Addr) (c : Nat) (ps : List Nd) (B : Option Addr) (d : Nat) (w : World) (h : Rd Lt.E w A l) (hok : ∀ x ∈ l, x.Ok) (hn : l.length ≤ 4194304) (h' : Rd Nd.E w B ps) (hm : ps.length ≤ 4194304) :
    Calls Try.prog 30 #[.slice A l.length c, .slice B ps.length d] w fun e w' => ∃ A' c', e = .returned (.tuple #[.slice A' (takeF l ps).1.length c', .bool (takeF l ps).2]) ∧ Own Lt.E 36 w' w.heap.size (.slice A' (takeF l ps).1.length c') (takeF l ps).1 ∧ Grew w w' := by
  have HL := Lib.hid h
  have HOK := Lib.hid hok
  have HP := Lib.hid h'
  clear h hok h'
  by_cases hcan : areL l = true ∧ (ps.length : Int) ≤ 20
  case neg =>
    have HF := Lib.hid (show takeF l ps = ([], false) by
      unfold takeF
      rw [if_neg]
      simp only [Bool.and_eq_true, decide_eq_true_eq]
      exact hcan)
    rcases (show areL l = false ∨ (areL l = true ∧ (20 : Int) < (ps.length : Int)) by
      cases h1 : areL l
      · exact .inl rfl
      · exact .inr ⟨rfl, by have : ¬ (ps.length : Int) ≤ 20 := fun h2 => hcan ⟨h1, h2⟩; omega⟩) with a1 | ⟨a1, a2⟩
    all_goals
      clear hcan
      go_enter Try.func30, Try.ntmps30
      go_wp2_with (go_at_call 12; refine (areLotsE_impl a1 _ _ _ HL.out HOK.out hn).mono ?_; rintro e w1 ⟨rfl, h1⟩)
      go_ret2
      go_light
      exact ⟨none, 0, by rw [HF.out]; rfl, by rw [HF.out]; exact Own.none_, h1⟩
  obtain ⟨a1, a2⟩ := hcan
  have HFS := Lib.hid (fun m (hm : takeTo l ps ps.length = some m) => (show takeF l ps = (m.filter posL, true) by
    unfold takeF; rw [if_pos (by simp only [Bool.and_eq_true, decide_eq_true_eq]; exact ⟨a1, a2⟩), hm]))
  have HFN := Lib.hid (fun (hm : takeTo l ps ps.length = none) => (show takeF l ps = ([], false) by
    unfold takeF; rw [if_pos (by simp only [Bool.and_eq_true, decide_eq_true_eq]; exact ⟨a1, a2⟩), hm]))
  have HLK := Lib.hid (lots_ok a1)
  have h20 := areL_len a1
  go_enter Try.func30, Try.ntmps30
  go_wp2_with (first
    | (go_at_call 12; refine (areLotsE_impl a1 _ _ _ HL.out HOK.out hn).mono ?_; rintro e w1 ⟨rfl, h1⟩)
    | (at_builtin; refine wpList_append_rd _ rfl (.tmp 21) (.tmp 22) _ rfl sl_Lt w.heap.size _ _ _ ([] : List Lt) rfl (Own.new_ h1.le) _ _ _ l rfl rfl (HL.out.grew (h1.alloc _)) (by simp; omega) (le_al h1 rfl) ?_; intro A3 c3 w3 ho3 hgr3 hat3))
  have HO3 := Lib.hid (show Own Lt.E 36 w3 w.heap.size (.slice A3 l.length c3) l by simpa using ho3)
  have HG3 := Lib.hid ((h1.alloc _).app (Own.new_ (E := Lt.E) h1.le) (Nat.le_refl _) hgr3)
  clear ho3 hgr3 hat3 h1 a1
  go_loopw [26] (fun i wr => ∃ (k : Nat) (m : List Lt), k ≤ ps.length ∧ i = .int .i64 k ∧ takeTo l ps k = some m ∧ LotsOk l.length m ∧ Own Lt.E 36 wr w.heap.size (.slice A3 l.length c3) m ∧ Grew w wr) (fun i _ => ps.length - (intOf i).toNat)
  case atStart => exact ⟨0, l, Nat.zero_le _, rfl, rfl, HLK.out, HO3.out, HG3.out⟩
  case round =>
    obtain ⟨k, m, hk, rfl, hto, hlk, hown, hg⟩ := hrel
    have HTO := Lib.hid hto
    have HLM := Lib.hid hlk
    have HO := Lib.hid hown
    have HG := Lib.hid hg
    have HML := Lib.hid hlk.1
    clear hto hlk hown hg
    by_cases hlt : k < ps.length
    · obtain ⟨p, hp⟩ : ∃ p, ps[k]? = some p := ⟨_, List.getElem?_eq_getElem hlt⟩
      obtain ⟨b, o, rfl, hb, hc⟩ := (HP.out.grew HG.out).at_ hlt
      obtain ⟨hc0, hc1⟩ := Nd.at_ hc hp
      have HST := Lib.hid (takeTo_step (l := l) hp)
      have HFD := Lib.hid (findF_lt (b := p.cd) m 0)
      have HOA := Lib.hid (HO.out.alloc (.cells #[.string p.cd, .int .i64 p.q] 56))
      have HGA := Lib.hid (HG.out.alloc (.cells #[.string p.cd, .int .i64 p.q] 56))
      clear hp hc
      have HXN := Lib.hid (fun (e : takeStep (some m) p = none) => takeTo_none (by rw [HST.out, HTO.out]; exact e))
      go_wp2_with fail
      refine (findLotE HML.out _ _ p.cd _ HOA.out.rd (by omega)).mono ?_; rintro e w4 ⟨rfl, h4⟩
      have HB4 := Lib.hid ((Bx.new_ (E := Nd.E) wr p 56).grew h4)
      have HO4 := Lib.hid (HOA.out.grew h4)
      have HG4 := Lib.hid (HGA.out.trans h4)
      have HB9 := Lib.hid (Nat.le_trans HG.out.le (Nat.le_refl wr.heap.size))
      clear h4 HOA HGA
      generalize wr.heap.size = bp at *
      obtain ⟨hp0, hp1, hps, hpf⟩ := Nd.bx HB4.out
      rcases HFD.out with hneg | ⟨i, x, hi, hx, hxb⟩
      · have HFX := Lib.hid (HFN.out (HXN.out (by simp only [takeStep, hneg]; rw [if_pos (by decide)])))
        rw [hneg]
        clear hneg
        go_wp2_with fail
        (refine wp_region_grow_lit (by kernel_rfl) (by kernel_rfl) ?_; repeat (any_goals (first | go_big_quiet_step (((go_at_call 38; exact quiet_same (in_any _ _ _ _)))) | quiet_step (((go_at_call 38; exact quiet_same (in_any _ _ _ _)))) | (refine wpQuiet_step (fun K hK => ?_); go_simp; split <;> rename_i hsp <;> (refine hK _ ?_; clear hK K) <;> (try first | simp only [hsp, decide_true, decide_false, Bool.not_true, Bool.not_false] | simp only [Int.not_le.2 hsp, decide_false, Bool.not_false] | simp only [Int.not_lt.2 hsp, decide_false, Bool.not_false] | simp only [Nat.not_le.2 hsp, decide_false, Bool.not_false] | simp only [Nat.not_lt.2 hsp, decide_false, Bool.not_false])))))
        all_goals (refine wpQuiet_nil ?_; intro waa haa)
        go_wp2_with fail
        go_ret2
        go_light
        exact ⟨none, 0, by rw [HFX.out]; rfl, by rw [HFX.out]; exact Own.none_, HG4.out.trans haa⟩
      · rw [Nat.zero_add] at hi
        have hgd : m.getD i lt0 = x := by simp [List.getD_eq_getElem?_getD, hx]
        have hil : i < l.length := by rw [← HML.out]; exact (List.getElem?_eq_some_iff.1 hx).1
        have HXQ := Lib.hid (HLM.out.2 x (List.mem_of_getElem? hx))
        have HSX := Lib.hid (show takeStep (some m) p = if inB p.q 1 x.q then some (m.set i ⟨x.ba, x.ex, x.q - p.q⟩) else none by
          simp only [takeStep, hi, Int.toNat_natCast, hgd]
          rw [if_neg (by omega)])
        rw [hi]
        obtain ⟨gb, db, hv, hgb, hgb2⟩ := HO4.out.addr (by rw [HML.out]; omega)
        simp only [HML.out, Value.slice.injEq, true_and] at hv
        obtain ⟨rfl, rfl⟩ := hv
        have hq0 := HO4.out.at_ (j := 2) hx rfl
        have hof := HO4.out.frozen
        simp only [Lt.E] at hq0
        have hi1 : (i : Int) < (l.length : Int) := by omega
        have hi0 : (0 : Int) ≤ (i : Int) := by omega
        have hineg : decide ((i : Int) < 0) = false := by simp
        have HX := Lib.hid hx
        clear hi hx hxb hgd hil
        cases hin : inB p.q 1 x.q
        · have HFX := Lib.hid (HFN.out (HXN.out (by rw [HSX.out, hin]; rfl)))
          have HIN := Lib.hid hin
          clear hin
          go_wp2_with fail
          (refine wp_region_grow_lit (by kernel_rfl) (by kernel_rfl) ?_; repeat (any_goals (first | go_big_quiet_step (((go_at_call 38; exact quiet_same (inE HIN.out _)))) | quiet_step (((go_at_call 38; exact quiet_same (inE HIN.out _)))) | (refine wpQuiet_step (fun K hK => ?_); go_simp; split <;> rename_i hsp <;> (refine hK _ ?_; clear hK K) <;> (try first | simp only [hsp, decide_true, decide_false, Bool.not_true, Bool.not_false] | simp only [Int.not_le.2 hsp, decide_false, Bool.not_false] | simp only [Int.not_lt.2 hsp, decide_false, Bool.not_false] | simp only [Nat.not_le.2 hsp, decide_false, Bool.not_false] | simp only [Nat.not_lt.2 hsp, decide_false, Bool.not_false])))))
          all_goals (refine wpQuiet_nil ?_; intro waa haa)
          go_wp2_with fail
          go_ret2
          go_light
          exact ⟨none, 0, by rw [HFX.out]; rfl, by rw [HFX.out]; exact Own.none_, HG4.out.trans haa⟩
        · have HIN := Lib.hid hin
          obtain ⟨hpq1, hpq2⟩ := inB_iff.1 hin
          obtain ⟨hxq1, hxq2⟩ := HXQ.out
          clear hin
          have hwq : IntKind.i64.wrap (x.q - p.q) = x.q - p.q := IntWalk.i64_in _ (by omega)
          go_wp2_with fail
          (refine wp_region_grow_lit (by kernel_rfl) (by kernel_rfl) ?_; repeat (any_goals (first | go_big_quiet_step (((go_at_call 38; exact quiet_same (inE HIN.out _)))) | quiet_step (((go_at_call 38; exact quiet_same (inE HIN.out _)))) | (refine wpQuiet_step (fun K hK => ?_); go_simp; split <;> rename_i hsp <;> (refine hK _ ?_; clear hK K) <;> (try first | simp only [hsp, decide_true, decide_false, Bool.not_true, Bool.not_false] | simp only [Int.not_le.2 hsp, decide_false, Bool.not_false] | simp only [Int.not_lt.2 hsp, decide_false, Bool.not_false] | simp only [Nat.not_le.2 hsp, decide_false, Bool.not_false] | simp only [Nat.not_lt.2 hsp, decide_false, Bool.not_false])))))
          all_goals (refine wpQuiet_nil ?_; intro waa haa)
          have HO5 := Lib.hid (HO4.out.grew haa)
          have HB5 := Lib.hid (HB4.out.grew haa)
          have HG5 := Lib.hid (HG4.out.trans haa)
          clear haa hq0 hof hp0 hp1 hps hpf
          have hq0 := HO5.out.at_ (j := 2) HX.out rfl
          have hof := HO5.out.frozen
          simp only [Lt.E] at hq0
          obtain ⟨hp0, hp1, hps, hpf⟩ := Nd.bx HB5.out
          go_wp2_with fail
          go_region
          have HS := Lib.hid (HO5.out.set_ (x' := ⟨x.ba, x.ex, x.q - p.q⟩) (j := 2) (u := .int .i64 (x.q - p.q)) HX.out rfl (by decide))
          have HGS := Lib.hid (HG5.out.setCell (p := ⟨gb, i * 3 + 2, none⟩) hgb (.int .i64 (x.q - p.q)))
          clear hq0 hof hp0 hp1 hps hpf
          go_wp2_with fail
          go_roundw
          case rel => go_light; exact ⟨k + 1, _, by omega, by go_num, by rw [HST.out, HTO.out, HSX.out, HIN.out]; rfl, HLM.out.set HX.out hpq1 hpq2, HS.out.drew, HGS.out.drew⟩
          case measure => go_light; simp [intOf]; omega
    · obtain rfl : k = ps.length := by omega
      have HFX := Lib.hid (HFS.out m HTO.out)
      have HFL := Lib.hid (List.length_filter_le posL m)
      obtain ⟨w5, rfl⟩ : ∃ w5 : World, w5 = wr := ⟨_, rfl⟩
      go_wp2_with fail
      go_loopw [10, 61] (fun v i wr => ∃ j : Nat, j ≤ l.length ∧ i = .int .i64 j ∧ Own Lt.E 36 wr w5.heap.size v ((m.take j).filter posL) ∧ Grew w5 wr) (fun _ i _ => l.length - (intOf i).toNat)
      case atStart => exact ⟨0, Nat.zero_le _, rfl, Own.new_ (Nat.le_refl _), (Grew.refl _).alloc _⟩
      case round =>
        obtain ⟨j, hj, rfl, hown, hg⟩ := hrel
        have HQ := Lib.hid hown
        have HG5 := Lib.hid hg
        clear hown hg
        obtain ⟨A6, c6, rfl⟩ := HQ.out.slice
        have hfl : ((m.take j).filter posL).length ≤ 20 := by have h1 := List.length_filter_le posL (m.take j); have h2 := HML.out; rw [List.length_take] at h1; omega
        by_cases hjl : j < l.length
        · obtain ⟨x, hx⟩ : ∃ x, m[j]? = some x := ⟨_, List.getElem?_eq_getElem (by rw [HML.out]; exact hjl)⟩
          obtain ⟨b, o, rfl, hb, hc⟩ := (HO.out.grew HG5.out).rd.at_ (k := j) (by rw [HML.out]; exact hjl)
          obtain ⟨hc0, hc1, hc2⟩ := Lt.at_ hc hx
          have HFT := Lib.hid (filter_take hx)
          clear hx hc
          have hj1 : (j : Int) < (l.length : Int) := by omega
          generalize (m.take j).filter posL = out at *
          by_cases hpos : 0 < x.q
          · have HFT2 := Lib.hid (HFT.out.trans (by rw [if_pos hpos]))
            go_wp2_with (at_builtin; refine wpList_append_rd _ rfl (.tmp 68) (.tmp 70) _ rfl sl_Lt w5.heap.size _ _ _ out rfl (Own.alloc (Own.alloc HQ.out _) _) _ _ _ [x] rfl rfl (rd_new (E := Lt.E) _ x _ (by simp)) (by simp only [List.length_cons, List.length_nil]; omega) (by have := HG5.out.le; simp; omega) ?_; intro A7 c7 w7 ho7 hgr7 hat7)
            go_roundw
            case rel => go_light; exact ⟨j + 1, by omega, by go_num, by rw [HFT2.out]; exact ho7, ((HG5.out.alloc _).alloc _).app (Own.alloc (Own.alloc HQ.out _) _) (Nat.le_refl _) hgr7⟩
            case measure => go_light; simp [intOf]; omega
          · have HFT2 := Lib.hid (HFT.out.trans (by rw [if_neg hpos, List.append_nil]))
            go_wp2_with fail
            go_roundw
            case rel => go_light; exact ⟨j + 1, by omega, by go_num, by rw [HFT2.out]; exact HQ.out.alloc _, HG5.out.alloc _⟩
            case measure => go_light; simp [intOf]; omega
        · obtain rfl : j = l.length := by omega
          have HTL := Lib.hid (show m.take l.length = m by rw [← HML.out, List.take_length])
          go_wp2_with fail
          go_ret2
          go_light
          refine ⟨A6, c6, by rw [HFX.out, HTL.out]; rfl, ?_, HG.out.trans HG5.out⟩
          rw [HFX.out]
          have := HQ.out.mono (b := w.heap.size) HG.out.le
          rwa [HTL.out] at this
end Go.Proofs.Ytcphlancaahihaa
