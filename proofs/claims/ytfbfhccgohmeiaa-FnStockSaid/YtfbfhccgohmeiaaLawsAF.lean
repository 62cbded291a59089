/- The law on stock: in every place there is what the moves brought into it less what they took out of it. Conditions: none. -/
import Derived.Test.YtfbfhccgohmeiaaStkP
import Derived.Deep.RegionHeld3
namespace Go.Proofs.Ytfbfhccgohmeiaa
open Go.ChangeShapes Go.WideShapes Go.ChangeAt Go.RowKit Go.Joins Go.Deep
set_option linter.unusedVariables false
set_option linter.unusedSimpArgs false

theorem big_any (l : List UInt8) (A : Option Addr) (c : Nat) (w : World) (hl : l.length ≤ maxLen) :
    Calls Try.prog 37 #[.slice A l.length c] w fun e w' => e = .returned (.bool (decide ((1048576 : Int) < l.length))) ∧ w = w' := by
  unfold maxLen at hl
  go_enter Try.func37, Try.ntmps37
  go_wp2_with fail
  go_ret
  go_light
  exact ⟨rfl, rfl⟩

theorem applyN_impl {l m : List Hold} {v : Bool} {x : Mv} (he : applyF l x = (m, v)) (A : Option Addr) (n c : Nat) (w : World) (h : Rd Hold.E w A l) (hok : ∀ y ∈ l, y.Ok) (hn : l.length ≤ 4194304) (hx : x.Ok) (hl : n = l.length) :
    Calls Try.prog 29 #[.slice A n c, x.v] w fun e w' => ∃ A' c', e = .returned (.tuple #[.slice A' m.length c', .bool v]) ∧ Own Hold.E 60 w' w.heap.size (.slice A' m.length c') m ∧ Grew w w' := by
  subst hl
  have := applyMove_impl l A c x w h hok hn hx
  rw [he] at this
  exact this
theorem areHE_spec {l : List Hold} {v : Bool} (hv : areH l = v) (A : Option Addr) (c : Nat) (w : World) (h : Rd Hold.E w A l) (hok : ∀ x ∈ l, x.Ok) (hn : l.length ≤ 4194304) :
    Calls Try.prog 17 #[.slice A l.length c] w fun e w' => e = .returned (.bool v) ∧ Grew w w' := hv ▸ areHoldings_spec l A c w h hok hn
theorem qtyE_impl {l : List Hold} {it ba pl : ByteArray} {v : Int} (hv : qtyF l it ba pl = v) (A : Option Addr) (c : Nat) (w : World) (h : Rd Hold.E w A l) (hok : ∀ x ∈ l, x.Ok) (hn : l.length ≤ 4194304) :
    Calls Try.prog 22 #[.slice A l.length c, .string it, .string ba, .string pl] w fun e w' => e = .returned (.int .i64 v) ∧ Grew w w' := hv ▸ quantityAt_impl l A c it ba pl w h hok hn
theorem flowE_impl {l : List Mv} {it ba pl : ByteArray} {v : Int} (hv : flowF l it ba pl = v) (A : Option Addr) (c : Nat) (w : World) (h : Rd Mv.E w A l) (hok : ∀ x ∈ l, x.Ok) (hn : l.length ≤ 4194304) :
    Calls Try.prog 26 #[.slice A l.length c, .string it, .string ba, .string pl] w fun e w' => e = .returned (.int .i64 v) ∧ Grew w w' := hv ▸ flowIn_impl l A c it ba pl w h hok hn
theorem Mv.at6 {w : World} {b o : Nat} {l : List Mv} (hc : ∀ i x, l[i]? = some x → ∀ j u, (Mv.E.enc x)[j]? = some u → w.cell? ⟨b, o + i * Mv.E.sz + j, none⟩ = some u) {k : Nat} {x : Mv} (hx : l[k]? = some x) :
    w.cell? ⟨b, o + k * 6, none⟩ = some (.int .i64 x.day) ∧ w.cell? ⟨b, o + k * 6 + 1, none⟩ = some (.string x.it) ∧ w.cell? ⟨b, o + k * 6 + 2, none⟩ = some (.string x.ba) ∧ w.cell? ⟨b, o + k * 6 + 3, none⟩ = some (.string x.ff) ∧ w.cell? ⟨b, o + k * 6 + 4, none⟩ = some (.string x.tt) ∧ w.cell? ⟨b, o + k * 6 + 5, none⟩ = some (.int .i64 x.q) := Mv.at_ hc hx

namespace fnStock
set_option maxRecDepth 100000 in
set_option maxHeartbeats 40000000 in
theorem walk (w : World) (code : List UInt8) (A : Option Addr) (c : Nat) (r_code : Rd Byt.E w A code) (q_code : code.length ≤ c ∧ c ≤ maxLen) :
    Calls Try.prog 10 #[.slice A code.length c] w fun e w' => e = .returned (.bool true) ∧ Grew w w' := by
  have hql := q_code
  by_cases hbig : (1048576 : Int) < (code.length : Int)
  · have hb : decide ((1048576 : Int) < (code.length : Int)) = true := by simpa using hbig
    go_enter Try.func10, Try.ntmps10
    go_wp2_with fail
    refine (big_any code _ _ _ (by omega)).mono ?_; rintro e w0 ⟨rfl, rfl⟩
    go_wp2_with fail
    go_ret
    go_light
    exact ⟨rfl, Grew.refl _⟩
  have hb : decide ((1048576 : Int) < (code.length : Int)) = false := by simpa using hbig
  have HR := Lib.hid r_code
  clear r_code
  go_enter Try.func10, Try.ntmps10
  go_wp2_with fail
  refine (big_any code _ _ _ (by omega)).mono ?_; rintro e w0 ⟨rfl, rfl⟩
  go_wp2_with fail
  refine (drawMoves_any _ _ _ code HR.out (by omega)).mono ?_; rintro e w1 ⟨l, B, d, rfl, h14, hok, hrd, hg1⟩
  have HL := Lib.hid hrd
  have HOK := Lib.hid (fun x hx => (hok x hx).ok)
  have HG1 := Lib.hid hg1
  clear hrd hok hg1
  have HAM := Lib.hid (am_ok l)
  have HDL := Lib.hid (doneTo_len l)
  have HAO := Lib.hid (fun k (hk : k ≤ l.length) => amTo_ok HOK.out k hk)
  have HST := Lib.hid (stock_at l h14)
  have HAF := Lib.hid (show amF l = amTo l l.length by simp only [amF]; rw [if_pos (by omega)])
  have HA60 := Lib.hid (amTo_len l)
  go_wp2_with fail
  refine (applyMoves_impl l _ _ _ HL.out HOK.out (by omega)).mono ?_; rintro e w2 ⟨Ah, ch, rfl, ho2, hg2⟩
  rw [HAF.out] at ho2 ⊢
  obtain ⟨hs, hhs⟩ : ∃ hs, hs = (amTo l l.length).1 := ⟨_, rfl⟩
  obtain ⟨nf, hnf⟩ : ∃ nf, nf = (amTo l l.length).2 := ⟨_, rfl⟩
  have HHS := Lib.hid hhs
  have HNF := Lib.hid hnf
  rw [← hhs] at ho2 ⊢
  rw [← hnf]
  have HH2 := Lib.hid ho2.rd
  have HG2 := Lib.hid hg2
  clear ho2 hg2 hhs hnf
  go_wp2_with fail
  have HD3 := Lib.hid (show Own Mv.E 26 ((w2.alloc (.cells #[] 26)).alloc (.cells #[] 60)) w2.heap.size (.slice (some ⟨w2.heap.size, 0, none⟩) 0 0) ([] : List Mv) from (Own.new_ (Nat.le_refl _)).alloc _)
  have HA3 := Lib.hid (show Own Hold.E 60 ((w2.alloc (.cells #[] 26)).alloc (.cells #[] 60)) w2.heap.size (.slice (some ⟨w2.heap.size + 1, 0, none⟩) 0 0) ([] : List Hold) from by
    have := Own.new_ (E := Hold.E) (t := 60) (w := w2.alloc (.cells #[] 26)) (base := w2.heap.size) (by simp)
    simpa using this)
  have HS3 := Lib.hid (show Sep (.slice (some ⟨w2.heap.size, 0, none⟩) 0 0) (.slice (some ⟨w2.heap.size + 1, 0, none⟩) 0 0) from by
    intro k h1 h2
    simp only [Value.ownBlock, Option.some.injEq] at h1 h2
    omega)
  go_loopw [6, 7, 8] (fun v u i wr => ∃ (k : Nat) (D T : Option Addr) (c1 c2 : Nat), k ≤ l.length ∧ i = .int .i64 k ∧ v = .slice D (doneTo l k).length c1 ∧ u = .slice T (amTo l k).1.length c2 ∧ Own Mv.E 26 wr w2.heap.size v (doneTo l k) ∧ Own Hold.E 60 wr w2.heap.size u (amTo l k).1 ∧ Sep v u ∧ Grew w2 wr) (fun _ _ i _ => l.length - (intOf i).toNat)
  case atStart => exact ⟨0, _, _, _, _, Nat.zero_le _, rfl, rfl, rfl, HD3.out, HA3.out, HS3.out, ((Grew.refl _).alloc _).alloc _⟩
  case round =>
    obtain ⟨k, D, T, c1, c2, hk, rfl, rfl, rfl, hod, hoa, hsp, hgr⟩ := hrel
    have HD := Lib.hid hod
    have HA := Lib.hid hoa
    have HS := Lib.hid hsp
    have HG := Lib.hid hgr
    clear hod hoa hsp hgr HD3 HA3 HS3
    by_cases hlt : k < l.length
    · obtain ⟨x, hx⟩ : ∃ x, l[k]? = some x := ⟨_, List.getElem?_eq_getElem hlt⟩
      have hgd : l.getD k mv0 = x := by simp [List.getD_eq_getElem?_getD, hx]
      obtain ⟨ad, hap⟩ : ∃ ad, applyF (amTo l k).1 x = ad := ⟨_, rfl⟩
      obtain ⟨am, is⟩ := ad
      have HAP := Lib.hid hap
      have HXO := Lib.hid (HOK.out x (List.mem_of_getElem? hx))
      have HE1 := Lib.hid (show amTo l (k + 1) = if is then (am, (amTo l k).2) else ((amTo l k).1, (amTo l k).2 + 1) by simp only [amTo]; rw [hgd, hap])
      have HE2 := Lib.hid (show doneTo l (k + 1) = if is then doneTo l k ++ [x] else doneTo l k by simp only [doneTo]; rw [hgd, hap])
      have HAE := Lib.hid (show is = false → am = [] from fun h => by
        have := congrArg Prod.fst hap
        have h2 := congrArg Prod.snd hap
        simp only [applyF] at this h2
        rw [h] at h2
        rw [h2] at this
        simpa using this.symm)
      have HKA := Lib.hid (show (amTo l k).1.length ≤ 60 from HA60.out k)
      have hdk := HDL.out k
      obtain ⟨s, hs_⟩ : ∃ s, s = (amTo l k).1 := ⟨_, rfl⟩
      obtain ⟨dn, hdn⟩ : ∃ dn, dn = doneTo l k := ⟨_, rfl⟩
      have HSO := Lib.hid (show ∀ y ∈ s, y.Ok from hs_ ▸ HAO.out k hk)
      rw [← hs_] at HA HAP HKA HE1 HS ⊢
      rw [← hdn] at HD HE2 hdk HS ⊢
      obtain ⟨bl, o, rfl, hbl, hc⟩ := (HL.out.grew (HG2.out.trans HG.out)).at_ hlt
      obtain ⟨x0, x1, x2, x3, x4, x5⟩ := Mv.at6 hc hx
      have HBX := Lib.hid (And.intro x0 (And.intro x1 (And.intro x2 (And.intro x3 (And.intro x4 x5)))))
      have HLL := Lib.hid hbl
      have hsl : s.length ≤ 60 := HKA.out
      clear hx hgd hap hc hs_ hdn
      go_wp2_with fail
      refine (applyN_impl HAP.out _ _ _ _ HA.out.rd HSO.out (by omega) HXO.out rfl).mono ?_; rintro e w4 ⟨A4, c4, rfl, ho4, hg4⟩
      have HO4 := Lib.hid ho4
      have HD4 := Lib.hid (HD.out.grew hg4)
      have HA4 := Lib.hid (HA.out.grew hg4)
      have HG4 := Lib.hid (HG.out.trans hg4)
      have HBX4 := Lib.hid hg4
      clear ho4 hg4 x0 x1 x2 x3 x4 x5 HA
      cases is
      · obtain rfl := HAE.out rfl
        have HE3 := Lib.hid (show amTo l (k + 1) = (s, (amTo l k).2 + 1) from HE1.out)
        have HE4 := Lib.hid (show doneTo l (k + 1) = dn from HE2.out)
        go_wp2_with fail
        go_roundw
        case rel => go_light; exact ⟨k + 1, D, T, c1, c2, by omega, by go_num, by rw [HE4.out], by rw [HE3.out], by rw [HE4.out]; exact HD4.out, by rw [HE3.out]; exact HA4.out, HS.out, HG4.out⟩
        case measure => go_light; simp [intOf]; omega
      · have HE3 := Lib.hid (show amTo l (k + 1) = (am, (amTo l k).2) from HE1.out)
        have HE4 := Lib.hid (show doneTo l (k + 1) = dn ++ [x] from HE2.out)
        obtain ⟨x0, x1, x2, x3, x4, x5⟩ := HBX.out
        have x0 := (HBX4.out.rules.1 bl _ HLL.out).trans x0
        have x1 := (HBX4.out.rules.1 bl _ HLL.out).trans x1
        have x2 := (HBX4.out.rules.1 bl _ HLL.out).trans x2
        have x3 := (HBX4.out.rules.1 bl _ HLL.out).trans x3
        have x4 := (HBX4.out.rules.1 bl _ HLL.out).trans x4
        have x5 := (HBX4.out.rules.1 bl _ HLL.out).trans x5
        have HS4 := Lib.hid (Sep.low (n := wr.heap.size) (fun j hj => (HD.out.block j hj).2) (fun j hj => (HO4.out.block j hj).1))
        have HO4b := Lib.hid (HO4.out.mono (b := w2.heap.size) HG.out.le)
        go_wp2_with (at_builtin; refine wpList_append_rd _ rfl (.tmp 44) (.tmp 49) _ rfl sl_Mv w2.heap.size _ _ _ dn rfl (Own.alloc HD4.out _) _ _ _ [x] rfl rfl (rd_new (E := Mv.E) _ x _ rfl) (by simp only [List.length_cons, List.length_nil]; omega) (le_al HG4.out rfl) ?_; intro A5 c5 w5 ho5 hgr5 hat5; have HD5 := Lib.hid ho5; have HA5 := Lib.hid ((HO4b.out.alloc _).kept hgr5 HS4.out.symm.ne); have HS5 := Lib.hid (HS4.out.at_ (n := w4.heap.size + 1) (fun kk hkk => Nat.lt_succ_of_lt (HO4.out.block kk hkk).2) (by simpa using hat5)); have HG5 := Lib.hid ((HG4.out.alloc _).app (Own.alloc HD4.out _) (Nat.le_refl _) hgr5); clear ho5 hgr5 hat5)
        go_roundw
        case rel => go_light; exact ⟨k + 1, A5, A4, c5, c4, by omega, by go_num, by rw [HE4.out]; simp, by rw [HE3.out], by rw [HE4.out]; exact HD5.out, by rw [HE3.out]; exact HA5.out, HS5.out, HG5.out⟩
        case measure => go_light; simp [intOf]; omega
    · obtain rfl : k = l.length := by omega
      rw [← HHS.out] at HA ⊢
      have hdk := HDL.out l.length
      have HNN := Lib.hid (show nf = (l.length : Int) - ((doneTo l l.length).length : Int) from by rw [HNF.out, (HAM.out l.length).n])
      obtain ⟨dn, hdn⟩ : ∃ dn, dn = doneTo l l.length := ⟨_, rfl⟩
      have HAR := Lib.hid (show areH hs = true from HHS.out ▸ (HAM.out l.length).are)
      have HHO := Lib.hid (show ∀ y ∈ hs, y.Ok from HHS.out ▸ HAO.out l.length (Nat.le_refl _))
      have hh60 : hs.length ≤ 60 := HHS.out ▸ HA60.out l.length
      rw [← hdn] at HD HNN hdk ⊢
      have HST2 := Lib.hid (show ∀ it ba pl : ByteArray, (pl.toList = [] → qtyF hs it ba pl = 0) ∧ (pl.toList ≠ [] → qtyF hs it ba pl = flowF dn it ba pl ∧ 0 ≤ flowF dn it ba pl) from fun it ba pl => by rw [HHS.out, hdn]; exact HST.out it ba pl)
      have HDO := Lib.hid (show ∀ x ∈ dn, x.Ok from fun x hx => by
        rw [hdn] at hx
        have : ∀ k, k ≤ l.length → ∀ x ∈ doneTo l k, x ∈ l := by
          intro k
          induction k with
          | zero => intro _ x hx; simp [doneTo] at hx
          | succ k ih =>
            intro hk x hx
            simp only [doneTo] at hx
            split at hx
            · rcases List.mem_append.1 hx with hx | hx
              · exact ih (by omega) x hx
              · obtain rfl : x = l.getD k mv0 := by simpa using hx
                rw [List.getD_eq_getElem?_getD, List.getElem?_eq_getElem (by omega)]
                exact List.getElem_mem _
            · exact ih (by omega) x hx
        exact HOK.out x (this l.length (Nat.le_refl _) x hx))
      have hnn : nf = (l.length : Int) - (dn.length : Int) := HNN.out
      subst hnn
      have HDR := Lib.hid HD.out.rd
      have HHR := Lib.hid (HH2.out.grew HG.out)
      clear hdn HA HS HD
      have hw1 : IntKind.i64.wrap ((l.length : Int) - (dn.length : Int)) = (l.length : Int) - (dn.length : Int) := by rw [IntKind.wrap_i64]; omega
      go_wp2_with fail
      refine (areHE_spec HAR.out _ _ _ HHR.out HHO.out (by omega)).mono ?_; rintro e w4 ⟨rfl, h4⟩
      have HDR4 := Lib.hid (HDR.out.grew h4)
      have HHR4 := Lib.hid (HHR.out.grew h4)
      have HG4 := Lib.hid ((HG1.out.trans (HG2.out.trans HG.out)).trans h4)
      clear h4 hw1
      go_wp2_with fail
      go_loopw [11] (fun i wr => ∃ k : Nat, k ≤ dn.length ∧ i = .int .i64 k ∧ Grew w4 wr) (fun i _ => dn.length - (intOf i).toNat)
      case atStart => exact ⟨0, Nat.zero_le _, rfl, Grew.refl _⟩
      case round =>
        obtain ⟨k, hk, rfl, hgr⟩ := hrel
        have HGR := Lib.hid hgr
        clear hgr
        by_cases hlk : k < dn.length
        · obtain ⟨x, hx⟩ : ∃ x, dn[k]? = some x := ⟨_, List.getElem?_eq_getElem hlk⟩
          obtain ⟨b1, o1, rfl, hb1, hc1⟩ := (HDR4.out.grew HGR.out).at_ hlk
          obtain ⟨x0, x1, x2, x3, x4, x5⟩ := Mv.at6 hc1 hx
          obtain ⟨day, it, ba, ff, tt, q⟩ := x
          have hi1 : (0 : Int) ≤ (k : Int) := by omega
          have hi2 : (k : Int) < (dn.length : Int) := by omega
          clear hx hc1
          obtain ⟨wo, hwo⟩ : ∃ wo : World, wo = wr := ⟨_, rfl⟩
          subst hwo
          have HBX := Lib.hid (show Bx Mv.E ((wo.alloc (.cells #[.int .i64 day, .string it, .string ba, .string ff, .string tt, .int .i64 q] 26)).alloc (.cells #[.string ff, .string tt] 9)) wo.heap.size ⟨day, it, ba, ff, tt, q⟩ from (Bx.new_ (E := Mv.E) wo ⟨day, it, ba, ff, tt, q⟩ 26).alloc _)
          have HPL := Lib.hid (show Rd Str.E ((wo.alloc (.cells #[.int .i64 day, .string it, .string ba, .string ff, .string tt, .int .i64 q] 26)).alloc (.cells #[.string ff, .string tt] 9)) (some ⟨wo.heap.size + 1, 0, none⟩) [ff, tt] from by
            have := rd_flat (E := Str.E) (wo.alloc (.cells #[.int .i64 day, .string it, .string ba, .string ff, .string tt, .int .i64 q] 26)) [ff, tt] 9
            have e : (wo.alloc (.cells #[.int .i64 day, .string it, .string ba, .string ff, .string tt, .int .i64 q] 26)).heap.size = wo.heap.size + 1 := by simp
            rw [e] at this
            exact this)
          have HGZ := Lib.hid (((HGR.out.alloc (.cells #[.int .i64 day, .string it, .string ba, .string ff, .string tt, .int .i64 q] 26)).alloc (.cells #[.string ff, .string tt] 9)))
          obtain ⟨wz, hwz⟩ : ∃ wz, wz = (wo.alloc (.cells #[.int .i64 day, .string it, .string ba, .string ff, .string tt, .int .i64 q] 26)).alloc (.cells #[.string ff, .string tt] 9) := ⟨_, rfl⟩
          go_wp2_with fail
          rw [← hwz] at HBX HPL HGZ ⊢
          clear hwz x0 x1 x2 x3 x4 x5
          go_loopw [14] (fun i wr => ∃ j : Nat, j ≤ 2 ∧ i = .int .i64 j ∧ Grew wz wr) (fun i _ => 2 - (intOf i).toNat)
          case atStart => exact ⟨0, by omega, rfl, Grew.refl _⟩
          case round =>
            obtain ⟨j, hj, rfl, hgj⟩ := hrel
            have HGJ := Lib.hid hgj
            have HGK := Lib.hid (HGZ.out.trans hgj)
            obtain ⟨x0, x1, x2, x3, x4, x5, xf, xs⟩ := Mv.bx6 (HBX.out.grew hgj)
            clear hgj
            by_cases hlj : j < 2
            · obtain ⟨pl, hpl⟩ : ∃ pl, [ff, tt][j]? = some pl := ⟨_, List.getElem?_eq_getElem (by simpa using hlj)⟩
              have HP0 := Lib.hid (fun (w' : World) (hw : Grew wz w') => show w'.cell? ⟨wo.heap.size + 1, j, none⟩ = some (.string pl) from by
                obtain ⟨b3, o3, e3, hb3, hc3⟩ := (HPL.out.grew hw) (by simp)
                simp only [Option.some.injEq, Addr.mk.injEq, and_true] at e3
                obtain ⟨rfl, rfl⟩ := e3
                have hp0 := hc3 j pl hpl 0 _ rfl
                simp only [Str.E, Nat.mul_one, Nat.zero_add, Nat.add_zero] at hp0
                exact hp0)
              have hp0 := HP0.out _ HGJ.out
              have HQF := Lib.hid (HST2.out it ba pl)
              have hj1 : (0 : Int) ≤ (j : Int) := by omega
              have hj2 : (j : Int) < 2 := by omega
              obtain ⟨fv, hfv⟩ : ∃ fv, flowF dn it ba pl = fv := ⟨_, rfl⟩
              have HFV := Lib.hid hfv
              clear hpl
              cases hpe : pl.toList.isEmpty
              · have hne : pl.toList ≠ [] := fun e => by rw [e] at hpe; cases hpe
                obtain ⟨hq1, hq2⟩ := HQF.out.2 hne
                rw [hfv] at hq1 hq2
                have HQV := Lib.hid hq1
                clear hne hq1 hfv
                go_wp2_with fail
                (refine wp_region_grow_lit (by kernel_rfl) (by kernel_rfl) ?_; repeat (any_goals (first | go_big_quiet_step ((go_at_call 22; exact quiet_grew (qtyE_impl HQV.out _ _ _ ((HHR4.out.grew HGK.out).gw _) HHO.out (by omega)))) | quiet_step ((go_at_call 22; exact quiet_grew (qtyE_impl HQV.out _ _ _ ((HHR4.out.grew HGK.out).gw _) HHO.out (by omega)))) | (refine wpQuiet_step (fun K hK => ?_); go_simp; split <;> rename_i hsp <;> (refine hK _ ?_; clear hK K) <;> (try first | simp only [hsp, decide_true, decide_false, Bool.not_true, Bool.not_false] | simp only [Int.not_le.2 hsp, decide_false, Bool.not_false] | simp only [Int.not_lt.2 hsp, decide_false, Bool.not_false] | simp only [Nat.not_le.2 hsp, decide_false, Bool.not_false] | simp only [Nat.not_lt.2 hsp, decide_false, Bool.not_false])))))
                all_goals (refine wpQuiet_nil ?_; intro waa haa)
                have HA := Lib.hid (HGJ.out.trans haa)
                have HAK := Lib.hid (HGK.out.trans haa)
                clear x0 x1 x2 x3 x4 x5 xf xs hp0 haa
                obtain ⟨x0, x1, x2, x3, x4, x5, xf, xs⟩ := Mv.bx6 (HBX.out.grew HA.out)
                have hp0 := HP0.out _ HA.out
                go_wp2_with fail
                (refine wp_region_grow_lit (by kernel_rfl) (by kernel_rfl) ?_; repeat (any_goals (first | go_big_quiet_step ((go_at_call 26; exact quiet_grew (flowE_impl HFV.out _ _ _ ((HDR4.out.grew HAK.out).gw _) HDO.out (by omega)))) | quiet_step ((go_at_call 26; exact quiet_grew (flowE_impl HFV.out _ _ _ ((HDR4.out.grew HAK.out).gw _) HDO.out (by omega)))) | (refine wpQuiet_step (fun K hK => ?_); go_simp; split <;> rename_i hsp <;> (refine hK _ ?_; clear hK K) <;> (try first | simp only [hsp, decide_true, decide_false, Bool.not_true, Bool.not_false] | simp only [Int.not_le.2 hsp, decide_false, Bool.not_false] | simp only [Int.not_lt.2 hsp, decide_false, Bool.not_false] | simp only [Nat.not_le.2 hsp, decide_false, Bool.not_false] | simp only [Nat.not_lt.2 hsp, decide_false, Bool.not_false])))))
                all_goals (refine wpQuiet_nil ?_; intro wbb hbb)
                have HB := Lib.hid (HA.out.trans hbb)
                clear x0 x1 x2 x3 x4 x5 xf xs hp0 hbb
                have hp0 := HP0.out _ HB.out
                go_wp2_with fail
                go_roundw
                case rel => go_light; exact ⟨j + 1, by omega, by go_num, HB.out⟩
                case measure => go_light; simp [intOf]; omega
              · have hne : pl.toList = [] := List.isEmpty_iff.1 hpe
                have HQV := Lib.hid (HQF.out.1 hne)
                clear hne hfv
                go_wp2_with fail
                (refine wp_region_grow_lit (by kernel_rfl) (by kernel_rfl) ?_; repeat (any_goals (first | go_big_quiet_step ((go_at_call 22; exact quiet_grew (qtyE_impl HQV.out _ _ _ ((HHR4.out.grew HGK.out).gw _) HHO.out (by omega)))) | quiet_step ((go_at_call 22; exact quiet_grew (qtyE_impl HQV.out _ _ _ ((HHR4.out.grew HGK.out).gw _) HHO.out (by omega)))) | (refine wpQuiet_step (fun K hK => ?_); go_simp; split <;> rename_i hsp <;> (refine hK _ ?_; clear hK K) <;> (try first | simp only [hsp, decide_true, decide_false, Bool.not_true, Bool.not_false] | simp only [Int.not_le.2 hsp, decide_false, Bool.not_false] | simp only [Int.not_lt.2 hsp, decide_false, Bool.not_false] | simp only [Nat.not_le.2 hsp, decide_false, Bool.not_false] | simp only [Nat.not_lt.2 hsp, decide_false, Bool.not_false])))))
                all_goals (refine wpQuiet_nil ?_; intro waa haa)
                have HA := Lib.hid (HGJ.out.trans haa)
                have HAK := Lib.hid (HGK.out.trans haa)
                clear x0 x1 x2 x3 x4 x5 xf xs hp0 haa
                obtain ⟨x0, x1, x2, x3, x4, x5, xf, xs⟩ := Mv.bx6 (HBX.out.grew HA.out)
                have hp0 := HP0.out _ HA.out
                go_wp2_with fail
                (refine wp_region_grow_lit (by kernel_rfl) (by kernel_rfl) ?_; repeat (any_goals (first | go_big_quiet_step ((go_at_call 26; exact quiet_grew (flowE_impl HFV.out _ _ _ ((HDR4.out.grew HAK.out).gw _) HDO.out (by omega)))) | quiet_step ((go_at_call 26; exact quiet_grew (flowE_impl HFV.out _ _ _ ((HDR4.out.grew HAK.out).gw _) HDO.out (by omega)))) | (refine wpQuiet_step (fun K hK => ?_); go_simp; split <;> rename_i hsp <;> (refine hK _ ?_; clear hK K) <;> (try first | simp only [hsp, decide_true, decide_false, Bool.not_true, Bool.not_false] | simp only [Int.not_le.2 hsp, decide_false, Bool.not_false] | simp only [Int.not_lt.2 hsp, decide_false, Bool.not_false] | simp only [Nat.not_le.2 hsp, decide_false, Bool.not_false] | simp only [Nat.not_lt.2 hsp, decide_false, Bool.not_false])))))
                all_goals (refine wpQuiet_nil ?_; intro wbb hbb)
                have HB := Lib.hid (HA.out.trans hbb)
                clear x0 x1 x2 x3 x4 x5 xf xs hp0 hbb
                have hp0 := HP0.out _ HB.out
                go_wp2_with fail
                go_roundw
                case rel => go_light; exact ⟨j + 1, by omega, by go_num, HB.out⟩
                case measure => go_light; simp [intOf]; omega
            · obtain rfl : j = 2 := by omega
              clear x0 x1 x2 x3 x4 x5 xf xs
              go_wp2_with fail
              go_roundw
              case rel => go_light; exact ⟨k + 1, by omega, by go_num, HGK.out⟩
              case measure => go_light; simp [intOf]; omega
        · obtain rfl : k = dn.length := by omega
          go_wp2_with fail
          go_ret
          go_light
          exact ⟨rfl, HG4.out.trans HGR.out⟩

set_option maxRecDepth 100000 in
theorem lifted (os : Os) (started : os.Started) (H : Type) (enc : TypeId × Value → H) :
    ReturnsInHanded {} Try.checked os 10 .any (Rows.fnStockSpec.pre6 enc Try.prog Try.f10 Rows.fnStockRow.domain false) (Rows.fnStockSpec.post enc Try.prog Try.f10 false true false false) := by
  refine returnsInHanded_of_change (C := Try.checked) own started (by kernel_rfl) Try.func10
    (ChangeSpec.witness6 (enc := enc) (C := Try.checked) false ⟨#[], #[.slice none 0 0], []⟩ 8 (by kernel_rfl) (by kernel_rfl) (by kernel_rfl) (by kernel_rfl)) ?_
  intro W base args ds gs before hval0 hW hcnd _
  have hval : ∀ (j : Nat) t v, Try.f10.params[j]? = some t → args[j]? = some v → Value.okWide Try.prog W .any base t v := hval0
  have hW' := hW
  obtain ⟨p, q, hA0, hV, rfl, hfz, hnd⟩ := hW
  have hA : DataW.TrodAll enc Try.prog W 0 (fun _ => true) true Try.f10.params.toList args.toList ds p := hA0
  rw [Try.params10] at hA hval
  obtain ⟨v0, vs0, d0, ds0, p0, q0, hargs, rfl, rfl, h0, r0⟩ := trodAll_cons hA
  obtain ⟨rfl, rfl, rfl⟩ := trodAll_nil r0
  obtain rfl : args = #[v0] := by cases args; simp_all
  obtain ⟨code, A, c, rfl, r_code, q1_code, q2_code⟩ := Byt.open_ (hval 0 53 v0 rfl rfl) h0
  refine (walk W code A c r_code ⟨q1_code, q2_code⟩).mono fun e W' ⟨he, hg⟩ => ?_
  subst he
  exact ⟨_, rfl, law_step (tb := 4) laidOut (by rw [Try.params10]; exact pars_of (by kernel_rfl)) rfl hW' rfl rfl rfl (by kernel_rfl) Try.underlying4 hg⟩

theorem over : Rows.fnStockRow.holds Try.pinned (OpenSpec.ofChange Rows.fnStockSpec) :=
  OpenClaim.holds_of_wide 10 Try.f10 rfl rfl rfl rfl rfl rfl rfl ⟨rfl, rfl, rfl, rfl, rfl⟩ rfl rfl rfl rfl rfl (by kernel_rfl) Try.func10 (by kernel_rfl)
    (of_decide_eq_true (by kernel_rfl)) (by unfold Func.isWrapper; first | (rw [if_pos (by decide +kernel)]; kernel_rfl) | (rw [if_neg (by decide +kernel)]; exact ⟨rfl, rfl⟩))
    (fun os started H enc _ => lifted os started H enc)

theorem proved : Rows.FnStockSaid := over
end fnStock
end Go.Proofs.Ytfbfhccgohmeiaa
