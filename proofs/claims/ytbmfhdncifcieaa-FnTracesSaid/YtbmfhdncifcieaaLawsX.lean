/- The law on traces: a batch went into another one exactly if that was made from it, and there is a way between. Conditions: none. -/
import Derived.Test.YtbmfhdncifcieaaWent
import Derived.Test.YtbmfhdncifcieaaDrawH
namespace Go.Proofs.Ytbmfhdncifcieaa
open Go.ChangeShapes Go.WideShapes Go.ChangeAt Go.RowKit Go.Joins Go.Deep
set_option linter.unusedVariables false
set_option linter.unusedSimpArgs false

theorem getD_of_get {T : Type} {l : List T} {d : T} {i : Nat} {x : T} (h : l[i]? = some x) : l.getD i d = x := by simp [List.getD_eq_getElem?_getD, h]
theorem rev_getD {T : Type} {l : List T} {d : T} {i : Nat} (h : i < l.length) : l.reverse.getD i d = l.getD (l.length - 1 - i) d := by
  rw [List.getD_eq_getElem?_getD, List.getD_eq_getElem?_getD, List.getElem?_reverse h]
/-- The path: more than one member; it begins at the one batch and ends at the other; each step is a use. -/
theorem path_facts {l : List Use} {a b : ByteArray} (h : canPath l a b = true) : 1 < (pathF l a b).1.length ∧ (pathF l a b).1[0]? = some a ∧ (pathF l a b).1[(pathF l a b).1.length - 1]? = some b ∧
    ∀ i, i + 1 < (pathF l a b).1.length → ∃ x ∈ l, x.fr = (pathF l a b).1.getD i str0 ∧ x.nt = (pathF l a b).1.getD (i + 1) str0 := by
  obtain ⟨a1, a2, a3⟩ := canPath_yes h
  have hp : (pathF l a b).1 = (chF (trF false l a) (fnd b (trF false l a).1 + 1) (fnd b (trF false l a).1 : Int)).reverse := by
    have : ((fnd b (trF false l a).1 : Nat) : Int) + 1 = ((fnd b (trF false l a).1 + 1 : Nat) : Int) := by omega
    simp only [pathF, h, if_true, chain]
    rw [this, Int.toNat_natCast]
  have hclo : Clo false l a (trF false l a) := trTo_clo false l a _
  have hlen := (trF_ok l a).len
  have h0 : (trF false l a).1.getD 0 str0 = a := by rw [trF_tail]; rfl
  have hg := fnd_get a3
  have hk : 0 < fnd b (trF false l a).1 := by
    rcases Nat.eq_zero_or_pos (fnd b (trF false l a).1) with e | e
    · rw [e, h0] at hg
      subst hg
      simp at a2
    · exact e
  obtain ⟨⟨t, h1⟩, h2, h3, h4⟩ := chF_get hclo (trF_bk l a) hlen h0 (fnd b (trF false l a).1 + 1) (fnd b (trF false l a).1) a3 (Nat.lt_succ_self _)
  rw [hg] at h1
  have h3' := h3 hk
  rw [hp]
  generalize chF (trF false l a) (fnd b (trF false l a).1 + 1) (fnd b (trF false l a).1 : Int) = ch at *
  rw [List.getLast?_eq_getElem?] at h2
  refine ⟨by rw [List.length_reverse]; exact h3', ?_, ?_, ?_⟩
  · rw [List.getElem?_reverse (by omega), Nat.sub_zero]; exact h2
  · rw [List.length_reverse, List.getElem?_reverse (by omega), show ch.length - 1 - (ch.length - 1) = 0 by omega, h1]; rfl
  · intro i hi
    rw [List.length_reverse] at hi
    obtain ⟨x, hx, h5, h6⟩ := h4 (ch.length - 1 - (i + 1)) (by omega)
    refine ⟨x, hx, ?_, ?_⟩
    · rw [rev_getD (by omega), h5, show ch.length - 1 - (i + 1) + 1 = ch.length - 1 - i by omega]
    · rw [rev_getD (by omega), h6]
theorem trace_down {l : List Use} {a b : ByteArray} {m : List ByteArray} (h : ∀ x, x ∈ m ↔ areU l = true ∧ x ∈ (trF false l a).1.tail) : decide (fnd b m < m.length) = canPath l a b := by
  rw [Bool.eq_iff_iff, decide_eq_true_iff, fnd_mem, h b, tail_iff]
  constructor
  · rintro ⟨h1, h2, h3⟩
    simp only [canPath, h1, Bool.true_and, Bool.and_eq_true, Bool.not_eq_true', decide_eq_true_eq]
    refine ⟨?_, fnd_mem.2 h2⟩
    cases h4 : a.toList == b.toList
    · rfl
    · exact absurd (ba_inj.1 (by simpa using h4)).symm h3
  · intro hc
    obtain ⟨a1, a2, a3⟩ := canPath_yes hc
    exact ⟨a1, fnd_mem.1 a3, fun e => by subst e; simp at a2⟩
theorem trace_up {l : List Use} {a b : ByteArray} {m : List ByteArray} (h : ∀ x, x ∈ m ↔ areU l = true ∧ x ∈ (trF true l b).1.tail) : decide (fnd a m < m.length) = canPath l a b := by
  rw [Bool.eq_iff_iff, decide_eq_true_iff, fnd_mem, h a, tail_iff, ← reach_flip]
  constructor
  · rintro ⟨h1, h2, h3⟩
    simp only [canPath, h1, Bool.true_and, Bool.and_eq_true, Bool.not_eq_true', decide_eq_true_eq]
    refine ⟨?_, fnd_mem.2 h2⟩
    cases h4 : a.toList == b.toList
    · rfl
    · exact absurd (ba_inj.1 (by simpa using h4)) h3
  · intro hc
    obtain ⟨a1, a2, a3⟩ := canPath_yes hc
    exact ⟨a1, fnd_mem.1 a3, fun e => by subst e; simp at a2⟩
theorem big_any (l : List UInt8) (A : Option Addr) (c : Nat) (w : World) (hl : l.length ≤ maxLen) :
    Calls Try.prog 23 #[.slice A l.length c] w fun e w' => e = .returned (.bool (decide ((1048576 : Int) < l.length))) ∧ w = w' := by
  unfold maxLen at hl
  go_enter Try.func23, Try.ntmps23
  go_wp2_with fail
  go_ret
  go_light
  exact ⟨rfl, rfl⟩
theorem pathE_impl {l : List Use} {a b : ByteArray} {p : List ByteArray} {v : Bool} (hv : pathF l a b = (p, v)) (A : Option Addr) (c : Nat) (w : World) (h : Rd Use.E w A l) (hok : ∀ x ∈ l, x.Ok) (hn : l.length ≤ 4194304) :
    Calls Try.prog 18 #[.slice A l.length c, .string a, .string b] w fun e w' => ∃ A' c', e = .returned (.tuple #[.slice A' p.length c', .bool v]) ∧ Own Str.E 9 w' w.heap.size (.slice A' p.length c') p ∧ Grew w w' := by
  have := tracePath_impl l A c a b w h hok hn
  rw [hv] at this
  exact this
theorem pathE_spec {l : List Use} {a b : ByteArray} {p : List ByteArray} {v : Bool} (hv : pathF l a b = (p, v)) (A : Option Addr) (c : Nat) (w : World) (h : Rd Use.E w A l) (hok : ∀ x ∈ l, x.Ok) (hn : l.length ≤ 4194304) :
    Calls Try.prog 17 #[.slice A l.length c, .string a, .string b] w fun e w' => ∃ A' c', e = .returned (.tuple #[.slice A' p.length c', .bool v]) ∧ Own Str.E 9 w' w.heap.size (.slice A' p.length c') p ∧ Grew w w' := by
  have := tracePath_spec l A c a b w h hok hn
  rw [hv] at this
  exact this
theorem downE {l : List Use} {a b : ByteArray} {v : Bool} (hv : canPath l a b = v) (A : Option Addr) (c : Nat) (w : World) (h : Rd Use.E w A l) (hok : ∀ x ∈ l, x.Ok) (hn : l.length ≤ 4194304) :
    Calls Try.prog 26 #[.slice A l.length c, .string a] w fun e w' => ∃ (m : List ByteArray) (A' : Option Addr) (c' : Nat), e = .returned (.slice A' m.length c') ∧ Rd Str.E w' A' m ∧ m.length ≤ 4194304 ∧ Hid (decide (fnd b m < m.length) = v) ∧ Grew w w' :=
  (trcWentInto_any l A c a w h hok hn).mono fun e w' ⟨m, A', c', h1, h2, h3, h4, h5⟩ => ⟨m, A', c', h1, h2, h3, Lib.hid (by rw [trace_down h4, hv]), h5⟩
theorem upE {l : List Use} {a b : ByteArray} {v : Bool} (hv : canPath l a b = v) (A : Option Addr) (c : Nat) (w : World) (h : Rd Use.E w A l) (hok : ∀ x ∈ l, x.Ok) (hn : l.length ≤ 4194304) :
    Calls Try.prog 27 #[.slice A l.length c, .string b] w fun e w' => ∃ (m : List ByteArray) (A' : Option Addr) (c' : Nat), e = .returned (.slice A' m.length c') ∧ Rd Str.E w' A' m ∧ m.length ≤ 4194304 ∧ Hid (decide (fnd a m < m.length) = v) ∧ Grew w w' :=
  (trcMadeFrom_any l A c b w h hok hn).mono fun e w' ⟨m, A', c', h1, h2, h3, h4, h5⟩ => ⟨m, A', c', h1, h2, h3, Lib.hid (by rw [trace_up h4, hv]), h5⟩
theorem hasE {s : ByteArray} {l : List ByteArray} {v : Bool} (hv : Hid (decide (fnd s l < l.length) = v)) (A : Option Addr) (c : Nat) (w : World) (h : Rd Str.E w A l) (hn : l.length ≤ 1099511627776) :
    Calls Try.prog 25 #[.slice A l.length c, .string s] w fun e w' => e = .returned (.bool v) ∧ w = w' := by
  have := hasText_any s l A c w h hn
  rw [hv.out] at this
  exact this

namespace fnTraces
set_option maxHeartbeats 1000000 in
theorem walk (w : World) (code : List UInt8) (A : Option Addr) (c : Nat) (r_code : Rd Byt.E w A code) (q_code : code.length ≤ c ∧ c ≤ maxLen) :
    Calls Try.prog 6 #[.slice A code.length c] w fun e w' => e = .returned (.bool true) ∧ Grew w w' := by
  have hql := q_code
  by_cases hbig : (1048576 : Int) < (code.length : Int)
  · have hb : decide ((1048576 : Int) < (code.length : Int)) = true := by simpa using hbig
    go_enter Try.func6, Try.ntmps6
    go_wp2_with fail
    refine (big_any code _ _ _ (by omega)).mono ?_; rintro e w0 ⟨rfl, rfl⟩
    go_wp2_with fail
    go_ret
    go_light
    exact ⟨rfl, Grew.refl _⟩
  have hb : decide ((1048576 : Int) < (code.length : Int)) = false := by simpa using hbig
  have HR := Lib.hid r_code
  clear r_code
  go_enter Try.func6, Try.ntmps6
  go_wp2_with fail
  refine (big_any code _ _ _ (by omega)).mono ?_; rintro e w0 ⟨rfl, rfl⟩
  go_wp2_with fail
  refine (drawTracePath_any _ _ _ code HR.out (by omega)).mono ?_; rintro e w1 ⟨m, B, d, a, b, rfl, hm, hok, hr, ha, hb2, hg⟩
  have HL := Lib.hid hr
  have HOK := Lib.hid hok
  have HG := Lib.hid hg
  clear hr hg hok ha hb2
  cases hc : canPath m a b
  · have HF := Lib.hid (show pathF m a b = ([], false) by simp [pathF, hc])
    have HC := Lib.hid hc
    clear hc
    go_wp2_with fail
    refine (pathE_impl HF.out _ _ _ HL.out HOK.out (by omega)).mono ?_; rintro e w2 ⟨A2, c2, rfl, ho2, h2⟩
    have HG2 := Lib.hid (HG.out.trans h2)
    have HL2 := Lib.hid (HL.out.grew h2)
    clear h2 ho2
    go_wp2_with fail
    refine (pathE_spec HF.out _ _ _ HL2.out HOK.out (by omega)).mono ?_; rintro e w3 ⟨A3, c3, rfl, ho3, h3⟩
    have HG3 := Lib.hid (HG2.out.trans h3)
    have HL3 := Lib.hid (HL2.out.grew h3)
    clear h3 ho3
    go_wp2_with fail
    refine (downE HC.out _ _ _ HL3.out HOK.out (by omega)).mono ?_; rintro e w4 ⟨m4, A4, c4, rfl, hr4, hl4, hv4, h4⟩
    have HG4 := Lib.hid (HG3.out.trans h4)
    have HL4 := Lib.hid (HL3.out.grew h4)
    clear h4
    go_wp2_with fail
    refine (hasE hv4 _ _ _ hr4 (by omega)).mono ?_; rintro e w5 ⟨rfl, rfl⟩
    go_wp2_with fail
    refine (upE HC.out _ _ _ HL4.out HOK.out (by omega)).mono ?_; rintro e w6 ⟨m6, A6, c6, rfl, hr6, hl6, hv6, h6⟩
    have HG6 := Lib.hid (HG4.out.trans h6)
    clear h6
    go_wp2_with fail
    refine (hasE hv6 _ _ _ hr6 (by omega)).mono ?_; rintro e w7 ⟨rfl, rfl⟩
    go_wp2_with fail
    go_loopw [12] (fun i wr => i = .int .i64 0 ∧ wr = w6) (fun _ _ => 0)
    case atStart => exact ⟨rfl, rfl⟩
    case round =>
      obtain ⟨rfl, rfl⟩ := hrel
      go_wp2_with fail
      go_ret
      go_light
      exact ⟨rfl, HG6.out⟩
  obtain ⟨hp1, hp2, hp3, hp4⟩ := path_facts hc
  obtain ⟨p, hp⟩ : ∃ p, p = (pathF m a b).1 := ⟨_, rfl⟩
  have hp5 := pathF_len m a b
  have HF := Lib.hid (show pathF m a b = (p, true) by rw [hp]; simp [pathF, hc])
  rw [← hp] at hp1 hp2 hp3 hp4 hp5
  have HA := Lib.hid (canPath_yes hc).1
  have HC := Lib.hid hc
  have HP2 := Lib.hid hp2
  have HP3 := Lib.hid hp3
  have HP4 := Lib.hid hp4
  clear hc hp2 hp3 hp4 hp
  go_wp2_with fail
  refine (pathE_impl HF.out _ _ _ HL.out HOK.out (by omega)).mono ?_; rintro e w2 ⟨A2, c2, rfl, ho2, h2⟩
  obtain ⟨gp, d2, hv, hgp1, hgp2⟩ := ho2.addr (by omega)
  simp only [Value.slice.injEq, true_and] at hv
  obtain ⟨rfl, rfl⟩ := hv
  have HPC := Lib.hid (fun (wr : World) (hw : Grew w2 wr) (i : Nat) (x : ByteArray) (hx : p[i]? = some x) => (show wr.cell? ⟨gp, i, none⟩ = some (.string x) from (by
    have h1 := ho2.at_ hx (j := 0) (u := .string x) rfl
    simp only [Str.E, Nat.mul_one, Nat.add_zero] at h1
    exact (hw.rules.1 gp i hgp2).trans h1)))
  have HG2 := Lib.hid (HG.out.trans h2)
  have HL2 := Lib.hid (HL.out.grew h2)
  clear h2 ho2 hgp1 hgp2
  go_wp2_with fail
  refine (pathE_spec HF.out _ _ _ HL2.out HOK.out (by omega)).mono ?_; rintro e w3 ⟨A3, c3, rfl, ho3, h3⟩
  have HG3 := Lib.hid h3
  have HL3 := Lib.hid (HL2.out.grew h3)
  clear h3 ho3
  go_wp2_with fail
  refine (downE HC.out _ _ _ HL3.out HOK.out (by omega)).mono ?_; rintro e w4 ⟨m4, A4, c4, rfl, hr4, hl4, hv4, h4⟩
  have HG4 := Lib.hid (HG3.out.trans h4)
  have HL4 := Lib.hid (HL3.out.grew h4)
  clear h4
  go_wp2_with fail
  refine (hasE hv4 _ _ _ hr4 (by omega)).mono ?_; rintro e w5 ⟨rfl, rfl⟩
  go_wp2_with fail
  refine (upE HC.out _ _ _ HL4.out HOK.out (by omega)).mono ?_; rintro e w6 ⟨m6, A6, c6, rfl, hr6, hl6, hv6, h6⟩
  have HG6 := Lib.hid (HG4.out.trans h6)
  have HL6 := Lib.hid (HL4.out.grew h6)
  clear h6
  go_wp2_with fail
  refine (hasE hv6 _ _ _ hr6 (by omega)).mono ?_; rintro e w7 ⟨rfl, rfl⟩
  clear hr4 hr6 hl4 hl6 hv4 hv6
  go_wp2_with fail
  go_loopw [12] (fun i wr => ∃ k : Nat, k + 1 ≤ p.length ∧ i = .int .i64 k ∧ Grew w2 wr) (fun i _ => p.length - (intOf i).toNat)
  case atStart => exact ⟨0, by omega, rfl, HG6.out⟩
  case round =>
    obtain ⟨k, hk, rfl, hgr⟩ := hrel
    have HGR := Lib.hid hgr
    clear hgr
    by_cases hlt : k + 1 < p.length
    · obtain ⟨x0, hx0, hx1, hx2⟩ := HP4.out k hlt
      obtain ⟨y, hy⟩ : ∃ y, p[k]? = some y := ⟨_, List.getElem?_eq_getElem (by omega)⟩
      obtain ⟨z, hz⟩ : ∃ z, p[k + 1]? = some z := ⟨_, List.getElem?_eq_getElem hlt⟩
      rw [getD_of_get hy] at hx1
      rw [getD_of_get hz] at hx2
      have HCY := Lib.hid (fun wr hg => HPC.out wr hg k y hy)
      have HCZ := Lib.hid (fun wr hg => HPC.out wr hg (k + 1) z hz)
      have HX := Lib.hid (show ∃ x ∈ m, x.fr = y ∧ x.nt = z from ⟨x0, hx0, hx1, hx2⟩)
      clear hx0 hx1 hx2 hy hz
      have hi1 : (k : Int) + 1 < (p.length : Int) := by omega
      go_wp2_with fail
      go_loopw [13, 14] (fun v j wr2 => ∃ (f : Bool) (n : Nat), n ≤ m.length ∧ j = .int .i64 n ∧ v = .bool f ∧ Grew w2 wr2 ∧ Hid (∀ i, i < n → ∀ x, m[i]? = some x → x.fr = y → x.nt = z → f = true)) (fun _ j _ => m.length - (intOf j).toNat)
      case atStart => exact ⟨false, 0, Nat.zero_le _, rfl, rfl, HGR.out, Lib.hid (fun i hi => absurd hi (Nat.not_lt_zero _))⟩
      case round =>
        obtain ⟨f, n, hn, rfl, rfl, hgr2, hf⟩ := hrel
        have HG2R := Lib.hid hgr2
        have hcy := HCY.out wr hgr2
        have hcz := HCZ.out wr hgr2
        by_cases hlt2 : n < m.length
        · obtain ⟨x, hx⟩ : ∃ x, m[n]? = some x := ⟨_, List.getElem?_eq_getElem hlt2⟩
          obtain ⟨bl, o, rfl, hbl, hcc⟩ := (HL2.out.grew hgr2).at_ hlt2
          obtain ⟨hc0, hc1, hc2⟩ := Use.at_ hcc hx
          have HXX := Lib.hid hx
          clear hx hcc hgr2
          have hi2 : (n : Int) < (m.length : Int) := by omega
          have HNX := Lib.hid (fun (f' : Bool) (h9 : f = true → f' = true) (h8 : x.fr = y → x.nt = z → f' = true) => (show ∀ i, i < n + 1 → ∀ x, m[i]? = some x → x.fr = y → x.nt = z → f' = true from fun i hi x' hx' h5 h6 => by
            rcases Nat.lt_succ_iff_lt_or_eq.1 hi with h7 | rfl
            · exact h9 (hf.out i h7 x' hx' h5 h6)
            · rw [HXX.out] at hx'
              obtain rfl : x = x' := by simpa using hx'
              exact h8 h5 h6))
          clear hf
          cases f
          · cases he1 : x.fr.toList == y.toList
            · have HE := Lib.hid (show ¬ x.fr = y from fun e => by rw [e] at he1; simp at he1)
              go_wp2_with fail
              (refine wp_region_grow_lit (by kernel_rfl) (by kernel_rfl) ?_; repeat (any_goals (first | go_big_quiet_step ((fail)) | quiet_step ((fail)) | (refine wpQuiet_step (fun K hK => ?_); go_simp; split <;> rename_i hsp <;> (refine hK _ ?_; clear hK K) <;> (try first | simp only [hsp, decide_true, decide_false, Bool.not_true, Bool.not_false] | simp only [Int.not_le.2 hsp, decide_false, Bool.not_false] | simp only [Int.not_lt.2 hsp, decide_false, Bool.not_false] | simp only [Nat.not_le.2 hsp, decide_false, Bool.not_false] | simp only [Nat.not_lt.2 hsp, decide_false, Bool.not_false])))))
              all_goals (refine wpQuiet_nil ?_; intro w1 h1)
              go_wp2_with fail
              go_roundw
              case rel => go_light; exact ⟨false, n + 1, by omega, by go_num, rfl, HG2R.out.trans h1, Lib.hid (HNX.out false (fun h => h) (fun h _ => absurd h HE.out))⟩
              case measure => go_light; simp [intOf]; omega
            · cases he2 : x.nt.toList == z.toList
              · have HE := Lib.hid (show ¬ x.nt = z from fun e => by rw [e] at he2; simp at he2)
                go_wp2_with fail
                (refine wp_region_grow_lit (by kernel_rfl) (by kernel_rfl) ?_; repeat (any_goals (first | go_big_quiet_step ((fail)) | quiet_step ((fail)) | (refine wpQuiet_step (fun K hK => ?_); go_simp; split <;> rename_i hsp <;> (refine hK _ ?_; clear hK K) <;> (try first | simp only [hsp, decide_true, decide_false, Bool.not_true, Bool.not_false] | simp only [Int.not_le.2 hsp, decide_false, Bool.not_false] | simp only [Int.not_lt.2 hsp, decide_false, Bool.not_false] | simp only [Nat.not_le.2 hsp, decide_false, Bool.not_false] | simp only [Nat.not_lt.2 hsp, decide_false, Bool.not_false])))))
                all_goals (refine wpQuiet_nil ?_; intro w1 h1)
                go_wp2_with fail
                go_roundw
                case rel => go_light; exact ⟨false, n + 1, by omega, by go_num, rfl, HG2R.out.trans h1, Lib.hid (HNX.out false (fun h => h) (fun _ h => absurd h HE.out))⟩
                case measure => go_light; simp [intOf]; omega
              · go_wp2_with fail
                (refine wp_region_grow_lit (by kernel_rfl) (by kernel_rfl) ?_; repeat (any_goals (first | go_big_quiet_step ((fail)) | quiet_step ((fail)) | (refine wpQuiet_step (fun K hK => ?_); go_simp; split <;> rename_i hsp <;> (refine hK _ ?_; clear hK K) <;> (try first | simp only [hsp, decide_true, decide_false, Bool.not_true, Bool.not_false] | simp only [Int.not_le.2 hsp, decide_false, Bool.not_false] | simp only [Int.not_lt.2 hsp, decide_false, Bool.not_false] | simp only [Nat.not_le.2 hsp, decide_false, Bool.not_false] | simp only [Nat.not_lt.2 hsp, decide_false, Bool.not_false])))))
                all_goals (refine wpQuiet_nil ?_; intro w1 h1)
                go_wp2_with fail
                go_roundw
                case rel => go_light; exact ⟨true, n + 1, by omega, by go_num, rfl, HG2R.out.trans h1, Lib.hid (HNX.out true (fun _ => rfl) (fun _ _ => rfl))⟩
                case measure => go_light; simp [intOf]; omega
          · go_wp2_with fail
            (refine wp_region_grow_lit (by kernel_rfl) (by kernel_rfl) ?_; repeat (any_goals (first | go_big_quiet_step ((fail)) | quiet_step ((fail)) | (refine wpQuiet_step (fun K hK => ?_); go_simp; split <;> rename_i hsp <;> (refine hK _ ?_; clear hK K) <;> (try first | simp only [hsp, decide_true, decide_false, Bool.not_true, Bool.not_false] | simp only [Int.not_le.2 hsp, decide_false, Bool.not_false] | simp only [Int.not_lt.2 hsp, decide_false, Bool.not_false] | simp only [Nat.not_le.2 hsp, decide_false, Bool.not_false] | simp only [Nat.not_lt.2 hsp, decide_false, Bool.not_false])))))
            all_goals (refine wpQuiet_nil ?_; intro w1 h1)
            go_wp2_with fail
            go_roundw
            case rel => go_light; exact ⟨true, n + 1, by omega, by go_num, rfl, HG2R.out.trans h1, Lib.hid (HNX.out true (fun _ => rfl) (fun _ _ => rfl))⟩
            case measure => go_light; simp [intOf]; omega
        · obtain rfl : n = m.length := by omega
          obtain rfl : f = true := by
            obtain ⟨x, hx, h5, h6⟩ := HX.out
            obtain ⟨i, hi⟩ := List.mem_iff_getElem?.1 hx
            exact hf.out i (List.getElem?_eq_some_iff.1 hi).1 x hi h5 h6
          go_wp2_with fail
          go_roundw
          case rel => go_light; exact ⟨k + 1, by omega, by go_num, HG2R.out⟩
          case measure => go_light; simp [intOf]; omega
    · have HPL := Lib.hid (show p.length = k + 1 by omega)
      have hc0 := HPC.out wr HGR.out 0 a HP2.out
      have hc1 := HPC.out wr HGR.out k b (by have := HP3.out; rwa [HPL.out] at this)
      have hgp0 : gp < wr.heap.size := by
        rcases Nat.lt_or_ge gp wr.heap.size with h | h
        · exact h
        · unfold World.cell? at hc0; rw [Array.getElem?_eq_none h] at hc0; cases hc0
      rw [HPL.out] at hp1 hlt ⊢
      have hi1 : (1 : Int) < (k : Int) + 1 := by omega
      have hi0 : (0 : Int) < (k : Int) + 1 := by omega
      have hwk : wrap64 (k : Int) = (k : Int) := IntWalk.wrap64_in _ ⟨by omega, by omega⟩
      have hk9 : (k : Int) < (k : Int) + 1 := by omega
      have hp6 := HPL.out; rw [HPL.out] at hp5; clear hp6
      go_wp2_with (go_at_call 8; refine (areUsesE_spec HA.out _ _ _ (HL2.out.grew HGR.out) HOK.out (by omega)).mono ?_; rintro e w9 ⟨rfl, h9⟩; have hk0 := (h9.rules.1 gp 0 hgp0).trans hc0; have hk1 := (h9.rules.1 gp k hgp0).trans hc1)
      go_ret
      go_light
      exact ⟨rfl, HG2.out.trans (HGR.out.trans h9)⟩

set_option maxRecDepth 100000 in
theorem lifted (os : Os) (started : os.Started) (H : Type) (enc : TypeId × Value → H) :
    ReturnsInHanded {} Try.checked os 6 .any (Rows.fnTracesSpec.pre6 enc Try.prog Try.f6 Rows.fnTracesRow.domain false) (Rows.fnTracesSpec.post enc Try.prog Try.f6 false true false false) := by
  refine returnsInHanded_of_change (C := Try.checked) own started (by kernel_rfl) Try.func6
    (ChangeSpec.witness6 (enc := enc) (C := Try.checked) false ⟨#[], #[.slice none 0 0], []⟩ 8 (by kernel_rfl) (by kernel_rfl) (by kernel_rfl) (by kernel_rfl)) ?_
  intro W base args ds gs before hval0 hW hcnd _
  have hval : ∀ (j : Nat) t v, Try.f6.params[j]? = some t → args[j]? = some v → Value.okWide Try.prog W .any base t v := hval0
  have hW' := hW
  obtain ⟨p, q, hA0, hV, rfl, hfz, hnd⟩ := hW
  have hA : DataW.TrodAll enc Try.prog W 0 (fun _ => true) true Try.f6.params.toList args.toList ds p := hA0
  rw [Try.params6] at hA hval
  obtain ⟨v0, vs0, d0, ds0, p0, q0, hargs, rfl, rfl, h0, r0⟩ := trodAll_cons hA
  obtain ⟨rfl, rfl, rfl⟩ := trodAll_nil r0
  obtain rfl : args = #[v0] := by cases args; simp_all
  obtain ⟨code, A, c, rfl, r_code, q1_code, q2_code⟩ := Byt.open_ (hval 0 43 v0 rfl rfl) h0
  refine (walk W code A c r_code ⟨q1_code, q2_code⟩).mono fun e W' ⟨he, hg⟩ => ?_
  subst he
  exact ⟨_, rfl, law_step (tb := 4) laidOut (by rw [Try.params6]; exact pars_of (by kernel_rfl)) rfl hW' rfl rfl rfl (by kernel_rfl) Try.underlying4 hg⟩

theorem over : Rows.fnTracesRow.holds Try.pinned (OpenSpec.ofChange Rows.fnTracesSpec) :=
  OpenClaim.holds_of_wide 6 Try.f6 rfl rfl rfl rfl rfl rfl rfl ⟨rfl, rfl, rfl, rfl, rfl⟩ rfl rfl rfl rfl rfl (by kernel_rfl) Try.func6 (by kernel_rfl)
    (of_decide_eq_true (by kernel_rfl)) (by unfold Func.isWrapper; first | (rw [if_pos (by decide +kernel)]; kernel_rfl) | (rw [if_neg (by decide +kernel)]; exact ⟨rfl, rfl⟩))
    (fun os started H enc _ => lifted os started H enc)

theorem proved : Rows.FnTracesSaid := over
end fnTraces
end Go.Proofs.Ytbmfhdncifcieaa
