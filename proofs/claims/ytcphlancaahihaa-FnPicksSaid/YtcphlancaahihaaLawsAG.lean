/- The law on picks: what expires first is picked first, as long as it is good, and what is picked can be put back. Conditions: none. -/
import Derived.Test.YtcphlancaahihaaDrawF
import Derived.Deep.RegionHeld3
namespace Go.Proofs.Ytcphlancaahihaa
open Go.ChangeShapes Go.WideShapes Go.ChangeAt Go.RowKit Go.Joins Go.Deep
set_option linter.unusedVariables false
set_option linter.unusedSimpArgs false

theorem big_any (l : List UInt8) (A : Option Addr) (c : Nat) (w : World) (hl : l.length ≤ maxLen) :
    Calls Try.prog 31 #[.slice A l.length c] w fun e w' => e = .returned (.bool (decide ((1048576 : Int) < l.length))) ∧ w = w' := by
  unfold maxLen at hl
  go_enter Try.func31, Try.ntmps31
  go_wp2_with fail
  go_ret
  go_light
  exact ⟨rfl, rfl⟩

theorem sumN_take {p : List Nd} {b : ByteArray} {k : Nat} {y : Nd} (h : p[k]? = some y) : sumN (p.take (k + 1)) b = sumN (p.take k) b + (if y.cd.toList = b.toList then y.q else 0) := by
  rw [List.take_add_one, h, sumN_app]
  simp [sumN]
theorem sumN_b {p : List Nd} {b : ByteArray} (h : ∀ y ∈ p, 0 ≤ y.q ∧ y.q ≤ 1000000000) : ∀ k, 0 ≤ sumN (p.take k) b ∧ sumN (p.take k) b ≤ 1000000000 * (k : Int) := by
  intro k
  induction k with
  | zero => simp [sumN]
  | succ k ih =>
    cases hx : p[k]? with
    | none =>
      have e : p.take (k + 1) = p.take k := by rw [List.take_add_one, hx]; simp
      rw [e]; omega
    | some y =>
      have := h y (List.mem_of_getElem? hx)
      rw [sumN_take hx]
      split <;> omega
set_option maxHeartbeats 2000000 in
theorem in_any_ (p : List Nd) (A : Option Addr) (c : Nat) (b : ByteArray) (w : World) (h : Rd Nd.E w A p) (hn : p.length ≤ 20) (hq : ∀ y ∈ p, 0 ≤ y.q ∧ y.q ≤ 1000000000) :
    Calls Try.prog 33 #[.slice A p.length c, .string b] w fun e w' => e = .returned (.int .i64 (sumN p b)) ∧ Grew w w' := by
  have HB := Lib.hid (fun k => sumN_b (p := p) (b := b) hq k)
  have HL := Lib.hid h
  have HQ := Lib.hid hq
  clear h hq
  go_enter Try.func33, Try.ntmps33
  go_wp2_with fail
  go_loopw [5, 6] (fun n i wr => ∃ k : Nat, k ≤ p.length ∧ i = .int .i64 k ∧ n = .int .i64 (sumN (p.take k) b) ∧ Grew w wr) (fun _ i _ => p.length - (intOf i).toNat)
  case atStart => exact ⟨0, Nat.zero_le _, rfl, rfl, Grew.refl _⟩
  case round =>
    obtain ⟨k, hk, rfl, rfl, hg⟩ := hrel
    have HG := Lib.hid hg
    by_cases hlt : k < p.length
    · obtain ⟨y, hy⟩ : ∃ y, p[k]? = some y := ⟨_, List.getElem?_eq_getElem hlt⟩
      obtain ⟨b1, o1, rfl, hb1, hc⟩ := (HL.out.grew hg).at_ hlt
      obtain ⟨c0, c1⟩ := Nd.at_ hc hy
      have HST := Lib.hid (sumN_take (b := b) hy)
      obtain ⟨s0, s1⟩ := HB.out k
      obtain ⟨y0, y1⟩ := HQ.out y (List.mem_of_getElem? hy)
      have hi1 : (0 : Int) ≤ (k : Int) := by omega
      have hi2 : (k : Int) < (p.length : Int) := by omega
      clear hy hc hg
      cases hs : (y.cd.toList == b.toList)
      · have HN := Lib.hid (HST.out.trans (by rw [if_neg (by simpa using hs), Int.add_zero]))
        go_wp2_with fail
        go_roundw
        case rel => go_light; exact ⟨k + 1, by omega, by go_num, by rw [HN.out], HG.out⟩
        case measure => go_light; simp [intOf]; omega
      · have HN := Lib.hid (HST.out.trans (by rw [if_pos (by simpa using hs)]))
        go_wp2_with fail
        go_roundw
        case rel => go_light; exact ⟨k + 1, by omega, by go_num, by rw [HN.out], HG.out⟩
        case measure => go_light; simp [intOf]; omega
    · obtain rfl : k = p.length := by omega
      go_wp2_with fail
      go_ret
      go_light
      exact ⟨ret_int (by rw [List.take_length]), HG.out⟩
theorem inSE {p : List Nd} {b : ByteArray} {v : Int} (hv : sumN p b = v) (A : Option Addr) (c : Nat) (w : World) (h : Rd Nd.E w A p) (hn : p.length ≤ 20) (hq : ∀ y ∈ p, 0 ≤ y.q ∧ y.q ≤ 1000000000) :
    Calls Try.prog 33 #[.slice A p.length c, .string b] w fun e w' => e = .returned (.int .i64 v) ∧ Grew w w' := hv ▸ in_any_ p A c b w h hn hq
theorem pickE {l : List Lt} {day q : Int} {p : List Nd} {v : Bool} (he : pickF l day q = (p, v)) (A : Option Addr) (c : Nat) (w : World) (h : Rd Lt.E w A l) (hok : ∀ x ∈ l, x.Ok) (hn : l.length ≤ 4194304) :
    Calls Try.prog 23 #[.slice A l.length c, .int .i64 day, .int .i64 q] w fun e w' => ∃ A' c', e = .returned (.tuple #[.slice A' p.length c', .bool v]) ∧ Own Nd.E 56 w' w.heap.size (.slice A' p.length c') p ∧ Grew w w' := by
  have := pickLots_impl l A c day q w h hok hn
  rw [he] at this
  exact this
theorem takeE {l m : List Lt} {ps : List Nd} {v : Bool} (he : takeF l ps = (m, v)) (A : Option Addr) (c : Nat) (B : Option Addr) (d : Nat) (w : World) (h : Rd Lt.E w A l) (hok : ∀ x ∈ l, x.Ok) (hn : l.length ≤ 4194304) (h' : Rd Nd.E w B ps) (hm : ps.length ≤ 4194304) :
    Calls Try.prog 30 #[.slice A l.length c, .slice B ps.length d] w fun e w' => ∃ A' c', e = .returned (.tuple #[.slice A' m.length c', .bool v]) ∧ Own Lt.E 36 w' w.heap.size (.slice A' m.length c') m ∧ Grew w w' := by
  have := takeLots_impl l A c ps B d w h hok hn h' hm
  rw [he] at this
  exact this
theorem freeE {l : List Lt} {day v : Int} (hv : freeF l day = v) (A : Option Addr) (c : Nat) (w : World) (h : Rd Lt.E w A l) (hok : ∀ x ∈ l, x.Ok) (hn : l.length ≤ 4194304) :
    Calls Try.prog 14 #[.slice A l.length c, .int .i64 day] w fun e w' => e = .returned (.int .i64 v) ∧ Grew w w' := hv ▸ freeOn_spec l A c day w h hok hn
theorem addE {l m : List Lt} {x : Lt} {v : Bool} (he : addF l x = (m, v)) (A : Option Addr) (n c : Nat) (w : World) (h : Rd Lt.E w A l) (hok : ∀ y ∈ l, y.Ok) (hn : l.length ≤ 4194304) (hx : x.Ok) (hlc : l.length ≤ c) (hcm : c ≤ maxLen) (hl : n = l.length) :
    Calls Try.prog 19 #[.slice A n c, x.v] w fun e w' => ∃ A' c', e = .returned (.tuple #[.slice A' m.length c', .bool v]) ∧ Own Lt.E 36 w' w.heap.size (.slice A' m.length c') m ∧ Grew w w' := by
  subst hl
  have := addLot_impl l A c x w h hok hn hx hlc hcm
  rw [he] at this
  exact this

theorem part_ok {R B : List Lt} (h : Part R B) (hb : areL B = true) (hok : ∀ y ∈ B, y.Ok) : ∀ y ∈ R, y.Ok := fun y hy => by
  obtain ⟨z, hz, e1, e2, e3, e4⟩ := h.mem y hy
  obtain ⟨_, a1, a2, a3, _⟩ := hok z hz
  have := (lots_ok hb).2 z hz
  exact ⟨trivial, e1 ▸ a1, e2 ▸ a2, (show i64B y.q from by unfold i64B; omega).wf, trivial⟩
/-- One pick put back, at the place of its lot. -/
theorem back_step {l L R : List Lt} {day qi : Int} {pk : Nd} {rest : List Nd} (har : areL l = true) (e1 : l = L ++ R) (hq : 0 ≤ qi) (hp : picksR day qi R = pk :: rest) :
    ∃ (K : Nat) (x : Lt) (S2 : List Lt), l[K]? = some x ∧ pk.cd = x.ba ∧ 1 ≤ pk.q ∧ pk.q ≤ 100000 ∧ (∀ (k : Nat) (y : Lt), l[k]? = some y → k ≠ K → y.ba ≠ x.ba) ∧ addF (L ++ layR day qi R) ⟨pk.cd, x.ex, pk.q⟩ = (S2, true) ∧ Part (L ++ layR day qi R) l ∧ Part S2 l ∧
      ∃ (L' R' : List Lt) (qi' : Int), l = L' ++ R' ∧ 0 ≤ qi' ∧ rest = picksR day qi' R' ∧ S2 = L' ++ layR day qi' R' := by
  have hqp := q_pos har
  have hqR : ∀ y ∈ R, 1 ≤ y.q := fun y hy => hqp y (by rw [e1]; simp [hy])
  obtain ⟨B0, x, B', a, f1, f2, f3, f4, f5, f6, f7⟩ := step_ day R qi pk rest hq hqR hp
  have e2 : l = (L ++ B0) ++ x :: B' := by rw [e1, f1]; simp
  have hPL : Part (L ++ B0) (L ++ B0) := Part.refl fun y hy => hqp y (by rw [e2]; exact List.mem_append_left _ hy)
  have hPB : Part (layR day (qi - a) B') B' := lay_part day B' (qi - a) (by omega) (fun y hy => hqp y (by rw [e2]; simp [hy]))
  have hput := put_back (A := L ++ B0) (R := layR day (qi - a) B') (B := B') (x := x) (a := a) (e2 ▸ har) hPB f3 f4
  have hxv := ((areL_iff.1 har).2.1 x (by rw [e2]; simp))
  have hS : L ++ layR day qi R = (L ++ B0) ++ (lay1 x a ++ layR day (qi - a) B') := by rw [f7]; simp
  refine ⟨(L ++ B0).length, x, (L ++ B0) ++ x :: layR day (qi - a) B', by rw [e2, List.getElem?_append_right (Nat.le_refl _)]; simp, by rw [f2], by rw [f2]; exact f3, by rw [f2]; have := hxv.2.2.2; simp only; omega, fun k y hy hk => ?_, ?_, ?_, ?_, L ++ B0 ++ [x], B', qi - a, by rw [e2]; simp, by omega, f6, by simp⟩
  · have hp := ba_pair har
    rw [e2] at hp hy
    rcases Nat.lt_or_ge k (L ++ B0).length with h1 | h1
    · rw [List.getElem?_append_left h1] at hy
      exact (List.pairwise_append.1 hp).2.2 y (List.mem_of_getElem? hy) x (List.mem_cons_self ..)
    · rw [List.getElem?_append_right h1] at hy
      obtain ⟨m, hm⟩ : ∃ m, k - (L ++ B0).length = m + 1 := ⟨k - (L ++ B0).length - 1, by omega⟩
      rw [hm, List.getElem?_cons_succ] at hy
      exact fun e => (List.pairwise_cons.1 (List.pairwise_append.1 hp).2.1).1 y (List.mem_of_getElem? hy) e.symm
  · rw [hS, f2]; exact hput
  · rw [hS, e2]
    refine hPL.app ?_
    unfold lay1
    split
    · exact .keep hPB (by omega) (by omega)
    · exact .skip hPB
  · rw [e2]
    exact hPL.app (.keep hPB (by omega) (Int.le_refl _))

namespace fnPicks
set_option maxRecDepth 100000 in
set_option maxHeartbeats 40000000 in
theorem walk (w : World) (code : List UInt8) (A : Option Addr) (c : Nat) (r_code : Rd Byt.E w A code) (q_code : code.length ≤ c ∧ c ≤ maxLen) :
    Calls Try.prog 8 #[.slice A code.length c] w fun e w' => e = .returned (.bool true) ∧ Grew w w' := by
  have hql := q_code
  by_cases hbig : (1048576 : Int) < (code.length : Int)
  · have hb : decide ((1048576 : Int) < (code.length : Int)) = true := by simpa using hbig
    go_enter Try.func8, Try.ntmps8
    go_wp2_with fail
    refine (big_any code _ _ _ (by omega)).mono ?_; rintro e w0 ⟨rfl, rfl⟩
    go_wp2_with fail
    go_ret
    go_light
    exact ⟨rfl, Grew.refl _⟩
  have hb : decide ((1048576 : Int) < (code.length : Int)) = false := by simpa using hbig
  have HR := Lib.hid r_code
  clear r_code
  go_enter Try.func8, Try.ntmps8
  go_wp2_with fail
  refine (big_any code _ _ _ (by omega)).mono ?_; rintro e w0 ⟨rfl, rfl⟩
  go_wp2_with fail
  refine (drawPick_any _ _ _ code HR.out (by omega)).mono ?_; rintro e w1 ⟨l, B, d, day, q, rfl, h20, hok, hrd, hday, hqq, hg1⟩
  have HL := Lib.hid hrd
  have HOK := Lib.hid hok
  have HG1 := Lib.hid hg1
  unfold i64B at hday hqq
  obtain ⟨hday1, hday2⟩ := hday
  obtain ⟨hqq1, hqq2⟩ := hqq
  clear hrd hok hg1
  cases hcan : canPick l day q
  · have HPK := Lib.hid (show pickF l day q = ([], false) by simp [pickF, hcan])
    have HNO := Lib.hid (canPick_no hcan)
    clear hcan
    go_wp2_with fail
    refine (pickE HPK.out _ _ _ HL.out HOK.out (by omega)).mono ?_; rintro e w2 ⟨A2, c2, rfl, ho2, hg2⟩
    have HG2 := Lib.hid (HG1.out.trans hg2)
    have HL2 := Lib.hid (HL.out.grew hg2)
    clear ho2 hg2
    rcases HNO.out with hno | ⟨ha, hno⟩ | ⟨ha, hi, hno⟩
    · have HN := Lib.hid hno
      clear hno
      go_wp2_with fail
      refine (areLotsE_spec HN.out _ _ _ HL2.out HOK.out (by omega)).mono ?_; rintro e w3 ⟨rfl, h3⟩
      go_wp2_with fail
      go_ret
      go_light
      exact ⟨rfl, HG2.out.trans h3⟩
    · have HN := Lib.hid ha
      rcases inB_not.1 hno with hq1 | hq1
      · have hd1 : decide (1 ≤ q) = false := decide_eq_false (by omega)
        clear hno ha
        go_wp2_with fail
        refine (areLotsE_spec HN.out _ _ _ HL2.out HOK.out (by omega)).mono ?_; rintro e w3 ⟨rfl, h3⟩
        go_wp2_with fail
        go_ret
        go_light
        exact ⟨rfl, HG2.out.trans h3⟩
      · have hd1 : decide (1 ≤ q) = true := decide_eq_true (by omega)
        have hd2 : decide (q ≤ 1000000000) = false := decide_eq_false (by omega)
        clear hno ha
        go_wp2_with fail
        refine (areLotsE_spec HN.out _ _ _ HL2.out HOK.out (by omega)).mono ?_; rintro e w3 ⟨rfl, h3⟩
        go_wp2_with fail
        go_ret
        go_light
        exact ⟨rfl, HG2.out.trans h3⟩
    · have HN := Lib.hid ha
      obtain ⟨hi1, hi2⟩ := inB_iff.1 hi
      have hd1 : decide (1 ≤ q) = true := decide_eq_true (by omega)
      have hd2 : decide (q ≤ 1000000000) = true := decide_eq_true (by omega)
      obtain ⟨fv, hfv⟩ : ∃ fv, freeF l day = fv := ⟨_, rfl⟩
      have HFV := Lib.hid hfv
      rw [hfv] at hno
      have hd3 : decide (q ≤ fv) = false := decide_eq_false (by have := of_decide_eq_true hno; omega)
      clear hno ha hi hfv
      go_wp2_with fail
      refine (areLotsE_spec HN.out _ _ _ HL2.out HOK.out (by omega)).mono ?_; rintro e w3 ⟨rfl, h3⟩
      have HL3 := Lib.hid (HL2.out.grew h3)
      have HG3 := Lib.hid (HG2.out.trans h3)
      clear h3
      go_wp2_with fail
      refine (freeE HFV.out _ _ _ HL3.out HOK.out (by omega)).mono ?_; rintro e w4 ⟨rfl, h4⟩
      go_wp2_with fail
      go_ret
      go_light
      exact ⟨rfl, HG3.out.trans h4⟩
  · obtain ⟨har, hq1, hq2, hfree⟩ := canPick_at hcan
    obtain ⟨p, hp⟩ : ∃ p, p = picksR day q l := ⟨_, rfl⟩
    have HP := Lib.hid hp
    have HPK := Lib.hid (show pickF l day q = (p, true) by simp only [pickF, hcan, if_true]; rw [pick_eq, hp])
    have hff := freeF_eq har day
    obtain ⟨fv, hfv⟩ : ∃ fv, freeF l day = fv := ⟨_, rfl⟩
    rw [hfv] at hfree hff
    have hfq : q ≤ fv := by have := of_decide_eq_false hfree; omega
    have hfb : fv ≤ 2000000 := by have := (free_bound har day l.length (Nat.le_refl _)).2; rw [← hfv]; unfold freeF; rw [if_pos har]; have := areL_len har; omega
    have HFV := Lib.hid hfv
    have HFF := Lib.hid hff
    have HAR := Lib.hid har
    have HQP := Lib.hid (q_pos har)
    have hpl : p.length ≤ 20 := by have := picks_len day l q; rw [← hp] at this; omega
    have HPQ := Lib.hid (show ∀ y ∈ p, 0 ≤ y.q ∧ y.q ≤ 1000000000 from fun y hy => by have := picks_q day l q (by omega) (q_pos har) y (hp ▸ hy); omega)
    have HPQ2 := Lib.hid (show ∀ y ∈ p, 1 ≤ y.q ∧ y.q ≤ 1000000000 from fun y hy => by have := picks_q day l q (by omega) (q_pos har) y (hp ▸ hy); omega)
    have HTK := Lib.hid (show takeF l p = (layR day q l, true) by rw [hp]; exact take_eq har day q (by omega))
    have HLF := Lib.hid (show freeF (layR day q l) day = fv - q by
      have ha := (lay_part day l q (by omega) (q_pos har)).are har
      rw [freeF_eq ha, lay_free day l q (by omega) (q_pos har) (by rw [← hff]; exact hfq), ← hff])
    have HBP := Lib.hid (ba_pair har)
    have HLP := Lib.hid (show ∀ y ∈ layR day q l, y.Ok from fun y hy => by
      obtain ⟨z, hz, e1, e2, e3, e4⟩ := (lay_part day l q (by omega) (q_pos har)).mem y hy
      obtain ⟨_, a1, a2, a3, _⟩ := HOK.out z hz
      have := (lots_ok har).2 z hz
      exact ⟨trivial, e1 ▸ a1, e2 ▸ a2, (show i64B y.q from by unfold i64B; omega).wf, trivial⟩)
    have hd1 : decide (1 ≤ q) = true := decide_eq_true (by omega)
    have hd2 : decide (q ≤ 1000000000) = true := decide_eq_true (by omega)
    have hd3 : decide (q ≤ fv) = true := decide_eq_true hfq
    clear hcan hp hff har hfv hfree
    go_wp2_with fail
    refine (pickE HPK.out _ _ _ HL.out HOK.out (by omega)).mono ?_; rintro e w2 ⟨A2, c2, rfl, ho2, hg2⟩
    have HG2 := Lib.hid (HG1.out.trans hg2)
    have HL2 := Lib.hid (HL.out.grew hg2)
    have HP2 := Lib.hid ho2.rd
    clear ho2 hg2
    go_wp2_with fail
    refine (areLotsE_spec HAR.out _ _ _ HL2.out HOK.out (by omega)).mono ?_; rintro e w3 ⟨rfl, h3⟩
    have HL3 := Lib.hid (HL2.out.grew h3)
    have HP3 := Lib.hid (HP2.out.grew h3)
    have HG3 := Lib.hid (HG2.out.trans h3)
    clear h3 HL2 HP2 HG2
    go_wp2_with fail
    refine (freeE HFV.out _ _ _ HL3.out HOK.out (by omega)).mono ?_; rintro e w4 ⟨rfl, h4⟩
    have HL4 := Lib.hid (HL3.out.grew h4)
    have HP4 := Lib.hid (HP3.out.grew h4)
    have HG4 := Lib.hid (HG3.out.trans h4)
    clear h4 HL3 HP3 HG3 hd1 hd2 hd3
    go_wp2_with fail
    go_loopw [8, 9, 10] (fun n o i wr => ∃ (k : Nat) (qi : Int) (op : Bool), k ≤ l.length ∧ i = .int .i64 k ∧ n = .int .i64 (q - qi) ∧ o = .bool op ∧ Hid (∃ (L R : List Lt) (pL : List Nd), l = L ++ R ∧ L.length = k ∧ p = pL ++ picksR day qi R ∧ (∀ y ∈ pL, ∃ x ∈ L, y.cd = x.ba) ∧ qi ≤ freeL day R) ∧ (op = true → qi = 0) ∧ 0 ≤ qi ∧ qi ≤ q ∧ Grew w4 wr) (fun _ _ i _ => l.length - (intOf i).toNat)
    case atStart => exact ⟨0, q, false, Nat.zero_le _, rfl, by simp, rfl, Lib.hid ⟨[], l, [], rfl, rfl, by rw [HP.out]; rfl, by simp, by rw [← HFF.out]; exact hfq⟩, by simp, by omega, Int.le_refl _, Grew.refl _⟩
    case round =>
      obtain ⟨k, qi, op, hk, rfl, rfl, rfl, hst, hop, hqi0, hqi1, hgr⟩ := hrel
      have HGR := Lib.hid hgr
      clear hgr
      by_cases hlt : k < l.length
      · obtain ⟨x, hx⟩ : ∃ x, l[k]? = some x := ⟨_, List.getElem?_eq_getElem hlt⟩
        obtain ⟨hxq, hxq2⟩ : 1 ≤ x.q ∧ x.q ≤ 100000 := ⟨HQP.out x (List.mem_of_getElem? hx), ((lots_ok HAR.out).2 x (List.mem_of_getElem? hx)).2⟩
        obtain ⟨am, ham⟩ : ∃ am, amt day qi x = am := ⟨_, rfl⟩
        have hab := amt_b day qi x hqi0 (by omega)
        rw [ham] at hab
        obtain ⟨hab1, hab2, hab3⟩ := hab
        obtain ⟨L, R, pL, e1, e2, e3, e4, e5⟩ := hst.out
        obtain ⟨t, ht⟩ : ∃ t, R = x :: t := by
          rw [e1, List.getElem?_append_right (by omega), e2, Nat.sub_self] at hx
          cases R with
          | nil => simp at hx
          | cons y t => exact ⟨t, by simp at hx; rw [hx]⟩
        subst ht
        have hLx : ∀ y ∈ L, y.ba ≠ x.ba := fun y hy => (List.pairwise_append.1 (e1 ▸ HBP.out)).2.2 y hy x (List.mem_cons_self ..)
        have hxt : ∀ y ∈ t, x.ba ≠ y.ba := (List.pairwise_cons.1 (List.pairwise_append.1 (e1 ▸ HBP.out)).2.1).1
        have HSUM := Lib.hid (show sumN p x.ba = am from by
          rw [e3, sumN_app, sumN_none (fun y hy => by obtain ⟨z, hz, e⟩ := e4 y hy; rw [e]; exact hLx z hz)]
          simp only [picksR, ham]
          rw [sumN_app, sumN_none (p := picksR day (qi - am) t) (fun y hy => by obtain ⟨z, hz, e⟩ := picks_mem day t _ y hy; rw [e]; exact fun h => hxt z hz h.symm)]
          split
          · simp [sumN]
          · simp [sumN]; omega)
        simp only [freeL] at e5
        have HNX := Lib.hid (show ∃ (L R : List Lt) (pL : List Nd), l = L ++ R ∧ L.length = k + 1 ∧ p = pL ++ picksR day (qi - am) R ∧ (∀ y ∈ pL, ∃ x ∈ L, y.cd = x.ba) ∧ qi - am ≤ freeL day R from by
          refine ⟨L ++ [x], t, pL ++ (if 0 < am then [⟨x.ba, am⟩] else []), by rw [e1]; simp, by simp; omega, by rw [e3]; simp only [picksR, ham]; simp, fun y hy => ?_, ?_⟩
          · rcases List.mem_append.1 hy with hy | hy
            · obtain ⟨z, hz, e⟩ := e4 y hy
              exact ⟨z, by simp [hz], e⟩
            · split at hy
              · obtain rfl : y = _ := by simpa using hy
                exact ⟨x, by simp, rfl⟩
              · simp at hy
          · have hft : 0 ≤ freeL day t := by
              have : ∀ (t : List Lt), (∀ y ∈ t, 1 ≤ y.q) → 0 ≤ freeL day t := by
                intro t ht
                induction t with
                | nil => simp [freeL]
                | cons y t ih =>
                  have := ih (fun z hz => ht z (List.mem_cons_of_mem _ hz))
                  have := ht y (List.mem_cons_self ..)
                  simp only [freeL]
                  split <;> omega
              exact this t fun y hy => HQP.out y (by rw [e1]; simp [hy])
            rw [← ham]
            unfold amt
            by_cases hd : day ≤ x.ex
            · rw [if_pos hd] at e5
              split
              · omega
              · rename_i hc
                have : ¬ 0 < min qi x.q := fun hh => hc ⟨hd, hh⟩
                omega
            · rw [if_neg hd] at e5
              split <;> omega)
        have HAM := Lib.hid (show (0 < am → day ≤ x.ex ∧ 0 < qi ∧ (am < x.q → qi - am = 0)) ∧ (am ≤ 0 → day ≤ x.ex → qi = 0) from by
          rw [← ham]
          unfold amt
          split <;> refine ⟨fun _ => ?_, fun _ _ => ?_⟩ <;> rename_i hc <;> first | omega | (have : ¬ 0 < min qi x.q := fun hh => hc ⟨by assumption, hh⟩; omega) | (refine ⟨hc.1, ?_, ?_⟩ <;> omega))
        clear e1 e2 e3 e4 e5 hLx hxt ham
        obtain ⟨bl, o, rfl, hbl, hc⟩ := (HL4.out.grew HGR.out).at_ hlt
        obtain ⟨x0, x1, x2⟩ := Lt.at_ hc hx
        have hi1 : (0 : Int) ≤ (k : Int) := by omega
        have hi2 : (k : Int) < (l.length : Int) := by omega
        have HBL := Lib.hid hbl
        clear hx hc hst
        go_wp2_with fail
        refine (inSE HSUM.out _ _ _ (HP4.out.grew HGR.out) hpl HPQ.out).mono ?_; rintro e w5 ⟨rfl, h5⟩
        have HG5 := Lib.hid (HGR.out.trans h5)
        have x1 := (h5.rules.1 bl _ hbl).trans x1
        have x2 := (h5.rules.1 bl _ hbl).trans x2
        clear x0 h5 hbl
        by_cases hap : 0 < am
        · obtain ⟨ha1, ha2, ha3⟩ := HAM.out.1 hap
          have hopf : op = false := by cases op; rfl; exact absurd (hop rfl) (by omega)
          subst hopf
          have d1 : decide (0 < am) = true := decide_eq_true hap
          have d2 : decide (x.ex < day) = false := decide_eq_false (by omega)
          have d3 : decide (x.q < am) = false := decide_eq_false (by omega)
          have d4 : decide (day ≤ x.ex) = true := decide_eq_true ha1
          by_cases hlq : am < x.q
          · have d5 : decide (am < x.q) = true := decide_eq_true hlq
            have HZ := Lib.hid (ha3 hlq)
            clear hap ha1 ha3 hlq
            go_wp2_with fail
            go_roundw
            case rel => go_light; exact ⟨k + 1, qi - am, true, by omega, by go_num, by congr 1; omega, rfl, HNX, fun _ => HZ.out, by omega, by omega, HG5.out⟩
            case measure => go_light; simp [intOf]; omega
          · have d5 : decide (am < x.q) = false := decide_eq_false hlq
            clear hap ha1 ha3 hlq
            go_wp2_with fail
            go_roundw
            case rel => go_light; exact ⟨k + 1, qi - am, false, by omega, by go_num, by congr 1; omega, rfl, HNX, fun h => absurd h (by simp), by omega, by omega, HG5.out⟩
            case measure => go_light; simp [intOf]; omega
        · obtain rfl : am = 0 := by omega
          have d1 : decide ((0 : Int) < 0) = false := by simp
          have HZ2 := Lib.hid (HAM.out.2 (Int.le_refl _))
          cases op
          · by_cases hdx : day ≤ x.ex
            · have d4 : decide (day ≤ x.ex) = true := decide_eq_true hdx
              have d5 : decide (0 < x.q) = true := decide_eq_true (by omega)
              have HZ := Lib.hid (HZ2.out hdx)
              clear hdx hap
              go_wp2_with fail
              go_roundw
              case rel => go_light; exact ⟨k + 1, qi - 0, true, by omega, by go_num, by congr 1; have := HZ.out; omega, rfl, HNX, fun _ => by rw [HZ.out]; rfl, by omega, by omega, HG5.out⟩
              case measure => go_light; simp [intOf]; omega
            · have d4 : decide (day ≤ x.ex) = false := decide_eq_false hdx
              clear hdx hap
              go_wp2_with fail
              go_roundw
              case rel => go_light; exact ⟨k + 1, qi - 0, false, by omega, by go_num, by congr 1; omega, rfl, HNX, fun h => absurd h (by simp), by omega, by omega, HG5.out⟩
              case measure => go_light; simp [intOf]; omega
          · have HZ := Lib.hid (hop rfl)
            clear hap
            go_wp2_with fail
            go_roundw
            case rel => go_light; exact ⟨k + 1, qi - 0, true, by omega, by go_num, by congr 1; have := HZ.out; omega, rfl, HNX, fun _ => by rw [HZ.out]; rfl, by omega, by omega, HG5.out⟩
            case measure => go_light; simp [intOf]; omega
      · obtain rfl : k = l.length := by omega
        have hq0 : qi = 0 := by
          obtain ⟨L, R, pL, e1, e2, e3, e4, e5⟩ := hst.out
          have : R = [] := by
            have := congrArg List.length e1
            simp only [List.length_append] at this
            exact List.eq_nil_of_length_eq_zero (by omega)
          rw [this] at e5
          simp only [freeL] at e5
          omega
        subst hq0
        have HL5 := Lib.hid (HL4.out.grew HGR.out)
        have HP5 := Lib.hid (HP4.out.grew HGR.out)
        have HG5 := Lib.hid (HG4.out.trans HGR.out)
        have hqq0 : q - 0 = q := by omega
        clear hst hop HL4 HP4 HG4
        go_wp2_with fail
        refine (takeE HTK.out _ _ _ _ _ HL5.out HOK.out (by omega) HP5.out (by omega)).mono ?_; rintro e w6 ⟨A6, c6, rfl, ho6, hg6⟩
        have HO6 := Lib.hid ho6
        have HL6 := Lib.hid (HL5.out.grew hg6)
        have HP6 := Lib.hid (HP5.out.grew hg6)
        have HG6 := Lib.hid (HG5.out.trans hg6)
        clear ho6 hg6 HL5 HP5 HG5
        have hwr : IntKind.i64.wrap (fv - q) = fv - q := by rw [IntKind.wrap_i64]; omega
        have hll : (layR day q l).length ≤ 20 := by have := (lay_part day l q (by omega) HQP.out).len; omega
        go_wp2_with fail
        refine (freeE HLF.out _ _ _ HO6.out.rd HLP.out (by omega)).mono ?_; rintro e w7 ⟨rfl, h7⟩
        have HO7 := Lib.hid (HO6.out.grew h7)
        have HL7 := Lib.hid (HL6.out.grew h7)
        have HP7 := Lib.hid (HP6.out.grew h7)
        have HG7 := Lib.hid (HG6.out.trans h7)
        clear h7 HO6 HL6 HP6 HG6
        go_wp2_with fail
        refine (freeE HFV.out _ _ _ HL7.out HOK.out (by omega)).mono ?_; rintro e w8 ⟨rfl, h8⟩
        have HO8 := Lib.hid (HO7.out.grew h8)
        have HL8 := Lib.hid (HL7.out.grew h8)
        have HP8 := Lib.hid (HP7.out.grew h8)
        have HG8 := Lib.hid (HG7.out.trans h8)
        clear h8 HO7 HL7 HP7 HG7
        go_wp2_with fail
        go_loopw [12, 14] (fun v i wr => ∃ (j : Nat) (S : List Lt) (T : Option Addr) (c1 : Nat), j ≤ p.length ∧ i = .int .i64 j ∧ v = .slice T S.length c1 ∧ Hid (∃ (L R : List Lt) (qi : Int), l = L ++ R ∧ 0 ≤ qi ∧ p.drop j = picksR day qi R ∧ S = L ++ layR day qi R) ∧ (∃ b, Own Lt.E 36 wr b v S) ∧ Grew w8 wr) (fun _ i _ => p.length - (intOf i).toNat)
        case atStart => exact ⟨0, layR day q l, _, _, Nat.zero_le _, rfl, rfl, Lib.hid ⟨[], l, q, rfl, by omega, by rw [HP.out]; rfl, rfl⟩, ⟨_, HO8.out⟩, Grew.refl _⟩
        case round =>
          obtain ⟨j, S, T, c1, hj, rfl, rfl, hst, hown, hgr⟩ := hrel
          have HGR := Lib.hid hgr
          have HOW := Lib.hid hown
          clear hgr hown HO8
          by_cases hlj : j < p.length
          · obtain ⟨pk, hpk⟩ : ∃ pk, p[j]? = some pk := ⟨_, List.getElem?_eq_getElem hlj⟩
            have hdr : p.drop j = pk :: p.drop (j + 1) := by rw [List.drop_eq_getElem_cons hlj]; congr 1; exact (List.getElem?_eq_some_iff.1 hpk).2
            obtain ⟨L, R, qi, e1, e2, e3, e4⟩ := hst.out
            rw [hdr] at e3
            obtain ⟨K, x, S2, hK, hcd, hp1, hp2, hoth, hadd, hPS, hPS2, hnext⟩ := back_step HAR.out e1 e2 e3.symm
            rw [← e4] at hadd hPS
            have HADD := Lib.hid hadd
            have HSO := Lib.hid (part_ok hPS HAR.out HOK.out)
            have HSO2 := Lib.hid (part_ok hPS2 HAR.out HOK.out)
            have hSl : S.length ≤ 20 := by have := hPS.len; omega
            have hSl2 : S2.length ≤ 20 := by have := hPS2.len; omega
            have HNX := Lib.hid hnext
            have HOT := Lib.hid hoth
            have HKX := Lib.hid hK
            have hKl : K < l.length := (List.getElem?_eq_some_iff.1 hK).1
            obtain ⟨pcd, pq⟩ := pk
            simp only at hcd hp1 hp2 hadd
            subst hcd
            have HPO := Lib.hid (show Lt.Ok ⟨x.ba, x.ex, pq⟩ from by
              obtain ⟨_, a1, a2, a3, _⟩ := HOK.out x (List.mem_of_getElem? hK)
              exact ⟨trivial, a1, a2, (show i64B pq from by unfold i64B; omega).wf, trivial⟩)
            have HPX := Lib.hid hpk
            clear hdr e1 e2 e3 e4 hK hadd hPS hPS2 hnext hoth hst hpk
            obtain ⟨wo, hwo⟩ : ∃ wo : World, wo = wr := ⟨_, rfl⟩
            subst hwo
            go_wp2_with fail
            go_loopw [12, 15] (fun v i wr => ∃ (k : Nat) (S' : List Lt) (T : Option Addr) (c1 : Nat), k ≤ l.length ∧ i = .int .i64 k ∧ v = .slice T S'.length c1 ∧ Hid (S' = if k ≤ K then S else S2) ∧ (∃ b, Own Lt.E 36 wr b v S') ∧ Grew wo wr) (fun _ i _ => l.length - (intOf i).toNat)
            case atStart => exact ⟨0, S, T, c1, Nat.zero_le _, rfl, rfl, Lib.hid (by rw [if_pos (Nat.zero_le _)]), HOW.out, Grew.refl _⟩
            case round =>
              obtain ⟨k, S', T', c2, hk, rfl, rfl, hS', hown, hgr⟩ := hrel
              have HOV := Lib.hid hown
              have HG9 := Lib.hid (HGR.out.trans hgr)
              have HGI := Lib.hid hgr
              clear hgr hown
              by_cases hlk : k < l.length
              · obtain ⟨y, hy⟩ : ∃ y, l[k]? = some y := ⟨_, List.getElem?_eq_getElem hlk⟩
                obtain ⟨bl, o, rfl, hbl, hc⟩ := HL8.out.at_ hlk
                obtain ⟨y0, y1, y2⟩ := Lt.at_ hc hy
                obtain ⟨bp, op, rfl, hbp, hcp⟩ := HP8.out.at_ hlj
                obtain ⟨p0, p1⟩ := Nd.at_ hcp HPX.out
                have HCS := Lib.hid (fun (w' : World) (hw : Grew w8 w') => show w'.cell? ⟨bp, op + j * 2, none⟩ = some (.string x.ba) ∧ w'.cell? ⟨bp, op + j * 2 + 1, none⟩ = some (.int .i64 pq) ∧ w'.cell? ⟨bl, o + k * 3, none⟩ = some (.string y.ba) ∧ w'.cell? ⟨bl, o + k * 3 + 1, none⟩ = some (.int .i64 y.ex) from
                  ⟨(hw.rules.1 bp _ hbp).trans p0, (hw.rules.1 bp _ hbp).trans p1, (hw.rules.1 bl _ hbl).trans y0, (hw.rules.1 bl _ hbl).trans y1⟩)
                have hi1 : (0 : Int) ≤ (k : Int) := by omega
                have hi2 : (k : Int) < (l.length : Int) := by omega
                have hi3 : (0 : Int) ≤ (j : Int) := by omega
                have hi4 : (j : Int) < (p.length : Int) := by omega
                have HYY := Lib.hid hy
                clear hc hcp y0 y1 y2 p0 p1 hbl hbp hy
                obtain ⟨p0, p1, y0, y1⟩ := HCS.out _ HG9.out
                by_cases hkK : k = K
                · subst hkK
                  obtain rfl : y = x := by have := HYY.out; rw [HKX.out] at this; injection this with this; exact this.symm
                  have hs : (y.ba.toList == y.ba.toList) = true := by simp
                  have HSE := Lib.hid (show S' = S from by rw [hS'.out, if_pos (Nat.le_refl _)])
                  clear hS'
                  go_wp2_with fail
                  (refine wp_region_grow_lit (by kernel_rfl) (by kernel_rfl) ?_; repeat (any_goals (first | go_big_quiet_step ((fail)) | quiet_step ((fail)) | (refine wpQuiet_step (fun K hK => ?_); go_simp; split <;> rename_i hsp <;> (refine hK _ ?_; clear hK K) <;> (try first | simp only [hsp, decide_true, decide_false, Bool.not_true, Bool.not_false] | simp only [Int.not_le.2 hsp, decide_false, Bool.not_false] | simp only [Int.not_lt.2 hsp, decide_false, Bool.not_false] | simp only [Nat.not_le.2 hsp, decide_false, Bool.not_false] | simp only [Nat.not_lt.2 hsp, decide_false, Bool.not_false])))))
                  all_goals (refine wpQuiet_nil ?_; intro w1 h1)
                  have HGA := Lib.hid (HG9.out.trans h1)
                  obtain ⟨bo, hob⟩ := HOV.out
                  rw [HSE.out] at hob ⊢
                  have HOB := Lib.hid (hob.grew h1)
                  have HGI2 := Lib.hid (HGI.out.trans h1)
                  clear h1 hob HOV p0 p1 y0 y1 hs
                  go_wp2_with fail
                  have HGD := Lib.hid HGA.out.drew
                  have HOD := Lib.hid HOB.out.drew
                  have HID := Lib.hid HGI2.out.drew
                  refine wp_region_held_drew (S := (fun w' => w'.cell? ⟨bp, op + j * 2, none⟩ = some (.string y.ba) ∧ w'.cell? ⟨bp, op + j * 2 + 1, none⟩ = some (.int .i64 pq) ∧ w'.cell? ⟨bl, o + k * 3, none⟩ = some (.string y.ba) ∧ w'.cell? ⟨bl, o + k * 3 + 1, none⟩ = some (.int .i64 y.ex))) (by kernel_rfl) (HCS.out _ HGD.out) (fun hH => ?_)
                  refine wpAnyH_take (i := 0) (v := ?_) (by simp only [List.getElem?_toArray, List.getElem?_cons_succ, List.getElem?_cons_zero]; rfl) (by kernel_rfl) (by kernel_rfl) (by kernel_rfl) (by intro _ _ _ h; exact h) (Or.inl ⟨by rfl, ?_⟩) hH ?_; rotate_left; · ((intro w hSw); (try dsimp only at hSw); go_simp; (try with_reducible rfl); done)
                  (try simp only [Act.put, List.setIfInBounds_toArray, List.set_cons_zero, List.set_cons_succ])
                  refine wpAnyH_take (i := 1) (v := ?_) (by simp only [List.getElem?_toArray, List.getElem?_cons_succ, List.getElem?_cons_zero]; rfl) (by kernel_rfl) (by kernel_rfl) (by kernel_rfl) (by intro _ _ _ h; exact h) (Or.inl ⟨by rfl, ?_⟩) hH ?_; rotate_left; · ((intro w hSw); (try dsimp only at hSw); go_simp; (try with_reducible rfl); done)
                  (try simp only [Act.put, List.setIfInBounds_toArray, List.set_cons_zero, List.set_cons_succ])
                  refine wpAnyH_take (i := 2) (v := ?_) (by simp only [List.getElem?_toArray, List.getElem?_cons_succ, List.getElem?_cons_zero]; rfl) (by kernel_rfl) (by kernel_rfl) (by kernel_rfl) (by intro _ _ _ h; exact h) (Or.inl ⟨by rfl, ?_⟩) hH ?_; rotate_left; · ((intro w hSw); (try dsimp only at hSw); go_simp; (try with_reducible rfl); done)
                  (try simp only [Act.put, List.setIfInBounds_toArray, List.set_cons_zero, List.set_cons_succ])
                  refine wpAnyH_take (i := 3) (v := ?_) (by simp only [List.getElem?_toArray, List.getElem?_cons_succ, List.getElem?_cons_zero]; rfl) (by kernel_rfl) (by kernel_rfl) (by kernel_rfl) (by intro _ _ _ h; exact h) (Or.inl ⟨by rfl, ?_⟩) hH ?_; rotate_left; · ((intro w hSw); (try dsimp only at hSw); go_simp; (try with_reducible rfl); done)
                  (try simp only [Act.put, List.setIfInBounds_toArray, List.set_cons_zero, List.set_cons_succ])
                  refine wpAnyH_take (i := 4) (v := ?_) (by simp only [List.getElem?_toArray, List.getElem?_cons_succ, List.getElem?_cons_zero]; rfl) (by kernel_rfl) (by kernel_rfl) (by kernel_rfl) (by intro _ _ _ h; exact h) (Or.inl ⟨by rfl, ?_⟩) hH ?_; rotate_left; · ((intro w hSw); (try dsimp only at hSw); go_simp; (try with_reducible rfl); done)
                  (try simp only [Act.put, List.setIfInBounds_toArray, List.set_cons_zero, List.set_cons_succ])
                  refine wpAnyH_take (i := 5) (v := ?_) (by simp only [List.getElem?_toArray, List.getElem?_cons_succ, List.getElem?_cons_zero]; rfl) (by kernel_rfl) (by kernel_rfl) (by kernel_rfl) (by intro _ _ _ h; exact h) (Or.inl ⟨by rfl, ?_⟩) hH ?_; rotate_left; · ((intro w hSw); (try dsimp only at hSw); go_simp; (try with_reducible rfl); done)
                  (try simp only [Act.put, List.setIfInBounds_toArray, List.set_cons_zero, List.set_cons_succ])
                  refine wpAnyH_take (i := 6) (v := ?_) (by simp only [List.getElem?_toArray, List.getElem?_cons_succ, List.getElem?_cons_zero]; rfl) (by kernel_rfl) (by kernel_rfl) (by kernel_rfl) (by intro _ _ _ h; exact h) (Or.inl ⟨by rfl, ?_⟩) hH ?_; rotate_left; · ((intro w hSw); (try dsimp only at hSw); go_simp; (try with_reducible rfl); done)
                  (try simp only [Act.put, List.setIfInBounds_toArray, List.set_cons_zero, List.set_cons_succ])
                  refine wpAnyH_take (i := 7) (v := ?_) (by simp only [List.getElem?_toArray, List.getElem?_cons_succ, List.getElem?_cons_zero]; rfl) (by kernel_rfl) (by kernel_rfl) (by kernel_rfl) (by intro _ _ _ h; exact h) (Or.inl ⟨by rfl, ?_⟩) hH ?_; rotate_left; · ((intro w hSw); (try dsimp only at hSw); go_simp; (try with_reducible rfl); done)
                  (try simp only [Act.put, List.setIfInBounds_toArray, List.set_cons_zero, List.set_cons_succ])
                  refine wpAnyH_take (i := 8) (v := ?_) (by simp only [List.getElem?_toArray, List.getElem?_cons_succ, List.getElem?_cons_zero]; rfl) (by kernel_rfl) (by kernel_rfl) (by kernel_rfl) (by intro _ _ _ h; exact h) (Or.inl ⟨by rfl, ?_⟩) hH ?_; rotate_left; · ((intro w hSw); (try dsimp only at hSw); go_simp; (try with_reducible rfl); done)
                  (try simp only [Act.put, List.setIfInBounds_toArray, List.set_cons_zero, List.set_cons_succ])
                  refine wpAnyH_take (i := 9) (v := ?_) (by simp only [List.getElem?_toArray, List.getElem?_cons_succ, List.getElem?_cons_zero]; rfl) (by kernel_rfl) (by kernel_rfl) (by kernel_rfl) (by intro _ _ _ h; exact h) (Or.inl ⟨by rfl, ?_⟩) hH ?_; rotate_left; · ((intro w hSw); (try dsimp only at hSw); go_simp; (try with_reducible rfl); done)
                  (try simp only [Act.put, List.setIfInBounds_toArray, List.set_cons_zero, List.set_cons_succ])
                  refine wpAnyH_take (i := 10) (v := ?_) (by simp only [List.getElem?_toArray, List.getElem?_cons_succ, List.getElem?_cons_zero]; rfl) (by kernel_rfl) (by kernel_rfl) (by kernel_rfl) (by intro _ _ _ h; exact h) (Or.inl ⟨by rfl, ?_⟩) hH ?_; rotate_left; · ((intro w hSw); (try dsimp only at hSw); go_simp; (try with_reducible rfl); done)
                  (try simp only [Act.put, List.setIfInBounds_toArray, List.set_cons_zero, List.set_cons_succ])
                  refine wpAnyH_take (i := 11) (v := ?_) (by simp only [List.getElem?_toArray, List.getElem?_cons_succ, List.getElem?_cons_zero]; rfl) (by kernel_rfl) (by kernel_rfl) (by kernel_rfl) (by intro _ _ _ h; exact h) (Or.inl ⟨by rfl, ?_⟩) hH ?_; rotate_left; · ((intro w hSw); (try dsimp only at hSw); go_simp; (try with_reducible rfl); done)
                  (try simp only [Act.put, List.setIfInBounds_toArray, List.set_cons_zero, List.set_cons_succ])
                  refine wpAnyH_take (i := 12) (v := ?_) (by simp only [List.getElem?_toArray, List.getElem?_cons_succ, List.getElem?_cons_zero]; rfl) (by kernel_rfl) (by kernel_rfl) (by kernel_rfl) (by intro _ _ _ h; exact h) (Or.inl ⟨by rfl, ?_⟩) hH ?_; rotate_left; · ((intro w hSw); (try dsimp only at hSw); go_simp; (try with_reducible rfl); done)
                  (try simp only [Act.put, List.setIfInBounds_toArray, List.set_cons_zero, List.set_cons_succ])
                  refine wpAnyH_take (i := 13) (v := ?_) (by simp only [List.getElem?_toArray, List.getElem?_cons_succ, List.getElem?_cons_zero]; rfl) (by kernel_rfl) (by kernel_rfl) (by kernel_rfl) (by intro _ _ _ h; exact h) (Or.inl ⟨by rfl, ?_⟩) hH ?_; rotate_left; · ((intro w hSw); (try dsimp only at hSw); go_simp; (try with_reducible rfl); done)
                  (try simp only [Act.put, List.setIfInBounds_toArray, List.set_cons_zero, List.set_cons_succ])
                  refine wpAnyH_take (i := 14) (v := ?_) (by simp only [List.getElem?_toArray, List.getElem?_cons_succ, List.getElem?_cons_zero]; rfl) (by kernel_rfl) (by kernel_rfl) (by kernel_rfl) (by intro _ _ _ h; exact h) (Or.inl ⟨by rfl, ?_⟩) hH ?_; rotate_left; · ((intro w hSw); (try dsimp only at hSw); go_simp; (try with_reducible rfl); done)
                  (try simp only [Act.put, List.setIfInBounds_toArray, List.set_cons_zero, List.set_cons_succ])
                  refine wpAnyH_take (i := 15) (v := ?_) (by simp only [List.getElem?_toArray, List.getElem?_cons_succ, List.getElem?_cons_zero]; rfl) (by kernel_rfl) (by kernel_rfl) (by kernel_rfl) (by intro _ _ _ h; exact h) (Or.inl ⟨by rfl, ?_⟩) hH ?_; rotate_left; · ((intro w hSw); (try dsimp only at hSw); go_simp; (try with_reducible rfl); done)
                  (try simp only [Act.put, List.setIfInBounds_toArray, List.set_cons_zero, List.set_cons_succ])
                  refine wpAnyH_take (i := 16) (v := ?_) (by simp only [List.getElem?_toArray, List.getElem?_cons_succ, List.getElem?_cons_zero]; rfl) (by kernel_rfl) (by kernel_rfl) (by kernel_rfl) (by intro _ _ _ h; exact h) (Or.inl ⟨by rfl, ?_⟩) hH ?_; rotate_left; · ((intro w hSw); (try dsimp only at hSw); go_simp; (try with_reducible rfl); done)
                  (try simp only [Act.put, List.setIfInBounds_toArray, List.set_cons_zero, List.set_cons_succ])
                  refine wpAnyH_ready (rs := [17]) (by kernel_rfl) (by simp) ?_
                  refine (AllReadyH.cons (by simp only [List.getElem?_toArray, List.getElem?_cons_succ, List.getElem?_cons_zero]; rfl) (fun K hK => ?_) AllReadyH.nil)
                  go_simp; (with_reducible refine (addE HADD.out _ _ _ _ HOD.out.rd HSO.out (by omega) HPO.out HOD.out.cap.2.1 HOD.out.cap.2.2 rfl).mono ?_); rintro e w9 ⟨A9, c9, rfl, ho9, hg9⟩; have HO9 := Lib.hid ho9; have HGE := Lib.hid (HGD.out.trans hg9); have HIE := Lib.hid (HID.out.trans hg9); clear ho9 hg9; (try go_wp2_with fail)
                  refine hK.out _ _ (HCS.out _ HGE.out) (fun hH => ?_)
                  clear hK K
                  (try simp only [Act.put, List.setIfInBounds_toArray, List.set_cons_zero, List.set_cons_succ])
                  refine wpAnyH_take (i := 18) (v := ?_) (by simp only [List.getElem?_toArray, List.getElem?_cons_succ, List.getElem?_cons_zero]; rfl) (by kernel_rfl) (by kernel_rfl) (by kernel_rfl) (by intro _ _ _ h; exact h) (Or.inl ⟨by rfl, ?_⟩) hH ?_; rotate_left; · ((intro w hSw); (try dsimp only at hSw); go_simp; (try with_reducible rfl); done)
                  (try simp only [Act.put, List.setIfInBounds_toArray, List.set_cons_zero, List.set_cons_succ])
                  refine wpAnyH_take (i := 19) (v := ?_) (by simp only [List.getElem?_toArray, List.getElem?_cons_succ, List.getElem?_cons_zero]; rfl) (by kernel_rfl) (by kernel_rfl) (by kernel_rfl) (by intro _ _ _ h; exact h) (Or.inl ⟨by rfl, ?_⟩) hH ?_; rotate_left; · ((intro w hSw); (try dsimp only at hSw); go_simp; (try with_reducible rfl); done)
                  (try simp only [Act.put, List.setIfInBounds_toArray, List.set_cons_zero, List.set_cons_succ])
                  refine wpAnyH_take (i := 20) (v := ?_) (by simp only [List.getElem?_toArray, List.getElem?_cons_succ, List.getElem?_cons_zero]; rfl) (by kernel_rfl) (by kernel_rfl) (by kernel_rfl) (by intro _ _ _ h; exact h) (Or.inl ⟨by rfl, ?_⟩) hH ?_; rotate_left; · ((intro w hSw); (try dsimp only at hSw); go_simp; (try with_reducible rfl); done)
                  (try simp only [Act.put, List.setIfInBounds_toArray, List.set_cons_zero, List.set_cons_succ])
                  refine wpAnyH_take (i := 21) (v := ?_) (by simp only [List.getElem?_toArray, List.getElem?_cons_succ, List.getElem?_cons_zero]; rfl) (by kernel_rfl) (by kernel_rfl) (by kernel_rfl) (by intro _ _ _ h; exact h) (Or.inl ⟨by rfl, ?_⟩) hH ?_; rotate_left; · ((intro w hSw); (try dsimp only at hSw); go_simp; (try with_reducible rfl); done)
                  (try simp only [Act.put, List.setIfInBounds_toArray, List.set_cons_zero, List.set_cons_succ])
                  refine wpAnyH_take (i := 22) (v := ?_) (by simp only [List.getElem?_toArray, List.getElem?_cons_succ, List.getElem?_cons_zero]; rfl) (by kernel_rfl) (by kernel_rfl) (by kernel_rfl) (by intro _ _ _ h; exact h) (Or.inl ⟨by rfl, ?_⟩) hH ?_; rotate_left; · ((intro w hSw); (try dsimp only at hSw); go_simp; (try with_reducible rfl); done)
                  (try simp only [Act.put, List.setIfInBounds_toArray, List.set_cons_zero, List.set_cons_succ])
                  refine wpAnyH_done (by kernel_rfl) ?_ _
                  go_wp2_with fail
                  go_roundw
                  case rel => go_light; exact ⟨k + 1, S2, A9, c9, by omega, by go_num, rfl, Lib.hid (by rw [if_neg (by omega)]), ⟨_, HO9.out⟩, HIE.out⟩
                  case measure => go_light; simp [intOf]; omega
                · have hs : (y.ba.toList == x.ba.toList) = false := by
                    have := HOT.out k y HYY.out hkK
                    cases h9 : (y.ba.toList == x.ba.toList)
                    · rfl
                    · exact absurd (ba_inj.1 (by simpa using h9)) this
                  have HSE := Lib.hid (show S' = if k + 1 ≤ K then S else S2 from by
                    rw [hS'.out]
                    by_cases h9 : k ≤ K
                    · rw [if_pos h9, if_pos (by omega)]
                    · rw [if_neg h9, if_neg (by omega)])
                  clear hS' hkK
                  go_wp2_with fail
                  (refine wp_region_grow_lit (by kernel_rfl) (by kernel_rfl) ?_; repeat (any_goals (first | go_big_quiet_step ((fail)) | quiet_step ((fail)) | (refine wpQuiet_step (fun K hK => ?_); go_simp; split <;> rename_i hsp <;> (refine hK _ ?_; clear hK K) <;> (try first | simp only [hsp, decide_true, decide_false, Bool.not_true, Bool.not_false] | simp only [Int.not_le.2 hsp, decide_false, Bool.not_false] | simp only [Int.not_lt.2 hsp, decide_false, Bool.not_false] | simp only [Nat.not_le.2 hsp, decide_false, Bool.not_false] | simp only [Nat.not_lt.2 hsp, decide_false, Bool.not_false])))))
                  all_goals (refine wpQuiet_nil ?_; intro w1 h1)
                  have HGI2 := Lib.hid (HGI.out.trans h1)
                  have HOB := Lib.hid (show ∃ b, Own Lt.E 36 w1 b (.slice T' S'.length c2) S' from by obtain ⟨b, hb⟩ := HOV.out; exact ⟨b, hb.grew h1⟩)
                  clear h1 HOV p0 p1 y0 y1 hs
                  go_wp2_with fail
                  go_roundw
                  case rel => go_light; exact ⟨k + 1, S', T', c2, by omega, by go_num, rfl, HSE, HOB.out, HGI2.out⟩
                  case measure => go_light; simp [intOf]; omega
              · obtain rfl : k = l.length := by omega
                have HSE := Lib.hid (show S' = S2 from by rw [hS'.out, if_neg (by omega)])
                clear hS'
                go_wp2_with fail
                go_roundw
                case rel =>
                  go_light
                  rw [HSE.out] at HOV ⊢
                  obtain ⟨L', R', qi', f1, f2, f3, f4⟩ := HNX.out
                  exact ⟨j + 1, S2, T', c2, by omega, by go_num, rfl, Lib.hid ⟨L', R', qi', f1, f2, f3, f4⟩, HOV.out, HG9.out⟩
                case measure => go_light; simp [intOf]; omega
          · obtain rfl : j = p.length := by omega
            have HSL := Lib.hid (show S = l from by
              obtain ⟨L, R, qi, e1, e2, e3, e4⟩ := hst.out
              rw [List.drop_length] at e3
              rw [e4, end_ day R qi e2 (fun y hy => HQP.out y (by rw [e1]; simp [hy])) e3.symm, e1])
            rw [HSL.out] at HOW ⊢
            have HOR := Lib.hid (show Rd Lt.E wr T l from by obtain ⟨b, hb⟩ := HOW.out; exact hb.rd)
            have HL9 := Lib.hid (HL8.out.grew HGR.out)
            clear hst HOW
            obtain ⟨wf, hwf⟩ : ∃ wf : World, wf = wr := ⟨_, rfl⟩
            subst hwf
            go_wp2_with fail
            go_loopw [16] (fun i wr => ∃ k : Nat, k ≤ l.length ∧ i = .int .i64 k ∧ Grew wf wr) (fun i _ => l.length - (intOf i).toNat)
            case atStart => exact ⟨0, Nat.zero_le _, rfl, Grew.refl _⟩
            case round =>
              obtain ⟨k, hk, rfl, hgk⟩ := hrel
              have HGK := Lib.hid hgk
              clear hgk
              by_cases hlk : k < l.length
              · obtain ⟨z, hz⟩ : ∃ y, l[k]? = some y := ⟨_, List.getElem?_eq_getElem hlk⟩
                obtain ⟨b1, o1, rfl, hb1, hc1⟩ := (HOR.out.grew HGK.out).at_ hlk
                obtain ⟨b2, o2, rfl, hb2, hc2⟩ := (HL9.out.grew HGK.out).at_ hlk
                obtain ⟨p0, p1, p2⟩ := Lt.at_ hc1 hz
                obtain ⟨q0, q1, q2⟩ := Lt.at_ hc2 hz
                have hi1 : (0 : Int) ≤ (k : Int) := by omega
                have hi2 : (k : Int) < (l.length : Int) := by omega
                clear hz hc1 hc2
                go_wp2_with fail
                (refine wp_region_grow_lit (by kernel_rfl) (by kernel_rfl) ?_; repeat (any_goals (first | go_big_quiet_step ((fail)) | quiet_step ((fail)) | (refine wpQuiet_step (fun K hK => ?_); go_simp; split <;> rename_i hsp <;> (refine hK _ ?_; clear hK K) <;> (try first | simp only [hsp, decide_true, decide_false, Bool.not_true, Bool.not_false] | simp only [Int.not_le.2 hsp, decide_false, Bool.not_false] | simp only [Int.not_lt.2 hsp, decide_false, Bool.not_false] | simp only [Nat.not_le.2 hsp, decide_false, Bool.not_false] | simp only [Nat.not_lt.2 hsp, decide_false, Bool.not_false])))))
                all_goals (refine wpQuiet_nil ?_; intro w1 h1)
                go_wp2_with fail
                go_roundw
                case rel => go_light; exact ⟨k + 1, by omega, by go_num, HGK.out.trans h1⟩
                case measure => go_light; simp [intOf]; omega
              · obtain rfl : k = l.length := by omega
                go_wp2_with fail
                go_ret
                go_light
                exact ⟨ret_bool (by simp), (HG8.out.trans HGR.out).trans HGK.out⟩

set_option maxRecDepth 100000 in
theorem lifted (os : Os) (started : os.Started) (H : Type) (enc : TypeId × Value → H) :
    ReturnsInHanded {} Try.checked os 8 .any (Rows.fnPicksSpec.pre6 enc Try.prog Try.f8 Rows.fnPicksRow.domain false) (Rows.fnPicksSpec.post enc Try.prog Try.f8 false true false false) := by
  refine returnsInHanded_of_change (C := Try.checked) own started (by kernel_rfl) Try.func8
    (ChangeSpec.witness6 (enc := enc) (C := Try.checked) false ⟨#[], #[.slice none 0 0], []⟩ 8 (by kernel_rfl) (by kernel_rfl) (by kernel_rfl) (by kernel_rfl)) ?_
  intro W base args ds gs before hval0 hW hcnd _
  have hval : ∀ (j : Nat) t v, Try.f8.params[j]? = some t → args[j]? = some v → Value.okWide Try.prog W .any base t v := hval0
  have hW' := hW
  obtain ⟨p, q, hA0, hV, rfl, hfz, hnd⟩ := hW
  have hA : DataW.TrodAll enc Try.prog W 0 (fun _ => true) true Try.f8.params.toList args.toList ds p := hA0
  rw [Try.params8] at hA hval
  obtain ⟨v0, vs0, d0, ds0, p0, q0, hargs, rfl, rfl, h0, r0⟩ := trodAll_cons hA
  obtain ⟨rfl, rfl, rfl⟩ := trodAll_nil r0
  obtain rfl : args = #[v0] := by cases args; simp_all
  obtain ⟨code, A, c, rfl, r_code, q1_code, q2_code⟩ := Byt.open_ (hval 0 50 v0 rfl rfl) h0
  refine (walk W code A c r_code ⟨q1_code, q2_code⟩).mono fun e W' ⟨he, hg⟩ => ?_
  subst he
  exact ⟨_, rfl, law_step (tb := 4) laidOut (by rw [Try.params8]; exact pars_of (by kernel_rfl)) rfl hW' rfl rfl rfl (by kernel_rfl) Try.underlying4 hg⟩

theorem over : Rows.fnPicksRow.holds Try.pinned (OpenSpec.ofChange Rows.fnPicksSpec) :=
  OpenClaim.holds_of_wide 8 Try.f8 rfl rfl rfl rfl rfl rfl rfl ⟨rfl, rfl, rfl, rfl, rfl⟩ rfl rfl rfl rfl rfl (by kernel_rfl) Try.func8 (by kernel_rfl)
    (of_decide_eq_true (by kernel_rfl)) (by unfold Func.isWrapper; first | (rw [if_pos (by decide +kernel)]; kernel_rfl) | (rw [if_neg (by decide +kernel)]; exact ⟨rfl, rfl⟩))
    (fun os started H enc _ => lifted os started H enc)

theorem proved : Rows.FnPicksSaid := over
end fnPicks
end Go.Proofs.Ytcphlancaahihaa
