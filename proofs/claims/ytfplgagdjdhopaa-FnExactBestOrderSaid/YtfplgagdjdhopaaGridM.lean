/- Slices of slices of int: the marks that the laws write into an argument's copy touch its own blocks alone. Conditions: none. -/
import Derived.Test.YtfplgagdjdhopaaGrid
import Derived.Test.YtfplgagdjdhopaaIntsM
import Derived.Test.YtfplgagdjdhopaaOwn
namespace Go.Proofs.Ytfplgagdjdhopaa
open Go.RowKit Go.ChangeShapes Go.WideShapes Go.Deep
set_option linter.unusedVariables false
set_option linter.unusedSimpArgs false

/-- Of what w has, only the blocks from lo on and below hi may have changed. -/
def Touch (w w' : World) (lo hi : Nat) : Prop :=
  w'.os = w.os ∧ w'.tape = w.tape ∧ w'.output = w.output ∧ w.heap.size ≤ w'.heap.size ∧ ∀ j, j < w.heap.size → (j < lo ∨ hi ≤ j) → w'.heap[j]? = w.heap[j]?
theorem Touch.refl (w : World) (lo hi : Nat) : Touch w w lo hi := ⟨rfl, rfl, rfl, Nat.le_refl _, fun _ _ _ => rfl⟩
theorem Touch.by_ {w w' w'' : World} {lo hi g : Nat} (h : Touch w w' lo hi) (k : w'.grownBy w'' (some g)) (h1 : lo ≤ g) (h2 : g < hi) : Touch w w'' lo hi :=
  ⟨k.os.trans h.1, k.tape.trans h.2.1, k.output.trans h.2.2.1, Nat.le_trans h.2.2.2.1 k.size, fun j hj hr => (k.block j (Nat.lt_of_lt_of_le hj h.2.2.2.1) (fun e => by injection e with e; omega)).trans (h.2.2.2.2 j hj hr)⟩
theorem Touch.grew {a w w' : World} {lo hi : Nat} (h : Touch w w' lo hi) (g : Grew a w) (hb : a.heap.size ≤ lo) : Grew a w' :=
  ⟨h.1.trans g.os, h.2.1.trans g.tape, h.2.2.1.trans g.output, Nat.le_trans g.size h.2.2.2.1, fun j hj => (h.2.2.2.2 j (Nat.lt_of_lt_of_le hj g.size) (.inl (by omega))).trans (g.block j hj)⟩
theorem Own.kept3 {T : Type} {E : Enc T} {t : TypeId} {w w' : World} {base lo hi : Nat} {v : Value} {l : List T} (h : Own E t w base v l) (k : Touch w w' lo hi) (hb : hi ≤ base) : Own E t w' base v l := by
  refine ⟨h.1, ?_⟩
  rcases h.2 with h0 | ⟨g, cap, cur, e, h1, h2, r⟩
  · exact .inl h0
  · exact .inr ⟨g, cap, cur, e, h1, (k.2.2.2.2 g (Array.getElem?_eq_some_iff.1 h2).1 (.inr (by omega))).trans h2, r⟩
def totR (L : List (List Int)) : Nat → Nat
  | 0 => 0
  | k + 1 => totR L k + (L.getD k []).length
theorem totR_step {L : List (List Int)} {k : Nat} {m : List Int} (h : L[k]? = some m) : totR L (k + 1) = totR L k + m.length := by simp [totR, List.getD_eq_getElem?_getD, h]

set_option maxHeartbeats 2000000 in
theorem markIntSS_any (L : List (List Int)) (base : Nat) (A : Option Addr) (c : Nat) (wx w : World) (h : OwnM wx base (.slice A L.length c) L) (g : Grew wx w) (hn : L.length ≤ 1048576) (hr : ∀ m ∈ L, m.length ≤ 1048576) :
    Calls Try.prog 19 #[.slice A L.length c, .int .i64 1] w fun e w' => e = .returned (.int .i64 (1 + (totR L L.length : Int))) ∧ True ∧
      Touch w w' base wx.heap.size ∧ ∀ a : World, Grew a w → a.heap.size ≤ base → Grew a w' := by
  obtain ⟨rs, hrs, ho, hrow, hpw, hvb⟩ := h
  have hlen : rs.length = L.length := by rw [← hrs, List.length_map]
  have HRS := Lib.hid hrs
  have HLEN := Lib.hid hlen
  have HO := Lib.hid ho
  have HROW := Lib.hid hrow
  have HPW := Lib.hid hpw
  have HR := Lib.hid hr
  have HG := Lib.hid g
  clear hrs ho hrow hpw hr g hlen
  have HTB : Hid (∀ k, k ≤ L.length → totR L k ≤ k * 1048576) := Lib.hid (fun k => by
    induction k with
    | zero => intro _; simp [totR]
    | succ k ih =>
      intro hk
      have h1 := ih (by omega)
      have h2 := HR.out (L.getD k []) (by rw [List.getD_eq_getElem?_getD, List.getElem?_eq_getElem (by omega)]; exact List.getElem_mem _)
      simp only [totR]
      omega)
  go_enter Try.func19, Try.ntmps19
  go_wp2_with fail
  go_loopw [1, 5] (fun t i wr => ∃ k : Nat, k ≤ L.length ∧ i = .int .i64 k ∧ t = .int .i64 (1 + (totR L k : Int)) ∧ Own Row.E 27 wr base (.slice A L.length c) rs ∧ (∀ j, k ≤ j → ∀ x, rs[j]? = some x → Own IntS.E 3 wr (base + 1) (.slice x.A x.l.length x.c) x.l) ∧ Touch w wr base wx.heap.size) (fun _ i _ => L.length - (intOf i).toNat)
  case atStart => exact ⟨0, Nat.zero_le _, rfl, by simp [totR], HO.out.grew HG.out, fun j _ x hx => (HROW.out x (List.mem_of_getElem? hx)).grew HG.out, Touch.refl _ _ _⟩
  case round =>
    obtain ⟨k, hk, rfl, rfl, hown, hrows, htc⟩ := hrel
    have HOW := Lib.hid hown
    have HRW := Lib.hid hrows
    have HT := Lib.hid htc
    have htb := HTB.out k hk
    clear hown hrows htc
    by_cases hlt : k < L.length
    · obtain ⟨x, hx⟩ : ∃ x, rs[k]? = some x := ⟨_, List.getElem?_eq_getElem (by rw [HLEN.out]; exact hlt)⟩
      have hm : L[k]? = some x.l := by rw [← HRS.out, List.getElem?_map, hx]; rfl
      have hml := HR.out _ (List.mem_of_getElem? hm)
      have HTS := Lib.hid (totR_step hm)
      obtain ⟨b, o, rfl, hb, hc⟩ := HOW.out.rd.at_ (k := k) (by rw [HLEN.out]; exact hlt)
      obtain rfl : base = b := (hvb b rfl).symm
      have hcx := Row.at_ hc hx
      have HX := Lib.hid hx
      have HXO := Lib.hid (HRW.out k (Nat.le_refl _) x hx)
      have hb0 := (HO.out.block base rfl).1
      have hb1 := (HO.out.block base rfl).2
      obtain ⟨xl, xA, xc⟩ := x
      simp only at *
      clear hx hm hc
      generalize totR L k = tk at *
      have htb2 : tk ≤ 1048575 * 1048576 := Nat.le_trans htb (Nat.mul_le_mul_right _ (by omega))
      have hi1 : (k : Int) < (L.length : Int) := by omega
      clear htb
      rcases Nat.eq_zero_or_pos xl.length with hl0 | hl0
      · obtain rfl : xl = [] := List.eq_nil_of_length_eq_zero hl0
        go_wp2_with fail
        refine (markIntS_nil xA xc _ _ (by omega)).mono ?_; rintro e w' ⟨rfl, rfl⟩
        go_wp2_with fail
        go_roundw
        case rel => go_light; exact ⟨k + 1, by omega, by go_num, by rw [HTS.out]; simp, HOW.out, fun j hj x hx => HRW.out j (by omega) x hx, HT.out⟩
        case measure => go_light; simp [intOf]; omega
      · obtain ⟨g, d, hv, hg0, hg1⟩ := HXO.out.addr hl0
        simp only [Value.slice.injEq, true_and] at hv
        obtain ⟨rfl, rfl⟩ := hv
        have hg2 : g < wx.heap.size := ((HROW.out _ (List.mem_of_getElem? HX.out)).block g rfl).2
        go_wp2_with fail
        refine (markIntS_any xl _ g xc _ _ HXO.out (by omega) (by omega) (by omega)).mono ?_; rintro e w' ⟨rfl, ho', hgr⟩
        have HN := Lib.hid (HOW.out.kept hgr (.inr (by simp only [Value.ownBlock]; intro e; injection e with e; omega)))
        have HRN := Lib.hid (show ∀ j, k + 1 ≤ j → ∀ x, rs[j]? = some x → Own IntS.E 3 w' _ (.slice x.A x.l.length x.c) x.l from fun j hj x hx => by
          refine (HRW.out j (by omega) x hx).kept hgr ?_
          cases hob : (Value.slice x.A x.l.length x.c).ownBlock with
          | none => exact .inl rfl
          | some q =>
            refine .inr fun e => ?_
            injection e with e
            subst e
            have h9 := List.pairwise_iff_getElem.1 HPW.out k j (List.getElem?_eq_some_iff.1 HX.out).1 (List.getElem?_eq_some_iff.1 hx).1 (by omega)
            rw [(List.getElem?_eq_some_iff.1 HX.out).2, (List.getElem?_eq_some_iff.1 hx).2] at h9
            exact h9 q rfl hob)
        have HTN := Lib.hid (HT.out.by_ hgr (by omega) hg2)
        clear ho' hgr
        go_wp2_with fail
        go_roundw
        case rel => go_light; exact ⟨k + 1, by omega, by go_num, by rw [HTS.out]; congr 1; push_cast; omega, HN.out, HRN.out, HTN.out⟩
        case measure => go_light; simp [intOf]; omega
    · obtain rfl : k = L.length := by omega
      go_wp2_with fail
      go_ret
      go_light
      exact ⟨rfl, trivial, HT.out, fun a ha hle => HT.out.grew ha hle⟩
end Go.Proofs.Ytfplgagdjdhopaa
