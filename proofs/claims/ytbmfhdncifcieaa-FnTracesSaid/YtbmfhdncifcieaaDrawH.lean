/- The draws of uses and of two batches: at most eight uses, each well formed; nothing old is written. Conditions: none. -/
import Derived.Test.YtbmfhdncifcieaaDrawG
import Derived.Test.YtbmfhdncifcieaaCurs
import Derived.Deep.RegionHeld3
namespace Go.Proofs.Ytbmfhdncifcieaa
open Go.RowKit Go.ChangeShapes Go.WideShapes Go.Deep
set_option linter.unusedVariables false
set_option linter.unusedSimpArgs false

theorem names6_ok {x y : ByteArray} {q : Int} (hx : x ∈ names6) (hy : y ∈ names6) (h0 : 0 ≤ q) (h1 : q ≤ 9) : (⟨x, y, q⟩ : Use).Ok := by
  have h2 := names6_size hx
  have h3 := names6_size hy
  unfold Use.Ok maxLen
  refine ⟨trivial, by simp only; omega, by simp only; omega, ?_, trivial⟩
  unfold Lit.wf
  simp only [Bool.and_eq_true, decide_eq_true_eq]
  exact ⟨by show (-9223372036854775808 : Int) ≤ q; omega, by show q ≤ (9223372036854775807 : Int); omega⟩

set_option maxRecDepth 100000 in
set_option maxHeartbeats 4000000 in
theorem l30Uses_any (w : World) (g c : Nat) (A : Option Addr) (l : List UInt8) (h : Cur w g A c l) :
    Calls Try.prog 45 #[.pointer (some ⟨g, 0, none⟩)] w fun e w' => ∃ (m : List Use) (B : Option Addr) (d : Nat), e = .returned (.slice B m.length d) ∧ m.length ≤ 8 ∧ (∀ x ∈ m, x.Ok) ∧ Own Use.E 50 w' w.heap.size (.slice B m.length d) m ∧ Cur w' g A c l ∧ w.grownBy w' (some g) := by
  have HC := Lib.hid h
  have H0 := Lib.hid h.2.2.2.2.2.1
  have hgw : g < w.heap.size := h.1
  clear h
  go_enter Try.func45, Try.ntmps45
  go_wp2_with fail
  refine (l1Below_any _ _ _ _ _ 8 (HC.out.grew (((Grew.refl _).alloc _).alloc _)) (by omega)).mono ?_; rintro e w1 ⟨n, rfl, hn0, hn1, hn2, hc1, hg1⟩
  have HO1 := Lib.hid ((Own.new_ (E := Use.E) (t := 50) (base := w.heap.size + 1) (by simp)).kept hg1 (.inr (by simp [Value.ownBlock]; omega)))
  have HN1 := Lib.hid (((rd_flat (E := Str.E) w names6 _).grew ((Grew.refl _).alloc _)).cur hg1 (by omega))
  have HC1 := Lib.hid hc1
  have HG1 := Lib.hid ((only_grew (World.grownBy.refl _ _) (((Grew.refl w).alloc _).alloc _)).trans hg1)
  have hn3 := hn1 (by omega)
  clear hc1 hg1 hn1 hn2
  go_wp2_with fail
  go_loopw [4, 5] (fun v k wr => ∃ (m : List Use) (j : Int), 0 ≤ j ∧ m.length + j ≤ 7 ∧ k = .int .i64 j ∧ Own Use.E 50 wr (w.heap.size + 1) v m ∧ (∀ x ∈ m, x.Ok) ∧ Rd Str.E wr (some ⟨w.heap.size, 0, none⟩) names6 ∧ Cur wr g A c l ∧ w.grownBy wr (some g)) (fun _ k _ => (intOf k).toNat)
  case atStart => exact ⟨[], n, hn0, by simp; omega, rfl, by simpa using HO1.out, fun x hx => by simp at hx, HN1.out, HC1.out, HG1.out⟩
  case round =>
    obtain ⟨m, j, hj0, hj1, rfl, hown, hok, hnm, hcur, hgr⟩ := hrel
    have HO := Lib.hid hown
    have HOK := Lib.hid hok
    have HN := Lib.hid hnm
    have HCU := Lib.hid hcur
    have HG := Lib.hid hgr
    obtain ⟨B, d, rfl⟩ := hown.slice
    clear hown hcur hgr hok hnm
    by_cases hj : 0 < j
    · go_wp2_with fail
      refine (l1Below_any _ _ _ _ _ 5 HCU.out (by omega)).mono ?_; rintro e w2 ⟨a, rfl, ha0, ha1, ha2, hc2, hg2⟩
      have HO2 := Lib.hid (HO.out.kept hg2 (.inr (HO.out.ne_ (.inl (by omega)))))
      have HN2 := Lib.hid (HN.out.cur hg2 (by omega))
      have HC2 := Lib.hid hc2
      have HG2 := Lib.hid (HG.out.trans hg2)
      have ha3 := ha1 (by omega)
      clear hc2 hg2 ha1 ha2
      go_wp2_with fail
      refine (l1Below_any _ _ _ _ _ (5 - a) HC2.out (by omega)).mono ?_; rintro e w3 ⟨y, rfl, hy0, hy1, hy2, hc3, hg3⟩
      have HO3 := Lib.hid (HO2.out.kept hg3 (.inr (HO2.out.ne_ (.inl (by omega)))))
      have HN3 := Lib.hid (HN2.out.cur hg3 (by omega))
      have HC3 := Lib.hid hc3
      have HG3 := Lib.hid (HG2.out.trans hg3)
      have hy3 := hy1 (by omega)
      clear hc3 hg3 hy1 hy2
      obtain ⟨b, hb⟩ : ∃ b, b = a + 1 + y := ⟨_, rfl⟩
      obtain ⟨na, rfl⟩ := Int.eq_ofNat_of_zero_le ha0
      obtain ⟨nb, rfl⟩ := Int.eq_ofNat_of_zero_le (show 0 ≤ b by omega)
      have hna : na < names6.length := by show na < 6; omega
      have hnb : nb < names6.length := by show nb < 6; omega
      obtain ⟨xa, hxa⟩ : ∃ x, names6[na]? = some x := ⟨_, List.getElem?_eq_getElem hna⟩
      obtain ⟨xb, hxb⟩ : ∃ x, names6[nb]? = some x := ⟨_, List.getElem?_eq_getElem hnb⟩
      have HXA := Lib.hid (List.mem_of_getElem? hxa)
      have HXB := Lib.hid (List.mem_of_getElem? hxb)
      have HNC := Lib.hid (fun (w' : World) (hw : Rd Str.E w' (some ⟨w.heap.size, 0, none⟩) names6) => (show w'.cell? ⟨w.heap.size, na, none⟩ = some (.string xa) ∧ w'.cell? ⟨w.heap.size, nb, none⟩ = some (.string xb) by
        obtain ⟨b0, o0, e0, _, hc0⟩ := hw (by decide)
        simp only [Option.some.injEq, Addr.mk.injEq, and_true] at e0
        obtain ⟨rfl, rfl⟩ := e0
        have h1 := Str.at_ hc0 hxa
        have h2 := Str.at_ hc0 hxb
        simp only [Nat.zero_add] at h1 h2
        exact ⟨h1, h2⟩))
      clear hxa hxb hna hnb
      go_wp2_with fail
      have hi1 : (na : Int) < 6 := by omega
      have hi2 : (nb : Int) < 6 := by omega
      rw [← hb]
      clear hb
      have hi3 : (0 : Int) ≤ (nb : Int) := by omega
      obtain ⟨hk0, hk1⟩ := HNC.out w3.drew HN3.out
      have HC3D := Lib.hid (show Cur w3.drew g A c l from HC3.out)
      have HO3D := Lib.hid (HO3.out.drew)
      have HN3D := Lib.hid (show Rd Str.E w3.drew _ _ from HN3.out)
      have HG3D := Lib.hid (show w.grownBy w3.drew (some g) from ⟨HG3.out.os, HG3.out.tape, HG3.out.output, HG3.out.size, HG3.out.block⟩)
      go_region_held3 (fun w' => w'.cell? ⟨w.heap.size, na, none⟩ = some (.string xa) ∧ w'.cell? ⟨w.heap.size, nb, none⟩ = some (.string xb))
        (first | (with_reducible exact ⟨hd0, hd1⟩) | (with_reducible exact ⟨hk0, hk1⟩) | (with_reducible exact HNC.out _ (HN4.out.grew ((Grew.refl _).alloc _))))
        ((first
          | (go_at_call 48; (with_reducible refine (l1Below_any _ _ _ _ _ 9 HC3D.out (by omega)).mono ?_); rintro e w4 ⟨q, rfl, hq0, hq1, hq2, hc4, hg4⟩; have hq3 := hq1 (by omega); have HO4 := Lib.hid (HO3D.out.kept hg4 (.inr (HO3D.out.ne_ (.inl (by omega))))); have HN4 := Lib.hid (HN3D.out.cur hg4 (by omega)); have HC4 := Lib.hid hc4; have HG4 := Lib.hid (HG3D.out.trans hg4); clear hc4 hg4 hq1 hq2; have hwq : IntKind.i64.wrap (1 + q) = 1 + q := IntWalk.i64_in _ (by omega); obtain ⟨hd0, hd1⟩ := HNC.out w4 HN4.out)
          | (refine step_append_rd _ rfl (.tmp 25) (.tmp 38) _ rfl sl_Use (w.heap.size + 1) _ _ _ m rfl (Own.alloc HO4.out _) _ _ _ [⟨xa, xb, 1 + q⟩] rfl rfl (rd_new (E := Use.E) _ ⟨xa, xb, 1 + q⟩ _ rfl) (by simp only [List.length_cons, List.length_nil]; omega) (by have := HG4.out.size; simp; omega) ?_; intro A5 c5 w5 ho5 hgr5 hat5; have HO5 := Lib.hid ho5; have HN5 := Lib.hid ((HN4.out.grew ((Grew.refl _).alloc _)).app (Own.alloc HO4.out _) (by omega) hgr5); have HC5 := Lib.hid ((HC4.out.grew ((Grew.refl _).alloc _)).app H0.out (by omega) (by omega) (Own.alloc HO4.out _) hgr5); have HG5 := Lib.hid (only_app (only_grew HG4.out ((Grew.refl _).alloc _)) (Own.alloc HO4.out _) (by omega) hgr5); clear ho5 hgr5 hat5; obtain ⟨hd0, hd1⟩ := HNC.out w5 HN5.out)))
      all_goals
        go_wp2_with fail
        go_roundw
        case rel =>
          go_light
          exact ⟨m ++ [⟨xa, xb, 1 + q⟩], _, by omega, by simp; omega, rfl, HO5.out, fun x hx => by rcases List.mem_append.1 hx with hx | hx; exact HOK.out x hx; (obtain rfl : x = ⟨xa, xb, 1 + q⟩ := by simpa using hx); exact names6_ok HXA.out HXB.out (by omega) (by omega), HN5.out, HC5.out, HG5.out⟩
        case measure => go_light; simp [intOf]; omega
    · go_wp2_with fail
      refine (l1Once_any _ _ _ _ _ 14 HCU.out (by omega)).mono ?_; rintro e w2 ⟨x, rfl, hc2, hg2⟩
      have HO2 := Lib.hid (HO.out.kept hg2 (.inr (HO.out.ne_ (.inl (by omega)))))
      have HC2 := Lib.hid hc2
      have HG2 := Lib.hid (HG.out.trans hg2)
      clear hc2 hg2
      cases x
      · go_wp2_with fail
        go_ret
        go_light
        exact ⟨m, B, d, rfl, by omega, HOK.out, HO2.out.mono (by omega), HC2.out, HG2.out⟩
      · go_wp2_with fail
        refine (l30Batch_any _ _ _ _ _ HC2.out HC2.out.1).mono ?_; rintro e w3 ⟨xa, rfl, hxa, hc3, hg3⟩
        have HO3 := Lib.hid (HO2.out.kept hg3 (.inr (HO2.out.ne_ (.inl (by omega)))))
        have HC3 := Lib.hid hc3
        have HG3 := Lib.hid (HG2.out.trans hg3)
        have HXA := Lib.hid hxa
        clear hc3 hg3 hxa
        go_wp2_with fail
        refine (l30Batch_any _ _ _ _ _ HC3.out HC3.out.1).mono ?_; rintro e w4 ⟨xb, rfl, hxb, hc4, hg4⟩
        have HO4 := Lib.hid (HO3.out.kept hg4 (.inr (HO3.out.ne_ (.inl (by omega)))))
        have HC4 := Lib.hid hc4
        have HG4 := Lib.hid (HG3.out.trans hg4)
        have HXB := Lib.hid hxb
        clear hc4 hg4 hxb
        go_wp2_with fail
        refine (l1Below_any _ _ _ _ _ 3 HC4.out (by omega)).mono ?_; rintro e w5 ⟨q, rfl, hq0, hq1, hq2, hc5, hg5⟩
        have HO5 := Lib.hid (HO4.out.kept hg5 (.inr (HO4.out.ne_ (.inl (by omega)))))
        have HC5 := Lib.hid hc5
        have HG5 := Lib.hid (HG4.out.trans hg5)
        have hq3 := hq1 (by omega)
        clear hc5 hg5 hq1 hq2
        go_wp2_with (at_builtin; refine wpList_append_rd _ rfl (.tmp 42) (.tmp 50) _ rfl sl_Use (w.heap.size + 1) _ _ _ m rfl (Own.alloc HO5.out _) _ _ _ [⟨xa, xb, q⟩] rfl rfl (rd_new (E := Use.E) _ ⟨xa, xb, q⟩ _ rfl) (by simp only [List.length_cons, List.length_nil]; omega) (by have := HG5.out.size; simp; omega) ?_; intro A6 c6 w6 ho6 hgr6 hat6)
        go_ret
        go_light
        refine ⟨m ++ [⟨xa, xb, q⟩], A6, c6, ret_val (by simp), by simp; omega, fun x hx => ?_, ?_, (HC5.out.grew ((Grew.refl _).alloc _)).app H0.out (by omega) (by omega) (Own.alloc HO5.out _) hgr6, only_app (only_grew HG5.out ((Grew.refl _).alloc _)) (Own.alloc HO5.out _) (by omega) hgr6⟩
        · rcases List.mem_append.1 hx with hx | hx
          · exact HOK.out x hx
          · obtain rfl : x = ⟨xa, xb, q⟩ := by simpa using hx
            exact names6_ok HXA.out HXB.out (by omega) (by omega)
        · have := ho6.mono (b := w.heap.size) (by omega)
          simpa using this

set_option maxHeartbeats 2000000 in
theorem drawTracePath_any (w : World) (c : Nat) (A : Option Addr) (l : List UInt8) (h : Rd Byt.E w A l) (hl : l.length ≤ 1048576) :
    Calls Try.prog 24 #[.slice A l.length c] w fun e w' => ∃ (m : List Use) (B : Option Addr) (d : Nat) (a b : ByteArray), e = .returned (.tuple #[.slice B m.length d, .string a, .string b]) ∧ m.length ≤ 8 ∧ (∀ x ∈ m, x.Ok) ∧ Rd Use.E w' B m ∧ a ∈ names6 ∧ b ∈ names6 ∧ Grew w w' := by
  have HL := Lib.hid h
  clear h
  go_enter Try.func24, Try.ntmps24
  go_wp2_with fail
  refine (l1New_any _ _ _ _ HL.out hl).mono ?_; rintro e w1 ⟨g, rfl, hc1, hg1, hgs⟩
  have HC1 := Lib.hid hc1
  have HG1 := Lib.hid hg1
  have hgw : g < w1.heap.size := hc1.1
  clear hc1 hg1
  go_wp2_with fail
  refine (l30Uses_any _ _ _ _ _ HC1.out).mono ?_; rintro e w2 ⟨m, B, d, rfl, hml, hok, ho2, hc2, hg2⟩
  have HO2 := Lib.hid ho2
  have HOK := Lib.hid hok
  have HC2 := Lib.hid hc2
  have HG2 := Lib.hid (grew_only HG1.out hg2 hgs)
  clear ho2 hok hc2 hg2
  go_wp2_with fail
  refine (l30Batch_any _ _ _ _ _ HC2.out HC2.out.1).mono ?_; rintro e w3 ⟨xa, rfl, hxa, hc3, hg3⟩
  have HO3 := Lib.hid (HO2.out.kept hg3 (.inr (HO2.out.ne_ (.inl hgw))))
  have HC3 := Lib.hid hc3
  have HG3 := Lib.hid (grew_only HG2.out hg3 hgs)
  have HXA := Lib.hid hxa
  clear hc3 hg3 hxa
  go_wp2_with fail
  refine (l30Batch_any _ _ _ _ _ HC3.out HC3.out.1).mono ?_; rintro e w4 ⟨xb, rfl, hxb, hc4, hg4⟩
  have HO4 := Lib.hid (HO3.out.kept hg4 (.inr (HO3.out.ne_ (.inl hgw))))
  have HG4 := Lib.hid (grew_only HG3.out hg4 hgs)
  have HXB := Lib.hid hxb
  clear hc4 hg4 hxb
  go_wp2_with fail
  go_ret3
  go_light
  exact ⟨m, B, d, xa, xb, rfl, hml, HOK.out, HO4.out.rd, HXA.out, HXB.out, HG4.out⟩
end Go.Proofs.Ytbmfhdncifcieaa
