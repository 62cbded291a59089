/- What is reached from a batch: the program's way and the reference's way return what a plain function returns. Conditions: none. -/
import Derived.Test.YtbmfhdncifcieaaUse
namespace Go.Proofs.Ytbmfhdncifcieaa
open Go.RowKit Go.ChangeShapes Go.WideShapes Go.Deep
set_option linter.unusedVariables false
set_option linter.unusedSimpArgs false

theorem Own.one {T : Type} {E : Enc T} {t : TypeId} {w : World} {base : Nat} (hb : base ≤ w.heap.size) (x : T) : Own E t (w.alloc (.cells (E.enc x).toArray t)) base (.slice (some ⟨w.heap.size, 0, none⟩) 1 1) [x] :=
  ⟨by simp [flat, E.len], .inr ⟨w.heap.size, 1, (E.enc x).toArray, rfl, hb, heap_alloc_new w _, Nat.le_refl _, by decide, by simp [E.len], by
    have : ((E.enc x).toArray.toList).take (1 * E.sz) = E.enc x := by rw [Nat.one_mul, ← E.len x]; simp
    simpa [flat] using this⟩⟩
/-- Two slices lie in different blocks. -/
def Sep (v v' : Value) : Prop := ∀ k, v.ownBlock = some k → v'.ownBlock ≠ some k
theorem Sep.ne {v v' : Value} (h : Sep v v') : v.ownBlock = none ∨ v.ownBlock ≠ v'.ownBlock := by
  cases hv : v.ownBlock with
  | none => exact .inl rfl
  | some k => exact .inr fun e => h k hv e.symm
theorem Sep.symm {v v' : Value} (h : Sep v v') : Sep v' v := fun k h1 h2 => h k h2 h1
theorem Sep.at_ {v v' u : Value} {n : Nat} (h : Sep v v') (hn : ∀ k, v'.ownBlock = some k → k < n) (ha : u.ownBlock = v.ownBlock ∨ u.ownBlock = some n) : Sep u v' := by
  intro k h1 h2
  rcases ha with ha | ha
  · exact h k (by rw [← ha]; exact h1) h2
  · have := hn k h2
    rw [ha] at h1
    simp only [Option.some.injEq] at h1
    omega

set_option maxHeartbeats 4000000 in
theorem walk_spec (up : Bool) (l : List Use) (A : Option Addr) (c : Nat) (b : ByteArray) (w : World) (h : Rd Use.E w A l) (hn : l.length ≤ 4194304) :
    Calls Try.prog 32 #[.slice A l.length c, .string b, .bool up] w fun e w' => ∃ A' c', e = .returned (.slice A' (trF up l b).1.tail.length c') ∧ Rd Str.E w' A' (trF up l b).1.tail ∧ Grew w w' := by
  have HL := Lib.hid h
  have HEND := Lib.hid (fun i => trTo_end (up := up) (l := l) (b := b) (i := i))
  have HOK := Lib.hid (fun i => (trTo_ok up l b i))
  have HPOS := Lib.hid (fun i => trTo_pos up l b i)
  clear h
  go_enter Try.func32, Try.ntmps32
  go_wp2_with fail
  go_loopw [7, 8] (fun v i wr => ∃ n : Nat, i = .int .i64 n ∧ n ≤ (trTo up l b n).1.length ∧ Own Str.E 9 wr w.heap.size v (trTo up l b n).1 ∧ Grew w wr) (fun _ i _ => l.length + 1 - (intOf i).toNat)
  case atStart => exact ⟨0, rfl, by simp, Own.one (Nat.le_refl _) b, (Grew.refl w).alloc _⟩
  case round =>
    obtain ⟨n, rfl, hnl, hown, hg⟩ := hrel
    have HO := Lib.hid hown
    have HG := Lib.hid hg
    have hbd := (HOK.out n).le
    have HT := Lib.hid (show n < (trTo up l b n).1.length → trTo up l b (n + 1) = trScan up l ((trTo up l b n).1.getD n str0) n (trTo up l b n) l.length from fun hh => by rw [trTo, if_pos hh])
    have HE := Lib.hid (HEND.out n)
    have HKP := Lib.hid (fun (hh : n < (trTo up l b n).1.length) k hk => trScan_keep (up := up) (l := l) (b := (trTo up l b n).1.getD n str0) (i := n) hh k hk)
    have HSO := Lib.hid (fun k hk => (trScan_ok (c := (trTo up l b n).1.getD n str0) (i := n) (HOK.out n) k hk).le)
    clear hown hg
    generalize hs : trTo up l b n = s at *
    obtain ⟨A0, c0, rfl⟩ := HO.out.slice
    by_cases hlt : n < s.1.length
    · generalize hcb : s.1.getD n str0 = cb at *
      go_wp2_with fail
      go_loopw [7, 9] (fun v i wr => ∃ k : Nat, k ≤ l.length ∧ i = .int .i64 k ∧ Own Str.E 9 wr w.heap.size v (trScan up l cb n s k).1 ∧ Grew w wr) (fun _ i _ => l.length - (intOf i).toNat)
      case atStart => exact ⟨0, Nat.zero_le _, rfl, by simpa [trScan] using HO.out, HG.out⟩
      case round =>
        obtain ⟨k, hk, rfl, hown, hg⟩ := hrel
        have HO2 := Lib.hid hown
        have HG2 := Lib.hid hg
        obtain ⟨hkp1, hkp2⟩ := HKP.out hlt k hk
        have hbd2 := HSO.out k hk
        clear hown hg
        by_cases hkl : k < l.length
        · obtain ⟨x, hx⟩ : ∃ x, l[k]? = some x := ⟨_, List.getElem?_eq_getElem hkl⟩
          have HS := Lib.hid (trScan_step (up := up) (b := cb) (i := n) (s := s) hx)
          obtain ⟨bl, o, rfl, hb, hc⟩ := (HL.out.grew HG2.out).at_ hkl
          obtain ⟨hc0, hc1, hc2⟩ := Use.at_ hc hx
          clear hx hc
          generalize trScan up l cb n s k = r at *
          obtain ⟨A1, c1, rfl⟩ := HO2.out.slice
          have hnr : n < r.1.length := by omega
          obtain ⟨b2, o2, e2, hb2, hcc⟩ := HO2.out.rd.at_ hnr
          have hy : r.1[n]? = some cb := by rw [← hkp2, List.getD_eq_getElem?_getD, List.getElem?_eq_getElem hnr]; rfl
          have hcy := Str.at_ hcc hy
          cases e2
          clear hcc hy
          cases up
          · by_cases heq : x.fr.toList = cb.toList
            · have hdd : (x.fr.toList == cb.toList) = true := by simpa using heq
              by_cases hf : fnd x.nt r.1 < r.1.length
              · have HC := Lib.hid (show trStep false cb n r x = r by simp only [trStep]; rw [if_neg (fun hh => hh.2 hf)])
                have hfi : decide (findI x.nt r.1 < 0) = false := decide_eq_false (fun hh => findI_neg.1 hh hf)
                clear heq hf
                go_wp2_with (go_at_call 31; refine (find_spec _ r.1 _ _ _ (by with_reducible exact HO2.out.rd) (by omega)).mono ?_; rintro e w' ⟨rfl, rfl⟩)
                go_roundw
                case rel => go_light; exact ⟨k + 1, by omega, by go_num, by rw [HS.out, HC.out]; exact HO2.out, HG2.out⟩
                case measure => go_light; simp [intOf]; omega
              · have HC := Lib.hid (show trStep false cb n r x = (r.1 ++ [x.nt], r.2 ++ [(n : Int)]) by simp only [trStep]; rw [if_pos ⟨heq, hf⟩]; rfl)
                have hfi : decide (findI x.nt r.1 < 0) = true := decide_eq_true (findI_neg.2 hf)
                clear heq hf
                go_wp2_with (first | (go_at_call 31; refine (find_spec _ r.1 _ _ _ (by with_reducible exact HO2.out.rd) (by omega)).mono ?_; rintro e w' ⟨rfl, rfl⟩) | (at_builtin; refine wpList_append_rd _ rfl (.tmp 51) (.tmp 53) _ rfl sl_Str w.heap.size _ _ _ r.1 rfl (Own.alloc HO2.out _) _ _ _ [x.nt] rfl rfl (rd_new (E := Str.E) _ x.nt _ rfl) (by simp only [List.length_cons, List.length_nil]; omega) (le_al HG2.out rfl) ?_; intro A5 c5 w5 ho5 hgr5 hat5))
                go_roundw
                case rel => go_light; exact ⟨k + 1, by omega, by go_num, by rw [HS.out, HC.out]; exact ho5, (HG2.out.alloc _).app (Own.alloc HO2.out _) (Nat.le_refl _) hgr5⟩
                case measure => go_light; simp [intOf]; omega
            · have hdd : (x.fr.toList == cb.toList) = false := by simpa using heq
              have HC := Lib.hid (show trStep false cb n r x = r by simp only [trStep]; rw [if_neg (fun hh => heq hh.1)])
              clear heq
              go_wp2_with fail
              go_roundw
              case rel => go_light; exact ⟨k + 1, by omega, by go_num, by rw [HS.out, HC.out]; exact HO2.out, HG2.out⟩
              case measure => go_light; simp [intOf]; omega
          · by_cases heq : x.nt.toList = cb.toList
            · have hdd : (x.nt.toList == cb.toList) = true := by simpa using heq
              by_cases hf : fnd x.fr r.1 < r.1.length
              · have HC := Lib.hid (show trStep true cb n r x = r by simp only [trStep]; rw [if_neg (fun hh => hh.2 hf)])
                have hfi : decide (findI x.fr r.1 < 0) = false := decide_eq_false (fun hh => findI_neg.1 hh hf)
                clear heq hf
                go_wp2_with (go_at_call 31; refine (find_spec _ r.1 _ _ _ (by with_reducible exact HO2.out.rd) (by omega)).mono ?_; rintro e w' ⟨rfl, rfl⟩)
                go_roundw
                case rel => go_light; exact ⟨k + 1, by omega, by go_num, by rw [HS.out, HC.out]; exact HO2.out, HG2.out⟩
                case measure => go_light; simp [intOf]; omega
              · have HC := Lib.hid (show trStep true cb n r x = (r.1 ++ [x.fr], r.2 ++ [(n : Int)]) by simp only [trStep]; rw [if_pos ⟨heq, hf⟩]; rfl)
                have hfi : decide (findI x.fr r.1 < 0) = true := decide_eq_true (findI_neg.2 hf)
                clear heq hf
                go_wp2_with (first | (go_at_call 31; refine (find_spec _ r.1 _ _ _ (by with_reducible exact HO2.out.rd) (by omega)).mono ?_; rintro e w' ⟨rfl, rfl⟩) | (at_builtin; refine wpList_append_rd _ rfl (.tmp 51) (.tmp 53) _ rfl sl_Str w.heap.size _ _ _ r.1 rfl (Own.alloc HO2.out _) _ _ _ [x.fr] rfl rfl (rd_new (E := Str.E) _ x.fr _ rfl) (by simp only [List.length_cons, List.length_nil]; omega) (le_al HG2.out rfl) ?_; intro A5 c5 w5 ho5 hgr5 hat5))
                go_roundw
                case rel => go_light; exact ⟨k + 1, by omega, by go_num, by rw [HS.out, HC.out]; exact ho5, (HG2.out.alloc _).app (Own.alloc HO2.out _) (Nat.le_refl _) hgr5⟩
                case measure => go_light; simp [intOf]; omega
            · have hdd : (x.nt.toList == cb.toList) = false := by simpa using heq
              have HC := Lib.hid (show trStep true cb n r x = r by simp only [trStep]; rw [if_neg (fun hh => heq hh.1)])
              clear heq
              go_wp2_with fail
              go_roundw
              case rel => go_light; exact ⟨k + 1, by omega, by go_num, by rw [HS.out, HC.out]; exact HO2.out, HG2.out⟩
              case measure => go_light; simp [intOf]; omega
        · obtain rfl : k = l.length := by omega
          have HX := Lib.hid (HT.out hlt)
          obtain ⟨A1, c1, rfl⟩ := HO2.out.slice
          go_wp2_with fail
          go_roundw
          case rel => go_light; exact ⟨n + 1, by go_num, by rw [HX.out]; omega, by rw [HX.out]; exact HO2.out, HG2.out⟩
          case measure => go_light; simp [intOf]; omega
    · have HX := Lib.hid (HE.out (by omega) hlt)
      have hpos := HPOS.out n
      rw [hs] at hpos
      obtain ⟨_, hcap1, hcap2⟩ := HO.out.cap
      obtain ⟨b2, o2, e2, hb2, hcc⟩ := HO.out.rd hpos
      cases e2
      clear hcc
      have hq1 : (1 : Int) ≤ (s.1.length : Int) := by omega
      have hq2 : (s.1.length : Int) ≤ (c0 : Int) := by omega
      clear HT HKP HSO HE
      go_wp2_with fail
      all_goals
        go_ret
        go_light
        refine ⟨_, ⟨_, by rw [HX.out]; rfl⟩, ?_, HG.out⟩
        rw [HX.out, ← List.drop_one]
        first
          | exact Rd.drop (E := Str.E) HO.out.rd (fun _ => rfl)
          | (rw [List.drop_eq_nil_of_le (by omega)]; exact Rd.nil)

set_option maxHeartbeats 4000000 in
theorem reach_impl (up : Bool) (l : List Use) (A : Option Addr) (c : Nat) (b : ByteArray) (w : World) (h : Rd Use.E w A l) (hn : l.length ≤ 4194304) :
    Calls Try.prog 36 #[.slice A l.length c, .string b, .bool up] w fun e w' => ∃ A1 c1 A2 c2, e = .returned (.tuple #[.slice A1 (trF up l b).1.length c1, .slice A2 (trF up l b).2.length c2]) ∧
      Own Str.E 9 w' w.heap.size (.slice A1 (trF up l b).1.length c1) (trF up l b).1 ∧ Own Num.E 3 w' w.heap.size (.slice A2 (trF up l b).2.length c2) (trF up l b).2 ∧ Grew w w' := by
  have HL := Lib.hid h
  have HEND := Lib.hid (fun i => trTo_end (up := up) (l := l) (b := b) (i := i))
  have HOK := Lib.hid (fun i => (trTo_ok up l b i))
  clear h
  go_enter Try.func36, Try.ntmps36
  go_wp2_with fail
  go_loopw [8, 9, 10] (fun v u i wr => ∃ n : Nat, i = .int .i64 n ∧ n ≤ (trTo up l b n).1.length ∧ Own Str.E 9 wr w.heap.size v (trTo up l b n).1 ∧ Own Num.E 3 wr w.heap.size u (trTo up l b n).2 ∧ Sep v u ∧ Grew w wr) (fun _ _ i _ => l.length + 1 - (intOf i).toNat)
  case atStart => exact ⟨0, rfl, by simp, (Own.one (Nat.le_refl _) b).alloc _, (by have := Own.one (E := Num.E) (t := 3) (w := w.alloc (.cells #[.string b] 9)) (base := w.heap.size) (by simp) (-1); rwa [show (w.alloc (.cells #[.string b] 9)).heap.size = w.heap.size + 1 by simp] at this), by intro k h1 h2; simp [Value.ownBlock] at h1 h2; omega, ((Grew.refl w).alloc _).alloc _⟩
  case round =>
    obtain ⟨n, rfl, hnl, hown, hown2, hsep, hg⟩ := hrel
    have HO := Lib.hid hown
    have HP := Lib.hid hown2
    have HSP := Lib.hid hsep
    have HG := Lib.hid hg
    have hbd := (HOK.out n).le
    have HT := Lib.hid (show n < (trTo up l b n).1.length → trTo up l b (n + 1) = trScan up l ((trTo up l b n).1.getD n str0) n (trTo up l b n) l.length from fun hh => by rw [trTo, if_pos hh])
    have HE := Lib.hid (HEND.out n)
    have HKP := Lib.hid (fun (hh : n < (trTo up l b n).1.length) k hk => trScan_keep (up := up) (l := l) (b := (trTo up l b n).1.getD n str0) (i := n) hh k hk)
    have HSO := Lib.hid (fun k hk => (trScan_ok (c := (trTo up l b n).1.getD n str0) (i := n) (HOK.out n) k hk))
    clear hown hown2 hsep hg
    generalize hs : trTo up l b n = s at *
    obtain ⟨A0, c0, rfl⟩ := HO.out.slice
    obtain ⟨B0, d0, rfl⟩ := HP.out.slice
    by_cases hlt : n < s.1.length
    · generalize hcb : s.1.getD n str0 = cb at *
      go_wp2_with fail
      go_loopw [8, 9, 26] (fun v u i wr => ∃ k : Nat, k ≤ l.length ∧ i = .int .i64 k ∧ Own Str.E 9 wr w.heap.size v (trScan up l cb n s k).1 ∧ Own Num.E 3 wr w.heap.size u (trScan up l cb n s k).2 ∧ Sep v u ∧ Grew w wr) (fun _ _ i _ => l.length - (intOf i).toNat)
      case atStart => exact ⟨0, Nat.zero_le _, rfl, by simpa [trScan] using HO.out, by simpa [trScan] using HP.out, HSP.out, HG.out⟩
      case round =>
        obtain ⟨k, hk, rfl, hown, hown2, hsep, hg⟩ := hrel
        have HO2 := Lib.hid hown
        have HP2 := Lib.hid hown2
        have HSP2 := Lib.hid hsep
        have HG2 := Lib.hid hg
        obtain ⟨hkp1, hkp2⟩ := HKP.out hlt k hk
        have hbd2 := (HSO.out k hk).le
        have HBL := Lib.hid (HSO.out k hk).len
        clear hown hown2 hsep hg
        by_cases hkl : k < l.length
        · obtain ⟨x, hx⟩ : ∃ x, l[k]? = some x := ⟨_, List.getElem?_eq_getElem hkl⟩
          have HS := Lib.hid (trScan_step (up := up) (b := cb) (i := n) (s := s) hx)
          obtain ⟨bl, o, rfl, hb, hc⟩ := (HL.out.grew HG2.out).at_ hkl
          obtain ⟨hc0, hc1, hc2⟩ := Use.at_ hc hx
          clear hx hc
          generalize trScan up l cb n s k = r at *
          obtain ⟨A1, c1, rfl⟩ := HO2.out.slice
          obtain ⟨B1, d1, rfl⟩ := HP2.out.slice
          have hnr : n < r.1.length := by omega
          obtain ⟨b2, o2, e2, hb2, hcc⟩ := HO2.out.rd.at_ hnr
          have hy : r.1[n]? = some cb := by rw [← hkp2, List.getD_eq_getElem?_getD, List.getElem?_eq_getElem hnr]; rfl
          have hcy := Str.at_ hcc hy
          cases e2
          clear hcc hy
          cases up
          · by_cases heq : x.fr.toList = cb.toList
            · have hdd : (x.fr.toList == cb.toList) = true := by simpa using heq
              by_cases hf : fnd x.nt r.1 < r.1.length
              · have HC := Lib.hid (show trStep false cb n r x = r by simp only [trStep]; rw [if_neg (fun hh => hh.2 hf)])
                have hfi : decide (findI x.nt r.1 < 0) = false := decide_eq_false (fun hh => findI_neg.1 hh hf)
                clear heq hf
                go_wp2_with fail
                (refine wp_region_grow_lit (by kernel_rfl) (by kernel_rfl) ?_; repeat (any_goals (first | go_big_quiet_step ((fail)) | quiet_step ((fail)) | (refine wpQuiet_step (fun K hK => ?_); go_simp; split <;> rename_i hsp <;> (refine hK _ ?_; clear hK K) <;> (try first | simp only [hsp, decide_true, decide_false, Bool.not_true, Bool.not_false] | simp only [Int.not_le.2 hsp, decide_false, Bool.not_false] | simp only [Int.not_lt.2 hsp, decide_false, Bool.not_false] | simp only [Nat.not_le.2 hsp, decide_false, Bool.not_false] | simp only [Nat.not_lt.2 hsp, decide_false, Bool.not_false])))))
                all_goals (refine wpQuiet_nil ?_; intro w1 h1)
                all_goals
                  have hg3 : Grew wr w1 := ((Grew.refl wr).alloc _).trans h1
                  have hcy3 := (hg3.rules.1 b2 _ hb2).trans hcy
                  have HG3 := Lib.hid (HG2.out.trans hg3)
                  have HO3 := Lib.hid (HO2.out.grew hg3)
                  have HP3 := Lib.hid (HP2.out.grew hg3)
                  clear hg3 h1 hcy hc0 hc1 hc2
                  go_wp2_with (go_at_call 37; refine (find_impl _ r.1 _ _ _ (by with_reducible exact HO3.out.rd) (by omega)).mono ?_; rintro e w' ⟨rfl, rfl⟩)
                  go_roundw
                  case rel => go_light; exact ⟨k + 1, by omega, by go_num, by rw [HS.out, HC.out]; exact HO3.out, by rw [HS.out, HC.out]; exact HP3.out, HSP2.out, HG3.out⟩
                  case measure => go_light; simp [intOf]; omega
              · have HC := Lib.hid (show trStep false cb n r x = (r.1 ++ [x.nt], r.2 ++ [(n : Int)]) by simp only [trStep]; rw [if_pos ⟨heq, hf⟩]; rfl)
                have hfi : decide (findI x.nt r.1 < 0) = true := decide_eq_true (findI_neg.2 hf)
                clear heq hf
                go_wp2_with fail
                (refine wp_region_grow_lit (by kernel_rfl) (by kernel_rfl) ?_; repeat (any_goals (first | go_big_quiet_step ((fail)) | quiet_step ((fail)) | (refine wpQuiet_step (fun K hK => ?_); go_simp; split <;> rename_i hsp <;> (refine hK _ ?_; clear hK K) <;> (try first | simp only [hsp, decide_true, decide_false, Bool.not_true, Bool.not_false] | simp only [Int.not_le.2 hsp, decide_false, Bool.not_false] | simp only [Int.not_lt.2 hsp, decide_false, Bool.not_false] | simp only [Nat.not_le.2 hsp, decide_false, Bool.not_false] | simp only [Nat.not_lt.2 hsp, decide_false, Bool.not_false])))))
                all_goals (refine wpQuiet_nil ?_; intro w1 h1)
                all_goals
                  have hg3 : Grew wr w1 := ((Grew.refl wr).alloc _).trans h1
                  have hcy3 := (hg3.rules.1 b2 _ hb2).trans hcy
                  have HG3 := Lib.hid (HG2.out.trans hg3)
                  have HO3 := Lib.hid (HO2.out.grew hg3)
                  have HP3 := Lib.hid (HP2.out.grew hg3)
                  clear hg3 h1 hcy hc0 hc1 hc2
                  go_wp2_with (first
                    | (go_at_call 37; refine (find_impl _ r.1 _ _ _ (by with_reducible exact HO3.out.rd) (by omega)).mono ?_; rintro e w' ⟨rfl, rfl⟩)
                    | (at_builtin; refine wpList_append_rd _ rfl (.tmp 49) (.tmp 51) _ rfl sl_Str w.heap.size _ _ _ r.1 rfl (Own.alloc HO3.out _) _ _ _ [x.nt] rfl rfl (rd_new (E := Str.E) _ x.nt _ rfl) (by simp only [List.length_cons, List.length_nil]; omega) (le_al HG3.out rfl) ?_; intro A5 c5 w5 ho5 hgr5 hat5
                       have HO5 := Lib.hid ho5
                       have HS5 := Lib.hid (HSP2.out.at_ (n := w1.heap.size + 1) (fun kk hkk => Nat.lt_succ_of_lt (HP3.out.block kk hkk).2) (by simpa using hat5))
                       have HP5 := Lib.hid ((Own.alloc HP3.out _).kept hgr5 HSP2.out.symm.ne)
                       have HG5 := Lib.hid ((HG3.out.alloc _).app (Own.alloc HO3.out _) (Nat.le_refl _) hgr5)
                       clear ho5 hat5 hgr5)
                    | (at_builtin; refine wpList_append_rd _ rfl (.tmp 53) (.tmp 55) _ rfl sl_Num w.heap.size _ _ _ r.2 rfl (Own.alloc HP5.out _) _ _ _ [(n : Int)] rfl rfl (rd_new (E := Num.E) _ (n : Int) _ rfl) (by have := HBL.out; simp only [List.length_cons, List.length_nil]; omega) (le_al HG5.out rfl) ?_; intro A6 c6 w6 ho6 hgr6 hat6))
                  go_roundw
                  case rel => go_light; exact ⟨k + 1, by omega, by go_num, by rw [HS.out, HC.out]; exact (Own.alloc HO5.out _).kept hgr6 HS5.out.ne, by rw [HS.out, HC.out]; exact ho6, (HS5.out.symm.at_ (n := w5.heap.size + 1) (fun kk hkk => Nat.lt_succ_of_lt (HO5.out.block kk hkk).2) (by simpa using hat6)).symm, (HG5.out.alloc _).app (Own.alloc HP5.out _) (Nat.le_refl _) hgr6⟩
                  case measure => go_light; simp [intOf]; omega
            · have hdd : (x.fr.toList == cb.toList) = false := by simpa using heq
              have HC := Lib.hid (show trStep false cb n r x = r by simp only [trStep]; rw [if_neg (fun hh => heq hh.1)])
              clear heq
              go_wp2_with fail
              (refine wp_region_grow_lit (by kernel_rfl) (by kernel_rfl) ?_; repeat (any_goals (first | go_big_quiet_step ((fail)) | quiet_step ((fail)) | (refine wpQuiet_step (fun K hK => ?_); go_simp; split <;> rename_i hsp <;> (refine hK _ ?_; clear hK K) <;> (try first | simp only [hsp, decide_true, decide_false, Bool.not_true, Bool.not_false] | simp only [Int.not_le.2 hsp, decide_false, Bool.not_false] | simp only [Int.not_lt.2 hsp, decide_false, Bool.not_false] | simp only [Nat.not_le.2 hsp, decide_false, Bool.not_false] | simp only [Nat.not_lt.2 hsp, decide_false, Bool.not_false])))))
              all_goals (refine wpQuiet_nil ?_; intro w1 h1)
              all_goals
                have hg3 : Grew wr w1 := ((Grew.refl wr).alloc _).trans h1
                have hcy3 := (hg3.rules.1 b2 _ hb2).trans hcy
                have HG3 := Lib.hid (HG2.out.trans hg3)
                have HO3 := Lib.hid (HO2.out.grew hg3)
                have HP3 := Lib.hid (HP2.out.grew hg3)
                clear hg3 h1 hcy hc0 hc1 hc2
                go_wp2_with fail
                go_roundw
                case rel => go_light; exact ⟨k + 1, by omega, by go_num, by rw [HS.out, HC.out]; exact HO3.out, by rw [HS.out, HC.out]; exact HP3.out, HSP2.out, HG3.out⟩
                case measure => go_light; simp [intOf]; omega
          · by_cases heq : x.nt.toList = cb.toList
            · have hdd : (x.nt.toList == cb.toList) = true := by simpa using heq
              by_cases hf : fnd x.fr r.1 < r.1.length
              · have HC := Lib.hid (show trStep true cb n r x = r by simp only [trStep]; rw [if_neg (fun hh => hh.2 hf)])
                have hfi : decide (findI x.fr r.1 < 0) = false := decide_eq_false (fun hh => findI_neg.1 hh hf)
                clear heq hf
                go_wp2_with fail
                (refine wp_region_grow_lit (by kernel_rfl) (by kernel_rfl) ?_; repeat (any_goals (first | go_big_quiet_step ((fail)) | quiet_step ((fail)) | (refine wpQuiet_step (fun K hK => ?_); go_simp; split <;> rename_i hsp <;> (refine hK _ ?_; clear hK K) <;> (try first | simp only [hsp, decide_true, decide_false, Bool.not_true, Bool.not_false] | simp only [Int.not_le.2 hsp, decide_false, Bool.not_false] | simp only [Int.not_lt.2 hsp, decide_false, Bool.not_false] | simp only [Nat.not_le.2 hsp, decide_false, Bool.not_false] | simp only [Nat.not_lt.2 hsp, decide_false, Bool.not_false])))))
                all_goals (refine wpQuiet_nil ?_; intro w1 h1)
                all_goals
                  have hg3 : Grew wr w1 := ((Grew.refl wr).alloc _).trans h1
                  have hcy3 := (hg3.rules.1 b2 _ hb2).trans hcy
                  have HG3 := Lib.hid (HG2.out.trans hg3)
                  have HO3 := Lib.hid (HO2.out.grew hg3)
                  have HP3 := Lib.hid (HP2.out.grew hg3)
                  clear hg3 h1 hcy hc0 hc1 hc2
                  go_wp2_with (go_at_call 37; refine (find_impl _ r.1 _ _ _ (by with_reducible exact HO3.out.rd) (by omega)).mono ?_; rintro e w' ⟨rfl, rfl⟩)
                  go_roundw
                  case rel => go_light; exact ⟨k + 1, by omega, by go_num, by rw [HS.out, HC.out]; exact HO3.out, by rw [HS.out, HC.out]; exact HP3.out, HSP2.out, HG3.out⟩
                  case measure => go_light; simp [intOf]; omega
              · have HC := Lib.hid (show trStep true cb n r x = (r.1 ++ [x.fr], r.2 ++ [(n : Int)]) by simp only [trStep]; rw [if_pos ⟨heq, hf⟩]; rfl)
                have hfi : decide (findI x.fr r.1 < 0) = true := decide_eq_true (findI_neg.2 hf)
                clear heq hf
                go_wp2_with fail
                (refine wp_region_grow_lit (by kernel_rfl) (by kernel_rfl) ?_; repeat (any_goals (first | go_big_quiet_step ((fail)) | quiet_step ((fail)) | (refine wpQuiet_step (fun K hK => ?_); go_simp; split <;> rename_i hsp <;> (refine hK _ ?_; clear hK K) <;> (try first | simp only [hsp, decide_true, decide_false, Bool.not_true, Bool.not_false] | simp only [Int.not_le.2 hsp, decide_false, Bool.not_false] | simp only [Int.not_lt.2 hsp, decide_false, Bool.not_false] | simp only [Nat.not_le.2 hsp, decide_false, Bool.not_false] | simp only [Nat.not_lt.2 hsp, decide_false, Bool.not_false])))))
                all_goals (refine wpQuiet_nil ?_; intro w1 h1)
                all_goals
                  have hg3 : Grew wr w1 := ((Grew.refl wr).alloc _).trans h1
                  have hcy3 := (hg3.rules.1 b2 _ hb2).trans hcy
                  have HG3 := Lib.hid (HG2.out.trans hg3)
                  have HO3 := Lib.hid (HO2.out.grew hg3)
                  have HP3 := Lib.hid (HP2.out.grew hg3)
                  clear hg3 h1 hcy hc0 hc1 hc2
                  go_wp2_with (first
                    | (go_at_call 37; refine (find_impl _ r.1 _ _ _ (by with_reducible exact HO3.out.rd) (by omega)).mono ?_; rintro e w' ⟨rfl, rfl⟩)
                    | (at_builtin; refine wpList_append_rd _ rfl (.tmp 49) (.tmp 51) _ rfl sl_Str w.heap.size _ _ _ r.1 rfl (Own.alloc HO3.out _) _ _ _ [x.fr] rfl rfl (rd_new (E := Str.E) _ x.fr _ rfl) (by simp only [List.length_cons, List.length_nil]; omega) (le_al HG3.out rfl) ?_; intro A5 c5 w5 ho5 hgr5 hat5
                       have HO5 := Lib.hid ho5
                       have HS5 := Lib.hid (HSP2.out.at_ (n := w1.heap.size + 1) (fun kk hkk => Nat.lt_succ_of_lt (HP3.out.block kk hkk).2) (by simpa using hat5))
                       have HP5 := Lib.hid ((Own.alloc HP3.out _).kept hgr5 HSP2.out.symm.ne)
                       have HG5 := Lib.hid ((HG3.out.alloc _).app (Own.alloc HO3.out _) (Nat.le_refl _) hgr5)
                       clear ho5 hat5 hgr5)
                    | (at_builtin; refine wpList_append_rd _ rfl (.tmp 53) (.tmp 55) _ rfl sl_Num w.heap.size _ _ _ r.2 rfl (Own.alloc HP5.out _) _ _ _ [(n : Int)] rfl rfl (rd_new (E := Num.E) _ (n : Int) _ rfl) (by have := HBL.out; simp only [List.length_cons, List.length_nil]; omega) (le_al HG5.out rfl) ?_; intro A6 c6 w6 ho6 hgr6 hat6))
                  go_roundw
                  case rel => go_light; exact ⟨k + 1, by omega, by go_num, by rw [HS.out, HC.out]; exact (Own.alloc HO5.out _).kept hgr6 HS5.out.ne, by rw [HS.out, HC.out]; exact ho6, (HS5.out.symm.at_ (n := w5.heap.size + 1) (fun kk hkk => Nat.lt_succ_of_lt (HO5.out.block kk hkk).2) (by simpa using hat6)).symm, (HG5.out.alloc _).app (Own.alloc HP5.out _) (Nat.le_refl _) hgr6⟩
                  case measure => go_light; simp [intOf]; omega
            · have hdd : (x.nt.toList == cb.toList) = false := by simpa using heq
              have HC := Lib.hid (show trStep true cb n r x = r by simp only [trStep]; rw [if_neg (fun hh => heq hh.1)])
              clear heq
              go_wp2_with fail
              (refine wp_region_grow_lit (by kernel_rfl) (by kernel_rfl) ?_; repeat (any_goals (first | go_big_quiet_step ((fail)) | quiet_step ((fail)) | (refine wpQuiet_step (fun K hK => ?_); go_simp; split <;> rename_i hsp <;> (refine hK _ ?_; clear hK K) <;> (try first | simp only [hsp, decide_true, decide_false, Bool.not_true, Bool.not_false] | simp only [Int.not_le.2 hsp, decide_false, Bool.not_false] | simp only [Int.not_lt.2 hsp, decide_false, Bool.not_false] | simp only [Nat.not_le.2 hsp, decide_false, Bool.not_false] | simp only [Nat.not_lt.2 hsp, decide_false, Bool.not_false])))))
              all_goals (refine wpQuiet_nil ?_; intro w1 h1)
              all_goals
                have hg3 : Grew wr w1 := ((Grew.refl wr).alloc _).trans h1
                have hcy3 := (hg3.rules.1 b2 _ hb2).trans hcy
                have HG3 := Lib.hid (HG2.out.trans hg3)
                have HO3 := Lib.hid (HO2.out.grew hg3)
                have HP3 := Lib.hid (HP2.out.grew hg3)
                clear hg3 h1 hcy hc0 hc1 hc2
                go_wp2_with fail
                go_roundw
                case rel => go_light; exact ⟨k + 1, by omega, by go_num, by rw [HS.out, HC.out]; exact HO3.out, by rw [HS.out, HC.out]; exact HP3.out, HSP2.out, HG3.out⟩
                case measure => go_light; simp [intOf]; omega
        · obtain rfl : k = l.length := by omega
          have HX := Lib.hid (HT.out hlt)
          obtain ⟨A1, c1, rfl⟩ := HO2.out.slice
          obtain ⟨B1, d1, rfl⟩ := HP2.out.slice
          go_wp2_with fail
          go_roundw
          case rel => go_light; exact ⟨n + 1, by go_num, by rw [HX.out]; omega, by rw [HX.out]; exact HO2.out, by rw [HX.out]; exact HP2.out, HSP2.out, HG2.out⟩
          case measure => go_light; simp [intOf]; omega
    · have HX := Lib.hid (HE.out (by omega) hlt)
      go_wp2_with fail
      go_ret2
      go_light
      exact ⟨A0, c0, B0, d0, by rw [HX.out]; rfl, by rw [HX.out]; exact HO.out, by rw [HX.out]; exact HP.out, HG.out⟩
end Go.Proofs.Ytbmfhdncifcieaa
