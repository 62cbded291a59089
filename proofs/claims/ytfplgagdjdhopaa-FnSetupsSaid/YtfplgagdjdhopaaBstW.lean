/- The search through all orders: the walk. Conditions: none. -/
import Derived.Test.YtfplgagdjdhopaaBstI
namespace Go.Proofs.Ytfplgagdjdhopaa
open Go.RowKit Go.ChangeShapes Go.WideShapes Go.Deep
set_option linter.unusedVariables false
set_option linter.unusedSimpArgs false

theorem setupE {L : List (List Int)} {o : List Int} {x : Int} {v : Bool} {m k : Nat} (hv : setupF L o = (x, v)) (hm' : L.length = m) (hk : k = o.length) (A : Option Addr) (c : Nat) (B : Option Addr) (d : Nat) (w : World) (h : RdR w A L) (hr : ∀ m ∈ L, m.length ≤ maxLen) (hn : L.length ≤ 4194304) (h' : Rd IntS.E w B o) (hm : o.length ≤ 4194304) :
    Calls Try.prog 15 #[.slice A m c, .slice B k d] w fun e w' => e = .returned (.tuple #[.int .i64 x, .bool v]) ∧ Grew w w' := by
  subst hk
  subst hm'
  have := setupIn_impl L A c o B d w h hr hn h' (fun x _ => trivial) hm
  rw [hv] at this
  exact this

theorem own_any (A : Option Addr) (n c n' c' : Nat) : (Value.slice A n c).ownBlock = (Value.slice A n' c').ownBlock := by cases A <;> rfl
theorem grew3 {w w3 : World} {o : Obj} (hgr : (w.alloc o).grownBy w3 (some w.heap.size)) : Grew w w3 :=
  ((Grew.refl w).alloc o).grown hgr (fun j hj => by have : w.heap.size = j := by simpa using hj
                                                    omega)
section
variable {w0 w : World} {u p q n : Nat} {b : List Int} {sv : Value} {st : List Int × Int}
theorem better3 {bv : Value} {x : Int} {w3 : World} {o : Obj} {A3 : Option Addr} {m c3 : Nat} (h : SS w0 w u p q n b bv st sv) (ho : Own IntS.E 3 w3 w.heap.size (.slice A3 m c3) b) (hgr : (w.alloc o).grownBy w3 (some w.heap.size))
    (hat : (Value.slice A3 m c3).ownBlock = some w.heap.size ∨ (Value.slice A3 m c3).ownBlock = some (w.heap.size + 1)) :
    SS w0 ((w3.setCell ⟨p, 0, none⟩ (.slice A3 m c3)).setCell ⟨q, 0, none⟩ (.int .i64 x)) u p q n b bv (b, x) (.slice A3 m c3) ∧ Fr w ((w3.setCell ⟨p, 0, none⟩ (.slice A3 m c3)).setCell ⟨q, 0, none⟩ (.int .i64 x)) (SB u p q bv) ∧ ∃ g, (Value.slice A3 m c3).ownBlock = some g ∧ w.heap.size ≤ g :=
  h.better rfl ho hgr (by rcases hat with e | e <;> exact ⟨_, e⟩)
theorem SS.pq_c {bv : Value} (h : SS w0 w u p q n b bv st sv) (v : Value) : (w.setCell ⟨p, 0, none⟩ v).cell? ⟨q, 0, none⟩ = some (.int .i64 st.2) := by
  rw [World.cell?_setCell_other _ _ _ _ (by intro e; simp only [Addr.mk.injEq] at e; exact h.ne.2.2 e.1)]
  exact h.qc
theorem SS.pq_f {bv : Value} (h : SS w0 w u p q n b bv st sv) (v : Value) (j : Nat) : (w.setCell ⟨p, 0, none⟩ v).frozen? ⟨q, j, none⟩ = false := by simp [go_sem, h.qf j]
theorem down5 {B A5 : Option Addr} {m d c5 k : Nat} {o : Obj} {w5 : World} (h : SS w0 w u p q n b (.slice B m d) st sv) (hk : k < n) (ho : Own IntS.E 3 w5 w0.heap.size (.slice A5 (m + 1) c5) (b ++ [(k : Int)])) (hgr : ((w.setCell ⟨u, k, none⟩ (.bool true)).alloc o).grownBy w5 (Value.ownBlock (.slice B m d)))
    (hat : (A5 = B ∧ c5 = d ∧ 0 < d) ∨ (A5 = some ⟨((w.setCell ⟨u, k, none⟩ (.bool true)).alloc o).heap.size, 0, none⟩ ∧ ((w.setCell ⟨u, k, none⟩ (.bool true)).alloc o).grownBy w5 none)) :
    SS w0 w5 u p q n (b ++ [(k : Int)]) (.slice A5 (m + 1) c5) st sv ∧ Fr w w5 (SB u p q (.slice B m d)) := by
  refine h.down hk ((Grew.refl _).alloc o) ho hgr ?_
  rcases hat with ⟨rfl, rfl, _⟩ | ⟨rfl, _⟩
  · left; cases A5 <;> rfl
  · right; rfl
theorem up5 {B A5 : Option Addr} {m d c5 k : Nat} {o : Obj} {w5 : World} (h : SS w0 w u p q n b (.slice B m d) st sv) (hm : m = b.length)
    (hat : (A5 = B ∧ c5 = d ∧ 0 < d) ∨ (A5 = some ⟨((w.setCell ⟨u, k, none⟩ (.bool true)).alloc o).heap.size, 0, none⟩ ∧ ((w.setCell ⟨u, k, none⟩ (.bool true)).alloc o).grownBy w5 none)) :
    (∃ m0, Value.slice B m d = .slice A5 m0 c5 ∧ m0 = b.length ∧ m + 1 = b.length + 1) ∨ (∀ j, (Value.slice A5 (m + 1) c5).ownBlock = some j → w.heap.size ≤ j ∧ (Value.slice B m d).ownBlock ≠ some j) := by
  rcases hat with ⟨rfl, rfl, _⟩ | ⟨rfl, _⟩
  · exact .inl ⟨m, rfl, hm, by rw [hm]⟩
  · refine .inr fun j hj => ?_
    have e : w.heap.size + 1 = j := by simpa [Value.ownBlock] using hj
    exact ⟨by omega, fun e2 => by have := (h.ob.block j e2).2; omega⟩
end
set_option maxRecDepth 100000 in
set_option maxHeartbeats 8000000 in
theorem search_any (L : List (List Int)) (n : Nat) (hL : L.length = n + 1) (h7 : n ≤ 7) (hr : ∀ m ∈ L, m.length ≤ maxLen) (w0 : World) (A : Option Addr) (c : Nat) (HL : RdR w0 A L) (u p q : Nat) :
    ∀ (f : Nat) (b : List Int) (bv : Value) (st : List Int × Int) (sv : Value) (w : World), SS w0 w u p q n b bv st sv → b.length + f = n →
    Calls Try.prog 32 #[.slice A (n + 1) c, bv, .slice (some ⟨u, 0, none⟩) n n, .pointer (some ⟨p, 0, none⟩), .pointer (some ⟨q, 0, none⟩)] w fun e w' =>
      ∃ sv', e = .returned (.tuple #[]) ∧ SS w0 w' u p q n b bv (srch L n f b st) sv' ∧ Fr w w' (SB u p q bv) ∧ (sv' = sv ∨ ∃ g, sv'.ownBlock = some g ∧ w.heap.size ≤ g)
  | 0, b, bv, st, sv, w, hs, hf => by
    have HS := Lib.hid hs
    have HRR := Lib.hid hr
    have HLL := Lib.hid hL
    have hLl : L.length ≤ 4194304 := by omega
    obtain ⟨B, d, hbv⟩ := hs.ob.slice
    subst hbv
    have hbl : b.length = n := by omega
    have HBN := Lib.hid hbl.symm
    rw [hbl] at HS ⊢
    have hb4 : b.length ≤ 4194304 := by omega
    obtain ⟨sb, sl⟩ := st
    obtain ⟨xv, hxv⟩ : ∃ xv, setupF L b = xv := ⟨_, rfl⟩
    obtain ⟨x, v⟩ := xv
    have HXV := Lib.hid hxv
    have HLF := Lib.hid (show srch L n 0 b (sb, sl) = if sl < 0 ∨ x < sl then (b, x) else (sb, sl) by simp only [srch, leafF, hxv])
    clear hs hr hL hxv hbl hf
    go_enter Try.func32, Try.ntmps32
    go_wp2_with fail
    refine (setupE HXV.out HLL.out HBN.out _ _ _ _ _ (HL.grew HS.out.g) HRR.out hLl HS.out.ob.rd hb4).mono ?_; rintro e w1 ⟨rfl, hg1⟩
    have HS1 := Lib.hid (HS.out.grew hg1)
    have HG1 := Lib.hid hg1
    have hqc := HS1.out.qc
    have hqf := HS1.out.qf
    have hpc := HS1.out.pc
    have hpf := HS1.out.pf
    simp only at hqc
    clear hg1
    skip
    by_cases h1 : sl < 0
    · have hd1 : decide (sl < 0) = true := decide_eq_true h1
      have HF := Lib.hid (HLF.out.trans (if_pos (.inl h1)))
      go_wp2_with (at_builtin; refine wpList_append_rd _ rfl (.tmp 37) (.tmp 38) _ rfl sl_Int w1.heap.size _ _ _ ([] : List Int) rfl (Own.new_ (Nat.le_refl _)) _ _ _ b rfl HBN.out (HS1.out.ob.rd.grew ((Grew.refl _).alloc _)) (by simp; omega) (by simp) ?_; intro A3 c3 w3 ho3 hgr3 hat3; have HO3 := Lib.hid (show Own IntS.E 3 w3 w1.heap.size (.slice A3 n c3) b by simpa using ho3); have HBT := Lib.hid (better3 (x := x) HS1.out HO3.out hgr3 (hat3.imp (fun e => (own_any A3 _ _ _ _).trans e) (fun e => (own_any A3 _ _ _ _).trans (e.trans (by simp))))); have HS3 := Lib.hid (HS1.out.grew (grew3 hgr3)); have hpc3 := HS3.out.pc; have hpf3 := HS3.out.pf; have hqc3 := HS3.out.pq_c (.slice A3 n c3); have hqf3 := HS3.out.pq_f (.slice A3 n c3); simp only [Nat.zero_add]; clear ho3 hgr3 hat3)
      (try simp only [Exit.inBlock, Exit.then])
      refine bodyPost_ret (results_none rfl _ _ _) rfl ?_
      go_light
      rw [HF.out]
      obtain ⟨b1, b2, g3, b3, b4⟩ := HBT.out
      exact ⟨rfl, .slice A3 n c3, b1, (HG1.out.fr _).trans b2, .inr ⟨g3, b3, by have := HG1.out.le; omega⟩⟩
    · have hd1 : decide (sl < 0) = false := decide_eq_false h1
      by_cases h2 : x < sl
      · have hd2 : decide (x < sl) = true := decide_eq_true h2
        have HF := Lib.hid (HLF.out.trans (if_pos (.inr h2)))
        go_wp2_with (at_builtin; refine wpList_append_rd _ rfl (.tmp 37) (.tmp 38) _ rfl sl_Int w1.heap.size _ _ _ ([] : List Int) rfl (Own.new_ (Nat.le_refl _)) _ _ _ b rfl HBN.out (HS1.out.ob.rd.grew ((Grew.refl _).alloc _)) (by simp; omega) (by simp) ?_; intro A3 c3 w3 ho3 hgr3 hat3; have HO3 := Lib.hid (show Own IntS.E 3 w3 w1.heap.size (.slice A3 n c3) b by simpa using ho3); have HBT := Lib.hid (better3 (x := x) HS1.out HO3.out hgr3 (hat3.imp (fun e => (own_any A3 _ _ _ _).trans e) (fun e => (own_any A3 _ _ _ _).trans (e.trans (by simp))))); have HS3 := Lib.hid (HS1.out.grew (grew3 hgr3)); have hpc3 := HS3.out.pc; have hpf3 := HS3.out.pf; have hqc3 := HS3.out.pq_c (.slice A3 n c3); have hqf3 := HS3.out.pq_f (.slice A3 n c3); simp only [Nat.zero_add]; clear ho3 hgr3 hat3)
        (try simp only [Exit.inBlock, Exit.then])
        refine bodyPost_ret (results_none rfl _ _ _) rfl ?_
        go_light
        rw [HF.out]
        obtain ⟨b1, b2, g3, b3, b4⟩ := HBT.out
        exact ⟨rfl, .slice A3 n c3, b1, (HG1.out.fr _).trans b2, .inr ⟨g3, b3, by have := HG1.out.le; omega⟩⟩
      · have hd2 : decide (x < sl) = false := decide_eq_false h2
        have HF := Lib.hid (HLF.out.trans (if_neg (by omega)))
        go_wp2_with fail
        (try simp only [Exit.inBlock, Exit.then])
        refine bodyPost_ret (results_none rfl _ _ _) rfl ?_
        go_light
        rw [HF.out]
        exact ⟨sv, rfl, HS1.out, HG1.out.fr _, .inl rfl⟩
  | f + 1, b, bv, st, sv, w, hs, hf => by
    have HS := Lib.hid hs
    have IH := Lib.hid (search_any L n hL h7 hr w0 A c HL u p q f)
    obtain ⟨B, d, hbv⟩ := hs.ob.slice
    subst hbv
    obtain ⟨m, hm⟩ : ∃ m, m = b.length := ⟨_, rfl⟩
    have HBN := Lib.hid hm
    rw [← hm] at HS hf ⊢
    have HST := Lib.hid (srK_succ L n f b st)
    have HFIN := Lib.hid (show srch L n (f + 1) b st = srK L n f b st n from rfl)
    have hne : ((m : Int) == (n : Int)) = false := by simp; omega
    have hmn : m < n := by omega
    clear hs hr hL hm
    go_enter Try.func32, Try.ntmps32
    go_wp2_with fail
    go_loopw [46, 12] (fun i _ wr => ∃ (k : Nat) (sv' : Value), k ≤ n ∧ i = .int .i64 k ∧ SS w0 wr u p q n b (.slice B m d) (srK L n f b st k) sv' ∧ Fr w wr (SB u p q (.slice B m d)) ∧ (sv' = sv ∨ ∃ g, sv'.ownBlock = some g ∧ w.heap.size ≤ g)) (fun i _ _ => n - (intOf i).toNat)
    case atStart => exact ⟨0, sv, Nat.zero_le _, rfl, HS.out, Fr.refl _ _, .inl rfl⟩
    case round =>
      obtain ⟨k, sk, hk, rfl, hss, hfr, hsk⟩ := hrel
      have HSS := Lib.hid hss
      have HFR := Lib.hid hfr
      have HSK := Lib.hid hsk
      clear hss hfr hsk
      by_cases hlt : k < n
      · have hcu := HSS.out.used hlt
        have hfu := HSS.out.uf
        have hi1 : (0 : Int) ≤ (k : Int) := by omega
        have hi2 : (k : Int) < (n : Int) := by omega
        cases hct : b.contains (k : Int)
        · rw [hct] at hcu
          have HCT := Lib.hid hct
          have HSU := Lib.hid (show srK L n f b st (k + 1) = srch L n f (b ++ [(k : Int)]) (srK L n f b st k) from (HST.out k).trans (if_neg (by rw [hct]; decide)))
          have HOS := Lib.hid (HSS.out.ob.far (p := ⟨u, k, none⟩) (fun e => (HSS.out.bn u e).1 rfl) (.bool true))
          clear hct
          go_wp2_with (at_builtin; refine wpList_append_two _ rfl (.tmp 58) (.tmp 60) _ rfl sl_Int w0.heap.size _ _ _ b rfl (Own.alloc HOS.out _) _ _ _ (k : Int) rfl (rd_new (E := IntS.E) _ (k : Int) _ (by simp)) (by have := HBN.out; omega) (by have := HSS.out.g.le; simp; (try omega)) ?_; intro A5 c5 w5 ho5 hob5 hgr5 hat5)
          have HD := Lib.hid (down5 HSS.out hlt ho5 hgr5 hat5)
          have HOB := Lib.hid hob5
          have HUP := Lib.hid (up5 HSS.out HBN.out hat5)
          clear ho5 hob5 hgr5 hat5 hcu hfu
          refine (IH.out (b ++ [(k : Int)]) (.slice A5 (m + 1) c5) (srK L n f b st k) sk w5 HD.out.1 (by simp only [List.length_append, List.length_cons, List.length_nil]; have := HBN.out; omega)).mono ?_; rintro e w6 ⟨s6, rfl, h6, f6, hv6⟩
          have HE := Lib.hid (HSS.out.up hlt HCT.out HD.out.2 HOB.out h6 f6 hv6 HUP.out)
          have hcu6 := h6.used hlt
          have hfu6 := h6.uf
          clear h6 f6 hv6
          go_wp2_with fail
          go_roundw
          case rel =>
            go_light
            obtain ⟨e1, e2, e3⟩ := HE.out
            refine ⟨k + 1, s6, by omega, by go_num, by rw [HSU.out]; exact e1, HFR.out.trans e2, ?_⟩
            rcases e3 with rfl | ⟨g6, e4, e5⟩
            · exact HSK.out
            · exact .inr ⟨g6, e4, Nat.le_trans HFR.out.size e5⟩
          case measure => go_light; simp [intOf]; (try omega)
        · rw [hct] at hcu
          have HSU := Lib.hid (show srK L n f b st (k + 1) = srK L n f b st k from (HST.out k).trans (if_pos hct))
          clear hct
          go_wp2_with fail
          go_roundw
          case rel => go_light; exact ⟨k + 1, sk, by omega, by go_num, by rw [HSU.out]; exact HSS.out, HFR.out, HSK.out⟩
          case measure => go_light; simp [intOf]; (try omega)
      · obtain rfl : k = n := by omega
        go_wp2_with fail
        (try simp only [Exit.inBlock, Exit.then])
        refine bodyPost_end (results_none rfl _ _ _) rfl ?_
        go_light
        rw [HFIN.out]
        exact ⟨sk, rfl, HSS.out, HFR.out, HSK.out⟩

theorem row_mono {w : World} {base b2 : Nat} {e : TypeId} {size n : Nat} {v : Value} {xs : List Value} (h : w.ownsRow base e size v n xs) (hb : b2 ≤ base) : w.ownsRow b2 e size v n xs := by
  refine ⟨h.1, ?_⟩
  rcases h.2 with h0 | ⟨g, cap, cur, e, h1, r⟩
  · exact .inl h0
  · exact .inr ⟨g, cap, cur, e, Nat.le_trans hb h1, r⟩
theorem SS.start {w w1 : World} {n : Nat} {w2 : World} {t2 t3 : TypeId} (hg : Grew w w1) (hgr : (((w1.alloc (.cells #[] 3)).alloc (.cells #[.slice (some ⟨w1.heap.size, 0, none⟩) 0 0] t2)).alloc (.cells #[.int .i64 (-1)] t3)).grownBy w2 none)
    (hu : w2.ownsRow (w1.heap.size + 3) 4 1 (.slice (some ⟨(((w1.alloc (.cells #[] 3)).alloc (.cells #[.slice (some ⟨w1.heap.size, 0, none⟩) 0 0] t2)).alloc (.cells #[.int .i64 (-1)] t3)).heap.size, 0, none⟩) n n) n (madeCells (Value.bool false).cells (n * 1)).toList) :
    SS w w2 (w1.heap.size + 1 + 1 + 1) (w1.heap.size + 1) (w1.heap.size + 1 + 1) n [] (.slice none 0 0) ([], -1) (.slice (some ⟨w1.heap.size, 0, none⟩) 0 0) := by
  have hle := hg.le
  have es : (((w1.alloc (.cells #[] 3)).alloc (.cells #[.slice (some ⟨w1.heap.size, 0, none⟩) 0 0] t2)).alloc (.cells #[.int .i64 (-1)] t3)).heap.size = w1.heap.size + 1 + 1 + 1 := by simp
  rw [es, ← usedL_zero] at hu
  have hpc : (((w1.alloc (.cells #[] 3)).alloc (.cells #[.slice (some ⟨w1.heap.size, 0, none⟩) 0 0] t2)).alloc (.cells #[.int .i64 (-1)] t3)).cell? ⟨w1.heap.size + 1, 0, none⟩ = some (.slice (some ⟨w1.heap.size, 0, none⟩) 0 0) := by simp [go_sem]
  have hqc : (((w1.alloc (.cells #[] 3)).alloc (.cells #[.slice (some ⟨w1.heap.size, 0, none⟩) 0 0] t2)).alloc (.cells #[.int .i64 (-1)] t3)).cell? ⟨w1.heap.size + 1 + 1, 0, none⟩ = some (.int .i64 (-1)) := by simp [go_sem]
  have hpf : ∀ j, (((w1.alloc (.cells #[] 3)).alloc (.cells #[.slice (some ⟨w1.heap.size, 0, none⟩) 0 0] t2)).alloc (.cells #[.int .i64 (-1)] t3)).frozen? ⟨w1.heap.size + 1, j, none⟩ = false := by intro j; simp [go_sem]
  have hqf : ∀ j, (((w1.alloc (.cells #[] 3)).alloc (.cells #[.slice (some ⟨w1.heap.size, 0, none⟩) 0 0] t2)).alloc (.cells #[.int .i64 (-1)] t3)).frozen? ⟨w1.heap.size + 1 + 1, j, none⟩ = false := by intro j; simp [go_sem]
  have hG : Grew w (((w1.alloc (.cells #[] 3)).alloc (.cells #[.slice (some ⟨w1.heap.size, 0, none⟩) 0 0] t2)).alloc (.cells #[.int .i64 (-1)] t3)) := ((hg.alloc _).alloc _).alloc _
  have hsz := hgr.size
  rw [es] at hsz
  have hO : Own IntS.E 3 (((w1.alloc (.cells #[] 3)).alloc (.cells #[.slice (some ⟨w1.heap.size, 0, none⟩) 0 0] t2)).alloc (.cells #[.int .i64 (-1)] t3)) w.heap.size (.slice (some ⟨w1.heap.size, 0, none⟩) 0 0) ([] : List Int) := ((Own.new_ hle).alloc _).alloc _
  have hB : ∀ k, k < w1.heap.size + 3 → w2.heap[k]? = (((w1.alloc (.cells #[] 3)).alloc (.cells #[.slice (some ⟨w1.heap.size, 0, none⟩) 0 0] t2)).alloc (.cells #[.int .i64 (-1)] t3)).heap[k]? := fun k hk => hgr.block k (by rw [es]; omega) (by simp)
  have hul := World.ownsRow.lt hu (w1.heap.size + 1 + 1 + 1) rfl
  exact ⟨hG.grown hgr (by simp), row_mono hu (by omega), (World.cell?_of_block (hB (w1.heap.size + 1) (by omega))).trans hpc, fun j => (World.frozen?_of_block (hB (w1.heap.size + 1) (by omega))).trans (hpf j), (World.cell?_of_block (hB (w1.heap.size + 1 + 1) (by omega))).trans hqc, fun j => (World.frozen?_of_block (hB (w1.heap.size + 1 + 1) (by omega))).trans (hqf j),
    Own.none_, hO.kept hgr (.inr (by simp [Value.ownBlock])), ⟨by omega, by omega⟩, ⟨by omega, by omega⟩, ⟨by omega, by omega, by omega⟩, fun k hk => by simp [Value.ownBlock] at hk, fun k hk => by
      obtain rfl : w1.heap.size = k := by simpa [Value.ownBlock] using hk
      exact ⟨by omega, by omega, by omega, by simp [Value.ownBlock]⟩⟩

set_option maxRecDepth 100000 in
set_option maxHeartbeats 4000000 in
theorem best_impl (L : List (List Int)) (A : Option Addr) (c : Nat) (w : World) (h : RdR w A L) (hr : ∀ m ∈ L, m.length ≤ maxLen) (hn : L.length ≤ 4194304) :
    Calls Try.prog 23 #[.slice A L.length c] w fun e w' => ∃ A' c', e = .returned (.tuple #[.slice A' (bestF L).1.length c', .int .i64 (bestF L).2.1, .bool (bestF L).2.2]) ∧ Own IntS.E 3 w' w.heap.size (.slice A' (bestF L).1.length c') (bestF L).1 ∧ Grew w w' := by
  have HL := Lib.hid h
  have HR := Lib.hid hr
  clear h hr
  cases ha : setB L
  · have HF := Lib.hid (show bestF L = ([], 0, false) by simp [bestF, ha])
    have HA := Lib.hid ha
    clear ha
    go_enter Try.func23, Try.ntmps23
    go_wp2_with (go_at_call 11; refine (isSetupsE_impl HA.out rfl _ _ _ HL.out HR.out hn).mono ?_; rintro e w1 ⟨rfl, h1⟩)
    go_ret3
    go_light
    exact ⟨none, 0, by rw [HF.out]; rfl, by rw [HF.out]; exact Own.none_, h1⟩
  obtain ⟨n, hnL⟩ : ∃ n, L.length = n + 1 := ⟨L.length - 1, by have := (setB_at ha).1; omega⟩
  have h7 : n ≤ 7 := by have := (setB_at ha).2.1; omega
  have HF := Lib.hid (show bestF L = ((srch L n n [] ([], -1)).1, (srch L n n [] ([], -1)).2, true) by simp [bestF, ha, hnL])
  have HA := Lib.hid ha
  have HNL := Lib.hid hnL
  rw [hnL]
  clear ha hnL hn
  obtain ⟨i0, hi0, hz0, hz1, hz2⟩ := info_parts info_bool
  go_enter Try.func23, Try.ntmps23
  go_wp2_with (first
    | (go_at_call 11; refine (isSetupsE_impl HA.out HNL.out _ _ _ HL.out HR.out (by have := HNL.out; omega)).mono ?_; rintro e w1 ⟨rfl, h1⟩)
    | (at_make; refine wpList_make_full _ rfl _ _ _ rfl (w1.heap.size + 3) 4 i0 _ 1 Try.underlying44 hi0 hz0 hz1 _ _ _ _ n rfl rfl rfl rfl (by rw [hz2]; omega) (by simp only [maxLen]; omega) (by simp) ?_; intro w2 hown2 hgr2))
  have HSS := Lib.hid (SS.start h1 hgr2 hown2)
  have HG1 := Lib.hid h1
  clear h1 hown2 hgr2 hi0 hz0 hz1 hz2
  refine (search_any L n HNL.out h7 HR.out w _ _ HL.out _ _ _ n [] _ _ _ w2 HSS.out (by simp)).mono ?_; rintro e w3 ⟨s3, rfl, h3, _, _⟩
  obtain ⟨A3, c3, hs3⟩ := h3.os.slice
  subst hs3
  have hpc := h3.pc
  have hqc := h3.qc
  have HS3 := Lib.hid h3
  clear h3
  go_wp2_with fail
  go_region
  go_wp2_with fail
  go_ret3
  go_light
  exact ⟨A3, c3, by rw [HF.out]; rfl, by rw [HF.out]; exact HS3.out.os.drew, HS3.out.g.drew⟩
end Go.Proofs.Ytfplgagdjdhopaa
