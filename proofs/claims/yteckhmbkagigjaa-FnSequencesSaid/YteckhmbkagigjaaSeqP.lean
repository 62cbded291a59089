/- Orders by due dates, by weights and with the fewest late tasks: none is better. Conditions: none. -/
import Derived.Test.YteckhmbkagigjaaFewP
import Derived.Test.YteckhmbkagigjaaEndsS
namespace Go.Proofs.Yteckhmbkagigjaa
open Go.RowKit
set_option linter.unusedVariables false
set_option linter.unusedSimpArgs false

def sm (m : Int → Int) (a : List Int) : Int := (a.map m).sum
theorem sm_nil (m : Int → Int) : sm m [] = 0 := rfl
theorem sm_cons (m : Int → Int) (x : Int) (a : List Int) : sm m (x :: a) = m x + sm m a := by simp [sm]
theorem sm_app (m : Int → Int) (a b : List Int) : sm m (a ++ b) = sm m a + sm m b := by simp [sm]
theorem sm_perm {m : Int → Int} {a b : List Int} (h : a.Perm b) : sm m a = sm m b := by
  induction h with
  | nil => rfl
  | cons x _ ih => rw [sm_cons, sm_cons, ih]
  | swap x y l => simp only [sm_cons]; omega
  | trans _ _ h1 h2 => rw [h1, h2]
theorem sm_nonneg {m : Int → Int} {a : List Int} (h : ∀ x ∈ a, 0 ≤ m x) : 0 ≤ sm m a := by
  induction a with
  | nil => simp [sm]
  | cons x a ih =>
    rw [sm_cons]
    have := h x (List.mem_cons_self ..)
    have := ih fun y hy => h y (List.mem_cons_of_mem _ hy)
    omega
theorem sub_sum {m : Int → Int} : ∀ {a b : List Int}, a.Nodup → (∀ x ∈ a, x ∈ b) → (∀ x ∈ b, 0 ≤ m x) → sm m a ≤ sm m b
  | [], b, _, _, h => by rw [sm_nil]; exact sm_nonneg h
  | x :: a, b, hd, hs, h => by
    rw [List.nodup_cons] at hd
    have hx := hs x (List.mem_cons_self ..)
    have hp := List.perm_cons_erase hx
    rw [sm_perm hp, sm_cons, sm_cons]
    have := sub_sum (m := m) (a := a) (b := b.erase x) hd.2 (fun y hy => (List.mem_erase_of_ne (fun (e : y = x) => hd.1 (by rw [← e]; exact hy))).2 (hs y (List.mem_cons_of_mem _ hy))) (fun y hy => h y (List.mem_of_mem_erase hy))
    omega
theorem sub_len {a b : List Int} (hd : a.Nodup) (hs : ∀ x ∈ a, x ∈ b) : a.length ≤ b.length := by
  have h1 : ∀ a : List Int, sm (fun _ => 1) a = a.length := by
    intro a
    induction a with
    | nil => rfl
    | cons x a ih => rw [sm_cons, ih]; simp; omega
  have := sub_sum (m := fun _ => 1) hd hs (by simp)
  rw [h1, h1] at this
  omega

/-- An order's times. -/
theorem tm_sum (l : List Tsk) (o : List Int) : ∀ k, k ≤ o.length → tm l o k = sm (fun x => (tk l x).m) (o.take k)
  | 0, _ => by simp [tm, sm]
  | k + 1, h => by
    have hx : o[k]? = some o[k] := List.getElem?_eq_getElem (by omega)
    rw [tm, tm_sum l o k (by omega), List.take_add_one, hx, sm_app, List.getD_eq_getElem?_getD, hx]
    simp [sm]

/-- Feasible: what is due until a member's date takes no longer. -/
def Feas (m d : Int → Int) (F : List Int) : Prop := ∀ t ∈ F, sm m (F.filter fun j => decide (d j ≤ d t)) ≤ d t
theorem Feas.sub {m d : Int → Int} {F G : List Int} (h : Feas m d F) (hd : G.Nodup) (hs : ∀ x ∈ G, x ∈ F) (hm : ∀ x ∈ F, 0 ≤ m x) : Feas m d G := fun t ht => by
  refine Int.le_trans (sub_sum (hd.sublist List.filter_sublist) (fun x hx => ?_) (fun x hx => hm x (List.mem_filter.1 hx).1)) (h t (hs t ht))
  rw [List.mem_filter] at hx ⊢
  exact ⟨hs x hx.1, hx.2⟩
/-- On time in its order. -/
def OnT (m d : Int → Int) (T : Int) : List Int → Prop
  | [] => True
  | x :: a => T + m x ≤ d x ∧ OnT m d (T + m x) a
theorem OnT.app {m d : Int → Int} : ∀ {a : List Int} {T : Int} {b : List Int}, OnT m d T (a ++ b) ↔ OnT m d T a ∧ OnT m d (T + sm m a) b
  | [], T, b => by simp [OnT, sm]
  | x :: a, T, b => by
    simp only [List.cons_append, OnT, OnT.app (a := a), sm_cons]
    rw [show T + m x + sm m a = T + (m x + sm m a) by omega]
    exact ⟨fun ⟨h1, h2, h3⟩ => ⟨⟨h1, h2⟩, h3⟩, fun ⟨⟨h1, h2⟩, h3⟩ => ⟨h1, h2, h3⟩⟩
theorem OnT.early {m d : Int → Int} : ∀ {a : List Int} {T S : Int}, S ≤ T → OnT m d T a → OnT m d S a
  | [], _, _, _, _ => trivial
  | x :: a, T, S, h, hh => ⟨by have := hh.1; omega, OnT.early (by omega) hh.2⟩
/-- What is kept of the tasks p, which ascend by their dates. -/
structure Kept (m d : Int → Int) (p K : List Int) : Prop where
  nd : K.Nodup
  sub : ∀ x ∈ K, x ∈ p
  on : OnT m d 0 K
  opt : ∀ F : List Int, F.Nodup → (∀ x ∈ F, x ∈ p) → Feas m d F → ∃ G : List Int, G.Nodup ∧ (∀ x ∈ G, x ∈ K) ∧ G.length = F.length ∧ sm m G ≤ sm m F
theorem Kept.nil (m d : Int → Int) : Kept m d [] [] := ⟨List.nodup_nil, by simp, trivial, fun F _ h _ => by
  have : F = [] := by
    cases F with
    | nil => rfl
    | cons x F => exact absurd (h x (List.mem_cons_self ..)) (by simp)
  subst this
  exact ⟨[], List.nodup_nil, by simp, rfl, Int.le_refl _⟩⟩
/-- Whatever feasible is among p and x is matched by as many of the kept ones and x. -/
theorem Kept.more {m d : Int → Int} {p K : List Int} {x : Int} (h : Kept m d p K) (hx : x ∉ p) (hm : ∀ y ∈ p ++ [x], 0 ≤ m y) (F : List Int) (hF : F.Nodup) (hs : ∀ y ∈ F, y ∈ p ++ [x]) (hf : Feas m d F) :
    ∃ G : List Int, G.Nodup ∧ (∀ y ∈ G, y ∈ K ++ [x]) ∧ G.length = F.length ∧ sm m G ≤ sm m F := by
  by_cases hxF : x ∈ F
  · have hp := List.perm_cons_erase hxF
    have hnd := hp.nodup_iff.1 hF
    rw [List.nodup_cons] at hnd
    have hs2 : ∀ y ∈ F.erase x, y ∈ p := fun y hy => by
      have h1 := hs y (List.mem_of_mem_erase hy)
      rcases List.mem_append.1 h1 with h1 | h1
      · exact h1
      · obtain rfl : y = x := by simpa using h1
        exact absurd hy hnd.1
    obtain ⟨G, g1, g2, g3, g4⟩ := h.opt (F.erase x) hnd.2 hs2 (hf.sub hnd.2 (fun y hy => List.mem_of_mem_erase hy) (fun y hy => hm y (hs y hy)))
    have hxK : x ∉ K := fun e => hx (h.sub x e)
    refine ⟨x :: G, List.nodup_cons.2 ⟨fun e => hxK (g2 x e), g1⟩, fun y hy => ?_, ?_, ?_⟩
    · rcases List.mem_cons.1 hy with rfl | hy
      · simp
      · exact List.mem_append_left _ (g2 y hy)
    · have := hp.length_eq
      simp only [List.length_cons] at this ⊢
      omega
    · rw [sm_cons, sm_perm hp, sm_cons]; omega
  · obtain ⟨G, g1, g2, g3, g4⟩ := h.opt F hF (fun y hy => by
      rcases List.mem_append.1 (hs y hy) with h1 | h1
      · exact h1
      · obtain rfl : y = x := by simpa using h1
        exact absurd hy hxF) hf
    exact ⟨G, g1, fun y hy => List.mem_append_left _ (g2 y hy), g3, g4⟩
theorem Kept.keep {m d : Int → Int} {p K : List Int} {x : Int} (h : Kept m d p K) (hx : x ∉ p) (hm : ∀ y ∈ p ++ [x], 0 ≤ m y) (ht : sm m K + m x ≤ d x) : Kept m d (p ++ [x]) (K ++ [x]) := by
  have hxK : x ∉ K := fun e => hx (h.sub x e)
  refine ⟨?_, fun y hy => ?_, OnT.app.2 ⟨h.on, by rw [Int.zero_add]; exact ⟨ht, trivial⟩⟩, fun F h1 h2 h3 => h.more hx hm F h1 h2 h3⟩
  · rw [List.nodup_append]
    exact ⟨h.nd, by simp, fun a ha b hb (e : a = b) => hxK (by rw [← (show b = x by simpa using hb), ← e]; exact ha)⟩
  · rcases List.mem_append.1 hy with hy | hy
    · exact List.mem_append_left _ (h.sub y hy)
    · exact List.mem_append_right _ hy
theorem Kept.drop {m d : Int → Int} {p K P S : List Int} {x y : Int} (h : Kept m d p K) (hx : x ∉ p) (hm : ∀ z ∈ p ++ [x], 0 ≤ m z) (hd : ∀ z ∈ p, d z ≤ d x) (ht : d x < sm m K + m x) (e : K ++ [x] = P ++ y :: S) (hy : ∀ z ∈ K ++ [x], m z ≤ m y) :
    Kept m d (p ++ [x]) (P ++ S) := by
  have hxK : x ∉ K := fun e => hx (h.sub x e)
  have hnd1 : (K ++ [x]).Nodup := by
    rw [List.nodup_append]
    exact ⟨h.nd, by simp, fun a ha b hb (e : a = b) => hxK (by rw [← (show b = x by simpa using hb), ← e]; exact ha)⟩
  have hsub1 : ∀ z ∈ K ++ [x], z ∈ p ++ [x] := fun z hz => by
    rcases List.mem_append.1 hz with hz | hz
    · exact List.mem_append_left _ (h.sub z hz)
    · exact List.mem_append_right _ hz
  have hperm : (K ++ [x]).Perm (y :: (P ++ S)) := by rw [e]; exact List.perm_middle
  have hnd2 := hperm.nodup_iff.1 hnd1
  rw [List.nodup_cons] at hnd2
  have hmem : ∀ z, z ∈ K ++ [x] ↔ z = y ∨ z ∈ P ++ S := fun z => by rw [hperm.mem_iff]; simp
  refine ⟨hnd2.2, fun z hz => hsub1 z ((hmem z).2 (.inr hz)), ?_, fun F hF hs hf => ?_⟩
  · -- on time
    rcases List.eq_nil_or_concat S with rfl | ⟨S', z, rfl⟩
    · have : K = P := (List.append_inj' e (by simp)).1
      rw [List.append_nil, ← this]
      exact h.on
    · have e2 : K ++ [x] = (P ++ y :: S') ++ [z] := by rw [e]; simp
      obtain ⟨e3, e4⟩ := List.append_inj' e2 (by simp)
      obtain rfl : x = z := by simpa using e4
      have hon := h.on
      rw [e3, OnT.app] at hon
      simp only [OnT, Int.zero_add] at hon
      have hmy : 0 ≤ m y := hm y (hsub1 y ((hmem y).2 (.inl rfl)))
      have hmx := hy x (by simp)
      rw [show P ++ S'.concat x = (P ++ S') ++ [x] by simp, OnT.app, OnT.app]
      simp only [OnT, Int.zero_add, sm_app]
      refine ⟨⟨hon.1, hon.2.2.early (by omega)⟩, ?_, trivial⟩
      -- the kept ones end before x is due
      have hT : sm m K ≤ d x := by
        rcases List.eq_nil_or_concat K with hk | ⟨K', u, hk⟩
        · rw [hk] at e3; simp at e3
        · have hon2 := h.on
          rw [hk] at hon2 ⊢
          simp only [List.concat_eq_append] at hon2 ⊢
          rw [OnT.app] at hon2
          simp only [OnT, Int.zero_add] at hon2
          have hu := hd u (h.sub u (by rw [hk]; simp))
          rw [sm_app, sm_cons, sm_nil]
          omega
      rw [e3, sm_app, sm_cons] at hT
      omega
  · -- optimal
    obtain ⟨G, g1, g2, g3, g4⟩ := h.more hx hm F hF hs hf
    by_cases hyG : y ∈ G
    · by_cases hall : ∀ z ∈ K ++ [x], z ∈ G
      · exfalso
        have h1 : sm m (K ++ [x]) ≤ sm m G := sub_sum hnd1 hall (fun z hz => hm z (hsub1 z (g2 z hz)))
        rw [sm_app, sm_cons, sm_nil] at h1
        have hxF : x ∈ F := by
          by_cases hxF : x ∈ F
          · exact hxF
          · exfalso
            -- all of F among p: then as many of K
            obtain ⟨G2, q1, q2, q3, q4⟩ := h.opt F hF (fun z hz => by
              rcases List.mem_append.1 (hs z hz) with h9 | h9
              · exact h9
              · obtain rfl : z = x := by simpa using h9
                exact absurd hz hxF) hf
            have a1 := sub_len q1 q2
            have a2 := sub_len hnd1 hall
            simp only [List.length_append, List.length_cons, List.length_nil] at a2
            omega
        have h2 := hf x hxF
        have h3 : F.filter (fun j => decide (d j ≤ d x)) = F := List.filter_eq_self.2 fun z hz => by
          rcases List.mem_append.1 (hs z hz) with h9 | h9
          · exact decide_eq_true (hd z h9)
          · obtain rfl : z = x := by simpa using h9
            simp
        rw [h3] at h2
        omega
      · have ⟨z, hz⟩ := Classical.not_forall.1 hall
        obtain ⟨hz1, hz2⟩ := Classical.not_imp.1 hz
        have hp := List.perm_cons_erase hyG
        have hnG := hp.nodup_iff.1 g1
        rw [List.nodup_cons] at hnG
        refine ⟨z :: G.erase y, List.nodup_cons.2 ⟨fun e => hz2 (List.mem_of_mem_erase e), hnG.2⟩, fun u hu => ?_, ?_, ?_⟩
        · rcases List.mem_cons.1 hu with rfl | hu
          · rcases (hmem u).1 hz1 with rfl | h9
            · exact absurd hyG hz2
            · exact h9
          · rcases (hmem u).1 (g2 u (List.mem_of_mem_erase hu)) with rfl | h9
            · exact absurd hu hnG.1
            · exact h9
        · have := hp.length_eq
          simp only [List.length_cons] at this ⊢
          omega
        · rw [sm_perm hp, sm_cons] at g4
          rw [sm_cons]
          have := hy z hz1
          omega
    · refine ⟨G, g1, fun u hu => ?_, g3, g4⟩
      rcases (hmem u).1 (g2 u hu) with rfl | h9
      · exact absurd hu hyG
      · exact h9
end Go.Proofs.Yteckhmbkagigjaa
