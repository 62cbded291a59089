/- The order of strings by their bytes: irreflexive, transitive, total. Conditions: none. -/
import Derived.Test.YtcphlancaahihaaBase
namespace Go.Proofs.Ytcphlancaahihaa

theorem bl_irrefl : ∀ a : List UInt8, Op.bytesLess a a = false
  | [] => rfl
  | x :: a => by
    have ih := bl_irrefl a
    unfold Op.bytesLess
    simp [ih]
theorem bl_trans : ∀ {a b c : List UInt8}, Op.bytesLess a b = true → Op.bytesLess b c = true → Op.bytesLess a c = true
  | [], [], _, h, _ => by simp [Op.bytesLess] at h
  | _ :: _, [], _, h, _ => by simp [Op.bytesLess] at h
  | [], _ :: _, [], _, h => by simp [Op.bytesLess] at h
  | [], _ :: _, _ :: _, _, _ => by simp [Op.bytesLess]
  | _ :: _, _ :: _, [], _, h => by simp [Op.bytesLess] at h
  | x :: a, y :: b, z :: c, h, k => by
    have ih := @bl_trans a b c
    unfold Op.bytesLess at h k ⊢
    simp only [UInt8.lt_iff_toNat_lt, ← UInt8.toNat_inj, beq_iff_eq, Bool.or_eq_true, Bool.and_eq_true, decide_eq_true_eq] at h k ⊢
    rcases h with h | ⟨h1, h2⟩ <;> rcases k with k | ⟨k1, k2⟩
    · left; omega
    · left; omega
    · left; omega
    · right; exact ⟨by omega, ih h2 k2⟩
theorem bl_tri : ∀ {a b : List UInt8}, Op.bytesLess a b = false → Op.bytesLess b a = false → a = b
  | [], [], _, _ => rfl
  | _ :: _, [], _, h => by simp [Op.bytesLess] at h
  | [], _ :: _, h, _ => by simp [Op.bytesLess] at h
  | x :: a, y :: b, h, k => by
    have ih := @bl_tri a b
    unfold Op.bytesLess at h k
    simp only [UInt8.lt_iff_toNat_lt, Bool.or_eq_false_iff, Bool.and_eq_false_iff, decide_eq_false_iff_not, beq_eq_false_iff_ne, ne_eq] at h k
    obtain ⟨h1, h2⟩ := h
    obtain ⟨k1, k2⟩ := k
    have hxy : x = y := UInt8.toNat_inj.1 (by omega)
    subst hxy
    rw [ih (by simpa using h2) (by simpa using k2)]
theorem bl_asymm {a b : List UInt8} (h : Op.bytesLess a b = true) : Op.bytesLess b a = false := by
  cases k : Op.bytesLess b a
  · rfl
  · have := bl_trans h k
    rw [bl_irrefl] at this
    cases this
end Go.Proofs.Ytcphlancaahihaa
