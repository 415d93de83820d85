/- The document's division, bit by bit: the plain law. -/
import Derived.Test.YtjocobfabdkadaaRefd
namespace Go.Proofs.Ytjocobfabdkadaa
/-- One byte x is being divided, m of its bits are left; L was left over before it, o is what the quotient's byte is so far, r what is left over now. -/
def BitI (b L x m o r : Nat) : Prop := ∃ q, o = q * 2 ^ m ∧ L * 2 ^ (8 - m) + x / 2 ^ m = q * b + r ∧ r < b ∧ q < 2 ^ (8 - m)
theorem bit_first {b L x : Nat} (hL : L < b) (hx : x < 256) : BitI b L x 8 0 L := ⟨0, by simp, by simp; omega, hL, by simp⟩
theorem bit_next {b L x m o r : Nat} (h : BitI b L x (m + 1) o r) (hm : m + 1 ≤ 8) :
    o + 2 ^ m < 256 ∧ (b ≤ 2 * r + x / 2 ^ m % 2 → BitI b L x m (o + 2 ^ m) (2 * r + x / 2 ^ m % 2 - b)) ∧ (2 * r + x / 2 ^ m % 2 < b → BitI b L x m o (2 * r + x / 2 ^ m % 2)) := by
  obtain ⟨q, h1, h2, h3, h4⟩ := h
  have e1 : 2 ^ (8 - m) = 2 * 2 ^ (8 - (m + 1)) := by rw [show 8 - m = 8 - (m + 1) + 1 by omega, Nat.pow_succ, Nat.mul_comm]
  have e2 : (2 : Nat) ^ (m + 1) = 2 * 2 ^ m := by rw [Nat.pow_succ, Nat.mul_comm]
  have e3 : 2 ^ (8 - (m + 1)) * (2 ^ m * 2) = 256 := by rw [← Nat.pow_succ, ← Nat.pow_add, show 8 - (m + 1) + (m + 1) = 8 by omega]
  have e4 : x / 2 ^ (m + 1) = x / 2 ^ m / 2 := by rw [Nat.pow_succ, Nat.div_div_eq_div_mul]
  rw [e4] at h2
  rw [e2] at h1
  have hT : L * 2 ^ (8 - m) + x / 2 ^ m = 2 * (q * b) + (2 * r + x / 2 ^ m % 2) := by
    rw [e1, Nat.mul_left_comm]
    omega
  have p : 0 < 2 ^ m := Nat.pow_pos (by omega)
  have hq2 : (2 * q + 1) * 2 ^ m = o + 2 ^ m := by rw [h1, Nat.add_mul, Nat.one_mul, Nat.mul_comm 2 q, Nat.mul_assoc]
  refine ⟨?_, fun hb => ⟨2 * q + 1, hq2.symm, ?_, by omega, by omega⟩, fun hb => ⟨2 * q, ?_, ?_, hb, by omega⟩⟩
  · have h5 : (2 * q + 1 + 1) * 2 ^ m ≤ 2 ^ (8 - (m + 1)) * 2 * 2 ^ m := Nat.mul_le_mul_right _ (by omega)
    rw [Nat.mul_assoc, Nat.mul_comm 2 (2 ^ m), e3, Nat.add_mul, hq2, Nat.one_mul] at h5
    omega
  · rw [hT, Nat.add_mul, Nat.mul_assoc]
    omega
  · rw [h1, Nat.mul_comm 2 q, Nat.mul_assoc]
  · rw [hT, Nat.mul_assoc]
theorem bit_last {b L x o r : Nat} (h : BitI b L x 0 o r) : L * 256 + x = o * b + r ∧ r < b ∧ o < 256 := by
  obtain ⟨q, h1, h2, h3, h4⟩ := h
  simp at h1 h2 h4
  subst h1
  exact ⟨h2, h3, h4⟩
theorem BitI.small {b L x m o r : Nat} (h : BitI b L x m o r) : r < b := by obtain ⟨q, _, _, h3, _⟩ := h; exact h3
end Go.Proofs.Ytjocobfabdkadaa
