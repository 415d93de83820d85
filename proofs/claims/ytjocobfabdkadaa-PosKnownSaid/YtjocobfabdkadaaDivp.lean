/- Division of two words by one, the plain law: what each of the two guesses is, and what comes of them. -/
import Derived.Test.YtjocobfabdkadaaNum
namespace Go.Proofs.Ytjocobfabdkadaa
/-- Where the guess stands: q times the upper half and r are u; q is not too small. -/
def Guess (a b u v q r : Nat) : Prop := q * a + r = u ∧ u * 4294967296 + v < (q + 1) * (a * 4294967296 + b)
section
variable {a b u v q r : Nat}
theorem guess_first (hv : v < 4294967296) (ha : 0 < a) : Guess a b u v (u / a) (u % a) := by
  refine ⟨by rw [Nat.mul_comm]; exact Nat.div_add_mod u a, ?_⟩
  have h1 : u < (u / a + 1) * a := by
    have := Nat.div_add_mod u a
    have := Nat.mod_lt u ha
    rw [Nat.add_mul, Nat.mul_comm]; omega
  have h2 : (u + 1) * 4294967296 ≤ (u / a + 1) * a * 4294967296 := Nat.mul_le_mul_right _ h1
  rw [Nat.mul_add, ← Nat.mul_assoc]
  omega
theorem guess_down (h : Guess a b u v q r) (hu : u < a * 4294967296 + b) (hv : v < 4294967296) (hq : 4294967296 ≤ q ∨ 4294967296 * r + v < q * b) :
    0 < q ∧ Guess a b u v (q - 1) (r + a) := by
  have hq0 : 0 < q := by
    rcases Nat.eq_zero_or_pos q with h0 | h0
    · subst h0; simp at hq
    · exact h0
  obtain ⟨p, rfl⟩ : ∃ p, q = p + 1 := ⟨q - 1, by omega⟩
  refine ⟨hq0, ?_, ?_⟩
  · have := h.1; simp only [Nat.add_sub_cancel]; rw [Nat.add_mul] at this; omega
  · simp only [Nat.add_sub_cancel]
    rcases hq with hq | hq
    · have h1 : 4294967296 * (a * 4294967296 + b) ≤ (p + 1) * (a * 4294967296 + b) := Nat.mul_le_mul_right _ hq
      omega
    · have h1 := h.1
      have h2 : (p + 1) * (a * 4294967296 + b) = (p + 1) * a * 4294967296 + (p + 1) * b := by rw [Nat.mul_add, Nat.mul_assoc]
      rw [h2]
      have h3 : ((p + 1) * a + r) * 4294967296 = u * 4294967296 := by rw [h1]
      rw [Nat.add_mul] at h3
      omega
theorem guess_small (h : Guess a b u v q r) (hu : u < a * 4294967296 + b) (hb : b < 4294967296) (hr : 4294967296 ≤ r) : q < 4294967296 := by
  rcases Nat.lt_or_ge q 4294967296 with hq | hq
  · exact hq
  · have h1 := h.1
    have h2 : 4294967296 * a ≤ q * a := Nat.mul_le_mul_right _ hq
    omega
theorem guess_done (h : Guess a b u v q r) (hb : b < 4294967296) (hq : q < 4294967296) (hr : 4294967296 ≤ r ∨ q * b ≤ 4294967296 * r + v) :
    q * (a * 4294967296 + b) ≤ u * 4294967296 + v ∧ u * 4294967296 + v - q * (a * 4294967296 + b) < a * 4294967296 + b := by
  have h2 : q * (a * 4294967296 + b) = q * a * 4294967296 + q * b := by rw [Nat.mul_add, Nat.mul_assoc]
  have h1 := h.1
  have h3 : (q * a + r) * 4294967296 = u * 4294967296 := by rw [h1]
  rw [Nat.add_mul] at h3
  have h4 := h.2
  rw [Nat.add_mul, Nat.one_mul] at h4
  have h5 : q * b ≤ 4294967296 * r + v := by
    rcases hr with hr | hr
    · have : q * b ≤ q * 4294967296 := Nat.mul_le_mul_left _ (by omega)
      have : 4294967296 * 4294967296 ≤ 4294967296 * r := Nat.mul_le_mul_left _ hr
      omega
    · exact hr
  omega
end
/-- Both guesses together: the quotient and, shifted back, what is left over. -/
theorem guess_both {y t B K u w v q1 q0 m r : Nat} (ht : 0 < t) (hn : K * t = (u * B + w) * B + v)
    (h1 : u * B + w = q1 * (y * t) + m) (h2 : m * B + v = q0 * (y * t) + r) (hr : r < y * t) :
    (q1 * B + q0) * y + r / t = K ∧ r / t < y := by
  have e : K * t = t * ((q1 * B + q0) * y) + r := by
    rw [hn, h1, Nat.add_mul, Nat.add_assoc, h2, Nat.add_mul _ _ y, Nat.mul_add, ← Nat.add_assoc]
    congr 2
    · rw [Nat.mul_comm t, Nat.mul_assoc q1, Nat.mul_assoc q1, Nat.mul_assoc q1, Nat.mul_comm (y * t) B, Nat.mul_assoc]
    · rw [Nat.mul_comm t, Nat.mul_assoc]
  have e2 : K = (q1 * B + q0) * y + r / t := by
    rw [← Nat.mul_div_cancel K ht, e, Nat.mul_add_div ht]
  exact ⟨e2.symm, (Nat.div_lt_iff_lt_mul ht).2 hr⟩
/-- How far a word is shifted until its uppermost digit is 1. -/
theorem shift_full {y k : Nat} (hk : k ≤ 64) (h1 : y < 2 ^ k) (h2 : 2 ^ (k - 1) ≤ y) (hk0 : 0 < k) :
    9223372036854775808 ≤ y * 2 ^ (64 - k) ∧ y * 2 ^ (64 - k) < 18446744073709551616 := by
  have e1 : 2 ^ (k - 1) * 2 ^ (64 - k) = 9223372036854775808 := by
    rw [← Nat.pow_add, show k - 1 + (64 - k) = 63 by omega]
  have e2 : 2 ^ k * 2 ^ (64 - k) = 18446744073709551616 := by
    rw [← Nat.pow_add, show k + (64 - k) = 64 by omega]
  have p : 0 < 2 ^ (64 - k) := Nat.pow_pos (by omega)
  exact ⟨e1 ▸ Nat.mul_le_mul_right _ h2, e2 ▸ Nat.mul_lt_mul_of_pos_right h1 p⟩
end Go.Proofs.Ytjocobfabdkadaa
