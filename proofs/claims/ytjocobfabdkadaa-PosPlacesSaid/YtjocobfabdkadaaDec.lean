/- Decimal digits: the plain law of Text. -/
import Derived.Test.YtjocobfabdkadaaPutAll
namespace Go.Proofs.Ytjocobfabdkadaa
theorem low_zero (f : Nat) : low f 0 0 = [] := by cases f <;> simp [low]
theorem low_fuel : ∀ f g n : Nat, n < 10 ^ f → n < 10 ^ g → low f n 0 = low g n 0
  | 0, g, n, h, _ => by
    have : n = 0 := by simp at h; exact h
    subst this
    rw [low_zero, low_zero]
  | f + 1, g, n, h, h2 => by
    by_cases h0 : n = 0
    · subst h0; rw [low_zero, low_zero]
    · cases g with
      | zero => simp at h2; omega
      | succ g =>
        rw [low_more (by omega), low_more (by omega), Nat.zero_sub]
        rw [Nat.pow_succ] at h h2
        rw [low_fuel f g (n / 10) (by omega) (by omega)]
theorem low_split : ∀ (k f g q r : Nat), 0 < q → r < 10 ^ k → k ≤ g → low (f + k) (q * 10 ^ k + r) 0 = low g r k ++ low f q 0
  | 0, f, g, q, r, hq, hr, hg => by
    have : r = 0 := by simp at hr; exact hr
    subst this
    rw [low_zero]; simp
  | k + 1, f, g, q, r, hq, hr, hg => by
    obtain ⟨g, rfl⟩ : ∃ g', g = g' + 1 := ⟨g - 1, by omega⟩
    have hp : 0 < 10 ^ k := Nat.pow_pos (by omega)
    have e : q * 10 ^ (k + 1) + r = 10 * (q * 10 ^ k + r / 10) + r % 10 := by
      rw [Nat.pow_succ, Nat.mul_add, ← Nat.mul_assoc q, Nat.mul_comm (q * 10 ^ k) 10]
      omega
    have hq1 : 0 < q * 10 ^ k := Nat.mul_pos hq hp
    rw [show f + (k + 1) = f + k + 1 by omega, low_more (by omega), low_more (by omega), e]
    rw [show (10 * (q * 10 ^ k + r / 10) + r % 10) % 10 = r % 10 by omega, show (10 * (q * 10 ^ k + r / 10) + r % 10) / 10 = q * 10 ^ k + r / 10 by omega]
    rw [Nat.pow_succ] at hr
    rw [Nat.zero_sub, low_split k f g q (r / 10) hq (by omega) (by omega)]
    simp
theorem low_one {f n : Nat} (h : n ≠ 0) : low (f + 1) n 1 = low (f + 1) n 0 := by
  rw [low_more (by omega), low_more (by omega)]
theorem chunks_low : ∀ (f F N : Nat), N < 10000000000000000000 ^ f → N < 10 ^ F → ((chunks f N).map fun x => low 200 x.1 x.2).flatten = low F N 0
  | 0, F, N, h, _ => by
    have : N = 0 := by simp at h; exact h
    subst this
    rw [low_zero]; rfl
  | f + 1, F, N, h, hF => by
    by_cases h0 : N = 0
    · subst h0; rw [low_zero, chunks_zero]; rfl
    · have e19 : (10 : Nat) ^ 19 = 10000000000000000000 := by decide
      rw [chunks_more h0]
      by_cases hq : N / 10000000000000000000 = 0
      · have hN : N < 10000000000000000000 := by omega
        rw [hq, if_pos rfl, chunks_zero, Nat.mod_eq_of_lt hN]
        simp only [List.map_cons, List.map_nil, List.flatten_cons, List.flatten_nil, List.append_nil]
        rw [low_one h0]
        exact low_fuel _ _ _ (Nat.lt_of_lt_of_le (e19 ▸ hN) (Nat.pow_le_pow_right (by omega) (by omega))) hF
      · rw [if_neg hq]
        simp only [List.map_cons, List.flatten_cons]
        have h19 : 19 ≤ F := by
          rcases Nat.lt_or_ge F 19 with h1 | h1
          · exfalso
            have : 10 ^ F ≤ 10 ^ 19 := Nat.pow_le_pow_right (by omega) (by omega)
            omega
          · exact h1
        obtain ⟨G, rfl⟩ : ∃ G, F = G + 19 := ⟨F - 19, by omega⟩
        have hG : N / 10000000000000000000 < 10 ^ G := by
          rw [Nat.div_lt_iff_lt_mul (by decide), ← e19, ← Nat.pow_add]
          exact hF
        have hf : N / 10000000000000000000 < 10000000000000000000 ^ f := by
          rw [Nat.div_lt_iff_lt_mul (by decide), ← Nat.pow_succ]
          exact h
        rw [chunks_low f G _ hf hG]
        have hs := low_split 19 G 200 (N / 10000000000000000000) (N % 10000000000000000000) (by omega) (by rw [e19]; omega) (by omega)
        rw [e19, show N / 10000000000000000000 * 10000000000000000000 + N % 10000000000000000000 = N by omega] at hs
        exact hs.symm
/-- The decimal digits of a number, as bytes, the uppermost first. -/
def dec (N : Nat) : List Nat := if N = 0 then [48] else (low N N 0).reverse
theorem chunks_dec {N : Nat} (h0 : N ≠ 0) (h : N < 10000000000000000000 ^ 200) : ((chunks 200 N).map fun x => low 200 x.1 x.2).flatten.reverse = dec N := by
  rw [chunks_low 200 N N h (Nat.lt_pow_self (by omega)), dec, if_neg h0]
end Go.Proofs.Ytjocobfabdkadaa
