/- Powers and sums of powers, in plain numbers: what the binary way reckons, and when it fits. No condition. -/
import Derived.Test.YtfpjhohkaoodmaaCap
import Derived.Lib.BitFns
namespace Go.Proofs.Ytfpjhohkaoodmaa
/-- The sum of the first n powers of N, from N^0 on. -/
def geo (N : Nat) : Nat → Nat
  | 0 => 0
  | n + 1 => geo N n * N + 1
theorem geo_pow {N : Nat} (hN : 1 ≤ N) : ∀ m, geo N m * (N - 1) + 1 = N ^ m
  | 0 => by simp [geo]
  | m + 1 => by
    have h := geo_pow hN m
    obtain ⟨k, rfl⟩ : ∃ k, N = k + 1 := ⟨N - 1, by omega⟩
    simp only [Nat.add_sub_cancel] at h ⊢
    rw [Nat.pow_succ, ← h, geo]
    simp only [Nat.add_mul, Nat.mul_add, Nat.mul_one, Nat.one_mul, Nat.mul_assoc]
    omega
theorem geo_add (N m : Nat) : ∀ k, geo N (m + k) = geo N m * N ^ k + geo N k
  | 0 => by simp [geo]
  | k + 1 => by
    rw [← Nat.add_assoc, geo, geo_add N m k, geo, Nat.pow_succ, Nat.add_mul, Nat.mul_assoc]
    omega
theorem geo_twice {N : Nat} (m : Nat) : geo N (2 * m) = geo N m * (N ^ m + 1) := by
  rw [Nat.two_mul, geo_add, Nat.mul_add, Nat.mul_one]
theorem geo_mono {N m n : Nat} (hN : 1 ≤ N) (h : m ≤ n) : geo N m ≤ geo N n := by
  obtain ⟨k, rfl⟩ : ∃ k, n = m + k := ⟨n - m, by omega⟩
  rw [geo_add]
  have := Nat.pow_pos (n := k) hN
  have := Nat.mul_le_mul_left (geo N m) (show 1 ≤ N ^ k from this)
  omega
theorem pow_le_geo (N : Nat) : ∀ m, N ^ m ≤ geo N (m + 1)
  | 0 => by simp [geo]
  | m + 1 => by
    have h := Nat.mul_le_mul_right N (pow_le_geo N m)
    rw [Nat.pow_succ, geo]
    omega
theorem pow_mono {N m n : Nat} (hN : 1 ≤ N) (h : m ≤ n) : N ^ m ≤ N ^ n := Nat.pow_le_pow_right hN h
theorem geo_zero_base : ∀ n, 0 < n → geo 0 n = 1
  | 0, h => absurd h (by omega)
  | n + 1, _ => by simp [geo]
theorem geo_one_base : ∀ n, geo 1 n = n
  | 0 => rfl
  | n + 1 => by rw [geo, geo_one_base n]; omega
theorem fitB_pow_false {c : Int} {N n : Nat} (hN : 2 ≤ N) (h : 64 * (max 0 c).toNat ≤ n) : fitB c (N ^ n) = false := by
  unfold fitB
  refine decide_eq_false ?_
  have h1 : (18446744073709551616 : Nat) ^ (max 0 c).toNat = 2 ^ (64 * (max 0 c).toNat) := by
    rw [Nat.pow_mul]
  rw [h1]
  have h2 : 2 ^ (64 * (max 0 c).toNat) ≤ 2 ^ n := Nat.pow_le_pow_right (by omega) h
  have h3 : 2 ^ n ≤ N ^ n := Nat.pow_le_pow_left hN n
  omega
theorem fitB_two {c : Int} {n : Nat} : fitB c (2 ^ n) = decide (n < 64 * (max 0 c).toNat) := by
  unfold fitB
  have h1 : (18446744073709551616 : Nat) ^ (max 0 c).toNat = 2 ^ (64 * (max 0 c).toNat) := by
    rw [Nat.pow_mul]
  rw [h1]
  exact decide_eq_decide.2 (Nat.pow_lt_pow_iff_right (by omega))
theorem fitB_false {c : Int} {N M : Nat} (h : fitB c N = false) (hM : N ≤ M) : fitB c M = false := by
  cases hf : fitB c M with
  | false => rfl
  | true => rw [fitB_le hf hM] at h; cases h
theorem fitB_geo_false {c : Int} {N n : Nat} (hN : 2 ≤ N) (h : 64 * (max 0 c).toNat ≤ n) : fitB c (geo N (n + 1)) = false := fitB_false (fitB_pow_false hN h) (pow_le_geo N n)
/-- The next step of the binary way. -/
theorem half_step (n i : Nat) : n / 2 ^ i = 2 * (n / 2 ^ (i + 1)) + n / 2 ^ i % 2 := by
  rw [Nat.pow_succ, ← Nat.div_div_eq_div_mul]
  omega
theorem pow_twice (N m : Nat) : N ^ (2 * m) = N ^ m * N ^ m := by rw [Nat.two_mul, Nat.pow_add]
theorem half_le (n i : Nat) : n / 2 ^ i ≤ n := Nat.div_le_self _ _
theorem fitB_fits {c : Int} {N s : Nat} (h : fitB c N = true) (hs : c ≤ s) : Fits N s := by
  have h1 := of_decide_eq_true h
  exact ⟨Nat.lt_of_lt_of_le h1 (Nat.pow_le_pow_right (by omega) (by omega))⟩
theorem bitLenAux_le : ∀ (f x : Nat), Lib.bitLenAux f x ≤ f
  | 0, _ => Nat.le_refl _
  | f + 1, x => by
    unfold Lib.bitLenAux
    split
    · omega
    · have := bitLenAux_le f (x / 2); omega
theorem bitLenAux_lt : ∀ (f x : Nat), x < 2 ^ f → x < 2 ^ Lib.bitLenAux f x ∧ (0 < x → 2 ^ (Lib.bitLenAux f x - 1) ≤ x ∧ 0 < Lib.bitLenAux f x)
  | 0, x, h => by simp at h; subst h; simp [Lib.bitLenAux]
  | f + 1, x, h => by
    unfold Lib.bitLenAux
    split
    · rename_i h0; subst h0; simp
    · rename_i h0
      rw [Nat.pow_succ] at h
      obtain ⟨h1, h2⟩ := bitLenAux_lt f (x / 2) (by omega)
      refine ⟨?_, fun _ => ⟨?_, by omega⟩⟩
      · rw [Nat.add_comm, Nat.pow_succ]; omega
      · rw [Nat.add_sub_cancel_left]
        by_cases hx : 0 < x / 2
        · obtain ⟨h3, h4⟩ := h2 hx
          obtain ⟨k, hk⟩ : ∃ k, Lib.bitLenAux f (x / 2) = k + 1 := ⟨Lib.bitLenAux f (x / 2) - 1, by omega⟩
          rw [hk] at h3 ⊢
          rw [Nat.add_sub_cancel] at h3
          rw [Nat.pow_succ]; omega
        · have hz : x / 2 = 0 := by omega
          have hx1 : x = 1 := by omega
          have : Lib.bitLenAux f 0 = 0 := by cases f <;> simp [Lib.bitLenAux]
          rw [hz, this]; omega
theorem bitLen_le (x : Nat) : Lib.bitLen x ≤ 64 := bitLenAux_le 64 x
theorem bitLen_lt {x : Nat} (h : x < 18446744073709551616) : x < 2 ^ Lib.bitLen x := (bitLenAux_lt 64 x (by simpa using h)).1
theorem bitLen_ge {x : Nat} (h : x < 18446744073709551616) (h0 : 0 < x) : 2 ^ (Lib.bitLen x - 1) ≤ x ∧ 0 < Lib.bitLen x := (bitLenAux_lt 64 x (by simpa using h)).2 h0
theorem bitLen_div {x : Nat} (h : x < 18446744073709551616) : x / 2 ^ Lib.bitLen x = 0 := Nat.div_eq_of_lt (bitLen_lt h)
/-- How many binary digits N has. -/
def Bitn (N b : Nat) : Prop := N < 2 ^ b ∧ (0 < N → 2 ^ (b - 1) ≤ N ∧ 0 < b) ∧ (N = 0 → b = 0)
theorem Bitn.unique {N b d : Nat} (h : Bitn N b) (h' : Bitn N d) : b = d := by
  by_cases h0 : N = 0
  · rw [h.2.2 h0, h'.2.2 h0]
  · obtain ⟨h1, h2, _⟩ := h
    obtain ⟨k1, k2, _⟩ := h'
    obtain ⟨h3, h4⟩ := h2 (by omega)
    obtain ⟨k3, k4⟩ := k2 (by omega)
    have e1 := (Nat.pow_lt_pow_iff_right (show 1 < 2 by omega)).1 (Nat.lt_of_le_of_lt h3 k1)
    have e2 := (Nat.pow_lt_pow_iff_right (show 1 < 2 by omega)).1 (Nat.lt_of_le_of_lt k3 h1)
    omega
end Go.Proofs.Ytfpjhohkaoodmaa
