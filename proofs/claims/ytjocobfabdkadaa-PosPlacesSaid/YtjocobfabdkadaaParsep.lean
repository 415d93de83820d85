/- Parse of package deci: the plain law: what parts of a text are worth. -/
import Derived.Test.YtjocobfabdkadaaShift
namespace Go.Proofs.Ytjocobfabdkadaa
theorem decv_from : ∀ (m : List Nat) (a : Nat), m.foldl (fun n x => n * 10 + (x - 48)) a = a * 10 ^ m.length + decv m
  | [], a => by simp [decv]
  | x :: m, a => by
    have h1 := decv_from m (a * 10 + (x - 48))
    have h2 := decv_from m (0 * 10 + (x - 48))
    simp only [decv, List.foldl_cons, List.length_cons, Nat.pow_succ] at *
    rw [h1, h2, Nat.add_mul, Nat.add_mul, Nat.mul_assoc, Nat.mul_comm (10 ^ m.length) 10]
    omega
theorem decv_append (l m : List Nat) : decv (l ++ m) = decv l * 10 ^ m.length + decv m := by
  show (l ++ m).foldl _ 0 = _
  rw [List.foldl_append, decv_from]
  rfl
theorem bys_extract (s : ByteArray) (a b : Nat) : bys (s.extract a b) = ((bys s).drop a).take (b - a) := by
  simp [bys, ByteArray.data_extract]
theorem Dig.sub {l : List Nat} (h : ∀ x ∈ l, Dig x) (a n : Nat) : ∀ x ∈ (l.drop a).take n, Dig x := fun x hx => h x (List.mem_of_mem_drop (List.mem_of_mem_take hx))
theorem decv_part {l : List Nat} {a n : Nat} (h : a + n ≤ l.length) : decv (l.take (a + n)) = decv (l.take a) * 10 ^ n + decv ((l.drop a).take n) := by
  rw [List.take_add, decv_append, List.length_take, List.length_drop, Nat.min_eq_left (by omega)]
theorem last_trim {q : List Nat} (h : q.getLast? ≠ some 0) : trimLen q = q.length := by
  rcases List.eq_nil_or_concat q with rfl | ⟨m, x, rfl⟩
  · rfl
  · have hx : x ≠ 0 := by intro e; subst e; simp at h
    rw [List.concat_eq_append, trimLen_snoc, if_neg hx]
    simp
/-- What shift makes of a number's limbs is, again, a number's limbs. -/
theorem lim_shift {q l : List Nat} {t more M : Nat} (hl : Lim 18446744073709551616 l M) (hq : AllLt 18446744073709551616 q) (hv : val 18446744073709551616 q = M * t + more) (ht : 0 < t)
    (h : q.length = l.length ∨ (q.length = l.length + 1 ∧ q.getLast? ≠ some 0)) : Lim 18446744073709551616 q (M * t + more) := by
  refine ⟨hq, hv, ?_⟩
  rcases h with h | ⟨_, h⟩
  · by_cases h0 : l = []
    · subst h0
      have := List.eq_nil_of_length_eq_zero h
      subst this; rfl
    · have hle := trimLen_le q
      by_cases hc : trimLen q = q.length
      · exact hc
      · exfalso
        have h1 := val_lt 18446744073709551616 (by omega) (q.take (trimLen q)) (hq.take _)
        rw [val_trim, hv, List.length_take, Nat.min_eq_left hle] at h1
        have h2 := lim_ge 18446744073709551616 (by omega) l hl.2.2 h0
        rw [hl.2.1] at h2
        have h3 : 18446744073709551616 ^ trimLen q ≤ 18446744073709551616 ^ (l.length - 1) := Nat.pow_le_pow_right (by omega) (by omega)
        have h4 : M ≤ M * t := Nat.le_mul_of_pos_right _ ht
        omega
  · exact last_trim h
end Go.Proofs.Ytjocobfabdkadaa
