/- Plain laws of intervals, for InterLattice: joins and meets hang on no order, each absorbs the other; widened time and again an interval changes three times at most. Nothing of the program but the definitions of its answers. -/
import Derived.Test.YtfepaalplceaaaaLeaf
namespace Go.Proofs.Ytfepaalplceaaaa
theorem rj_comm (a b c d : Int) : rjlo c d a b = rjlo a b c d ∧ rjhi c d a b = rjhi a b c d := by
  unfold rjlo rjhi plo phi
  constructor <;> (repeat' split) <;> omega
theorem m_comm (a b c d : Int) : mlo c d a b = mlo a b c d ∧ mhi c d a b = mhi a b c d := by
  unfold mlo mhi
  rw [Int.max_comm, Int.min_comm]
  exact ⟨rfl, rfl⟩
/-- A join is empty, and then told as 1, 0, or a hull. -/
theorem rj_cases (a b c d : Int) : (b < a ∧ d < c ∧ rjlo a b c d = 1 ∧ rjhi a b c d = 0) ∨ (b < a ∧ c ≤ d ∧ rjlo a b c d = c ∧ rjhi a b c d = d) ∨ (a ≤ b ∧ d < c ∧ rjlo a b c d = a ∧ rjhi a b c d = b) ∨
    (a ≤ b ∧ c ≤ d ∧ rjlo a b c d = min a c ∧ rjhi a b c d = max b d) := by
  unfold rjlo rjhi plo phi
  by_cases h : b < a <;> by_cases h2 : d < c <;> simp [h, h2] <;> omega
theorem m_cases (a b c d : Int) : (min b d < max a c ∧ mlo a b c d = 1 ∧ mhi a b c d = 0) ∨ (max a c ≤ min b d ∧ mlo a b c d = max a c ∧ mhi a b c d = min b d) := by
  unfold mlo mhi plo phi
  by_cases h : min b d < max a c
  · left; exact ⟨h, if_pos h, if_pos h⟩
  · right; exact ⟨by omega, if_neg h, if_neg h⟩
theorem p_cases (a b : Int) : (b < a ∧ plo a b = 1 ∧ phi a b = 0) ∨ (a ≤ b ∧ plo a b = a ∧ phi a b = b) := by
  unfold plo phi
  by_cases h : b < a
  · left; exact ⟨h, if_pos h, if_pos h⟩
  · right; exact ⟨by omega, if_neg h, if_neg h⟩
theorem rj_assoc (a b c d e f : Int) : rjlo (rjlo a b c d) (rjhi a b c d) e f = rjlo a b (rjlo c d e f) (rjhi c d e f) ∧ rjhi (rjlo a b c d) (rjhi a b c d) e f = rjhi a b (rjlo c d e f) (rjhi c d e f) := by
  have h1 := rj_cases a b c d
  have h2 := rj_cases c d e f
  have h3 := rj_cases (rjlo a b c d) (rjhi a b c d) e f
  have h4 := rj_cases a b (rjlo c d e f) (rjhi c d e f)
  omega
theorem m_assoc (a b c d e f : Int) : mlo (mlo a b c d) (mhi a b c d) e f = mlo a b (mlo c d e f) (mhi c d e f) ∧ mhi (mlo a b c d) (mhi a b c d) e f = mhi a b (mlo c d e f) (mhi c d e f) := by
  have h1 := m_cases a b c d
  have h2 := m_cases c d e f
  have h3 := m_cases (mlo a b c d) (mhi a b c d) e f
  have h4 := m_cases a b (mlo c d e f) (mhi c d e f)
  omega
theorem same_iff (a b c d : Int) : sameB a b c d = true ↔ (plo a b = plo c d ∧ phi a b = phi c d) := by
  unfold sameB; simp
theorem absorb1 (a b c d : Int) : sameB (rjlo a b (mlo a b c d) (mhi a b c d)) (rjhi a b (mlo a b c d) (mhi a b c d)) a b = true := by
  rw [same_iff]
  have h1 := m_cases a b c d
  have h2 := rj_cases a b (mlo a b c d) (mhi a b c d)
  have h3 := p_cases a b
  have h4 := p_cases (rjlo a b (mlo a b c d) (mhi a b c d)) (rjhi a b (mlo a b c d) (mhi a b c d))
  omega
theorem absorb2 (a b c d : Int) : sameB (mlo a b (rjlo a b c d) (rjhi a b c d)) (mhi a b (rjlo a b c d) (rjhi a b c d)) a b = true := by
  rw [same_iff]
  have h1 := rj_cases a b c d
  have h2 := m_cases a b (rjlo a b c d) (rjhi a b c d)
  have h3 := p_cases a b
  have h4 := p_cases (mlo a b (rjlo a b c d) (rjhi a b c d)) (mhi a b (rjlo a b c d) (rjhi a b c d))
  omega
theorem within_same (a b c d : Int) : sameB (rjlo a b c d) (rjhi a b c d) c d = withinB a b c d := by
  rw [Bool.eq_iff_iff, same_iff]
  unfold withinB
  rw [decide_eq_true_eq]
  have h1 := rj_cases a b c d
  have h3 := p_cases c d
  have h4 := p_cases (rjlo a b c d) (rjhi a b c d)
  omega
theorem has_iff (a b n : Int) : hasB a b n = true ↔ (a ≤ n ∧ n ≤ b) := by unfold hasB; simp
theorem has_not (a b n : Int) : hasB a b n = false ↔ ¬ (a ≤ n ∧ n ≤ b) := by unfold hasB; rw [decide_eq_false_iff_not]
theorem has_join {a b c d n : Int} (h : hasB a b n = true ∨ hasB c d n = true) : hasB (rjlo a b c d) (rjhi a b c d) n = true := by
  rw [has_iff, has_iff] at h
  rw [has_iff]
  have h1 := rj_cases a b c d
  omega
theorem has_meet (a b c d n : Int) : hasB (mlo a b c d) (mhi a b c d) n = (hasB a b n && hasB c d n) := by
  rw [Bool.eq_iff_iff, Bool.and_eq_true, has_iff, has_iff, has_iff]
  have h1 := m_cases a b c d
  omega
theorem within_iff (a b c d : Int) : withinB a b c d = true ↔ (b < a ∨ (c ≤ a ∧ b ≤ d)) := by unfold withinB; simp
theorem w_cases (a b c d : Int) : (b < a ∧ wlo a b c d = plo c d ∧ whi a b c d = phi c d) ∨ (a ≤ b ∧ d < c ∧ wlo a b c d = a ∧ whi a b c d = b) ∨
    (a ≤ b ∧ c ≤ d ∧ ((c < a ∧ wlo a b c d = -9223372036854775808) ∨ (a ≤ c ∧ wlo a b c d = a)) ∧ ((b < d ∧ whi a b c d = 9223372036854775807) ∨ (d ≤ b ∧ whi a b c d = b))) := by
  unfold wlo whi
  by_cases h : b < a
  · left; simp [h]
  · by_cases h2 : d < c
    · right; left; simp [h, h2]; omega
    · right; right
      simp only [h, h2, if_false]
      refine ⟨by omega, by omega, ?_, ?_⟩
      · by_cases h3 : c < a
        · left; exact ⟨h3, if_pos h3⟩
        · right; exact ⟨by omega, if_neg h3⟩
      · by_cases h3 : b < d
        · left; exact ⟨h3, if_pos h3⟩
        · right; exact ⟨by omega, if_neg h3⟩
theorem within_widen (a b c d : Int) (h : -9223372036854775808 ≤ c ∧ d ≤ 9223372036854775807) : withinB (rjlo a b c d) (rjhi a b c d) (wlo a b c d) (whi a b c d) = true := by
  rw [within_iff]
  have h1 := rj_cases a b c d
  have h2 := w_cases a b c d
  have h3 := p_cases c d
  omega
theorem n_cases (a b c d : Int) : ((b < a ∨ d < c) ∧ nlo a b c d = 1 ∧ nhi a b c d = 0) ∨ (a ≤ b ∧ c ≤ d ∧ nlo a b c d = plo (nlo0 a c) (nhi0 b d) ∧ nhi a b c d = phi (nlo0 a c) (nhi0 b d)) := by
  unfold nlo nhi
  by_cases h : b < a ∨ d < c
  · left; exact ⟨h, if_pos h, if_pos h⟩
  · right; exact ⟨by omega, by omega, if_neg h, if_neg h⟩
theorem n0_cases (a c : Int) : (a = -9223372036854775808 ∧ nlo0 a c = c) ∨ (a ≠ -9223372036854775808 ∧ nlo0 a c = a) := by
  unfold nlo0; by_cases h : a = -9223372036854775808
  · left; exact ⟨h, if_pos h⟩
  · right; exact ⟨h, if_neg h⟩
theorem n1_cases (b d : Int) : (b = 9223372036854775807 ∧ nhi0 b d = d) ∨ (b ≠ 9223372036854775807 ∧ nhi0 b d = b) := by
  unfold nhi0; by_cases h : b = 9223372036854775807
  · left; exact ⟨h, if_pos h⟩
  · right; exact ⟨h, if_neg h⟩
theorem has_narrow {a b c d n : Int} (h1 : hasB a b n = true) (h2 : hasB c d n = true) : hasB (nlo a b c d) (nhi a b c d) n = true := by
  rw [has_iff] at *
  have h3 := n_cases a b c d
  have h4 := n0_cases a c
  have h5 := n1_cases b d
  have h6 := p_cases (nlo0 a c) (nhi0 b d)
  omega
theorem within_narrow {a b c d : Int} (hb : -9223372036854775808 ≤ c ∧ d ≤ 9223372036854775807) : withinB (nlo a b c d) (nhi a b c d) a b = true ∨ withinB c d a b = false := by
  by_cases hw : withinB c d a b = true
  · left
    rw [within_iff] at *
    have h3 := n_cases a b c d
    have h4 := n0_cases a c
    have h5 := n1_cases b d
    have h6 := p_cases (nlo0 a c) (nhi0 b d)
    omega
  · right; simpa using hw
/-- How far an interval has come on its way to the whole one. -/
def rank (a b : Int) : Nat := if b < a then 0 else 1 + (if a = -9223372036854775808 then 1 else 0) + (if b = 9223372036854775807 then 1 else 0)
theorem rank_le (a b : Int) : rank a b ≤ 3 := by unfold rank; (repeat' split) <;> omega
theorem rank_widen (a b c d : Int) (h : -9223372036854775808 ≤ c ∧ d ≤ 9223372036854775807) :
    (sameB a b (wlo a b c d) (whi a b c d) = true ∧ rank a b ≤ rank (wlo a b c d) (whi a b c d)) ∨ (sameB a b (wlo a b c d) (whi a b c d) = false ∧ rank a b + 1 ≤ rank (wlo a b c d) (whi a b c d)) := by
  have h2 := w_cases a b c d
  have h3 := p_cases c d
  have h5 := p_cases a b
  have h6 := p_cases (wlo a b c d) (whi a b c d)
  by_cases hs : sameB a b (wlo a b c d) (whi a b c d) = true
  · left
    refine ⟨hs, ?_⟩
    rw [same_iff] at hs
    unfold rank
    (repeat' split) <;> omega
  · right
    have hs' := hs
    rw [same_iff] at hs
    refine ⟨by simpa using hs', ?_⟩
    unfold rank
    (repeat' split) <;> omega
end Go.Proofs.Ytfepaalplceaaaa
