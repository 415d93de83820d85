/- Caps of package nat, by contract: Fits, under, Add, Mul. Numbers of at most 2000 limbs; any cap. -/
import Derived.Test.YtjocobfabdkadaaMul
namespace Go.Proofs.Ytjocobfabdkadaa
open Go.RowKit
attribute [local go_sem] alloc_drewN setCell_drewN
/-- Has N no more limbs than the cap c allows? -/
def fitB (c : Int) (N : Nat) : Bool := decide (N < 18446744073709551616 ^ (max 0 c).toNat)
theorem lim_len_iff {l : List Nat} {N k : Nat} (h : Lim 18446744073709551616 l N) : l.length ≤ k ↔ N < 18446744073709551616 ^ k :=
  ⟨fun hk => by
    have h1 := val_lt 18446744073709551616 (by omega) l h.1
    rw [h.2.1] at h1
    exact Nat.lt_of_lt_of_le h1 (Nat.pow_le_pow_right (by omega) hk), fun hk => h.len ⟨hk⟩⟩
theorem fitB_len {l : List Nat} {N : Nat} (h : Lim 18446744073709551616 l N) (c : Int) : decide ((l.length : Int) ≤ max 0 c) = fitB c N := by
  unfold fitB
  have h1 := lim_len_iff (k := (max 0 c).toNat) h
  by_cases h2 : N < 18446744073709551616 ^ (max 0 c).toNat
  · have h3 := h1.2 h2
    rw [decide_eq_true h2]
    exact decide_eq_true (by omega)
  · have h3 : ¬ l.length ≤ (max 0 c).toNat := fun h => h2 (h1.1 h)
    rw [decide_eq_false h2]
    exact decide_eq_false (by omega)
set_option maxHeartbeats 1600000 in
theorem fits_c (g : Nat) (c : Int) (v : Value) (N : Nat) (w : World) (hv : IsNat g w v N) :
    Calls Try.prog 76 #[.int .i64 c, v] w fun e w' => e = .returned (.bool (fitB c N)) ∧ Below w.heap.size w w' := by
  obtain ⟨A, n, d, l, rfl, hr, hl, _⟩ := hv
  go_enter Try.func76, Try.ntmps76
  have hfit := fitB_len hl c
  rw [hr.1] at hfit
  have HF := Lib.hid hfit
  clear hr hl hfit
  go_wp2
  all_goals
    go_ret
    refine ⟨?_, (Below.refl _ _).alloc (Nat.le_refl _) _⟩
    rw [← HF.out]
    first
      | (rw [show max 0 c = c by omega]; rfl)
      | (rw [show max 0 c = 0 by omega]; exact congrArg (fun b => Ending.returned (.bool b)) (decide_eq_decide.2 (by omega)))
theorem fitB_le {c : Int} {N M : Nat} (h : fitB c N = true) (hM : M ≤ N) : fitB c M = true := by
  unfold fitB at *
  have := of_decide_eq_true h
  exact decide_eq_true (by omega)
theorem fitB_zero (c : Int) : fitB c 0 = true := decide_eq_true (Nat.pow_pos (by omega))
end Go.Proofs.Ytjocobfabdkadaa
