/- Small of package nat, by contract: the number if it is one limb. -/
import Derived.Test.YtjocobfabdkadaaNatw
namespace Go.Proofs.Ytjocobfabdkadaa
open Go.RowKit
attribute [local go_sem] alloc_drewN setCell_drewN
theorem lim_small {l : List Nat} {N : Nat} (h : Lim 18446744073709551616 l N) : (l = [] ∧ N = 0) ∨ (l = [N] ∧ N < 18446744073709551616) ∨ (2 ≤ l.length ∧ 18446744073709551616 ≤ N) := by
  match l, h with
  | [], h => exact .inl ⟨rfl, h.2.1.symm⟩
  | [x], h =>
    have h1 : val 18446744073709551616 [x] = N := h.2.1
    simp [val] at h1
    subst h1
    exact .inr (.inl ⟨rfl, h.1 x (List.mem_cons_self ..)⟩)
  | x :: y :: l, h =>
    refine .inr (.inr ⟨by simp, ?_⟩)
    have h1 := lim_ge 18446744073709551616 (by omega) (x :: y :: l) h.2.2 (by simp)
    rw [h.2.1] at h1
    have h2 : 18446744073709551616 ^ 1 ≤ 18446744073709551616 ^ ((x :: y :: l).length - 1) := Nat.pow_le_pow_right (by omega) (by simp)
    omega
set_option maxHeartbeats 1600000 in
theorem small_yes (v : Value) (N : Nat) (w : World) (hv : IsNat 0 w v N) (hN : N < 18446744073709551616) :
    Calls Try.prog 62 #[v] w fun e w' => e = .returned (.tuple #[.int .u64 N, .bool true]) ∧ Below w.heap.size w w' := by
  obtain ⟨A, n, c, l, rfl, hr, hl, _⟩ := hv
  rcases lim_small hl with ⟨rfl, rfl⟩ | ⟨rfl, _⟩ | ⟨_, h⟩
  · obtain rfl : 0 = n := hr.1
    clear hr hl
    go_enter Try.func62, Try.ntmps62
    go_wp2
    go_ret2
    exact ⟨rfl, (Below.refl _ _).alloc (Nat.le_refl _) _⟩
  · obtain rfl : 1 = n := hr.1
    obtain ⟨b, off, rfl, hb, hc⟩ := hr.2 (by decide)
    have hc0 := hc 0 N rfl
    rw [Nat.add_zero] at hc0
    have HN := Lib.hid hN
    clear hr hl hc hN
    go_enter Try.func62, Try.ntmps62
    go_wp2
    go_ret2
    exact ⟨rfl, (Below.refl _ _).alloc (Nat.le_refl _) _⟩
  · omega
set_option maxHeartbeats 1600000 in
theorem small_no (v : Value) (N : Nat) (w : World) (hv : IsNat 0 w v N) (hN : 18446744073709551616 ≤ N) :
    Calls Try.prog 62 #[v] w fun e w' => e = .returned (.tuple #[.int .u64 0, .bool false]) ∧ Below w.heap.size w w' := by
  obtain ⟨A, n, c, l, rfl, hr, hl, _⟩ := hv
  rcases lim_small hl with ⟨_, h⟩ | ⟨_, h⟩ | ⟨hn, _⟩
  · omega
  · omega
  · have h0 := hr.1
    have g0 : ((n : Int) == 0) = false := by simp <;> omega
    have g1 : ((n : Int) == 1) = false := by simp <;> omega
    clear hr hl hn h0 hN
    go_enter Try.func62, Try.ntmps62
    go_wp2
    go_ret2
    exact ⟨rfl, (Below.refl _ _).alloc (Nat.le_refl _) _⟩
end Go.Proofs.Ytjocobfabdkadaa
