/- Cmp of package nat, by contract: how the two numbers compare. Numbers of at most 10000 limbs. -/
import Derived.Test.YtehdbogiacmabaaLimb
namespace Go.Proofs.Ytehdbogiacmabaa
open Go.RowKit
attribute [local go_sem] alloc_drewN setCell_drewN
set_option maxHeartbeats 4000000 in
theorem cmp_c (g h : Nat) (u v : Value) (N M : Nat) (w : World) (hu : IsNat g w u N) (hv : IsNat h w v M) (hN : Fits N 10000) (hM : Fits M 10000) :
    Calls Try.prog 24 #[u, v] w fun e w' => e = .returned (.int .i64 (cmpI N M)) ∧ Below w.heap.size w w' := by
  obtain ⟨A, n, c, l, rfl, hr, hl, _⟩ := hu
  obtain ⟨B, m, d, k, rfl, hs, hk, _⟩ := hv
  have hn : n ≤ 10000 := by rw [← hr.1]; exact hl.len hN
  have hm : m ≤ 10000 := by rw [← hs.1]; exact hk.len hM
  have hlen := hr.1
  have hlen' := hs.1
  have hBw : Below w.heap.size w ((w.alloc (.cells #[.slice A n c] 26)).alloc (.cells #[.slice B m d] 26)) := ((Below.refl _ _).alloc (Nat.le_refl _) _).alloc (by simp) _
  go_enter Try.func24, Try.ntmps24
  by_cases hnm : n = m
  · have h0 : ((n : Int) == (m : Int)) = true := by simp [hnm]
    subst hnm
    go_wp2
    go_loopw [5] (fun i wr => ∃ j q : Nat, j ≤ n ∧ i = .int .i64 ((j : Int) - 1) ∧ l.drop j = k.drop j ∧ wr = ((w.alloc (.cells #[.slice A n c] 26)).alloc (.cells #[.slice B n d] 26)).drewN q) (fun i _ => (intOf i + 1).toNat)
    case atStart => exact ⟨n, 0, Nat.le_refl _, rfl, by rw [List.drop_of_length_le (by omega), List.drop_of_length_le (by omega)], rfl⟩
    case round =>
      obtain ⟨j, q, hj, rfl, hd, rfl⟩ := hrel
      by_cases hj0 : j = 0
      · subst hj0
        have h1 : decide ((0 : Int) ≤ (((0 : Nat) : Int) - 1)) = false := by decide
        go_wp2
        go_ret
        simp at hd
        subst hd
        have : N = M := hl.2.1.symm.trans hk.2.1
        subst this
        exact ⟨by simp [cmpI], below_drewN hBw _⟩
      · obtain ⟨i, rfl⟩ : ∃ i, j = i + 1 := ⟨j - 1, by omega⟩
        have h1 : decide ((0 : Int) ≤ (((i + 1 : Nat) : Int) - 1)) = true := by simp <;> omega
        obtain ⟨b, off, x, rfl, hb, hx, hc⟩ := hr.at_ (i := i) (by omega)
        obtain ⟨b', off', y, rfl, hb', hy, hc'⟩ := hs.at_ (i := i) (by omega)
        have HX := Lib.hid (And.intro hx (And.intro hy hd))
        clear hx hy hd
        by_cases hxy : x < y
        · have h2 : decide ((x : Int) < (y : Int)) = true := by simp <;> omega
          go_wp2
          go_quiet (fail)
          go_wp2
          go_ret
          obtain ⟨hx, hy, hd⟩ := HX.out
          have := val_lt_at (by omega) hl.1 hx hy hd hxy
          rw [hl.2.1, hk.2.1] at this
          exact ⟨by unfold cmpI; rw [if_pos this]; rfl, below_drewN (below_drewN hBw _) _⟩
        · have h2 : decide ((x : Int) < (y : Int)) = false := by simp <;> omega
          by_cases hyx : y < x
          · have h3 : decide ((y : Int) < (x : Int)) = true := by simp <;> omega
            go_wp2
            go_quiet (fail)
            go_wp2
            go_quiet (fail)
            go_wp2
            go_ret
            obtain ⟨hx, hy, hd⟩ := HX.out
            have := val_lt_at (by omega) hk.1 hy hx hd.symm hyx
            rw [hl.2.1, hk.2.1] at this
            exact ⟨by unfold cmpI; rw [if_neg (by omega), if_pos this]; rfl, below_drewN (below_drewN (below_drewN hBw _) _) _⟩
          · have h3 : decide ((y : Int) < (x : Int)) = false := by simp <;> omega
            have hxe : x = y := by omega
            go_wp2
            go_quiet (fail)
            go_wp2
            go_quiet (fail)
            go_wp2
            go_roundw
            case rel =>
              obtain ⟨hx, hy, hd⟩ := HX.out
              refine ⟨i, _, by omega, by go_num, ?_, rfl⟩
              rw [← List.getElem_cons_drop (List.getElem?_eq_some_iff.1 hx).1, ← List.getElem_cons_drop (List.getElem?_eq_some_iff.1 hy).1, hd, (List.getElem?_eq_some_iff.1 hx).2, (List.getElem?_eq_some_iff.1 hy).2, hxe]
            case measure => simp [intOf] <;> omega
  · have h0 : ((n : Int) == (m : Int)) = false := by simp <;> omega
    by_cases hlt : n < m
    · have h1 : decide ((n : Int) < (m : Int)) = true := by simp <;> omega
      go_wp2
      go_ret
      have := hl.lt_of_len (by omega) hk (by omega)
      exact ⟨by unfold cmpI; rw [if_pos this]; rfl, hBw⟩
    · have h1 : decide ((n : Int) < (m : Int)) = false := by simp <;> omega
      go_wp2
      go_ret
      have := hk.lt_of_len (by omega) hl (by omega)
      exact ⟨by unfold cmpI; rw [if_neg (by omega), if_pos this]; rfl, hBw⟩
end Go.Proofs.Ytehdbogiacmabaa
