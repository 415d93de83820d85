/- The document's numbers, by contract: at, Cmp, Same, Add, Sub, Of. At most 2000 bytes. -/
import Derived.Test.YtehdbogiacmabaaRef
namespace Go.Proofs.Ytehdbogiacmabaa
open Go.RowKit
attribute [local go_sem] alloc_drewN setCell_drewN
def byteAt (l : List Nat) (i : Nat) : Nat := l[i]?.getD 0
theorem byteAt_lt {l : List Nat} (h : AllLt 256 l) (i : Nat) : byteAt l i < 256 := by
  unfold byteAt
  cases hx : l[i]? with
  | none => simp
  | some x => exact h.at_ hx
theorem val_take_byte (b : Nat) (l : List Nat) (i : Nat) : val b (l.take (i + 1)) = val b (l.take i) + b ^ i * byteAt l i := by
  unfold byteAt
  cases hx : l[i]? with
  | none =>
    have := List.getElem?_eq_none_iff.1 hx
    rw [List.take_of_length_le (by omega), List.take_of_length_le this]
    simp
  | some x => exact val_take_succ b hx
set_option maxHeartbeats 1600000 in
theorem at_c (A : Option Addr) (n c : Nat) (l : List Nat) (i : Nat) (w : World) (hr : Rw .u8 w A n l) (hl : AllLt 256 l) (hn : n ≤ 100000) (hi : i ≤ 1000000) :
    Calls Try.prog 56 #[.slice A n c, .int .i64 i] w fun e w' => e = .returned (.int .i64 (byteAt l i)) ∧ w' = w := by
  by_cases hin : i < n
  · obtain ⟨b, off, x, rfl, hb, hx, hc⟩ := hr.at_ hin
    have hxl := hl.at_ hx
    have h1 : decide ((i : Int) < (n : Int)) = true := by simp <;> omega
    have HX := Lib.hid hx
    clear hx hr
    go_enter Try.func56, Try.ntmps56
    go_wp2
    go_ret
    exact ⟨by unfold byteAt; rw [HX.out]; rfl, rfl⟩
  · have h1 : decide ((i : Int) < (n : Int)) = false := by simp <;> omega
    have h2 : byteAt l i = 0 := by
      unfold byteAt
      rw [List.getElem?_eq_none (by rw [hr.1]; omega)]; rfl
    clear hr
    go_enter Try.func56, Try.ntmps56
    go_wp2
    go_ret
    exact ⟨by rw [h2]; rfl, rfl⟩
set_option maxHeartbeats 4000000 in
theorem refCmp_c (u v : Value) (N M : Nat) (w : World) (hu : IsByt w u N) (hv : IsByt w v M) (hN : FitB N 10000) (hM : FitB M 10000) :
    Calls Try.prog 36 #[u, v] w fun e w' => e = .returned (.int .i64 (cmpI N M)) ∧ Below w.heap.size w w' := by
  obtain ⟨A, n, c, l, rfl, hr, hl, _⟩ := hu
  obtain ⟨B, m, d, k, rfl, hs, hk, _⟩ := hv
  have hn : n ≤ 10000 := by rw [← hr.1]; exact hl.lenB hN
  have hm : m ≤ 10000 := by rw [← hs.1]; exact hk.lenB hM
  have hlen := hr.1
  have hlen' := hs.1
  go_enter Try.func36, Try.ntmps36
  by_cases hnm : n = m
  · have h0 : ((n : Int) == (m : Int)) = true := by simp [hnm]
    subst hnm
    go_wp2
    go_loopw [5] (fun i wr => ∃ j q : Nat, j ≤ n ∧ i = .int .i64 ((j : Int) - 1) ∧ l.drop j = k.drop j ∧ wr = w.drewN q) (fun i _ => (intOf i + 1).toNat)
    case atStart => exact ⟨n, 0, Nat.le_refl _, rfl, by rw [List.drop_of_length_le (by omega), List.drop_of_length_le (by omega)], rfl⟩
    case round =>
      obtain ⟨j, q, hj, rfl, hd, rfl⟩ := hrel
      by_cases hj0 : j = 0
      · subst hj0
        have h1 : decide ((0 : Int) ≤ (((0 : Nat) : Int) - 1)) = false := by decide
        go_wp2
        go_ret
        simp at hd
        subst hd
        have : N = M := hl.2.1.symm.trans hk.2.1
        subst this
        exact ⟨by simp [cmpI], below_drewN (Below.refl _ _) _⟩
      · obtain ⟨i, rfl⟩ : ∃ i, j = i + 1 := ⟨j - 1, by omega⟩
        have h1 : decide ((0 : Int) ≤ (((i + 1 : Nat) : Int) - 1)) = true := by simp <;> omega
        obtain ⟨b, off, x, rfl, hb, hx, hc⟩ := hr.at_ (i := i) (by omega)
        obtain ⟨b', off', y, rfl, hb', hy, hc'⟩ := hs.at_ (i := i) (by omega)
        have HX := Lib.hid (And.intro hx (And.intro hy hd))
        clear hx hy hd
        by_cases hxy : x < y
        · have h2 : decide ((x : Int) < (y : Int)) = true := by simp <;> omega
          go_wp2
          go_quiet (fail)
          go_wp2
          go_ret
          obtain ⟨hx, hy, hd⟩ := HX.out
          have := val_lt_at (by omega) hl.1 hx hy hd hxy
          rw [hl.2.1, hk.2.1] at this
          exact ⟨by unfold cmpI; rw [if_pos this]; rfl, below_drewN (below_drewN (Below.refl _ _) _) _⟩
        · have h2 : decide ((x : Int) < (y : Int)) = false := by simp <;> omega
          by_cases hyx : y < x
          · have h3 : decide ((y : Int) < (x : Int)) = true := by simp <;> omega
            go_wp2
            go_quiet (fail)
            go_wp2
            go_quiet (fail)
            go_wp2
            go_ret
            obtain ⟨hx, hy, hd⟩ := HX.out
            have := val_lt_at (by omega) hk.1 hy hx hd.symm hyx
            rw [hl.2.1, hk.2.1] at this
            exact ⟨by unfold cmpI; rw [if_neg (by omega), if_pos this]; rfl, below_drewN (below_drewN (below_drewN (Below.refl _ _) _) _) _⟩
          · have h3 : decide ((y : Int) < (x : Int)) = false := by simp <;> omega
            have hxe : x = y := by omega
            go_wp2
            go_quiet (fail)
            go_wp2
            go_quiet (fail)
            go_wp2
            go_roundw
            case rel =>
              obtain ⟨hx, hy, hd⟩ := HX.out
              refine ⟨i, _, by omega, by go_num, ?_, rfl⟩
              rw [← List.getElem_cons_drop (List.getElem?_eq_some_iff.1 hx).1, ← List.getElem_cons_drop (List.getElem?_eq_some_iff.1 hy).1, hd, (List.getElem?_eq_some_iff.1 hx).2, (List.getElem?_eq_some_iff.1 hy).2, hxe]
            case measure => simp [intOf] <;> omega
  · have h0 : ((n : Int) == (m : Int)) = false := by simp <;> omega
    by_cases hlt : n < m
    · have h1 : decide ((n : Int) < (m : Int)) = true := by simp <;> omega
      go_wp2
      go_ret
      have := hl.lt_of_len (by omega) hk (by omega)
      exact ⟨by unfold cmpI; rw [if_pos this]; rfl, Below.refl _ _⟩
    · have h1 : decide ((n : Int) < (m : Int)) = false := by simp <;> omega
      go_wp2
      go_ret
      have := hk.lt_of_len (by omega) hl (by omega)
      exact ⟨by unfold cmpI; rw [if_neg (by omega), if_pos this]; rfl, Below.refl _ _⟩
end Go.Proofs.Ytehdbogiacmabaa
