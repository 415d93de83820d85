/- shift of package deci, by contract: limbs are multiplied in their own memory, and more is added. -/
import Derived.Test.YtjocobfabdkadaaSmal
namespace Go.Proofs.Ytjocobfabdkadaa
open Go.RowKit
attribute [local go_sem] alloc_drewN setCell_drewN
theorem shift_step {W i x s h lo mo c mo2 t V r2v m0 : Nat} (h1 : lo + W * h = x * t) (h2 : s + W * c = lo + mo) (h3 : mo2 = h + c) (hv : V + W ^ i * mo = r2v * t + m0) :
    V + W ^ i * s + W ^ (i + 1) * mo2 = (r2v + W ^ i * x) * t + m0 := by
  subst h3
  have e1 : s + W * (h + c) = x * t + mo := by rw [Nat.mul_add]; omega
  have e2 : W ^ i * s + W ^ (i + 1) * (h + c) = W ^ i * (x * t) + W ^ i * mo := by
    rw [Nat.pow_succ, Nat.mul_assoc, ← Nat.mul_add, ← Nat.mul_add, e1]
  rw [Nat.add_mul, Nat.mul_assoc]
  omega
theorem carry_lt {x t hi lo s d mo : Nat} (h3 : lo + 18446744073709551616 * hi = x * t) (a1 : s + 18446744073709551616 * d = lo + mo + 0) (hx : x < 18446744073709551616) (ht : t < 18446744073709551616) (hmo : mo < 18446744073709551616) : hi + d < 18446744073709551616 := by
  have h1 : x * t ≤ 18446744073709551615 * 18446744073709551615 := Nat.mul_le_mul (by omega) (by omega)
  omega
set_option maxHeartbeats 8000000 in
theorem shift_c (g t more : Nat) (v : Value) (l : List Nat) (w : World) (h : Own g w v l) (hl : AllLt 18446744073709551616 l) (ht : t < 18446744073709551616) (hm : more < 18446744073709551616) (hn : l.length ≤ 1000) (hg : g ≤ w.heap.size) :
    Calls Try.prog 73 #[v, .int .u64 t, .int .u64 more] w fun e w' => ∃ (v' : Value) (q : List Nat), e = .returned v' ∧ Own g w' v' q ∧ AllLt 18446744073709551616 q ∧ val 18446744073709551616 q = val 18446744073709551616 l * t + more ∧ (q.length = l.length ∨ (q.length = l.length + 1 ∧ q.getLast? ≠ some 0)) ∧ Below g w w' := by
  obtain ⟨A, c, rfl, hr0, hc0, _⟩ := h.slice
  obtain ⟨n, hnl⟩ : ∃ n, n = l.length := ⟨_, rfl⟩
  have ho0 : w.ownsRow g 78 1 (.slice A n c) n (cellsOf .u64 l) := by rw [hnl]; exact h
  rw [← hnl] at hn hr0 hc0 ⊢
  have HO := Lib.hid (And.intro ho0 (And.intro hl hnl))
  clear h hr0 ho0 hl hnl
  go_enter Try.func73, Try.ntmps73
  go_wp2_with fail
  go_loopw [2, 14] (fun m i wr => ∃ (k mo : Nat) (q : List Nat), i = .int .i64 k ∧ m = .int .u64 mo ∧ k ≤ n ∧ mo < 18446744073709551616 ∧ wr.ownsRow g 78 1 (.slice A n c) n (cellsOf .u64 q) ∧ AllLt 18446744073709551616 q ∧ val 18446744073709551616 (q.take k) + 18446744073709551616 ^ k * mo = val 18446744073709551616 (l.take k) * t + more ∧ q.drop k = l.drop k ∧ Below g w wr) (fun _ i _ => n - (intOf i).toNat)
  case atStart => exact ⟨0, more, l, rfl, rfl, Nat.zero_le _, hm, HO.out.1, HO.out.2.1, by simp [val], rfl, Below.refl _ _⟩
  case round =>
    obtain ⟨k, mo, q, rfl, rfl, hk, hmo, ho, hq, hv, hd, hB⟩ := hrel
    have hql : q.length = n := by have := ho.1; simpa [cellsOf] using this
    by_cases hkn : k < n
    · have h1 : decide ((k : Int) < (n : Int)) = true := by simp <;> omega
      obtain ⟨gb, cap, e, hgb, hgl⟩ := ho.form (by omega)
      injection e with e1 e2 e3
      subst e1 e3
      obtain ⟨x, hx, hcx, hfx⟩ := Own.at_ ho (k := k) hkn
      have hxb := hq.at_ hx
      have HX := Lib.hid (And.intro ho (And.intro hq (And.intro hv (And.intro hd (And.intro hB hx)))))
      clear ho hq hv hd hB hx
      go_wp2_with (first
        | (go_at_call 81; refine (mul64_c x t hxb ht _).mono ?_; rintro e w1 ⟨hi, lo, h3, h4, h5, rfl, rfl⟩; obtain ⟨s, d, a1, a2, a3, a4⟩ := add64_c lo mo 0 h4 hmo (by decide) w1; have a5 : (callFunc 82 #[.int .u64 lo, .int .u64 mo, .int .u64 0]).run Try.prog w1 = _ := a4; have hsum : hi + d < 18446744073709551616 := carry_lt h3 a1 hxb ht hmo; have HA := Lib.hid (And.intro h3 (And.intro h5 (And.intro a1 a2))); clear h3 a1 a4)
        )
      obtain ⟨ho, hq, hv, hd, hB, hx⟩ := HX.out
      have hlx : l[k]? = some x := by
        have := congrArg (fun m => m[0]?) hd
        simp only [List.getElem?_drop, Nat.add_zero] at this
        rw [← this, hx]
      have hkq : k < q.length := (List.getElem?_eq_some_iff.1 hx).1
      go_roundw
      case rel =>
        refine ⟨k + 1, hi + d, q.set k s, by go_num, congrArg _ (by omega), by omega, hsum, Own.put ho k s, hq.set HA.out.2.2.2, ?_, ?_, hB.setCell (by simp; exact hgb) _⟩
        · rw [val_take_succ 18446744073709551616 (i := k) (x := s) (by rw [List.getElem?_set_self hkq]), List.take_set_of_le (Nat.le_refl _), val_take_succ 18446744073709551616 hlx]
          exact shift_step HA.out.1 HA.out.2.2.1 rfl hv
        · rw [List.drop_set, if_pos (by omega)]
          have := congrArg (List.drop 1) hd
          simpa [List.drop_drop, Nat.add_comm] using this
      case measure => simp [intOf] <;> omega
    · obtain rfl : k = n := by omega
      have h1 : decide ((k : Int) < (k : Int)) = false := by simp
      have hvq : val 18446744073709551616 q + 18446744073709551616 ^ k * mo = val 18446744073709551616 l * t + more := by
        rw [List.take_of_length_le (by omega), List.take_of_length_le (by rw [← HO.out.2.2]; exact Nat.le_refl _)] at hv
        exact hv
      have HX := Lib.hid (And.intro ho (And.intro hq (And.intro hvq hB)))
      have hsz := hB.size
      clear ho hq hv hvq hd hB
      by_cases hm0 : mo = 0
      · subst hm0
        go_wp2
        go_ret
        exact ⟨_, q, rfl, by have := HX.out.1; unfold Own; rw [hql]; exact this, HX.out.2.1, by have := HX.out.2.2.1; simpa using this, .inl hql, HX.out.2.2.2⟩
      · have h2 : 0 < mo := by omega
        go_wp2_with (at_builtin; refine wpList_append_row (k := .u64) rfl _ _ rfl g Try.underlying74 info64 rfl (by decide) (.slice A k c) q [mo] (some ⟨_, 0, none⟩) 1 1 rfl rfl (World.ownsRow.alloc (by have := HX.out.1; rw [← hql] at this ⊢; exact this) _) (rw_newI _ _ mo rfl _) (by omega) (by simp; omega) ?_; intro v' w' ho' hg' _; have HG := Lib.hid (And.intro ho' hg'); clear ho' hg')
        go_ret
        refine ⟨v', q ++ [mo], rfl, HG.out.1, HX.out.2.1.snoc hmo, ?_, .inr ⟨by simp [hql], by simp; omega⟩, (HX.out.2.2.2.alloc (by omega) _).grown HG.out.2 (by simp; omega) (fun j hj => (World.ownsRow.lt HX.out.1 j hj).1)⟩
        rw [val_snoc, hql]
        exact HX.out.2.2.1
end Go.Proofs.Ytjocobfabdkadaa
