/- SameNat (of the statements): a number and the document's, by contract. At most 200 limbs. -/
import Derived.Test.YtehdbogiacmabaaReff
namespace Go.Proofs.Ytehdbogiacmabaa
open Go.RowKit
theorem docsNat_c (u : Value) (N : Nat) (w : World) (hu : IsNat 0 w u N) (hN : Fits N 200) :
    Calls Try.prog 37 #[u] w fun e w' => ∃ x, e = .returned x ∧ IsByt w' x N ∧ Below w.heap.size w w' := by
  have hu0 := hu
  obtain ⟨A, n, c, l, rfl, _⟩ := hu
  have hW : Below w.heap.size w (w.alloc (.cells #[.slice A n c] 26)) := (Below.refl _ _).alloc (Nat.le_refl _) _
  have HW := Lib.hid (And.intro hW (hu0.keep hW))
  clear hW hu0
  go_enter Try.func37, Try.ntmps37
  go_wp2_with (first
    | (go_at_call 34; refine (all_c 0 _ N _ HW.out.2 (hN.mono (by decide))).mono ?_; rintro e w1 ⟨v1, l1, rfl, ho, hlim, hb1⟩; obtain ⟨A1, c1, rfl, hr1, hc1, _⟩ := ho.slice; have HO := Lib.hid (And.intro hr1 (And.intro hlim hb1)); clear ho hr1 hlim hb1)
    | (go_at_call 11; refine (refOf_c _ l1.length c1 l1 _ HO.out.1 HO.out.2.1.1 (HO.out.2.1.len hN)).mono ?_; rintro e w2 ⟨x2, rfl, hx2, hb2⟩; have HX := Lib.hid (And.intro hx2 hb2); clear hx2 hb2))
  go_ret
  exact ⟨x2, rfl, by rw [← HO.out.2.1.2.1]; exact HX.out.1, HW.out.1.trans ((HO.out.2.2.trans (HX.out.2.mono HO.out.2.2.size)).mono HW.out.1.size)⟩
theorem cmp_eq {N M : Nat} : (cmpI N M == 0) = decide (N = M) := by
  unfold cmpI
  by_cases h : N < M
  · rw [if_pos h]; simp; omega
  · rw [if_neg h]
    by_cases h2 : M < N
    · rw [if_pos h2]; simp; omega
    · rw [if_neg h2]; simp; omega
theorem sameNat_c (u v : Value) (N M : Nat) (w : World) (hu : IsNat 0 w u N) (hv : IsByt w v M) (hN : Fits N 200) (hM : FitB M 10000) :
    Calls Try.prog 14 #[u, v] w fun e w' => e = .returned (.bool (decide (N = M))) ∧ Below w.heap.size w w' := by
  have hu0 := hu
  obtain ⟨A, n, c, l, rfl, _⟩ := hu
  have hv0 := hv
  obtain ⟨B, m, d, lb, rfl, _⟩ := hv
  have hW : Below w.heap.size w (w.alloc (.cells #[.slice A n c] 26)) := (Below.refl _ _).alloc (Nat.le_refl _) _
  have HW := Lib.hid (And.intro hW (And.intro (hu0.keep hW) (hv0.keep hW)))
  clear hW hu0 hv0
  go_enter Try.func14, Try.ntmps14
  go_wp2_with (first
    | (go_at_call 37; refine (docsNat_c _ N _ HW.out.2.1 hN).mono ?_; rintro e w1 ⟨x1, rfl, hx1, hb1⟩; have HO := Lib.hid (And.intro hx1 hb1); clear hx1 hb1)
    | (go_at_call 36; refine (refCmp_c _ _ N M _ HO.out.1 (HW.out.2.2.keep HO.out.2) (hN.bytes.mono (by decide)) hM).mono ?_; rintro e w2 ⟨rfl, hb2⟩; have HX := Lib.hid hb2; clear hb2))
  go_ret
  exact ⟨by rw [cmp_eq]; rfl, HW.out.1.trans ((HO.out.2.trans (HX.out.mono HO.out.2.size)).mono HW.out.1.size)⟩
end Go.Proofs.Ytehdbogiacmabaa
