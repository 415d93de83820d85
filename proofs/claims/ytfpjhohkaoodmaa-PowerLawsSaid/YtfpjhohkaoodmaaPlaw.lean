/- is (of the statements about powers): a number, and whether it fits, that are the document's, by contract. -/
import Derived.Test.YtfpjhohkaoodmaaPowd
import Derived.Test.YtfpjhohkaoodmaaPowr
import Derived.Test.YtfpjhohkaoodmaaSmall
namespace Go.Proofs.Ytfpjhohkaoodmaa
open Go.RowKit
attribute [local go_sem] alloc_drewN setCell_drewN
set_option maxRecDepth 100000 in
set_option maxHeartbeats 4000000 in
theorem is_yes (A : Option Addr) (n d : Nat) (v : Value) (N : Nat) (w : World) (hu : IsNat 0 w (.agg #[.slice A n d]) N) (hv : IsByt w v N) (hN : Fits N 100) :
    Calls Try.prog 11 #[.agg #[.slice A n d], .bool true, v, .bool true] w fun e w' => e = .returned (.bool true) ∧ Below w.heap.size w w' := by
  obtain ⟨Av, nv, dv, rfl⟩ := byt_slice hv
  have b1 : Below w.heap.size w (w.alloc (.cells #[.slice A n d] 29)) := (Below.refl _ _).alloc (Nat.le_refl _) _
  have hu0 := hu
  obtain ⟨A', n', d', l, e, -, hl, -⟩ := hu0
  have HV := Lib.hid (And.intro (hu.keep b1) (And.intro (hv.keep b1) (And.intro b1 hl)))
  clear hu hv b1 hl e
  go_enter Try.func11, Try.ntmps11
  go_wp2_with (first
    | (go_at_call 16; refine (all_w HV.out.1 (hN.mono (by decide)) ⟨HV.out.2.2.2, rfl⟩).mono ?_; rintro e w1 ⟨A1, c1, rfl, hr, hb⟩; have HR := Lib.hid (And.intro hr hb); clear hr hb)
    | (go_at_call 7; refine (refOf_c _ _ _ _ _ HR.out.1 HV.out.2.2.2.1 (Nat.le_trans (HV.out.2.2.2.len hN) (by decide))).mono ?_; rintro e w2 ⟨x, rfl, hx, hb⟩; rw [HV.out.2.2.2.2.1] at hx; have HX := Lib.hid (And.intro hx (HR.out.2.trans (hb.mono HR.out.2.size))); clear hx hb)
    | (go_at_call 15; refine (same_w HX.out.1 (HV.out.2.1.keep HX.out.2) (hN.mono (by decide)) (hN.mono (by decide)) (b := true) (decide_eq_true rfl)).mono ?_; rintro e w3 ⟨rfl, hb⟩; have HY := Lib.hid (HV.out.2.2.1.trans ((HX.out.2.trans (hb.mono HX.out.2.size)).mono HV.out.2.2.1.size)); clear hb))
  go_ret
  exact ⟨rfl, HY.out⟩
set_option maxRecDepth 100000 in
set_option maxHeartbeats 4000000 in
theorem is_no (A : Option Addr) (n d : Nat) (v : Value) (w : World) (hu : IsNat 0 w (.agg #[.slice A n d]) 0) :
    Calls Try.prog 11 #[.agg #[.slice A n d], .bool false, v, .bool false] w fun e w' => e = .returned (.bool true) ∧ Below w.heap.size w w' := by
  have b1 : Below w.heap.size w (w.alloc (.cells #[.slice A n d] 29)) := (Below.refl _ _).alloc (Nat.le_refl _) _
  have HV := Lib.hid (And.intro (hu.keep b1) b1)
  clear hu b1
  go_enter Try.func11, Try.ntmps11
  go_wp2_with (go_at_call 23; refine (len_w HV.out.1 (Lim.nil _)).mono ?_; rintro e w1 ⟨rfl, hb⟩; have HY := Lib.hid (HV.out.2.trans (hb.mono HV.out.2.size)); clear hb)
  go_ret
  exact ⟨rfl, HY.out⟩
/-- The law's 'is', of what Pow and the document's Pow answer. -/
theorem is_same {c : Int} {b : Bool} (A : Option Addr) (n d : Nat) (v : Value) (M K : Nat) (w : World) (hb : fitB c M = b) (hK : fitB c K = b) (hMK : b = true → M = K) (hc : c ≤ 100) (hu : IsNat 0 w (.agg #[.slice A n d]) (if b then M else 0)) (hv : b = true → IsByt w v K) :
    Calls Try.prog 11 #[.agg #[.slice A n d], .bool b, v, .bool b] w fun e w' => e = .returned (.bool true) ∧ Below w.heap.size w w' := by
  cases b
  · exact is_no A n d v w hu
  · obtain rfl := hMK rfl
    exact is_yes A n d v M w hu (hv rfl) (fitB_fits (s := 100) hb hc)
theorem limit_c (c : Int) (w : World) : Calls Try.prog 6 #[.int .i64 c] w fun e w' => e = .returned (.int .i64 (max (-3) (min c 12))) ∧ w = w' := by
  go_enter Try.func6, Try.ntmps6
  go_wp2
  all_goals
    go_ret
    exact ⟨ret_int (by omega), rfl⟩
end Go.Proofs.Ytfpjhohkaoodmaa
