/- DeciDivides, walked: whatever the limbs and the divisor, the statement returns true, and nothing that was there before has turned. -/
import Derived.Test.YtehdbogiacmabaaDworks
namespace Go.Proofs.Ytehdbogiacmabaa
open Go.RowKit
attribute [local go_sem] alloc_drewN setCell_drewN
theorem sameNat_w {u v : Value} {N : Nat} {w : World} (hu : IsNat 0 w u N) (hv : IsByt w v N) (hN : Fits N 200) :
    Calls Try.prog 14 #[u, v] w fun e w' => e = .returned (.bool true) ∧ Below w.heap.size w w' :=
  (sameNat_c u v N N w hu hv hN (hN.bytes.mono (by decide))).mono fun _ _ ⟨h1, h2⟩ => ⟨by rw [h1, decide_eq_true rfl], h2⟩
theorem Fits.div {N s : Nat} (h : Fits N s) (k : Nat) : Fits (N / k) s := ⟨Nat.lt_of_le_of_lt (Nat.div_le_self _ _) h.lt⟩
/-- A variable that holds a number. -/
def NatBx (w : World) (g : Nat) (A : Option Addr) (k d N : Nat) : Prop := Bk w g 26 #[.slice A k d] ∧ IsNat 0 w (.agg #[.slice A k d]) N
theorem NatBx.keep {w w' : World} {g : Nat} {A : Option Addr} {k d N : Nat} (h : NatBx w g A k d N) (hb : Below w.heap.size w w') : NatBx w' g A k d N := ⟨h.1.keep hb, h.2.keep hb⟩
theorem NatBx.cell {w : World} {g : Nat} {A : Option Addr} {k d N : Nat} (h : NatBx w g A k d N) : w.cell? ⟨g, 0, none⟩ = some (.slice A k d) := h.1.cell 0
theorem NatBx.new {w : World} {A : Option Addr} {k d N : Nat} (h : IsNat 0 w (.agg #[.slice A k d]) N) : NatBx (w.alloc (.cells #[.slice A k d] 26)) w.heap.size A k d N := ⟨Bk.new _ _ _, h.alloc _⟩
theorem below_box (w : World) (o : Obj) : Below w.heap.size w (w.alloc o) := (Below.refl _ _).alloc (Nat.le_refl _) _
set_option maxRecDepth 100000 in
set_option maxHeartbeats 8000000 in
theorem divides_c (A : Option Addr) (n0 c0 : Nat) (la : List Nat) (b : Nat) (w : World) (ha : Rw .u64 w A n0 la) (ta : AllLt 18446744073709551616 la) (hb64 : b < 18446744073709551616) (hl : n0 ≤ 12) :
    Calls Try.prog 3 #[.slice A n0 c0, .int .u64 b] w fun e w' => e = .returned (.bool true) ∧ Below w.heap.size w w' := by
  have g0 : decide ((12 : Int) < (n0 : Int)) = false := by simp <;> omega
  have hX := Fits.of_lim ta (show la.length ≤ 12 by rw [ha.1]; exact hl)
  obtain ⟨X, hXe⟩ : ∃ X, X = val 18446744073709551616 la := ⟨_, rfl⟩
  rw [← hXe] at hX
  obtain ⟨M, hM⟩ : ∃ M : Nat, (if b = 0 then 0 else X % b) = M := ⟨_, rfl⟩
  obtain ⟨E, hE⟩ : ∃ E : Int, (if b = 0 then 2 else 0) = E := ⟨_, rfl⟩
  have HC := Lib.hid (And.intro hXe (And.intro hX (And.intro hM hE)))
  have HA := Lib.hid (And.intro ha ta)
  have HB := Lib.hid (Below.refl w.heap.size w)
  clear ha ta hXe hM hE hX
  go_enter Try.func3, Try.ntmps3
  go_upto_region 4 with (first
    | (go_at_call 10; refine (lawOwn_c A n0 c0 la _ HA.out.1 (by omega)).mono ?_; rintro e w1 ⟨A1, c1, rfl, hr, hc, hb⟩; have HO := Lib.hid (And.intro hr hc); have HA := Lib.hid (And.intro (HA.out.1.keep hb) HA.out.2); have HB := Lib.hid (HB.out.trans (hb.mono HB.out.size)); clear hr hc hb)
    | (go_at_call 9; refine (limbs_c A1 n0 c1 la _ HO.out.1 HA.out.2 (by omega) HO.out.2).mono ?_; rintro e w2 ⟨v, rfl, hi, hb⟩; obtain ⟨A2, n2, c2, l2, rfl, hi⟩ := hi; have hn : IsNat 0 w2 (.agg #[.slice A2 n2 c2]) X := (by rw [HC.out.1]; exact IsNat.mono ⟨A2, n2, c2, l2, rfl, hi⟩ (Nat.zero_le _)); have HN := Lib.hid (NatBx.new hn); have hb1 := hb.trans ((below_box w2 (.cells #[.slice A2 n2 c2] 26)).mono hb.size); have HA := Lib.hid (And.intro (HA.out.1.keep hb1) HA.out.2); have HB := Lib.hid (HB.out.trans (hb1.mono HB.out.size)); clear hi hn hb hb1))
  generalize hg : w2.heap.size = g5 at *
  generalize hw : w2.alloc (.cells #[.slice A2 n2 c2] 26) = z2 at *
  clear hg hw HO
  go_upto_region 6 with (first
    | (go_at_call 11; refine (refOf_c A n0 c0 la _ HA.out.1 HA.out.2 (by omega)).mono ?_; rintro e w3 ⟨x3, rfl, hx, hb⟩; rw [← HC.out.1] at hx; have HX := Lib.hid hx; have HN := Lib.hid (HN.out.keep hb); have HB := Lib.hid (HB.out.trans (hb.mono HB.out.size)); clear hx hb HA)
    | (go_at_call 12; refine (refDiv_c x3 X b _ HX.out (HC.out.2.1.bytes.mono (by decide)) hb64).mono ?_; rintro e w4 ⟨x4, rfl, hx, hb⟩; rw [HC.out.2.2.1, HC.out.2.2.2]; have HY := Lib.hid hx; have HX := Lib.hid (HX.out.keep hb); have HN := Lib.hid (HN.out.keep hb); have HB := Lib.hid (HB.out.trans (hb.mono HB.out.size)); clear hx hb))
  go_wp2_with fail
  go_loopw [10] (fun v wr => ∃ t : Nat, v = .int .i64 t ∧ t ≤ 2 ∧ NatBx wr g5 A2 n2 c2 X ∧ IsByt wr x3 X ∧ IsByt wr x4 (X / b) ∧ Below w.heap.size w wr) (fun v _ => 2 - (intOf v).toNat)
  case atStart => exact ⟨0, rfl, by decide, HN.out, HX.out, HY.out, HB.out⟩
  case round =>
    obtain ⟨t, rfl, ht, hN, hX, hY, hB⟩ := hrel
    clear HN HX HY HB
    have HB := Lib.hid (And.intro hN (And.intro hX (And.intro hY hB)))
    by_cases ht2 : t < 2
    · have g1 : decide ((t : Int) < 2) = true := by simp <;> omega
      have hc5 := hN.cell
      have hz5 := hN.1.lt
      clear hN hX hY hB
      go_upto_region 10 with (go_at_call 13; refine (div_c _ X b _ HB.out.1.2 (HC.out.2.1.mono (by decide)) hb64).mono ?_; rintro e w5 ⟨A5, n5, c5, rfl, hi, hb⟩; rw [HC.out.2.2.1, HC.out.2.2.2]; have HQ := Lib.hid (NatBx.new hi); have hb1 := hb.trans ((below_box w5 (.cells #[.slice A5 n5 c5] 26)).mono hb.size); have HD := Lib.hid (And.intro (HB.out.1.keep hb1) (And.intro (HB.out.2.1.keep hb1) (And.intro (HB.out.2.2.1.keep hb1) (HB.out.2.2.2.trans (hb1.mono HB.out.2.2.2.size))))); clear hi hb hb1 hc5 hz5)
      generalize hg : w5.heap.size = g11 at *
      generalize hw : w5.alloc (.cells #[.slice A5 n5 c5] 26) = z5 at *
      clear hg hw HB
      have hc5 := HD.out.1.cell
      have hc11 := HQ.out.cell
      go_wp2_with (first
        | (go_at_call_of 14 (Value.agg #[.slice A5 n5 c5]); refine (sameNat_w HQ.out.2 HD.out.2.2.1 ((HC.out.2.1.div b).mono (by decide))).mono ?_; rintro e w6 ⟨rfl, hb⟩; have HF := Lib.hid (And.intro (HD.out.1.keep hb) (And.intro (HD.out.2.1.keep hb) (And.intro (HD.out.2.2.1.keep hb) (HD.out.2.2.2.trans (hb.mono HD.out.2.2.2.size))))); have hc6 := HF.out.1.cell; clear hb)
        | (go_at_call 14; refine (sameNat_w HF.out.1.2 HF.out.2.1 (HC.out.2.1.mono (by decide))).mono ?_; rintro e w7 ⟨rfl, hb⟩; have HG := Lib.hid (And.intro (HF.out.1.keep hb) (And.intro (HF.out.2.1.keep hb) (And.intro (HF.out.2.2.1.keep hb) (HF.out.2.2.2.trans (hb.mono HF.out.2.2.2.size))))); clear hb))
      go_roundw
      case rel => exact ⟨t + 1, by go_num, by omega, HG.out.1, HG.out.2.1, HG.out.2.2.1, HG.out.2.2.2⟩
      case measure => simp [intOf]; omega
    · have g1 : decide ((t : Int) < 2) = false := by simp <;> omega
      clear hN hX hY hB
      go_wp2_with (go_at_call 8; refine (works_c _).mono ?_; rintro e w5 ⟨rfl, hb⟩; have HD := Lib.hid (HB.out.2.2.2.trans (hb.mono HB.out.2.2.2.size)); clear hb)
      go_ret
      exact ⟨rfl, HD.out⟩
end Go.Proofs.Ytehdbogiacmabaa
