/- DeciTexts and DeciReads, walked: they return true, and nothing that was there before has turned. -/
import Derived.Test.YtehdbogiacmabaaDdiv
namespace Go.Proofs.Ytehdbogiacmabaa
open Go.RowKit
attribute [local go_sem] alloc_drewN setCell_drewN
set_option maxRecDepth 100000 in
set_option maxHeartbeats 8000000 in
theorem texts_c (A : Option Addr) (n0 c0 : Nat) (la : List Nat) (n : Int) (w : World) (ha : Rw .u64 w A n0 la) (ta : AllLt 18446744073709551616 la) (h1 : -9223372036854775808 ≤ n) (h2 : n ≤ 9223372036854775807) (hl : n0 ≤ 6) :
    Calls Try.prog 4 #[.slice A n0 c0, .int .i64 n] w fun e w' => e = .returned (.bool true) ∧ Below w.heap.size w w' := by
  have g0 : decide ((6 : Int) < (n0 : Int)) = false := by simp <;> omega
  have hX := Fits.of_lim ta (show la.length ≤ 6 by rw [ha.1]; exact hl)
  obtain ⟨X, hXe⟩ : ∃ X, X = val 18446744073709551616 la := ⟨_, rfl⟩
  rw [← hXe] at hX
  obtain ⟨S, hS⟩ : ∃ S, str (dec X) = S := ⟨_, rfl⟩
  have HC := Lib.hid (And.intro hXe (And.intro hX hS))
  have HA := Lib.hid (And.intro ha ta)
  have HB := Lib.hid (Below.refl w.heap.size w)
  clear ha ta hXe hX hS
  go_enter Try.func4, Try.ntmps4
  go_upto_region 4 with (first
    | (go_at_call 10; refine (lawOwn_c A n0 c0 la _ HA.out.1 (by omega)).mono ?_; rintro e w1 ⟨A1, c1, rfl, hr, hc, hb⟩; have HO := Lib.hid (And.intro hr hc); have HA := Lib.hid (And.intro (HA.out.1.keep hb) HA.out.2); have HB := Lib.hid (HB.out.trans (hb.mono HB.out.size)); clear hr hc hb)
    | (go_at_call 9; refine (limbs_c A1 n0 c1 la _ HO.out.1 HA.out.2 (by omega) HO.out.2).mono ?_; rintro e w2 ⟨v, rfl, hi, hb⟩; obtain ⟨A2, n2, c2, l2, rfl, hi⟩ := hi; have hn : IsNat 0 w2 (.agg #[.slice A2 n2 c2]) X := (by rw [HC.out.1]; exact IsNat.mono ⟨A2, n2, c2, l2, rfl, hi⟩ (Nat.zero_le _)); have HN := Lib.hid (NatBx.new hn); have hb1 := hb.trans ((below_box w2 (.cells #[.slice A2 n2 c2] 26)).mono hb.size); have HA := Lib.hid (And.intro (HA.out.1.keep hb1) HA.out.2); have HB := Lib.hid (HB.out.trans (hb1.mono HB.out.size)); clear hi hn hb hb1))
  generalize hg : w2.heap.size = g5 at *
  generalize hw : w2.alloc (.cells #[.slice A2 n2 c2] 26) = z2 at *
  clear hg hw HO
  go_upto_region 5 with (first
    | (go_at_call 11; refine (refOf_c A n0 c0 la _ HA.out.1 HA.out.2 (by omega)).mono ?_; rintro e w3 ⟨x3, rfl, hx, hb⟩; rw [← HC.out.1] at hx; have HX := Lib.hid hx; have HN := Lib.hid (HN.out.keep hb); have HB := Lib.hid (HB.out.trans (hb.mono HB.out.size)); clear hx hb HA)
    | (go_at_call 15; refine (refText_c X _ _ HX.out (HC.out.2.1.bytes.mono (by decide))).mono ?_; rintro e w4 ⟨rfl, hb⟩; rw [HC.out.2.2]; have hN := HN.out.keep hb; have hc5 := hN.cell; have HN := Lib.hid hN; have HB := Lib.hid (HB.out.trans (hb.mono HB.out.size)); clear hb hN))
  go_wp2_with (first
    | (go_at_call 16; refine (text_c _ X _ HN.out.2 (HC.out.2.1.mono (by decide))).mono ?_; rintro e w5 ⟨rfl, hb⟩; rw [HC.out.2.2]; have hN := HN.out.keep hb; have hc6 := hN.cell; have HN := Lib.hid hN; have HB := Lib.hid (HB.out.trans (hb.mono HB.out.size)); clear hb hN)
    | (go_at_call 17; refine (digits_c _ X _ HN.out.2 (HC.out.2.1.mono (by decide))).mono ?_; rintro e w6 ⟨rfl, hb⟩; rw [HC.out.2.2]; have HB := Lib.hid (HB.out.trans (hb.mono HB.out.size)); clear hb)
    | (go_at_call 18; refine (whole_c n _ h1 h2).mono ?_; rintro e w7 ⟨rfl, hb⟩; have HB := Lib.hid (HB.out.trans (hb.mono HB.out.size)); clear hb)
    | (go_at_call 19; refine (refWhole_c n _ h1 h2).mono ?_; rintro e w8 ⟨rfl, hb⟩; have HB := Lib.hid (HB.out.trans (hb.mono HB.out.size)); clear hb)
    | (go_at_call 8; refine (works_c _).mono ?_; rintro e w9 ⟨rfl, hb⟩; have HB := Lib.hid (HB.out.trans (hb.mono HB.out.size)); clear hb))
  go_ret
  exact ⟨rfl, HB.out⟩
set_option maxRecDepth 100000 in
set_option maxHeartbeats 8000000 in
theorem reads_c (s : ByteArray) (c : Int) (w : World) (hs : s.size ≤ 60) :
    Calls Try.prog 5 #[.string s, .int .i64 c] w fun e w' => e = .returned (.bool true) ∧ Below w.heap.size w w' := by
  have g0 : decide ((60 : Int) < (s.size : Int)) = false := by simp <;> omega
  obtain ⟨E, hE⟩ : ∃ E : Int, (if isDec (bys s) then (if fitB c (decv (bys s)) then 0 else 10) else 20) = E := ⟨_, rfl⟩
  obtain ⟨N, hN⟩ : ∃ N : Nat, (if isDec (bys s) ∧ fitB c (decv (bys s)) = true then decv (bys s) else 0) = N := ⟨_, rfl⟩
  obtain ⟨a, ha⟩ : ∃ a, pwv (bys s) = a := ⟨_, rfl⟩
  obtain ⟨g, hg⟩ : ∃ g, pwe (bys s) = g := ⟨_, rfl⟩
  have hfit : Fits N 100 := by
    by_cases h : isDec (bys s)
    · have h1 := decv_lt h.2.2 (bys s).length (Nat.le_refl _)
      rw [List.take_length, bys_len] at h1
      have h2 : N ≤ decv (bys s) := by rw [← hN]; split <;> omega
      have h3 : N < 10 ^ 60 := Nat.lt_of_le_of_lt h2 (Nat.lt_of_lt_of_le h1 (Nat.pow_le_pow_right (by decide) hs))
      exact Fits.mono (s := 4) ⟨Nat.lt_trans h3 (by decide)⟩ (by decide)
    · rw [if_neg (fun h1 => h h1.1)] at hN
      subst hN
      exact fits0.mono (by decide)
  have HC := Lib.hid (And.intro hE (And.intro hN (And.intro hfit (And.intro ha hg))))
  clear hE hN ha hg hfit
  go_enter Try.func5, Try.ntmps5
  go_upto_region 4 with (go_at_call 20; refine (parse_c s c _ (by omega)).mono ?_; rintro e w1 ⟨A2, n2, c2, rfl, hi, hb⟩; rw [HC.out.1]; rw [HC.out.2.1] at hi; have HN := Lib.hid (NatBx.new hi); have HB := Lib.hid (hb.trans ((below_box w1 (.cells #[.slice A2 n2 c2] 26)).mono hb.size)); clear hi hb)
  generalize hg : w1.heap.size = g5 at *
  generalize hw : w1.alloc (.cells #[.slice A2 n2 c2] 26) = z1 at *
  clear hg hw
  go_upto_region 7 with (first
    | (go_at_call 21; refine (refParse_c s c _ hs).mono ?_; rintro e w2 ⟨x2, rfl, hi, hb⟩; rw [HC.out.1]; rw [HC.out.2.1] at hi; have HX := Lib.hid hi; have HN := Lib.hid (HN.out.keep hb); have HB := Lib.hid (HB.out.trans (hb.mono HB.out.size)); clear hi hb)
    | (go_at_call 22; refine (parseWhole_c s _ (by omega)).mono ?_; rintro e w3 ⟨rfl, hb⟩; rw [HC.out.2.2.2.1, HC.out.2.2.2.2]; have HX := Lib.hid (HX.out.keep hb); have HN := Lib.hid (HN.out.keep hb); have HB := Lib.hid (HB.out.trans (hb.mono HB.out.size)); clear hb)
    | (go_at_call 23; refine (refParseWhole_c s _ hs).mono ?_; rintro e w4 ⟨rfl, hb⟩; rw [HC.out.2.2.2.1, HC.out.2.2.2.2]; have hN := HN.out.keep hb; have hc5 := hN.cell; have HX := Lib.hid (HX.out.keep hb); have HN := Lib.hid hN; have HB := Lib.hid (HB.out.trans (hb.mono HB.out.size)); clear hb hN))
  go_wp2_with (first
    | (go_at_call 14; refine (sameNat_w HN.out.2 HX.out (HC.out.2.2.1.mono (by decide))).mono ?_; rintro e w5 ⟨rfl, hb⟩; have HB := Lib.hid (HB.out.trans (hb.mono HB.out.size)); clear hb)
    | (go_at_call 8; refine (works_c _).mono ?_; rintro e w9 ⟨rfl, hb⟩; have HB := Lib.hid (HB.out.trans (hb.mono HB.out.size)); clear hb))
  go_ret
  exact ⟨rfl, HB.out⟩
end Go.Proofs.Ytehdbogiacmabaa
