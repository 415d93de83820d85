/- own and works (of the statements about package deci), by contract: the chapter's examples. -/
import Derived.Test.YtehdbogiacmabaaRparse
import Derived.Test.YtehdbogiacmabaaSame
namespace Go.Proofs.Ytehdbogiacmabaa
open Go.RowKit
attribute [local go_sem] alloc_drewN setCell_drewN
theorem lawOwn_c (A : Option Addr) (n c : Nat) (l : List Nat) (w : World) (hr : Rw .u64 w A n l) (hn : n ≤ 1000) :
    Calls Try.prog 10 #[.slice A n c] w fun e w' => ∃ A1 c1, e = .returned (.slice A1 n c1) ∧ Rw .u64 w' A1 n l ∧ n ≤ c1 ∧ Below w.heap.size w w' := by
  have hlen := hr.1
  have HR := Lib.hid hr
  clear hr
  go_enter Try.func10, Try.ntmps10
  go_wp2_with (at_builtin; refine wpList_append_row (k := .u64) rfl _ _ rfl w.heap.size Try.underlying22 info64 rfl (by decide) (.slice none 0 0) [] l A n c rfl rfl (World.ownsRow_nil _ _ _ _) HR.out (by simp; omega) (by simp) ?_; intro v' w1 ho hg1 _; obtain ⟨A1, c1, rfl, hr1, hc1, _⟩ := (show Own w.heap.size w1 v' l from ho).slice; have HB := Lib.hid (And.intro ((Below.refl _ _).grown hg1 (Nat.le_refl _) (fun k hk => by simp [Value.ownBlock] at hk) : Below w.heap.size w w1) (And.intro hr1 hc1)); clear hg1 ho hr1 hc1)
  go_ret
  obtain rfl : l.length = n := hlen
  exact ⟨A1, c1, rfl, HB.out.2.1, HB.out.2.2, HB.out.1⟩
theorem fits_big : Fits 18446744073709551616 2 := ⟨by decide⟩
theorem div10_big (u : Value) (w : World) (hu : IsNat 0 w u 18446744073709551616) :
    Calls Try.prog 13 #[u, .int .u64 10] w fun e w' => ∃ A n c, e = .returned (.tuple #[.agg #[.slice A n c], .int .u64 6, .int .i64 0]) ∧ IsNat 0 w' (.agg #[.slice A n c]) 1844674407370955161 ∧ Below w.heap.size w w' :=
  div_c u 18446744073709551616 10 w hu (fits_big.mono (by decide)) (by decide)
theorem dec_big : str (dec 18446744073709551616) = ⟨#[49, 56, 52, 52, 54, 55, 52, 52, 48, 55, 51, 55, 48, 57, 53, 53, 49, 54, 49, 54]⟩ := by
  have : dec 18446744073709551616 = [49, 56, 52, 52, 54, 55, 52, 52, 48, 55, 51, 55, 48, 57, 53, 53, 49, 54, 49, 54] := dec_decv (l := [49, 56, 52, 52, 54, 55, 52, 52, 48, 55, 51, 55, 48, 57, 53, 53, 49, 54, 49, 54]) (by decide)
  rw [this]
  rfl
theorem wdec_low : str (wdec (-9223372036854775808)) = ⟨#[45, 57, 50, 50, 51, 51, 55, 50, 48, 51, 54, 56, 53, 52, 55, 55, 53, 56, 48, 56]⟩ := by
  have h : dec 9223372036854775808 = [57, 50, 50, 51, 51, 55, 50, 48, 51, 54, 56, 53, 52, 55, 55, 53, 56, 48, 56] := dec_decv (l := [57, 50, 50, 51, 51, 55, 50, 48, 51, 54, 56, 53, 52, 55, 55, 53, 56, 48, 56]) (by decide)
  have : wdec (-9223372036854775808) = 45 :: dec 9223372036854775808 := wdec_neg 9223372036854775808 (by decide)
  rw [this, h]
  rfl
theorem parse_nought (w : World) : Calls Try.prog 20 #[.string ⟨#[48, 48, 55]⟩, .int .i64 9] w fun e w' => ∃ A n d, e = .returned (.tuple #[.agg #[.slice A n d], .int .i64 20]) ∧ Below w.heap.size w w' :=
  (parse_c ⟨#[48, 48, 55]⟩ 9 w (by decide)).mono fun e w' ⟨A, n, d, he, _, hb⟩ => by
    rw [if_neg (by decide)] at he
    exact ⟨A, n, d, he, hb⟩
theorem parse_great (w : World) : Calls Try.prog 20 #[.string ⟨#[49, 56, 52, 52, 54, 55, 52, 52, 48, 55, 51, 55, 48, 57, 53, 53, 49, 54, 49, 54]⟩, .int .i64 1] w fun e w' => ∃ A n d, e = .returned (.tuple #[.agg #[.slice A n d], .int .i64 10]) ∧ Below w.heap.size w w' :=
  (parse_c ⟨#[49, 56, 52, 52, 54, 55, 52, 52, 48, 55, 51, 55, 48, 57, 53, 53, 49, 54, 49, 54]⟩ 1 w (by decide)).mono fun e w' ⟨A, n, d, he, _, hb⟩ => by
    rw [if_pos (by decide), fitB1, if_neg (by decide)] at he
    exact ⟨A, n, d, he, hb⟩
theorem whole_none (w : World) : Calls Try.prog 22 #[.string ⟨#[45, 48]⟩] w fun e w' => e = .returned (.tuple #[.int .i64 0, .int .i64 20]) ∧ Below w.heap.size w w' :=
  (parseWhole_c ⟨#[45, 48]⟩ w (by decide)).mono fun e w' ⟨he, hb⟩ => by
    have h : ¬ pwOk (bys ⟨#[45, 48]⟩) := by decide
    unfold pwv pwe at he
    rw [if_neg h, if_neg h] at he
    exact ⟨he, hb⟩
theorem rw_two (w : World) (ty : TypeId) : Rw .u64 (w.alloc (.cells #[.int .u64 0, .int .u64 1] ty)) (some ⟨w.heap.size, 0, none⟩) 2 [0, 1] := by
  have hk := Bk.new w ty #[.int .u64 0, .int .u64 1]
  refine ⟨rfl, fun _ => ⟨_, _, rfl, by simp, fun i y hy => ?_⟩⟩
  match i, hy with
  | 0, hy => simp at hy; subst hy; exact hk.cell 0
  | 1, hy => simp at hy; subst hy; exact hk.cell 1
set_option maxRecDepth 100000 in
set_option maxHeartbeats 8000000 in
theorem works_c (w : World) : Calls Try.prog 8 #[] w fun e w' => e = .returned (.bool true) ∧ Below w.heap.size w w' := by
  go_enter Try.func8, Try.ntmps8
  go_upto_region 2 with (go_at_call 9; refine (limbs_c _ 2 2 [0, 1] _ (rw_two w _) (by intro x hx; simp at hx; omega) (by decide) (by decide)).mono ?_; rintro e w1 ⟨v, rfl, hi, hb⟩; obtain ⟨A, n, c, l, rfl, hi⟩ := hi; have hn : IsNat 0 w1 (.agg #[.slice A n c]) 18446744073709551616 := (IsNat.mono ⟨A, n, c, l, rfl, hi⟩ (Nat.zero_le _)); have HB := Lib.hid (And.intro hn (((Below.refl _ w).alloc (Nat.le_refl _) _).trans (hb.mono (by simp)))); clear hi hn hb)
  have H1 := Lib.hid (And.intro (HB.out.1.alloc (.cells #[.slice A n c] 26)) (And.intro (Bk.new w1 26 #[.slice A n c]) (HB.out.2.alloc HB.out.2.size (.cells #[.slice A n c] 26))))
  generalize hg : w1.heap.size = g1 at *
  generalize hw : w1.alloc (.cells #[.slice A n c] 26) = z1 at *
  clear hg hw HB
  have hc1 := H1.out.2.1.cell 0
  have hz1 := H1.out.2.1.lt
  simp at hc1
  go_upto_region 3 with (go_at_call 13; refine (div10_big _ _ H1.out.1).mono ?_; rintro e w2 ⟨A2, n2, c2, rfl, hi, hb⟩; have H2 := Lib.hid (And.intro hi (And.intro (H1.out.1.keep hb) (And.intro (H1.out.2.1.keep hb) (H1.out.2.2.trans (hb.mono H1.out.2.2.size))))); clear hi hb)
  have bb : Below w2.heap.size w2 (w2.alloc (.cells #[.slice A2 n2 c2] 26)) := (Below.refl _ _).alloc (Nat.le_refl _) _
  have H3 := Lib.hid (And.intro (H2.out.1.keep bb) (And.intro (H2.out.2.1.keep bb) (And.intro (H2.out.2.2.1.keep bb) (And.intro (Bk.new w2 26 #[.slice A2 n2 c2]) (H2.out.2.2.2.trans (bb.mono H2.out.2.2.2.size))))))
  clear bb hc1 hz1
  generalize hg : w2.heap.size = g2 at *
  generalize hw : w2.alloc (.cells #[.slice A2 n2 c2] 26) = z2 at *
  clear hg hw H2 H1
  have hc1 := H3.out.2.2.1.cell 0
  have hz1 := H3.out.2.2.1.lt
  have hc2 := H3.out.2.2.2.1.cell 0
  have hz2 := H3.out.2.2.2.1.lt
  simp at hc1 hc2
  go_upto_region 4 with (go_at_call 29; refine (small_yes _ _ _ H3.out.1 (by decide)).mono ?_; rintro e w3 ⟨rfl, hb⟩; have H4 := Lib.hid (And.intro (H3.out.2.1.keep hb) (And.intro (H3.out.2.2.1.keep hb) (H3.out.2.2.2.2.trans (hb.mono H3.out.2.2.2.2.size)))); clear hb)
  go_upto_region 5 with (go_at_call 20; refine (parse_nought _).mono ?_; rintro e w4 ⟨A4, n4, c4, rfl, hb⟩; have H5 := Lib.hid (And.intro (H4.out.1.keep hb) (And.intro (H4.out.2.1.keep hb) (H4.out.2.2.trans (hb.mono H4.out.2.2.size)))); clear hb)
  have bb : Below w4.heap.size w4 (w4.alloc (.cells #[.slice A4 n4 c4] 26)) := (Below.refl _ _).alloc (Nat.le_refl _) _
  have H6 := Lib.hid (And.intro (H5.out.1.keep bb) (And.intro (H5.out.2.1.keep bb) (H5.out.2.2.trans (bb.mono H5.out.2.2.size))))
  clear bb H5 H4 H3 hc2 hz2 hc1 hz1
  generalize hg : w4.heap.size = g4 at *
  generalize hw : w4.alloc (.cells #[.slice A4 n4 c4] 26) = z4 at *
  clear hg hw
  go_upto_region 6 with (go_at_call 20; refine (parse_great _).mono ?_; rintro e w5 ⟨A5, n5, c5, rfl, hb⟩; have H7 := Lib.hid (And.intro (H6.out.1.keep hb) (And.intro (H6.out.2.1.keep hb) (H6.out.2.2.trans (hb.mono H6.out.2.2.size)))); clear hb)
  have bb : Below w5.heap.size w5 (w5.alloc (.cells #[.slice A5 n5 c5] 26)) := (Below.refl _ _).alloc (Nat.le_refl _) _
  have H8 := Lib.hid (And.intro (H7.out.1.keep bb) (And.intro (H7.out.2.1.keep bb) (H7.out.2.2.trans (bb.mono H7.out.2.2.size))))
  clear bb H7 H6
  generalize hg : w5.heap.size = g5 at *
  generalize hw : w5.alloc (.cells #[.slice A5 n5 c5] 26) = z5 at *
  clear hg hw
  go_upto_region 7 with (go_at_call 22; refine (whole_none _).mono ?_; rintro e w6 ⟨rfl, hb⟩; have hk := H8.out.2.1.keep hb; have hc1 := hk.cell 0; have hz1 := hk.lt; simp at hc1; have H9 := Lib.hid (And.intro (H8.out.1.keep hb) (And.intro hk (H8.out.2.2.trans (hb.mono H8.out.2.2.size)))); clear hb hk)
  go_wp2_with (first
    | (go_at_call 16; refine (text_c _ _ _ H9.out.1 (fits_big.mono (by decide))).mono ?_; rintro e w7 ⟨rfl, hb⟩; rw [dec_big]; have hk := H9.out.2.1.keep hb; have hc7 := hk.cell 0; have hz7 := hk.lt; simp at hc7; have H10 := Lib.hid (And.intro (H9.out.1.keep hb) (H9.out.2.2.trans (hb.mono H9.out.2.2.size))); clear hb hk)
    | (go_at_call 17; refine (digits_c _ _ _ H10.out.1 (fits_big.mono (by decide))).mono ?_; rintro e w8 ⟨rfl, hb⟩; rw [dec_big]; have H11 := Lib.hid (H10.out.2.trans (hb.mono H10.out.2.size)); clear hb)
    | (go_at_call 18; refine (whole_c _ _ (by decide) (by decide)).mono ?_; rintro e w9 ⟨rfl, hb⟩; rw [wdec_low]; have H12 := Lib.hid (H11.out.trans (hb.mono H11.out.size)); clear hb))
  go_ret
  exact ⟨rfl, H12.out⟩
end Go.Proofs.Ytehdbogiacmabaa
