/- NatLaws, walked: for any three rows of at most 30 limbs the statement returns true, and nothing that was there before has turned. -/
import Derived.Test.YtdocpljgollcaaaWorks
namespace Go.Proofs.Ytdocpljgollcaaa
open Go.RowKit
attribute [local go_sem] alloc_drewN setCell_drewN
set_option maxRecDepth 100000 in
set_option maxHeartbeats 16000000 in
theorem natlaws_c (A B C : Option Addr) (n m q c1 c2 c3 : Nat) (la lb lc : List Nat) (w : World) (ha : Rw .u64 w A n la) (hb : Rw .u64 w B m lb) (hc : Rw .u64 w C q lc) (ta : AllLt 18446744073709551616 la) (tb : AllLt 18446744073709551616 lb) (tc : AllLt 18446744073709551616 lc) (hn : n ≤ 30) (hm : m ≤ 30) (hq : q ≤ 30) (hn1 : n ≤ c1) (hm1 : m ≤ c2) (hq1 : q ≤ c3) :
    Calls Try.prog 3 #[.slice A n c1, .slice B m c2, .slice C q c3] w fun e w' => e = .returned (.bool true) ∧ Below w.heap.size w w' := by
  have h1 : decide ((30 : Int) < (n : Int)) = false := by simp <;> omega
  have h2 : decide ((30 : Int) < (m : Int)) = false := by simp <;> omega
  have h3 : decide ((30 : Int) < (q : Int)) = false := by simp <;> omega
  have hX := Fits.of_lim ta (show la.length ≤ 30 by rw [ha.1]; exact hn)
  have hY := Fits.of_lim tb (show lb.length ≤ 30 by rw [hb.1]; exact hm)
  have hZ := Fits.of_lim tc (show lc.length ≤ 30 by rw [hc.1]; exact hq)
  have HI := Lib.hid (And.intro ha (And.intro hb (And.intro hc (And.intro ta (And.intro tb tc)))))
  clear ha hb hc ta tb tc
  go_enter Try.func3, Try.ntmps3
  go_upto_region 4 with (first
    | (go_at_call_of 8 (Value.slice A n c1); refine (limbs_c A n c1 la _ HI.out.1 HI.out.2.2.2.1 (by omega) hn1).mono ?_; rintro e w1 ⟨v1, rfl, hv, hb⟩; obtain ⟨A1, n1, d1, l1, rfl, hv⟩ := hv; have H1 := Lib.hid (And.intro hv hb); have z1 := hb.size; clear hv hb)
    | (go_at_call_of 8 (Value.slice B m c2); refine (limbs_c B m c2 lb _ (HI.out.2.1.keep H1.out.2) HI.out.2.2.2.2.1 (by omega) hm1).mono ?_; rintro e w2 ⟨v1, rfl, hv, hb⟩; obtain ⟨A2, n2, d2, l2, rfl, hv⟩ := hv; have H2 := Lib.hid (And.intro hv hb); have z2 := hb.size; clear hv hb)
    | (go_at_call_of 8 (Value.slice C q c3); refine (limbs_c C q c3 lc _ (HI.out.2.2.1.keep (H1.out.2.trans (H2.out.2.mono z1))) HI.out.2.2.2.2.2 (by omega) hq1).mono ?_; rintro e w3 ⟨v1, rfl, hv, hb⟩; obtain ⟨A3, n3, d3, l3, rfl, hv⟩ := hv; have H3 := Lib.hid (And.intro hv hb); have z3 := hb.size; clear hv hb))
  have bW : Below w3.heap.size w3 (((w3.alloc (.cells #[.slice A1 n1 d1] 25)).alloc (.cells #[.slice A2 n2 d2] 25)).alloc (.cells #[.slice A3 n3 d3] 25)) := (((Below.refl _ _).alloc (Nat.le_refl _) _).alloc (by simp) _).alloc (by simp <;> omega) _
  have i1 : IsNat 0 w3 (.agg #[.slice A1 n1 d1]) (val 18446744073709551616 la) := (IsNat.mono (⟨A1, n1, d1, l1, rfl, H1.out.1⟩ : IsNat w.heap.size w1 _ _) (Nat.zero_le _)).keep (H2.out.2.trans (H3.out.2.mono z2))
  have i2 : IsNat 0 w3 (.agg #[.slice A2 n2 d2]) (val 18446744073709551616 lb) := (IsNat.mono (⟨A2, n2, d2, l2, rfl, H2.out.1⟩ : IsNat w1.heap.size w2 _ _) (Nat.zero_le _)).keep H3.out.2
  have i3 : IsNat 0 w3 (.agg #[.slice A3 n3 d3]) (val 18446744073709551616 lc) := (IsNat.mono (⟨A3, n3, d3, l3, rfl, H3.out.1⟩ : IsNat w2.heap.size w3 _ _) (Nat.zero_le _))
  have b1 : BoxN (((w3.alloc (.cells #[.slice A1 n1 d1] 25)).alloc (.cells #[.slice A2 n2 d2] 25)).alloc (.cells #[.slice A3 n3 d3] 25)) w3.heap.size (val 18446744073709551616 la) := ⟨_, ((Bk.new _ _ _).alloc _).alloc _, i1.keep bW⟩
  have b2 : BoxN (((w3.alloc (.cells #[.slice A1 n1 d1] 25)).alloc (.cells #[.slice A2 n2 d2] 25)).alloc (.cells #[.slice A3 n3 d3] 25)) (w3.heap.size + 1) (val 18446744073709551616 lb) := ⟨_, by have := (Bk.new (w3.alloc (.cells #[.slice A1 n1 d1] 25)) 25 #[.slice A2 n2 d2]).alloc (.cells #[.slice A3 n3 d3] 25); simpa using this, i2.keep bW⟩
  have b3 : BoxN (((w3.alloc (.cells #[.slice A1 n1 d1] 25)).alloc (.cells #[.slice A2 n2 d2] 25)).alloc (.cells #[.slice A3 n3 d3] 25)) (w3.heap.size + 1 + 1) (val 18446744073709551616 lc) := ⟨_, by have := Bk.new ((w3.alloc (.cells #[.slice A1 n1 d1] 25)).alloc (.cells #[.slice A2 n2 d2] 25)) 25 #[.slice A3 n3 d3]; simpa using this, i3.keep bW⟩
  have bA : Below w.heap.size w (((w3.alloc (.cells #[.slice A1 n1 d1] 25)).alloc (.cells #[.slice A2 n2 d2] 25)).alloc (.cells #[.slice A3 n3 d3] 25)) := ((H1.out.2.trans (H2.out.2.mono z1)).trans (H3.out.2.mono (Nat.le_trans z1 z2))).trans (bW.mono (by omega))
  generalize (((w3.alloc (.cells #[.slice A1 n1 d1] 25)).alloc (.cells #[.slice A2 n2 d2] 25)).alloc (.cells #[.slice A3 n3 d3] 25)) = wz at *
  generalize val 18446744073709551616 la = X at *
  generalize val 18446744073709551616 lb = Y at *
  generalize val 18446744073709551616 lc = Z at *
  obtain ⟨sx, kx, ix⟩ := b1
  obtain ⟨sy, ky, iy⟩ := b2
  have cx := kx.cell 0
  have cy := ky.cell 0
  simp at cx cy
  have HB := Lib.hid (And.intro kx (And.intro ky (And.intro ix (And.intro iy (And.intro b3 bA)))))
  clear kx ky ix iy b3 bA i1 i2 i3 bW H1 H2 H3 HI
  go_upto_region 5 with (go_at_call 9; refine (add_w HB.out.2.2.1 HB.out.2.2.2.1 (fits_le hX (by decide)) (fits_le hY (by decide))).mono ?_; rintro e w4 ⟨v, rfl, hv, hb⟩; obtain ⟨A4, n4, d4, l4, rfl, hv⟩ := hv; have H4 := Lib.hid (And.intro hv hb); have z4 := hb.size; clear hv hb)
  have hbz : Below wz.heap.size wz (w4.alloc (.cells #[.slice A4 n4 d4] 25)) := H4.out.2.alloc z4 _
  have hbx : BoxN (w4.alloc (.cells #[.slice A4 n4 d4] 25)) w4.heap.size (X + Y) := ⟨_, Bk.new _ _ _, IsNat.alloc (⟨A4, n4, d4, l4, rfl, H4.out.1⟩ : IsNat 0 w4 _ _) _⟩
  have hT := And.intro (BoxN.keep ⟨sx, HB.out.1, HB.out.2.2.1⟩ hbz) (And.intro (BoxN.keep ⟨sy, HB.out.2.1, HB.out.2.2.2.1⟩ hbz) (And.intro (HB.out.2.2.2.2.1.keep hbz) (And.intro hbx (HB.out.2.2.2.2.2.trans (hbz.mono HB.out.2.2.2.2.2.size)))))
  have HT := Lib.hid hT
  clear hT hbz hbx H4 HB cx cy
  generalize w4.heap.size = g10 at *
  generalize w4.alloc (.cells #[.slice A4 n4 d4] 25) = wz at *
  refine wp_region_walk [0, 1, 2, 3, 4, 5, 6, 7, 8, 9, 10, 11, 12, 13, 14, 15, 16, 17, 18, 19, 20, 21, 22, 23, 24, 25, 26, 27, 28, 29, 30, 31, 32, 33, 34, 35, 36, 37, 38, 39, 40, 41, 42, 43, 44, 45, 46, 47, 48, 49, 50, 51, 52, 53, 54, 55] [39, 40, 41, 42, 43, 44, 45, 46, 47, 48, 49, 50, 51, 52, 53, 54, 55, 56, 57, 58, 59, 60, 61, 62, 63, 64, 65, 66, 67, 68, 69, 70, 71, 72, 73, 74, 75, 76, 77, 78, 79, 80, 81, 82, 83, 84, 85, 86, 87, 88, 89, 90, 91, 92, 93, 94] 0 (by kernel_rfl) (by kernel_rfl) (by kernel_rfl) rfl (by simp) (by kernel_rfl) (by kernel_rfl) ?_
  apply RegW.num 0 rfl
  · intro a w' hF hB hd; have e10 := hF.2.2 10 (by decide); simp at e10; clear hd hF; obtain ⟨sv, hk, hi⟩ := (HT.out.2.2.2.1).keep hB; have c0 := hk.cell 0; simp at c0; refine wpOp_step rfl (fun K' hK => ?_); go_simp; exact hK _ _ ⟨_, rfl, Below.refl _ _, ⟨_, rfl, hi⟩⟩
  apply RegW.num 1 rfl
  · intro a w' hF hB hd; have e8 := hF.2.2 8 (by decide); simp at e8; clear hd hF; obtain ⟨sv, hk, hi⟩ := (HT.out.2.1).keep hB; have c0 := hk.cell 0; simp at c0; refine wpOp_step rfl (fun K' hK => ?_); go_simp; exact hK _ _ ⟨_, rfl, Below.refl _ _, ⟨_, rfl, hi⟩⟩
  apply RegW.num 2 rfl
  · intro a w' hF hB hd; have e7 := hF.2.2 7 (by decide); simp at e7; clear hd hF; obtain ⟨sv, hk, hi⟩ := (HT.out.1).keep hB; have c0 := hk.cell 0; simp at c0; refine wpOp_step rfl (fun K' hK => ?_); go_simp; exact hK _ _ ⟨_, rfl, Below.refl _ _, ⟨_, rfl, hi⟩⟩
  apply RegW.num 3 rfl
  · intro a w' hF hB hd; have u1 := hd 1 (of_decide_eq_true (by kernel_rfl)) 1 _ _ rfl rfl; obtain ⟨x1, p1, q1⟩ := u1; have u2 := hd 2 (of_decide_eq_true (by kernel_rfl)) 0 _ _ rfl rfl; obtain ⟨x2, p2, q2⟩ := u2; clear hd hF; refine wpOp_step rfl (fun K' hK => ?_); go_simp; refine (add_w q1 q2 (fits_le hY (by decide)) (fits_le hX (by decide))).mono ?_; rintro e w1 ⟨x, rfl, hx, hb⟩; exact hK _ _ ⟨_, rfl, hb, ⟨_, rfl, hx⟩⟩
  apply RegW.val 4 rfl
  · intro a w' hF hB hd; have u0 := hd 0 (of_decide_eq_true (by kernel_rfl)) 3 _ _ rfl rfl; obtain ⟨x0, p0, q0⟩ := u0; have u3 := hd 3 (of_decide_eq_true (by kernel_rfl)) 0 _ _ rfl rfl; obtain ⟨x3, p3, q3⟩ := u3; clear hd hF; refine wpOp_step rfl (fun K' hK => ?_); go_simp; refine (cmp_w q0 q3 (fits_le (fits_add hX hY) (by decide)) (fits_le (fits_add hY hX) (by decide)) (cmp0 (Nat.add_comm X Y))).mono ?_; rintro e w1 ⟨rfl, hb⟩; exact hK _ _ ⟨_, rfl, hb, cst_ok⟩
  apply RegW.val 5 rfl
  · intro a w' hF hB hd; have v4 : a.tmps[43]?.getD undef = _ := hd 4 (of_decide_eq_true (by kernel_rfl)) 0 _ _ rfl rfl; clear hd hF; refine wpOp_step rfl (fun K' hK => ?_); go_simp; exact hK _ _ ⟨_, rfl, Below.refl _ _, cst_ok⟩
  apply RegW.val 6 rfl
  · intro a w' hF hB hd; have v5 : a.tmps[44]?.getD undef = _ := hd 5 (of_decide_eq_true (by kernel_rfl)) 0 _ _ rfl rfl; clear hd hF; refine wpOp_step rfl (fun K' hK => ?_); go_simp; exact hK _ _ ⟨_, rfl, Below.refl _ _, cst_ok⟩
  apply RegW.num 7 rfl
  · intro a w' hF hB hd; have v6 : a.tmps[45]?.getD undef = _ := hd 6 (of_decide_eq_true (by kernel_rfl)) 0 _ _ rfl rfl; have gd := tmp_bool v6; have e10 := hF.2.2 10 (by decide); simp at e10; clear hd hF; obtain ⟨sv, hk, hi⟩ := (HT.out.2.2.2.1).keep hB; have c0 := hk.cell 0; simp at c0; refine wpOp_step rfl (fun K' hK => ?_); go_simp; exact hK _ _ ⟨_, rfl, Below.refl _ _, ⟨_, rfl, hi⟩⟩
  apply RegW.num 8 rfl
  · intro a w' hF hB hd; have v6 : a.tmps[45]?.getD undef = _ := hd 6 (of_decide_eq_true (by kernel_rfl)) 1 _ _ rfl rfl; have gd := tmp_bool v6; have e9 := hF.2.2 9 (by decide); simp at e9; clear hd hF; obtain ⟨sv, hk, hi⟩ := (HT.out.2.2.1).keep hB; have c0 := hk.cell 0; simp at c0; refine wpOp_step rfl (fun K' hK => ?_); go_simp; exact hK _ _ ⟨_, rfl, Below.refl _ _, ⟨_, rfl, hi⟩⟩
  apply RegW.num 9 rfl
  · intro a w' hF hB hd; have v6 : a.tmps[45]?.getD undef = _ := hd 6 (of_decide_eq_true (by kernel_rfl)) 2 _ _ rfl rfl; have u7 := hd 7 (of_decide_eq_true (by kernel_rfl)) 1 _ _ rfl rfl; obtain ⟨x7, p7, q7⟩ := u7; have u8 := hd 8 (of_decide_eq_true (by kernel_rfl)) 0 _ _ rfl rfl; obtain ⟨x8, p8, q8⟩ := u8; have gd := tmp_bool v6; clear hd hF; refine wpOp_step rfl (fun K' hK => ?_); go_simp; refine (add_w q7 q8 (fits_le (fits_add hX hY) (by decide)) (fits_le hZ (by decide))).mono ?_; rintro e w1 ⟨x, rfl, hx, hb⟩; exact hK _ _ ⟨_, rfl, hb, ⟨_, rfl, hx⟩⟩
  apply RegW.num 10 rfl
  · intro a w' hF hB hd; have v6 : a.tmps[45]?.getD undef = _ := hd 6 (of_decide_eq_true (by kernel_rfl)) 3 _ _ rfl rfl; have gd := tmp_bool v6; have e7 := hF.2.2 7 (by decide); simp at e7; clear hd hF; obtain ⟨sv, hk, hi⟩ := (HT.out.1).keep hB; have c0 := hk.cell 0; simp at c0; refine wpOp_step rfl (fun K' hK => ?_); go_simp; exact hK _ _ ⟨_, rfl, Below.refl _ _, ⟨_, rfl, hi⟩⟩
  apply RegW.num 11 rfl
  · intro a w' hF hB hd; have v6 : a.tmps[45]?.getD undef = _ := hd 6 (of_decide_eq_true (by kernel_rfl)) 4 _ _ rfl rfl; have gd := tmp_bool v6; have e8 := hF.2.2 8 (by decide); simp at e8; clear hd hF; obtain ⟨sv, hk, hi⟩ := (HT.out.2.1).keep hB; have c0 := hk.cell 0; simp at c0; refine wpOp_step rfl (fun K' hK => ?_); go_simp; exact hK _ _ ⟨_, rfl, Below.refl _ _, ⟨_, rfl, hi⟩⟩
  apply RegW.num 12 rfl
  · intro a w' hF hB hd; have v6 : a.tmps[45]?.getD undef = _ := hd 6 (of_decide_eq_true (by kernel_rfl)) 5 _ _ rfl rfl; have gd := tmp_bool v6; have e9 := hF.2.2 9 (by decide); simp at e9; clear hd hF; obtain ⟨sv, hk, hi⟩ := (HT.out.2.2.1).keep hB; have c0 := hk.cell 0; simp at c0; refine wpOp_step rfl (fun K' hK => ?_); go_simp; exact hK _ _ ⟨_, rfl, Below.refl _ _, ⟨_, rfl, hi⟩⟩
  apply RegW.num 13 rfl
  · intro a w' hF hB hd; have v6 : a.tmps[45]?.getD undef = _ := hd 6 (of_decide_eq_true (by kernel_rfl)) 6 _ _ rfl rfl; have u11 := hd 11 (of_decide_eq_true (by kernel_rfl)) 1 _ _ rfl rfl; obtain ⟨x11, p11, q11⟩ := u11; have u12 := hd 12 (of_decide_eq_true (by kernel_rfl)) 0 _ _ rfl rfl; obtain ⟨x12, p12, q12⟩ := u12; have gd := tmp_bool v6; clear hd hF; refine wpOp_step rfl (fun K' hK => ?_); go_simp; refine (add_w q11 q12 (fits_le hY (by decide)) (fits_le hZ (by decide))).mono ?_; rintro e w1 ⟨x, rfl, hx, hb⟩; exact hK _ _ ⟨_, rfl, hb, ⟨_, rfl, hx⟩⟩
  apply RegW.num 14 rfl
  · intro a w' hF hB hd; have v6 : a.tmps[45]?.getD undef = _ := hd 6 (of_decide_eq_true (by kernel_rfl)) 7 _ _ rfl rfl; have u10 := hd 10 (of_decide_eq_true (by kernel_rfl)) 3 _ _ rfl rfl; obtain ⟨x10, p10, q10⟩ := u10; have u13 := hd 13 (of_decide_eq_true (by kernel_rfl)) 0 _ _ rfl rfl; obtain ⟨x13, p13, q13⟩ := u13; have gd := tmp_bool v6; clear hd hF; refine wpOp_step rfl (fun K' hK => ?_); go_simp; refine (add_w q10 q13 (fits_le hX (by decide)) (fits_le (fits_add hY hZ) (by decide))).mono ?_; rintro e w1 ⟨x, rfl, hx, hb⟩; exact hK _ _ ⟨_, rfl, hb, ⟨_, rfl, hx⟩⟩
  apply RegW.val 15 rfl
  · intro a w' hF hB hd; have v6 : a.tmps[45]?.getD undef = _ := hd 6 (of_decide_eq_true (by kernel_rfl)) 8 _ _ rfl rfl; have u9 := hd 9 (of_decide_eq_true (by kernel_rfl)) 5 _ _ rfl rfl; obtain ⟨x9, p9, q9⟩ := u9; have u14 := hd 14 (of_decide_eq_true (by kernel_rfl)) 0 _ _ rfl rfl; obtain ⟨x14, p14, q14⟩ := u14; have gd := tmp_bool v6; clear hd hF; refine wpOp_step rfl (fun K' hK => ?_); go_simp; refine (cmp_w q9 q14 (fits_le (fits_add (fits_add hX hY) hZ) (by decide)) (fits_le (fits_add hX (fits_add hY hZ)) (by decide)) (cmp0 (Nat.add_assoc X Y Z))).mono ?_; rintro e w1 ⟨rfl, hb⟩; exact hK _ _ ⟨_, rfl, hb, cst_ok⟩
  apply RegW.val 16 rfl
  · intro a w' hF hB hd; have v6 : a.tmps[45]?.getD undef = _ := hd 6 (of_decide_eq_true (by kernel_rfl)) 9 _ _ rfl rfl; have v15 : a.tmps[54]?.getD undef = _ := hd 15 (of_decide_eq_true (by kernel_rfl)) 0 _ _ rfl rfl; have gd := tmp_bool v6; clear hd hF; refine wpOp_step rfl (fun K' hK => ?_); go_simp; exact hK _ _ ⟨_, rfl, Below.refl _ _, cst_ok⟩
  apply RegW.val 17 rfl
  · intro a w' hF hB hd; have v6 : a.tmps[45]?.getD undef = _ := hd 6 (of_decide_eq_true (by kernel_rfl)) 10 _ _ rfl rfl; have v16 : a.tmps[55]?.getD undef = _ := hd 16 (of_decide_eq_true (by kernel_rfl)) 0 _ _ rfl rfl; clear hd hF; refine wpOp_step rfl (fun K' hK => ?_); go_simp; exact hK _ _ ⟨_, rfl, Below.refl _ _, cst_ok⟩
  apply RegW.val 18 rfl
  · intro a w' hF hB hd; have v17 : a.tmps[56]?.getD undef = _ := hd 17 (of_decide_eq_true (by kernel_rfl)) 0 _ _ rfl rfl; clear hd hF; refine wpOp_step rfl (fun K' hK => ?_); go_simp; exact hK _ _ ⟨_, rfl, Below.refl _ _, cst_ok⟩
  apply RegW.num 19 rfl
  · intro a w' hF hB hd; have v18 : a.tmps[57]?.getD undef = _ := hd 18 (of_decide_eq_true (by kernel_rfl)) 0 _ _ rfl rfl; have gd := tmp_bool v18; have e7 := hF.2.2 7 (by decide); simp at e7; clear hd hF; obtain ⟨sv, hk, hi⟩ := (HT.out.1).keep hB; have c0 := hk.cell 0; simp at c0; refine wpOp_step rfl (fun K' hK => ?_); go_simp; exact hK _ _ ⟨_, rfl, Below.refl _ _, ⟨_, rfl, hi⟩⟩
  apply RegW.num 20 rfl
  · intro a w' hF hB hd; have v18 : a.tmps[57]?.getD undef = _ := hd 18 (of_decide_eq_true (by kernel_rfl)) 1 _ _ rfl rfl; have gd := tmp_bool v18; have e8 := hF.2.2 8 (by decide); simp at e8; clear hd hF; obtain ⟨sv, hk, hi⟩ := (HT.out.2.1).keep hB; have c0 := hk.cell 0; simp at c0; refine wpOp_step rfl (fun K' hK => ?_); go_simp; exact hK _ _ ⟨_, rfl, Below.refl _ _, ⟨_, rfl, hi⟩⟩
  apply RegW.num 21 rfl
  · intro a w' hF hB hd; have v18 : a.tmps[57]?.getD undef = _ := hd 18 (of_decide_eq_true (by kernel_rfl)) 2 _ _ rfl rfl; have u19 := hd 19 (of_decide_eq_true (by kernel_rfl)) 1 _ _ rfl rfl; obtain ⟨x19, p19, q19⟩ := u19; have u20 := hd 20 (of_decide_eq_true (by kernel_rfl)) 0 _ _ rfl rfl; obtain ⟨x20, p20, q20⟩ := u20; have gd := tmp_bool v18; clear hd hF; refine wpOp_step rfl (fun K' hK => ?_); go_simp; refine (mul_w q19 q20 (fits_le hX (by decide)) (fits_le hY (by decide))).mono ?_; rintro e w1 ⟨x, rfl, hx, hb⟩; exact hK _ _ ⟨_, rfl, hb, ⟨_, rfl, hx⟩⟩
  apply RegW.num 22 rfl
  · intro a w' hF hB hd; have v18 : a.tmps[57]?.getD undef = _ := hd 18 (of_decide_eq_true (by kernel_rfl)) 3 _ _ rfl rfl; have gd := tmp_bool v18; have e8 := hF.2.2 8 (by decide); simp at e8; clear hd hF; obtain ⟨sv, hk, hi⟩ := (HT.out.2.1).keep hB; have c0 := hk.cell 0; simp at c0; refine wpOp_step rfl (fun K' hK => ?_); go_simp; exact hK _ _ ⟨_, rfl, Below.refl _ _, ⟨_, rfl, hi⟩⟩
  apply RegW.num 23 rfl
  · intro a w' hF hB hd; have v18 : a.tmps[57]?.getD undef = _ := hd 18 (of_decide_eq_true (by kernel_rfl)) 4 _ _ rfl rfl; have gd := tmp_bool v18; have e7 := hF.2.2 7 (by decide); simp at e7; clear hd hF; obtain ⟨sv, hk, hi⟩ := (HT.out.1).keep hB; have c0 := hk.cell 0; simp at c0; refine wpOp_step rfl (fun K' hK => ?_); go_simp; exact hK _ _ ⟨_, rfl, Below.refl _ _, ⟨_, rfl, hi⟩⟩
  apply RegW.num 24 rfl
  · intro a w' hF hB hd; have v18 : a.tmps[57]?.getD undef = _ := hd 18 (of_decide_eq_true (by kernel_rfl)) 5 _ _ rfl rfl; have u22 := hd 22 (of_decide_eq_true (by kernel_rfl)) 1 _ _ rfl rfl; obtain ⟨x22, p22, q22⟩ := u22; have u23 := hd 23 (of_decide_eq_true (by kernel_rfl)) 0 _ _ rfl rfl; obtain ⟨x23, p23, q23⟩ := u23; have gd := tmp_bool v18; clear hd hF; refine wpOp_step rfl (fun K' hK => ?_); go_simp; refine (mul_w q22 q23 (fits_le hY (by decide)) (fits_le hX (by decide))).mono ?_; rintro e w1 ⟨x, rfl, hx, hb⟩; exact hK _ _ ⟨_, rfl, hb, ⟨_, rfl, hx⟩⟩
  apply RegW.val 25 rfl
  · intro a w' hF hB hd; have v18 : a.tmps[57]?.getD undef = _ := hd 18 (of_decide_eq_true (by kernel_rfl)) 6 _ _ rfl rfl; have u21 := hd 21 (of_decide_eq_true (by kernel_rfl)) 3 _ _ rfl rfl; obtain ⟨x21, p21, q21⟩ := u21; have u24 := hd 24 (of_decide_eq_true (by kernel_rfl)) 0 _ _ rfl rfl; obtain ⟨x24, p24, q24⟩ := u24; have gd := tmp_bool v18; clear hd hF; refine wpOp_step rfl (fun K' hK => ?_); go_simp; refine (cmp_w q21 q24 (fits_le (fits_mul hX hY) (by decide)) (fits_le (fits_mul hY hX) (by decide)) (cmp0 (Nat.mul_comm X Y))).mono ?_; rintro e w1 ⟨rfl, hb⟩; exact hK _ _ ⟨_, rfl, hb, cst_ok⟩
  apply RegW.val 26 rfl
  · intro a w' hF hB hd; have v18 : a.tmps[57]?.getD undef = _ := hd 18 (of_decide_eq_true (by kernel_rfl)) 7 _ _ rfl rfl; have v25 : a.tmps[64]?.getD undef = _ := hd 25 (of_decide_eq_true (by kernel_rfl)) 0 _ _ rfl rfl; have gd := tmp_bool v18; clear hd hF; refine wpOp_step rfl (fun K' hK => ?_); go_simp; exact hK _ _ ⟨_, rfl, Below.refl _ _, cst_ok⟩
  apply RegW.val 27 rfl
  · intro a w' hF hB hd; have v18 : a.tmps[57]?.getD undef = _ := hd 18 (of_decide_eq_true (by kernel_rfl)) 8 _ _ rfl rfl; have v26 : a.tmps[65]?.getD undef = _ := hd 26 (of_decide_eq_true (by kernel_rfl)) 0 _ _ rfl rfl; clear hd hF; refine wpOp_step rfl (fun K' hK => ?_); go_simp; exact hK _ _ ⟨_, rfl, Below.refl _ _, cst_ok⟩
  apply RegW.val 28 rfl
  · intro a w' hF hB hd; have v27 : a.tmps[66]?.getD undef = _ := hd 27 (of_decide_eq_true (by kernel_rfl)) 0 _ _ rfl rfl; clear hd hF; refine wpOp_step rfl (fun K' hK => ?_); go_simp; exact hK _ _ ⟨_, rfl, Below.refl _ _, cst_ok⟩
  apply RegW.num 29 rfl
  · intro a w' hF hB hd; have v28 : a.tmps[67]?.getD undef = _ := hd 28 (of_decide_eq_true (by kernel_rfl)) 0 _ _ rfl rfl; have gd := tmp_bool v28; have e7 := hF.2.2 7 (by decide); simp at e7; clear hd hF; obtain ⟨sv, hk, hi⟩ := (HT.out.1).keep hB; have c0 := hk.cell 0; simp at c0; refine wpOp_step rfl (fun K' hK => ?_); go_simp; exact hK _ _ ⟨_, rfl, Below.refl _ _, ⟨_, rfl, hi⟩⟩
  apply RegW.num 30 rfl
  · intro a w' hF hB hd; have v28 : a.tmps[67]?.getD undef = _ := hd 28 (of_decide_eq_true (by kernel_rfl)) 1 _ _ rfl rfl; have gd := tmp_bool v28; have e8 := hF.2.2 8 (by decide); simp at e8; clear hd hF; obtain ⟨sv, hk, hi⟩ := (HT.out.2.1).keep hB; have c0 := hk.cell 0; simp at c0; refine wpOp_step rfl (fun K' hK => ?_); go_simp; exact hK _ _ ⟨_, rfl, Below.refl _ _, ⟨_, rfl, hi⟩⟩
  apply RegW.num 31 rfl
  · intro a w' hF hB hd; have v28 : a.tmps[67]?.getD undef = _ := hd 28 (of_decide_eq_true (by kernel_rfl)) 2 _ _ rfl rfl; have u29 := hd 29 (of_decide_eq_true (by kernel_rfl)) 1 _ _ rfl rfl; obtain ⟨x29, p29, q29⟩ := u29; have u30 := hd 30 (of_decide_eq_true (by kernel_rfl)) 0 _ _ rfl rfl; obtain ⟨x30, p30, q30⟩ := u30; have gd := tmp_bool v28; clear hd hF; refine wpOp_step rfl (fun K' hK => ?_); go_simp; refine (mul_w q29 q30 (fits_le hX (by decide)) (fits_le hY (by decide))).mono ?_; rintro e w1 ⟨x, rfl, hx, hb⟩; exact hK _ _ ⟨_, rfl, hb, ⟨_, rfl, hx⟩⟩
  apply RegW.num 32 rfl
  · intro a w' hF hB hd; have v28 : a.tmps[67]?.getD undef = _ := hd 28 (of_decide_eq_true (by kernel_rfl)) 3 _ _ rfl rfl; have gd := tmp_bool v28; have e9 := hF.2.2 9 (by decide); simp at e9; clear hd hF; obtain ⟨sv, hk, hi⟩ := (HT.out.2.2.1).keep hB; have c0 := hk.cell 0; simp at c0; refine wpOp_step rfl (fun K' hK => ?_); go_simp; exact hK _ _ ⟨_, rfl, Below.refl _ _, ⟨_, rfl, hi⟩⟩
  apply RegW.num 33 rfl
  · intro a w' hF hB hd; have v28 : a.tmps[67]?.getD undef = _ := hd 28 (of_decide_eq_true (by kernel_rfl)) 4 _ _ rfl rfl; have u31 := hd 31 (of_decide_eq_true (by kernel_rfl)) 1 _ _ rfl rfl; obtain ⟨x31, p31, q31⟩ := u31; have u32 := hd 32 (of_decide_eq_true (by kernel_rfl)) 0 _ _ rfl rfl; obtain ⟨x32, p32, q32⟩ := u32; have gd := tmp_bool v28; clear hd hF; refine wpOp_step rfl (fun K' hK => ?_); go_simp; refine (mul_w q31 q32 (fits_le (fits_mul hX hY) (by decide)) (fits_le hZ (by decide))).mono ?_; rintro e w1 ⟨x, rfl, hx, hb⟩; exact hK _ _ ⟨_, rfl, hb, ⟨_, rfl, hx⟩⟩
  apply RegW.num 34 rfl
  · intro a w' hF hB hd; have v28 : a.tmps[67]?.getD undef = _ := hd 28 (of_decide_eq_true (by kernel_rfl)) 5 _ _ rfl rfl; have gd := tmp_bool v28; have e7 := hF.2.2 7 (by decide); simp at e7; clear hd hF; obtain ⟨sv, hk, hi⟩ := (HT.out.1).keep hB; have c0 := hk.cell 0; simp at c0; refine wpOp_step rfl (fun K' hK => ?_); go_simp; exact hK _ _ ⟨_, rfl, Below.refl _ _, ⟨_, rfl, hi⟩⟩
  apply RegW.num 35 rfl
  · intro a w' hF hB hd; have v28 : a.tmps[67]?.getD undef = _ := hd 28 (of_decide_eq_true (by kernel_rfl)) 6 _ _ rfl rfl; have gd := tmp_bool v28; have e8 := hF.2.2 8 (by decide); simp at e8; clear hd hF; obtain ⟨sv, hk, hi⟩ := (HT.out.2.1).keep hB; have c0 := hk.cell 0; simp at c0; refine wpOp_step rfl (fun K' hK => ?_); go_simp; exact hK _ _ ⟨_, rfl, Below.refl _ _, ⟨_, rfl, hi⟩⟩
  apply RegW.num 36 rfl
  · intro a w' hF hB hd; have v28 : a.tmps[67]?.getD undef = _ := hd 28 (of_decide_eq_true (by kernel_rfl)) 7 _ _ rfl rfl; have gd := tmp_bool v28; have e9 := hF.2.2 9 (by decide); simp at e9; clear hd hF; obtain ⟨sv, hk, hi⟩ := (HT.out.2.2.1).keep hB; have c0 := hk.cell 0; simp at c0; refine wpOp_step rfl (fun K' hK => ?_); go_simp; exact hK _ _ ⟨_, rfl, Below.refl _ _, ⟨_, rfl, hi⟩⟩
  apply RegW.num 37 rfl
  · intro a w' hF hB hd; have v28 : a.tmps[67]?.getD undef = _ := hd 28 (of_decide_eq_true (by kernel_rfl)) 8 _ _ rfl rfl; have u35 := hd 35 (of_decide_eq_true (by kernel_rfl)) 1 _ _ rfl rfl; obtain ⟨x35, p35, q35⟩ := u35; have u36 := hd 36 (of_decide_eq_true (by kernel_rfl)) 0 _ _ rfl rfl; obtain ⟨x36, p36, q36⟩ := u36; have gd := tmp_bool v28; clear hd hF; refine wpOp_step rfl (fun K' hK => ?_); go_simp; refine (mul_w q35 q36 (fits_le hY (by decide)) (fits_le hZ (by decide))).mono ?_; rintro e w1 ⟨x, rfl, hx, hb⟩; exact hK _ _ ⟨_, rfl, hb, ⟨_, rfl, hx⟩⟩
  apply RegW.num 38 rfl
  · intro a w' hF hB hd; have v28 : a.tmps[67]?.getD undef = _ := hd 28 (of_decide_eq_true (by kernel_rfl)) 9 _ _ rfl rfl; have u34 := hd 34 (of_decide_eq_true (by kernel_rfl)) 3 _ _ rfl rfl; obtain ⟨x34, p34, q34⟩ := u34; have u37 := hd 37 (of_decide_eq_true (by kernel_rfl)) 0 _ _ rfl rfl; obtain ⟨x37, p37, q37⟩ := u37; have gd := tmp_bool v28; clear hd hF; refine wpOp_step rfl (fun K' hK => ?_); go_simp; refine (mul_w q34 q37 (fits_le hX (by decide)) (fits_le (fits_mul hY hZ) (by decide))).mono ?_; rintro e w1 ⟨x, rfl, hx, hb⟩; exact hK _ _ ⟨_, rfl, hb, ⟨_, rfl, hx⟩⟩
  apply RegW.val 39 rfl
  · intro a w' hF hB hd; have v28 : a.tmps[67]?.getD undef = _ := hd 28 (of_decide_eq_true (by kernel_rfl)) 10 _ _ rfl rfl; have u33 := hd 33 (of_decide_eq_true (by kernel_rfl)) 5 _ _ rfl rfl; obtain ⟨x33, p33, q33⟩ := u33; have u38 := hd 38 (of_decide_eq_true (by kernel_rfl)) 0 _ _ rfl rfl; obtain ⟨x38, p38, q38⟩ := u38; have gd := tmp_bool v28; clear hd hF; refine wpOp_step rfl (fun K' hK => ?_); go_simp; refine (cmp_w q33 q38 (fits_le (fits_mul (fits_mul hX hY) hZ) (by decide)) (fits_le (fits_mul hX (fits_mul hY hZ)) (by decide)) (cmp0 (Nat.mul_assoc X Y Z))).mono ?_; rintro e w1 ⟨rfl, hb⟩; exact hK _ _ ⟨_, rfl, hb, cst_ok⟩
  apply RegW.val 40 rfl
  · intro a w' hF hB hd; have v28 : a.tmps[67]?.getD undef = _ := hd 28 (of_decide_eq_true (by kernel_rfl)) 11 _ _ rfl rfl; have v39 : a.tmps[78]?.getD undef = _ := hd 39 (of_decide_eq_true (by kernel_rfl)) 0 _ _ rfl rfl; have gd := tmp_bool v28; clear hd hF; refine wpOp_step rfl (fun K' hK => ?_); go_simp; exact hK _ _ ⟨_, rfl, Below.refl _ _, cst_ok⟩
  apply RegW.val 41 rfl
  · intro a w' hF hB hd; have v28 : a.tmps[67]?.getD undef = _ := hd 28 (of_decide_eq_true (by kernel_rfl)) 12 _ _ rfl rfl; have v40 : a.tmps[79]?.getD undef = _ := hd 40 (of_decide_eq_true (by kernel_rfl)) 0 _ _ rfl rfl; clear hd hF; refine wpOp_step rfl (fun K' hK => ?_); go_simp; exact hK _ _ ⟨_, rfl, Below.refl _ _, cst_ok⟩
  apply RegW.val 42 rfl
  · intro a w' hF hB hd; have v41 : a.tmps[80]?.getD undef = _ := hd 41 (of_decide_eq_true (by kernel_rfl)) 0 _ _ rfl rfl; clear hd hF; refine wpOp_step rfl (fun K' hK => ?_); go_simp; exact hK _ _ ⟨_, rfl, Below.refl _ _, cst_ok⟩
  apply RegW.num 43 rfl
  · intro a w' hF hB hd; have v42 : a.tmps[81]?.getD undef = _ := hd 42 (of_decide_eq_true (by kernel_rfl)) 0 _ _ rfl rfl; have gd := tmp_bool v42; have e10 := hF.2.2 10 (by decide); simp at e10; clear hd hF; obtain ⟨sv, hk, hi⟩ := (HT.out.2.2.2.1).keep hB; have c0 := hk.cell 0; simp at c0; refine wpOp_step rfl (fun K' hK => ?_); go_simp; exact hK _ _ ⟨_, rfl, Below.refl _ _, ⟨_, rfl, hi⟩⟩
  apply RegW.num 44 rfl
  · intro a w' hF hB hd; have v42 : a.tmps[81]?.getD undef = _ := hd 42 (of_decide_eq_true (by kernel_rfl)) 1 _ _ rfl rfl; have gd := tmp_bool v42; have e9 := hF.2.2 9 (by decide); simp at e9; clear hd hF; obtain ⟨sv, hk, hi⟩ := (HT.out.2.2.1).keep hB; have c0 := hk.cell 0; simp at c0; refine wpOp_step rfl (fun K' hK => ?_); go_simp; exact hK _ _ ⟨_, rfl, Below.refl _ _, ⟨_, rfl, hi⟩⟩
  apply RegW.num 45 rfl
  · intro a w' hF hB hd; have v42 : a.tmps[81]?.getD undef = _ := hd 42 (of_decide_eq_true (by kernel_rfl)) 2 _ _ rfl rfl; have u43 := hd 43 (of_decide_eq_true (by kernel_rfl)) 1 _ _ rfl rfl; obtain ⟨x43, p43, q43⟩ := u43; have u44 := hd 44 (of_decide_eq_true (by kernel_rfl)) 0 _ _ rfl rfl; obtain ⟨x44, p44, q44⟩ := u44; have gd := tmp_bool v42; clear hd hF; refine wpOp_step rfl (fun K' hK => ?_); go_simp; refine (mul_w q43 q44 (fits_le (fits_add hX hY) (by decide)) (fits_le hZ (by decide))).mono ?_; rintro e w1 ⟨x, rfl, hx, hb⟩; exact hK _ _ ⟨_, rfl, hb, ⟨_, rfl, hx⟩⟩
  apply RegW.num 46 rfl
  · intro a w' hF hB hd; have v42 : a.tmps[81]?.getD undef = _ := hd 42 (of_decide_eq_true (by kernel_rfl)) 3 _ _ rfl rfl; have gd := tmp_bool v42; have e7 := hF.2.2 7 (by decide); simp at e7; clear hd hF; obtain ⟨sv, hk, hi⟩ := (HT.out.1).keep hB; have c0 := hk.cell 0; simp at c0; refine wpOp_step rfl (fun K' hK => ?_); go_simp; exact hK _ _ ⟨_, rfl, Below.refl _ _, ⟨_, rfl, hi⟩⟩
  apply RegW.num 47 rfl
  · intro a w' hF hB hd; have v42 : a.tmps[81]?.getD undef = _ := hd 42 (of_decide_eq_true (by kernel_rfl)) 4 _ _ rfl rfl; have gd := tmp_bool v42; have e9 := hF.2.2 9 (by decide); simp at e9; clear hd hF; obtain ⟨sv, hk, hi⟩ := (HT.out.2.2.1).keep hB; have c0 := hk.cell 0; simp at c0; refine wpOp_step rfl (fun K' hK => ?_); go_simp; exact hK _ _ ⟨_, rfl, Below.refl _ _, ⟨_, rfl, hi⟩⟩
  apply RegW.num 48 rfl
  · intro a w' hF hB hd; have v42 : a.tmps[81]?.getD undef = _ := hd 42 (of_decide_eq_true (by kernel_rfl)) 5 _ _ rfl rfl; have u46 := hd 46 (of_decide_eq_true (by kernel_rfl)) 1 _ _ rfl rfl; obtain ⟨x46, p46, q46⟩ := u46; have u47 := hd 47 (of_decide_eq_true (by kernel_rfl)) 0 _ _ rfl rfl; obtain ⟨x47, p47, q47⟩ := u47; have gd := tmp_bool v42; clear hd hF; refine wpOp_step rfl (fun K' hK => ?_); go_simp; refine (mul_w q46 q47 (fits_le hX (by decide)) (fits_le hZ (by decide))).mono ?_; rintro e w1 ⟨x, rfl, hx, hb⟩; exact hK _ _ ⟨_, rfl, hb, ⟨_, rfl, hx⟩⟩
  apply RegW.num 49 rfl
  · intro a w' hF hB hd; have v42 : a.tmps[81]?.getD undef = _ := hd 42 (of_decide_eq_true (by kernel_rfl)) 6 _ _ rfl rfl; have gd := tmp_bool v42; have e8 := hF.2.2 8 (by decide); simp at e8; clear hd hF; obtain ⟨sv, hk, hi⟩ := (HT.out.2.1).keep hB; have c0 := hk.cell 0; simp at c0; refine wpOp_step rfl (fun K' hK => ?_); go_simp; exact hK _ _ ⟨_, rfl, Below.refl _ _, ⟨_, rfl, hi⟩⟩
  apply RegW.num 50 rfl
  · intro a w' hF hB hd; have v42 : a.tmps[81]?.getD undef = _ := hd 42 (of_decide_eq_true (by kernel_rfl)) 7 _ _ rfl rfl; have gd := tmp_bool v42; have e9 := hF.2.2 9 (by decide); simp at e9; clear hd hF; obtain ⟨sv, hk, hi⟩ := (HT.out.2.2.1).keep hB; have c0 := hk.cell 0; simp at c0; refine wpOp_step rfl (fun K' hK => ?_); go_simp; exact hK _ _ ⟨_, rfl, Below.refl _ _, ⟨_, rfl, hi⟩⟩
  apply RegW.num 51 rfl
  · intro a w' hF hB hd; have v42 : a.tmps[81]?.getD undef = _ := hd 42 (of_decide_eq_true (by kernel_rfl)) 8 _ _ rfl rfl; have u49 := hd 49 (of_decide_eq_true (by kernel_rfl)) 1 _ _ rfl rfl; obtain ⟨x49, p49, q49⟩ := u49; have u50 := hd 50 (of_decide_eq_true (by kernel_rfl)) 0 _ _ rfl rfl; obtain ⟨x50, p50, q50⟩ := u50; have gd := tmp_bool v42; clear hd hF; refine wpOp_step rfl (fun K' hK => ?_); go_simp; refine (mul_w q49 q50 (fits_le hY (by decide)) (fits_le hZ (by decide))).mono ?_; rintro e w1 ⟨x, rfl, hx, hb⟩; exact hK _ _ ⟨_, rfl, hb, ⟨_, rfl, hx⟩⟩
  apply RegW.num 52 rfl
  · intro a w' hF hB hd; have v42 : a.tmps[81]?.getD undef = _ := hd 42 (of_decide_eq_true (by kernel_rfl)) 9 _ _ rfl rfl; have u48 := hd 48 (of_decide_eq_true (by kernel_rfl)) 3 _ _ rfl rfl; obtain ⟨x48, p48, q48⟩ := u48; have u51 := hd 51 (of_decide_eq_true (by kernel_rfl)) 0 _ _ rfl rfl; obtain ⟨x51, p51, q51⟩ := u51; have gd := tmp_bool v42; clear hd hF; refine wpOp_step rfl (fun K' hK => ?_); go_simp; refine (add_w q48 q51 (fits_le (fits_mul hX hZ) (by decide)) (fits_le (fits_mul hY hZ) (by decide))).mono ?_; rintro e w1 ⟨x, rfl, hx, hb⟩; exact hK _ _ ⟨_, rfl, hb, ⟨_, rfl, hx⟩⟩
  apply RegW.val 53 rfl
  · intro a w' hF hB hd; have v42 : a.tmps[81]?.getD undef = _ := hd 42 (of_decide_eq_true (by kernel_rfl)) 10 _ _ rfl rfl; have u45 := hd 45 (of_decide_eq_true (by kernel_rfl)) 7 _ _ rfl rfl; obtain ⟨x45, p45, q45⟩ := u45; have u52 := hd 52 (of_decide_eq_true (by kernel_rfl)) 0 _ _ rfl rfl; obtain ⟨x52, p52, q52⟩ := u52; have gd := tmp_bool v42; clear hd hF; refine wpOp_step rfl (fun K' hK => ?_); go_simp; refine (cmp_w q45 q52 (fits_le (fits_mul (fits_add hX hY) hZ) (by decide)) (fits_le (fits_add (fits_mul hX hZ) (fits_mul hY hZ)) (by decide)) (cmp0 (Nat.add_mul X Y Z))).mono ?_; rintro e w1 ⟨rfl, hb⟩; exact hK _ _ ⟨_, rfl, hb, cst_ok⟩
  apply RegW.val 54 rfl
  · intro a w' hF hB hd; have v42 : a.tmps[81]?.getD undef = _ := hd 42 (of_decide_eq_true (by kernel_rfl)) 11 _ _ rfl rfl; have v53 : a.tmps[92]?.getD undef = _ := hd 53 (of_decide_eq_true (by kernel_rfl)) 0 _ _ rfl rfl; have gd := tmp_bool v42; clear hd hF; refine wpOp_step rfl (fun K' hK => ?_); go_simp; exact hK _ _ ⟨_, rfl, Below.refl _ _, cst_ok⟩
  apply RegW.val 55 rfl
  · intro a w' hF hB hd; have v42 : a.tmps[81]?.getD undef = _ := hd 42 (of_decide_eq_true (by kernel_rfl)) 12 _ _ rfl rfl; have v54 : a.tmps[93]?.getD undef = _ := hd 54 (of_decide_eq_true (by kernel_rfl)) 0 _ _ rfl rfl; clear hd hF; refine wpOp_step rfl (fun K' hK => ?_); go_simp; exact hK _ _ ⟨_, rfl, Below.refl _ _, cst_ok⟩
  refine RegW.done (fun a w' hF hB hv => ?_)
  have u0 := hv 55 _ _ rfl
  obtain ⟨x0, p0, q0⟩ := u0
  have u1 := hv 54 _ _ rfl
  obtain ⟨x1, p1, q1⟩ := u1
  have u2 := hv 53 _ _ rfl
  obtain ⟨x2, p2, q2⟩ := u2
  have u3 := hv 52 _ _ rfl
  obtain ⟨x3, p3, q3⟩ := u3
  have v4 : a.tmps[43]?.getD undef = _ := hv 51 _ _ rfl
  have v5 : a.tmps[44]?.getD undef = _ := hv 50 _ _ rfl
  have v6 : a.tmps[45]?.getD undef = _ := hv 49 _ _ rfl
  have u7 := hv 48 _ _ rfl
  obtain ⟨x7, p7, q7⟩ := u7
  have u8 := hv 47 _ _ rfl
  obtain ⟨x8, p8, q8⟩ := u8
  have u9 := hv 46 _ _ rfl
  obtain ⟨x9, p9, q9⟩ := u9
  have u10 := hv 45 _ _ rfl
  obtain ⟨x10, p10, q10⟩ := u10
  have u11 := hv 44 _ _ rfl
  obtain ⟨x11, p11, q11⟩ := u11
  have u12 := hv 43 _ _ rfl
  obtain ⟨x12, p12, q12⟩ := u12
  have u13 := hv 42 _ _ rfl
  obtain ⟨x13, p13, q13⟩ := u13
  have u14 := hv 41 _ _ rfl
  obtain ⟨x14, p14, q14⟩ := u14
  have v15 : a.tmps[54]?.getD undef = _ := hv 40 _ _ rfl
  have v16 : a.tmps[55]?.getD undef = _ := hv 39 _ _ rfl
  have v17 : a.tmps[56]?.getD undef = _ := hv 38 _ _ rfl
  have v18 : a.tmps[57]?.getD undef = _ := hv 37 _ _ rfl
  have u19 := hv 36 _ _ rfl
  obtain ⟨x19, p19, q19⟩ := u19
  have u20 := hv 35 _ _ rfl
  obtain ⟨x20, p20, q20⟩ := u20
  have u21 := hv 34 _ _ rfl
  obtain ⟨x21, p21, q21⟩ := u21
  have u22 := hv 33 _ _ rfl
  obtain ⟨x22, p22, q22⟩ := u22
  have u23 := hv 32 _ _ rfl
  obtain ⟨x23, p23, q23⟩ := u23
  have u24 := hv 31 _ _ rfl
  obtain ⟨x24, p24, q24⟩ := u24
  have v25 : a.tmps[64]?.getD undef = _ := hv 30 _ _ rfl
  have v26 : a.tmps[65]?.getD undef = _ := hv 29 _ _ rfl
  have v27 : a.tmps[66]?.getD undef = _ := hv 28 _ _ rfl
  have v28 : a.tmps[67]?.getD undef = _ := hv 27 _ _ rfl
  have u29 := hv 26 _ _ rfl
  obtain ⟨x29, p29, q29⟩ := u29
  have u30 := hv 25 _ _ rfl
  obtain ⟨x30, p30, q30⟩ := u30
  have u31 := hv 24 _ _ rfl
  obtain ⟨x31, p31, q31⟩ := u31
  have u32 := hv 23 _ _ rfl
  obtain ⟨x32, p32, q32⟩ := u32
  have u33 := hv 22 _ _ rfl
  obtain ⟨x33, p33, q33⟩ := u33
  have u34 := hv 21 _ _ rfl
  obtain ⟨x34, p34, q34⟩ := u34
  have u35 := hv 20 _ _ rfl
  obtain ⟨x35, p35, q35⟩ := u35
  have u36 := hv 19 _ _ rfl
  obtain ⟨x36, p36, q36⟩ := u36
  have u37 := hv 18 _ _ rfl
  obtain ⟨x37, p37, q37⟩ := u37
  have u38 := hv 17 _ _ rfl
  obtain ⟨x38, p38, q38⟩ := u38
  have v39 : a.tmps[78]?.getD undef = _ := hv 16 _ _ rfl
  have v40 : a.tmps[79]?.getD undef = _ := hv 15 _ _ rfl
  have v41 : a.tmps[80]?.getD undef = _ := hv 14 _ _ rfl
  have v42 : a.tmps[81]?.getD undef = _ := hv 13 _ _ rfl
  have u43 := hv 12 _ _ rfl
  obtain ⟨x43, p43, q43⟩ := u43
  have u44 := hv 11 _ _ rfl
  obtain ⟨x44, p44, q44⟩ := u44
  have u45 := hv 10 _ _ rfl
  obtain ⟨x45, p45, q45⟩ := u45
  have u46 := hv 9 _ _ rfl
  obtain ⟨x46, p46, q46⟩ := u46
  have u47 := hv 8 _ _ rfl
  obtain ⟨x47, p47, q47⟩ := u47
  have u48 := hv 7 _ _ rfl
  obtain ⟨x48, p48, q48⟩ := u48
  have u49 := hv 6 _ _ rfl
  obtain ⟨x49, p49, q49⟩ := u49
  have u50 := hv 5 _ _ rfl
  obtain ⟨x50, p50, q50⟩ := u50
  have u51 := hv 4 _ _ rfl
  obtain ⟨x51, p51, q51⟩ := u51
  have u52 := hv 3 _ _ rfl
  obtain ⟨x52, p52, q52⟩ := u52
  have v53 : a.tmps[92]?.getD undef = _ := hv 2 _ _ rfl
  have v54 : a.tmps[93]?.getD undef = _ := hv 1 _ _ rfl
  have v55 : a.tmps[94]?.getD undef = _ := hv 0 _ _ rfl
  have hE := hF.out
  rw [hE]
  clear hE hF hv
  simp only [List.foldl_cons, List.foldl_nil, Act.put, List.setIfInBounds_toArray, List.set_cons_zero, List.set_cons_succ, Array.getD_eq_getD_getElem?, p0, p1, p2, p3, v4, v5, v6, p7, p8, p9, p10, p11, p12, p13, p14, v15, v16, v17, v18, p19, p20, p21, p22, p23, p24, v25, v26, v27, v28, p29, p30, p31, p32, p33, p34, p35, p36, p37, p38, v39, v40, v41, v42, p43, p44, p45, p46, p47, p48, p49, p50, p51, p52, v53, v54, v55]
  clear p0 p1 p2 p3 v4 v5 v6 p7 p8 p9 p10 p11 p12 p13 p14 v15 v16 v17 v18 p19 p20 p21 p22 p23 p24 v25 v26 v27 v28 p29 p30 p31 p32 p33 p34 p35 p36 p37 p38 v39 v40 v41 v42 p43 p44 p45 p46 p47 p48 p49 p50 p51 p52 v53 v54 v55
  have hT2 := And.intro (HT.out.1.keep hB) (And.intro (HT.out.2.1.keep hB) (And.intro (HT.out.2.2.1.keep hB) (And.intro (HT.out.2.2.2.1.keep hB) (HT.out.2.2.2.2.trans (hB.mono HT.out.2.2.2.2.size)))))
  clear hB HT
  have HT := Lib.hid hT2
  clear hT2
  generalize w' = wz at *
  obtain ⟨sx, kx, ix⟩ := HT.out.2.2.2.1
  obtain ⟨sy, ky, iy⟩ := HT.out.2.1
  have cx := kx.cell 0
  have cy := ky.cell 0
  simp at cx cy
  have HI := Lib.hid (And.intro ix iy)
  have hs0 : (if X + Y < Y then (11 : Int) else 0) = 0 := if_neg (by omega)
  have HS := Lib.hid hs0
  clear kx ky ix iy hs0
  go_upto_region 8 with (go_at_call 12; refine (sub_w HI.out.1 HI.out.2 (fits_le (fits_add hX hY) (by decide)) (fits_le hY (by decide))).mono ?_; rintro e w7 ⟨A7, n7, d7, rfl, hv, hb⟩; rw [HS.out]; have hz7 := hb.size; have HV := Lib.hid (And.intro hv hb); clear hv hb)
  have hbz : Below wz.heap.size wz (w7.alloc (.cells #[.slice A7 n7 d7] 25)) := HV.out.2.alloc hz7 _
  have hbx : BoxN (w7.alloc (.cells #[.slice A7 n7 d7] 25)) w7.heap.size X := ⟨_, Bk.new _ _ _, by have := HV.out.1; rw [Nat.add_sub_cancel] at this; exact this.alloc _⟩
  have hT := And.intro (HT.out.1.keep hbz) (And.intro (HT.out.2.1.keep hbz) (And.intro (HT.out.2.2.1.keep hbz) (And.intro (HT.out.2.2.2.1.keep hbz) (And.intro hbx (HT.out.2.2.2.2.trans (hbz.mono HT.out.2.2.2.2.size))))))
  clear hbz hbx HI HV HT cx cy hz7
  have HT := Lib.hid hT
  clear hT
  generalize w7.heap.size = g11 at *
  generalize w7.alloc (.cells #[.slice A7 n7 d7] 25) = wz at *
  obtain ⟨cq, hq, hq0⟩ : ∃ cq, cmpI (X + Y) X = cq ∧ decide (cq < 0) = false := by
    unfold cmpI
    rw [if_neg (by omega)]
    split
    · exact ⟨_, rfl, by decide⟩
    · exact ⟨_, rfl, by decide⟩
  refine wp_region_walk [0, 1, 2, 3, 4, 5, 6, 7, 8, 9, 10, 11, 12, 13, 14, 15, 16, 17, 18, 19, 20, 21, 22, 23, 24, 25, 26, 27, 28] [101, 102, 103, 104, 105, 106, 107, 108, 109, 110, 111, 112, 113, 114, 115, 116, 117, 118, 119, 120, 121, 122, 123, 124, 125, 126, 127, 128, 129] 0 (by kernel_rfl) (by kernel_rfl) (by kernel_rfl) rfl (by simp) (by kernel_rfl) (by kernel_rfl) ?_
  apply RegW.val 0 rfl
  · intro a w' hF hB hd; have e12 := hF.2.2 12 (by decide); simp at e12; clear hd hF; refine wpOp_step rfl (fun K' hK => ?_); go_simp; exact hK _ _ ⟨_, rfl, Below.refl _ _, cst_ok⟩
  apply RegW.val 1 rfl
  · intro a w' hF hB hd; have v0 : a.tmps[101]?.getD undef = _ := hd 0 (of_decide_eq_true (by kernel_rfl)) 0 _ _ rfl rfl; clear hd hF; refine wpOp_step rfl (fun K' hK => ?_); go_simp; exact hK _ _ ⟨_, rfl, Below.refl _ _, cst_ok⟩
  apply RegW.val 2 rfl
  · intro a w' hF hB hd; have v1 : a.tmps[102]?.getD undef = _ := hd 1 (of_decide_eq_true (by kernel_rfl)) 0 _ _ rfl rfl; clear hd hF; refine wpOp_step rfl (fun K' hK => ?_); go_simp; exact hK _ _ ⟨_, rfl, Below.refl _ _, cst_ok⟩
  apply RegW.num 3 rfl
  · intro a w' hF hB hd; have v2 : a.tmps[103]?.getD undef = _ := hd 2 (of_decide_eq_true (by kernel_rfl)) 0 _ _ rfl rfl; have gd := tmp_bool v2; have e11 := hF.2.2 11 (by decide); simp at e11; clear hd hF; obtain ⟨sv, hk, hi⟩ := (HT.out.2.2.2.2.1).keep hB; have c0 := hk.cell 0; simp at c0; refine wpOp_step rfl (fun K' hK => ?_); go_simp; exact hK _ _ ⟨_, rfl, Below.refl _ _, ⟨_, rfl, hi⟩⟩
  apply RegW.num 4 rfl
  · intro a w' hF hB hd; have v2 : a.tmps[103]?.getD undef = _ := hd 2 (of_decide_eq_true (by kernel_rfl)) 1 _ _ rfl rfl; have gd := tmp_bool v2; have e7 := hF.2.2 7 (by decide); simp at e7; clear hd hF; obtain ⟨sv, hk, hi⟩ := (HT.out.1).keep hB; have c0 := hk.cell 0; simp at c0; refine wpOp_step rfl (fun K' hK => ?_); go_simp; exact hK _ _ ⟨_, rfl, Below.refl _ _, ⟨_, rfl, hi⟩⟩
  apply RegW.val 5 rfl
  · intro a w' hF hB hd; have v2 : a.tmps[103]?.getD undef = _ := hd 2 (of_decide_eq_true (by kernel_rfl)) 2 _ _ rfl rfl; have u3 := hd 3 (of_decide_eq_true (by kernel_rfl)) 1 _ _ rfl rfl; obtain ⟨x3, p3, q3⟩ := u3; have u4 := hd 4 (of_decide_eq_true (by kernel_rfl)) 0 _ _ rfl rfl; obtain ⟨x4, p4, q4⟩ := u4; have gd := tmp_bool v2; clear hd hF; refine wpOp_step rfl (fun K' hK => ?_); go_simp; refine (cmp_w q3 q4 (fits_le hX (by decide)) (fits_le hX (by decide)) (cmp0 rfl)).mono ?_; rintro e w1 ⟨rfl, hb⟩; exact hK _ _ ⟨_, rfl, hb, cst_ok⟩
  apply RegW.val 6 rfl
  · intro a w' hF hB hd; have v2 : a.tmps[103]?.getD undef = _ := hd 2 (of_decide_eq_true (by kernel_rfl)) 3 _ _ rfl rfl; have v5 : a.tmps[106]?.getD undef = _ := hd 5 (of_decide_eq_true (by kernel_rfl)) 0 _ _ rfl rfl; have gd := tmp_bool v2; clear hd hF; refine wpOp_step rfl (fun K' hK => ?_); go_simp; exact hK _ _ ⟨_, rfl, Below.refl _ _, cst_ok⟩
  apply RegW.val 7 rfl
  · intro a w' hF hB hd; have v2 : a.tmps[103]?.getD undef = _ := hd 2 (of_decide_eq_true (by kernel_rfl)) 4 _ _ rfl rfl; have v6 : a.tmps[107]?.getD undef = _ := hd 6 (of_decide_eq_true (by kernel_rfl)) 0 _ _ rfl rfl; clear hd hF; refine wpOp_step rfl (fun K' hK => ?_); go_simp; exact hK _ _ ⟨_, rfl, Below.refl _ _, cst_ok⟩
  apply RegW.val 8 rfl
  · intro a w' hF hB hd; have v7 : a.tmps[108]?.getD undef = _ := hd 7 (of_decide_eq_true (by kernel_rfl)) 0 _ _ rfl rfl; clear hd hF; refine wpOp_step rfl (fun K' hK => ?_); go_simp; exact hK _ _ ⟨_, rfl, Below.refl _ _, cst_ok⟩
  apply RegW.num 9 rfl
  · intro a w' hF hB hd; have v8 : a.tmps[109]?.getD undef = _ := hd 8 (of_decide_eq_true (by kernel_rfl)) 0 _ _ rfl rfl; have gd := tmp_bool v8; have e10 := hF.2.2 10 (by decide); simp at e10; clear hd hF; obtain ⟨sv, hk, hi⟩ := (HT.out.2.2.2.1).keep hB; have c0 := hk.cell 0; simp at c0; refine wpOp_step rfl (fun K' hK => ?_); go_simp; exact hK _ _ ⟨_, rfl, Below.refl _ _, ⟨_, rfl, hi⟩⟩
  apply RegW.num 10 rfl
  · intro a w' hF hB hd; have v8 : a.tmps[109]?.getD undef = _ := hd 8 (of_decide_eq_true (by kernel_rfl)) 1 _ _ rfl rfl; have gd := tmp_bool v8; have e7 := hF.2.2 7 (by decide); simp at e7; clear hd hF; obtain ⟨sv, hk, hi⟩ := (HT.out.1).keep hB; have c0 := hk.cell 0; simp at c0; refine wpOp_step rfl (fun K' hK => ?_); go_simp; exact hK _ _ ⟨_, rfl, Below.refl _ _, ⟨_, rfl, hi⟩⟩
  apply RegW.val 11 rfl
  · intro a w' hF hB hd; have v8 : a.tmps[109]?.getD undef = _ := hd 8 (of_decide_eq_true (by kernel_rfl)) 2 _ _ rfl rfl; have u9 := hd 9 (of_decide_eq_true (by kernel_rfl)) 1 _ _ rfl rfl; obtain ⟨x9, p9, q9⟩ := u9; have u10 := hd 10 (of_decide_eq_true (by kernel_rfl)) 0 _ _ rfl rfl; obtain ⟨x10, p10, q10⟩ := u10; have gd := tmp_bool v8; clear hd hF; refine wpOp_step rfl (fun K' hK => ?_); go_simp; refine (cmp_w q9 q10 (fits_le (fits_add hX hY) (by decide)) (fits_le hX (by decide)) (hq)).mono ?_; rintro e w1 ⟨rfl, hb⟩; exact hK _ _ ⟨_, rfl, hb, cst_ok⟩
  apply RegW.val 12 rfl
  · intro a w' hF hB hd; have v8 : a.tmps[109]?.getD undef = _ := hd 8 (of_decide_eq_true (by kernel_rfl)) 3 _ _ rfl rfl; have v11 : a.tmps[112]?.getD undef = _ := hd 11 (of_decide_eq_true (by kernel_rfl)) 0 _ _ rfl rfl; have gd := tmp_bool v8; clear hd hF; refine wpOp_step rfl (fun K' hK => ?_); go_simp; exact hK _ _ ⟨_, rfl, Below.refl _ _, cst_ok⟩
  apply RegW.val 13 rfl
  · intro a w' hF hB hd; have v8 : a.tmps[109]?.getD undef = _ := hd 8 (of_decide_eq_true (by kernel_rfl)) 4 _ _ rfl rfl; have v12 : a.tmps[113]?.getD undef = _ := hd 12 (of_decide_eq_true (by kernel_rfl)) 0 _ _ rfl rfl; clear hd hF; refine wpOp_step rfl (fun K' hK => ?_); go_simp; exact hK _ _ ⟨_, rfl, Below.refl _ _, cst_ok⟩
  apply RegW.val 14 rfl
  · intro a w' hF hB hd; have v13 : a.tmps[114]?.getD undef = _ := hd 13 (of_decide_eq_true (by kernel_rfl)) 0 _ _ rfl rfl; clear hd hF; refine wpOp_step rfl (fun K' hK => ?_); go_simp; exact hK _ _ ⟨_, rfl, Below.refl _ _, cst_ok⟩
  apply RegW.num 15 rfl
  · intro a w' hF hB hd; have v14 : a.tmps[115]?.getD undef = _ := hd 14 (of_decide_eq_true (by kernel_rfl)) 0 _ _ rfl rfl; have gd := tmp_bool v14; have e7 := hF.2.2 7 (by decide); simp at e7; clear hd hF; obtain ⟨sv, hk, hi⟩ := (HT.out.1).keep hB; have c0 := hk.cell 0; simp at c0; refine wpOp_step rfl (fun K' hK => ?_); go_simp; exact hK _ _ ⟨_, rfl, Below.refl _ _, ⟨_, rfl, hi⟩⟩
  apply RegW.num 16 rfl
  · intro a w' hF hB hd; have v14 : a.tmps[115]?.getD undef = _ := hd 14 (of_decide_eq_true (by kernel_rfl)) 1 _ _ rfl rfl; have gd := tmp_bool v14; clear hd hF; refine wpOp_step rfl (fun K' hK => ?_); go_simp; refine (of_w 1 _ (by decide)).mono ?_; rintro e w1 ⟨x, rfl, hx, hb⟩; exact hK _ _ ⟨_, rfl, hb, ⟨_, rfl, hx⟩⟩
  apply RegW.num 17 rfl
  · intro a w' hF hB hd; have v14 : a.tmps[115]?.getD undef = _ := hd 14 (of_decide_eq_true (by kernel_rfl)) 2 _ _ rfl rfl; have u15 := hd 15 (of_decide_eq_true (by kernel_rfl)) 1 _ _ rfl rfl; obtain ⟨x15, p15, q15⟩ := u15; have u16 := hd 16 (of_decide_eq_true (by kernel_rfl)) 0 _ _ rfl rfl; obtain ⟨x16, p16, q16⟩ := u16; have gd := tmp_bool v14; clear hd hF; refine wpOp_step rfl (fun K' hK => ?_); go_simp; refine (mul_w q15 q16 (fits_le hX (by decide)) (fits_le fits1 (by decide))).mono ?_; rintro e w1 ⟨x, rfl, hx, hb⟩; exact hK _ _ ⟨_, rfl, hb, ⟨_, rfl, hx⟩⟩
  apply RegW.num 18 rfl
  · intro a w' hF hB hd; have v14 : a.tmps[115]?.getD undef = _ := hd 14 (of_decide_eq_true (by kernel_rfl)) 3 _ _ rfl rfl; have gd := tmp_bool v14; have e7 := hF.2.2 7 (by decide); simp at e7; clear hd hF; obtain ⟨sv, hk, hi⟩ := (HT.out.1).keep hB; have c0 := hk.cell 0; simp at c0; refine wpOp_step rfl (fun K' hK => ?_); go_simp; exact hK _ _ ⟨_, rfl, Below.refl _ _, ⟨_, rfl, hi⟩⟩
  apply RegW.val 19 rfl
  · intro a w' hF hB hd; have v14 : a.tmps[115]?.getD undef = _ := hd 14 (of_decide_eq_true (by kernel_rfl)) 4 _ _ rfl rfl; have u17 := hd 17 (of_decide_eq_true (by kernel_rfl)) 1 _ _ rfl rfl; obtain ⟨x17, p17, q17⟩ := u17; have u18 := hd 18 (of_decide_eq_true (by kernel_rfl)) 0 _ _ rfl rfl; obtain ⟨x18, p18, q18⟩ := u18; have gd := tmp_bool v14; clear hd hF; refine wpOp_step rfl (fun K' hK => ?_); go_simp; refine (cmp_w q17 q18 (fits_le (fits_mul hX fits1) (by decide)) (fits_le hX (by decide)) (cmp0 (Nat.mul_one X))).mono ?_; rintro e w1 ⟨rfl, hb⟩; exact hK _ _ ⟨_, rfl, hb, cst_ok⟩
  apply RegW.val 20 rfl
  · intro a w' hF hB hd; have v14 : a.tmps[115]?.getD undef = _ := hd 14 (of_decide_eq_true (by kernel_rfl)) 5 _ _ rfl rfl; have v19 : a.tmps[120]?.getD undef = _ := hd 19 (of_decide_eq_true (by kernel_rfl)) 0 _ _ rfl rfl; have gd := tmp_bool v14; clear hd hF; refine wpOp_step rfl (fun K' hK => ?_); go_simp; exact hK _ _ ⟨_, rfl, Below.refl _ _, cst_ok⟩
  apply RegW.val 21 rfl
  · intro a w' hF hB hd; have v14 : a.tmps[115]?.getD undef = _ := hd 14 (of_decide_eq_true (by kernel_rfl)) 6 _ _ rfl rfl; have v20 : a.tmps[121]?.getD undef = _ := hd 20 (of_decide_eq_true (by kernel_rfl)) 0 _ _ rfl rfl; clear hd hF; refine wpOp_step rfl (fun K' hK => ?_); go_simp; exact hK _ _ ⟨_, rfl, Below.refl _ _, cst_ok⟩
  apply RegW.val 22 rfl
  · intro a w' hF hB hd; have v21 : a.tmps[122]?.getD undef = _ := hd 21 (of_decide_eq_true (by kernel_rfl)) 0 _ _ rfl rfl; clear hd hF; refine wpOp_step rfl (fun K' hK => ?_); go_simp; exact hK _ _ ⟨_, rfl, Below.refl _ _, cst_ok⟩
  apply RegW.num 23 rfl
  · intro a w' hF hB hd; have v22 : a.tmps[123]?.getD undef = _ := hd 22 (of_decide_eq_true (by kernel_rfl)) 0 _ _ rfl rfl; have gd := tmp_bool v22; have e7 := hF.2.2 7 (by decide); simp at e7; clear hd hF; obtain ⟨sv, hk, hi⟩ := (HT.out.1).keep hB; have c0 := hk.cell 0; simp at c0; refine wpOp_step rfl (fun K' hK => ?_); go_simp; exact hK _ _ ⟨_, rfl, Below.refl _ _, ⟨_, rfl, hi⟩⟩
  apply RegW.num 24 rfl
  · intro a w' hF hB hd; have v22 : a.tmps[123]?.getD undef = _ := hd 22 (of_decide_eq_true (by kernel_rfl)) 1 _ _ rfl rfl; have gd := tmp_bool v22; clear hd hF; refine wpOp_step rfl (fun K' hK => ?_); go_simp; exact hK _ _ ⟨_, rfl, Below.refl _ _, ⟨_, rfl, isNat_zero _ _⟩⟩
  apply RegW.num 25 rfl
  · intro a w' hF hB hd; have v22 : a.tmps[123]?.getD undef = _ := hd 22 (of_decide_eq_true (by kernel_rfl)) 2 _ _ rfl rfl; have u23 := hd 23 (of_decide_eq_true (by kernel_rfl)) 1 _ _ rfl rfl; obtain ⟨x23, p23, q23⟩ := u23; have u24 := hd 24 (of_decide_eq_true (by kernel_rfl)) 0 _ _ rfl rfl; obtain ⟨x24, p24, q24⟩ := u24; have gd := tmp_bool v22; clear hd hF; refine wpOp_step rfl (fun K' hK => ?_); go_simp; refine (mul_w q23 q24 (fits_le hX (by decide)) (fits_le fits0 (by decide))).mono ?_; rintro e w1 ⟨x, rfl, hx, hb⟩; exact hK _ _ ⟨_, rfl, hb, ⟨_, rfl, hx⟩⟩
  apply RegW.val 26 rfl
  · intro a w' hF hB hd; have v22 : a.tmps[123]?.getD undef = _ := hd 22 (of_decide_eq_true (by kernel_rfl)) 3 _ _ rfl rfl; have u25 := hd 25 (of_decide_eq_true (by kernel_rfl)) 0 _ _ rfl rfl; obtain ⟨x25, p25, q25⟩ := u25; have gd := tmp_bool v22; clear hd hF; refine wpOp_step rfl (fun K' hK => ?_); go_simp; refine (len_w q25 ((by rw [Nat.mul_zero]; exact Lim.nil _))).mono ?_; rintro e w1 ⟨rfl, hb⟩; exact hK _ _ ⟨_, rfl, hb, cst_ok⟩
  apply RegW.val 27 rfl
  · intro a w' hF hB hd; have v22 : a.tmps[123]?.getD undef = _ := hd 22 (of_decide_eq_true (by kernel_rfl)) 4 _ _ rfl rfl; have v26 : a.tmps[127]?.getD undef = _ := hd 26 (of_decide_eq_true (by kernel_rfl)) 0 _ _ rfl rfl; have gd := tmp_bool v22; clear hd hF; refine wpOp_step rfl (fun K' hK => ?_); go_simp; exact hK _ _ ⟨_, rfl, Below.refl _ _, cst_ok⟩
  apply RegW.val 28 rfl
  · intro a w' hF hB hd; have v22 : a.tmps[123]?.getD undef = _ := hd 22 (of_decide_eq_true (by kernel_rfl)) 5 _ _ rfl rfl; have v27 : a.tmps[128]?.getD undef = _ := hd 27 (of_decide_eq_true (by kernel_rfl)) 0 _ _ rfl rfl; clear hd hF; refine wpOp_step rfl (fun K' hK => ?_); go_simp; exact hK _ _ ⟨_, rfl, Below.refl _ _, cst_ok⟩
  refine RegW.done (fun a w' hF hB hv => ?_)
  have v0 : a.tmps[101]?.getD undef = _ := hv 28 _ _ rfl
  have v1 : a.tmps[102]?.getD undef = _ := hv 27 _ _ rfl
  have v2 : a.tmps[103]?.getD undef = _ := hv 26 _ _ rfl
  have u3 := hv 25 _ _ rfl
  obtain ⟨x3, p3, q3⟩ := u3
  have u4 := hv 24 _ _ rfl
  obtain ⟨x4, p4, q4⟩ := u4
  have v5 : a.tmps[106]?.getD undef = _ := hv 23 _ _ rfl
  have v6 : a.tmps[107]?.getD undef = _ := hv 22 _ _ rfl
  have v7 : a.tmps[108]?.getD undef = _ := hv 21 _ _ rfl
  have v8 : a.tmps[109]?.getD undef = _ := hv 20 _ _ rfl
  have u9 := hv 19 _ _ rfl
  obtain ⟨x9, p9, q9⟩ := u9
  have u10 := hv 18 _ _ rfl
  obtain ⟨x10, p10, q10⟩ := u10
  have v11 : a.tmps[112]?.getD undef = _ := hv 17 _ _ rfl
  have v12 : a.tmps[113]?.getD undef = _ := hv 16 _ _ rfl
  have v13 : a.tmps[114]?.getD undef = _ := hv 15 _ _ rfl
  have v14 : a.tmps[115]?.getD undef = _ := hv 14 _ _ rfl
  have u15 := hv 13 _ _ rfl
  obtain ⟨x15, p15, q15⟩ := u15
  have u16 := hv 12 _ _ rfl
  obtain ⟨x16, p16, q16⟩ := u16
  have u17 := hv 11 _ _ rfl
  obtain ⟨x17, p17, q17⟩ := u17
  have u18 := hv 10 _ _ rfl
  obtain ⟨x18, p18, q18⟩ := u18
  have v19 : a.tmps[120]?.getD undef = _ := hv 9 _ _ rfl
  have v20 : a.tmps[121]?.getD undef = _ := hv 8 _ _ rfl
  have v21 : a.tmps[122]?.getD undef = _ := hv 7 _ _ rfl
  have v22 : a.tmps[123]?.getD undef = _ := hv 6 _ _ rfl
  have u23 := hv 5 _ _ rfl
  obtain ⟨x23, p23, q23⟩ := u23
  have u24 := hv 4 _ _ rfl
  obtain ⟨x24, p24, q24⟩ := u24
  have u25 := hv 3 _ _ rfl
  obtain ⟨x25, p25, q25⟩ := u25
  have v26 : a.tmps[127]?.getD undef = _ := hv 2 _ _ rfl
  have v27 : a.tmps[128]?.getD undef = _ := hv 1 _ _ rfl
  have v28 : a.tmps[129]?.getD undef = _ := hv 0 _ _ rfl
  have hE := hF.out
  rw [hE]
  clear hE hF hv
  simp only [List.foldl_cons, List.foldl_nil, Act.put, List.setIfInBounds_toArray, List.set_cons_zero, List.set_cons_succ, Array.getD_eq_getD_getElem?, v0, v1, v2, p3, p4, v5, v6, v7, v8, p9, p10, v11, v12, v13, v14, p15, p16, p17, p18, v19, v20, v21, v22, p23, p24, p25, v26, v27, v28]
  clear v0 v1 v2 p3 p4 v5 v6 v7 v8 p9 p10 v11 v12 v13 v14 p15 p16 p17 p18 v19 v20 v21 v22 p23 p24 p25 v26 v27 v28
  have hT2 := And.intro (HT.out.1.keep hB) (And.intro (HT.out.2.1.keep hB) (And.intro (HT.out.2.2.1.keep hB) (And.intro (HT.out.2.2.2.1.keep hB) (And.intro (HT.out.2.2.2.2.1.keep hB) (HT.out.2.2.2.2.2.trans (hB.mono HT.out.2.2.2.2.2.size))))))
  clear hB HT
  have HT := Lib.hid hT2
  clear hT2
  generalize w' = wz at *
  clear hq hq0
  rcases Nat.lt_trichotomy X Y with hxy | hxy | hxy
  · have hc : cmpI X Y = -1 := by unfold cmpI; rw [if_pos hxy]
    have hs : (if X < Y then (11 : Int) else 0) = 11 := if_pos hxy
    have hcz : cmpI (X + Z) (Y + Z) = -1 := by unfold cmpI; rw [if_pos (by omega)]
    obtain ⟨sx, kx, ix⟩ := HT.out.1
    obtain ⟨sy, ky, iy⟩ := HT.out.2.1
    have cx := kx.cell 0
    have cy := ky.cell 0
    simp at cx cy
    have HI := Lib.hid (And.intro kx (And.intro ky (And.intro ix iy)))
    clear kx ky ix iy
    have HS := Lib.hid hs
    have HC := Lib.hid (And.intro hc (And.intro hcz hxy))
    clear hs hc hcz hxy
    go_upto_region 12 with (first
      | (go_at_call 12; refine (sub_w HI.out.2.2.1 HI.out.2.2.2 (fits_le hX (by decide)) (fits_le hY (by decide))).mono ?_; rintro e w7 ⟨A7, n7, d7, rfl, hv, hb⟩; rw [HS.out]; have hz7 := hb.size; have hka := HI.out.1.keep hb; have hkb := HI.out.2.1.keep hb; have cx7 := hka.cell 0; have cy7 := hkb.cell 0; have zx := hka.lt; have zy := hkb.lt; simp at cx7 cy7; have HV := Lib.hid (And.intro hv hb); clear hv hb hka hkb)
      | (go_at_call 10; refine (cmp_w ((HI.out.2.2.1.keep HV.out.2).alloc _) ((HI.out.2.2.2.keep HV.out.2).alloc _) (fits_le hX (by decide)) (fits_le hY (by decide)) HC.out.1).mono ?_; rintro e w8 ⟨rfl, hb8⟩; have HV8 := Lib.hid hb8; clear hb8))
    have hbz : Below wz.heap.size wz w8 := (HV.out.2.alloc hz7 _).trans (HV8.out.mono (by simp; omega))
    have hbx : BoxN w8 w7.heap.size (X - Y) := BoxN.keep (⟨_, Bk.new _ _ _, HV.out.1.alloc _⟩ : BoxN (w7.alloc (.cells #[.slice A7 n7 d7] 25)) w7.heap.size (X - Y)) HV8.out
    have hT := And.intro (HT.out.1.keep hbz) (And.intro (HT.out.2.1.keep hbz) (And.intro (HT.out.2.2.1.keep hbz) (And.intro hbx (HT.out.2.2.2.2.2.trans (hbz.mono HT.out.2.2.2.2.2.size)))))
    clear hbz hbx HI HV HV8 HT zx zy hz7 cx cy cx7 cy7
    have HT := Lib.hid hT
    clear hT
    generalize w7.heap.size = g13 at *
    clear w7
    generalize w8 = wz at *
    obtain ⟨hc, hcz, hxy⟩ := HC.out
    clear hxy
    clear hc
    refine wp_region_walk [0, 1, 2, 3, 4, 5, 6, 7, 8, 9, 10, 11, 12, 13, 14, 15, 16, 17, 18, 19, 20, 21, 22, 23, 24, 25, 26, 27, 28, 29, 30, 31] [139, 140, 141, 142, 143, 144, 145, 146, 147, 148, 149, 150, 151, 152, 153, 154, 155, 156, 157, 158, 159, 160, 161, 162, 163, 164, 165, 166, 167, 168, 169, 6] 0 (by kernel_rfl) (by kernel_rfl) (by kernel_rfl) rfl (by simp) (by kernel_rfl) (by kernel_rfl) ?_
    apply RegW.val 0 rfl
    · intro a w' hF hB hd; have e14 := hF.2.2 14 (by decide); simp at e14; clear hd hF; refine wpOp_step rfl (fun K' hK => ?_); go_simp; exact hK _ _ ⟨_, rfl, Below.refl _ _, cst_ok⟩
    apply RegW.val 1 rfl
    · intro a w' hF hB hd; have v0 : a.tmps[139]?.getD undef = _ := hd 0 (of_decide_eq_true (by kernel_rfl)) 0 _ _ rfl rfl; clear hd hF; refine wpOp_step rfl (fun K' hK => ?_); go_simp; exact hK _ _ ⟨_, rfl, Below.refl _ _, cst_ok⟩
    apply RegW.val 2 rfl
    · intro a w' hF hB hd; have e15 := hF.2.2 15 (by decide); simp at e15; clear hd hF; refine wpOp_step rfl (fun K' hK => ?_); go_simp; exact hK _ _ ⟨_, rfl, Below.refl _ _, cst_ok⟩
    apply RegW.val 3 rfl
    · intro a w' hF hB hd; have v2 : a.tmps[141]?.getD undef = _ := hd 2 (of_decide_eq_true (by kernel_rfl)) 0 _ _ rfl rfl; clear hd hF; refine wpOp_step rfl (fun K' hK => ?_); go_simp; exact hK _ _ ⟨_, rfl, Below.refl _ _, cst_ok⟩
    apply RegW.val 4 rfl
    · intro a w' hF hB hd; have v1 : a.tmps[140]?.getD undef = _ := hd 1 (of_decide_eq_true (by kernel_rfl)) 2 _ _ rfl rfl; have v3 : a.tmps[142]?.getD undef = _ := hd 3 (of_decide_eq_true (by kernel_rfl)) 0 _ _ rfl rfl; clear hd hF; refine wpOp_step rfl (fun K' hK => ?_); go_simp; exact hK _ _ ⟨_, rfl, Below.refl _ _, cst_ok⟩
    apply RegW.val 5 rfl
    · intro a w' hF hB hd; have v4 : a.tmps[143]?.getD undef = _ := hd 4 (of_decide_eq_true (by kernel_rfl)) 0 _ _ rfl rfl; clear hd hF; refine wpOp_step rfl (fun K' hK => ?_); go_simp; exact hK _ _ ⟨_, rfl, Below.refl _ _, cst_ok⟩
    apply RegW.val 6 rfl
    · intro a w' hF hB hd; have v5 : a.tmps[144]?.getD undef = _ := hd 5 (of_decide_eq_true (by kernel_rfl)) 0 _ _ rfl rfl; have gd := tmp_bool v5; have e15 := hF.2.2 15 (by decide); simp at e15; clear hd hF; refine wpOp_step rfl (fun K' hK => ?_); go_simp; exact hK _ _ ⟨_, rfl, Below.refl _ _, cst_ok⟩
    apply RegW.val 7 rfl
    · intro a w' hF hB hd; have v5 : a.tmps[144]?.getD undef = _ := hd 5 (of_decide_eq_true (by kernel_rfl)) 1 _ _ rfl rfl; have v6 : a.tmps[145]?.getD undef = _ := hd 6 (of_decide_eq_true (by kernel_rfl)) 0 _ _ rfl rfl; have gd := tmp_bool v5; clear hd hF; refine wpOp_step rfl (fun K' hK => ?_); go_simp; exact hK _ _ ⟨_, rfl, Below.refl _ _, cst_ok⟩
    apply RegW.val 8 rfl
    · intro a w' hF hB hd; have v5 : a.tmps[144]?.getD undef = _ := hd 5 (of_decide_eq_true (by kernel_rfl)) 2 _ _ rfl rfl; have gd := tmp_bool v5; have e14 := hF.2.2 14 (by decide); simp at e14; clear hd hF; refine wpOp_step rfl (fun K' hK => ?_); go_simp; exact hK _ _ ⟨_, rfl, Below.refl _ _, cst_ok⟩
    apply RegW.val 9 rfl
    · intro a w' hF hB hd; have v5 : a.tmps[144]?.getD undef = _ := hd 5 (of_decide_eq_true (by kernel_rfl)) 3 _ _ rfl rfl; have v8 : a.tmps[147]?.getD undef = _ := hd 8 (of_decide_eq_true (by kernel_rfl)) 0 _ _ rfl rfl; have gd := tmp_bool v5; clear hd hF; refine wpOp_step rfl (fun K' hK => ?_); go_simp; exact hK _ _ ⟨_, rfl, Below.refl _ _, cst_ok⟩
    apply RegW.val 10 rfl
    · intro a w' hF hB hd; have v5 : a.tmps[144]?.getD undef = _ := hd 5 (of_decide_eq_true (by kernel_rfl)) 4 _ _ rfl rfl; have v9 : a.tmps[148]?.getD undef = _ := hd 9 (of_decide_eq_true (by kernel_rfl)) 0 _ _ rfl rfl; have gd := tmp_bool v5; clear hd hF; refine wpOp_step rfl (fun K' hK => ?_); go_simp; exact hK _ _ ⟨_, rfl, Below.refl _ _, cst_ok⟩
    apply RegW.val 11 rfl
    · intro a w' hF hB hd; have v10 : a.tmps[149]?.getD undef = _ := hd 10 (of_decide_eq_true (by kernel_rfl)) 0 _ _ rfl rfl; have gd := tmp_bool v10; have e13 := hF.2.2 13 (by decide); simp at e13; clear hd hF; refine wpOp_step rfl (fun K' hK => ?_); go_simp; exact hK _ _ ⟨_, rfl, Below.refl _ _, cst_ok⟩
    apply RegW.val 12 rfl
    · intro a w' hF hB hd; have v10 : a.tmps[149]?.getD undef = _ := hd 10 (of_decide_eq_true (by kernel_rfl)) 1 _ _ rfl rfl; have v11 : a.tmps[150]?.getD undef = _ := hd 11 (of_decide_eq_true (by kernel_rfl)) 0 _ _ rfl rfl; have gd := tmp_bool v10; clear hd hF; refine wpOp_step rfl (fun K' hK => ?_); go_simp; exact hK _ _ ⟨_, rfl, Below.refl _ _, cst_ok⟩
    apply RegW.val 13 rfl
    · intro a w' hF hB hd; have v10 : a.tmps[149]?.getD undef = _ := hd 10 (of_decide_eq_true (by kernel_rfl)) 2 _ _ rfl rfl; have v12 : a.tmps[151]?.getD undef = _ := hd 12 (of_decide_eq_true (by kernel_rfl)) 0 _ _ rfl rfl; have gd := tmp_bool v10; clear hd hF; refine wpOp_step rfl (fun K' hK => ?_); go_simp; exact hK _ _ ⟨_, rfl, Below.refl _ _, cst_ok⟩
    apply RegW.val 14 rfl
    · intro a w' hF hB hd; have v5 : a.tmps[144]?.getD undef = _ := hd 5 (of_decide_eq_true (by kernel_rfl)) 8 _ _ rfl rfl; have v10 : a.tmps[149]?.getD undef = _ := hd 10 (of_decide_eq_true (by kernel_rfl)) 3 _ _ rfl rfl; have v13 : a.tmps[152]?.getD undef = _ := hd 13 (of_decide_eq_true (by kernel_rfl)) 0 _ _ rfl rfl; have gd := tmp_bool v5; clear hd hF; refine wpOp_step rfl (fun K' hK => ?_); go_simp; exact hK _ _ ⟨_, rfl, Below.refl _ _, cst_ok⟩
    apply RegW.val 15 rfl
    · intro a w' hF hB hd; have v5 : a.tmps[144]?.getD undef = _ := hd 5 (of_decide_eq_true (by kernel_rfl)) 9 _ _ rfl rfl; have v7 : a.tmps[146]?.getD undef = _ := hd 7 (of_decide_eq_true (by kernel_rfl)) 7 _ _ rfl rfl; have v14 : a.tmps[153]?.getD undef = _ := hd 14 (of_decide_eq_true (by kernel_rfl)) 0 _ _ rfl rfl; have gd := tmp_bool v5; clear hd hF; refine wpOp_step rfl (fun K' hK => ?_); go_simp; exact hK _ _ ⟨_, rfl, Below.refl _ _, cst_ok⟩
    apply RegW.val 16 rfl
    · intro a w' hF hB hd; have v5 : a.tmps[144]?.getD undef = _ := hd 5 (of_decide_eq_true (by kernel_rfl)) 10 _ _ rfl rfl; have v15 : a.tmps[154]?.getD undef = _ := hd 15 (of_decide_eq_true (by kernel_rfl)) 0 _ _ rfl rfl; clear hd hF; refine wpOp_step rfl (fun K' hK => ?_); go_simp; exact hK _ _ ⟨_, rfl, Below.refl _ _, cst_ok⟩
    apply RegW.val 17 rfl
    · intro a w' hF hB hd; have v16 : a.tmps[155]?.getD undef = _ := hd 16 (of_decide_eq_true (by kernel_rfl)) 0 _ _ rfl rfl; clear hd hF; refine wpOp_step rfl (fun K' hK => ?_); go_simp; exact hK _ _ ⟨_, rfl, Below.refl _ _, cst_ok⟩
    apply RegW.num 18 rfl
    · intro a w' hF hB hd; have v17 : a.tmps[156]?.getD undef = _ := hd 17 (of_decide_eq_true (by kernel_rfl)) 0 _ _ rfl rfl; have gd := tmp_bool v17; have e7 := hF.2.2 7 (by decide); simp at e7; clear hd hF; obtain ⟨sv, hk, hi⟩ := (HT.out.1).keep hB; have c0 := hk.cell 0; simp at c0; refine wpOp_step rfl (fun K' hK => ?_); go_simp; exact hK _ _ ⟨_, rfl, Below.refl _ _, ⟨_, rfl, hi⟩⟩
    apply RegW.num 19 rfl
    · intro a w' hF hB hd; have v17 : a.tmps[156]?.getD undef = _ := hd 17 (of_decide_eq_true (by kernel_rfl)) 1 _ _ rfl rfl; have gd := tmp_bool v17; have e9 := hF.2.2 9 (by decide); simp at e9; clear hd hF; obtain ⟨sv, hk, hi⟩ := (HT.out.2.2.1).keep hB; have c0 := hk.cell 0; simp at c0; refine wpOp_step rfl (fun K' hK => ?_); go_simp; exact hK _ _ ⟨_, rfl, Below.refl _ _, ⟨_, rfl, hi⟩⟩
    apply RegW.num 20 rfl
    · intro a w' hF hB hd; have v17 : a.tmps[156]?.getD undef = _ := hd 17 (of_decide_eq_true (by kernel_rfl)) 2 _ _ rfl rfl; have u18 := hd 18 (of_decide_eq_true (by kernel_rfl)) 1 _ _ rfl rfl; obtain ⟨x18, p18, q18⟩ := u18; have u19 := hd 19 (of_decide_eq_true (by kernel_rfl)) 0 _ _ rfl rfl; obtain ⟨x19, p19, q19⟩ := u19; have gd := tmp_bool v17; clear hd hF; refine wpOp_step rfl (fun K' hK => ?_); go_simp; refine (add_w q18 q19 (fits_le hX (by decide)) (fits_le hZ (by decide))).mono ?_; rintro e w1 ⟨x, rfl, hx, hb⟩; exact hK _ _ ⟨_, rfl, hb, ⟨_, rfl, hx⟩⟩
    apply RegW.num 21 rfl
    · intro a w' hF hB hd; have v17 : a.tmps[156]?.getD undef = _ := hd 17 (of_decide_eq_true (by kernel_rfl)) 3 _ _ rfl rfl; have gd := tmp_bool v17; have e8 := hF.2.2 8 (by decide); simp at e8; clear hd hF; obtain ⟨sv, hk, hi⟩ := (HT.out.2.1).keep hB; have c0 := hk.cell 0; simp at c0; refine wpOp_step rfl (fun K' hK => ?_); go_simp; exact hK _ _ ⟨_, rfl, Below.refl _ _, ⟨_, rfl, hi⟩⟩
    apply RegW.num 22 rfl
    · intro a w' hF hB hd; have v17 : a.tmps[156]?.getD undef = _ := hd 17 (of_decide_eq_true (by kernel_rfl)) 4 _ _ rfl rfl; have gd := tmp_bool v17; have e9 := hF.2.2 9 (by decide); simp at e9; clear hd hF; obtain ⟨sv, hk, hi⟩ := (HT.out.2.2.1).keep hB; have c0 := hk.cell 0; simp at c0; refine wpOp_step rfl (fun K' hK => ?_); go_simp; exact hK _ _ ⟨_, rfl, Below.refl _ _, ⟨_, rfl, hi⟩⟩
    apply RegW.num 23 rfl
    · intro a w' hF hB hd; have v17 : a.tmps[156]?.getD undef = _ := hd 17 (of_decide_eq_true (by kernel_rfl)) 5 _ _ rfl rfl; have u21 := hd 21 (of_decide_eq_true (by kernel_rfl)) 1 _ _ rfl rfl; obtain ⟨x21, p21, q21⟩ := u21; have u22 := hd 22 (of_decide_eq_true (by kernel_rfl)) 0 _ _ rfl rfl; obtain ⟨x22, p22, q22⟩ := u22; have gd := tmp_bool v17; clear hd hF; refine wpOp_step rfl (fun K' hK => ?_); go_simp; refine (add_w q21 q22 (fits_le hY (by decide)) (fits_le hZ (by decide))).mono ?_; rintro e w1 ⟨x, rfl, hx, hb⟩; exact hK _ _ ⟨_, rfl, hb, ⟨_, rfl, hx⟩⟩
    apply RegW.val 24 rfl
    · intro a w' hF hB hd; have v17 : a.tmps[156]?.getD undef = _ := hd 17 (of_decide_eq_true (by kernel_rfl)) 6 _ _ rfl rfl; have u20 := hd 20 (of_decide_eq_true (by kernel_rfl)) 3 _ _ rfl rfl; obtain ⟨x20, p20, q20⟩ := u20; have u23 := hd 23 (of_decide_eq_true (by kernel_rfl)) 0 _ _ rfl rfl; obtain ⟨x23, p23, q23⟩ := u23; have gd := tmp_bool v17; clear hd hF; refine wpOp_step rfl (fun K' hK => ?_); go_simp; refine (cmp_w q20 q23 (fits_le (fits_add hX hZ) (by decide)) (fits_le (fits_add hY hZ) (by decide)) (hcz)).mono ?_; rintro e w1 ⟨rfl, hb⟩; exact hK _ _ ⟨_, rfl, hb, cst_ok⟩
    apply RegW.val 25 rfl
    · intro a w' hF hB hd; have v17 : a.tmps[156]?.getD undef = _ := hd 17 (of_decide_eq_true (by kernel_rfl)) 7 _ _ rfl rfl; have gd := tmp_bool v17; have e15 := hF.2.2 15 (by decide); simp at e15; clear hd hF; refine wpOp_step rfl (fun K' hK => ?_); go_simp; exact hK _ _ ⟨_, rfl, Below.refl _ _, cst_ok⟩
    apply RegW.val 26 rfl
    · intro a w' hF hB hd; have v17 : a.tmps[156]?.getD undef = _ := hd 17 (of_decide_eq_true (by kernel_rfl)) 8 _ _ rfl rfl; have v24 : a.tmps[163]?.getD undef = _ := hd 24 (of_decide_eq_true (by kernel_rfl)) 1 _ _ rfl rfl; have v25 : a.tmps[164]?.getD undef = _ := hd 25 (of_decide_eq_true (by kernel_rfl)) 0 _ _ rfl rfl; have gd := tmp_bool v17; clear hd hF; refine wpOp_step rfl (fun K' hK => ?_); go_simp; exact hK _ _ ⟨_, rfl, Below.refl _ _, cst_ok⟩
    apply RegW.val 27 rfl
    · intro a w' hF hB hd; have v17 : a.tmps[156]?.getD undef = _ := hd 17 (of_decide_eq_true (by kernel_rfl)) 9 _ _ rfl rfl; have v26 : a.tmps[165]?.getD undef = _ := hd 26 (of_decide_eq_true (by kernel_rfl)) 0 _ _ rfl rfl; clear hd hF; refine wpOp_step rfl (fun K' hK => ?_); go_simp; exact hK _ _ ⟨_, rfl, Below.refl _ _, cst_ok⟩
    apply RegW.val 28 rfl
    · intro a w' hF hB hd; have v27 : a.tmps[166]?.getD undef = _ := hd 27 (of_decide_eq_true (by kernel_rfl)) 0 _ _ rfl rfl; clear hd hF; refine wpOp_step rfl (fun K' hK => ?_); go_simp; exact hK _ _ ⟨_, rfl, Below.refl _ _, cst_ok⟩
    apply RegW.val 29 rfl
    · intro a w' hF hB hd; have v28 : a.tmps[167]?.getD undef = _ := hd 28 (of_decide_eq_true (by kernel_rfl)) 0 _ _ rfl rfl; have gd := tmp_bool v28; clear hd hF; refine wpOp_step rfl (fun K' hK => ?_); go_simp; refine (works_c _).mono ?_; rintro e w1 ⟨rfl, hb⟩; exact hK _ _ ⟨_, rfl, hb, cst_ok⟩
    apply RegW.val 30 rfl
    · intro a w' hF hB hd; have v28 : a.tmps[167]?.getD undef = _ := hd 28 (of_decide_eq_true (by kernel_rfl)) 1 _ _ rfl rfl; have v29 : a.tmps[168]?.getD undef = _ := hd 29 (of_decide_eq_true (by kernel_rfl)) 0 _ _ rfl rfl; clear hd hF; refine wpOp_step rfl (fun K' hK => ?_); go_simp; exact hK _ _ ⟨_, rfl, Below.refl _ _, cst_ok⟩
    apply RegW.val 31 rfl
    · intro a w' hF hB hd; have v30 : a.tmps[169]?.getD undef = _ := hd 30 (of_decide_eq_true (by kernel_rfl)) 0 _ _ rfl rfl; clear hd hF; refine wpOp_step rfl (fun K' hK => ?_); go_simp; exact hK _ _ ⟨_, rfl, Below.refl _ _, cst_ok⟩
    refine RegW.done (fun a w' hF hB hv => ?_)
    have v0 : a.tmps[139]?.getD undef = _ := hv 31 _ _ rfl
    have v1 : a.tmps[140]?.getD undef = _ := hv 30 _ _ rfl
    have v2 : a.tmps[141]?.getD undef = _ := hv 29 _ _ rfl
    have v3 : a.tmps[142]?.getD undef = _ := hv 28 _ _ rfl
    have v4 : a.tmps[143]?.getD undef = _ := hv 27 _ _ rfl
    have v5 : a.tmps[144]?.getD undef = _ := hv 26 _ _ rfl
    have v6 : a.tmps[145]?.getD undef = _ := hv 25 _ _ rfl
    have v7 : a.tmps[146]?.getD undef = _ := hv 24 _ _ rfl
    have v8 : a.tmps[147]?.getD undef = _ := hv 23 _ _ rfl
    have v9 : a.tmps[148]?.getD undef = _ := hv 22 _ _ rfl
    have v10 : a.tmps[149]?.getD undef = _ := hv 21 _ _ rfl
    have v11 : a.tmps[150]?.getD undef = _ := hv 20 _ _ rfl
    have v12 : a.tmps[151]?.getD undef = _ := hv 19 _ _ rfl
    have v13 : a.tmps[152]?.getD undef = _ := hv 18 _ _ rfl
    have v14 : a.tmps[153]?.getD undef = _ := hv 17 _ _ rfl
    have v15 : a.tmps[154]?.getD undef = _ := hv 16 _ _ rfl
    have v16 : a.tmps[155]?.getD undef = _ := hv 15 _ _ rfl
    have v17 : a.tmps[156]?.getD undef = _ := hv 14 _ _ rfl
    have u18 := hv 13 _ _ rfl
    obtain ⟨x18, p18, q18⟩ := u18
    have u19 := hv 12 _ _ rfl
    obtain ⟨x19, p19, q19⟩ := u19
    have u20 := hv 11 _ _ rfl
    obtain ⟨x20, p20, q20⟩ := u20
    have u21 := hv 10 _ _ rfl
    obtain ⟨x21, p21, q21⟩ := u21
    have u22 := hv 9 _ _ rfl
    obtain ⟨x22, p22, q22⟩ := u22
    have u23 := hv 8 _ _ rfl
    obtain ⟨x23, p23, q23⟩ := u23
    have v24 : a.tmps[163]?.getD undef = _ := hv 7 _ _ rfl
    have v25 : a.tmps[164]?.getD undef = _ := hv 6 _ _ rfl
    have v26 : a.tmps[165]?.getD undef = _ := hv 5 _ _ rfl
    have v27 : a.tmps[166]?.getD undef = _ := hv 4 _ _ rfl
    have v28 : a.tmps[167]?.getD undef = _ := hv 3 _ _ rfl
    have v29 : a.tmps[168]?.getD undef = _ := hv 2 _ _ rfl
    have v30 : a.tmps[169]?.getD undef = _ := hv 1 _ _ rfl
    have v31 : a.tmps[6]?.getD undef = _ := hv 0 _ _ rfl
    have hE := hF.out
    rw [hE]
    clear hE hF hv
    simp only [List.foldl_cons, List.foldl_nil, Act.put, List.setIfInBounds_toArray, List.set_cons_zero, List.set_cons_succ, Array.getD_eq_getD_getElem?, v0, v1, v2, v3, v4, v5, v6, v7, v8, v9, v10, v11, v12, v13, v14, v15, v16, v17, p18, p19, p20, p21, p22, p23, v24, v25, v26, v27, v28, v29, v30, v31]
    clear v0 v1 v2 v3 v4 v5 v6 v7 v8 v9 v10 v11 v12 v13 v14 v15 v16 v17 p18 p19 p20 p21 p22 p23 v24 v25 v26 v27 v28 v29 v30 v31
    have hB0 := hB
    go_wp2
    go_ret
    exact ⟨rfl, HT.out.2.2.2.2.trans (hB.mono HT.out.2.2.2.2.size)⟩
  · have hc : cmpI X Y = 0 := cmp0 hxy
    have hs : (if X < Y then (11 : Int) else 0) = 0 := if_neg (by omega)
    have hcz : cmpI (X + Z) (Y + Z) = 0 := cmp0 (by rw [hxy])
    have hxy : X - Y = 0 := by omega
    obtain ⟨sx, kx, ix⟩ := HT.out.1
    obtain ⟨sy, ky, iy⟩ := HT.out.2.1
    have cx := kx.cell 0
    have cy := ky.cell 0
    simp at cx cy
    have HI := Lib.hid (And.intro kx (And.intro ky (And.intro ix iy)))
    clear kx ky ix iy
    have HS := Lib.hid hs
    have HC := Lib.hid (And.intro hc (And.intro hcz hxy))
    clear hs hc hcz hxy
    go_upto_region 12 with (first
      | (go_at_call 12; refine (sub_w HI.out.2.2.1 HI.out.2.2.2 (fits_le hX (by decide)) (fits_le hY (by decide))).mono ?_; rintro e w7 ⟨A7, n7, d7, rfl, hv, hb⟩; rw [HS.out]; have hz7 := hb.size; have hka := HI.out.1.keep hb; have hkb := HI.out.2.1.keep hb; have cx7 := hka.cell 0; have cy7 := hkb.cell 0; have zx := hka.lt; have zy := hkb.lt; simp at cx7 cy7; have HV := Lib.hid (And.intro hv hb); clear hv hb hka hkb)
      | (go_at_call 10; refine (cmp_w ((HI.out.2.2.1.keep HV.out.2).alloc _) ((HI.out.2.2.2.keep HV.out.2).alloc _) (fits_le hX (by decide)) (fits_le hY (by decide)) HC.out.1).mono ?_; rintro e w8 ⟨rfl, hb8⟩; have HV8 := Lib.hid hb8; clear hb8))
    have hbz : Below wz.heap.size wz w8 := (HV.out.2.alloc hz7 _).trans (HV8.out.mono (by simp; omega))
    have hbx : BoxN w8 w7.heap.size (X - Y) := BoxN.keep (⟨_, Bk.new _ _ _, HV.out.1.alloc _⟩ : BoxN (w7.alloc (.cells #[.slice A7 n7 d7] 25)) w7.heap.size (X - Y)) HV8.out
    have hT := And.intro (HT.out.1.keep hbz) (And.intro (HT.out.2.1.keep hbz) (And.intro (HT.out.2.2.1.keep hbz) (And.intro hbx (HT.out.2.2.2.2.2.trans (hbz.mono HT.out.2.2.2.2.2.size)))))
    clear hbz hbx HI HV HV8 HT zx zy hz7 cx cy cx7 cy7
    have HT := Lib.hid hT
    clear hT
    generalize w7.heap.size = g13 at *
    clear w7
    generalize w8 = wz at *
    obtain ⟨hc, hcz, hxy⟩ := HC.out
    clear hc
    refine wp_region_walk [0, 1, 2, 3, 4, 5, 6, 7, 8, 9, 10, 11, 12, 13, 14, 15, 16, 17, 18, 19, 20, 21, 22, 23, 24, 25, 26, 27, 28, 29, 30, 31] [139, 140, 141, 142, 143, 144, 145, 146, 147, 148, 149, 150, 151, 152, 153, 154, 155, 156, 157, 158, 159, 160, 161, 162, 163, 164, 165, 166, 167, 168, 169, 6] 0 (by kernel_rfl) (by kernel_rfl) (by kernel_rfl) rfl (by simp) (by kernel_rfl) (by kernel_rfl) ?_
    apply RegW.val 0 rfl
    · intro a w' hF hB hd; have e14 := hF.2.2 14 (by decide); simp at e14; clear hd hF; refine wpOp_step rfl (fun K' hK => ?_); go_simp; exact hK _ _ ⟨_, rfl, Below.refl _ _, cst_ok⟩
    apply RegW.val 1 rfl
    · intro a w' hF hB hd; have v0 : a.tmps[139]?.getD undef = _ := hd 0 (of_decide_eq_true (by kernel_rfl)) 0 _ _ rfl rfl; clear hd hF; refine wpOp_step rfl (fun K' hK => ?_); go_simp; exact hK _ _ ⟨_, rfl, Below.refl _ _, cst_ok⟩
    apply RegW.val 2 rfl
    · intro a w' hF hB hd; have e15 := hF.2.2 15 (by decide); simp at e15; clear hd hF; refine wpOp_step rfl (fun K' hK => ?_); go_simp; exact hK _ _ ⟨_, rfl, Below.refl _ _, cst_ok⟩
    apply RegW.val 3 rfl
    · intro a w' hF hB hd; have v2 : a.tmps[141]?.getD undef = _ := hd 2 (of_decide_eq_true (by kernel_rfl)) 0 _ _ rfl rfl; clear hd hF; refine wpOp_step rfl (fun K' hK => ?_); go_simp; exact hK _ _ ⟨_, rfl, Below.refl _ _, cst_ok⟩
    apply RegW.val 4 rfl
    · intro a w' hF hB hd; have v1 : a.tmps[140]?.getD undef = _ := hd 1 (of_decide_eq_true (by kernel_rfl)) 2 _ _ rfl rfl; have v3 : a.tmps[142]?.getD undef = _ := hd 3 (of_decide_eq_true (by kernel_rfl)) 0 _ _ rfl rfl; clear hd hF; refine wpOp_step rfl (fun K' hK => ?_); go_simp; exact hK _ _ ⟨_, rfl, Below.refl _ _, cst_ok⟩
    apply RegW.val 5 rfl
    · intro a w' hF hB hd; have v4 : a.tmps[143]?.getD undef = _ := hd 4 (of_decide_eq_true (by kernel_rfl)) 0 _ _ rfl rfl; clear hd hF; refine wpOp_step rfl (fun K' hK => ?_); go_simp; exact hK _ _ ⟨_, rfl, Below.refl _ _, cst_ok⟩
    apply RegW.val 6 rfl
    · intro a w' hF hB hd; have v5 : a.tmps[144]?.getD undef = _ := hd 5 (of_decide_eq_true (by kernel_rfl)) 0 _ _ rfl rfl; have gd := tmp_bool v5; have e15 := hF.2.2 15 (by decide); simp at e15; clear hd hF; refine wpOp_step rfl (fun K' hK => ?_); go_simp; exact hK _ _ ⟨_, rfl, Below.refl _ _, cst_ok⟩
    apply RegW.val 7 rfl
    · intro a w' hF hB hd; have v5 : a.tmps[144]?.getD undef = _ := hd 5 (of_decide_eq_true (by kernel_rfl)) 1 _ _ rfl rfl; have v6 : a.tmps[145]?.getD undef = _ := hd 6 (of_decide_eq_true (by kernel_rfl)) 0 _ _ rfl rfl; have gd := tmp_bool v5; clear hd hF; refine wpOp_step rfl (fun K' hK => ?_); go_simp; exact hK _ _ ⟨_, rfl, Below.refl _ _, cst_ok⟩
    apply RegW.val 8 rfl
    · intro a w' hF hB hd; have v5 : a.tmps[144]?.getD undef = _ := hd 5 (of_decide_eq_true (by kernel_rfl)) 2 _ _ rfl rfl; have gd := tmp_bool v5; have e14 := hF.2.2 14 (by decide); simp at e14; clear hd hF; refine wpOp_step rfl (fun K' hK => ?_); go_simp; exact hK _ _ ⟨_, rfl, Below.refl _ _, cst_ok⟩
    apply RegW.val 9 rfl
    · intro a w' hF hB hd; have v5 : a.tmps[144]?.getD undef = _ := hd 5 (of_decide_eq_true (by kernel_rfl)) 3 _ _ rfl rfl; have v8 : a.tmps[147]?.getD undef = _ := hd 8 (of_decide_eq_true (by kernel_rfl)) 0 _ _ rfl rfl; have gd := tmp_bool v5; clear hd hF; refine wpOp_step rfl (fun K' hK => ?_); go_simp; exact hK _ _ ⟨_, rfl, Below.refl _ _, cst_ok⟩
    apply RegW.val 10 rfl
    · intro a w' hF hB hd; have v5 : a.tmps[144]?.getD undef = _ := hd 5 (of_decide_eq_true (by kernel_rfl)) 4 _ _ rfl rfl; have v9 : a.tmps[148]?.getD undef = _ := hd 9 (of_decide_eq_true (by kernel_rfl)) 0 _ _ rfl rfl; have gd := tmp_bool v5; clear hd hF; refine wpOp_step rfl (fun K' hK => ?_); go_simp; exact hK _ _ ⟨_, rfl, Below.refl _ _, cst_ok⟩
    apply RegW.num 11 rfl
    · intro a w' hF hB hd; have v10 : a.tmps[149]?.getD undef = _ := hd 10 (of_decide_eq_true (by kernel_rfl)) 0 _ _ rfl rfl; have gd := tmp_bool v10; have e13 := hF.2.2 13 (by decide); simp at e13; clear hd hF; obtain ⟨sv, hk, hi⟩ := (HT.out.2.2.2.1).keep hB; have c0 := hk.cell 0; simp at c0; refine wpOp_step rfl (fun K' hK => ?_); go_simp; exact hK _ _ ⟨_, rfl, Below.refl _ _, ⟨_, rfl, hi⟩⟩
    apply RegW.val 12 rfl
    · intro a w' hF hB hd; have v10 : a.tmps[149]?.getD undef = _ := hd 10 (of_decide_eq_true (by kernel_rfl)) 1 _ _ rfl rfl; have u11 := hd 11 (of_decide_eq_true (by kernel_rfl)) 0 _ _ rfl rfl; obtain ⟨x11, p11, q11⟩ := u11; have gd := tmp_bool v10; clear hd hF; refine wpOp_step rfl (fun K' hK => ?_); go_simp; refine (len_w q11 ((by rw [hxy]; exact Lim.nil _))).mono ?_; rintro e w1 ⟨rfl, hb⟩; exact hK _ _ ⟨_, rfl, hb, cst_ok⟩
    apply RegW.val 13 rfl
    · intro a w' hF hB hd; have v10 : a.tmps[149]?.getD undef = _ := hd 10 (of_decide_eq_true (by kernel_rfl)) 2 _ _ rfl rfl; have v12 : a.tmps[151]?.getD undef = _ := hd 12 (of_decide_eq_true (by kernel_rfl)) 0 _ _ rfl rfl; have gd := tmp_bool v10; clear hd hF; refine wpOp_step rfl (fun K' hK => ?_); go_simp; exact hK _ _ ⟨_, rfl, Below.refl _ _, cst_ok⟩
    apply RegW.val 14 rfl
    · intro a w' hF hB hd; have v5 : a.tmps[144]?.getD undef = _ := hd 5 (of_decide_eq_true (by kernel_rfl)) 8 _ _ rfl rfl; have v10 : a.tmps[149]?.getD undef = _ := hd 10 (of_decide_eq_true (by kernel_rfl)) 3 _ _ rfl rfl; have v13 : a.tmps[152]?.getD undef = _ := hd 13 (of_decide_eq_true (by kernel_rfl)) 0 _ _ rfl rfl; have gd := tmp_bool v5; clear hd hF; refine wpOp_step rfl (fun K' hK => ?_); go_simp; exact hK _ _ ⟨_, rfl, Below.refl _ _, cst_ok⟩
    apply RegW.val 15 rfl
    · intro a w' hF hB hd; have v5 : a.tmps[144]?.getD undef = _ := hd 5 (of_decide_eq_true (by kernel_rfl)) 9 _ _ rfl rfl; have v7 : a.tmps[146]?.getD undef = _ := hd 7 (of_decide_eq_true (by kernel_rfl)) 7 _ _ rfl rfl; have v14 : a.tmps[153]?.getD undef = _ := hd 14 (of_decide_eq_true (by kernel_rfl)) 0 _ _ rfl rfl; have gd := tmp_bool v5; clear hd hF; refine wpOp_step rfl (fun K' hK => ?_); go_simp; exact hK _ _ ⟨_, rfl, Below.refl _ _, cst_ok⟩
    apply RegW.val 16 rfl
    · intro a w' hF hB hd; have v5 : a.tmps[144]?.getD undef = _ := hd 5 (of_decide_eq_true (by kernel_rfl)) 10 _ _ rfl rfl; have v15 : a.tmps[154]?.getD undef = _ := hd 15 (of_decide_eq_true (by kernel_rfl)) 0 _ _ rfl rfl; clear hd hF; refine wpOp_step rfl (fun K' hK => ?_); go_simp; exact hK _ _ ⟨_, rfl, Below.refl _ _, cst_ok⟩
    apply RegW.val 17 rfl
    · intro a w' hF hB hd; have v16 : a.tmps[155]?.getD undef = _ := hd 16 (of_decide_eq_true (by kernel_rfl)) 0 _ _ rfl rfl; clear hd hF; refine wpOp_step rfl (fun K' hK => ?_); go_simp; exact hK _ _ ⟨_, rfl, Below.refl _ _, cst_ok⟩
    apply RegW.num 18 rfl
    · intro a w' hF hB hd; have v17 : a.tmps[156]?.getD undef = _ := hd 17 (of_decide_eq_true (by kernel_rfl)) 0 _ _ rfl rfl; have gd := tmp_bool v17; have e7 := hF.2.2 7 (by decide); simp at e7; clear hd hF; obtain ⟨sv, hk, hi⟩ := (HT.out.1).keep hB; have c0 := hk.cell 0; simp at c0; refine wpOp_step rfl (fun K' hK => ?_); go_simp; exact hK _ _ ⟨_, rfl, Below.refl _ _, ⟨_, rfl, hi⟩⟩
    apply RegW.num 19 rfl
    · intro a w' hF hB hd; have v17 : a.tmps[156]?.getD undef = _ := hd 17 (of_decide_eq_true (by kernel_rfl)) 1 _ _ rfl rfl; have gd := tmp_bool v17; have e9 := hF.2.2 9 (by decide); simp at e9; clear hd hF; obtain ⟨sv, hk, hi⟩ := (HT.out.2.2.1).keep hB; have c0 := hk.cell 0; simp at c0; refine wpOp_step rfl (fun K' hK => ?_); go_simp; exact hK _ _ ⟨_, rfl, Below.refl _ _, ⟨_, rfl, hi⟩⟩
    apply RegW.num 20 rfl
    · intro a w' hF hB hd; have v17 : a.tmps[156]?.getD undef = _ := hd 17 (of_decide_eq_true (by kernel_rfl)) 2 _ _ rfl rfl; have u18 := hd 18 (of_decide_eq_true (by kernel_rfl)) 1 _ _ rfl rfl; obtain ⟨x18, p18, q18⟩ := u18; have u19 := hd 19 (of_decide_eq_true (by kernel_rfl)) 0 _ _ rfl rfl; obtain ⟨x19, p19, q19⟩ := u19; have gd := tmp_bool v17; clear hd hF; refine wpOp_step rfl (fun K' hK => ?_); go_simp; refine (add_w q18 q19 (fits_le hX (by decide)) (fits_le hZ (by decide))).mono ?_; rintro e w1 ⟨x, rfl, hx, hb⟩; exact hK _ _ ⟨_, rfl, hb, ⟨_, rfl, hx⟩⟩
    apply RegW.num 21 rfl
    · intro a w' hF hB hd; have v17 : a.tmps[156]?.getD undef = _ := hd 17 (of_decide_eq_true (by kernel_rfl)) 3 _ _ rfl rfl; have gd := tmp_bool v17; have e8 := hF.2.2 8 (by decide); simp at e8; clear hd hF; obtain ⟨sv, hk, hi⟩ := (HT.out.2.1).keep hB; have c0 := hk.cell 0; simp at c0; refine wpOp_step rfl (fun K' hK => ?_); go_simp; exact hK _ _ ⟨_, rfl, Below.refl _ _, ⟨_, rfl, hi⟩⟩
    apply RegW.num 22 rfl
    · intro a w' hF hB hd; have v17 : a.tmps[156]?.getD undef = _ := hd 17 (of_decide_eq_true (by kernel_rfl)) 4 _ _ rfl rfl; have gd := tmp_bool v17; have e9 := hF.2.2 9 (by decide); simp at e9; clear hd hF; obtain ⟨sv, hk, hi⟩ := (HT.out.2.2.1).keep hB; have c0 := hk.cell 0; simp at c0; refine wpOp_step rfl (fun K' hK => ?_); go_simp; exact hK _ _ ⟨_, rfl, Below.refl _ _, ⟨_, rfl, hi⟩⟩
    apply RegW.num 23 rfl
    · intro a w' hF hB hd; have v17 : a.tmps[156]?.getD undef = _ := hd 17 (of_decide_eq_true (by kernel_rfl)) 5 _ _ rfl rfl; have u21 := hd 21 (of_decide_eq_true (by kernel_rfl)) 1 _ _ rfl rfl; obtain ⟨x21, p21, q21⟩ := u21; have u22 := hd 22 (of_decide_eq_true (by kernel_rfl)) 0 _ _ rfl rfl; obtain ⟨x22, p22, q22⟩ := u22; have gd := tmp_bool v17; clear hd hF; refine wpOp_step rfl (fun K' hK => ?_); go_simp; refine (add_w q21 q22 (fits_le hY (by decide)) (fits_le hZ (by decide))).mono ?_; rintro e w1 ⟨x, rfl, hx, hb⟩; exact hK _ _ ⟨_, rfl, hb, ⟨_, rfl, hx⟩⟩
    apply RegW.val 24 rfl
    · intro a w' hF hB hd; have v17 : a.tmps[156]?.getD undef = _ := hd 17 (of_decide_eq_true (by kernel_rfl)) 6 _ _ rfl rfl; have u20 := hd 20 (of_decide_eq_true (by kernel_rfl)) 3 _ _ rfl rfl; obtain ⟨x20, p20, q20⟩ := u20; have u23 := hd 23 (of_decide_eq_true (by kernel_rfl)) 0 _ _ rfl rfl; obtain ⟨x23, p23, q23⟩ := u23; have gd := tmp_bool v17; clear hd hF; refine wpOp_step rfl (fun K' hK => ?_); go_simp; refine (cmp_w q20 q23 (fits_le (fits_add hX hZ) (by decide)) (fits_le (fits_add hY hZ) (by decide)) (hcz)).mono ?_; rintro e w1 ⟨rfl, hb⟩; exact hK _ _ ⟨_, rfl, hb, cst_ok⟩
    apply RegW.val 25 rfl
    · intro a w' hF hB hd; have v17 : a.tmps[156]?.getD undef = _ := hd 17 (of_decide_eq_true (by kernel_rfl)) 7 _ _ rfl rfl; have gd := tmp_bool v17; have e15 := hF.2.2 15 (by decide); simp at e15; clear hd hF; refine wpOp_step rfl (fun K' hK => ?_); go_simp; exact hK _ _ ⟨_, rfl, Below.refl _ _, cst_ok⟩
    apply RegW.val 26 rfl
    · intro a w' hF hB hd; have v17 : a.tmps[156]?.getD undef = _ := hd 17 (of_decide_eq_true (by kernel_rfl)) 8 _ _ rfl rfl; have v24 : a.tmps[163]?.getD undef = _ := hd 24 (of_decide_eq_true (by kernel_rfl)) 1 _ _ rfl rfl; have v25 : a.tmps[164]?.getD undef = _ := hd 25 (of_decide_eq_true (by kernel_rfl)) 0 _ _ rfl rfl; have gd := tmp_bool v17; clear hd hF; refine wpOp_step rfl (fun K' hK => ?_); go_simp; exact hK _ _ ⟨_, rfl, Below.refl _ _, cst_ok⟩
    apply RegW.val 27 rfl
    · intro a w' hF hB hd; have v17 : a.tmps[156]?.getD undef = _ := hd 17 (of_decide_eq_true (by kernel_rfl)) 9 _ _ rfl rfl; have v26 : a.tmps[165]?.getD undef = _ := hd 26 (of_decide_eq_true (by kernel_rfl)) 0 _ _ rfl rfl; clear hd hF; refine wpOp_step rfl (fun K' hK => ?_); go_simp; exact hK _ _ ⟨_, rfl, Below.refl _ _, cst_ok⟩
    apply RegW.val 28 rfl
    · intro a w' hF hB hd; have v27 : a.tmps[166]?.getD undef = _ := hd 27 (of_decide_eq_true (by kernel_rfl)) 0 _ _ rfl rfl; clear hd hF; refine wpOp_step rfl (fun K' hK => ?_); go_simp; exact hK _ _ ⟨_, rfl, Below.refl _ _, cst_ok⟩
    apply RegW.val 29 rfl
    · intro a w' hF hB hd; have v28 : a.tmps[167]?.getD undef = _ := hd 28 (of_decide_eq_true (by kernel_rfl)) 0 _ _ rfl rfl; have gd := tmp_bool v28; clear hd hF; refine wpOp_step rfl (fun K' hK => ?_); go_simp; refine (works_c _).mono ?_; rintro e w1 ⟨rfl, hb⟩; exact hK _ _ ⟨_, rfl, hb, cst_ok⟩
    apply RegW.val 30 rfl
    · intro a w' hF hB hd; have v28 : a.tmps[167]?.getD undef = _ := hd 28 (of_decide_eq_true (by kernel_rfl)) 1 _ _ rfl rfl; have v29 : a.tmps[168]?.getD undef = _ := hd 29 (of_decide_eq_true (by kernel_rfl)) 0 _ _ rfl rfl; clear hd hF; refine wpOp_step rfl (fun K' hK => ?_); go_simp; exact hK _ _ ⟨_, rfl, Below.refl _ _, cst_ok⟩
    apply RegW.val 31 rfl
    · intro a w' hF hB hd; have v30 : a.tmps[169]?.getD undef = _ := hd 30 (of_decide_eq_true (by kernel_rfl)) 0 _ _ rfl rfl; clear hd hF; refine wpOp_step rfl (fun K' hK => ?_); go_simp; exact hK _ _ ⟨_, rfl, Below.refl _ _, cst_ok⟩
    refine RegW.done (fun a w' hF hB hv => ?_)
    have v0 : a.tmps[139]?.getD undef = _ := hv 31 _ _ rfl
    have v1 : a.tmps[140]?.getD undef = _ := hv 30 _ _ rfl
    have v2 : a.tmps[141]?.getD undef = _ := hv 29 _ _ rfl
    have v3 : a.tmps[142]?.getD undef = _ := hv 28 _ _ rfl
    have v4 : a.tmps[143]?.getD undef = _ := hv 27 _ _ rfl
    have v5 : a.tmps[144]?.getD undef = _ := hv 26 _ _ rfl
    have v6 : a.tmps[145]?.getD undef = _ := hv 25 _ _ rfl
    have v7 : a.tmps[146]?.getD undef = _ := hv 24 _ _ rfl
    have v8 : a.tmps[147]?.getD undef = _ := hv 23 _ _ rfl
    have v9 : a.tmps[148]?.getD undef = _ := hv 22 _ _ rfl
    have v10 : a.tmps[149]?.getD undef = _ := hv 21 _ _ rfl
    have u11 := hv 20 _ _ rfl
    obtain ⟨x11, p11, q11⟩ := u11
    have v12 : a.tmps[151]?.getD undef = _ := hv 19 _ _ rfl
    have v13 : a.tmps[152]?.getD undef = _ := hv 18 _ _ rfl
    have v14 : a.tmps[153]?.getD undef = _ := hv 17 _ _ rfl
    have v15 : a.tmps[154]?.getD undef = _ := hv 16 _ _ rfl
    have v16 : a.tmps[155]?.getD undef = _ := hv 15 _ _ rfl
    have v17 : a.tmps[156]?.getD undef = _ := hv 14 _ _ rfl
    have u18 := hv 13 _ _ rfl
    obtain ⟨x18, p18, q18⟩ := u18
    have u19 := hv 12 _ _ rfl
    obtain ⟨x19, p19, q19⟩ := u19
    have u20 := hv 11 _ _ rfl
    obtain ⟨x20, p20, q20⟩ := u20
    have u21 := hv 10 _ _ rfl
    obtain ⟨x21, p21, q21⟩ := u21
    have u22 := hv 9 _ _ rfl
    obtain ⟨x22, p22, q22⟩ := u22
    have u23 := hv 8 _ _ rfl
    obtain ⟨x23, p23, q23⟩ := u23
    have v24 : a.tmps[163]?.getD undef = _ := hv 7 _ _ rfl
    have v25 : a.tmps[164]?.getD undef = _ := hv 6 _ _ rfl
    have v26 : a.tmps[165]?.getD undef = _ := hv 5 _ _ rfl
    have v27 : a.tmps[166]?.getD undef = _ := hv 4 _ _ rfl
    have v28 : a.tmps[167]?.getD undef = _ := hv 3 _ _ rfl
    have v29 : a.tmps[168]?.getD undef = _ := hv 2 _ _ rfl
    have v30 : a.tmps[169]?.getD undef = _ := hv 1 _ _ rfl
    have v31 : a.tmps[6]?.getD undef = _ := hv 0 _ _ rfl
    have hE := hF.out
    rw [hE]
    clear hE hF hv
    simp only [List.foldl_cons, List.foldl_nil, Act.put, List.setIfInBounds_toArray, List.set_cons_zero, List.set_cons_succ, Array.getD_eq_getD_getElem?, v0, v1, v2, v3, v4, v5, v6, v7, v8, v9, v10, p11, v12, v13, v14, v15, v16, v17, p18, p19, p20, p21, p22, p23, v24, v25, v26, v27, v28, v29, v30, v31]
    clear v0 v1 v2 v3 v4 v5 v6 v7 v8 v9 v10 p11 v12 v13 v14 v15 v16 v17 p18 p19 p20 p21 p22 p23 v24 v25 v26 v27 v28 v29 v30 v31
    have hB0 := hB
    go_wp2
    go_ret
    exact ⟨rfl, HT.out.2.2.2.2.trans (hB.mono HT.out.2.2.2.2.size)⟩
  · have hc : cmpI X Y = 1 := by unfold cmpI; rw [if_neg (by omega), if_pos hxy]
    have hs : (if X < Y then (11 : Int) else 0) = 0 := if_neg (by omega)
    have hcz : cmpI (X + Z) (Y + Z) = 1 := by unfold cmpI; rw [if_neg (by omega), if_pos (by omega)]
    obtain ⟨sx, kx, ix⟩ := HT.out.1
    obtain ⟨sy, ky, iy⟩ := HT.out.2.1
    have cx := kx.cell 0
    have cy := ky.cell 0
    simp at cx cy
    have HI := Lib.hid (And.intro kx (And.intro ky (And.intro ix iy)))
    clear kx ky ix iy
    have HS := Lib.hid hs
    have HC := Lib.hid (And.intro hc (And.intro hcz hxy))
    clear hs hc hcz hxy
    go_upto_region 12 with (first
      | (go_at_call 12; refine (sub_w HI.out.2.2.1 HI.out.2.2.2 (fits_le hX (by decide)) (fits_le hY (by decide))).mono ?_; rintro e w7 ⟨A7, n7, d7, rfl, hv, hb⟩; rw [HS.out]; have hz7 := hb.size; have hka := HI.out.1.keep hb; have hkb := HI.out.2.1.keep hb; have cx7 := hka.cell 0; have cy7 := hkb.cell 0; have zx := hka.lt; have zy := hkb.lt; simp at cx7 cy7; have HV := Lib.hid (And.intro hv hb); clear hv hb hka hkb)
      | (go_at_call 10; refine (cmp_w ((HI.out.2.2.1.keep HV.out.2).alloc _) ((HI.out.2.2.2.keep HV.out.2).alloc _) (fits_le hX (by decide)) (fits_le hY (by decide)) HC.out.1).mono ?_; rintro e w8 ⟨rfl, hb8⟩; have HV8 := Lib.hid hb8; clear hb8))
    have hbz : Below wz.heap.size wz w8 := (HV.out.2.alloc hz7 _).trans (HV8.out.mono (by simp; omega))
    have hbx : BoxN w8 w7.heap.size (X - Y) := BoxN.keep (⟨_, Bk.new _ _ _, HV.out.1.alloc _⟩ : BoxN (w7.alloc (.cells #[.slice A7 n7 d7] 25)) w7.heap.size (X - Y)) HV8.out
    have hT := And.intro (HT.out.1.keep hbz) (And.intro (HT.out.2.1.keep hbz) (And.intro (HT.out.2.2.1.keep hbz) (And.intro hbx (HT.out.2.2.2.2.2.trans (hbz.mono HT.out.2.2.2.2.2.size)))))
    clear hbz hbx HI HV HV8 HT zx zy hz7 cx cy cx7 cy7
    have HT := Lib.hid hT
    clear hT
    generalize w7.heap.size = g13 at *
    clear w7
    generalize w8 = wz at *
    obtain ⟨hc, hcz, hxy⟩ := HC.out
    obtain ⟨lf, hlf⟩ : ∃ lf : List Nat, Lim 18446744073709551616 lf (X - Y) := by
      obtain ⟨_, _, A, n, d, l, _, _, h, _⟩ := HT.out.2.2.2.1
      exact ⟨l, h⟩
    have hl0 : lf.length ≠ 0 := fun h => by have := hlf.zero.1 h; omega
    have hlb : ((lf.length : Int) == 0) = false := beq_false_of_ne (by omega)
    clear hxy
    clear hc
    refine wp_region_walk [0, 1, 2, 3, 4, 5, 6, 7, 8, 9, 10, 11, 12, 13, 14, 15, 16, 17, 18, 19, 20, 21, 22, 23, 24, 25, 26, 27, 28, 29, 30, 31] [139, 140, 141, 142, 143, 144, 145, 146, 147, 148, 149, 150, 151, 152, 153, 154, 155, 156, 157, 158, 159, 160, 161, 162, 163, 164, 165, 166, 167, 168, 169, 6] 0 (by kernel_rfl) (by kernel_rfl) (by kernel_rfl) rfl (by simp) (by kernel_rfl) (by kernel_rfl) ?_
    apply RegW.val 0 rfl
    · intro a w' hF hB hd; have e14 := hF.2.2 14 (by decide); simp at e14; clear hd hF; refine wpOp_step rfl (fun K' hK => ?_); go_simp; exact hK _ _ ⟨_, rfl, Below.refl _ _, cst_ok⟩
    apply RegW.val 1 rfl
    · intro a w' hF hB hd; have v0 : a.tmps[139]?.getD undef = _ := hd 0 (of_decide_eq_true (by kernel_rfl)) 0 _ _ rfl rfl; clear hd hF; refine wpOp_step rfl (fun K' hK => ?_); go_simp; exact hK _ _ ⟨_, rfl, Below.refl _ _, cst_ok⟩
    apply RegW.val 2 rfl
    · intro a w' hF hB hd; have e15 := hF.2.2 15 (by decide); simp at e15; clear hd hF; refine wpOp_step rfl (fun K' hK => ?_); go_simp; exact hK _ _ ⟨_, rfl, Below.refl _ _, cst_ok⟩
    apply RegW.val 3 rfl
    · intro a w' hF hB hd; have v2 : a.tmps[141]?.getD undef = _ := hd 2 (of_decide_eq_true (by kernel_rfl)) 0 _ _ rfl rfl; clear hd hF; refine wpOp_step rfl (fun K' hK => ?_); go_simp; exact hK _ _ ⟨_, rfl, Below.refl _ _, cst_ok⟩
    apply RegW.val 4 rfl
    · intro a w' hF hB hd; have v1 : a.tmps[140]?.getD undef = _ := hd 1 (of_decide_eq_true (by kernel_rfl)) 2 _ _ rfl rfl; have v3 : a.tmps[142]?.getD undef = _ := hd 3 (of_decide_eq_true (by kernel_rfl)) 0 _ _ rfl rfl; clear hd hF; refine wpOp_step rfl (fun K' hK => ?_); go_simp; exact hK _ _ ⟨_, rfl, Below.refl _ _, cst_ok⟩
    apply RegW.val 5 rfl
    · intro a w' hF hB hd; have v4 : a.tmps[143]?.getD undef = _ := hd 4 (of_decide_eq_true (by kernel_rfl)) 0 _ _ rfl rfl; clear hd hF; refine wpOp_step rfl (fun K' hK => ?_); go_simp; exact hK _ _ ⟨_, rfl, Below.refl _ _, cst_ok⟩
    apply RegW.val 6 rfl
    · intro a w' hF hB hd; have v5 : a.tmps[144]?.getD undef = _ := hd 5 (of_decide_eq_true (by kernel_rfl)) 0 _ _ rfl rfl; have gd := tmp_bool v5; have e15 := hF.2.2 15 (by decide); simp at e15; clear hd hF; refine wpOp_step rfl (fun K' hK => ?_); go_simp; exact hK _ _ ⟨_, rfl, Below.refl _ _, cst_ok⟩
    apply RegW.val 7 rfl
    · intro a w' hF hB hd; have v5 : a.tmps[144]?.getD undef = _ := hd 5 (of_decide_eq_true (by kernel_rfl)) 1 _ _ rfl rfl; have v6 : a.tmps[145]?.getD undef = _ := hd 6 (of_decide_eq_true (by kernel_rfl)) 0 _ _ rfl rfl; have gd := tmp_bool v5; clear hd hF; refine wpOp_step rfl (fun K' hK => ?_); go_simp; exact hK _ _ ⟨_, rfl, Below.refl _ _, cst_ok⟩
    apply RegW.val 8 rfl
    · intro a w' hF hB hd; have v5 : a.tmps[144]?.getD undef = _ := hd 5 (of_decide_eq_true (by kernel_rfl)) 2 _ _ rfl rfl; have gd := tmp_bool v5; have e14 := hF.2.2 14 (by decide); simp at e14; clear hd hF; refine wpOp_step rfl (fun K' hK => ?_); go_simp; exact hK _ _ ⟨_, rfl, Below.refl _ _, cst_ok⟩
    apply RegW.val 9 rfl
    · intro a w' hF hB hd; have v5 : a.tmps[144]?.getD undef = _ := hd 5 (of_decide_eq_true (by kernel_rfl)) 3 _ _ rfl rfl; have v8 : a.tmps[147]?.getD undef = _ := hd 8 (of_decide_eq_true (by kernel_rfl)) 0 _ _ rfl rfl; have gd := tmp_bool v5; clear hd hF; refine wpOp_step rfl (fun K' hK => ?_); go_simp; exact hK _ _ ⟨_, rfl, Below.refl _ _, cst_ok⟩
    apply RegW.val 10 rfl
    · intro a w' hF hB hd; have v5 : a.tmps[144]?.getD undef = _ := hd 5 (of_decide_eq_true (by kernel_rfl)) 4 _ _ rfl rfl; have v9 : a.tmps[148]?.getD undef = _ := hd 9 (of_decide_eq_true (by kernel_rfl)) 0 _ _ rfl rfl; have gd := tmp_bool v5; clear hd hF; refine wpOp_step rfl (fun K' hK => ?_); go_simp; exact hK _ _ ⟨_, rfl, Below.refl _ _, cst_ok⟩
    apply RegW.num 11 rfl
    · intro a w' hF hB hd; have v10 : a.tmps[149]?.getD undef = _ := hd 10 (of_decide_eq_true (by kernel_rfl)) 0 _ _ rfl rfl; have gd := tmp_bool v10; have e13 := hF.2.2 13 (by decide); simp at e13; clear hd hF; obtain ⟨sv, hk, hi⟩ := (HT.out.2.2.2.1).keep hB; have c0 := hk.cell 0; simp at c0; refine wpOp_step rfl (fun K' hK => ?_); go_simp; exact hK _ _ ⟨_, rfl, Below.refl _ _, ⟨_, rfl, hi⟩⟩
    apply RegW.val 12 rfl
    · intro a w' hF hB hd; have v10 : a.tmps[149]?.getD undef = _ := hd 10 (of_decide_eq_true (by kernel_rfl)) 1 _ _ rfl rfl; have u11 := hd 11 (of_decide_eq_true (by kernel_rfl)) 0 _ _ rfl rfl; obtain ⟨x11, p11, q11⟩ := u11; have gd := tmp_bool v10; clear hd hF; refine wpOp_step rfl (fun K' hK => ?_); go_simp; refine (len_w q11 (hlf)).mono ?_; rintro e w1 ⟨rfl, hb⟩; exact hK _ _ ⟨_, rfl, hb, cst_ok⟩
    apply RegW.val 13 rfl
    · intro a w' hF hB hd; have v10 : a.tmps[149]?.getD undef = _ := hd 10 (of_decide_eq_true (by kernel_rfl)) 2 _ _ rfl rfl; have v12 : a.tmps[151]?.getD undef = _ := hd 12 (of_decide_eq_true (by kernel_rfl)) 0 _ _ rfl rfl; have gd := tmp_bool v10; clear hd hF; refine wpOp_step rfl (fun K' hK => ?_); go_simp; exact hK _ _ ⟨_, rfl, Below.refl _ _, cst_ok⟩
    apply RegW.val 14 rfl
    · intro a w' hF hB hd; have v5 : a.tmps[144]?.getD undef = _ := hd 5 (of_decide_eq_true (by kernel_rfl)) 8 _ _ rfl rfl; have v10 : a.tmps[149]?.getD undef = _ := hd 10 (of_decide_eq_true (by kernel_rfl)) 3 _ _ rfl rfl; have v13 : a.tmps[152]?.getD undef = _ := hd 13 (of_decide_eq_true (by kernel_rfl)) 0 _ _ rfl rfl; have gd := tmp_bool v5; clear hd hF; refine wpOp_step rfl (fun K' hK => ?_); go_simp; exact hK _ _ ⟨_, rfl, Below.refl _ _, cst_ok⟩
    apply RegW.val 15 rfl
    · intro a w' hF hB hd; have v5 : a.tmps[144]?.getD undef = _ := hd 5 (of_decide_eq_true (by kernel_rfl)) 9 _ _ rfl rfl; have v7 : a.tmps[146]?.getD undef = _ := hd 7 (of_decide_eq_true (by kernel_rfl)) 7 _ _ rfl rfl; have v14 : a.tmps[153]?.getD undef = _ := hd 14 (of_decide_eq_true (by kernel_rfl)) 0 _ _ rfl rfl; have gd := tmp_bool v5; clear hd hF; refine wpOp_step rfl (fun K' hK => ?_); go_simp; exact hK _ _ ⟨_, rfl, Below.refl _ _, cst_ok⟩
    apply RegW.val 16 rfl
    · intro a w' hF hB hd; have v5 : a.tmps[144]?.getD undef = _ := hd 5 (of_decide_eq_true (by kernel_rfl)) 10 _ _ rfl rfl; have v15 : a.tmps[154]?.getD undef = _ := hd 15 (of_decide_eq_true (by kernel_rfl)) 0 _ _ rfl rfl; clear hd hF; refine wpOp_step rfl (fun K' hK => ?_); go_simp; exact hK _ _ ⟨_, rfl, Below.refl _ _, cst_ok⟩
    apply RegW.val 17 rfl
    · intro a w' hF hB hd; have v16 : a.tmps[155]?.getD undef = _ := hd 16 (of_decide_eq_true (by kernel_rfl)) 0 _ _ rfl rfl; clear hd hF; refine wpOp_step rfl (fun K' hK => ?_); go_simp; exact hK _ _ ⟨_, rfl, Below.refl _ _, cst_ok⟩
    apply RegW.num 18 rfl
    · intro a w' hF hB hd; have v17 : a.tmps[156]?.getD undef = _ := hd 17 (of_decide_eq_true (by kernel_rfl)) 0 _ _ rfl rfl; have gd := tmp_bool v17; have e7 := hF.2.2 7 (by decide); simp at e7; clear hd hF; obtain ⟨sv, hk, hi⟩ := (HT.out.1).keep hB; have c0 := hk.cell 0; simp at c0; refine wpOp_step rfl (fun K' hK => ?_); go_simp; exact hK _ _ ⟨_, rfl, Below.refl _ _, ⟨_, rfl, hi⟩⟩
    apply RegW.num 19 rfl
    · intro a w' hF hB hd; have v17 : a.tmps[156]?.getD undef = _ := hd 17 (of_decide_eq_true (by kernel_rfl)) 1 _ _ rfl rfl; have gd := tmp_bool v17; have e9 := hF.2.2 9 (by decide); simp at e9; clear hd hF; obtain ⟨sv, hk, hi⟩ := (HT.out.2.2.1).keep hB; have c0 := hk.cell 0; simp at c0; refine wpOp_step rfl (fun K' hK => ?_); go_simp; exact hK _ _ ⟨_, rfl, Below.refl _ _, ⟨_, rfl, hi⟩⟩
    apply RegW.num 20 rfl
    · intro a w' hF hB hd; have v17 : a.tmps[156]?.getD undef = _ := hd 17 (of_decide_eq_true (by kernel_rfl)) 2 _ _ rfl rfl; have u18 := hd 18 (of_decide_eq_true (by kernel_rfl)) 1 _ _ rfl rfl; obtain ⟨x18, p18, q18⟩ := u18; have u19 := hd 19 (of_decide_eq_true (by kernel_rfl)) 0 _ _ rfl rfl; obtain ⟨x19, p19, q19⟩ := u19; have gd := tmp_bool v17; clear hd hF; refine wpOp_step rfl (fun K' hK => ?_); go_simp; refine (add_w q18 q19 (fits_le hX (by decide)) (fits_le hZ (by decide))).mono ?_; rintro e w1 ⟨x, rfl, hx, hb⟩; exact hK _ _ ⟨_, rfl, hb, ⟨_, rfl, hx⟩⟩
    apply RegW.num 21 rfl
    · intro a w' hF hB hd; have v17 : a.tmps[156]?.getD undef = _ := hd 17 (of_decide_eq_true (by kernel_rfl)) 3 _ _ rfl rfl; have gd := tmp_bool v17; have e8 := hF.2.2 8 (by decide); simp at e8; clear hd hF; obtain ⟨sv, hk, hi⟩ := (HT.out.2.1).keep hB; have c0 := hk.cell 0; simp at c0; refine wpOp_step rfl (fun K' hK => ?_); go_simp; exact hK _ _ ⟨_, rfl, Below.refl _ _, ⟨_, rfl, hi⟩⟩
    apply RegW.num 22 rfl
    · intro a w' hF hB hd; have v17 : a.tmps[156]?.getD undef = _ := hd 17 (of_decide_eq_true (by kernel_rfl)) 4 _ _ rfl rfl; have gd := tmp_bool v17; have e9 := hF.2.2 9 (by decide); simp at e9; clear hd hF; obtain ⟨sv, hk, hi⟩ := (HT.out.2.2.1).keep hB; have c0 := hk.cell 0; simp at c0; refine wpOp_step rfl (fun K' hK => ?_); go_simp; exact hK _ _ ⟨_, rfl, Below.refl _ _, ⟨_, rfl, hi⟩⟩
    apply RegW.num 23 rfl
    · intro a w' hF hB hd; have v17 : a.tmps[156]?.getD undef = _ := hd 17 (of_decide_eq_true (by kernel_rfl)) 5 _ _ rfl rfl; have u21 := hd 21 (of_decide_eq_true (by kernel_rfl)) 1 _ _ rfl rfl; obtain ⟨x21, p21, q21⟩ := u21; have u22 := hd 22 (of_decide_eq_true (by kernel_rfl)) 0 _ _ rfl rfl; obtain ⟨x22, p22, q22⟩ := u22; have gd := tmp_bool v17; clear hd hF; refine wpOp_step rfl (fun K' hK => ?_); go_simp; refine (add_w q21 q22 (fits_le hY (by decide)) (fits_le hZ (by decide))).mono ?_; rintro e w1 ⟨x, rfl, hx, hb⟩; exact hK _ _ ⟨_, rfl, hb, ⟨_, rfl, hx⟩⟩
    apply RegW.val 24 rfl
    · intro a w' hF hB hd; have v17 : a.tmps[156]?.getD undef = _ := hd 17 (of_decide_eq_true (by kernel_rfl)) 6 _ _ rfl rfl; have u20 := hd 20 (of_decide_eq_true (by kernel_rfl)) 3 _ _ rfl rfl; obtain ⟨x20, p20, q20⟩ := u20; have u23 := hd 23 (of_decide_eq_true (by kernel_rfl)) 0 _ _ rfl rfl; obtain ⟨x23, p23, q23⟩ := u23; have gd := tmp_bool v17; clear hd hF; refine wpOp_step rfl (fun K' hK => ?_); go_simp; refine (cmp_w q20 q23 (fits_le (fits_add hX hZ) (by decide)) (fits_le (fits_add hY hZ) (by decide)) (hcz)).mono ?_; rintro e w1 ⟨rfl, hb⟩; exact hK _ _ ⟨_, rfl, hb, cst_ok⟩
    apply RegW.val 25 rfl
    · intro a w' hF hB hd; have v17 : a.tmps[156]?.getD undef = _ := hd 17 (of_decide_eq_true (by kernel_rfl)) 7 _ _ rfl rfl; have gd := tmp_bool v17; have e15 := hF.2.2 15 (by decide); simp at e15; clear hd hF; refine wpOp_step rfl (fun K' hK => ?_); go_simp; exact hK _ _ ⟨_, rfl, Below.refl _ _, cst_ok⟩
    apply RegW.val 26 rfl
    · intro a w' hF hB hd; have v17 : a.tmps[156]?.getD undef = _ := hd 17 (of_decide_eq_true (by kernel_rfl)) 8 _ _ rfl rfl; have v24 : a.tmps[163]?.getD undef = _ := hd 24 (of_decide_eq_true (by kernel_rfl)) 1 _ _ rfl rfl; have v25 : a.tmps[164]?.getD undef = _ := hd 25 (of_decide_eq_true (by kernel_rfl)) 0 _ _ rfl rfl; have gd := tmp_bool v17; clear hd hF; refine wpOp_step rfl (fun K' hK => ?_); go_simp; exact hK _ _ ⟨_, rfl, Below.refl _ _, cst_ok⟩
    apply RegW.val 27 rfl
    · intro a w' hF hB hd; have v17 : a.tmps[156]?.getD undef = _ := hd 17 (of_decide_eq_true (by kernel_rfl)) 9 _ _ rfl rfl; have v26 : a.tmps[165]?.getD undef = _ := hd 26 (of_decide_eq_true (by kernel_rfl)) 0 _ _ rfl rfl; clear hd hF; refine wpOp_step rfl (fun K' hK => ?_); go_simp; exact hK _ _ ⟨_, rfl, Below.refl _ _, cst_ok⟩
    apply RegW.val 28 rfl
    · intro a w' hF hB hd; have v27 : a.tmps[166]?.getD undef = _ := hd 27 (of_decide_eq_true (by kernel_rfl)) 0 _ _ rfl rfl; clear hd hF; refine wpOp_step rfl (fun K' hK => ?_); go_simp; exact hK _ _ ⟨_, rfl, Below.refl _ _, cst_ok⟩
    apply RegW.val 29 rfl
    · intro a w' hF hB hd; have v28 : a.tmps[167]?.getD undef = _ := hd 28 (of_decide_eq_true (by kernel_rfl)) 0 _ _ rfl rfl; have gd := tmp_bool v28; clear hd hF; refine wpOp_step rfl (fun K' hK => ?_); go_simp; refine (works_c _).mono ?_; rintro e w1 ⟨rfl, hb⟩; exact hK _ _ ⟨_, rfl, hb, cst_ok⟩
    apply RegW.val 30 rfl
    · intro a w' hF hB hd; have v28 : a.tmps[167]?.getD undef = _ := hd 28 (of_decide_eq_true (by kernel_rfl)) 1 _ _ rfl rfl; have v29 : a.tmps[168]?.getD undef = _ := hd 29 (of_decide_eq_true (by kernel_rfl)) 0 _ _ rfl rfl; clear hd hF; refine wpOp_step rfl (fun K' hK => ?_); go_simp; exact hK _ _ ⟨_, rfl, Below.refl _ _, cst_ok⟩
    apply RegW.val 31 rfl
    · intro a w' hF hB hd; have v30 : a.tmps[169]?.getD undef = _ := hd 30 (of_decide_eq_true (by kernel_rfl)) 0 _ _ rfl rfl; clear hd hF; refine wpOp_step rfl (fun K' hK => ?_); go_simp; exact hK _ _ ⟨_, rfl, Below.refl _ _, cst_ok⟩
    refine RegW.done (fun a w' hF hB hv => ?_)
    have v0 : a.tmps[139]?.getD undef = _ := hv 31 _ _ rfl
    have v1 : a.tmps[140]?.getD undef = _ := hv 30 _ _ rfl
    have v2 : a.tmps[141]?.getD undef = _ := hv 29 _ _ rfl
    have v3 : a.tmps[142]?.getD undef = _ := hv 28 _ _ rfl
    have v4 : a.tmps[143]?.getD undef = _ := hv 27 _ _ rfl
    have v5 : a.tmps[144]?.getD undef = _ := hv 26 _ _ rfl
    have v6 : a.tmps[145]?.getD undef = _ := hv 25 _ _ rfl
    have v7 : a.tmps[146]?.getD undef = _ := hv 24 _ _ rfl
    have v8 : a.tmps[147]?.getD undef = _ := hv 23 _ _ rfl
    have v9 : a.tmps[148]?.getD undef = _ := hv 22 _ _ rfl
    have v10 : a.tmps[149]?.getD undef = _ := hv 21 _ _ rfl
    have u11 := hv 20 _ _ rfl
    obtain ⟨x11, p11, q11⟩ := u11
    have v12 : a.tmps[151]?.getD undef = _ := hv 19 _ _ rfl
    have v13 : a.tmps[152]?.getD undef = _ := hv 18 _ _ rfl
    have v14 : a.tmps[153]?.getD undef = _ := hv 17 _ _ rfl
    have v15 : a.tmps[154]?.getD undef = _ := hv 16 _ _ rfl
    have v16 : a.tmps[155]?.getD undef = _ := hv 15 _ _ rfl
    have v17 : a.tmps[156]?.getD undef = _ := hv 14 _ _ rfl
    have u18 := hv 13 _ _ rfl
    obtain ⟨x18, p18, q18⟩ := u18
    have u19 := hv 12 _ _ rfl
    obtain ⟨x19, p19, q19⟩ := u19
    have u20 := hv 11 _ _ rfl
    obtain ⟨x20, p20, q20⟩ := u20
    have u21 := hv 10 _ _ rfl
    obtain ⟨x21, p21, q21⟩ := u21
    have u22 := hv 9 _ _ rfl
    obtain ⟨x22, p22, q22⟩ := u22
    have u23 := hv 8 _ _ rfl
    obtain ⟨x23, p23, q23⟩ := u23
    have v24 : a.tmps[163]?.getD undef = _ := hv 7 _ _ rfl
    have v25 : a.tmps[164]?.getD undef = _ := hv 6 _ _ rfl
    have v26 : a.tmps[165]?.getD undef = _ := hv 5 _ _ rfl
    have v27 : a.tmps[166]?.getD undef = _ := hv 4 _ _ rfl
    have v28 : a.tmps[167]?.getD undef = _ := hv 3 _ _ rfl
    have v29 : a.tmps[168]?.getD undef = _ := hv 2 _ _ rfl
    have v30 : a.tmps[169]?.getD undef = _ := hv 1 _ _ rfl
    have v31 : a.tmps[6]?.getD undef = _ := hv 0 _ _ rfl
    have hE := hF.out
    rw [hE]
    clear hE hF hv
    simp only [List.foldl_cons, List.foldl_nil, Act.put, List.setIfInBounds_toArray, List.set_cons_zero, List.set_cons_succ, Array.getD_eq_getD_getElem?, v0, v1, v2, v3, v4, v5, v6, v7, v8, v9, v10, p11, v12, v13, v14, v15, v16, v17, p18, p19, p20, p21, p22, p23, v24, v25, v26, v27, v28, v29, v30, v31]
    clear v0 v1 v2 v3 v4 v5 v6 v7 v8 v9 v10 p11 v12 v13 v14 v15 v16 v17 p18 p19 p20 p21 p22 p23 v24 v25 v26 v27 v28 v29 v30 v31
    have hB0 := hB
    go_wp2
    go_ret
    exact ⟨rfl, HT.out.2.2.2.2.trans (hB.mono HT.out.2.2.2.2.size)⟩
end Go.Proofs.Ytdocpljgollcaaa
