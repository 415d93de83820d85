/- NatReckons, walked: for any two rows of at most 40 limbs and any cap the statement returns true, and nothing that was there before has turned. -/
import Derived.Test.YtdocpljgollcaaaNatb
import Derived.Test.YtdocpljgollcaaaWorks
namespace Go.Proofs.Ytdocpljgollcaaa
open Go.RowKit
attribute [local go_sem] alloc_drewN setCell_drewN
theorem sum3 {g : Nat} {w : World} {x : Value} {X Y : Nat} (h : IsNat g w x (sumOf [X, Y, X])) : IsNat 0 w x ((X + Y) + X) := by
  have := h.mono (Nat.zero_le g)
  simpa [sumOf] using this
theorem nats3_new {w : World} {A1 A2 A3 : Option Addr} {n1 n2 n3 d1 d2 d3 X Y : Nat} (h1 : IsNat 0 w (.agg #[.slice A1 n1 d1]) X) (h2 : IsNat 0 w (.agg #[.slice A2 n2 d2]) Y) (h3 : IsNat 0 w (.agg #[.slice A3 n3 d3]) X) (hX : Fits X 40) (hY : Fits Y 40) :
    NatsAt (w.alloc (.cells #[.slice A1 n1 d1, .slice A2 n2 d2, .slice A3 n3 d3] 25)).heap.size 41 (w.alloc (.cells #[.slice A1 n1 d1, .slice A2 n2 d2, .slice A3 n3 d3] 25)) (some ⟨w.heap.size, 0, none⟩) 3 [X, Y, X] := by
  have := natsAt_new (s := 41) w #[.slice A1 n1 d1, .slice A2 n2 d2, .slice A3 n3 d3] 25 [X, Y, X] (by intro x hx; simp at hx; rcases hx with rfl | rfl | rfl <;> first | exact hX.mono (by decide) | exact hY.mono (by decide)) (by
    intro i x hx
    match i, hx with
    | 0, hx => simp at hx; subst hx; exact ⟨_, 0, rfl, h1⟩
    | 1, hx => simp at hx; subst hx; exact ⟨_, 0, rfl, h2⟩
    | 2, hx => simp at hx; subst hx; exact ⟨_, 0, rfl, h3⟩)
  simpa using this
def nats3 (Ns : List Nat) : StP := ⟨fun u w => ∃ A c, u = .slice A 3 c ∧ NatsAt w.heap.size 41 w A 3 Ns, fun _ _ _ hb ⟨A, c, h1, h2⟩ => ⟨A, c, h1, (h2.low hb).up hb.size⟩⟩
theorem fits_sub {N M s : Nat} (h : Fits N s) : Fits (N - M) s := h.le (Nat.sub_le N M)
set_option maxRecDepth 100000 in
set_option maxHeartbeats 16000000 in
theorem reckons_c (A B : Option Addr) (n m c1 c2 : Nat) (la lb : List Nat) (c : Int) (w : World) (ha : Rw .u64 w A n la) (hb : Rw .u64 w B m lb) (ta : AllLt 18446744073709551616 la) (tb : AllLt 18446744073709551616 lb) (hn : n ≤ 40) (hm : m ≤ 40) (hn1 : n ≤ c1) (hm1 : m ≤ c2) :
    Calls Try.prog 4 #[.slice A n c1, .slice B m c2, .int .i64 c] w fun e w' => e = .returned (.bool true) ∧ Below w.heap.size w w' := by
  have h1 : decide ((40 : Int) < (n : Int)) = false := by simp <;> omega
  have h2 : decide ((40 : Int) < (m : Int)) = false := by simp <;> omega
  have hX := Fits.of_lim ta (show la.length ≤ 40 by rw [ha.1]; exact hn)
  have hY := Fits.of_lim tb (show lb.length ≤ 40 by rw [hb.1]; exact hm)
  have HI := Lib.hid (And.intro ha (And.intro hb (And.intro ta tb)))
  clear ha hb ta tb
  go_enter Try.func4, Try.ntmps4
  go_upto_region 4 with (first
    | (go_at_call_of 15 (Value.slice A n c1); refine (refOf_c A n c1 la _ HI.out.1 HI.out.2.2.1 (by omega)).mono ?_; rintro e w1 ⟨vx, rfl, hv, hb⟩; have H1 := Lib.hid (And.intro hv hb); have z1 := hb.size; clear hv hb)
    | (go_at_call_of 15 (Value.slice B m c2); refine (refOf_c B m c2 lb _ (HI.out.2.1.keep H1.out.2) HI.out.2.2.2 (by omega)).mono ?_; rintro e w2 ⟨vy, rfl, hv, hb⟩; have H2 := Lib.hid (And.intro hv hb); have z2 := hb.size; clear hv hb))
  have hb02 : Below w.heap.size w w2 := H1.out.2.trans (H2.out.2.mono z1)
  have HB2 := Lib.hid hb02
  clear hb02
  go_upto_region 5 with (first
    | (go_at_call_of 8 (Value.slice A n c1); refine (limbs_c A n c1 la _ (HI.out.1.keep HB2.out) HI.out.2.2.1 (by omega) hn1).mono ?_; rintro e w3 ⟨v1, rfl, hv, hb⟩; obtain ⟨A3, n3, d3, l3, rfl, hv⟩ := hv; have H3 := Lib.hid (And.intro hv hb); have z3 := hb.size; clear hv hb)
    | (go_at_call_of 8 (Value.slice B m c2); refine (limbs_c B m c2 lb _ ((HI.out.2.1.keep HB2.out).keep H3.out.2) HI.out.2.2.2 (by omega) hm1).mono ?_; rintro e w4 ⟨v1, rfl, hv, hb⟩; obtain ⟨A4, n4, d4, l4, rfl, hv⟩ := hv; have H4 := Lib.hid (And.intro hv hb); have z4 := hb.size; clear hv hb))
  have i3 : IsNat 0 w4 (.agg #[.slice A3 n3 d3]) (val 18446744073709551616 la) := (IsNat.mono (⟨A3, n3, d3, l3, rfl, H3.out.1⟩ : IsNat w2.heap.size w3 _ _) (Nat.zero_le _)).keep H4.out.2
  have i4 : IsNat 0 w4 (.agg #[.slice A4 n4 d4]) (val 18446744073709551616 lb) := (IsNat.mono (⟨A4, n4, d4, l4, rfl, H4.out.1⟩ : IsNat w3.heap.size w4 _ _) (Nat.zero_le _))
  have b24 : Below w2.heap.size w2 w4 := H3.out.2.trans (H4.out.2.mono z3)
  have b46 : Below w4.heap.size w4 ((w4.alloc (.cells #[.slice A3 n3 d3] 25)).alloc (.cells #[.slice A4 n4 d4] 25)) := ((Below.refl _ _).alloc (Nat.le_refl _) _).alloc (by simp) _
  have b26 := b24.trans (b46.mono b24.size)
  have x1 : BoxN ((w4.alloc (.cells #[.slice A3 n3 d3] 25)).alloc (.cells #[.slice A4 n4 d4] 25)) w4.heap.size (val 18446744073709551616 la) := ⟨_, (Bk.new _ _ _).alloc _, i3.keep b46⟩
  have x2 : BoxN ((w4.alloc (.cells #[.slice A3 n3 d3] 25)).alloc (.cells #[.slice A4 n4 d4] 25)) (w4.heap.size + 1) (val 18446744073709551616 lb) := ⟨_, by have := Bk.new (w4.alloc (.cells #[.slice A3 n3 d3] 25)) 25 #[.slice A4 n4 d4]; simpa using this, i4.keep b46⟩
  have HT := Lib.hid (And.intro x1 (And.intro x2 (And.intro ((H1.out.1.keep H2.out.2).keep b26) (And.intro (H2.out.1.keep b26) (HB2.out.trans (b26.mono HB2.out.size))))))
  clear x1 x2 b24 b46 b26 i3 i4 H1 H2 H3 H4 HB2 HI
  generalize ((w4.alloc (.cells #[.slice A3 n3 d3] 25)).alloc (.cells #[.slice A4 n4 d4] 25)) = wz at *
  generalize val 18446744073709551616 la = X at *
  generalize val 18446744073709551616 lb = Y at *
  generalize w4.heap.size = g9 at *
  obtain ⟨sx, kx, ix⟩ := HT.out.1
  obtain ⟨sy, ky, iy⟩ := HT.out.2.1
  have cx := kx.cell 0
  have cy := ky.cell 0
  have zx := kx.lt
  have zy := ky.lt
  simp at cx cy
  have HK := Lib.hid (And.intro kx (And.intro ky (And.intro ix iy)))
  clear kx ky ix iy
  obtain ⟨q, hq⟩ : ∃ q, cmpI X Y = q := ⟨_, rfl⟩
  have HQ := Lib.hid hq
  clear hq
  obtain ⟨e14, he14⟩ : ∃ e14, (if X < Y then (11 : Int) else 0) = e14 := ⟨_, rfl⟩
  have HE14 := Lib.hid he14
  clear he14
  go_upto_region 8 with (first
    | (go_at_call 16; refine (rAdd_w HT.out.2.2.1 HT.out.2.2.2.1 (fits_le hX (by decide)) (fits_le hY (by decide))).mono ?_; rintro e w5 ⟨vs, rfl, hv, hb⟩; have H5 := Lib.hid (And.intro hv hb); clear hv hb)
    | (go_at_call 17; refine (rMul_w (HT.out.2.2.1.keep H5.out.2) (HT.out.2.2.2.1.keep H5.out.2) (fits_le hX (by decide)) (fits_le hY (by decide))).mono ?_; rintro e w6 ⟨vp, rfl, hv, hb⟩; have b06 := H5.out.2.trans (hb.mono H5.out.2.size); have kx6 := HK.out.1.keep b06; have ky6 := HK.out.2.1.keep b06; have cx6 := kx6.cell 0; have cy6 := ky6.cell 0; simp at cx6 cy6; have H6 := Lib.hid (And.intro hv (And.intro hb b06)); clear hv hb b06 kx6 ky6)
    | (go_at_call 12; refine (sub_w (HK.out.2.2.1.keep H6.out.2.2) (HK.out.2.2.2.keep H6.out.2.2) (fits_le hX (by decide)) (fits_le hY (by decide))).mono ?_; rintro e w7 ⟨A7, n7, d7, rfl, hv, hb⟩; rw [HE14.out]; have z7 := hb.size; have H7 := Lib.hid (And.intro hv hb); clear hv hb)
    | (go_at_call 18; have b07 := (H6.out.2.2.trans (H7.out.2.mono H6.out.2.2.size)).alloc (Nat.le_trans H6.out.2.2.size z7) (.cells #[.slice A7 n7 d7] 25); refine (rCmp_w (HT.out.2.2.1.keep b07) (HT.out.2.2.2.1.keep b07) (fits_le hX (by decide)) (fits_le hY (by decide)) HQ.out).mono ?_; rintro e w8 ⟨rfl, hb⟩; have H8 := Lib.hid (And.intro b07 hb); clear b07 hb))
  have b68 : Below w6.heap.size w6 w8 := (H7.out.2.alloc z7 _).trans (H8.out.2.mono (by simp; omega))
  have b58 : Below w5.heap.size w5 w8 := H6.out.2.1.trans (b68.mono H6.out.2.1.size)
  have bz8 : Below wz.heap.size wz w8 := H8.out.1.trans (H8.out.2.mono H8.out.1.size)
  have hd : BoxN w8 w7.heap.size (X - Y) := BoxN.keep (⟨_, Bk.new _ _ _, H7.out.1.alloc _⟩ : BoxN (w7.alloc (.cells #[.slice A7 n7 d7] 25)) w7.heap.size (X - Y)) H8.out.2
  have HD0 := Lib.hid hd
  have HT2 := Lib.hid (And.intro (HT.out.1.keep bz8) (And.intro (HT.out.2.1.keep bz8) (And.intro (HT.out.2.2.1.keep bz8) (And.intro (HT.out.2.2.2.1.keep bz8) (And.intro (H5.out.1.keep b58) (And.intro (H6.out.1.keep b68) (HT.out.2.2.2.2.trans (bz8.mono HT.out.2.2.2.2.size))))))))
  clear b68 b58 bz8 hd HT H5 H6 H7 H8 HK cx cy cx6 cy6 zx zy z7
  have HT := HT2
  clear HT2
  generalize w7.heap.size = g13 at *
  clear w7
  generalize w8 = wz at *
  go_cut [80] (fun s80 wx => s80 = .bool false ∧ Below wz.heap.size wz wx)
  case first =>
    by_cases hxy : X < Y
    · have hq0 : decide (q < 0) = true := by have := HQ.out; unfold cmpI at this; rw [if_pos hxy] at this; subst this; decide
      obtain rfl : e14 = 11 := by have := HE14.out; rw [if_pos hxy] at this; exact this.symm
      have hd0 := HD0.out
      rw [show X - Y = 0 by omega] at hd0
      have HD := Lib.hid hd0
      clear hd0
      clear HD0 hxy
      refine wp_region_walk [0, 1, 2, 3, 4, 5, 6, 7, 8, 9, 10, 11, 12, 13, 14, 15, 16, 17, 18, 19, 20, 21, 22, 23, 24, 25, 26, 27] [53, 54, 55, 56, 57, 58, 59, 60, 61, 62, 63, 64, 65, 66, 67, 68, 69, 70, 71, 72, 73, 74, 75, 76, 77, 78, 79, 80] 0 (by kernel_rfl) (by kernel_rfl) (by kernel_rfl) rfl (by simp) (by kernel_rfl) (by kernel_rfl) ?_
      apply RegW.val 0 rfl
      · intro a w' hF hB hd; have e15 := hF.2.2 15 (by decide); simp at e15; clear hd hF; refine wpOp_step rfl (fun K' hK => ?_); go_simp; exact hK _ _ ⟨_, rfl, Below.refl _ _, cst_ok⟩
      apply RegW.val 1 rfl
      · intro a w' hF hB hd; have e14 := hF.2.2 14 (by decide); simp at e14; clear hd hF; refine wpOp_step rfl (fun K' hK => ?_); go_simp; exact hK _ _ ⟨_, rfl, Below.refl _ _, cst_ok⟩
      apply RegW.val 2 rfl
      · intro a w' hF hB hd; have v1 : a.tmps[54]?.getD undef = _ := hd 1 (of_decide_eq_true (by kernel_rfl)) 0 _ _ rfl rfl; clear hd hF; refine wpOp_step rfl (fun K' hK => ?_); go_simp; exact hK _ _ ⟨_, rfl, Below.refl _ _, cst_ok⟩
      apply RegW.val 3 rfl
      · intro a w' hF hB hd; have v0 : a.tmps[53]?.getD undef = _ := hd 0 (of_decide_eq_true (by kernel_rfl)) 2 _ _ rfl rfl; have v2 : a.tmps[55]?.getD undef = _ := hd 2 (of_decide_eq_true (by kernel_rfl)) 0 _ _ rfl rfl; clear hd hF; refine wpOp_step rfl (fun K' hK => ?_); go_simp; exact hK _ _ ⟨_, rfl, Below.refl _ _, cst_ok⟩
      apply RegW.val 4 rfl
      · intro a w' hF hB hd; have v3 : a.tmps[56]?.getD undef = _ := hd 3 (of_decide_eq_true (by kernel_rfl)) 0 _ _ rfl rfl; clear hd hF; refine wpOp_step rfl (fun K' hK => ?_); go_simp; exact hK _ _ ⟨_, rfl, Below.refl _ _, cst_ok⟩
      apply RegW.val 5 rfl
      · intro a w' hF hB hd; have v4 : a.tmps[57]?.getD undef = _ := hd 4 (of_decide_eq_true (by kernel_rfl)) 0 _ _ rfl rfl; have gd := tmp_bool v4; have e15 := hF.2.2 15 (by decide); simp at e15; clear hd hF; refine wpOp_step rfl (fun K' hK => ?_); go_simp; exact hK _ _ ⟨_, rfl, Below.refl _ _, cst_ok⟩
      apply RegW.val 6 rfl
      · intro a w' hF hB hd; have v4 : a.tmps[57]?.getD undef = _ := hd 4 (of_decide_eq_true (by kernel_rfl)) 1 _ _ rfl rfl; have v5 : a.tmps[58]?.getD undef = _ := hd 5 (of_decide_eq_true (by kernel_rfl)) 0 _ _ rfl rfl; have gd := tmp_bool v4; clear hd hF; refine wpOp_step rfl (fun K' hK => ?_); go_simp; exact hK _ _ ⟨_, rfl, Below.refl _ _, cst_ok⟩
      apply RegW.val 7 rfl
      · intro a w' hF hB hd; have v4 : a.tmps[57]?.getD undef = _ := hd 4 (of_decide_eq_true (by kernel_rfl)) 2 _ _ rfl rfl; have v6 : a.tmps[59]?.getD undef = _ := hd 6 (of_decide_eq_true (by kernel_rfl)) 0 _ _ rfl rfl; have gd := tmp_bool v4; clear hd hF; refine wpOp_step rfl (fun K' hK => ?_); go_simp; exact hK _ _ ⟨_, rfl, Below.refl _ _, cst_ok⟩
      refine RegW.skip 8 7 60 _ _ _ _ rfl rfl rfl rfl rfl rfl (by kernel_rfl) 0 rfl rfl rfl ?_
      refine RegW.skip 9 7 60 _ _ _ _ rfl rfl rfl rfl rfl rfl (by kernel_rfl) 1 rfl rfl rfl ?_
      refine RegW.skip 10 7 60 _ _ _ _ rfl rfl rfl rfl rfl rfl (by kernel_rfl) 2 rfl rfl rfl ?_
      refine RegW.skip 11 10 63 _ _ _ _ rfl rfl rfl rfl rfl rfl (by kernel_rfl) 0 rfl rfl rfl ?_
      refine RegW.skip 12 10 63 _ _ _ _ rfl rfl rfl rfl rfl rfl (by kernel_rfl) 1 rfl rfl rfl ?_
      refine RegW.skip 13 10 63 _ _ _ _ rfl rfl rfl rfl rfl rfl (by kernel_rfl) 2 rfl rfl rfl ?_
      refine RegW.skip 14 10 63 _ _ _ _ rfl rfl rfl rfl rfl rfl (by kernel_rfl) 3 rfl rfl rfl ?_
      refine RegW.skip 15 10 63 _ _ _ _ rfl rfl rfl rfl rfl rfl (by kernel_rfl) 4 rfl rfl rfl ?_
      refine RegW.skip 16 10 63 _ _ _ _ rfl rfl rfl rfl rfl rfl (by kernel_rfl) 5 rfl rfl rfl ?_
      refine RegW.skip 17 7 60 _ _ _ _ rfl rfl rfl rfl rfl rfl (by kernel_rfl) 9 rfl rfl rfl ?_
      apply RegW.val 18 rfl
      · intro a w' hF hB hd; have v4 : a.tmps[57]?.getD undef = _ := hd 4 (of_decide_eq_true (by kernel_rfl)) 13 _ _ rfl rfl; have v7 : a.tmps[60]?.getD undef = _ := hd 7 (of_decide_eq_true (by kernel_rfl)) 10 _ _ rfl rfl; have v17 : a.tmps[70]?.getD undef = _ := hd 17 (of_decide_eq_true (by kernel_rfl)) 0 _ _ rfl rfl; have gd := tmp_bool v4; clear hd hF; refine wpOp_step rfl (fun K' hK => ?_); go_simp; exact hK _ _ ⟨_, rfl, Below.refl _ _, cst_ok⟩
      apply RegW.val 19 rfl
      · intro a w' hF hB hd; have v4 : a.tmps[57]?.getD undef = _ := hd 4 (of_decide_eq_true (by kernel_rfl)) 14 _ _ rfl rfl; have v18 : a.tmps[71]?.getD undef = _ := hd 18 (of_decide_eq_true (by kernel_rfl)) 0 _ _ rfl rfl; clear hd hF; refine wpOp_step rfl (fun K' hK => ?_); go_simp; exact hK _ _ ⟨_, rfl, Below.refl _ _, cst_ok⟩
      apply RegW.val 20 rfl
      · intro a w' hF hB hd; have v19 : a.tmps[72]?.getD undef = _ := hd 19 (of_decide_eq_true (by kernel_rfl)) 0 _ _ rfl rfl; clear hd hF; refine wpOp_step rfl (fun K' hK => ?_); go_simp; exact hK _ _ ⟨_, rfl, Below.refl _ _, cst_ok⟩
      apply RegW.val 21 rfl
      · intro a w' hF hB hd; have v20 : a.tmps[73]?.getD undef = _ := hd 20 (of_decide_eq_true (by kernel_rfl)) 0 _ _ rfl rfl; have gd := tmp_bool v20; have e15 := hF.2.2 15 (by decide); simp at e15; clear hd hF; refine wpOp_step rfl (fun K' hK => ?_); go_simp; exact hK _ _ ⟨_, rfl, Below.refl _ _, cst_ok⟩
      apply RegW.val 22 rfl
      · intro a w' hF hB hd; have v20 : a.tmps[73]?.getD undef = _ := hd 20 (of_decide_eq_true (by kernel_rfl)) 1 _ _ rfl rfl; have v21 : a.tmps[74]?.getD undef = _ := hd 21 (of_decide_eq_true (by kernel_rfl)) 0 _ _ rfl rfl; have gd := tmp_bool v20; clear hd hF; refine wpOp_step rfl (fun K' hK => ?_); go_simp; exact hK _ _ ⟨_, rfl, Below.refl _ _, cst_ok⟩
      apply RegW.num 23 rfl
      · intro a w' hF hB hd; have v22 : a.tmps[75]?.getD undef = _ := hd 22 (of_decide_eq_true (by kernel_rfl)) 0 _ _ rfl rfl; have gd := tmp_bool v22; have e13 := hF.2.2 13 (by decide); simp at e13; clear hd hF; obtain ⟨sv, hk, hi⟩ := (HD.out).keep hB; have c0 := hk.cell 0; simp at c0; refine wpOp_step rfl (fun K' hK => ?_); go_simp; exact hK _ _ ⟨_, rfl, Below.refl _ _, ⟨_, rfl, hi⟩⟩
      apply RegW.val 24 rfl
      · intro a w' hF hB hd; have v22 : a.tmps[75]?.getD undef = _ := hd 22 (of_decide_eq_true (by kernel_rfl)) 1 _ _ rfl rfl; have u23 := hd 23 (of_decide_eq_true (by kernel_rfl)) 0 _ _ rfl rfl; obtain ⟨x23, p23, q23⟩ := u23; have gd := tmp_bool v22; clear hd hF; refine wpOp_step rfl (fun K' hK => ?_); go_simp; refine (is_nil q23 rfl).mono ?_; rintro e w1 ⟨rfl, hb⟩; exact hK _ _ ⟨_, rfl, hb, cst_ok⟩
      apply RegW.val 25 rfl
      · intro a w' hF hB hd; have v22 : a.tmps[75]?.getD undef = _ := hd 22 (of_decide_eq_true (by kernel_rfl)) 2 _ _ rfl rfl; have v24 : a.tmps[77]?.getD undef = _ := hd 24 (of_decide_eq_true (by kernel_rfl)) 0 _ _ rfl rfl; have gd := tmp_bool v22; clear hd hF; refine wpOp_step rfl (fun K' hK => ?_); go_simp; exact hK _ _ ⟨_, rfl, Below.refl _ _, cst_ok⟩
      apply RegW.val 26 rfl
      · intro a w' hF hB hd; have v20 : a.tmps[73]?.getD undef = _ := hd 20 (of_decide_eq_true (by kernel_rfl)) 5 _ _ rfl rfl; have v22 : a.tmps[75]?.getD undef = _ := hd 22 (of_decide_eq_true (by kernel_rfl)) 3 _ _ rfl rfl; have v25 : a.tmps[78]?.getD undef = _ := hd 25 (of_decide_eq_true (by kernel_rfl)) 0 _ _ rfl rfl; have gd := tmp_bool v20; clear hd hF; refine wpOp_step rfl (fun K' hK => ?_); go_simp; exact hK _ _ ⟨_, rfl, Below.refl _ _, cst_ok⟩
      apply RegW.val 27 rfl
      · intro a w' hF hB hd; have v20 : a.tmps[73]?.getD undef = _ := hd 20 (of_decide_eq_true (by kernel_rfl)) 6 _ _ rfl rfl; have v26 : a.tmps[79]?.getD undef = _ := hd 26 (of_decide_eq_true (by kernel_rfl)) 0 _ _ rfl rfl; clear hd hF; refine wpOp_step rfl (fun K' hK => ?_); go_simp; exact hK _ _ ⟨_, rfl, Below.refl _ _, cst_ok⟩
      refine RegW.done (fun a w' hF hB hv => ?_)
      have v0 : a.tmps[53]?.getD undef = _ := hv 27 _ _ rfl
      have v1 : a.tmps[54]?.getD undef = _ := hv 26 _ _ rfl
      have v2 : a.tmps[55]?.getD undef = _ := hv 25 _ _ rfl
      have v3 : a.tmps[56]?.getD undef = _ := hv 24 _ _ rfl
      have v4 : a.tmps[57]?.getD undef = _ := hv 23 _ _ rfl
      have v5 : a.tmps[58]?.getD undef = _ := hv 22 _ _ rfl
      have v6 : a.tmps[59]?.getD undef = _ := hv 21 _ _ rfl
      have v7 : a.tmps[60]?.getD undef = _ := hv 20 _ _ rfl
      have v8 : a.tmps[61]?.getD undef = _ := hv 19 _ _ rfl
      have v9 : a.tmps[62]?.getD undef = _ := hv 18 _ _ rfl
      have v10 : a.tmps[63]?.getD undef = _ := hv 17 _ _ rfl
      have v11 : a.tmps[64]?.getD undef = _ := hv 16 _ _ rfl
      have v12 : a.tmps[65]?.getD undef = _ := hv 15 _ _ rfl
      have v13 : a.tmps[66]?.getD undef = _ := hv 14 _ _ rfl
      have v14 : a.tmps[67]?.getD undef = _ := hv 13 _ _ rfl
      have v15 : a.tmps[68]?.getD undef = _ := hv 12 _ _ rfl
      have v16 : a.tmps[69]?.getD undef = _ := hv 11 _ _ rfl
      have v17 : a.tmps[70]?.getD undef = _ := hv 10 _ _ rfl
      have v18 : a.tmps[71]?.getD undef = _ := hv 9 _ _ rfl
      have v19 : a.tmps[72]?.getD undef = _ := hv 8 _ _ rfl
      have v20 : a.tmps[73]?.getD undef = _ := hv 7 _ _ rfl
      have v21 : a.tmps[74]?.getD undef = _ := hv 6 _ _ rfl
      have v22 : a.tmps[75]?.getD undef = _ := hv 5 _ _ rfl
      have u23 := hv 4 _ _ rfl
      obtain ⟨x23, p23, q23⟩ := u23
      have v24 : a.tmps[77]?.getD undef = _ := hv 3 _ _ rfl
      have v25 : a.tmps[78]?.getD undef = _ := hv 2 _ _ rfl
      have v26 : a.tmps[79]?.getD undef = _ := hv 1 _ _ rfl
      have v27 : a.tmps[80]?.getD undef = _ := hv 0 _ _ rfl
      have hE := hF.out
      rw [hE]
      clear hE hF hv
      simp only [List.foldl_cons, List.foldl_nil, Act.put, List.setIfInBounds_toArray, List.set_cons_zero, List.set_cons_succ, Array.getD_eq_getD_getElem?, v0, v1, v2, v3, v4, v5, v6, v7, v8, v9, v10, v11, v12, v13, v14, v15, v16, v17, v18, v19, v20, v21, v22, p23, v24, v25, v26, v27]
      clear v0 v1 v2 v3 v4 v5 v6 v7 v8 v9 v10 v11 v12 v13 v14 v15 v16 v17 v18 v19 v20 v21 v22 p23 v24 v25 v26 v27
      have hE0 := hB
      clear hB
      go_wp2_with fail
      go_meet
      exact ⟨rfl, hE0⟩
    · have hq0 : decide (q < 0) = false := by
        have := HQ.out
        unfold cmpI at this
        rw [if_neg hxy] at this
        split at this <;> (subst this; decide)
      obtain rfl : e14 = 0 := by have := HE14.out; rw [if_neg hxy] at this; exact this.symm
      have HD := HD0
      have hle : Y ≤ X := by omega
      clear HD0 hxy
      refine wp_region_walk [0, 1, 2, 3, 4, 5, 6, 7, 8, 9, 10, 11, 12, 13, 14, 15, 16, 17, 18, 19, 20, 21, 22, 23, 24, 25, 26, 27] [53, 54, 55, 56, 57, 58, 59, 60, 61, 62, 63, 64, 65, 66, 67, 68, 69, 70, 71, 72, 73, 74, 75, 76, 77, 78, 79, 80] 0 (by kernel_rfl) (by kernel_rfl) (by kernel_rfl) rfl (by simp) (by kernel_rfl) (by kernel_rfl) ?_
      apply RegW.val 0 rfl
      · intro a w' hF hB hd; have e15 := hF.2.2 15 (by decide); simp at e15; clear hd hF; refine wpOp_step rfl (fun K' hK => ?_); go_simp; exact hK _ _ ⟨_, rfl, Below.refl _ _, cst_ok⟩
      apply RegW.val 1 rfl
      · intro a w' hF hB hd; have e14 := hF.2.2 14 (by decide); simp at e14; clear hd hF; refine wpOp_step rfl (fun K' hK => ?_); go_simp; exact hK _ _ ⟨_, rfl, Below.refl _ _, cst_ok⟩
      apply RegW.val 2 rfl
      · intro a w' hF hB hd; have v1 : a.tmps[54]?.getD undef = _ := hd 1 (of_decide_eq_true (by kernel_rfl)) 0 _ _ rfl rfl; clear hd hF; refine wpOp_step rfl (fun K' hK => ?_); go_simp; exact hK _ _ ⟨_, rfl, Below.refl _ _, cst_ok⟩
      apply RegW.val 3 rfl
      · intro a w' hF hB hd; have v0 : a.tmps[53]?.getD undef = _ := hd 0 (of_decide_eq_true (by kernel_rfl)) 2 _ _ rfl rfl; have v2 : a.tmps[55]?.getD undef = _ := hd 2 (of_decide_eq_true (by kernel_rfl)) 0 _ _ rfl rfl; clear hd hF; refine wpOp_step rfl (fun K' hK => ?_); go_simp; exact hK _ _ ⟨_, rfl, Below.refl _ _, cst_ok⟩
      apply RegW.val 4 rfl
      · intro a w' hF hB hd; have v3 : a.tmps[56]?.getD undef = _ := hd 3 (of_decide_eq_true (by kernel_rfl)) 0 _ _ rfl rfl; clear hd hF; refine wpOp_step rfl (fun K' hK => ?_); go_simp; exact hK _ _ ⟨_, rfl, Below.refl _ _, cst_ok⟩
      apply RegW.val 5 rfl
      · intro a w' hF hB hd; have v4 : a.tmps[57]?.getD undef = _ := hd 4 (of_decide_eq_true (by kernel_rfl)) 0 _ _ rfl rfl; have gd := tmp_bool v4; have e15 := hF.2.2 15 (by decide); simp at e15; clear hd hF; refine wpOp_step rfl (fun K' hK => ?_); go_simp; exact hK _ _ ⟨_, rfl, Below.refl _ _, cst_ok⟩
      apply RegW.val 6 rfl
      · intro a w' hF hB hd; have v4 : a.tmps[57]?.getD undef = _ := hd 4 (of_decide_eq_true (by kernel_rfl)) 1 _ _ rfl rfl; have v5 : a.tmps[58]?.getD undef = _ := hd 5 (of_decide_eq_true (by kernel_rfl)) 0 _ _ rfl rfl; have gd := tmp_bool v4; clear hd hF; refine wpOp_step rfl (fun K' hK => ?_); go_simp; exact hK _ _ ⟨_, rfl, Below.refl _ _, cst_ok⟩
      apply RegW.val 7 rfl
      · intro a w' hF hB hd; have v4 : a.tmps[57]?.getD undef = _ := hd 4 (of_decide_eq_true (by kernel_rfl)) 2 _ _ rfl rfl; have v6 : a.tmps[59]?.getD undef = _ := hd 6 (of_decide_eq_true (by kernel_rfl)) 0 _ _ rfl rfl; have gd := tmp_bool v4; clear hd hF; refine wpOp_step rfl (fun K' hK => ?_); go_simp; exact hK _ _ ⟨_, rfl, Below.refl _ _, cst_ok⟩
      apply RegW.val 8 rfl
      · intro a w' hF hB hd; have v7 : a.tmps[60]?.getD undef = _ := hd 7 (of_decide_eq_true (by kernel_rfl)) 0 _ _ rfl rfl; have gd := tmp_bool v7; have e14 := hF.2.2 14 (by decide); simp at e14; clear hd hF; refine wpOp_step rfl (fun K' hK => ?_); go_simp; exact hK _ _ ⟨_, rfl, Below.refl _ _, cst_ok⟩
      apply RegW.val 9 rfl
      · intro a w' hF hB hd; have v7 : a.tmps[60]?.getD undef = _ := hd 7 (of_decide_eq_true (by kernel_rfl)) 1 _ _ rfl rfl; have v8 : a.tmps[61]?.getD undef = _ := hd 8 (of_decide_eq_true (by kernel_rfl)) 0 _ _ rfl rfl; have gd := tmp_bool v7; clear hd hF; refine wpOp_step rfl (fun K' hK => ?_); go_simp; exact hK _ _ ⟨_, rfl, Below.refl _ _, cst_ok⟩
      apply RegW.val 10 rfl
      · intro a w' hF hB hd; have v7 : a.tmps[60]?.getD undef = _ := hd 7 (of_decide_eq_true (by kernel_rfl)) 2 _ _ rfl rfl; have v9 : a.tmps[62]?.getD undef = _ := hd 9 (of_decide_eq_true (by kernel_rfl)) 0 _ _ rfl rfl; have gd := tmp_bool v7; clear hd hF; refine wpOp_step rfl (fun K' hK => ?_); go_simp; exact hK _ _ ⟨_, rfl, Below.refl _ _, cst_ok⟩
      apply RegW.num 11 rfl
      · intro a w' hF hB hd; have v10 : a.tmps[63]?.getD undef = _ := hd 10 (of_decide_eq_true (by kernel_rfl)) 0 _ _ rfl rfl; have gd := tmp_bool v10; have e13 := hF.2.2 13 (by decide); simp at e13; clear hd hF; obtain ⟨sv, hk, hi⟩ := (HD.out).keep hB; have c0 := hk.cell 0; simp at c0; refine wpOp_step rfl (fun K' hK => ?_); go_simp; exact hK _ _ ⟨_, rfl, Below.refl _ _, ⟨_, rfl, hi⟩⟩
      apply RegW.val 12 rfl
      · intro a w' hF hB hd; have v10 : a.tmps[63]?.getD undef = _ := hd 10 (of_decide_eq_true (by kernel_rfl)) 1 _ _ rfl rfl; have gd := tmp_bool v10; have e7 := hF.2.2 7 (by decide); simp at e7; clear hd hF; refine wpOp_step rfl (fun K' hK => ?_); go_simp; exact hK _ _ ⟨_, rfl, Below.refl _ _, cst_ok⟩
      apply RegW.val 13 rfl
      · intro a w' hF hB hd; have v10 : a.tmps[63]?.getD undef = _ := hd 10 (of_decide_eq_true (by kernel_rfl)) 2 _ _ rfl rfl; have gd := tmp_bool v10; have e8 := hF.2.2 8 (by decide); simp at e8; clear hd hF; refine wpOp_step rfl (fun K' hK => ?_); go_simp; exact hK _ _ ⟨_, rfl, Below.refl _ _, cst_ok⟩
      apply RegW.byt 14 rfl
      · intro a w' hF hB hd; have v10 : a.tmps[63]?.getD undef = _ := hd 10 (of_decide_eq_true (by kernel_rfl)) 3 _ _ rfl rfl; have v12 : a.tmps[65]?.getD undef = _ := hd 12 (of_decide_eq_true (by kernel_rfl)) 1 _ _ rfl rfl; have v13 : a.tmps[66]?.getD undef = _ := hd 13 (of_decide_eq_true (by kernel_rfl)) 0 _ _ rfl rfl; have gd := tmp_bool v10; clear hd hF; refine wpOp_step rfl (fun K' hK => ?_); go_simp; refine (rSub_w (HT.out.2.2.1.keep hB) (HT.out.2.2.2.1.keep hB) (fits_le hX (by decide)) (fits_le hY (by decide)) (hle)).mono ?_; rintro e w1 ⟨x, rfl, hx, hb⟩; exact hK _ _ ⟨_, rfl, hb, ⟨_, rfl, hx⟩⟩
      apply RegW.val 15 rfl
      · intro a w' hF hB hd; have v10 : a.tmps[63]?.getD undef = _ := hd 10 (of_decide_eq_true (by kernel_rfl)) 4 _ _ rfl rfl; have u11 := hd 11 (of_decide_eq_true (by kernel_rfl)) 3 _ _ rfl rfl; obtain ⟨x11, p11, q11⟩ := u11; have u14 := hd 14 (of_decide_eq_true (by kernel_rfl)) 0 _ _ rfl rfl; obtain ⟨x14, p14, q14⟩ := u14; have gd := tmp_bool v10; clear hd hF; refine wpOp_step rfl (fun K' hK => ?_); go_simp; refine (is_w q11 q14 (fits_le (fits_sub hX) (by decide))).mono ?_; rintro e w1 ⟨rfl, hb⟩; exact hK _ _ ⟨_, rfl, hb, cst_ok⟩
      apply RegW.val 16 rfl
      · intro a w' hF hB hd; have v10 : a.tmps[63]?.getD undef = _ := hd 10 (of_decide_eq_true (by kernel_rfl)) 5 _ _ rfl rfl; have v15 : a.tmps[68]?.getD undef = _ := hd 15 (of_decide_eq_true (by kernel_rfl)) 0 _ _ rfl rfl; have gd := tmp_bool v10; clear hd hF; refine wpOp_step rfl (fun K' hK => ?_); go_simp; exact hK _ _ ⟨_, rfl, Below.refl _ _, cst_ok⟩
      apply RegW.val 17 rfl
      · intro a w' hF hB hd; have v7 : a.tmps[60]?.getD undef = _ := hd 7 (of_decide_eq_true (by kernel_rfl)) 9 _ _ rfl rfl; have v10 : a.tmps[63]?.getD undef = _ := hd 10 (of_decide_eq_true (by kernel_rfl)) 6 _ _ rfl rfl; have v16 : a.tmps[69]?.getD undef = _ := hd 16 (of_decide_eq_true (by kernel_rfl)) 0 _ _ rfl rfl; have gd := tmp_bool v7; clear hd hF; refine wpOp_step rfl (fun K' hK => ?_); go_simp; exact hK _ _ ⟨_, rfl, Below.refl _ _, cst_ok⟩
      apply RegW.val 18 rfl
      · intro a w' hF hB hd; have v4 : a.tmps[57]?.getD undef = _ := hd 4 (of_decide_eq_true (by kernel_rfl)) 13 _ _ rfl rfl; have v7 : a.tmps[60]?.getD undef = _ := hd 7 (of_decide_eq_true (by kernel_rfl)) 10 _ _ rfl rfl; have v17 : a.tmps[70]?.getD undef = _ := hd 17 (of_decide_eq_true (by kernel_rfl)) 0 _ _ rfl rfl; have gd := tmp_bool v4; clear hd hF; refine wpOp_step rfl (fun K' hK => ?_); go_simp; exact hK _ _ ⟨_, rfl, Below.refl _ _, cst_ok⟩
      apply RegW.val 19 rfl
      · intro a w' hF hB hd; have v4 : a.tmps[57]?.getD undef = _ := hd 4 (of_decide_eq_true (by kernel_rfl)) 14 _ _ rfl rfl; have v18 : a.tmps[71]?.getD undef = _ := hd 18 (of_decide_eq_true (by kernel_rfl)) 0 _ _ rfl rfl; clear hd hF; refine wpOp_step rfl (fun K' hK => ?_); go_simp; exact hK _ _ ⟨_, rfl, Below.refl _ _, cst_ok⟩
      apply RegW.val 20 rfl
      · intro a w' hF hB hd; have v19 : a.tmps[72]?.getD undef = _ := hd 19 (of_decide_eq_true (by kernel_rfl)) 0 _ _ rfl rfl; clear hd hF; refine wpOp_step rfl (fun K' hK => ?_); go_simp; exact hK _ _ ⟨_, rfl, Below.refl _ _, cst_ok⟩
      apply RegW.val 21 rfl
      · intro a w' hF hB hd; have v20 : a.tmps[73]?.getD undef = _ := hd 20 (of_decide_eq_true (by kernel_rfl)) 0 _ _ rfl rfl; have gd := tmp_bool v20; have e15 := hF.2.2 15 (by decide); simp at e15; clear hd hF; refine wpOp_step rfl (fun K' hK => ?_); go_simp; exact hK _ _ ⟨_, rfl, Below.refl _ _, cst_ok⟩
      apply RegW.val 22 rfl
      · intro a w' hF hB hd; have v20 : a.tmps[73]?.getD undef = _ := hd 20 (of_decide_eq_true (by kernel_rfl)) 1 _ _ rfl rfl; have v21 : a.tmps[74]?.getD undef = _ := hd 21 (of_decide_eq_true (by kernel_rfl)) 0 _ _ rfl rfl; have gd := tmp_bool v20; clear hd hF; refine wpOp_step rfl (fun K' hK => ?_); go_simp; exact hK _ _ ⟨_, rfl, Below.refl _ _, cst_ok⟩
      refine RegW.skip 23 22 75 _ _ _ _ rfl rfl rfl rfl rfl rfl (by kernel_rfl) 0 rfl rfl rfl ?_
      refine RegW.skip 24 22 75 _ _ _ _ rfl rfl rfl rfl rfl rfl (by kernel_rfl) 1 rfl rfl rfl ?_
      refine RegW.skip 25 22 75 _ _ _ _ rfl rfl rfl rfl rfl rfl (by kernel_rfl) 2 rfl rfl rfl ?_
      apply RegW.val 26 rfl
      · intro a w' hF hB hd; have v20 : a.tmps[73]?.getD undef = _ := hd 20 (of_decide_eq_true (by kernel_rfl)) 5 _ _ rfl rfl; have v22 : a.tmps[75]?.getD undef = _ := hd 22 (of_decide_eq_true (by kernel_rfl)) 3 _ _ rfl rfl; have v25 : a.tmps[78]?.getD undef = _ := hd 25 (of_decide_eq_true (by kernel_rfl)) 0 _ _ rfl rfl; have gd := tmp_bool v20; clear hd hF; refine wpOp_step rfl (fun K' hK => ?_); go_simp; exact hK _ _ ⟨_, rfl, Below.refl _ _, cst_ok⟩
      apply RegW.val 27 rfl
      · intro a w' hF hB hd; have v20 : a.tmps[73]?.getD undef = _ := hd 20 (of_decide_eq_true (by kernel_rfl)) 6 _ _ rfl rfl; have v26 : a.tmps[79]?.getD undef = _ := hd 26 (of_decide_eq_true (by kernel_rfl)) 0 _ _ rfl rfl; clear hd hF; refine wpOp_step rfl (fun K' hK => ?_); go_simp; exact hK _ _ ⟨_, rfl, Below.refl _ _, cst_ok⟩
      refine RegW.done (fun a w' hF hB hv => ?_)
      have v0 : a.tmps[53]?.getD undef = _ := hv 27 _ _ rfl
      have v1 : a.tmps[54]?.getD undef = _ := hv 26 _ _ rfl
      have v2 : a.tmps[55]?.getD undef = _ := hv 25 _ _ rfl
      have v3 : a.tmps[56]?.getD undef = _ := hv 24 _ _ rfl
      have v4 : a.tmps[57]?.getD undef = _ := hv 23 _ _ rfl
      have v5 : a.tmps[58]?.getD undef = _ := hv 22 _ _ rfl
      have v6 : a.tmps[59]?.getD undef = _ := hv 21 _ _ rfl
      have v7 : a.tmps[60]?.getD undef = _ := hv 20 _ _ rfl
      have v8 : a.tmps[61]?.getD undef = _ := hv 19 _ _ rfl
      have v9 : a.tmps[62]?.getD undef = _ := hv 18 _ _ rfl
      have v10 : a.tmps[63]?.getD undef = _ := hv 17 _ _ rfl
      have u11 := hv 16 _ _ rfl
      obtain ⟨x11, p11, q11⟩ := u11
      have v12 : a.tmps[65]?.getD undef = _ := hv 15 _ _ rfl
      have v13 : a.tmps[66]?.getD undef = _ := hv 14 _ _ rfl
      have u14 := hv 13 _ _ rfl
      obtain ⟨x14, p14, q14⟩ := u14
      have v15 : a.tmps[68]?.getD undef = _ := hv 12 _ _ rfl
      have v16 : a.tmps[69]?.getD undef = _ := hv 11 _ _ rfl
      have v17 : a.tmps[70]?.getD undef = _ := hv 10 _ _ rfl
      have v18 : a.tmps[71]?.getD undef = _ := hv 9 _ _ rfl
      have v19 : a.tmps[72]?.getD undef = _ := hv 8 _ _ rfl
      have v20 : a.tmps[73]?.getD undef = _ := hv 7 _ _ rfl
      have v21 : a.tmps[74]?.getD undef = _ := hv 6 _ _ rfl
      have v22 : a.tmps[75]?.getD undef = _ := hv 5 _ _ rfl
      have v23 : a.tmps[76]?.getD undef = _ := hv 4 _ _ rfl
      have v24 : a.tmps[77]?.getD undef = _ := hv 3 _ _ rfl
      have v25 : a.tmps[78]?.getD undef = _ := hv 2 _ _ rfl
      have v26 : a.tmps[79]?.getD undef = _ := hv 1 _ _ rfl
      have v27 : a.tmps[80]?.getD undef = _ := hv 0 _ _ rfl
      have hE := hF.out
      rw [hE]
      clear hE hF hv
      simp only [List.foldl_cons, List.foldl_nil, Act.put, List.setIfInBounds_toArray, List.set_cons_zero, List.set_cons_succ, Array.getD_eq_getD_getElem?, v0, v1, v2, v3, v4, v5, v6, v7, v8, v9, v10, p11, v12, v13, p14, v15, v16, v17, v18, v19, v20, v21, v22, v23, v24, v25, v26, v27]
      clear v0 v1 v2 v3 v4 v5 v6 v7 v8 v9 v10 p11 v12 v13 p14 v15 v16 v17 v18 v19 v20 v21 v22 v23 v24 v25 v26 v27
      have hE0 := hB
      clear hB
      go_wp2_with fail
      go_meet
      exact ⟨rfl, hE0⟩
  case rest =>
    obtain ⟨rfl, hbx⟩ := hcut
    have HT2 := Lib.hid (And.intro (HT.out.1.keep hbx) (And.intro (HT.out.2.1.keep hbx) (And.intro (HT.out.2.2.1.keep hbx) (And.intro (HT.out.2.2.2.1.keep hbx) (And.intro (HT.out.2.2.2.2.1.keep hbx) (And.intro (HT.out.2.2.2.2.2.1.keep hbx) (HT.out.2.2.2.2.2.2.trans (hbx.mono HT.out.2.2.2.2.2.2.size))))))))
    clear HT HD0 hbx
    have HT := HT2
    clear HT2
    generalize wc = wz at *
    obtain ⟨sx, kx, ix⟩ := HT.out.1
    obtain ⟨sy, ky, iy⟩ := HT.out.2.1
    have cx := kx.cell 0
    have cy := ky.cell 0
    have zx := kx.lt
    have zy := ky.lt
    simp at cx cy
    have HK := Lib.hid (And.intro kx (And.intro ky (And.intro ix iy)))
    clear kx ky ix iy
    obtain ⟨fa, hfa⟩ : ∃ fa, fitB c (X + Y) = fa := ⟨_, rfl⟩
    obtain ⟨fm, hfm⟩ : ∃ fm, fitB c (X * Y) = fm := ⟨_, rfl⟩
    have HF := Lib.hid (And.intro hfa hfm)
    clear hfa hfm
    go_upto_region 12 with (first
      | (go_at_call 21; refine (capAdd_c _ _ c _ _ X Y _ HK.out.2.2.1 HK.out.2.2.2 (fits_le hX (by decide)) (fits_le hY (by decide))).mono ?_; rintro e w9 ⟨x, rfl, hv, hb⟩; rw [HF.out.1] at hv ⊢; have kx9 := HK.out.1.keep hb; have ky9 := HK.out.2.1.keep hb; have cx9 := kx9.cell 0; have cy9 := ky9.cell 0; have z9 := hb.size; have zx9 := kx9.lt; have zy9 := ky9.lt; simp at cx9 cy9; obtain ⟨A9, n9, d9, l9, rfl, hv⟩ := hv; have H9 := Lib.hid (And.intro hv hb); clear hv hb kx9 ky9)
      | (go_at_call 22; have b9 := H9.out.2.alloc z9 (.cells #[.slice A9 n9 d9] 25); refine (capMul_c _ _ c _ _ X Y _ (HK.out.2.2.1.keep b9) (HK.out.2.2.2.keep b9) (fits_le hX (by decide)) (fits_le hY (by decide))).mono ?_; rintro e w10 ⟨x, rfl, hv, hb⟩; rw [HF.out.2] at hv ⊢; have z10 := hb.size; obtain ⟨A10, n10, d10, l10, rfl, hv⟩ := hv; have H10 := Lib.hid (And.intro hv (And.intro hb b9)); clear hv hb b9))
    have b0 : Below wz.heap.size wz (w10.alloc (.cells #[.slice A10 n10 d10] 25)) := (H10.out.2.2.trans (H10.out.2.1.mono (H10.out.2.2.size))).alloc (Nat.le_trans H10.out.2.2.size z10) _
    have xa : BoxN (w10.alloc (.cells #[.slice A10 n10 d10] 25)) w9.heap.size (if fa = true then X + Y else 0) := BoxN.keep (BoxN.keep (⟨_, Bk.new _ _ _, IsNat.alloc (IsNat.mono (⟨A9, n9, d9, l9, rfl, H9.out.1⟩ : IsNat _ w9 _ _) (Nat.zero_le _)) _⟩ : BoxN (w9.alloc (.cells #[.slice A9 n9 d9] 25)) w9.heap.size _) H10.out.2.1) ((Below.refl _ _).alloc (Nat.le_refl _) _)
    have xm : BoxN (w10.alloc (.cells #[.slice A10 n10 d10] 25)) w10.heap.size (if fm = true then X * Y else 0) := ⟨_, Bk.new _ _ _, IsNat.alloc (IsNat.mono (⟨A10, n10, d10, l10, rfl, H10.out.1⟩ : IsNat _ w10 _ _) (Nat.zero_le _)) _⟩
    have HA0 := Lib.hid xa
    have HM0 := Lib.hid xm
    have HT2 := Lib.hid (And.intro (HT.out.1.keep b0) (And.intro (HT.out.2.1.keep b0) (And.intro (HT.out.2.2.1.keep b0) (And.intro (HT.out.2.2.2.1.keep b0) (And.intro (HT.out.2.2.2.2.1.keep b0) (And.intro (HT.out.2.2.2.2.2.1.keep b0) (HT.out.2.2.2.2.2.2.trans (b0.mono HT.out.2.2.2.2.2.2.size))))))))
    clear HT b0 xa xm H9 H10 HK cx cy zx zy z9 z10 zx9 zy9
    have HT := HT2
    clear HT2
    generalize w9.heap.size = g16 at *
    generalize w10.heap.size = g18 at *
    generalize w10.alloc (.cells #[.slice A10 n10 d10] 25) = wz at *
    go_cut [142] (fun s142 wx => s142 = .bool false ∧ Below wz.heap.size wz wx)
    case first =>
      obtain ⟨hfa, hfm⟩ := HF.out
      have ha0 := HA0.out
      have hm0 := HM0.out
      clear HF HA0 HM0
      cases fa <;> cases fm
      · rw [if_neg (by decide)] at ha0
        rw [if_neg (by decide)] at hm0
        have HA := Lib.hid ha0
        have HM := Lib.hid hm0
        clear ha0 hm0
        refine wp_region_seq [95, 96, 97, 98, 99, 100, 101, 102, 103, 104, 105, 106, 107, 108, 109, 110, 111, 112, 113, 114, 115, 116, 117, 118, 119, 120, 121, 122, 123, 124, 125, 126, 127, 128, 129, 130, 131, 132, 133, 134, 135, 136, 137, 138, 139, 140, 141, 142] (by kernel_rfl) rfl (by simp) (by kernel_rfl) ?_
        apply RegW.val 0 rfl
        · intro a w' hF hB hd; have e17 := hF.2.2 17 (by decide); simp at e17; clear hd hF; refine wpOp_step rfl (fun K' hK => ?_); go_simp; exact hK _ _ ⟨_, rfl, Below.refl _ _, cst_ok⟩
        apply RegW.val 1 rfl
        · intro a w' hF hB hd; have e11 := hF.2.2 11 (by decide); simp at e11; clear hd hF; refine wpOp_step rfl (fun K' hK => ?_); go_simp; exact hK _ _ ⟨_, rfl, Below.refl _ _, cst_ok⟩
        apply RegW.val 2 rfl
        · intro a w' hF hB hd; have e2 := hF.2.2 2 (by decide); simp at e2; clear hd hF; refine wpOp_step rfl (fun K' hK => ?_); go_simp; exact hK _ _ ⟨_, rfl, Below.refl _ _, cst_ok⟩
        apply RegW.val 3 rfl
        · intro a w' hF hB hd; have v1 : a.tmps[96]?.getD undef = _ := hd 1 (of_decide_eq_true (by kernel_rfl)) 1 _ _ rfl rfl; have v2 : a.tmps[97]?.getD undef = _ := hd 2 (of_decide_eq_true (by kernel_rfl)) 0 _ _ rfl rfl; clear hd hF; refine wpOp_step rfl (fun K' hK => ?_); go_simp; refine (rFits_w (HT.out.2.2.2.2.1.keep hB) (fits_le (fits_add hX hY) (by decide)) (hfa)).mono ?_; rintro e w1 ⟨rfl, hb⟩; exact hK _ _ ⟨_, rfl, hb, cst_ok⟩
        apply RegW.val 4 rfl
        · intro a w' hF hB hd; have v0 : a.tmps[95]?.getD undef = _ := hd 0 (of_decide_eq_true (by kernel_rfl)) 3 _ _ rfl rfl; have v3 : a.tmps[98]?.getD undef = _ := hd 3 (of_decide_eq_true (by kernel_rfl)) 0 _ _ rfl rfl; clear hd hF; refine wpOp_step rfl (fun K' hK => ?_); go_simp; exact hK _ _ ⟨_, rfl, Below.refl _ _, cst_ok⟩
        apply RegW.val 5 rfl
        · intro a w' hF hB hd; have v4 : a.tmps[99]?.getD undef = _ := hd 4 (of_decide_eq_true (by kernel_rfl)) 0 _ _ rfl rfl; clear hd hF; refine wpOp_step rfl (fun K' hK => ?_); go_simp; exact hK _ _ ⟨_, rfl, Below.refl _ _, cst_ok⟩
        apply RegW.val 6 rfl
        · intro a w' hF hB hd; have v5 : a.tmps[100]?.getD undef = _ := hd 5 (of_decide_eq_true (by kernel_rfl)) 0 _ _ rfl rfl; have gd := tmp_bool v5; have e19 := hF.2.2 19 (by decide); simp at e19; clear hd hF; refine wpOp_step rfl (fun K' hK => ?_); go_simp; exact hK _ _ ⟨_, rfl, Below.refl _ _, cst_ok⟩
        apply RegW.val 7 rfl
        · intro a w' hF hB hd; have v5 : a.tmps[100]?.getD undef = _ := hd 5 (of_decide_eq_true (by kernel_rfl)) 1 _ _ rfl rfl; have gd := tmp_bool v5; have e12 := hF.2.2 12 (by decide); simp at e12; clear hd hF; refine wpOp_step rfl (fun K' hK => ?_); go_simp; exact hK _ _ ⟨_, rfl, Below.refl _ _, cst_ok⟩
        apply RegW.val 8 rfl
        · intro a w' hF hB hd; have v5 : a.tmps[100]?.getD undef = _ := hd 5 (of_decide_eq_true (by kernel_rfl)) 2 _ _ rfl rfl; have gd := tmp_bool v5; have e2 := hF.2.2 2 (by decide); simp at e2; clear hd hF; refine wpOp_step rfl (fun K' hK => ?_); go_simp; exact hK _ _ ⟨_, rfl, Below.refl _ _, cst_ok⟩
        apply RegW.val 9 rfl
        · intro a w' hF hB hd; have v5 : a.tmps[100]?.getD undef = _ := hd 5 (of_decide_eq_true (by kernel_rfl)) 3 _ _ rfl rfl; have v7 : a.tmps[102]?.getD undef = _ := hd 7 (of_decide_eq_true (by kernel_rfl)) 1 _ _ rfl rfl; have v8 : a.tmps[103]?.getD undef = _ := hd 8 (of_decide_eq_true (by kernel_rfl)) 0 _ _ rfl rfl; have gd := tmp_bool v5; clear hd hF; refine wpOp_step rfl (fun K' hK => ?_); go_simp; refine (rFits_w (HT.out.2.2.2.2.2.1.keep hB) (fits_le (fits_mul hX hY) (by decide)) (hfm)).mono ?_; rintro e w1 ⟨rfl, hb⟩; exact hK _ _ ⟨_, rfl, hb, cst_ok⟩
        apply RegW.val 10 rfl
        · intro a w' hF hB hd; have v5 : a.tmps[100]?.getD undef = _ := hd 5 (of_decide_eq_true (by kernel_rfl)) 4 _ _ rfl rfl; have v6 : a.tmps[101]?.getD undef = _ := hd 6 (of_decide_eq_true (by kernel_rfl)) 3 _ _ rfl rfl; have v9 : a.tmps[104]?.getD undef = _ := hd 9 (of_decide_eq_true (by kernel_rfl)) 0 _ _ rfl rfl; have gd := tmp_bool v5; clear hd hF; refine wpOp_step rfl (fun K' hK => ?_); go_simp; exact hK _ _ ⟨_, rfl, Below.refl _ _, cst_ok⟩
        apply RegW.val 11 rfl
        · intro a w' hF hB hd; have v5 : a.tmps[100]?.getD undef = _ := hd 5 (of_decide_eq_true (by kernel_rfl)) 5 _ _ rfl rfl; have v10 : a.tmps[105]?.getD undef = _ := hd 10 (of_decide_eq_true (by kernel_rfl)) 0 _ _ rfl rfl; clear hd hF; refine wpOp_step rfl (fun K' hK => ?_); go_simp; exact hK _ _ ⟨_, rfl, Below.refl _ _, cst_ok⟩
        apply RegW.val 12 rfl
        · intro a w' hF hB hd; have v11 : a.tmps[106]?.getD undef = _ := hd 11 (of_decide_eq_true (by kernel_rfl)) 0 _ _ rfl rfl; clear hd hF; refine wpOp_step rfl (fun K' hK => ?_); go_simp; exact hK _ _ ⟨_, rfl, Below.refl _ _, cst_ok⟩
        apply RegW.val 13 rfl
        · intro a w' hF hB hd; have v12 : a.tmps[107]?.getD undef = _ := hd 12 (of_decide_eq_true (by kernel_rfl)) 0 _ _ rfl rfl; have gd := tmp_bool v12; have e17 := hF.2.2 17 (by decide); simp at e17; clear hd hF; refine wpOp_step rfl (fun K' hK => ?_); go_simp; exact hK _ _ ⟨_, rfl, Below.refl _ _, cst_ok⟩
        apply RegW.val 14 rfl
        · intro a w' hF hB hd; have v12 : a.tmps[107]?.getD undef = _ := hd 12 (of_decide_eq_true (by kernel_rfl)) 1 _ _ rfl rfl; have v13 : a.tmps[108]?.getD undef = _ := hd 13 (of_decide_eq_true (by kernel_rfl)) 0 _ _ rfl rfl; have gd := tmp_bool v12; clear hd hF; refine wpOp_step rfl (fun K' hK => ?_); go_simp; exact hK _ _ ⟨_, rfl, Below.refl _ _, cst_ok⟩
        refine RegW.skip 15 14 109 _ _ _ _ rfl rfl rfl rfl rfl rfl (by kernel_rfl) 0 rfl rfl rfl ?_
        refine RegW.skip 16 14 109 _ _ _ _ rfl rfl rfl rfl rfl rfl (by kernel_rfl) 1 rfl rfl rfl ?_
        refine RegW.skip 17 14 109 _ _ _ _ rfl rfl rfl rfl rfl rfl (by kernel_rfl) 2 rfl rfl rfl ?_
        refine RegW.skip 18 14 109 _ _ _ _ rfl rfl rfl rfl rfl rfl (by kernel_rfl) 3 rfl rfl rfl ?_
        apply RegW.val 19 rfl
        · intro a w' hF hB hd; have v12 : a.tmps[107]?.getD undef = _ := hd 12 (of_decide_eq_true (by kernel_rfl)) 6 _ _ rfl rfl; have v14 : a.tmps[109]?.getD undef = _ := hd 14 (of_decide_eq_true (by kernel_rfl)) 4 _ _ rfl rfl; have v18 : a.tmps[113]?.getD undef = _ := hd 18 (of_decide_eq_true (by kernel_rfl)) 0 _ _ rfl rfl; have gd := tmp_bool v12; clear hd hF; refine wpOp_step rfl (fun K' hK => ?_); go_simp; exact hK _ _ ⟨_, rfl, Below.refl _ _, cst_ok⟩
        apply RegW.val 20 rfl
        · intro a w' hF hB hd; have v12 : a.tmps[107]?.getD undef = _ := hd 12 (of_decide_eq_true (by kernel_rfl)) 7 _ _ rfl rfl; have v19 : a.tmps[114]?.getD undef = _ := hd 19 (of_decide_eq_true (by kernel_rfl)) 0 _ _ rfl rfl; clear hd hF; refine wpOp_step rfl (fun K' hK => ?_); go_simp; exact hK _ _ ⟨_, rfl, Below.refl _ _, cst_ok⟩
        apply RegW.val 21 rfl
        · intro a w' hF hB hd; have v20 : a.tmps[115]?.getD undef = _ := hd 20 (of_decide_eq_true (by kernel_rfl)) 0 _ _ rfl rfl; clear hd hF; refine wpOp_step rfl (fun K' hK => ?_); go_simp; exact hK _ _ ⟨_, rfl, Below.refl _ _, cst_ok⟩
        apply RegW.val 22 rfl
        · intro a w' hF hB hd; have v21 : a.tmps[116]?.getD undef = _ := hd 21 (of_decide_eq_true (by kernel_rfl)) 0 _ _ rfl rfl; have gd := tmp_bool v21; have e17 := hF.2.2 17 (by decide); simp at e17; clear hd hF; refine wpOp_step rfl (fun K' hK => ?_); go_simp; exact hK _ _ ⟨_, rfl, Below.refl _ _, cst_ok⟩
        apply RegW.val 23 rfl
        · intro a w' hF hB hd; have v21 : a.tmps[116]?.getD undef = _ := hd 21 (of_decide_eq_true (by kernel_rfl)) 1 _ _ rfl rfl; have v22 : a.tmps[117]?.getD undef = _ := hd 22 (of_decide_eq_true (by kernel_rfl)) 0 _ _ rfl rfl; have gd := tmp_bool v21; clear hd hF; refine wpOp_step rfl (fun K' hK => ?_); go_simp; exact hK _ _ ⟨_, rfl, Below.refl _ _, cst_ok⟩
        apply RegW.val 24 rfl
        · intro a w' hF hB hd; have v21 : a.tmps[116]?.getD undef = _ := hd 21 (of_decide_eq_true (by kernel_rfl)) 2 _ _ rfl rfl; have v23 : a.tmps[118]?.getD undef = _ := hd 23 (of_decide_eq_true (by kernel_rfl)) 0 _ _ rfl rfl; have gd := tmp_bool v21; clear hd hF; refine wpOp_step rfl (fun K' hK => ?_); go_simp; exact hK _ _ ⟨_, rfl, Below.refl _ _, cst_ok⟩
        apply RegW.num 25 rfl
        · intro a w' hF hB hd; have v24 : a.tmps[119]?.getD undef = _ := hd 24 (of_decide_eq_true (by kernel_rfl)) 0 _ _ rfl rfl; have gd := tmp_bool v24; have e16 := hF.2.2 16 (by decide); simp at e16; clear hd hF; obtain ⟨sv, hk, hi⟩ := (HA.out).keep hB; have c0 := hk.cell 0; simp at c0; refine wpOp_step rfl (fun K' hK => ?_); go_simp; exact hK _ _ ⟨_, rfl, Below.refl _ _, ⟨_, rfl, hi⟩⟩
        apply RegW.val 26 rfl
        · intro a w' hF hB hd; have v24 : a.tmps[119]?.getD undef = _ := hd 24 (of_decide_eq_true (by kernel_rfl)) 1 _ _ rfl rfl; have u25 := hd 25 (of_decide_eq_true (by kernel_rfl)) 0 _ _ rfl rfl; obtain ⟨x25, p25, q25⟩ := u25; have gd := tmp_bool v24; clear hd hF; refine wpOp_step rfl (fun K' hK => ?_); go_simp; refine (is_nil q25 rfl).mono ?_; rintro e w1 ⟨rfl, hb⟩; exact hK _ _ ⟨_, rfl, hb, cst_ok⟩
        apply RegW.val 27 rfl
        · intro a w' hF hB hd; have v24 : a.tmps[119]?.getD undef = _ := hd 24 (of_decide_eq_true (by kernel_rfl)) 2 _ _ rfl rfl; have v26 : a.tmps[121]?.getD undef = _ := hd 26 (of_decide_eq_true (by kernel_rfl)) 0 _ _ rfl rfl; have gd := tmp_bool v24; clear hd hF; refine wpOp_step rfl (fun K' hK => ?_); go_simp; exact hK _ _ ⟨_, rfl, Below.refl _ _, cst_ok⟩
        apply RegW.val 28 rfl
        · intro a w' hF hB hd; have v21 : a.tmps[116]?.getD undef = _ := hd 21 (of_decide_eq_true (by kernel_rfl)) 6 _ _ rfl rfl; have v24 : a.tmps[119]?.getD undef = _ := hd 24 (of_decide_eq_true (by kernel_rfl)) 3 _ _ rfl rfl; have v27 : a.tmps[122]?.getD undef = _ := hd 27 (of_decide_eq_true (by kernel_rfl)) 0 _ _ rfl rfl; have gd := tmp_bool v21; clear hd hF; refine wpOp_step rfl (fun K' hK => ?_); go_simp; exact hK _ _ ⟨_, rfl, Below.refl _ _, cst_ok⟩
        apply RegW.val 29 rfl
        · intro a w' hF hB hd; have v21 : a.tmps[116]?.getD undef = _ := hd 21 (of_decide_eq_true (by kernel_rfl)) 7 _ _ rfl rfl; have v28 : a.tmps[123]?.getD undef = _ := hd 28 (of_decide_eq_true (by kernel_rfl)) 0 _ _ rfl rfl; clear hd hF; refine wpOp_step rfl (fun K' hK => ?_); go_simp; exact hK _ _ ⟨_, rfl, Below.refl _ _, cst_ok⟩
        apply RegW.val 30 rfl
        · intro a w' hF hB hd; have v29 : a.tmps[124]?.getD undef = _ := hd 29 (of_decide_eq_true (by kernel_rfl)) 0 _ _ rfl rfl; clear hd hF; refine wpOp_step rfl (fun K' hK => ?_); go_simp; exact hK _ _ ⟨_, rfl, Below.refl _ _, cst_ok⟩
        apply RegW.val 31 rfl
        · intro a w' hF hB hd; have v30 : a.tmps[125]?.getD undef = _ := hd 30 (of_decide_eq_true (by kernel_rfl)) 0 _ _ rfl rfl; have gd := tmp_bool v30; have e19 := hF.2.2 19 (by decide); simp at e19; clear hd hF; refine wpOp_step rfl (fun K' hK => ?_); go_simp; exact hK _ _ ⟨_, rfl, Below.refl _ _, cst_ok⟩
        apply RegW.val 32 rfl
        · intro a w' hF hB hd; have v30 : a.tmps[125]?.getD undef = _ := hd 30 (of_decide_eq_true (by kernel_rfl)) 1 _ _ rfl rfl; have v31 : a.tmps[126]?.getD undef = _ := hd 31 (of_decide_eq_true (by kernel_rfl)) 0 _ _ rfl rfl; have gd := tmp_bool v30; clear hd hF; refine wpOp_step rfl (fun K' hK => ?_); go_simp; exact hK _ _ ⟨_, rfl, Below.refl _ _, cst_ok⟩
        refine RegW.skip 33 32 127 _ _ _ _ rfl rfl rfl rfl rfl rfl (by kernel_rfl) 0 rfl rfl rfl ?_
        refine RegW.skip 34 32 127 _ _ _ _ rfl rfl rfl rfl rfl rfl (by kernel_rfl) 1 rfl rfl rfl ?_
        refine RegW.skip 35 32 127 _ _ _ _ rfl rfl rfl rfl rfl rfl (by kernel_rfl) 2 rfl rfl rfl ?_
        refine RegW.skip 36 32 127 _ _ _ _ rfl rfl rfl rfl rfl rfl (by kernel_rfl) 3 rfl rfl rfl ?_
        apply RegW.val 37 rfl
        · intro a w' hF hB hd; have v30 : a.tmps[125]?.getD undef = _ := hd 30 (of_decide_eq_true (by kernel_rfl)) 6 _ _ rfl rfl; have v32 : a.tmps[127]?.getD undef = _ := hd 32 (of_decide_eq_true (by kernel_rfl)) 4 _ _ rfl rfl; have v36 : a.tmps[131]?.getD undef = _ := hd 36 (of_decide_eq_true (by kernel_rfl)) 0 _ _ rfl rfl; have gd := tmp_bool v30; clear hd hF; refine wpOp_step rfl (fun K' hK => ?_); go_simp; exact hK _ _ ⟨_, rfl, Below.refl _ _, cst_ok⟩
        apply RegW.val 38 rfl
        · intro a w' hF hB hd; have v30 : a.tmps[125]?.getD undef = _ := hd 30 (of_decide_eq_true (by kernel_rfl)) 7 _ _ rfl rfl; have v37 : a.tmps[132]?.getD undef = _ := hd 37 (of_decide_eq_true (by kernel_rfl)) 0 _ _ rfl rfl; clear hd hF; refine wpOp_step rfl (fun K' hK => ?_); go_simp; exact hK _ _ ⟨_, rfl, Below.refl _ _, cst_ok⟩
        apply RegW.val 39 rfl
        · intro a w' hF hB hd; have v38 : a.tmps[133]?.getD undef = _ := hd 38 (of_decide_eq_true (by kernel_rfl)) 0 _ _ rfl rfl; clear hd hF; refine wpOp_step rfl (fun K' hK => ?_); go_simp; exact hK _ _ ⟨_, rfl, Below.refl _ _, cst_ok⟩
        apply RegW.val 40 rfl
        · intro a w' hF hB hd; have v39 : a.tmps[134]?.getD undef = _ := hd 39 (of_decide_eq_true (by kernel_rfl)) 0 _ _ rfl rfl; have gd := tmp_bool v39; have e19 := hF.2.2 19 (by decide); simp at e19; clear hd hF; refine wpOp_step rfl (fun K' hK => ?_); go_simp; exact hK _ _ ⟨_, rfl, Below.refl _ _, cst_ok⟩
        apply RegW.val 41 rfl
        · intro a w' hF hB hd; have v39 : a.tmps[134]?.getD undef = _ := hd 39 (of_decide_eq_true (by kernel_rfl)) 1 _ _ rfl rfl; have v40 : a.tmps[135]?.getD undef = _ := hd 40 (of_decide_eq_true (by kernel_rfl)) 0 _ _ rfl rfl; have gd := tmp_bool v39; clear hd hF; refine wpOp_step rfl (fun K' hK => ?_); go_simp; exact hK _ _ ⟨_, rfl, Below.refl _ _, cst_ok⟩
        apply RegW.val 42 rfl
        · intro a w' hF hB hd; have v39 : a.tmps[134]?.getD undef = _ := hd 39 (of_decide_eq_true (by kernel_rfl)) 2 _ _ rfl rfl; have v41 : a.tmps[136]?.getD undef = _ := hd 41 (of_decide_eq_true (by kernel_rfl)) 0 _ _ rfl rfl; have gd := tmp_bool v39; clear hd hF; refine wpOp_step rfl (fun K' hK => ?_); go_simp; exact hK _ _ ⟨_, rfl, Below.refl _ _, cst_ok⟩
        apply RegW.num 43 rfl
        · intro a w' hF hB hd; have v42 : a.tmps[137]?.getD undef = _ := hd 42 (of_decide_eq_true (by kernel_rfl)) 0 _ _ rfl rfl; have gd := tmp_bool v42; have e18 := hF.2.2 18 (by decide); simp at e18; clear hd hF; obtain ⟨sv, hk, hi⟩ := (HM.out).keep hB; have c0 := hk.cell 0; simp at c0; refine wpOp_step rfl (fun K' hK => ?_); go_simp; exact hK _ _ ⟨_, rfl, Below.refl _ _, ⟨_, rfl, hi⟩⟩
        apply RegW.val 44 rfl
        · intro a w' hF hB hd; have v42 : a.tmps[137]?.getD undef = _ := hd 42 (of_decide_eq_true (by kernel_rfl)) 1 _ _ rfl rfl; have u43 := hd 43 (of_decide_eq_true (by kernel_rfl)) 0 _ _ rfl rfl; obtain ⟨x43, p43, q43⟩ := u43; have gd := tmp_bool v42; clear hd hF; refine wpOp_step rfl (fun K' hK => ?_); go_simp; refine (is_nil q43 rfl).mono ?_; rintro e w1 ⟨rfl, hb⟩; exact hK _ _ ⟨_, rfl, hb, cst_ok⟩
        apply RegW.val 45 rfl
        · intro a w' hF hB hd; have v42 : a.tmps[137]?.getD undef = _ := hd 42 (of_decide_eq_true (by kernel_rfl)) 2 _ _ rfl rfl; have v44 : a.tmps[139]?.getD undef = _ := hd 44 (of_decide_eq_true (by kernel_rfl)) 0 _ _ rfl rfl; have gd := tmp_bool v42; clear hd hF; refine wpOp_step rfl (fun K' hK => ?_); go_simp; exact hK _ _ ⟨_, rfl, Below.refl _ _, cst_ok⟩
        apply RegW.val 46 rfl
        · intro a w' hF hB hd; have v39 : a.tmps[134]?.getD undef = _ := hd 39 (of_decide_eq_true (by kernel_rfl)) 6 _ _ rfl rfl; have v42 : a.tmps[137]?.getD undef = _ := hd 42 (of_decide_eq_true (by kernel_rfl)) 3 _ _ rfl rfl; have v45 : a.tmps[140]?.getD undef = _ := hd 45 (of_decide_eq_true (by kernel_rfl)) 0 _ _ rfl rfl; have gd := tmp_bool v39; clear hd hF; refine wpOp_step rfl (fun K' hK => ?_); go_simp; exact hK _ _ ⟨_, rfl, Below.refl _ _, cst_ok⟩
        apply RegW.val 47 rfl
        · intro a w' hF hB hd; have v39 : a.tmps[134]?.getD undef = _ := hd 39 (of_decide_eq_true (by kernel_rfl)) 7 _ _ rfl rfl; have v46 : a.tmps[141]?.getD undef = _ := hd 46 (of_decide_eq_true (by kernel_rfl)) 0 _ _ rfl rfl; clear hd hF; refine wpOp_step rfl (fun K' hK => ?_); go_simp; exact hK _ _ ⟨_, rfl, Below.refl _ _, cst_ok⟩
        refine RegW.done (fun a w' hF hB hv => ?_)
        have v0 : a.tmps[95]?.getD undef = _ := hv 47 _ _ rfl
        have v1 : a.tmps[96]?.getD undef = _ := hv 46 _ _ rfl
        have v2 : a.tmps[97]?.getD undef = _ := hv 45 _ _ rfl
        have v3 : a.tmps[98]?.getD undef = _ := hv 44 _ _ rfl
        have v4 : a.tmps[99]?.getD undef = _ := hv 43 _ _ rfl
        have v5 : a.tmps[100]?.getD undef = _ := hv 42 _ _ rfl
        have v6 : a.tmps[101]?.getD undef = _ := hv 41 _ _ rfl
        have v7 : a.tmps[102]?.getD undef = _ := hv 40 _ _ rfl
        have v8 : a.tmps[103]?.getD undef = _ := hv 39 _ _ rfl
        have v9 : a.tmps[104]?.getD undef = _ := hv 38 _ _ rfl
        have v10 : a.tmps[105]?.getD undef = _ := hv 37 _ _ rfl
        have v11 : a.tmps[106]?.getD undef = _ := hv 36 _ _ rfl
        have v12 : a.tmps[107]?.getD undef = _ := hv 35 _ _ rfl
        have v13 : a.tmps[108]?.getD undef = _ := hv 34 _ _ rfl
        have v14 : a.tmps[109]?.getD undef = _ := hv 33 _ _ rfl
        have v15 : a.tmps[110]?.getD undef = _ := hv 32 _ _ rfl
        have v16 : a.tmps[111]?.getD undef = _ := hv 31 _ _ rfl
        have v17 : a.tmps[112]?.getD undef = _ := hv 30 _ _ rfl
        have v18 : a.tmps[113]?.getD undef = _ := hv 29 _ _ rfl
        have v19 : a.tmps[114]?.getD undef = _ := hv 28 _ _ rfl
        have v20 : a.tmps[115]?.getD undef = _ := hv 27 _ _ rfl
        have v21 : a.tmps[116]?.getD undef = _ := hv 26 _ _ rfl
        have v22 : a.tmps[117]?.getD undef = _ := hv 25 _ _ rfl
        have v23 : a.tmps[118]?.getD undef = _ := hv 24 _ _ rfl
        have v24 : a.tmps[119]?.getD undef = _ := hv 23 _ _ rfl
        have u25 := hv 22 _ _ rfl
        obtain ⟨x25, p25, q25⟩ := u25
        have v26 : a.tmps[121]?.getD undef = _ := hv 21 _ _ rfl
        have v27 : a.tmps[122]?.getD undef = _ := hv 20 _ _ rfl
        have v28 : a.tmps[123]?.getD undef = _ := hv 19 _ _ rfl
        have v29 : a.tmps[124]?.getD undef = _ := hv 18 _ _ rfl
        have v30 : a.tmps[125]?.getD undef = _ := hv 17 _ _ rfl
        have v31 : a.tmps[126]?.getD undef = _ := hv 16 _ _ rfl
        have v32 : a.tmps[127]?.getD undef = _ := hv 15 _ _ rfl
        have v33 : a.tmps[128]?.getD undef = _ := hv 14 _ _ rfl
        have v34 : a.tmps[129]?.getD undef = _ := hv 13 _ _ rfl
        have v35 : a.tmps[130]?.getD undef = _ := hv 12 _ _ rfl
        have v36 : a.tmps[131]?.getD undef = _ := hv 11 _ _ rfl
        have v37 : a.tmps[132]?.getD undef = _ := hv 10 _ _ rfl
        have v38 : a.tmps[133]?.getD undef = _ := hv 9 _ _ rfl
        have v39 : a.tmps[134]?.getD undef = _ := hv 8 _ _ rfl
        have v40 : a.tmps[135]?.getD undef = _ := hv 7 _ _ rfl
        have v41 : a.tmps[136]?.getD undef = _ := hv 6 _ _ rfl
        have v42 : a.tmps[137]?.getD undef = _ := hv 5 _ _ rfl
        have u43 := hv 4 _ _ rfl
        obtain ⟨x43, p43, q43⟩ := u43
        have v44 : a.tmps[139]?.getD undef = _ := hv 3 _ _ rfl
        have v45 : a.tmps[140]?.getD undef = _ := hv 2 _ _ rfl
        have v46 : a.tmps[141]?.getD undef = _ := hv 1 _ _ rfl
        have v47 : a.tmps[142]?.getD undef = _ := hv 0 _ _ rfl
        have hE := hF.out
        rw [hE]
        clear hE hF hv
        simp only [List.foldl_cons, List.foldl_nil, Act.put, List.setIfInBounds_toArray, List.set_cons_zero, List.set_cons_succ, Array.getD_eq_getD_getElem?, v0, v1, v2, v3, v4, v5, v6, v7, v8, v9, v10, v11, v12, v13, v14, v15, v16, v17, v18, v19, v20, v21, v22, v23, v24, p25, v26, v27, v28, v29, v30, v31, v32, v33, v34, v35, v36, v37, v38, v39, v40, v41, v42, p43, v44, v45, v46, v47]
        clear v0 v1 v2 v3 v4 v5 v6 v7 v8 v9 v10 v11 v12 v13 v14 v15 v16 v17 v18 v19 v20 v21 v22 v23 v24 p25 v26 v27 v28 v29 v30 v31 v32 v33 v34 v35 v36 v37 v38 v39 v40 v41 v42 p43 v44 v45 v46 v47
        have hE0 := hB
        clear hB
        go_wp2_with fail
        go_meet
        exact ⟨rfl, hE0⟩
      · rw [if_neg (by decide)] at ha0
        rw [if_pos rfl] at hm0
        have HA := Lib.hid ha0
        have HM := Lib.hid hm0
        clear ha0 hm0
        refine wp_region_seq [95, 96, 97, 98, 99, 100, 101, 102, 103, 104, 105, 106, 107, 108, 109, 110, 111, 112, 113, 114, 115, 116, 117, 118, 119, 120, 121, 122, 123, 124, 125, 126, 127, 128, 129, 130, 131, 132, 133, 134, 135, 136, 137, 138, 139, 140, 141, 142] (by kernel_rfl) rfl (by simp) (by kernel_rfl) ?_
        apply RegW.val 0 rfl
        · intro a w' hF hB hd; have e17 := hF.2.2 17 (by decide); simp at e17; clear hd hF; refine wpOp_step rfl (fun K' hK => ?_); go_simp; exact hK _ _ ⟨_, rfl, Below.refl _ _, cst_ok⟩
        apply RegW.val 1 rfl
        · intro a w' hF hB hd; have e11 := hF.2.2 11 (by decide); simp at e11; clear hd hF; refine wpOp_step rfl (fun K' hK => ?_); go_simp; exact hK _ _ ⟨_, rfl, Below.refl _ _, cst_ok⟩
        apply RegW.val 2 rfl
        · intro a w' hF hB hd; have e2 := hF.2.2 2 (by decide); simp at e2; clear hd hF; refine wpOp_step rfl (fun K' hK => ?_); go_simp; exact hK _ _ ⟨_, rfl, Below.refl _ _, cst_ok⟩
        apply RegW.val 3 rfl
        · intro a w' hF hB hd; have v1 : a.tmps[96]?.getD undef = _ := hd 1 (of_decide_eq_true (by kernel_rfl)) 1 _ _ rfl rfl; have v2 : a.tmps[97]?.getD undef = _ := hd 2 (of_decide_eq_true (by kernel_rfl)) 0 _ _ rfl rfl; clear hd hF; refine wpOp_step rfl (fun K' hK => ?_); go_simp; refine (rFits_w (HT.out.2.2.2.2.1.keep hB) (fits_le (fits_add hX hY) (by decide)) (hfa)).mono ?_; rintro e w1 ⟨rfl, hb⟩; exact hK _ _ ⟨_, rfl, hb, cst_ok⟩
        apply RegW.val 4 rfl
        · intro a w' hF hB hd; have v0 : a.tmps[95]?.getD undef = _ := hd 0 (of_decide_eq_true (by kernel_rfl)) 3 _ _ rfl rfl; have v3 : a.tmps[98]?.getD undef = _ := hd 3 (of_decide_eq_true (by kernel_rfl)) 0 _ _ rfl rfl; clear hd hF; refine wpOp_step rfl (fun K' hK => ?_); go_simp; exact hK _ _ ⟨_, rfl, Below.refl _ _, cst_ok⟩
        apply RegW.val 5 rfl
        · intro a w' hF hB hd; have v4 : a.tmps[99]?.getD undef = _ := hd 4 (of_decide_eq_true (by kernel_rfl)) 0 _ _ rfl rfl; clear hd hF; refine wpOp_step rfl (fun K' hK => ?_); go_simp; exact hK _ _ ⟨_, rfl, Below.refl _ _, cst_ok⟩
        apply RegW.val 6 rfl
        · intro a w' hF hB hd; have v5 : a.tmps[100]?.getD undef = _ := hd 5 (of_decide_eq_true (by kernel_rfl)) 0 _ _ rfl rfl; have gd := tmp_bool v5; have e19 := hF.2.2 19 (by decide); simp at e19; clear hd hF; refine wpOp_step rfl (fun K' hK => ?_); go_simp; exact hK _ _ ⟨_, rfl, Below.refl _ _, cst_ok⟩
        apply RegW.val 7 rfl
        · intro a w' hF hB hd; have v5 : a.tmps[100]?.getD undef = _ := hd 5 (of_decide_eq_true (by kernel_rfl)) 1 _ _ rfl rfl; have gd := tmp_bool v5; have e12 := hF.2.2 12 (by decide); simp at e12; clear hd hF; refine wpOp_step rfl (fun K' hK => ?_); go_simp; exact hK _ _ ⟨_, rfl, Below.refl _ _, cst_ok⟩
        apply RegW.val 8 rfl
        · intro a w' hF hB hd; have v5 : a.tmps[100]?.getD undef = _ := hd 5 (of_decide_eq_true (by kernel_rfl)) 2 _ _ rfl rfl; have gd := tmp_bool v5; have e2 := hF.2.2 2 (by decide); simp at e2; clear hd hF; refine wpOp_step rfl (fun K' hK => ?_); go_simp; exact hK _ _ ⟨_, rfl, Below.refl _ _, cst_ok⟩
        apply RegW.val 9 rfl
        · intro a w' hF hB hd; have v5 : a.tmps[100]?.getD undef = _ := hd 5 (of_decide_eq_true (by kernel_rfl)) 3 _ _ rfl rfl; have v7 : a.tmps[102]?.getD undef = _ := hd 7 (of_decide_eq_true (by kernel_rfl)) 1 _ _ rfl rfl; have v8 : a.tmps[103]?.getD undef = _ := hd 8 (of_decide_eq_true (by kernel_rfl)) 0 _ _ rfl rfl; have gd := tmp_bool v5; clear hd hF; refine wpOp_step rfl (fun K' hK => ?_); go_simp; refine (rFits_w (HT.out.2.2.2.2.2.1.keep hB) (fits_le (fits_mul hX hY) (by decide)) (hfm)).mono ?_; rintro e w1 ⟨rfl, hb⟩; exact hK _ _ ⟨_, rfl, hb, cst_ok⟩
        apply RegW.val 10 rfl
        · intro a w' hF hB hd; have v5 : a.tmps[100]?.getD undef = _ := hd 5 (of_decide_eq_true (by kernel_rfl)) 4 _ _ rfl rfl; have v6 : a.tmps[101]?.getD undef = _ := hd 6 (of_decide_eq_true (by kernel_rfl)) 3 _ _ rfl rfl; have v9 : a.tmps[104]?.getD undef = _ := hd 9 (of_decide_eq_true (by kernel_rfl)) 0 _ _ rfl rfl; have gd := tmp_bool v5; clear hd hF; refine wpOp_step rfl (fun K' hK => ?_); go_simp; exact hK _ _ ⟨_, rfl, Below.refl _ _, cst_ok⟩
        apply RegW.val 11 rfl
        · intro a w' hF hB hd; have v5 : a.tmps[100]?.getD undef = _ := hd 5 (of_decide_eq_true (by kernel_rfl)) 5 _ _ rfl rfl; have v10 : a.tmps[105]?.getD undef = _ := hd 10 (of_decide_eq_true (by kernel_rfl)) 0 _ _ rfl rfl; clear hd hF; refine wpOp_step rfl (fun K' hK => ?_); go_simp; exact hK _ _ ⟨_, rfl, Below.refl _ _, cst_ok⟩
        apply RegW.val 12 rfl
        · intro a w' hF hB hd; have v11 : a.tmps[106]?.getD undef = _ := hd 11 (of_decide_eq_true (by kernel_rfl)) 0 _ _ rfl rfl; clear hd hF; refine wpOp_step rfl (fun K' hK => ?_); go_simp; exact hK _ _ ⟨_, rfl, Below.refl _ _, cst_ok⟩
        apply RegW.val 13 rfl
        · intro a w' hF hB hd; have v12 : a.tmps[107]?.getD undef = _ := hd 12 (of_decide_eq_true (by kernel_rfl)) 0 _ _ rfl rfl; have gd := tmp_bool v12; have e17 := hF.2.2 17 (by decide); simp at e17; clear hd hF; refine wpOp_step rfl (fun K' hK => ?_); go_simp; exact hK _ _ ⟨_, rfl, Below.refl _ _, cst_ok⟩
        apply RegW.val 14 rfl
        · intro a w' hF hB hd; have v12 : a.tmps[107]?.getD undef = _ := hd 12 (of_decide_eq_true (by kernel_rfl)) 1 _ _ rfl rfl; have v13 : a.tmps[108]?.getD undef = _ := hd 13 (of_decide_eq_true (by kernel_rfl)) 0 _ _ rfl rfl; have gd := tmp_bool v12; clear hd hF; refine wpOp_step rfl (fun K' hK => ?_); go_simp; exact hK _ _ ⟨_, rfl, Below.refl _ _, cst_ok⟩
        refine RegW.skip 15 14 109 _ _ _ _ rfl rfl rfl rfl rfl rfl (by kernel_rfl) 0 rfl rfl rfl ?_
        refine RegW.skip 16 14 109 _ _ _ _ rfl rfl rfl rfl rfl rfl (by kernel_rfl) 1 rfl rfl rfl ?_
        refine RegW.skip 17 14 109 _ _ _ _ rfl rfl rfl rfl rfl rfl (by kernel_rfl) 2 rfl rfl rfl ?_
        refine RegW.skip 18 14 109 _ _ _ _ rfl rfl rfl rfl rfl rfl (by kernel_rfl) 3 rfl rfl rfl ?_
        apply RegW.val 19 rfl
        · intro a w' hF hB hd; have v12 : a.tmps[107]?.getD undef = _ := hd 12 (of_decide_eq_true (by kernel_rfl)) 6 _ _ rfl rfl; have v14 : a.tmps[109]?.getD undef = _ := hd 14 (of_decide_eq_true (by kernel_rfl)) 4 _ _ rfl rfl; have v18 : a.tmps[113]?.getD undef = _ := hd 18 (of_decide_eq_true (by kernel_rfl)) 0 _ _ rfl rfl; have gd := tmp_bool v12; clear hd hF; refine wpOp_step rfl (fun K' hK => ?_); go_simp; exact hK _ _ ⟨_, rfl, Below.refl _ _, cst_ok⟩
        apply RegW.val 20 rfl
        · intro a w' hF hB hd; have v12 : a.tmps[107]?.getD undef = _ := hd 12 (of_decide_eq_true (by kernel_rfl)) 7 _ _ rfl rfl; have v19 : a.tmps[114]?.getD undef = _ := hd 19 (of_decide_eq_true (by kernel_rfl)) 0 _ _ rfl rfl; clear hd hF; refine wpOp_step rfl (fun K' hK => ?_); go_simp; exact hK _ _ ⟨_, rfl, Below.refl _ _, cst_ok⟩
        apply RegW.val 21 rfl
        · intro a w' hF hB hd; have v20 : a.tmps[115]?.getD undef = _ := hd 20 (of_decide_eq_true (by kernel_rfl)) 0 _ _ rfl rfl; clear hd hF; refine wpOp_step rfl (fun K' hK => ?_); go_simp; exact hK _ _ ⟨_, rfl, Below.refl _ _, cst_ok⟩
        apply RegW.val 22 rfl
        · intro a w' hF hB hd; have v21 : a.tmps[116]?.getD undef = _ := hd 21 (of_decide_eq_true (by kernel_rfl)) 0 _ _ rfl rfl; have gd := tmp_bool v21; have e17 := hF.2.2 17 (by decide); simp at e17; clear hd hF; refine wpOp_step rfl (fun K' hK => ?_); go_simp; exact hK _ _ ⟨_, rfl, Below.refl _ _, cst_ok⟩
        apply RegW.val 23 rfl
        · intro a w' hF hB hd; have v21 : a.tmps[116]?.getD undef = _ := hd 21 (of_decide_eq_true (by kernel_rfl)) 1 _ _ rfl rfl; have v22 : a.tmps[117]?.getD undef = _ := hd 22 (of_decide_eq_true (by kernel_rfl)) 0 _ _ rfl rfl; have gd := tmp_bool v21; clear hd hF; refine wpOp_step rfl (fun K' hK => ?_); go_simp; exact hK _ _ ⟨_, rfl, Below.refl _ _, cst_ok⟩
        apply RegW.val 24 rfl
        · intro a w' hF hB hd; have v21 : a.tmps[116]?.getD undef = _ := hd 21 (of_decide_eq_true (by kernel_rfl)) 2 _ _ rfl rfl; have v23 : a.tmps[118]?.getD undef = _ := hd 23 (of_decide_eq_true (by kernel_rfl)) 0 _ _ rfl rfl; have gd := tmp_bool v21; clear hd hF; refine wpOp_step rfl (fun K' hK => ?_); go_simp; exact hK _ _ ⟨_, rfl, Below.refl _ _, cst_ok⟩
        apply RegW.num 25 rfl
        · intro a w' hF hB hd; have v24 : a.tmps[119]?.getD undef = _ := hd 24 (of_decide_eq_true (by kernel_rfl)) 0 _ _ rfl rfl; have gd := tmp_bool v24; have e16 := hF.2.2 16 (by decide); simp at e16; clear hd hF; obtain ⟨sv, hk, hi⟩ := (HA.out).keep hB; have c0 := hk.cell 0; simp at c0; refine wpOp_step rfl (fun K' hK => ?_); go_simp; exact hK _ _ ⟨_, rfl, Below.refl _ _, ⟨_, rfl, hi⟩⟩
        apply RegW.val 26 rfl
        · intro a w' hF hB hd; have v24 : a.tmps[119]?.getD undef = _ := hd 24 (of_decide_eq_true (by kernel_rfl)) 1 _ _ rfl rfl; have u25 := hd 25 (of_decide_eq_true (by kernel_rfl)) 0 _ _ rfl rfl; obtain ⟨x25, p25, q25⟩ := u25; have gd := tmp_bool v24; clear hd hF; refine wpOp_step rfl (fun K' hK => ?_); go_simp; refine (is_nil q25 rfl).mono ?_; rintro e w1 ⟨rfl, hb⟩; exact hK _ _ ⟨_, rfl, hb, cst_ok⟩
        apply RegW.val 27 rfl
        · intro a w' hF hB hd; have v24 : a.tmps[119]?.getD undef = _ := hd 24 (of_decide_eq_true (by kernel_rfl)) 2 _ _ rfl rfl; have v26 : a.tmps[121]?.getD undef = _ := hd 26 (of_decide_eq_true (by kernel_rfl)) 0 _ _ rfl rfl; have gd := tmp_bool v24; clear hd hF; refine wpOp_step rfl (fun K' hK => ?_); go_simp; exact hK _ _ ⟨_, rfl, Below.refl _ _, cst_ok⟩
        apply RegW.val 28 rfl
        · intro a w' hF hB hd; have v21 : a.tmps[116]?.getD undef = _ := hd 21 (of_decide_eq_true (by kernel_rfl)) 6 _ _ rfl rfl; have v24 : a.tmps[119]?.getD undef = _ := hd 24 (of_decide_eq_true (by kernel_rfl)) 3 _ _ rfl rfl; have v27 : a.tmps[122]?.getD undef = _ := hd 27 (of_decide_eq_true (by kernel_rfl)) 0 _ _ rfl rfl; have gd := tmp_bool v21; clear hd hF; refine wpOp_step rfl (fun K' hK => ?_); go_simp; exact hK _ _ ⟨_, rfl, Below.refl _ _, cst_ok⟩
        apply RegW.val 29 rfl
        · intro a w' hF hB hd; have v21 : a.tmps[116]?.getD undef = _ := hd 21 (of_decide_eq_true (by kernel_rfl)) 7 _ _ rfl rfl; have v28 : a.tmps[123]?.getD undef = _ := hd 28 (of_decide_eq_true (by kernel_rfl)) 0 _ _ rfl rfl; clear hd hF; refine wpOp_step rfl (fun K' hK => ?_); go_simp; exact hK _ _ ⟨_, rfl, Below.refl _ _, cst_ok⟩
        apply RegW.val 30 rfl
        · intro a w' hF hB hd; have v29 : a.tmps[124]?.getD undef = _ := hd 29 (of_decide_eq_true (by kernel_rfl)) 0 _ _ rfl rfl; clear hd hF; refine wpOp_step rfl (fun K' hK => ?_); go_simp; exact hK _ _ ⟨_, rfl, Below.refl _ _, cst_ok⟩
        apply RegW.val 31 rfl
        · intro a w' hF hB hd; have v30 : a.tmps[125]?.getD undef = _ := hd 30 (of_decide_eq_true (by kernel_rfl)) 0 _ _ rfl rfl; have gd := tmp_bool v30; have e19 := hF.2.2 19 (by decide); simp at e19; clear hd hF; refine wpOp_step rfl (fun K' hK => ?_); go_simp; exact hK _ _ ⟨_, rfl, Below.refl _ _, cst_ok⟩
        apply RegW.val 32 rfl
        · intro a w' hF hB hd; have v30 : a.tmps[125]?.getD undef = _ := hd 30 (of_decide_eq_true (by kernel_rfl)) 1 _ _ rfl rfl; have v31 : a.tmps[126]?.getD undef = _ := hd 31 (of_decide_eq_true (by kernel_rfl)) 0 _ _ rfl rfl; have gd := tmp_bool v30; clear hd hF; refine wpOp_step rfl (fun K' hK => ?_); go_simp; exact hK _ _ ⟨_, rfl, Below.refl _ _, cst_ok⟩
        apply RegW.num 33 rfl
        · intro a w' hF hB hd; have v32 : a.tmps[127]?.getD undef = _ := hd 32 (of_decide_eq_true (by kernel_rfl)) 0 _ _ rfl rfl; have gd := tmp_bool v32; have e18 := hF.2.2 18 (by decide); simp at e18; clear hd hF; obtain ⟨sv, hk, hi⟩ := (HM.out).keep hB; have c0 := hk.cell 0; simp at c0; refine wpOp_step rfl (fun K' hK => ?_); go_simp; exact hK _ _ ⟨_, rfl, Below.refl _ _, ⟨_, rfl, hi⟩⟩
        apply RegW.val 34 rfl
        · intro a w' hF hB hd; have v32 : a.tmps[127]?.getD undef = _ := hd 32 (of_decide_eq_true (by kernel_rfl)) 1 _ _ rfl rfl; have gd := tmp_bool v32; have e12 := hF.2.2 12 (by decide); simp at e12; clear hd hF; refine wpOp_step rfl (fun K' hK => ?_); go_simp; exact hK _ _ ⟨_, rfl, Below.refl _ _, cst_ok⟩
        apply RegW.val 35 rfl
        · intro a w' hF hB hd; have v32 : a.tmps[127]?.getD undef = _ := hd 32 (of_decide_eq_true (by kernel_rfl)) 2 _ _ rfl rfl; have u33 := hd 33 (of_decide_eq_true (by kernel_rfl)) 1 _ _ rfl rfl; obtain ⟨x33, p33, q33⟩ := u33; have v34 : a.tmps[129]?.getD undef = _ := hd 34 (of_decide_eq_true (by kernel_rfl)) 0 _ _ rfl rfl; have gd := tmp_bool v32; clear hd hF; refine wpOp_step rfl (fun K' hK => ?_); go_simp; refine (is_w q33 (HT.out.2.2.2.2.2.1.keep hB) (fits_le (fits_mul hX hY) (by decide))).mono ?_; rintro e w1 ⟨rfl, hb⟩; exact hK _ _ ⟨_, rfl, hb, cst_ok⟩
        apply RegW.val 36 rfl
        · intro a w' hF hB hd; have v32 : a.tmps[127]?.getD undef = _ := hd 32 (of_decide_eq_true (by kernel_rfl)) 3 _ _ rfl rfl; have v35 : a.tmps[130]?.getD undef = _ := hd 35 (of_decide_eq_true (by kernel_rfl)) 0 _ _ rfl rfl; have gd := tmp_bool v32; clear hd hF; refine wpOp_step rfl (fun K' hK => ?_); go_simp; exact hK _ _ ⟨_, rfl, Below.refl _ _, cst_ok⟩
        apply RegW.val 37 rfl
        · intro a w' hF hB hd; have v30 : a.tmps[125]?.getD undef = _ := hd 30 (of_decide_eq_true (by kernel_rfl)) 6 _ _ rfl rfl; have v32 : a.tmps[127]?.getD undef = _ := hd 32 (of_decide_eq_true (by kernel_rfl)) 4 _ _ rfl rfl; have v36 : a.tmps[131]?.getD undef = _ := hd 36 (of_decide_eq_true (by kernel_rfl)) 0 _ _ rfl rfl; have gd := tmp_bool v30; clear hd hF; refine wpOp_step rfl (fun K' hK => ?_); go_simp; exact hK _ _ ⟨_, rfl, Below.refl _ _, cst_ok⟩
        apply RegW.val 38 rfl
        · intro a w' hF hB hd; have v30 : a.tmps[125]?.getD undef = _ := hd 30 (of_decide_eq_true (by kernel_rfl)) 7 _ _ rfl rfl; have v37 : a.tmps[132]?.getD undef = _ := hd 37 (of_decide_eq_true (by kernel_rfl)) 0 _ _ rfl rfl; clear hd hF; refine wpOp_step rfl (fun K' hK => ?_); go_simp; exact hK _ _ ⟨_, rfl, Below.refl _ _, cst_ok⟩
        apply RegW.val 39 rfl
        · intro a w' hF hB hd; have v38 : a.tmps[133]?.getD undef = _ := hd 38 (of_decide_eq_true (by kernel_rfl)) 0 _ _ rfl rfl; clear hd hF; refine wpOp_step rfl (fun K' hK => ?_); go_simp; exact hK _ _ ⟨_, rfl, Below.refl _ _, cst_ok⟩
        apply RegW.val 40 rfl
        · intro a w' hF hB hd; have v39 : a.tmps[134]?.getD undef = _ := hd 39 (of_decide_eq_true (by kernel_rfl)) 0 _ _ rfl rfl; have gd := tmp_bool v39; have e19 := hF.2.2 19 (by decide); simp at e19; clear hd hF; refine wpOp_step rfl (fun K' hK => ?_); go_simp; exact hK _ _ ⟨_, rfl, Below.refl _ _, cst_ok⟩
        apply RegW.val 41 rfl
        · intro a w' hF hB hd; have v39 : a.tmps[134]?.getD undef = _ := hd 39 (of_decide_eq_true (by kernel_rfl)) 1 _ _ rfl rfl; have v40 : a.tmps[135]?.getD undef = _ := hd 40 (of_decide_eq_true (by kernel_rfl)) 0 _ _ rfl rfl; have gd := tmp_bool v39; clear hd hF; refine wpOp_step rfl (fun K' hK => ?_); go_simp; exact hK _ _ ⟨_, rfl, Below.refl _ _, cst_ok⟩
        apply RegW.val 42 rfl
        · intro a w' hF hB hd; have v39 : a.tmps[134]?.getD undef = _ := hd 39 (of_decide_eq_true (by kernel_rfl)) 2 _ _ rfl rfl; have v41 : a.tmps[136]?.getD undef = _ := hd 41 (of_decide_eq_true (by kernel_rfl)) 0 _ _ rfl rfl; have gd := tmp_bool v39; clear hd hF; refine wpOp_step rfl (fun K' hK => ?_); go_simp; exact hK _ _ ⟨_, rfl, Below.refl _ _, cst_ok⟩
        refine RegW.skip 43 42 137 _ _ _ _ rfl rfl rfl rfl rfl rfl (by kernel_rfl) 0 rfl rfl rfl ?_
        refine RegW.skip 44 42 137 _ _ _ _ rfl rfl rfl rfl rfl rfl (by kernel_rfl) 1 rfl rfl rfl ?_
        refine RegW.skip 45 42 137 _ _ _ _ rfl rfl rfl rfl rfl rfl (by kernel_rfl) 2 rfl rfl rfl ?_
        apply RegW.val 46 rfl
        · intro a w' hF hB hd; have v39 : a.tmps[134]?.getD undef = _ := hd 39 (of_decide_eq_true (by kernel_rfl)) 6 _ _ rfl rfl; have v42 : a.tmps[137]?.getD undef = _ := hd 42 (of_decide_eq_true (by kernel_rfl)) 3 _ _ rfl rfl; have v45 : a.tmps[140]?.getD undef = _ := hd 45 (of_decide_eq_true (by kernel_rfl)) 0 _ _ rfl rfl; have gd := tmp_bool v39; clear hd hF; refine wpOp_step rfl (fun K' hK => ?_); go_simp; exact hK _ _ ⟨_, rfl, Below.refl _ _, cst_ok⟩
        apply RegW.val 47 rfl
        · intro a w' hF hB hd; have v39 : a.tmps[134]?.getD undef = _ := hd 39 (of_decide_eq_true (by kernel_rfl)) 7 _ _ rfl rfl; have v46 : a.tmps[141]?.getD undef = _ := hd 46 (of_decide_eq_true (by kernel_rfl)) 0 _ _ rfl rfl; clear hd hF; refine wpOp_step rfl (fun K' hK => ?_); go_simp; exact hK _ _ ⟨_, rfl, Below.refl _ _, cst_ok⟩
        refine RegW.done (fun a w' hF hB hv => ?_)
        have v0 : a.tmps[95]?.getD undef = _ := hv 47 _ _ rfl
        have v1 : a.tmps[96]?.getD undef = _ := hv 46 _ _ rfl
        have v2 : a.tmps[97]?.getD undef = _ := hv 45 _ _ rfl
        have v3 : a.tmps[98]?.getD undef = _ := hv 44 _ _ rfl
        have v4 : a.tmps[99]?.getD undef = _ := hv 43 _ _ rfl
        have v5 : a.tmps[100]?.getD undef = _ := hv 42 _ _ rfl
        have v6 : a.tmps[101]?.getD undef = _ := hv 41 _ _ rfl
        have v7 : a.tmps[102]?.getD undef = _ := hv 40 _ _ rfl
        have v8 : a.tmps[103]?.getD undef = _ := hv 39 _ _ rfl
        have v9 : a.tmps[104]?.getD undef = _ := hv 38 _ _ rfl
        have v10 : a.tmps[105]?.getD undef = _ := hv 37 _ _ rfl
        have v11 : a.tmps[106]?.getD undef = _ := hv 36 _ _ rfl
        have v12 : a.tmps[107]?.getD undef = _ := hv 35 _ _ rfl
        have v13 : a.tmps[108]?.getD undef = _ := hv 34 _ _ rfl
        have v14 : a.tmps[109]?.getD undef = _ := hv 33 _ _ rfl
        have v15 : a.tmps[110]?.getD undef = _ := hv 32 _ _ rfl
        have v16 : a.tmps[111]?.getD undef = _ := hv 31 _ _ rfl
        have v17 : a.tmps[112]?.getD undef = _ := hv 30 _ _ rfl
        have v18 : a.tmps[113]?.getD undef = _ := hv 29 _ _ rfl
        have v19 : a.tmps[114]?.getD undef = _ := hv 28 _ _ rfl
        have v20 : a.tmps[115]?.getD undef = _ := hv 27 _ _ rfl
        have v21 : a.tmps[116]?.getD undef = _ := hv 26 _ _ rfl
        have v22 : a.tmps[117]?.getD undef = _ := hv 25 _ _ rfl
        have v23 : a.tmps[118]?.getD undef = _ := hv 24 _ _ rfl
        have v24 : a.tmps[119]?.getD undef = _ := hv 23 _ _ rfl
        have u25 := hv 22 _ _ rfl
        obtain ⟨x25, p25, q25⟩ := u25
        have v26 : a.tmps[121]?.getD undef = _ := hv 21 _ _ rfl
        have v27 : a.tmps[122]?.getD undef = _ := hv 20 _ _ rfl
        have v28 : a.tmps[123]?.getD undef = _ := hv 19 _ _ rfl
        have v29 : a.tmps[124]?.getD undef = _ := hv 18 _ _ rfl
        have v30 : a.tmps[125]?.getD undef = _ := hv 17 _ _ rfl
        have v31 : a.tmps[126]?.getD undef = _ := hv 16 _ _ rfl
        have v32 : a.tmps[127]?.getD undef = _ := hv 15 _ _ rfl
        have u33 := hv 14 _ _ rfl
        obtain ⟨x33, p33, q33⟩ := u33
        have v34 : a.tmps[129]?.getD undef = _ := hv 13 _ _ rfl
        have v35 : a.tmps[130]?.getD undef = _ := hv 12 _ _ rfl
        have v36 : a.tmps[131]?.getD undef = _ := hv 11 _ _ rfl
        have v37 : a.tmps[132]?.getD undef = _ := hv 10 _ _ rfl
        have v38 : a.tmps[133]?.getD undef = _ := hv 9 _ _ rfl
        have v39 : a.tmps[134]?.getD undef = _ := hv 8 _ _ rfl
        have v40 : a.tmps[135]?.getD undef = _ := hv 7 _ _ rfl
        have v41 : a.tmps[136]?.getD undef = _ := hv 6 _ _ rfl
        have v42 : a.tmps[137]?.getD undef = _ := hv 5 _ _ rfl
        have v43 : a.tmps[138]?.getD undef = _ := hv 4 _ _ rfl
        have v44 : a.tmps[139]?.getD undef = _ := hv 3 _ _ rfl
        have v45 : a.tmps[140]?.getD undef = _ := hv 2 _ _ rfl
        have v46 : a.tmps[141]?.getD undef = _ := hv 1 _ _ rfl
        have v47 : a.tmps[142]?.getD undef = _ := hv 0 _ _ rfl
        have hE := hF.out
        rw [hE]
        clear hE hF hv
        simp only [List.foldl_cons, List.foldl_nil, Act.put, List.setIfInBounds_toArray, List.set_cons_zero, List.set_cons_succ, Array.getD_eq_getD_getElem?, v0, v1, v2, v3, v4, v5, v6, v7, v8, v9, v10, v11, v12, v13, v14, v15, v16, v17, v18, v19, v20, v21, v22, v23, v24, p25, v26, v27, v28, v29, v30, v31, v32, p33, v34, v35, v36, v37, v38, v39, v40, v41, v42, v43, v44, v45, v46, v47]
        clear v0 v1 v2 v3 v4 v5 v6 v7 v8 v9 v10 v11 v12 v13 v14 v15 v16 v17 v18 v19 v20 v21 v22 v23 v24 p25 v26 v27 v28 v29 v30 v31 v32 p33 v34 v35 v36 v37 v38 v39 v40 v41 v42 v43 v44 v45 v46 v47
        have hE0 := hB
        clear hB
        go_wp2_with fail
        go_meet
        exact ⟨rfl, hE0⟩
      · rw [if_pos rfl] at ha0
        rw [if_neg (by decide)] at hm0
        have HA := Lib.hid ha0
        have HM := Lib.hid hm0
        clear ha0 hm0
        refine wp_region_seq [95, 96, 97, 98, 99, 100, 101, 102, 103, 104, 105, 106, 107, 108, 109, 110, 111, 112, 113, 114, 115, 116, 117, 118, 119, 120, 121, 122, 123, 124, 125, 126, 127, 128, 129, 130, 131, 132, 133, 134, 135, 136, 137, 138, 139, 140, 141, 142] (by kernel_rfl) rfl (by simp) (by kernel_rfl) ?_
        apply RegW.val 0 rfl
        · intro a w' hF hB hd; have e17 := hF.2.2 17 (by decide); simp at e17; clear hd hF; refine wpOp_step rfl (fun K' hK => ?_); go_simp; exact hK _ _ ⟨_, rfl, Below.refl _ _, cst_ok⟩
        apply RegW.val 1 rfl
        · intro a w' hF hB hd; have e11 := hF.2.2 11 (by decide); simp at e11; clear hd hF; refine wpOp_step rfl (fun K' hK => ?_); go_simp; exact hK _ _ ⟨_, rfl, Below.refl _ _, cst_ok⟩
        apply RegW.val 2 rfl
        · intro a w' hF hB hd; have e2 := hF.2.2 2 (by decide); simp at e2; clear hd hF; refine wpOp_step rfl (fun K' hK => ?_); go_simp; exact hK _ _ ⟨_, rfl, Below.refl _ _, cst_ok⟩
        apply RegW.val 3 rfl
        · intro a w' hF hB hd; have v1 : a.tmps[96]?.getD undef = _ := hd 1 (of_decide_eq_true (by kernel_rfl)) 1 _ _ rfl rfl; have v2 : a.tmps[97]?.getD undef = _ := hd 2 (of_decide_eq_true (by kernel_rfl)) 0 _ _ rfl rfl; clear hd hF; refine wpOp_step rfl (fun K' hK => ?_); go_simp; refine (rFits_w (HT.out.2.2.2.2.1.keep hB) (fits_le (fits_add hX hY) (by decide)) (hfa)).mono ?_; rintro e w1 ⟨rfl, hb⟩; exact hK _ _ ⟨_, rfl, hb, cst_ok⟩
        apply RegW.val 4 rfl
        · intro a w' hF hB hd; have v0 : a.tmps[95]?.getD undef = _ := hd 0 (of_decide_eq_true (by kernel_rfl)) 3 _ _ rfl rfl; have v3 : a.tmps[98]?.getD undef = _ := hd 3 (of_decide_eq_true (by kernel_rfl)) 0 _ _ rfl rfl; clear hd hF; refine wpOp_step rfl (fun K' hK => ?_); go_simp; exact hK _ _ ⟨_, rfl, Below.refl _ _, cst_ok⟩
        apply RegW.val 5 rfl
        · intro a w' hF hB hd; have v4 : a.tmps[99]?.getD undef = _ := hd 4 (of_decide_eq_true (by kernel_rfl)) 0 _ _ rfl rfl; clear hd hF; refine wpOp_step rfl (fun K' hK => ?_); go_simp; exact hK _ _ ⟨_, rfl, Below.refl _ _, cst_ok⟩
        apply RegW.val 6 rfl
        · intro a w' hF hB hd; have v5 : a.tmps[100]?.getD undef = _ := hd 5 (of_decide_eq_true (by kernel_rfl)) 0 _ _ rfl rfl; have gd := tmp_bool v5; have e19 := hF.2.2 19 (by decide); simp at e19; clear hd hF; refine wpOp_step rfl (fun K' hK => ?_); go_simp; exact hK _ _ ⟨_, rfl, Below.refl _ _, cst_ok⟩
        apply RegW.val 7 rfl
        · intro a w' hF hB hd; have v5 : a.tmps[100]?.getD undef = _ := hd 5 (of_decide_eq_true (by kernel_rfl)) 1 _ _ rfl rfl; have gd := tmp_bool v5; have e12 := hF.2.2 12 (by decide); simp at e12; clear hd hF; refine wpOp_step rfl (fun K' hK => ?_); go_simp; exact hK _ _ ⟨_, rfl, Below.refl _ _, cst_ok⟩
        apply RegW.val 8 rfl
        · intro a w' hF hB hd; have v5 : a.tmps[100]?.getD undef = _ := hd 5 (of_decide_eq_true (by kernel_rfl)) 2 _ _ rfl rfl; have gd := tmp_bool v5; have e2 := hF.2.2 2 (by decide); simp at e2; clear hd hF; refine wpOp_step rfl (fun K' hK => ?_); go_simp; exact hK _ _ ⟨_, rfl, Below.refl _ _, cst_ok⟩
        apply RegW.val 9 rfl
        · intro a w' hF hB hd; have v5 : a.tmps[100]?.getD undef = _ := hd 5 (of_decide_eq_true (by kernel_rfl)) 3 _ _ rfl rfl; have v7 : a.tmps[102]?.getD undef = _ := hd 7 (of_decide_eq_true (by kernel_rfl)) 1 _ _ rfl rfl; have v8 : a.tmps[103]?.getD undef = _ := hd 8 (of_decide_eq_true (by kernel_rfl)) 0 _ _ rfl rfl; have gd := tmp_bool v5; clear hd hF; refine wpOp_step rfl (fun K' hK => ?_); go_simp; refine (rFits_w (HT.out.2.2.2.2.2.1.keep hB) (fits_le (fits_mul hX hY) (by decide)) (hfm)).mono ?_; rintro e w1 ⟨rfl, hb⟩; exact hK _ _ ⟨_, rfl, hb, cst_ok⟩
        apply RegW.val 10 rfl
        · intro a w' hF hB hd; have v5 : a.tmps[100]?.getD undef = _ := hd 5 (of_decide_eq_true (by kernel_rfl)) 4 _ _ rfl rfl; have v6 : a.tmps[101]?.getD undef = _ := hd 6 (of_decide_eq_true (by kernel_rfl)) 3 _ _ rfl rfl; have v9 : a.tmps[104]?.getD undef = _ := hd 9 (of_decide_eq_true (by kernel_rfl)) 0 _ _ rfl rfl; have gd := tmp_bool v5; clear hd hF; refine wpOp_step rfl (fun K' hK => ?_); go_simp; exact hK _ _ ⟨_, rfl, Below.refl _ _, cst_ok⟩
        apply RegW.val 11 rfl
        · intro a w' hF hB hd; have v5 : a.tmps[100]?.getD undef = _ := hd 5 (of_decide_eq_true (by kernel_rfl)) 5 _ _ rfl rfl; have v10 : a.tmps[105]?.getD undef = _ := hd 10 (of_decide_eq_true (by kernel_rfl)) 0 _ _ rfl rfl; clear hd hF; refine wpOp_step rfl (fun K' hK => ?_); go_simp; exact hK _ _ ⟨_, rfl, Below.refl _ _, cst_ok⟩
        apply RegW.val 12 rfl
        · intro a w' hF hB hd; have v11 : a.tmps[106]?.getD undef = _ := hd 11 (of_decide_eq_true (by kernel_rfl)) 0 _ _ rfl rfl; clear hd hF; refine wpOp_step rfl (fun K' hK => ?_); go_simp; exact hK _ _ ⟨_, rfl, Below.refl _ _, cst_ok⟩
        apply RegW.val 13 rfl
        · intro a w' hF hB hd; have v12 : a.tmps[107]?.getD undef = _ := hd 12 (of_decide_eq_true (by kernel_rfl)) 0 _ _ rfl rfl; have gd := tmp_bool v12; have e17 := hF.2.2 17 (by decide); simp at e17; clear hd hF; refine wpOp_step rfl (fun K' hK => ?_); go_simp; exact hK _ _ ⟨_, rfl, Below.refl _ _, cst_ok⟩
        apply RegW.val 14 rfl
        · intro a w' hF hB hd; have v12 : a.tmps[107]?.getD undef = _ := hd 12 (of_decide_eq_true (by kernel_rfl)) 1 _ _ rfl rfl; have v13 : a.tmps[108]?.getD undef = _ := hd 13 (of_decide_eq_true (by kernel_rfl)) 0 _ _ rfl rfl; have gd := tmp_bool v12; clear hd hF; refine wpOp_step rfl (fun K' hK => ?_); go_simp; exact hK _ _ ⟨_, rfl, Below.refl _ _, cst_ok⟩
        apply RegW.num 15 rfl
        · intro a w' hF hB hd; have v14 : a.tmps[109]?.getD undef = _ := hd 14 (of_decide_eq_true (by kernel_rfl)) 0 _ _ rfl rfl; have gd := tmp_bool v14; have e16 := hF.2.2 16 (by decide); simp at e16; clear hd hF; obtain ⟨sv, hk, hi⟩ := (HA.out).keep hB; have c0 := hk.cell 0; simp at c0; refine wpOp_step rfl (fun K' hK => ?_); go_simp; exact hK _ _ ⟨_, rfl, Below.refl _ _, ⟨_, rfl, hi⟩⟩
        apply RegW.val 16 rfl
        · intro a w' hF hB hd; have v14 : a.tmps[109]?.getD undef = _ := hd 14 (of_decide_eq_true (by kernel_rfl)) 1 _ _ rfl rfl; have gd := tmp_bool v14; have e11 := hF.2.2 11 (by decide); simp at e11; clear hd hF; refine wpOp_step rfl (fun K' hK => ?_); go_simp; exact hK _ _ ⟨_, rfl, Below.refl _ _, cst_ok⟩
        apply RegW.val 17 rfl
        · intro a w' hF hB hd; have v14 : a.tmps[109]?.getD undef = _ := hd 14 (of_decide_eq_true (by kernel_rfl)) 2 _ _ rfl rfl; have u15 := hd 15 (of_decide_eq_true (by kernel_rfl)) 1 _ _ rfl rfl; obtain ⟨x15, p15, q15⟩ := u15; have v16 : a.tmps[111]?.getD undef = _ := hd 16 (of_decide_eq_true (by kernel_rfl)) 0 _ _ rfl rfl; have gd := tmp_bool v14; clear hd hF; refine wpOp_step rfl (fun K' hK => ?_); go_simp; refine (is_w q15 (HT.out.2.2.2.2.1.keep hB) (fits_le (fits_add hX hY) (by decide))).mono ?_; rintro e w1 ⟨rfl, hb⟩; exact hK _ _ ⟨_, rfl, hb, cst_ok⟩
        apply RegW.val 18 rfl
        · intro a w' hF hB hd; have v14 : a.tmps[109]?.getD undef = _ := hd 14 (of_decide_eq_true (by kernel_rfl)) 3 _ _ rfl rfl; have v17 : a.tmps[112]?.getD undef = _ := hd 17 (of_decide_eq_true (by kernel_rfl)) 0 _ _ rfl rfl; have gd := tmp_bool v14; clear hd hF; refine wpOp_step rfl (fun K' hK => ?_); go_simp; exact hK _ _ ⟨_, rfl, Below.refl _ _, cst_ok⟩
        apply RegW.val 19 rfl
        · intro a w' hF hB hd; have v12 : a.tmps[107]?.getD undef = _ := hd 12 (of_decide_eq_true (by kernel_rfl)) 6 _ _ rfl rfl; have v14 : a.tmps[109]?.getD undef = _ := hd 14 (of_decide_eq_true (by kernel_rfl)) 4 _ _ rfl rfl; have v18 : a.tmps[113]?.getD undef = _ := hd 18 (of_decide_eq_true (by kernel_rfl)) 0 _ _ rfl rfl; have gd := tmp_bool v12; clear hd hF; refine wpOp_step rfl (fun K' hK => ?_); go_simp; exact hK _ _ ⟨_, rfl, Below.refl _ _, cst_ok⟩
        apply RegW.val 20 rfl
        · intro a w' hF hB hd; have v12 : a.tmps[107]?.getD undef = _ := hd 12 (of_decide_eq_true (by kernel_rfl)) 7 _ _ rfl rfl; have v19 : a.tmps[114]?.getD undef = _ := hd 19 (of_decide_eq_true (by kernel_rfl)) 0 _ _ rfl rfl; clear hd hF; refine wpOp_step rfl (fun K' hK => ?_); go_simp; exact hK _ _ ⟨_, rfl, Below.refl _ _, cst_ok⟩
        apply RegW.val 21 rfl
        · intro a w' hF hB hd; have v20 : a.tmps[115]?.getD undef = _ := hd 20 (of_decide_eq_true (by kernel_rfl)) 0 _ _ rfl rfl; clear hd hF; refine wpOp_step rfl (fun K' hK => ?_); go_simp; exact hK _ _ ⟨_, rfl, Below.refl _ _, cst_ok⟩
        apply RegW.val 22 rfl
        · intro a w' hF hB hd; have v21 : a.tmps[116]?.getD undef = _ := hd 21 (of_decide_eq_true (by kernel_rfl)) 0 _ _ rfl rfl; have gd := tmp_bool v21; have e17 := hF.2.2 17 (by decide); simp at e17; clear hd hF; refine wpOp_step rfl (fun K' hK => ?_); go_simp; exact hK _ _ ⟨_, rfl, Below.refl _ _, cst_ok⟩
        apply RegW.val 23 rfl
        · intro a w' hF hB hd; have v21 : a.tmps[116]?.getD undef = _ := hd 21 (of_decide_eq_true (by kernel_rfl)) 1 _ _ rfl rfl; have v22 : a.tmps[117]?.getD undef = _ := hd 22 (of_decide_eq_true (by kernel_rfl)) 0 _ _ rfl rfl; have gd := tmp_bool v21; clear hd hF; refine wpOp_step rfl (fun K' hK => ?_); go_simp; exact hK _ _ ⟨_, rfl, Below.refl _ _, cst_ok⟩
        apply RegW.val 24 rfl
        · intro a w' hF hB hd; have v21 : a.tmps[116]?.getD undef = _ := hd 21 (of_decide_eq_true (by kernel_rfl)) 2 _ _ rfl rfl; have v23 : a.tmps[118]?.getD undef = _ := hd 23 (of_decide_eq_true (by kernel_rfl)) 0 _ _ rfl rfl; have gd := tmp_bool v21; clear hd hF; refine wpOp_step rfl (fun K' hK => ?_); go_simp; exact hK _ _ ⟨_, rfl, Below.refl _ _, cst_ok⟩
        refine RegW.skip 25 24 119 _ _ _ _ rfl rfl rfl rfl rfl rfl (by kernel_rfl) 0 rfl rfl rfl ?_
        refine RegW.skip 26 24 119 _ _ _ _ rfl rfl rfl rfl rfl rfl (by kernel_rfl) 1 rfl rfl rfl ?_
        refine RegW.skip 27 24 119 _ _ _ _ rfl rfl rfl rfl rfl rfl (by kernel_rfl) 2 rfl rfl rfl ?_
        apply RegW.val 28 rfl
        · intro a w' hF hB hd; have v21 : a.tmps[116]?.getD undef = _ := hd 21 (of_decide_eq_true (by kernel_rfl)) 6 _ _ rfl rfl; have v24 : a.tmps[119]?.getD undef = _ := hd 24 (of_decide_eq_true (by kernel_rfl)) 3 _ _ rfl rfl; have v27 : a.tmps[122]?.getD undef = _ := hd 27 (of_decide_eq_true (by kernel_rfl)) 0 _ _ rfl rfl; have gd := tmp_bool v21; clear hd hF; refine wpOp_step rfl (fun K' hK => ?_); go_simp; exact hK _ _ ⟨_, rfl, Below.refl _ _, cst_ok⟩
        apply RegW.val 29 rfl
        · intro a w' hF hB hd; have v21 : a.tmps[116]?.getD undef = _ := hd 21 (of_decide_eq_true (by kernel_rfl)) 7 _ _ rfl rfl; have v28 : a.tmps[123]?.getD undef = _ := hd 28 (of_decide_eq_true (by kernel_rfl)) 0 _ _ rfl rfl; clear hd hF; refine wpOp_step rfl (fun K' hK => ?_); go_simp; exact hK _ _ ⟨_, rfl, Below.refl _ _, cst_ok⟩
        apply RegW.val 30 rfl
        · intro a w' hF hB hd; have v29 : a.tmps[124]?.getD undef = _ := hd 29 (of_decide_eq_true (by kernel_rfl)) 0 _ _ rfl rfl; clear hd hF; refine wpOp_step rfl (fun K' hK => ?_); go_simp; exact hK _ _ ⟨_, rfl, Below.refl _ _, cst_ok⟩
        apply RegW.val 31 rfl
        · intro a w' hF hB hd; have v30 : a.tmps[125]?.getD undef = _ := hd 30 (of_decide_eq_true (by kernel_rfl)) 0 _ _ rfl rfl; have gd := tmp_bool v30; have e19 := hF.2.2 19 (by decide); simp at e19; clear hd hF; refine wpOp_step rfl (fun K' hK => ?_); go_simp; exact hK _ _ ⟨_, rfl, Below.refl _ _, cst_ok⟩
        apply RegW.val 32 rfl
        · intro a w' hF hB hd; have v30 : a.tmps[125]?.getD undef = _ := hd 30 (of_decide_eq_true (by kernel_rfl)) 1 _ _ rfl rfl; have v31 : a.tmps[126]?.getD undef = _ := hd 31 (of_decide_eq_true (by kernel_rfl)) 0 _ _ rfl rfl; have gd := tmp_bool v30; clear hd hF; refine wpOp_step rfl (fun K' hK => ?_); go_simp; exact hK _ _ ⟨_, rfl, Below.refl _ _, cst_ok⟩
        refine RegW.skip 33 32 127 _ _ _ _ rfl rfl rfl rfl rfl rfl (by kernel_rfl) 0 rfl rfl rfl ?_
        refine RegW.skip 34 32 127 _ _ _ _ rfl rfl rfl rfl rfl rfl (by kernel_rfl) 1 rfl rfl rfl ?_
        refine RegW.skip 35 32 127 _ _ _ _ rfl rfl rfl rfl rfl rfl (by kernel_rfl) 2 rfl rfl rfl ?_
        refine RegW.skip 36 32 127 _ _ _ _ rfl rfl rfl rfl rfl rfl (by kernel_rfl) 3 rfl rfl rfl ?_
        apply RegW.val 37 rfl
        · intro a w' hF hB hd; have v30 : a.tmps[125]?.getD undef = _ := hd 30 (of_decide_eq_true (by kernel_rfl)) 6 _ _ rfl rfl; have v32 : a.tmps[127]?.getD undef = _ := hd 32 (of_decide_eq_true (by kernel_rfl)) 4 _ _ rfl rfl; have v36 : a.tmps[131]?.getD undef = _ := hd 36 (of_decide_eq_true (by kernel_rfl)) 0 _ _ rfl rfl; have gd := tmp_bool v30; clear hd hF; refine wpOp_step rfl (fun K' hK => ?_); go_simp; exact hK _ _ ⟨_, rfl, Below.refl _ _, cst_ok⟩
        apply RegW.val 38 rfl
        · intro a w' hF hB hd; have v30 : a.tmps[125]?.getD undef = _ := hd 30 (of_decide_eq_true (by kernel_rfl)) 7 _ _ rfl rfl; have v37 : a.tmps[132]?.getD undef = _ := hd 37 (of_decide_eq_true (by kernel_rfl)) 0 _ _ rfl rfl; clear hd hF; refine wpOp_step rfl (fun K' hK => ?_); go_simp; exact hK _ _ ⟨_, rfl, Below.refl _ _, cst_ok⟩
        apply RegW.val 39 rfl
        · intro a w' hF hB hd; have v38 : a.tmps[133]?.getD undef = _ := hd 38 (of_decide_eq_true (by kernel_rfl)) 0 _ _ rfl rfl; clear hd hF; refine wpOp_step rfl (fun K' hK => ?_); go_simp; exact hK _ _ ⟨_, rfl, Below.refl _ _, cst_ok⟩
        apply RegW.val 40 rfl
        · intro a w' hF hB hd; have v39 : a.tmps[134]?.getD undef = _ := hd 39 (of_decide_eq_true (by kernel_rfl)) 0 _ _ rfl rfl; have gd := tmp_bool v39; have e19 := hF.2.2 19 (by decide); simp at e19; clear hd hF; refine wpOp_step rfl (fun K' hK => ?_); go_simp; exact hK _ _ ⟨_, rfl, Below.refl _ _, cst_ok⟩
        apply RegW.val 41 rfl
        · intro a w' hF hB hd; have v39 : a.tmps[134]?.getD undef = _ := hd 39 (of_decide_eq_true (by kernel_rfl)) 1 _ _ rfl rfl; have v40 : a.tmps[135]?.getD undef = _ := hd 40 (of_decide_eq_true (by kernel_rfl)) 0 _ _ rfl rfl; have gd := tmp_bool v39; clear hd hF; refine wpOp_step rfl (fun K' hK => ?_); go_simp; exact hK _ _ ⟨_, rfl, Below.refl _ _, cst_ok⟩
        apply RegW.val 42 rfl
        · intro a w' hF hB hd; have v39 : a.tmps[134]?.getD undef = _ := hd 39 (of_decide_eq_true (by kernel_rfl)) 2 _ _ rfl rfl; have v41 : a.tmps[136]?.getD undef = _ := hd 41 (of_decide_eq_true (by kernel_rfl)) 0 _ _ rfl rfl; have gd := tmp_bool v39; clear hd hF; refine wpOp_step rfl (fun K' hK => ?_); go_simp; exact hK _ _ ⟨_, rfl, Below.refl _ _, cst_ok⟩
        apply RegW.num 43 rfl
        · intro a w' hF hB hd; have v42 : a.tmps[137]?.getD undef = _ := hd 42 (of_decide_eq_true (by kernel_rfl)) 0 _ _ rfl rfl; have gd := tmp_bool v42; have e18 := hF.2.2 18 (by decide); simp at e18; clear hd hF; obtain ⟨sv, hk, hi⟩ := (HM.out).keep hB; have c0 := hk.cell 0; simp at c0; refine wpOp_step rfl (fun K' hK => ?_); go_simp; exact hK _ _ ⟨_, rfl, Below.refl _ _, ⟨_, rfl, hi⟩⟩
        apply RegW.val 44 rfl
        · intro a w' hF hB hd; have v42 : a.tmps[137]?.getD undef = _ := hd 42 (of_decide_eq_true (by kernel_rfl)) 1 _ _ rfl rfl; have u43 := hd 43 (of_decide_eq_true (by kernel_rfl)) 0 _ _ rfl rfl; obtain ⟨x43, p43, q43⟩ := u43; have gd := tmp_bool v42; clear hd hF; refine wpOp_step rfl (fun K' hK => ?_); go_simp; refine (is_nil q43 rfl).mono ?_; rintro e w1 ⟨rfl, hb⟩; exact hK _ _ ⟨_, rfl, hb, cst_ok⟩
        apply RegW.val 45 rfl
        · intro a w' hF hB hd; have v42 : a.tmps[137]?.getD undef = _ := hd 42 (of_decide_eq_true (by kernel_rfl)) 2 _ _ rfl rfl; have v44 : a.tmps[139]?.getD undef = _ := hd 44 (of_decide_eq_true (by kernel_rfl)) 0 _ _ rfl rfl; have gd := tmp_bool v42; clear hd hF; refine wpOp_step rfl (fun K' hK => ?_); go_simp; exact hK _ _ ⟨_, rfl, Below.refl _ _, cst_ok⟩
        apply RegW.val 46 rfl
        · intro a w' hF hB hd; have v39 : a.tmps[134]?.getD undef = _ := hd 39 (of_decide_eq_true (by kernel_rfl)) 6 _ _ rfl rfl; have v42 : a.tmps[137]?.getD undef = _ := hd 42 (of_decide_eq_true (by kernel_rfl)) 3 _ _ rfl rfl; have v45 : a.tmps[140]?.getD undef = _ := hd 45 (of_decide_eq_true (by kernel_rfl)) 0 _ _ rfl rfl; have gd := tmp_bool v39; clear hd hF; refine wpOp_step rfl (fun K' hK => ?_); go_simp; exact hK _ _ ⟨_, rfl, Below.refl _ _, cst_ok⟩
        apply RegW.val 47 rfl
        · intro a w' hF hB hd; have v39 : a.tmps[134]?.getD undef = _ := hd 39 (of_decide_eq_true (by kernel_rfl)) 7 _ _ rfl rfl; have v46 : a.tmps[141]?.getD undef = _ := hd 46 (of_decide_eq_true (by kernel_rfl)) 0 _ _ rfl rfl; clear hd hF; refine wpOp_step rfl (fun K' hK => ?_); go_simp; exact hK _ _ ⟨_, rfl, Below.refl _ _, cst_ok⟩
        refine RegW.done (fun a w' hF hB hv => ?_)
        have v0 : a.tmps[95]?.getD undef = _ := hv 47 _ _ rfl
        have v1 : a.tmps[96]?.getD undef = _ := hv 46 _ _ rfl
        have v2 : a.tmps[97]?.getD undef = _ := hv 45 _ _ rfl
        have v3 : a.tmps[98]?.getD undef = _ := hv 44 _ _ rfl
        have v4 : a.tmps[99]?.getD undef = _ := hv 43 _ _ rfl
        have v5 : a.tmps[100]?.getD undef = _ := hv 42 _ _ rfl
        have v6 : a.tmps[101]?.getD undef = _ := hv 41 _ _ rfl
        have v7 : a.tmps[102]?.getD undef = _ := hv 40 _ _ rfl
        have v8 : a.tmps[103]?.getD undef = _ := hv 39 _ _ rfl
        have v9 : a.tmps[104]?.getD undef = _ := hv 38 _ _ rfl
        have v10 : a.tmps[105]?.getD undef = _ := hv 37 _ _ rfl
        have v11 : a.tmps[106]?.getD undef = _ := hv 36 _ _ rfl
        have v12 : a.tmps[107]?.getD undef = _ := hv 35 _ _ rfl
        have v13 : a.tmps[108]?.getD undef = _ := hv 34 _ _ rfl
        have v14 : a.tmps[109]?.getD undef = _ := hv 33 _ _ rfl
        have u15 := hv 32 _ _ rfl
        obtain ⟨x15, p15, q15⟩ := u15
        have v16 : a.tmps[111]?.getD undef = _ := hv 31 _ _ rfl
        have v17 : a.tmps[112]?.getD undef = _ := hv 30 _ _ rfl
        have v18 : a.tmps[113]?.getD undef = _ := hv 29 _ _ rfl
        have v19 : a.tmps[114]?.getD undef = _ := hv 28 _ _ rfl
        have v20 : a.tmps[115]?.getD undef = _ := hv 27 _ _ rfl
        have v21 : a.tmps[116]?.getD undef = _ := hv 26 _ _ rfl
        have v22 : a.tmps[117]?.getD undef = _ := hv 25 _ _ rfl
        have v23 : a.tmps[118]?.getD undef = _ := hv 24 _ _ rfl
        have v24 : a.tmps[119]?.getD undef = _ := hv 23 _ _ rfl
        have v25 : a.tmps[120]?.getD undef = _ := hv 22 _ _ rfl
        have v26 : a.tmps[121]?.getD undef = _ := hv 21 _ _ rfl
        have v27 : a.tmps[122]?.getD undef = _ := hv 20 _ _ rfl
        have v28 : a.tmps[123]?.getD undef = _ := hv 19 _ _ rfl
        have v29 : a.tmps[124]?.getD undef = _ := hv 18 _ _ rfl
        have v30 : a.tmps[125]?.getD undef = _ := hv 17 _ _ rfl
        have v31 : a.tmps[126]?.getD undef = _ := hv 16 _ _ rfl
        have v32 : a.tmps[127]?.getD undef = _ := hv 15 _ _ rfl
        have v33 : a.tmps[128]?.getD undef = _ := hv 14 _ _ rfl
        have v34 : a.tmps[129]?.getD undef = _ := hv 13 _ _ rfl
        have v35 : a.tmps[130]?.getD undef = _ := hv 12 _ _ rfl
        have v36 : a.tmps[131]?.getD undef = _ := hv 11 _ _ rfl
        have v37 : a.tmps[132]?.getD undef = _ := hv 10 _ _ rfl
        have v38 : a.tmps[133]?.getD undef = _ := hv 9 _ _ rfl
        have v39 : a.tmps[134]?.getD undef = _ := hv 8 _ _ rfl
        have v40 : a.tmps[135]?.getD undef = _ := hv 7 _ _ rfl
        have v41 : a.tmps[136]?.getD undef = _ := hv 6 _ _ rfl
        have v42 : a.tmps[137]?.getD undef = _ := hv 5 _ _ rfl
        have u43 := hv 4 _ _ rfl
        obtain ⟨x43, p43, q43⟩ := u43
        have v44 : a.tmps[139]?.getD undef = _ := hv 3 _ _ rfl
        have v45 : a.tmps[140]?.getD undef = _ := hv 2 _ _ rfl
        have v46 : a.tmps[141]?.getD undef = _ := hv 1 _ _ rfl
        have v47 : a.tmps[142]?.getD undef = _ := hv 0 _ _ rfl
        have hE := hF.out
        rw [hE]
        clear hE hF hv
        simp only [List.foldl_cons, List.foldl_nil, Act.put, List.setIfInBounds_toArray, List.set_cons_zero, List.set_cons_succ, Array.getD_eq_getD_getElem?, v0, v1, v2, v3, v4, v5, v6, v7, v8, v9, v10, v11, v12, v13, v14, p15, v16, v17, v18, v19, v20, v21, v22, v23, v24, v25, v26, v27, v28, v29, v30, v31, v32, v33, v34, v35, v36, v37, v38, v39, v40, v41, v42, p43, v44, v45, v46, v47]
        clear v0 v1 v2 v3 v4 v5 v6 v7 v8 v9 v10 v11 v12 v13 v14 p15 v16 v17 v18 v19 v20 v21 v22 v23 v24 v25 v26 v27 v28 v29 v30 v31 v32 v33 v34 v35 v36 v37 v38 v39 v40 v41 v42 p43 v44 v45 v46 v47
        have hE0 := hB
        clear hB
        go_wp2_with fail
        go_meet
        exact ⟨rfl, hE0⟩
      · rw [if_pos rfl] at ha0
        rw [if_pos rfl] at hm0
        have HA := Lib.hid ha0
        have HM := Lib.hid hm0
        clear ha0 hm0
        refine wp_region_seq [95, 96, 97, 98, 99, 100, 101, 102, 103, 104, 105, 106, 107, 108, 109, 110, 111, 112, 113, 114, 115, 116, 117, 118, 119, 120, 121, 122, 123, 124, 125, 126, 127, 128, 129, 130, 131, 132, 133, 134, 135, 136, 137, 138, 139, 140, 141, 142] (by kernel_rfl) rfl (by simp) (by kernel_rfl) ?_
        apply RegW.val 0 rfl
        · intro a w' hF hB hd; have e17 := hF.2.2 17 (by decide); simp at e17; clear hd hF; refine wpOp_step rfl (fun K' hK => ?_); go_simp; exact hK _ _ ⟨_, rfl, Below.refl _ _, cst_ok⟩
        apply RegW.val 1 rfl
        · intro a w' hF hB hd; have e11 := hF.2.2 11 (by decide); simp at e11; clear hd hF; refine wpOp_step rfl (fun K' hK => ?_); go_simp; exact hK _ _ ⟨_, rfl, Below.refl _ _, cst_ok⟩
        apply RegW.val 2 rfl
        · intro a w' hF hB hd; have e2 := hF.2.2 2 (by decide); simp at e2; clear hd hF; refine wpOp_step rfl (fun K' hK => ?_); go_simp; exact hK _ _ ⟨_, rfl, Below.refl _ _, cst_ok⟩
        apply RegW.val 3 rfl
        · intro a w' hF hB hd; have v1 : a.tmps[96]?.getD undef = _ := hd 1 (of_decide_eq_true (by kernel_rfl)) 1 _ _ rfl rfl; have v2 : a.tmps[97]?.getD undef = _ := hd 2 (of_decide_eq_true (by kernel_rfl)) 0 _ _ rfl rfl; clear hd hF; refine wpOp_step rfl (fun K' hK => ?_); go_simp; refine (rFits_w (HT.out.2.2.2.2.1.keep hB) (fits_le (fits_add hX hY) (by decide)) (hfa)).mono ?_; rintro e w1 ⟨rfl, hb⟩; exact hK _ _ ⟨_, rfl, hb, cst_ok⟩
        apply RegW.val 4 rfl
        · intro a w' hF hB hd; have v0 : a.tmps[95]?.getD undef = _ := hd 0 (of_decide_eq_true (by kernel_rfl)) 3 _ _ rfl rfl; have v3 : a.tmps[98]?.getD undef = _ := hd 3 (of_decide_eq_true (by kernel_rfl)) 0 _ _ rfl rfl; clear hd hF; refine wpOp_step rfl (fun K' hK => ?_); go_simp; exact hK _ _ ⟨_, rfl, Below.refl _ _, cst_ok⟩
        apply RegW.val 5 rfl
        · intro a w' hF hB hd; have v4 : a.tmps[99]?.getD undef = _ := hd 4 (of_decide_eq_true (by kernel_rfl)) 0 _ _ rfl rfl; clear hd hF; refine wpOp_step rfl (fun K' hK => ?_); go_simp; exact hK _ _ ⟨_, rfl, Below.refl _ _, cst_ok⟩
        apply RegW.val 6 rfl
        · intro a w' hF hB hd; have v5 : a.tmps[100]?.getD undef = _ := hd 5 (of_decide_eq_true (by kernel_rfl)) 0 _ _ rfl rfl; have gd := tmp_bool v5; have e19 := hF.2.2 19 (by decide); simp at e19; clear hd hF; refine wpOp_step rfl (fun K' hK => ?_); go_simp; exact hK _ _ ⟨_, rfl, Below.refl _ _, cst_ok⟩
        apply RegW.val 7 rfl
        · intro a w' hF hB hd; have v5 : a.tmps[100]?.getD undef = _ := hd 5 (of_decide_eq_true (by kernel_rfl)) 1 _ _ rfl rfl; have gd := tmp_bool v5; have e12 := hF.2.2 12 (by decide); simp at e12; clear hd hF; refine wpOp_step rfl (fun K' hK => ?_); go_simp; exact hK _ _ ⟨_, rfl, Below.refl _ _, cst_ok⟩
        apply RegW.val 8 rfl
        · intro a w' hF hB hd; have v5 : a.tmps[100]?.getD undef = _ := hd 5 (of_decide_eq_true (by kernel_rfl)) 2 _ _ rfl rfl; have gd := tmp_bool v5; have e2 := hF.2.2 2 (by decide); simp at e2; clear hd hF; refine wpOp_step rfl (fun K' hK => ?_); go_simp; exact hK _ _ ⟨_, rfl, Below.refl _ _, cst_ok⟩
        apply RegW.val 9 rfl
        · intro a w' hF hB hd; have v5 : a.tmps[100]?.getD undef = _ := hd 5 (of_decide_eq_true (by kernel_rfl)) 3 _ _ rfl rfl; have v7 : a.tmps[102]?.getD undef = _ := hd 7 (of_decide_eq_true (by kernel_rfl)) 1 _ _ rfl rfl; have v8 : a.tmps[103]?.getD undef = _ := hd 8 (of_decide_eq_true (by kernel_rfl)) 0 _ _ rfl rfl; have gd := tmp_bool v5; clear hd hF; refine wpOp_step rfl (fun K' hK => ?_); go_simp; refine (rFits_w (HT.out.2.2.2.2.2.1.keep hB) (fits_le (fits_mul hX hY) (by decide)) (hfm)).mono ?_; rintro e w1 ⟨rfl, hb⟩; exact hK _ _ ⟨_, rfl, hb, cst_ok⟩
        apply RegW.val 10 rfl
        · intro a w' hF hB hd; have v5 : a.tmps[100]?.getD undef = _ := hd 5 (of_decide_eq_true (by kernel_rfl)) 4 _ _ rfl rfl; have v6 : a.tmps[101]?.getD undef = _ := hd 6 (of_decide_eq_true (by kernel_rfl)) 3 _ _ rfl rfl; have v9 : a.tmps[104]?.getD undef = _ := hd 9 (of_decide_eq_true (by kernel_rfl)) 0 _ _ rfl rfl; have gd := tmp_bool v5; clear hd hF; refine wpOp_step rfl (fun K' hK => ?_); go_simp; exact hK _ _ ⟨_, rfl, Below.refl _ _, cst_ok⟩
        apply RegW.val 11 rfl
        · intro a w' hF hB hd; have v5 : a.tmps[100]?.getD undef = _ := hd 5 (of_decide_eq_true (by kernel_rfl)) 5 _ _ rfl rfl; have v10 : a.tmps[105]?.getD undef = _ := hd 10 (of_decide_eq_true (by kernel_rfl)) 0 _ _ rfl rfl; clear hd hF; refine wpOp_step rfl (fun K' hK => ?_); go_simp; exact hK _ _ ⟨_, rfl, Below.refl _ _, cst_ok⟩
        apply RegW.val 12 rfl
        · intro a w' hF hB hd; have v11 : a.tmps[106]?.getD undef = _ := hd 11 (of_decide_eq_true (by kernel_rfl)) 0 _ _ rfl rfl; clear hd hF; refine wpOp_step rfl (fun K' hK => ?_); go_simp; exact hK _ _ ⟨_, rfl, Below.refl _ _, cst_ok⟩
        apply RegW.val 13 rfl
        · intro a w' hF hB hd; have v12 : a.tmps[107]?.getD undef = _ := hd 12 (of_decide_eq_true (by kernel_rfl)) 0 _ _ rfl rfl; have gd := tmp_bool v12; have e17 := hF.2.2 17 (by decide); simp at e17; clear hd hF; refine wpOp_step rfl (fun K' hK => ?_); go_simp; exact hK _ _ ⟨_, rfl, Below.refl _ _, cst_ok⟩
        apply RegW.val 14 rfl
        · intro a w' hF hB hd; have v12 : a.tmps[107]?.getD undef = _ := hd 12 (of_decide_eq_true (by kernel_rfl)) 1 _ _ rfl rfl; have v13 : a.tmps[108]?.getD undef = _ := hd 13 (of_decide_eq_true (by kernel_rfl)) 0 _ _ rfl rfl; have gd := tmp_bool v12; clear hd hF; refine wpOp_step rfl (fun K' hK => ?_); go_simp; exact hK _ _ ⟨_, rfl, Below.refl _ _, cst_ok⟩
        apply RegW.num 15 rfl
        · intro a w' hF hB hd; have v14 : a.tmps[109]?.getD undef = _ := hd 14 (of_decide_eq_true (by kernel_rfl)) 0 _ _ rfl rfl; have gd := tmp_bool v14; have e16 := hF.2.2 16 (by decide); simp at e16; clear hd hF; obtain ⟨sv, hk, hi⟩ := (HA.out).keep hB; have c0 := hk.cell 0; simp at c0; refine wpOp_step rfl (fun K' hK => ?_); go_simp; exact hK _ _ ⟨_, rfl, Below.refl _ _, ⟨_, rfl, hi⟩⟩
        apply RegW.val 16 rfl
        · intro a w' hF hB hd; have v14 : a.tmps[109]?.getD undef = _ := hd 14 (of_decide_eq_true (by kernel_rfl)) 1 _ _ rfl rfl; have gd := tmp_bool v14; have e11 := hF.2.2 11 (by decide); simp at e11; clear hd hF; refine wpOp_step rfl (fun K' hK => ?_); go_simp; exact hK _ _ ⟨_, rfl, Below.refl _ _, cst_ok⟩
        apply RegW.val 17 rfl
        · intro a w' hF hB hd; have v14 : a.tmps[109]?.getD undef = _ := hd 14 (of_decide_eq_true (by kernel_rfl)) 2 _ _ rfl rfl; have u15 := hd 15 (of_decide_eq_true (by kernel_rfl)) 1 _ _ rfl rfl; obtain ⟨x15, p15, q15⟩ := u15; have v16 : a.tmps[111]?.getD undef = _ := hd 16 (of_decide_eq_true (by kernel_rfl)) 0 _ _ rfl rfl; have gd := tmp_bool v14; clear hd hF; refine wpOp_step rfl (fun K' hK => ?_); go_simp; refine (is_w q15 (HT.out.2.2.2.2.1.keep hB) (fits_le (fits_add hX hY) (by decide))).mono ?_; rintro e w1 ⟨rfl, hb⟩; exact hK _ _ ⟨_, rfl, hb, cst_ok⟩
        apply RegW.val 18 rfl
        · intro a w' hF hB hd; have v14 : a.tmps[109]?.getD undef = _ := hd 14 (of_decide_eq_true (by kernel_rfl)) 3 _ _ rfl rfl; have v17 : a.tmps[112]?.getD undef = _ := hd 17 (of_decide_eq_true (by kernel_rfl)) 0 _ _ rfl rfl; have gd := tmp_bool v14; clear hd hF; refine wpOp_step rfl (fun K' hK => ?_); go_simp; exact hK _ _ ⟨_, rfl, Below.refl _ _, cst_ok⟩
        apply RegW.val 19 rfl
        · intro a w' hF hB hd; have v12 : a.tmps[107]?.getD undef = _ := hd 12 (of_decide_eq_true (by kernel_rfl)) 6 _ _ rfl rfl; have v14 : a.tmps[109]?.getD undef = _ := hd 14 (of_decide_eq_true (by kernel_rfl)) 4 _ _ rfl rfl; have v18 : a.tmps[113]?.getD undef = _ := hd 18 (of_decide_eq_true (by kernel_rfl)) 0 _ _ rfl rfl; have gd := tmp_bool v12; clear hd hF; refine wpOp_step rfl (fun K' hK => ?_); go_simp; exact hK _ _ ⟨_, rfl, Below.refl _ _, cst_ok⟩
        apply RegW.val 20 rfl
        · intro a w' hF hB hd; have v12 : a.tmps[107]?.getD undef = _ := hd 12 (of_decide_eq_true (by kernel_rfl)) 7 _ _ rfl rfl; have v19 : a.tmps[114]?.getD undef = _ := hd 19 (of_decide_eq_true (by kernel_rfl)) 0 _ _ rfl rfl; clear hd hF; refine wpOp_step rfl (fun K' hK => ?_); go_simp; exact hK _ _ ⟨_, rfl, Below.refl _ _, cst_ok⟩
        apply RegW.val 21 rfl
        · intro a w' hF hB hd; have v20 : a.tmps[115]?.getD undef = _ := hd 20 (of_decide_eq_true (by kernel_rfl)) 0 _ _ rfl rfl; clear hd hF; refine wpOp_step rfl (fun K' hK => ?_); go_simp; exact hK _ _ ⟨_, rfl, Below.refl _ _, cst_ok⟩
        apply RegW.val 22 rfl
        · intro a w' hF hB hd; have v21 : a.tmps[116]?.getD undef = _ := hd 21 (of_decide_eq_true (by kernel_rfl)) 0 _ _ rfl rfl; have gd := tmp_bool v21; have e17 := hF.2.2 17 (by decide); simp at e17; clear hd hF; refine wpOp_step rfl (fun K' hK => ?_); go_simp; exact hK _ _ ⟨_, rfl, Below.refl _ _, cst_ok⟩
        apply RegW.val 23 rfl
        · intro a w' hF hB hd; have v21 : a.tmps[116]?.getD undef = _ := hd 21 (of_decide_eq_true (by kernel_rfl)) 1 _ _ rfl rfl; have v22 : a.tmps[117]?.getD undef = _ := hd 22 (of_decide_eq_true (by kernel_rfl)) 0 _ _ rfl rfl; have gd := tmp_bool v21; clear hd hF; refine wpOp_step rfl (fun K' hK => ?_); go_simp; exact hK _ _ ⟨_, rfl, Below.refl _ _, cst_ok⟩
        apply RegW.val 24 rfl
        · intro a w' hF hB hd; have v21 : a.tmps[116]?.getD undef = _ := hd 21 (of_decide_eq_true (by kernel_rfl)) 2 _ _ rfl rfl; have v23 : a.tmps[118]?.getD undef = _ := hd 23 (of_decide_eq_true (by kernel_rfl)) 0 _ _ rfl rfl; have gd := tmp_bool v21; clear hd hF; refine wpOp_step rfl (fun K' hK => ?_); go_simp; exact hK _ _ ⟨_, rfl, Below.refl _ _, cst_ok⟩
        refine RegW.skip 25 24 119 _ _ _ _ rfl rfl rfl rfl rfl rfl (by kernel_rfl) 0 rfl rfl rfl ?_
        refine RegW.skip 26 24 119 _ _ _ _ rfl rfl rfl rfl rfl rfl (by kernel_rfl) 1 rfl rfl rfl ?_
        refine RegW.skip 27 24 119 _ _ _ _ rfl rfl rfl rfl rfl rfl (by kernel_rfl) 2 rfl rfl rfl ?_
        apply RegW.val 28 rfl
        · intro a w' hF hB hd; have v21 : a.tmps[116]?.getD undef = _ := hd 21 (of_decide_eq_true (by kernel_rfl)) 6 _ _ rfl rfl; have v24 : a.tmps[119]?.getD undef = _ := hd 24 (of_decide_eq_true (by kernel_rfl)) 3 _ _ rfl rfl; have v27 : a.tmps[122]?.getD undef = _ := hd 27 (of_decide_eq_true (by kernel_rfl)) 0 _ _ rfl rfl; have gd := tmp_bool v21; clear hd hF; refine wpOp_step rfl (fun K' hK => ?_); go_simp; exact hK _ _ ⟨_, rfl, Below.refl _ _, cst_ok⟩
        apply RegW.val 29 rfl
        · intro a w' hF hB hd; have v21 : a.tmps[116]?.getD undef = _ := hd 21 (of_decide_eq_true (by kernel_rfl)) 7 _ _ rfl rfl; have v28 : a.tmps[123]?.getD undef = _ := hd 28 (of_decide_eq_true (by kernel_rfl)) 0 _ _ rfl rfl; clear hd hF; refine wpOp_step rfl (fun K' hK => ?_); go_simp; exact hK _ _ ⟨_, rfl, Below.refl _ _, cst_ok⟩
        apply RegW.val 30 rfl
        · intro a w' hF hB hd; have v29 : a.tmps[124]?.getD undef = _ := hd 29 (of_decide_eq_true (by kernel_rfl)) 0 _ _ rfl rfl; clear hd hF; refine wpOp_step rfl (fun K' hK => ?_); go_simp; exact hK _ _ ⟨_, rfl, Below.refl _ _, cst_ok⟩
        apply RegW.val 31 rfl
        · intro a w' hF hB hd; have v30 : a.tmps[125]?.getD undef = _ := hd 30 (of_decide_eq_true (by kernel_rfl)) 0 _ _ rfl rfl; have gd := tmp_bool v30; have e19 := hF.2.2 19 (by decide); simp at e19; clear hd hF; refine wpOp_step rfl (fun K' hK => ?_); go_simp; exact hK _ _ ⟨_, rfl, Below.refl _ _, cst_ok⟩
        apply RegW.val 32 rfl
        · intro a w' hF hB hd; have v30 : a.tmps[125]?.getD undef = _ := hd 30 (of_decide_eq_true (by kernel_rfl)) 1 _ _ rfl rfl; have v31 : a.tmps[126]?.getD undef = _ := hd 31 (of_decide_eq_true (by kernel_rfl)) 0 _ _ rfl rfl; have gd := tmp_bool v30; clear hd hF; refine wpOp_step rfl (fun K' hK => ?_); go_simp; exact hK _ _ ⟨_, rfl, Below.refl _ _, cst_ok⟩
        apply RegW.num 33 rfl
        · intro a w' hF hB hd; have v32 : a.tmps[127]?.getD undef = _ := hd 32 (of_decide_eq_true (by kernel_rfl)) 0 _ _ rfl rfl; have gd := tmp_bool v32; have e18 := hF.2.2 18 (by decide); simp at e18; clear hd hF; obtain ⟨sv, hk, hi⟩ := (HM.out).keep hB; have c0 := hk.cell 0; simp at c0; refine wpOp_step rfl (fun K' hK => ?_); go_simp; exact hK _ _ ⟨_, rfl, Below.refl _ _, ⟨_, rfl, hi⟩⟩
        apply RegW.val 34 rfl
        · intro a w' hF hB hd; have v32 : a.tmps[127]?.getD undef = _ := hd 32 (of_decide_eq_true (by kernel_rfl)) 1 _ _ rfl rfl; have gd := tmp_bool v32; have e12 := hF.2.2 12 (by decide); simp at e12; clear hd hF; refine wpOp_step rfl (fun K' hK => ?_); go_simp; exact hK _ _ ⟨_, rfl, Below.refl _ _, cst_ok⟩
        apply RegW.val 35 rfl
        · intro a w' hF hB hd; have v32 : a.tmps[127]?.getD undef = _ := hd 32 (of_decide_eq_true (by kernel_rfl)) 2 _ _ rfl rfl; have u33 := hd 33 (of_decide_eq_true (by kernel_rfl)) 1 _ _ rfl rfl; obtain ⟨x33, p33, q33⟩ := u33; have v34 : a.tmps[129]?.getD undef = _ := hd 34 (of_decide_eq_true (by kernel_rfl)) 0 _ _ rfl rfl; have gd := tmp_bool v32; clear hd hF; refine wpOp_step rfl (fun K' hK => ?_); go_simp; refine (is_w q33 (HT.out.2.2.2.2.2.1.keep hB) (fits_le (fits_mul hX hY) (by decide))).mono ?_; rintro e w1 ⟨rfl, hb⟩; exact hK _ _ ⟨_, rfl, hb, cst_ok⟩
        apply RegW.val 36 rfl
        · intro a w' hF hB hd; have v32 : a.tmps[127]?.getD undef = _ := hd 32 (of_decide_eq_true (by kernel_rfl)) 3 _ _ rfl rfl; have v35 : a.tmps[130]?.getD undef = _ := hd 35 (of_decide_eq_true (by kernel_rfl)) 0 _ _ rfl rfl; have gd := tmp_bool v32; clear hd hF; refine wpOp_step rfl (fun K' hK => ?_); go_simp; exact hK _ _ ⟨_, rfl, Below.refl _ _, cst_ok⟩
        apply RegW.val 37 rfl
        · intro a w' hF hB hd; have v30 : a.tmps[125]?.getD undef = _ := hd 30 (of_decide_eq_true (by kernel_rfl)) 6 _ _ rfl rfl; have v32 : a.tmps[127]?.getD undef = _ := hd 32 (of_decide_eq_true (by kernel_rfl)) 4 _ _ rfl rfl; have v36 : a.tmps[131]?.getD undef = _ := hd 36 (of_decide_eq_true (by kernel_rfl)) 0 _ _ rfl rfl; have gd := tmp_bool v30; clear hd hF; refine wpOp_step rfl (fun K' hK => ?_); go_simp; exact hK _ _ ⟨_, rfl, Below.refl _ _, cst_ok⟩
        apply RegW.val 38 rfl
        · intro a w' hF hB hd; have v30 : a.tmps[125]?.getD undef = _ := hd 30 (of_decide_eq_true (by kernel_rfl)) 7 _ _ rfl rfl; have v37 : a.tmps[132]?.getD undef = _ := hd 37 (of_decide_eq_true (by kernel_rfl)) 0 _ _ rfl rfl; clear hd hF; refine wpOp_step rfl (fun K' hK => ?_); go_simp; exact hK _ _ ⟨_, rfl, Below.refl _ _, cst_ok⟩
        apply RegW.val 39 rfl
        · intro a w' hF hB hd; have v38 : a.tmps[133]?.getD undef = _ := hd 38 (of_decide_eq_true (by kernel_rfl)) 0 _ _ rfl rfl; clear hd hF; refine wpOp_step rfl (fun K' hK => ?_); go_simp; exact hK _ _ ⟨_, rfl, Below.refl _ _, cst_ok⟩
        apply RegW.val 40 rfl
        · intro a w' hF hB hd; have v39 : a.tmps[134]?.getD undef = _ := hd 39 (of_decide_eq_true (by kernel_rfl)) 0 _ _ rfl rfl; have gd := tmp_bool v39; have e19 := hF.2.2 19 (by decide); simp at e19; clear hd hF; refine wpOp_step rfl (fun K' hK => ?_); go_simp; exact hK _ _ ⟨_, rfl, Below.refl _ _, cst_ok⟩
        apply RegW.val 41 rfl
        · intro a w' hF hB hd; have v39 : a.tmps[134]?.getD undef = _ := hd 39 (of_decide_eq_true (by kernel_rfl)) 1 _ _ rfl rfl; have v40 : a.tmps[135]?.getD undef = _ := hd 40 (of_decide_eq_true (by kernel_rfl)) 0 _ _ rfl rfl; have gd := tmp_bool v39; clear hd hF; refine wpOp_step rfl (fun K' hK => ?_); go_simp; exact hK _ _ ⟨_, rfl, Below.refl _ _, cst_ok⟩
        apply RegW.val 42 rfl
        · intro a w' hF hB hd; have v39 : a.tmps[134]?.getD undef = _ := hd 39 (of_decide_eq_true (by kernel_rfl)) 2 _ _ rfl rfl; have v41 : a.tmps[136]?.getD undef = _ := hd 41 (of_decide_eq_true (by kernel_rfl)) 0 _ _ rfl rfl; have gd := tmp_bool v39; clear hd hF; refine wpOp_step rfl (fun K' hK => ?_); go_simp; exact hK _ _ ⟨_, rfl, Below.refl _ _, cst_ok⟩
        refine RegW.skip 43 42 137 _ _ _ _ rfl rfl rfl rfl rfl rfl (by kernel_rfl) 0 rfl rfl rfl ?_
        refine RegW.skip 44 42 137 _ _ _ _ rfl rfl rfl rfl rfl rfl (by kernel_rfl) 1 rfl rfl rfl ?_
        refine RegW.skip 45 42 137 _ _ _ _ rfl rfl rfl rfl rfl rfl (by kernel_rfl) 2 rfl rfl rfl ?_
        apply RegW.val 46 rfl
        · intro a w' hF hB hd; have v39 : a.tmps[134]?.getD undef = _ := hd 39 (of_decide_eq_true (by kernel_rfl)) 6 _ _ rfl rfl; have v42 : a.tmps[137]?.getD undef = _ := hd 42 (of_decide_eq_true (by kernel_rfl)) 3 _ _ rfl rfl; have v45 : a.tmps[140]?.getD undef = _ := hd 45 (of_decide_eq_true (by kernel_rfl)) 0 _ _ rfl rfl; have gd := tmp_bool v39; clear hd hF; refine wpOp_step rfl (fun K' hK => ?_); go_simp; exact hK _ _ ⟨_, rfl, Below.refl _ _, cst_ok⟩
        apply RegW.val 47 rfl
        · intro a w' hF hB hd; have v39 : a.tmps[134]?.getD undef = _ := hd 39 (of_decide_eq_true (by kernel_rfl)) 7 _ _ rfl rfl; have v46 : a.tmps[141]?.getD undef = _ := hd 46 (of_decide_eq_true (by kernel_rfl)) 0 _ _ rfl rfl; clear hd hF; refine wpOp_step rfl (fun K' hK => ?_); go_simp; exact hK _ _ ⟨_, rfl, Below.refl _ _, cst_ok⟩
        refine RegW.done (fun a w' hF hB hv => ?_)
        have v0 : a.tmps[95]?.getD undef = _ := hv 47 _ _ rfl
        have v1 : a.tmps[96]?.getD undef = _ := hv 46 _ _ rfl
        have v2 : a.tmps[97]?.getD undef = _ := hv 45 _ _ rfl
        have v3 : a.tmps[98]?.getD undef = _ := hv 44 _ _ rfl
        have v4 : a.tmps[99]?.getD undef = _ := hv 43 _ _ rfl
        have v5 : a.tmps[100]?.getD undef = _ := hv 42 _ _ rfl
        have v6 : a.tmps[101]?.getD undef = _ := hv 41 _ _ rfl
        have v7 : a.tmps[102]?.getD undef = _ := hv 40 _ _ rfl
        have v8 : a.tmps[103]?.getD undef = _ := hv 39 _ _ rfl
        have v9 : a.tmps[104]?.getD undef = _ := hv 38 _ _ rfl
        have v10 : a.tmps[105]?.getD undef = _ := hv 37 _ _ rfl
        have v11 : a.tmps[106]?.getD undef = _ := hv 36 _ _ rfl
        have v12 : a.tmps[107]?.getD undef = _ := hv 35 _ _ rfl
        have v13 : a.tmps[108]?.getD undef = _ := hv 34 _ _ rfl
        have v14 : a.tmps[109]?.getD undef = _ := hv 33 _ _ rfl
        have u15 := hv 32 _ _ rfl
        obtain ⟨x15, p15, q15⟩ := u15
        have v16 : a.tmps[111]?.getD undef = _ := hv 31 _ _ rfl
        have v17 : a.tmps[112]?.getD undef = _ := hv 30 _ _ rfl
        have v18 : a.tmps[113]?.getD undef = _ := hv 29 _ _ rfl
        have v19 : a.tmps[114]?.getD undef = _ := hv 28 _ _ rfl
        have v20 : a.tmps[115]?.getD undef = _ := hv 27 _ _ rfl
        have v21 : a.tmps[116]?.getD undef = _ := hv 26 _ _ rfl
        have v22 : a.tmps[117]?.getD undef = _ := hv 25 _ _ rfl
        have v23 : a.tmps[118]?.getD undef = _ := hv 24 _ _ rfl
        have v24 : a.tmps[119]?.getD undef = _ := hv 23 _ _ rfl
        have v25 : a.tmps[120]?.getD undef = _ := hv 22 _ _ rfl
        have v26 : a.tmps[121]?.getD undef = _ := hv 21 _ _ rfl
        have v27 : a.tmps[122]?.getD undef = _ := hv 20 _ _ rfl
        have v28 : a.tmps[123]?.getD undef = _ := hv 19 _ _ rfl
        have v29 : a.tmps[124]?.getD undef = _ := hv 18 _ _ rfl
        have v30 : a.tmps[125]?.getD undef = _ := hv 17 _ _ rfl
        have v31 : a.tmps[126]?.getD undef = _ := hv 16 _ _ rfl
        have v32 : a.tmps[127]?.getD undef = _ := hv 15 _ _ rfl
        have u33 := hv 14 _ _ rfl
        obtain ⟨x33, p33, q33⟩ := u33
        have v34 : a.tmps[129]?.getD undef = _ := hv 13 _ _ rfl
        have v35 : a.tmps[130]?.getD undef = _ := hv 12 _ _ rfl
        have v36 : a.tmps[131]?.getD undef = _ := hv 11 _ _ rfl
        have v37 : a.tmps[132]?.getD undef = _ := hv 10 _ _ rfl
        have v38 : a.tmps[133]?.getD undef = _ := hv 9 _ _ rfl
        have v39 : a.tmps[134]?.getD undef = _ := hv 8 _ _ rfl
        have v40 : a.tmps[135]?.getD undef = _ := hv 7 _ _ rfl
        have v41 : a.tmps[136]?.getD undef = _ := hv 6 _ _ rfl
        have v42 : a.tmps[137]?.getD undef = _ := hv 5 _ _ rfl
        have v43 : a.tmps[138]?.getD undef = _ := hv 4 _ _ rfl
        have v44 : a.tmps[139]?.getD undef = _ := hv 3 _ _ rfl
        have v45 : a.tmps[140]?.getD undef = _ := hv 2 _ _ rfl
        have v46 : a.tmps[141]?.getD undef = _ := hv 1 _ _ rfl
        have v47 : a.tmps[142]?.getD undef = _ := hv 0 _ _ rfl
        have hE := hF.out
        rw [hE]
        clear hE hF hv
        simp only [List.foldl_cons, List.foldl_nil, Act.put, List.setIfInBounds_toArray, List.set_cons_zero, List.set_cons_succ, Array.getD_eq_getD_getElem?, v0, v1, v2, v3, v4, v5, v6, v7, v8, v9, v10, v11, v12, v13, v14, p15, v16, v17, v18, v19, v20, v21, v22, v23, v24, v25, v26, v27, v28, v29, v30, v31, v32, p33, v34, v35, v36, v37, v38, v39, v40, v41, v42, v43, v44, v45, v46, v47]
        clear v0 v1 v2 v3 v4 v5 v6 v7 v8 v9 v10 v11 v12 v13 v14 p15 v16 v17 v18 v19 v20 v21 v22 v23 v24 v25 v26 v27 v28 v29 v30 v31 v32 p33 v34 v35 v36 v37 v38 v39 v40 v41 v42 v43 v44 v45 v46 v47
        have hE0 := hB
        clear hB
        go_wp2_with fail
        go_meet
        exact ⟨rfl, hE0⟩
    case rest =>
      obtain ⟨rfl, hbx⟩ := hcut
      have HT2 := Lib.hid (And.intro (HT.out.1.keep hbx) (And.intro (HT.out.2.1.keep hbx) (And.intro (HT.out.2.2.1.keep hbx) (And.intro (HT.out.2.2.2.1.keep hbx) (And.intro (HT.out.2.2.2.2.1.keep hbx) (And.intro (HT.out.2.2.2.2.2.1.keep hbx) (HT.out.2.2.2.2.2.2.trans (hbx.mono HT.out.2.2.2.2.2.2.size))))))))
      clear HT HF HA0 HM0 hbx
      have HT := HT2
      clear HT2
      go_upto_region 14 with fail
      refine wp_region_seq [143, 144, 145, 146, 147, 148, 149, 150, 151, 152, 153, 154, 155, 156, 157, 158, 159, 160, 161, 162, 163, 164, 165, 166, 167, 168, 169, 170, 171, 172, 173, 174, 175, 176, 177, 178, 179, 180, 181, 182, 183, 184, 185, 186, 187, 188, 189, 190, 191, 6] (by kernel_rfl) rfl (by simp) (by kernel_rfl) ?_
      apply RegW.num 0 rfl
      · intro a w' hF hB hd; have e9 := hF.2.2 9 (by decide); simp at e9; clear hd hF; obtain ⟨sv, hk, hi⟩ := (HT.out.1).keep hB; have c0 := hk.cell 0; simp at c0; refine wpOp_step rfl (fun K' hK => ?_); go_simp; exact hK _ _ ⟨_, rfl, Below.refl _ _, ⟨_, rfl, hi⟩⟩
      apply RegW.num 1 rfl
      · intro a w' hF hB hd; have e10 := hF.2.2 10 (by decide); simp at e10; clear hd hF; obtain ⟨sv, hk, hi⟩ := (HT.out.2.1).keep hB; have c0 := hk.cell 0; simp at c0; refine wpOp_step rfl (fun K' hK => ?_); go_simp; exact hK _ _ ⟨_, rfl, Below.refl _ _, ⟨_, rfl, hi⟩⟩
      apply RegW.num 2 rfl
      · intro a w' hF hB hd; have u0 := hd 0 (of_decide_eq_true (by kernel_rfl)) 1 _ _ rfl rfl; obtain ⟨x0, p0, q0⟩ := u0; have u1 := hd 1 (of_decide_eq_true (by kernel_rfl)) 0 _ _ rfl rfl; obtain ⟨x1, p1, q1⟩ := u1; clear hd hF; refine wpOp_step rfl (fun K' hK => ?_); go_simp; refine (add_w q0 q1 (fits_le hX (by decide)) (fits_le hY (by decide))).mono ?_; rintro e w1 ⟨x, rfl, hx, hb⟩; exact hK _ _ ⟨_, rfl, hb, ⟨_, rfl, hx⟩⟩
      apply RegW.val 3 rfl
      · intro a w' hF hB hd; have e11 := hF.2.2 11 (by decide); simp at e11; clear hd hF; refine wpOp_step rfl (fun K' hK => ?_); go_simp; exact hK _ _ ⟨_, rfl, Below.refl _ _, cst_ok⟩
      apply RegW.val 4 rfl
      · intro a w' hF hB hd; have u2 := hd 2 (of_decide_eq_true (by kernel_rfl)) 1 _ _ rfl rfl; obtain ⟨x2, p2, q2⟩ := u2; have v3 : a.tmps[146]?.getD undef = _ := hd 3 (of_decide_eq_true (by kernel_rfl)) 0 _ _ rfl rfl; clear hd hF; refine wpOp_step rfl (fun K' hK => ?_); go_simp; refine (is_w q2 (HT.out.2.2.2.2.1.keep hB) (fits_le (fits_add hX hY) (by decide))).mono ?_; rintro e w1 ⟨rfl, hb⟩; exact hK _ _ ⟨_, rfl, hb, cst_ok⟩
      apply RegW.val 5 rfl
      · intro a w' hF hB hd; have v4 : a.tmps[147]?.getD undef = _ := hd 4 (of_decide_eq_true (by kernel_rfl)) 0 _ _ rfl rfl; clear hd hF; refine wpOp_step rfl (fun K' hK => ?_); go_simp; exact hK _ _ ⟨_, rfl, Below.refl _ _, cst_ok⟩
      apply RegW.num 6 rfl
      · intro a w' hF hB hd; have v5 : a.tmps[148]?.getD undef = _ := hd 5 (of_decide_eq_true (by kernel_rfl)) 0 _ _ rfl rfl; have gd := tmp_bool v5; have e9 := hF.2.2 9 (by decide); simp at e9; clear hd hF; obtain ⟨sv, hk, hi⟩ := (HT.out.1).keep hB; have c0 := hk.cell 0; simp at c0; refine wpOp_step rfl (fun K' hK => ?_); go_simp; exact hK _ _ ⟨_, rfl, Below.refl _ _, ⟨_, rfl, hi⟩⟩
      apply RegW.num 7 rfl
      · intro a w' hF hB hd; have v5 : a.tmps[148]?.getD undef = _ := hd 5 (of_decide_eq_true (by kernel_rfl)) 1 _ _ rfl rfl; have gd := tmp_bool v5; have e10 := hF.2.2 10 (by decide); simp at e10; clear hd hF; obtain ⟨sv, hk, hi⟩ := (HT.out.2.1).keep hB; have c0 := hk.cell 0; simp at c0; refine wpOp_step rfl (fun K' hK => ?_); go_simp; exact hK _ _ ⟨_, rfl, Below.refl _ _, ⟨_, rfl, hi⟩⟩
      apply RegW.num 8 rfl
      · intro a w' hF hB hd; have v5 : a.tmps[148]?.getD undef = _ := hd 5 (of_decide_eq_true (by kernel_rfl)) 2 _ _ rfl rfl; have u6 := hd 6 (of_decide_eq_true (by kernel_rfl)) 1 _ _ rfl rfl; obtain ⟨x6, p6, q6⟩ := u6; have u7 := hd 7 (of_decide_eq_true (by kernel_rfl)) 0 _ _ rfl rfl; obtain ⟨x7, p7, q7⟩ := u7; have gd := tmp_bool v5; clear hd hF; refine wpOp_step rfl (fun K' hK => ?_); go_simp; refine (mul_w q6 q7 (fits_le hX (by decide)) (fits_le hY (by decide))).mono ?_; rintro e w1 ⟨x, rfl, hx, hb⟩; exact hK _ _ ⟨_, rfl, hb, ⟨_, rfl, hx⟩⟩
      apply RegW.val 9 rfl
      · intro a w' hF hB hd; have v5 : a.tmps[148]?.getD undef = _ := hd 5 (of_decide_eq_true (by kernel_rfl)) 3 _ _ rfl rfl; have gd := tmp_bool v5; have e12 := hF.2.2 12 (by decide); simp at e12; clear hd hF; refine wpOp_step rfl (fun K' hK => ?_); go_simp; exact hK _ _ ⟨_, rfl, Below.refl _ _, cst_ok⟩
      apply RegW.val 10 rfl
      · intro a w' hF hB hd; have v5 : a.tmps[148]?.getD undef = _ := hd 5 (of_decide_eq_true (by kernel_rfl)) 4 _ _ rfl rfl; have u8 := hd 8 (of_decide_eq_true (by kernel_rfl)) 1 _ _ rfl rfl; obtain ⟨x8, p8, q8⟩ := u8; have v9 : a.tmps[152]?.getD undef = _ := hd 9 (of_decide_eq_true (by kernel_rfl)) 0 _ _ rfl rfl; have gd := tmp_bool v5; clear hd hF; refine wpOp_step rfl (fun K' hK => ?_); go_simp; refine (is_w q8 (HT.out.2.2.2.2.2.1.keep hB) (fits_le (fits_mul hX hY) (by decide))).mono ?_; rintro e w1 ⟨rfl, hb⟩; exact hK _ _ ⟨_, rfl, hb, cst_ok⟩
      apply RegW.val 11 rfl
      · intro a w' hF hB hd; have v5 : a.tmps[148]?.getD undef = _ := hd 5 (of_decide_eq_true (by kernel_rfl)) 5 _ _ rfl rfl; have v10 : a.tmps[153]?.getD undef = _ := hd 10 (of_decide_eq_true (by kernel_rfl)) 0 _ _ rfl rfl; clear hd hF; refine wpOp_step rfl (fun K' hK => ?_); go_simp; exact hK _ _ ⟨_, rfl, Below.refl _ _, cst_ok⟩
      apply RegW.val 12 rfl
      · intro a w' hF hB hd; have v11 : a.tmps[154]?.getD undef = _ := hd 11 (of_decide_eq_true (by kernel_rfl)) 0 _ _ rfl rfl; clear hd hF; refine wpOp_step rfl (fun K' hK => ?_); go_simp; exact hK _ _ ⟨_, rfl, Below.refl _ _, cst_ok⟩
      apply RegW.num 13 rfl
      · intro a w' hF hB hd; have v12 : a.tmps[155]?.getD undef = _ := hd 12 (of_decide_eq_true (by kernel_rfl)) 0 _ _ rfl rfl; have gd := tmp_bool v12; have e9 := hF.2.2 9 (by decide); simp at e9; clear hd hF; obtain ⟨sv, hk, hi⟩ := (HT.out.1).keep hB; have c0 := hk.cell 0; simp at c0; refine wpOp_step rfl (fun K' hK => ?_); go_simp; exact hK _ _ ⟨_, rfl, Below.refl _ _, ⟨_, rfl, hi⟩⟩
      apply RegW.num 14 rfl
      · intro a w' hF hB hd; have v12 : a.tmps[155]?.getD undef = _ := hd 12 (of_decide_eq_true (by kernel_rfl)) 1 _ _ rfl rfl; have gd := tmp_bool v12; have e10 := hF.2.2 10 (by decide); simp at e10; clear hd hF; obtain ⟨sv, hk, hi⟩ := (HT.out.2.1).keep hB; have c0 := hk.cell 0; simp at c0; refine wpOp_step rfl (fun K' hK => ?_); go_simp; exact hK _ _ ⟨_, rfl, Below.refl _ _, ⟨_, rfl, hi⟩⟩
      apply RegW.num 15 rfl
      · intro a w' hF hB hd; have v12 : a.tmps[155]?.getD undef = _ := hd 12 (of_decide_eq_true (by kernel_rfl)) 2 _ _ rfl rfl; have gd := tmp_bool v12; have e9 := hF.2.2 9 (by decide); simp at e9; clear hd hF; obtain ⟨sv, hk, hi⟩ := (HT.out.1).keep hB; have c0 := hk.cell 0; simp at c0; refine wpOp_step rfl (fun K' hK => ?_); go_simp; exact hK _ _ ⟨_, rfl, Below.refl _ _, ⟨_, rfl, hi⟩⟩
      refine RegW.op 16 rfl (nats3 [X, Y, X]) ?_ ?_
      · intro a w' hF hB hd; have v12 : a.tmps[155]?.getD undef = _ := hd 12 (of_decide_eq_true (by kernel_rfl)) 3 _ _ rfl rfl; have u13 := hd 13 (of_decide_eq_true (by kernel_rfl)) 2 _ _ rfl rfl; obtain ⟨x13, p13, q13⟩ := u13; have u14 := hd 14 (of_decide_eq_true (by kernel_rfl)) 1 _ _ rfl rfl; obtain ⟨x14, p14, q14⟩ := u14; have u15 := hd 15 (of_decide_eq_true (by kernel_rfl)) 0 _ _ rfl rfl; obtain ⟨x15, p15, q15⟩ := u15; have gd := tmp_bool v12; clear hd hF; have i13 := q13; have i14 := q14; have i15 := q15; obtain ⟨A13, n13, d13, l13, rfl, _⟩ := q13; obtain ⟨A14, n14, d14, l14, rfl, _⟩ := q14; obtain ⟨A15, n15, d15, l15, rfl, _⟩ := q15; refine wpOp_step rfl (fun K' hK => ?_); go_simp; exact hK _ _ ⟨_, rfl, (Below.refl _ _).alloc (Nat.le_refl _) _, ⟨_, _, rfl, nats3_new i13 i14 i15 hX hY⟩⟩
      apply RegW.num 17 rfl
      · intro a w' hF hB hd; have v12 : a.tmps[155]?.getD undef = _ := hd 12 (of_decide_eq_true (by kernel_rfl)) 4 _ _ rfl rfl; have u16 := hd 16 (of_decide_eq_true (by kernel_rfl)) 0 _ _ rfl rfl; obtain ⟨A16, c16, p16, q16⟩ := u16; have gd := tmp_bool v12; clear hd hF; refine wpOp_step rfl (fun K' hK => ?_); go_simp; refine (sum_c 41 _ 3 _ [X, Y, X] _ q16 (by decide) (by decide)).mono ?_; rintro e w1 ⟨x, rfl, hx, hb⟩; exact hK _ _ ⟨_, rfl, hb, ⟨_, rfl, sum3 hx⟩⟩
      apply RegW.val 18 rfl
      · intro a w' hF hB hd; have v12 : a.tmps[155]?.getD undef = _ := hd 12 (of_decide_eq_true (by kernel_rfl)) 5 _ _ rfl rfl; have gd := tmp_bool v12; have e11 := hF.2.2 11 (by decide); simp at e11; clear hd hF; refine wpOp_step rfl (fun K' hK => ?_); go_simp; exact hK _ _ ⟨_, rfl, Below.refl _ _, cst_ok⟩
      apply RegW.val 19 rfl
      · intro a w' hF hB hd; have v12 : a.tmps[155]?.getD undef = _ := hd 12 (of_decide_eq_true (by kernel_rfl)) 6 _ _ rfl rfl; have gd := tmp_bool v12; have e7 := hF.2.2 7 (by decide); simp at e7; clear hd hF; refine wpOp_step rfl (fun K' hK => ?_); go_simp; exact hK _ _ ⟨_, rfl, Below.refl _ _, cst_ok⟩
      apply RegW.byt 20 rfl
      · intro a w' hF hB hd; have v12 : a.tmps[155]?.getD undef = _ := hd 12 (of_decide_eq_true (by kernel_rfl)) 7 _ _ rfl rfl; have v18 : a.tmps[161]?.getD undef = _ := hd 18 (of_decide_eq_true (by kernel_rfl)) 1 _ _ rfl rfl; have v19 : a.tmps[162]?.getD undef = _ := hd 19 (of_decide_eq_true (by kernel_rfl)) 0 _ _ rfl rfl; have gd := tmp_bool v12; clear hd hF; refine wpOp_step rfl (fun K' hK => ?_); go_simp; refine (rAdd_w (HT.out.2.2.2.2.1.keep hB) (HT.out.2.2.1.keep hB) (fits_le (fits_add hX hY) (by decide)) (fits_le hX (by decide))).mono ?_; rintro e w1 ⟨x, rfl, hx, hb⟩; exact hK _ _ ⟨_, rfl, hb, ⟨_, rfl, hx⟩⟩
      apply RegW.val 21 rfl
      · intro a w' hF hB hd; have v12 : a.tmps[155]?.getD undef = _ := hd 12 (of_decide_eq_true (by kernel_rfl)) 8 _ _ rfl rfl; have u17 := hd 17 (of_decide_eq_true (by kernel_rfl)) 3 _ _ rfl rfl; obtain ⟨x17, p17, q17⟩ := u17; have u20 := hd 20 (of_decide_eq_true (by kernel_rfl)) 0 _ _ rfl rfl; obtain ⟨x20, p20, q20⟩ := u20; have gd := tmp_bool v12; clear hd hF; refine wpOp_step rfl (fun K' hK => ?_); go_simp; refine (is_w q17 q20 (fits_le (fits_add (fits_add hX hY) hX) (by decide))).mono ?_; rintro e w1 ⟨rfl, hb⟩; exact hK _ _ ⟨_, rfl, hb, cst_ok⟩
      apply RegW.val 22 rfl
      · intro a w' hF hB hd; have v12 : a.tmps[155]?.getD undef = _ := hd 12 (of_decide_eq_true (by kernel_rfl)) 9 _ _ rfl rfl; have v21 : a.tmps[164]?.getD undef = _ := hd 21 (of_decide_eq_true (by kernel_rfl)) 0 _ _ rfl rfl; clear hd hF; refine wpOp_step rfl (fun K' hK => ?_); go_simp; exact hK _ _ ⟨_, rfl, Below.refl _ _, cst_ok⟩
      apply RegW.val 23 rfl
      · intro a w' hF hB hd; have v22 : a.tmps[165]?.getD undef = _ := hd 22 (of_decide_eq_true (by kernel_rfl)) 0 _ _ rfl rfl; clear hd hF; refine wpOp_step rfl (fun K' hK => ?_); go_simp; exact hK _ _ ⟨_, rfl, Below.refl _ _, cst_ok⟩
      apply RegW.num 24 rfl
      · intro a w' hF hB hd; have v23 : a.tmps[166]?.getD undef = _ := hd 23 (of_decide_eq_true (by kernel_rfl)) 0 _ _ rfl rfl; have gd := tmp_bool v23; clear hd hF; refine wpOp_step rfl (fun K' hK => ?_); go_simp; refine (sum0_w _).mono ?_; rintro e w1 ⟨x, rfl, hx, hb⟩; exact hK _ _ ⟨_, rfl, hb, ⟨_, rfl, hx⟩⟩
      apply RegW.val 25 rfl
      · intro a w' hF hB hd; have v23 : a.tmps[166]?.getD undef = _ := hd 23 (of_decide_eq_true (by kernel_rfl)) 1 _ _ rfl rfl; have u24 := hd 24 (of_decide_eq_true (by kernel_rfl)) 0 _ _ rfl rfl; obtain ⟨x24, p24, q24⟩ := u24; have gd := tmp_bool v23; clear hd hF; refine wpOp_step rfl (fun K' hK => ?_); go_simp; refine (is_nil q24 rfl).mono ?_; rintro e w1 ⟨rfl, hb⟩; exact hK _ _ ⟨_, rfl, hb, cst_ok⟩
      apply RegW.val 26 rfl
      · intro a w' hF hB hd; have v23 : a.tmps[166]?.getD undef = _ := hd 23 (of_decide_eq_true (by kernel_rfl)) 2 _ _ rfl rfl; have v25 : a.tmps[168]?.getD undef = _ := hd 25 (of_decide_eq_true (by kernel_rfl)) 0 _ _ rfl rfl; clear hd hF; refine wpOp_step rfl (fun K' hK => ?_); go_simp; exact hK _ _ ⟨_, rfl, Below.refl _ _, cst_ok⟩
      apply RegW.val 27 rfl
      · intro a w' hF hB hd; have v26 : a.tmps[169]?.getD undef = _ := hd 26 (of_decide_eq_true (by kernel_rfl)) 0 _ _ rfl rfl; clear hd hF; refine wpOp_step rfl (fun K' hK => ?_); go_simp; exact hK _ _ ⟨_, rfl, Below.refl _ _, cst_ok⟩
      apply RegW.val 28 rfl
      · intro a w' hF hB hd; have v27 : a.tmps[170]?.getD undef = _ := hd 27 (of_decide_eq_true (by kernel_rfl)) 0 _ _ rfl rfl; have gd := tmp_bool v27; have e2 := hF.2.2 2 (by decide); simp at e2; clear hd hF; refine wpOp_step rfl (fun K' hK => ?_); go_simp; exact hK _ _ ⟨_, rfl, Below.refl _ _, cst_ok⟩
      apply RegW.num 29 rfl
      · intro a w' hF hB hd; have v27 : a.tmps[170]?.getD undef = _ := hd 27 (of_decide_eq_true (by kernel_rfl)) 1 _ _ rfl rfl; have gd := tmp_bool v27; have e9 := hF.2.2 9 (by decide); simp at e9; clear hd hF; obtain ⟨sv, hk, hi⟩ := (HT.out.1).keep hB; have c0 := hk.cell 0; simp at c0; refine wpOp_step rfl (fun K' hK => ?_); go_simp; exact hK _ _ ⟨_, rfl, Below.refl _ _, ⟨_, rfl, hi⟩⟩
      apply RegW.val 30 rfl
      · intro a w' hF hB hd; have v27 : a.tmps[170]?.getD undef = _ := hd 27 (of_decide_eq_true (by kernel_rfl)) 2 _ _ rfl rfl; have v28 : a.tmps[171]?.getD undef = _ := hd 28 (of_decide_eq_true (by kernel_rfl)) 1 _ _ rfl rfl; have u29 := hd 29 (of_decide_eq_true (by kernel_rfl)) 0 _ _ rfl rfl; obtain ⟨x29, p29, q29⟩ := u29; have gd := tmp_bool v27; clear hd hF; refine wpOp_step rfl (fun K' hK => ?_); go_simp; refine (cFits_w q29 (rfl)).mono ?_; rintro e w1 ⟨rfl, hb⟩; exact hK _ _ ⟨_, rfl, hb, cst_ok⟩
      apply RegW.val 31 rfl
      · intro a w' hF hB hd; have v27 : a.tmps[170]?.getD undef = _ := hd 27 (of_decide_eq_true (by kernel_rfl)) 3 _ _ rfl rfl; have gd := tmp_bool v27; have e7 := hF.2.2 7 (by decide); simp at e7; clear hd hF; refine wpOp_step rfl (fun K' hK => ?_); go_simp; exact hK _ _ ⟨_, rfl, Below.refl _ _, cst_ok⟩
      apply RegW.val 32 rfl
      · intro a w' hF hB hd; have v27 : a.tmps[170]?.getD undef = _ := hd 27 (of_decide_eq_true (by kernel_rfl)) 4 _ _ rfl rfl; have gd := tmp_bool v27; have e2 := hF.2.2 2 (by decide); simp at e2; clear hd hF; refine wpOp_step rfl (fun K' hK => ?_); go_simp; exact hK _ _ ⟨_, rfl, Below.refl _ _, cst_ok⟩
      apply RegW.val 33 rfl
      · intro a w' hF hB hd; have v27 : a.tmps[170]?.getD undef = _ := hd 27 (of_decide_eq_true (by kernel_rfl)) 5 _ _ rfl rfl; have v31 : a.tmps[174]?.getD undef = _ := hd 31 (of_decide_eq_true (by kernel_rfl)) 1 _ _ rfl rfl; have v32 : a.tmps[175]?.getD undef = _ := hd 32 (of_decide_eq_true (by kernel_rfl)) 0 _ _ rfl rfl; have gd := tmp_bool v27; clear hd hF; refine wpOp_step rfl (fun K' hK => ?_); go_simp; refine (rFits_w (HT.out.2.2.1.keep hB) (fits_le hX (by decide)) (rfl)).mono ?_; rintro e w1 ⟨rfl, hb⟩; exact hK _ _ ⟨_, rfl, hb, cst_ok⟩
      apply RegW.val 34 rfl
      · intro a w' hF hB hd; have v27 : a.tmps[170]?.getD undef = _ := hd 27 (of_decide_eq_true (by kernel_rfl)) 6 _ _ rfl rfl; have v30 : a.tmps[173]?.getD undef = _ := hd 30 (of_decide_eq_true (by kernel_rfl)) 3 _ _ rfl rfl; have v33 : a.tmps[176]?.getD undef = _ := hd 33 (of_decide_eq_true (by kernel_rfl)) 0 _ _ rfl rfl; have gd := tmp_bool v27; clear hd hF; refine wpOp_step rfl (fun K' hK => ?_); go_simp; exact hK _ _ ⟨_, rfl, Below.refl _ _, cst_ok⟩
      apply RegW.val 35 rfl
      · intro a w' hF hB hd; have v27 : a.tmps[170]?.getD undef = _ := hd 27 (of_decide_eq_true (by kernel_rfl)) 7 _ _ rfl rfl; have v34 : a.tmps[177]?.getD undef = _ := hd 34 (of_decide_eq_true (by kernel_rfl)) 0 _ _ rfl rfl; clear hd hF; refine wpOp_step rfl (fun K' hK => ?_); go_simp; exact hK _ _ ⟨_, rfl, Below.refl _ _, cst_ok⟩
      apply RegW.val 36 rfl
      · intro a w' hF hB hd; have v35 : a.tmps[178]?.getD undef = _ := hd 35 (of_decide_eq_true (by kernel_rfl)) 0 _ _ rfl rfl; clear hd hF; refine wpOp_step rfl (fun K' hK => ?_); go_simp; exact hK _ _ ⟨_, rfl, Below.refl _ _, cst_ok⟩
      apply RegW.num 37 rfl
      · intro a w' hF hB hd; have v36 : a.tmps[179]?.getD undef = _ := hd 36 (of_decide_eq_true (by kernel_rfl)) 0 _ _ rfl rfl; have gd := tmp_bool v36; have e9 := hF.2.2 9 (by decide); simp at e9; clear hd hF; obtain ⟨sv, hk, hi⟩ := (HT.out.1).keep hB; have c0 := hk.cell 0; simp at c0; refine wpOp_step rfl (fun K' hK => ?_); go_simp; exact hK _ _ ⟨_, rfl, Below.refl _ _, ⟨_, rfl, hi⟩⟩
      apply RegW.val 38 rfl
      · intro a w' hF hB hd; have v36 : a.tmps[179]?.getD undef = _ := hd 36 (of_decide_eq_true (by kernel_rfl)) 1 _ _ rfl rfl; have gd := tmp_bool v36; have e7 := hF.2.2 7 (by decide); simp at e7; clear hd hF; refine wpOp_step rfl (fun K' hK => ?_); go_simp; exact hK _ _ ⟨_, rfl, Below.refl _ _, cst_ok⟩
      apply RegW.val 39 rfl
      · intro a w' hF hB hd; have v36 : a.tmps[179]?.getD undef = _ := hd 36 (of_decide_eq_true (by kernel_rfl)) 2 _ _ rfl rfl; have u37 := hd 37 (of_decide_eq_true (by kernel_rfl)) 1 _ _ rfl rfl; obtain ⟨x37, p37, q37⟩ := u37; have v38 : a.tmps[181]?.getD undef = _ := hd 38 (of_decide_eq_true (by kernel_rfl)) 0 _ _ rfl rfl; have gd := tmp_bool v36; clear hd hF; refine wpOp_step rfl (fun K' hK => ?_); go_simp; refine (is_w q37 (HT.out.2.2.1.keep hB) (fits_le hX (by decide))).mono ?_; rintro e w1 ⟨rfl, hb⟩; exact hK _ _ ⟨_, rfl, hb, cst_ok⟩
      apply RegW.val 40 rfl
      · intro a w' hF hB hd; have v36 : a.tmps[179]?.getD undef = _ := hd 36 (of_decide_eq_true (by kernel_rfl)) 3 _ _ rfl rfl; have v39 : a.tmps[182]?.getD undef = _ := hd 39 (of_decide_eq_true (by kernel_rfl)) 0 _ _ rfl rfl; clear hd hF; refine wpOp_step rfl (fun K' hK => ?_); go_simp; exact hK _ _ ⟨_, rfl, Below.refl _ _, cst_ok⟩
      apply RegW.val 41 rfl
      · intro a w' hF hB hd; have v40 : a.tmps[183]?.getD undef = _ := hd 40 (of_decide_eq_true (by kernel_rfl)) 0 _ _ rfl rfl; clear hd hF; refine wpOp_step rfl (fun K' hK => ?_); go_simp; exact hK _ _ ⟨_, rfl, Below.refl _ _, cst_ok⟩
      apply RegW.num 42 rfl
      · intro a w' hF hB hd; have v41 : a.tmps[184]?.getD undef = _ := hd 41 (of_decide_eq_true (by kernel_rfl)) 0 _ _ rfl rfl; have gd := tmp_bool v41; have e10 := hF.2.2 10 (by decide); simp at e10; clear hd hF; obtain ⟨sv, hk, hi⟩ := (HT.out.2.1).keep hB; have c0 := hk.cell 0; simp at c0; refine wpOp_step rfl (fun K' hK => ?_); go_simp; exact hK _ _ ⟨_, rfl, Below.refl _ _, ⟨_, rfl, hi⟩⟩
      apply RegW.val 43 rfl
      · intro a w' hF hB hd; have v41 : a.tmps[184]?.getD undef = _ := hd 41 (of_decide_eq_true (by kernel_rfl)) 1 _ _ rfl rfl; have gd := tmp_bool v41; have e8 := hF.2.2 8 (by decide); simp at e8; clear hd hF; refine wpOp_step rfl (fun K' hK => ?_); go_simp; exact hK _ _ ⟨_, rfl, Below.refl _ _, cst_ok⟩
      apply RegW.val 44 rfl
      · intro a w' hF hB hd; have v41 : a.tmps[184]?.getD undef = _ := hd 41 (of_decide_eq_true (by kernel_rfl)) 2 _ _ rfl rfl; have u42 := hd 42 (of_decide_eq_true (by kernel_rfl)) 1 _ _ rfl rfl; obtain ⟨x42, p42, q42⟩ := u42; have v43 : a.tmps[186]?.getD undef = _ := hd 43 (of_decide_eq_true (by kernel_rfl)) 0 _ _ rfl rfl; have gd := tmp_bool v41; clear hd hF; refine wpOp_step rfl (fun K' hK => ?_); go_simp; refine (is_w q42 (HT.out.2.2.2.1.keep hB) (fits_le hY (by decide))).mono ?_; rintro e w1 ⟨rfl, hb⟩; exact hK _ _ ⟨_, rfl, hb, cst_ok⟩
      apply RegW.val 45 rfl
      · intro a w' hF hB hd; have v41 : a.tmps[184]?.getD undef = _ := hd 41 (of_decide_eq_true (by kernel_rfl)) 3 _ _ rfl rfl; have v44 : a.tmps[187]?.getD undef = _ := hd 44 (of_decide_eq_true (by kernel_rfl)) 0 _ _ rfl rfl; clear hd hF; refine wpOp_step rfl (fun K' hK => ?_); go_simp; exact hK _ _ ⟨_, rfl, Below.refl _ _, cst_ok⟩
      apply RegW.val 46 rfl
      · intro a w' hF hB hd; have v45 : a.tmps[188]?.getD undef = _ := hd 45 (of_decide_eq_true (by kernel_rfl)) 0 _ _ rfl rfl; clear hd hF; refine wpOp_step rfl (fun K' hK => ?_); go_simp; exact hK _ _ ⟨_, rfl, Below.refl _ _, cst_ok⟩
      apply RegW.val 47 rfl
      · intro a w' hF hB hd; have v46 : a.tmps[189]?.getD undef = _ := hd 46 (of_decide_eq_true (by kernel_rfl)) 0 _ _ rfl rfl; have gd := tmp_bool v46; clear hd hF; refine wpOp_step rfl (fun K' hK => ?_); go_simp; refine (works_c _).mono ?_; rintro e w1 ⟨rfl, hb⟩; exact hK _ _ ⟨_, rfl, hb, cst_ok⟩
      apply RegW.val 48 rfl
      · intro a w' hF hB hd; have v46 : a.tmps[189]?.getD undef = _ := hd 46 (of_decide_eq_true (by kernel_rfl)) 1 _ _ rfl rfl; have v47 : a.tmps[190]?.getD undef = _ := hd 47 (of_decide_eq_true (by kernel_rfl)) 0 _ _ rfl rfl; clear hd hF; refine wpOp_step rfl (fun K' hK => ?_); go_simp; exact hK _ _ ⟨_, rfl, Below.refl _ _, cst_ok⟩
      apply RegW.val 49 rfl
      · intro a w' hF hB hd; have v48 : a.tmps[191]?.getD undef = _ := hd 48 (of_decide_eq_true (by kernel_rfl)) 0 _ _ rfl rfl; clear hd hF; refine wpOp_step rfl (fun K' hK => ?_); go_simp; exact hK _ _ ⟨_, rfl, Below.refl _ _, cst_ok⟩
      refine RegW.done (fun a w' hF hB hv => ?_)
      have u0 := hv 49 _ _ rfl
      obtain ⟨x0, p0, q0⟩ := u0
      have u1 := hv 48 _ _ rfl
      obtain ⟨x1, p1, q1⟩ := u1
      have u2 := hv 47 _ _ rfl
      obtain ⟨x2, p2, q2⟩ := u2
      have v3 : a.tmps[146]?.getD undef = _ := hv 46 _ _ rfl
      have v4 : a.tmps[147]?.getD undef = _ := hv 45 _ _ rfl
      have v5 : a.tmps[148]?.getD undef = _ := hv 44 _ _ rfl
      have u6 := hv 43 _ _ rfl
      obtain ⟨x6, p6, q6⟩ := u6
      have u7 := hv 42 _ _ rfl
      obtain ⟨x7, p7, q7⟩ := u7
      have u8 := hv 41 _ _ rfl
      obtain ⟨x8, p8, q8⟩ := u8
      have v9 : a.tmps[152]?.getD undef = _ := hv 40 _ _ rfl
      have v10 : a.tmps[153]?.getD undef = _ := hv 39 _ _ rfl
      have v11 : a.tmps[154]?.getD undef = _ := hv 38 _ _ rfl
      have v12 : a.tmps[155]?.getD undef = _ := hv 37 _ _ rfl
      have u13 := hv 36 _ _ rfl
      obtain ⟨x13, p13, q13⟩ := u13
      have u14 := hv 35 _ _ rfl
      obtain ⟨x14, p14, q14⟩ := u14
      have u15 := hv 34 _ _ rfl
      obtain ⟨x15, p15, q15⟩ := u15
      have u16 := hv 33 _ _ rfl
      obtain ⟨A16, c16, p16, q16⟩ := u16
      have u17 := hv 32 _ _ rfl
      obtain ⟨x17, p17, q17⟩ := u17
      have v18 : a.tmps[161]?.getD undef = _ := hv 31 _ _ rfl
      have v19 : a.tmps[162]?.getD undef = _ := hv 30 _ _ rfl
      have u20 := hv 29 _ _ rfl
      obtain ⟨x20, p20, q20⟩ := u20
      have v21 : a.tmps[164]?.getD undef = _ := hv 28 _ _ rfl
      have v22 : a.tmps[165]?.getD undef = _ := hv 27 _ _ rfl
      have v23 : a.tmps[166]?.getD undef = _ := hv 26 _ _ rfl
      have u24 := hv 25 _ _ rfl
      obtain ⟨x24, p24, q24⟩ := u24
      have v25 : a.tmps[168]?.getD undef = _ := hv 24 _ _ rfl
      have v26 : a.tmps[169]?.getD undef = _ := hv 23 _ _ rfl
      have v27 : a.tmps[170]?.getD undef = _ := hv 22 _ _ rfl
      have v28 : a.tmps[171]?.getD undef = _ := hv 21 _ _ rfl
      have u29 := hv 20 _ _ rfl
      obtain ⟨x29, p29, q29⟩ := u29
      have v30 : a.tmps[173]?.getD undef = _ := hv 19 _ _ rfl
      have v31 : a.tmps[174]?.getD undef = _ := hv 18 _ _ rfl
      have v32 : a.tmps[175]?.getD undef = _ := hv 17 _ _ rfl
      have v33 : a.tmps[176]?.getD undef = _ := hv 16 _ _ rfl
      have v34 : a.tmps[177]?.getD undef = _ := hv 15 _ _ rfl
      have v35 : a.tmps[178]?.getD undef = _ := hv 14 _ _ rfl
      have v36 : a.tmps[179]?.getD undef = _ := hv 13 _ _ rfl
      have u37 := hv 12 _ _ rfl
      obtain ⟨x37, p37, q37⟩ := u37
      have v38 : a.tmps[181]?.getD undef = _ := hv 11 _ _ rfl
      have v39 : a.tmps[182]?.getD undef = _ := hv 10 _ _ rfl
      have v40 : a.tmps[183]?.getD undef = _ := hv 9 _ _ rfl
      have v41 : a.tmps[184]?.getD undef = _ := hv 8 _ _ rfl
      have u42 := hv 7 _ _ rfl
      obtain ⟨x42, p42, q42⟩ := u42
      have v43 : a.tmps[186]?.getD undef = _ := hv 6 _ _ rfl
      have v44 : a.tmps[187]?.getD undef = _ := hv 5 _ _ rfl
      have v45 : a.tmps[188]?.getD undef = _ := hv 4 _ _ rfl
      have v46 : a.tmps[189]?.getD undef = _ := hv 3 _ _ rfl
      have v47 : a.tmps[190]?.getD undef = _ := hv 2 _ _ rfl
      have v48 : a.tmps[191]?.getD undef = _ := hv 1 _ _ rfl
      have v49 : a.tmps[6]?.getD undef = _ := hv 0 _ _ rfl
      have hE := hF.out
      rw [hE]
      clear hE hF hv
      simp only [List.foldl_cons, List.foldl_nil, Act.put, List.setIfInBounds_toArray, List.set_cons_zero, List.set_cons_succ, Array.getD_eq_getD_getElem?, p0, p1, p2, v3, v4, v5, p6, p7, p8, v9, v10, v11, v12, p13, p14, p15, p16, p17, v18, v19, p20, v21, v22, v23, p24, v25, v26, v27, v28, p29, v30, v31, v32, v33, v34, v35, v36, p37, v38, v39, v40, v41, p42, v43, v44, v45, v46, v47, v48, v49]
      clear p0 p1 p2 v3 v4 v5 p6 p7 p8 v9 v10 v11 v12 p13 p14 p15 p16 p17 v18 v19 p20 v21 v22 v23 p24 v25 v26 v27 v28 p29 v30 v31 v32 v33 v34 v35 v36 p37 v38 v39 v40 v41 p42 v43 v44 v45 v46 v47 v48 v49
      have hE0 := hB
      clear hB
      go_wp2
      go_ret
      exact ⟨rfl, HT.out.2.2.2.2.2.2.trans (hE0.mono HT.out.2.2.2.2.2.2.size)⟩
end Go.Proofs.Ytdocpljgollcaaa
