/- works of the laws of package nat, walked: the chapter's examples hold; nothing that was there before has turned. -/
import Derived.Test.YtdocpljgollcaaaNatw
import Derived.Deep.DeepCutAuto
namespace Go.Proofs.Ytdocpljgollcaaa
open Go.RowKit
attribute [local go_sem] alloc_drewN setCell_drewN
theorem lim01 : Lim 18446744073709551616 [0, 1] (18446744073709551615 + 1) := ⟨by intro x hx; simp at hx; omega, by decide, by decide⟩
theorem limSq : Lim 18446744073709551616 [1, 18446744073709551614] (18446744073709551615 * 18446744073709551615) := ⟨by intro x hx; simp at hx; omega, by decide, by decide⟩
theorem fitTop : fitB 1 (18446744073709551615 + 1) = false := by decide
def capS : StP := ⟨fun u _ => ∃ A n c, u = .tuple #[.agg #[.slice A n c], .bool false], fun _ _ _ _ h => h⟩
def aggS : StP := ⟨fun u _ => ∃ A n c, u = .agg #[.slice A n c], fun _ _ _ _ h => h⟩
theorem capS_stable : capS.Stable := fun _ _ _ _ _ h => h
theorem aggS_stable : aggS.Stable := fun _ _ _ _ _ h => h
set_option maxRecDepth 100000 in
set_option maxHeartbeats 8000000 in
theorem works_c (w : World) : Calls Try.prog 7 #[] w fun e w' => e = .returned (.bool true) ∧ Below w.heap.size w w' := by
  go_enter Try.func7, Try.ntmps7
  go_upto_region 2 with (go_at_call 13; refine (of_w 18446744073709551615 _ (by decide)).mono ?_; rintro e w1 ⟨v, rfl, hv, hb⟩; obtain ⟨A1, n1, c1, l1, rfl, hv⟩ := hv; have HV := Lib.hid (And.intro hv hb); have hz1 := hb.size; clear hv hb)
  have ht : BoxN (w1.alloc (.cells #[.slice A1 n1 c1] 25)) w1.heap.size 18446744073709551615 := ⟨_, Bk.new _ _ _, IsNat.alloc ⟨A1, n1, c1, l1, rfl, HV.out.1⟩ _⟩
  have hBw : Below w.heap.size w (w1.alloc (.cells #[.slice A1 n1 c1] 25)) := HV.out.2.alloc hz1 _
  generalize hwz : w1.alloc (.cells #[.slice A1 n1 c1] 25) = wz at *
  generalize hg1 : w1.heap.size = g1 at *
  have HT := Lib.hid (And.intro ht hBw)
  clear ht hBw HV hwz
  refine wp_region_walk [0, 1, 2, 3, 4, 5, 6, 7, 8, 9] [9, 10, 11, 12, 13, 14, 15, 16, 2, 3] 0 (by kernel_rfl) (by kernel_rfl) (by kernel_rfl) rfl (by simp) (by kernel_rfl) (by kernel_rfl) ?_
  apply RegW.num 0 rfl
  · intro a w' hF hB hd; have e1 := hF.2.2 1 (by decide); simp at e1; clear hd hF; obtain ⟨sv, hk, hi⟩ := (HT.out.1).keep hB; have c0 := hk.cell 0; simp at c0; refine wpOp_step rfl (fun K' hK => ?_); go_simp; exact hK _ _ ⟨_, rfl, Below.refl _ _, ⟨_, rfl, hi⟩⟩
  apply RegW.num 1 rfl
  · intro a w' hF hB hd; clear hd hF; refine wpOp_step rfl (fun K' hK => ?_); go_simp; refine (of_w 1 _ (by decide)).mono ?_; rintro e w1 ⟨x, rfl, hx, hb⟩; exact hK _ _ ⟨_, rfl, hb, ⟨_, rfl, hx⟩⟩
  apply RegW.num 2 rfl
  · intro a w' hF hB hd; have u0 := hd 0 (of_decide_eq_true (by kernel_rfl)) 1 _ _ rfl rfl; obtain ⟨x0, p0, q0⟩ := u0; have u1 := hd 1 (of_decide_eq_true (by kernel_rfl)) 0 _ _ rfl rfl; obtain ⟨x1, p1, q1⟩ := u1; clear hd hF; refine wpOp_step rfl (fun K' hK => ?_); go_simp; refine (add_w q0 q1 (fits_le fitsTop (by decide)) (fits_le fits1 (by decide))).mono ?_; rintro e w1 ⟨x, rfl, hx, hb⟩; exact hK _ _ ⟨_, rfl, hb, ⟨_, rfl, hx⟩⟩
  apply RegW.row 3 rfl
  · intro a w' hF hB hd; have u2 := hd 2 (of_decide_eq_true (by kernel_rfl)) 0 _ _ rfl rfl; obtain ⟨x2, p2, q2⟩ := u2; clear hd hF; refine wpOp_step rfl (fun K' hK => ?_); go_simp; refine (all_w q2 (fits_le (fits_add fitsTop fits1) (by decide)) (⟨lim01, rfl⟩)).mono ?_; rintro e w1 ⟨A1, c1, rfl, hx, hb⟩; exact hK _ _ ⟨_, rfl, hb, ⟨_, _, rfl, hx⟩⟩
  apply RegW.num 4 rfl
  · intro a w' hF hB hd; have e1 := hF.2.2 1 (by decide); simp at e1; clear hd hF; obtain ⟨sv, hk, hi⟩ := (HT.out.1).keep hB; have c0 := hk.cell 0; simp at c0; refine wpOp_step rfl (fun K' hK => ?_); go_simp; exact hK _ _ ⟨_, rfl, Below.refl _ _, ⟨_, rfl, hi⟩⟩
  apply RegW.num 5 rfl
  · intro a w' hF hB hd; have e1 := hF.2.2 1 (by decide); simp at e1; clear hd hF; obtain ⟨sv, hk, hi⟩ := (HT.out.1).keep hB; have c0 := hk.cell 0; simp at c0; refine wpOp_step rfl (fun K' hK => ?_); go_simp; exact hK _ _ ⟨_, rfl, Below.refl _ _, ⟨_, rfl, hi⟩⟩
  apply RegW.num 6 rfl
  · intro a w' hF hB hd; have u4 := hd 4 (of_decide_eq_true (by kernel_rfl)) 1 _ _ rfl rfl; obtain ⟨x4, p4, q4⟩ := u4; have u5 := hd 5 (of_decide_eq_true (by kernel_rfl)) 0 _ _ rfl rfl; obtain ⟨x5, p5, q5⟩ := u5; clear hd hF; refine wpOp_step rfl (fun K' hK => ?_); go_simp; refine (mul_w q4 q5 (fits_le fitsTop (by decide)) (fits_le fitsTop (by decide))).mono ?_; rintro e w1 ⟨x, rfl, hx, hb⟩; exact hK _ _ ⟨_, rfl, hb, ⟨_, rfl, hx⟩⟩
  apply RegW.row 7 rfl
  · intro a w' hF hB hd; have u6 := hd 6 (of_decide_eq_true (by kernel_rfl)) 0 _ _ rfl rfl; obtain ⟨x6, p6, q6⟩ := u6; clear hd hF; refine wpOp_step rfl (fun K' hK => ?_); go_simp; refine (all_w q6 (fits_le (fits_mul fitsTop fitsTop) (by decide)) (⟨limSq, rfl⟩)).mono ?_; rintro e w1 ⟨A1, c1, rfl, hx, hb⟩; exact hK _ _ ⟨_, rfl, hb, ⟨_, _, rfl, hx⟩⟩
  apply RegW.row 8 rfl
  · intro a w' hF hB hd; have u3 := hd 3 (of_decide_eq_true (by kernel_rfl)) 4 _ _ rfl rfl; obtain ⟨A3, c3, p3, q3⟩ := u3; clear hd hF; refine wpOp_step rfl (fun K' hK => ?_); go_simp; exact hK _ _ ⟨_, rfl, Below.refl _ _, ⟨_, _, rfl, q3⟩⟩
  apply RegW.row 9 rfl
  · intro a w' hF hB hd; have u7 := hd 7 (of_decide_eq_true (by kernel_rfl)) 1 _ _ rfl rfl; obtain ⟨A7, c7, p7, q7⟩ := u7; clear hd hF; refine wpOp_step rfl (fun K' hK => ?_); go_simp; exact hK _ _ ⟨_, rfl, Below.refl _ _, ⟨_, _, rfl, q7⟩⟩
  refine RegW.done (fun a w' hF hB hv => ?_)
  have u0 := hv 9 _ _ rfl
  obtain ⟨x0, p0, q0⟩ := u0
  have u1 := hv 8 _ _ rfl
  obtain ⟨x1, p1, q1⟩ := u1
  have u2 := hv 7 _ _ rfl
  obtain ⟨x2, p2, q2⟩ := u2
  have u3 := hv 6 _ _ rfl
  obtain ⟨A3, c3, p3, q3⟩ := u3
  have u4 := hv 5 _ _ rfl
  obtain ⟨x4, p4, q4⟩ := u4
  have u5 := hv 4 _ _ rfl
  obtain ⟨x5, p5, q5⟩ := u5
  have u6 := hv 3 _ _ rfl
  obtain ⟨x6, p6, q6⟩ := u6
  have u7 := hv 2 _ _ rfl
  obtain ⟨A7, c7, p7, q7⟩ := u7
  have u8 := hv 1 _ _ rfl
  obtain ⟨A8, c8, p8, q8⟩ := u8
  have u9 := hv 0 _ _ rfl
  obtain ⟨A9, c9, p9, q9⟩ := u9
  have hE := hF.out
  rw [hE]
  clear hE hF hv
  simp only [List.foldl_cons, List.foldl_nil, Act.put, List.setIfInBounds_toArray, List.set_cons_zero, List.set_cons_succ, Array.getD_eq_getD_getElem?, p0, p1, p2, p3, p4, p5, p6, p7, p8, p9]
  clear p0 p1 p2 p3 p4 p5 p6 p7 p8 p9
  have HT2 := Lib.hid (And.intro (HT.out.1.keep hB) (And.intro (HT.out.2.trans (hB.mono HT.out.2.size)) (And.intro q8 q9)))
  clear hB q0 q1 q2 q3 q4 q5 q6 q7 q8 q9
  go_upto_region 4 with (first
    | (go_at_call_of 13 (Value.int IntKind.u64 5); refine (of_w 5 _ (by decide)).mono ?_; rintro e w3 ⟨v5, rfl, hv, hb⟩; have H5 := Lib.hid (And.intro hv hb); clear hv hb)
    | (go_at_call_of 13 (Value.int IntKind.u64 7); refine (of_w 7 _ (by decide)).mono ?_; rintro e w4 ⟨v7, rfl, hv, hb⟩; have H7 := Lib.hid (And.intro hv hb); clear hv hb)
    | (go_at_call 12; refine (sub_w (H5.out.1.keep H7.out.2) H7.out.1 (fits_le (s := 1) ⟨by decide⟩ (by decide)) (fits_le (s := 1) ⟨by decide⟩ (by decide))).mono ?_; rintro e w5 ⟨A5, n5, c5, rfl, hs, hb⟩; have H12 := Lib.hid hb; clear hs hb))
  have hb5 : Below w'.heap.size w' w5 := (H5.out.2.trans (H7.out.2.mono H5.out.2.size)).trans (H12.out.mono (Nat.le_trans H5.out.2.size H7.out.2.size))
  have hb6 : Below w'.heap.size w' (w5.alloc (.cells #[.slice A5 n5 c5] 25)) := hb5.alloc hb5.size _
  have HT4 := Lib.hid (And.intro (HT2.out.1.keep hb6) (And.intro (HT2.out.2.1.trans (hb6.mono HT2.out.2.1.size)) (And.intro (HT2.out.2.2.1.keep hb6) (HT2.out.2.2.2.keep hb6))))
  clear hb5 hb6 H5 H7 H12 HT2 HT
  generalize w5.alloc (.cells #[.slice A5 n5 c5] 25) = wz at *
  refine wp_region_sil [0, 1, 2, 3, 4, 5, 6, 7, 8] [some (24, num 18446744073709551615, some 2), some (25, num 1, some 2), some (26, capS, none), some (23, capS, none), some (27, aggS, none), some (28, cst (.bool false), none), some (6, ptr wz.heap.size 25 1, none), none, some (7, cst (.bool false), none)] (by kernel_rfl) (by kernel_rfl) rfl (by kernel_rfl) (by simp [slotsOf]) ⟨capS_stable, capS_stable, aggS_stable, cst_stable _, ptr_stable _ _ _, cst_stable _, trivial⟩ (used_of (by kernel_rfl)) ⟨?_, ?_, ?_, ?_, ?_, ?_, ?_, ?_, ?_, trivial⟩ ?_
  · intro a w' hF hB hd; have e1 := hF.2.2 1 (by simp [slotsOf]); simp at e1; clear hd hF; obtain ⟨sv, hk, hi⟩ := (HT4.out.1).keep hB; have c0 := hk.cell 0; simp at c0; refine wpOp_step rfl (fun K' hK => ?_); go_simp; exact hK _ _ ⟨_, rfl, Below.refl _ _, ⟨_, rfl, hi⟩⟩
  · intro a w' hF hB hd; clear hd hF; refine wpOp_step rfl (fun K' hK => ?_); go_simp; refine (of_w 1 _ (by decide)).mono ?_; rintro e w1 ⟨x, rfl, hx, hb⟩; exact hK _ _ ⟨_, rfl, hb, ⟨_, rfl, hx⟩⟩
  · intro a w' hF hB hd; have u0 := hd 0 (of_decide_eq_true (by kernel_rfl)) _ _ _ rfl (.inl rfl); obtain ⟨x0, p0, q0⟩ := u0; have u1 := hd 1 (of_decide_eq_true (by kernel_rfl)) _ _ _ rfl (.inl rfl); obtain ⟨x1, p1, q1⟩ := u1; clear hd hF; refine wpOp_step rfl (fun K' hK => ?_); go_simp; refine (capAdd_c _ _ 1 _ _ _ _ _ q0 q1 (fits_le fitsTop (by decide)) (fits_le fits1 (by decide))).mono ?_; rintro e w1 ⟨x, rfl, hx, hb⟩; obtain ⟨A9, n9, c9, l9, rfl, _⟩ := hx; exact hK _ _ ⟨_, rfl, hb, ⟨A9, n9, c9, by rw [fitTop]⟩⟩
  · intro a w' hF hB hd; have u2 := hd 2 (of_decide_eq_true (by kernel_rfl)) _ _ _ rfl trivial; obtain ⟨A2, n2, c2, p2⟩ := u2; clear hd hF; refine wpOp_step rfl (fun K' hK => ?_); go_simp; exact hK _ _ ⟨_, rfl, Below.refl _ _, ⟨_, _, _, rfl⟩⟩
  · intro a w' hF hB hd; have u3 := hd 3 (of_decide_eq_true (by kernel_rfl)) _ _ _ rfl trivial; obtain ⟨A3, n3, c3, p3⟩ := u3; clear hd hF; refine wpOp_step rfl (fun K' hK => ?_); go_simp; exact hK _ _ ⟨_, rfl, Below.refl _ _, ⟨_, _, _, rfl⟩⟩
  · intro a w' hF hB hd; have u3 := hd 3 (of_decide_eq_true (by kernel_rfl)) _ _ _ rfl trivial; obtain ⟨A3, n3, c3, p3⟩ := u3; clear hd hF; refine wpOp_step rfl (fun K' hK => ?_); go_simp; exact hK _ _ ⟨_, rfl, Below.refl _ _, cst_ok⟩
  · intro a w' hF hB hd; clear hd hF; refine wpOp_step rfl (fun K' hK => ?_); go_simp; exact hK _ _ ⟨_, rfl, (Below.refl _ _).alloc (Nat.le_refl _) _, ⟨_, rfl, hB.size, _, rfl, Bk.new _ _ _⟩⟩
  · intro a w' hF hB hd; have u4 := hd 4 (of_decide_eq_true (by kernel_rfl)) _ _ _ rfl trivial; obtain ⟨A4, n4, c4, p4⟩ := u4; have u6 := hd 6 (of_decide_eq_true (by kernel_rfl)) _ _ _ rfl trivial; obtain ⟨g6, p6, q6, cs6, r6, k6⟩ := u6; clear hd hF; obtain ⟨z6, y6⟩ := k6.cells1 r6; have x6 := k6.frozen 0; refine wpOp_step rfl (fun K' hK => ?_); go_simp; exact hK _ _ ⟨rfl, .inl ⟨g6, 0, _, q6, rfl⟩⟩
  · intro a w' hF hB hd; have v5 : a.tmps[28]?.getD undef = _ := hd 5 (of_decide_eq_true (by kernel_rfl)) _ _ _ rfl trivial; clear hd hF; refine wpOp_step rfl (fun K' hK => ?_); go_simp; exact hK _ _ ⟨_, rfl, Below.refl _ _, cst_ok⟩
  intro a w' hF hB hv
  have u2 := hv 2 _ _ rfl
  obtain ⟨A2, n2, c2, p2⟩ := u2
  have u3 := hv 3 _ _ rfl
  obtain ⟨A3, n3, c3, p3⟩ := u3
  have u4 := hv 4 _ _ rfl
  obtain ⟨A4, n4, c4, p4⟩ := u4
  have v5 : a.tmps[28]?.getD undef = _ := hv 5 _ _ rfl
  have u6 := hv 6 _ _ rfl
  obtain ⟨g6, p6, q6, cs6, r6, k6⟩ := u6
  have v8 : a.tmps[7]?.getD undef = _ := hv 8 _ _ rfl
  have hE := hF.out
  rw [hE]
  clear hE hF hv
  simp only [slotsOf, List.foldl_cons, List.foldl_nil, Act.put, List.setIfInBounds_toArray, List.set_cons_zero, List.set_cons_succ, Array.getD_eq_getD_getElem?, p2, p3, p4, v5, p6, v8]
  clear p2 p3 p4 v5 p6 v8
  obtain ⟨b8, o8, rfl, hl8, hc8⟩ := (HT4.out.2.2.1.keep hB).2 (by decide)
  obtain ⟨b9, o9, rfl, hl9, hc9⟩ := (HT4.out.2.2.2.keep hB).2 (by decide)
  have c80 := hc8 0 0 rfl
  have c81 := hc8 1 1 rfl
  have c90 := hc9 0 1 rfl
  have c91 := hc9 1 18446744073709551614 rfl
  simp at c80 c81 c90 c91
  have HZ := Lib.hid (HT4.out.2.1.trans (hB.mono HT4.out.2.1.size))
  clear hB hc8 hc9
  go_wp2
  go_ret
  exact ⟨rfl, HZ.out⟩
end Go.Proofs.Ytdocpljgollcaaa
