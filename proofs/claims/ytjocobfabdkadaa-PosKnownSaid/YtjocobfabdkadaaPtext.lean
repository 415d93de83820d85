/- Text of positions and faults, and the document's, by contract: any numbers. -/
import Derived.Test.YtjocobfabdkadaaRlines
import Derived.Test.YtjocobfabdkadaaRegion
namespace Go.Proofs.Ytjocobfabdkadaa
open Go.RowKit
attribute [local go_sem] alloc_drewN setCell_drewN
/-- What a position, and a fault, is told as. -/
def tx (L C : Int) : List Nat := wdec L ++ 58 :: wdec C
def ftx (L C E : Int) : List Nat := tx L C ++ 32 :: wdec E
theorem str_one (x : Nat) (h : x < 256) : (⟨#[UInt8.ofNat x]⟩ : ByteArray) = str [x] := by
  apply ByteArray.ext
  simp [str, strOfNums]
theorem tx_join (L C : Int) : str (wdec L) ++ ⟨#[58]⟩ ++ str (wdec C) = str (tx L C) := by
  rw [show (⟨#[58]⟩ : ByteArray) = str [58] from str_one 58 (by decide), str_append, str_append]
  unfold tx
  rw [List.append_assoc]
  rfl
theorem ftx_join (L C E : Int) : str (tx L C) ++ ⟨#[32]⟩ ++ str (wdec E) = str (ftx L C E) := by
  rw [show (⟨#[32]⟩ : ByteArray) = str [32] from str_one 32 (by decide), str_append, str_append]
  unfold ftx
  rw [List.append_assoc]
  rfl
theorem wdec_len {n : Int} (h1 : -9223372036854775808 ≤ n) (h2 : n ≤ 9223372036854775807) : (wdec n).length ≤ 20 := by
  have hd : (dec n.natAbs).length ≤ 19 := dec_short (show n.natAbs < 10 ^ 19 by omega) (by decide)
  unfold wdec
  split <;> simp <;> omega
theorem wdec_sz {n : Int} (h1 : -9223372036854775808 ≤ n) (h2 : n ≤ 9223372036854775807) : (str (wdec n)).size ≤ 20 := by rw [str_size]; exact wdec_len h1 h2
theorem tx_len {L C : Int} (h1 : -9223372036854775808 ≤ L) (h2 : L ≤ 9223372036854775807) (h3 : -9223372036854775808 ≤ C) (h4 : C ≤ 9223372036854775807) : (tx L C).length ≤ 41 := by
  have := wdec_len h1 h2
  have := wdec_len h3 h4
  unfold tx
  simp
  omega
theorem tx_sz {L C : Int} (h1 : -9223372036854775808 ≤ L) (h2 : L ≤ 9223372036854775807) (h3 : -9223372036854775808 ≤ C) (h4 : C ≤ 9223372036854775807) : (str (tx L C)).size ≤ 41 := by rw [str_size]; exact tx_len h1 h2 h3 h4
theorem below_box (w : World) (o : Obj) : Below w.heap.size w (w.alloc o) := (Below.refl _ _).alloc (Nat.le_refl _) _
set_option maxRecDepth 100000 in
set_option maxHeartbeats 4000000 in
theorem text_p (L C : Int) (w : World) (hL1 : -9223372036854775808 ≤ L) (hL2 : L ≤ 9223372036854775807) (hC1 : -9223372036854775808 ≤ C) (hC2 : C ≤ 9223372036854775807) :
    Calls Try.prog 27 #[.agg #[.int .i64 L, .int .i64 C]] w fun e w' => e = .returned (.string (str (tx L C))) ∧ Below w.heap.size w w' := by
  have HK := Lib.hid (And.intro (Bk.new w 23 #[.int .i64 L, .int .i64 C]) (And.intro (below_box w (.cells #[.int .i64 L, .int .i64 C] 23)) (And.intro (show (str (wdec L)).size ≤ 20 from wdec_sz hL1 hL2) (show (str (wdec C)).size ≤ 20 from wdec_sz hC1 hC2))))
  go_enter Try.func27, Try.ntmps27
  go_upto_region 1 with fail
  refine wp_region_walk [0, 1, 2, 3, 4, 5, 6, 7, 8] [3, 4, 5, 6, 7, 8, 9, 10, 2] 0 (by kernel_rfl) (by kernel_rfl) (by kernel_rfl) rfl (by simp) (by kernel_rfl) (by kernel_rfl) ?_
  apply RegW.val 0 rfl
  · intro a w' hF hB hd; have e1 := hF.2.2 1 (by decide); simp at e1; clear hd hF; refine wpOp_step rfl (fun K' hK => ?_); go_simp; exact hK _ _ ⟨_, rfl, Below.refl _ _, cst_ok⟩
  apply RegW.val 1 rfl
  · intro a w' hF hB hd; have v0 : a.tmps[3]?.getD undef = _ := hd 0 (of_decide_eq_true (by kernel_rfl)) 0 _ _ rfl rfl; clear hd hF; have hk := HK.out.1.keep hB; have k0 := hk.cell 0; have k1 := hk.cell 1; have kz := hk.lt; simp at k0 k1; refine wpOp_step rfl (fun K' hK => ?_); go_simp; exact hK _ _ ⟨_, rfl, Below.refl _ _, cst_ok⟩
  refine RegW.op 2 rfl (cst (.string (str (wdec L)))) ?_ ?_
  · intro a w' hF hB hd; have v1 : a.tmps[4]?.getD undef = _ := hd 1 (of_decide_eq_true (by kernel_rfl)) 0 _ _ rfl rfl; clear hd hF; refine wpOp_step rfl (fun K' hK => ?_); go_simp; refine (whole_c L _ hL1 hL2).mono ?_; rintro e w2 ⟨rfl, hb⟩; exact hK _ _ ⟨_, rfl, hb, cst_ok⟩
  refine RegW.op 3 rfl (cst (.string (str (wdec L) ++ ⟨#[58]⟩))) ?_ ?_
  · intro a w' hF hB hd; have v2 : a.tmps[5]?.getD undef = _ := hd 2 (of_decide_eq_true (by kernel_rfl)) 0 _ _ rfl rfl; clear hd hF; refine wpOp_step rfl (fun K' hK => ?_); go_simp; rw [if_neg (by have := HK.out.2.2.1; simp; omega)]; go_simp; exact hK _ _ ⟨_, rfl, Below.refl _ _, cst_ok⟩
  apply RegW.val 4 rfl
  · intro a w' hF hB hd; have e1 := hF.2.2 1 (by decide); simp at e1; clear hd hF; refine wpOp_step rfl (fun K' hK => ?_); go_simp; exact hK _ _ ⟨_, rfl, Below.refl _ _, cst_ok⟩
  apply RegW.val 5 rfl
  · intro a w' hF hB hd; have v4 : a.tmps[7]?.getD undef = _ := hd 4 (of_decide_eq_true (by kernel_rfl)) 0 _ _ rfl rfl; clear hd hF; have hk := HK.out.1.keep hB; have k0 := hk.cell 0; have k1 := hk.cell 1; have kz := hk.lt; simp at k0 k1; refine wpOp_step rfl (fun K' hK => ?_); go_simp; exact hK _ _ ⟨_, rfl, Below.refl _ _, cst_ok⟩
  refine RegW.op 6 rfl (cst (.string (str (wdec C)))) ?_ ?_
  · intro a w' hF hB hd; have v5 : a.tmps[8]?.getD undef = _ := hd 5 (of_decide_eq_true (by kernel_rfl)) 0 _ _ rfl rfl; clear hd hF; refine wpOp_step rfl (fun K' hK => ?_); go_simp; refine (whole_c C _ hC1 hC2).mono ?_; rintro e w2 ⟨rfl, hb⟩; exact hK _ _ ⟨_, rfl, hb, cst_ok⟩
  refine RegW.op 7 rfl (cst (.string (str (wdec L) ++ ⟨#[58]⟩ ++ str (wdec C)))) ?_ ?_
  · intro a w' hF hB hd; have v3 : a.tmps[6]?.getD undef = _ := hd 3 (of_decide_eq_true (by kernel_rfl)) 3 _ _ rfl rfl; have v6 : a.tmps[9]?.getD undef = _ := hd 6 (of_decide_eq_true (by kernel_rfl)) 0 _ _ rfl rfl; clear hd hF; refine wpOp_step rfl (fun K' hK => ?_); go_simp; rw [if_neg (by have := HK.out.2.2.1; have := HK.out.2.2.2; simp; omega)]; go_simp; exact hK _ _ ⟨_, rfl, Below.refl _ _, cst_ok⟩
  apply RegW.val 8 rfl
  · intro a w' hF hB hd; have v7 : a.tmps[10]?.getD undef = _ := hd 7 (of_decide_eq_true (by kernel_rfl)) 0 _ _ rfl rfl; clear hd hF; refine wpOp_step rfl (fun K' hK => ?_); go_simp; exact hK _ _ ⟨_, rfl, Below.refl _ _, cst_ok⟩
  refine RegW.done (fun a w' hF hB hv => ?_)
  have v0 : a.tmps[3]?.getD undef = _ := hv 8 _ _ rfl
  have v1 : a.tmps[4]?.getD undef = _ := hv 7 _ _ rfl
  have v2 : a.tmps[5]?.getD undef = _ := hv 6 _ _ rfl
  have v3 : a.tmps[6]?.getD undef = _ := hv 5 _ _ rfl
  have v4 : a.tmps[7]?.getD undef = _ := hv 4 _ _ rfl
  have v5 : a.tmps[8]?.getD undef = _ := hv 3 _ _ rfl
  have v6 : a.tmps[9]?.getD undef = _ := hv 2 _ _ rfl
  have v7 : a.tmps[10]?.getD undef = _ := hv 1 _ _ rfl
  have v8 : a.tmps[2]?.getD undef = _ := hv 0 _ _ rfl
  have hE := hF.out
  rw [hE]
  clear hE hF hv
  simp only [List.foldl_cons, List.foldl_nil, Act.put, List.setIfInBounds_toArray, List.set_cons_zero, List.set_cons_succ, Array.getD_eq_getD_getElem?, v0, v1, v2, v3, v4, v5, v6, v7, v8]
  clear v0 v1 v2 v3 v4 v5 v6 v7 v8

  go_wp2_with fail
  go_ret
  refine ⟨?_, HK.out.2.1.trans (hB.mono HK.out.2.1.size)⟩
  rw [← tx_join L C]
  rfl
set_option maxRecDepth 100000 in
set_option maxHeartbeats 4000000 in
theorem rText_p (L C : Int) (w : World) (hL1 : -9223372036854775808 ≤ L) (hL2 : L ≤ 9223372036854775807) (hC1 : -9223372036854775808 ≤ C) (hC2 : C ≤ 9223372036854775807) :
    Calls Try.prog 28 #[.agg #[.int .i64 L, .int .i64 C]] w fun e w' => e = .returned (.string (str (tx L C))) ∧ Below w.heap.size w w' := by
  have HK := Lib.hid (And.intro (Bk.new w 27 #[.int .i64 L, .int .i64 C]) (And.intro (below_box w (.cells #[.int .i64 L, .int .i64 C] 27)) (And.intro (show (str (wdec L)).size ≤ 20 from wdec_sz hL1 hL2) (show (str (wdec C)).size ≤ 20 from wdec_sz hC1 hC2))))
  go_enter Try.func28, Try.ntmps28
  go_upto_region 1 with fail
  refine wp_region_walk [0, 1, 2, 3, 4, 5, 6, 7, 8] [3, 4, 5, 6, 7, 8, 9, 10, 2] 0 (by kernel_rfl) (by kernel_rfl) (by kernel_rfl) rfl (by simp) (by kernel_rfl) (by kernel_rfl) ?_
  apply RegW.val 0 rfl
  · intro a w' hF hB hd; have e1 := hF.2.2 1 (by decide); simp at e1; clear hd hF; refine wpOp_step rfl (fun K' hK => ?_); go_simp; exact hK _ _ ⟨_, rfl, Below.refl _ _, cst_ok⟩
  apply RegW.val 1 rfl
  · intro a w' hF hB hd; have v0 : a.tmps[3]?.getD undef = _ := hd 0 (of_decide_eq_true (by kernel_rfl)) 0 _ _ rfl rfl; clear hd hF; have hk := HK.out.1.keep hB; have k0 := hk.cell 0; have k1 := hk.cell 1; have kz := hk.lt; simp at k0 k1; refine wpOp_step rfl (fun K' hK => ?_); go_simp; exact hK _ _ ⟨_, rfl, Below.refl _ _, cst_ok⟩
  refine RegW.op 2 rfl (cst (.string (str (wdec L)))) ?_ ?_
  · intro a w' hF hB hd; have v1 : a.tmps[4]?.getD undef = _ := hd 1 (of_decide_eq_true (by kernel_rfl)) 0 _ _ rfl rfl; clear hd hF; refine wpOp_step rfl (fun K' hK => ?_); go_simp; refine (refWhole_c L _ hL1 hL2).mono ?_; rintro e w2 ⟨rfl, hb⟩; exact hK _ _ ⟨_, rfl, hb, cst_ok⟩
  refine RegW.op 3 rfl (cst (.string (str (wdec L) ++ ⟨#[58]⟩))) ?_ ?_
  · intro a w' hF hB hd; have v2 : a.tmps[5]?.getD undef = _ := hd 2 (of_decide_eq_true (by kernel_rfl)) 0 _ _ rfl rfl; clear hd hF; refine wpOp_step rfl (fun K' hK => ?_); go_simp; rw [if_neg (by have := HK.out.2.2.1; simp; omega)]; go_simp; exact hK _ _ ⟨_, rfl, Below.refl _ _, cst_ok⟩
  apply RegW.val 4 rfl
  · intro a w' hF hB hd; have e1 := hF.2.2 1 (by decide); simp at e1; clear hd hF; refine wpOp_step rfl (fun K' hK => ?_); go_simp; exact hK _ _ ⟨_, rfl, Below.refl _ _, cst_ok⟩
  apply RegW.val 5 rfl
  · intro a w' hF hB hd; have v4 : a.tmps[7]?.getD undef = _ := hd 4 (of_decide_eq_true (by kernel_rfl)) 0 _ _ rfl rfl; clear hd hF; have hk := HK.out.1.keep hB; have k0 := hk.cell 0; have k1 := hk.cell 1; have kz := hk.lt; simp at k0 k1; refine wpOp_step rfl (fun K' hK => ?_); go_simp; exact hK _ _ ⟨_, rfl, Below.refl _ _, cst_ok⟩
  refine RegW.op 6 rfl (cst (.string (str (wdec C)))) ?_ ?_
  · intro a w' hF hB hd; have v5 : a.tmps[8]?.getD undef = _ := hd 5 (of_decide_eq_true (by kernel_rfl)) 0 _ _ rfl rfl; clear hd hF; refine wpOp_step rfl (fun K' hK => ?_); go_simp; refine (refWhole_c C _ hC1 hC2).mono ?_; rintro e w2 ⟨rfl, hb⟩; exact hK _ _ ⟨_, rfl, hb, cst_ok⟩
  refine RegW.op 7 rfl (cst (.string (str (wdec L) ++ ⟨#[58]⟩ ++ str (wdec C)))) ?_ ?_
  · intro a w' hF hB hd; have v3 : a.tmps[6]?.getD undef = _ := hd 3 (of_decide_eq_true (by kernel_rfl)) 3 _ _ rfl rfl; have v6 : a.tmps[9]?.getD undef = _ := hd 6 (of_decide_eq_true (by kernel_rfl)) 0 _ _ rfl rfl; clear hd hF; refine wpOp_step rfl (fun K' hK => ?_); go_simp; rw [if_neg (by have := HK.out.2.2.1; have := HK.out.2.2.2; simp; omega)]; go_simp; exact hK _ _ ⟨_, rfl, Below.refl _ _, cst_ok⟩
  apply RegW.val 8 rfl
  · intro a w' hF hB hd; have v7 : a.tmps[10]?.getD undef = _ := hd 7 (of_decide_eq_true (by kernel_rfl)) 0 _ _ rfl rfl; clear hd hF; refine wpOp_step rfl (fun K' hK => ?_); go_simp; exact hK _ _ ⟨_, rfl, Below.refl _ _, cst_ok⟩
  refine RegW.done (fun a w' hF hB hv => ?_)
  have v0 : a.tmps[3]?.getD undef = _ := hv 8 _ _ rfl
  have v1 : a.tmps[4]?.getD undef = _ := hv 7 _ _ rfl
  have v2 : a.tmps[5]?.getD undef = _ := hv 6 _ _ rfl
  have v3 : a.tmps[6]?.getD undef = _ := hv 5 _ _ rfl
  have v4 : a.tmps[7]?.getD undef = _ := hv 4 _ _ rfl
  have v5 : a.tmps[8]?.getD undef = _ := hv 3 _ _ rfl
  have v6 : a.tmps[9]?.getD undef = _ := hv 2 _ _ rfl
  have v7 : a.tmps[10]?.getD undef = _ := hv 1 _ _ rfl
  have v8 : a.tmps[2]?.getD undef = _ := hv 0 _ _ rfl
  have hE := hF.out
  rw [hE]
  clear hE hF hv
  simp only [List.foldl_cons, List.foldl_nil, Act.put, List.setIfInBounds_toArray, List.set_cons_zero, List.set_cons_succ, Array.getD_eq_getD_getElem?, v0, v1, v2, v3, v4, v5, v6, v7, v8]
  clear v0 v1 v2 v3 v4 v5 v6 v7 v8

  go_wp2_with fail
  go_ret
  refine ⟨?_, HK.out.2.1.trans (hB.mono HK.out.2.1.size)⟩
  rw [← tx_join L C]
  rfl
set_option maxRecDepth 100000 in
set_option maxHeartbeats 4000000 in
theorem faultText_c (L C E : Int) (w : World) (hL1 : -9223372036854775808 ≤ L) (hL2 : L ≤ 9223372036854775807) (hC1 : -9223372036854775808 ≤ C) (hC2 : C ≤ 9223372036854775807) (hE1 : -9223372036854775808 ≤ E) (hE2 : E ≤ 9223372036854775807) :
    Calls Try.prog 17 #[.agg #[.int .i64 L, .int .i64 C, .int .i64 E]] w fun e w' => e = .returned (.string (str (ftx L C E))) ∧ Below w.heap.size w w' := by
  have HK := Lib.hid (And.intro (Bk.new w 45 #[.int .i64 L, .int .i64 C, .int .i64 E]) (And.intro (below_box w (.cells #[.int .i64 L, .int .i64 C, .int .i64 E] 45)) (And.intro (show (str (tx L C)).size ≤ 41 from tx_sz hL1 hL2 hC1 hC2) (show (str (wdec E)).size ≤ 20 from wdec_sz hE1 hE2))))
  go_enter Try.func17, Try.ntmps17
  go_upto_region 1 with fail
  refine wp_region_walk [0, 1, 2, 3, 4, 5, 6, 7, 8] [3, 4, 5, 6, 7, 8, 9, 10, 2] 0 (by kernel_rfl) (by kernel_rfl) (by kernel_rfl) rfl (by simp) (by kernel_rfl) (by kernel_rfl) ?_
  apply RegW.val 0 rfl
  · intro a w' hF hB hd; have e1 := hF.2.2 1 (by decide); simp at e1; clear hd hF; refine wpOp_step rfl (fun K' hK => ?_); go_simp; exact hK _ _ ⟨_, rfl, Below.refl _ _, cst_ok⟩
  apply RegW.val 1 rfl
  · intro a w' hF hB hd; have v0 : a.tmps[3]?.getD undef = _ := hd 0 (of_decide_eq_true (by kernel_rfl)) 0 _ _ rfl rfl; clear hd hF; have hk := HK.out.1.keep hB; have k0 := hk.cell 0; have k1 := hk.cell 1; have k2 := hk.cell 2; have kz := hk.lt; simp at k0 k1 k2; refine wpOp_step rfl (fun K' hK => ?_); go_simp; exact hK _ _ ⟨_, rfl, Below.refl _ _, cst_ok⟩
  refine RegW.op 2 rfl (cst (.string (str (tx L C)))) ?_ ?_
  · intro a w' hF hB hd; have v1 : a.tmps[4]?.getD undef = _ := hd 1 (of_decide_eq_true (by kernel_rfl)) 0 _ _ rfl rfl; clear hd hF; refine wpOp_step rfl (fun K' hK => ?_); go_simp; refine (text_p L C _ hL1 hL2 hC1 hC2).mono ?_; rintro e w2 ⟨rfl, hb⟩; exact hK _ _ ⟨_, rfl, hb, cst_ok⟩
  refine RegW.op 3 rfl (cst (.string (str (tx L C) ++ ⟨#[32]⟩))) ?_ ?_
  · intro a w' hF hB hd; have v2 : a.tmps[5]?.getD undef = _ := hd 2 (of_decide_eq_true (by kernel_rfl)) 0 _ _ rfl rfl; clear hd hF; refine wpOp_step rfl (fun K' hK => ?_); go_simp; rw [if_neg (by have := HK.out.2.2.1; simp; omega)]; go_simp; exact hK _ _ ⟨_, rfl, Below.refl _ _, cst_ok⟩
  apply RegW.val 4 rfl
  · intro a w' hF hB hd; have e1 := hF.2.2 1 (by decide); simp at e1; clear hd hF; refine wpOp_step rfl (fun K' hK => ?_); go_simp; exact hK _ _ ⟨_, rfl, Below.refl _ _, cst_ok⟩
  apply RegW.val 5 rfl
  · intro a w' hF hB hd; have v4 : a.tmps[7]?.getD undef = _ := hd 4 (of_decide_eq_true (by kernel_rfl)) 0 _ _ rfl rfl; clear hd hF; have hk := HK.out.1.keep hB; have k0 := hk.cell 0; have k1 := hk.cell 1; have k2 := hk.cell 2; have kz := hk.lt; simp at k0 k1 k2; refine wpOp_step rfl (fun K' hK => ?_); go_simp; exact hK _ _ ⟨_, rfl, Below.refl _ _, cst_ok⟩
  refine RegW.op 6 rfl (cst (.string (str (wdec E)))) ?_ ?_
  · intro a w' hF hB hd; have v5 : a.tmps[8]?.getD undef = _ := hd 5 (of_decide_eq_true (by kernel_rfl)) 0 _ _ rfl rfl; clear hd hF; refine wpOp_step rfl (fun K' hK => ?_); go_simp; refine (whole_c E _ hE1 hE2).mono ?_; rintro e w2 ⟨rfl, hb⟩; exact hK _ _ ⟨_, rfl, hb, cst_ok⟩
  refine RegW.op 7 rfl (cst (.string (str (tx L C) ++ ⟨#[32]⟩ ++ str (wdec E)))) ?_ ?_
  · intro a w' hF hB hd; have v3 : a.tmps[6]?.getD undef = _ := hd 3 (of_decide_eq_true (by kernel_rfl)) 3 _ _ rfl rfl; have v6 : a.tmps[9]?.getD undef = _ := hd 6 (of_decide_eq_true (by kernel_rfl)) 0 _ _ rfl rfl; clear hd hF; refine wpOp_step rfl (fun K' hK => ?_); go_simp; rw [if_neg (by have := HK.out.2.2.1; have := HK.out.2.2.2; simp; omega)]; go_simp; exact hK _ _ ⟨_, rfl, Below.refl _ _, cst_ok⟩
  apply RegW.val 8 rfl
  · intro a w' hF hB hd; have v7 : a.tmps[10]?.getD undef = _ := hd 7 (of_decide_eq_true (by kernel_rfl)) 0 _ _ rfl rfl; clear hd hF; refine wpOp_step rfl (fun K' hK => ?_); go_simp; exact hK _ _ ⟨_, rfl, Below.refl _ _, cst_ok⟩
  refine RegW.done (fun a w' hF hB hv => ?_)
  have v0 : a.tmps[3]?.getD undef = _ := hv 8 _ _ rfl
  have v1 : a.tmps[4]?.getD undef = _ := hv 7 _ _ rfl
  have v2 : a.tmps[5]?.getD undef = _ := hv 6 _ _ rfl
  have v3 : a.tmps[6]?.getD undef = _ := hv 5 _ _ rfl
  have v4 : a.tmps[7]?.getD undef = _ := hv 4 _ _ rfl
  have v5 : a.tmps[8]?.getD undef = _ := hv 3 _ _ rfl
  have v6 : a.tmps[9]?.getD undef = _ := hv 2 _ _ rfl
  have v7 : a.tmps[10]?.getD undef = _ := hv 1 _ _ rfl
  have v8 : a.tmps[2]?.getD undef = _ := hv 0 _ _ rfl
  have hE := hF.out
  rw [hE]
  clear hE hF hv
  simp only [List.foldl_cons, List.foldl_nil, Act.put, List.setIfInBounds_toArray, List.set_cons_zero, List.set_cons_succ, Array.getD_eq_getD_getElem?, v0, v1, v2, v3, v4, v5, v6, v7, v8]
  clear v0 v1 v2 v3 v4 v5 v6 v7 v8

  go_wp2_with fail
  go_ret
  refine ⟨?_, HK.out.2.1.trans (hB.mono HK.out.2.1.size)⟩
  rw [← ftx_join L C E]
  rfl
set_option maxRecDepth 100000 in
set_option maxHeartbeats 4000000 in
theorem rFaultText_c (L C E : Int) (w : World) (hL1 : -9223372036854775808 ≤ L) (hL2 : L ≤ 9223372036854775807) (hC1 : -9223372036854775808 ≤ C) (hC2 : C ≤ 9223372036854775807) (hE1 : -9223372036854775808 ≤ E) (hE2 : E ≤ 9223372036854775807) :
    Calls Try.prog 18 #[.agg #[.int .i64 L, .int .i64 C, .int .i64 E]] w fun e w' => e = .returned (.string (str (ftx L C E))) ∧ Below w.heap.size w w' := by
  have HK := Lib.hid (And.intro (Bk.new w 42 #[.int .i64 L, .int .i64 C, .int .i64 E]) (And.intro (below_box w (.cells #[.int .i64 L, .int .i64 C, .int .i64 E] 42)) (And.intro (show (str (tx L C)).size ≤ 41 from tx_sz hL1 hL2 hC1 hC2) (show (str (wdec E)).size ≤ 20 from wdec_sz hE1 hE2))))
  go_enter Try.func18, Try.ntmps18
  go_upto_region 1 with fail
  refine wp_region_walk [0, 1, 2, 3, 4, 5, 6, 7, 8] [3, 4, 5, 6, 7, 8, 9, 10, 2] 0 (by kernel_rfl) (by kernel_rfl) (by kernel_rfl) rfl (by simp) (by kernel_rfl) (by kernel_rfl) ?_
  apply RegW.val 0 rfl
  · intro a w' hF hB hd; have e1 := hF.2.2 1 (by decide); simp at e1; clear hd hF; refine wpOp_step rfl (fun K' hK => ?_); go_simp; exact hK _ _ ⟨_, rfl, Below.refl _ _, cst_ok⟩
  apply RegW.val 1 rfl
  · intro a w' hF hB hd; have v0 : a.tmps[3]?.getD undef = _ := hd 0 (of_decide_eq_true (by kernel_rfl)) 0 _ _ rfl rfl; clear hd hF; have hk := HK.out.1.keep hB; have k0 := hk.cell 0; have k1 := hk.cell 1; have k2 := hk.cell 2; have kz := hk.lt; simp at k0 k1 k2; refine wpOp_step rfl (fun K' hK => ?_); go_simp; exact hK _ _ ⟨_, rfl, Below.refl _ _, cst_ok⟩
  refine RegW.op 2 rfl (cst (.string (str (tx L C)))) ?_ ?_
  · intro a w' hF hB hd; have v1 : a.tmps[4]?.getD undef = _ := hd 1 (of_decide_eq_true (by kernel_rfl)) 0 _ _ rfl rfl; clear hd hF; refine wpOp_step rfl (fun K' hK => ?_); go_simp; refine (rText_p L C _ hL1 hL2 hC1 hC2).mono ?_; rintro e w2 ⟨rfl, hb⟩; exact hK _ _ ⟨_, rfl, hb, cst_ok⟩
  refine RegW.op 3 rfl (cst (.string (str (tx L C) ++ ⟨#[32]⟩))) ?_ ?_
  · intro a w' hF hB hd; have v2 : a.tmps[5]?.getD undef = _ := hd 2 (of_decide_eq_true (by kernel_rfl)) 0 _ _ rfl rfl; clear hd hF; refine wpOp_step rfl (fun K' hK => ?_); go_simp; rw [if_neg (by have := HK.out.2.2.1; simp; omega)]; go_simp; exact hK _ _ ⟨_, rfl, Below.refl _ _, cst_ok⟩
  apply RegW.val 4 rfl
  · intro a w' hF hB hd; have e1 := hF.2.2 1 (by decide); simp at e1; clear hd hF; refine wpOp_step rfl (fun K' hK => ?_); go_simp; exact hK _ _ ⟨_, rfl, Below.refl _ _, cst_ok⟩
  apply RegW.val 5 rfl
  · intro a w' hF hB hd; have v4 : a.tmps[7]?.getD undef = _ := hd 4 (of_decide_eq_true (by kernel_rfl)) 0 _ _ rfl rfl; clear hd hF; have hk := HK.out.1.keep hB; have k0 := hk.cell 0; have k1 := hk.cell 1; have k2 := hk.cell 2; have kz := hk.lt; simp at k0 k1 k2; refine wpOp_step rfl (fun K' hK => ?_); go_simp; exact hK _ _ ⟨_, rfl, Below.refl _ _, cst_ok⟩
  refine RegW.op 6 rfl (cst (.string (str (wdec E)))) ?_ ?_
  · intro a w' hF hB hd; have v5 : a.tmps[8]?.getD undef = _ := hd 5 (of_decide_eq_true (by kernel_rfl)) 0 _ _ rfl rfl; clear hd hF; refine wpOp_step rfl (fun K' hK => ?_); go_simp; refine (refWhole_c E _ hE1 hE2).mono ?_; rintro e w2 ⟨rfl, hb⟩; exact hK _ _ ⟨_, rfl, hb, cst_ok⟩
  refine RegW.op 7 rfl (cst (.string (str (tx L C) ++ ⟨#[32]⟩ ++ str (wdec E)))) ?_ ?_
  · intro a w' hF hB hd; have v3 : a.tmps[6]?.getD undef = _ := hd 3 (of_decide_eq_true (by kernel_rfl)) 3 _ _ rfl rfl; have v6 : a.tmps[9]?.getD undef = _ := hd 6 (of_decide_eq_true (by kernel_rfl)) 0 _ _ rfl rfl; clear hd hF; refine wpOp_step rfl (fun K' hK => ?_); go_simp; rw [if_neg (by have := HK.out.2.2.1; have := HK.out.2.2.2; simp; omega)]; go_simp; exact hK _ _ ⟨_, rfl, Below.refl _ _, cst_ok⟩
  apply RegW.val 8 rfl
  · intro a w' hF hB hd; have v7 : a.tmps[10]?.getD undef = _ := hd 7 (of_decide_eq_true (by kernel_rfl)) 0 _ _ rfl rfl; clear hd hF; refine wpOp_step rfl (fun K' hK => ?_); go_simp; exact hK _ _ ⟨_, rfl, Below.refl _ _, cst_ok⟩
  refine RegW.done (fun a w' hF hB hv => ?_)
  have v0 : a.tmps[3]?.getD undef = _ := hv 8 _ _ rfl
  have v1 : a.tmps[4]?.getD undef = _ := hv 7 _ _ rfl
  have v2 : a.tmps[5]?.getD undef = _ := hv 6 _ _ rfl
  have v3 : a.tmps[6]?.getD undef = _ := hv 5 _ _ rfl
  have v4 : a.tmps[7]?.getD undef = _ := hv 4 _ _ rfl
  have v5 : a.tmps[8]?.getD undef = _ := hv 3 _ _ rfl
  have v6 : a.tmps[9]?.getD undef = _ := hv 2 _ _ rfl
  have v7 : a.tmps[10]?.getD undef = _ := hv 1 _ _ rfl
  have v8 : a.tmps[2]?.getD undef = _ := hv 0 _ _ rfl
  have hE := hF.out
  rw [hE]
  clear hE hF hv
  simp only [List.foldl_cons, List.foldl_nil, Act.put, List.setIfInBounds_toArray, List.set_cons_zero, List.set_cons_succ, Array.getD_eq_getD_getElem?, v0, v1, v2, v3, v4, v5, v6, v7, v8]
  clear v0 v1 v2 v3 v4 v5 v6 v7 v8

  go_wp2_with fail
  go_ret
  refine ⟨?_, HK.out.2.1.trans (hB.mono HK.out.2.1.size)⟩
  rw [← ftx_join L C E]
  rfl
end Go.Proofs.Ytjocobfabdkadaa
