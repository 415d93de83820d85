/- works (of the statements about positions), by contract: the chapter's examples. -/
import Derived.Test.YtjocobfabdkadaaPtext
namespace Go.Proofs.Ytjocobfabdkadaa
open Go.RowKit
attribute [local go_sem] alloc_drewN setCell_drewN
def pl : Nat → Int
  | 0 => 0
  | 1 => 2
  | 2 => 3
  | 3 => 4
  | _ => 5
def pL : Nat → Int
  | 0 => 1
  | 1 => 1
  | 2 => 2
  | 3 => 2
  | _ => 0
def pC : Nat → Int
  | 0 => 1
  | 1 => 3
  | 2 => 1
  | 3 => 2
  | _ => 0
def pt : Nat → ByteArray
  | 0 => ⟨#[49, 58, 49]⟩
  | 1 => ⟨#[49, 58, 51]⟩
  | 2 => ⟨#[50, 58, 49]⟩
  | 3 => ⟨#[50, 58, 50]⟩
  | _ => ⟨#[48, 58, 48]⟩
theorem pl_at : ∀ {i : Nat}, i < 5 → (#[.int .i64 0, .int .i64 2, .int .i64 3, .int .i64 4, .int .i64 5] : Array Value)[i]? = some (.int .i64 (pl i))
  | 0, _ => rfl
  | 1, _ => rfl
  | 2, _ => rfl
  | 3, _ => rfl
  | 4, _ => rfl
  | n + 5, h => absurd h (by omega)
theorem pt_at : ∀ {i : Nat}, i < 5 → (#[.string ⟨#[49, 58, 49]⟩, .string ⟨#[49, 58, 51]⟩, .string ⟨#[50, 58, 49]⟩, .string ⟨#[50, 58, 50]⟩, .string ⟨#[48, 58, 48]⟩] : Array Value)[i]? = some (.string (pt i))
  | 0, _ => rfl
  | 1, _ => rfl
  | 2, _ => rfl
  | 3, _ => rfl
  | 4, _ => rfl
  | n + 5, h => absurd h (by omega)
def abc : ByteArray := ⟨#[97, 98, 10, 99]⟩
theorem of_works : ∀ {i : Nat}, i < 5 → ∀ w : World, Calls Try.prog 8 #[.string ⟨#[97, 98, 10, 99]⟩, .int .i64 (pl i)] w fun e w' => e = .returned (.tuple #[.agg #[.int .i64 (pL i), .int .i64 (pC i)], .bool (decide ((i : Int) < 4))]) ∧ Below w.heap.size w w'
  | 0, _, w => of_in abc 0 w (by decide) (by decide)
  | 1, _, w => of_in abc 2 w (by decide) (by decide)
  | 2, _, w => of_in abc 3 w (by decide) (by decide)
  | 3, _, w => of_in abc 4 w (by decide) (by decide)
  | 4, _, w => of_out abc 5 w (by decide)
  | n + 5, h, _ => absurd h (by omega)
theorem tx_works : ∀ {i : Nat}, i < 5 → str (tx (pL i) (pC i)) = pt i
  | 0, _ => rfl
  | 1, _ => rfl
  | 2, _ => rfl
  | 3, _ => rfl
  | 4, _ => rfl
  | n + 5, h => absurd h (by omega)
theorem p_range : ∀ {i : Nat}, i < 5 → (-9223372036854775808 ≤ pL i ∧ pL i ≤ 9223372036854775807) ∧ (-9223372036854775808 ≤ pC i ∧ pC i ≤ 9223372036854775807)
  | 0, _ => by decide
  | 1, _ => by decide
  | 2, _ => by decide
  | 3, _ => by decide
  | 4, _ => by decide
  | n + 5, h => absurd h (by omega)
theorem text_works {i : Nat} (hi : i < 5) (w : World) : Calls Try.prog 27 #[.agg #[.int .i64 (pL i), .int .i64 (pC i)]] w fun e w' => e = .returned (.string (pt i)) ∧ Below w.heap.size w w' := by
  have h := p_range hi
  rw [← tx_works hi]
  exact text_p _ _ w h.1.1 h.1.2 h.2.1 h.2.2
theorem place_no (w : World) : Calls Try.prog 10 #[.string ⟨#[97, 98, 10, 99]⟩, .agg #[.int .i64 1, .int .i64 4]] w fun e w' => e = .returned (.tuple #[.int .i64 0, .bool false]) ∧ Below w.heap.size w w' := by
  have h : plI (bys ⟨#[97, 98, 10, 99]⟩) 1 4 = none := by decide
  exact (place_c ⟨#[97, 98, 10, 99]⟩ 1 4 w (by decide) (by decide) (by decide)).mono fun e w' ⟨h1, h2⟩ => by rw [h] at h1; exact ⟨h1, h2⟩
theorem place_yes (w : World) : Calls Try.prog 10 #[.string ⟨#[97, 98, 10, 99]⟩, .agg #[.int .i64 2, .int .i64 2]] w fun e w' => e = .returned (.tuple #[.int .i64 4, .bool true]) ∧ Below w.heap.size w w' := by
  have h : plI (bys ⟨#[97, 98, 10, 99]⟩) 2 2 = some 4 := by decide
  exact (place_c ⟨#[97, 98, 10, 99]⟩ 2 2 w (by decide) (by decide) (by decide)).mono fun e w' ⟨h1, h2⟩ => by rw [h] at h1; exact ⟨h1, h2⟩
theorem fault_works (w : World) : Calls Try.prog 17 #[.agg #[.int .i64 3, .int .i64 7, .int .i64 80]] w fun e w' => e = .returned (.string ⟨#[51, 58, 55, 32, 56, 48]⟩) ∧ Below w.heap.size w w' :=
  (faultText_c 3 7 80 w (by decide) (by decide) (by decide) (by decide) (by decide) (by decide)).mono fun e w' ⟨h1, h2⟩ => ⟨h1, h2⟩
set_option maxRecDepth 100000 in
set_option maxHeartbeats 8000000 in
theorem works_c (w : World) : Calls Try.prog 7 #[] w fun e w' => e = .returned (.bool true) ∧ Below w.heap.size w w' := by
  go_enter Try.func7, Try.ntmps7
  go_wp2_with fail
  have hA := Bk.new w 3 #[.int .i64 0, .int .i64 2, .int .i64 3, .int .i64 4, .int .i64 5]
  have hb := below_box w (.cells #[.int .i64 0, .int .i64 2, .int .i64 3, .int .i64 4, .int .i64 5] 3)
  have hS := Bk.new (w.alloc (.cells #[.int .i64 0, .int .i64 2, .int .i64 3, .int .i64 4, .int .i64 5] 3)) 9 #[.string ⟨#[49, 58, 49]⟩, .string ⟨#[49, 58, 51]⟩, .string ⟨#[50, 58, 49]⟩, .string ⟨#[50, 58, 50]⟩, .string ⟨#[48, 58, 48]⟩]
  have hb2 := below_box (w.alloc (.cells #[.int .i64 0, .int .i64 2, .int .i64 3, .int .i64 4, .int .i64 5] 3)) (.cells #[.string ⟨#[49, 58, 49]⟩, .string ⟨#[49, 58, 51]⟩, .string ⟨#[50, 58, 49]⟩, .string ⟨#[50, 58, 50]⟩, .string ⟨#[48, 58, 48]⟩] 9)
  have HW := Lib.hid (And.intro (hA.keep hb2) (And.intro hS (hb.trans (hb2.mono hb.size))))
  clear hA hb hS hb2
  rw [World.size_alloc] at HW
  go_loopw [4] (fun v wr => ∃ i : Nat, v = .int .i64 i ∧ i ≤ 5 ∧ Bk wr w.heap.size 3 #[.int .i64 0, .int .i64 2, .int .i64 3, .int .i64 4, .int .i64 5] ∧ Bk wr (w.heap.size + 1) 9 #[.string ⟨#[49, 58, 49]⟩, .string ⟨#[49, 58, 51]⟩, .string ⟨#[50, 58, 49]⟩, .string ⟨#[50, 58, 50]⟩, .string ⟨#[48, 58, 48]⟩] ∧ Below w.heap.size w wr) (fun v _ => 5 - (intOf v).toNat)
  case atStart => exact ⟨0, rfl, by decide, HW.out.1, HW.out.2.1, HW.out.2.2⟩
  case round =>
    clear HW
    obtain ⟨i, rfl, hi, hA, hS, hB⟩ := hrel
    by_cases hi5 : i < 5
    · have g1 : decide ((i : Int) < 5) = true := by simp; omega
      have ka := (hA.cell i).trans (pl_at hi5)
      have kz := hA.lt
      have HW := Lib.hid (And.intro hA (And.intro hS hB))
      clear hA hS hB
      go_upto_region 8 with (go_at_call 8; refine (of_works hi5 _).mono ?_; rintro e w1 ⟨rfl, hb⟩; have hb1 := hb.trans ((below_box w1 (.cells #[.int .i64 (pL i), .int .i64 (pC i)] 23)).mono hb.size); have HW := Lib.hid (And.intro (HW.out.1.keep hb1) (And.intro (HW.out.2.1.keep hb1) (HW.out.2.2.trans (hb1.mono HW.out.2.2.size)))); clear hb hb1 ka kz)
      have HP := Lib.hid (Bk.new w1 23 #[.int .i64 (pL i), .int .i64 (pC i)])
      generalize hg : w1.heap.size = g5 at *
      generalize hw : w1.alloc (.cells #[.int .i64 (pL i), .int .i64 (pC i)] 23) = z1 at *
      clear hg hw
      refine wp_region_walk [0, 1, 2, 3, 4, 5, 6, 7, 8, 9, 10, 11, 12] [27, 28, 29, 30, 31, 32, 33, 34, 35, 36, 37, 38, 39] 0 (by kernel_rfl) (by kernel_rfl) (by kernel_rfl) rfl (by simp) (by kernel_rfl) (by kernel_rfl) ?_
      apply RegW.val 0 rfl
      · intro a w' hF hB hd; have e5 := hF.2.2 5 (by decide); simp at e5; clear hd hF; have hk := HP.out.keep hB; have k0 := hk.cell 0; have k1 := hk.cell 1; have kz := hk.lt; simp at k0 k1; refine wpOp_step rfl (fun K' hK => ?_); go_simp; exact hK _ _ ⟨_, rfl, Below.refl _ _, cst_ok⟩
      refine RegW.op 1 rfl (cst (.string (pt i))) ?_ ?_
      · intro a w' hF hB hd; have v0 : a.tmps[27]?.getD undef = _ := hd 0 (of_decide_eq_true (by kernel_rfl)) 0 _ _ rfl rfl; clear hd hF; refine wpOp_step rfl (fun K' hK => ?_); go_simp; refine (text_works hi5 _).mono ?_; rintro e w2 ⟨rfl, hb⟩; exact hK _ _ ⟨_, rfl, hb, cst_ok⟩
      apply RegW.val 2 rfl
      · intro a w' hF hB hd; have e3 := hF.2.2 3 (by decide); simp at e3; clear hd hF; refine wpOp_step rfl (fun K' hK => ?_); go_simp; exact hK _ _ ⟨_, rfl, Below.refl _ _, cst_ok⟩
      apply RegW.val 3 rfl
      · intro a w' hF hB hd; have e4 := hF.2.2 4 (by decide); simp at e4; clear hd hF; refine wpOp_step rfl (fun K' hK => ?_); go_simp; exact hK _ _ ⟨_, rfl, Below.refl _ _, cst_ok⟩
      refine RegW.op 4 rfl (cst (.pointer (some ⟨w.heap.size + 1, i, none⟩))) ?_ ?_
      · intro a w' hF hB hd; have v2 : a.tmps[29]?.getD undef = _ := hd 2 (of_decide_eq_true (by kernel_rfl)) 1 _ _ rfl rfl; have v3 : a.tmps[30]?.getD undef = _ := hd 3 (of_decide_eq_true (by kernel_rfl)) 0 _ _ rfl rfl; clear hd hF; have hI : (i : Int) < 5 := (by omega); refine wpOp_step rfl (fun K' hK => ?_); go_simp; exact hK _ _ ⟨_, rfl, Below.refl _ _, cst_ok⟩
      refine RegW.op 5 rfl (cst (.string (pt i))) ?_ ?_
      · intro a w' hF hB hd; have v4 : a.tmps[31]?.getD undef = _ := hd 4 (of_decide_eq_true (by kernel_rfl)) 0 _ _ rfl rfl; clear hd hF; have hk := HW.out.2.1.keep hB; have k0 := (hk.cell i).trans (pt_at hi5); have kz := hk.lt; refine wpOp_step rfl (fun K' hK => ?_); go_simp; exact hK _ _ ⟨_, rfl, Below.refl _ _, cst_ok⟩
      apply RegW.val 6 rfl
      · intro a w' hF hB hd; have v1 : a.tmps[28]?.getD undef = _ := hd 1 (of_decide_eq_true (by kernel_rfl)) 4 _ _ rfl rfl; have v5 : a.tmps[32]?.getD undef = _ := hd 5 (of_decide_eq_true (by kernel_rfl)) 0 _ _ rfl rfl; clear hd hF; refine wpOp_step rfl (fun K' hK => ?_); go_simp; exact hK _ _ ⟨_, rfl, Below.refl _ _, cst_ok⟩
      apply RegW.val 7 rfl
      · intro a w' hF hB hd; have v6 : a.tmps[33]?.getD undef = _ := hd 6 (of_decide_eq_true (by kernel_rfl)) 0 _ _ rfl rfl; clear hd hF; refine wpOp_step rfl (fun K' hK => ?_); go_simp; exact hK _ _ ⟨_, rfl, Below.refl _ _, cst_ok⟩
      apply RegW.val 8 rfl
      · intro a w' hF hB hd; have v7 : a.tmps[34]?.getD undef = _ := hd 7 (of_decide_eq_true (by kernel_rfl)) 0 _ _ rfl rfl; have gd := tmp_bool v7; have e6 := hF.2.2 6 (by decide); simp at e6; clear hd hF; refine wpOp_step rfl (fun K' hK => ?_); go_simp; exact hK _ _ ⟨_, rfl, Below.refl _ _, cst_ok⟩
      apply RegW.val 9 rfl
      · intro a w' hF hB hd; have v7 : a.tmps[34]?.getD undef = _ := hd 7 (of_decide_eq_true (by kernel_rfl)) 1 _ _ rfl rfl; have gd := tmp_bool v7; have e4 := hF.2.2 4 (by decide); simp at e4; clear hd hF; refine wpOp_step rfl (fun K' hK => ?_); go_simp; exact hK _ _ ⟨_, rfl, Below.refl _ _, cst_ok⟩
      apply RegW.val 10 rfl
      · intro a w' hF hB hd; have v7 : a.tmps[34]?.getD undef = _ := hd 7 (of_decide_eq_true (by kernel_rfl)) 2 _ _ rfl rfl; have v9 : a.tmps[36]?.getD undef = _ := hd 9 (of_decide_eq_true (by kernel_rfl)) 0 _ _ rfl rfl; have gd := tmp_bool v7; clear hd hF; refine wpOp_step rfl (fun K' hK => ?_); go_simp; exact hK _ _ ⟨_, rfl, Below.refl _ _, cst_ok⟩
      apply RegW.val 11 rfl
      · intro a w' hF hB hd; have v7 : a.tmps[34]?.getD undef = _ := hd 7 (of_decide_eq_true (by kernel_rfl)) 3 _ _ rfl rfl; have v8 : a.tmps[35]?.getD undef = _ := hd 8 (of_decide_eq_true (by kernel_rfl)) 2 _ _ rfl rfl; have v10 : a.tmps[37]?.getD undef = _ := hd 10 (of_decide_eq_true (by kernel_rfl)) 0 _ _ rfl rfl; have gd := tmp_bool v7; clear hd hF; refine wpOp_step rfl (fun K' hK => ?_); go_simp; exact hK _ _ ⟨_, rfl, Below.refl _ _, cst_ok⟩
      apply RegW.val 12 rfl
      · intro a w' hF hB hd; have v7 : a.tmps[34]?.getD undef = _ := hd 7 (of_decide_eq_true (by kernel_rfl)) 4 _ _ rfl rfl; have v11 : a.tmps[38]?.getD undef = _ := hd 11 (of_decide_eq_true (by kernel_rfl)) 0 _ _ rfl rfl; clear hd hF; refine wpOp_step rfl (fun K' hK => ?_); go_simp; exact hK _ _ ⟨_, rfl, Below.refl _ _, cst_ok⟩
      refine RegW.done (fun a w' hF hB hv => ?_)
      have v0 : a.tmps[27]?.getD undef = _ := hv 12 _ _ rfl
      have v1 : a.tmps[28]?.getD undef = _ := hv 11 _ _ rfl
      have v2 : a.tmps[29]?.getD undef = _ := hv 10 _ _ rfl
      have v3 : a.tmps[30]?.getD undef = _ := hv 9 _ _ rfl
      have v4 : a.tmps[31]?.getD undef = _ := hv 8 _ _ rfl
      have v5 : a.tmps[32]?.getD undef = _ := hv 7 _ _ rfl
      have v6 : a.tmps[33]?.getD undef = _ := hv 6 _ _ rfl
      have v7 : a.tmps[34]?.getD undef = _ := hv 5 _ _ rfl
      have v8 : a.tmps[35]?.getD undef = _ := hv 4 _ _ rfl
      have v9 : a.tmps[36]?.getD undef = _ := hv 3 _ _ rfl
      have v10 : a.tmps[37]?.getD undef = _ := hv 2 _ _ rfl
      have v11 : a.tmps[38]?.getD undef = _ := hv 1 _ _ rfl
      have v12 : a.tmps[39]?.getD undef = _ := hv 0 _ _ rfl
      have hE := hF.out
      rw [hE]
      clear hE hF hv
      simp only [List.foldl_cons, List.foldl_nil, Act.put, List.setIfInBounds_toArray, List.set_cons_zero, List.set_cons_succ, Array.getD_eq_getD_getElem?, v0, v1, v2, v3, v4, v5, v6, v7, v8, v9, v10, v11, v12]
      clear v0 v1 v2 v3 v4 v5 v6 v7 v8 v9 v10 v11 v12

      have HW := Lib.hid (And.intro (HW.out.1.keep hB) (And.intro (HW.out.2.1.keep hB) (HW.out.2.2.trans (hB.mono HW.out.2.2.size))))
      go_wp2_with fail
      go_roundw
      case rel => exact ⟨i + 1, by go_num, by omega, HW.out.1, HW.out.2.1, HW.out.2.2⟩
      case measure => simp [intOf]; omega
    · have g1 : decide ((i : Int) < 5) = false := by simp; omega
      have HB := Lib.hid hB
      clear hA hS hB hi hi5
      go_upto_region 11 with (go_at_call 10; refine (place_no _).mono ?_; rintro e w1 ⟨rfl, hb⟩; have HB := Lib.hid (HB.out.trans (hb.mono HB.out.size)); clear hb)
      go_upto_region 12 with (go_at_call 10; refine (place_yes _).mono ?_; rintro e w2 ⟨rfl, hb⟩; have HB := Lib.hid (HB.out.trans (hb.mono HB.out.size)); clear hb)
      go_wp2_with (go_at_call 17; refine (fault_works _).mono ?_; rintro e w3 ⟨rfl, hb⟩; have HB := Lib.hid ((HB.out.alloc HB.out.size _).trans (hb.mono (Nat.le_trans HB.out.size (by simp)))); clear hb)
      go_ret
      exact ⟨rfl, HB.out⟩
end Go.Proofs.Ytjocobfabdkadaa
