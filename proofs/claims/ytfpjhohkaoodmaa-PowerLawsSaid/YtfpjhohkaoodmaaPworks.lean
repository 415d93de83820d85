/- works of the laws of package power, walked: the chapter's examples hold; nothing that was there before has turned. -/
import Derived.Test.YtfpjhohkaoodmaaPlaw
namespace Go.Proofs.Ytfpjhohkaoodmaa
open Go.RowKit
attribute [local go_sem] alloc_drewN setCell_drewN
/-- A slot points to a cell that holds the word x. -/
def cellS (x : Nat) : StP := ⟨fun u w => ∃ b off, u = .pointer (some ⟨b, off, none⟩) ∧ b < w.heap.size ∧ w.cell? ⟨b, off, none⟩ = some (.int .u64 x), fun _ _ _ hb ⟨b, off, h1, h2, h3⟩ => ⟨b, off, h1, Nat.lt_of_lt_of_le h2 hb.size, (hb.cell (p := ⟨b, off, none⟩) h2).trans h3⟩⟩
theorem rw_bk {w : World} {g : Nat} (l : List Nat) (h : Bk w g 23 (cellsOf .u64 l).toArray) : Rw .u64 w (some ⟨g, 0, none⟩) l.length l :=
  ⟨rfl, fun _ => ⟨g, 0, rfl, h.lt, fun i x hx => by
    have := h.cell i
    rw [Nat.zero_add, this]
    simp [cellsOf, hx]⟩⟩
def atL (l : List Nat) (i : Nat) : Nat := l.getD i 0
theorem getD_of {l : List Nat} {i x : Nat} (h : l[i]? = some x) : x = atL l i := by
  unfold atL; rw [List.getD_eq_getElem?_getD, h]; rfl
theorem log_w {v : Value} {N b : Nat} {w : World} (hv : IsNat 0 w v N) (hN : Fits N 1000) (hb : Bitn (N - 1) b) : Calls Try.prog 21 #[v] w fun e w' => e = .returned (.int .u64 b) ∧ Below w.heap.size w w' :=
  (log_c v N w hv hN).mono fun _ _ ⟨⟨d, h1, h2⟩, h3⟩ => ⟨by rw [h1, h2.unique hb], h3⟩
theorem bits_w {v : Value} {N b : Nat} {w : World} (hv : IsNat 0 w v N) (hN : Fits N 1000) (hb : Bitn N b) : Calls Try.prog 24 #[v] w fun e w' => e = .returned (.int .u64 b) ∧ Below w.heap.size w w' :=
  (bits_c v N w hv hN).mono fun _ _ ⟨⟨d, h1, h2⟩, h3⟩ => ⟨by rw [h1, h2.unique hb], h3⟩
theorem fitsN {x : Nat} (h : x < 18446744073709551616) : Fits x 1000 := Fits.mono (s := 1) ⟨by simpa using h⟩ (by decide)
theorem logs (i : Nat) (hi : i < 6) : atL [0, 1, 2, 3, 256, 257] i < 18446744073709551616 ∧ Fits (atL [0, 1, 2, 3, 256, 257] i) 1000 ∧ Bitn (atL [0, 1, 2, 3, 256, 257] i - 1) (atL [0, 0, 1, 2, 8, 9] i) := by
  match i, hi with
  | 0, _ => exact ⟨by decide, fitsN (by decide), bitn_zero⟩
  | 1, _ => exact ⟨by decide, fitsN (by decide), bitn_zero⟩
  | 2, _ => exact ⟨by decide, fitsN (by decide), by decide, fun _ => by decide, fun h => absurd h (by decide)⟩
  | 3, _ => exact ⟨by decide, fitsN (by decide), by decide, fun _ => by decide, fun h => absurd h (by decide)⟩
  | 4, _ => exact ⟨by decide, fitsN (by decide), by decide, fun _ => by decide, fun h => absurd h (by decide)⟩
  | 5, _ => exact ⟨by decide, fitsN (by decide), by decide, fun _ => by decide, fun h => absurd h (by decide)⟩
/-- As NatOk, of a number that is known. -/
theorem natOk_get {w w' : World} {c : Int} {M K : Nat} {b : Bool} {e : Ending} (h : NatOk w c M e w') (hM : M = K) (hb : fitB c K = b) : ∃ A k d, e = .returned (.tuple #[.agg #[.slice A k d], .bool b]) ∧ IsNat 0 w' (.agg #[.slice A k d]) (if b then K else 0) ∧ Below w.heap.size w w' := by
  subst hM hb
  exact h
theorem lim64 : Lim 18446744073709551616 [0, 1] (2 ^ 64) := ⟨by intro x hx; simp at hx; omega, by decide, by decide⟩
theorem bitn1 : Bitn 1 1 := ⟨by decide, fun _ => by decide, fun h => absurd h (by decide)⟩
theorem bitn256 : Bitn 256 9 := ⟨by decide, fun _ => by decide, fun h => absurd h (by decide)⟩
theorem geo3 : geo 3 (3 + 1) = 40 := by decide
theorem geo1 : geo 1 (18446744073709551615 + 1) = 18446744073709551616 := geo_one_base _
set_option maxRecDepth 100000 in
set_option maxHeartbeats 8000000 in
theorem works_c (w : World) : Calls Try.prog 5 #[] w fun e w' => e = .returned (.bool true) ∧ Below w.heap.size w w' := by
  have HB := Lib.hid (Below.refl w.heap.size w)
  have f1 : fitB 2 (2 ^ 64) = true := by rw [fitB_two]; decide
  have f2 : fitB 2 (2 ^ 128) = false := by rw [fitB_two]; decide
  have f3 : fitB 1 40 = true := by decide
  have f4 : fitB 1 18446744073709551616 = false := by decide
  have HF := Lib.hid (And.intro f1 (And.intro f2 (And.intro f3 f4)))
  clear f1 f2 f3 f4
  have tok1 : True := trivial
  have tok3 : True := trivial
  go_enter Try.func5, Try.ntmps5
  go_upto_region 2 with (first
    | (go_at_call_of 20 (Value.int IntKind.u64 2); refine (of_w 2 _ (by decide)).mono ?_; rintro e w1 ⟨vs, rfl, hv, hb⟩; have HVs := Lib.hid hv; have HB := Lib.hid (HB.out.trans (hb.mono HB.out.size)); clear hv hb)
    | (go_at_call 9; refine (pow_c 2 _ 2 64 _ HVs.out (Fits.mono (s := 1) ⟨by decide⟩ (by decide)) (by decide) (by decide)).mono ?_; intro e wq hx; obtain ⟨Aq, kq, dq, rfl, hi, hb⟩ := natOk_get hx (rfl) (HF.out.1); have hi : IsNat 0 wq _ (2 ^ 64) := hi; have HP := Lib.hid hi; have HB := Lib.hid (HB.out.trans (hb.mono HB.out.size)); clear hx hi hb))
  have bb : Below wq.heap.size wq (wq.alloc (.cells #[.slice Aq kq dq] 29)) := (Below.refl _ _).alloc (Nat.le_refl _) _
  have hx : BoxN (wq.alloc (.cells #[.slice Aq kq dq] 29)) wq.heap.size (2 ^ 64) := ⟨_, Bk.new _ _ _, HP.out.alloc _⟩
  have HB := Lib.hid (HB.out.trans (bb.mono HB.out.size))
  have HX1 := Lib.hid hx
  clear hx
  clear bb HP
  generalize wq.alloc (.cells #[.slice Aq kq dq] 29) = wz1 at *
  generalize wq.heap.size = g1 at *
  go_upto_region 3 with (first
    | (go_at_call_of 20 (Value.int IntKind.u64 2); refine (of_w 2 _ (by decide)).mono ?_; rintro e w1 ⟨vs, rfl, hv, hb⟩; have HVs := Lib.hid hv; have HX1 := Lib.hid (HX1.out.keep hb); have HB := Lib.hid (HB.out.trans (hb.mono HB.out.size)); clear hv hb)
    | (go_at_call 9; refine (pow_c 2 _ 2 128 _ HVs.out (Fits.mono (s := 1) ⟨by decide⟩ (by decide)) (by decide) (by decide)).mono ?_; intro e wq hx; obtain ⟨Aq, kq, dq, rfl, hi, hb⟩ := natOk_get hx (rfl) (HF.out.2.1); have hi : IsNat 0 wq _ (0) := hi; have HP := Lib.hid hi; have HX1 := Lib.hid (HX1.out.keep hb); have HB := Lib.hid (HB.out.trans (hb.mono HB.out.size)); clear hx hi hb))
  have bb : Below wq.heap.size wq (wq.alloc (.cells #[.slice Aq kq dq] 29)) := (Below.refl _ _).alloc (Nat.le_refl _) _
  have HX1 := Lib.hid (HX1.out.keep bb)
  have HB := Lib.hid (HB.out.trans (bb.mono HB.out.size))
  clear bb HP
  generalize wq.alloc (.cells #[.slice Aq kq dq] 29) = wz2 at *
  generalize wq.heap.size = g3 at *
  go_upto_region 4 with (first
    | (go_at_call_of 20 (Value.int IntKind.u64 3); refine (of_w 3 _ (by decide)).mono ?_; rintro e w1 ⟨vs, rfl, hv, hb⟩; have HVs := Lib.hid hv; have HX1 := Lib.hid (HX1.out.keep hb); have HB := Lib.hid (HB.out.trans (hb.mono HB.out.size)); clear hv hb)
    | (go_at_call 12; refine (psum_c 1 _ 3 3 _ HVs.out (Fits.mono (s := 1) ⟨by decide⟩ (by decide)) (by decide) (by decide)).mono ?_; intro e wq hx; obtain ⟨Aq, kq, dq, rfl, hi, hb⟩ := natOk_get hx (geo3) (HF.out.2.2.1); have hi : IsNat 0 wq _ (40) := hi; have HP := Lib.hid hi; have HX1 := Lib.hid (HX1.out.keep hb); have HB := Lib.hid (HB.out.trans (hb.mono HB.out.size)); clear hx hi hb))
  have bb : Below wq.heap.size wq (wq.alloc (.cells #[.slice Aq kq dq] 29)) := (Below.refl _ _).alloc (Nat.le_refl _) _
  have hx : BoxN (wq.alloc (.cells #[.slice Aq kq dq] 29)) wq.heap.size (40) := ⟨_, Bk.new _ _ _, HP.out.alloc _⟩
  have HX1 := Lib.hid (HX1.out.keep bb)
  have HB := Lib.hid (HB.out.trans (bb.mono HB.out.size))
  have HX5 := Lib.hid hx
  clear hx
  clear bb HP
  generalize wq.alloc (.cells #[.slice Aq kq dq] 29) = wz3 at *
  generalize wq.heap.size = g5 at *
  go_upto_region 5 with (first
    | (go_at_call_of 20 (Value.int IntKind.u64 1); refine (of_w 1 _ (by decide)).mono ?_; rintro e w1 ⟨vs, rfl, hv, hb⟩; have HVs := Lib.hid hv; have HX1 := Lib.hid (HX1.out.keep hb); have HX5 := Lib.hid (HX5.out.keep hb); have HB := Lib.hid (HB.out.trans (hb.mono HB.out.size)); clear hv hb)
    | (go_at_call 12; refine (psum_c 1 _ 1 18446744073709551615 _ HVs.out (Fits.mono (s := 1) ⟨by decide⟩ (by decide)) (by decide) (by decide)).mono ?_; intro e wq hx; obtain ⟨Aq, kq, dq, rfl, hi, hb⟩ := natOk_get hx (geo1) (HF.out.2.2.2); have hi : IsNat 0 wq _ (0) := hi; have HP := Lib.hid hi; have HX1 := Lib.hid (HX1.out.keep hb); have HX5 := Lib.hid (HX5.out.keep hb); have HB := Lib.hid (HB.out.trans (hb.mono HB.out.size)); clear hx hi hb))
  have bb : Below wq.heap.size wq (wq.alloc (.cells #[.slice Aq kq dq] 29)) := (Below.refl _ _).alloc (Nat.le_refl _) _
  have HX1 := Lib.hid (HX1.out.keep bb)
  have HX5 := Lib.hid (HX5.out.keep bb)
  have HB := Lib.hid (HB.out.trans (bb.mono HB.out.size))
  clear bb HP
  generalize wq.alloc (.cells #[.slice Aq kq dq] 29) = wz4 at *
  generalize wq.heap.size = g7 at *
  obtain ⟨s5, kk5, ii5⟩ := HX5.out
  have c5 := kk5.cell 0
  simp only [List.getElem?_toArray, List.getElem?_cons_zero] at c5
  have HI5 := Lib.hid ii5
  clear kk5 ii5 HX5

  go_upto_region 6 with (go_at_call 22; refine (small_yes _ 40 _ HI5.out (by decide)).mono ?_; rintro e w9 ⟨rfl, hb⟩; have HX1 := Lib.hid (HX1.out.keep hb); have HB := Lib.hid (HB.out.trans (hb.mono HB.out.size)); clear hb)
  have HT := Lib.hid (And.intro logs HB.out)
  clear c5
  go_wp2
  go_loopw [11] (fun s w1 => ∃ i : Nat, s = .int .i64 i ∧ i ≤ 6 ∧ Below w9.heap.size w9 w1) (fun s _ => 6 - (intOf s).toNat)
  case atStart => exact ⟨0, rfl, by decide, Below.refl _ _⟩
  case round =>
    obtain ⟨i, rfl, hi, hB9⟩ := hrel
    have HB9 := Lib.hid hB9
    clear hB9
    by_cases hi1 : i < 6
    · have g1 : decide ((i : Int) < 6) = true := by simp <;> omega
      have hii : (i : Int) < 6 := by omega
      go_upto_region 9 with fail
      refine wp_region_walk [0, 1, 2, 3, 4, 5, 6, 7, 8, 9, 10] [41, 42, 43, 44, 45, 46, 47, 48, 49, 50, 51] 0 (by kernel_rfl) (by kernel_rfl) (by kernel_rfl) rfl (by simp) (by kernel_rfl) (by kernel_rfl) ?_
      refine RegW.op 0 rfl (row 6 [0, 1, 2, 3, 256, 257]) ?_ ?_
      · intro a w' hF hB hd; clear hd hF; refine wpOp_step rfl (fun K' hK => ?_); go_simp; exact hK _ _ ⟨_, rfl, (Below.refl _ _).alloc (Nat.le_refl _) _, ⟨_, _, rfl, rw_bk [0, 1, 2, 3, 256, 257] (Bk.new _ _ _)⟩⟩
      apply RegW.val 1 rfl
      · intro a w' hF hB hd; have e11 := hF.2.2 11 (by decide); simp at e11; clear hd hF; refine wpOp_step rfl (fun K' hK => ?_); go_simp; exact hK _ _ ⟨_, rfl, Below.refl _ _, cst_ok⟩
      refine RegW.op 2 rfl (cellS (atL [0, 1, 2, 3, 256, 257] i)) ?_ ?_
      · intro a w' hF hB hd; have u0 := hd 0 (of_decide_eq_true (by kernel_rfl)) 1 _ _ rfl rfl; obtain ⟨A0, c0, p0, q0⟩ := u0; have v1 : a.tmps[42]?.getD undef = _ := hd 1 (of_decide_eq_true (by kernel_rfl)) 0 _ _ rfl rfl; clear hd hF; obtain ⟨b0, o0, x0, rfl, hb0, hx0, hc0⟩ := q0.at_ (i := i) (by omega); obtain rfl : x0 = atL [0, 1, 2, 3, 256, 257] i := getD_of hx0; clear hx0; refine wpOp_step rfl (fun K' hK => ?_); go_simp; exact hK _ _ ⟨_, rfl, Below.refl _ _, ⟨b0, o0 + i, rfl, hb0, hc0⟩⟩
      apply RegW.val 3 rfl
      · intro a w' hF hB hd; have u2 := hd 2 (of_decide_eq_true (by kernel_rfl)) 0 _ _ rfl rfl; obtain ⟨b2, o2, p2, h2, k2⟩ := u2; clear hd hF; refine wpOp_step rfl (fun K' hK => ?_); go_simp; exact hK _ _ ⟨_, rfl, Below.refl _ _, cst_ok⟩
      refine RegW.op 4 rfl (num (atL [0, 1, 2, 3, 256, 257] i)) ?_ ?_
      · intro a w' hF hB hd; have v3 : a.tmps[44]?.getD undef = _ := hd 3 (of_decide_eq_true (by kernel_rfl)) 0 _ _ rfl rfl; clear hd hF; refine wpOp_step rfl (fun K' hK => ?_); go_simp; refine (of_w (atL [0, 1, 2, 3, 256, 257] i) _ (HT.out.1 i hi1).1).mono ?_; rintro e w1 ⟨x, rfl, hx, hb⟩; exact hK _ _ ⟨_, rfl, hb, ⟨_, rfl, hx⟩⟩
      apply RegW.val 5 rfl
      · intro a w' hF hB hd; have u4 := hd 4 (of_decide_eq_true (by kernel_rfl)) 0 _ _ rfl rfl; obtain ⟨x4, p4, q4⟩ := u4; clear hd hF; refine wpOp_step rfl (fun K' hK => ?_); go_simp; refine (log_w q4 (HT.out.1 i hi1).2.1 (HT.out.1 i hi1).2.2).mono ?_; rintro e w1 ⟨rfl, hb⟩; exact hK _ _ ⟨_, rfl, hb, cst_ok⟩
      refine RegW.op 6 rfl (row 6 [0, 0, 1, 2, 8, 9]) ?_ ?_
      · intro a w' hF hB hd; clear hd hF; refine wpOp_step rfl (fun K' hK => ?_); go_simp; exact hK _ _ ⟨_, rfl, (Below.refl _ _).alloc (Nat.le_refl _) _, ⟨_, _, rfl, rw_bk [0, 0, 1, 2, 8, 9] (Bk.new _ _ _)⟩⟩
      apply RegW.val 7 rfl
      · intro a w' hF hB hd; have e11 := hF.2.2 11 (by decide); simp at e11; clear hd hF; refine wpOp_step rfl (fun K' hK => ?_); go_simp; exact hK _ _ ⟨_, rfl, Below.refl _ _, cst_ok⟩
      refine RegW.op 8 rfl (cellS (atL [0, 0, 1, 2, 8, 9] i)) ?_ ?_
      · intro a w' hF hB hd; have u6 := hd 6 (of_decide_eq_true (by kernel_rfl)) 1 _ _ rfl rfl; obtain ⟨A6, c6, p6, q6⟩ := u6; have v7 : a.tmps[48]?.getD undef = _ := hd 7 (of_decide_eq_true (by kernel_rfl)) 0 _ _ rfl rfl; clear hd hF; obtain ⟨b0, o0, x0, rfl, hb0, hx0, hc0⟩ := q6.at_ (i := i) (by omega); obtain rfl : x0 = atL [0, 0, 1, 2, 8, 9] i := getD_of hx0; clear hx0; refine wpOp_step rfl (fun K' hK => ?_); go_simp; exact hK _ _ ⟨_, rfl, Below.refl _ _, ⟨b0, o0 + i, rfl, hb0, hc0⟩⟩
      apply RegW.val 9 rfl
      · intro a w' hF hB hd; have u8 := hd 8 (of_decide_eq_true (by kernel_rfl)) 0 _ _ rfl rfl; obtain ⟨b8, o8, p8, h8, k8⟩ := u8; clear hd hF; refine wpOp_step rfl (fun K' hK => ?_); go_simp; exact hK _ _ ⟨_, rfl, Below.refl _ _, cst_ok⟩
      apply RegW.val 10 rfl
      · intro a w' hF hB hd; have v5 : a.tmps[46]?.getD undef = _ := hd 5 (of_decide_eq_true (by kernel_rfl)) 4 _ _ rfl rfl; have v9 : a.tmps[50]?.getD undef = _ := hd 9 (of_decide_eq_true (by kernel_rfl)) 0 _ _ rfl rfl; clear hd hF; refine wpOp_step rfl (fun K' hK => ?_); go_simp; exact hK _ _ ⟨_, rfl, Below.refl _ _, cst_ok⟩
      refine RegW.done (fun a w' hF hB hv => ?_)
      have u0 := hv 10 _ _ rfl
      obtain ⟨A0, c0, p0, q0⟩ := u0
      have v1 : a.tmps[42]?.getD undef = _ := hv 9 _ _ rfl
      have u2 := hv 8 _ _ rfl
      obtain ⟨b2, o2, p2, h2, k2⟩ := u2
      have v3 : a.tmps[44]?.getD undef = _ := hv 7 _ _ rfl
      have u4 := hv 6 _ _ rfl
      obtain ⟨x4, p4, q4⟩ := u4
      have v5 : a.tmps[46]?.getD undef = _ := hv 5 _ _ rfl
      have u6 := hv 4 _ _ rfl
      obtain ⟨A6, c6, p6, q6⟩ := u6
      have v7 : a.tmps[48]?.getD undef = _ := hv 3 _ _ rfl
      have u8 := hv 2 _ _ rfl
      obtain ⟨b8, o8, p8, h8, k8⟩ := u8
      have v9 : a.tmps[50]?.getD undef = _ := hv 1 _ _ rfl
      have v10 : a.tmps[51]?.getD undef = _ := hv 0 _ _ rfl
      have hE := hF.out
      rw [hE]
      clear hE hF hv
      simp only [List.foldl_cons, List.foldl_nil, Act.put, List.setIfInBounds_toArray, List.set_cons_zero, List.set_cons_succ, Array.getD_eq_getD_getElem?, p0, v1, p2, v3, p4, v5, p6, v7, p8, v9, v10]
      clear p0 v1 p2 v3 p4 v5 p6 v7 p8 v9 v10
      have hE0 := hB
      clear hB
      go_wp2_with fail
      go_roundw
      case rel => exact ⟨i + 1, by go_num, by omega, HB9.out.trans (hE0.mono HB9.out.size)⟩
      case measure => simp [intOf] <;> omega
    · obtain rfl : i = 6 := by omega
      have g1 : decide (((6 : Nat) : Int) < 6) = false := by decide
      have HX1 := Lib.hid (HX1.out.keep HB9.out)
      have HB := Lib.hid (HB.out.trans (HB9.out.mono HB.out.size))
      obtain ⟨s1, kk1, ii1⟩ := HX1.out
      have c1 := kk1.cell 0
      have z1 := kk1.lt
      simp only [List.getElem?_toArray, List.getElem?_cons_zero] at c1
      have HI1 := Lib.hid ii1
      clear kk1 ii1 HX1
      go_wp2_with (first
        | (go_at_call 23; refine (len_w HI1.out lim64).mono ?_; rintro e w10 ⟨rfl, hb⟩; have HB := Lib.hid (HB.out.trans (hb.mono HB.out.size)); clear hb)
        | (go_at_call_of 20 (Value.int IntKind.u64 0); refine (of_w 0 _ (by decide)).mono ?_; rintro e w1 ⟨v0, rfl, hv, hb⟩; have HV0 := Lib.hid hv; have HB := Lib.hid (HB.out.trans (hb.mono HB.out.size)); clear hv hb) | (go_at_call_of 20 (Value.int IntKind.u64 1); refine (of_w 1 _ (by decide)).mono ?_; rintro e w1 ⟨v1, rfl, hv, hb⟩; have HV1 := Lib.hid hv; have HB := Lib.hid (HB.out.trans (hb.mono HB.out.size)); clear hv hb) | (go_at_call_of 20 (Value.int IntKind.u64 256); refine (of_w 256 _ (by decide)).mono ?_; rintro e w1 ⟨v256, rfl, hv, hb⟩; have HV256 := Lib.hid hv; have HB := Lib.hid (HB.out.trans (hb.mono HB.out.size)); clear hv hb)
        | (go_at_call_of 24 v0; refine (bits_w HV0.out (fitsN (by decide)) bitn_zero).mono ?_; rintro e w11 ⟨rfl, hb⟩; have HB := Lib.hid (HB.out.trans (hb.mono HB.out.size)); clear hb)
        | (go_at_call_of 24 v1; refine (bits_w (b := 1) HV1.out (fitsN (by decide)) bitn1).mono ?_; rintro e w11 ⟨rfl, hb⟩; have HB := Lib.hid (HB.out.trans (hb.mono HB.out.size)); clear hb)
        | (go_at_call_of 24 v256; refine (bits_w (b := 9) HV256.out (fitsN (by decide)) bitn256).mono ?_; rintro e w11 ⟨rfl, hb⟩; have HB := Lib.hid (HB.out.trans (hb.mono HB.out.size)); clear hb))
      go_ret
      exact ⟨rfl, HB.out⟩
end Go.Proofs.Ytfpjhohkaoodmaa
