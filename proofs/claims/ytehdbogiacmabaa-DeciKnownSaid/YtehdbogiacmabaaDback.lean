/- DeciBack, walked: whatever the limbs, the divisor, the whole number and the text, the statement returns true, and nothing that was there before has turned. -/
import Derived.Test.YtehdbogiacmabaaDbackp
import Derived.Deep.DeepCutAuto
namespace Go.Proofs.Ytehdbogiacmabaa
open Go.RowKit
attribute [local go_sem] alloc_drewN setCell_drewN
theorem text_w {u : Value} {X : Nat} {S : ByteArray} {w : World} (hu : IsNat 0 w u X) (hX : Fits X 100) (hS : str (dec X) = S) : Calls Try.prog 16 #[u] w fun e w' => e = .returned (.string S) ∧ Below w.heap.size w w' := hS ▸ text_c u X w hu hX
theorem digits_w {u : Value} {X : Nat} {S : ByteArray} {w : World} (hu : IsNat 0 w u X) (hX : Fits X 100) (hS : str (dec X) = S) : Calls Try.prog 17 #[u] w fun e w' => e = .returned (.int .i64 S.size) ∧ Below w.heap.size w w' := hS ▸ digits_c u X w hu hX
theorem whole_w {n : Int} {S : ByteArray} {w : World} (h1 : -9223372036854775808 ≤ n) (h2 : n ≤ 9223372036854775807) (hS : str (wdec n) = S) : Calls Try.prog 18 #[.int .i64 n] w fun e w' => e = .returned (.string S) ∧ Below w.heap.size w w' := hS ▸ whole_c n w h1 h2
theorem parseWhole_w {s : ByteArray} {v g : Int} {w : World} (hs : s.size ≤ 1000) (hv : pwv (bys s) = v) (hg : pwe (bys s) = g) : Calls Try.prog 22 #[.string s] w fun e w' => e = .returned (.tuple #[.int .i64 v, .int .i64 g]) ∧ Below w.heap.size w w' := by
  subst hv hg
  exact parseWhole_c s w hs
theorem parse_w {s : ByteArray} {c E : Int} {N : Nat} {w : World} (hs : s.size ≤ 1000) (hE : (if isDec (bys s) then (if fitB c (decv (bys s)) then 0 else 10) else 20) = E) (hN : (if isDec (bys s) ∧ fitB c (decv (bys s)) = true then decv (bys s) else 0) = N) :
    Calls Try.prog 20 #[.string s, .int .i64 c] w fun e w' => ∃ A n d, e = .returned (.tuple #[.agg #[.slice A n d], .int .i64 E]) ∧ IsNat 0 w' (.agg #[.slice A n d]) N ∧ Below w.heap.size w w' := by
  subst hE hN
  exact parse_c s c w hs
theorem div_w {u : Value} {X b Q M : Nat} {E : Int} {w : World} (hu : IsNat 0 w u X) (hX : Fits X 1000) (hb : b < 18446744073709551616) (hQ : X / b = Q) (hM : (if b = 0 then 0 else X % b) = M) (hE : (if b = 0 then 2 else 0) = E) :
    Calls Try.prog 13 #[u, .int .u64 b] w fun e w' => ∃ A n c, e = .returned (.tuple #[.agg #[.slice A n c], .int .u64 M, .int .i64 E]) ∧ IsNat 0 w' (.agg #[.slice A n c]) Q ∧ Below w.heap.size w w' := by
  subst hQ hM hE
  exact div_c u X b w hu hX hb
theorem two_boxes {w : World} {A B : Option Addr} {k d m c X Y : Nat} (hx : IsNat 0 w (.agg #[.slice A k d]) X) (hy : IsNat 0 w (.agg #[.slice B m c]) Y) :
    NatBx ((w.alloc (.cells #[.slice A k d] 26)).alloc (.cells #[.slice B m c] 26)) w.heap.size A k d X ∧ NatBx ((w.alloc (.cells #[.slice A k d] 26)).alloc (.cells #[.slice B m c] 26)) (w.heap.size + 1) B m c Y ∧ Below w.heap.size w ((w.alloc (.cells #[.slice A k d] 26)).alloc (.cells #[.slice B m c] 26)) := by
  refine ⟨(NatBx.new hx).keep (below_box _ _), ?_, ((Below.refl _ _).alloc (Nat.le_refl _) _).alloc (by simp) _⟩
  have := NatBx.new (w := w.alloc (.cells #[.slice A k d] 26)) (hy.alloc _)
  simpa using this
theorem cmp_lt {N M : Nat} : decide (cmpI N M < 0) = decide (N < M) := by
  apply decide_eq_decide.2
  unfold cmpI
  split
  · simp; omega
  · split <;> simp <;> omega
theorem text_size {X : Nat} (h : Fits X 6) : (str (dec X)).size ≤ 1000 := by
  rw [str_size]
  exact Nat.le_trans (h.bytes.dec (by decide)) (by decide)
set_option maxRecDepth 100000 in
set_option maxHeartbeats 32000000 in
theorem back_c (A : Option Addr) (n0 c0 : Nat) (la : List Nat) (B : Option Addr) (n1 c1 : Nat) (lb : List Nat) (b : Nat) (n : Int) (s : ByteArray) (w : World) (ha : Rw .u64 w A n0 la) (ta : AllLt 18446744073709551616 la) (hbb : Rw .u64 w B n1 lb) (tb : AllLt 18446744073709551616 lb)
    (hb64 : b < 18446744073709551616) (h1 : -9223372036854775808 ≤ n) (h2 : n ≤ 9223372036854775807) (hl : n0 ≤ 6) (hl1 : n1 ≤ 6) (hs : s.size ≤ 60) :
    Calls Try.prog 6 #[.slice A n0 c0, .slice B n1 c1, .int .u64 b, .int .i64 n, .string s] w fun e w' => e = .returned (.bool true) ∧ Below w.heap.size w w' := by
  have g0 : decide ((6 : Int) < (n0 : Int)) = false := by simp <;> omega
  have g1 : decide ((6 : Int) < (n1 : Int)) = false := by simp <;> omega
  have g2 : decide ((60 : Int) < (s.size : Int)) = false := by simp <;> omega
  have hX := Fits.of_lim ta (show la.length ≤ 6 by rw [ha.1]; exact hl)
  have hY := Fits.of_lim tb (show lb.length ≤ 6 by rw [hbb.1]; exact hl1)
  obtain ⟨X, hXe⟩ : ∃ X, X = val 18446744073709551616 la := ⟨_, rfl⟩
  obtain ⟨Y, hYe⟩ : ∃ Y, Y = val 18446744073709551616 lb := ⟨_, rfl⟩
  rw [← hXe] at hX
  rw [← hYe] at hY
  have HX := Lib.hid hX
  have HY := Lib.hid hY
  have HXE := Lib.hid hXe
  have HYE := Lib.hid hYe
  have HA := Lib.hid (And.intro ha ta)
  have HA2 := Lib.hid (And.intro hbb tb)
  have HB := Lib.hid (Below.refl w.heap.size w)
  clear ha ta hbb tb hXe hYe hX hY
  go_enter Try.func6, Try.ntmps6
  go_upto_region 3 with fail
  go_upto_region 4 with (first | (go_at_call_of 10 (Value.slice A n0 c0); refine (lawOwn_c A n0 c0 la _ HA.out.1 (by omega)).mono ?_; rintro e wq ⟨A1, d1, rfl, hr, hc, hb⟩; have HB := Lib.hid (HB.out.trans (hb.mono HB.out.size)); have HO := Lib.hid (And.intro hr hc); have HA2 := Lib.hid (And.intro (HA2.out.1.keep hb) HA2.out.2); clear hb hr hc) | (go_at_call_of 9 (Value.slice A1 n0 d1); refine (limbs_c A1 n0 d1 la _ HO.out.1 HA.out.2 (by omega) HO.out.2).mono ?_; rintro e wq ⟨v, rfl, hi, hb⟩; have HB := Lib.hid (HB.out.trans (hb.mono HB.out.size)); obtain ⟨A3, n3, c3, l3, rfl, hi⟩ := hi; have HN := Lib.hid (show IsNat 0 wq (.agg #[.slice A3 n3 c3]) X from (by rw [HXE.out]; exact IsNat.mono ⟨A3, n3, c3, l3, rfl, hi⟩ (Nat.zero_le _))); have HA2 := Lib.hid (And.intro (HA2.out.1.keep hb) HA2.out.2); clear hb hi) | (go_at_call_of 10 (Value.slice B n1 c1); refine (lawOwn_c B n1 c1 lb _ HA2.out.1 (by omega)).mono ?_; rintro e wq ⟨B1, d2, rfl, hr, hc, hb⟩; have HB := Lib.hid (HB.out.trans (hb.mono HB.out.size)); have HN := Lib.hid (HN.out.keep hb); have HP := Lib.hid (And.intro hr hc); clear hb hr hc) | (go_at_call_of 9 (Value.slice B1 n1 d2); refine (limbs_c B1 n1 d2 lb _ HP.out.1 HA2.out.2 (by omega) HP.out.2).mono ?_; rintro e wq ⟨v, rfl, hi, hb⟩; have HB := Lib.hid (HB.out.trans (hb.mono HB.out.size)); have HN := Lib.hid (HN.out.keep hb); obtain ⟨B3, m3, b3, l3, rfl, hi⟩ := hi; have HM := Lib.hid (show IsNat 0 wq (.agg #[.slice B3 m3 b3]) Y from (by rw [HYE.out]; exact IsNat.mono ⟨B3, m3, b3, l3, rfl, hi⟩ (Nat.zero_le _))); clear hb hi))
  have hbx := two_boxes HN.out HM.out
  have HB := Lib.hid (HB.out.trans (hbx.2.2.mono HB.out.size))
  have HN := Lib.hid hbx.1
  have HM := Lib.hid hbx.2.1
  clear hbx HA HA2 HO HP
  generalize hw : (wq.alloc (.cells #[.slice A3 n3 c3] 26)).alloc (.cells #[.slice B3 m3 b3] 26) = z3 at *
  generalize hg : wq.heap.size = g11 at *
  clear hg hw
  have cN := HN.out.cell
  obtain ⟨Q, hQ⟩ : ∃ Q, X / b = Q := ⟨_, rfl⟩
  obtain ⟨M, hM⟩ : ∃ M : Nat, (if b = 0 then 0 else X % b) = M := ⟨_, rfl⟩
  obtain ⟨E, hE⟩ : ∃ E : Int, (if b = 0 then 2 else 0) = E := ⟨_, rfl⟩
  have HD := Lib.hid (And.intro hQ (And.intro hM hE))
  clear hQ hM hE
  go_upto_region 5 with (go_at_call 13; refine (div_w HN.out.2 (HX.out.mono (by decide)) hb64 HD.out.1 HD.out.2.1 HD.out.2.2).mono ?_; rintro e wq ⟨A5, n5, c5, rfl, hi, hb⟩; have HB := Lib.hid (HB.out.trans (hb.mono HB.out.size)); have HN := Lib.hid (HN.out.keep hb); have HM := Lib.hid (HM.out.keep hb); have HQ := Lib.hid hi; clear hb hi cN)
  have bb := below_box wq (.cells #[.slice A5 n5 c5] 26)
  have HB := Lib.hid (HB.out.trans (bb.mono HB.out.size))
  have HN := Lib.hid (HN.out.keep bb)
  have HM := Lib.hid (HM.out.keep bb)
  have HQ := Lib.hid (NatBx.new HQ.out)
  clear bb
  generalize hg : wq.heap.size = g13 at *
  generalize hw : wq.alloc (.cells #[.slice A5 n5 c5] 26) = z5 at *
  clear hg hw
  have cHN := HN.out.cell
  have cHQ := HQ.out.cell
  go_cut [82] from 57 to 82 (fun v82 wx => v82 = .bool false ∧ NatBx wx g11 A3 n3 c3 X ∧ NatBx wx (g11 + 1) B3 m3 b3 Y ∧ Below w.heap.size w wx)
  case first =>
    by_cases hb0 : b = 0
    · have hE : E = 2 := by rw [← HD.out.2.2, if_pos hb0]
      have HE := Lib.hid hE
      subst hE
      subst hb0
      clear cHN cHQ
      refine wp_region_walk [0, 1, 2, 3, 4, 5, 6, 7, 8, 9, 10, 11, 12, 13, 14, 15, 16, 17, 18, 19, 20, 21, 22, 23, 24, 25] [57, 58, 59, 60, 61, 62, 63, 64, 65, 66, 67, 68, 69, 70, 71, 72, 73, 74, 75, 76, 77, 78, 79, 80, 81, 82] 0 (by kernel_rfl) (by kernel_rfl) (by kernel_rfl) rfl (by simp) (by kernel_rfl) (by kernel_rfl) ?_
      apply RegW.val 0 rfl
      · intro a w' hF hB hd; have e15 := hF.2.2 15 (by decide); simp at e15; clear hd hF; refine wpOp_step rfl (fun K' hK => ?_); go_simp; exact hK _ _ ⟨_, rfl, Below.refl _ _, cst_ok⟩
      apply RegW.val 1 rfl
      · intro a w' hF hB hd; have v0 : a.tmps[57]?.getD undef = _ := hd 0 (of_decide_eq_true (by kernel_rfl)) 0 _ _ rfl rfl; clear hd hF; refine wpOp_step rfl (fun K' hK => ?_); go_simp; exact hK _ _ ⟨_, rfl, Below.refl _ _, cst_ok⟩
      apply RegW.val 2 rfl
      · intro a w' hF hB hd; have e2 := hF.2.2 2 (by decide); simp at e2; clear hd hF; refine wpOp_step rfl (fun K' hK => ?_); go_simp; exact hK _ _ ⟨_, rfl, Below.refl _ _, cst_ok⟩
      apply RegW.val 3 rfl
      · intro a w' hF hB hd; have v2 : a.tmps[59]?.getD undef = _ := hd 2 (of_decide_eq_true (by kernel_rfl)) 0 _ _ rfl rfl; clear hd hF; refine wpOp_step rfl (fun K' hK => ?_); go_simp; exact hK _ _ ⟨_, rfl, Below.refl _ _, cst_ok⟩
      apply RegW.val 4 rfl
      · intro a w' hF hB hd; have v1 : a.tmps[58]?.getD undef = _ := hd 1 (of_decide_eq_true (by kernel_rfl)) 2 _ _ rfl rfl; have v3 : a.tmps[60]?.getD undef = _ := hd 3 (of_decide_eq_true (by kernel_rfl)) 0 _ _ rfl rfl; clear hd hF; refine wpOp_step rfl (fun K' hK => ?_); go_simp; exact hK _ _ ⟨_, rfl, Below.refl _ _, cst_ok⟩
      apply RegW.val 5 rfl
      · intro a w' hF hB hd; have v4 : a.tmps[61]?.getD undef = _ := hd 4 (of_decide_eq_true (by kernel_rfl)) 0 _ _ rfl rfl; clear hd hF; refine wpOp_step rfl (fun K' hK => ?_); go_simp; exact hK _ _ ⟨_, rfl, Below.refl _ _, cst_ok⟩
      apply RegW.val 6 rfl
      · intro a w' hF hB hd; have v5 : a.tmps[62]?.getD undef = _ := hd 5 (of_decide_eq_true (by kernel_rfl)) 0 _ _ rfl rfl; have gd := tmp_bool v5; have e15 := hF.2.2 15 (by decide); simp at e15; clear hd hF; refine wpOp_step rfl (fun K' hK => ?_); go_simp; exact hK _ _ ⟨_, rfl, Below.refl _ _, cst_ok⟩
      apply RegW.val 7 rfl
      · intro a w' hF hB hd; have v5 : a.tmps[62]?.getD undef = _ := hd 5 (of_decide_eq_true (by kernel_rfl)) 1 _ _ rfl rfl; have v6 : a.tmps[63]?.getD undef = _ := hd 6 (of_decide_eq_true (by kernel_rfl)) 0 _ _ rfl rfl; have gd := tmp_bool v5; clear hd hF; refine wpOp_step rfl (fun K' hK => ?_); go_simp; exact hK _ _ ⟨_, rfl, Below.refl _ _, cst_ok⟩
      apply RegW.val 8 rfl
      · intro a w' hF hB hd; have v5 : a.tmps[62]?.getD undef = _ := hd 5 (of_decide_eq_true (by kernel_rfl)) 2 _ _ rfl rfl; have v7 : a.tmps[64]?.getD undef = _ := hd 7 (of_decide_eq_true (by kernel_rfl)) 0 _ _ rfl rfl; have gd := tmp_bool v5; clear hd hF; refine wpOp_step rfl (fun K' hK => ?_); go_simp; exact hK _ _ ⟨_, rfl, Below.refl _ _, cst_ok⟩
      refine RegW.skip 9 8 65 _ _ _ _ rfl rfl rfl rfl rfl rfl (by kernel_rfl) 0 rfl rfl rfl ?_
      refine RegW.skip 10 8 65 _ _ _ _ rfl rfl rfl rfl rfl rfl (by kernel_rfl) 1 rfl rfl rfl ?_
      refine RegW.skip 11 8 65 _ _ _ _ rfl rfl rfl rfl rfl rfl (by kernel_rfl) 2 rfl rfl rfl ?_
      refine RegW.skip 12 8 65 _ _ _ _ rfl rfl rfl rfl rfl rfl (by kernel_rfl) 3 rfl rfl rfl ?_
      refine RegW.skip 13 12 69 _ _ _ _ rfl rfl rfl rfl rfl rfl (by kernel_rfl) 0 rfl rfl rfl ?_
      refine RegW.skip 14 12 69 _ _ _ _ rfl rfl rfl rfl rfl rfl (by kernel_rfl) 1 rfl rfl rfl ?_
      refine RegW.skip 15 12 69 _ _ _ _ rfl rfl rfl rfl rfl rfl (by kernel_rfl) 2 rfl rfl rfl ?_
      refine RegW.skip 16 12 69 _ _ _ _ rfl rfl rfl rfl rfl rfl (by kernel_rfl) 3 rfl rfl rfl ?_
      refine RegW.skip 17 12 69 _ _ _ _ rfl rfl rfl rfl rfl rfl (by kernel_rfl) 4 rfl rfl rfl ?_
      refine RegW.skip 18 12 69 _ _ _ _ rfl rfl rfl rfl rfl rfl (by kernel_rfl) 5 rfl rfl rfl ?_
      refine RegW.skip 19 12 69 _ _ _ _ rfl rfl rfl rfl rfl rfl (by kernel_rfl) 6 rfl rfl rfl ?_
      refine RegW.skip 20 12 69 _ _ _ _ rfl rfl rfl rfl rfl rfl (by kernel_rfl) 7 rfl rfl rfl ?_
      refine RegW.skip 21 12 69 _ _ _ _ rfl rfl rfl rfl rfl rfl (by kernel_rfl) 8 rfl rfl rfl ?_
      refine RegW.skip 22 12 69 _ _ _ _ rfl rfl rfl rfl rfl rfl (by kernel_rfl) 9 rfl rfl rfl ?_
      refine RegW.skip 23 8 65 _ _ _ _ rfl rfl rfl rfl rfl rfl (by kernel_rfl) 14 rfl rfl rfl ?_
      apply RegW.val 24 rfl
      · intro a w' hF hB hd; have v5 : a.tmps[62]?.getD undef = _ := hd 5 (of_decide_eq_true (by kernel_rfl)) 18 _ _ rfl rfl; have v8 : a.tmps[65]?.getD undef = _ := hd 8 (of_decide_eq_true (by kernel_rfl)) 15 _ _ rfl rfl; have v23 : a.tmps[80]?.getD undef = _ := hd 23 (of_decide_eq_true (by kernel_rfl)) 0 _ _ rfl rfl; have gd := tmp_bool v5; clear hd hF; refine wpOp_step rfl (fun K' hK => ?_); go_simp; exact hK _ _ ⟨_, rfl, Below.refl _ _, cst_ok⟩
      apply RegW.val 25 rfl
      · intro a w' hF hB hd; have v5 : a.tmps[62]?.getD undef = _ := hd 5 (of_decide_eq_true (by kernel_rfl)) 19 _ _ rfl rfl; have v24 : a.tmps[81]?.getD undef = _ := hd 24 (of_decide_eq_true (by kernel_rfl)) 0 _ _ rfl rfl; clear hd hF; refine wpOp_step rfl (fun K' hK => ?_); go_simp; exact hK _ _ ⟨_, rfl, Below.refl _ _, cst_ok⟩
      refine RegW.done (fun a w' hF hB hv => ?_)
      have v0 : a.tmps[57]?.getD undef = _ := hv 25 _ _ rfl
      have v1 : a.tmps[58]?.getD undef = _ := hv 24 _ _ rfl
      have v2 : a.tmps[59]?.getD undef = _ := hv 23 _ _ rfl
      have v3 : a.tmps[60]?.getD undef = _ := hv 22 _ _ rfl
      have v4 : a.tmps[61]?.getD undef = _ := hv 21 _ _ rfl
      have v5 : a.tmps[62]?.getD undef = _ := hv 20 _ _ rfl
      have v6 : a.tmps[63]?.getD undef = _ := hv 19 _ _ rfl
      have v7 : a.tmps[64]?.getD undef = _ := hv 18 _ _ rfl
      have v8 : a.tmps[65]?.getD undef = _ := hv 17 _ _ rfl
      have v9 : a.tmps[66]?.getD undef = _ := hv 16 _ _ rfl
      have v10 : a.tmps[67]?.getD undef = _ := hv 15 _ _ rfl
      have v11 : a.tmps[68]?.getD undef = _ := hv 14 _ _ rfl
      have v12 : a.tmps[69]?.getD undef = _ := hv 13 _ _ rfl
      have v13 : a.tmps[70]?.getD undef = _ := hv 12 _ _ rfl
      have v14 : a.tmps[71]?.getD undef = _ := hv 11 _ _ rfl
      have v15 : a.tmps[72]?.getD undef = _ := hv 10 _ _ rfl
      have v16 : a.tmps[73]?.getD undef = _ := hv 9 _ _ rfl
      have v17 : a.tmps[74]?.getD undef = _ := hv 8 _ _ rfl
      have v18 : a.tmps[75]?.getD undef = _ := hv 7 _ _ rfl
      have v19 : a.tmps[76]?.getD undef = _ := hv 6 _ _ rfl
      have v20 : a.tmps[77]?.getD undef = _ := hv 5 _ _ rfl
      have v21 : a.tmps[78]?.getD undef = _ := hv 4 _ _ rfl
      have v22 : a.tmps[79]?.getD undef = _ := hv 3 _ _ rfl
      have v23 : a.tmps[80]?.getD undef = _ := hv 2 _ _ rfl
      have v24 : a.tmps[81]?.getD undef = _ := hv 1 _ _ rfl
      have v25 : a.tmps[82]?.getD undef = _ := hv 0 _ _ rfl
      have hE := hF.out
      rw [hE]
      clear hE hF hv
      simp only [List.foldl_cons, List.foldl_nil, Act.put, List.setIfInBounds_toArray, List.set_cons_zero, List.set_cons_succ, Array.getD_eq_getD_getElem?, v0, v1, v2, v3, v4, v5, v6, v7, v8, v9, v10, v11, v12, v13, v14, v15, v16, v17, v18, v19, v20, v21, v22, v23, v24, v25]
      clear v0 v1 v2 v3 v4 v5 v6 v7 v8 v9 v10 v11 v12 v13 v14 v15 v16 v17 v18 v19 v20 v21 v22 v23 v24 v25
      go_wp2_with fail
      go_meet
      exact ⟨rfl, HN.out.keep hB, HM.out.keep hB, HB.out.trans (hB.mono HB.out.size)⟩
    · have hE : E = 0 := by rw [← HD.out.2.2, if_neg hb0]
      have hM : M = X % b := by rw [← HD.out.2.1, if_neg hb0]
      have HE := Lib.hid hE
      subst hE
      have hMb : M < b := by rw [hM]; exact Nat.mod_lt _ (by omega)
      have hgt : 0 < b := by omega
      have hge : ¬ b ≤ M := by omega
      have hQX : Fits Q 6 := HD.out.1 ▸ HX.out.div b
      have hs1 : Q * b + M = X := by rw [← HD.out.1, hM]; exact divmod_sum
      have HF := Lib.hid (And.intro (hQX.mono (show 6 ≤ 1000 by decide)) (And.intro (show Fits b 1000 from Fits.mono (s := 1) ⟨by simpa using hb64⟩ (by decide)) (And.intro (show M < 18446744073709551616 by omega) (And.intro (show Fits (Q * b) 1000 from Fits.mono (s := 6) ⟨Nat.lt_of_le_of_lt (show Q * b ≤ X by omega) HX.out.lt⟩ (by decide)) (And.intro (show Fits M 1000 from Fits.mono (s := 1) ⟨by rw [Nat.pow_one]; omega⟩ (by decide)) (And.intro (show Fits (Q * b + M) 1000 from hs1 ▸ HX.out.mono (by decide)) (show cmpI (Q * b + M) X = 0 from cmp0 hs1)))))))
      clear cHN cHQ hM hMb hQX hs1 hb0
      refine wp_region_walk [0, 1, 2, 3, 4, 5, 6, 7, 8, 9, 10, 11, 12, 13, 14, 15, 16, 17, 18, 19, 20, 21, 22, 23, 24, 25] [57, 58, 59, 60, 61, 62, 63, 64, 65, 66, 67, 68, 69, 70, 71, 72, 73, 74, 75, 76, 77, 78, 79, 80, 81, 82] 0 (by kernel_rfl) (by kernel_rfl) (by kernel_rfl) rfl (by simp) (by kernel_rfl) (by kernel_rfl) ?_
      apply RegW.val 0 rfl
      · intro a w' hF hB hd; have e15 := hF.2.2 15 (by decide); simp at e15; clear hd hF; refine wpOp_step rfl (fun K' hK => ?_); go_simp; exact hK _ _ ⟨_, rfl, Below.refl _ _, cst_ok⟩
      apply RegW.val 1 rfl
      · intro a w' hF hB hd; have v0 : a.tmps[57]?.getD undef = _ := hd 0 (of_decide_eq_true (by kernel_rfl)) 0 _ _ rfl rfl; clear hd hF; refine wpOp_step rfl (fun K' hK => ?_); go_simp; exact hK _ _ ⟨_, rfl, Below.refl _ _, cst_ok⟩
      apply RegW.val 2 rfl
      · intro a w' hF hB hd; have e2 := hF.2.2 2 (by decide); simp at e2; clear hd hF; refine wpOp_step rfl (fun K' hK => ?_); go_simp; exact hK _ _ ⟨_, rfl, Below.refl _ _, cst_ok⟩
      apply RegW.val 3 rfl
      · intro a w' hF hB hd; have v2 : a.tmps[59]?.getD undef = _ := hd 2 (of_decide_eq_true (by kernel_rfl)) 0 _ _ rfl rfl; clear hd hF; refine wpOp_step rfl (fun K' hK => ?_); go_simp; exact hK _ _ ⟨_, rfl, Below.refl _ _, cst_ok⟩
      apply RegW.val 4 rfl
      · intro a w' hF hB hd; have v1 : a.tmps[58]?.getD undef = _ := hd 1 (of_decide_eq_true (by kernel_rfl)) 2 _ _ rfl rfl; have v3 : a.tmps[60]?.getD undef = _ := hd 3 (of_decide_eq_true (by kernel_rfl)) 0 _ _ rfl rfl; clear hd hF; refine wpOp_step rfl (fun K' hK => ?_); go_simp; exact hK _ _ ⟨_, rfl, Below.refl _ _, cst_ok⟩
      apply RegW.val 5 rfl
      · intro a w' hF hB hd; have v4 : a.tmps[61]?.getD undef = _ := hd 4 (of_decide_eq_true (by kernel_rfl)) 0 _ _ rfl rfl; clear hd hF; refine wpOp_step rfl (fun K' hK => ?_); go_simp; exact hK _ _ ⟨_, rfl, Below.refl _ _, cst_ok⟩
      apply RegW.val 6 rfl
      · intro a w' hF hB hd; have v5 : a.tmps[62]?.getD undef = _ := hd 5 (of_decide_eq_true (by kernel_rfl)) 0 _ _ rfl rfl; have gd := tmp_bool v5; have e15 := hF.2.2 15 (by decide); simp at e15; clear hd hF; refine wpOp_step rfl (fun K' hK => ?_); go_simp; exact hK _ _ ⟨_, rfl, Below.refl _ _, cst_ok⟩
      apply RegW.val 7 rfl
      · intro a w' hF hB hd; have v5 : a.tmps[62]?.getD undef = _ := hd 5 (of_decide_eq_true (by kernel_rfl)) 1 _ _ rfl rfl; have v6 : a.tmps[63]?.getD undef = _ := hd 6 (of_decide_eq_true (by kernel_rfl)) 0 _ _ rfl rfl; have gd := tmp_bool v5; clear hd hF; refine wpOp_step rfl (fun K' hK => ?_); go_simp; exact hK _ _ ⟨_, rfl, Below.refl _ _, cst_ok⟩
      apply RegW.val 8 rfl
      · intro a w' hF hB hd; have v5 : a.tmps[62]?.getD undef = _ := hd 5 (of_decide_eq_true (by kernel_rfl)) 2 _ _ rfl rfl; have v7 : a.tmps[64]?.getD undef = _ := hd 7 (of_decide_eq_true (by kernel_rfl)) 0 _ _ rfl rfl; have gd := tmp_bool v5; clear hd hF; refine wpOp_step rfl (fun K' hK => ?_); go_simp; exact hK _ _ ⟨_, rfl, Below.refl _ _, cst_ok⟩
      apply RegW.val 9 rfl
      · intro a w' hF hB hd; have v8 : a.tmps[65]?.getD undef = _ := hd 8 (of_decide_eq_true (by kernel_rfl)) 0 _ _ rfl rfl; have gd := tmp_bool v8; have e14 := hF.2.2 14 (by decide); simp at e14; clear hd hF; refine wpOp_step rfl (fun K' hK => ?_); go_simp; exact hK _ _ ⟨_, rfl, Below.refl _ _, cst_ok⟩
      apply RegW.val 10 rfl
      · intro a w' hF hB hd; have v8 : a.tmps[65]?.getD undef = _ := hd 8 (of_decide_eq_true (by kernel_rfl)) 1 _ _ rfl rfl; have gd := tmp_bool v8; have e2 := hF.2.2 2 (by decide); simp at e2; clear hd hF; refine wpOp_step rfl (fun K' hK => ?_); go_simp; exact hK _ _ ⟨_, rfl, Below.refl _ _, cst_ok⟩
      apply RegW.val 11 rfl
      · intro a w' hF hB hd; have v8 : a.tmps[65]?.getD undef = _ := hd 8 (of_decide_eq_true (by kernel_rfl)) 2 _ _ rfl rfl; have v9 : a.tmps[66]?.getD undef = _ := hd 9 (of_decide_eq_true (by kernel_rfl)) 1 _ _ rfl rfl; have v10 : a.tmps[67]?.getD undef = _ := hd 10 (of_decide_eq_true (by kernel_rfl)) 0 _ _ rfl rfl; have gd := tmp_bool v8; clear hd hF; refine wpOp_step rfl (fun K' hK => ?_); go_simp; exact hK _ _ ⟨_, rfl, Below.refl _ _, cst_ok⟩
      apply RegW.val 12 rfl
      · intro a w' hF hB hd; have v8 : a.tmps[65]?.getD undef = _ := hd 8 (of_decide_eq_true (by kernel_rfl)) 3 _ _ rfl rfl; have v11 : a.tmps[68]?.getD undef = _ := hd 11 (of_decide_eq_true (by kernel_rfl)) 0 _ _ rfl rfl; have gd := tmp_bool v8; clear hd hF; refine wpOp_step rfl (fun K' hK => ?_); go_simp; exact hK _ _ ⟨_, rfl, Below.refl _ _, cst_ok⟩
      refine RegW.num (N := Q) 13 rfl ?_ ?_
      · intro a w' hF hB hd; have v12 : a.tmps[69]?.getD undef = _ := hd 12 (of_decide_eq_true (by kernel_rfl)) 0 _ _ rfl rfl; have gd := tmp_bool v12; have e13 := hF.2.2 13 (by decide); simp at e13; clear hd hF; have hq := HQ.out.keep hB; have c0 := hq.cell; refine wpOp_step rfl (fun K' hK => ?_); go_simp; exact hK _ _ ⟨_, rfl, Below.refl _ _, ⟨_, rfl, hq.2⟩⟩
      apply RegW.val 14 rfl
      · intro a w' hF hB hd; have v12 : a.tmps[69]?.getD undef = _ := hd 12 (of_decide_eq_true (by kernel_rfl)) 1 _ _ rfl rfl; have gd := tmp_bool v12; have e2 := hF.2.2 2 (by decide); simp at e2; clear hd hF; refine wpOp_step rfl (fun K' hK => ?_); go_simp; exact hK _ _ ⟨_, rfl, Below.refl _ _, cst_ok⟩
      refine RegW.num (N := b) 15 rfl ?_ ?_
      · intro a w' hF hB hd; have v12 : a.tmps[69]?.getD undef = _ := hd 12 (of_decide_eq_true (by kernel_rfl)) 2 _ _ rfl rfl; have v14 : a.tmps[71]?.getD undef = _ := hd 14 (of_decide_eq_true (by kernel_rfl)) 0 _ _ rfl rfl; have gd := tmp_bool v12; clear hd hF; refine wpOp_step rfl (fun K' hK => ?_); go_simp; refine (of_w b _ (hb64)).mono ?_; rintro e w1 ⟨x, rfl, hx, hb⟩; exact hK _ _ ⟨_, rfl, hb, ⟨_, rfl, hx⟩⟩
      refine RegW.num (N := (Q * b)) 16 rfl ?_ ?_
      · intro a w' hF hB hd; have v12 : a.tmps[69]?.getD undef = _ := hd 12 (of_decide_eq_true (by kernel_rfl)) 3 _ _ rfl rfl; have u13 := hd 13 (of_decide_eq_true (by kernel_rfl)) 2 _ _ rfl rfl; obtain ⟨x13, p13, q13⟩ := u13; have u15 := hd 15 (of_decide_eq_true (by kernel_rfl)) 0 _ _ rfl rfl; obtain ⟨x15, p15, q15⟩ := u15; have gd := tmp_bool v12; clear hd hF; refine wpOp_step rfl (fun K' hK => ?_); go_simp; refine (mul_w q13 q15 HF.out.1 HF.out.2.1).mono ?_; rintro e w1 ⟨x, rfl, hx, hb⟩; exact hK _ _ ⟨_, rfl, hb, ⟨_, rfl, hx⟩⟩
      apply RegW.val 17 rfl
      · intro a w' hF hB hd; have v12 : a.tmps[69]?.getD undef = _ := hd 12 (of_decide_eq_true (by kernel_rfl)) 4 _ _ rfl rfl; have gd := tmp_bool v12; have e14 := hF.2.2 14 (by decide); simp at e14; clear hd hF; refine wpOp_step rfl (fun K' hK => ?_); go_simp; exact hK _ _ ⟨_, rfl, Below.refl _ _, cst_ok⟩
      refine RegW.num (N := M) 18 rfl ?_ ?_
      · intro a w' hF hB hd; have v12 : a.tmps[69]?.getD undef = _ := hd 12 (of_decide_eq_true (by kernel_rfl)) 5 _ _ rfl rfl; have v17 : a.tmps[74]?.getD undef = _ := hd 17 (of_decide_eq_true (by kernel_rfl)) 0 _ _ rfl rfl; have gd := tmp_bool v12; clear hd hF; refine wpOp_step rfl (fun K' hK => ?_); go_simp; refine (of_w M _ (HF.out.2.2.1)).mono ?_; rintro e w1 ⟨x, rfl, hx, hb⟩; exact hK _ _ ⟨_, rfl, hb, ⟨_, rfl, hx⟩⟩
      refine RegW.num (N := (Q * b + M)) 19 rfl ?_ ?_
      · intro a w' hF hB hd; have v12 : a.tmps[69]?.getD undef = _ := hd 12 (of_decide_eq_true (by kernel_rfl)) 6 _ _ rfl rfl; have u16 := hd 16 (of_decide_eq_true (by kernel_rfl)) 2 _ _ rfl rfl; obtain ⟨x16, p16, q16⟩ := u16; have u18 := hd 18 (of_decide_eq_true (by kernel_rfl)) 0 _ _ rfl rfl; obtain ⟨x18, p18, q18⟩ := u18; have gd := tmp_bool v12; clear hd hF; refine wpOp_step rfl (fun K' hK => ?_); go_simp; refine (add_w q16 q18 HF.out.2.2.2.1 HF.out.2.2.2.2.1).mono ?_; rintro e w1 ⟨x, rfl, hx, hb⟩; exact hK _ _ ⟨_, rfl, hb, ⟨_, rfl, hx⟩⟩
      refine RegW.num (N := X) 20 rfl ?_ ?_
      · intro a w' hF hB hd; have v12 : a.tmps[69]?.getD undef = _ := hd 12 (of_decide_eq_true (by kernel_rfl)) 7 _ _ rfl rfl; have gd := tmp_bool v12; have e11 := hF.2.2 11 (by decide); simp at e11; clear hd hF; have hq := HN.out.keep hB; have c0 := hq.cell; refine wpOp_step rfl (fun K' hK => ?_); go_simp; exact hK _ _ ⟨_, rfl, Below.refl _ _, ⟨_, rfl, hq.2⟩⟩
      refine RegW.op 21 rfl (cst (.int .i64 0)) ?_ ?_
      · intro a w' hF hB hd; have v12 : a.tmps[69]?.getD undef = _ := hd 12 (of_decide_eq_true (by kernel_rfl)) 8 _ _ rfl rfl; have u19 := hd 19 (of_decide_eq_true (by kernel_rfl)) 1 _ _ rfl rfl; obtain ⟨x19, p19, q19⟩ := u19; have u20 := hd 20 (of_decide_eq_true (by kernel_rfl)) 0 _ _ rfl rfl; obtain ⟨x20, p20, q20⟩ := u20; have gd := tmp_bool v12; clear hd hF; refine wpOp_step rfl (fun K' hK => ?_); go_simp; refine (cmp_w q19 q20 HF.out.2.2.2.2.2.1 (HX.out.mono (by decide)) HF.out.2.2.2.2.2.2).mono ?_; rintro e w1 ⟨rfl, hb⟩; exact hK _ _ ⟨_, rfl, hb, cst_ok⟩
      apply RegW.val 22 rfl
      · intro a w' hF hB hd; have v12 : a.tmps[69]?.getD undef = _ := hd 12 (of_decide_eq_true (by kernel_rfl)) 9 _ _ rfl rfl; have v21 : a.tmps[78]?.getD undef = _ := hd 21 (of_decide_eq_true (by kernel_rfl)) 0 _ _ rfl rfl; have gd := tmp_bool v12; clear hd hF; refine wpOp_step rfl (fun K' hK => ?_); go_simp; exact hK _ _ ⟨_, rfl, Below.refl _ _, cst_ok⟩
      apply RegW.val 23 rfl
      · intro a w' hF hB hd; have v8 : a.tmps[65]?.getD undef = _ := hd 8 (of_decide_eq_true (by kernel_rfl)) 14 _ _ rfl rfl; have v12 : a.tmps[69]?.getD undef = _ := hd 12 (of_decide_eq_true (by kernel_rfl)) 10 _ _ rfl rfl; have v22 : a.tmps[79]?.getD undef = _ := hd 22 (of_decide_eq_true (by kernel_rfl)) 0 _ _ rfl rfl; have gd := tmp_bool v8; clear hd hF; refine wpOp_step rfl (fun K' hK => ?_); go_simp; exact hK _ _ ⟨_, rfl, Below.refl _ _, cst_ok⟩
      apply RegW.val 24 rfl
      · intro a w' hF hB hd; have v5 : a.tmps[62]?.getD undef = _ := hd 5 (of_decide_eq_true (by kernel_rfl)) 18 _ _ rfl rfl; have v8 : a.tmps[65]?.getD undef = _ := hd 8 (of_decide_eq_true (by kernel_rfl)) 15 _ _ rfl rfl; have v23 : a.tmps[80]?.getD undef = _ := hd 23 (of_decide_eq_true (by kernel_rfl)) 0 _ _ rfl rfl; have gd := tmp_bool v5; clear hd hF; refine wpOp_step rfl (fun K' hK => ?_); go_simp; exact hK _ _ ⟨_, rfl, Below.refl _ _, cst_ok⟩
      apply RegW.val 25 rfl
      · intro a w' hF hB hd; have v5 : a.tmps[62]?.getD undef = _ := hd 5 (of_decide_eq_true (by kernel_rfl)) 19 _ _ rfl rfl; have v24 : a.tmps[81]?.getD undef = _ := hd 24 (of_decide_eq_true (by kernel_rfl)) 0 _ _ rfl rfl; clear hd hF; refine wpOp_step rfl (fun K' hK => ?_); go_simp; exact hK _ _ ⟨_, rfl, Below.refl _ _, cst_ok⟩
      refine RegW.done (fun a w' hF hB hv => ?_)
      have v0 : a.tmps[57]?.getD undef = _ := hv 25 _ _ rfl
      have v1 : a.tmps[58]?.getD undef = _ := hv 24 _ _ rfl
      have v2 : a.tmps[59]?.getD undef = _ := hv 23 _ _ rfl
      have v3 : a.tmps[60]?.getD undef = _ := hv 22 _ _ rfl
      have v4 : a.tmps[61]?.getD undef = _ := hv 21 _ _ rfl
      have v5 : a.tmps[62]?.getD undef = _ := hv 20 _ _ rfl
      have v6 : a.tmps[63]?.getD undef = _ := hv 19 _ _ rfl
      have v7 : a.tmps[64]?.getD undef = _ := hv 18 _ _ rfl
      have v8 : a.tmps[65]?.getD undef = _ := hv 17 _ _ rfl
      have v9 : a.tmps[66]?.getD undef = _ := hv 16 _ _ rfl
      have v10 : a.tmps[67]?.getD undef = _ := hv 15 _ _ rfl
      have v11 : a.tmps[68]?.getD undef = _ := hv 14 _ _ rfl
      have v12 : a.tmps[69]?.getD undef = _ := hv 13 _ _ rfl
      have u13 := hv 12 _ _ rfl
      obtain ⟨x13, p13, q13⟩ := u13
      have v14 : a.tmps[71]?.getD undef = _ := hv 11 _ _ rfl
      have u15 := hv 10 _ _ rfl
      obtain ⟨x15, p15, q15⟩ := u15
      have u16 := hv 9 _ _ rfl
      obtain ⟨x16, p16, q16⟩ := u16
      have v17 : a.tmps[74]?.getD undef = _ := hv 8 _ _ rfl
      have u18 := hv 7 _ _ rfl
      obtain ⟨x18, p18, q18⟩ := u18
      have u19 := hv 6 _ _ rfl
      obtain ⟨x19, p19, q19⟩ := u19
      have u20 := hv 5 _ _ rfl
      obtain ⟨x20, p20, q20⟩ := u20
      have v21 : a.tmps[78]?.getD undef = _ := hv 4 _ _ rfl
      have v22 : a.tmps[79]?.getD undef = _ := hv 3 _ _ rfl
      have v23 : a.tmps[80]?.getD undef = _ := hv 2 _ _ rfl
      have v24 : a.tmps[81]?.getD undef = _ := hv 1 _ _ rfl
      have v25 : a.tmps[82]?.getD undef = _ := hv 0 _ _ rfl
      have hE := hF.out
      rw [hE]
      clear hE hF hv
      simp only [List.foldl_cons, List.foldl_nil, Act.put, List.setIfInBounds_toArray, List.set_cons_zero, List.set_cons_succ, Array.getD_eq_getD_getElem?, v0, v1, v2, v3, v4, v5, v6, v7, v8, v9, v10, v11, v12, p13, v14, p15, p16, v17, p18, p19, p20, v21, v22, v23, v24, v25]
      clear v0 v1 v2 v3 v4 v5 v6 v7 v8 v9 v10 v11 v12 p13 v14 p15 p16 v17 p18 p19 p20 v21 v22 v23 v24 v25
      go_wp2_with fail
      go_meet
      exact ⟨rfl, HN.out.keep hB, HM.out.keep hB, HB.out.trans (hB.mono HB.out.size)⟩
  case rest =>
    obtain ⟨rfl, hn, hm, hB⟩ := hcut
    have HN := Lib.hid hn
    have HM := Lib.hid hm
    have HB := Lib.hid hB
    clear hn hm hB HQ cHN cHQ HD
    obtain ⟨S, hS⟩ : ∃ S, str (dec X) = S := ⟨_, rfl⟩
    obtain ⟨T, hT⟩ : ∃ T, str (dec Y) = T := ⟨_, rfl⟩
    have HS := Lib.hid hS
    have HT := Lib.hid hT
    clear hS hT
    go_upto_region 7 with fail
    refine wp_region_walk [0, 1, 2, 3, 4, 5] [83, 84, 85, 86, 16, 17] 0 (by kernel_rfl) (by kernel_rfl) (by kernel_rfl) rfl (by simp) (by kernel_rfl) (by kernel_rfl) ?_
    refine RegW.num (N := X) 0 rfl ?_ ?_
    · intro a w' hF hB hd; have e11 := hF.2.2 11 (by decide); simp at e11; clear hd hF; have hq := HN.out.keep hB; have c0 := hq.cell; refine wpOp_step rfl (fun K' hK => ?_); go_simp; exact hK _ _ ⟨_, rfl, Below.refl _ _, ⟨_, rfl, hq.2⟩⟩
    refine RegW.op 1 rfl (cst (.string S)) ?_ ?_
    · intro a w' hF hB hd; have u0 := hd 0 (of_decide_eq_true (by kernel_rfl)) 0 _ _ rfl rfl; obtain ⟨x0, p0, q0⟩ := u0; clear hd hF; refine wpOp_step rfl (fun K' hK => ?_); go_simp; refine (text_w q0 (HX.out.mono (by decide)) HS.out).mono ?_; rintro e w1 ⟨rfl, hb⟩; exact hK _ _ ⟨_, rfl, hb, cst_ok⟩
    refine RegW.num (N := Y) 2 rfl ?_ ?_
    · intro a w' hF hB hd; have e12 := hF.2.2 12 (by decide); simp at e12; clear hd hF; have hq := HM.out.keep hB; have c0 := hq.cell; refine wpOp_step rfl (fun K' hK => ?_); go_simp; exact hK _ _ ⟨_, rfl, Below.refl _ _, ⟨_, rfl, hq.2⟩⟩
    refine RegW.op 3 rfl (cst (.string T)) ?_ ?_
    · intro a w' hF hB hd; have u2 := hd 2 (of_decide_eq_true (by kernel_rfl)) 0 _ _ rfl rfl; obtain ⟨x2, p2, q2⟩ := u2; clear hd hF; refine wpOp_step rfl (fun K' hK => ?_); go_simp; refine (text_w q2 (HY.out.mono (by decide)) HT.out).mono ?_; rintro e w1 ⟨rfl, hb⟩; exact hK _ _ ⟨_, rfl, hb, cst_ok⟩
    apply RegW.val 4 rfl
    · intro a w' hF hB hd; have v1 : a.tmps[84]?.getD undef = _ := hd 1 (of_decide_eq_true (by kernel_rfl)) 2 _ _ rfl rfl; clear hd hF; refine wpOp_step rfl (fun K' hK => ?_); go_simp; exact hK _ _ ⟨_, rfl, Below.refl _ _, cst_ok⟩
    apply RegW.val 5 rfl
    · intro a w' hF hB hd; have v3 : a.tmps[86]?.getD undef = _ := hd 3 (of_decide_eq_true (by kernel_rfl)) 1 _ _ rfl rfl; clear hd hF; refine wpOp_step rfl (fun K' hK => ?_); go_simp; exact hK _ _ ⟨_, rfl, Below.refl _ _, cst_ok⟩
    refine RegW.done (fun a w' hF hB hv => ?_)
    have u0 := hv 5 _ _ rfl
    obtain ⟨x0, p0, q0⟩ := u0
    have v1 : a.tmps[84]?.getD undef = _ := hv 4 _ _ rfl
    have u2 := hv 3 _ _ rfl
    obtain ⟨x2, p2, q2⟩ := u2
    have v3 : a.tmps[86]?.getD undef = _ := hv 2 _ _ rfl
    have v4 : a.tmps[16]?.getD undef = _ := hv 1 _ _ rfl
    have v5 : a.tmps[17]?.getD undef = _ := hv 0 _ _ rfl
    have hE := hF.out
    rw [hE]
    clear hE hF hv
    simp only [List.foldl_cons, List.foldl_nil, Act.put, List.setIfInBounds_toArray, List.set_cons_zero, List.set_cons_succ, Array.getD_eq_getD_getElem?, p0, v1, p2, v3, v4, v5]
    clear p0 v1 p2 v3 v4 v5
    have HN := Lib.hid (HN.out.keep hB)
    have HM := Lib.hid (HM.out.keep hB)
    have HB := Lib.hid (HB.out.trans (hB.mono HB.out.size))
    clear q0 q2 hB
    obtain ⟨l3, hl3⟩ : ∃ l3 : List Nat, l3.length = n3 ∧ Lim 18446744073709551616 l3 X := by
      obtain ⟨A', n', c', l', e, hr, hl, _⟩ := HN.out.2
      simp at e
      obtain ⟨_, rfl, _⟩ := e
      exact ⟨l', hr.1, hl⟩
    have hn36 : n3 ≤ 6 := by rw [← hl3.1]; exact hl3.2.len HX.out
    have HL := Lib.hid hl3
    clear hl3
    obtain ⟨L, hL⟩ : ∃ L : Int, L = (n3 : Int) := ⟨_, rfl⟩
    have hL0 : 0 ≤ L := by omega
    have hL6 : L ≤ 6 := by omega
    obtain ⟨G, hG⟩ : ∃ G : Int, (if n3 = 0 then 0 else 10) = G := ⟨_, rfl⟩
    have HLn := Lib.hid hL
    have HG := Lib.hid hG
    clear hL hG hn36
    have hSz : S.size ≤ 1000 := by rw [← HS.out]; exact text_size HX.out
    have hPE : (if isDec (bys S) then (if fitB L (decv (bys S)) then 0 else 10) else 20) = (0 : Int) := by
      rw [← HS.out, bys_dec, decv_dec, if_pos (isDec_dec X), HLn.out, ← HL.out.1, fit_len HL.out.2]; rfl
    have hPN : (if isDec (bys S) ∧ fitB L (decv (bys S)) = true then decv (bys S) else 0) = X := by
      rw [← HS.out, bys_dec, decv_dec, if_pos ⟨isDec_dec X, by rw [HLn.out, ← HL.out.1]; exact fit_len HL.out.2⟩]
    have HPE := Lib.hid (And.intro hPE hPN)
    have hGE : (if isDec (bys S) then (if fitB (L - 1) (decv (bys S)) then 0 else 10) else 20) = G := by
      rw [← HG.out, ← HS.out, bys_dec, decv_dec, if_pos (isDec_dec X), HLn.out, ← HL.out.1, fit_less HL.out.2]
      by_cases h0 : l3.length = 0
      · rw [decide_eq_true h0, if_pos h0]; rfl
      · rw [decide_eq_false h0, if_neg h0]; rfl
    have HGE := Lib.hid hGE
    clear hPE hPN hGE
    have cHN := HN.out.cell
    have cHM := HM.out.cell
    go_upto_region 9 with (first | (go_at_call 28; refine (len_w HN.out.2 HL.out.2).mono ?_; rintro e wq ⟨rfl, hb⟩; have HB := Lib.hid (HB.out.trans (hb.mono HB.out.size)); have HN := Lib.hid (HN.out.keep hb); have HM := Lib.hid (HM.out.keep hb); rw [HL.out.1, ← HLn.out]; have cHN := HN.out.cell; clear hb) | (go_at_call 20; refine (parse_w hSz HPE.out.1 HPE.out.2).mono ?_; rintro e wq ⟨A7, n7, c7, rfl, hi, hb⟩; have HB := Lib.hid (HB.out.trans (hb.mono HB.out.size)); have HN := Lib.hid (HN.out.keep hb); have HM := Lib.hid (HM.out.keep hb); have HZ := Lib.hid hi; clear hb hi cHN cHM))
    have bb := below_box wq (.cells #[.slice A7 n7 c7] 26)
    have HB := Lib.hid (HB.out.trans (bb.mono HB.out.size))
    have HN := Lib.hid (HN.out.keep bb)
    have HM := Lib.hid (HM.out.keep bb)
    have HZ := Lib.hid (NatBx.new HZ.out)
    clear bb
    generalize hg : wq.heap.size = g18 at *
    generalize hw : wq.alloc (.cells #[.slice A7 n7 c7] 26) = z7 at *
    clear hg hw
    have cHN := HN.out.cell
    have cHZ := HZ.out.cell
    go_upto_region 11 with (first | (go_at_call 24; refine (cmp_w HZ.out.2 HN.out.2 (HX.out.mono (by decide)) (HX.out.mono (by decide)) (cmp0 rfl)).mono ?_; rintro e wq ⟨rfl, hb⟩; have HB := Lib.hid (HB.out.trans (hb.mono HB.out.size)); have HN := Lib.hid (HN.out.keep hb); have HM := Lib.hid (HM.out.keep hb); have HZ := Lib.hid (HZ.out.keep hb); have cHN := HN.out.cell; clear hb) | (go_at_call 17; refine (digits_w HN.out.2 (HX.out.mono (by decide)) HS.out).mono ?_; rintro e wq ⟨rfl, hb⟩; have HB := Lib.hid (HB.out.trans (hb.mono HB.out.size)); have HN := Lib.hid (HN.out.keep hb); have HM := Lib.hid (HM.out.keep hb); have HZ := Lib.hid (HZ.out.keep hb); have cHN := HN.out.cell; clear hb))
    clear HZ cHZ
    go_upto_region 12 with (first | (go_at_call 28; refine (len_w HN.out.2 HL.out.2).mono ?_; rintro e wq ⟨rfl, hb⟩; have HB := Lib.hid (HB.out.trans (hb.mono HB.out.size)); have HN := Lib.hid (HN.out.keep hb); have HM := Lib.hid (HM.out.keep hb); rw [HL.out.1, ← HLn.out]; have cHN := HN.out.cell; clear hb) | (go_at_call 20; refine (parse_w hSz HGE.out rfl).mono ?_; rintro e wq ⟨A8, n8, c8, rfl, hi, hb⟩; have HB := Lib.hid (HB.out.trans (hb.mono HB.out.size)); have HN := Lib.hid (HN.out.keep hb); have HM := Lib.hid (HM.out.keep hb); clear hb hi cHN))
    have bb := below_box wq (.cells #[.slice A8 n8 c8] 26)
    have HB := Lib.hid (HB.out.trans (bb.mono HB.out.size))
    have HN := Lib.hid (HN.out.keep bb)
    have HM := Lib.hid (HM.out.keep bb)
    clear bb
    generalize hg : wq.heap.size = g20 at *
    generalize hw : wq.alloc (.cells #[.slice A8 n8 c8] 26) = z8 at *
    clear hg hw
    have cHN := HN.out.cell
    go_cut [130] from 117 to 130 (fun v130 wx => v130 = .bool false ∧ NatBx wx g11 A3 n3 c3 X ∧ NatBx wx (g11 + 1) B3 m3 b3 Y ∧ Below w.heap.size w wx)
    case first =>
      by_cases hn0 : n3 = 0
      · have hLz : L ≤ 0 := by rw [HLn.out, hn0]; decide
        have hLd : decide (0 < L) = false := decide_eq_false (by omega)
        have hGz : G = 0 := by rw [← HG.out, if_pos hn0]
        clear HGE
        subst hGz
        clear hn0
        go_wp2_with (go_at_call 28; refine (len_w HN.out.2 HL.out.2).mono ?_; rintro e wq ⟨rfl, hb⟩; have HB := Lib.hid (HB.out.trans (hb.mono HB.out.size)); have HN := Lib.hid (HN.out.keep hb); have HM := Lib.hid (HM.out.keep hb); rw [HL.out.1, ← HLn.out]; have cHN := HN.out.cell; clear hb)
        go_meet
        exact ⟨rfl, HN.out, HM.out, HB.out⟩
      · have hLz : 0 < L := by rw [HLn.out]; omega
        have hLd : decide (0 < L) = true := decide_eq_true (by omega)
        have hGz : G = 10 := by rw [← HG.out, if_neg hn0]
        clear HGE
        subst hGz
        clear hn0
        go_wp2_with (go_at_call 28; refine (len_w HN.out.2 HL.out.2).mono ?_; rintro e wq ⟨rfl, hb⟩; have HB := Lib.hid (HB.out.trans (hb.mono HB.out.size)); have HN := Lib.hid (HN.out.keep hb); have HM := Lib.hid (HM.out.keep hb); rw [HL.out.1, ← HLn.out]; have cHN := HN.out.cell; clear hb)
        go_meet
        exact ⟨rfl, HN.out, HM.out, HB.out⟩
    case rest =>
      obtain ⟨rfl, hn, hm, hB⟩ := hcut
      have HN := Lib.hid hn
      have HM := Lib.hid hm
      have HB := Lib.hid hB
      clear hn hm hB cHN
      have cHN := HN.out.cell
      have cHM := HM.out.cell
      obtain ⟨C, hC⟩ : ∃ C, cmpI X Y = C := ⟨_, rfl⟩
      have HC := Lib.hid hC
      clear hC
      go_upto_region 15 with (go_at_call 24; refine (cmp_w HN.out.2 HM.out.2 (HX.out.mono (by decide)) (HY.out.mono (by decide)) HC.out).mono ?_; rintro e wq ⟨rfl, hb⟩; have HB := Lib.hid (HB.out.trans (hb.mono HB.out.size)); have HN := Lib.hid (HN.out.keep hb); have HM := Lib.hid (HM.out.keep hb); clear hb cHN cHM)
      clear HN HM
      have hLess := less_iff X Y
      rw [HS.out, HT.out] at hLess
      have HLess := Lib.hid hLess
      clear hLess
      obtain ⟨D, hD⟩ : ∃ D : Bool, decide (X < Y) = D := ⟨_, rfl⟩
      have HD2 := Lib.hid hD
      clear hD
      go_cut [23] from 134 to 150 (fun v23 wx => v23 = .bool D ∧ wx = wq)
      case first =>
        rcases Nat.lt_trichotomy S.size T.size with h | h | h
        · have e1 : decide (S.size < T.size) = true := decide_eq_true h
          have HE := Lib.hid h
          clear h
          go_wp2
          go_meet
          refine ⟨?_, rfl⟩
          rw [← HD2.out, ← HLess.out, decide_eq_true HE.out]
          rfl
        · have e1 : decide (S.size < T.size) = false := decide_eq_false (by omega)
          have e2 : ((S.size : Int) == (T.size : Int)) = true := by simp; omega
          have HE := Lib.hid h
          clear h
          go_wp2
          go_meet
          refine ⟨?_, rfl⟩
          rw [← HD2.out, ← HLess.out, decide_eq_false (by have := HE.out; omega), decide_eq_true HE.out]
          rfl
        · have e1 : decide (S.size < T.size) = false := decide_eq_false (by omega)
          have e2 : ((S.size : Int) == (T.size : Int)) = false := beq_false_of_ne (by omega)
          have HE := Lib.hid h
          clear h
          go_wp2
          go_meet
          refine ⟨?_, rfl⟩
          rw [← HD2.out, ← HLess.out, decide_eq_false (by have := HE.out; omega), decide_eq_false (by have := HE.out; omega)]
          rfl
      case rest =>
        obtain ⟨rfl, rfl⟩ := hcut
        have hEq := str_dec_eq X Y
        rw [HS.out, HT.out] at hEq
        obtain ⟨Z, hZ⟩ : ∃ Z : Bool, decide (X = Y) = Z := ⟨_, rfl⟩
        have hC0 : (C == 0) = Z := by rw [← HC.out, cmp_eq, hZ]
        have hCD : decide (C < 0) = D := by rw [← HC.out, cmp_lt, HD2.out]
        rw [hZ] at hEq
        clear hZ
        go_upto_region 18 with fail
        clear hEq hC0 hCD
        obtain ⟨V, hV⟩ : ∃ V, str (wdec n) = V := ⟨_, rfl⟩
        have hV1 : pwv (bys V) = n := by rw [← hV, bys_wdec]; exact (pw_wdec h1 h2).1
        have hV2 : pwe (bys V) = 0 := by rw [← hV, bys_wdec]; exact (pw_wdec h1 h2).2
        have hV3 : V.size ≤ 1000 := by
          rw [← hV, str_size]
          unfold wdec
          have : (dec n.natAbs).length ≤ 20 := dec_short (show n.natAbs < 10 ^ 20 by omega) (by decide)
          split <;> simp <;> omega
        have HV := Lib.hid (And.intro hV (And.intro hV1 (And.intro hV2 hV3)))
        clear hV hV1 hV2 hV3
        obtain ⟨F, hF⟩ : ∃ F : Int, (if isDec (bys s) then (if fitB 9 (decv (bys s)) then 0 else 10) else 20) = F := ⟨_, rfl⟩
        obtain ⟨U, hU⟩ : ∃ U : Nat, (if isDec (bys s) ∧ fitB 9 (decv (bys s)) = true then decv (bys s) else 0) = U := ⟨_, rfl⟩
        obtain ⟨v, hv⟩ : ∃ v, pwv (bys s) = v := ⟨_, rfl⟩
        obtain ⟨g, hg⟩ : ∃ g, pwe (bys s) = g := ⟨_, rfl⟩
        have hUf : Fits U 100 := by
          rw [← hU]
          split
          · rename_i h
            have := h.2
            unfold fitB at this
            exact Fits.mono (s := 9) ⟨of_decide_eq_true this⟩ (by decide)
          · exact fits0.mono (by decide)
        have hUs : F = 0 → str (dec U) = s := by
          intro h
          rw [h] at hF
          by_cases hd : isDec (bys s)
          · rw [if_pos hd] at hF
            by_cases hf : fitB 9 (decv (bys s)) = true
            · rw [if_pos ⟨hd, hf⟩] at hU
              rw [← hU]
              exact back_str hd
            · rw [if_neg hf] at hF; exact absurd hF (by decide)
          · rw [if_neg hd] at hF; exact absurd hF (by decide)
        have hvs : g = 0 → str (wdec v) = s := by
          intro h
          rw [← hv]
          exact wback_str (hg.trans h)
        have hvr := pw_range (bys s)
        rw [hv] at hvr
        have HF := Lib.hid (And.intro hF (And.intro hU (And.intro hv (And.intro hg (And.intro hUf (And.intro hUs hvs))))))
        clear hF hU hv hg hUf hUs hvs
        go_upto_region 19 with (first | (go_at_call 18; refine (whole_w h1 h2 HV.out.1).mono ?_; rintro e wq ⟨rfl, hb⟩; have HB := Lib.hid (HB.out.trans (hb.mono HB.out.size)); clear hb) | (go_at_call 22; refine (parseWhole_w HV.out.2.2.2 HV.out.2.1 HV.out.2.2.1).mono ?_; rintro e wq ⟨rfl, hb⟩; have HB := Lib.hid (HB.out.trans (hb.mono HB.out.size)); clear hb))
        go_upto_region 22 with (go_at_call 20; refine (parse_w (by omega) HF.out.1 HF.out.2.1).mono ?_; rintro e wq ⟨A9, n9, c9, rfl, hi, hb⟩; have HB := Lib.hid (HB.out.trans (hb.mono HB.out.size)); have HU := Lib.hid hi; clear hb hi)
        have bb := below_box wq (.cells #[.slice A9 n9 c9] 26)
        have HB := Lib.hid (HB.out.trans (bb.mono HB.out.size))
        have HU := Lib.hid (NatBx.new HU.out)
        clear bb
        generalize hg : wq.heap.size = g26 at *
        generalize hw : wq.alloc (.cells #[.slice A9 n9 c9] 26) = z9 at *
        clear hg hw
        go_upto_region 23 with (go_at_call 22; refine (parseWhole_w (by omega) HF.out.2.2.1 HF.out.2.2.2.1).mono ?_; rintro e wq ⟨rfl, hb⟩; have HB := Lib.hid (HB.out.trans (hb.mono HB.out.size)); have HU := Lib.hid (HU.out.keep hb); have cHU := HU.out.cell; clear hb)
        by_cases hF0 : F = 0
        · have HF0 := Lib.hid hF0
          have f1 : (F != 0) = false := by simp [hF0]
          clear hF0
          by_cases hG0 : g = 0
          · have HG0 := Lib.hid hG0
            have f2 : (g != 0) = false := by simp [hG0]
            clear hG0
            go_wp2_with (first | (go_at_call 16; refine (text_w HU.out.2 HF.out.2.2.2.2.1 (HF.out.2.2.2.2.2.1 HF0.out)).mono ?_; rintro e wq ⟨rfl, hb⟩; have HB := Lib.hid (HB.out.trans (hb.mono HB.out.size)); have HU := Lib.hid (HU.out.keep hb); clear hb) | (go_at_call 18; refine (whole_w hvr.1 hvr.2 (HF.out.2.2.2.2.2.2 HG0.out)).mono ?_; rintro e wq ⟨rfl, hb⟩; have HB := Lib.hid (HB.out.trans (hb.mono HB.out.size)); have HU := Lib.hid (HU.out.keep hb); clear hb) | (go_at_call 8; refine (works_c _).mono ?_; rintro e wq ⟨rfl, hb⟩; have HB := Lib.hid (HB.out.trans (hb.mono HB.out.size)); have HU := Lib.hid (HU.out.keep hb); clear hb))
            go_ret
            exact ⟨rfl, HB.out⟩
          · have HG0 := Lib.hid hG0
            have f2 : (g != 0) = true := by simp [hG0]
            clear hG0
            go_wp2_with (first | (go_at_call 16; refine (text_w HU.out.2 HF.out.2.2.2.2.1 (HF.out.2.2.2.2.2.1 HF0.out)).mono ?_; rintro e wq ⟨rfl, hb⟩; have HB := Lib.hid (HB.out.trans (hb.mono HB.out.size)); have HU := Lib.hid (HU.out.keep hb); clear hb) | (go_at_call 8; refine (works_c _).mono ?_; rintro e wq ⟨rfl, hb⟩; have HB := Lib.hid (HB.out.trans (hb.mono HB.out.size)); have HU := Lib.hid (HU.out.keep hb); clear hb))
            go_ret
            exact ⟨rfl, HB.out⟩
        · have HF0 := Lib.hid hF0
          have f1 : (F != 0) = true := by simp [hF0]
          clear hF0
          by_cases hG0 : g = 0
          · have HG0 := Lib.hid hG0
            have f2 : (g != 0) = false := by simp [hG0]
            clear hG0
            go_wp2_with (first | (go_at_call 18; refine (whole_w hvr.1 hvr.2 (HF.out.2.2.2.2.2.2 HG0.out)).mono ?_; rintro e wq ⟨rfl, hb⟩; have HB := Lib.hid (HB.out.trans (hb.mono HB.out.size)); have HU := Lib.hid (HU.out.keep hb); clear hb) | (go_at_call 8; refine (works_c _).mono ?_; rintro e wq ⟨rfl, hb⟩; have HB := Lib.hid (HB.out.trans (hb.mono HB.out.size)); have HU := Lib.hid (HU.out.keep hb); clear hb))
            go_ret
            exact ⟨rfl, HB.out⟩
          · have HG0 := Lib.hid hG0
            have f2 : (g != 0) = true := by simp [hG0]
            clear hG0
            go_wp2_with (first | (go_at_call 8; refine (works_c _).mono ?_; rintro e wq ⟨rfl, hb⟩; have HB := Lib.hid (HB.out.trans (hb.mono HB.out.size)); have HU := Lib.hid (HU.out.keep hb); clear hb))
            go_ret
            exact ⟨rfl, HB.out⟩
end Go.Proofs.Ytehdbogiacmabaa
