/- PowerLaws, walked: for any row of at most 3 limbs and any two exponents the statement returns true, and nothing that was there before has turned. -/
import Derived.Test.YtfpjhohkaoodmaaPworks
namespace Go.Proofs.Ytfpjhohkaoodmaa
open Go.RowKit
attribute [local go_sem] alloc_drewN setCell_drewN
theorem fits_pow {X s : Nat} (h : Fits X s) (i : Nat) : Fits (X ^ i) (s * i + 1) := by
  constructor
  have h1 : X ^ i ≤ (18446744073709551616 ^ s) ^ i := Nat.pow_le_pow_left (Nat.le_of_lt h.lt) i
  rw [← Nat.pow_mul] at h1
  rw [Nat.pow_succ]
  have h2 : 0 < 18446744073709551616 ^ (s * i) := Nat.pow_pos (by decide)
  omega
theorem geo_le_pow (X : Nat) : ∀ n, geo X n ≤ (X + 1) ^ n
  | 0 => by simp [geo]
  | n + 1 => by
    have h := geo_le_pow X n
    have h1 : 0 < (X + 1) ^ n := Nat.pow_pos (by omega)
    have h2 := Nat.mul_le_mul_right X h
    rw [geo, Nat.pow_succ, Nat.mul_add]
    omega
theorem fits_geo {X s : Nat} (h : Fits X s) (n : Nat) : Fits (geo X n) ((s + 1) * n + 1) := by
  have h1 : Fits (X + 1) (s + 1) := by
    constructor
    have := h.lt
    rw [Nat.pow_succ]
    omega
  exact (fits_pow h1 n).le (geo_le_pow X n)
theorem fitB_of {N s : Nat} {c : Int} (h : Fits N s) (hs : (s : Int) ≤ c) : fitB c N = true :=
  decide_eq_true (Nat.lt_of_lt_of_le h.lt (Nat.pow_le_pow_right (by decide) (by omega)))
theorem two_fits {b : Nat} (hb : b ≤ 200) : Fits (2 ^ b) 4 := by
  constructor
  rw [show (18446744073709551616 : Nat) = 2 ^ 64 by decide, ← Nat.pow_mul]
  exact Nat.pow_lt_pow_right (by decide) (by omega)
theorem bitn_le {N b k : Nat} (h : Bitn N b) (hN : N < 2 ^ k) : b ≤ k := by
  by_cases h0 : N = 0
  · rw [h.2.2 h0]; omega
  · obtain ⟨h1, h2⟩ := h.2.1 (by omega)
    have := (Nat.pow_lt_pow_iff_right (show 1 < 2 by omega)).1 (Nat.lt_of_le_of_lt h1 hN)
    omega
set_option maxRecDepth 100000 in
set_option maxHeartbeats 16000000 in
theorem plaws_c (A : Option Addr) (n0 c0 : Nat) (la : List Nat) (m n : Nat) (w : World) (ha : Rw .u64 w A n0 la) (ta : AllLt 18446744073709551616 la) (hm : m < 256) (hn : n < 256) (hl : n0 ≤ 3) (hl1 : n0 ≤ c0) :
    Calls Try.prog 4 #[.slice A n0 c0, .int .u8 m, .int .u8 n] w fun e w' => e = .returned (.bool true) ∧ Below w.heap.size w w' := by
  have g0 : decide ((3 : Int) < (n0 : Int)) = false := by simp <;> omega
  have hX := Fits.of_lim ta (show la.length ≤ 3 by rw [ha.1]; exact hl)
  have HA := Lib.hid (And.intro ha ta)
  have HB := Lib.hid (Below.refl w.heap.size w)
  clear ha ta
  obtain ⟨X, hXe⟩ : ∃ X, X = val 18446744073709551616 la := ⟨_, rfl⟩
  rw [← hXe] at hX
  have HXE := Lib.hid hXe
  clear hXe
  go_enter Try.func4, Try.ntmps4
  go_upto_region 5 with (go_at_call 8; refine (limbs_c A n0 c0 la _ HA.out.1 HA.out.2 (by omega) hl1).mono ?_; rintro e wp ⟨vp, rfl, hi, hb⟩; rw [← HXE.out] at hi; obtain ⟨Ap, kp, dp, lp, rfl, hi⟩ := hi; have Hp := Lib.hid (show IsNat 0 wp (.agg #[.slice Ap kp dp]) X from IsNat.mono ⟨Ap, kp, dp, lp, rfl, hi⟩ (Nat.zero_le _)); have HB := Lib.hid (HB.out.trans (hb.mono HB.out.size)); clear hi hb)
  have bb : Below wp.heap.size wp (wp.alloc (.cells #[.slice Ap kp dp] 29)) := (Below.refl _ _).alloc (Nat.le_refl _) _
  have hx : BoxN (wp.alloc (.cells #[.slice Ap kp dp] 29)) wp.heap.size (X) := ⟨_, Bk.new _ _ _, Hp.out.keep bb⟩
  have HB := Lib.hid (HB.out.trans (bb.mono HB.out.size))
  have Hp := Lib.hid hx
  clear hx bb
  generalize wp.alloc (.cells #[.slice Ap kp dp] 29) = zp at *
  generalize wp.heap.size = gp at *
  go_upto_region 6 with fail
  have e1 : (m : Int) % 16 = ((m % 16 : Nat) : Int) := by omega
  have e2 : (n : Int) % 16 = ((n % 16 : Nat) : Int) := by omega
  rw [e1, e2]
  clear e1 e2
  have hi : m % 16 < 16 := by omega
  have hk : n % 16 < 16 := by omega
  generalize m % 16 = i at *
  generalize n % 16 = k at *
  have fp : Fits (X ^ i) 46 := (fits_pow hX i).mono (by omega)
  have fq : Fits (X ^ k) 46 := (fits_pow hX k).mono (by omega)
  have fr : Fits (X ^ (i + k)) 91 := (fits_pow hX (i + k)).mono (by omega)
  have fs : Fits (geo X (i + 1)) 65 := (fits_geo hX (i + 1)).mono (by omega)
  have ft : Fits (geo X (i + 1 + 1)) 69 := (fits_geo hX (i + 1 + 1)).mono (by omega)
  have HF := Lib.hid (And.intro (fitB_of (c := 200) fp (by decide)) (And.intro (fitB_of (c := 200) fq (by decide)) (And.intro (fitB_of (c := 200) fr (by decide)) (And.intro (fitB_of (c := 200) fs (by decide)) (fitB_of (c := 200) ft (by decide))))))
  obtain ⟨sp, kp0, ip0⟩ := Hp.out
  obtain ⟨Ap, kp, dp, lp, esp, -⟩ := id ip0
  simp at esp
  subst esp
  have cHp0 := kp0.cell 0
  have HPK := Lib.hid (And.intro kp0 ip0)
  clear kp0 ip0
  have cp := HPK.out.1.cell 0
  simp only [List.getElem?_toArray, List.getElem?_cons_zero] at cp
  clear cHp0
  go_upto_region 7 with (go_at_call 9; refine (pow_c 200 _ X i _ HPK.out.2 (hX.mono (by decide)) (by omega) (by decide)).mono ?_; intro e wa hx; obtain ⟨Aa, ka, da, rfl, hi, hb⟩ := natOk_get hx rfl (HF.out.1); have hi : IsNat 0 wa _ (X ^ i) := hi; have Ha := Lib.hid hi; have HB := Lib.hid (HB.out.trans (hb.mono HB.out.size)); have Hp := Lib.hid (Hp.out.keep hb); have HPK := Lib.hid (And.intro (HPK.out.1.keep hb) (HPK.out.2.keep hb)); have cp := HPK.out.1.cell 0; simp only [List.getElem?_toArray, List.getElem?_cons_zero] at cp; clear hx hi hb)
  have bb : Below wa.heap.size wa (wa.alloc (.cells #[.slice Aa ka da] 29)) := (Below.refl _ _).alloc (Nat.le_refl _) _
  have hx : BoxN (wa.alloc (.cells #[.slice Aa ka da] 29)) wa.heap.size (X ^ i) := ⟨_, Bk.new _ _ _, Ha.out.keep bb⟩
  have HB := Lib.hid (HB.out.trans (bb.mono HB.out.size))
  have Hp := Lib.hid (Hp.out.keep bb)
  have HPK := Lib.hid (And.intro (HPK.out.1.keep bb) (HPK.out.2.keep bb))
  have cp := HPK.out.1.cell 0
  simp only [List.getElem?_toArray, List.getElem?_cons_zero] at cp
  have Ha := Lib.hid hx
  clear hx bb
  generalize wa.alloc (.cells #[.slice Aa ka da] 29) = za at *
  generalize wa.heap.size = ga at *
  go_upto_region 8 with (go_at_call 9; refine (pow_c 200 _ X k _ HPK.out.2 (hX.mono (by decide)) (by omega) (by decide)).mono ?_; intro e wb hx; obtain ⟨Ab, kb, db, rfl, hi, hb⟩ := natOk_get hx rfl (HF.out.2.1); have hi : IsNat 0 wb _ (X ^ k) := hi; have Hb := Lib.hid hi; have HB := Lib.hid (HB.out.trans (hb.mono HB.out.size)); have Hp := Lib.hid (Hp.out.keep hb); have Ha := Lib.hid (Ha.out.keep hb); have HPK := Lib.hid (And.intro (HPK.out.1.keep hb) (HPK.out.2.keep hb)); have cp := HPK.out.1.cell 0; simp only [List.getElem?_toArray, List.getElem?_cons_zero] at cp; clear hx hi hb)
  have bb : Below wb.heap.size wb (wb.alloc (.cells #[.slice Ab kb db] 29)) := (Below.refl _ _).alloc (Nat.le_refl _) _
  have hx : BoxN (wb.alloc (.cells #[.slice Ab kb db] 29)) wb.heap.size (X ^ k) := ⟨_, Bk.new _ _ _, Hb.out.keep bb⟩
  have HB := Lib.hid (HB.out.trans (bb.mono HB.out.size))
  have Hp := Lib.hid (Hp.out.keep bb)
  have Ha := Lib.hid (Ha.out.keep bb)
  have HPK := Lib.hid (And.intro (HPK.out.1.keep bb) (HPK.out.2.keep bb))
  have cp := HPK.out.1.cell 0
  simp only [List.getElem?_toArray, List.getElem?_cons_zero] at cp
  have Hb := Lib.hid hx
  clear hx bb
  generalize wb.alloc (.cells #[.slice Ab kb db] 29) = zb at *
  generalize wb.heap.size = gb at *
  go_upto_region 9 with (go_at_call 9; refine (pow_c 200 _ X (i + k) _ HPK.out.2 (hX.mono (by decide)) (by omega) (by decide)).mono ?_; intro e wc hx; obtain ⟨Ac, kc, dc, rfl, hi, hb⟩ := natOk_get hx rfl (HF.out.2.2.1); have hi : IsNat 0 wc _ (X ^ (i + k)) := hi; have Hc := Lib.hid hi; have HB := Lib.hid (HB.out.trans (hb.mono HB.out.size)); have Hp := Lib.hid (Hp.out.keep hb); have Ha := Lib.hid (Ha.out.keep hb); have Hb := Lib.hid (Hb.out.keep hb); have HPK := Lib.hid (And.intro (HPK.out.1.keep hb) (HPK.out.2.keep hb)); have cp := HPK.out.1.cell 0; simp only [List.getElem?_toArray, List.getElem?_cons_zero] at cp; clear hx hi hb)
  have bb : Below wc.heap.size wc (wc.alloc (.cells #[.slice Ac kc dc] 29)) := (Below.refl _ _).alloc (Nat.le_refl _) _
  have hx : BoxN (wc.alloc (.cells #[.slice Ac kc dc] 29)) wc.heap.size (X ^ (i + k)) := ⟨_, Bk.new _ _ _, Hc.out.keep bb⟩
  have HB := Lib.hid (HB.out.trans (bb.mono HB.out.size))
  have Hp := Lib.hid (Hp.out.keep bb)
  have Ha := Lib.hid (Ha.out.keep bb)
  have Hb := Lib.hid (Hb.out.keep bb)
  have HPK := Lib.hid (And.intro (HPK.out.1.keep bb) (HPK.out.2.keep bb))
  have cp := HPK.out.1.cell 0
  simp only [List.getElem?_toArray, List.getElem?_cons_zero] at cp
  have Hc := Lib.hid hx
  clear hx bb
  generalize wc.alloc (.cells #[.slice Ac kc dc] 29) = zc at *
  generalize wc.heap.size = gc at *
  go_upto_region 10 with (go_at_call 12; refine (psum_c 200 _ X i _ HPK.out.2 (hX.mono (by decide)) (by omega) (by decide)).mono ?_; intro e wd hx; obtain ⟨Ad, kd, dd, rfl, hi, hb⟩ := natOk_get hx rfl (HF.out.2.2.2.1); have hi : IsNat 0 wd _ (geo X (i + 1)) := hi; have Hd := Lib.hid hi; have HB := Lib.hid (HB.out.trans (hb.mono HB.out.size)); have Hp := Lib.hid (Hp.out.keep hb); have Ha := Lib.hid (Ha.out.keep hb); have Hb := Lib.hid (Hb.out.keep hb); have Hc := Lib.hid (Hc.out.keep hb); have HPK := Lib.hid (And.intro (HPK.out.1.keep hb) (HPK.out.2.keep hb)); have cp := HPK.out.1.cell 0; simp only [List.getElem?_toArray, List.getElem?_cons_zero] at cp; clear hx hi hb)
  have bb : Below wd.heap.size wd (wd.alloc (.cells #[.slice Ad kd dd] 29)) := (Below.refl _ _).alloc (Nat.le_refl _) _
  have hx : BoxN (wd.alloc (.cells #[.slice Ad kd dd] 29)) wd.heap.size (geo X (i + 1)) := ⟨_, Bk.new _ _ _, Hd.out.keep bb⟩
  have HB := Lib.hid (HB.out.trans (bb.mono HB.out.size))
  have Hp := Lib.hid (Hp.out.keep bb)
  have Ha := Lib.hid (Ha.out.keep bb)
  have Hb := Lib.hid (Hb.out.keep bb)
  have Hc := Lib.hid (Hc.out.keep bb)
  have HPK := Lib.hid (And.intro (HPK.out.1.keep bb) (HPK.out.2.keep bb))
  have cp := HPK.out.1.cell 0
  simp only [List.getElem?_toArray, List.getElem?_cons_zero] at cp
  have Hd := Lib.hid hx
  clear hx bb
  generalize wd.alloc (.cells #[.slice Ad kd dd] 29) = zd at *
  generalize wd.heap.size = gd at *
  go_upto_region 11 with (go_at_call 12; refine (psum_c 200 _ X (i + 1) _ HPK.out.2 (hX.mono (by decide)) (by omega) (by decide)).mono ?_; intro e we hx; obtain ⟨Ae, ke, de, rfl, hi, hb⟩ := natOk_get hx rfl (HF.out.2.2.2.2); have hi : IsNat 0 we _ (geo X (i + 1 + 1)) := hi; have He := Lib.hid hi; have HB := Lib.hid (HB.out.trans (hb.mono HB.out.size)); have Hp := Lib.hid (Hp.out.keep hb); have Ha := Lib.hid (Ha.out.keep hb); have Hb := Lib.hid (Hb.out.keep hb); have Hc := Lib.hid (Hc.out.keep hb); have Hd := Lib.hid (Hd.out.keep hb); have HPK := Lib.hid (And.intro (HPK.out.1.keep hb) (HPK.out.2.keep hb)); have cp := HPK.out.1.cell 0; simp only [List.getElem?_toArray, List.getElem?_cons_zero] at cp; clear hx hi hb)
  have bb : Below we.heap.size we (we.alloc (.cells #[.slice Ae ke de] 29)) := (Below.refl _ _).alloc (Nat.le_refl _) _
  have hx : BoxN (we.alloc (.cells #[.slice Ae ke de] 29)) we.heap.size (geo X (i + 1 + 1)) := ⟨_, Bk.new _ _ _, He.out.keep bb⟩
  have HB := Lib.hid (HB.out.trans (bb.mono HB.out.size))
  have Hp := Lib.hid (Hp.out.keep bb)
  have Ha := Lib.hid (Ha.out.keep bb)
  have Hb := Lib.hid (Hb.out.keep bb)
  have Hc := Lib.hid (Hc.out.keep bb)
  have Hd := Lib.hid (Hd.out.keep bb)
  have HPK := Lib.hid (And.intro (HPK.out.1.keep bb) (HPK.out.2.keep bb))
  have cp := HPK.out.1.cell 0
  simp only [List.getElem?_toArray, List.getElem?_cons_zero] at cp
  have He := Lib.hid hx
  clear hx bb
  generalize we.alloc (.cells #[.slice Ae ke de] 29) = ze at *
  generalize we.heap.size = ge at *
  have hle := pow_le_geo X i
  obtain ⟨q3, hq3⟩ : ∃ q, cmpI (geo X (i + 1)) (X ^ i) = q := ⟨_, rfl⟩
  have d3 : decide (q3 < 0) = false := by rw [← hq3]; unfold cmpI; rw [if_neg (by omega)]; split <;> decide
  have HQ3 := Lib.hid hq3
  clear hq3 hle
  refine wp_region_walk [0, 1, 2, 3, 4, 5, 6, 7, 8, 9, 10, 11, 12, 13, 14, 15, 16, 17, 18, 19, 20, 21, 22, 23, 24, 25, 26, 27, 28, 29, 30, 31, 32, 33, 34, 35, 36, 37, 38, 39, 40, 41] [76, 77, 78, 79, 80, 81, 82, 83, 84, 85, 86, 87, 88, 89, 90, 91, 92, 93, 94, 95, 96, 97, 98, 99, 100, 101, 102, 103, 104, 105, 106, 107, 108, 109, 110, 111, 112, 113, 114, 115, 116, 117] 0 (by kernel_rfl) (by kernel_rfl) (by kernel_rfl) rfl (by simp) (by kernel_rfl) (by kernel_rfl) ?_
  apply RegW.val 0 rfl
  · intro a w' hF hB hd; have e12 := hF.2.2 12 (by decide); simp at e12; clear hd hF; refine wpOp_step rfl (fun K' hK => ?_); go_simp; exact hK _ _ ⟨_, rfl, Below.refl _ _, cst_ok⟩
  apply RegW.val 1 rfl
  · intro a w' hF hB hd; have v0 : a.tmps[76]?.getD undef = _ := hd 0 (of_decide_eq_true (by kernel_rfl)) 0 _ _ rfl rfl; clear hd hF; refine wpOp_step rfl (fun K' hK => ?_); go_simp; exact hK _ _ ⟨_, rfl, Below.refl _ _, cst_ok⟩
  apply RegW.val 2 rfl
  · intro a w' hF hB hd; have v1 : a.tmps[77]?.getD undef = _ := hd 1 (of_decide_eq_true (by kernel_rfl)) 0 _ _ rfl rfl; clear hd hF; refine wpOp_step rfl (fun K' hK => ?_); go_simp; exact hK _ _ ⟨_, rfl, Below.refl _ _, cst_ok⟩
  apply RegW.val 3 rfl
  · intro a w' hF hB hd; have v2 : a.tmps[78]?.getD undef = _ := hd 2 (of_decide_eq_true (by kernel_rfl)) 0 _ _ rfl rfl; have gd := tmp_bool v2; have e14 := hF.2.2 14 (by decide); simp at e14; clear hd hF; refine wpOp_step rfl (fun K' hK => ?_); go_simp; exact hK _ _ ⟨_, rfl, Below.refl _ _, cst_ok⟩
  apply RegW.val 4 rfl
  · intro a w' hF hB hd; have v2 : a.tmps[78]?.getD undef = _ := hd 2 (of_decide_eq_true (by kernel_rfl)) 1 _ _ rfl rfl; have v3 : a.tmps[79]?.getD undef = _ := hd 3 (of_decide_eq_true (by kernel_rfl)) 0 _ _ rfl rfl; have gd := tmp_bool v2; clear hd hF; refine wpOp_step rfl (fun K' hK => ?_); go_simp; exact hK _ _ ⟨_, rfl, Below.refl _ _, cst_ok⟩
  apply RegW.val 5 rfl
  · intro a w' hF hB hd; have v2 : a.tmps[78]?.getD undef = _ := hd 2 (of_decide_eq_true (by kernel_rfl)) 2 _ _ rfl rfl; have v4 : a.tmps[80]?.getD undef = _ := hd 4 (of_decide_eq_true (by kernel_rfl)) 0 _ _ rfl rfl; clear hd hF; refine wpOp_step rfl (fun K' hK => ?_); go_simp; exact hK _ _ ⟨_, rfl, Below.refl _ _, cst_ok⟩
  apply RegW.val 6 rfl
  · intro a w' hF hB hd; have v5 : a.tmps[81]?.getD undef = _ := hd 5 (of_decide_eq_true (by kernel_rfl)) 0 _ _ rfl rfl; clear hd hF; refine wpOp_step rfl (fun K' hK => ?_); go_simp; exact hK _ _ ⟨_, rfl, Below.refl _ _, cst_ok⟩
  apply RegW.val 7 rfl
  · intro a w' hF hB hd; have v6 : a.tmps[82]?.getD undef = _ := hd 6 (of_decide_eq_true (by kernel_rfl)) 0 _ _ rfl rfl; have gd := tmp_bool v6; have e16 := hF.2.2 16 (by decide); simp at e16; clear hd hF; refine wpOp_step rfl (fun K' hK => ?_); go_simp; exact hK _ _ ⟨_, rfl, Below.refl _ _, cst_ok⟩
  apply RegW.val 8 rfl
  · intro a w' hF hB hd; have v6 : a.tmps[82]?.getD undef = _ := hd 6 (of_decide_eq_true (by kernel_rfl)) 1 _ _ rfl rfl; have v7 : a.tmps[83]?.getD undef = _ := hd 7 (of_decide_eq_true (by kernel_rfl)) 0 _ _ rfl rfl; have gd := tmp_bool v6; clear hd hF; refine wpOp_step rfl (fun K' hK => ?_); go_simp; exact hK _ _ ⟨_, rfl, Below.refl _ _, cst_ok⟩
  apply RegW.val 9 rfl
  · intro a w' hF hB hd; have v6 : a.tmps[82]?.getD undef = _ := hd 6 (of_decide_eq_true (by kernel_rfl)) 2 _ _ rfl rfl; have v8 : a.tmps[84]?.getD undef = _ := hd 8 (of_decide_eq_true (by kernel_rfl)) 0 _ _ rfl rfl; clear hd hF; refine wpOp_step rfl (fun K' hK => ?_); go_simp; exact hK _ _ ⟨_, rfl, Below.refl _ _, cst_ok⟩
  apply RegW.val 10 rfl
  · intro a w' hF hB hd; have v9 : a.tmps[85]?.getD undef = _ := hd 9 (of_decide_eq_true (by kernel_rfl)) 0 _ _ rfl rfl; clear hd hF; refine wpOp_step rfl (fun K' hK => ?_); go_simp; exact hK _ _ ⟨_, rfl, Below.refl _ _, cst_ok⟩
  apply RegW.val 11 rfl
  · intro a w' hF hB hd; have v10 : a.tmps[86]?.getD undef = _ := hd 10 (of_decide_eq_true (by kernel_rfl)) 0 _ _ rfl rfl; have gd := tmp_bool v10; have e18 := hF.2.2 18 (by decide); simp at e18; clear hd hF; refine wpOp_step rfl (fun K' hK => ?_); go_simp; exact hK _ _ ⟨_, rfl, Below.refl _ _, cst_ok⟩
  apply RegW.val 12 rfl
  · intro a w' hF hB hd; have v10 : a.tmps[86]?.getD undef = _ := hd 10 (of_decide_eq_true (by kernel_rfl)) 1 _ _ rfl rfl; have v11 : a.tmps[87]?.getD undef = _ := hd 11 (of_decide_eq_true (by kernel_rfl)) 0 _ _ rfl rfl; have gd := tmp_bool v10; clear hd hF; refine wpOp_step rfl (fun K' hK => ?_); go_simp; exact hK _ _ ⟨_, rfl, Below.refl _ _, cst_ok⟩
  apply RegW.val 13 rfl
  · intro a w' hF hB hd; have v10 : a.tmps[86]?.getD undef = _ := hd 10 (of_decide_eq_true (by kernel_rfl)) 2 _ _ rfl rfl; have v12 : a.tmps[88]?.getD undef = _ := hd 12 (of_decide_eq_true (by kernel_rfl)) 0 _ _ rfl rfl; clear hd hF; refine wpOp_step rfl (fun K' hK => ?_); go_simp; exact hK _ _ ⟨_, rfl, Below.refl _ _, cst_ok⟩
  apply RegW.val 14 rfl
  · intro a w' hF hB hd; have v13 : a.tmps[89]?.getD undef = _ := hd 13 (of_decide_eq_true (by kernel_rfl)) 0 _ _ rfl rfl; clear hd hF; refine wpOp_step rfl (fun K' hK => ?_); go_simp; exact hK _ _ ⟨_, rfl, Below.refl _ _, cst_ok⟩
  apply RegW.val 15 rfl
  · intro a w' hF hB hd; have v14 : a.tmps[90]?.getD undef = _ := hd 14 (of_decide_eq_true (by kernel_rfl)) 0 _ _ rfl rfl; have gd := tmp_bool v14; have e20 := hF.2.2 20 (by decide); simp at e20; clear hd hF; refine wpOp_step rfl (fun K' hK => ?_); go_simp; exact hK _ _ ⟨_, rfl, Below.refl _ _, cst_ok⟩
  apply RegW.val 16 rfl
  · intro a w' hF hB hd; have v14 : a.tmps[90]?.getD undef = _ := hd 14 (of_decide_eq_true (by kernel_rfl)) 1 _ _ rfl rfl; have v15 : a.tmps[91]?.getD undef = _ := hd 15 (of_decide_eq_true (by kernel_rfl)) 0 _ _ rfl rfl; have gd := tmp_bool v14; clear hd hF; refine wpOp_step rfl (fun K' hK => ?_); go_simp; exact hK _ _ ⟨_, rfl, Below.refl _ _, cst_ok⟩
  apply RegW.val 17 rfl
  · intro a w' hF hB hd; have v14 : a.tmps[90]?.getD undef = _ := hd 14 (of_decide_eq_true (by kernel_rfl)) 2 _ _ rfl rfl; have v16 : a.tmps[92]?.getD undef = _ := hd 16 (of_decide_eq_true (by kernel_rfl)) 0 _ _ rfl rfl; clear hd hF; refine wpOp_step rfl (fun K' hK => ?_); go_simp; exact hK _ _ ⟨_, rfl, Below.refl _ _, cst_ok⟩
  apply RegW.val 18 rfl
  · intro a w' hF hB hd; have v17 : a.tmps[93]?.getD undef = _ := hd 17 (of_decide_eq_true (by kernel_rfl)) 0 _ _ rfl rfl; clear hd hF; refine wpOp_step rfl (fun K' hK => ?_); go_simp; exact hK _ _ ⟨_, rfl, Below.refl _ _, cst_ok⟩
  apply RegW.num 19 rfl
  · intro a w' hF hB hd; have v18 : a.tmps[94]?.getD undef = _ := hd 18 (of_decide_eq_true (by kernel_rfl)) 0 _ _ rfl rfl; have gd := tmp_bool v18; have e11 := hF.2.2 11 (by decide); simp at e11; clear hd hF; obtain ⟨sv, hk, hi⟩ := (Ha.out).keep hB; have c0 := hk.cell 0; simp at c0; refine wpOp_step rfl (fun K' hK => ?_); go_simp; exact hK _ _ ⟨_, rfl, Below.refl _ _, ⟨_, rfl, hi⟩⟩
  apply RegW.num 20 rfl
  · intro a w' hF hB hd; have v18 : a.tmps[94]?.getD undef = _ := hd 18 (of_decide_eq_true (by kernel_rfl)) 1 _ _ rfl rfl; have gd := tmp_bool v18; have e13 := hF.2.2 13 (by decide); simp at e13; clear hd hF; obtain ⟨sv, hk, hi⟩ := (Hb.out).keep hB; have c0 := hk.cell 0; simp at c0; refine wpOp_step rfl (fun K' hK => ?_); go_simp; exact hK _ _ ⟨_, rfl, Below.refl _ _, ⟨_, rfl, hi⟩⟩
  apply RegW.num 21 rfl
  · intro a w' hF hB hd; have v18 : a.tmps[94]?.getD undef = _ := hd 18 (of_decide_eq_true (by kernel_rfl)) 2 _ _ rfl rfl; have u19 := hd 19 (of_decide_eq_true (by kernel_rfl)) 1 _ _ rfl rfl; obtain ⟨x19, p19, q19⟩ := u19; have u20 := hd 20 (of_decide_eq_true (by kernel_rfl)) 0 _ _ rfl rfl; obtain ⟨x20, p20, q20⟩ := u20; have gd := tmp_bool v18; clear hd hF; refine wpOp_step rfl (fun K' hK => ?_); go_simp; refine (mul_w q19 q20 (fits_le fp (by decide)) (fits_le fq (by decide))).mono ?_; rintro e w1 ⟨x, rfl, hx, hb⟩; exact hK _ _ ⟨_, rfl, hb, ⟨_, rfl, hx⟩⟩
  apply RegW.num 22 rfl
  · intro a w' hF hB hd; have v18 : a.tmps[94]?.getD undef = _ := hd 18 (of_decide_eq_true (by kernel_rfl)) 3 _ _ rfl rfl; have gd := tmp_bool v18; have e15 := hF.2.2 15 (by decide); simp at e15; clear hd hF; obtain ⟨sv, hk, hi⟩ := (Hc.out).keep hB; have c0 := hk.cell 0; simp at c0; refine wpOp_step rfl (fun K' hK => ?_); go_simp; exact hK _ _ ⟨_, rfl, Below.refl _ _, ⟨_, rfl, hi⟩⟩
  apply RegW.val 23 rfl
  · intro a w' hF hB hd; have v18 : a.tmps[94]?.getD undef = _ := hd 18 (of_decide_eq_true (by kernel_rfl)) 4 _ _ rfl rfl; have u21 := hd 21 (of_decide_eq_true (by kernel_rfl)) 1 _ _ rfl rfl; obtain ⟨x21, p21, q21⟩ := u21; have u22 := hd 22 (of_decide_eq_true (by kernel_rfl)) 0 _ _ rfl rfl; obtain ⟨x22, p22, q22⟩ := u22; have gd := tmp_bool v18; clear hd hF; refine wpOp_step rfl (fun K' hK => ?_); go_simp; refine (cmp_w q21 q22 (fits_le (fits_mul fp fq) (by decide)) (fits_le fr (by decide)) (cmp0 (Nat.pow_add X i k).symm)).mono ?_; rintro e w1 ⟨rfl, hb⟩; exact hK _ _ ⟨_, rfl, hb, cst_ok⟩
  apply RegW.val 24 rfl
  · intro a w' hF hB hd; have v18 : a.tmps[94]?.getD undef = _ := hd 18 (of_decide_eq_true (by kernel_rfl)) 5 _ _ rfl rfl; have v23 : a.tmps[99]?.getD undef = _ := hd 23 (of_decide_eq_true (by kernel_rfl)) 0 _ _ rfl rfl; have gd := tmp_bool v18; clear hd hF; refine wpOp_step rfl (fun K' hK => ?_); go_simp; exact hK _ _ ⟨_, rfl, Below.refl _ _, cst_ok⟩
  apply RegW.val 25 rfl
  · intro a w' hF hB hd; have v18 : a.tmps[94]?.getD undef = _ := hd 18 (of_decide_eq_true (by kernel_rfl)) 6 _ _ rfl rfl; have v24 : a.tmps[100]?.getD undef = _ := hd 24 (of_decide_eq_true (by kernel_rfl)) 0 _ _ rfl rfl; clear hd hF; refine wpOp_step rfl (fun K' hK => ?_); go_simp; exact hK _ _ ⟨_, rfl, Below.refl _ _, cst_ok⟩
  apply RegW.val 26 rfl
  · intro a w' hF hB hd; have v25 : a.tmps[101]?.getD undef = _ := hd 25 (of_decide_eq_true (by kernel_rfl)) 0 _ _ rfl rfl; clear hd hF; refine wpOp_step rfl (fun K' hK => ?_); go_simp; exact hK _ _ ⟨_, rfl, Below.refl _ _, cst_ok⟩
  apply RegW.num 27 rfl
  · intro a w' hF hB hd; have v26 : a.tmps[102]?.getD undef = _ := hd 26 (of_decide_eq_true (by kernel_rfl)) 0 _ _ rfl rfl; have gd := tmp_bool v26; have e17 := hF.2.2 17 (by decide); simp at e17; clear hd hF; obtain ⟨sv, hk, hi⟩ := (Hd.out).keep hB; have c0 := hk.cell 0; simp at c0; refine wpOp_step rfl (fun K' hK => ?_); go_simp; exact hK _ _ ⟨_, rfl, Below.refl _ _, ⟨_, rfl, hi⟩⟩
  apply RegW.num 28 rfl
  · intro a w' hF hB hd; have v26 : a.tmps[102]?.getD undef = _ := hd 26 (of_decide_eq_true (by kernel_rfl)) 1 _ _ rfl rfl; have gd := tmp_bool v26; have e8 := hF.2.2 8 (by decide); simp at e8; clear hd hF; obtain ⟨sv, hk, hi⟩ := (Hp.out).keep hB; have c0 := hk.cell 0; simp at c0; refine wpOp_step rfl (fun K' hK => ?_); go_simp; exact hK _ _ ⟨_, rfl, Below.refl _ _, ⟨_, rfl, hi⟩⟩
  apply RegW.num 29 rfl
  · intro a w' hF hB hd; have v26 : a.tmps[102]?.getD undef = _ := hd 26 (of_decide_eq_true (by kernel_rfl)) 2 _ _ rfl rfl; have u27 := hd 27 (of_decide_eq_true (by kernel_rfl)) 1 _ _ rfl rfl; obtain ⟨x27, p27, q27⟩ := u27; have u28 := hd 28 (of_decide_eq_true (by kernel_rfl)) 0 _ _ rfl rfl; obtain ⟨x28, p28, q28⟩ := u28; have gd := tmp_bool v26; clear hd hF; refine wpOp_step rfl (fun K' hK => ?_); go_simp; refine (mul_w q27 q28 (fits_le fs (by decide)) (fits_le hX (by decide))).mono ?_; rintro e w1 ⟨x, rfl, hx, hb⟩; exact hK _ _ ⟨_, rfl, hb, ⟨_, rfl, hx⟩⟩
  apply RegW.num 30 rfl
  · intro a w' hF hB hd; have v26 : a.tmps[102]?.getD undef = _ := hd 26 (of_decide_eq_true (by kernel_rfl)) 3 _ _ rfl rfl; have gd := tmp_bool v26; clear hd hF; refine wpOp_step rfl (fun K' hK => ?_); go_simp; refine (of_w 1 _ (by decide)).mono ?_; rintro e w1 ⟨x, rfl, hx, hb⟩; exact hK _ _ ⟨_, rfl, hb, ⟨_, rfl, hx⟩⟩
  apply RegW.num 31 rfl
  · intro a w' hF hB hd; have v26 : a.tmps[102]?.getD undef = _ := hd 26 (of_decide_eq_true (by kernel_rfl)) 4 _ _ rfl rfl; have u29 := hd 29 (of_decide_eq_true (by kernel_rfl)) 1 _ _ rfl rfl; obtain ⟨x29, p29, q29⟩ := u29; have u30 := hd 30 (of_decide_eq_true (by kernel_rfl)) 0 _ _ rfl rfl; obtain ⟨x30, p30, q30⟩ := u30; have gd := tmp_bool v26; clear hd hF; refine wpOp_step rfl (fun K' hK => ?_); go_simp; refine (add_w q29 q30 (fits_le (fits_mul fs hX) (by decide)) (fits_le fits1 (by decide))).mono ?_; rintro e w1 ⟨x, rfl, hx, hb⟩; exact hK _ _ ⟨_, rfl, hb, ⟨_, rfl, hx⟩⟩
  apply RegW.num 32 rfl
  · intro a w' hF hB hd; have v26 : a.tmps[102]?.getD undef = _ := hd 26 (of_decide_eq_true (by kernel_rfl)) 5 _ _ rfl rfl; have gd := tmp_bool v26; have e19 := hF.2.2 19 (by decide); simp at e19; clear hd hF; obtain ⟨sv, hk, hi⟩ := (He.out).keep hB; have c0 := hk.cell 0; simp at c0; refine wpOp_step rfl (fun K' hK => ?_); go_simp; exact hK _ _ ⟨_, rfl, Below.refl _ _, ⟨_, rfl, hi⟩⟩
  apply RegW.val 33 rfl
  · intro a w' hF hB hd; have v26 : a.tmps[102]?.getD undef = _ := hd 26 (of_decide_eq_true (by kernel_rfl)) 6 _ _ rfl rfl; have u31 := hd 31 (of_decide_eq_true (by kernel_rfl)) 1 _ _ rfl rfl; obtain ⟨x31, p31, q31⟩ := u31; have u32 := hd 32 (of_decide_eq_true (by kernel_rfl)) 0 _ _ rfl rfl; obtain ⟨x32, p32, q32⟩ := u32; have gd := tmp_bool v26; clear hd hF; refine wpOp_step rfl (fun K' hK => ?_); go_simp; refine (cmp_w q31 q32 (fits_le (fits_add (fits_mul fs hX) fits1) (by decide)) (fits_le ft (by decide)) (cmp0 rfl)).mono ?_; rintro e w1 ⟨rfl, hb⟩; exact hK _ _ ⟨_, rfl, hb, cst_ok⟩
  apply RegW.val 34 rfl
  · intro a w' hF hB hd; have v26 : a.tmps[102]?.getD undef = _ := hd 26 (of_decide_eq_true (by kernel_rfl)) 7 _ _ rfl rfl; have v33 : a.tmps[109]?.getD undef = _ := hd 33 (of_decide_eq_true (by kernel_rfl)) 0 _ _ rfl rfl; have gd := tmp_bool v26; clear hd hF; refine wpOp_step rfl (fun K' hK => ?_); go_simp; exact hK _ _ ⟨_, rfl, Below.refl _ _, cst_ok⟩
  apply RegW.val 35 rfl
  · intro a w' hF hB hd; have v26 : a.tmps[102]?.getD undef = _ := hd 26 (of_decide_eq_true (by kernel_rfl)) 8 _ _ rfl rfl; have v34 : a.tmps[110]?.getD undef = _ := hd 34 (of_decide_eq_true (by kernel_rfl)) 0 _ _ rfl rfl; clear hd hF; refine wpOp_step rfl (fun K' hK => ?_); go_simp; exact hK _ _ ⟨_, rfl, Below.refl _ _, cst_ok⟩
  apply RegW.val 36 rfl
  · intro a w' hF hB hd; have v35 : a.tmps[111]?.getD undef = _ := hd 35 (of_decide_eq_true (by kernel_rfl)) 0 _ _ rfl rfl; clear hd hF; refine wpOp_step rfl (fun K' hK => ?_); go_simp; exact hK _ _ ⟨_, rfl, Below.refl _ _, cst_ok⟩
  apply RegW.num 37 rfl
  · intro a w' hF hB hd; have v36 : a.tmps[112]?.getD undef = _ := hd 36 (of_decide_eq_true (by kernel_rfl)) 0 _ _ rfl rfl; have gd := tmp_bool v36; have e17 := hF.2.2 17 (by decide); simp at e17; clear hd hF; obtain ⟨sv, hk, hi⟩ := (Hd.out).keep hB; have c0 := hk.cell 0; simp at c0; refine wpOp_step rfl (fun K' hK => ?_); go_simp; exact hK _ _ ⟨_, rfl, Below.refl _ _, ⟨_, rfl, hi⟩⟩
  apply RegW.num 38 rfl
  · intro a w' hF hB hd; have v36 : a.tmps[112]?.getD undef = _ := hd 36 (of_decide_eq_true (by kernel_rfl)) 1 _ _ rfl rfl; have gd := tmp_bool v36; have e11 := hF.2.2 11 (by decide); simp at e11; clear hd hF; obtain ⟨sv, hk, hi⟩ := (Ha.out).keep hB; have c0 := hk.cell 0; simp at c0; refine wpOp_step rfl (fun K' hK => ?_); go_simp; exact hK _ _ ⟨_, rfl, Below.refl _ _, ⟨_, rfl, hi⟩⟩
  apply RegW.val 39 rfl
  · intro a w' hF hB hd; have v36 : a.tmps[112]?.getD undef = _ := hd 36 (of_decide_eq_true (by kernel_rfl)) 2 _ _ rfl rfl; have u37 := hd 37 (of_decide_eq_true (by kernel_rfl)) 1 _ _ rfl rfl; obtain ⟨x37, p37, q37⟩ := u37; have u38 := hd 38 (of_decide_eq_true (by kernel_rfl)) 0 _ _ rfl rfl; obtain ⟨x38, p38, q38⟩ := u38; have gd := tmp_bool v36; clear hd hF; refine wpOp_step rfl (fun K' hK => ?_); go_simp; refine (cmp_w q37 q38 (fits_le fs (by decide)) (fits_le fp (by decide)) (HQ3.out)).mono ?_; rintro e w1 ⟨rfl, hb⟩; exact hK _ _ ⟨_, rfl, hb, cst_ok⟩
  apply RegW.val 40 rfl
  · intro a w' hF hB hd; have v36 : a.tmps[112]?.getD undef = _ := hd 36 (of_decide_eq_true (by kernel_rfl)) 3 _ _ rfl rfl; have v39 : a.tmps[115]?.getD undef = _ := hd 39 (of_decide_eq_true (by kernel_rfl)) 0 _ _ rfl rfl; have gd := tmp_bool v36; clear hd hF; refine wpOp_step rfl (fun K' hK => ?_); go_simp; exact hK _ _ ⟨_, rfl, Below.refl _ _, cst_ok⟩
  apply RegW.val 41 rfl
  · intro a w' hF hB hd; have v36 : a.tmps[112]?.getD undef = _ := hd 36 (of_decide_eq_true (by kernel_rfl)) 4 _ _ rfl rfl; have v40 : a.tmps[116]?.getD undef = _ := hd 40 (of_decide_eq_true (by kernel_rfl)) 0 _ _ rfl rfl; clear hd hF; refine wpOp_step rfl (fun K' hK => ?_); go_simp; exact hK _ _ ⟨_, rfl, Below.refl _ _, cst_ok⟩
  refine RegW.done (fun a w' hF hB hv => ?_)
  have v0 : a.tmps[76]?.getD undef = _ := hv 41 _ _ rfl
  have v1 : a.tmps[77]?.getD undef = _ := hv 40 _ _ rfl
  have v2 : a.tmps[78]?.getD undef = _ := hv 39 _ _ rfl
  have v3 : a.tmps[79]?.getD undef = _ := hv 38 _ _ rfl
  have v4 : a.tmps[80]?.getD undef = _ := hv 37 _ _ rfl
  have v5 : a.tmps[81]?.getD undef = _ := hv 36 _ _ rfl
  have v6 : a.tmps[82]?.getD undef = _ := hv 35 _ _ rfl
  have v7 : a.tmps[83]?.getD undef = _ := hv 34 _ _ rfl
  have v8 : a.tmps[84]?.getD undef = _ := hv 33 _ _ rfl
  have v9 : a.tmps[85]?.getD undef = _ := hv 32 _ _ rfl
  have v10 : a.tmps[86]?.getD undef = _ := hv 31 _ _ rfl
  have v11 : a.tmps[87]?.getD undef = _ := hv 30 _ _ rfl
  have v12 : a.tmps[88]?.getD undef = _ := hv 29 _ _ rfl
  have v13 : a.tmps[89]?.getD undef = _ := hv 28 _ _ rfl
  have v14 : a.tmps[90]?.getD undef = _ := hv 27 _ _ rfl
  have v15 : a.tmps[91]?.getD undef = _ := hv 26 _ _ rfl
  have v16 : a.tmps[92]?.getD undef = _ := hv 25 _ _ rfl
  have v17 : a.tmps[93]?.getD undef = _ := hv 24 _ _ rfl
  have v18 : a.tmps[94]?.getD undef = _ := hv 23 _ _ rfl
  have u19 := hv 22 _ _ rfl
  obtain ⟨x19, p19, q19⟩ := u19
  have u20 := hv 21 _ _ rfl
  obtain ⟨x20, p20, q20⟩ := u20
  have u21 := hv 20 _ _ rfl
  obtain ⟨x21, p21, q21⟩ := u21
  have u22 := hv 19 _ _ rfl
  obtain ⟨x22, p22, q22⟩ := u22
  have v23 : a.tmps[99]?.getD undef = _ := hv 18 _ _ rfl
  have v24 : a.tmps[100]?.getD undef = _ := hv 17 _ _ rfl
  have v25 : a.tmps[101]?.getD undef = _ := hv 16 _ _ rfl
  have v26 : a.tmps[102]?.getD undef = _ := hv 15 _ _ rfl
  have u27 := hv 14 _ _ rfl
  obtain ⟨x27, p27, q27⟩ := u27
  have u28 := hv 13 _ _ rfl
  obtain ⟨x28, p28, q28⟩ := u28
  have u29 := hv 12 _ _ rfl
  obtain ⟨x29, p29, q29⟩ := u29
  have u30 := hv 11 _ _ rfl
  obtain ⟨x30, p30, q30⟩ := u30
  have u31 := hv 10 _ _ rfl
  obtain ⟨x31, p31, q31⟩ := u31
  have u32 := hv 9 _ _ rfl
  obtain ⟨x32, p32, q32⟩ := u32
  have v33 : a.tmps[109]?.getD undef = _ := hv 8 _ _ rfl
  have v34 : a.tmps[110]?.getD undef = _ := hv 7 _ _ rfl
  have v35 : a.tmps[111]?.getD undef = _ := hv 6 _ _ rfl
  have v36 : a.tmps[112]?.getD undef = _ := hv 5 _ _ rfl
  have u37 := hv 4 _ _ rfl
  obtain ⟨x37, p37, q37⟩ := u37
  have u38 := hv 3 _ _ rfl
  obtain ⟨x38, p38, q38⟩ := u38
  have v39 : a.tmps[115]?.getD undef = _ := hv 2 _ _ rfl
  have v40 : a.tmps[116]?.getD undef = _ := hv 1 _ _ rfl
  have v41 : a.tmps[117]?.getD undef = _ := hv 0 _ _ rfl
  have hE := hF.out
  rw [hE]
  clear hE hF hv
  simp only [List.foldl_cons, List.foldl_nil, Act.put, List.setIfInBounds_toArray, List.set_cons_zero, List.set_cons_succ, Array.getD_eq_getD_getElem?, v0, v1, v2, v3, v4, v5, v6, v7, v8, v9, v10, v11, v12, v13, v14, v15, v16, v17, v18, p19, p20, p21, p22, v23, v24, v25, v26, p27, p28, p29, p30, p31, p32, v33, v34, v35, v36, p37, p38, v39, v40, v41]
  clear v0 v1 v2 v3 v4 v5 v6 v7 v8 v9 v10 v11 v12 v13 v14 v15 v16 v17 v18 p19 p20 p21 p22 v23 v24 v25 v26 p27 p28 p29 p30 p31 p32 v33 v34 v35 v36 p37 p38 v39 v40 v41
  have hE0 := hB
  clear hB
  have HB := Lib.hid (HB.out.trans (hE0.mono HB.out.size))
  have Hp := Lib.hid (Hp.out.keep hE0)
  have Ha := Lib.hid (Ha.out.keep hE0)
  have Hb := Lib.hid (Hb.out.keep hE0)
  have Hc := Lib.hid (Hc.out.keep hE0)
  have Hd := Lib.hid (Hd.out.keep hE0)
  have He := Lib.hid (He.out.keep hE0)
  have HPK := Lib.hid (And.intro (HPK.out.1.keep hE0) (HPK.out.2.keep hE0))
  have cp := HPK.out.1.cell 0
  simp only [List.getElem?_toArray, List.getElem?_cons_zero] at cp
  clear hE0 Ha Hb Hc Hd He HQ3
  go_upto_region 13 with fail
  generalize w' = zf at *
  go_upto_region 14 with (go_at_call 21; refine (log_c _ X _ HPK.out.2 (hX.mono (by decide))).mono ?_; rintro e wl ⟨⟨b, rfl, hbt⟩, hb⟩; have HBT := Lib.hid hbt; have HB := Lib.hid (HB.out.trans (hb.mono HB.out.size)); have Hp := Lib.hid (Hp.out.keep hb); have HPK := Lib.hid (And.intro (HPK.out.1.keep hb) (HPK.out.2.keep hb)); have cp := HPK.out.1.cell 0; simp only [List.getElem?_toArray, List.getElem?_cons_zero] at cp; clear hbt hb)
  have hX2 : X < 2 ^ 192 := by have := hX.lt; simpa using this
  have hb192 : b ≤ 192 := bitn_le HBT.out (by omega)
  clear hX2
  have f2 := two_fits (show b ≤ 200 by omega)
  have HF2 := Lib.hid (fitB_of (c := 200) f2 (by decide))
  go_upto_region 15 with (go_at_call 14; refine (two_c 200 b _ (by omega) (by decide)).mono ?_; intro e wt hx; obtain ⟨At, kt, dt, rfl, hi, hb⟩ := natOk_get hx rfl (HF2.out); have hi : IsNat 0 wt _ (2 ^ b) := hi; have Ht := Lib.hid hi; have HB := Lib.hid (HB.out.trans (hb.mono HB.out.size)); have Hp := Lib.hid (Hp.out.keep hb); have HPK := Lib.hid (And.intro (HPK.out.1.keep hb) (HPK.out.2.keep hb)); have cp := HPK.out.1.cell 0; simp only [List.getElem?_toArray, List.getElem?_cons_zero] at cp; clear hx hi hb)
  have bb : Below wt.heap.size wt (wt.alloc (.cells #[.slice At kt dt] 29)) := (Below.refl _ _).alloc (Nat.le_refl _) _
  have hx : BoxN (wt.alloc (.cells #[.slice At kt dt] 29)) wt.heap.size (2 ^ b) := ⟨_, Bk.new _ _ _, Ht.out.keep bb⟩
  have HB := Lib.hid (HB.out.trans (bb.mono HB.out.size))
  have Hp := Lib.hid (Hp.out.keep bb)
  have HPK := Lib.hid (And.intro (HPK.out.1.keep bb) (HPK.out.2.keep bb))
  have cp := HPK.out.1.cell 0
  simp only [List.getElem?_toArray, List.getElem?_cons_zero] at cp
  have Ht := Lib.hid hx
  clear hx bb
  generalize wt.alloc (.cells #[.slice At kt dt] 29) = zt at *
  generalize wt.heap.size = gt at *
  obtain ⟨q4, hq4⟩ : ∃ q, cmpI (2 ^ b) X = q := ⟨_, rfl⟩
  have d4 : decide (q4 < 0) = false := by
    have := HBT.out.1
    rw [← hq4]; unfold cmpI; rw [if_neg (by omega)]; split <;> decide
  have HQ4 := Lib.hid hq4
  clear hq4
  obtain ⟨st, kkt, iit⟩ := Ht.out
  obtain ⟨At, kt', dt', lt', est, -⟩ := id iit
  simp at est
  subst est
  have ct := kkt.cell 0
  simp only [List.getElem?_toArray, List.getElem?_cons_zero] at ct
  have HIT := Lib.hid iit
  clear kkt iit
  go_upto_region 17 with (go_at_call 17; refine (cmp_w HIT.out HPK.out.2 (f2.mono (by decide)) (hX.mono (by decide)) HQ4.out).mono ?_; rintro e wc ⟨rfl, hb⟩; have HB := Lib.hid (HB.out.trans (hb.mono HB.out.size)); have Hp := Lib.hid (Hp.out.keep hb); have HPK := Lib.hid (And.intro (HPK.out.1.keep hb) (HPK.out.2.keep hb)); have cp := HPK.out.1.cell 0; simp only [List.getElem?_toArray, List.getElem?_cons_zero] at cp; clear hb)
  by_cases hb0 : b = 0
  · have g5 : decide ((0 : Int) < (b : Int)) = false := by simp [hb0]
    have g5' : ¬ (0 < b) := by omega
    go_wp2_with (go_at_call 5; refine (works_c _).mono ?_; rintro e w12 ⟨rfl, hb⟩; have HB := Lib.hid (HB.out.trans (hb.mono HB.out.size)); clear hb)
    go_ret
    exact ⟨rfl, HB.out⟩
  · have g5 : decide ((0 : Int) < (b : Int)) = true := by simp <;> omega
    have g5' : 0 < b := by omega
    obtain ⟨b1, rfl⟩ : ∃ b1, b = b1 + 1 := ⟨b - 1, by omega⟩
    have f3 := two_fits (show b1 ≤ 200 by omega)
    have HF3 := Lib.hid (fitB_of (c := 200) f3 (by decide))
    go_upto_region 19 with (go_at_call 14; refine (two_c 200 b1 _ (by omega) (by decide)).mono ?_; intro e wu hx; obtain ⟨Au, ku, du, rfl, hi, hb⟩ := natOk_get hx rfl (HF3.out); have hi : IsNat 0 wu _ (2 ^ b1) := hi; have Hu := Lib.hid hi; have HB := Lib.hid (HB.out.trans (hb.mono HB.out.size)); have Hp := Lib.hid (Hp.out.keep hb); have HPK := Lib.hid (And.intro (HPK.out.1.keep hb) (HPK.out.2.keep hb)); have cp := HPK.out.1.cell 0; simp only [List.getElem?_toArray, List.getElem?_cons_zero] at cp; clear hx hi hb)
    have bb : Below wu.heap.size wu (wu.alloc (.cells #[.slice Au ku du] 29)) := (Below.refl _ _).alloc (Nat.le_refl _) _
    have hx : BoxN (wu.alloc (.cells #[.slice Au ku du] 29)) wu.heap.size (2 ^ b1) := ⟨_, Bk.new _ _ _, Hu.out.keep bb⟩
    have HB := Lib.hid (HB.out.trans (bb.mono HB.out.size))
    have Hp := Lib.hid (Hp.out.keep bb)
    have HPK := Lib.hid (And.intro (HPK.out.1.keep bb) (HPK.out.2.keep bb))
    have cp := HPK.out.1.cell 0
    simp only [List.getElem?_toArray, List.getElem?_cons_zero] at cp
    have Hu := Lib.hid hx
    clear hx bb
    generalize wu.alloc (.cells #[.slice Au ku du] 29) = zu at *
    generalize wu.heap.size = gu at *
    obtain ⟨q5, hq5⟩ : ∃ q, cmpI (2 ^ b1) X = q := ⟨_, rfl⟩
    have d5 : decide (0 ≤ q5) = false := by
      have h1 := HBT.out.2.2
      have h2 := HBT.out.2.1
      have h3 : X - 1 ≠ 0 := fun h => by have := h1 h; omega
      have h4 := (h2 (by omega)).1
      rw [Nat.add_sub_cancel] at h4
      rw [← hq5]; unfold cmpI; rw [if_pos (by omega)]; decide
    have HQ5 := Lib.hid hq5
    clear hq5
    obtain ⟨su, kku, iiu⟩ := Hu.out
    obtain ⟨Au, ku', du', lu', esu, -⟩ := id iiu
    simp at esu
    subst esu
    have cu := kku.cell 0
    simp only [List.getElem?_toArray, List.getElem?_cons_zero] at cu
    have HIU := Lib.hid iiu
    clear kku iiu
    go_wp2_with (first | (go_at_call 17; refine (cmp_w HIU.out HPK.out.2 (f3.mono (by decide)) (hX.mono (by decide)) HQ5.out).mono ?_; rintro e wc ⟨rfl, hb⟩; have HB := Lib.hid (HB.out.trans (hb.mono HB.out.size)); clear hb) | (go_at_call 5; refine (works_c _).mono ?_; rintro e w12 ⟨rfl, hb⟩; have HB := Lib.hid (HB.out.trans (hb.mono HB.out.size)); clear hb))
    go_ret
    exact ⟨rfl, HB.out⟩
end Go.Proofs.Ytfpjhohkaoodmaa
