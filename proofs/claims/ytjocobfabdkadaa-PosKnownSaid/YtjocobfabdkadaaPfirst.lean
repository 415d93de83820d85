/- Cmp, First and fault, and the document's, by contract. -/
import Derived.Test.YtjocobfabdkadaaPreads
import Derived.Test.YtjocobfabdkadaaPplaces
namespace Go.Proofs.Ytjocobfabdkadaa
open Go.RowKit
attribute [local go_sem] alloc_drewN setCell_drewN
/-- How two positions compare. -/
def pcmp (a b c d : Int) : Int := if Lib.compareInt a c ≠ 0 then Lib.compareInt a c else Lib.compareInt b d
theorem compare_w {x y q : Int} {w : World} (h : Lib.compareInt x y = q) : Calls Try.prog 38 #[.int .i64 x, .int .i64 y] w fun e w' => e = .returned (.int .i64 q) ∧ w = w' :=
  (Try.cmp_Compare_int x y w).mono fun _ _ ⟨h1, h2⟩ => ⟨by rw [h1, h], h2.symm⟩
set_option maxRecDepth 100000 in
set_option maxHeartbeats 4000000 in
theorem cmp_p (a b c d : Int) (w : World) :
    Calls Try.prog 25 #[.agg #[.int .i64 a, .int .i64 b], .agg #[.int .i64 c, .int .i64 d]] w fun e w' => e = .returned (.int .i64 (pcmp a b c d)) ∧ Below w.heap.size w w' := by
  obtain ⟨q, hq⟩ : ∃ q, Lib.compareInt a c = q := ⟨_, rfl⟩
  obtain ⟨p, hp⟩ : ∃ p, Lib.compareInt b d = p := ⟨_, rfl⟩
  have HQ := Lib.hid (And.intro hq hp)
  have hv : pcmp a b c d = if q ≠ 0 then q else p := by unfold pcmp; rw [hq, hp]
  rw [hv]
  clear hq hp hv
  by_cases h : q = 0
  · subst h
    go_enter Try.func25, Try.ntmps25
    go_upto_region 4 with (go_at_call 38; refine (compare_w HQ.out.1).mono ?_; rintro e w1 ⟨rfl, rfl⟩)
    go_wp2_with (go_at_call 38; refine (compare_w HQ.out.2).mono ?_; rintro e w1 ⟨rfl, rfl⟩)
    go_ret
    exact ⟨rfl, ((Below.refl _ _).alloc (Nat.le_refl _) _).alloc (by simp) _⟩
  · have h1 : (q != 0) = true := by simpa using h
    have H0 := Lib.hid h
    clear h
    go_enter Try.func25, Try.ntmps25
    go_wp2_with (go_at_call 38; refine (compare_w HQ.out.1).mono ?_; rintro e w1 ⟨rfl, rfl⟩)
    go_ret
    exact ⟨by first | rfl | (rw [if_pos H0.out]; rfl), ((Below.refl _ _).alloc (Nat.le_refl _) _).alloc (by simp) _⟩
set_option maxRecDepth 100000 in
set_option maxHeartbeats 4000000 in
theorem rCmp_p (a b c d : Int) (w : World) :
    Calls Try.prog 26 #[.agg #[.int .i64 a, .int .i64 b], .agg #[.int .i64 c, .int .i64 d]] w fun e w' => e = .returned (.int .i64 (pcmp a b c d)) ∧ Below w.heap.size w w' := by
  rcases Int.lt_trichotomy a c with h1 | h1 | h1
  · have hv : pcmp a b c d = -1 := by
      have h2 : Lib.compareInt a c = -1 := by unfold Lib.compareInt; rw [if_pos h1]
      unfold pcmp; rw [h2]; rfl
    rw [hv]
    have g1 : decide (a < c) = true := decide_eq_true h1
    have e1 : (a == c) = false := beq_false_of_ne (by omega)
    clear hv h1
    go_enter Try.func26, Try.ntmps26
    go_wp2_with fail
    go_ret
    exact ⟨rfl, ((Below.refl _ _).alloc (Nat.le_refl _) _).alloc (by simp) _⟩
  · subst h1
    have h0 : Lib.compareInt a a = 0 := by unfold Lib.compareInt; rw [if_neg (by omega), if_neg (by omega)]
    rcases Int.lt_trichotomy b d with h1 | h1 | h1
    · have hv : pcmp a b a d = -1 := by
        have h2 : Lib.compareInt b d = -1 := by unfold Lib.compareInt; rw [if_pos h1]
        unfold pcmp; rw [h0, h2]; rfl
      rw [hv]
      have g1 : decide (b < d) = true := decide_eq_true h1
      have e1 : (b == d) = false := beq_false_of_ne (by omega)
      clear hv h1 h0
      go_enter Try.func26, Try.ntmps26
      go_wp2_with fail
      go_ret
      exact ⟨rfl, ((Below.refl _ _).alloc (Nat.le_refl _) _).alloc (by simp) _⟩
    · subst h1
      have hv : pcmp a b a b = 0 := by
        have h2 : Lib.compareInt b b = 0 := by unfold Lib.compareInt; rw [if_neg (by omega), if_neg (by omega)]
        unfold pcmp; rw [h0, h2]; rfl
      rw [hv]
      clear hv h0
      go_enter Try.func26, Try.ntmps26
      go_wp2_with fail
      go_ret
      exact ⟨rfl, ((Below.refl _ _).alloc (Nat.le_refl _) _).alloc (by simp) _⟩
    · have hv : pcmp a b a d = 1 := by
        have h2 : Lib.compareInt b d = 1 := by unfold Lib.compareInt; rw [if_neg (by omega), if_pos h1]
        unfold pcmp; rw [h0, h2]; rfl
      rw [hv]
      have g1 : decide (b < d) = false := decide_eq_false (by omega)
      have e1 : (b == d) = false := beq_false_of_ne (by omega)
      clear hv h1 h0
      go_enter Try.func26, Try.ntmps26
      go_wp2_with fail
      go_ret
      exact ⟨rfl, ((Below.refl _ _).alloc (Nat.le_refl _) _).alloc (by simp) _⟩
  · have hv : pcmp a b c d = 1 := by
      have h2 : Lib.compareInt a c = 1 := by unfold Lib.compareInt; rw [if_neg (by omega), if_pos h1]
      unfold pcmp; rw [h2]; rfl
    rw [hv]
    have g1 : decide (a < c) = false := decide_eq_false (by omega)
    have e1 : (a == c) = false := beq_false_of_ne (by omega)
    clear hv h1
    go_enter Try.func26, Try.ntmps26
    go_wp2_with fail
    go_ret
    exact ⟨rfl, ((Below.refl _ _).alloc (Nat.le_refl _) _).alloc (by simp) _⟩
set_option maxRecDepth 100000 in
set_option maxHeartbeats 4000000 in
theorem fault_c (L C E : Int) (w : World) :
    Calls Try.prog 16 #[.agg #[.int .i64 L, .int .i64 C, .int .i64 E]] w fun e w' => e = .returned (.agg #[.int .i64 L, .int .i64 C, .int .i64 E]) ∧ Below w.heap.size w w' := by
  have hb0 := below_box w (.cells #[.int .i64 L, .int .i64 C, .int .i64 E] 45)
  have hb1 := below_box (w.alloc (.cells #[.int .i64 L, .int .i64 C, .int .i64 E] 45)) (.cells #[.int .i64 0, .int .i64 0, .int .i64 0] 42)
  have hr := Bk.new (w.alloc (.cells #[.int .i64 L, .int .i64 C, .int .i64 E] 45)) 42 #[.int .i64 0, .int .i64 0, .int .i64 0]
  rw [World.size_alloc] at hr
  have HK := Lib.hid (And.intro ((Bk.new w 45 #[.int .i64 L, .int .i64 C, .int .i64 E]).keep hb1) (And.intro hr (hb0.trans (hb1.mono hb0.size))))
  clear hb0 hb1 hr
  go_enter Try.func16, Try.ntmps16
  go_upto_region 1 with fail
  generalize hw : (w.alloc (.cells #[.int .i64 L, .int .i64 C, .int .i64 E] 45)).alloc (.cells #[.int .i64 0, .int .i64 0, .int .i64 0] 42) = z1 at *
  clear hw
  refine wp_region_walk [0, 1, 2, 3, 4, 5, 6] [3, 4, 5, 6, 7, 8] 1 (by kernel_rfl) (by kernel_rfl) (by kernel_rfl) rfl (by simp) (by kernel_rfl) (by kernel_rfl) ?_
  apply RegW.val 0 rfl
  · intro a w' hF hB hd; have e1 := hF.2.2 1 (by decide); simp at e1; clear hd hF; refine wpOp_step rfl (fun K' hK => ?_); go_simp; exact hK _ _ ⟨_, rfl, Below.refl _ _, cst_ok⟩
  apply RegW.val 1 rfl
  · intro a w' hF hB hd; have v0 : a.tmps[3]?.getD undef = _ := hd 0 (of_decide_eq_true (by kernel_rfl)) 0 _ _ rfl rfl; clear hd hF; have hk := HK.out.1.keep hB; have k0 := hk.cell 0; have k1 := hk.cell 1; have k2 := hk.cell 2; have kz := hk.lt; simp at k0 k1 k2; refine wpOp_step rfl (fun K' hK => ?_); go_simp; exact hK _ _ ⟨_, rfl, Below.refl _ _, cst_ok⟩
  apply RegW.val 2 rfl
  · intro a w' hF hB hd; have v1 : a.tmps[4]?.getD undef = _ := hd 1 (of_decide_eq_true (by kernel_rfl)) 0 _ _ rfl rfl; clear hd hF; refine wpOp_step rfl (fun K' hK => ?_); go_simp; refine (ref_c L C _).mono ?_; rintro e w2 ⟨rfl, hb⟩; exact hK _ _ ⟨_, rfl, hb, cst_ok⟩
  apply RegW.val 3 rfl
  · intro a w' hF hB hd; have e1 := hF.2.2 1 (by decide); simp at e1; clear hd hF; refine wpOp_step rfl (fun K' hK => ?_); go_simp; exact hK _ _ ⟨_, rfl, Below.refl _ _, cst_ok⟩
  apply RegW.val 4 rfl
  · intro a w' hF hB hd; have v3 : a.tmps[6]?.getD undef = _ := hd 3 (of_decide_eq_true (by kernel_rfl)) 0 _ _ rfl rfl; clear hd hF; have hk := HK.out.1.keep hB; have k0 := hk.cell 0; have k1 := hk.cell 1; have k2 := hk.cell 2; have kz := hk.lt; simp at k0 k1 k2; refine wpOp_step rfl (fun K' hK => ?_); go_simp; exact hK _ _ ⟨_, rfl, Below.refl _ _, cst_ok⟩
  apply RegW.val 5 rfl
  · intro a w' hF hB hd; have v2 : a.tmps[5]?.getD undef = _ := hd 2 (of_decide_eq_true (by kernel_rfl)) 2 _ _ rfl rfl; have v4 : a.tmps[7]?.getD undef = _ := hd 4 (of_decide_eq_true (by kernel_rfl)) 0 _ _ rfl rfl; clear hd hF; refine wpOp_step rfl (fun K' hK => ?_); go_simp; exact hK _ _ ⟨_, rfl, Below.refl _ _, cst_ok⟩
  refine RegW.tail1 6 rfl (fun a w' hF hB hv => ?_)
  have v0 : a.tmps[3]?.getD undef = _ := hv 5 _ _ rfl
  have v1 : a.tmps[4]?.getD undef = _ := hv 4 _ _ rfl
  have v2 : a.tmps[5]?.getD undef = _ := hv 3 _ _ rfl
  have v3 : a.tmps[6]?.getD undef = _ := hv 2 _ _ rfl
  have v4 : a.tmps[7]?.getD undef = _ := hv 1 _ _ rfl
  have v5 : a.tmps[8]?.getD undef = _ := hv 0 _ _ rfl
  have e2 := hF.2.2 2 (by decide)
  simp at e2
  have hk := (HK.out.2.1).keep hB
  have k0 := hk.cell 0
  have k1 := hk.cell 1
  have k2 := hk.cell 2
  have f0 := hk.frozen 0
  have f1 := hk.frozen 1
  have f2 := hk.frozen 2
  have kz := hk.lt
  simp at k0 k1 k2
  refine wpOp_step rfl (fun K' hK => ?_)
  go_simp
  refine hK _ _ ?_
  clear e2 hk kz
  clear hK
  clear hv
  have hE := hF.out
  rw [hE]
  clear hE hF
  simp only [List.foldl_cons, List.foldl_nil, Act.put, List.setIfInBounds_toArray, List.set_cons_zero, List.set_cons_succ, Array.getD_eq_getD_getElem?, v0, v1, v2, v3, v4, v5]
  clear v0 v1 v2 v3 v4 v5

  have kz := (HK.out.2.1.keep hB).lt
  go_wp2_with fail
  refine bodyPost_ret (v := .agg #[.int .i64 L, .int .i64 C, .int .i64 E]) (by simp [results, Try.results16, go_sem, k0, k1, k2, f0, f1, f2, kz]) rfl ?_
  exact ⟨rfl, (((HK.out.2.2.trans (hB.mono HK.out.2.2.size)).setCell (by simp) _).setCell (by simp) _).setCell (by simp) _⟩
end Go.Proofs.Ytjocobfabdkadaa
