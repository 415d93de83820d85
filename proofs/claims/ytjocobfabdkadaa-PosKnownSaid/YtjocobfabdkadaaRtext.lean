/- The document's Text, by contract. At most 300 bytes. -/
import Derived.Test.YtjocobfabdkadaaDecq
import Derived.Test.YtjocobfabdkadaaRdiv
import Derived.Test.YtjocobfabdkadaaRegion
namespace Go.Proofs.Ytjocobfabdkadaa
open Go.RowKit
attribute [local go_sem] alloc_drewN setCell_drewN
theorem FitB.div {N s : Nat} (h : FitB N s) (k : Nat) : FitB (N / k) s := ⟨Nat.lt_of_le_of_lt (Nat.div_le_self _ _) h.lt⟩
theorem refDiv10_w {u : Value} {N : Nat} {w : World} (hu : IsByt w u N) (hN : FitB N 300) :
    Calls Try.prog 59 #[u, .int .u64 10] w fun e w' => ∃ A n c, e = .returned (.tuple #[.slice A n c, .int .u64 ((N % 10 : Nat) : Int), .int .i64 0]) ∧ IsByt w' (.slice A n c) (N / 10) ∧ (n = 0 ↔ N / 10 = 0) ∧ Below w.heap.size w w' :=
  (refDiv_c u N 10 w hu hN (by decide)).mono fun e w' ⟨x, h1, h2, h3⟩ => by
    obtain ⟨A, n, c, l, rfl, hr, hl, hc⟩ := h2
    exact ⟨A, n, c, h1, ⟨A, n, c, l, rfl, hr, hl, hc⟩, by rw [← hr.1]; exact hl.zero, h3⟩
theorem rw_one (w : World) (x : Nat) (ty : TypeId) : Rw .u8 (w.alloc (.cells #[.int .u8 x] ty)) (some ⟨w.heap.size, 0, none⟩) 1 [x] := by
  refine ⟨rfl, fun _ => ⟨_, _, rfl, by simp, fun i y hy => ?_⟩⟩
  have hi : i = 0 := by
    have := (List.getElem?_eq_some_iff.1 hy).1
    simp at this; exact this
  subst hi
  simp at hy
  subst hy
  exact (Bk.new w ty #[.int .u8 (x : Int)]).cell 0
theorem rw_one' (w : World) (x : Nat) (ty : TypeId) : Rw .u8 (w.alloc (.cells #[.int .u8 (48 + (x : Int))] ty)) (some ⟨w.heap.size, 0, none⟩) 1 [48 + x] := by
  have := rw_one w (48 + x) ty
  rwa [show ((48 + x : Nat) : Int) = 48 + (x : Int) by omega] at this
theorem str_append (l m : List Nat) : str l ++ str m = str (l ++ m) := by
  apply ByteArray.ext
  simp [str, strOfNums, ByteArray.data_append]
theorem w64_dig {r : Nat} (h : r < 10) : IntKind.u64.wrap (48 + (r : Int)) = 48 + (r : Int) := by
  show (48 + (r : Int)) % 18446744073709551616 = _
  omega
theorem w8_dig {r : Nat} (h : r < 10) : IntKind.u8.wrap (48 + (r : Int)) = 48 + (r : Int) := by
  show (48 + (r : Int)) % 256 = _
  omega
theorem str_size (l : List Nat) : (str l).size = l.length := by
  show (str l).data.size = _
  simp [str, strOfNums]
theorem dec_short {N k : Nat} (h : N < 10 ^ k) (hk : 0 < k) : (dec N).length ≤ k := by
  by_cases h0 : N = 0
  · subst h0; exact hk
  · have h1 := Nat.lt_of_le_of_lt (dec_ge N h0) h
    have := (Nat.pow_lt_pow_iff_right (show 1 < 10 by omega)).1 h1
    omega
theorem FitB.ten {N s : Nat} (h : FitB N s) : N < 10 ^ (3 * s) := by
  refine Nat.lt_of_lt_of_le h.lt ?_
  rw [Nat.pow_mul]
  exact Nat.pow_le_pow_left (by decide) s
theorem FitB.dec {N s : Nat} (h : FitB N s) (hs : 0 < s) : (dec N).length ≤ 3 * s := dec_short h.ten (by omega)
/-- A slot holds a row of bytes. -/
def rowB (l : List Nat) : StP := ⟨fun u w => ∃ A c, u = .slice A l.length c ∧ Rw .u8 w A l.length l, fun _ _ _ hb ⟨A, c, h1, h2⟩ => ⟨A, c, h1, h2.keep hb⟩⟩
section
variable {P : Program} {ops : Array Oper} {Q : Exit → Act → World → Prop} {a0 : Act} {w0 : World} {ds : List Nat} {nt : Nat} {sp : List (Nat × StP)} {t : Nat} {todo : List Nat}
theorem RegW.rowB {l : List Nat} (i : Nat) (hi : sp.length = i) (h : OpH P ops Q a0 w0 ds sp i t (rowB l)) (r : RegW P ops Q a0 w0 ds nt ((t, rowB l) :: sp) todo) : RegW P ops Q a0 w0 ds nt sp (t :: todo) := RegW.op i hi _ h r
end
set_option maxRecDepth 100000 in
set_option maxHeartbeats 4000000 in
theorem refText_c (N : Nat) : ∀ (u : Value) (w : World), IsByt w u N → FitB N 300 →
    Calls Try.prog 46 #[u] w fun e w' => e = .returned (.string (str (dec N))) ∧ Below w.heap.size w w' := by
  induction N using dec_ind with
  | h1 N h =>
    intro u w hu hN
    have hu0 := hu
    obtain ⟨A, n, c, l, rfl, hr, hl, _⟩ := hu
    have hn : n = 0 ↔ N = 0 := by rw [← hr.1]; exact hl.zero
    have HU := Lib.hid (And.intro hu0 hN)
    clear hu0 hr hl hN
    by_cases h0 : N = 0
    · have hn0 := hn.2 h0
      subst h0 hn0
      clear hn
      go_enter Try.func46, Try.ntmps46
      go_wp2
      go_ret
      exact ⟨rfl, Below.refl _ _⟩
    · have h1 : ((n : Int) == 0) = false := beq_false_of_ne (by omega)
      have h2 : N / 10 = 0 := by omega
      have h3 : N % 10 = N := by omega
      have H3 := Lib.hid (And.intro h2 h3)
      clear hn h0 h2 h3
      go_enter Try.func46, Try.ntmps46
      go_upto_region 5 with (go_at_call 59; refine (refDiv10_w HU.out.1 HU.out.2).mono ?_; rintro e w1 ⟨A1, n1, c1, rfl, hx, hz, hb⟩; rw [H3.out.2]; obtain rfl : n1 = 0 := hz.2 H3.out.1; have HB := Lib.hid hb; clear hx hz hb)
      have hru := run_str (c := 1) (rw_one' w1 N 5)
      go_wp2_with fail
      go_ret
      exact ⟨by rw [dec_one h]; rfl, HB.out.trans ((Below.refl _ _).alloc HB.out.size _)⟩
  | h2 N h ih =>
    intro u w hu hN
    have hu0 := hu
    obtain ⟨A, n, c, l, rfl, hr, hl, _⟩ := hu
    have hn : n = 0 ↔ N = 0 := by rw [← hr.1]; exact hl.zero
    have h1 : ((n : Int) == 0) = false := beq_false_of_ne (by omega)
    have HU := Lib.hid (And.intro hu0 hN)
    clear hu0 hr hl hn
    obtain ⟨r, hr⟩ : ∃ r, r = N % 10 := ⟨_, rfl⟩
    have hr10 : r < 10 := by omega
    have HR := Lib.hid (And.intro h hr)
    have hsz : ¬ (9223372036854775807 < (str (dec (N / 10))).size + (str [48 + r]).size) := by
      rw [str_size, str_size]
      have := (hN.div 10).dec (by decide)
      simp; omega
    have HZ := Lib.hid hsz
    clear h hr hsz hN
    go_enter Try.func46, Try.ntmps46
    go_upto_region 4 with (go_at_call 59; refine (refDiv10_w HU.out.1 HU.out.2).mono ?_; rintro e w1 ⟨A1, n1, c1, rfl, hx, hz, hb⟩; rw [← HR.out.2]; have hn1 : ((n1 : Int) == 0) = false := beq_false_of_ne (by have := HR.out.1; omega); have HX := Lib.hid (And.intro hx (And.intro (HU.out.2.div 10) hb)); clear hx hz hb)
    go_upto_region 6 with fail
    refine wp_region_walk [0, 1, 2, 3, 4, 5, 6, 7, 8] [23, 24, 25, 26, 27, 28, 29, 30, 2] 0 (by kernel_rfl) (by kernel_rfl) (by kernel_rfl) rfl (by simp) (by kernel_rfl) (by kernel_rfl) ?_
    apply RegW.val 0 rfl
    · intro a w' hF hB hd; have e3 := hF.2.2 3 (by decide); simp at e3; clear hd hF; refine wpOp_step rfl (fun K' hK => ?_); go_simp; exact hK _ _ ⟨_, rfl, Below.refl _ _, cst_ok⟩
    refine RegW.op 1 rfl (cst (.string (str (dec (N / 10))))) ?_ ?_
    · intro a w' hF hB hd; have v0 : a.tmps[23]?.getD undef = _ := hd 0 (of_decide_eq_true (by kernel_rfl)) 0 _ _ rfl rfl; clear hd hF; refine wpOp_step rfl (fun K' hK => ?_); go_simp; refine (ih _ w' (HX.out.1.keep hB) HX.out.2.1).mono ?_; rintro e w2 ⟨rfl, hb⟩; exact hK _ _ ⟨_, rfl, hb, cst_ok⟩
    apply RegW.val 2 rfl
    · intro a w' hF hB hd; have e4 := hF.2.2 4 (by decide); simp at e4; clear hd hF; refine wpOp_step rfl (fun K' hK => ?_); go_simp; exact hK _ _ ⟨_, rfl, Below.refl _ _, cst_ok⟩
    refine RegW.op 3 rfl (cst (.int .u64 (48 + (r : Int)))) ?_ ?_
    · intro a w' hF hB hd; have v2 : a.tmps[25]?.getD undef = _ := hd 2 (of_decide_eq_true (by kernel_rfl)) 0 _ _ rfl rfl; clear hd hF; refine wpOp_step rfl (fun K' hK => ?_); go_simp; rw [w64_dig hr10]; exact hK _ _ ⟨_, rfl, Below.refl _ _, cst_ok⟩
    refine RegW.op 4 rfl (cst (.int .u8 (48 + (r : Int)))) ?_ ?_
    · intro a w' hF hB hd; have v3 : a.tmps[26]?.getD undef = _ := hd 3 (of_decide_eq_true (by kernel_rfl)) 0 _ _ rfl rfl; clear hd hF; refine wpOp_step rfl (fun K' hK => ?_); go_simp; rw [w8_dig hr10]; exact hK _ _ ⟨_, rfl, Below.refl _ _, cst_ok⟩
    apply RegW.rowB 5 rfl
    · intro a w' hF hB hd; have v4 : a.tmps[27]?.getD undef = _ := hd 4 (of_decide_eq_true (by kernel_rfl)) 0 _ _ rfl rfl; clear hd hF; refine wpOp_step rfl (fun K' hK => ?_); go_simp; exact hK _ _ ⟨_, rfl, (Below.refl _ _).alloc (Nat.le_refl _) _, ⟨_, _, rfl, rw_one' _ r _⟩⟩
    refine RegW.op 6 rfl (cst (.string (str [48 + r]))) ?_ ?_
    · intro a w' hF hB hd; have u5 := hd 5 (of_decide_eq_true (by kernel_rfl)) 0 _ _ rfl rfl; obtain ⟨A5, c5, p5, q5⟩ := u5; clear hd hF; have hru := run_str (c := c5) (show Rw .u8 w' A5 1 [48 + r] from q5); refine wpOp_step rfl (fun K' hK => ?_); go_simp; exact hK _ _ ⟨_, rfl, Below.refl _ _, cst_ok⟩
    refine RegW.op 7 rfl (cst (.string (str (dec (N / 10)) ++ str [48 + r]))) ?_ ?_
    · intro a w' hF hB hd; have v1 : a.tmps[24]?.getD undef = _ := hd 1 (of_decide_eq_true (by kernel_rfl)) 5 _ _ rfl rfl; have v6 : a.tmps[29]?.getD undef = _ := hd 6 (of_decide_eq_true (by kernel_rfl)) 0 _ _ rfl rfl; clear hd hF; refine wpOp_step rfl (fun K' hK => ?_); go_simp; rw [if_neg HZ.out]; go_simp; exact hK _ _ ⟨_, rfl, Below.refl _ _, cst_ok⟩
    apply RegW.val 8 rfl
    · intro a w' hF hB hd; have v7 : a.tmps[30]?.getD undef = _ := hd 7 (of_decide_eq_true (by kernel_rfl)) 0 _ _ rfl rfl; clear hd hF; refine wpOp_step rfl (fun K' hK => ?_); go_simp; exact hK _ _ ⟨_, rfl, Below.refl _ _, cst_ok⟩
    refine RegW.done (fun a w' hF hB hv => ?_)
    have v0 : a.tmps[23]?.getD undef = _ := hv 8 _ _ rfl
    have v1 : a.tmps[24]?.getD undef = _ := hv 7 _ _ rfl
    have v2 : a.tmps[25]?.getD undef = _ := hv 6 _ _ rfl
    have v3 : a.tmps[26]?.getD undef = _ := hv 5 _ _ rfl
    have v4 : a.tmps[27]?.getD undef = _ := hv 4 _ _ rfl
    have u5 := hv 3 _ _ rfl
    obtain ⟨A5, c5, p5, q5⟩ := u5
    have v6 : a.tmps[29]?.getD undef = _ := hv 2 _ _ rfl
    have v7 : a.tmps[30]?.getD undef = _ := hv 1 _ _ rfl
    have v8 : a.tmps[2]?.getD undef = _ := hv 0 _ _ rfl
    have hE := hF.out
    rw [hE]
    clear hE hF hv
    simp only [List.foldl_cons, List.foldl_nil, Act.put, List.setIfInBounds_toArray, List.set_cons_zero, List.set_cons_succ, Array.getD_eq_getD_getElem?, v0, v1, v2, v3, v4, p5, v6, v7, v8]
    clear v0 v1 v2 v3 v4 p5 v6 v7 v8

    generalize a.tmps[28]?.getD undef = z at *
    go_wp2_with fail
    go_ret
    refine ⟨?_, HX.out.2.2.trans (hB.mono HX.out.2.2.size)⟩
    rw [dec_step HR.out.1, ← HR.out.2, ← str_append]
    rfl
end Go.Proofs.Ytjocobfabdkadaa
