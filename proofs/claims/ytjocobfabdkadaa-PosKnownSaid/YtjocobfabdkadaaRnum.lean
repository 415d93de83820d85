/- The document's Number, by contract: texts of at most 60 bytes. -/
import Derived.Test.YtjocobfabdkadaaRwhole
import Derived.Test.YtjocobfabdkadaaNatb
namespace Go.Proofs.Ytjocobfabdkadaa
open Go.RowKit
attribute [local go_sem] alloc_drewN setCell_drewN
/-- A slot holds a row of words. -/
def rowU (l : List Nat) : StP := ⟨fun u w => ∃ A c, u = .slice A l.length c ∧ Rw .u64 w A l.length l, fun _ _ _ hb ⟨A, c, h1, h2⟩ => ⟨A, c, h1, h2.keep hb⟩⟩
theorem isByt_ten (w : World) (ty : TypeId) : IsByt (w.alloc (.cells #[.int .u8 10] ty)) (.slice (some ⟨w.heap.size, 0, none⟩) 1 1) 10 :=
  ⟨_, 1, 1, [10], rfl, rw_one w 10 ty, ⟨fun y hy => by rw [List.mem_singleton.1 hy]; decide, rfl, rfl⟩, Nat.le_refl _⟩
theorem u8_off {d : Nat} (h : d ≤ 9) : IntKind.u8.wrap (48 + (d : Int) - 48) = (d : Int) := by
  show (48 + (d : Int) - 48) % 256 = _
  omega
theorem u64_off {d : Nat} (h : d ≤ 9) : IntKind.u64.wrap (d : Int) = (d : Int) := by
  show (d : Int) % 18446744073709551616 = _
  omega
theorem ten_fit {N i s : Nat} (h : N < 10 ^ i) (hs : i ≤ s) : FitB N s := ⟨Nat.lt_of_lt_of_le h (Nat.le_trans (Nat.pow_le_pow_right (by decide) hs) (Nat.pow_le_pow_left (by decide) s))⟩
theorem str_bys (s : ByteArray) : str (bys s) = s := by
  apply ByteArray.ext
  apply Array.ext'
  simp [str, bys, strOfNums]
  rw [List.map_congr_left (g := id) (fun x _ => by simp), List.map_id]
theorem bys_str {l : List Nat} (h : ∀ x ∈ l, x < 256) : bys (str l) = l := by
  have e : (str l).data.toList = l.map fun (x : Nat) => UInt8.ofNat ((x : Int)).toNat := by
    simp [str, strOfNums]
  unfold bys
  rw [e, List.map_map]
  apply List.ext_getElem?
  intro i
  rw [List.getElem?_map]
  cases hx : l[i]? with
  | none => rfl
  | some x =>
    have := h x (List.mem_of_getElem? hx)
    simp
    omega
theorem str_eq {l : List Nat} (h : ∀ x ∈ l, x < 256) (s : ByteArray) : ((str l).toList == s.toList) = decide (l = bys s) := by
  by_cases e : l = bys s
  · rw [decide_eq_true e, e, str_bys]
    simp
  · rw [decide_eq_false e, beq_eq_false_iff_ne, ByteArray.toList_eq, ByteArray.toList_eq]
    intro h2
    have : str l = s := by
      apply ByteArray.ext
      exact Array.ext' h2
    exact e (by rw [← this, bys_str h])
theorem dec_byte (N : Nat) : ∀ x ∈ dec N, x < 256 := fun x hx => by have := dig_dec N x hx; have := this.2; omega
def NumOk (l : List Nat) (w : World) (e : Ending) (w' : World) : Prop := ∃ x N, e = .returned (.tuple #[x, .bool (decide (isDec l))]) ∧ IsByt w' x N ∧ (isDec l → N = decv l) ∧ FitB N 60 ∧ Below w.heap.size w w'
set_option maxRecDepth 100000 in
set_option maxHeartbeats 8000000 in
theorem refNumber_c (s : ByteArray) (w : World) (hs : s.size ≤ 60) :
    Calls Try.prog 50 #[.string s] w (NumOk (bys s) w) := by
  have hlen := bys_len s
  go_enter Try.func50, Try.ntmps50
  go_wp2_with fail
  go_loopw [4, 5] (fun v a wr => ∃ i : Nat, a = .int .i64 i ∧ i ≤ s.size ∧ IsByt wr v (decv ((bys s).take i)) ∧ (∀ x ∈ (bys s).take i, Dig x) ∧ Below w.heap.size w wr) (fun _ a _ => s.size - (intOf a).toNat)
  case atStart => exact ⟨0, rfl, Nat.zero_le _, by simpa [decv] using isByt_nil w, by simp, Below.refl _ _⟩
  case round =>
    obtain ⟨i, rfl, hi, ho, hall, hB⟩ := hrel
    by_cases his : i < s.size
    · have h1 : decide ((i : Int) < (s.size : Int)) = true := by simp <;> omega
      have hx := bys_at his
      by_cases hd8 : Dig (s[i]'his).toNat
      · have HQ := Lib.hid (And.intro ho (And.intro hall (And.intro hB hx)))
        have h2 : decide (((s[i]'his).toNat : Int) < 48) = false := by have := hd8.1; simp; omega
        have h3 : decide ((57 : Int) < ((s[i]'his).toNat : Int)) = false := by have := hd8.2; simp; omega
        obtain ⟨d, hd⟩ : ∃ d, (s[i]'his).toNat = 48 + d := ⟨(s[i]'his).toNat - 48, by have := hd8.1; omega⟩
        have hd9 : d ≤ 9 := by have := hd8.2; omega
        have hlt : decv ((bys s).take i) < 10 ^ i := by
          have := decv_lt (l := (bys s).take i) hall i (by rw [List.length_take]; omega)
          rwa [List.take_take, Nat.min_self] at this
        have HM := Lib.hid (And.intro (ten_fit hlt (show i ≤ 700 by omega)) (show FitB 10 700 from ten_fit (i := 2) (by decide) (by decide)))
        have hlt10 : decv ((bys s).take i) * 10 < 10 ^ (i + 1) := by rw [Nat.pow_succ]; omega
        have HA := Lib.hid (And.intro (ten_fit hlt10 (show i + 1 ≤ 2000 by omega)) (show FitB d 2000 from ten_fit (i := 1) (by omega) (by decide)))
        have HD := Lib.hid (And.intro hd8 hd)
        clear ho hall hB hx hlt hlt10
        obtain ⟨M, hM⟩ : ∃ M, decv ((bys s).take i) = M := ⟨_, rfl⟩
        rw [hM] at HM HA HQ
        have HE := Lib.hid hM
        clear hM
        go_upto_region 7 with fail
        rw [hd] at h2 h3
        have HS := Lib.hid (And.intro h2 h3)
        clear h2 h3 hd8
        refine wp_region_walk [0, 1, 2, 3, 4, 5, 6, 7, 8, 9, 10, 11] [22, 23, 24, 25, 26, 27, 28, 29, 30, 31, 32] 1 (by kernel_rfl) (by kernel_rfl) (by kernel_rfl) rfl (by simp) (by kernel_rfl) (by kernel_rfl) ?_
        apply RegW.byt 0 rfl
        · intro a w' hF hB hd; have e4 := hF.2.2 4 (by decide); simp at e4; clear hd hF; refine wpOp_step rfl (fun K' hK => ?_); go_simp; exact hK _ _ ⟨_, rfl, Below.refl _ _, ⟨_, rfl, HQ.out.1.keep hB⟩⟩
        apply RegW.byt 1 rfl
        · intro a w' hF hB hd; clear hd hF; refine wpOp_step rfl (fun K' hK => ?_); go_simp; exact hK _ _ ⟨_, rfl, (Below.refl _ _).alloc (Nat.le_refl _) _, ⟨_, rfl, isByt_ten _ _⟩⟩
        apply RegW.byt 2 rfl
        · intro a w' hF hB hd; have u0 := hd 0 (of_decide_eq_true (by kernel_rfl)) 1 _ _ rfl rfl; obtain ⟨x0, p0, q0⟩ := u0; have u1 := hd 1 (of_decide_eq_true (by kernel_rfl)) 0 _ _ rfl rfl; obtain ⟨x1, p1, q1⟩ := u1; clear hd hF; refine wpOp_step rfl (fun K' hK => ?_); go_simp; refine (refMul_c _ _ _ _ _ q0 q1 HM.out.1 HM.out.2).mono ?_; rintro e w1 ⟨x, rfl, hx, hb⟩; exact hK _ _ ⟨_, rfl, hb, ⟨_, rfl, hx⟩⟩
        apply RegW.val 3 rfl
        · intro a w' hF hB hd; have e0 := hF.2.2 0 (by decide); simp at e0; clear hd hF; refine wpOp_step rfl (fun K' hK => ?_); go_simp; exact hK _ _ ⟨_, rfl, Below.refl _ _, cst_ok⟩
        apply RegW.val 4 rfl
        · intro a w' hF hB hd; have e5 := hF.2.2 5 (by decide); simp at e5; clear hd hF; refine wpOp_step rfl (fun K' hK => ?_); go_simp; exact hK _ _ ⟨_, rfl, Below.refl _ _, cst_ok⟩
        refine RegW.op 5 rfl (cst (.int .u8 ((48 + d : Nat) : Int))) ?_ ?_
        · intro a w' hF hB hd; have v3 : a.tmps[25]?.getD undef = _ := hd 3 (of_decide_eq_true (by kernel_rfl)) 1 _ _ rfl rfl; have v4 : a.tmps[26]?.getD undef = _ := hd 4 (of_decide_eq_true (by kernel_rfl)) 0 _ _ rfl rfl; clear hd hF; refine wpOp_step rfl (fun K' hK => ?_); go_simp; exact hK _ _ ⟨_, rfl, Below.refl _ _, cst_ok⟩
        refine RegW.op 6 rfl (cst (.int .u8 (d : Int))) ?_ ?_
        · intro a w' hF hB hd; have v5 : a.tmps[27]?.getD undef = _ := hd 5 (of_decide_eq_true (by kernel_rfl)) 0 _ _ rfl rfl; clear hd hF; refine wpOp_step rfl (fun K' hK => ?_); go_simp; rw [u8_off hd9]; exact hK _ _ ⟨_, rfl, Below.refl _ _, cst_ok⟩
        refine RegW.op 7 rfl (cst (.int .u64 (d : Int))) ?_ ?_
        · intro a w' hF hB hd; have v6 : a.tmps[28]?.getD undef = _ := hd 6 (of_decide_eq_true (by kernel_rfl)) 0 _ _ rfl rfl; clear hd hF; refine wpOp_step rfl (fun K' hK => ?_); go_simp; rw [u64_off hd9]; exact hK _ _ ⟨_, rfl, Below.refl _ _, cst_ok⟩
        refine RegW.op 8 rfl (rowU [d]) ?_ ?_
        · intro a w' hF hB hd; have v7 : a.tmps[29]?.getD undef = _ := hd 7 (of_decide_eq_true (by kernel_rfl)) 0 _ _ rfl rfl; clear hd hF; refine wpOp_step rfl (fun K' hK => ?_); go_simp; exact hK _ _ ⟨_, rfl, (Below.refl _ _).alloc (Nat.le_refl _) _, ⟨_, _, rfl, rw_word _ rfl⟩⟩
        refine RegW.op 9 rfl (byt d) ?_ ?_
        · intro a w' hF hB hd; have u8 := hd 8 (of_decide_eq_true (by kernel_rfl)) 0 _ _ rfl rfl; obtain ⟨A8, c8, p8, q8⟩ := u8; clear hd hF; refine wpOp_step rfl (fun K' hK => ?_); go_simp; refine (refOf_c _ 1 _ [d] _ q8 (lt_one (by omega)) (by decide)).mono ?_; rintro e w1 ⟨x, rfl, hx, hb⟩; exact hK _ _ ⟨_, rfl, hb, ⟨_, rfl, by simpa [val] using hx⟩⟩
        apply RegW.byt 10 rfl
        · intro a w' hF hB hd; have u2 := hd 2 (of_decide_eq_true (by kernel_rfl)) 7 _ _ rfl rfl; obtain ⟨x2, p2, q2⟩ := u2; have u9 := hd 9 (of_decide_eq_true (by kernel_rfl)) 0 _ _ rfl rfl; obtain ⟨x9, p9, q9⟩ := u9; clear hd hF; refine wpOp_step rfl (fun K' hK => ?_); go_simp; refine (refAdd_c _ _ _ _ _ q2 q9 HA.out.1 HA.out.2).mono ?_; rintro e w1 ⟨x, rfl, hx, hb⟩; exact hK _ _ ⟨_, rfl, hb, ⟨_, rfl, hx⟩⟩
        refine RegW.tail1 11 rfl (fun a w' hF hB hv => ?_)
        have u0 := hv 10 _ _ rfl
        obtain ⟨x0, p0, q0⟩ := u0
        have u1 := hv 9 _ _ rfl
        obtain ⟨x1, p1, q1⟩ := u1
        have u2 := hv 8 _ _ rfl
        obtain ⟨x2, p2, q2⟩ := u2
        have v3 : a.tmps[25]?.getD undef = _ := hv 7 _ _ rfl
        have v4 : a.tmps[26]?.getD undef = _ := hv 6 _ _ rfl
        have v5 : a.tmps[27]?.getD undef = _ := hv 5 _ _ rfl
        have v6 : a.tmps[28]?.getD undef = _ := hv 4 _ _ rfl
        have v7 : a.tmps[29]?.getD undef = _ := hv 3 _ _ rfl
        have u8 := hv 2 _ _ rfl
        obtain ⟨A8, c8, p8, q8⟩ := u8
        have u9 := hv 1 _ _ rfl
        obtain ⟨x9, p9, q9⟩ := u9
        have u10 := hv 0 _ _ rfl
        obtain ⟨x10, p10, q10⟩ := u10
        refine wpOp_step rfl (fun K' hK => ?_)
        go_simp
        refine hK _ _ ?_
        clear hK
        clear hv
        have hE := hF.out
        rw [hE]
        clear hE hF
        simp only [List.foldl_cons, List.foldl_nil, Act.put, List.setIfInBounds_toArray, List.set_cons_zero, List.set_cons_succ, Array.getD_eq_getD_getElem?, p0, p1, p2, v3, v4, v5, v6, v7, p8, p9, p10]
        clear p0 p1 p2 v3 v4 v5 v6 v7 p8 p9 p10

        have HN := Lib.hid (And.intro q10 hB)
        clear q0 q1 q2 q8 q9 q10 hB
        generalize a.tmps[22]?.getD undef = z22 at *
        generalize a.tmps[23]?.getD undef = z23 at *
        go_wp2_with fail
        go_roundw
        case rel =>
          obtain ⟨g1, g2⟩ := List.getElem?_eq_some_iff.1 HQ.out.2.2.2
          refine ⟨i + 1, by go_num, by omega, ?_, ?_, HQ.out.2.2.1.trans (HN.out.2.mono HQ.out.2.2.1.size)⟩
          · rw [decv_take HQ.out.2.2.2, HE.out, HD.out.2, show 48 + d - 48 = d by omega]
            exact HN.out.1
          · intro x hxm
            rw [List.take_succ_eq_append_getElem g1] at hxm
            rcases List.mem_append.1 hxm with h | h
            · exact HQ.out.2.1 x h
            · rw [List.mem_singleton.1 h, g2]; exact HD.out.1
        case measure => simp [intOf]; omega
      · have hno : ¬ isDec (bys s) := fun h => hd8 (h.2.2 _ (List.mem_of_getElem? hx))
        have HB := Lib.hid (And.intro hB hno)
        have HD := Lib.hid hd8
        clear ho hall hB hx hno
        by_cases h48 : (s[i]'his).toNat < 48
        · have h2 : decide (((s[i]'his).toNat : Int) < 48) = true := by simp; omega
          clear hd8
          go_wp2_with fail
          go_ret2
          refine ⟨_, 0, ?_, isByt_nil _, fun h => absurd h HB.out.2, ten_fit (i := 1) (by decide) (by decide), HB.out.1⟩
          rw [decide_eq_false HB.out.2]
          rfl
        · have h2 : decide (((s[i]'his).toNat : Int) < 48) = false := by simp; omega
          have h3 : decide ((57 : Int) < ((s[i]'his).toNat : Int)) = true := by
            have : ¬ (48 ≤ (s[i]'his).toNat ∧ (s[i]'his).toNat ≤ 57) := hd8
            simp; omega
          clear hd8
          go_wp2_with fail
          go_ret2
          refine ⟨_, 0, ?_, isByt_nil _, fun h => absurd h HB.out.2, ten_fit (i := 1) (by decide) (by decide), HB.out.1⟩
          rw [decide_eq_false HB.out.2]
          rfl
    · obtain rfl : i = s.size := by omega
      have h1 : decide ((s.size : Int) < (s.size : Int)) = false := by simp
      rw [List.take_of_length_le (by omega)] at ho hall
      have hfit : FitB (decv (bys s)) 60 := by
        have := decv_lt hall s.size (by omega)
        rw [List.take_of_length_le (by omega)] at this
        exact ten_fit this hs
      have HQ := Lib.hid (And.intro ho (And.intro hall (And.intro hB hfit)))
      clear ho hall hB hfit
      by_cases hs0 : s.size = 0
      · have hb0 : bys s = [] := List.eq_nil_of_length_eq_zero (by omega)
        have he := (empty_iff s).2 hs0
        have HS := Lib.hid (And.intro hs0 hb0)
        clear hs0 hb0 hlen h1 his hi
        have hss : ¬ ((s.size : Int) < (s.size : Int)) := by omega
        go_wp2_with fail
        go_ret2
        refine ⟨_, _, ?_, HQ.out.1, fun _ => rfl, HQ.out.2.2.2, HQ.out.2.2.1⟩
        rw [decide_eq_false (fun h => h.1 HS.out.2)]
        rfl
      · have he : s.toList.isEmpty = false := by
          cases h : s.toList.isEmpty with
          | false => rfl
          | true => exact absurd ((empty_iff s).1 h) hs0
        have hE := str_eq (dec_byte (decv (bys s))) s
        have hI : decide (dec (decv (bys s)) = bys s) = decide (isDec (bys s)) := decide_eq_decide.2 isDec_iff.symm
        rw [hI] at hE
        have hF := HQ.out.2.2.2
        obtain ⟨D, hD⟩ : ∃ D, D = dec (decv (bys s)) := ⟨_, rfl⟩
        rw [← hD] at hE
        have HD := Lib.hid (And.intro hD hF)
        obtain ⟨b, hb⟩ : ∃ b, decide (isDec (bys s)) = b := ⟨_, rfl⟩
        rw [hb] at hE
        have HBB := Lib.hid hb
        clear hD hb hI hF h1 his hi
        have hss : ¬ ((s.size : Int) < (s.size : Int)) := by omega
        go_wp2_with (go_at_call 46; refine (refText_c _ _ _ HQ.out.1 (HD.out.2.mono (by decide))).mono ?_; rintro e w2 ⟨rfl, hb⟩; rw [← HD.out.1]; have HC := Lib.hid hb; clear hb)
        go_ret2
        refine ⟨_, _, ?_, HQ.out.1.keep HC.out, fun _ => rfl, HQ.out.2.2.2, HQ.out.2.2.1.trans (HC.out.mono HQ.out.2.2.1.size)⟩
        rw [HBB.out]
        rfl
end Go.Proofs.Ytjocobfabdkadaa
