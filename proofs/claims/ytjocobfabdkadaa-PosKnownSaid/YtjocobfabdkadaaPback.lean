/- PosBack, walked: whatever the text of at most 200 bytes and the fault, the statement returns true, and nothing that was there before has turned. -/
import Derived.Test.YtjocobfabdkadaaPbackp
import Derived.Test.YtjocobfabdkadaaPargs
namespace Go.Proofs.Ytjocobfabdkadaa
open Go.RowKit
attribute [local go_sem] alloc_drewN setCell_drewN
theorem bys_app (a b : ByteArray) : bys (a ++ b) = bys a ++ bys b := by simp [bys, ByteArray.data_append]
theorem RwS.cell0 {w : World} {gb n i : Nat} {ss : List ByteArray} {x : ByteArray} (h : RwS w (some ⟨gb, 0, none⟩) n ss) (hi : ss[i]? = some x) : w.cell? ⟨gb, i, none⟩ = some (.string x) ∧ gb < w.heap.size ∧ i < n := by
  have hin : i < n := by rw [← h.1]; exact (List.getElem?_eq_some_iff.1 hi).1
  obtain ⟨b, off, e, hb, hc⟩ := h.2 (by omega)
  simp at e
  obtain ⟨rfl, rfl⟩ := e
  have := hc i x hi
  simp at this
  exact ⟨this, hb, hin⟩
theorem of_xy {s : ByteArray} {i k Y : Nat} (w : World) (h : posAt (bys s) i = (k + 1, Y)) (hs : s.size ≤ 1000) (hi : i ≤ s.size) :
    Calls Try.prog 8 #[.string s, .int .i64 i] w fun e w' => e = .returned (.tuple #[.agg #[.int .i64 ((k : Int) + 1), .int .i64 (Y : Int)], .bool true]) ∧ Below w.heap.size w w' := by
  have := of_in s i w hs hi
  unfold posV at this
  rw [h] at this
  simpa using this
theorem place_xy {s : ByteArray} {i k Y : Nat} (w : World) (h : posAt (bys s) i = (k + 1, Y)) (hs : s.size ≤ 200) (hi : i ≤ s.size) (hk : k ≤ 1000) (hY : Y ≤ 1000) :
    Calls Try.prog 10 #[.string s, .agg #[.int .i64 ((k : Int) + 1), .int .i64 (Y : Int)]] w fun e w' => e = .returned (.tuple #[.int .i64 (i : Int), .bool true]) ∧ Below w.heap.size w w' :=
  (place_c s ((k : Int) + 1) Y w (by omega) (by omega) (by omega)).mono fun e w' hp => by
    unfold PlOk at hp
    rw [plI_some (i := i) (by rw [bys_len]; exact hi) (by rw [h]; simp) (by rw [h])] at hp
    exact hp
theorem cmp_xy {a b c d : Int} (w : World) (h : a < c ∨ (a = c ∧ b < d)) :
    Calls Try.prog 25 #[.agg #[.int .i64 a, .int .i64 b], .agg #[.int .i64 c, .int .i64 d]] w fun e w' => e = .returned (.int .i64 (-1)) ∧ Below w.heap.size w w' := by
  have := cmp_p a b c d w
  rw [pcmp_lt h] at this
  exact this
def BackOk (l : List Nat) (i : Nat) (a b : Int) : Prop := (i = 0 ∧ a = 0 ∧ b = 0) ∨ ∃ j, i = j + 1 ∧ a = (posAt l j).1 ∧ b = (posAt l j).2
theorem BackOk.lt {l : List Nat} {i k Y : Nat} {a b : Int} (h : BackOk l i a b) (hi : i ≤ l.length) (hp : posAt l i = (k + 1, Y)) : a < (k : Int) + 1 ∨ (a = (k : Int) + 1 ∧ b < (Y : Int)) := by
  rcases h with ⟨_, rfl, _⟩ | ⟨j, rfl, rfl, rfl⟩
  · exact .inl (by omega)
  · have := posAt_lt (l := l) (i := j) (j + 1) (by omega) hi
    rw [hp] at this
    simp only at this
    omega
theorem back_join {l : List Nat} {ss : List ByteArray} {t x : ByteArray} {i : Nat} (hss : ss.map bys = linesOf l) (hx : ss[i]? = some x) (ht : bys t = jn ((linesOf l).take i)) (hi : 0 < i) : bys (t ++ ⟨#[10]⟩ ++ x) = jn ((linesOf l).take (i + 1)) := by
  have hq : (linesOf l)[i]? = some (bys x) := by rw [← hss, List.getElem?_map, hx]; rfl
  obtain ⟨q1, q2⟩ := List.getElem?_eq_some_iff.1 hq
  have hne : (linesOf l).take i ≠ [] := fun h => by
    have := congrArg List.length h
    rw [List.length_take, List.length_nil] at this
    omega
  rw [List.take_succ_eq_append_getElem q1, q2, jn_snoc _ hne, ← ht, bys_app, bys_app]
  simp [bys]
theorem back_join0 {l : List Nat} {ss : List ByteArray} {t x : ByteArray} (hss : ss.map bys = linesOf l) (hx : ss[0]? = some x) (ht : bys t = jn ((linesOf l).take 0)) : bys (t ++ x) = jn ((linesOf l).take 1) := by
  have hq : (linesOf l)[0]? = some (bys x) := by rw [← hss, List.getElem?_map, hx]; rfl
  obtain ⟨q1, q2⟩ := List.getElem?_eq_some_iff.1 hq
  rw [List.take_succ_eq_append_getElem q1, q2, bys_app, ht]
  simp [jn]
set_option maxRecDepth 100000 in
set_option maxHeartbeats 32000000 in
theorem back_c (s : ByteArray) (L C E : Int) (w : World) (hL : Whl L) (hC : Whl C) (hE : Whl E) (hs : s.size ≤ 200) :
    Calls Try.prog 5 #[.string s, .agg #[.int .i64 L, .int .i64 C, .int .i64 E]] w fun e w' => e = .returned (.bool true) ∧ Below w.heap.size w w' := by
  have g0 : decide ((200 : Int) < (s.size : Int)) = false := by simp; omega
  have HW := Lib.hid (And.intro (show In64 L from hL) (And.intro (show In64 C from hC) (show In64 E from hE)))
  have HK := Lib.hid (And.intro (Bk.new w 45 #[.int .i64 L, .int .i64 C, .int .i64 E]) (below_box w (.cells #[.int .i64 L, .int .i64 C, .int .i64 E] 45)))
  clear hL hC hE
  go_enter Try.func5, Try.ntmps5
  go_upto_region 4 with (go_at_call 13; go_loud (refine (lines_g s _ (by omega)).mono ?_; rintro e w2 ⟨gb, m, c, ss, rfl, hm0, hm1, hgb, hgl, ho, hsl, hss, hb⟩))
  have HK := Lib.hid (And.intro (HK.out.1.keep hb) (HK.out.2.trans (hb.mono HK.out.2.size)))
  have HL := Lib.hid (And.intro (own_rw ho hsl) hss)
  have hlm : (linesOf (bys s)).length = m := by rw [← hss, List.length_map, hsl]
  have hjl : (jn (linesOf (bys s))).length = s.size := by rw [jn_lines, bys_len]
  have HJ := Lib.hid (And.intro hlm hjl)
  clear hb ho hss hlm hjl
  go_wp2_with fail
  go_loop [6, 7] (fun t v => ∃ (i : Nat) (x : ByteArray), t = .string x ∧ v = .int .i64 i ∧ i ≤ m ∧ bys x = jn ((linesOf (bys s)).take i)) (fun _ v => m - (intOf v).toNat)
  case atStart => exact ⟨0, ⟨#[]⟩, rfl, rfl, Nat.zero_le _, rfl⟩
  case round =>
    obtain ⟨i, t, rfl, rfl, hi, ht⟩ := hrel
    have htz : t.size ≤ 200 := by
      have h1 := jn_le (linesOf (bys s)) i
      rw [← ht, bys_len, HJ.out.2] at h1
      omega
    have HT := Lib.hid ht
    clear ht
    by_cases him : i < m
    · have g1 : decide ((i : Int) < (m : Int)) = true := by simp; omega
      obtain ⟨x, hx⟩ : ∃ x, ss[i]? = some x := ⟨_, List.getElem?_eq_getElem (by omega)⟩
      obtain ⟨m0, _, _⟩ := HL.out.1.cell0 hx
      have hI : (i : Int) < (m : Int) := by omega
      by_cases hi0 : i = 0
      · subst hi0
        have hj := back_join0 HL.out.2 hx HT.out
        have hz : (t ++ x).size ≤ 200 := by
          have h1 := jn_le (linesOf (bys s)) 1
          rw [← hj, bys_len, HJ.out.2] at h1
          omega
        have hz2 : t.size + x.size ≤ 200 := by simpa using hz
        have HX := Lib.hid hj
        clear hj hx
        go_wp2_with fail
        go_round
        case rel => exact ⟨1, _, rfl, by go_num, by omega, HX.out⟩
        case measure => simp [intOf]; omega
      · have g2 : decide ((0 : Int) < (i : Int)) = true := by simp; omega
        have hj := back_join HL.out.2 hx HT.out (by omega)
        have hz : (t ++ ⟨#[10]⟩ ++ x).size ≤ 200 := by
          have h1 := jn_le (linesOf (bys s)) (i + 1)
          rw [← hj, bys_len, HJ.out.2] at h1
          omega
        have hz2 : t.size + 1 + x.size ≤ 200 := by
          rw [ByteArray.size_append, ByteArray.size_append, show (⟨#[10]⟩ : ByteArray).size = 1 from rfl] at hz
          exact hz
        have HX := Lib.hid hj
        clear hj hx
        go_wp2_with fail
        go_round
        case rel => exact ⟨i + 1, _, rfl, by go_num, by omega, HX.out⟩
        case measure => simp [intOf]; omega
    have him : m = i := by omega
    subst him
    have hts : s = t := by
      have h := HT.out
      rw [List.take_of_length_le (by rw [HJ.out.1]; exact Nat.le_refl _), jn_lines] at h
      rw [← str_bys s, ← h, str_bys]
    subst hts
    have g1 : decide ((m : Int) < (m : Int)) = false := by simp
    clear HT
    go_upto_region 12 with fail
    have HP := Lib.hid (And.intro (Bk.new w2 23 #[.int .i64 0, .int .i64 0]) (below_box w2 (.cells #[.int .i64 0, .int .i64 0] 23)))
    generalize hw : w2.alloc (.cells #[.int .i64 0, .int .i64 0] 23) = w3 at *
    clear hw
    go_wp2_with fail
    go_loopw [9] (fun v wr => ∃ (i : Nat) (a b : Int), v = .int .i64 i ∧ i ≤ s.size + 1 ∧ BackOk (bys s) i a b ∧ Bk wr w2.heap.size 23 #[.int .i64 a, .int .i64 b] ∧ Below w2.heap.size w2 wr) (fun v _ => s.size + 1 - (intOf v).toNat)
    case atStart => exact ⟨0, 0, 0, rfl, by omega, .inl ⟨rfl, rfl, rfl⟩, HP.out.1, HP.out.2⟩
    case round =>
    clear HP
    obtain ⟨i, a, b, rfl, hi, hbk, hP, hB⟩ := hrel
    by_cases hin : i ≤ s.size
    · have g2 : decide ((i : Int) ≤ (s.size : Int)) = true := by simp; omega
      obtain ⟨k, h, hk, hh, hY⟩ := pos_line (bys s) i
      obtain ⟨_, hge, hk2, hY2⟩ := posAt_ge (bys s) i (by rw [bys_len]; exact hin)
      obtain ⟨Y, hYe⟩ : ∃ Y, (posAt (bys s) i).2 = Y := ⟨_, rfl⟩
      have hpo : posAt (bys s) i = (k + 1, Y) := by rw [← hk, ← hYe]
      rw [hYe] at hY hge hY2
      rw [hk] at hk2
      obtain ⟨x, hx⟩ : ∃ x, ss[k]? = some x := ⟨_, List.getElem?_eq_getElem (by rw [hsl, ← HJ.out.1]; exact (List.getElem?_eq_some_iff.1 hh).1)⟩
      have hxh : x.size = h.length := by
        rw [← HL.out.2, List.getElem?_map, hx] at hh
        simp at hh
        rw [← hh, bys_len]
      obtain ⟨m0, hgb2, hkm⟩ := (HL.out.1).cell0 hx
      have HC := Lib.hid (hbk.lt (by rw [bys_len]; exact hin) hpo)
      have HPo := Lib.hid hpo
      have HM := Lib.hid (And.intro hgb2 m0)
      have HQ := Lib.hid (And.intro hP hB)
      have gx1 : decide ((m : Int) < (k : Int) + 1) = false := by simp; omega
      have gx2 : decide ((k : Int) + 1 < 1) = false := by simp; omega
      have gy1 : decide ((Y : Int) < 1) = false := by simp; omega
      have gy2 : decide ((x.size : Int) + 1 < (Y : Int)) = false := by simp; omega
      have hxz : x.size ≤ 200 := by
        have := mem_jn (List.mem_of_getElem? hh)
        rw [HJ.out.2] at this
        omega
      clear hk hh hY hYe hpo hx hxh m0 hgb2 hbk hP hB
      go_upto_region 16 with (go_at_call 8; go_loud (refine (of_xy _ HPo.out (by omega) hin).mono ?_; rintro e w5 ⟨rfl, hb⟩))
      have hB := hb.trans ((below_box w5 (.cells #[.int .i64 ((k : Int) + 1), .int .i64 (Y : Int)] 23)).mono hb.size)
      have HQ := Lib.hid (And.intro (HQ.out.1.keep hB) (And.intro (Bk.new w5 23 #[.int .i64 ((k : Int) + 1), .int .i64 (Y : Int)]) (HQ.out.2.trans (hB.mono HQ.out.2.size))))
      clear hb hB
      generalize hg : w5.heap.size = g5 at *
      generalize hw : w5.alloc (.cells #[.int .i64 ((k : Int) + 1), .int .i64 (Y : Int)] 23) = p5 at *
      clear hg hw
      have q0 := HQ.out.2.1.cell 0
      have q1 := HQ.out.2.1.cell 1
      have qz := HQ.out.2.1.lt
      simp at q0 q1
      go_upto_region 17 with (go_at_call 10; go_loud (refine (place_xy _ HPo.out hs hin (by omega) (by omega)).mono ?_; rintro e w6 ⟨rfl, hb⟩; have HQ := Lib.hid (And.intro (HQ.out.1.keep hb) (And.intro (HQ.out.2.1.keep hb) (HQ.out.2.2.trans (hb.mono HQ.out.2.2.size)))); clear hb q0 q1 qz))
      have HS := Lib.hid (And.intro (Nat.lt_of_lt_of_le HM.out.1 HQ.out.2.2.size) ((HQ.out.2.2.cell (p := ⟨gb, k, none⟩) HM.out.1).trans HM.out.2))
      refine wp_region_walk [0, 1, 2, 3, 4, 5, 6, 7, 8, 9, 10, 11, 12, 13, 14, 15, 16, 17, 18, 19, 20, 21, 22, 23, 24, 25, 26, 27, 28, 29, 30, 31, 32, 33, 34, 35, 36, 37, 38, 39, 40, 41, 42, 43, 44, 45, 46] [59, 60, 61, 62, 63, 64, 65, 66, 67, 68, 69, 70, 71, 72, 73, 74, 75, 76, 77, 78, 79, 80, 81, 82, 83, 84, 85, 86, 87, 88, 89, 90, 91, 92, 93, 94, 95, 96, 97, 98, 99, 100, 101, 102, 103, 104, 105] 0 (by kernel_rfl) (by kernel_rfl) (by kernel_rfl) rfl (by simp) (by kernel_rfl) (by kernel_rfl) ?_
      apply RegW.val 0 rfl
      · intro a w' hF hB hd; have e11 := hF.2.2 11 (by decide); simp at e11; clear hd hF; refine wpOp_step rfl (fun K' hK => ?_); go_simp; exact hK _ _ ⟨_, rfl, Below.refl _ _, cst_ok⟩
      apply RegW.val 1 rfl
      · intro a w' hF hB hd; have v0 : a.tmps[59]?.getD undef = _ := hd 0 (of_decide_eq_true (by kernel_rfl)) 0 _ _ rfl rfl; clear hd hF; refine wpOp_step rfl (fun K' hK => ?_); go_simp; exact hK _ _ ⟨_, rfl, Below.refl _ _, cst_ok⟩
      apply RegW.val 2 rfl
      · intro a w' hF hB hd; have v1 : a.tmps[60]?.getD undef = _ := hd 1 (of_decide_eq_true (by kernel_rfl)) 0 _ _ rfl rfl; clear hd hF; refine wpOp_step rfl (fun K' hK => ?_); go_simp; exact hK _ _ ⟨_, rfl, Below.refl _ _, cst_ok⟩
      apply RegW.val 3 rfl
      · intro a w' hF hB hd; have v2 : a.tmps[61]?.getD undef = _ := hd 2 (of_decide_eq_true (by kernel_rfl)) 0 _ _ rfl rfl; have gd := tmp_bool v2; have e13 := hF.2.2 13 (by decide); simp at e13; clear hd hF; refine wpOp_step rfl (fun K' hK => ?_); go_simp; exact hK _ _ ⟨_, rfl, Below.refl _ _, cst_ok⟩
      apply RegW.val 4 rfl
      · intro a w' hF hB hd; have v2 : a.tmps[61]?.getD undef = _ := hd 2 (of_decide_eq_true (by kernel_rfl)) 1 _ _ rfl rfl; have v3 : a.tmps[62]?.getD undef = _ := hd 3 (of_decide_eq_true (by kernel_rfl)) 0 _ _ rfl rfl; have gd := tmp_bool v2; clear hd hF; refine wpOp_step rfl (fun K' hK => ?_); go_simp; exact hK _ _ ⟨_, rfl, Below.refl _ _, cst_ok⟩
      apply RegW.val 5 rfl
      · intro a w' hF hB hd; have v2 : a.tmps[61]?.getD undef = _ := hd 2 (of_decide_eq_true (by kernel_rfl)) 2 _ _ rfl rfl; have v4 : a.tmps[63]?.getD undef = _ := hd 4 (of_decide_eq_true (by kernel_rfl)) 0 _ _ rfl rfl; clear hd hF; refine wpOp_step rfl (fun K' hK => ?_); go_simp; exact hK _ _ ⟨_, rfl, Below.refl _ _, cst_ok⟩
      apply RegW.val 6 rfl
      · intro a w' hF hB hd; have v5 : a.tmps[64]?.getD undef = _ := hd 5 (of_decide_eq_true (by kernel_rfl)) 0 _ _ rfl rfl; clear hd hF; refine wpOp_step rfl (fun K' hK => ?_); go_simp; exact hK _ _ ⟨_, rfl, Below.refl _ _, cst_ok⟩
      apply RegW.val 7 rfl
      · intro a w' hF hB hd; have v6 : a.tmps[65]?.getD undef = _ := hd 6 (of_decide_eq_true (by kernel_rfl)) 0 _ _ rfl rfl; have gd := tmp_bool v6; have e12 := hF.2.2 12 (by decide); simp at e12; clear hd hF; refine wpOp_step rfl (fun K' hK => ?_); go_simp; exact hK _ _ ⟨_, rfl, Below.refl _ _, cst_ok⟩
      apply RegW.val 8 rfl
      · intro a w' hF hB hd; have v6 : a.tmps[65]?.getD undef = _ := hd 6 (of_decide_eq_true (by kernel_rfl)) 1 _ _ rfl rfl; have gd := tmp_bool v6; have e9 := hF.2.2 9 (by decide); simp at e9; clear hd hF; refine wpOp_step rfl (fun K' hK => ?_); go_simp; exact hK _ _ ⟨_, rfl, Below.refl _ _, cst_ok⟩
      refine RegW.op 9 rfl (cst (.bool false)) ?_ ?_
      · intro a w' hF hB hd; have v6 : a.tmps[65]?.getD undef = _ := hd 6 (of_decide_eq_true (by kernel_rfl)) 2 _ _ rfl rfl; have v7 : a.tmps[66]?.getD undef = _ := hd 7 (of_decide_eq_true (by kernel_rfl)) 1 _ _ rfl rfl; have v8 : a.tmps[67]?.getD undef = _ := hd 8 (of_decide_eq_true (by kernel_rfl)) 0 _ _ rfl rfl; have gd := tmp_bool v6; clear hd hF; refine wpOp_step rfl (fun K' hK => ?_); go_simp; exact hK _ _ ⟨_, rfl, Below.refl _ _, cst_ok⟩
      apply RegW.val 10 rfl
      · intro a w' hF hB hd; have v6 : a.tmps[65]?.getD undef = _ := hd 6 (of_decide_eq_true (by kernel_rfl)) 3 _ _ rfl rfl; have v9 : a.tmps[68]?.getD undef = _ := hd 9 (of_decide_eq_true (by kernel_rfl)) 0 _ _ rfl rfl; clear hd hF; refine wpOp_step rfl (fun K' hK => ?_); go_simp; exact hK _ _ ⟨_, rfl, Below.refl _ _, cst_ok⟩
      apply RegW.val 11 rfl
      · intro a w' hF hB hd; have v10 : a.tmps[69]?.getD undef = _ := hd 10 (of_decide_eq_true (by kernel_rfl)) 0 _ _ rfl rfl; clear hd hF; refine wpOp_step rfl (fun K' hK => ?_); go_simp; exact hK _ _ ⟨_, rfl, Below.refl _ _, cst_ok⟩
      apply RegW.val 12 rfl
      · intro a w' hF hB hd; have v11 : a.tmps[70]?.getD undef = _ := hd 11 (of_decide_eq_true (by kernel_rfl)) 0 _ _ rfl rfl; have gd := tmp_bool v11; have e8 := hF.2.2 8 (by decide); simp at e8; clear hd hF; have hk := (HQ.out.1).keep hB; have k0 := hk.cell 0; have k1 := hk.cell 1; have kz := hk.lt; simp at k0 k1; refine wpOp_step rfl (fun K' hK => ?_); go_simp; exact hK _ _ ⟨_, rfl, Below.refl _ _, cst_ok⟩
      apply RegW.val 13 rfl
      · intro a w' hF hB hd; have v11 : a.tmps[70]?.getD undef = _ := hd 11 (of_decide_eq_true (by kernel_rfl)) 1 _ _ rfl rfl; have gd := tmp_bool v11; have e10 := hF.2.2 10 (by decide); simp at e10; clear hd hF; have hk := (HQ.out.2.1).keep hB; have k0 := hk.cell 0; have k1 := hk.cell 1; have kz := hk.lt; simp at k0 k1; refine wpOp_step rfl (fun K' hK => ?_); go_simp; exact hK _ _ ⟨_, rfl, Below.refl _ _, cst_ok⟩
      refine RegW.op 14 rfl (cst (.int .i64 (-1))) ?_ ?_
      · intro a w' hF hB hd; have v11 : a.tmps[70]?.getD undef = _ := hd 11 (of_decide_eq_true (by kernel_rfl)) 2 _ _ rfl rfl; have v12 : a.tmps[71]?.getD undef = _ := hd 12 (of_decide_eq_true (by kernel_rfl)) 1 _ _ rfl rfl; have v13 : a.tmps[72]?.getD undef = _ := hd 13 (of_decide_eq_true (by kernel_rfl)) 0 _ _ rfl rfl; have gd := tmp_bool v11; clear hd hF; refine wpOp_step rfl (fun K' hK => ?_); go_simp; refine (cmp_xy _ HC.out).mono ?_; rintro e w2 ⟨rfl, hb⟩; exact hK _ _ ⟨_, rfl, hb, cst_ok⟩
      apply RegW.val 15 rfl
      · intro a w' hF hB hd; have v11 : a.tmps[70]?.getD undef = _ := hd 11 (of_decide_eq_true (by kernel_rfl)) 3 _ _ rfl rfl; have v14 : a.tmps[73]?.getD undef = _ := hd 14 (of_decide_eq_true (by kernel_rfl)) 0 _ _ rfl rfl; have gd := tmp_bool v11; clear hd hF; refine wpOp_step rfl (fun K' hK => ?_); go_simp; exact hK _ _ ⟨_, rfl, Below.refl _ _, cst_ok⟩
      apply RegW.val 16 rfl
      · intro a w' hF hB hd; have v11 : a.tmps[70]?.getD undef = _ := hd 11 (of_decide_eq_true (by kernel_rfl)) 4 _ _ rfl rfl; have v15 : a.tmps[74]?.getD undef = _ := hd 15 (of_decide_eq_true (by kernel_rfl)) 0 _ _ rfl rfl; clear hd hF; refine wpOp_step rfl (fun K' hK => ?_); go_simp; exact hK _ _ ⟨_, rfl, Below.refl _ _, cst_ok⟩
      apply RegW.val 17 rfl
      · intro a w' hF hB hd; have v16 : a.tmps[75]?.getD undef = _ := hd 16 (of_decide_eq_true (by kernel_rfl)) 0 _ _ rfl rfl; clear hd hF; refine wpOp_step rfl (fun K' hK => ?_); go_simp; exact hK _ _ ⟨_, rfl, Below.refl _ _, cst_ok⟩
      apply RegW.val 18 rfl
      · intro a w' hF hB hd; have v17 : a.tmps[76]?.getD undef = _ := hd 17 (of_decide_eq_true (by kernel_rfl)) 0 _ _ rfl rfl; have gd := tmp_bool v17; have e10 := hF.2.2 10 (by decide); simp at e10; clear hd hF; refine wpOp_step rfl (fun K' hK => ?_); go_simp; exact hK _ _ ⟨_, rfl, Below.refl _ _, cst_ok⟩
      apply RegW.val 19 rfl
      · intro a w' hF hB hd; have v17 : a.tmps[76]?.getD undef = _ := hd 17 (of_decide_eq_true (by kernel_rfl)) 1 _ _ rfl rfl; have v18 : a.tmps[77]?.getD undef = _ := hd 18 (of_decide_eq_true (by kernel_rfl)) 0 _ _ rfl rfl; have gd := tmp_bool v17; clear hd hF; have hk := (HQ.out.2.1).keep hB; have k0 := hk.cell 0; have k1 := hk.cell 1; have kz := hk.lt; simp at k0 k1; refine wpOp_step rfl (fun K' hK => ?_); go_simp; exact hK _ _ ⟨_, rfl, Below.refl _ _, cst_ok⟩
      apply RegW.val 20 rfl
      · intro a w' hF hB hd; have v17 : a.tmps[76]?.getD undef = _ := hd 17 (of_decide_eq_true (by kernel_rfl)) 2 _ _ rfl rfl; have gd := tmp_bool v17; have e5 := hF.2.2 5 (by decide); simp at e5; clear hd hF; refine wpOp_step rfl (fun K' hK => ?_); go_simp; exact hK _ _ ⟨_, rfl, Below.refl _ _, cst_ok⟩
      apply RegW.val 21 rfl
      · intro a w' hF hB hd; have v17 : a.tmps[76]?.getD undef = _ := hd 17 (of_decide_eq_true (by kernel_rfl)) 3 _ _ rfl rfl; have v20 : a.tmps[79]?.getD undef = _ := hd 20 (of_decide_eq_true (by kernel_rfl)) 0 _ _ rfl rfl; have gd := tmp_bool v17; clear hd hF; refine wpOp_step rfl (fun K' hK => ?_); go_simp; exact hK _ _ ⟨_, rfl, Below.refl _ _, cst_ok⟩
      refine RegW.op 22 rfl (cst (.bool false)) ?_ ?_
      · intro a w' hF hB hd; have v17 : a.tmps[76]?.getD undef = _ := hd 17 (of_decide_eq_true (by kernel_rfl)) 4 _ _ rfl rfl; have v19 : a.tmps[78]?.getD undef = _ := hd 19 (of_decide_eq_true (by kernel_rfl)) 2 _ _ rfl rfl; have v21 : a.tmps[80]?.getD undef = _ := hd 21 (of_decide_eq_true (by kernel_rfl)) 0 _ _ rfl rfl; have gd := tmp_bool v17; clear hd hF; refine wpOp_step rfl (fun K' hK => ?_); go_simp; exact hK _ _ ⟨_, rfl, Below.refl _ _, cst_ok⟩
      apply RegW.val 23 rfl
      · intro a w' hF hB hd; have v17 : a.tmps[76]?.getD undef = _ := hd 17 (of_decide_eq_true (by kernel_rfl)) 5 _ _ rfl rfl; have v22 : a.tmps[81]?.getD undef = _ := hd 22 (of_decide_eq_true (by kernel_rfl)) 0 _ _ rfl rfl; clear hd hF; refine wpOp_step rfl (fun K' hK => ?_); go_simp; exact hK _ _ ⟨_, rfl, Below.refl _ _, cst_ok⟩
      apply RegW.val 24 rfl
      · intro a w' hF hB hd; have v23 : a.tmps[82]?.getD undef = _ := hd 23 (of_decide_eq_true (by kernel_rfl)) 0 _ _ rfl rfl; clear hd hF; refine wpOp_step rfl (fun K' hK => ?_); go_simp; exact hK _ _ ⟨_, rfl, Below.refl _ _, cst_ok⟩
      apply RegW.val 25 rfl
      · intro a w' hF hB hd; have v24 : a.tmps[83]?.getD undef = _ := hd 24 (of_decide_eq_true (by kernel_rfl)) 0 _ _ rfl rfl; have gd := tmp_bool v24; have e10 := hF.2.2 10 (by decide); simp at e10; clear hd hF; refine wpOp_step rfl (fun K' hK => ?_); go_simp; exact hK _ _ ⟨_, rfl, Below.refl _ _, cst_ok⟩
      apply RegW.val 26 rfl
      · intro a w' hF hB hd; have v24 : a.tmps[83]?.getD undef = _ := hd 24 (of_decide_eq_true (by kernel_rfl)) 1 _ _ rfl rfl; have v25 : a.tmps[84]?.getD undef = _ := hd 25 (of_decide_eq_true (by kernel_rfl)) 0 _ _ rfl rfl; have gd := tmp_bool v24; clear hd hF; have hk := (HQ.out.2.1).keep hB; have k0 := hk.cell 0; have k1 := hk.cell 1; have kz := hk.lt; simp at k0 k1; refine wpOp_step rfl (fun K' hK => ?_); go_simp; exact hK _ _ ⟨_, rfl, Below.refl _ _, cst_ok⟩
      refine RegW.op 27 rfl (cst (.bool false)) ?_ ?_
      · intro a w' hF hB hd; have v24 : a.tmps[83]?.getD undef = _ := hd 24 (of_decide_eq_true (by kernel_rfl)) 2 _ _ rfl rfl; have v26 : a.tmps[85]?.getD undef = _ := hd 26 (of_decide_eq_true (by kernel_rfl)) 0 _ _ rfl rfl; have gd := tmp_bool v24; clear hd hF; refine wpOp_step rfl (fun K' hK => ?_); go_simp; exact hK _ _ ⟨_, rfl, Below.refl _ _, cst_ok⟩
      apply RegW.val 28 rfl
      · intro a w' hF hB hd; have v24 : a.tmps[83]?.getD undef = _ := hd 24 (of_decide_eq_true (by kernel_rfl)) 3 _ _ rfl rfl; have v27 : a.tmps[86]?.getD undef = _ := hd 27 (of_decide_eq_true (by kernel_rfl)) 0 _ _ rfl rfl; clear hd hF; refine wpOp_step rfl (fun K' hK => ?_); go_simp; exact hK _ _ ⟨_, rfl, Below.refl _ _, cst_ok⟩
      apply RegW.val 29 rfl
      · intro a w' hF hB hd; have v28 : a.tmps[87]?.getD undef = _ := hd 28 (of_decide_eq_true (by kernel_rfl)) 0 _ _ rfl rfl; clear hd hF; refine wpOp_step rfl (fun K' hK => ?_); go_simp; exact hK _ _ ⟨_, rfl, Below.refl _ _, cst_ok⟩
      apply RegW.val 30 rfl
      · intro a w' hF hB hd; have v29 : a.tmps[88]?.getD undef = _ := hd 29 (of_decide_eq_true (by kernel_rfl)) 0 _ _ rfl rfl; have gd := tmp_bool v29; have e10 := hF.2.2 10 (by decide); simp at e10; clear hd hF; refine wpOp_step rfl (fun K' hK => ?_); go_simp; exact hK _ _ ⟨_, rfl, Below.refl _ _, cst_ok⟩
      apply RegW.val 31 rfl
      · intro a w' hF hB hd; have v29 : a.tmps[88]?.getD undef = _ := hd 29 (of_decide_eq_true (by kernel_rfl)) 1 _ _ rfl rfl; have v30 : a.tmps[89]?.getD undef = _ := hd 30 (of_decide_eq_true (by kernel_rfl)) 0 _ _ rfl rfl; have gd := tmp_bool v29; clear hd hF; have hk := (HQ.out.2.1).keep hB; have k0 := hk.cell 0; have k1 := hk.cell 1; have kz := hk.lt; simp at k0 k1; refine wpOp_step rfl (fun K' hK => ?_); go_simp; exact hK _ _ ⟨_, rfl, Below.refl _ _, cst_ok⟩
      refine RegW.op 32 rfl (cst (.bool false)) ?_ ?_
      · intro a w' hF hB hd; have v29 : a.tmps[88]?.getD undef = _ := hd 29 (of_decide_eq_true (by kernel_rfl)) 2 _ _ rfl rfl; have v31 : a.tmps[90]?.getD undef = _ := hd 31 (of_decide_eq_true (by kernel_rfl)) 0 _ _ rfl rfl; have gd := tmp_bool v29; clear hd hF; refine wpOp_step rfl (fun K' hK => ?_); go_simp; exact hK _ _ ⟨_, rfl, Below.refl _ _, cst_ok⟩
      apply RegW.val 33 rfl
      · intro a w' hF hB hd; have v29 : a.tmps[88]?.getD undef = _ := hd 29 (of_decide_eq_true (by kernel_rfl)) 3 _ _ rfl rfl; have v32 : a.tmps[91]?.getD undef = _ := hd 32 (of_decide_eq_true (by kernel_rfl)) 0 _ _ rfl rfl; clear hd hF; refine wpOp_step rfl (fun K' hK => ?_); go_simp; exact hK _ _ ⟨_, rfl, Below.refl _ _, cst_ok⟩
      apply RegW.val 34 rfl
      · intro a w' hF hB hd; have v33 : a.tmps[92]?.getD undef = _ := hd 33 (of_decide_eq_true (by kernel_rfl)) 0 _ _ rfl rfl; clear hd hF; refine wpOp_step rfl (fun K' hK => ?_); go_simp; exact hK _ _ ⟨_, rfl, Below.refl _ _, cst_ok⟩
      apply RegW.val 35 rfl
      · intro a w' hF hB hd; have v34 : a.tmps[93]?.getD undef = _ := hd 34 (of_decide_eq_true (by kernel_rfl)) 0 _ _ rfl rfl; have gd := tmp_bool v34; have e10 := hF.2.2 10 (by decide); simp at e10; clear hd hF; refine wpOp_step rfl (fun K' hK => ?_); go_simp; exact hK _ _ ⟨_, rfl, Below.refl _ _, cst_ok⟩
      apply RegW.val 36 rfl
      · intro a w' hF hB hd; have v34 : a.tmps[93]?.getD undef = _ := hd 34 (of_decide_eq_true (by kernel_rfl)) 1 _ _ rfl rfl; have v35 : a.tmps[94]?.getD undef = _ := hd 35 (of_decide_eq_true (by kernel_rfl)) 0 _ _ rfl rfl; have gd := tmp_bool v34; clear hd hF; have hk := (HQ.out.2.1).keep hB; have k0 := hk.cell 0; have k1 := hk.cell 1; have kz := hk.lt; simp at k0 k1; refine wpOp_step rfl (fun K' hK => ?_); go_simp; exact hK _ _ ⟨_, rfl, Below.refl _ _, cst_ok⟩
      apply RegW.val 37 rfl
      · intro a w' hF hB hd; have v34 : a.tmps[93]?.getD undef = _ := hd 34 (of_decide_eq_true (by kernel_rfl)) 2 _ _ rfl rfl; have gd := tmp_bool v34; have e5 := hF.2.2 5 (by decide); simp at e5; clear hd hF; refine wpOp_step rfl (fun K' hK => ?_); go_simp; exact hK _ _ ⟨_, rfl, Below.refl _ _, cst_ok⟩
      apply RegW.val 38 rfl
      · intro a w' hF hB hd; have v34 : a.tmps[93]?.getD undef = _ := hd 34 (of_decide_eq_true (by kernel_rfl)) 3 _ _ rfl rfl; have gd := tmp_bool v34; have e10 := hF.2.2 10 (by decide); simp at e10; clear hd hF; refine wpOp_step rfl (fun K' hK => ?_); go_simp; exact hK _ _ ⟨_, rfl, Below.refl _ _, cst_ok⟩
      apply RegW.val 39 rfl
      · intro a w' hF hB hd; have v34 : a.tmps[93]?.getD undef = _ := hd 34 (of_decide_eq_true (by kernel_rfl)) 4 _ _ rfl rfl; have v38 : a.tmps[97]?.getD undef = _ := hd 38 (of_decide_eq_true (by kernel_rfl)) 0 _ _ rfl rfl; have gd := tmp_bool v34; clear hd hF; have hk := (HQ.out.2.1).keep hB; have k0 := hk.cell 0; have k1 := hk.cell 1; have kz := hk.lt; simp at k0 k1; refine wpOp_step rfl (fun K' hK => ?_); go_simp; exact hK _ _ ⟨_, rfl, Below.refl _ _, cst_ok⟩
      refine RegW.op 40 rfl (cst (.int .i64 (k : Int))) ?_ ?_
      · intro a w' hF hB hd; have v34 : a.tmps[93]?.getD undef = _ := hd 34 (of_decide_eq_true (by kernel_rfl)) 5 _ _ rfl rfl; have v39 : a.tmps[98]?.getD undef = _ := hd 39 (of_decide_eq_true (by kernel_rfl)) 0 _ _ rfl rfl; have gd := tmp_bool v34; clear hd hF; refine wpOp_step rfl (fun K' hK => ?_); go_simp; rw [IntWalk.i64_in (k : Int) (by omega)]; exact hK _ _ ⟨_, rfl, Below.refl _ _, cst_ok⟩
      refine RegW.op 41 rfl (cst (.pointer (some ⟨gb, k, none⟩))) ?_ ?_
      · intro a w' hF hB hd; have v34 : a.tmps[93]?.getD undef = _ := hd 34 (of_decide_eq_true (by kernel_rfl)) 6 _ _ rfl rfl; have v37 : a.tmps[96]?.getD undef = _ := hd 37 (of_decide_eq_true (by kernel_rfl)) 3 _ _ rfl rfl; have v40 : a.tmps[99]?.getD undef = _ := hd 40 (of_decide_eq_true (by kernel_rfl)) 0 _ _ rfl rfl; have gd := tmp_bool v34; clear hd hF; have hI : (k : Int) < (m : Int) := (by omega); refine wpOp_step rfl (fun K' hK => ?_); go_simp; exact hK _ _ ⟨_, rfl, Below.refl _ _, cst_ok⟩
      refine RegW.op 42 rfl (cst (.string x)) ?_ ?_
      · intro a w' hF hB hd; have v34 : a.tmps[93]?.getD undef = _ := hd 34 (of_decide_eq_true (by kernel_rfl)) 7 _ _ rfl rfl; have v41 : a.tmps[100]?.getD undef = _ := hd 41 (of_decide_eq_true (by kernel_rfl)) 0 _ _ rfl rfl; have gd := tmp_bool v34; clear hd hF; have m0 := (hB.cell (p := ⟨gb, k, none⟩) HS.out.1).trans HS.out.2; refine wpOp_step rfl (fun K' hK => ?_); go_simp; exact hK _ _ ⟨_, rfl, Below.refl _ _, cst_ok⟩
      apply RegW.val 43 rfl
      · intro a w' hF hB hd; have v34 : a.tmps[93]?.getD undef = _ := hd 34 (of_decide_eq_true (by kernel_rfl)) 8 _ _ rfl rfl; have v42 : a.tmps[101]?.getD undef = _ := hd 42 (of_decide_eq_true (by kernel_rfl)) 0 _ _ rfl rfl; have gd := tmp_bool v34; clear hd hF; refine wpOp_step rfl (fun K' hK => ?_); go_simp; exact hK _ _ ⟨_, rfl, Below.refl _ _, cst_ok⟩
      refine RegW.op 44 rfl (cst (.int .i64 ((x.size : Int) + 1))) ?_ ?_
      · intro a w' hF hB hd; have v34 : a.tmps[93]?.getD undef = _ := hd 34 (of_decide_eq_true (by kernel_rfl)) 9 _ _ rfl rfl; have v43 : a.tmps[102]?.getD undef = _ := hd 43 (of_decide_eq_true (by kernel_rfl)) 0 _ _ rfl rfl; have gd := tmp_bool v34; clear hd hF; refine wpOp_step rfl (fun K' hK => ?_); go_simp; rw [IntWalk.i64_in ((x.size : Int) + 1) (by omega)]; exact hK _ _ ⟨_, rfl, Below.refl _ _, cst_ok⟩
      refine RegW.op 45 rfl (cst (.bool false)) ?_ ?_
      · intro a w' hF hB hd; have v34 : a.tmps[93]?.getD undef = _ := hd 34 (of_decide_eq_true (by kernel_rfl)) 10 _ _ rfl rfl; have v36 : a.tmps[95]?.getD undef = _ := hd 36 (of_decide_eq_true (by kernel_rfl)) 8 _ _ rfl rfl; have v44 : a.tmps[103]?.getD undef = _ := hd 44 (of_decide_eq_true (by kernel_rfl)) 0 _ _ rfl rfl; have gd := tmp_bool v34; clear hd hF; refine wpOp_step rfl (fun K' hK => ?_); go_simp; exact hK _ _ ⟨_, rfl, Below.refl _ _, cst_ok⟩
      apply RegW.val 46 rfl
      · intro a w' hF hB hd; have v34 : a.tmps[93]?.getD undef = _ := hd 34 (of_decide_eq_true (by kernel_rfl)) 11 _ _ rfl rfl; have v45 : a.tmps[104]?.getD undef = _ := hd 45 (of_decide_eq_true (by kernel_rfl)) 0 _ _ rfl rfl; clear hd hF; refine wpOp_step rfl (fun K' hK => ?_); go_simp; exact hK _ _ ⟨_, rfl, Below.refl _ _, cst_ok⟩
      refine RegW.done (fun a w' hF hB hv => ?_)
      have v0 : a.tmps[59]?.getD undef = _ := hv 46 _ _ rfl
      have v1 : a.tmps[60]?.getD undef = _ := hv 45 _ _ rfl
      have v2 : a.tmps[61]?.getD undef = _ := hv 44 _ _ rfl
      have v3 : a.tmps[62]?.getD undef = _ := hv 43 _ _ rfl
      have v4 : a.tmps[63]?.getD undef = _ := hv 42 _ _ rfl
      have v5 : a.tmps[64]?.getD undef = _ := hv 41 _ _ rfl
      have v6 : a.tmps[65]?.getD undef = _ := hv 40 _ _ rfl
      have v7 : a.tmps[66]?.getD undef = _ := hv 39 _ _ rfl
      have v8 : a.tmps[67]?.getD undef = _ := hv 38 _ _ rfl
      have v9 : a.tmps[68]?.getD undef = _ := hv 37 _ _ rfl
      have v10 : a.tmps[69]?.getD undef = _ := hv 36 _ _ rfl
      have v11 : a.tmps[70]?.getD undef = _ := hv 35 _ _ rfl
      have v12 : a.tmps[71]?.getD undef = _ := hv 34 _ _ rfl
      have v13 : a.tmps[72]?.getD undef = _ := hv 33 _ _ rfl
      have v14 : a.tmps[73]?.getD undef = _ := hv 32 _ _ rfl
      have v15 : a.tmps[74]?.getD undef = _ := hv 31 _ _ rfl
      have v16 : a.tmps[75]?.getD undef = _ := hv 30 _ _ rfl
      have v17 : a.tmps[76]?.getD undef = _ := hv 29 _ _ rfl
      have v18 : a.tmps[77]?.getD undef = _ := hv 28 _ _ rfl
      have v19 : a.tmps[78]?.getD undef = _ := hv 27 _ _ rfl
      have v20 : a.tmps[79]?.getD undef = _ := hv 26 _ _ rfl
      have v21 : a.tmps[80]?.getD undef = _ := hv 25 _ _ rfl
      have v22 : a.tmps[81]?.getD undef = _ := hv 24 _ _ rfl
      have v23 : a.tmps[82]?.getD undef = _ := hv 23 _ _ rfl
      have v24 : a.tmps[83]?.getD undef = _ := hv 22 _ _ rfl
      have v25 : a.tmps[84]?.getD undef = _ := hv 21 _ _ rfl
      have v26 : a.tmps[85]?.getD undef = _ := hv 20 _ _ rfl
      have v27 : a.tmps[86]?.getD undef = _ := hv 19 _ _ rfl
      have v28 : a.tmps[87]?.getD undef = _ := hv 18 _ _ rfl
      have v29 : a.tmps[88]?.getD undef = _ := hv 17 _ _ rfl
      have v30 : a.tmps[89]?.getD undef = _ := hv 16 _ _ rfl
      have v31 : a.tmps[90]?.getD undef = _ := hv 15 _ _ rfl
      have v32 : a.tmps[91]?.getD undef = _ := hv 14 _ _ rfl
      have v33 : a.tmps[92]?.getD undef = _ := hv 13 _ _ rfl
      have v34 : a.tmps[93]?.getD undef = _ := hv 12 _ _ rfl
      have v35 : a.tmps[94]?.getD undef = _ := hv 11 _ _ rfl
      have v36 : a.tmps[95]?.getD undef = _ := hv 10 _ _ rfl
      have v37 : a.tmps[96]?.getD undef = _ := hv 9 _ _ rfl
      have v38 : a.tmps[97]?.getD undef = _ := hv 8 _ _ rfl
      have v39 : a.tmps[98]?.getD undef = _ := hv 7 _ _ rfl
      have v40 : a.tmps[99]?.getD undef = _ := hv 6 _ _ rfl
      have v41 : a.tmps[100]?.getD undef = _ := hv 5 _ _ rfl
      have v42 : a.tmps[101]?.getD undef = _ := hv 4 _ _ rfl
      have v43 : a.tmps[102]?.getD undef = _ := hv 3 _ _ rfl
      have v44 : a.tmps[103]?.getD undef = _ := hv 2 _ _ rfl
      have v45 : a.tmps[104]?.getD undef = _ := hv 1 _ _ rfl
      have v46 : a.tmps[105]?.getD undef = _ := hv 0 _ _ rfl
      have hE := hF.out
      rw [hE]
      clear hE hF hv
      simp only [List.foldl_cons, List.foldl_nil, Act.put, List.setIfInBounds_toArray, List.set_cons_zero, List.set_cons_succ, Array.getD_eq_getD_getElem?, v0, v1, v2, v3, v4, v5, v6, v7, v8, v9, v10, v11, v12, v13, v14, v15, v16, v17, v18, v19, v20, v21, v22, v23, v24, v25, v26, v27, v28, v29, v30, v31, v32, v33, v34, v35, v36, v37, v38, v39, v40, v41, v42, v43, v44, v45, v46]
      clear v0 v1 v2 v3 v4 v5 v6 v7 v8 v9 v10 v11 v12 v13 v14 v15 v16 v17 v18 v19 v20 v21 v22 v23 v24 v25 v26 v27 v28 v29 v30 v31 v32 v33 v34 v35 v36 v37 v38 v39 v40 v41 v42 v43 v44 v45 v46

      have HQ := Lib.hid (And.intro (HQ.out.1.keep hB) (And.intro (HQ.out.2.1.keep hB) (HQ.out.2.2.trans (hB.mono HQ.out.2.2.size))))
      have q0 := HQ.out.2.1.cell 0
      have q1 := HQ.out.2.1.cell 1
      have qz := HQ.out.2.1.lt
      have k0 := HQ.out.1.cell 0
      have k1 := HQ.out.1.cell 1
      have f0 := HQ.out.1.frozen 0
      have f1 := HQ.out.1.frozen 1
      have kz := HQ.out.1.lt
      simp at q0 q1 k0 k1
      go_wp2_with fail
      go_roundw
      case rel => exact ⟨i + 1, (k : Int) + 1, Y, by go_num, by omega, .inr ⟨i, rfl, by rw [HPo.out]; simp, by rw [HPo.out]⟩, (HQ.out.1.put 0 _).put 1 _, (HQ.out.2.2.setCell (by simp) _).setCell (by simp) _⟩
      case measure => simp [intOf]; omega
    have g2 : decide ((i : Int) ≤ (s.size : Int)) = false := by simp; omega
    have HK := Lib.hid (And.intro (HK.out.1.keep hB) (HK.out.2.trans (hB.mono HK.out.2.size)))
    clear hP hB hbk HL HJ hgb hgl hsl
    have k0 := HK.out.1.cell 0
    have k1 := HK.out.1.cell 1
    have kz := HK.out.1.lt
    simp at k0 k1
    go_upto_region 21 with (first
      | (go_at_call 27; go_loud (refine (text_p L C _ HW.out.1.1 HW.out.1.2 HW.out.2.1.1 HW.out.2.1.2).mono ?_; rintro e w4 ⟨rfl, hb⟩; have HB4 := Lib.hid hb; clear hb k0 k1 kz))
      | (go_at_call 21; go_loud (refine (read_back HW.out.1 HW.out.2.1 _).mono ?_; rintro e w5 ⟨rfl, hb⟩)))
    have hB := (HB4.out.trans (hb.mono HB4.out.size)).trans ((below_box w5 (.cells #[.int .i64 L, .int .i64 C] 23)).mono (Nat.le_trans HB4.out.size hb.size))
    have HK := Lib.hid (And.intro (HK.out.1.keep hB) (HK.out.2.trans (hB.mono HK.out.2.size)))
    have HX := Lib.hid (Bk.new w5 23 #[.int .i64 L, .int .i64 C])
    clear hb hB HB4
    generalize hg : w5.heap.size = g5 at *
    generalize hw : w5.alloc (.cells #[.int .i64 L, .int .i64 C] 23) = p5 at *
    clear hg hw
    have k0 := HK.out.1.cell 0
    have k1 := HK.out.1.cell 1
    have k2 := HK.out.1.cell 2
    have kz := HK.out.1.lt
    simp at k0 k1 k2
    go_upto_region 22 with (first
      | (go_at_call 17; go_loud (refine (faultText_c L C E _ HW.out.1.1 HW.out.1.2 HW.out.2.1.1 HW.out.2.1.2 HW.out.2.2.1 HW.out.2.2.2).mono ?_; rintro e w6 ⟨rfl, hb⟩; have HB4 := Lib.hid hb; clear hb k0 k1 k2 kz))
      | (go_at_call 23; go_loud (refine (readFault_back HW.out.1 HW.out.2.1 HW.out.2.2 _).mono ?_; rintro e w7 ⟨rfl, hb⟩)))
    have hB := (HB4.out.trans (hb.mono HB4.out.size)).trans ((below_box w7 (.cells #[.int .i64 L, .int .i64 C, .int .i64 E] 45)).mono (Nat.le_trans HB4.out.size hb.size))
    have HK := Lib.hid (And.intro (HK.out.1.keep hB) (HK.out.2.trans (hB.mono HK.out.2.size)))
    have HX := Lib.hid (And.intro (HX.out.keep hB) (Bk.new w7 45 #[.int .i64 L, .int .i64 C, .int .i64 E]))
    clear hb hB HB4
    generalize hg : w7.heap.size = g7 at *
    generalize hw : w7.alloc (.cells #[.int .i64 L, .int .i64 C, .int .i64 E] 45) = p7 at *
    clear hg hw
    have k0 := HK.out.1.cell 0
    have k1 := HK.out.1.cell 1
    have k2 := HK.out.1.cell 2
    have kz := HK.out.1.lt
    have q0 := HX.out.1.cell 0
    have q1 := HX.out.1.cell 1
    have qz := HX.out.1.lt
    have r0 := HX.out.2.cell 0
    have r1 := HX.out.2.cell 1
    have r2 := HX.out.2.cell 2
    have rz := HX.out.2.lt
    simp at k0 k1 k2 q0 q1 r0 r1 r2
    go_wp2_with (go_at_call 7; go_loud (refine (works_c _).mono ?_; rintro e w8 ⟨rfl, hb⟩; have HB := Lib.hid (HK.out.2.trans (hb.mono HK.out.2.size)); clear hb))
    go_ret
    exact ⟨rfl, HB.out⟩
set_option maxRecDepth 100000 in
theorem back_any (s : ByteArray) (L C E : Int) (w : World) (hL : Whl L) (hC : Whl C) (hE : Whl E) :
    Calls Try.prog 5 #[.string s, .agg #[.int .i64 L, .int .i64 C, .int .i64 E]] w fun e w' => e = .returned (.bool true) ∧ Below w.heap.size w w' := by
  by_cases h : s.size ≤ 200
  · exact back_c s L C E w hL hC hE h
  · clear hL hC hE
    have g1 : decide ((200 : Int) < (s.size : Int)) = true := by simp; omega
    go_enter Try.func5, Try.ntmps5
    go_wp2_with (go_at_call 7; refine (works_c _).mono ?_; rintro e w1 ⟨rfl, hb1⟩; have HB := Lib.hid ((below_box w (.cells #[.int .i64 L, .int .i64 C, .int .i64 E] 45)).trans (hb1.mono (below_box w _).size)); clear hb1)
    go_ret
    exact ⟨rfl, HB.out⟩
end Go.Proofs.Ytjocobfabdkadaa
