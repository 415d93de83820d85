/- PosPlaces, walked: whatever the text, the place and the position, the statement returns true, and nothing that was there before has turned. -/
import Derived.Test.YtjocobfabdkadaaPwork
namespace Go.Proofs.Ytjocobfabdkadaa
open Go.RowKit
attribute [local go_sem] alloc_drewN setCell_drewN
set_option maxRecDepth 100000 in
theorem ref_c (L C : Int) (w : World) :
    Calls Try.prog 12 #[.agg #[.int .i64 L, .int .i64 C]] w fun e w' => e = .returned (.agg #[.int .i64 L, .int .i64 C]) ∧ Below w.heap.size w w' := by
  go_enter Try.func12, Try.ntmps12
  go_wp2_with fail
  refine bodyPost_ret (v := .agg #[.int .i64 L, .int .i64 C]) (by simp [results, Try.results12, go_sem]) rfl ⟨rfl, ((Below.refl _ _).alloc (Nat.le_refl _) _).alloc (by simp) _⟩
theorem of_both (s : ByteArray) (i : Int) (hs : s.size ≤ 1000) : ∃ (L C : Int) (b : Bool), (∀ w, Calls Try.prog 8 #[.string s, .int .i64 i] w fun e w' => e = .returned (.tuple #[.agg #[.int .i64 L, .int .i64 C], .bool b]) ∧ Below w.heap.size w w') ∧ (∀ w, Calls Try.prog 9 #[.string s, .int .i64 i] w fun e w' => e = .returned (.tuple #[.agg #[.int .i64 L, .int .i64 C], .bool b]) ∧ Below w.heap.size w w') := by
  by_cases h : i < 0 ∨ (s.size : Int) < i
  · exact ⟨0, 0, false, fun w => of_out s i w h, fun w => rOf_out s i w h⟩
  · obtain ⟨j, rfl⟩ : ∃ j : Nat, i = j := ⟨i.toNat, by omega⟩
    exact ⟨(posAt (bys s) j).1, (posAt (bys s) j).2, true, fun w => of_in s j w hs (by omega), fun w => rOf_in s j w hs (by omega)⟩
theorem map_bys {a b : List ByteArray} (h : a.map bys = b.map bys) : a = b := by
  have := congrArg (List.map str) h
  rw [List.map_map, List.map_map] at this
  have e : (str ∘ bys) = id := funext fun x => str_bys x
  rwa [e, List.map_id, List.map_id] at this
theorem lines_len : ∀ l : List Nat, (linesOf l).length ≤ l.length + 1
  | [] => Nat.le_refl _
  | x :: l => by
    have := lines_len l
    unfold linesOf
    split
    · simp; omega
    · have hne := linesOf_ne l
      cases hl : linesOf l with
      | nil => exact absurd hl hne
      | cons h t => rw [hl] at this; simp at this ⊢; omega
theorem strs_at {w : World} {g gb n cap k : Nat} {ss : List ByteArray} (h : w.ownsRow g 9 1 (.slice (some ⟨gb, 0, none⟩) n cap) n (ss.map Value.string)) (hk : k < n) : ∃ x, w.cell? ⟨gb, k, none⟩ = some (.string x) ∧ w.frozen? ⟨gb, k, none⟩ = false := by
  have hl : ss.length = n := by have := h.1; simpa using this
  have hx : ss[k]? = some (ss[k]'(by omega)) := List.getElem?_eq_getElem _
  refine ⟨ss[k]'(by omega), ?_, h.frozenAt k⟩
  rw [h.cellAt k (by omega)]
  simp [hx]
theorem strs_put {w : World} {g gb n cap : Nat} {ss : List ByteArray} (h : w.ownsRow g 9 1 (.slice (some ⟨gb, 0, none⟩) n cap) n (ss.map Value.string)) (k : Nat) (x : ByteArray) : (w.setCell ⟨gb, k, none⟩ (.string x)).ownsRow g 9 1 (.slice (some ⟨gb, 0, none⟩) n cap) n ((ss.set k x).map Value.string) := by
  have := (h.stored k (.string x)).1
  rwa [show (ss.map Value.string).set k (.string x) = (ss.set k x).map Value.string by simp [List.map_set]] at this
theorem own_rw {w : World} {g gb n c : Nat} {ss : List ByteArray} (h : w.ownsRow g 9 1 (.slice (some ⟨gb, 0, none⟩) n c) n (ss.map Value.string)) (hl : ss.length = n) : RwS w (some ⟨gb, 0, none⟩) n ss := by
  subst hl
  obtain ⟨A, c', e, hr, _⟩ := OwnS.slice h
  simp at e
  obtain ⟨rfl, rfl⟩ := e
  exact hr
theorem OwnS.gr {g : Nat} {w : World} {v : Value} {ss : List ByteArray} {n : Nat} (h : OwnS g w v ss) (hl : ss.length = n) (hn : 0 < n) : ∃ gb c, v = .slice (some ⟨gb, 0, none⟩) n c ∧ g ≤ gb ∧ gb < w.heap.size ∧ w.ownsRow g 9 1 (.slice (some ⟨gb, 0, none⟩) n c) n (ss.map Value.string) := by
  subst hl
  obtain ⟨gb, cap, rfl, h1, h2⟩ := World.ownsRow.form h hn
  exact ⟨gb, cap, rfl, h1, h2, h⟩
theorem strs_keep {g gb n c : Nat} {w w' : World} {ss : List ByteArray} (h : w.ownsRow g 9 1 (.slice (some ⟨gb, 0, none⟩) n c) n (ss.map Value.string)) (hb : Below w.heap.size w w') : w'.ownsRow g 9 1 (.slice (some ⟨gb, 0, none⟩) n c) n (ss.map Value.string) :=
  h.kept (row := none) ⟨hb.os, hb.tape, hb.output, hb.size, fun k hk _ => hb.block k hk⟩ (by simp [Value.ownBlock])
theorem lines_g (s : ByteArray) (w : World) (hs : s.size ≤ 400) :
    Calls Try.prog 13 #[.string s] w fun e w' => ∃ (gb m c : Nat) (ss : List ByteArray), e = .returned (.slice (some ⟨gb, 0, none⟩) m c) ∧ 0 < m ∧ m ≤ 401 ∧ w.heap.size ≤ gb ∧ gb < w'.heap.size ∧ w'.ownsRow w.heap.size 9 1 (.slice (some ⟨gb, 0, none⟩) m c) m (ss.map Value.string) ∧ ss.length = m ∧ ss.map bys = linesOf (bys s) ∧ Below w.heap.size w w' :=
  (lines_c s w (by omega)).mono fun e w' ⟨v, ss, he, ho, hss, hb⟩ => by
    have hln : ss.length = (linesOf (bys s)).length := by rw [← hss, List.length_map]
    have h2 : 0 < (linesOf (bys s)).length := List.length_pos_iff.2 (linesOf_ne _)
    have h3 := lines_len (bys s)
    rw [bys_len] at h3
    obtain ⟨gb, c, rfl, h4, h5, h6⟩ := ho.gr rfl (by omega)
    exact ⟨gb, ss.length, c, ss, he, by omega, by omega, h4, h5, h6, rfl, hss, hb⟩
theorem rLines_g (s : ByteArray) {m : Nat} (ss : List ByteArray) (w : World) (hss : ss.map bys = linesOf (bys s)) (hm : ss.length = m) (hs : s.size ≤ 400) :
    Calls Try.prog 15 #[.string s] w fun e w' => ∃ A c, e = .returned (.slice A m c) ∧ RwS w' A m ss ∧ Below w.heap.size w w' :=
  (rLines_c s w (by omega)).mono fun e w' ⟨v, ts, he, ho, hts, hb⟩ => by
    obtain rfl : ts = ss := map_bys (hts.trans hss.symm)
    subst hm
    obtain ⟨A, c, rfl, hr, _⟩ := ho.slice
    exact ⟨A, c, he, hr, hb⟩
set_option maxRecDepth 100000 in
set_option maxHeartbeats 16000000 in
theorem places_c (s : ByteArray) (i L0 C0 : Int) (w : World) (hs : s.size ≤ 400) (hL : L0 ≤ 9223372036854775807) (hC : C0 ≤ 9223372036854775807) :
    Calls Try.prog 3 #[.string s, .int .i64 i, .agg #[.int .i64 L0, .int .i64 C0]] w fun e w' => e = .returned (.bool true) ∧ Below w.heap.size w w' := by
  have g0 : decide ((400 : Int) < (s.size : Int)) = false := by simp; omega
  obtain ⟨L, C, b, hof, hrof⟩ := of_both s i (by omega)
  have HOF := Lib.hid (And.intro hof hrof)
  obtain ⟨n, hn⟩ : ∃ n : Nat, (plI (bys s) L0 C0).getD 0 = n := ⟨_, rfl⟩
  obtain ⟨f, hf⟩ : ∃ f : Bool, (plI (bys s) L0 C0).isSome = f := ⟨_, rfl⟩
  have HPL := Lib.hid (And.intro hn hf)
  have HP := Lib.hid (Bk.new w 23 #[.int .i64 L0, .int .i64 C0])
  have HB := Lib.hid (below_box w (.cells #[.int .i64 L0, .int .i64 C0] 23))
  clear hof hrof hn hf
  go_enter Try.func3, Try.ntmps3
  go_upto_region 4 with (go_at_call 8; refine (HOF.out.1 _).mono ?_; rintro e w1 ⟨rfl, hb⟩; have hb1 := hb.trans ((below_box w1 (.cells #[.int .i64 L, .int .i64 C] 23)).mono hb.size); have HA := Lib.hid (Bk.new w1 23 #[.int .i64 L, .int .i64 C]); have HP := Lib.hid (HP.out.keep hb1); have HB := Lib.hid (HB.out.trans (hb1.mono HB.out.size)); clear hb hb1)
  generalize hg : w1.heap.size = g7 at *
  generalize hw : w1.alloc (.cells #[.int .i64 L, .int .i64 C] 23) = z1 at *
  clear hg hw
  go_upto_region 5 with (go_at_call 9; refine (HOF.out.2 _).mono ?_; rintro e w2 ⟨rfl, hb⟩; have hb1 := hb.trans ((below_box w2 (.cells #[.int .i64 L, .int .i64 C] 27)).mono hb.size); have HR := Lib.hid (Bk.new w2 27 #[.int .i64 L, .int .i64 C]); have HA := Lib.hid (HA.out.keep hb1); have HP := Lib.hid (HP.out.keep hb1); have HB := Lib.hid (HB.out.trans (hb1.mono HB.out.size)); clear hb hb1)
  generalize hg : w2.heap.size = g9 at *
  generalize hw : w2.alloc (.cells #[.int .i64 L, .int .i64 C] 27) = z2 at *
  clear hg hw
  have p0 := HP.out.cell 0
  have p1 := HP.out.cell 1
  have pz := HP.out.lt
  simp at p0 p1
  go_upto_region 7 with (first
    | (go_at_call 10; refine (place_c s L0 C0 _ (by omega) hL hC).mono ?_; rintro e w3 ⟨rfl, hb⟩; rw [HPL.out.1, HPL.out.2]; clear p0 p1 pz; have HR := Lib.hid (HR.out.keep hb); have HA := Lib.hid (HA.out.keep hb); have HP := Lib.hid (HP.out.keep hb); have HB := Lib.hid (HB.out.trans (hb.mono HB.out.size)); clear hb; have p0 := HP.out.cell 0; have p1 := HP.out.cell 1; have pz := HP.out.lt; simp at p0 p1)
    | (go_at_call 12; refine (ref_c L0 C0 _).mono ?_; rintro e w4 ⟨rfl, hb⟩; clear p0 p1 pz; have HR := Lib.hid (HR.out.keep hb); have HA := Lib.hid (HA.out.keep hb); have HB := Lib.hid (HB.out.trans (hb.mono HB.out.size)); clear hb)
    | (go_at_call 11; refine (rPlace_c s L0 C0 _ (by omega)).mono ?_; rintro e w5 ⟨rfl, hb⟩; rw [HPL.out.1, HPL.out.2]; have HR := Lib.hid (HR.out.keep hb); have HA := Lib.hid (HA.out.keep hb); have HB := Lib.hid (HB.out.trans (hb.mono HB.out.size)); clear hb))
  have HK := Lib.hid (And.intro HA.out (And.intro HR.out HB.out))
  clear HA HR HB HP HPL HOF
  go_wp2_with fail
  go_loopw [15] (fun v wr => ∃ t : Nat, v = .int .i64 t ∧ t ≤ 2 ∧ Bk wr g7 23 #[.int .i64 L, .int .i64 C] ∧ Bk wr g9 27 #[.int .i64 L, .int .i64 C] ∧ Below w.heap.size w wr) (fun v _ => 2 - (intOf v).toNat)
  case atStart => exact ⟨0, rfl, by decide, HK.out.1, HK.out.2.1, HK.out.2.2⟩
  case round =>
    clear HK
    obtain ⟨t, rfl, ht, hA, hR, hB⟩ := hrel
    have HK := Lib.hid (And.intro hA (And.intro hR hB))
    clear hA hR hB
    by_cases ht2 : t < 2
    · have g1 : decide ((t : Int) < 2) = true := by simp; omega
      obtain ⟨wo, rfl⟩ : ∃ wo : World, wo = wr := ⟨_, rfl⟩
      go_upto_region 11 with (go_at_call 13; refine (lines_g s _ hs).mono ?_; rintro e w6 ⟨gb, m, c6, ss, rfl, hm0, hm4, hgb, hgl, hG, hsm, hss, hb⟩; have hg7 := HK.out.1.lt; have hg9 := HK.out.2.1.lt; have hws := HK.out.2.2.size; have HD := Lib.hid (And.intro (Nat.lt_of_lt_of_le hg7 hgb) (And.intro (Nat.lt_of_lt_of_le hg9 hgb) (Nat.le_trans hws hgb))); have HG := Lib.hid (And.intro hG (And.intro hss hsm)); have HK := Lib.hid (And.intro (HK.out.1.keep hb) (And.intro (HK.out.2.1.keep hb) (HK.out.2.2.trans (hb.mono HK.out.2.2.size)))); clear hgb hgl hG hsm hss hb hg7 hg9 hws)
      go_upto_region 13 with (first
        | (go_at_call 15; refine (rLines_g s _ _ HG.out.2.1 HG.out.2.2 hs).mono ?_; rintro e w7 ⟨A7, c7, rfl, hr7, hb⟩; have HS := Lib.hid (And.intro hr7 (And.intro (strs_keep HG.out.1 hb) HG.out.2.2)); have HK := Lib.hid (And.intro (HK.out.1.keep hb) (And.intro (HK.out.2.1.keep hb) (HK.out.2.2.trans (hb.mono HK.out.2.2.size)))); clear hb hr7 HG)
        | (go_at_call 14; refine (sameTexts_c _ _ m _ _ ss _ (own_rw HS.out.2.1 HS.out.2.2) HS.out.1 (by omega)).mono ?_; rintro e w8 ⟨rfl, q, rfl⟩; have HS2 := Lib.hid (show (w7.drewN q).ownsRow wo.heap.size 9 1 (.slice (some ⟨gb, 0, none⟩) m c6) m (ss.map Value.string) from HS.out.2.1); have HK := Lib.hid (show Bk (w7.drewN q) g7 23 #[.int .i64 L, .int .i64 C] ∧ Bk (w7.drewN q) g9 27 #[.int .i64 L, .int .i64 C] ∧ Below w.heap.size w (w7.drewN q) from ⟨HK.out.1, HK.out.2.1, below_drewN HK.out.2.2 q⟩); clear HS))
      generalize hw : w7.drewN q = z7 at *
      clear hw
      go_wp2_with fail
      go_loopw [17] (fun v wr => ∃ (k : Nat) (qs : List ByteArray), v = .int .i64 k ∧ k ≤ m ∧ wr.ownsRow wo.heap.size 9 1 (.slice (some ⟨gb, 0, none⟩) m c6) m (qs.map Value.string) ∧ Bk wr g7 23 #[.int .i64 L, .int .i64 C] ∧ Bk wr g9 27 #[.int .i64 L, .int .i64 C] ∧ Below w.heap.size w wr) (fun v _ => m - (intOf v).toNat)
      case atStart => exact ⟨0, ss, rfl, Nat.zero_le _, HS2.out, HK.out⟩
      case round =>
        clear HK HS2
        obtain ⟨k, qs, rfl, hk, hG, hA, hR, hB⟩ := hrel
        by_cases hkm : k < m
        · have g2 : decide ((k : Int) < (m : Int)) = true := by simp; omega
          obtain ⟨y, hy, hfy⟩ := strs_at hG hkm
          have HK := Lib.hid (And.intro hG (And.intro hA (And.intro hR hB)))
          clear hG hA hR hB
          go_wp2_with fail
          go_roundw
          case rel => exact ⟨k + 1, qs.set k ⟨#[120]⟩, by go_num, by omega, strs_put HK.out.1 k _, HK.out.2.1.far (Nat.ne_of_lt HD.out.1) _, HK.out.2.2.1.far (Nat.ne_of_lt HD.out.2.1) _, HK.out.2.2.2.setCell HD.out.2.2 _⟩
          case measure => simp [intOf]; omega
        · have g2 : decide ((k : Int) < (m : Int)) = false := by simp; omega
          have HK := Lib.hid (And.intro hA (And.intro hR hB))
          clear hG hA hR hB
          go_wp2_with fail
          go_roundw
          case rel => exact ⟨t + 1, by go_num, by omega, HK.out.1, HK.out.2.1, HK.out.2.2⟩
          case measure => simp [intOf]; omega
    · have g1 : decide ((t : Int) < 2) = false := by simp; omega
      clear ht ht2
      go_upto_region 17 with fail
      refine wp_region_walk [0, 1, 2, 3, 4, 5, 6, 7, 8, 9, 10, 11, 12, 13, 14, 15, 16, 17, 18, 19, 20, 21, 22] [67, 68, 69, 70, 71, 72, 73, 74, 75, 76, 77, 78, 79, 80, 81, 82, 83, 84, 85, 86, 87, 88, 6] 0 (by kernel_rfl) (by kernel_rfl) (by kernel_rfl) rfl (by simp) (by kernel_rfl) (by kernel_rfl) ?_
      apply RegW.val 0 rfl
      · intro a w' hF hB hd; have e7 := hF.2.2 7 (by decide); simp at e7; clear hd hF; have hk := (HK.out.1).keep hB; have k0 := hk.cell 0; have k1 := hk.cell 1; have kz := hk.lt; simp at k0 k1; refine wpOp_step rfl (fun K' hK => ?_); go_simp; exact hK _ _ ⟨_, rfl, Below.refl _ _, cst_ok⟩
      apply RegW.val 1 rfl
      · intro a w' hF hB hd; have v0 : a.tmps[67]?.getD undef = _ := hd 0 (of_decide_eq_true (by kernel_rfl)) 0 _ _ rfl rfl; clear hd hF; refine wpOp_step rfl (fun K' hK => ?_); go_simp; refine (ref_c L C _).mono ?_; rintro e w2 ⟨rfl, hb⟩; exact hK _ _ ⟨_, rfl, hb, cst_ok⟩
      apply RegW.val 2 rfl
      · intro a w' hF hB hd; have e9 := hF.2.2 9 (by decide); simp at e9; clear hd hF; have hk := (HK.out.2.1).keep hB; have k0 := hk.cell 0; have k1 := hk.cell 1; have kz := hk.lt; simp at k0 k1; refine wpOp_step rfl (fun K' hK => ?_); go_simp; exact hK _ _ ⟨_, rfl, Below.refl _ _, cst_ok⟩
      apply RegW.val 3 rfl
      · intro a w' hF hB hd; have v1 : a.tmps[68]?.getD undef = _ := hd 1 (of_decide_eq_true (by kernel_rfl)) 1 _ _ rfl rfl; have v2 : a.tmps[69]?.getD undef = _ := hd 2 (of_decide_eq_true (by kernel_rfl)) 0 _ _ rfl rfl; clear hd hF; refine wpOp_step rfl (fun K' hK => ?_); go_simp; exact hK _ _ ⟨_, rfl, Below.refl _ _, cst_ok⟩
      apply RegW.val 4 rfl
      · intro a w' hF hB hd; have v3 : a.tmps[70]?.getD undef = _ := hd 3 (of_decide_eq_true (by kernel_rfl)) 0 _ _ rfl rfl; clear hd hF; refine wpOp_step rfl (fun K' hK => ?_); go_simp; exact hK _ _ ⟨_, rfl, Below.refl _ _, cst_ok⟩
      apply RegW.val 5 rfl
      · intro a w' hF hB hd; have v4 : a.tmps[71]?.getD undef = _ := hd 4 (of_decide_eq_true (by kernel_rfl)) 0 _ _ rfl rfl; have gd := tmp_bool v4; have e8 := hF.2.2 8 (by decide); simp at e8; clear hd hF; refine wpOp_step rfl (fun K' hK => ?_); go_simp; exact hK _ _ ⟨_, rfl, Below.refl _ _, cst_ok⟩
      apply RegW.val 6 rfl
      · intro a w' hF hB hd; have v4 : a.tmps[71]?.getD undef = _ := hd 4 (of_decide_eq_true (by kernel_rfl)) 1 _ _ rfl rfl; have gd := tmp_bool v4; have e10 := hF.2.2 10 (by decide); simp at e10; clear hd hF; refine wpOp_step rfl (fun K' hK => ?_); go_simp; exact hK _ _ ⟨_, rfl, Below.refl _ _, cst_ok⟩
      apply RegW.val 7 rfl
      · intro a w' hF hB hd; have v4 : a.tmps[71]?.getD undef = _ := hd 4 (of_decide_eq_true (by kernel_rfl)) 2 _ _ rfl rfl; have v5 : a.tmps[72]?.getD undef = _ := hd 5 (of_decide_eq_true (by kernel_rfl)) 1 _ _ rfl rfl; have v6 : a.tmps[73]?.getD undef = _ := hd 6 (of_decide_eq_true (by kernel_rfl)) 0 _ _ rfl rfl; have gd := tmp_bool v4; clear hd hF; refine wpOp_step rfl (fun K' hK => ?_); go_simp; exact hK _ _ ⟨_, rfl, Below.refl _ _, cst_ok⟩
      apply RegW.val 8 rfl
      · intro a w' hF hB hd; have v4 : a.tmps[71]?.getD undef = _ := hd 4 (of_decide_eq_true (by kernel_rfl)) 3 _ _ rfl rfl; have v7 : a.tmps[74]?.getD undef = _ := hd 7 (of_decide_eq_true (by kernel_rfl)) 0 _ _ rfl rfl; clear hd hF; refine wpOp_step rfl (fun K' hK => ?_); go_simp; exact hK _ _ ⟨_, rfl, Below.refl _ _, cst_ok⟩
      apply RegW.val 9 rfl
      · intro a w' hF hB hd; have v8 : a.tmps[75]?.getD undef = _ := hd 8 (of_decide_eq_true (by kernel_rfl)) 0 _ _ rfl rfl; clear hd hF; refine wpOp_step rfl (fun K' hK => ?_); go_simp; exact hK _ _ ⟨_, rfl, Below.refl _ _, cst_ok⟩
      apply RegW.val 10 rfl
      · intro a w' hF hB hd; have v9 : a.tmps[76]?.getD undef = _ := hd 9 (of_decide_eq_true (by kernel_rfl)) 0 _ _ rfl rfl; have gd := tmp_bool v9; have e11 := hF.2.2 11 (by decide); simp at e11; clear hd hF; refine wpOp_step rfl (fun K' hK => ?_); go_simp; exact hK _ _ ⟨_, rfl, Below.refl _ _, cst_ok⟩
      apply RegW.val 11 rfl
      · intro a w' hF hB hd; have v9 : a.tmps[76]?.getD undef = _ := hd 9 (of_decide_eq_true (by kernel_rfl)) 1 _ _ rfl rfl; have gd := tmp_bool v9; have e13 := hF.2.2 13 (by decide); simp at e13; clear hd hF; refine wpOp_step rfl (fun K' hK => ?_); go_simp; exact hK _ _ ⟨_, rfl, Below.refl _ _, cst_ok⟩
      apply RegW.val 12 rfl
      · intro a w' hF hB hd; have v9 : a.tmps[76]?.getD undef = _ := hd 9 (of_decide_eq_true (by kernel_rfl)) 2 _ _ rfl rfl; have v10 : a.tmps[77]?.getD undef = _ := hd 10 (of_decide_eq_true (by kernel_rfl)) 1 _ _ rfl rfl; have v11 : a.tmps[78]?.getD undef = _ := hd 11 (of_decide_eq_true (by kernel_rfl)) 0 _ _ rfl rfl; have gd := tmp_bool v9; clear hd hF; refine wpOp_step rfl (fun K' hK => ?_); go_simp; exact hK _ _ ⟨_, rfl, Below.refl _ _, cst_ok⟩
      apply RegW.val 13 rfl
      · intro a w' hF hB hd; have v9 : a.tmps[76]?.getD undef = _ := hd 9 (of_decide_eq_true (by kernel_rfl)) 3 _ _ rfl rfl; have v12 : a.tmps[79]?.getD undef = _ := hd 12 (of_decide_eq_true (by kernel_rfl)) 0 _ _ rfl rfl; clear hd hF; refine wpOp_step rfl (fun K' hK => ?_); go_simp; exact hK _ _ ⟨_, rfl, Below.refl _ _, cst_ok⟩
      apply RegW.val 14 rfl
      · intro a w' hF hB hd; have v13 : a.tmps[80]?.getD undef = _ := hd 13 (of_decide_eq_true (by kernel_rfl)) 0 _ _ rfl rfl; clear hd hF; refine wpOp_step rfl (fun K' hK => ?_); go_simp; exact hK _ _ ⟨_, rfl, Below.refl _ _, cst_ok⟩
      apply RegW.val 15 rfl
      · intro a w' hF hB hd; have v14 : a.tmps[81]?.getD undef = _ := hd 14 (of_decide_eq_true (by kernel_rfl)) 0 _ _ rfl rfl; have gd := tmp_bool v14; have e12 := hF.2.2 12 (by decide); simp at e12; clear hd hF; refine wpOp_step rfl (fun K' hK => ?_); go_simp; exact hK _ _ ⟨_, rfl, Below.refl _ _, cst_ok⟩
      apply RegW.val 16 rfl
      · intro a w' hF hB hd; have v14 : a.tmps[81]?.getD undef = _ := hd 14 (of_decide_eq_true (by kernel_rfl)) 1 _ _ rfl rfl; have gd := tmp_bool v14; have e14 := hF.2.2 14 (by decide); simp at e14; clear hd hF; refine wpOp_step rfl (fun K' hK => ?_); go_simp; exact hK _ _ ⟨_, rfl, Below.refl _ _, cst_ok⟩
      apply RegW.val 17 rfl
      · intro a w' hF hB hd; have v14 : a.tmps[81]?.getD undef = _ := hd 14 (of_decide_eq_true (by kernel_rfl)) 2 _ _ rfl rfl; have v15 : a.tmps[82]?.getD undef = _ := hd 15 (of_decide_eq_true (by kernel_rfl)) 1 _ _ rfl rfl; have v16 : a.tmps[83]?.getD undef = _ := hd 16 (of_decide_eq_true (by kernel_rfl)) 0 _ _ rfl rfl; have gd := tmp_bool v14; clear hd hF; refine wpOp_step rfl (fun K' hK => ?_); go_simp; exact hK _ _ ⟨_, rfl, Below.refl _ _, cst_ok⟩
      apply RegW.val 18 rfl
      · intro a w' hF hB hd; have v14 : a.tmps[81]?.getD undef = _ := hd 14 (of_decide_eq_true (by kernel_rfl)) 3 _ _ rfl rfl; have v17 : a.tmps[84]?.getD undef = _ := hd 17 (of_decide_eq_true (by kernel_rfl)) 0 _ _ rfl rfl; clear hd hF; refine wpOp_step rfl (fun K' hK => ?_); go_simp; exact hK _ _ ⟨_, rfl, Below.refl _ _, cst_ok⟩
      apply RegW.val 19 rfl
      · intro a w' hF hB hd; have v18 : a.tmps[85]?.getD undef = _ := hd 18 (of_decide_eq_true (by kernel_rfl)) 0 _ _ rfl rfl; clear hd hF; refine wpOp_step rfl (fun K' hK => ?_); go_simp; exact hK _ _ ⟨_, rfl, Below.refl _ _, cst_ok⟩
      refine RegW.op 20 rfl (cst (.bool true)) ?_ ?_
      · intro a w' hF hB hd; have v19 : a.tmps[86]?.getD undef = _ := hd 19 (of_decide_eq_true (by kernel_rfl)) 0 _ _ rfl rfl; have gd := tmp_bool v19; clear hd hF; refine wpOp_step rfl (fun K' hK => ?_); go_simp; refine (works_c _).mono ?_; rintro e w2 ⟨rfl, hb⟩; exact hK _ _ ⟨_, rfl, hb, cst_ok⟩
      apply RegW.val 21 rfl
      · intro a w' hF hB hd; have v19 : a.tmps[86]?.getD undef = _ := hd 19 (of_decide_eq_true (by kernel_rfl)) 1 _ _ rfl rfl; have v20 : a.tmps[87]?.getD undef = _ := hd 20 (of_decide_eq_true (by kernel_rfl)) 0 _ _ rfl rfl; clear hd hF; refine wpOp_step rfl (fun K' hK => ?_); go_simp; exact hK _ _ ⟨_, rfl, Below.refl _ _, cst_ok⟩
      apply RegW.val 22 rfl
      · intro a w' hF hB hd; have v21 : a.tmps[88]?.getD undef = _ := hd 21 (of_decide_eq_true (by kernel_rfl)) 0 _ _ rfl rfl; clear hd hF; refine wpOp_step rfl (fun K' hK => ?_); go_simp; exact hK _ _ ⟨_, rfl, Below.refl _ _, cst_ok⟩
      refine RegW.done (fun a w' hF hB hv => ?_)
      have v0 : a.tmps[67]?.getD undef = _ := hv 22 _ _ rfl
      have v1 : a.tmps[68]?.getD undef = _ := hv 21 _ _ rfl
      have v2 : a.tmps[69]?.getD undef = _ := hv 20 _ _ rfl
      have v3 : a.tmps[70]?.getD undef = _ := hv 19 _ _ rfl
      have v4 : a.tmps[71]?.getD undef = _ := hv 18 _ _ rfl
      have v5 : a.tmps[72]?.getD undef = _ := hv 17 _ _ rfl
      have v6 : a.tmps[73]?.getD undef = _ := hv 16 _ _ rfl
      have v7 : a.tmps[74]?.getD undef = _ := hv 15 _ _ rfl
      have v8 : a.tmps[75]?.getD undef = _ := hv 14 _ _ rfl
      have v9 : a.tmps[76]?.getD undef = _ := hv 13 _ _ rfl
      have v10 : a.tmps[77]?.getD undef = _ := hv 12 _ _ rfl
      have v11 : a.tmps[78]?.getD undef = _ := hv 11 _ _ rfl
      have v12 : a.tmps[79]?.getD undef = _ := hv 10 _ _ rfl
      have v13 : a.tmps[80]?.getD undef = _ := hv 9 _ _ rfl
      have v14 : a.tmps[81]?.getD undef = _ := hv 8 _ _ rfl
      have v15 : a.tmps[82]?.getD undef = _ := hv 7 _ _ rfl
      have v16 : a.tmps[83]?.getD undef = _ := hv 6 _ _ rfl
      have v17 : a.tmps[84]?.getD undef = _ := hv 5 _ _ rfl
      have v18 : a.tmps[85]?.getD undef = _ := hv 4 _ _ rfl
      have v19 : a.tmps[86]?.getD undef = _ := hv 3 _ _ rfl
      have v20 : a.tmps[87]?.getD undef = _ := hv 2 _ _ rfl
      have v21 : a.tmps[88]?.getD undef = _ := hv 1 _ _ rfl
      have v22 : a.tmps[6]?.getD undef = _ := hv 0 _ _ rfl
      have hE := hF.out
      rw [hE]
      clear hE hF hv
      simp only [List.foldl_cons, List.foldl_nil, Act.put, List.setIfInBounds_toArray, List.set_cons_zero, List.set_cons_succ, Array.getD_eq_getD_getElem?, v0, v1, v2, v3, v4, v5, v6, v7, v8, v9, v10, v11, v12, v13, v14, v15, v16, v17, v18, v19, v20, v21, v22]
      clear v0 v1 v2 v3 v4 v5 v6 v7 v8 v9 v10 v11 v12 v13 v14 v15 v16 v17 v18 v19 v20 v21 v22

      go_wp2_with fail
      go_ret
      exact ⟨rfl, HK.out.2.2.trans (hB.mono HK.out.2.2.size)⟩
end Go.Proofs.Ytjocobfabdkadaa
