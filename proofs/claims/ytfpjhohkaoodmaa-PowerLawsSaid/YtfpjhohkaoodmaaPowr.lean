/- The document's powers and sums of powers, by contract: caps of at most 12 limbs, numbers of at most 6. -/
import Derived.Test.YtfpjhohkaoodmaaPowp
import Derived.Test.YtfpjhohkaoodmaaNatb
import Derived.Deep.DeepCutAuto
namespace Go.Proofs.Ytfpjhohkaoodmaa
open Go.RowKit
attribute [local go_sem] alloc_drewN setCell_drewN
theorem geo_plus (N : Nat) : ∀ k, geo N k + N ^ k = geo N (k + 1)
  | 0 => by simp [geo]
  | k + 1 => by
    have h2 := congrArg (· * N) (geo_plus N k)
    simp only [Nat.add_mul] at h2
    rw [Nat.pow_succ]
    show geo N k * N + 1 + N ^ k * N = geo N (k + 1) * N + 1
    omega
/-- M, and whether it fits under the cap. Nothing that was there before has turned. -/
def BytOk (w : World) (c : Int) (M : Nat) (e : Ending) (w' : World) : Prop :=
  ∃ x, e = .returned (.tuple #[x, .bool (fitB c M)]) ∧ (fitB c M = true → IsByt w' x M) ∧ Below w.heap.size w w'
theorem BytOk.mk {w w' : World} {c : Int} {M : Nat} {x : Value} {b : Bool} (hb : fitB c M = b) (h : b = true → IsByt w' x M) (hB : Below w.heap.size w w') : BytOk w c M (.returned (.tuple #[x, .bool b])) w' := by
  subst hb
  exact ⟨x, rfl, h, hB⟩
theorem one_r (w : World) : Calls Try.prog 34 #[] w fun e w' => (∃ A n d, e = .returned (.slice A n d) ∧ IsByt w' (.slice A n d) 1) ∧ Below w.heap.size w w' := by
  have h : IsByt (w.alloc (.cells #[.int .u8 1] 5)) (.slice (some ⟨w.heap.size, 0, none⟩) 1 1) 1 := ⟨_, _, _, [1], rfl, rw_new w 1 _, ⟨by intro x hx; simp at hx; omega, by simp [val], by simp [trimLen]⟩, Nat.le_refl _⟩
  have HH := Lib.hid h
  clear h
  go_enter Try.func34, Try.ntmps34
  go_wp2
  go_ret
  exact ⟨⟨_, _, _, rfl, HH.out⟩, (Below.refl _ _).alloc (Nat.le_refl _) _⟩
theorem over_r {b : Bool} (v : Value) (N : Nat) (c : Int) (w : World) (hv : IsByt w v N) (hN : Fits N 200) (hb0 : fitB c N = b) :
    Calls Try.prog 35 #[v, .int .i64 c] w fun e w' => e = .returned (.bool (!b)) ∧ Below w.heap.size w w' := by
  have HV := Lib.hid hv
  have HB := Lib.hid hb0
  clear hv hb0
  go_enter Try.func35, Try.ntmps35
  go_wp2_with (go_at_call 48; refine (rFits_w HV.out hN HB.out).mono ?_; rintro e w1 ⟨rfl, hb⟩)
  go_ret
  exact ⟨rfl, hb⟩
theorem number_r (n : Nat) (w : World) (hn : n < 18446744073709551616) : Calls Try.prog 41 #[.int .u64 n] w fun e w' => (∃ x, e = .returned x ∧ IsByt w' x n) ∧ Below w.heap.size w w' := by
  have hr := rw_new (k := .u64) w n 23
  have b1 : Below w.heap.size w (w.alloc (.cells #[.int .u64 n] 23)) := (Below.refl _ _).alloc (Nat.le_refl _) _
  have HR := Lib.hid (And.intro hr b1)
  clear hr b1
  go_enter Try.func41, Try.ntmps41
  go_wp2_with (go_at_call 7; refine (refOf_c _ 1 1 [n] _ HR.out.1 (by intro x hx; simp at hx; omega) (by decide)).mono ?_; rintro e w1 ⟨x, rfl, hx, hb⟩; have HX := Lib.hid (And.intro hx (HR.out.2.trans (hb.mono HR.out.2.size))); clear hx hb)
  go_ret
  exact ⟨⟨_, rfl, by have := HX.out.1; simpa [val] using this⟩, HX.out.2⟩
theorem small_r (v : Value) (N : Nat) (w : World) (hv : IsByt w v N) (hN : Fits N 200) :
    Calls Try.prog 39 #[v] w fun e w' => e = .returned (.bool (decide (N ≤ 1))) ∧ Below w.heap.size w w' := by
  have HV := Lib.hid hv
  clear hv
  obtain ⟨q, hq⟩ : ∃ q, cmpI N 1 = q := ⟨_, rfl⟩
  have HQ := Lib.hid hq
  obtain ⟨b, hb0⟩ : ∃ b, decide (q ≤ 0) = b := ⟨_, rfl⟩
  have hbb : decide (N ≤ 1) = b := by
    rw [← hb0, ← hq]
    unfold cmpI
    split
    · rw [decide_eq_true (show N ≤ 1 by omega)]; rfl
    · split
      · rw [decide_eq_false (show ¬ N ≤ 1 by omega)]; rfl
      · rw [decide_eq_true (show N ≤ 1 by omega)]; rfl
  rw [hbb]
  clear hq hbb
  go_enter Try.func39, Try.ntmps39
  go_wp2_with (first
    | (go_at_call 34; refine (one_r _).mono ?_; rintro e w1 ⟨⟨A, n, d, rfl, hx⟩, hb⟩; have HX := Lib.hid (And.intro hx hb); clear hx hb)
    | (go_at_call 42; refine (rCmp_w (HV.out.keep HX.out.2) HX.out.1 hN (fits1.mono (by decide)) HQ.out).mono ?_; rintro e w2 ⟨rfl, hb⟩; have HY := Lib.hid (HX.out.2.trans (hb.mono HX.out.2.size)); clear hb))
  go_ret
  exact ⟨rfl, HY.out⟩
theorem same_w {b : Bool} {u v : Value} {N M : Nat} {w : World} (hu : IsByt w u N) (hv : IsByt w v M) (hN : Fits N 200) (hM : Fits M 200) (hb : decide (N = M) = b) : Calls Try.prog 15 #[u, v] w fun e w' => e = .returned (.bool b) ∧ Below w.heap.size w w' :=
  hb ▸ refSame_c u v N M w hu hv (hN.bytes.mono (by decide)) (hM.bytes.mono (by decide))
theorem byt_slice {w : World} {v : Value} {N : Nat} (h : IsByt w v N) : ∃ A n d, v = .slice A n d := by
  obtain ⟨A, n, d, _, e, _⟩ := h
  exact ⟨A, n, d, e⟩
theorem byt_len {w : World} {A : Option Addr} {n d N : Nat} (h : IsByt w (.slice A n d) N) : n = 0 ↔ N = 0 := by
  obtain ⟨A', n', d', l, e, hr, hl, _⟩ := h
  injection e with _ e _
  rw [e, ← hr.1]
  exact hl.zero
set_option maxRecDepth 100000 in
set_option maxHeartbeats 4000000 in
theorem rpow_c (c : Int) (v : Value) (N n : Nat) (w : World) (hv : IsByt w v N) (hN : Fits N 6) (hn : n ≤ 1000) (hc : c ≤ 12) :
    Calls Try.prog 10 #[.int .i64 c, v, .int .u64 n] w fun e w' => BytOk w c (N ^ n) e w' := by
  obtain ⟨Aa, na, da, rfl⟩ := byt_slice hv
  have hlen := byt_len hv
  have HV := Lib.hid hv
  have HL := Lib.hid hlen
  have hN200 : Fits N 200 := hN.mono (by decide)
  clear hv hlen
  obtain ⟨b1, hb1⟩ : ∃ b, fitB c 1 = b := ⟨_, rfl⟩
  have HB1 := Lib.hid hb1
  clear hb1
  go_enter Try.func10, Try.ntmps10
  have HB := Lib.hid (Below.refl w.heap.size w)
  by_cases hn0 : n = 0
  · subst hn0
    have HM := Lib.hid (show N ^ 0 = 1 from Nat.pow_zero N)
    have tok1 : True := trivial
    have tok2 : True := trivial
    cases b1
    · go_wp2_with (first | (have _t := tok1; go_at_call 34; refine (one_r _).mono ?_; rintro e w1 ⟨⟨A1, n1, d1, rfl, hx⟩, hb⟩; have HO1 := Lib.hid (And.intro hx hb); have HB := Lib.hid (HB.out.trans (hb.mono HB.out.size)); clear hx hb; clear tok1) | (have _t := tok2; go_at_call 34; refine (one_r _).mono ?_; rintro e w2 ⟨⟨A2, n2, d2, rfl, hx⟩, hb⟩; have HO2 := Lib.hid (And.intro hx hb); have HB := Lib.hid (HB.out.trans (hb.mono HB.out.size)); clear hx hb; clear tok2) | (go_at_call 35; refine (over_r _ 1 c _ HO2.out.1 (fits1.mono (by decide)) HB1.out).mono ?_; rintro e w3 ⟨rfl, hb⟩; have HY := Lib.hid ((HO1.out.1.keep HO2.out.2).keep hb); have HB := Lib.hid (HB.out.trans (hb.mono HB.out.size)); clear hb))
      go_ret2
      exact BytOk.mk (by rw [HM.out]; exact HB1.out) (fun h => by cases h) HB.out
    · go_wp2_with (first | (have _t := tok1; go_at_call 34; refine (one_r _).mono ?_; rintro e w1 ⟨⟨A1, n1, d1, rfl, hx⟩, hb⟩; have HO1 := Lib.hid (And.intro hx hb); have HB := Lib.hid (HB.out.trans (hb.mono HB.out.size)); clear hx hb; clear tok1) | (have _t := tok2; go_at_call 34; refine (one_r _).mono ?_; rintro e w2 ⟨⟨A2, n2, d2, rfl, hx⟩, hb⟩; have HO2 := Lib.hid (And.intro hx hb); have HB := Lib.hid (HB.out.trans (hb.mono HB.out.size)); clear hx hb; clear tok2) | (go_at_call 35; refine (over_r _ 1 c _ HO2.out.1 (fits1.mono (by decide)) HB1.out).mono ?_; rintro e w3 ⟨rfl, hb⟩; have HY := Lib.hid ((HO1.out.1.keep HO2.out.2).keep hb); have HB := Lib.hid (HB.out.trans (hb.mono HB.out.size)); clear hb))
      go_ret2
      exact BytOk.mk (by rw [HM.out]; exact HB1.out) (fun _ => by rw [HM.out]; exact HY.out) HB.out
  · have gn : ((n : Int) == 0) = false := by simp <;> omega
    obtain ⟨b2, hb2⟩ : ∃ b, decide (N = 1) = b := ⟨_, rfl⟩
    have HS := Lib.hid hb2
    by_cases hN1 : N = 1
    · obtain rfl : b2 = true := by rw [← hb2]; exact decide_eq_true hN1
      have HM := Lib.hid (show N ^ n = 1 by rw [hN1]; exact Nat.one_pow n)
      clear hb2
      go_upto_if 16 with (first | (go_at_call 34; refine (one_r _).mono ?_; rintro e w1 ⟨⟨A1, n1, d1, rfl, hx⟩, hb⟩; have HO := Lib.hid (And.intro hx hb); have HB := Lib.hid (HB.out.trans (hb.mono HB.out.size)); clear hx hb) | (go_at_call 15; refine (same_w (HV.out.keep HO.out.2) HO.out.1 hN200 (fits1.mono (by decide)) HS.out).mono ?_; rintro e w2 ⟨rfl, hb⟩; have HB := Lib.hid (HB.out.trans (hb.mono HB.out.size)); clear hb))
      have tok1 : True := trivial
      have tok2 : True := trivial
      cases b1
      · go_wp2_with (first | (have _t := tok1; go_at_call 34; refine (one_r _).mono ?_; rintro e w1 ⟨⟨A1, n1, d1, rfl, hx⟩, hb⟩; have HO1 := Lib.hid (And.intro hx hb); have HB := Lib.hid (HB.out.trans (hb.mono HB.out.size)); clear hx hb; clear tok1) | (have _t := tok2; go_at_call 34; refine (one_r _).mono ?_; rintro e w2 ⟨⟨A2, n2, d2, rfl, hx⟩, hb⟩; have HO2 := Lib.hid (And.intro hx hb); have HB := Lib.hid (HB.out.trans (hb.mono HB.out.size)); clear hx hb; clear tok2) | (go_at_call 35; refine (over_r _ 1 c _ HO2.out.1 (fits1.mono (by decide)) HB1.out).mono ?_; rintro e w3 ⟨rfl, hb⟩; have HY := Lib.hid ((HO1.out.1.keep HO2.out.2).keep hb); have HB := Lib.hid (HB.out.trans (hb.mono HB.out.size)); clear hb))
        go_ret2
        exact BytOk.mk (by rw [HM.out]; exact HB1.out) (fun h => by cases h) HB.out
      · go_wp2_with (first | (have _t := tok1; go_at_call 34; refine (one_r _).mono ?_; rintro e w1 ⟨⟨A1, n1, d1, rfl, hx⟩, hb⟩; have HO1 := Lib.hid (And.intro hx hb); have HB := Lib.hid (HB.out.trans (hb.mono HB.out.size)); clear hx hb; clear tok1) | (have _t := tok2; go_at_call 34; refine (one_r _).mono ?_; rintro e w2 ⟨⟨A2, n2, d2, rfl, hx⟩, hb⟩; have HO2 := Lib.hid (And.intro hx hb); have HB := Lib.hid (HB.out.trans (hb.mono HB.out.size)); clear hx hb; clear tok2) | (go_at_call 35; refine (over_r _ 1 c _ HO2.out.1 (fits1.mono (by decide)) HB1.out).mono ?_; rintro e w3 ⟨rfl, hb⟩; have HY := Lib.hid ((HO1.out.1.keep HO2.out.2).keep hb); have HB := Lib.hid (HB.out.trans (hb.mono HB.out.size)); clear hb))
        go_ret2
        exact BytOk.mk (by rw [HM.out]; exact HB1.out) (fun _ => by rw [HM.out]; exact HY.out) HB.out
    · obtain rfl : b2 = false := by rw [← hb2]; exact decide_eq_false hN1
      clear hb2
      by_cases hN0 : N = 0
      · have hl0 : ((na : Int) == 0) = true := by have := HL.out.2 hN0; simp [this]
        have HM := Lib.hid (show N ^ n = 0 by rw [hN0]; exact Nat.zero_pow (by omega))
        go_wp2_with (first | (go_at_call 34; refine (one_r _).mono ?_; rintro e w1 ⟨⟨A1, n1, d1, rfl, hx⟩, hb⟩; have HO := Lib.hid (And.intro hx hb); have HB := Lib.hid (HB.out.trans (hb.mono HB.out.size)); clear hx hb) | (go_at_call 15; refine (same_w (HV.out.keep HO.out.2) HO.out.1 hN200 (fits1.mono (by decide)) HS.out).mono ?_; rintro e w2 ⟨rfl, hb⟩; have HB := Lib.hid (HB.out.trans (hb.mono HB.out.size)); clear hb))
        go_ret2
        exact BytOk.mk (by rw [HM.out]; exact fitB_zero c) (fun _ => by rw [HM.out]; exact isByt_nil _) HB.out
      · have hl0 : ((na : Int) == 0) = false := beq_false_of_ne (fun e => hN0 (HL.out.1 (by omega)))
        have hN2 : 2 ≤ N := by omega
        have tok1 : True := trivial
        have tok2 : True := trivial
        go_wp2_with (first | (have _t := tok1; go_at_call 34; refine (one_r _).mono ?_; rintro e w1 ⟨⟨A1, n1, d1, rfl, hx⟩, hb⟩; have HO := Lib.hid (And.intro hx hb); have HB := Lib.hid (HB.out.trans (hb.mono HB.out.size)); clear hx hb tok1) | (go_at_call 15; refine (same_w (HV.out.keep HO.out.2) HO.out.1 hN200 (fits1.mono (by decide)) HS.out).mono ?_; rintro e w2 ⟨rfl, hb⟩; have HB := Lib.hid (HB.out.trans (hb.mono HB.out.size)); clear hb) | (have _t := tok2; go_at_call 34; refine (one_r _).mono ?_; rintro e w2 ⟨⟨A2, n2, d2, rfl, hx⟩, hb⟩; have HO2 := Lib.hid (And.intro hx hb); have HB := Lib.hid (HB.out.trans (hb.mono HB.out.size)); clear hx hb; clear tok2))
        go_loopw [8, 9] (fun s i w1 => ∃ j : Nat, i = .int .u64 j ∧ j ≤ n ∧ IsByt w1 s (N ^ j) ∧ Fits (N ^ j) 18 ∧ Below w.heap.size w w1) (fun _ i _ => n - (intOf i).toNat)
        case atStart => exact ⟨0, rfl, Nat.zero_le _, by rw [Nat.pow_zero]; exact HO2.out.1, by rw [Nat.pow_zero]; exact fits1.mono (by decide), HB.out⟩
        case round =>
          obtain ⟨j, rfl, hj, hx, hf, hB⟩ := hrel
          obtain ⟨A5, n5, d5, rfl⟩ := byt_slice hx
          have HX := Lib.hid (And.intro hx hB)
          clear hx hB
          obtain ⟨b3, hb3⟩ : ∃ b, fitB c (N ^ j) = b := ⟨_, rfl⟩
          have HB3 := Lib.hid hb3
          clear hb3
          by_cases hjn : j < n
          · have g1 : decide ((j : Int) < (n : Int)) = true := by simp <;> omega
            cases b3
            · go_wp2_with (go_at_call 35; refine (over_r _ (N ^ j) c _ HX.out.1 (hf.mono (by decide)) HB3.out).mono ?_; rintro e w6 ⟨rfl, hb⟩; have HY := Lib.hid (HX.out.2.trans (hb.mono HX.out.2.size)); clear hb)
              go_ret2
              exact BytOk.mk (fitB_false HB3.out (pow_mono (by omega) hj)) (fun h => by cases h) HY.out
            · have hf12 : Fits (N ^ j) 12 := fitB_fits (s := 12) HB3.out hc
              go_wp2_with (first | (go_at_call 35; refine (over_r _ (N ^ j) c _ HX.out.1 (hf.mono (by decide)) HB3.out).mono ?_; rintro e w6 ⟨rfl, hb⟩; have HY := Lib.hid (And.intro (HX.out.1.keep hb) (HX.out.2.trans (hb.mono HX.out.2.size))); clear hb) | (go_at_call 36; refine (rMul_w HY.out.1 (HV.out.keep HY.out.2) (hf12.mono (by decide)) (hN.mono (by decide))).mono ?_; rintro e w7 ⟨x, rfl, hx, hb⟩; have HZ := Lib.hid (And.intro hx (HY.out.2.trans (hb.mono HY.out.2.size))); clear hx hb))
              go_roundw
              case rel => exact ⟨j + 1, by go_num, by omega, by rw [Nat.pow_succ]; exact HZ.out.1, by rw [Nat.pow_succ]; exact hf12.mul hN, HZ.out.2⟩
              case measure => simp [intOf] <;> omega
          · obtain rfl : j = n := by omega
            have g1 : decide ((j : Int) < (j : Int)) = false := by simp
            cases b3
            · go_wp2_with (go_at_call 35; refine (over_r _ (N ^ j) c _ HX.out.1 (hf.mono (by decide)) HB3.out).mono ?_; rintro e w6 ⟨rfl, hb⟩; have HY := Lib.hid (And.intro (HX.out.1.keep hb) (HX.out.2.trans (hb.mono HX.out.2.size))); clear hb)
              go_ret2
              exact BytOk.mk HB3.out (fun h => by cases h) HY.out.2
            · go_wp2_with (go_at_call 35; refine (over_r _ (N ^ j) c _ HX.out.1 (hf.mono (by decide)) HB3.out).mono ?_; rintro e w6 ⟨rfl, hb⟩; have HY := Lib.hid (And.intro (HX.out.1.keep hb) (HX.out.2.trans (hb.mono HX.out.2.size))); clear hb)
              go_ret2
              exact BytOk.mk HB3.out (fun _ => HY.out.1) HY.out.2
set_option maxRecDepth 100000 in
set_option maxHeartbeats 4000000 in
theorem rsum_c (c : Int) (v : Value) (N n : Nat) (w : World) (hv : IsByt w v N) (hN : Fits N 6) (hn : n < 18446744073709551616) (hc : c ≤ 12) :
    Calls Try.prog 13 #[.int .i64 c, v, .int .u64 n] w fun e w' => BytOk w c (geo N (n + 1)) e w' := by
  obtain ⟨Aa, na, da, rfl⟩ := byt_slice hv
  have hlen := byt_len hv
  have HV := Lib.hid hv
  have HL := Lib.hid hlen
  have hN200 : Fits N 200 := hN.mono (by decide)
  clear hv hlen
  obtain ⟨b1, hb1⟩ : ∃ b, fitB c 1 = b := ⟨_, rfl⟩
  have HB1 := Lib.hid hb1
  clear hb1
  go_enter Try.func13, Try.ntmps13
  have HB := Lib.hid (Below.refl w.heap.size w)
  by_cases hN0 : N = 0
  · have hl0 : ((na : Int) == 0) = true := by have := HL.out.2 hN0; simp [this]
    have HM := Lib.hid (show geo N (n + 1) = 1 by rw [hN0]; exact geo_zero_base _ (by omega))
    have tok1 : True := trivial
    have tok2 : True := trivial
    cases b1
    · go_wp2_with (first | (have _t := tok1; go_at_call 34; refine (one_r _).mono ?_; rintro e w1 ⟨⟨A1, n1, d1, rfl, hx⟩, hb⟩; have HO1 := Lib.hid (And.intro hx hb); have HB := Lib.hid (HB.out.trans (hb.mono HB.out.size)); clear hx hb tok1) | (have _t := tok2; go_at_call 34; refine (one_r _).mono ?_; rintro e w2 ⟨⟨A2, n2, d2, rfl, hx⟩, hb⟩; have HO2 := Lib.hid (And.intro hx hb); have HB := Lib.hid (HB.out.trans (hb.mono HB.out.size)); clear hx hb tok2) | (go_at_call 35; refine (over_r _ 1 c _ HO2.out.1 (fits1.mono (by decide)) HB1.out).mono ?_; rintro e w3 ⟨rfl, hb⟩; have HY := Lib.hid ((HO1.out.1.keep HO2.out.2).keep hb); have HB := Lib.hid (HB.out.trans (hb.mono HB.out.size)); clear hb))
      go_ret2
      exact BytOk.mk (by rw [HM.out]; exact HB1.out) (fun h => by cases h) HB.out
    · go_wp2_with (first | (have _t := tok1; go_at_call 34; refine (one_r _).mono ?_; rintro e w1 ⟨⟨A1, n1, d1, rfl, hx⟩, hb⟩; have HO1 := Lib.hid (And.intro hx hb); have HB := Lib.hid (HB.out.trans (hb.mono HB.out.size)); clear hx hb tok1) | (have _t := tok2; go_at_call 34; refine (one_r _).mono ?_; rintro e w2 ⟨⟨A2, n2, d2, rfl, hx⟩, hb⟩; have HO2 := Lib.hid (And.intro hx hb); have HB := Lib.hid (HB.out.trans (hb.mono HB.out.size)); clear hx hb tok2) | (go_at_call 35; refine (over_r _ 1 c _ HO2.out.1 (fits1.mono (by decide)) HB1.out).mono ?_; rintro e w3 ⟨rfl, hb⟩; have HY := Lib.hid ((HO1.out.1.keep HO2.out.2).keep hb); have HB := Lib.hid (HB.out.trans (hb.mono HB.out.size)); clear hb))
      go_ret2
      exact BytOk.mk (by rw [HM.out]; exact HB1.out) (fun _ => by rw [HM.out]; exact HY.out) HB.out
  · have hl0 : ((na : Int) == 0) = false := beq_false_of_ne (fun e => hN0 (HL.out.1 (by omega)))
    obtain ⟨b2, hb2⟩ : ∃ b, decide (N ≤ 1) = b := ⟨_, rfl⟩
    have HS := Lib.hid hb2
    by_cases hN1 : N = 1
    · obtain rfl : b2 = true := by rw [← hb2]; exact decide_eq_true (by omega)
      have HM := Lib.hid (show geo N (n + 1) = n + 1 by rw [hN1]; exact geo_one_base _)
      have tok1 : True := trivial
      obtain ⟨b3, hb3⟩ : ∃ b, fitB c (n + 1) = b := ⟨_, rfl⟩
      have HB2 := Lib.hid hb3
      clear hb2 hb3
      cases b3
      · go_wp2_with (first | (go_at_call 39; refine (small_r _ N _ (HV.out.keep HB.out) hN200).mono ?_; rintro e w1 ⟨rfl, hb⟩; rw [HS.out]; have HB := Lib.hid (HB.out.trans (hb.mono HB.out.size)); clear hb) | (go_at_call 41; refine (number_r n _ hn).mono ?_; rintro e w2 ⟨⟨vn, rfl, hx⟩, hb⟩; have HN := Lib.hid hx; have HB := Lib.hid (HB.out.trans (hb.mono HB.out.size)); clear hx hb) | (have _t := tok1; go_at_call 34; refine (one_r _).mono ?_; rintro e w1 ⟨⟨A1, n1, d1, rfl, hx⟩, hb⟩; have HO1 := Lib.hid (And.intro hx hb); have HB := Lib.hid (HB.out.trans (hb.mono HB.out.size)); clear hx hb tok1) | (go_at_call 40; refine (rAdd_w (HN.out.keep HO1.out.2) HO1.out.1 (Fits.mono (s := 1) ⟨by simpa using hn⟩ (by decide)) (fits1.mono (by decide))).mono ?_; rintro e w3 ⟨vs, rfl, hx, hb⟩; have HX := Lib.hid hx; have HB := Lib.hid (HB.out.trans (hb.mono HB.out.size)); clear hx hb) | (go_at_call 35; refine (over_r _ (n + 1) c _ HX.out (fits_add (s := 1) ⟨by simpa using hn⟩ fits1 |>.mono (by decide)) HB2.out).mono ?_; rintro e w4 ⟨rfl, hb⟩; have HY := Lib.hid (HX.out.keep hb); have HB := Lib.hid (HB.out.trans (hb.mono HB.out.size)); clear hb))
        go_ret2
        exact BytOk.mk (by rw [HM.out]; exact HB2.out) (fun h => by cases h) HB.out
      · go_wp2_with (first | (go_at_call 39; refine (small_r _ N _ (HV.out.keep HB.out) hN200).mono ?_; rintro e w1 ⟨rfl, hb⟩; rw [HS.out]; have HB := Lib.hid (HB.out.trans (hb.mono HB.out.size)); clear hb) | (go_at_call 41; refine (number_r n _ hn).mono ?_; rintro e w2 ⟨⟨vn, rfl, hx⟩, hb⟩; have HN := Lib.hid hx; have HB := Lib.hid (HB.out.trans (hb.mono HB.out.size)); clear hx hb) | (have _t := tok1; go_at_call 34; refine (one_r _).mono ?_; rintro e w1 ⟨⟨A1, n1, d1, rfl, hx⟩, hb⟩; have HO1 := Lib.hid (And.intro hx hb); have HB := Lib.hid (HB.out.trans (hb.mono HB.out.size)); clear hx hb tok1) | (go_at_call 40; refine (rAdd_w (HN.out.keep HO1.out.2) HO1.out.1 (Fits.mono (s := 1) ⟨by simpa using hn⟩ (by decide)) (fits1.mono (by decide))).mono ?_; rintro e w3 ⟨vs, rfl, hx, hb⟩; have HX := Lib.hid hx; have HB := Lib.hid (HB.out.trans (hb.mono HB.out.size)); clear hx hb) | (go_at_call 35; refine (over_r _ (n + 1) c _ HX.out (fits_add (s := 1) ⟨by simpa using hn⟩ fits1 |>.mono (by decide)) HB2.out).mono ?_; rintro e w4 ⟨rfl, hb⟩; have HY := Lib.hid (HX.out.keep hb); have HB := Lib.hid (HB.out.trans (hb.mono HB.out.size)); clear hb))
        go_ret2
        exact BytOk.mk (by rw [HM.out]; exact HB2.out) (fun _ => by rw [HM.out]; exact HY.out) HB.out
    · obtain rfl : b2 = false := by rw [← hb2]; exact decide_eq_false (by omega)
      clear hb2
      have hN2 : 2 ≤ N := by omega
      have tok1 : True := trivial
      have tok2 : True := trivial
      go_wp2_with (first | (go_at_call 39; refine (small_r _ N _ (HV.out.keep HB.out) hN200).mono ?_; rintro e w1 ⟨rfl, hb⟩; rw [HS.out]; have HB := Lib.hid (HB.out.trans (hb.mono HB.out.size)); clear hb) | (have _t := tok1; go_at_call 34; refine (one_r _).mono ?_; rintro e w1 ⟨⟨A1, n1, d1, rfl, hx⟩, hb⟩; have HO1 := Lib.hid (And.intro hx hb); have HB := Lib.hid (HB.out.trans (hb.mono HB.out.size)); clear hx hb tok1) | (have _t := tok2; go_at_call 34; refine (one_r _).mono ?_; rintro e w2 ⟨⟨A2, n2, d2, rfl, hx⟩, hb⟩; have HO2 := Lib.hid (And.intro hx hb); have HB := Lib.hid (HB.out.trans (hb.mono HB.out.size)); clear hx hb tok2))
      go_loopw [9, 10, 11] (fun s p i w1 => ∃ j : Nat, i = .int .u64 j ∧ j ≤ n ∧ IsByt w1 s (geo N (j + 1)) ∧ IsByt w1 p (N ^ j) ∧ Fits (geo N (j + 1)) 20 ∧ Below w.heap.size w w1) (fun _ _ i _ => n - (intOf i).toNat)
      case atStart => exact ⟨0, rfl, Nat.zero_le _, by rw [show geo N (0 + 1) = 1 by simp [geo]]; exact HO1.out.1.keep HO2.out.2, by rw [Nat.pow_zero]; exact HO2.out.1, by rw [show geo N (0 + 1) = 1 by simp [geo]]; exact fits1.mono (by decide), HB.out⟩
      case round =>
        obtain ⟨j, rfl, hj, hx, hp, hf, hB⟩ := hrel
        obtain ⟨A5, n5, d5, rfl⟩ := byt_slice hx
        obtain ⟨A6, n6, d6, rfl⟩ := byt_slice hp
        have HX := Lib.hid (And.intro hx (And.intro hp hB))
        clear hx hp hB
        obtain ⟨b3, hb3⟩ : ∃ b, fitB c (geo N (j + 1)) = b := ⟨_, rfl⟩
        have HB3 := Lib.hid hb3
        clear hb3
        by_cases hjn : j < n
        · have g1 : decide ((j : Int) < (n : Int)) = true := by simp <;> omega
          cases b3
          · go_wp2_with (go_at_call 35; refine (over_r _ (geo N (j + 1)) c _ HX.out.1 (hf.mono (by decide)) HB3.out).mono ?_; rintro e w6 ⟨rfl, hb⟩; have HY := Lib.hid (And.intro (HX.out.1.keep hb) (And.intro (HX.out.2.1.keep hb) (HX.out.2.2.trans (hb.mono HX.out.2.2.size)))); clear hb)
            go_ret2
            exact BytOk.mk (fitB_false HB3.out (geo_mono (by omega) (by omega))) (fun h => by cases h) HY.out.2.2
          · have hf12 : Fits (geo N (j + 1)) 12 := fitB_fits (s := 12) HB3.out hc
            have hp12 : Fits (N ^ j) 12 := hf12.le (pow_le_geo N j)
            have HG := Lib.hid (geo_plus N (j + 1))
            go_wp2_with (first | (go_at_call 35; refine (over_r _ (geo N (j + 1)) c _ HX.out.1 (hf.mono (by decide)) HB3.out).mono ?_; rintro e w6 ⟨rfl, hb⟩; have HY := Lib.hid (And.intro (HX.out.1.keep hb) (And.intro (HX.out.2.1.keep hb) (HX.out.2.2.trans (hb.mono HX.out.2.2.size)))); clear hb) | (go_at_call 36; refine (rMul_w HY.out.2.1 (HV.out.keep HY.out.2.2) (hp12.mono (by decide)) (hN.mono (by decide))).mono ?_; rintro e w7 ⟨x, rfl, hx, hb⟩; have HZ := Lib.hid (And.intro (HY.out.1.keep hb) (And.intro hx (HY.out.2.2.trans (hb.mono HY.out.2.2.size)))); clear hx hb) | (go_at_call 40; refine (rAdd_w HZ.out.1 HZ.out.2.1 (hf12.mono (by decide)) ((hp12.mul hN).mono (by decide))).mono ?_; rintro e w8 ⟨x2, rfl, hx, hb⟩; have HW := Lib.hid (And.intro hx (And.intro (HZ.out.2.1.keep hb) (HZ.out.2.2.trans (hb.mono HZ.out.2.2.size)))); clear hx hb))
            go_roundw
            case rel => exact ⟨j + 1, by go_num, by omega, by rw [← HG.out, Nat.pow_succ]; exact HW.out.1, by rw [Nat.pow_succ]; exact HW.out.2.1, by rw [← HG.out, Nat.pow_succ]; exact (fits_add hf12 (hp12.mul hN)).mono (by decide), HW.out.2.2⟩
            case measure => simp [intOf] <;> omega
        · obtain rfl : j = n := by omega
          have g1 : decide ((j : Int) < (j : Int)) = false := by simp
          cases b3
          · go_wp2_with (go_at_call 35; refine (over_r _ (geo N (j + 1)) c _ HX.out.1 (hf.mono (by decide)) HB3.out).mono ?_; rintro e w6 ⟨rfl, hb⟩; have HY := Lib.hid (And.intro (HX.out.1.keep hb) (And.intro (HX.out.2.1.keep hb) (HX.out.2.2.trans (hb.mono HX.out.2.2.size)))); clear hb)
            go_ret2
            exact BytOk.mk HB3.out (fun h => by cases h) HY.out.2.2
          · go_wp2_with (go_at_call 35; refine (over_r _ (geo N (j + 1)) c _ HX.out.1 (hf.mono (by decide)) HB3.out).mono ?_; rintro e w6 ⟨rfl, hb⟩; have HY := Lib.hid (And.intro (HX.out.1.keep hb) (And.intro (HX.out.2.1.keep hb) (HX.out.2.2.trans (hb.mono HX.out.2.2.size)))); clear hb)
            go_ret2
            exact BytOk.mk HB3.out (fun _ => HY.out.1) HY.out.2.2
end Go.Proofs.Ytfpjhohkaoodmaa
