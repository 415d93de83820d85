/- Mul of a cap of package nat, by contract. Numbers of at most 1000 limbs; any cap. -/
import Derived.Test.YtfpjhohkaoodmaaNatw
namespace Go.Proofs.Ytfpjhohkaoodmaa
open Go.RowKit
attribute [local go_sem] alloc_drewN setCell_drewN
theorem fitB_big {la lb : List Nat} {N M : Nat} {c : Int} (ha : Lim 18446744073709551616 la N) (hb : Lim 18446744073709551616 lb M) (h0 : 0 < la.length) (h1 : 0 < lb.length) (h : max 0 c < (la.length : Int) + (lb.length : Int) - 1) : fitB c (N * M) = false := by
  unfold fitB
  refine decide_eq_false ?_
  have g1 := lim_ge 18446744073709551616 (by omega) la ha.2.2 (by intro e; subst e; simp at h0)
  have g2 := lim_ge 18446744073709551616 (by omega) lb hb.2.2 (by intro e; subst e; simp at h1)
  rw [ha.2.1] at g1
  rw [hb.2.1] at g2
  have g3 := Nat.mul_le_mul g1 g2
  rw [← Nat.pow_add] at g3
  have g4 : 18446744073709551616 ^ (max 0 c).toNat ≤ 18446744073709551616 ^ (la.length - 1 + (lb.length - 1)) := Nat.pow_le_pow_right (by omega) (by omega)
  omega
set_option maxHeartbeats 4000000 in
theorem capMul_c (g h : Nat) (c : Int) (u v : Value) (N M : Nat) (w : World) (hu : IsNat g w u N) (hv : IsNat h w v M) (hN : Fits N 1000) (hM : Fits M 1000) :
    Calls Try.prog 32 #[.int .i64 c, u, v] w fun e w' => ∃ x, e = .returned (.tuple #[x, .bool (fitB c (N * M))]) ∧ IsNat w.heap.size w' x (if fitB c (N * M) then N * M else 0) ∧ Below w.heap.size w w' := by
  have hu0 := hu
  have hv0 := hv
  obtain ⟨A, n, c1, l, rfl, hr, hl, _⟩ := hu
  obtain ⟨B, m, d1, k, rfl, hs, hk, _⟩ := hv
  have hn4 : n ≤ 1000 := by rw [← hr.1]; exact hl.len hN
  have hm4 : m ≤ 1000 := by rw [← hs.1]; exact hk.len hM
  have hW : Below w.heap.size w (((w.alloc (.cells #[.slice A n c1] 29)).alloc (.cells #[.slice B m d1] 29)).alloc (.cells #[.slice none 0 0] 29)) := (((Below.refl _ _).alloc (Nat.le_refl _) _).alloc (by simp) _).alloc (by simp <;> omega) _
  have hka := (((Bk.new w 29 #[.slice A n c1]).alloc (.cells #[.slice B m d1] 29)).alloc (.cells #[.slice none 0 0] 29))
  have hkb := ((Bk.new (w.alloc (.cells #[.slice A n c1] 29)) 29 #[.slice B m d1]).alloc (.cells #[.slice none 0 0] 29))
  have hkr := (Bk.new ((w.alloc (.cells #[.slice A n c1] 29)).alloc (.cells #[.slice B m d1] 29)) 29 #[.slice none 0 0])
  simp at hkb hkr
  have hcr := hkr.cell 0
  simp at hcr
  have HW := Lib.hid (And.intro hW (And.intro hka (And.intro hkb (And.intro hkr (And.intro (hu0.keep hW) (hv0.keep hW))))))
  have HL := Lib.hid (And.intro hr.1 (And.intro hs.1 (And.intro hl hk)))
  clear hW hka hkb hkr hu0 hv0 hr hs hl hk
  go_enter Try.func32, Try.ntmps32
  by_cases hn0 : n = 0
  · have hNM : N * M = 0 := by rw [HL.out.2.2.1.zero.1 (HL.out.1.trans hn0), Nat.zero_mul]
    have hf : fitB c (N * M) = true := by rw [hNM]; exact fitB_zero c
    subst hn0
    rw [hf]
    have HF := Lib.hid (And.intro hf hNM)
    clear hf hNM
    go_wp2
    all_goals
      refine bodyPost_ret (v := .tuple #[.agg #[.slice none 0 0], .bool true]) (by simp [results, Try.results32, go_sem]) rfl ⟨.agg #[.slice none 0 0], (by first | rfl | rw [HF.out.1]), ?_, HW.out.1⟩
      first | exact isNat_zero _ _ | (rw [HF.out.2]; exact isNat_zero _ _) | (rw [if_pos HF.out.1, HF.out.2]; exact isNat_zero _ _)
  · have g1 : ((n : Int) == 0) = false := beq_false_of_ne (by omega)
    by_cases hm0 : m = 0
    · have hNM : N * M = 0 := by rw [HL.out.2.2.2.zero.1 (HL.out.2.1.trans hm0), Nat.mul_zero]
      have hf : fitB c (N * M) = true := by rw [hNM]; exact fitB_zero c
      subst hm0
      rw [hf]
      have HF := Lib.hid (And.intro hf hNM)
      clear hf hNM
      go_wp2
      all_goals
        refine bodyPost_ret (v := .tuple #[.agg #[.slice none 0 0], .bool true]) (by simp [results, Try.results32, go_sem]) rfl ⟨.agg #[.slice none 0 0], (by first | rfl | rw [HF.out.1]), ?_, HW.out.1⟩
        first | exact isNat_zero _ _ | (rw [HF.out.2]; exact isNat_zero _ _) | (rw [if_pos HF.out.1, HF.out.2]; exact isNat_zero _ _)
    · have g2 : ((m : Int) == 0) = false := beq_false_of_ne (by omega)
      have HN0 := Lib.hid (And.intro hn0 hm0)
      clear hn0 hm0
      by_cases hc0 : 0 < c
      · by_cases hbig : c < (n : Int) + (m : Int) - 1
        · have g3 : decide (c < (n : Int) + (m : Int) - 1) = true := decide_eq_true hbig
          have hf := fitB_big (c := c) HL.out.2.2.1 HL.out.2.2.2 (by rw [HL.out.1]; have := HN0.out.1; omega) (by rw [HL.out.2.1]; have := HN0.out.2; omega) (by rw [HL.out.1, HL.out.2.1]; omega)
          rw [hf]
          have HF := Lib.hid hf
          clear hf
          go_wp2
          all_goals
            refine bodyPost_ret (v := .tuple #[.agg #[.slice none 0 0], .bool false]) (by simp [results, Try.results32, go_sem]) rfl ⟨.agg #[.slice none 0 0], (by first | rfl | rw [HF.out]), ?_, HW.out.1⟩
            first | exact isNat_zero _ _ | (rw [HF.out]; exact isNat_zero _ _)
        · have g3 : decide (c < (n : Int) + (m : Int) - 1) = false := decide_eq_false hbig
          cases hfs : fitB c (N * M) with
          | false =>
            go_wp2_with (first
              | (go_at_call 18; refine (mul_c 1000 _ _ _ _ N M _ HW.out.2.2.2.2.1 HW.out.2.2.2.2.2 hN hM (by decide)).mono ?_; rintro e w3 ⟨x, rfl, hx, hb4⟩; have HX := Lib.hid (And.intro hx hb4); clear hx hb4)
              | (go_at_call 47; refine (under_c _ c _ (N * M) _ HX.out.1).mono ?_; rintro e w4 ⟨y, rfl, hy, hb5⟩; have hb6 := HX.out.2.trans (hb5.mono HX.out.2.size); have hkr4 := HW.out.2.2.2.1.keep hb6; have hcr4 := hkr4.cell 0; have hfr4 := hkr4.frozen 0; have hzr4 := hkr4.lt; simp at hcr4; have hB4 := HW.out.1.trans (hb6.mono HW.out.1.size); obtain ⟨A2, m2, c2, l2, rfl, hy⟩ := hy; have HY := Lib.hid (And.intro hkr4 (And.intro hB4 hy)); clear hkr4 hB4 hy hb5 hb6))
            all_goals
              refine bodyPost_ret (v := .tuple #[.agg #[.slice A2 m2 c2], .bool false]) (by simp [results, Try.results32, go_sem, HY.out.1.res1]) rfl ⟨_, rfl, ?_, HY.out.2.1.setCell (by simp; omega) _⟩
              have this : IsNat (((w.alloc (.cells #[.slice A n c1] 29)).alloc (.cells #[.slice B m d1] 29)).alloc (.cells #[.slice none 0 0] 29)).heap.size w4 (.agg #[.slice A2 m2 c2]) (if fitB c (N * M) = true then N * M else 0) := ⟨A2, m2, c2, l2, rfl, HY.out.2.2⟩
              rw [hfs] at this
              exact (IsNat.far this (by simp)).mono (by simp; omega)
          | true =>
            go_wp2_with (first
              | (go_at_call 18; refine (mul_c 1000 _ _ _ _ N M _ HW.out.2.2.2.2.1 HW.out.2.2.2.2.2 hN hM (by decide)).mono ?_; rintro e w3 ⟨x, rfl, hx, hb4⟩; have HX := Lib.hid (And.intro hx hb4); clear hx hb4)
              | (go_at_call 47; refine (under_c _ c _ (N * M) _ HX.out.1).mono ?_; rintro e w4 ⟨y, rfl, hy, hb5⟩; have hb6 := HX.out.2.trans (hb5.mono HX.out.2.size); have hkr4 := HW.out.2.2.2.1.keep hb6; have hcr4 := hkr4.cell 0; have hfr4 := hkr4.frozen 0; have hzr4 := hkr4.lt; simp at hcr4; have hB4 := HW.out.1.trans (hb6.mono HW.out.1.size); obtain ⟨A2, m2, c2, l2, rfl, hy⟩ := hy; have HY := Lib.hid (And.intro hkr4 (And.intro hB4 hy)); clear hkr4 hB4 hy hb5 hb6))
            all_goals
              refine bodyPost_ret (v := .tuple #[.agg #[.slice A2 m2 c2], .bool true]) (by simp [results, Try.results32, go_sem, HY.out.1.res1]) rfl ⟨_, rfl, ?_, HY.out.2.1.setCell (by simp; omega) _⟩
              have this : IsNat (((w.alloc (.cells #[.slice A n c1] 29)).alloc (.cells #[.slice B m d1] 29)).alloc (.cells #[.slice none 0 0] 29)).heap.size w4 (.agg #[.slice A2 m2 c2]) (if fitB c (N * M) = true then N * M else 0) := ⟨A2, m2, c2, l2, rfl, HY.out.2.2⟩
              rw [hfs] at this
              exact (IsNat.far this (by simp)).mono (by simp; omega)
      · have g3 : decide ((0 : Int) < (n : Int) + (m : Int) - 1) = true := by have := HN0.out.1; have := HN0.out.2; exact decide_eq_true (by omega)
        have hf := fitB_big (c := c) HL.out.2.2.1 HL.out.2.2.2 (by rw [HL.out.1]; have := HN0.out.1; omega) (by rw [HL.out.2.1]; have := HN0.out.2; omega) (by have := HN0.out.1; have := HN0.out.2; rw [HL.out.1, HL.out.2.1]; omega)
        have g4 : (1 : Int) < (n : Int) + (m : Int) := by have := HN0.out.1; have := HN0.out.2; omega
        have g5 : 1 < n + m := by omega
        rw [hf]
        have HF := Lib.hid hf
        clear hf
        go_wp2
        all_goals
          refine bodyPost_ret (v := .tuple #[.agg #[.slice none 0 0], .bool false]) (by simp [results, Try.results32, go_sem]) rfl ⟨.agg #[.slice none 0 0], (by first | rfl | rw [HF.out]), ?_, HW.out.1⟩
          first | exact isNat_zero _ _ | (rw [HF.out]; exact isNat_zero _ _)
end Go.Proofs.Ytfpjhohkaoodmaa
