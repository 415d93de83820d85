/- Caps of package nat, by contract: Fits, under, Add, Mul. Numbers of at most 2000 limbs; any cap. -/
import Derived.Test.YtfpjhohkaoodmaaMul
namespace Go.Proofs.Ytfpjhohkaoodmaa
open Go.RowKit
attribute [local go_sem] alloc_drewN setCell_drewN
/-- Has N no more limbs than the cap c allows? -/
def fitB (c : Int) (N : Nat) : Bool := decide (N < 18446744073709551616 ^ (max 0 c).toNat)
theorem lim_len_iff {l : List Nat} {N k : Nat} (h : Lim 18446744073709551616 l N) : l.length ≤ k ↔ N < 18446744073709551616 ^ k :=
  ⟨fun hk => by
    have h1 := val_lt 18446744073709551616 (by omega) l h.1
    rw [h.2.1] at h1
    exact Nat.lt_of_lt_of_le h1 (Nat.pow_le_pow_right (by omega) hk), fun hk => h.len ⟨hk⟩⟩
theorem fitB_len {l : List Nat} {N : Nat} (h : Lim 18446744073709551616 l N) (c : Int) : decide ((l.length : Int) ≤ max 0 c) = fitB c N := by
  unfold fitB
  have h1 := lim_len_iff (k := (max 0 c).toNat) h
  by_cases h2 : N < 18446744073709551616 ^ (max 0 c).toNat
  · have h3 := h1.2 h2
    rw [decide_eq_true h2]
    exact decide_eq_true (by omega)
  · have h3 : ¬ l.length ≤ (max 0 c).toNat := fun h => h2 (h1.1 h)
    rw [decide_eq_false h2]
    exact decide_eq_false (by omega)
set_option maxHeartbeats 1600000 in
theorem fits_c (g : Nat) (c : Int) (v : Value) (N : Nat) (w : World) (hv : IsNat g w v N) :
    Calls Try.prog 46 #[.int .i64 c, v] w fun e w' => e = .returned (.bool (fitB c N)) ∧ Below w.heap.size w w' := by
  obtain ⟨A, n, d, l, rfl, hr, hl, _⟩ := hv
  go_enter Try.func46, Try.ntmps46
  have hfit := fitB_len hl c
  rw [hr.1] at hfit
  have HF := Lib.hid hfit
  clear hr hl hfit
  go_wp2
  all_goals
    go_ret
    refine ⟨?_, (Below.refl _ _).alloc (Nat.le_refl _) _⟩
    rw [← HF.out]
    first
      | (rw [show max 0 c = c by omega]; rfl)
      | (rw [show max 0 c = 0 by omega]; exact congrArg (fun b => Ending.returned (.bool b)) (decide_eq_decide.2 (by omega)))
theorem fitB_le {c : Int} {N M : Nat} (h : fitB c N = true) (hM : M ≤ N) : fitB c M = true := by
  unfold fitB at *
  have := of_decide_eq_true h
  exact decide_eq_true (by omega)
theorem fitB_zero (c : Int) : fitB c 0 = true := decide_eq_true (Nat.pow_pos (by omega))
set_option maxHeartbeats 1600000 in
theorem under_c (g : Nat) (c : Int) (v : Value) (N : Nat) (w : World) (hv : IsNat g w v N) :
    Calls Try.prog 47 #[.func (.func 46) #[.int .i64 c] #[], v] w fun e w' => ∃ x, e = .returned (.tuple #[x, .bool (fitB c N)]) ∧ IsNat g w' x (if fitB c N then N else 0) ∧ Below w.heap.size w w' := by
  have hv0 := hv
  obtain ⟨A, n, d, l, rfl, _⟩ := hv
  have hW : Below w.heap.size w ((w.alloc (.cells #[.slice A n d] 29)).alloc (.cells #[.slice none 0 0] 29)) := ((Below.refl _ _).alloc (Nat.le_refl _) _).alloc (by simp) _
  have hka := (Bk.new w 29 #[.slice A n d]).alloc (.cells #[.slice none 0 0] 29)
  have hkr := Bk.new (w.alloc (.cells #[.slice A n d] 29)) 29 #[.slice none 0 0]
  simp at hkr
  have HW := Lib.hid (And.intro hW (And.intro hka (And.intro hkr (And.intro (hv0.keep hW) hv0))))
  clear hW hka hkr hv0
  go_enter Try.func47, Try.ntmps47
  cases hf : fitB c N with
  | false =>
    go_wp2_with (go_at_call 46; refine (fits_c _ c _ N _ HW.out.2.2.2.1).mono ?_; rintro e w1 ⟨rfl, hb⟩; have hka := HW.out.2.1.keep hb; have hkr := HW.out.2.2.1.keep hb; have hc1 := hka.cell 0; have hc2 := hkr.cell 0; have hf2 := hkr.frozen 0; have hz2 := hkr.lt; simp at hc1 hc2; have HB := Lib.hid (And.intro (HW.out.1.trans (hb.mono HW.out.1.size)) hkr); clear hb hka hkr)
    refine bodyPost_ret (v := .tuple #[.agg #[.slice none 0 0], .bool false]) (by simp [results, Try.results47, go_sem, HB.out.2.res1]) rfl ⟨_, rfl, isNat_zero _ _, HB.out.1.setCell (by simp) _⟩
  | true =>
    go_wp2_with (go_at_call 46; refine (fits_c _ c _ N _ HW.out.2.2.2.1).mono ?_; rintro e w1 ⟨rfl, hb⟩; have hka := HW.out.2.1.keep hb; have hkr := HW.out.2.2.1.keep hb; have hc1 := hka.cell 0; have hc2 := hkr.cell 0; have hf2 := hkr.frozen 0; have hz2 := hkr.lt; simp at hc1 hc2; have HB := Lib.hid (And.intro (HW.out.1.trans (hb.mono HW.out.1.size)) (And.intro hkr hb)); clear hb hka hkr)
    refine bodyPost_ret (v := .tuple #[.agg #[.slice A n d], .bool true]) (by simp [results, Try.results47, go_sem, HB.out.2.1.res1]) rfl ⟨_, rfl, HW.out.2.2.2.2.keep (HB.out.1.setCell (by simp) _), HB.out.1.setCell (by simp) _⟩
set_option maxHeartbeats 4000000 in
theorem capAdd_c (g h : Nat) (c : Int) (u v : Value) (N M : Nat) (w : World) (hu : IsNat g w u N) (hv : IsNat h w v M) (hN : Fits N 1000) (hM : Fits M 1000) :
    Calls Try.prog 50 #[.int .i64 c, u, v] w fun e w' => ∃ x, e = .returned (.tuple #[x, .bool (fitB c (N + M))]) ∧ IsNat w.heap.size w' x (if fitB c (N + M) then N + M else 0) ∧ Below w.heap.size w w' := by
  have hu0 := hu
  have hv0 := hv
  obtain ⟨A, n, c1, l, rfl, _⟩ := hu
  obtain ⟨B, m, d1, k, rfl, _⟩ := hv
  have hW : Below w.heap.size w (((w.alloc (.cells #[.slice A n c1] 29)).alloc (.cells #[.slice B m d1] 29)).alloc (.cells #[.slice none 0 0] 29)) := (((Below.refl _ _).alloc (Nat.le_refl _) _).alloc (by simp) _).alloc (by simp <;> omega) _
  have hka := (((Bk.new w 29 #[.slice A n c1]).alloc (.cells #[.slice B m d1] 29)).alloc (.cells #[.slice none 0 0] 29))
  have hkb := ((Bk.new (w.alloc (.cells #[.slice A n c1] 29)) 29 #[.slice B m d1]).alloc (.cells #[.slice none 0 0] 29))
  have hkr := (Bk.new ((w.alloc (.cells #[.slice A n c1] 29)).alloc (.cells #[.slice B m d1] 29)) 29 #[.slice none 0 0])
  simp at hkb hkr
  have HW := Lib.hid (And.intro hW (And.intro hka (And.intro hkb (And.intro hkr (And.intro hu0 hv0)))))
  clear hW hka hkb hkr hu0 hv0
  go_enter Try.func50, Try.ntmps50
  cases hfa : fitB c N with
  | false =>
    have hfs : fitB c (N + M) = false := by
      cases hs : fitB c (N + M) with
      | false => rfl
      | true => rw [fitB_le hs (by omega)] at hfa; cases hfa
    go_wp2_with (go_at_call_of 46 (Value.agg #[Value.slice A n c1]); refine (fits_c _ c _ N _ (HW.out.2.2.2.2.1.keep HW.out.1)).mono ?_; rintro e w1 ⟨rfl, hb⟩; have hkr := HW.out.2.2.2.1.keep hb; have hc2 := hkr.cell 0; have hf2 := hkr.frozen 0; have hz2 := hkr.lt; simp at hc2; have HB := Lib.hid (And.intro (HW.out.1.trans (hb.mono HW.out.1.size)) hkr); clear hb hkr)
    all_goals refine bodyPost_ret (v := .tuple #[.agg #[.slice none 0 0], .bool false]) (by simp [results, Try.results50, go_sem, HB.out.2.res1]) rfl ⟨_, rfl, isNat_zero _ _, HB.out.1.setCell (by simp; omega) _⟩
  | true =>
    cases hfb : fitB c M with
    | false =>
      have hfs : fitB c (N + M) = false := by
        cases hs : fitB c (N + M) with
        | false => rfl
        | true => rw [fitB_le hs (by omega)] at hfb; cases hfb
      go_wp2_with (first | (go_at_call_of 46 (Value.agg #[Value.slice A n c1]); refine (fits_c _ c _ N _ (HW.out.2.2.2.2.1.keep HW.out.1)).mono ?_; rintro e w1 ⟨rfl, hb⟩; have HC := Lib.hid hb; have hkb1 := HW.out.2.2.1.keep hb; have hcb1 := hkb1.cell 0; simp at hcb1; clear hb hkb1) | (go_at_call 46; with_reducible refine (fits_c _ c _ M _ ((HW.out.2.2.2.2.2.keep HW.out.1).keep HC.out)).mono ?_; rintro e w2 ⟨rfl, hb2⟩; have hb3 := HC.out.trans (hb2.mono HC.out.size); have HC2 := Lib.hid hb3; have hka2 := HW.out.2.1.keep hb3; have hkb2 := HW.out.2.2.1.keep hb3; have hkr2 := HW.out.2.2.2.1.keep hb3; have hca2 := hka2.cell 0; have hcb2 := hkb2.cell 0; have hcr2 := hkr2.cell 0; have hfr2 := hkr2.frozen 0; have hzr2 := hkr2.lt; simp at hca2 hcb2 hcr2; have HR2 := Lib.hid hkr2; clear hb2 hb3 hka2 hkb2 hkr2))
      all_goals refine bodyPost_ret (v := .tuple #[.agg #[.slice none 0 0], .bool false]) (by simp [results, Try.results50, go_sem, HR2.out.res1]) rfl ⟨_, rfl, isNat_zero _ _, (HW.out.1.trans (HC2.out.mono HW.out.1.size)).setCell (by simp; omega) _⟩
    | true =>
      cases hfs : fitB c (N + M) with
      | false =>
        go_wp2_with (first | (go_at_call_of 46 (Value.agg #[Value.slice A n c1]); refine (fits_c _ c _ N _ (HW.out.2.2.2.2.1.keep HW.out.1)).mono ?_; rintro e w1 ⟨rfl, hb⟩; have HC := Lib.hid hb; have hkb1 := HW.out.2.2.1.keep hb; have hcb1 := hkb1.cell 0; simp at hcb1; clear hb hkb1) | (go_at_call 46; with_reducible refine (fits_c _ c _ M _ ((HW.out.2.2.2.2.2.keep HW.out.1).keep HC.out)).mono ?_; rintro e w2 ⟨rfl, hb2⟩; have hb3 := HC.out.trans (hb2.mono HC.out.size); have HC2 := Lib.hid hb3; have hka2 := HW.out.2.1.keep hb3; have hkb2 := HW.out.2.2.1.keep hb3; have hkr2 := HW.out.2.2.2.1.keep hb3; have hca2 := hka2.cell 0; have hcb2 := hkb2.cell 0; have hcr2 := hkr2.cell 0; have hfr2 := hkr2.frozen 0; have hzr2 := hkr2.lt; simp at hca2 hcb2 hcr2; have HR2 := Lib.hid hkr2; clear hb2 hb3 hka2 hkb2 hkr2) | (go_at_call 19; refine (add_c 1000 _ _ _ _ N M _ ((HW.out.2.2.2.2.1.keep HW.out.1).keep HC2.out) ((HW.out.2.2.2.2.2.keep HW.out.1).keep HC2.out) hN hM (by decide)).mono ?_; rintro e w3 ⟨x, rfl, hx, hb4⟩; have HX := Lib.hid (And.intro hx hb4); clear hx hb4) | (go_at_call 47; refine (under_c _ c _ (N + M) _ HX.out.1).mono ?_; rintro e w4 ⟨y, rfl, hy, hb5⟩; have hb6 := HX.out.2.trans (hb5.mono HX.out.2.size); have hkr4 := HR2.out.keep hb6; have hcr4 := hkr4.cell 0; have hfr4 := hkr4.frozen 0; have hzr4 := hkr4.lt; simp at hcr4; have hB4 := (HW.out.1.trans (HC2.out.mono HW.out.1.size)).trans (hb6.mono (Nat.le_trans HW.out.1.size HC2.out.size)); obtain ⟨A2, m2, c2, l2, rfl, hy⟩ := hy; have HY := Lib.hid (And.intro hkr4 (And.intro hB4 hy)); clear hkr4 hB4 hy hb5 hb6))
        all_goals
          refine bodyPost_ret (v := .tuple #[.agg #[.slice A2 m2 c2], .bool false]) (by simp [results, Try.results50, go_sem, HY.out.1.res1]) rfl ⟨_, rfl, ?_, HY.out.2.1.setCell (by simp; omega) _⟩
          have : IsNat w2.heap.size w4 (.agg #[.slice A2 m2 c2]) (if fitB c (N + M) = true then N + M else 0) := ⟨A2, m2, c2, l2, rfl, HY.out.2.2⟩
          simp only [hfs] at this
          exact (this.far (by simpa using hzr2)).mono (by have := (HW.out.1.trans (HC2.out.mono HW.out.1.size)).size; omega)
      | true =>
        go_wp2_with (first | (go_at_call_of 46 (Value.agg #[Value.slice A n c1]); refine (fits_c _ c _ N _ (HW.out.2.2.2.2.1.keep HW.out.1)).mono ?_; rintro e w1 ⟨rfl, hb⟩; have HC := Lib.hid hb; have hkb1 := HW.out.2.2.1.keep hb; have hcb1 := hkb1.cell 0; simp at hcb1; clear hb hkb1) | (go_at_call 46; with_reducible refine (fits_c _ c _ M _ ((HW.out.2.2.2.2.2.keep HW.out.1).keep HC.out)).mono ?_; rintro e w2 ⟨rfl, hb2⟩; have hb3 := HC.out.trans (hb2.mono HC.out.size); have HC2 := Lib.hid hb3; have hka2 := HW.out.2.1.keep hb3; have hkb2 := HW.out.2.2.1.keep hb3; have hkr2 := HW.out.2.2.2.1.keep hb3; have hca2 := hka2.cell 0; have hcb2 := hkb2.cell 0; have hcr2 := hkr2.cell 0; have hfr2 := hkr2.frozen 0; have hzr2 := hkr2.lt; simp at hca2 hcb2 hcr2; have HR2 := Lib.hid hkr2; clear hb2 hb3 hka2 hkb2 hkr2) | (go_at_call 19; refine (add_c 1000 _ _ _ _ N M _ ((HW.out.2.2.2.2.1.keep HW.out.1).keep HC2.out) ((HW.out.2.2.2.2.2.keep HW.out.1).keep HC2.out) hN hM (by decide)).mono ?_; rintro e w3 ⟨x, rfl, hx, hb4⟩; have HX := Lib.hid (And.intro hx hb4); clear hx hb4) | (go_at_call 47; refine (under_c _ c _ (N + M) _ HX.out.1).mono ?_; rintro e w4 ⟨y, rfl, hy, hb5⟩; have hb6 := HX.out.2.trans (hb5.mono HX.out.2.size); have hkr4 := HR2.out.keep hb6; have hcr4 := hkr4.cell 0; have hfr4 := hkr4.frozen 0; have hzr4 := hkr4.lt; simp at hcr4; have hB4 := (HW.out.1.trans (HC2.out.mono HW.out.1.size)).trans (hb6.mono (Nat.le_trans HW.out.1.size HC2.out.size)); obtain ⟨A2, m2, c2, l2, rfl, hy⟩ := hy; have HY := Lib.hid (And.intro hkr4 (And.intro hB4 hy)); clear hkr4 hB4 hy hb5 hb6))
        all_goals
          refine bodyPost_ret (v := .tuple #[.agg #[.slice A2 m2 c2], .bool true]) (by simp [results, Try.results50, go_sem, HY.out.1.res1]) rfl ⟨_, rfl, ?_, HY.out.2.1.setCell (by simp; omega) _⟩
          have : IsNat w2.heap.size w4 (.agg #[.slice A2 m2 c2]) (if fitB c (N + M) = true then N + M else 0) := ⟨A2, m2, c2, l2, rfl, HY.out.2.2⟩
          simp only [hfs] at this
          exact (this.far (by simpa using hzr2)).mono (by have := (HW.out.1.trans (HC2.out.mono HW.out.1.size)).size; omega)
end Go.Proofs.Ytfpjhohkaoodmaa
