/- More of the leaf functions of inter and its reference: those whose one statement draws its order; each by its contract. No condition, but that the bounds of Size are those of its type. -/
import Derived.Test.YtfepaalplceaaaaLeaf
namespace Go.Proofs.Ytfepaalplceaaaa
open Go.RowKit
attribute [local go_sem ↓] run_eql24 run_neq24 run_eql26
set_option maxHeartbeats 800000 in
theorem same_c (a b c d : Int) (w : World) :
    Calls Try.prog 20 #[.agg #[.int .i64 a, .int .i64 b], .agg #[.int .i64 c, .int .i64 d]] w fun e w' => e = .returned (.bool (sameB a b c d)) ∧ Below w.heap.size w w' := by
  go_enter Try.func20, Try.ntmps20
  go_wp2
  go_region_held3 (fun w' => Below w.heap.size w w' ∧ w.heap.size + 2 ≤ w'.heap.size ∧ w'.cell? ⟨w.heap.size, 0, none⟩ = some (.int .i64 a) ∧ w'.cell? ⟨w.heap.size, 1, none⟩ = some (.int .i64 b) ∧ w'.cell? ⟨w.heap.size + 1, 0, none⟩ = some (.int .i64 c) ∧ w'.cell? ⟨w.heap.size + 1, 1, none⟩ = some (.int .i64 d))
    (first
      | exact ⟨(((Below.refl _ _).alloc (Nat.le_refl _) _).alloc (by simp) _).drew, by simp, by simp, by simp, by simp, by simp⟩
      | (obtain ⟨h1, h2, h3, h4, h5, h6⟩ := ‹_ ∧ _›; exact ⟨h1.trans (hb1.mono (by omega)), by omega, by rw [hc1 _ _ (by omega)]; exact h3, by rw [hc1 _ _ (by omega)]; exact h4, by rw [hc1 _ _ (by omega)]; exact h5, by rw [hc1 _ _ (by omega)]; exact h6⟩))
    (first | (go_at_call 32; refine (of_c _ _ _).mono ?_; rintro e w1 ⟨rfl, hb1⟩; obtain ⟨hc1, hf1, hz1⟩ := bcell hb1))
  have hB := (‹_ ∧ _› : Below _ _ _ ∧ _).1
  go_wp2
  go_ret
  exact ⟨rfl, hB⟩
set_option maxHeartbeats 800000 in
theorem rSame_c (a b c d : Int) (w : World) :
    Calls Try.prog 31 #[.agg #[.int .i64 a, .int .i64 b], .agg #[.int .i64 c, .int .i64 d]] w fun e w' => e = .returned (.bool (sameB a b c d)) ∧ Below w.heap.size w w' := by
  go_enter Try.func31, Try.ntmps31
  go_wp2
  go_region_held3 (fun w' => Below w.heap.size w w' ∧ w.heap.size + 2 ≤ w'.heap.size ∧ w'.cell? ⟨w.heap.size, 0, none⟩ = some (.int .i64 a) ∧ w'.cell? ⟨w.heap.size, 1, none⟩ = some (.int .i64 b) ∧ w'.cell? ⟨w.heap.size + 1, 0, none⟩ = some (.int .i64 c) ∧ w'.cell? ⟨w.heap.size + 1, 1, none⟩ = some (.int .i64 d))
    (first
      | exact ⟨(((Below.refl _ _).alloc (Nat.le_refl _) _).alloc (by simp) _).drew, by simp, by simp, by simp, by simp, by simp⟩
      | (obtain ⟨h1, h2, h3, h4, h5, h6⟩ := ‹_ ∧ _›; exact ⟨h1.trans (hb1.mono (by omega)), by omega, by rw [hc1 _ _ (by omega)]; exact h3, by rw [hc1 _ _ (by omega)]; exact h4, by rw [hc1 _ _ (by omega)]; exact h5, by rw [hc1 _ _ (by omega)]; exact h6⟩))
    (first | (go_at_call 33; refine (plain_c _ _ _).mono ?_; rintro e w1 ⟨rfl, hb1⟩; obtain ⟨hc1, hf1, hz1⟩ := bcell hb1))
  have hB := (‹_ ∧ _› : Below _ _ _ ∧ _).1
  go_wp2
  go_ret
  exact ⟨rfl, hB⟩
attribute [local go_sem] alloc_drewN setCell_drewN
set_option maxHeartbeats 1600000 in
theorem narrow_c (a b c d : Int) (w : World) :
    Calls Try.prog 17 #[.agg #[.int .i64 a, .int .i64 b], .agg #[.int .i64 c, .int .i64 d]] w fun e w' => e = .returned (.agg #[.int .i64 (nlo a b c d), .int .i64 (nhi a b c d)]) ∧ Below w.heap.size w w' := by
  go_enter Try.func17, Try.ntmps17
  go_wp2_with (first | (go_at_call 27; refine (isEmpty_x _ _ _).mono ?_; rintro e w1 ⟨rfl, rfl⟩) | (go_at_call 36; refine (empty_c _).mono ?_; rintro e w1 ⟨rfl, hb1⟩; obtain ⟨hc1, hf1, hz1⟩ := bcell hb1; try simp at hc1 hf1 hz1) | (go_at_call 32; refine (of_c _ _ _).mono ?_; rintro e w1 ⟨rfl, hb1⟩; obtain ⟨hc1, hf1, hz1⟩ := bcell hb1; try simp at hc1 hf1 hz1))
  all_goals
    exact bodyPost_agg (by simp [results, Try.results17, go_sem, *]; exact ⟨rfl, rfl⟩) rfl ⟨by (try simp only [beq_iff_eq, beq_eq_false_iff_ne, ne_eq] at *); unfold nlo nlo0 nhi0; (repeat' split) <;> first | rfl | omega, by (try simp only [beq_iff_eq, beq_eq_false_iff_ne, ne_eq] at *); unfold nhi nlo0 nhi0; (repeat' split) <;> first | rfl | omega⟩ ⟨rfl, by repeat (first | exact Below.refl _ _ | assumption | refine Below.alloc ?_ (by first | omega | (simp <;> omega)) _ | refine Below.setCell ?_ (by first | omega | (simp <;> omega)) _ | refine Below.drew ?_ | refine below_drewN ?_ _ | refine Below.trans ?_ (Below.mono (by assumption) (by first | omega | (simp <;> omega))))⟩
set_option maxHeartbeats 1600000 in
theorem rNarrow_c (a b c d : Int) (w : World) :
    Calls Try.prog 18 #[.agg #[.int .i64 a, .int .i64 b], .agg #[.int .i64 c, .int .i64 d]] w fun e w' => e = .returned (.agg #[.int .i64 (nlo a b c d), .int .i64 (nhi a b c d)]) ∧ Below w.heap.size w w' := by
  by_cases hE : b < a ∨ d < c
  · have hE2 : b < a ∨ (a ≤ b ∧ d < c) := by omega
    clear hE
    rcases hE2 with h | ⟨h, h'⟩
    all_goals
      go_enter Try.func18, Try.ntmps18
      go_wp2_with (first | (go_at_call 28; refine (rEmpty_x _ _ _).mono ?_; rintro e w1 ⟨rfl, rfl⟩))
      all_goals
        exact bodyPost_agg (by simp [results, Try.results18, go_sem, *]; exact ⟨rfl, rfl⟩) rfl ⟨by (try simp only [beq_iff_eq, beq_eq_false_iff_ne, ne_eq] at *); unfold nlo nlo0 nhi0; (repeat' split) <;> first | rfl | omega, by (try simp only [beq_iff_eq, beq_eq_false_iff_ne, ne_eq] at *); unfold nhi nlo0 nhi0; (repeat' split) <;> first | rfl | omega⟩ ⟨rfl, by repeat (first | exact Below.refl _ _ | assumption | refine Below.alloc ?_ (by first | omega | (simp <;> omega)) _ | refine Below.setCell ?_ (by first | omega | (simp <;> omega)) _ | refine Below.drew ?_ | refine below_drewN ?_ _ | refine Below.trans ?_ (Below.mono (by assumption) (by first | omega | (simp <;> omega))))⟩
  · have h1 : a ≤ b := by omega
    have h2 : c ≤ d := by omega
    clear hE
    go_enter Try.func18, Try.ntmps18
    go_wp2_with (first | (go_at_call 28; refine (rEmpty_x _ _ _).mono ?_; rintro e w1 ⟨rfl, rfl⟩))
    go_quiet ((go_at_call 8; exact Calls.quiet_of_same (least_c _)))
    go_wp2
    all_goals
      go_quiet ((first | (go_at_call 9; exact Calls.quiet_of_same (most_c _)) | (go_at_call 9; exact quiet_more (most_c _))))
      go_wp2_with (first | (go_at_call 33; refine (plain_c _ _ _).mono ?_; rintro e w1 ⟨rfl, hb1⟩; obtain ⟨hc1, hf1, hz1⟩ := bcell hb1; try simp at hc1 hf1 hz1))
      all_goals
        exact bodyPost_agg (by simp [results, Try.results18, go_sem, *]; exact ⟨rfl, rfl⟩) rfl ⟨by (try simp only [beq_iff_eq, beq_eq_false_iff_ne, ne_eq] at *); unfold nlo nlo0 nhi0; (repeat' split) <;> first | rfl | omega, by (try simp only [beq_iff_eq, beq_eq_false_iff_ne, ne_eq] at *); unfold nhi nlo0 nhi0; (repeat' split) <;> first | rfl | omega⟩ ⟨rfl, by repeat (first | exact Below.refl _ _ | assumption | refine Below.alloc ?_ (by first | omega | (simp <;> omega)) _ | refine Below.setCell ?_ (by first | omega | (simp <;> omega)) _ | refine Below.drew ?_ | refine below_drewN ?_ _ | refine Below.trans ?_ (Below.mono (by assumption) (by first | omega | (simp <;> omega))))⟩
theorem u64_size (a b : Int) (H : -9223372036854775808 ≤ a ∧ b ≤ 9223372036854775807) (h : a ≤ b) (hn : ¬ (a = -9223372036854775808 ∧ b = 9223372036854775807)) :
    IntKind.u64.wrap (IntKind.u64.wrap (IntKind.u64.wrap b - IntKind.u64.wrap a) + 1) = b - a + 1 := by
  simp only [IntKind.wrap_u64]; omega
theorem u64_rsize (a b : Int) (H : -9223372036854775808 ≤ a ∧ b ≤ 9223372036854775807) (h : a ≤ b) (hn : ¬ (a = -9223372036854775808 ∧ b = 9223372036854775807)) :
    IntKind.u64.wrap (IntKind.u64.wrap (wrap64 (b - a)) + 1) = b - a + 1 := by
  unfold wrap64; simp only [IntKind.wrap_u64]; omega
theorem sz_whole {a b : Int} (h : a = -9223372036854775808 ∧ b = 9223372036854775807) : 0 = sz a b ∧ false = szok a b := by
  obtain ⟨rfl, rfl⟩ := h; exact ⟨by decide, by decide⟩
theorem sz_none {a b : Int} (h : b < a) : 0 = sz a b ∧ true = szok a b := by
  unfold sz szok; exact ⟨by rw [if_pos h], by simp; omega⟩
theorem sz_some {a b : Int} (h : a ≤ b) (hn : ¬ (a = -9223372036854775808 ∧ b = 9223372036854775807)) : b - a + 1 = sz a b ∧ true = szok a b := by
  unfold sz szok; exact ⟨by rw [if_neg (by omega), if_neg hn], by simp; omega⟩
set_option maxHeartbeats 1600000 in
theorem size_c (a b : Int) (w : World) (H : -9223372036854775808 ≤ a ∧ b ≤ 9223372036854775807) :
    Calls Try.prog 22 #[.agg #[.int .i64 a, .int .i64 b]] w fun e w' => e = .returned (.tuple #[.int .u64 (sz a b), .bool (szok a b)]) ∧ Below w.heap.size w w' := by
  have HH : Hid (-9223372036854775808 ≤ a ∧ b ≤ 9223372036854775807) := H
  clear H
  by_cases hw : a = -9223372036854775808 ∧ b = 9223372036854775807
  · have hd : (a == -9223372036854775808) = true := by simpa using hw.1
    have hd2 : (b == 9223372036854775807) = true := by simpa using hw.2
    have HW : Hid (a = -9223372036854775808 ∧ b = 9223372036854775807) := hw
    clear hw
    go_enter Try.func22, Try.ntmps22
    go_wp2_with (fail)
    go_region_held3 (fun w' => Below w.heap.size w w' ∧ w.heap.size + 1 ≤ w'.heap.size ∧ w'.cell? ⟨w.heap.size, 0, none⟩ = some (.int .i64 a) ∧ w'.cell? ⟨w.heap.size, 1, none⟩ = some (.int .i64 b))
      (first
        | exact ⟨((Below.refl _ _).alloc (Nat.le_refl _) _).drew, by simp, by simp, by simp⟩
        | (obtain ⟨h1, h2, h3, h4⟩ := ‹_ ∧ _›; exact ⟨h1.trans (hb1.mono (by omega)), by omega, by rw [hc1 _ _ (by omega)]; exact h3, by rw [hc1 _ _ (by omega)]; exact h4⟩))
      (first | (go_at_call 35; refine (whole_c _).mono ?_; rintro e w1 ⟨rfl, hb1⟩; obtain ⟨hc1, hf1, hz1⟩ := bcell hb1))
    obtain ⟨g1, g2, g3, g4⟩ := (‹_ ∧ _› : Below _ _ _ ∧ _)
    have g5 := Nat.lt_of_succ_le g2
    go_wp2_with (fail)
    go_ret2
    exact ⟨ret_pair (sz_whole HW.out), by repeat (first | exact Below.refl _ _ | assumption | refine Below.alloc ?_ (by first | omega | (simp <;> omega)) _ | refine Below.setCell ?_ (by first | omega | (simp <;> omega)) _ | refine Below.drew ?_ | refine below_drewN ?_ _ | refine Below.trans ?_ (Below.mono (by assumption) (by first | omega | (simp <;> omega))))⟩
  · have hd : (a == -9223372036854775808 && b == 9223372036854775807) = false := by simpa using hw
    have HW : Hid (¬ (a = -9223372036854775808 ∧ b = 9223372036854775807)) := hw
    clear hw
    go_enter Try.func22, Try.ntmps22
    go_wp2_with (fail)
    go_region_held3 (fun w' => Below w.heap.size w w' ∧ w.heap.size + 1 ≤ w'.heap.size ∧ w'.cell? ⟨w.heap.size, 0, none⟩ = some (.int .i64 a) ∧ w'.cell? ⟨w.heap.size, 1, none⟩ = some (.int .i64 b))
      (first
        | exact ⟨((Below.refl _ _).alloc (Nat.le_refl _) _).drew, by simp, by simp, by simp⟩
        | (obtain ⟨h1, h2, h3, h4⟩ := ‹_ ∧ _›; exact ⟨h1.trans (hb1.mono (by omega)), by omega, by rw [hc1 _ _ (by omega)]; exact h3, by rw [hc1 _ _ (by omega)]; exact h4⟩))
      (first | (go_at_call 35; refine (whole_c _).mono ?_; rintro e w1 ⟨rfl, hb1⟩; obtain ⟨hc1, hf1, hz1⟩ := bcell hb1))
    obtain ⟨g1, g2, g3, g4⟩ := (‹_ ∧ _› : Below _ _ _ ∧ _)
    have g5 := Nat.lt_of_succ_le g2
    by_cases h : b < a
    · go_wp2_with (first | (go_at_call 27; refine (isEmpty_x _ _ _).mono ?_; rintro e w1 ⟨rfl, rfl⟩) )
      go_ret2
      exact ⟨ret_pair (sz_none h), by repeat (first | exact Below.refl _ _ | assumption | refine Below.alloc ?_ (by first | omega | (simp <;> omega)) _ | refine Below.setCell ?_ (by first | omega | (simp <;> omega)) _ | refine Below.drew ?_ | refine below_drewN ?_ _ | refine Below.trans ?_ (Below.mono (by assumption) (by first | omega | (simp <;> omega))))⟩
    · go_wp2_with (first | (go_at_call 27; refine (isEmpty_x _ _ _).mono ?_; rintro e w1 ⟨rfl, rfl⟩) )
      go_ret2
      exact ⟨ret_pair (by rw [u64_size a b HH.out (by omega) HW.out]; exact sz_some (by omega) HW.out), by repeat (first | exact Below.refl _ _ | assumption | refine Below.alloc ?_ (by first | omega | (simp <;> omega)) _ | refine Below.setCell ?_ (by first | omega | (simp <;> omega)) _ | refine Below.drew ?_ | refine below_drewN ?_ _ | refine Below.trans ?_ (Below.mono (by assumption) (by first | omega | (simp <;> omega))))⟩
set_option maxHeartbeats 1600000 in
theorem rSize_c (a b : Int) (w : World) (H : -9223372036854775808 ≤ a ∧ b ≤ 9223372036854775807) :
    Calls Try.prog 23 #[.agg #[.int .i64 a, .int .i64 b]] w fun e w' => e = .returned (.tuple #[.int .u64 (sz a b), .bool (szok a b)]) ∧ Below w.heap.size w w' := by
  have HH : Hid (-9223372036854775808 ≤ a ∧ b ≤ 9223372036854775807) := H
  clear H
  by_cases h : b < a
  · go_enter Try.func23, Try.ntmps23
    go_wp2_with (first | (go_at_call 28; refine (rEmpty_x _ _ _).mono ?_; rintro e w1 ⟨rfl, rfl⟩) )
    go_ret2
    exact ⟨ret_pair (sz_none h), by repeat (first | exact Below.refl _ _ | assumption | refine Below.alloc ?_ (by first | omega | (simp <;> omega)) _ | refine Below.setCell ?_ (by first | omega | (simp <;> omega)) _ | refine Below.drew ?_ | refine below_drewN ?_ _ | refine Below.trans ?_ (Below.mono (by assumption) (by first | omega | (simp <;> omega))))⟩
  · by_cases h1 : a = -9223372036854775808
    · have hd : (a == -9223372036854775808) = true := by simpa using h1
      by_cases h2 : b = 9223372036854775807
      · have hd2 : (b == 9223372036854775807) = true := by simpa using h2
        have HW : Hid (a = -9223372036854775808 ∧ b = 9223372036854775807) := ⟨h1, h2⟩
        clear h1 h2
        go_enter Try.func23, Try.ntmps23
        go_wp2_with (first | (go_at_call 28; refine (rEmpty_x _ _ _).mono ?_; rintro e w1 ⟨rfl, rfl⟩) )
        go_quiet ((first | (go_at_call 8; exact Calls.quiet_of_same (least_c _)) | (go_at_call 9; exact Calls.quiet_of_same (most_c _))))
        go_wp2
        go_ret2
        exact ⟨ret_pair (sz_whole HW.out), by repeat (first | exact Below.refl _ _ | assumption | refine Below.alloc ?_ (by first | omega | (simp <;> omega)) _ | refine Below.setCell ?_ (by first | omega | (simp <;> omega)) _ | refine Below.drew ?_ | refine below_drewN ?_ _ | refine Below.trans ?_ (Below.mono (by assumption) (by first | omega | (simp <;> omega))))⟩
      · have hd2 : (b == 9223372036854775807) = false := by simpa using h2
        have HW : Hid (¬ (a = -9223372036854775808 ∧ b = 9223372036854775807)) := fun h => h2 h.2
        clear h1 h2
        go_enter Try.func23, Try.ntmps23
        go_wp2_with (first | (go_at_call 28; refine (rEmpty_x _ _ _).mono ?_; rintro e w1 ⟨rfl, rfl⟩) )
        go_quiet ((first | (go_at_call 8; exact Calls.quiet_of_same (least_c _)) | (go_at_call 9; exact Calls.quiet_of_same (most_c _))))
        go_wp2
        go_ret2
        exact ⟨ret_pair (by rw [u64_rsize a b HH.out (by omega) HW.out]; exact sz_some (by omega) HW.out), by repeat (first | exact Below.refl _ _ | assumption | refine Below.alloc ?_ (by first | omega | (simp <;> omega)) _ | refine Below.setCell ?_ (by first | omega | (simp <;> omega)) _ | refine Below.drew ?_ | refine below_drewN ?_ _ | refine Below.trans ?_ (Below.mono (by assumption) (by first | omega | (simp <;> omega))))⟩
    · have hd : (a == -9223372036854775808) = false := by simpa using h1
      have HW : Hid (¬ (a = -9223372036854775808 ∧ b = 9223372036854775807)) := fun h => h1 h.1
      clear h1
      go_enter Try.func23, Try.ntmps23
      go_wp2_with (first | (go_at_call 28; refine (rEmpty_x _ _ _).mono ?_; rintro e w1 ⟨rfl, rfl⟩) )
      go_quiet ((first | (go_at_call 8; exact Calls.quiet_of_same (least_c _)) | (go_at_call 9; exact Calls.quiet_of_same (most_c _))))
      go_wp2
      go_ret2
      exact ⟨ret_pair (by rw [u64_rsize a b HH.out (by omega) HW.out]; exact sz_some (by omega) HW.out), by repeat (first | exact Below.refl _ _ | assumption | refine Below.alloc ?_ (by first | omega | (simp <;> omega)) _ | refine Below.setCell ?_ (by first | omega | (simp <;> omega)) _ | refine Below.drew ?_ | refine below_drewN ?_ _ | refine Below.trans ?_ (Below.mono (by assumption) (by first | omega | (simp <;> omega))))⟩
end Go.Proofs.Ytfepaalplceaaaa
