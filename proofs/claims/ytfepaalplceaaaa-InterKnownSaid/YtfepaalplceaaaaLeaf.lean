/- The leaf functions of package inter and of its reference, each by its contract: what it returns, and that nothing that was there before the call has turned. No condition, but that Size's bounds are those of its type. -/
import Derived.Test.YtfepaalplceaaaaBase
namespace Go.Proofs.Ytfepaalplceaaaa
open Go.RowKit
theorem bodyPost_agg {P : Program} {fn : Func} {R : Ending → World → Prop} {a : Act} {w : World} {x y x' y' : Int} (h : (results fn a.tmps).run P w = .ok (.agg #[.int .i64 x, .int .i64 y]) w) (hd : a.defers = []) (hxy : x = x' ∧ y = y')
    (hR : R (.returned (.agg #[.int .i64 x', .int .i64 y'])) w) : bodyPost P fn R .ret a w := by
  obtain ⟨rfl, rfl⟩ := hxy
  exact bodyPost_ret h hd hR
theorem run_eql24 (a b c d : Int) (w : World) : (binOp .eql 24 (.agg #[.int .i64 a, .int .i64 b]) (.agg #[.int .i64 c, .int .i64 d])).run Try.prog w = .ok (.bool (a == c && b == d)) w := by
  by_cases h : a = c <;> by_cases h2 : b = d <;> simp [go_sem, h, h2]
theorem run_neq24 (a b c d : Int) (w : World) : (binOp .neq 24 (.agg #[.int .i64 a, .int .i64 b]) (.agg #[.int .i64 c, .int .i64 d])).run Try.prog w = .ok (.bool (!(a == c && b == d))) w := by
  by_cases h : a = c <;> by_cases h2 : b = d <;> simp [go_sem, h, h2]
theorem run_eql26 (a b c d : Int) (w : World) : (binOp .eql 26 (.agg #[.int .i64 a, .int .i64 b]) (.agg #[.int .i64 c, .int .i64 d])).run Try.prog w = .ok (.bool (a == c && b == d)) w := by
  by_cases h : a = c <;> by_cases h2 : b = d <;> simp [go_sem, h, h2]
attribute [local go_sem ↓] run_eql24 run_neq24 run_eql26
/-- The interval as it is answered: its two ends. -/
def plo (a b : Int) : Int := if b < a then 1 else a
def phi (a b : Int) : Int := if b < a then 0 else b
/-- One step of the program's join. -/
def jlo (a b c d : Int) : Int := if d < c then a else if b < a then c else min a c
def jhi (a b c d : Int) : Int := if d < c then b else if b < a then d else max b d
/-- One step of the reference's join. -/
def rjlo (a b c d : Int) : Int := if b < a then plo c d else if d < c then a else min a c
def rjhi (a b c d : Int) : Int := if b < a then phi c d else if d < c then b else max b d
def mlo (a b c d : Int) : Int := plo (max a c) (min b d)
def mhi (a b c d : Int) : Int := phi (max a c) (min b d)
def wlo (a b c d : Int) : Int := if b < a then plo c d else if d < c then a else if c < a then -9223372036854775808 else a
def whi (a b c d : Int) : Int := if b < a then phi c d else if d < c then b else if b < d then 9223372036854775807 else b
def nlo0 (a c : Int) : Int := if a = -9223372036854775808 then c else a
def nhi0 (b d : Int) : Int := if b = 9223372036854775807 then d else b
def nlo (a b c d : Int) : Int := if b < a ∨ d < c then 1 else plo (nlo0 a c) (nhi0 b d)
def nhi (a b c d : Int) : Int := if b < a ∨ d < c then 0 else phi (nlo0 a c) (nhi0 b d)
def hasB (a b n : Int) : Bool := decide (a ≤ n ∧ n ≤ b)
def sameB (a b c d : Int) : Bool := plo a b == plo c d && phi a b == phi c d
def withinB (a b c d : Int) : Bool := decide (b < a ∨ (c ≤ a ∧ b ≤ d))
def nr (a b n : Int) : Int := if b < a then 0 else max a (min n b)
def sz (a b : Int) : Int := if b < a then 0 else if a = -9223372036854775808 ∧ b = 9223372036854775807 then 0 else b - a + 1
def szok (a b : Int) : Bool := decide (¬ (a = -9223372036854775808 ∧ b = 9223372036854775807))

set_option maxHeartbeats 800000 in
theorem isEmpty_c (a b : Int) (w : World) :
    Calls Try.prog 27 #[.agg #[.int .i64 a, .int .i64 b]] w fun e w' => e = .returned (.bool (decide (b < a))) ∧ Below w.heap.size w w' := by
  go_enter Try.func27, Try.ntmps27
  go_wp2
  go_ret
  exact ⟨rfl, by repeat (first | exact Below.refl _ _ | assumption | refine Below.alloc ?_ (by simp <;> omega) _ | refine Below.setCell ?_ (by simp <;> omega) _ | refine Below.drew ?_ | refine Below.trans ?_ (Below.mono (by assumption) (by simp <;> omega)))⟩
set_option maxHeartbeats 800000 in
theorem rEmpty_c (a b : Int) (w : World) :
    Calls Try.prog 28 #[.agg #[.int .i64 a, .int .i64 b]] w fun e w' => e = .returned (.bool (decide (b < a))) ∧ Below w.heap.size w w' := by
  go_enter Try.func28, Try.ntmps28
  go_wp2
  go_ret
  exact ⟨rfl, by repeat (first | exact Below.refl _ _ | assumption | refine Below.alloc ?_ (by simp <;> omega) _ | refine Below.setCell ?_ (by simp <;> omega) _ | refine Below.drew ?_ | refine Below.trans ?_ (Below.mono (by assumption) (by simp <;> omega)))⟩
theorem isEmpty_x (a b : Int) (w : World) :
    Calls Try.prog 27 #[.agg #[.int .i64 a, .int .i64 b]] w fun e w' => e = .returned (.bool (decide (b < a))) ∧ w' = w.alloc (.cells #[.int .i64 a, .int .i64 b] 24) := by
  go_enter Try.func27, Try.ntmps27
  go_wp2
  go_ret
  exact ⟨rfl, rfl⟩
theorem rEmpty_x (a b : Int) (w : World) :
    Calls Try.prog 28 #[.agg #[.int .i64 a, .int .i64 b]] w fun e w' => e = .returned (.bool (decide (b < a))) ∧ w' = w.alloc (.cells #[.int .i64 a, .int .i64 b] 26) := by
  go_enter Try.func28, Try.ntmps28
  go_wp2
  go_ret
  exact ⟨rfl, rfl⟩
set_option maxHeartbeats 800000 in
theorem empty_c (w : World) :
    Calls Try.prog 36 #[] w fun e w' => e = .returned (.agg #[.int .i64 1, .int .i64 0]) ∧ Below w.heap.size w w' := by
  go_enter Try.func36, Try.ntmps36
  go_wp2
  exact bodyPost_ret (v := .agg #[.int .i64 1, .int .i64 0]) (by simp [results, Try.results36, go_sem]) rfl ⟨rfl, by repeat (first | exact Below.refl _ _ | assumption | refine Below.alloc ?_ (by simp <;> omega) _ | refine Below.setCell ?_ (by simp <;> omega) _ | refine Below.drew ?_ | refine Below.trans ?_ (Below.mono (by assumption) (by simp <;> omega)))⟩
set_option maxHeartbeats 800000 in
theorem whole_c (w : World) :
    Calls Try.prog 35 #[] w fun e w' => e = .returned (.agg #[.int .i64 (-9223372036854775808), .int .i64 9223372036854775807]) ∧ Below w.heap.size w w' := by
  go_enter Try.func35, Try.ntmps35
  go_wp2
  exact bodyPost_ret (v := .agg #[.int .i64 (-9223372036854775808), .int .i64 9223372036854775807]) (by simp [results, Try.results35, go_sem]) rfl ⟨rfl, by repeat (first | exact Below.refl _ _ | assumption | refine Below.alloc ?_ (by simp <;> omega) _ | refine Below.setCell ?_ (by simp <;> omega) _ | refine Below.drew ?_ | refine Below.trans ?_ (Below.mono (by assumption) (by simp <;> omega)))⟩
theorem least_c (w : World) : Calls Try.prog 8 #[] w fun e w' => e = .returned (.int .i64 (-9223372036854775808)) ∧ w' = w := by
  go_enter Try.func8, Try.ntmps8
  go_wp2
  go_ret
  exact ⟨rfl, rfl⟩
theorem most_c (w : World) : Calls Try.prog 9 #[] w fun e w' => e = .returned (.int .i64 9223372036854775807) ∧ w' = w := by
  go_enter Try.func9, Try.ntmps9
  go_wp2
  go_ret
  exact ⟨rfl, rfl⟩
set_option maxHeartbeats 800000 in
theorem one_c (n : Int) (w : World) :
    Calls Try.prog 34 #[.int .i64 n] w fun e w' => e = .returned (.agg #[.int .i64 n, .int .i64 n]) ∧ Below w.heap.size w w' := by
  go_enter Try.func34, Try.ntmps34
  go_wp2
  exact bodyPost_ret (v := .agg #[.int .i64 n, .int .i64 n]) (by simp [results, Try.results34, go_sem]) rfl ⟨rfl, by repeat (first | exact Below.refl _ _ | assumption | refine Below.alloc ?_ (by simp <;> omega) _ | refine Below.setCell ?_ (by simp <;> omega) _ | refine Below.drew ?_ | refine Below.trans ?_ (Below.mono (by assumption) (by simp <;> omega)))⟩
set_option maxHeartbeats 800000 in
theorem ref_c (a b : Int) (w : World) :
    Calls Try.prog 11 #[.agg #[.int .i64 a, .int .i64 b]] w fun e w' => e = .returned (.agg #[.int .i64 a, .int .i64 b]) ∧ Below w.heap.size w w' := by
  go_enter Try.func11, Try.ntmps11
  go_wp2
  exact bodyPost_ret (v := .agg #[.int .i64 a, .int .i64 b]) (by simp [results, Try.results11, go_sem]) rfl ⟨rfl, by repeat (first | exact Below.refl _ _ | assumption | refine Below.alloc ?_ (by simp <;> omega) _ | refine Below.setCell ?_ (by simp <;> omega) _ | refine Below.drew ?_ | refine Below.trans ?_ (Below.mono (by assumption) (by simp <;> omega)))⟩
set_option maxHeartbeats 800000 in
theorem of_c (a b : Int) (w : World) :
    Calls Try.prog 32 #[.int .i64 a, .int .i64 b] w fun e w' => e = .returned (.agg #[.int .i64 (plo a b), .int .i64 (phi a b)]) ∧ Below w.heap.size w w' := by
  go_enter Try.func32, Try.ntmps32
  go_wp2_with (first | (go_at_call 36; refine (empty_c _).mono ?_; rintro e w1 ⟨rfl, hb1⟩; obtain ⟨hc1, hf1, hz1⟩ := bcell hb1; try simp at hc1 hf1 hz1))
  all_goals
    exact bodyPost_agg (by simp [results, Try.results32, go_sem, *]; exact ⟨rfl, rfl⟩) rfl ⟨by unfold plo; omega, by unfold phi; omega⟩ ⟨rfl, by repeat (first | exact Below.refl _ _ | assumption | refine Below.alloc ?_ (by simp <;> omega) _ | refine Below.setCell ?_ (by simp <;> omega) _ | refine Below.drew ?_ | refine Below.trans ?_ (Below.mono (by assumption) (by simp <;> omega)))⟩
set_option maxHeartbeats 800000 in
theorem plain_c (a b : Int) (w : World) :
    Calls Try.prog 33 #[.agg #[.int .i64 a, .int .i64 b]] w fun e w' => e = .returned (.agg #[.int .i64 (plo a b), .int .i64 (phi a b)]) ∧ Below w.heap.size w w' := by
  go_enter Try.func33, Try.ntmps33
  go_wp2_with (first | (go_at_call 36; refine (empty_c _).mono ?_; rintro e w1 ⟨rfl, hb1⟩; obtain ⟨hc1, hf1, hz1⟩ := bcell hb1; try simp at hc1 hf1 hz1))
  all_goals
    exact bodyPost_agg (by simp [results, Try.results33, go_sem, *]; exact ⟨rfl, rfl⟩) rfl ⟨by unfold plo; omega, by unfold phi; omega⟩ ⟨rfl, by repeat (first | exact Below.refl _ _ | assumption | refine Below.alloc ?_ (by simp <;> omega) _ | refine Below.setCell ?_ (by simp <;> omega) _ | refine Below.drew ?_ | refine Below.trans ?_ (Below.mono (by assumption) (by simp <;> omega)))⟩
set_option maxHeartbeats 800000 in
theorem of_ne (a b : Int) (w : World) (h : a ≤ b) :
    Calls Try.prog 32 #[.int .i64 a, .int .i64 b] w fun e w' => e = .returned (.agg #[.int .i64 a, .int .i64 b]) ∧ Below w.heap.size w w' := by
  have h1 : plo a b = a := if_neg (by omega)
  have h2 : phi a b = b := if_neg (by omega)
  have h3 := of_c a b w
  rw [h1, h2] at h3
  exact h3
set_option maxHeartbeats 800000 in
theorem has_c (a b n : Int) (w : World) :
    Calls Try.prog 19 #[.agg #[.int .i64 a, .int .i64 b], .int .i64 n] w fun e w' => e = .returned (.bool (hasB a b n)) ∧ Below w.heap.size w w' := by
  go_enter Try.func19, Try.ntmps19
  go_wp2
  all_goals
    go_ret
    exact ⟨ret_bool (by simp [hasB] <;> omega), by repeat (first | exact Below.refl _ _ | assumption | refine Below.alloc ?_ (by simp <;> omega) _ | refine Below.setCell ?_ (by simp <;> omega) _ | refine Below.drew ?_ | refine Below.trans ?_ (Below.mono (by assumption) (by simp <;> omega)))⟩
set_option maxHeartbeats 800000 in
theorem rHas_c (a b n : Int) (w : World) :
    Calls Try.prog 29 #[.agg #[.int .i64 a, .int .i64 b], .int .i64 n] w fun e w' => e = .returned (.bool (hasB a b n)) ∧ Below w.heap.size w w' := by
  go_enter Try.func29, Try.ntmps29
  go_wp2
  all_goals
    go_ret
    exact ⟨ret_bool (by simp [hasB] <;> omega), by repeat (first | exact Below.refl _ _ | assumption | refine Below.alloc ?_ (by simp <;> omega) _ | refine Below.setCell ?_ (by simp <;> omega) _ | refine Below.drew ?_ | refine Below.trans ?_ (Below.mono (by assumption) (by simp <;> omega)))⟩
set_option maxHeartbeats 800000 in
theorem near_c (a b n : Int) (w : World) :
    Calls Try.prog 25 #[.agg #[.int .i64 a, .int .i64 b], .int .i64 n] w fun e w' => e = .returned (.tuple #[.int .i64 (nr a b n), .bool (decide (a ≤ b))]) ∧ Below w.heap.size w w' := by
  go_enter Try.func25, Try.ntmps25
  go_wp2
  all_goals
    go_ret2
    exact ⟨ret_pair ⟨by unfold nr; omega, by simp <;> omega⟩, by repeat (first | exact Below.refl _ _ | assumption | refine Below.alloc ?_ (by simp <;> omega) _ | refine Below.setCell ?_ (by simp <;> omega) _ | refine Below.drew ?_ | refine Below.trans ?_ (Below.mono (by assumption) (by simp <;> omega)))⟩
set_option maxHeartbeats 800000 in
theorem rNear_c (a b n : Int) (w : World) :
    Calls Try.prog 26 #[.agg #[.int .i64 a, .int .i64 b], .int .i64 n] w fun e w' => e = .returned (.tuple #[.int .i64 (nr a b n), .bool (decide (a ≤ b))]) ∧ Below w.heap.size w w' := by
  go_enter Try.func26, Try.ntmps26
  go_wp2
  all_goals
    go_ret2
    exact ⟨ret_pair ⟨by unfold nr; omega, by simp <;> omega⟩, by repeat (first | exact Below.refl _ _ | assumption | refine Below.alloc ?_ (by simp <;> omega) _ | refine Below.setCell ?_ (by simp <;> omega) _ | refine Below.drew ?_ | refine Below.trans ?_ (Below.mono (by assumption) (by simp <;> omega)))⟩
set_option maxHeartbeats 800000 in
theorem single_c (a b : Int) (w : World) :
    Calls Try.prog 24 #[.agg #[.int .i64 a, .int .i64 b]] w fun e w' => e = .returned (.tuple #[.int .i64 (if a = b then a else 0), .bool (a == b)]) ∧ Below w.heap.size w w' := by
  go_enter Try.func24, Try.ntmps24
  go_wp2
  all_goals
    go_ret2
    exact ⟨ret_pair ⟨by simp_all, by simp_all⟩, by repeat (first | exact Below.refl _ _ | assumption | refine Below.alloc ?_ (by simp <;> omega) _ | refine Below.setCell ?_ (by simp <;> omega) _ | refine Below.drew ?_ | refine Below.trans ?_ (Below.mono (by assumption) (by simp <;> omega)))⟩
set_option maxHeartbeats 800000 in
theorem within_c (a b c d : Int) (w : World) :
    Calls Try.prog 21 #[.agg #[.int .i64 a, .int .i64 b], .agg #[.int .i64 c, .int .i64 d]] w fun e w' => e = .returned (.bool (withinB a b c d)) ∧ Below w.heap.size w w' := by
  go_enter Try.func21, Try.ntmps21
  go_wp2
  all_goals
    go_ret
    exact ⟨ret_bool (by rw [Bool.eq_iff_iff]; simp [withinB]; omega), by repeat (first | exact Below.refl _ _ | assumption | refine Below.alloc ?_ (by simp <;> omega) _ | refine Below.setCell ?_ (by simp <;> omega) _ | refine Below.drew ?_ | refine Below.trans ?_ (Below.mono (by assumption) (by simp <;> omega)))⟩
set_option maxHeartbeats 800000 in
theorem rWithin_c (a b c d : Int) (w : World) :
    Calls Try.prog 30 #[.agg #[.int .i64 a, .int .i64 b], .agg #[.int .i64 c, .int .i64 d]] w fun e w' => e = .returned (.bool (withinB a b c d)) ∧ Below w.heap.size w w' := by
  go_enter Try.func30, Try.ntmps30
  go_wp2
  all_goals
    go_ret
    exact ⟨ret_bool (by rw [Bool.eq_iff_iff]; simp [withinB]; omega), by repeat (first | exact Below.refl _ _ | assumption | refine Below.alloc ?_ (by simp <;> omega) _ | refine Below.setCell ?_ (by simp <;> omega) _ | refine Below.drew ?_ | refine Below.trans ?_ (Below.mono (by assumption) (by simp <;> omega)))⟩
set_option maxHeartbeats 800000 in
theorem join1_c (a b c d : Int) (w : World) :
    Calls Try.prog 38 #[.agg #[.int .i64 a, .int .i64 b], .agg #[.int .i64 c, .int .i64 d]] w fun e w' => e = .returned (.agg #[.int .i64 (jlo a b c d), .int .i64 (jhi a b c d)]) ∧ Below w.heap.size w w' := by
  go_enter Try.func38, Try.ntmps38
  go_wp2
  all_goals
    exact bodyPost_agg (by simp [results, Try.results38, go_sem, *]; exact ⟨rfl, rfl⟩) rfl ⟨by unfold jlo; omega, by unfold jhi; omega⟩ ⟨rfl, by repeat (first | exact Below.refl _ _ | assumption | refine Below.alloc ?_ (by simp <;> omega) _ | refine Below.setCell ?_ (by simp <;> omega) _ | refine Below.drew ?_ | refine Below.trans ?_ (Below.mono (by assumption) (by simp <;> omega)))⟩
set_option maxHeartbeats 800000 in
theorem rJoin_c (a b c d : Int) (w : World) :
    Calls Try.prog 10 #[.agg #[.int .i64 a, .int .i64 b], .agg #[.int .i64 c, .int .i64 d]] w fun e w' => e = .returned (.agg #[.int .i64 (rjlo a b c d), .int .i64 (rjhi a b c d)]) ∧ Below w.heap.size w w' := by
  go_enter Try.func10, Try.ntmps10
  go_wp2_with (first | (go_at_call 27; refine (isEmpty_x _ _ _).mono ?_; rintro e w1 ⟨rfl, rfl⟩) | (go_at_call 28; refine (rEmpty_x _ _ _).mono ?_; rintro e w1 ⟨rfl, rfl⟩) | (go_at_call 33; refine (plain_c _ _ _).mono ?_; rintro e w1 ⟨rfl, hb1⟩; obtain ⟨hc1, hf1, hz1⟩ := bcell hb1; try simp at hc1 hf1 hz1))
  all_goals
    exact bodyPost_agg (by simp [results, Try.results10, go_sem, *]; exact ⟨rfl, rfl⟩) rfl ⟨by unfold rjlo; (try rw [if_pos (by assumption)]) <;> omega, by unfold rjhi; (try rw [if_pos (by assumption)]) <;> omega⟩ ⟨rfl, by repeat (first | exact Below.refl _ _ | assumption | refine Below.alloc ?_ (by simp <;> omega) _ | refine Below.setCell ?_ (by simp <;> omega) _ | refine Below.drew ?_ | refine Below.trans ?_ (Below.mono (by assumption) (by simp <;> omega)))⟩
set_option maxHeartbeats 800000 in
theorem meet1_c (a b c d : Int) (w : World) :
    Calls Try.prog 39 #[.agg #[.int .i64 a, .int .i64 b], .agg #[.int .i64 c, .int .i64 d]] w fun e w' => e = .returned (.agg #[.int .i64 (mlo a b c d), .int .i64 (mhi a b c d)]) ∧ Below w.heap.size w w' := by
  go_enter Try.func39, Try.ntmps39
  go_wp2_with (first | (go_at_call 32; refine (of_c _ _ _).mono ?_; rintro e w1 ⟨rfl, hb1⟩; obtain ⟨hc1, hf1, hz1⟩ := bcell hb1; try simp at hc1 hf1 hz1))
  all_goals
    exact bodyPost_agg (by simp [results, Try.results39, go_sem, *]; exact ⟨rfl, rfl⟩) rfl ⟨by unfold mlo; congr 1 <;> omega, by unfold mhi; congr 1 <;> omega⟩ ⟨rfl, by repeat (first | exact Below.refl _ _ | assumption | refine Below.alloc ?_ (by simp <;> omega) _ | refine Below.setCell ?_ (by simp <;> omega) _ | refine Below.drew ?_ | refine Below.trans ?_ (Below.mono (by assumption) (by simp <;> omega)))⟩
set_option maxHeartbeats 800000 in
theorem rMeet_c (a b c d : Int) (w : World) :
    Calls Try.prog 12 #[.agg #[.int .i64 a, .int .i64 b], .agg #[.int .i64 c, .int .i64 d]] w fun e w' => e = .returned (.agg #[.int .i64 (mlo a b c d), .int .i64 (mhi a b c d)]) ∧ Below w.heap.size w w' := by
  go_enter Try.func12, Try.ntmps12
  go_wp2_with (first | (go_at_call 33; refine (plain_c _ _ _).mono ?_; rintro e w1 ⟨rfl, hb1⟩; obtain ⟨hc1, hf1, hz1⟩ := bcell hb1; try simp at hc1 hf1 hz1))
  all_goals
    exact bodyPost_agg (by simp [results, Try.results12, go_sem, *]; exact ⟨rfl, rfl⟩) rfl ⟨by unfold mlo; congr 1 <;> omega, by unfold mhi; congr 1 <;> omega⟩ ⟨rfl, by repeat (first | exact Below.refl _ _ | assumption | refine Below.alloc ?_ (by simp <;> omega) _ | refine Below.setCell ?_ (by simp <;> omega) _ | refine Below.drew ?_ | refine Below.trans ?_ (Below.mono (by assumption) (by simp <;> omega)))⟩
set_option maxHeartbeats 800000 in
theorem widen_c (a b c d : Int) (w : World) :
    Calls Try.prog 15 #[.agg #[.int .i64 a, .int .i64 b], .agg #[.int .i64 c, .int .i64 d]] w fun e w' => e = .returned (.agg #[.int .i64 (wlo a b c d), .int .i64 (whi a b c d)]) ∧ Below w.heap.size w w' := by
  go_enter Try.func15, Try.ntmps15
  go_wp2_with (first | (go_at_call 27; refine (isEmpty_x _ _ _).mono ?_; rintro e w1 ⟨rfl, rfl⟩) | (go_at_call 28; refine (rEmpty_x _ _ _).mono ?_; rintro e w1 ⟨rfl, rfl⟩) | (go_at_call 8; refine (least_c _).mono ?_; rintro e w1 ⟨rfl, rfl⟩) | (go_at_call 9; refine (most_c _).mono ?_; rintro e w1 ⟨rfl, rfl⟩) | (go_at_call 32; refine (of_c _ _ _).mono ?_; rintro e w1 ⟨rfl, hb1⟩; obtain ⟨hc1, hf1, hz1⟩ := bcell hb1; try simp at hc1 hf1 hz1))
  all_goals
    exact bodyPost_agg (by simp [results, Try.results15, go_sem, *]; exact ⟨rfl, rfl⟩) rfl ⟨by unfold wlo; (try rw [if_pos (by assumption)]) <;> omega, by unfold whi; (try rw [if_pos (by assumption)]) <;> omega⟩ ⟨rfl, by repeat (first | exact Below.refl _ _ | assumption | refine Below.alloc ?_ (by simp <;> omega) _ | refine Below.setCell ?_ (by simp <;> omega) _ | refine Below.drew ?_ | refine Below.trans ?_ (Below.mono (by assumption) (by simp <;> omega)))⟩
set_option maxHeartbeats 800000 in
theorem rWiden_c (a b c d : Int) (w : World) :
    Calls Try.prog 16 #[.agg #[.int .i64 a, .int .i64 b], .agg #[.int .i64 c, .int .i64 d]] w fun e w' => e = .returned (.agg #[.int .i64 (wlo a b c d), .int .i64 (whi a b c d)]) ∧ Below w.heap.size w w' := by
  go_enter Try.func16, Try.ntmps16
  go_wp2_with (first | (go_at_call 27; refine (isEmpty_x _ _ _).mono ?_; rintro e w1 ⟨rfl, rfl⟩) | (go_at_call 28; refine (rEmpty_x _ _ _).mono ?_; rintro e w1 ⟨rfl, rfl⟩) | (go_at_call 8; refine (least_c _).mono ?_; rintro e w1 ⟨rfl, rfl⟩) | (go_at_call 9; refine (most_c _).mono ?_; rintro e w1 ⟨rfl, rfl⟩) | (go_at_call 33; refine (plain_c _ _ _).mono ?_; rintro e w1 ⟨rfl, hb1⟩; obtain ⟨hc1, hf1, hz1⟩ := bcell hb1; try simp at hc1 hf1 hz1))
  all_goals
    exact bodyPost_agg (by simp [results, Try.results16, go_sem, *]; exact ⟨rfl, rfl⟩) rfl ⟨by unfold wlo; (try rw [if_pos (by assumption)]) <;> omega, by unfold whi; (try rw [if_pos (by assumption)]) <;> omega⟩ ⟨rfl, by repeat (first | exact Below.refl _ _ | assumption | refine Below.alloc ?_ (by simp <;> omega) _ | refine Below.setCell ?_ (by simp <;> omega) _ | refine Below.drew ?_ | refine Below.trans ?_ (Below.mono (by assumption) (by simp <;> omega)))⟩
end Go.Proofs.Ytfepaalplceaaaa
