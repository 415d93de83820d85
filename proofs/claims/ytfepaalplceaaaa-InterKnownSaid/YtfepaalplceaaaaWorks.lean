/- The examples of chapter 19, which stand at the end of each of its statements: the function works returns true. No condition. -/
import Derived.Test.YtfepaalplceaaaaFold
namespace Go.Proofs.Ytfepaalplceaaaa
open Go.RowKit
attribute [local go_sem ↓] run_eql24 run_neq24 run_eql26
theorem rd_two (W : World) (a b c d : Int) : Rd (W.alloc (.cells #[.int .i64 a, .int .i64 b, .int .i64 c, .int .i64 d] 24)) (some ⟨W.heap.size, 0, none⟩) 2 [(a, b), (c, d)] := by
  have hb := Bk.new W 24 #[.int .i64 a, .int .i64 b, .int .i64 c, .int .i64 d]
  refine ⟨rfl, fun _ => ⟨W.heap.size, 0, rfl, by simp, fun i p hp => ?_⟩⟩
  rw [hb.cell, hb.cell]
  match i, hp with
  | 0, hp => simp at hp; subst hp; exact ⟨rfl, rfl⟩
  | 1, hp => simp at hp; subst hp; exact ⟨rfl, rfl⟩
  | i + 2, hp => simp at hp
theorem S2 {w3 w' : World} {F : Nat} {x y : Value} (hF : F < w3.heap.size) (c0 : w3.cell? ⟨F, 0, none⟩ = some x) (c1 : w3.cell? ⟨F, 1, none⟩ = some y) (hN : Below w3.heap.size w3 w') :
    Below w3.heap.size w3 w' ∧ w'.cell? ⟨F, 0, none⟩ = some x ∧ w'.cell? ⟨F, 1, none⟩ = some y :=
  ⟨hN, (hN.cell (p := ⟨F, 0, none⟩) hF).trans c0, (hN.cell (p := ⟨F, 1, none⟩) hF).trans c1⟩
theorem join2_c (a b c d : Int) (g : Nat) (w : World) (hr : Rd w (some ⟨g, 0, none⟩) 2 [(a, b), (c, d)]) {x y : Int} (h : foldF jstep 1 0 [(a, b), (c, d)] 2 = (x, y)) :
    Calls Try.prog 13 #[.slice (some ⟨g, 0, none⟩) 2 2] w fun e w' => e = .returned (.agg #[.int .i64 x, .int .i64 y]) ∧ Below w.heap.size w w' := by
  have h1 := join_c (some ⟨g, 0, none⟩) 2 2 _ w hr (by omega)
  rw [h] at h1; exact h1
theorem meet2_c (a b c d : Int) (g : Nat) (w : World) (hr : Rd w (some ⟨g, 0, none⟩) 2 [(a, b), (c, d)]) {x y : Int} (h : foldF mstep (-9223372036854775808) 9223372036854775807 [(a, b), (c, d)] 2 = (x, y)) :
    Calls Try.prog 14 #[.slice (some ⟨g, 0, none⟩) 2 2] w fun e w' => e = .returned (.agg #[.int .i64 x, .int .i64 y]) ∧ Below w.heap.size w w' := by
  have h1 := meet_c (some ⟨g, 0, none⟩) 2 2 _ w hr (by omega)
  rw [h] at h1; exact h1
theorem size11 (w : World) : Calls Try.prog 22 #[.agg #[.int .i64 (-1), .int .i64 1]] w fun e w' => e = .returned (.tuple #[.int .u64 3, .bool true]) ∧ Below w.heap.size w w' := by
  have h := size_c (-1) 1 w (by decide)
  have e1 : sz (-1) 1 = 3 := by decide
  have e2 : szok (-1) 1 = true := by decide
  rw [e1, e2] at h; exact h
theorem sizeW (w : World) : Calls Try.prog 22 #[.agg #[.int .i64 (-9223372036854775808), .int .i64 9223372036854775807]] w fun e w' => e = .returned (.tuple #[.int .u64 0, .bool false]) ∧ Below w.heap.size w w' := by
  have h := size_c (-9223372036854775808) 9223372036854775807 w (by decide)
  have e1 : sz (-9223372036854775808) 9223372036854775807 = 0 := by decide
  have e2 : szok (-9223372036854775808) 9223372036854775807 = false := by decide
  rw [e1, e2] at h; exact h
theorem widenK (w : World) : Calls Try.prog 15 #[.agg #[.int .i64 0, .int .i64 5], .agg #[.int .i64 0, .int .i64 6]] w fun e w' => e = .returned (.agg #[.int .i64 0, .int .i64 9223372036854775807]) ∧ Below w.heap.size w w' := by
  have h := widen_c 0 5 0 6 w
  have e1 : wlo 0 5 0 6 = 0 := by decide
  have e2 : whi 0 5 0 6 = 9223372036854775807 := by decide
  rw [e1, e2] at h; exact h
theorem narrowK (w : World) : Calls Try.prog 17 #[.agg #[.int .i64 0, .int .i64 9223372036854775807], .agg #[.int .i64 0, .int .i64 9]] w fun e w' => e = .returned (.agg #[.int .i64 0, .int .i64 9]) ∧ Below w.heap.size w w' := by
  have h := narrow_c 0 9223372036854775807 0 9 w
  have e1 : nlo 0 9223372036854775807 0 9 = 0 := by decide
  have e2 : nhi 0 9223372036854775807 0 9 = 9 := by decide
  rw [e1, e2] at h; exact h
set_option maxRecDepth 100000 in
set_option maxHeartbeats 4000000 in
theorem works_c (w : World) : Calls Try.prog 7 #[] w fun e w' => e = .returned (.bool true) ∧ Below w.heap.size w w' := by
  go_enter Try.func7, Try.ntmps7
  go_wp2_with fail
  refine (of_ne _ _ _ (by decide)).mono ?_
  rintro e w1 ⟨rfl, hb1⟩
  go_wp2_with fail
  refine (of_ne _ _ _ (by decide)).mono ?_
  rintro e w2 ⟨rfl, hb2⟩
  go_wp2_with fail
  refine (size11 _).mono ?_
  rintro e w3 ⟨rfl, hb3⟩
  go_wp2_with fail
  refine (whole_c _).mono ?_
  rintro e w4 ⟨rfl, hb4⟩
  go_wp2_with fail
  refine (sizeW _).mono ?_
  rintro e w5 ⟨rfl, hb5⟩
  go_wp2_with fail
  have hB5 : Below w.heap.size w w5 := (((((hb1.trans ((Below.refl _ _).alloc hb1.size _))).trans (hb2.mono (by simp; have := hb1.size; omega))).trans (hb3.mono (by have := hb2.size; simp at this; have := hb1.size; omega))).trans (hb4.mono (by have := hb2.size; simp at this; have := hb1.size; have := hb3.size; omega))).trans (hb5.mono (by have := hb2.size; simp at this; have := hb1.size; have := hb3.size; have := hb4.size; omega))
  have hF : w1.heap.size < w5.heap.size := by have := hb2.size; simp at this; have := hb3.size; have := hb4.size; have := hb5.size; omega
  have k1 := ((((Bk.new w1 24 #[.int .i64 0, .int .i64 9223372036854775807]).keep hb2).keep hb3).keep hb4).keep hb5
  have c0 := k1.cell 0
  have c1 := k1.cell 1
  simp at c0 c1
  clear k1 hb1 hb2 hb3 hb4 hb5
  generalize w1.heap.size = F at *
  go_region_held3 (fun w' => Below w5.heap.size w5 w' ∧ w'.cell? ⟨F, 0, none⟩ = some (.int .i64 0) ∧ w'.cell? ⟨F, 1, none⟩ = some (.int .i64 9223372036854775807))
    (first
      | exact S2 hF c0 c1 (Below.refl _ _).drew
      | (obtain ⟨h1, _, _⟩ := ‹Below w5.heap.size w5 _ ∧ _›; exact S2 hF c0 c1 (h1.trans (hbn.mono h1.size)))
      | (obtain ⟨h1, _, _⟩ := ‹Below w5.heap.size w5 _ ∧ _›; exact S2 hF c0 c1 (h1.alloc h1.size _)))
    (first
      | (go_at_call 32; refine (of_ne _ _ _ (by decide)).mono ?_; rintro e w1 ⟨rfl, hbn⟩)
      | (go_at_call 13; refine (join2_c _ _ _ _ _ _ (rd_two _ _ _ _ _) (x := 1) (y := 9) (by decide)).mono ?_; rintro e w1 ⟨rfl, hbn⟩)
      | (go_at_call 14; refine (meet2_c _ _ _ _ _ _ (rd_two _ _ _ _ _) (x := 1) (y := 0) (by decide)).mono ?_; rintro e w1 ⟨rfl, hbn⟩)
      | (go_at_call 15; refine (widenK _).mono ?_; rintro e w1 ⟨rfl, hbn⟩)
      | (go_at_call 17; refine (narrowK _).mono ?_; rintro e w1 ⟨rfl, hbn⟩))
  have hE := (‹Below w5.heap.size w5 _ ∧ _›).1
  go_wp2
  go_ret
  exact ⟨rfl, hB5.trans (hE.mono hB5.size)⟩
end Go.Proofs.Ytfepaalplceaaaa
