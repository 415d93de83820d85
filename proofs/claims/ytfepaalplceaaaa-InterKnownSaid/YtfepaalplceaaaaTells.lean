/- InterTells, walked: whatever the two intervals and the number, the statement returns true, and nothing that was there before has turned. -/
import Derived.Test.YtfepaalplceaaaaWorks
import Derived.Deep.DeepCutAuto
namespace Go.Proofs.Ytfepaalplceaaaa
open Go.RowKit
attribute [local go_sem ↓] run_eql24 run_neq24 run_eql26
attribute [local go_sem] alloc_drewN setCell_drewN
def single (a b : Int) : Int := if a = b then a else 0
theorem single_s (a b : Int) (w : World) :
    Calls Try.prog 24 #[.agg #[.int .i64 a, .int .i64 b]] w fun e w' => e = .returned (.tuple #[.int .i64 (single a b), .bool (a == b)]) ∧ Below w.heap.size w w' := single_c a b w
/-- What stands when the four boxes are laid: two intervals as the program has them, and as the reference has them. -/
def T4 (w w' : World) (g7 g8 : Nat) (a b c d : Int) : Prop :=
  Below w.heap.size w w' ∧ Bk w' w.heap.size 24 #[.int .i64 a, .int .i64 b] ∧ Bk w' (w.heap.size + 1) 24 #[.int .i64 c, .int .i64 d] ∧ Bk w' g7 26 #[.int .i64 a, .int .i64 b] ∧ Bk w' g8 26 #[.int .i64 c, .int .i64 d]
theorem T4.step {w w1 w2 : World} {g7 g8 : Nat} {a b c d : Int} (h : T4 w w1 g7 g8 a b c d) (hb : Below w1.heap.size w1 w2) : T4 w w2 g7 g8 a b c d :=
  ⟨h.1.trans (hb.mono h.1.size), h.2.1.keep hb, h.2.2.1.keep hb, h.2.2.2.1.keep hb, h.2.2.2.2.keep hb⟩
theorem T4.cells {w w' : World} {g7 g8 : Nat} {a b c d : Int} (h : T4 w w' g7 g8 a b c d) :
    w'.cell? ⟨w.heap.size, 0, none⟩ = some (.int .i64 a) ∧ w'.cell? ⟨w.heap.size, 1, none⟩ = some (.int .i64 b) ∧ w'.cell? ⟨w.heap.size + 1, 0, none⟩ = some (.int .i64 c) ∧ w'.cell? ⟨w.heap.size + 1, 1, none⟩ = some (.int .i64 d) ∧
    w'.cell? ⟨g7, 0, none⟩ = some (.int .i64 a) ∧ w'.cell? ⟨g7, 1, none⟩ = some (.int .i64 b) ∧ w'.cell? ⟨g8, 0, none⟩ = some (.int .i64 c) ∧ w'.cell? ⟨g8, 1, none⟩ = some (.int .i64 d) :=
  ⟨h.2.1.cell 0, h.2.1.cell 1, h.2.2.1.cell 0, h.2.2.1.cell 1, h.2.2.2.1.cell 0, h.2.2.2.1.cell 1, h.2.2.2.2.cell 0, h.2.2.2.2.cell 1⟩
theorem S2b {w3 w' : World} {F0 F1 : Nat} {x0 y0 x1 y1 : Value} (hk : Bk w3 F0 24 #[x0, y0] ∧ Bk w3 F1 24 #[x1, y1]) (hN : Below w3.heap.size w3 w') :
    Below w3.heap.size w3 w' ∧ w'.cell? ⟨F0, 0, none⟩ = some x0 ∧ w'.cell? ⟨F0, 1, none⟩ = some y0 ∧ w'.cell? ⟨F1, 0, none⟩ = some x1 ∧ w'.cell? ⟨F1, 1, none⟩ = some y1 :=
  ⟨hN, (hk.1.keep hN).cell 0, (hk.1.keep hN).cell 1, (hk.2.keep hN).cell 0, (hk.2.keep hN).cell 1⟩
theorem S10 {w w3 w' : World} {g7 g8 g19 : Nat} {a b c d x y : Int} (hk : T4 w w3 g7 g8 a b c d ∧ Bk w3 g19 26 #[.int .i64 x, .int .i64 y]) (hN : Below w3.heap.size w3 w') :
    Below w3.heap.size w3 w' ∧ w'.cell? ⟨w.heap.size, 0, none⟩ = some (.int .i64 a) ∧ w'.cell? ⟨w.heap.size, 1, none⟩ = some (.int .i64 b) ∧ w'.cell? ⟨w.heap.size + 1, 0, none⟩ = some (.int .i64 c) ∧ w'.cell? ⟨w.heap.size + 1, 1, none⟩ = some (.int .i64 d) ∧
    w'.cell? ⟨g7, 0, none⟩ = some (.int .i64 a) ∧ w'.cell? ⟨g7, 1, none⟩ = some (.int .i64 b) ∧ w'.cell? ⟨g8, 0, none⟩ = some (.int .i64 c) ∧ w'.cell? ⟨g8, 1, none⟩ = some (.int .i64 d) ∧ w'.cell? ⟨g19, 0, none⟩ = some (.int .i64 x) ∧ w'.cell? ⟨g19, 1, none⟩ = some (.int .i64 y) :=
  have h := (hk.1.step hN).cells
  ⟨hN, h.1, h.2.1, h.2.2.1, h.2.2.2.1, h.2.2.2.2.1, h.2.2.2.2.2.1, h.2.2.2.2.2.2.1, h.2.2.2.2.2.2.2, (hk.2.keep hN).cell 0, (hk.2.keep hN).cell 1⟩
theorem bk_new {w : World} {g : Nat} {t : TypeId} {cs : Array Value} (h : g = w.heap.size) : Bk (w.alloc (.cells cs t)) g t cs := by subst h; exact Bk.new w t cs
theorem ref_x (a b : Int) (w : World) :
    Calls Try.prog 11 #[.agg #[.int .i64 a, .int .i64 b]] w fun e w' => e = .returned (.agg #[.int .i64 a, .int .i64 b]) ∧ w' = (w.alloc (.cells #[.int .i64 a, .int .i64 b] 24)).alloc (.cells #[.int .i64 a, .int .i64 b] 26) := by
  go_enter Try.func11, Try.ntmps11
  go_wp2
  exact bodyPost_ret (v := .agg #[.int .i64 a, .int .i64 b]) (by simp [results, Try.results11, go_sem]) rfl ⟨rfl, rfl⟩
set_option maxRecDepth 100000 in
set_option maxHeartbeats 8000000 in
theorem tells_c (a b c d n : Int) (w : World) (H : -9223372036854775808 ≤ a ∧ b ≤ 9223372036854775807) :
    Calls Try.prog 5 #[.agg #[.int .i64 a, .int .i64 b], .agg #[.int .i64 c, .int .i64 d], .int .i64 n] w fun e w' => e = .returned (.bool true) ∧ Below w.heap.size w w' := by
  have HH : Hid (-9223372036854775808 ≤ a ∧ b ≤ 9223372036854775807) := H
  clear H
  go_enter Try.func5, Try.ntmps5
  go_upto_region 1 with fail
  go_cut [7, 8] (fun s7 s8 wx => ∃ g7 g8 : Nat, s7 = .pointer (some ⟨g7, 0, none⟩) ∧ s8 = .pointer (some ⟨g8, 0, none⟩) ∧ T4 w wx g7 g8 a b c d)
  case first =>
    have hk0 : Bk ((w.alloc (.cells #[.int .i64 a, .int .i64 b] 24)).alloc (.cells #[.int .i64 c, .int .i64 d] 24)) w.heap.size 24 #[.int .i64 a, .int .i64 b] ∧ Bk ((w.alloc (.cells #[.int .i64 a, .int .i64 b] 24)).alloc (.cells #[.int .i64 c, .int .i64 d] 24)) (w.heap.size + 1) 24 #[.int .i64 c, .int .i64 d] :=
      ⟨(Bk.new _ _ _).alloc _, by have := Bk.new (w.alloc (.cells #[.int .i64 a, .int .i64 b] 24)) 24 #[.int .i64 c, .int .i64 d]; simpa using this⟩
    have hB0 : Below w.heap.size w ((w.alloc (.cells #[.int .i64 a, .int .i64 b] 24)).alloc (.cells #[.int .i64 c, .int .i64 d] 24)) := ((Below.refl _ _).alloc (Nat.le_refl _) _).alloc (by simp) _
    generalize ((w.alloc (.cells #[.int .i64 a, .int .i64 b] 24)).alloc (.cells #[.int .i64 c, .int .i64 d] 24)) = wz at *
    have HK0 := Lib.hid hk0
    clear hk0
    go_region_held3 (fun w' => Below wz.heap.size wz w' ∧ w'.cell? ⟨w.heap.size, 0, none⟩ = some (.int .i64 a) ∧ w'.cell? ⟨w.heap.size, 1, none⟩ = some (.int .i64 b) ∧ w'.cell? ⟨w.heap.size + 1, 0, none⟩ = some (.int .i64 c) ∧ w'.cell? ⟨w.heap.size + 1, 1, none⟩ = some (.int .i64 d))
      ((refine S2b HK0.out ?_; repeat (first | exact Below.refl _ _ | refine Below.alloc ?_ (by simp <;> omega) _ | refine Below.drew ?_)))
      (first
        | (go_at_call 11; refine (ref_x _ _ _).mono ?_; rintro e w1 ⟨rfl, rfl⟩))
    all_goals
      go_wp2_with fail
      go_meet
      exact ⟨_, _, rfl, rfl, hB0.trans (Below.mono (by repeat (first | exact Below.refl _ _ | refine Below.alloc ?_ (by simp <;> omega) _ | refine Below.drew ?_)) hB0.size), by repeat (first | exact HK0.out.1 | refine Bk.alloc ?_ _ | exact Bk.drew HK0.out.1), by repeat (first | exact HK0.out.2 | refine Bk.alloc ?_ _ | exact Bk.drew HK0.out.2), by repeat (first | (refine bk_new ?_; simp; done) | refine Bk.alloc ?_ _ | refine Bk.drew ?_), by repeat (first | (refine bk_new ?_; simp; done) | refine Bk.alloc ?_ _ | refine Bk.drew ?_)⟩
  case rest =>
    obtain ⟨g7, g8, rfl, rfl, hT⟩ := hcut
    have HT := Lib.hid hT
    obtain ⟨x1, x2, x3, x4, x5, x6, x7, x8⟩ := hT.cells
    clear hT
    go_wp2_with fail
    refine (size_c _ _ _ HH.out).mono ?_
    rintro e w1 ⟨rfl, hb⟩
    have hT := HT.out.step hb
    clear x1 x2 x3 x4 x5 x6 x7 x8 hb HT
    have HT := Lib.hid hT
    obtain ⟨x1, x2, x3, x4, x5, x6, x7, x8⟩ := hT.cells
    clear hT
    go_wp2_with fail
    refine (rSize_c _ _ _ HH.out).mono ?_
    rintro e w2 ⟨rfl, hb⟩
    have hT := HT.out.step hb
    clear x1 x2 x3 x4 x5 x6 x7 x8 hb HT
    have HT := Lib.hid hT
    obtain ⟨x1, x2, x3, x4, x5, x6, x7, x8⟩ := hT.cells
    clear hT
    go_wp2_with fail
    refine (single_s _ _ _).mono ?_
    rintro e w3 ⟨rfl, hb⟩
    have hT := HT.out.step hb
    clear x1 x2 x3 x4 x5 x6 x7 x8 hb HT
    have HT := Lib.hid hT
    obtain ⟨x1, x2, x3, x4, x5, x6, x7, x8⟩ := hT.cells
    clear hT
    go_wp2_with fail
    refine (near_c _ _ _ _).mono ?_
    rintro e w4 ⟨rfl, hb⟩
    have hT := HT.out.step hb
    clear x1 x2 x3 x4 x5 x6 x7 x8 hb HT
    have HT := Lib.hid hT
    obtain ⟨x1, x2, x3, x4, x5, x6, x7, x8⟩ := hT.cells
    clear hT
    go_wp2_with fail
    refine (rNear_c _ _ _ _).mono ?_
    rintro e w5 ⟨rfl, hb⟩
    have hT := HT.out.step hb
    clear x1 x2 x3 x4 x5 x6 x7 x8 hb HT
    have HT := Lib.hid hT
    obtain ⟨x1, x2, x3, x4, x5, x6, x7, x8⟩ := hT.cells
    clear hT
    go_upto_region 7 with fail
    go_cut [13, 14, 94] (fun _ _ s94 wx => s94 = .bool false ∧ T4 w wx g7 g8 a b c d)
    case first =>
      by_cases h : a = b
      · have e1 : single a b = a := if_pos h
        have e2 : (a == b) = true := by simpa using h
        rw [e1]
        clear h e1
        go_wp2
        go_meet
        exact ⟨rfl, HT.out⟩
      · have e1 : single a b = 0 := if_neg h
        have e2 : (a == b) = false := by simpa using h
        rw [e1]
        clear h e1
        go_wp2
        go_meet
        exact ⟨rfl, HT.out⟩
    case rest =>
      obtain ⟨rfl, hT⟩ := hcut
      have HT := Lib.hid hT
      clear hT
      go_wp2_with (first | (go_at_call 8; refine (least_c _).mono ?_; rintro e w1 ⟨rfl, rfl⟩) | (go_at_call 9; refine (most_c _).mono ?_; rintro e w1 ⟨rfl, rfl⟩))
      have hk : T4 w (w1.alloc (.cells #[.int .i64 (-9223372036854775808), .int .i64 9223372036854775807] 26)) g7 g8 a b c d ∧ Bk (w1.alloc (.cells #[.int .i64 (-9223372036854775808), .int .i64 9223372036854775807] 26)) w1.heap.size 26 #[.int .i64 (-9223372036854775808), .int .i64 9223372036854775807] :=
        ⟨HT.out.step ((Below.refl _ _).alloc (Nat.le_refl _) _), Bk.new _ _ _⟩
      clear HT
      have HK := Lib.hid hk
      clear hk
      generalize w1.heap.size = g19 at *
      generalize (w1.alloc (.cells #[.int .i64 (-9223372036854775808), .int .i64 9223372036854775807] 26)) = wz at *
      simp only [List.append]
      go_region_held3 (fun w' => Below wz.heap.size wz w' ∧ w'.cell? ⟨w.heap.size, 0, none⟩ = some (.int .i64 a) ∧ w'.cell? ⟨w.heap.size, 1, none⟩ = some (.int .i64 b) ∧ w'.cell? ⟨w.heap.size + 1, 0, none⟩ = some (.int .i64 c) ∧ w'.cell? ⟨w.heap.size + 1, 1, none⟩ = some (.int .i64 d) ∧
          w'.cell? ⟨g7, 0, none⟩ = some (.int .i64 a) ∧ w'.cell? ⟨g7, 1, none⟩ = some (.int .i64 b) ∧ w'.cell? ⟨g8, 0, none⟩ = some (.int .i64 c) ∧ w'.cell? ⟨g8, 1, none⟩ = some (.int .i64 d) ∧ w'.cell? ⟨g19, 0, none⟩ = some (.int .i64 (-9223372036854775808)) ∧ w'.cell? ⟨g19, 1, none⟩ = some (.int .i64 9223372036854775807))
        (first
          | exact S10 HK.out (Below.refl _ _).drew
          | (obtain ⟨h1, _⟩ := ‹Below wz.heap.size wz _ ∧ _›; exact S10 HK.out (h1.trans (hbn.mono h1.size))))
        (first
          | (go_at_call 11; refine (ref_c _ _ _).mono ?_; rintro e w1 ⟨rfl, hbn⟩)
          | (go_at_call 27; refine (isEmpty_c _ _ _).mono ?_; rintro e w1 ⟨rfl, hbn⟩)
          | (go_at_call 28; refine (rEmpty_c _ _ _).mono ?_; rintro e w1 ⟨rfl, hbn⟩)
          | (go_at_call 19; refine (has_c _ _ _ _).mono ?_; rintro e w1 ⟨rfl, hbn⟩)
          | (go_at_call 29; refine (rHas_c _ _ _ _).mono ?_; rintro e w1 ⟨rfl, hbn⟩)
          | (go_at_call 21; refine (within_c _ _ _ _ _).mono ?_; rintro e w1 ⟨rfl, hbn⟩)
          | (go_at_call 30; refine (rWithin_c _ _ _ _ _).mono ?_; rintro e w1 ⟨rfl, hbn⟩)
          | (go_at_call 20; refine (same_c _ _ _ _ _).mono ?_; rintro e w1 ⟨rfl, hbn⟩)
          | (go_at_call 31; refine (rSame_c _ _ _ _ _).mono ?_; rintro e w1 ⟨rfl, hbn⟩)
          | (go_at_call 32; refine (of_c _ _ _).mono ?_; rintro e w1 ⟨rfl, hbn⟩)
          | (go_at_call 33; refine (plain_c _ _ _).mono ?_; rintro e w1 ⟨rfl, hbn⟩)
          | (go_at_call 34; refine (one_c _ _).mono ?_; rintro e w1 ⟨rfl, hbn⟩)
          | (go_at_call 35; refine (whole_c _).mono ?_; rintro e w1 ⟨rfl, hbn⟩)
          | (go_at_call 36; refine (empty_c _).mono ?_; rintro e w1 ⟨rfl, hbn⟩)
          | (go_at_call 7; refine (works_c _).mono ?_; rintro e w1 ⟨rfl, hbn⟩))
      have hE := (‹Below wz.heap.size wz _ ∧ _›).1
      go_wp2
      go_ret
      exact ⟨rfl, HK.out.1.1.trans (hE.mono HK.out.1.1.size)⟩
end Go.Proofs.Ytfepaalplceaaaa
