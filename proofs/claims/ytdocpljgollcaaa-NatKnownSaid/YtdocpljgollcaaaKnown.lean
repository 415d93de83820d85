/- NatKnown: the examples of the chapter, and limbs of few values with each other: true. A closed statement. -/
import Derived.Test.YtdocpljgollcaaaLawsHold
import Derived.Test.YtdocpljgollcaaaReckons
import Derived.Test.YtdocpljgollcaaaMakes
namespace Go.Proofs.Ytdocpljgollcaaa
open Go.ChangeShapes Go.WideShapes Go.ChangeAt Go.RowKit Go.Joins
attribute [local go_sem] alloc_drewN setCell_drewN
/-- A row of limbs, not long. -/
def RowIn (w : World) (u : Value) : Prop := ∃ (A : Option Addr) (m c : Nat) (l : List Nat), u = .slice A m c ∧ Rw .u64 w A m l ∧ AllLt 18446744073709551616 l ∧ m ≤ 40 ∧ m ≤ c
theorem RowIn.keep {w w' : World} {u : Value} (h : RowIn w u) (hb : Below w.heap.size w w') : RowIn w' u := by
  obtain ⟨A, m, c, l, h1, h2, h3⟩ := h
  exact ⟨A, m, c, l, h1, h2.keep hb, h3⟩
def rowS : StP := ⟨fun u w => ∃ (A : Option Addr) (m c : Nat) (l : List Nat), u = .slice A m c ∧ Rw .u64 w A m l ∧ AllLt 18446744073709551616 l ∧ m ≤ 40 ∧ m ≤ c, fun _ _ _ hb h => RowIn.keep h hb⟩
def wordS : StP := ⟨fun u _ => ∃ t : Nat, t < 18446744073709551616 ∧ u = .int .u64 t, fun _ _ _ _ h => h⟩
theorem word_of {w : World} (z : Int) (h : 0 ≤ z ∧ z < 18446744073709551616) : wordS.p (.int .u64 z) w := ⟨z.toNat, by omega, by rw [Int.toNat_of_nonneg h.1]⟩
theorem wrap_in (z : Int) : 0 ≤ IntKind.u64.wrap z ∧ IntKind.u64.wrap z < 18446744073709551616 := by rw [IntKind.wrap_u64]; omega
/-- n rows of limbs in block g. -/
def RowsAt (w : World) (g n : Nat) : Prop := g < w.heap.size ∧ ∀ i, i < n → ∃ (A : Option Addr) (m c : Nat) (l : List Nat), w.cell? ⟨g, i, none⟩ = some (.slice A m c) ∧ Rw .u64 w A m l ∧ AllLt 18446744073709551616 l ∧ m ≤ 40 ∧ m ≤ c
theorem RowsAt.up {w w' : World} {g n : Nat} (h : RowsAt w g n) (hb : Below w.heap.size w w') : RowsAt w' g n := by
  obtain ⟨h1, h2⟩ := h
  refine ⟨Nat.lt_of_lt_of_le h1 hb.size, fun i hi => ?_⟩
  obtain ⟨A, m, c, l, k1, k2, k3⟩ := h2 i hi
  exact ⟨A, m, c, l, (hb.cell (p := ⟨g, i, none⟩) h1).trans k1, k2.keep hb, k3⟩
theorem RowsAt.keep {w w' : World} {g n : Nat} (h : RowsAt w g n) (hb : Below w.heap.size w w') (i : Nat) (hi : i < n) : ∃ (A : Option Addr) (m c : Nat) (l : List Nat), w'.cell? ⟨g, i, none⟩ = some (.slice A m c) ∧ Rw .u64 w' A m l ∧ AllLt 18446744073709551616 l ∧ m ≤ 40 ∧ m ≤ c := (h.up hb).2 i hi
theorem rw_bk {w : World} {g : Nat} (l : List Nat) (h : Bk w g 33 (cellsOf .u64 l).toArray) : Rw .u64 w (some ⟨g, 0, none⟩) l.length l :=
  ⟨rfl, fun _ => ⟨g, 0, rfl, h.lt, fun i x hx => by
    have := h.cell i
    rw [Nat.zero_add, this]
    simp [cellsOf, hx]⟩⟩
theorem lit_row {w : World} {g : Nat} (l : List Nat) (h : Bk w g 33 (cellsOf .u64 l).toArray) (hl : (l.all fun x => decide (x < 18446744073709551616)) = true) (h4 : l.length ≤ 40) : RowIn w (.slice (some ⟨g, 0, none⟩) l.length l.length) :=
  ⟨_, _, _, l, rfl, rw_bk l h, fun x hx => by simpa using List.all_eq_true.1 hl x hx, h4, Nat.le_refl _⟩
theorem bk_new' (w : World) (t : TypeId) (cs : Array Value) (g : Nat) (hg : w.heap.size = g) : Bk (w.alloc (.cells cs t)) g t cs := by subst hg; exact Bk.new w t cs
theorem bk_eq {w : World} {g : Nat} {t : TypeId} {cs ds : Array Value} (h : Bk w g t cs) (e : cs = ds) : Bk w g t ds := e ▸ h
theorem rows_at {w : World} {g : Nat} (us : List Value) (h : Bk w g 22 us.toArray) (hu : ∀ u ∈ us, RowIn w u) : RowsAt w g us.length :=
  ⟨h.lt, fun i hi => by
    have h1 := h.cell i
    obtain ⟨A, m, c, l, k1, k2, k3⟩ := hu _ (List.getElem_mem hi)
    refine ⟨A, m, c, l, ?_, k2, k3⟩
    rw [h1, ← k1]
    simp⟩
set_option maxRecDepth 100000 in
set_option maxHeartbeats 16000000 in
theorem known_c (w : World) : Calls Try.prog 6 #[] w fun e w' => e = .returned (.bool true) ∧ Below w.heap.size w w' := by
  go_enter Try.func6, Try.ntmps6
  go_upto_region 2 with fail
  obtain ⟨W, hW⟩ : ∃ W, W = ((((((((((w.alloc (.cells #[.int .u64 0] 33)).alloc (.cells #[.int .u64 1] 33)).alloc (.cells #[.int .u64 18446744073709551615] 33)).alloc (.cells #[.int .u64 0, .int .u64 1] 33)).alloc (.cells #[.int .u64 18446744073709551615, .int .u64 18446744073709551615] 33)).alloc (.cells #[.int .u64 5, .int .u64 0, .int .u64 0] 33)).alloc (.cells #[.int .u64 0, .int .u64 0, .int .u64 9223372036854775808] 33)).alloc (.cells #[.int .u64 9223372036854775808] 33)).alloc (.cells #[.int .u64 3, .int .u64 7, .int .u64 18446744073709551615, .int .u64 9] 33)).alloc (.cells #[.slice none 0 0, .slice (some ⟨w.heap.size, 0, none⟩) 1 1, .slice (some ⟨w.heap.size + 1, 0, none⟩) 1 1, .slice (some ⟨w.heap.size + 1 + 1, 0, none⟩) 1 1, .slice (some ⟨w.heap.size + 1 + 1 + 1, 0, none⟩) 2 2, .slice (some ⟨w.heap.size + 1 + 1 + 1 + 1, 0, none⟩) 2 2, .slice (some ⟨w.heap.size + 1 + 1 + 1 + 1 + 1, 0, none⟩) 3 3, .slice (some ⟨w.heap.size + 1 + 1 + 1 + 1 + 1 + 1, 0, none⟩) 3 3, .slice (some ⟨w.heap.size + 1 + 1 + 1 + 1 + 1 + 1 + 1, 0, none⟩) 1 1, .slice (some ⟨w.heap.size + 1 + 1 + 1 + 1 + 1 + 1 + 1 + 1, 0, none⟩) 4 4] 22)) := ⟨_, rfl⟩
  have HR0 : RowsAt W (w.heap.size + 1 + 1 + 1 + 1 + 1 + 1 + 1 + 1 + 1) 10 ∧ Below w.heap.size w W := by
    subst hW
    refine ⟨rows_at [_, _, _, _, _, _, _, _, _, _] (by refine bk_new' _ _ _ _ (by simp)) ?_, by repeat (first | exact Below.refl _ _ | refine Below.alloc ?_ (by simp <;> omega) _)⟩
    intro u hu
    simp only [List.mem_cons, List.not_mem_nil, or_false] at hu
    rcases hu with rfl | rfl | rfl | rfl | rfl | rfl | rfl | rfl | rfl | rfl
    · exact ⟨none, 0, 0, [], rfl, Rw.nil _ _ _, (fun _ h => by cases h), by decide, by decide⟩
    · exact lit_row [0] (bk_eq (cs := #[.int .u64 0]) (by repeat (first | exact bk_new' _ _ _ _ (by simp; done) | refine Bk.alloc ?_ _)) (by simp [cellsOf])) rfl (by decide)
    · exact lit_row [1] (bk_eq (cs := #[.int .u64 1]) (by repeat (first | exact bk_new' _ _ _ _ (by simp; done) | refine Bk.alloc ?_ _)) (by simp [cellsOf])) rfl (by decide)
    · exact lit_row [18446744073709551615] (bk_eq (cs := #[.int .u64 18446744073709551615]) (by repeat (first | exact bk_new' _ _ _ _ (by simp; done) | refine Bk.alloc ?_ _)) (by simp [cellsOf])) rfl (by decide)
    · exact lit_row [0, 1] (bk_eq (cs := #[.int .u64 0, .int .u64 1]) (by repeat (first | exact bk_new' _ _ _ _ (by simp; done) | refine Bk.alloc ?_ _)) (by simp [cellsOf])) rfl (by decide)
    · exact lit_row [18446744073709551615, 18446744073709551615] (bk_eq (cs := #[.int .u64 18446744073709551615, .int .u64 18446744073709551615]) (by repeat (first | exact bk_new' _ _ _ _ (by simp; done) | refine Bk.alloc ?_ _)) (by simp [cellsOf])) rfl (by decide)
    · exact lit_row [5, 0, 0] (bk_eq (cs := #[.int .u64 5, .int .u64 0, .int .u64 0]) (by repeat (first | exact bk_new' _ _ _ _ (by simp; done) | refine Bk.alloc ?_ _)) (by simp [cellsOf])) rfl (by decide)
    · exact lit_row [0, 0, 9223372036854775808] (bk_eq (cs := #[.int .u64 0, .int .u64 0, .int .u64 9223372036854775808]) (by repeat (first | exact bk_new' _ _ _ _ (by simp; done) | refine Bk.alloc ?_ _)) (by simp [cellsOf])) rfl (by decide)
    · exact lit_row [9223372036854775808] (bk_eq (cs := #[.int .u64 9223372036854775808]) (by repeat (first | exact bk_new' _ _ _ _ (by simp; done) | refine Bk.alloc ?_ _)) (by simp [cellsOf])) rfl (by decide)
    · exact lit_row [3, 7, 18446744073709551615, 9] (bk_eq (cs := #[.int .u64 3, .int .u64 7, .int .u64 18446744073709551615, .int .u64 9]) (by repeat (first | exact bk_new' _ _ _ _ (by simp; done) | refine Bk.alloc ?_ _)) (by simp [cellsOf])) rfl (by decide)
  rw [← hW]
  have HR := Lib.hid HR0
  clear HR0 hW
  generalize (w.heap.size + 1 + 1 + 1 + 1 + 1 + 1 + 1 + 1 + 1) = g at *
  go_wp2
  go_loopw [2] (fun s w1 => ∃ i : Nat, s = .int .i64 i ∧ i ≤ 10 ∧ Below W.heap.size W w1) (fun s _ => 10 - (intOf s).toNat)
  case atStart => exact ⟨0, rfl, by decide, Below.refl _ _⟩
  case round =>
    obtain ⟨i, rfl, hi, hB⟩ := hrel
    obtain ⟨w2, rfl⟩ : ∃ w2 : World, w2 = wr := ⟨_, rfl⟩
    have HB := Lib.hid hB
    clear hB
    by_cases hi1 : i < 10
    · have gi : decide ((i : Int) < 10) = true := by simp <;> omega
      go_wp2
      go_loopw [3] (fun s w1 => ∃ j : Nat, s = .int .i64 j ∧ j ≤ 10 ∧ Below W.heap.size W w1) (fun s _ => 10 - (intOf s).toNat)
      case atStart => exact ⟨0, rfl, by decide, HB.out⟩
      case round =>
        obtain ⟨j, rfl, hj, hB⟩ := hrel
        obtain ⟨w3, rfl⟩ : ∃ w3 : World, w3 = wr := ⟨_, rfl⟩
        have HB3 := Lib.hid hB
        clear hB
        by_cases hj1 : j < 10
        · have gj : decide ((j : Int) < 10) = true := by simp <;> omega
          have HKI := Lib.hid hi1
          have HKJ := Lib.hid hj1
          have hii : (i : Int) < 10 := by omega
          have hjj : (j : Int) < 10 := by omega
          go_wp2
          go_loopw [4] (fun s w1 => ∃ k : Nat, s = .int .i64 ((k : Int) - 1) ∧ k ≤ 9 ∧ Below W.heap.size W w1) (fun s _ => (8 - intOf s).toNat)
          case atStart => exact ⟨0, rfl, by decide, HB3.out⟩
          case round =>
            obtain ⟨k, rfl, hk, hB⟩ := hrel
            obtain ⟨w4, rfl⟩ : ∃ w4 : World, w4 = wr := ⟨_, rfl⟩
            have HB4 := Lib.hid hB
            clear hB
            by_cases hk1 : k < 9
            · have gk : decide ((k : Int) - 1 < 8) = true := by simp <;> omega
              go_upto_region 11 with fail
              have HR4 := Lib.hid (HR.out.1.up HB4.out)
              have HR0 := HR
              clear HR
              have HR := HR4
              clear HR4
              refine wp_region_walk [0, 1, 2, 3, 4, 5, 6, 7, 8, 9, 10] [32, 33, 34, 35, 36, 37, 38, 39, 40, 41, 42] 0 (by kernel_rfl) (by kernel_rfl) (by kernel_rfl) rfl (by simp) (by kernel_rfl) (by kernel_rfl) ?_
              apply RegW.val 0 rfl
              · intro a w' hF hB hd; have e1 := hF.2.2 1 (by decide); simp at e1; clear hd hF; refine wpOp_step rfl (fun K' hK => ?_); go_simp; exact hK _ _ ⟨_, rfl, Below.refl _ _, cst_ok⟩
              apply RegW.val 1 rfl
              · intro a w' hF hB hd; have e2 := hF.2.2 2 (by decide); simp at e2; clear hd hF; refine wpOp_step rfl (fun K' hK => ?_); go_simp; exact hK _ _ ⟨_, rfl, Below.refl _ _, cst_ok⟩
              apply RegW.val 2 rfl
              · intro a w' hF hB hd; have v0 : a.tmps[32]?.getD undef = _ := hd 0 (of_decide_eq_true (by kernel_rfl)) 1 _ _ rfl rfl; have v1 : a.tmps[33]?.getD undef = _ := hd 1 (of_decide_eq_true (by kernel_rfl)) 0 _ _ rfl rfl; clear hd hF; refine wpOp_step rfl (fun K' hK => ?_); go_simp; exact hK _ _ ⟨_, rfl, Below.refl _ _, cst_ok⟩
              refine RegW.op 3 rfl rowS ?_ ?_
              · intro a w' hF hB hd; have v2 : a.tmps[34]?.getD undef = _ := hd 2 (of_decide_eq_true (by kernel_rfl)) 0 _ _ rfl rfl; clear hd hF; obtain ⟨A0, m0, c0, l0, hcell, hr, ht, hm, hc⟩ := (HR.out.keep hB) i HKI.out; refine wpOp_step rfl (fun K' hK => ?_); go_simp; exact hK _ _ ⟨_, rfl, Below.refl _ _, ⟨A0, m0, c0, l0, rfl, hr, ht, hm, hc⟩⟩
              apply RegW.val 4 rfl
              · intro a w' hF hB hd; have e1 := hF.2.2 1 (by decide); simp at e1; clear hd hF; refine wpOp_step rfl (fun K' hK => ?_); go_simp; exact hK _ _ ⟨_, rfl, Below.refl _ _, cst_ok⟩
              apply RegW.val 5 rfl
              · intro a w' hF hB hd; have e3 := hF.2.2 3 (by decide); simp at e3; clear hd hF; refine wpOp_step rfl (fun K' hK => ?_); go_simp; exact hK _ _ ⟨_, rfl, Below.refl _ _, cst_ok⟩
              apply RegW.val 6 rfl
              · intro a w' hF hB hd; have v4 : a.tmps[36]?.getD undef = _ := hd 4 (of_decide_eq_true (by kernel_rfl)) 1 _ _ rfl rfl; have v5 : a.tmps[37]?.getD undef = _ := hd 5 (of_decide_eq_true (by kernel_rfl)) 0 _ _ rfl rfl; clear hd hF; refine wpOp_step rfl (fun K' hK => ?_); go_simp; exact hK _ _ ⟨_, rfl, Below.refl _ _, cst_ok⟩
              refine RegW.op 7 rfl rowS ?_ ?_
              · intro a w' hF hB hd; have v6 : a.tmps[38]?.getD undef = _ := hd 6 (of_decide_eq_true (by kernel_rfl)) 0 _ _ rfl rfl; clear hd hF; obtain ⟨A0, m0, c0, l0, hcell, hr, ht, hm, hc⟩ := (HR.out.keep hB) j HKJ.out; refine wpOp_step rfl (fun K' hK => ?_); go_simp; exact hK _ _ ⟨_, rfl, Below.refl _ _, ⟨A0, m0, c0, l0, rfl, hr, ht, hm, hc⟩⟩
              apply RegW.val 8 rfl
              · intro a w' hF hB hd; have e4 := hF.2.2 4 (by decide); simp at e4; clear hd hF; refine wpOp_step rfl (fun K' hK => ?_); go_simp; exact hK _ _ ⟨_, rfl, Below.refl _ _, cst_ok⟩
              apply RegW.val 9 rfl
              · intro a w' hF hB hd; have u3 := hd 3 (of_decide_eq_true (by kernel_rfl)) 5 _ _ rfl rfl; obtain ⟨A3, m3, c3, l3, p3, r3, t3, h3, d3⟩ := u3; have u7 := hd 7 (of_decide_eq_true (by kernel_rfl)) 1 _ _ rfl rfl; obtain ⟨A7, m7, c7, l7, p7, r7, t7, h7, d7⟩ := u7; have v8 : a.tmps[40]?.getD undef = _ := hd 8 (of_decide_eq_true (by kernel_rfl)) 0 _ _ rfl rfl; clear hd hF; refine wpOp_step rfl (fun K' hK => ?_); go_simp; refine (reckons_c A3 A7 m3 m7 c3 c7 l3 l7 _ _ r3 r7 t3 t7 h3 h7 d3 d7).mono ?_; rintro e w1 ⟨rfl, hb⟩; exact hK _ _ ⟨_, rfl, hb, cst_ok⟩
              apply RegW.val 10 rfl
              · intro a w' hF hB hd; have v9 : a.tmps[41]?.getD undef = _ := hd 9 (of_decide_eq_true (by kernel_rfl)) 0 _ _ rfl rfl; clear hd hF; refine wpOp_step rfl (fun K' hK => ?_); go_simp; exact hK _ _ ⟨_, rfl, Below.refl _ _, cst_ok⟩
              refine RegW.done (fun a w' hF hB hv => ?_)
              have v0 : a.tmps[32]?.getD undef = _ := hv 10 _ _ rfl
              have v1 : a.tmps[33]?.getD undef = _ := hv 9 _ _ rfl
              have v2 : a.tmps[34]?.getD undef = _ := hv 8 _ _ rfl
              have u3 := hv 7 _ _ rfl
              obtain ⟨A3, m3, c3, l3, p3, r3, t3, h3, d3⟩ := u3
              have v4 : a.tmps[36]?.getD undef = _ := hv 6 _ _ rfl
              have v5 : a.tmps[37]?.getD undef = _ := hv 5 _ _ rfl
              have v6 : a.tmps[38]?.getD undef = _ := hv 4 _ _ rfl
              have u7 := hv 3 _ _ rfl
              obtain ⟨A7, m7, c7, l7, p7, r7, t7, h7, d7⟩ := u7
              have v8 : a.tmps[40]?.getD undef = _ := hv 2 _ _ rfl
              have v9 : a.tmps[41]?.getD undef = _ := hv 1 _ _ rfl
              have v10 : a.tmps[42]?.getD undef = _ := hv 0 _ _ rfl
              have hE := hF.out
              rw [hE]
              clear hE hF hv
              simp only [List.foldl_cons, List.foldl_nil, Act.put, List.setIfInBounds_toArray, List.set_cons_zero, List.set_cons_succ, Array.getD_eq_getD_getElem?, v0, v1, v2, p3, v4, v5, v6, p7, v8, v9, v10]
              clear v0 v1 v2 p3 v4 v5 v6 p7 v8 v9 v10
              have hE0 := hB
              clear hB
              go_wp2_with fail
              go_roundw
              case rel => exact ⟨k + 1, by go_num, by omega, HB4.out.trans (hE0.mono HB4.out.size)⟩
              case measure => simp [intOf] <;> omega
            · obtain rfl : k = 9 := by omega
              have gk : decide (((9 : Nat) : Int) - 1 < 8) = false := by decide
              go_wp2
              go_loopw [5] (fun s w1 => ∃ m : Nat, s = .int .i64 m ∧ m ≤ 10 ∧ Below W.heap.size W w1) (fun s _ => 10 - (intOf s).toNat)
              case atStart => exact ⟨0, rfl, by decide, HB4.out⟩
              case round =>
                obtain ⟨m, rfl, hm, hB⟩ := hrel
                obtain ⟨w5, rfl⟩ : ∃ w5 : World, w5 = wr := ⟨_, rfl⟩
                have HB5 := Lib.hid hB
                clear hB
                have HR5 := Lib.hid (HR.out.1.up HB5.out)
                have HR0 := HR
                clear HR
                have HR := HR5
                clear HR5
                by_cases hm1 : m < 10
                · have gm : decide ((m : Int) < 10) = true := by simp <;> omega
                  have HKM := Lib.hid hm1
                  have hmm : (m : Int) < 10 := by omega
                  go_upto_region 16 with fail
                  refine wp_region_walk [0, 1, 2, 3, 4, 5, 6, 7, 8, 9, 10, 11, 12, 13] [49, 50, 51, 52, 53, 54, 55, 56, 57, 58, 59, 60, 61, 62] 0 (by kernel_rfl) (by kernel_rfl) (by kernel_rfl) rfl (by simp) (by kernel_rfl) (by kernel_rfl) ?_
                  apply RegW.val 0 rfl
                  · intro a w' hF hB hd; have e1 := hF.2.2 1 (by decide); simp at e1; clear hd hF; refine wpOp_step rfl (fun K' hK => ?_); go_simp; exact hK _ _ ⟨_, rfl, Below.refl _ _, cst_ok⟩
                  apply RegW.val 1 rfl
                  · intro a w' hF hB hd; have e2 := hF.2.2 2 (by decide); simp at e2; clear hd hF; refine wpOp_step rfl (fun K' hK => ?_); go_simp; exact hK _ _ ⟨_, rfl, Below.refl _ _, cst_ok⟩
                  apply RegW.val 2 rfl
                  · intro a w' hF hB hd; have v0 : a.tmps[49]?.getD undef = _ := hd 0 (of_decide_eq_true (by kernel_rfl)) 1 _ _ rfl rfl; have v1 : a.tmps[50]?.getD undef = _ := hd 1 (of_decide_eq_true (by kernel_rfl)) 0 _ _ rfl rfl; clear hd hF; refine wpOp_step rfl (fun K' hK => ?_); go_simp; exact hK _ _ ⟨_, rfl, Below.refl _ _, cst_ok⟩
                  refine RegW.op 3 rfl rowS ?_ ?_
                  · intro a w' hF hB hd; have v2 : a.tmps[51]?.getD undef = _ := hd 2 (of_decide_eq_true (by kernel_rfl)) 0 _ _ rfl rfl; clear hd hF; obtain ⟨A0, m0, c0, l0, hcell, hr, ht, hm, hc⟩ := (HR.out.keep hB) i HKI.out; refine wpOp_step rfl (fun K' hK => ?_); go_simp; exact hK _ _ ⟨_, rfl, Below.refl _ _, ⟨A0, m0, c0, l0, rfl, hr, ht, hm, hc⟩⟩
                  apply RegW.val 4 rfl
                  · intro a w' hF hB hd; have e1 := hF.2.2 1 (by decide); simp at e1; clear hd hF; refine wpOp_step rfl (fun K' hK => ?_); go_simp; exact hK _ _ ⟨_, rfl, Below.refl _ _, cst_ok⟩
                  apply RegW.val 5 rfl
                  · intro a w' hF hB hd; have e3 := hF.2.2 3 (by decide); simp at e3; clear hd hF; refine wpOp_step rfl (fun K' hK => ?_); go_simp; exact hK _ _ ⟨_, rfl, Below.refl _ _, cst_ok⟩
                  apply RegW.val 6 rfl
                  · intro a w' hF hB hd; have v4 : a.tmps[53]?.getD undef = _ := hd 4 (of_decide_eq_true (by kernel_rfl)) 1 _ _ rfl rfl; have v5 : a.tmps[54]?.getD undef = _ := hd 5 (of_decide_eq_true (by kernel_rfl)) 0 _ _ rfl rfl; clear hd hF; refine wpOp_step rfl (fun K' hK => ?_); go_simp; exact hK _ _ ⟨_, rfl, Below.refl _ _, cst_ok⟩
                  refine RegW.op 7 rfl rowS ?_ ?_
                  · intro a w' hF hB hd; have v6 : a.tmps[55]?.getD undef = _ := hd 6 (of_decide_eq_true (by kernel_rfl)) 0 _ _ rfl rfl; clear hd hF; obtain ⟨A0, m0, c0, l0, hcell, hr, ht, hm, hc⟩ := (HR.out.keep hB) j HKJ.out; refine wpOp_step rfl (fun K' hK => ?_); go_simp; exact hK _ _ ⟨_, rfl, Below.refl _ _, ⟨A0, m0, c0, l0, rfl, hr, ht, hm, hc⟩⟩
                  apply RegW.val 8 rfl
                  · intro a w' hF hB hd; have e1 := hF.2.2 1 (by decide); simp at e1; clear hd hF; refine wpOp_step rfl (fun K' hK => ?_); go_simp; exact hK _ _ ⟨_, rfl, Below.refl _ _, cst_ok⟩
                  apply RegW.val 9 rfl
                  · intro a w' hF hB hd; have e5 := hF.2.2 5 (by decide); simp at e5; clear hd hF; refine wpOp_step rfl (fun K' hK => ?_); go_simp; exact hK _ _ ⟨_, rfl, Below.refl _ _, cst_ok⟩
                  apply RegW.val 10 rfl
                  · intro a w' hF hB hd; have v8 : a.tmps[57]?.getD undef = _ := hd 8 (of_decide_eq_true (by kernel_rfl)) 1 _ _ rfl rfl; have v9 : a.tmps[58]?.getD undef = _ := hd 9 (of_decide_eq_true (by kernel_rfl)) 0 _ _ rfl rfl; clear hd hF; refine wpOp_step rfl (fun K' hK => ?_); go_simp; exact hK _ _ ⟨_, rfl, Below.refl _ _, cst_ok⟩
                  refine RegW.op 11 rfl rowS ?_ ?_
                  · intro a w' hF hB hd; have v10 : a.tmps[59]?.getD undef = _ := hd 10 (of_decide_eq_true (by kernel_rfl)) 0 _ _ rfl rfl; clear hd hF; obtain ⟨A0, m0, c0, l0, hcell, hr, ht, hm, hc⟩ := (HR.out.keep hB) m HKM.out; refine wpOp_step rfl (fun K' hK => ?_); go_simp; exact hK _ _ ⟨_, rfl, Below.refl _ _, ⟨A0, m0, c0, l0, rfl, hr, ht, hm, hc⟩⟩
                  apply RegW.val 12 rfl
                  · intro a w' hF hB hd; have u3 := hd 3 (of_decide_eq_true (by kernel_rfl)) 8 _ _ rfl rfl; obtain ⟨A3, m3, c3, l3, p3, r3, t3, h3, d3⟩ := u3; have u7 := hd 7 (of_decide_eq_true (by kernel_rfl)) 4 _ _ rfl rfl; obtain ⟨A7, m7, c7, l7, p7, r7, t7, h7, d7⟩ := u7; have u11 := hd 11 (of_decide_eq_true (by kernel_rfl)) 0 _ _ rfl rfl; obtain ⟨A11, m11, c11, l11, p11, r11, t11, h11, d11⟩ := u11; clear hd hF; refine wpOp_step rfl (fun K' hK => ?_); go_simp; refine (natlaws_any A3 A7 A11 m3 m7 m11 c3 c7 c11 l3 l7 l11 _ r3 r7 r11 t3 t7 t11 d3 d7 d11 (by unfold maxLen; omega) (by unfold maxLen; omega) (by unfold maxLen; omega)).mono ?_; rintro e w1 ⟨rfl, hb⟩; exact hK _ _ ⟨_, rfl, hb, cst_ok⟩
                  apply RegW.val 13 rfl
                  · intro a w' hF hB hd; have v12 : a.tmps[61]?.getD undef = _ := hd 12 (of_decide_eq_true (by kernel_rfl)) 0 _ _ rfl rfl; clear hd hF; refine wpOp_step rfl (fun K' hK => ?_); go_simp; exact hK _ _ ⟨_, rfl, Below.refl _ _, cst_ok⟩
                  refine RegW.done (fun a w' hF hB hv => ?_)
                  have v0 : a.tmps[49]?.getD undef = _ := hv 13 _ _ rfl
                  have v1 : a.tmps[50]?.getD undef = _ := hv 12 _ _ rfl
                  have v2 : a.tmps[51]?.getD undef = _ := hv 11 _ _ rfl
                  have u3 := hv 10 _ _ rfl
                  obtain ⟨A3, m3, c3, l3, p3, r3, t3, h3, d3⟩ := u3
                  have v4 : a.tmps[53]?.getD undef = _ := hv 9 _ _ rfl
                  have v5 : a.tmps[54]?.getD undef = _ := hv 8 _ _ rfl
                  have v6 : a.tmps[55]?.getD undef = _ := hv 7 _ _ rfl
                  have u7 := hv 6 _ _ rfl
                  obtain ⟨A7, m7, c7, l7, p7, r7, t7, h7, d7⟩ := u7
                  have v8 : a.tmps[57]?.getD undef = _ := hv 5 _ _ rfl
                  have v9 : a.tmps[58]?.getD undef = _ := hv 4 _ _ rfl
                  have v10 : a.tmps[59]?.getD undef = _ := hv 3 _ _ rfl
                  have u11 := hv 2 _ _ rfl
                  obtain ⟨A11, m11, c11, l11, p11, r11, t11, h11, d11⟩ := u11
                  have v12 : a.tmps[61]?.getD undef = _ := hv 1 _ _ rfl
                  have v13 : a.tmps[62]?.getD undef = _ := hv 0 _ _ rfl
                  have hE := hF.out
                  rw [hE]
                  clear hE hF hv
                  simp only [List.foldl_cons, List.foldl_nil, Act.put, List.setIfInBounds_toArray, List.set_cons_zero, List.set_cons_succ, Array.getD_eq_getD_getElem?, v0, v1, v2, p3, v4, v5, v6, p7, v8, v9, v10, p11, v12, v13]
                  clear v0 v1 v2 p3 v4 v5 v6 p7 v8 v9 v10 p11 v12 v13
                  have hE0 := hB
                  clear hB
                  go_wp2_with fail
                  go_roundw
                  case rel => exact ⟨m + 1, by go_num, by omega, HB5.out.trans (hE0.mono HB5.out.size)⟩
                  case measure => simp [intOf] <;> omega
                · obtain rfl : m = 10 := by omega
                  have gm : decide (((10 : Nat) : Int) < 10) = false := by decide
                  go_upto_region 18 with fail
                  refine wp_region_walk [0, 1, 2, 3, 4, 5, 6, 7, 8, 9, 10, 11, 12, 13, 14] [63, 64, 65, 66, 67, 68, 69, 70, 71, 72, 73, 74, 75, 76, 77] 0 (by kernel_rfl) (by kernel_rfl) (by kernel_rfl) rfl (by simp) (by kernel_rfl) (by kernel_rfl) ?_
                  apply RegW.val 0 rfl
                  · intro a w' hF hB hd; have e1 := hF.2.2 1 (by decide); simp at e1; clear hd hF; refine wpOp_step rfl (fun K' hK => ?_); go_simp; exact hK _ _ ⟨_, rfl, Below.refl _ _, cst_ok⟩
                  apply RegW.val 1 rfl
                  · intro a w' hF hB hd; have e2 := hF.2.2 2 (by decide); simp at e2; clear hd hF; refine wpOp_step rfl (fun K' hK => ?_); go_simp; exact hK _ _ ⟨_, rfl, Below.refl _ _, cst_ok⟩
                  apply RegW.val 2 rfl
                  · intro a w' hF hB hd; have v0 : a.tmps[63]?.getD undef = _ := hd 0 (of_decide_eq_true (by kernel_rfl)) 1 _ _ rfl rfl; have v1 : a.tmps[64]?.getD undef = _ := hd 1 (of_decide_eq_true (by kernel_rfl)) 0 _ _ rfl rfl; clear hd hF; refine wpOp_step rfl (fun K' hK => ?_); go_simp; exact hK _ _ ⟨_, rfl, Below.refl _ _, cst_ok⟩
                  refine RegW.op 3 rfl rowS ?_ ?_
                  · intro a w' hF hB hd; have v2 : a.tmps[65]?.getD undef = _ := hd 2 (of_decide_eq_true (by kernel_rfl)) 0 _ _ rfl rfl; clear hd hF; obtain ⟨A0, m0, c0, l0, hcell, hr, ht, hm, hc⟩ := (HR.out.keep hB) i HKI.out; refine wpOp_step rfl (fun K' hK => ?_); go_simp; exact hK _ _ ⟨_, rfl, Below.refl _ _, ⟨A0, m0, c0, l0, rfl, hr, ht, hm, hc⟩⟩
                  apply RegW.val 4 rfl
                  · intro a w' hF hB hd; have e1 := hF.2.2 1 (by decide); simp at e1; clear hd hF; refine wpOp_step rfl (fun K' hK => ?_); go_simp; exact hK _ _ ⟨_, rfl, Below.refl _ _, cst_ok⟩
                  apply RegW.val 5 rfl
                  · intro a w' hF hB hd; have e3 := hF.2.2 3 (by decide); simp at e3; clear hd hF; refine wpOp_step rfl (fun K' hK => ?_); go_simp; exact hK _ _ ⟨_, rfl, Below.refl _ _, cst_ok⟩
                  apply RegW.val 6 rfl
                  · intro a w' hF hB hd; have v4 : a.tmps[67]?.getD undef = _ := hd 4 (of_decide_eq_true (by kernel_rfl)) 1 _ _ rfl rfl; have v5 : a.tmps[68]?.getD undef = _ := hd 5 (of_decide_eq_true (by kernel_rfl)) 0 _ _ rfl rfl; clear hd hF; refine wpOp_step rfl (fun K' hK => ?_); go_simp; exact hK _ _ ⟨_, rfl, Below.refl _ _, cst_ok⟩
                  refine RegW.op 7 rfl rowS ?_ ?_
                  · intro a w' hF hB hd; have v6 : a.tmps[69]?.getD undef = _ := hd 6 (of_decide_eq_true (by kernel_rfl)) 0 _ _ rfl rfl; clear hd hF; obtain ⟨A0, m0, c0, l0, hcell, hr, ht, hm, hc⟩ := (HR.out.keep hB) j HKJ.out; refine wpOp_step rfl (fun K' hK => ?_); go_simp; exact hK _ _ ⟨_, rfl, Below.refl _ _, ⟨A0, m0, c0, l0, rfl, hr, ht, hm, hc⟩⟩
                  apply RegW.val 8 rfl
                  · intro a w' hF hB hd; have e2 := hF.2.2 2 (by decide); simp at e2; clear hd hF; refine wpOp_step rfl (fun K' hK => ?_); go_simp; exact hK _ _ ⟨_, rfl, Below.refl _ _, cst_ok⟩
                  apply RegW.val 9 rfl
                  · intro a w' hF hB hd; have e3 := hF.2.2 3 (by decide); simp at e3; clear hd hF; refine wpOp_step rfl (fun K' hK => ?_); go_simp; exact hK _ _ ⟨_, rfl, Below.refl _ _, cst_ok⟩
                  apply RegW.val 10 rfl
                  · intro a w' hF hB hd; have v8 : a.tmps[71]?.getD undef = _ := hd 8 (of_decide_eq_true (by kernel_rfl)) 1 _ _ rfl rfl; have v9 : a.tmps[72]?.getD undef = _ := hd 9 (of_decide_eq_true (by kernel_rfl)) 0 _ _ rfl rfl; clear hd hF; refine wpOp_step rfl (fun K' hK => ?_); go_simp; exact hK _ _ ⟨_, rfl, Below.refl _ _, cst_ok⟩
                  apply RegW.val 11 rfl
                  · intro a w' hF hB hd; have v10 : a.tmps[73]?.getD undef = _ := hd 10 (of_decide_eq_true (by kernel_rfl)) 0 _ _ rfl rfl; clear hd hF; refine wpOp_step rfl (fun K' hK => ?_); go_simp; exact hK _ _ ⟨_, rfl, Below.refl _ _, cst_ok⟩
                  refine RegW.op 12 rfl wordS ?_ ?_
                  · intro a w' hF hB hd; have v11 : a.tmps[74]?.getD undef = _ := hd 11 (of_decide_eq_true (by kernel_rfl)) 0 _ _ rfl rfl; clear hd hF; refine wpOp_step rfl (fun K' hK => ?_); go_simp; exact hK _ _ ⟨_, rfl, Below.refl _ _, word_of _ (by first | decide | omega | exact wrap_in _)⟩
                  apply RegW.val 13 rfl
                  · intro a w' hF hB hd; have u3 := hd 3 (of_decide_eq_true (by kernel_rfl)) 9 _ _ rfl rfl; obtain ⟨A3, m3, c3, l3, p3, r3, t3, h3, d3⟩ := u3; have u7 := hd 7 (of_decide_eq_true (by kernel_rfl)) 5 _ _ rfl rfl; obtain ⟨A7, m7, c7, l7, p7, r7, t7, h7, d7⟩ := u7; have u12 := hd 12 (of_decide_eq_true (by kernel_rfl)) 0 _ _ rfl rfl; obtain ⟨z12, y12, p12⟩ := u12; clear hd hF; refine wpOp_step rfl (fun K' hK => ?_); go_simp; refine (makes_c A3 A7 m3 m7 c3 c7 l3 l7 z12 _ r3 r7 t3 t7 y12 h3 h7 d3 d7).mono ?_; rintro e w1 ⟨rfl, hb⟩; exact hK _ _ ⟨_, rfl, hb, cst_ok⟩
                  apply RegW.val 14 rfl
                  · intro a w' hF hB hd; have v13 : a.tmps[76]?.getD undef = _ := hd 13 (of_decide_eq_true (by kernel_rfl)) 0 _ _ rfl rfl; clear hd hF; refine wpOp_step rfl (fun K' hK => ?_); go_simp; exact hK _ _ ⟨_, rfl, Below.refl _ _, cst_ok⟩
                  refine RegW.done (fun a w' hF hB hv => ?_)
                  have v0 : a.tmps[63]?.getD undef = _ := hv 14 _ _ rfl
                  have v1 : a.tmps[64]?.getD undef = _ := hv 13 _ _ rfl
                  have v2 : a.tmps[65]?.getD undef = _ := hv 12 _ _ rfl
                  have u3 := hv 11 _ _ rfl
                  obtain ⟨A3, m3, c3, l3, p3, r3, t3, h3, d3⟩ := u3
                  have v4 : a.tmps[67]?.getD undef = _ := hv 10 _ _ rfl
                  have v5 : a.tmps[68]?.getD undef = _ := hv 9 _ _ rfl
                  have v6 : a.tmps[69]?.getD undef = _ := hv 8 _ _ rfl
                  have u7 := hv 7 _ _ rfl
                  obtain ⟨A7, m7, c7, l7, p7, r7, t7, h7, d7⟩ := u7
                  have v8 : a.tmps[71]?.getD undef = _ := hv 6 _ _ rfl
                  have v9 : a.tmps[72]?.getD undef = _ := hv 5 _ _ rfl
                  have v10 : a.tmps[73]?.getD undef = _ := hv 4 _ _ rfl
                  have v11 : a.tmps[74]?.getD undef = _ := hv 3 _ _ rfl
                  have u12 := hv 2 _ _ rfl
                  obtain ⟨z12, y12, p12⟩ := u12
                  have v13 : a.tmps[76]?.getD undef = _ := hv 1 _ _ rfl
                  have v14 : a.tmps[77]?.getD undef = _ := hv 0 _ _ rfl
                  have hE := hF.out
                  rw [hE]
                  clear hE hF hv
                  simp only [List.foldl_cons, List.foldl_nil, Act.put, List.setIfInBounds_toArray, List.set_cons_zero, List.set_cons_succ, Array.getD_eq_getD_getElem?, v0, v1, v2, p3, v4, v5, v6, p7, v8, v9, v10, v11, p12, v13, v14]
                  clear v0 v1 v2 p3 v4 v5 v6 p7 v8 v9 v10 v11 p12 v13 v14
                  have hE0 := hB
                  clear hB
                  go_wp2_with fail
                  go_roundw
                  case rel => exact ⟨j + 1, by go_num, by omega, HB5.out.trans (hE0.mono HB5.out.size)⟩
                  case measure => simp [intOf] <;> omega
        · obtain rfl : j = 10 := by omega
          have gj : decide (((10 : Nat) : Int) < 10) = false := by decide
          go_wp2
          go_roundw
          case rel => exact ⟨i + 1, by go_num, by omega, HB3.out⟩
          case measure => simp [intOf] <;> omega
    · obtain rfl : i = 10 := by omega
      have gi : decide (((10 : Nat) : Int) < 10) = false := by decide
      go_wp2_with (go_at_call 7; refine (works_c _).mono ?_; rintro e w9 ⟨rfl, hb⟩)
      go_ret
      exact ⟨rfl, HR.out.2.trans ((HB.out.trans (hb.mono HB.out.size)).mono HR.out.2.size)⟩
end Go.Proofs.Ytdocpljgollcaaa
