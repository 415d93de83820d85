/- InterLattice, walked: for at most 30 intervals to widen with the statement returns true, and nothing that was there before has turned. Beyond 30 it is the examples alone. Asked: that the numbers are of their type. -/
import Derived.Test.YtfepaalplceaaaaWorks
import Derived.Test.YtfepaalplceaaaaRegion
import Derived.Test.YtfepaalplceaaaaLatPlain
import Derived.Test.YtfepaalplceaaaaJoins
import Derived.Deep.DeepCutAuto
namespace Go.Proofs.Ytfepaalplceaaaa
open Go.RowKit
attribute [local go_sem ↓] run_eql24 run_neq24 run_eql26
attribute [local go_sem] alloc_drewN setCell_drewN
def RdF (t : Nat) (l : List (Int × Int)) : Act → World → Prop := fun a w => ∃ g, a.tmps[t]?.getD undef = .slice (some ⟨g, 0, none⟩) 2 2 ∧ Rd w (some ⟨g, 0, none⟩) 2 l
theorem RdF.put {t s : Nat} {l : List (Int × Int)} {u : Value} {a : Act} {w w' : World} (h : RdF t l a w) (hs : s ≠ t) (hb : Below w.heap.size w w') : RdF t l (a.put (some s) u) w' := by
  obtain ⟨g, h1, h2⟩ := h
  exact ⟨g, (put_other' hs).trans h1, h2.keep hb⟩
theorem Rd.drew {w : World} {A : Option Addr} {n : Nat} {l : List (Int × Int)} (h : Rd w A n l) : Rd w.drew A n l := h
theorem rd_two1 (W : World) (o : Obj) (a b c d : Int) : Rd ((W.alloc o).alloc (.cells #[.int .i64 a, .int .i64 b, .int .i64 c, .int .i64 d] 24)) (some ⟨W.heap.size + 1, 0, none⟩) 2 [(a, b), (c, d)] := by
  have h := rd_two (W.alloc o) a b c d
  simpa using h
theorem m_two (a b c d : Int) (h : -9223372036854775808 ≤ a ∧ b ≤ 9223372036854775807) : foldF mstep (-9223372036854775808) 9223372036854775807 [(a, b), (c, d)] 2 = (mlo a b c d, mhi a b c d) := by
  show mstep (mstep (-9223372036854775808, 9223372036854775807) (a, b)) (c, d) = _
  unfold mstep
  simp only
  have h1 := m_cases (-9223372036854775808) 9223372036854775807 a b
  have h2 := m_cases a b c d
  have h3 := m_cases (mlo (-9223372036854775808) 9223372036854775807 a b) (mhi (-9223372036854775808) 9223372036854775807 a b) c d
  refine Prod.ext ?_ ?_ <;> (simp only; omega)
theorem meetAB_c (a b c d : Int) (g : Nat) (w : World) (hr : Rd w (some ⟨g, 0, none⟩) 2 [(a, b), (c, d)]) (h : -9223372036854775808 ≤ a ∧ b ≤ 9223372036854775807) :
    Calls Try.prog 14 #[.slice (some ⟨g, 0, none⟩) 2 2] w fun e w' => e = .returned (.agg #[.int .i64 (mlo a b c d), .int .i64 (mhi a b c d)]) ∧ Below w.heap.size w w' :=
  meet2_c a b c d g w hr (m_two a b c d h)
/-- A slice of two intervals, in memory of its own. -/
def rd2S (l : List (Int × Int)) : StP := ⟨fun u w => ∃ g, u = .slice (some ⟨g, 0, none⟩) 2 2 ∧ Rd w (some ⟨g, 0, none⟩) 2 l, fun _ _ _ hb h => by
  obtain ⟨g, h1, h2⟩ := h
  exact ⟨g, h1, h2.keep hb⟩⟩
theorem RegW.two {P : Program} {ops : Array Oper} {Q : Exit → Act → World → Prop} {a0 : Act} {w0 : World} {ds : List Nat} {nt : Nat} {sp : List (Nat × StP)} {t : Nat} {todo : List Nat} {a b c d : Int} (i : Nat) (hi : sp.length = i) (h : OpH P ops Q a0 w0 ds sp i t (rd2S [(a, b), (c, d)])) (r : RegW P ops Q a0 w0 ds nt ((t, rd2S [(a, b), (c, d)]) :: sp) todo) : RegW P ops Q a0 w0 ds nt sp (t :: todo) := RegW.op i hi (rd2S [(a, b), (c, d)]) h r
theorem S3b {w3 w' : World} {F0 F1 F2 : Nat} {x0 y0 x1 y1 x2 y2 : Value} (hk : Bk w3 F0 24 #[x0, y0] ∧ Bk w3 F1 24 #[x1, y1] ∧ Bk w3 F2 24 #[x2, y2]) (hN : Below w3.heap.size w3 w') :
    Below w3.heap.size w3 w' ∧ w'.cell? ⟨F0, 0, none⟩ = some x0 ∧ w'.cell? ⟨F0, 1, none⟩ = some y0 ∧ w'.cell? ⟨F1, 0, none⟩ = some x1 ∧ w'.cell? ⟨F1, 1, none⟩ = some y1 ∧ w'.cell? ⟨F2, 0, none⟩ = some x2 ∧ w'.cell? ⟨F2, 1, none⟩ = some y2 :=
  ⟨hN, (hk.1.keep hN).cell 0, (hk.1.keep hN).cell 1, (hk.2.1.keep hN).cell 0, (hk.2.1.keep hN).cell 1, (hk.2.2.keep hN).cell 0, (hk.2.2.keep hN).cell 1⟩
/-- What stands when the join and the meet are laid. -/
def T5 (w w' : World) (g11 g12 : Nat) (a1 a2 b1 b2 c1 c2 : Int) : Prop :=
  Below w.heap.size w w' ∧ Bk w' w.heap.size 24 #[.int .i64 a1, .int .i64 a2] ∧ Bk w' (w.heap.size + 1) 24 #[.int .i64 b1, .int .i64 b2] ∧ Bk w' (w.heap.size + 1 + 1) 24 #[.int .i64 c1, .int .i64 c2] ∧
    Bk w' g11 24 #[.int .i64 (rjlo a1 a2 b1 b2), .int .i64 (rjhi a1 a2 b1 b2)] ∧ Bk w' g12 24 #[.int .i64 (mlo a1 a2 b1 b2), .int .i64 (mhi a1 a2 b1 b2)]
theorem T5.step {w w1 w2 : World} {g11 g12 : Nat} {a1 a2 b1 b2 c1 c2 : Int} (h : T5 w w1 g11 g12 a1 a2 b1 b2 c1 c2) (hb : Below w1.heap.size w1 w2) : T5 w w2 g11 g12 a1 a2 b1 b2 c1 c2 :=
  ⟨h.1.trans (hb.mono h.1.size), h.2.1.keep hb, h.2.2.1.keep hb, h.2.2.2.1.keep hb, h.2.2.2.2.1.keep hb, h.2.2.2.2.2.keep hb⟩
theorem T5.held {w w1 w' : World} {g11 g12 : Nat} {a1 a2 b1 b2 c1 c2 : Int} (h0 : T5 w w1 g11 g12 a1 a2 b1 b2 c1 c2) (hN : Below w1.heap.size w1 w') :
    Below w1.heap.size w1 w' ∧ w'.cell? ⟨w.heap.size, 0, none⟩ = some (.int .i64 a1) ∧ w'.cell? ⟨w.heap.size, 1, none⟩ = some (.int .i64 a2) ∧ w'.cell? ⟨w.heap.size + 1, 0, none⟩ = some (.int .i64 b1) ∧ w'.cell? ⟨w.heap.size + 1, 1, none⟩ = some (.int .i64 b2) ∧ w'.cell? ⟨w.heap.size + 1 + 1, 0, none⟩ = some (.int .i64 c1) ∧ w'.cell? ⟨w.heap.size + 1 + 1, 1, none⟩ = some (.int .i64 c2) ∧ w'.cell? ⟨g11, 0, none⟩ = some (.int .i64 (rjlo a1 a2 b1 b2)) ∧ w'.cell? ⟨g11, 1, none⟩ = some (.int .i64 (rjhi a1 a2 b1 b2)) ∧ w'.cell? ⟨g12, 0, none⟩ = some (.int .i64 (mlo a1 a2 b1 b2)) ∧ w'.cell? ⟨g12, 1, none⟩ = some (.int .i64 (mhi a1 a2 b1 b2)) :=
  have h := h0.step hN
  ⟨hN, h.2.1.cell 0, h.2.1.cell 1, h.2.2.1.cell 0, h.2.2.1.cell 1, h.2.2.2.1.cell 0, h.2.2.2.1.cell 1, h.2.2.2.2.1.cell 0, h.2.2.2.2.1.cell 1, h.2.2.2.2.2.cell 0, h.2.2.2.2.2.cell 1⟩
theorem has_v {a b n : Int} {v : Bool} (h : hasB a b n = v) (w : World) :
    Calls Try.prog 19 #[.agg #[.int .i64 a, .int .i64 b], .int .i64 n] w fun e w' => e = .returned (.bool v) ∧ Below w.heap.size w w' := h ▸ has_c a b n w
set_option maxRecDepth 100000 in
set_option maxHeartbeats 16000000 in
theorem lattice_c (a1 a2 b1 b2 c1 c2 n : Int) (A : Option Addr) (len cap : Nat) (l : List (Int × Int)) (w : World) (hr : Rd w A len l) (hn : len ≤ 30) (ha : -9223372036854775808 ≤ a1 ∧ a2 ≤ 9223372036854775807) (hb : -9223372036854775808 ≤ b1 ∧ b2 ≤ 9223372036854775807) (hl : ∀ q ∈ l, -9223372036854775808 ≤ q.1 ∧ q.2 ≤ 9223372036854775807) :
    Calls Try.prog 4 #[.agg #[.int .i64 a1, .int .i64 a2], .agg #[.int .i64 b1, .int .i64 b2], .agg #[.int .i64 c1, .int .i64 c2], .int .i64 n, .slice A len cap] w fun e w' => e = .returned (.bool true) ∧ Below w.heap.size w w' := by
  have hn' : ¬ (30 : Int) < (len : Int) := by omega
  have HA := Lib.hid ha
  have HB := Lib.hid hb
  have HLs := Lib.hid hl
  have hm : -9223372036854775808 ≤ mlo a1 a2 b1 b2 ∧ mhi a1 a2 b1 b2 ≤ 9223372036854775807 := by
    have := m_cases a1 a2 b1 b2; omega
  have HM := Lib.hid hm
  have HR := Lib.hid hr
  clear ha hb hl hm hr
  go_enter Try.func4, Try.ntmps4
  go_upto_region 3 with fail
  go_cut [11, 12] (fun s11 s12 wx => ∃ g11 g12 : Nat, s11 = .pointer (some ⟨g11, 0, none⟩) ∧ s12 = .pointer (some ⟨g12, 0, none⟩) ∧ T5 w wx g11 g12 a1 a2 b1 b2 c1 c2)
  case first =>
    have hk0 : Bk (((w.alloc (.cells #[.int .i64 a1, .int .i64 a2] 24)).alloc (.cells #[.int .i64 b1, .int .i64 b2] 24)).alloc (.cells #[.int .i64 c1, .int .i64 c2] 24)) w.heap.size 24 #[.int .i64 a1, .int .i64 a2] ∧ Bk (((w.alloc (.cells #[.int .i64 a1, .int .i64 a2] 24)).alloc (.cells #[.int .i64 b1, .int .i64 b2] 24)).alloc (.cells #[.int .i64 c1, .int .i64 c2] 24)) (w.heap.size + 1) 24 #[.int .i64 b1, .int .i64 b2] ∧ Bk (((w.alloc (.cells #[.int .i64 a1, .int .i64 a2] 24)).alloc (.cells #[.int .i64 b1, .int .i64 b2] 24)).alloc (.cells #[.int .i64 c1, .int .i64 c2] 24)) (w.heap.size + 1 + 1) 24 #[.int .i64 c1, .int .i64 c2] :=
      ⟨((Bk.new _ _ _).alloc _).alloc _, by have := (Bk.new (w.alloc (.cells #[.int .i64 a1, .int .i64 a2] 24)) 24 #[.int .i64 b1, .int .i64 b2]).alloc (.cells #[.int .i64 c1, .int .i64 c2] 24); simpa using this, by have := Bk.new ((w.alloc (.cells #[.int .i64 a1, .int .i64 a2] 24)).alloc (.cells #[.int .i64 b1, .int .i64 b2] 24)) 24 #[.int .i64 c1, .int .i64 c2]; simpa using this⟩
    have hB0 : Below w.heap.size w (((w.alloc (.cells #[.int .i64 a1, .int .i64 a2] 24)).alloc (.cells #[.int .i64 b1, .int .i64 b2] 24)).alloc (.cells #[.int .i64 c1, .int .i64 c2] 24)) := (((Below.refl _ _).alloc (Nat.le_refl _) _).alloc (by simp) _).alloc (by simp <;> omega) _
    generalize (((w.alloc (.cells #[.int .i64 a1, .int .i64 a2] 24)).alloc (.cells #[.int .i64 b1, .int .i64 b2] 24)).alloc (.cells #[.int .i64 c1, .int .i64 c2] 24)) = wz at *
    have HK0 := Lib.hid hk0
    clear hk0
    refine wp_region_facts [0, 1, 2, 3, 4, 5, 6, 7, 8, 9, 10, 11] (fun a0 w0 L a w' => Fr a0 [21, 22, 23, 24, 25, 26, 27, 28, 11, 12] a ∧ a.tmps.size = 188 ∧ Below w0.heap.size w0 w' ∧ (L 0 = true → SlF 21 (.agg #[.int .i64 a1, .int .i64 a2]) a w') ∧ (L 1 = true → SlF 22 (.agg #[.int .i64 b1, .int .i64 b2]) a w') ∧ (L 2 = true → L 3 = false → RdF 23 [(a1, a2), (b1, b2)] a w') ∧ (L 3 = true → SlF 24 (.agg #[.int .i64 (rjlo a1 a2 b1 b2), .int .i64 (rjhi a1 a2 b1 b2)]) a w') ∧ (L 4 = true → SlF 25 (.agg #[.int .i64 a1, .int .i64 a2]) a w') ∧ (L 5 = true → SlF 26 (.agg #[.int .i64 b1, .int .i64 b2]) a w') ∧ (L 6 = true → L 7 = false → RdF 27 [(a1, a2), (b1, b2)] a w') ∧ (L 7 = true → SlF 28 (.agg #[.int .i64 (mlo a1 a2 b1 b2), .int .i64 (mhi a1 a2 b1 b2)]) a w') ∧ (L 8 = true → PtF 11 w0.heap.size 24 2 a w') ∧ (L 9 = true → PtF 12 w0.heap.size 24 2 a w') ∧ (L 10 = true → BkF 11 w0.heap.size 24 #[.int .i64 (rjlo a1 a2 b1 b2), .int .i64 (rjhi a1 a2 b1 b2)] a w') ∧ (L 11 = true → BkF 12 w0.heap.size 24 #[.int .i64 (mlo a1 a2 b1 b2), .int .i64 (mhi a1 a2 b1 b2)] a w') ∧ (L 8 = true → L 9 = true → NeF 11 12 a w') ∧ (L 10 = true → L 8 = true) ∧ (L 11 = true → L 9 = true)) (by kernel_rfl) (by kernel_rfl) ?_ ?_ ?_
    · exact ⟨Fr.refl _ _, rfl, (Below.refl _ _).drew, fun h => absurd h Bool.false_ne_true, fun h => absurd h Bool.false_ne_true, fun h => absurd h Bool.false_ne_true, fun h => absurd h Bool.false_ne_true, fun h => absurd h Bool.false_ne_true, fun h => absurd h Bool.false_ne_true, fun h => absurd h Bool.false_ne_true, fun h => absurd h Bool.false_ne_true, fun h => absurd h Bool.false_ne_true, fun h => absurd h Bool.false_ne_true, fun h => absurd h Bool.false_ne_true, fun h => absurd h Bool.false_ne_true, fun h => absurd h Bool.false_ne_true, fun h => absurd h Bool.false_ne_true, fun h => absurd h Bool.false_ne_true⟩
    · intro i L a w' hi hL hd hI
      obtain ⟨hF, hN, hB, f0, f1, f2, f3, f4, f5, f6, f7, f8, f9, f10, f11, f12, f13, f14⟩ := hI
      have HN := Lib.hid hN
      clear hN
      match i, hi, hL, hd with
      | 0, _, hL, hd =>
        clear hd
        have e5 := hF.2.2 5 (by decide)
        simp at e5
        obtain ⟨x0, x1, x2, x3, x4, x5, x6⟩ := S3b HK0.out hB
        refine wpOp_step rfl (fun K' hK => ?_)
        go_simp
        exact hK _ _ ⟨hF.put (by decide) _,
          put_size.trans HN.out,
          hB,
          fun _ => SlF.new HN.out (by decide),
          fun h => (f1 h).put (w := w') (by decide),
          fun h u => (f2 h u).put (by decide) (Below.refl _ _),
          fun h => (f3 h).put (w := w') (by decide),
          fun h => (f4 h).put (w := w') (by decide),
          fun h => (f5 h).put (w := w') (by decide),
          fun h u => (f6 h u).put (by decide) (Below.refl _ _),
          fun h => (f7 h).put (w := w') (by decide),
          fun h => (f8 h).put (by decide) (Below.refl _ _),
          fun h => (f9 h).put (by decide) (Below.refl _ _),
          fun h => (f10 h).put (by decide) (Below.refl _ _),
          fun h => (f11 h).put (by decide) (Below.refl _ _),
          fun h h' => (f12 h h').put (w := w') (by decide) (by decide),
          fun h => f13 h,
          fun h => f14 h⟩
      | 1, _, hL, hd =>
        clear hd
        have e6 := hF.2.2 6 (by decide)
        simp at e6
        obtain ⟨x0, x1, x2, x3, x4, x5, x6⟩ := S3b HK0.out hB
        refine wpOp_step rfl (fun K' hK => ?_)
        go_simp
        exact hK _ _ ⟨hF.put (by decide) _,
          put_size.trans HN.out,
          hB,
          fun h => (f0 h).put (w := w') (by decide),
          fun _ => SlF.new HN.out (by decide),
          fun h u => (f2 h u).put (by decide) (Below.refl _ _),
          fun h => (f3 h).put (w := w') (by decide),
          fun h => (f4 h).put (w := w') (by decide),
          fun h => (f5 h).put (w := w') (by decide),
          fun h u => (f6 h u).put (by decide) (Below.refl _ _),
          fun h => (f7 h).put (w := w') (by decide),
          fun h => (f8 h).put (by decide) (Below.refl _ _),
          fun h => (f9 h).put (by decide) (Below.refl _ _),
          fun h => (f10 h).put (by decide) (Below.refl _ _),
          fun h => (f11 h).put (by decide) (Below.refl _ _),
          fun h h' => (f12 h h').put (w := w') (by decide) (by decide),
          fun h => f13 h,
          fun h => f14 h⟩
      | 2, _, hL, hd =>
        have d0 := hd 0 (of_decide_eq_true (by kernel_rfl))
        have d1 := hd 1 (of_decide_eq_true (by kernel_rfl))
        clear hd
        have v0 : a.tmps[21]?.getD undef = .agg #[.int .i64 a1, .int .i64 a2] := f0 d0
        have v1 : a.tmps[22]?.getD undef = .agg #[.int .i64 b1, .int .i64 b2] := f1 d1
        refine wpOp_step rfl (fun K' hK => ?_)
        go_simp
        exact hK _ _ ⟨hF.put (by decide) _,
          put_size.trans HN.out,
          (hB.alloc hB.size _),
          fun h => (f0 h).put (w := w') (by decide),
          fun h => (f1 h).put (w := w') (by decide),
          fun _ _ => ⟨_, put_same' (by rw [HN.out]; decide), rd_two _ _ _ _ _⟩,
          fun h => (f3 h).put (w := w') (by decide),
          fun h => (f4 h).put (w := w') (by decide),
          fun h => (f5 h).put (w := w') (by decide),
          fun h u => (f6 h u).put (by decide) ((Below.refl _ _).alloc (Nat.le_refl _) _),
          fun h => (f7 h).put (w := w') (by decide),
          fun h => (f8 h).put (by decide) ((Below.refl _ _).alloc (Nat.le_refl _) _),
          fun h => (f9 h).put (by decide) ((Below.refl _ _).alloc (Nat.le_refl _) _),
          fun h => (f10 h).put (by decide) ((Below.refl _ _).alloc (Nat.le_refl _) _),
          fun h => (f11 h).put (by decide) ((Below.refl _ _).alloc (Nat.le_refl _) _),
          fun h h' => (f12 h h').put (w := w') (by decide) (by decide),
          fun h => f13 h,
          fun h => f14 h⟩
      | 3, _, hL, hd =>
        have d2 := hd 2 (of_decide_eq_true (by kernel_rfl))
        clear hd
        obtain ⟨g2, p2, q2⟩ := f2 d2 hL
        refine wpOp_step rfl (fun K' hK => ?_)
        go_simp
        refine (joinAB_c _ _ _ _ _ _ q2).mono ?_
        rintro e w1 ⟨rfl, hb⟩
        exact hK _ _ ⟨hF.put (by decide) _,
          put_size.trans HN.out,
          (hB.trans (hb.mono hB.size)),
          fun h => (f0 h).put (w := w') (by decide),
          fun h => (f1 h).put (w := w') (by decide),
          fun _ u => Bool.noConfusion (show true = false from u),
          fun _ => SlF.new HN.out (by decide),
          fun h => (f4 h).put (w := w') (by decide),
          fun h => (f5 h).put (w := w') (by decide),
          fun h u => (f6 h u).put (by decide) hb,
          fun h => (f7 h).put (w := w') (by decide),
          fun h => (f8 h).put (by decide) hb,
          fun h => (f9 h).put (by decide) hb,
          fun h => (f10 h).put (by decide) hb,
          fun h => (f11 h).put (by decide) hb,
          fun h h' => (f12 h h').put (w := w') (by decide) (by decide),
          fun h => f13 h,
          fun h => f14 h⟩
      | 4, _, hL, hd =>
        clear hd
        have e5 := hF.2.2 5 (by decide)
        simp at e5
        obtain ⟨x0, x1, x2, x3, x4, x5, x6⟩ := S3b HK0.out hB
        refine wpOp_step rfl (fun K' hK => ?_)
        go_simp
        exact hK _ _ ⟨hF.put (by decide) _,
          put_size.trans HN.out,
          hB,
          fun h => (f0 h).put (w := w') (by decide),
          fun h => (f1 h).put (w := w') (by decide),
          fun h u => (f2 h u).put (by decide) (Below.refl _ _),
          fun h => (f3 h).put (w := w') (by decide),
          fun _ => SlF.new HN.out (by decide),
          fun h => (f5 h).put (w := w') (by decide),
          fun h u => (f6 h u).put (by decide) (Below.refl _ _),
          fun h => (f7 h).put (w := w') (by decide),
          fun h => (f8 h).put (by decide) (Below.refl _ _),
          fun h => (f9 h).put (by decide) (Below.refl _ _),
          fun h => (f10 h).put (by decide) (Below.refl _ _),
          fun h => (f11 h).put (by decide) (Below.refl _ _),
          fun h h' => (f12 h h').put (w := w') (by decide) (by decide),
          fun h => f13 h,
          fun h => f14 h⟩
      | 5, _, hL, hd =>
        clear hd
        have e6 := hF.2.2 6 (by decide)
        simp at e6
        obtain ⟨x0, x1, x2, x3, x4, x5, x6⟩ := S3b HK0.out hB
        refine wpOp_step rfl (fun K' hK => ?_)
        go_simp
        exact hK _ _ ⟨hF.put (by decide) _,
          put_size.trans HN.out,
          hB,
          fun h => (f0 h).put (w := w') (by decide),
          fun h => (f1 h).put (w := w') (by decide),
          fun h u => (f2 h u).put (by decide) (Below.refl _ _),
          fun h => (f3 h).put (w := w') (by decide),
          fun h => (f4 h).put (w := w') (by decide),
          fun _ => SlF.new HN.out (by decide),
          fun h u => (f6 h u).put (by decide) (Below.refl _ _),
          fun h => (f7 h).put (w := w') (by decide),
          fun h => (f8 h).put (by decide) (Below.refl _ _),
          fun h => (f9 h).put (by decide) (Below.refl _ _),
          fun h => (f10 h).put (by decide) (Below.refl _ _),
          fun h => (f11 h).put (by decide) (Below.refl _ _),
          fun h h' => (f12 h h').put (w := w') (by decide) (by decide),
          fun h => f13 h,
          fun h => f14 h⟩
      | 6, _, hL, hd =>
        have d4 := hd 4 (of_decide_eq_true (by kernel_rfl))
        have d5 := hd 5 (of_decide_eq_true (by kernel_rfl))
        clear hd
        have v4 : a.tmps[25]?.getD undef = .agg #[.int .i64 a1, .int .i64 a2] := f4 d4
        have v5 : a.tmps[26]?.getD undef = .agg #[.int .i64 b1, .int .i64 b2] := f5 d5
        refine wpOp_step rfl (fun K' hK => ?_)
        go_simp
        exact hK _ _ ⟨hF.put (by decide) _,
          put_size.trans HN.out,
          (hB.alloc hB.size _),
          fun h => (f0 h).put (w := w') (by decide),
          fun h => (f1 h).put (w := w') (by decide),
          fun h u => (f2 h u).put (by decide) ((Below.refl _ _).alloc (Nat.le_refl _) _),
          fun h => (f3 h).put (w := w') (by decide),
          fun h => (f4 h).put (w := w') (by decide),
          fun h => (f5 h).put (w := w') (by decide),
          fun _ _ => ⟨_, put_same' (by rw [HN.out]; decide), rd_two _ _ _ _ _⟩,
          fun h => (f7 h).put (w := w') (by decide),
          fun h => (f8 h).put (by decide) ((Below.refl _ _).alloc (Nat.le_refl _) _),
          fun h => (f9 h).put (by decide) ((Below.refl _ _).alloc (Nat.le_refl _) _),
          fun h => (f10 h).put (by decide) ((Below.refl _ _).alloc (Nat.le_refl _) _),
          fun h => (f11 h).put (by decide) ((Below.refl _ _).alloc (Nat.le_refl _) _),
          fun h h' => (f12 h h').put (w := w') (by decide) (by decide),
          fun h => f13 h,
          fun h => f14 h⟩
      | 7, _, hL, hd =>
        have d6 := hd 6 (of_decide_eq_true (by kernel_rfl))
        clear hd
        obtain ⟨g6, p6, q6⟩ := f6 d6 hL
        refine wpOp_step rfl (fun K' hK => ?_)
        go_simp
        refine (meetAB_c _ _ _ _ _ _ q6 HA.out).mono ?_
        rintro e w1 ⟨rfl, hb⟩
        exact hK _ _ ⟨hF.put (by decide) _,
          put_size.trans HN.out,
          (hB.trans (hb.mono hB.size)),
          fun h => (f0 h).put (w := w') (by decide),
          fun h => (f1 h).put (w := w') (by decide),
          fun h u => (f2 h u).put (by decide) hb,
          fun h => (f3 h).put (w := w') (by decide),
          fun h => (f4 h).put (w := w') (by decide),
          fun h => (f5 h).put (w := w') (by decide),
          fun _ u => Bool.noConfusion (show true = false from u),
          fun _ => SlF.new HN.out (by decide),
          fun h => (f8 h).put (by decide) hb,
          fun h => (f9 h).put (by decide) hb,
          fun h => (f10 h).put (by decide) hb,
          fun h => (f11 h).put (by decide) hb,
          fun h h' => (f12 h h').put (w := w') (by decide) (by decide),
          fun h => f13 h,
          fun h => f14 h⟩
      | 8, _, hL, hd =>
        clear hd
        refine wpOp_step rfl (fun K' hK => ?_)
        go_simp
        exact hK _ _ ⟨hF.put (by decide) _,
          put_size.trans HN.out,
          (hB.alloc hB.size _),
          fun h => (f0 h).put (w := w') (by decide),
          fun h => (f1 h).put (w := w') (by decide),
          fun h u => (f2 h u).put (by decide) ((Below.refl _ _).alloc (Nat.le_refl _) _),
          fun h => (f3 h).put (w := w') (by decide),
          fun h => (f4 h).put (w := w') (by decide),
          fun h => (f5 h).put (w := w') (by decide),
          fun h u => (f6 h u).put (by decide) ((Below.refl _ _).alloc (Nat.le_refl _) _),
          fun h => (f7 h).put (w := w') (by decide),
          fun _ => ⟨_, put_same' (by rw [HN.out]; decide), hB.size, _, rfl, Bk.new _ _ _⟩,
          fun h => (f9 h).put (by decide) ((Below.refl _ _).alloc (Nat.le_refl _) _),
          fun h => Bool.noConfusion (hL.symm.trans (f13 h)),
          fun h => (f11 h).put (by decide) ((Below.refl _ _).alloc (Nat.le_refl _) _),
          fun _ h => by
          obtain ⟨g, e, _, cs, _, hk⟩ := f9 h
          exact fun u v hu hv => by
            have e1 := (put_same' (a := a) (t := 11) (v := .pointer (some ⟨w'.heap.size, 0, none⟩)) (by rw [HN.out]; decide)).symm.trans hu
            have e2 := e.symm.trans ((put_other' (by decide)).symm.trans hv)
            simp at e1 e2
            have := hk.lt
            omega,
          fun _ => rfl,
          fun h => f14 h⟩
      | 9, _, hL, hd =>
        clear hd
        refine wpOp_step rfl (fun K' hK => ?_)
        go_simp
        exact hK _ _ ⟨hF.put (by decide) _,
          put_size.trans HN.out,
          (hB.alloc hB.size _),
          fun h => (f0 h).put (w := w') (by decide),
          fun h => (f1 h).put (w := w') (by decide),
          fun h u => (f2 h u).put (by decide) ((Below.refl _ _).alloc (Nat.le_refl _) _),
          fun h => (f3 h).put (w := w') (by decide),
          fun h => (f4 h).put (w := w') (by decide),
          fun h => (f5 h).put (w := w') (by decide),
          fun h u => (f6 h u).put (by decide) ((Below.refl _ _).alloc (Nat.le_refl _) _),
          fun h => (f7 h).put (w := w') (by decide),
          fun h => (f8 h).put (by decide) ((Below.refl _ _).alloc (Nat.le_refl _) _),
          fun _ => ⟨_, put_same' (by rw [HN.out]; decide), hB.size, _, rfl, Bk.new _ _ _⟩,
          fun h => (f10 h).put (by decide) ((Below.refl _ _).alloc (Nat.le_refl _) _),
          fun h => Bool.noConfusion (hL.symm.trans (f14 h)),
          fun h _ => by
          obtain ⟨g, e, _, cs, _, hk⟩ := f8 h
          exact fun u v hu hv => by
            have e1 := (put_same' (a := a) (t := 12) (v := .pointer (some ⟨w'.heap.size, 0, none⟩)) (by rw [HN.out]; decide)).symm.trans hv
            have e2 := e.symm.trans ((put_other' (by decide)).symm.trans hu)
            simp at e1 e2
            have := hk.lt
            omega,
          fun h => f13 h,
          fun _ => rfl⟩
      | 10, _, hL, hd =>
        have d8 := hd 8 (of_decide_eq_true (by kernel_rfl))
        have d3 := hd 3 (of_decide_eq_true (by kernel_rfl))
        have d7 := hd 7 (of_decide_eq_true (by kernel_rfl))
        have d9 := hd 9 (of_decide_eq_true (by kernel_rfl))
        clear hd
        obtain ⟨x0, x1, x2, x3, x4, x5, x6⟩ := S3b HK0.out hB
        obtain ⟨g8, p8, q8, cs8, r8, s8⟩ := f8 d8
        have v3 : a.tmps[24]?.getD undef = .agg #[.int .i64 (rjlo a1 a2 b1 b2), .int .i64 (rjhi a1 a2 b1 b2)] := f3 d3
        have v7 : a.tmps[28]?.getD undef = .agg #[.int .i64 (mlo a1 a2 b1 b2), .int .i64 (mhi a1 a2 b1 b2)] := f7 d7
        obtain ⟨g9, p9, q9, cs9, r9, s9⟩ := f9 d9
        obtain ⟨z0, z1, c0, c1⟩ := s8.cells2 r8
        have k0 := s8.frozen 0
        have k1 := s8.frozen 1
        refine wpOp_step rfl (fun K' hK => ?_)
        go_simp
        exact hK _ _ ⟨hF,
          HN.out,
          ((hB.setCell (by exact q8) _).setCell (by exact q8) _),
          fun h => f0 h,
          fun h => f1 h,
          fun _ u => Bool.noConfusion (d3.symm.trans (show L 3 = false from u)),
          fun h => f3 h,
          fun h => f4 h,
          fun h => f5 h,
          fun _ u => Bool.noConfusion (d7.symm.trans (show L 7 = false from u)),
          fun h => f7 h,
          fun h => (f8 h).stored.stored,
          fun h => (f9 h).stored.stored,
          fun _ => ⟨g8, p8, q8, s8.stored2 r8 _ _⟩,
          fun h => by
          obtain ⟨g, e, hg, hk⟩ := f11 h
          have ne := f12 d8 d9
          have ne' : g ≠ g8 := fun E => ne g8 g p8 e E.symm
          exact ⟨g, e, hg, (hk.far ne' _).far ne' _⟩,
          fun h h' => f12 h h',
          fun _ => d8,
          fun h => f14 h⟩
      | 11, _, hL, hd =>
        have d9 := hd 9 (of_decide_eq_true (by kernel_rfl))
        have d7 := hd 7 (of_decide_eq_true (by kernel_rfl))
        have d3 := hd 3 (of_decide_eq_true (by kernel_rfl))
        have d8 := hd 8 (of_decide_eq_true (by kernel_rfl))
        clear hd
        obtain ⟨x0, x1, x2, x3, x4, x5, x6⟩ := S3b HK0.out hB
        obtain ⟨g9, p9, q9, cs9, r9, s9⟩ := f9 d9
        have v7 : a.tmps[28]?.getD undef = .agg #[.int .i64 (mlo a1 a2 b1 b2), .int .i64 (mhi a1 a2 b1 b2)] := f7 d7
        have v3 : a.tmps[24]?.getD undef = .agg #[.int .i64 (rjlo a1 a2 b1 b2), .int .i64 (rjhi a1 a2 b1 b2)] := f3 d3
        obtain ⟨g8, p8, q8, cs8, r8, s8⟩ := f8 d8
        obtain ⟨z0, z1, c0, c1⟩ := s9.cells2 r9
        have k0 := s9.frozen 0
        have k1 := s9.frozen 1
        refine wpOp_step rfl (fun K' hK => ?_)
        go_simp
        exact hK _ _ ⟨hF,
          HN.out,
          ((hB.setCell (by exact q9) _).setCell (by exact q9) _),
          fun h => f0 h,
          fun h => f1 h,
          fun _ u => Bool.noConfusion (d3.symm.trans (show L 3 = false from u)),
          fun h => f3 h,
          fun h => f4 h,
          fun h => f5 h,
          fun _ u => Bool.noConfusion (d7.symm.trans (show L 7 = false from u)),
          fun h => f7 h,
          fun h => (f8 h).stored.stored,
          fun h => (f9 h).stored.stored,
          fun h => by
          obtain ⟨g, e, hg, hk⟩ := f10 h
          have ne := f12 d8 d9
          have ne' : g ≠ g9 := fun E => ne g g9 e p9 E
          exact ⟨g, e, hg, (hk.far ne' _).far ne' _⟩,
          fun _ => ⟨g9, p9, q9, s9.stored2 r9 _ _⟩,
          fun h h' => f12 h h',
          fun h => f13 h,
          fun _ => d9⟩
    · intro L a w' hall hI
      obtain ⟨hF, hN, hB, f0, f1, f2, f3, f4, f5, f6, f7, f8, f9, f10, f11, f12, f13, f14⟩ := hI
      obtain ⟨g11, e11, b11, k11⟩ := f10 (hall 10 (by decide))
      obtain ⟨g12, e12, b12, k12⟩ := f11 (hall 11 (by decide))
      have hE := hF.out
      rw [hE]
      simp only [List.foldl_cons, List.foldl_nil, Act.put, List.setIfInBounds_toArray, List.set_cons_zero, List.set_cons_succ]
      clear hE hN
      go_wp2_with fail
      go_meet
      exact ⟨g11, g12, by first | rfl | (simp [e11]), by first | rfl | (simp [e12]), hB0.trans (hB.mono hB0.size), HK0.out.1.keep hB, HK0.out.2.1.keep hB, HK0.out.2.2.keep hB, k11, k12⟩
  case rest =>
    obtain ⟨g11, g12, rfl, rfl, hT⟩ := hcut
    have HT := Lib.hid hT
    clear hT
    go_upto_region 4 with fail
    go_cut [72] (fun s72 wx => s72 = .bool false ∧ T5 w wx g11 g12 a1 a2 b1 b2 c1 c2)
    case first =>
      generalize wc = wz at *
      have hjl := (rj_comm a1 a2 b1 b2).1
      have hjh := (rj_comm a1 a2 b1 b2).2
      have hml := (m_comm a1 a2 b1 b2).1
      have hmh := (m_comm a1 a2 b1 b2).2
      cases hx : hasB a1 a2 n <;> cases hy : hasB b1 b2 n
      · have hmn : hasB (mlo a1 a2 b1 b2) (mhi a1 a2 b1 b2) n = false := by rw [has_meet, hx, hy]; rfl
        refine wp_region_walk [0, 1, 2, 3, 4, 5, 6, 7, 8, 9, 10, 11, 12, 13, 14, 15, 16, 17, 18, 19, 20, 21, 22, 23, 24, 25, 26, 27, 28, 29, 30, 31, 32, 33, 34, 35, 36, 37, 38, 39, 40, 41, 42, 43] [29, 30, 31, 32, 33, 34, 35, 36, 37, 38, 39, 40, 41, 42, 43, 44, 45, 46, 47, 48, 49, 50, 51, 52, 53, 54, 55, 56, 57, 58, 59, 60, 61, 62, 63, 64, 65, 66, 67, 68, 69, 70, 71, 72] 0 (by kernel_rfl) (by kernel_rfl) (by kernel_rfl) rfl (by simp) (by kernel_rfl) (by kernel_rfl) ?_
        apply RegW.val 0 rfl
        · intro a w' hF hB hd; have e5 := hF.2.2 5 (by decide); simp at e5; clear hd hF; obtain ⟨x0, x1, x2, x3, x4, x5, x6, x7, x8, x9, x10⟩ := HT.out.held hB; refine wpOp_step rfl (fun K' hK => ?_); go_simp; exact hK _ _ ⟨_, rfl, Below.refl _ _, cst_ok⟩
        apply RegW.val 1 rfl
        · intro a w' hF hB hd; have e3 := hF.2.2 3 (by decide); simp at e3; clear hd hF; refine wpOp_step rfl (fun K' hK => ?_); go_simp; exact hK _ _ ⟨_, rfl, Below.refl _ _, cst_ok⟩
        apply RegW.val 2 rfl
        · intro a w' hF hB hd; have v0 : a.tmps[29]?.getD undef = _ := hd 0 (of_decide_eq_true (by kernel_rfl)) 1 _ _ rfl rfl; have v1 : a.tmps[30]?.getD undef = _ := hd 1 (of_decide_eq_true (by kernel_rfl)) 0 _ _ rfl rfl; clear hd hF; refine wpOp_step rfl (fun K' hK => ?_); go_simp; (first | (with_reducible refine (has_v hx _).mono ?_; rintro e w1 ⟨rfl, hb⟩; exact hK _ _ ⟨_, rfl, hb, cst_ok⟩) | (with_reducible refine (has_v hy _).mono ?_; rintro e w1 ⟨rfl, hb⟩; exact hK _ _ ⟨_, rfl, hb, cst_ok⟩) | (with_reducible refine (has_v hmn _).mono ?_; rintro e w1 ⟨rfl, hb⟩; exact hK _ _ ⟨_, rfl, hb, cst_ok⟩))
        apply RegW.val 3 rfl
        · intro a w' hF hB hd; have v2 : a.tmps[31]?.getD undef = _ := hd 2 (of_decide_eq_true (by kernel_rfl)) 0 _ _ rfl rfl; clear hd hF; refine wpOp_step rfl (fun K' hK => ?_); go_simp; exact hK _ _ ⟨_, rfl, Below.refl _ _, cst_ok⟩
        apply RegW.val 4 rfl
        · intro a w' hF hB hd; have v3 : a.tmps[32]?.getD undef = _ := hd 3 (of_decide_eq_true (by kernel_rfl)) 0 _ _ rfl rfl; have gd := tmp_bool v3; have e6 := hF.2.2 6 (by decide); simp at e6; clear hd hF; obtain ⟨x0, x1, x2, x3, x4, x5, x6, x7, x8, x9, x10⟩ := HT.out.held hB; refine wpOp_step rfl (fun K' hK => ?_); go_simp; exact hK _ _ ⟨_, rfl, Below.refl _ _, cst_ok⟩
        apply RegW.val 5 rfl
        · intro a w' hF hB hd; have v3 : a.tmps[32]?.getD undef = _ := hd 3 (of_decide_eq_true (by kernel_rfl)) 1 _ _ rfl rfl; have gd := tmp_bool v3; have e3 := hF.2.2 3 (by decide); simp at e3; clear hd hF; refine wpOp_step rfl (fun K' hK => ?_); go_simp; exact hK _ _ ⟨_, rfl, Below.refl _ _, cst_ok⟩
        apply RegW.val 6 rfl
        · intro a w' hF hB hd; have v3 : a.tmps[32]?.getD undef = _ := hd 3 (of_decide_eq_true (by kernel_rfl)) 2 _ _ rfl rfl; have v4 : a.tmps[33]?.getD undef = _ := hd 4 (of_decide_eq_true (by kernel_rfl)) 1 _ _ rfl rfl; have v5 : a.tmps[34]?.getD undef = _ := hd 5 (of_decide_eq_true (by kernel_rfl)) 0 _ _ rfl rfl; have gd := tmp_bool v3; clear hd hF; refine wpOp_step rfl (fun K' hK => ?_); go_simp; (first | exact hK _ _ ⟨_, rfl, Below.refl _ _, cst_ok⟩ | (with_reducible refine (has_v hx _).mono ?_; rintro e w1 ⟨rfl, hb⟩; exact hK _ _ ⟨_, rfl, hb, cst_ok⟩) | (with_reducible refine (has_v hy _).mono ?_; rintro e w1 ⟨rfl, hb⟩; exact hK _ _ ⟨_, rfl, hb, cst_ok⟩) | (with_reducible refine (has_v hmn _).mono ?_; rintro e w1 ⟨rfl, hb⟩; exact hK _ _ ⟨_, rfl, hb, cst_ok⟩))
        apply RegW.val 7 rfl
        · intro a w' hF hB hd; have v3 : a.tmps[32]?.getD undef = _ := hd 3 (of_decide_eq_true (by kernel_rfl)) 3 _ _ rfl rfl; have v6 : a.tmps[35]?.getD undef = _ := hd 6 (of_decide_eq_true (by kernel_rfl)) 0 _ _ rfl rfl; clear hd hF; refine wpOp_step rfl (fun K' hK => ?_); go_simp; exact hK _ _ ⟨_, rfl, Below.refl _ _, cst_ok⟩
        apply RegW.val 8 rfl
        · intro a w' hF hB hd; have v7 : a.tmps[36]?.getD undef = _ := hd 7 (of_decide_eq_true (by kernel_rfl)) 0 _ _ rfl rfl; clear hd hF; refine wpOp_step rfl (fun K' hK => ?_); go_simp; exact hK _ _ ⟨_, rfl, Below.refl _ _, cst_ok⟩
        apply RegW.val 9 rfl
        · intro a w' hF hB hd; have v8 : a.tmps[37]?.getD undef = _ := hd 8 (of_decide_eq_true (by kernel_rfl)) 0 _ _ rfl rfl; have gd := tmp_bool v8; have e11 := hF.2.2 11 (by decide); simp at e11; clear hd hF; obtain ⟨x0, x1, x2, x3, x4, x5, x6, x7, x8, x9, x10⟩ := HT.out.held hB; refine wpOp_step rfl (fun K' hK => ?_); go_simp; exact hK _ _ ⟨_, rfl, Below.refl _ _, cst_ok⟩
        apply RegW.val 10 rfl
        · intro a w' hF hB hd; have v8 : a.tmps[37]?.getD undef = _ := hd 8 (of_decide_eq_true (by kernel_rfl)) 1 _ _ rfl rfl; have gd := tmp_bool v8; have e3 := hF.2.2 3 (by decide); simp at e3; clear hd hF; refine wpOp_step rfl (fun K' hK => ?_); go_simp; exact hK _ _ ⟨_, rfl, Below.refl _ _, cst_ok⟩
        apply RegW.val 11 rfl
        · intro a w' hF hB hd; have v8 : a.tmps[37]?.getD undef = _ := hd 8 (of_decide_eq_true (by kernel_rfl)) 2 _ _ rfl rfl; have v9 : a.tmps[38]?.getD undef = _ := hd 9 (of_decide_eq_true (by kernel_rfl)) 1 _ _ rfl rfl; have v10 : a.tmps[39]?.getD undef = _ := hd 10 (of_decide_eq_true (by kernel_rfl)) 0 _ _ rfl rfl; have gd := tmp_bool v8; clear hd hF; refine wpOp_step rfl (fun K' hK => ?_); go_simp; (first | exact hK _ _ ⟨_, rfl, Below.refl _ _, cst_ok⟩ | (with_reducible refine (has_v hx _).mono ?_; rintro e w1 ⟨rfl, hb⟩; exact hK _ _ ⟨_, rfl, hb, cst_ok⟩) | (with_reducible refine (has_v hy _).mono ?_; rintro e w1 ⟨rfl, hb⟩; exact hK _ _ ⟨_, rfl, hb, cst_ok⟩) | (with_reducible refine (has_v hmn _).mono ?_; rintro e w1 ⟨rfl, hb⟩; exact hK _ _ ⟨_, rfl, hb, cst_ok⟩))
        apply RegW.val 12 rfl
        · intro a w' hF hB hd; have v8 : a.tmps[37]?.getD undef = _ := hd 8 (of_decide_eq_true (by kernel_rfl)) 3 _ _ rfl rfl; have v11 : a.tmps[40]?.getD undef = _ := hd 11 (of_decide_eq_true (by kernel_rfl)) 0 _ _ rfl rfl; have gd := tmp_bool v8; clear hd hF; refine wpOp_step rfl (fun K' hK => ?_); go_simp; exact hK _ _ ⟨_, rfl, Below.refl _ _, cst_ok⟩
        apply RegW.val 13 rfl
        · intro a w' hF hB hd; have v8 : a.tmps[37]?.getD undef = _ := hd 8 (of_decide_eq_true (by kernel_rfl)) 4 _ _ rfl rfl; have v12 : a.tmps[41]?.getD undef = _ := hd 12 (of_decide_eq_true (by kernel_rfl)) 0 _ _ rfl rfl; clear hd hF; refine wpOp_step rfl (fun K' hK => ?_); go_simp; exact hK _ _ ⟨_, rfl, Below.refl _ _, cst_ok⟩
        apply RegW.val 14 rfl
        · intro a w' hF hB hd; have v13 : a.tmps[42]?.getD undef = _ := hd 13 (of_decide_eq_true (by kernel_rfl)) 0 _ _ rfl rfl; clear hd hF; refine wpOp_step rfl (fun K' hK => ?_); go_simp; exact hK _ _ ⟨_, rfl, Below.refl _ _, cst_ok⟩
        apply RegW.val 15 rfl
        · intro a w' hF hB hd; have v14 : a.tmps[43]?.getD undef = _ := hd 14 (of_decide_eq_true (by kernel_rfl)) 0 _ _ rfl rfl; have gd := tmp_bool v14; have e12 := hF.2.2 12 (by decide); simp at e12; clear hd hF; obtain ⟨x0, x1, x2, x3, x4, x5, x6, x7, x8, x9, x10⟩ := HT.out.held hB; refine wpOp_step rfl (fun K' hK => ?_); go_simp; exact hK _ _ ⟨_, rfl, Below.refl _ _, cst_ok⟩
        apply RegW.val 16 rfl
        · intro a w' hF hB hd; have v14 : a.tmps[43]?.getD undef = _ := hd 14 (of_decide_eq_true (by kernel_rfl)) 1 _ _ rfl rfl; have gd := tmp_bool v14; have e3 := hF.2.2 3 (by decide); simp at e3; clear hd hF; refine wpOp_step rfl (fun K' hK => ?_); go_simp; exact hK _ _ ⟨_, rfl, Below.refl _ _, cst_ok⟩
        apply RegW.val 17 rfl
        · intro a w' hF hB hd; have v14 : a.tmps[43]?.getD undef = _ := hd 14 (of_decide_eq_true (by kernel_rfl)) 2 _ _ rfl rfl; have v15 : a.tmps[44]?.getD undef = _ := hd 15 (of_decide_eq_true (by kernel_rfl)) 1 _ _ rfl rfl; have v16 : a.tmps[45]?.getD undef = _ := hd 16 (of_decide_eq_true (by kernel_rfl)) 0 _ _ rfl rfl; have gd := tmp_bool v14; clear hd hF; refine wpOp_step rfl (fun K' hK => ?_); go_simp; (first | exact hK _ _ ⟨_, rfl, Below.refl _ _, cst_ok⟩ | (with_reducible refine (has_v hx _).mono ?_; rintro e w1 ⟨rfl, hb⟩; exact hK _ _ ⟨_, rfl, hb, cst_ok⟩) | (with_reducible refine (has_v hy _).mono ?_; rintro e w1 ⟨rfl, hb⟩; exact hK _ _ ⟨_, rfl, hb, cst_ok⟩) | (with_reducible refine (has_v hmn _).mono ?_; rintro e w1 ⟨rfl, hb⟩; exact hK _ _ ⟨_, rfl, hb, cst_ok⟩))
        apply RegW.val 18 rfl
        · intro a w' hF hB hd; have v14 : a.tmps[43]?.getD undef = _ := hd 14 (of_decide_eq_true (by kernel_rfl)) 3 _ _ rfl rfl; have gd := tmp_bool v14; have e5 := hF.2.2 5 (by decide); simp at e5; clear hd hF; obtain ⟨x0, x1, x2, x3, x4, x5, x6, x7, x8, x9, x10⟩ := HT.out.held hB; refine wpOp_step rfl (fun K' hK => ?_); go_simp; exact hK _ _ ⟨_, rfl, Below.refl _ _, cst_ok⟩
        apply RegW.val 19 rfl
        · intro a w' hF hB hd; have v14 : a.tmps[43]?.getD undef = _ := hd 14 (of_decide_eq_true (by kernel_rfl)) 4 _ _ rfl rfl; have gd := tmp_bool v14; have e3 := hF.2.2 3 (by decide); simp at e3; clear hd hF; refine wpOp_step rfl (fun K' hK => ?_); go_simp; exact hK _ _ ⟨_, rfl, Below.refl _ _, cst_ok⟩
        apply RegW.val 20 rfl
        · intro a w' hF hB hd; have v14 : a.tmps[43]?.getD undef = _ := hd 14 (of_decide_eq_true (by kernel_rfl)) 5 _ _ rfl rfl; have v18 : a.tmps[47]?.getD undef = _ := hd 18 (of_decide_eq_true (by kernel_rfl)) 1 _ _ rfl rfl; have v19 : a.tmps[48]?.getD undef = _ := hd 19 (of_decide_eq_true (by kernel_rfl)) 0 _ _ rfl rfl; have gd := tmp_bool v14; clear hd hF; refine wpOp_step rfl (fun K' hK => ?_); go_simp; (first | exact hK _ _ ⟨_, rfl, Below.refl _ _, cst_ok⟩ | (with_reducible refine (has_v hx _).mono ?_; rintro e w1 ⟨rfl, hb⟩; exact hK _ _ ⟨_, rfl, hb, cst_ok⟩) | (with_reducible refine (has_v hy _).mono ?_; rintro e w1 ⟨rfl, hb⟩; exact hK _ _ ⟨_, rfl, hb, cst_ok⟩) | (with_reducible refine (has_v hmn _).mono ?_; rintro e w1 ⟨rfl, hb⟩; exact hK _ _ ⟨_, rfl, hb, cst_ok⟩))
        apply RegW.val 21 rfl
        · intro a w' hF hB hd; have v14 : a.tmps[43]?.getD undef = _ := hd 14 (of_decide_eq_true (by kernel_rfl)) 6 _ _ rfl rfl; have v20 : a.tmps[49]?.getD undef = _ := hd 20 (of_decide_eq_true (by kernel_rfl)) 0 _ _ rfl rfl; have gd := tmp_bool v14; clear hd hF; refine wpOp_step rfl (fun K' hK => ?_); go_simp; exact hK _ _ ⟨_, rfl, Below.refl _ _, cst_ok⟩
        apply RegW.val 22 rfl
        · intro a w' hF hB hd; have v21 : a.tmps[50]?.getD undef = _ := hd 21 (of_decide_eq_true (by kernel_rfl)) 0 _ _ rfl rfl; have gd := tmp_bool v21; have e6 := hF.2.2 6 (by decide); simp at e6; clear hd hF; obtain ⟨x0, x1, x2, x3, x4, x5, x6, x7, x8, x9, x10⟩ := HT.out.held hB; refine wpOp_step rfl (fun K' hK => ?_); go_simp; exact hK _ _ ⟨_, rfl, Below.refl _ _, cst_ok⟩
        apply RegW.val 23 rfl
        · intro a w' hF hB hd; have v21 : a.tmps[50]?.getD undef = _ := hd 21 (of_decide_eq_true (by kernel_rfl)) 1 _ _ rfl rfl; have gd := tmp_bool v21; have e3 := hF.2.2 3 (by decide); simp at e3; clear hd hF; refine wpOp_step rfl (fun K' hK => ?_); go_simp; exact hK _ _ ⟨_, rfl, Below.refl _ _, cst_ok⟩
        apply RegW.val 24 rfl
        · intro a w' hF hB hd; have v21 : a.tmps[50]?.getD undef = _ := hd 21 (of_decide_eq_true (by kernel_rfl)) 2 _ _ rfl rfl; have v22 : a.tmps[51]?.getD undef = _ := hd 22 (of_decide_eq_true (by kernel_rfl)) 1 _ _ rfl rfl; have v23 : a.tmps[52]?.getD undef = _ := hd 23 (of_decide_eq_true (by kernel_rfl)) 0 _ _ rfl rfl; have gd := tmp_bool v21; clear hd hF; refine wpOp_step rfl (fun K' hK => ?_); go_simp; (first | exact hK _ _ ⟨_, rfl, Below.refl _ _, cst_ok⟩ | (with_reducible refine (has_v hx _).mono ?_; rintro e w1 ⟨rfl, hb⟩; exact hK _ _ ⟨_, rfl, hb, cst_ok⟩) | (with_reducible refine (has_v hy _).mono ?_; rintro e w1 ⟨rfl, hb⟩; exact hK _ _ ⟨_, rfl, hb, cst_ok⟩) | (with_reducible refine (has_v hmn _).mono ?_; rintro e w1 ⟨rfl, hb⟩; exact hK _ _ ⟨_, rfl, hb, cst_ok⟩))
        apply RegW.val 25 rfl
        · intro a w' hF hB hd; have v14 : a.tmps[43]?.getD undef = _ := hd 14 (of_decide_eq_true (by kernel_rfl)) 10 _ _ rfl rfl; have v21 : a.tmps[50]?.getD undef = _ := hd 21 (of_decide_eq_true (by kernel_rfl)) 3 _ _ rfl rfl; have v24 : a.tmps[53]?.getD undef = _ := hd 24 (of_decide_eq_true (by kernel_rfl)) 0 _ _ rfl rfl; have gd := tmp_bool v14; clear hd hF; refine wpOp_step rfl (fun K' hK => ?_); go_simp; exact hK _ _ ⟨_, rfl, Below.refl _ _, cst_ok⟩
        apply RegW.val 26 rfl
        · intro a w' hF hB hd; have v14 : a.tmps[43]?.getD undef = _ := hd 14 (of_decide_eq_true (by kernel_rfl)) 11 _ _ rfl rfl; have v17 : a.tmps[46]?.getD undef = _ := hd 17 (of_decide_eq_true (by kernel_rfl)) 8 _ _ rfl rfl; have v25 : a.tmps[54]?.getD undef = _ := hd 25 (of_decide_eq_true (by kernel_rfl)) 0 _ _ rfl rfl; have gd := tmp_bool v14; clear hd hF; refine wpOp_step rfl (fun K' hK => ?_); go_simp; exact hK _ _ ⟨_, rfl, Below.refl _ _, cst_ok⟩
        apply RegW.val 27 rfl
        · intro a w' hF hB hd; have v14 : a.tmps[43]?.getD undef = _ := hd 14 (of_decide_eq_true (by kernel_rfl)) 12 _ _ rfl rfl; have v26 : a.tmps[55]?.getD undef = _ := hd 26 (of_decide_eq_true (by kernel_rfl)) 0 _ _ rfl rfl; clear hd hF; refine wpOp_step rfl (fun K' hK => ?_); go_simp; exact hK _ _ ⟨_, rfl, Below.refl _ _, cst_ok⟩
        apply RegW.val 28 rfl
        · intro a w' hF hB hd; have v27 : a.tmps[56]?.getD undef = _ := hd 27 (of_decide_eq_true (by kernel_rfl)) 0 _ _ rfl rfl; clear hd hF; refine wpOp_step rfl (fun K' hK => ?_); go_simp; exact hK _ _ ⟨_, rfl, Below.refl _ _, cst_ok⟩
        apply RegW.val 29 rfl
        · intro a w' hF hB hd; have v28 : a.tmps[57]?.getD undef = _ := hd 28 (of_decide_eq_true (by kernel_rfl)) 0 _ _ rfl rfl; have gd := tmp_bool v28; have e11 := hF.2.2 11 (by decide); simp at e11; clear hd hF; obtain ⟨x0, x1, x2, x3, x4, x5, x6, x7, x8, x9, x10⟩ := HT.out.held hB; refine wpOp_step rfl (fun K' hK => ?_); go_simp; exact hK _ _ ⟨_, rfl, Below.refl _ _, cst_ok⟩
        apply RegW.val 30 rfl
        · intro a w' hF hB hd; have v28 : a.tmps[57]?.getD undef = _ := hd 28 (of_decide_eq_true (by kernel_rfl)) 1 _ _ rfl rfl; have gd := tmp_bool v28; have e6 := hF.2.2 6 (by decide); simp at e6; clear hd hF; obtain ⟨x0, x1, x2, x3, x4, x5, x6, x7, x8, x9, x10⟩ := HT.out.held hB; refine wpOp_step rfl (fun K' hK => ?_); go_simp; exact hK _ _ ⟨_, rfl, Below.refl _ _, cst_ok⟩
        apply RegW.val 31 rfl
        · intro a w' hF hB hd; have v28 : a.tmps[57]?.getD undef = _ := hd 28 (of_decide_eq_true (by kernel_rfl)) 2 _ _ rfl rfl; have gd := tmp_bool v28; have e5 := hF.2.2 5 (by decide); simp at e5; clear hd hF; obtain ⟨x0, x1, x2, x3, x4, x5, x6, x7, x8, x9, x10⟩ := HT.out.held hB; refine wpOp_step rfl (fun K' hK => ?_); go_simp; exact hK _ _ ⟨_, rfl, Below.refl _ _, cst_ok⟩
        apply RegW.two 32 rfl
        · intro a w' hF hB hd; have v28 : a.tmps[57]?.getD undef = _ := hd 28 (of_decide_eq_true (by kernel_rfl)) 3 _ _ rfl rfl; have v30 : a.tmps[59]?.getD undef = _ := hd 30 (of_decide_eq_true (by kernel_rfl)) 1 _ _ rfl rfl; have v31 : a.tmps[60]?.getD undef = _ := hd 31 (of_decide_eq_true (by kernel_rfl)) 0 _ _ rfl rfl; have gd := tmp_bool v28; clear hd hF; refine wpOp_step rfl (fun K' hK => ?_); go_simp; exact hK _ _ ⟨_, rfl, (Below.refl _ _).alloc (Nat.le_refl _) _, ⟨_, rfl, rd_two _ _ _ _ _⟩⟩
        apply RegW.val 33 rfl
        · intro a w' hF hB hd; have v28 : a.tmps[57]?.getD undef = _ := hd 28 (of_decide_eq_true (by kernel_rfl)) 4 _ _ rfl rfl; have u32 := hd 32 (of_decide_eq_true (by kernel_rfl)) 0 _ _ rfl rfl; obtain ⟨g32, p32, q⟩ := u32; have gd := tmp_bool v28; clear hd hF; refine wpOp_step rfl (fun K' hK => ?_); go_simp; (first | exact hK _ _ ⟨_, rfl, Below.refl _ _, cst_ok⟩ | (with_reducible refine (joinAB_c _ _ _ _ _ _ q).mono ?_; rintro e w1 ⟨rfl, hb⟩; exact hK _ _ ⟨_, rfl, hb, cst_ok⟩))
        apply RegW.val 34 rfl
        · intro a w' hF hB hd; have v28 : a.tmps[57]?.getD undef = _ := hd 28 (of_decide_eq_true (by kernel_rfl)) 5 _ _ rfl rfl; have v29 : a.tmps[58]?.getD undef = _ := hd 29 (of_decide_eq_true (by kernel_rfl)) 4 _ _ rfl rfl; have v33 : a.tmps[62]?.getD undef = _ := hd 33 (of_decide_eq_true (by kernel_rfl)) 0 _ _ rfl rfl; have gd := tmp_bool v28; clear hd hF; refine wpOp_step rfl (fun K' hK => ?_); go_simp; exact hK _ _ ⟨_, rfl, Below.refl _ _, cst_ok⟩
        apply RegW.val 35 rfl
        · intro a w' hF hB hd; have v28 : a.tmps[57]?.getD undef = _ := hd 28 (of_decide_eq_true (by kernel_rfl)) 6 _ _ rfl rfl; have v34 : a.tmps[63]?.getD undef = _ := hd 34 (of_decide_eq_true (by kernel_rfl)) 0 _ _ rfl rfl; clear hd hF; refine wpOp_step rfl (fun K' hK => ?_); go_simp; exact hK _ _ ⟨_, rfl, Below.refl _ _, cst_ok⟩
        apply RegW.val 36 rfl
        · intro a w' hF hB hd; have v35 : a.tmps[64]?.getD undef = _ := hd 35 (of_decide_eq_true (by kernel_rfl)) 0 _ _ rfl rfl; clear hd hF; refine wpOp_step rfl (fun K' hK => ?_); go_simp; exact hK _ _ ⟨_, rfl, Below.refl _ _, cst_ok⟩
        apply RegW.val 37 rfl
        · intro a w' hF hB hd; have v36 : a.tmps[65]?.getD undef = _ := hd 36 (of_decide_eq_true (by kernel_rfl)) 0 _ _ rfl rfl; have gd := tmp_bool v36; have e12 := hF.2.2 12 (by decide); simp at e12; clear hd hF; obtain ⟨x0, x1, x2, x3, x4, x5, x6, x7, x8, x9, x10⟩ := HT.out.held hB; refine wpOp_step rfl (fun K' hK => ?_); go_simp; exact hK _ _ ⟨_, rfl, Below.refl _ _, cst_ok⟩
        apply RegW.val 38 rfl
        · intro a w' hF hB hd; have v36 : a.tmps[65]?.getD undef = _ := hd 36 (of_decide_eq_true (by kernel_rfl)) 1 _ _ rfl rfl; have gd := tmp_bool v36; have e6 := hF.2.2 6 (by decide); simp at e6; clear hd hF; obtain ⟨x0, x1, x2, x3, x4, x5, x6, x7, x8, x9, x10⟩ := HT.out.held hB; refine wpOp_step rfl (fun K' hK => ?_); go_simp; exact hK _ _ ⟨_, rfl, Below.refl _ _, cst_ok⟩
        apply RegW.val 39 rfl
        · intro a w' hF hB hd; have v36 : a.tmps[65]?.getD undef = _ := hd 36 (of_decide_eq_true (by kernel_rfl)) 2 _ _ rfl rfl; have gd := tmp_bool v36; have e5 := hF.2.2 5 (by decide); simp at e5; clear hd hF; obtain ⟨x0, x1, x2, x3, x4, x5, x6, x7, x8, x9, x10⟩ := HT.out.held hB; refine wpOp_step rfl (fun K' hK => ?_); go_simp; exact hK _ _ ⟨_, rfl, Below.refl _ _, cst_ok⟩
        apply RegW.two 40 rfl
        · intro a w' hF hB hd; have v36 : a.tmps[65]?.getD undef = _ := hd 36 (of_decide_eq_true (by kernel_rfl)) 3 _ _ rfl rfl; have v38 : a.tmps[67]?.getD undef = _ := hd 38 (of_decide_eq_true (by kernel_rfl)) 1 _ _ rfl rfl; have v39 : a.tmps[68]?.getD undef = _ := hd 39 (of_decide_eq_true (by kernel_rfl)) 0 _ _ rfl rfl; have gd := tmp_bool v36; clear hd hF; refine wpOp_step rfl (fun K' hK => ?_); go_simp; exact hK _ _ ⟨_, rfl, (Below.refl _ _).alloc (Nat.le_refl _) _, ⟨_, rfl, rd_two _ _ _ _ _⟩⟩
        apply RegW.val 41 rfl
        · intro a w' hF hB hd; have v36 : a.tmps[65]?.getD undef = _ := hd 36 (of_decide_eq_true (by kernel_rfl)) 4 _ _ rfl rfl; have u40 := hd 40 (of_decide_eq_true (by kernel_rfl)) 0 _ _ rfl rfl; obtain ⟨g40, p40, q⟩ := u40; have gd := tmp_bool v36; clear hd hF; refine wpOp_step rfl (fun K' hK => ?_); go_simp; (first | exact hK _ _ ⟨_, rfl, Below.refl _ _, cst_ok⟩ | (with_reducible refine (meetAB_c _ _ _ _ _ _ q (by first | exact HA.out | exact HB.out | exact HM.out)).mono ?_; rintro e w1 ⟨rfl, hb⟩; exact hK _ _ ⟨_, rfl, hb, cst_ok⟩))
        apply RegW.val 42 rfl
        · intro a w' hF hB hd; have v36 : a.tmps[65]?.getD undef = _ := hd 36 (of_decide_eq_true (by kernel_rfl)) 5 _ _ rfl rfl; have v37 : a.tmps[66]?.getD undef = _ := hd 37 (of_decide_eq_true (by kernel_rfl)) 4 _ _ rfl rfl; have v41 : a.tmps[70]?.getD undef = _ := hd 41 (of_decide_eq_true (by kernel_rfl)) 0 _ _ rfl rfl; have gd := tmp_bool v36; clear hd hF; refine wpOp_step rfl (fun K' hK => ?_); go_simp; exact hK _ _ ⟨_, rfl, Below.refl _ _, cst_ok⟩
        apply RegW.val 43 rfl
        · intro a w' hF hB hd; have v36 : a.tmps[65]?.getD undef = _ := hd 36 (of_decide_eq_true (by kernel_rfl)) 6 _ _ rfl rfl; have v42 : a.tmps[71]?.getD undef = _ := hd 42 (of_decide_eq_true (by kernel_rfl)) 0 _ _ rfl rfl; clear hd hF; refine wpOp_step rfl (fun K' hK => ?_); go_simp; exact hK _ _ ⟨_, rfl, Below.refl _ _, cst_ok⟩
        refine RegW.done (fun a w' hF hB hv => ?_)
        have v0 : a.tmps[29]?.getD undef = _ := hv 43 _ _ rfl
        have v1 : a.tmps[30]?.getD undef = _ := hv 42 _ _ rfl
        have v2 : a.tmps[31]?.getD undef = _ := hv 41 _ _ rfl
        have v3 : a.tmps[32]?.getD undef = _ := hv 40 _ _ rfl
        have v4 : a.tmps[33]?.getD undef = _ := hv 39 _ _ rfl
        have v5 : a.tmps[34]?.getD undef = _ := hv 38 _ _ rfl
        have v6 : a.tmps[35]?.getD undef = _ := hv 37 _ _ rfl
        have v7 : a.tmps[36]?.getD undef = _ := hv 36 _ _ rfl
        have v8 : a.tmps[37]?.getD undef = _ := hv 35 _ _ rfl
        have v9 : a.tmps[38]?.getD undef = _ := hv 34 _ _ rfl
        have v10 : a.tmps[39]?.getD undef = _ := hv 33 _ _ rfl
        have v11 : a.tmps[40]?.getD undef = _ := hv 32 _ _ rfl
        have v12 : a.tmps[41]?.getD undef = _ := hv 31 _ _ rfl
        have v13 : a.tmps[42]?.getD undef = _ := hv 30 _ _ rfl
        have v14 : a.tmps[43]?.getD undef = _ := hv 29 _ _ rfl
        have v15 : a.tmps[44]?.getD undef = _ := hv 28 _ _ rfl
        have v16 : a.tmps[45]?.getD undef = _ := hv 27 _ _ rfl
        have v17 : a.tmps[46]?.getD undef = _ := hv 26 _ _ rfl
        have v18 : a.tmps[47]?.getD undef = _ := hv 25 _ _ rfl
        have v19 : a.tmps[48]?.getD undef = _ := hv 24 _ _ rfl
        have v20 : a.tmps[49]?.getD undef = _ := hv 23 _ _ rfl
        have v21 : a.tmps[50]?.getD undef = _ := hv 22 _ _ rfl
        have v22 : a.tmps[51]?.getD undef = _ := hv 21 _ _ rfl
        have v23 : a.tmps[52]?.getD undef = _ := hv 20 _ _ rfl
        have v24 : a.tmps[53]?.getD undef = _ := hv 19 _ _ rfl
        have v25 : a.tmps[54]?.getD undef = _ := hv 18 _ _ rfl
        have v26 : a.tmps[55]?.getD undef = _ := hv 17 _ _ rfl
        have v27 : a.tmps[56]?.getD undef = _ := hv 16 _ _ rfl
        have v28 : a.tmps[57]?.getD undef = _ := hv 15 _ _ rfl
        have v29 : a.tmps[58]?.getD undef = _ := hv 14 _ _ rfl
        have v30 : a.tmps[59]?.getD undef = _ := hv 13 _ _ rfl
        have v31 : a.tmps[60]?.getD undef = _ := hv 12 _ _ rfl
        have u32 := hv 11 _ _ rfl
        have v33 : a.tmps[62]?.getD undef = _ := hv 10 _ _ rfl
        have v34 : a.tmps[63]?.getD undef = _ := hv 9 _ _ rfl
        have v35 : a.tmps[64]?.getD undef = _ := hv 8 _ _ rfl
        have v36 : a.tmps[65]?.getD undef = _ := hv 7 _ _ rfl
        have v37 : a.tmps[66]?.getD undef = _ := hv 6 _ _ rfl
        have v38 : a.tmps[67]?.getD undef = _ := hv 5 _ _ rfl
        have v39 : a.tmps[68]?.getD undef = _ := hv 4 _ _ rfl
        have u40 := hv 3 _ _ rfl
        have v41 : a.tmps[70]?.getD undef = _ := hv 2 _ _ rfl
        have v42 : a.tmps[71]?.getD undef = _ := hv 1 _ _ rfl
        have v43 : a.tmps[72]?.getD undef = _ := hv 0 _ _ rfl
        have hE := hF.out
        rw [hE]
        clear hE hF hv
        simp only [List.foldl_cons, List.foldl_nil, Act.put, List.setIfInBounds_toArray, List.set_cons_zero, List.set_cons_succ, Array.getD_eq_getD_getElem?, v0, v1, v2, v3, v4, v5, v6, v7, v8, v9, v10, v11, v12, v13, v14, v15, v16, v17, v18, v19, v20, v21, v22, v23, v24, v25, v26, v27, v28, v29, v30, v31, v33, v34, v35, v36, v37, v38, v39, v41, v42, v43]
        clear v0 v1 v2 v3 v4 v5 v6 v7 v8 v9 v10 v11 v12 v13 v14 v15 v16 v17 v18 v19 v20 v21 v22 v23 v24 v25 v26 v27 v28 v29 v30 v31 v33 v34 v35 v36 v37 v38 v39 v41 v42 v43
        have hE0 := hB
        clear hB
        go_wp2_with fail
        go_meet
        exact ⟨rfl, HT.out.step hE0⟩
      · have hmn : hasB (mlo a1 a2 b1 b2) (mhi a1 a2 b1 b2) n = false := by rw [has_meet, hx, hy]; rfl
        have hjn := has_join (a := a1) (b := a2) (c := b1) (d := b2) (n := n) (.inr hy)
        refine wp_region_walk [0, 1, 2, 3, 4, 5, 6, 7, 8, 9, 10, 11, 12, 13, 14, 15, 16, 17, 18, 19, 20, 21, 22, 23, 24, 25, 26, 27, 28, 29, 30, 31, 32, 33, 34, 35, 36, 37, 38, 39, 40, 41, 42, 43] [29, 30, 31, 32, 33, 34, 35, 36, 37, 38, 39, 40, 41, 42, 43, 44, 45, 46, 47, 48, 49, 50, 51, 52, 53, 54, 55, 56, 57, 58, 59, 60, 61, 62, 63, 64, 65, 66, 67, 68, 69, 70, 71, 72] 0 (by kernel_rfl) (by kernel_rfl) (by kernel_rfl) rfl (by simp) (by kernel_rfl) (by kernel_rfl) ?_
        apply RegW.val 0 rfl
        · intro a w' hF hB hd; have e5 := hF.2.2 5 (by decide); simp at e5; clear hd hF; obtain ⟨x0, x1, x2, x3, x4, x5, x6, x7, x8, x9, x10⟩ := HT.out.held hB; refine wpOp_step rfl (fun K' hK => ?_); go_simp; exact hK _ _ ⟨_, rfl, Below.refl _ _, cst_ok⟩
        apply RegW.val 1 rfl
        · intro a w' hF hB hd; have e3 := hF.2.2 3 (by decide); simp at e3; clear hd hF; refine wpOp_step rfl (fun K' hK => ?_); go_simp; exact hK _ _ ⟨_, rfl, Below.refl _ _, cst_ok⟩
        apply RegW.val 2 rfl
        · intro a w' hF hB hd; have v0 : a.tmps[29]?.getD undef = _ := hd 0 (of_decide_eq_true (by kernel_rfl)) 1 _ _ rfl rfl; have v1 : a.tmps[30]?.getD undef = _ := hd 1 (of_decide_eq_true (by kernel_rfl)) 0 _ _ rfl rfl; clear hd hF; refine wpOp_step rfl (fun K' hK => ?_); go_simp; (first | (with_reducible refine (has_v hx _).mono ?_; rintro e w1 ⟨rfl, hb⟩; exact hK _ _ ⟨_, rfl, hb, cst_ok⟩) | (with_reducible refine (has_v hy _).mono ?_; rintro e w1 ⟨rfl, hb⟩; exact hK _ _ ⟨_, rfl, hb, cst_ok⟩) | (with_reducible refine (has_v hmn _).mono ?_; rintro e w1 ⟨rfl, hb⟩; exact hK _ _ ⟨_, rfl, hb, cst_ok⟩) | (with_reducible refine (has_v hjn _).mono ?_; rintro e w1 ⟨rfl, hb⟩; exact hK _ _ ⟨_, rfl, hb, cst_ok⟩))
        apply RegW.val 3 rfl
        · intro a w' hF hB hd; have v2 : a.tmps[31]?.getD undef = _ := hd 2 (of_decide_eq_true (by kernel_rfl)) 0 _ _ rfl rfl; clear hd hF; refine wpOp_step rfl (fun K' hK => ?_); go_simp; exact hK _ _ ⟨_, rfl, Below.refl _ _, cst_ok⟩
        apply RegW.val 4 rfl
        · intro a w' hF hB hd; have v3 : a.tmps[32]?.getD undef = _ := hd 3 (of_decide_eq_true (by kernel_rfl)) 0 _ _ rfl rfl; have gd := tmp_bool v3; have e6 := hF.2.2 6 (by decide); simp at e6; clear hd hF; obtain ⟨x0, x1, x2, x3, x4, x5, x6, x7, x8, x9, x10⟩ := HT.out.held hB; refine wpOp_step rfl (fun K' hK => ?_); go_simp; exact hK _ _ ⟨_, rfl, Below.refl _ _, cst_ok⟩
        apply RegW.val 5 rfl
        · intro a w' hF hB hd; have v3 : a.tmps[32]?.getD undef = _ := hd 3 (of_decide_eq_true (by kernel_rfl)) 1 _ _ rfl rfl; have gd := tmp_bool v3; have e3 := hF.2.2 3 (by decide); simp at e3; clear hd hF; refine wpOp_step rfl (fun K' hK => ?_); go_simp; exact hK _ _ ⟨_, rfl, Below.refl _ _, cst_ok⟩
        apply RegW.val 6 rfl
        · intro a w' hF hB hd; have v3 : a.tmps[32]?.getD undef = _ := hd 3 (of_decide_eq_true (by kernel_rfl)) 2 _ _ rfl rfl; have v4 : a.tmps[33]?.getD undef = _ := hd 4 (of_decide_eq_true (by kernel_rfl)) 1 _ _ rfl rfl; have v5 : a.tmps[34]?.getD undef = _ := hd 5 (of_decide_eq_true (by kernel_rfl)) 0 _ _ rfl rfl; have gd := tmp_bool v3; clear hd hF; refine wpOp_step rfl (fun K' hK => ?_); go_simp; (first | exact hK _ _ ⟨_, rfl, Below.refl _ _, cst_ok⟩ | (with_reducible refine (has_v hx _).mono ?_; rintro e w1 ⟨rfl, hb⟩; exact hK _ _ ⟨_, rfl, hb, cst_ok⟩) | (with_reducible refine (has_v hy _).mono ?_; rintro e w1 ⟨rfl, hb⟩; exact hK _ _ ⟨_, rfl, hb, cst_ok⟩) | (with_reducible refine (has_v hmn _).mono ?_; rintro e w1 ⟨rfl, hb⟩; exact hK _ _ ⟨_, rfl, hb, cst_ok⟩) | (with_reducible refine (has_v hjn _).mono ?_; rintro e w1 ⟨rfl, hb⟩; exact hK _ _ ⟨_, rfl, hb, cst_ok⟩))
        apply RegW.val 7 rfl
        · intro a w' hF hB hd; have v3 : a.tmps[32]?.getD undef = _ := hd 3 (of_decide_eq_true (by kernel_rfl)) 3 _ _ rfl rfl; have v6 : a.tmps[35]?.getD undef = _ := hd 6 (of_decide_eq_true (by kernel_rfl)) 0 _ _ rfl rfl; clear hd hF; refine wpOp_step rfl (fun K' hK => ?_); go_simp; exact hK _ _ ⟨_, rfl, Below.refl _ _, cst_ok⟩
        apply RegW.val 8 rfl
        · intro a w' hF hB hd; have v7 : a.tmps[36]?.getD undef = _ := hd 7 (of_decide_eq_true (by kernel_rfl)) 0 _ _ rfl rfl; clear hd hF; refine wpOp_step rfl (fun K' hK => ?_); go_simp; exact hK _ _ ⟨_, rfl, Below.refl _ _, cst_ok⟩
        apply RegW.val 9 rfl
        · intro a w' hF hB hd; have v8 : a.tmps[37]?.getD undef = _ := hd 8 (of_decide_eq_true (by kernel_rfl)) 0 _ _ rfl rfl; have gd := tmp_bool v8; have e11 := hF.2.2 11 (by decide); simp at e11; clear hd hF; obtain ⟨x0, x1, x2, x3, x4, x5, x6, x7, x8, x9, x10⟩ := HT.out.held hB; refine wpOp_step rfl (fun K' hK => ?_); go_simp; exact hK _ _ ⟨_, rfl, Below.refl _ _, cst_ok⟩
        apply RegW.val 10 rfl
        · intro a w' hF hB hd; have v8 : a.tmps[37]?.getD undef = _ := hd 8 (of_decide_eq_true (by kernel_rfl)) 1 _ _ rfl rfl; have gd := tmp_bool v8; have e3 := hF.2.2 3 (by decide); simp at e3; clear hd hF; refine wpOp_step rfl (fun K' hK => ?_); go_simp; exact hK _ _ ⟨_, rfl, Below.refl _ _, cst_ok⟩
        apply RegW.val 11 rfl
        · intro a w' hF hB hd; have v8 : a.tmps[37]?.getD undef = _ := hd 8 (of_decide_eq_true (by kernel_rfl)) 2 _ _ rfl rfl; have v9 : a.tmps[38]?.getD undef = _ := hd 9 (of_decide_eq_true (by kernel_rfl)) 1 _ _ rfl rfl; have v10 : a.tmps[39]?.getD undef = _ := hd 10 (of_decide_eq_true (by kernel_rfl)) 0 _ _ rfl rfl; have gd := tmp_bool v8; clear hd hF; refine wpOp_step rfl (fun K' hK => ?_); go_simp; (first | exact hK _ _ ⟨_, rfl, Below.refl _ _, cst_ok⟩ | (with_reducible refine (has_v hx _).mono ?_; rintro e w1 ⟨rfl, hb⟩; exact hK _ _ ⟨_, rfl, hb, cst_ok⟩) | (with_reducible refine (has_v hy _).mono ?_; rintro e w1 ⟨rfl, hb⟩; exact hK _ _ ⟨_, rfl, hb, cst_ok⟩) | (with_reducible refine (has_v hmn _).mono ?_; rintro e w1 ⟨rfl, hb⟩; exact hK _ _ ⟨_, rfl, hb, cst_ok⟩) | (with_reducible refine (has_v hjn _).mono ?_; rintro e w1 ⟨rfl, hb⟩; exact hK _ _ ⟨_, rfl, hb, cst_ok⟩))
        apply RegW.val 12 rfl
        · intro a w' hF hB hd; have v8 : a.tmps[37]?.getD undef = _ := hd 8 (of_decide_eq_true (by kernel_rfl)) 3 _ _ rfl rfl; have v11 : a.tmps[40]?.getD undef = _ := hd 11 (of_decide_eq_true (by kernel_rfl)) 0 _ _ rfl rfl; have gd := tmp_bool v8; clear hd hF; refine wpOp_step rfl (fun K' hK => ?_); go_simp; exact hK _ _ ⟨_, rfl, Below.refl _ _, cst_ok⟩
        apply RegW.val 13 rfl
        · intro a w' hF hB hd; have v8 : a.tmps[37]?.getD undef = _ := hd 8 (of_decide_eq_true (by kernel_rfl)) 4 _ _ rfl rfl; have v12 : a.tmps[41]?.getD undef = _ := hd 12 (of_decide_eq_true (by kernel_rfl)) 0 _ _ rfl rfl; clear hd hF; refine wpOp_step rfl (fun K' hK => ?_); go_simp; exact hK _ _ ⟨_, rfl, Below.refl _ _, cst_ok⟩
        apply RegW.val 14 rfl
        · intro a w' hF hB hd; have v13 : a.tmps[42]?.getD undef = _ := hd 13 (of_decide_eq_true (by kernel_rfl)) 0 _ _ rfl rfl; clear hd hF; refine wpOp_step rfl (fun K' hK => ?_); go_simp; exact hK _ _ ⟨_, rfl, Below.refl _ _, cst_ok⟩
        apply RegW.val 15 rfl
        · intro a w' hF hB hd; have v14 : a.tmps[43]?.getD undef = _ := hd 14 (of_decide_eq_true (by kernel_rfl)) 0 _ _ rfl rfl; have gd := tmp_bool v14; have e12 := hF.2.2 12 (by decide); simp at e12; clear hd hF; obtain ⟨x0, x1, x2, x3, x4, x5, x6, x7, x8, x9, x10⟩ := HT.out.held hB; refine wpOp_step rfl (fun K' hK => ?_); go_simp; exact hK _ _ ⟨_, rfl, Below.refl _ _, cst_ok⟩
        apply RegW.val 16 rfl
        · intro a w' hF hB hd; have v14 : a.tmps[43]?.getD undef = _ := hd 14 (of_decide_eq_true (by kernel_rfl)) 1 _ _ rfl rfl; have gd := tmp_bool v14; have e3 := hF.2.2 3 (by decide); simp at e3; clear hd hF; refine wpOp_step rfl (fun K' hK => ?_); go_simp; exact hK _ _ ⟨_, rfl, Below.refl _ _, cst_ok⟩
        apply RegW.val 17 rfl
        · intro a w' hF hB hd; have v14 : a.tmps[43]?.getD undef = _ := hd 14 (of_decide_eq_true (by kernel_rfl)) 2 _ _ rfl rfl; have v15 : a.tmps[44]?.getD undef = _ := hd 15 (of_decide_eq_true (by kernel_rfl)) 1 _ _ rfl rfl; have v16 : a.tmps[45]?.getD undef = _ := hd 16 (of_decide_eq_true (by kernel_rfl)) 0 _ _ rfl rfl; have gd := tmp_bool v14; clear hd hF; refine wpOp_step rfl (fun K' hK => ?_); go_simp; (first | exact hK _ _ ⟨_, rfl, Below.refl _ _, cst_ok⟩ | (with_reducible refine (has_v hx _).mono ?_; rintro e w1 ⟨rfl, hb⟩; exact hK _ _ ⟨_, rfl, hb, cst_ok⟩) | (with_reducible refine (has_v hy _).mono ?_; rintro e w1 ⟨rfl, hb⟩; exact hK _ _ ⟨_, rfl, hb, cst_ok⟩) | (with_reducible refine (has_v hmn _).mono ?_; rintro e w1 ⟨rfl, hb⟩; exact hK _ _ ⟨_, rfl, hb, cst_ok⟩) | (with_reducible refine (has_v hjn _).mono ?_; rintro e w1 ⟨rfl, hb⟩; exact hK _ _ ⟨_, rfl, hb, cst_ok⟩))
        apply RegW.val 18 rfl
        · intro a w' hF hB hd; have v14 : a.tmps[43]?.getD undef = _ := hd 14 (of_decide_eq_true (by kernel_rfl)) 3 _ _ rfl rfl; have gd := tmp_bool v14; have e5 := hF.2.2 5 (by decide); simp at e5; clear hd hF; obtain ⟨x0, x1, x2, x3, x4, x5, x6, x7, x8, x9, x10⟩ := HT.out.held hB; refine wpOp_step rfl (fun K' hK => ?_); go_simp; exact hK _ _ ⟨_, rfl, Below.refl _ _, cst_ok⟩
        apply RegW.val 19 rfl
        · intro a w' hF hB hd; have v14 : a.tmps[43]?.getD undef = _ := hd 14 (of_decide_eq_true (by kernel_rfl)) 4 _ _ rfl rfl; have gd := tmp_bool v14; have e3 := hF.2.2 3 (by decide); simp at e3; clear hd hF; refine wpOp_step rfl (fun K' hK => ?_); go_simp; exact hK _ _ ⟨_, rfl, Below.refl _ _, cst_ok⟩
        apply RegW.val 20 rfl
        · intro a w' hF hB hd; have v14 : a.tmps[43]?.getD undef = _ := hd 14 (of_decide_eq_true (by kernel_rfl)) 5 _ _ rfl rfl; have v18 : a.tmps[47]?.getD undef = _ := hd 18 (of_decide_eq_true (by kernel_rfl)) 1 _ _ rfl rfl; have v19 : a.tmps[48]?.getD undef = _ := hd 19 (of_decide_eq_true (by kernel_rfl)) 0 _ _ rfl rfl; have gd := tmp_bool v14; clear hd hF; refine wpOp_step rfl (fun K' hK => ?_); go_simp; (first | exact hK _ _ ⟨_, rfl, Below.refl _ _, cst_ok⟩ | (with_reducible refine (has_v hx _).mono ?_; rintro e w1 ⟨rfl, hb⟩; exact hK _ _ ⟨_, rfl, hb, cst_ok⟩) | (with_reducible refine (has_v hy _).mono ?_; rintro e w1 ⟨rfl, hb⟩; exact hK _ _ ⟨_, rfl, hb, cst_ok⟩) | (with_reducible refine (has_v hmn _).mono ?_; rintro e w1 ⟨rfl, hb⟩; exact hK _ _ ⟨_, rfl, hb, cst_ok⟩) | (with_reducible refine (has_v hjn _).mono ?_; rintro e w1 ⟨rfl, hb⟩; exact hK _ _ ⟨_, rfl, hb, cst_ok⟩))
        apply RegW.val 21 rfl
        · intro a w' hF hB hd; have v14 : a.tmps[43]?.getD undef = _ := hd 14 (of_decide_eq_true (by kernel_rfl)) 6 _ _ rfl rfl; have v20 : a.tmps[49]?.getD undef = _ := hd 20 (of_decide_eq_true (by kernel_rfl)) 0 _ _ rfl rfl; have gd := tmp_bool v14; clear hd hF; refine wpOp_step rfl (fun K' hK => ?_); go_simp; exact hK _ _ ⟨_, rfl, Below.refl _ _, cst_ok⟩
        apply RegW.val 22 rfl
        · intro a w' hF hB hd; have v21 : a.tmps[50]?.getD undef = _ := hd 21 (of_decide_eq_true (by kernel_rfl)) 0 _ _ rfl rfl; have gd := tmp_bool v21; have e6 := hF.2.2 6 (by decide); simp at e6; clear hd hF; obtain ⟨x0, x1, x2, x3, x4, x5, x6, x7, x8, x9, x10⟩ := HT.out.held hB; refine wpOp_step rfl (fun K' hK => ?_); go_simp; exact hK _ _ ⟨_, rfl, Below.refl _ _, cst_ok⟩
        apply RegW.val 23 rfl
        · intro a w' hF hB hd; have v21 : a.tmps[50]?.getD undef = _ := hd 21 (of_decide_eq_true (by kernel_rfl)) 1 _ _ rfl rfl; have gd := tmp_bool v21; have e3 := hF.2.2 3 (by decide); simp at e3; clear hd hF; refine wpOp_step rfl (fun K' hK => ?_); go_simp; exact hK _ _ ⟨_, rfl, Below.refl _ _, cst_ok⟩
        apply RegW.val 24 rfl
        · intro a w' hF hB hd; have v21 : a.tmps[50]?.getD undef = _ := hd 21 (of_decide_eq_true (by kernel_rfl)) 2 _ _ rfl rfl; have v22 : a.tmps[51]?.getD undef = _ := hd 22 (of_decide_eq_true (by kernel_rfl)) 1 _ _ rfl rfl; have v23 : a.tmps[52]?.getD undef = _ := hd 23 (of_decide_eq_true (by kernel_rfl)) 0 _ _ rfl rfl; have gd := tmp_bool v21; clear hd hF; refine wpOp_step rfl (fun K' hK => ?_); go_simp; (first | exact hK _ _ ⟨_, rfl, Below.refl _ _, cst_ok⟩ | (with_reducible refine (has_v hx _).mono ?_; rintro e w1 ⟨rfl, hb⟩; exact hK _ _ ⟨_, rfl, hb, cst_ok⟩) | (with_reducible refine (has_v hy _).mono ?_; rintro e w1 ⟨rfl, hb⟩; exact hK _ _ ⟨_, rfl, hb, cst_ok⟩) | (with_reducible refine (has_v hmn _).mono ?_; rintro e w1 ⟨rfl, hb⟩; exact hK _ _ ⟨_, rfl, hb, cst_ok⟩) | (with_reducible refine (has_v hjn _).mono ?_; rintro e w1 ⟨rfl, hb⟩; exact hK _ _ ⟨_, rfl, hb, cst_ok⟩))
        apply RegW.val 25 rfl
        · intro a w' hF hB hd; have v14 : a.tmps[43]?.getD undef = _ := hd 14 (of_decide_eq_true (by kernel_rfl)) 10 _ _ rfl rfl; have v21 : a.tmps[50]?.getD undef = _ := hd 21 (of_decide_eq_true (by kernel_rfl)) 3 _ _ rfl rfl; have v24 : a.tmps[53]?.getD undef = _ := hd 24 (of_decide_eq_true (by kernel_rfl)) 0 _ _ rfl rfl; have gd := tmp_bool v14; clear hd hF; refine wpOp_step rfl (fun K' hK => ?_); go_simp; exact hK _ _ ⟨_, rfl, Below.refl _ _, cst_ok⟩
        apply RegW.val 26 rfl
        · intro a w' hF hB hd; have v14 : a.tmps[43]?.getD undef = _ := hd 14 (of_decide_eq_true (by kernel_rfl)) 11 _ _ rfl rfl; have v17 : a.tmps[46]?.getD undef = _ := hd 17 (of_decide_eq_true (by kernel_rfl)) 8 _ _ rfl rfl; have v25 : a.tmps[54]?.getD undef = _ := hd 25 (of_decide_eq_true (by kernel_rfl)) 0 _ _ rfl rfl; have gd := tmp_bool v14; clear hd hF; refine wpOp_step rfl (fun K' hK => ?_); go_simp; exact hK _ _ ⟨_, rfl, Below.refl _ _, cst_ok⟩
        apply RegW.val 27 rfl
        · intro a w' hF hB hd; have v14 : a.tmps[43]?.getD undef = _ := hd 14 (of_decide_eq_true (by kernel_rfl)) 12 _ _ rfl rfl; have v26 : a.tmps[55]?.getD undef = _ := hd 26 (of_decide_eq_true (by kernel_rfl)) 0 _ _ rfl rfl; clear hd hF; refine wpOp_step rfl (fun K' hK => ?_); go_simp; exact hK _ _ ⟨_, rfl, Below.refl _ _, cst_ok⟩
        apply RegW.val 28 rfl
        · intro a w' hF hB hd; have v27 : a.tmps[56]?.getD undef = _ := hd 27 (of_decide_eq_true (by kernel_rfl)) 0 _ _ rfl rfl; clear hd hF; refine wpOp_step rfl (fun K' hK => ?_); go_simp; exact hK _ _ ⟨_, rfl, Below.refl _ _, cst_ok⟩
        apply RegW.val 29 rfl
        · intro a w' hF hB hd; have v28 : a.tmps[57]?.getD undef = _ := hd 28 (of_decide_eq_true (by kernel_rfl)) 0 _ _ rfl rfl; have gd := tmp_bool v28; have e11 := hF.2.2 11 (by decide); simp at e11; clear hd hF; obtain ⟨x0, x1, x2, x3, x4, x5, x6, x7, x8, x9, x10⟩ := HT.out.held hB; refine wpOp_step rfl (fun K' hK => ?_); go_simp; exact hK _ _ ⟨_, rfl, Below.refl _ _, cst_ok⟩
        apply RegW.val 30 rfl
        · intro a w' hF hB hd; have v28 : a.tmps[57]?.getD undef = _ := hd 28 (of_decide_eq_true (by kernel_rfl)) 1 _ _ rfl rfl; have gd := tmp_bool v28; have e6 := hF.2.2 6 (by decide); simp at e6; clear hd hF; obtain ⟨x0, x1, x2, x3, x4, x5, x6, x7, x8, x9, x10⟩ := HT.out.held hB; refine wpOp_step rfl (fun K' hK => ?_); go_simp; exact hK _ _ ⟨_, rfl, Below.refl _ _, cst_ok⟩
        apply RegW.val 31 rfl
        · intro a w' hF hB hd; have v28 : a.tmps[57]?.getD undef = _ := hd 28 (of_decide_eq_true (by kernel_rfl)) 2 _ _ rfl rfl; have gd := tmp_bool v28; have e5 := hF.2.2 5 (by decide); simp at e5; clear hd hF; obtain ⟨x0, x1, x2, x3, x4, x5, x6, x7, x8, x9, x10⟩ := HT.out.held hB; refine wpOp_step rfl (fun K' hK => ?_); go_simp; exact hK _ _ ⟨_, rfl, Below.refl _ _, cst_ok⟩
        apply RegW.two 32 rfl
        · intro a w' hF hB hd; have v28 : a.tmps[57]?.getD undef = _ := hd 28 (of_decide_eq_true (by kernel_rfl)) 3 _ _ rfl rfl; have v30 : a.tmps[59]?.getD undef = _ := hd 30 (of_decide_eq_true (by kernel_rfl)) 1 _ _ rfl rfl; have v31 : a.tmps[60]?.getD undef = _ := hd 31 (of_decide_eq_true (by kernel_rfl)) 0 _ _ rfl rfl; have gd := tmp_bool v28; clear hd hF; refine wpOp_step rfl (fun K' hK => ?_); go_simp; exact hK _ _ ⟨_, rfl, (Below.refl _ _).alloc (Nat.le_refl _) _, ⟨_, rfl, rd_two _ _ _ _ _⟩⟩
        apply RegW.val 33 rfl
        · intro a w' hF hB hd; have v28 : a.tmps[57]?.getD undef = _ := hd 28 (of_decide_eq_true (by kernel_rfl)) 4 _ _ rfl rfl; have u32 := hd 32 (of_decide_eq_true (by kernel_rfl)) 0 _ _ rfl rfl; obtain ⟨g32, p32, q⟩ := u32; have gd := tmp_bool v28; clear hd hF; refine wpOp_step rfl (fun K' hK => ?_); go_simp; (first | exact hK _ _ ⟨_, rfl, Below.refl _ _, cst_ok⟩ | (with_reducible refine (joinAB_c _ _ _ _ _ _ q).mono ?_; rintro e w1 ⟨rfl, hb⟩; exact hK _ _ ⟨_, rfl, hb, cst_ok⟩))
        apply RegW.val 34 rfl
        · intro a w' hF hB hd; have v28 : a.tmps[57]?.getD undef = _ := hd 28 (of_decide_eq_true (by kernel_rfl)) 5 _ _ rfl rfl; have v29 : a.tmps[58]?.getD undef = _ := hd 29 (of_decide_eq_true (by kernel_rfl)) 4 _ _ rfl rfl; have v33 : a.tmps[62]?.getD undef = _ := hd 33 (of_decide_eq_true (by kernel_rfl)) 0 _ _ rfl rfl; have gd := tmp_bool v28; clear hd hF; refine wpOp_step rfl (fun K' hK => ?_); go_simp; exact hK _ _ ⟨_, rfl, Below.refl _ _, cst_ok⟩
        apply RegW.val 35 rfl
        · intro a w' hF hB hd; have v28 : a.tmps[57]?.getD undef = _ := hd 28 (of_decide_eq_true (by kernel_rfl)) 6 _ _ rfl rfl; have v34 : a.tmps[63]?.getD undef = _ := hd 34 (of_decide_eq_true (by kernel_rfl)) 0 _ _ rfl rfl; clear hd hF; refine wpOp_step rfl (fun K' hK => ?_); go_simp; exact hK _ _ ⟨_, rfl, Below.refl _ _, cst_ok⟩
        apply RegW.val 36 rfl
        · intro a w' hF hB hd; have v35 : a.tmps[64]?.getD undef = _ := hd 35 (of_decide_eq_true (by kernel_rfl)) 0 _ _ rfl rfl; clear hd hF; refine wpOp_step rfl (fun K' hK => ?_); go_simp; exact hK _ _ ⟨_, rfl, Below.refl _ _, cst_ok⟩
        apply RegW.val 37 rfl
        · intro a w' hF hB hd; have v36 : a.tmps[65]?.getD undef = _ := hd 36 (of_decide_eq_true (by kernel_rfl)) 0 _ _ rfl rfl; have gd := tmp_bool v36; have e12 := hF.2.2 12 (by decide); simp at e12; clear hd hF; obtain ⟨x0, x1, x2, x3, x4, x5, x6, x7, x8, x9, x10⟩ := HT.out.held hB; refine wpOp_step rfl (fun K' hK => ?_); go_simp; exact hK _ _ ⟨_, rfl, Below.refl _ _, cst_ok⟩
        apply RegW.val 38 rfl
        · intro a w' hF hB hd; have v36 : a.tmps[65]?.getD undef = _ := hd 36 (of_decide_eq_true (by kernel_rfl)) 1 _ _ rfl rfl; have gd := tmp_bool v36; have e6 := hF.2.2 6 (by decide); simp at e6; clear hd hF; obtain ⟨x0, x1, x2, x3, x4, x5, x6, x7, x8, x9, x10⟩ := HT.out.held hB; refine wpOp_step rfl (fun K' hK => ?_); go_simp; exact hK _ _ ⟨_, rfl, Below.refl _ _, cst_ok⟩
        apply RegW.val 39 rfl
        · intro a w' hF hB hd; have v36 : a.tmps[65]?.getD undef = _ := hd 36 (of_decide_eq_true (by kernel_rfl)) 2 _ _ rfl rfl; have gd := tmp_bool v36; have e5 := hF.2.2 5 (by decide); simp at e5; clear hd hF; obtain ⟨x0, x1, x2, x3, x4, x5, x6, x7, x8, x9, x10⟩ := HT.out.held hB; refine wpOp_step rfl (fun K' hK => ?_); go_simp; exact hK _ _ ⟨_, rfl, Below.refl _ _, cst_ok⟩
        apply RegW.two 40 rfl
        · intro a w' hF hB hd; have v36 : a.tmps[65]?.getD undef = _ := hd 36 (of_decide_eq_true (by kernel_rfl)) 3 _ _ rfl rfl; have v38 : a.tmps[67]?.getD undef = _ := hd 38 (of_decide_eq_true (by kernel_rfl)) 1 _ _ rfl rfl; have v39 : a.tmps[68]?.getD undef = _ := hd 39 (of_decide_eq_true (by kernel_rfl)) 0 _ _ rfl rfl; have gd := tmp_bool v36; clear hd hF; refine wpOp_step rfl (fun K' hK => ?_); go_simp; exact hK _ _ ⟨_, rfl, (Below.refl _ _).alloc (Nat.le_refl _) _, ⟨_, rfl, rd_two _ _ _ _ _⟩⟩
        apply RegW.val 41 rfl
        · intro a w' hF hB hd; have v36 : a.tmps[65]?.getD undef = _ := hd 36 (of_decide_eq_true (by kernel_rfl)) 4 _ _ rfl rfl; have u40 := hd 40 (of_decide_eq_true (by kernel_rfl)) 0 _ _ rfl rfl; obtain ⟨g40, p40, q⟩ := u40; have gd := tmp_bool v36; clear hd hF; refine wpOp_step rfl (fun K' hK => ?_); go_simp; (first | exact hK _ _ ⟨_, rfl, Below.refl _ _, cst_ok⟩ | (with_reducible refine (meetAB_c _ _ _ _ _ _ q (by first | exact HA.out | exact HB.out | exact HM.out)).mono ?_; rintro e w1 ⟨rfl, hb⟩; exact hK _ _ ⟨_, rfl, hb, cst_ok⟩))
        apply RegW.val 42 rfl
        · intro a w' hF hB hd; have v36 : a.tmps[65]?.getD undef = _ := hd 36 (of_decide_eq_true (by kernel_rfl)) 5 _ _ rfl rfl; have v37 : a.tmps[66]?.getD undef = _ := hd 37 (of_decide_eq_true (by kernel_rfl)) 4 _ _ rfl rfl; have v41 : a.tmps[70]?.getD undef = _ := hd 41 (of_decide_eq_true (by kernel_rfl)) 0 _ _ rfl rfl; have gd := tmp_bool v36; clear hd hF; refine wpOp_step rfl (fun K' hK => ?_); go_simp; exact hK _ _ ⟨_, rfl, Below.refl _ _, cst_ok⟩
        apply RegW.val 43 rfl
        · intro a w' hF hB hd; have v36 : a.tmps[65]?.getD undef = _ := hd 36 (of_decide_eq_true (by kernel_rfl)) 6 _ _ rfl rfl; have v42 : a.tmps[71]?.getD undef = _ := hd 42 (of_decide_eq_true (by kernel_rfl)) 0 _ _ rfl rfl; clear hd hF; refine wpOp_step rfl (fun K' hK => ?_); go_simp; exact hK _ _ ⟨_, rfl, Below.refl _ _, cst_ok⟩
        refine RegW.done (fun a w' hF hB hv => ?_)
        have v0 : a.tmps[29]?.getD undef = _ := hv 43 _ _ rfl
        have v1 : a.tmps[30]?.getD undef = _ := hv 42 _ _ rfl
        have v2 : a.tmps[31]?.getD undef = _ := hv 41 _ _ rfl
        have v3 : a.tmps[32]?.getD undef = _ := hv 40 _ _ rfl
        have v4 : a.tmps[33]?.getD undef = _ := hv 39 _ _ rfl
        have v5 : a.tmps[34]?.getD undef = _ := hv 38 _ _ rfl
        have v6 : a.tmps[35]?.getD undef = _ := hv 37 _ _ rfl
        have v7 : a.tmps[36]?.getD undef = _ := hv 36 _ _ rfl
        have v8 : a.tmps[37]?.getD undef = _ := hv 35 _ _ rfl
        have v9 : a.tmps[38]?.getD undef = _ := hv 34 _ _ rfl
        have v10 : a.tmps[39]?.getD undef = _ := hv 33 _ _ rfl
        have v11 : a.tmps[40]?.getD undef = _ := hv 32 _ _ rfl
        have v12 : a.tmps[41]?.getD undef = _ := hv 31 _ _ rfl
        have v13 : a.tmps[42]?.getD undef = _ := hv 30 _ _ rfl
        have v14 : a.tmps[43]?.getD undef = _ := hv 29 _ _ rfl
        have v15 : a.tmps[44]?.getD undef = _ := hv 28 _ _ rfl
        have v16 : a.tmps[45]?.getD undef = _ := hv 27 _ _ rfl
        have v17 : a.tmps[46]?.getD undef = _ := hv 26 _ _ rfl
        have v18 : a.tmps[47]?.getD undef = _ := hv 25 _ _ rfl
        have v19 : a.tmps[48]?.getD undef = _ := hv 24 _ _ rfl
        have v20 : a.tmps[49]?.getD undef = _ := hv 23 _ _ rfl
        have v21 : a.tmps[50]?.getD undef = _ := hv 22 _ _ rfl
        have v22 : a.tmps[51]?.getD undef = _ := hv 21 _ _ rfl
        have v23 : a.tmps[52]?.getD undef = _ := hv 20 _ _ rfl
        have v24 : a.tmps[53]?.getD undef = _ := hv 19 _ _ rfl
        have v25 : a.tmps[54]?.getD undef = _ := hv 18 _ _ rfl
        have v26 : a.tmps[55]?.getD undef = _ := hv 17 _ _ rfl
        have v27 : a.tmps[56]?.getD undef = _ := hv 16 _ _ rfl
        have v28 : a.tmps[57]?.getD undef = _ := hv 15 _ _ rfl
        have v29 : a.tmps[58]?.getD undef = _ := hv 14 _ _ rfl
        have v30 : a.tmps[59]?.getD undef = _ := hv 13 _ _ rfl
        have v31 : a.tmps[60]?.getD undef = _ := hv 12 _ _ rfl
        have u32 := hv 11 _ _ rfl
        have v33 : a.tmps[62]?.getD undef = _ := hv 10 _ _ rfl
        have v34 : a.tmps[63]?.getD undef = _ := hv 9 _ _ rfl
        have v35 : a.tmps[64]?.getD undef = _ := hv 8 _ _ rfl
        have v36 : a.tmps[65]?.getD undef = _ := hv 7 _ _ rfl
        have v37 : a.tmps[66]?.getD undef = _ := hv 6 _ _ rfl
        have v38 : a.tmps[67]?.getD undef = _ := hv 5 _ _ rfl
        have v39 : a.tmps[68]?.getD undef = _ := hv 4 _ _ rfl
        have u40 := hv 3 _ _ rfl
        have v41 : a.tmps[70]?.getD undef = _ := hv 2 _ _ rfl
        have v42 : a.tmps[71]?.getD undef = _ := hv 1 _ _ rfl
        have v43 : a.tmps[72]?.getD undef = _ := hv 0 _ _ rfl
        have hE := hF.out
        rw [hE]
        clear hE hF hv
        simp only [List.foldl_cons, List.foldl_nil, Act.put, List.setIfInBounds_toArray, List.set_cons_zero, List.set_cons_succ, Array.getD_eq_getD_getElem?, v0, v1, v2, v3, v4, v5, v6, v7, v8, v9, v10, v11, v12, v13, v14, v15, v16, v17, v18, v19, v20, v21, v22, v23, v24, v25, v26, v27, v28, v29, v30, v31, v33, v34, v35, v36, v37, v38, v39, v41, v42, v43]
        clear v0 v1 v2 v3 v4 v5 v6 v7 v8 v9 v10 v11 v12 v13 v14 v15 v16 v17 v18 v19 v20 v21 v22 v23 v24 v25 v26 v27 v28 v29 v30 v31 v33 v34 v35 v36 v37 v38 v39 v41 v42 v43
        have hE0 := hB
        clear hB
        go_wp2_with fail
        go_meet
        exact ⟨rfl, HT.out.step hE0⟩
      · have hmn : hasB (mlo a1 a2 b1 b2) (mhi a1 a2 b1 b2) n = false := by rw [has_meet, hx, hy]; rfl
        have hjn := has_join (a := a1) (b := a2) (c := b1) (d := b2) (n := n) (.inl hx)
        refine wp_region_walk [0, 1, 2, 3, 4, 5, 6, 7, 8, 9, 10, 11, 12, 13, 14, 15, 16, 17, 18, 19, 20, 21, 22, 23, 24, 25, 26, 27, 28, 29, 30, 31, 32, 33, 34, 35, 36, 37, 38, 39, 40, 41, 42, 43] [29, 30, 31, 32, 33, 34, 35, 36, 37, 38, 39, 40, 41, 42, 43, 44, 45, 46, 47, 48, 49, 50, 51, 52, 53, 54, 55, 56, 57, 58, 59, 60, 61, 62, 63, 64, 65, 66, 67, 68, 69, 70, 71, 72] 0 (by kernel_rfl) (by kernel_rfl) (by kernel_rfl) rfl (by simp) (by kernel_rfl) (by kernel_rfl) ?_
        apply RegW.val 0 rfl
        · intro a w' hF hB hd; have e5 := hF.2.2 5 (by decide); simp at e5; clear hd hF; obtain ⟨x0, x1, x2, x3, x4, x5, x6, x7, x8, x9, x10⟩ := HT.out.held hB; refine wpOp_step rfl (fun K' hK => ?_); go_simp; exact hK _ _ ⟨_, rfl, Below.refl _ _, cst_ok⟩
        apply RegW.val 1 rfl
        · intro a w' hF hB hd; have e3 := hF.2.2 3 (by decide); simp at e3; clear hd hF; refine wpOp_step rfl (fun K' hK => ?_); go_simp; exact hK _ _ ⟨_, rfl, Below.refl _ _, cst_ok⟩
        apply RegW.val 2 rfl
        · intro a w' hF hB hd; have v0 : a.tmps[29]?.getD undef = _ := hd 0 (of_decide_eq_true (by kernel_rfl)) 1 _ _ rfl rfl; have v1 : a.tmps[30]?.getD undef = _ := hd 1 (of_decide_eq_true (by kernel_rfl)) 0 _ _ rfl rfl; clear hd hF; refine wpOp_step rfl (fun K' hK => ?_); go_simp; (first | (with_reducible refine (has_v hx _).mono ?_; rintro e w1 ⟨rfl, hb⟩; exact hK _ _ ⟨_, rfl, hb, cst_ok⟩) | (with_reducible refine (has_v hy _).mono ?_; rintro e w1 ⟨rfl, hb⟩; exact hK _ _ ⟨_, rfl, hb, cst_ok⟩) | (with_reducible refine (has_v hmn _).mono ?_; rintro e w1 ⟨rfl, hb⟩; exact hK _ _ ⟨_, rfl, hb, cst_ok⟩) | (with_reducible refine (has_v hjn _).mono ?_; rintro e w1 ⟨rfl, hb⟩; exact hK _ _ ⟨_, rfl, hb, cst_ok⟩))
        apply RegW.val 3 rfl
        · intro a w' hF hB hd; have v2 : a.tmps[31]?.getD undef = _ := hd 2 (of_decide_eq_true (by kernel_rfl)) 0 _ _ rfl rfl; clear hd hF; refine wpOp_step rfl (fun K' hK => ?_); go_simp; exact hK _ _ ⟨_, rfl, Below.refl _ _, cst_ok⟩
        apply RegW.val 4 rfl
        · intro a w' hF hB hd; have v3 : a.tmps[32]?.getD undef = _ := hd 3 (of_decide_eq_true (by kernel_rfl)) 0 _ _ rfl rfl; have gd := tmp_bool v3; have e6 := hF.2.2 6 (by decide); simp at e6; clear hd hF; obtain ⟨x0, x1, x2, x3, x4, x5, x6, x7, x8, x9, x10⟩ := HT.out.held hB; refine wpOp_step rfl (fun K' hK => ?_); go_simp; exact hK _ _ ⟨_, rfl, Below.refl _ _, cst_ok⟩
        apply RegW.val 5 rfl
        · intro a w' hF hB hd; have v3 : a.tmps[32]?.getD undef = _ := hd 3 (of_decide_eq_true (by kernel_rfl)) 1 _ _ rfl rfl; have gd := tmp_bool v3; have e3 := hF.2.2 3 (by decide); simp at e3; clear hd hF; refine wpOp_step rfl (fun K' hK => ?_); go_simp; exact hK _ _ ⟨_, rfl, Below.refl _ _, cst_ok⟩
        apply RegW.val 6 rfl
        · intro a w' hF hB hd; have v3 : a.tmps[32]?.getD undef = _ := hd 3 (of_decide_eq_true (by kernel_rfl)) 2 _ _ rfl rfl; have v4 : a.tmps[33]?.getD undef = _ := hd 4 (of_decide_eq_true (by kernel_rfl)) 1 _ _ rfl rfl; have v5 : a.tmps[34]?.getD undef = _ := hd 5 (of_decide_eq_true (by kernel_rfl)) 0 _ _ rfl rfl; have gd := tmp_bool v3; clear hd hF; refine wpOp_step rfl (fun K' hK => ?_); go_simp; (first | exact hK _ _ ⟨_, rfl, Below.refl _ _, cst_ok⟩ | (with_reducible refine (has_v hx _).mono ?_; rintro e w1 ⟨rfl, hb⟩; exact hK _ _ ⟨_, rfl, hb, cst_ok⟩) | (with_reducible refine (has_v hy _).mono ?_; rintro e w1 ⟨rfl, hb⟩; exact hK _ _ ⟨_, rfl, hb, cst_ok⟩) | (with_reducible refine (has_v hmn _).mono ?_; rintro e w1 ⟨rfl, hb⟩; exact hK _ _ ⟨_, rfl, hb, cst_ok⟩) | (with_reducible refine (has_v hjn _).mono ?_; rintro e w1 ⟨rfl, hb⟩; exact hK _ _ ⟨_, rfl, hb, cst_ok⟩))
        apply RegW.val 7 rfl
        · intro a w' hF hB hd; have v3 : a.tmps[32]?.getD undef = _ := hd 3 (of_decide_eq_true (by kernel_rfl)) 3 _ _ rfl rfl; have v6 : a.tmps[35]?.getD undef = _ := hd 6 (of_decide_eq_true (by kernel_rfl)) 0 _ _ rfl rfl; clear hd hF; refine wpOp_step rfl (fun K' hK => ?_); go_simp; exact hK _ _ ⟨_, rfl, Below.refl _ _, cst_ok⟩
        apply RegW.val 8 rfl
        · intro a w' hF hB hd; have v7 : a.tmps[36]?.getD undef = _ := hd 7 (of_decide_eq_true (by kernel_rfl)) 0 _ _ rfl rfl; clear hd hF; refine wpOp_step rfl (fun K' hK => ?_); go_simp; exact hK _ _ ⟨_, rfl, Below.refl _ _, cst_ok⟩
        apply RegW.val 9 rfl
        · intro a w' hF hB hd; have v8 : a.tmps[37]?.getD undef = _ := hd 8 (of_decide_eq_true (by kernel_rfl)) 0 _ _ rfl rfl; have gd := tmp_bool v8; have e11 := hF.2.2 11 (by decide); simp at e11; clear hd hF; obtain ⟨x0, x1, x2, x3, x4, x5, x6, x7, x8, x9, x10⟩ := HT.out.held hB; refine wpOp_step rfl (fun K' hK => ?_); go_simp; exact hK _ _ ⟨_, rfl, Below.refl _ _, cst_ok⟩
        apply RegW.val 10 rfl
        · intro a w' hF hB hd; have v8 : a.tmps[37]?.getD undef = _ := hd 8 (of_decide_eq_true (by kernel_rfl)) 1 _ _ rfl rfl; have gd := tmp_bool v8; have e3 := hF.2.2 3 (by decide); simp at e3; clear hd hF; refine wpOp_step rfl (fun K' hK => ?_); go_simp; exact hK _ _ ⟨_, rfl, Below.refl _ _, cst_ok⟩
        apply RegW.val 11 rfl
        · intro a w' hF hB hd; have v8 : a.tmps[37]?.getD undef = _ := hd 8 (of_decide_eq_true (by kernel_rfl)) 2 _ _ rfl rfl; have v9 : a.tmps[38]?.getD undef = _ := hd 9 (of_decide_eq_true (by kernel_rfl)) 1 _ _ rfl rfl; have v10 : a.tmps[39]?.getD undef = _ := hd 10 (of_decide_eq_true (by kernel_rfl)) 0 _ _ rfl rfl; have gd := tmp_bool v8; clear hd hF; refine wpOp_step rfl (fun K' hK => ?_); go_simp; (first | exact hK _ _ ⟨_, rfl, Below.refl _ _, cst_ok⟩ | (with_reducible refine (has_v hx _).mono ?_; rintro e w1 ⟨rfl, hb⟩; exact hK _ _ ⟨_, rfl, hb, cst_ok⟩) | (with_reducible refine (has_v hy _).mono ?_; rintro e w1 ⟨rfl, hb⟩; exact hK _ _ ⟨_, rfl, hb, cst_ok⟩) | (with_reducible refine (has_v hmn _).mono ?_; rintro e w1 ⟨rfl, hb⟩; exact hK _ _ ⟨_, rfl, hb, cst_ok⟩) | (with_reducible refine (has_v hjn _).mono ?_; rintro e w1 ⟨rfl, hb⟩; exact hK _ _ ⟨_, rfl, hb, cst_ok⟩))
        apply RegW.val 12 rfl
        · intro a w' hF hB hd; have v8 : a.tmps[37]?.getD undef = _ := hd 8 (of_decide_eq_true (by kernel_rfl)) 3 _ _ rfl rfl; have v11 : a.tmps[40]?.getD undef = _ := hd 11 (of_decide_eq_true (by kernel_rfl)) 0 _ _ rfl rfl; have gd := tmp_bool v8; clear hd hF; refine wpOp_step rfl (fun K' hK => ?_); go_simp; exact hK _ _ ⟨_, rfl, Below.refl _ _, cst_ok⟩
        apply RegW.val 13 rfl
        · intro a w' hF hB hd; have v8 : a.tmps[37]?.getD undef = _ := hd 8 (of_decide_eq_true (by kernel_rfl)) 4 _ _ rfl rfl; have v12 : a.tmps[41]?.getD undef = _ := hd 12 (of_decide_eq_true (by kernel_rfl)) 0 _ _ rfl rfl; clear hd hF; refine wpOp_step rfl (fun K' hK => ?_); go_simp; exact hK _ _ ⟨_, rfl, Below.refl _ _, cst_ok⟩
        apply RegW.val 14 rfl
        · intro a w' hF hB hd; have v13 : a.tmps[42]?.getD undef = _ := hd 13 (of_decide_eq_true (by kernel_rfl)) 0 _ _ rfl rfl; clear hd hF; refine wpOp_step rfl (fun K' hK => ?_); go_simp; exact hK _ _ ⟨_, rfl, Below.refl _ _, cst_ok⟩
        apply RegW.val 15 rfl
        · intro a w' hF hB hd; have v14 : a.tmps[43]?.getD undef = _ := hd 14 (of_decide_eq_true (by kernel_rfl)) 0 _ _ rfl rfl; have gd := tmp_bool v14; have e12 := hF.2.2 12 (by decide); simp at e12; clear hd hF; obtain ⟨x0, x1, x2, x3, x4, x5, x6, x7, x8, x9, x10⟩ := HT.out.held hB; refine wpOp_step rfl (fun K' hK => ?_); go_simp; exact hK _ _ ⟨_, rfl, Below.refl _ _, cst_ok⟩
        apply RegW.val 16 rfl
        · intro a w' hF hB hd; have v14 : a.tmps[43]?.getD undef = _ := hd 14 (of_decide_eq_true (by kernel_rfl)) 1 _ _ rfl rfl; have gd := tmp_bool v14; have e3 := hF.2.2 3 (by decide); simp at e3; clear hd hF; refine wpOp_step rfl (fun K' hK => ?_); go_simp; exact hK _ _ ⟨_, rfl, Below.refl _ _, cst_ok⟩
        apply RegW.val 17 rfl
        · intro a w' hF hB hd; have v14 : a.tmps[43]?.getD undef = _ := hd 14 (of_decide_eq_true (by kernel_rfl)) 2 _ _ rfl rfl; have v15 : a.tmps[44]?.getD undef = _ := hd 15 (of_decide_eq_true (by kernel_rfl)) 1 _ _ rfl rfl; have v16 : a.tmps[45]?.getD undef = _ := hd 16 (of_decide_eq_true (by kernel_rfl)) 0 _ _ rfl rfl; have gd := tmp_bool v14; clear hd hF; refine wpOp_step rfl (fun K' hK => ?_); go_simp; (first | exact hK _ _ ⟨_, rfl, Below.refl _ _, cst_ok⟩ | (with_reducible refine (has_v hx _).mono ?_; rintro e w1 ⟨rfl, hb⟩; exact hK _ _ ⟨_, rfl, hb, cst_ok⟩) | (with_reducible refine (has_v hy _).mono ?_; rintro e w1 ⟨rfl, hb⟩; exact hK _ _ ⟨_, rfl, hb, cst_ok⟩) | (with_reducible refine (has_v hmn _).mono ?_; rintro e w1 ⟨rfl, hb⟩; exact hK _ _ ⟨_, rfl, hb, cst_ok⟩) | (with_reducible refine (has_v hjn _).mono ?_; rintro e w1 ⟨rfl, hb⟩; exact hK _ _ ⟨_, rfl, hb, cst_ok⟩))
        apply RegW.val 18 rfl
        · intro a w' hF hB hd; have v14 : a.tmps[43]?.getD undef = _ := hd 14 (of_decide_eq_true (by kernel_rfl)) 3 _ _ rfl rfl; have gd := tmp_bool v14; have e5 := hF.2.2 5 (by decide); simp at e5; clear hd hF; obtain ⟨x0, x1, x2, x3, x4, x5, x6, x7, x8, x9, x10⟩ := HT.out.held hB; refine wpOp_step rfl (fun K' hK => ?_); go_simp; exact hK _ _ ⟨_, rfl, Below.refl _ _, cst_ok⟩
        apply RegW.val 19 rfl
        · intro a w' hF hB hd; have v14 : a.tmps[43]?.getD undef = _ := hd 14 (of_decide_eq_true (by kernel_rfl)) 4 _ _ rfl rfl; have gd := tmp_bool v14; have e3 := hF.2.2 3 (by decide); simp at e3; clear hd hF; refine wpOp_step rfl (fun K' hK => ?_); go_simp; exact hK _ _ ⟨_, rfl, Below.refl _ _, cst_ok⟩
        apply RegW.val 20 rfl
        · intro a w' hF hB hd; have v14 : a.tmps[43]?.getD undef = _ := hd 14 (of_decide_eq_true (by kernel_rfl)) 5 _ _ rfl rfl; have v18 : a.tmps[47]?.getD undef = _ := hd 18 (of_decide_eq_true (by kernel_rfl)) 1 _ _ rfl rfl; have v19 : a.tmps[48]?.getD undef = _ := hd 19 (of_decide_eq_true (by kernel_rfl)) 0 _ _ rfl rfl; have gd := tmp_bool v14; clear hd hF; refine wpOp_step rfl (fun K' hK => ?_); go_simp; (first | exact hK _ _ ⟨_, rfl, Below.refl _ _, cst_ok⟩ | (with_reducible refine (has_v hx _).mono ?_; rintro e w1 ⟨rfl, hb⟩; exact hK _ _ ⟨_, rfl, hb, cst_ok⟩) | (with_reducible refine (has_v hy _).mono ?_; rintro e w1 ⟨rfl, hb⟩; exact hK _ _ ⟨_, rfl, hb, cst_ok⟩) | (with_reducible refine (has_v hmn _).mono ?_; rintro e w1 ⟨rfl, hb⟩; exact hK _ _ ⟨_, rfl, hb, cst_ok⟩) | (with_reducible refine (has_v hjn _).mono ?_; rintro e w1 ⟨rfl, hb⟩; exact hK _ _ ⟨_, rfl, hb, cst_ok⟩))
        apply RegW.val 21 rfl
        · intro a w' hF hB hd; have v14 : a.tmps[43]?.getD undef = _ := hd 14 (of_decide_eq_true (by kernel_rfl)) 6 _ _ rfl rfl; have v20 : a.tmps[49]?.getD undef = _ := hd 20 (of_decide_eq_true (by kernel_rfl)) 0 _ _ rfl rfl; have gd := tmp_bool v14; clear hd hF; refine wpOp_step rfl (fun K' hK => ?_); go_simp; exact hK _ _ ⟨_, rfl, Below.refl _ _, cst_ok⟩
        apply RegW.val 22 rfl
        · intro a w' hF hB hd; have v21 : a.tmps[50]?.getD undef = _ := hd 21 (of_decide_eq_true (by kernel_rfl)) 0 _ _ rfl rfl; have gd := tmp_bool v21; have e6 := hF.2.2 6 (by decide); simp at e6; clear hd hF; obtain ⟨x0, x1, x2, x3, x4, x5, x6, x7, x8, x9, x10⟩ := HT.out.held hB; refine wpOp_step rfl (fun K' hK => ?_); go_simp; exact hK _ _ ⟨_, rfl, Below.refl _ _, cst_ok⟩
        apply RegW.val 23 rfl
        · intro a w' hF hB hd; have v21 : a.tmps[50]?.getD undef = _ := hd 21 (of_decide_eq_true (by kernel_rfl)) 1 _ _ rfl rfl; have gd := tmp_bool v21; have e3 := hF.2.2 3 (by decide); simp at e3; clear hd hF; refine wpOp_step rfl (fun K' hK => ?_); go_simp; exact hK _ _ ⟨_, rfl, Below.refl _ _, cst_ok⟩
        apply RegW.val 24 rfl
        · intro a w' hF hB hd; have v21 : a.tmps[50]?.getD undef = _ := hd 21 (of_decide_eq_true (by kernel_rfl)) 2 _ _ rfl rfl; have v22 : a.tmps[51]?.getD undef = _ := hd 22 (of_decide_eq_true (by kernel_rfl)) 1 _ _ rfl rfl; have v23 : a.tmps[52]?.getD undef = _ := hd 23 (of_decide_eq_true (by kernel_rfl)) 0 _ _ rfl rfl; have gd := tmp_bool v21; clear hd hF; refine wpOp_step rfl (fun K' hK => ?_); go_simp; (first | exact hK _ _ ⟨_, rfl, Below.refl _ _, cst_ok⟩ | (with_reducible refine (has_v hx _).mono ?_; rintro e w1 ⟨rfl, hb⟩; exact hK _ _ ⟨_, rfl, hb, cst_ok⟩) | (with_reducible refine (has_v hy _).mono ?_; rintro e w1 ⟨rfl, hb⟩; exact hK _ _ ⟨_, rfl, hb, cst_ok⟩) | (with_reducible refine (has_v hmn _).mono ?_; rintro e w1 ⟨rfl, hb⟩; exact hK _ _ ⟨_, rfl, hb, cst_ok⟩) | (with_reducible refine (has_v hjn _).mono ?_; rintro e w1 ⟨rfl, hb⟩; exact hK _ _ ⟨_, rfl, hb, cst_ok⟩))
        apply RegW.val 25 rfl
        · intro a w' hF hB hd; have v14 : a.tmps[43]?.getD undef = _ := hd 14 (of_decide_eq_true (by kernel_rfl)) 10 _ _ rfl rfl; have v21 : a.tmps[50]?.getD undef = _ := hd 21 (of_decide_eq_true (by kernel_rfl)) 3 _ _ rfl rfl; have v24 : a.tmps[53]?.getD undef = _ := hd 24 (of_decide_eq_true (by kernel_rfl)) 0 _ _ rfl rfl; have gd := tmp_bool v14; clear hd hF; refine wpOp_step rfl (fun K' hK => ?_); go_simp; exact hK _ _ ⟨_, rfl, Below.refl _ _, cst_ok⟩
        apply RegW.val 26 rfl
        · intro a w' hF hB hd; have v14 : a.tmps[43]?.getD undef = _ := hd 14 (of_decide_eq_true (by kernel_rfl)) 11 _ _ rfl rfl; have v17 : a.tmps[46]?.getD undef = _ := hd 17 (of_decide_eq_true (by kernel_rfl)) 8 _ _ rfl rfl; have v25 : a.tmps[54]?.getD undef = _ := hd 25 (of_decide_eq_true (by kernel_rfl)) 0 _ _ rfl rfl; have gd := tmp_bool v14; clear hd hF; refine wpOp_step rfl (fun K' hK => ?_); go_simp; exact hK _ _ ⟨_, rfl, Below.refl _ _, cst_ok⟩
        apply RegW.val 27 rfl
        · intro a w' hF hB hd; have v14 : a.tmps[43]?.getD undef = _ := hd 14 (of_decide_eq_true (by kernel_rfl)) 12 _ _ rfl rfl; have v26 : a.tmps[55]?.getD undef = _ := hd 26 (of_decide_eq_true (by kernel_rfl)) 0 _ _ rfl rfl; clear hd hF; refine wpOp_step rfl (fun K' hK => ?_); go_simp; exact hK _ _ ⟨_, rfl, Below.refl _ _, cst_ok⟩
        apply RegW.val 28 rfl
        · intro a w' hF hB hd; have v27 : a.tmps[56]?.getD undef = _ := hd 27 (of_decide_eq_true (by kernel_rfl)) 0 _ _ rfl rfl; clear hd hF; refine wpOp_step rfl (fun K' hK => ?_); go_simp; exact hK _ _ ⟨_, rfl, Below.refl _ _, cst_ok⟩
        apply RegW.val 29 rfl
        · intro a w' hF hB hd; have v28 : a.tmps[57]?.getD undef = _ := hd 28 (of_decide_eq_true (by kernel_rfl)) 0 _ _ rfl rfl; have gd := tmp_bool v28; have e11 := hF.2.2 11 (by decide); simp at e11; clear hd hF; obtain ⟨x0, x1, x2, x3, x4, x5, x6, x7, x8, x9, x10⟩ := HT.out.held hB; refine wpOp_step rfl (fun K' hK => ?_); go_simp; exact hK _ _ ⟨_, rfl, Below.refl _ _, cst_ok⟩
        apply RegW.val 30 rfl
        · intro a w' hF hB hd; have v28 : a.tmps[57]?.getD undef = _ := hd 28 (of_decide_eq_true (by kernel_rfl)) 1 _ _ rfl rfl; have gd := tmp_bool v28; have e6 := hF.2.2 6 (by decide); simp at e6; clear hd hF; obtain ⟨x0, x1, x2, x3, x4, x5, x6, x7, x8, x9, x10⟩ := HT.out.held hB; refine wpOp_step rfl (fun K' hK => ?_); go_simp; exact hK _ _ ⟨_, rfl, Below.refl _ _, cst_ok⟩
        apply RegW.val 31 rfl
        · intro a w' hF hB hd; have v28 : a.tmps[57]?.getD undef = _ := hd 28 (of_decide_eq_true (by kernel_rfl)) 2 _ _ rfl rfl; have gd := tmp_bool v28; have e5 := hF.2.2 5 (by decide); simp at e5; clear hd hF; obtain ⟨x0, x1, x2, x3, x4, x5, x6, x7, x8, x9, x10⟩ := HT.out.held hB; refine wpOp_step rfl (fun K' hK => ?_); go_simp; exact hK _ _ ⟨_, rfl, Below.refl _ _, cst_ok⟩
        apply RegW.two 32 rfl
        · intro a w' hF hB hd; have v28 : a.tmps[57]?.getD undef = _ := hd 28 (of_decide_eq_true (by kernel_rfl)) 3 _ _ rfl rfl; have v30 : a.tmps[59]?.getD undef = _ := hd 30 (of_decide_eq_true (by kernel_rfl)) 1 _ _ rfl rfl; have v31 : a.tmps[60]?.getD undef = _ := hd 31 (of_decide_eq_true (by kernel_rfl)) 0 _ _ rfl rfl; have gd := tmp_bool v28; clear hd hF; refine wpOp_step rfl (fun K' hK => ?_); go_simp; exact hK _ _ ⟨_, rfl, (Below.refl _ _).alloc (Nat.le_refl _) _, ⟨_, rfl, rd_two _ _ _ _ _⟩⟩
        apply RegW.val 33 rfl
        · intro a w' hF hB hd; have v28 : a.tmps[57]?.getD undef = _ := hd 28 (of_decide_eq_true (by kernel_rfl)) 4 _ _ rfl rfl; have u32 := hd 32 (of_decide_eq_true (by kernel_rfl)) 0 _ _ rfl rfl; obtain ⟨g32, p32, q⟩ := u32; have gd := tmp_bool v28; clear hd hF; refine wpOp_step rfl (fun K' hK => ?_); go_simp; (first | exact hK _ _ ⟨_, rfl, Below.refl _ _, cst_ok⟩ | (with_reducible refine (joinAB_c _ _ _ _ _ _ q).mono ?_; rintro e w1 ⟨rfl, hb⟩; exact hK _ _ ⟨_, rfl, hb, cst_ok⟩))
        apply RegW.val 34 rfl
        · intro a w' hF hB hd; have v28 : a.tmps[57]?.getD undef = _ := hd 28 (of_decide_eq_true (by kernel_rfl)) 5 _ _ rfl rfl; have v29 : a.tmps[58]?.getD undef = _ := hd 29 (of_decide_eq_true (by kernel_rfl)) 4 _ _ rfl rfl; have v33 : a.tmps[62]?.getD undef = _ := hd 33 (of_decide_eq_true (by kernel_rfl)) 0 _ _ rfl rfl; have gd := tmp_bool v28; clear hd hF; refine wpOp_step rfl (fun K' hK => ?_); go_simp; exact hK _ _ ⟨_, rfl, Below.refl _ _, cst_ok⟩
        apply RegW.val 35 rfl
        · intro a w' hF hB hd; have v28 : a.tmps[57]?.getD undef = _ := hd 28 (of_decide_eq_true (by kernel_rfl)) 6 _ _ rfl rfl; have v34 : a.tmps[63]?.getD undef = _ := hd 34 (of_decide_eq_true (by kernel_rfl)) 0 _ _ rfl rfl; clear hd hF; refine wpOp_step rfl (fun K' hK => ?_); go_simp; exact hK _ _ ⟨_, rfl, Below.refl _ _, cst_ok⟩
        apply RegW.val 36 rfl
        · intro a w' hF hB hd; have v35 : a.tmps[64]?.getD undef = _ := hd 35 (of_decide_eq_true (by kernel_rfl)) 0 _ _ rfl rfl; clear hd hF; refine wpOp_step rfl (fun K' hK => ?_); go_simp; exact hK _ _ ⟨_, rfl, Below.refl _ _, cst_ok⟩
        apply RegW.val 37 rfl
        · intro a w' hF hB hd; have v36 : a.tmps[65]?.getD undef = _ := hd 36 (of_decide_eq_true (by kernel_rfl)) 0 _ _ rfl rfl; have gd := tmp_bool v36; have e12 := hF.2.2 12 (by decide); simp at e12; clear hd hF; obtain ⟨x0, x1, x2, x3, x4, x5, x6, x7, x8, x9, x10⟩ := HT.out.held hB; refine wpOp_step rfl (fun K' hK => ?_); go_simp; exact hK _ _ ⟨_, rfl, Below.refl _ _, cst_ok⟩
        apply RegW.val 38 rfl
        · intro a w' hF hB hd; have v36 : a.tmps[65]?.getD undef = _ := hd 36 (of_decide_eq_true (by kernel_rfl)) 1 _ _ rfl rfl; have gd := tmp_bool v36; have e6 := hF.2.2 6 (by decide); simp at e6; clear hd hF; obtain ⟨x0, x1, x2, x3, x4, x5, x6, x7, x8, x9, x10⟩ := HT.out.held hB; refine wpOp_step rfl (fun K' hK => ?_); go_simp; exact hK _ _ ⟨_, rfl, Below.refl _ _, cst_ok⟩
        apply RegW.val 39 rfl
        · intro a w' hF hB hd; have v36 : a.tmps[65]?.getD undef = _ := hd 36 (of_decide_eq_true (by kernel_rfl)) 2 _ _ rfl rfl; have gd := tmp_bool v36; have e5 := hF.2.2 5 (by decide); simp at e5; clear hd hF; obtain ⟨x0, x1, x2, x3, x4, x5, x6, x7, x8, x9, x10⟩ := HT.out.held hB; refine wpOp_step rfl (fun K' hK => ?_); go_simp; exact hK _ _ ⟨_, rfl, Below.refl _ _, cst_ok⟩
        apply RegW.two 40 rfl
        · intro a w' hF hB hd; have v36 : a.tmps[65]?.getD undef = _ := hd 36 (of_decide_eq_true (by kernel_rfl)) 3 _ _ rfl rfl; have v38 : a.tmps[67]?.getD undef = _ := hd 38 (of_decide_eq_true (by kernel_rfl)) 1 _ _ rfl rfl; have v39 : a.tmps[68]?.getD undef = _ := hd 39 (of_decide_eq_true (by kernel_rfl)) 0 _ _ rfl rfl; have gd := tmp_bool v36; clear hd hF; refine wpOp_step rfl (fun K' hK => ?_); go_simp; exact hK _ _ ⟨_, rfl, (Below.refl _ _).alloc (Nat.le_refl _) _, ⟨_, rfl, rd_two _ _ _ _ _⟩⟩
        apply RegW.val 41 rfl
        · intro a w' hF hB hd; have v36 : a.tmps[65]?.getD undef = _ := hd 36 (of_decide_eq_true (by kernel_rfl)) 4 _ _ rfl rfl; have u40 := hd 40 (of_decide_eq_true (by kernel_rfl)) 0 _ _ rfl rfl; obtain ⟨g40, p40, q⟩ := u40; have gd := tmp_bool v36; clear hd hF; refine wpOp_step rfl (fun K' hK => ?_); go_simp; (first | exact hK _ _ ⟨_, rfl, Below.refl _ _, cst_ok⟩ | (with_reducible refine (meetAB_c _ _ _ _ _ _ q (by first | exact HA.out | exact HB.out | exact HM.out)).mono ?_; rintro e w1 ⟨rfl, hb⟩; exact hK _ _ ⟨_, rfl, hb, cst_ok⟩))
        apply RegW.val 42 rfl
        · intro a w' hF hB hd; have v36 : a.tmps[65]?.getD undef = _ := hd 36 (of_decide_eq_true (by kernel_rfl)) 5 _ _ rfl rfl; have v37 : a.tmps[66]?.getD undef = _ := hd 37 (of_decide_eq_true (by kernel_rfl)) 4 _ _ rfl rfl; have v41 : a.tmps[70]?.getD undef = _ := hd 41 (of_decide_eq_true (by kernel_rfl)) 0 _ _ rfl rfl; have gd := tmp_bool v36; clear hd hF; refine wpOp_step rfl (fun K' hK => ?_); go_simp; exact hK _ _ ⟨_, rfl, Below.refl _ _, cst_ok⟩
        apply RegW.val 43 rfl
        · intro a w' hF hB hd; have v36 : a.tmps[65]?.getD undef = _ := hd 36 (of_decide_eq_true (by kernel_rfl)) 6 _ _ rfl rfl; have v42 : a.tmps[71]?.getD undef = _ := hd 42 (of_decide_eq_true (by kernel_rfl)) 0 _ _ rfl rfl; clear hd hF; refine wpOp_step rfl (fun K' hK => ?_); go_simp; exact hK _ _ ⟨_, rfl, Below.refl _ _, cst_ok⟩
        refine RegW.done (fun a w' hF hB hv => ?_)
        have v0 : a.tmps[29]?.getD undef = _ := hv 43 _ _ rfl
        have v1 : a.tmps[30]?.getD undef = _ := hv 42 _ _ rfl
        have v2 : a.tmps[31]?.getD undef = _ := hv 41 _ _ rfl
        have v3 : a.tmps[32]?.getD undef = _ := hv 40 _ _ rfl
        have v4 : a.tmps[33]?.getD undef = _ := hv 39 _ _ rfl
        have v5 : a.tmps[34]?.getD undef = _ := hv 38 _ _ rfl
        have v6 : a.tmps[35]?.getD undef = _ := hv 37 _ _ rfl
        have v7 : a.tmps[36]?.getD undef = _ := hv 36 _ _ rfl
        have v8 : a.tmps[37]?.getD undef = _ := hv 35 _ _ rfl
        have v9 : a.tmps[38]?.getD undef = _ := hv 34 _ _ rfl
        have v10 : a.tmps[39]?.getD undef = _ := hv 33 _ _ rfl
        have v11 : a.tmps[40]?.getD undef = _ := hv 32 _ _ rfl
        have v12 : a.tmps[41]?.getD undef = _ := hv 31 _ _ rfl
        have v13 : a.tmps[42]?.getD undef = _ := hv 30 _ _ rfl
        have v14 : a.tmps[43]?.getD undef = _ := hv 29 _ _ rfl
        have v15 : a.tmps[44]?.getD undef = _ := hv 28 _ _ rfl
        have v16 : a.tmps[45]?.getD undef = _ := hv 27 _ _ rfl
        have v17 : a.tmps[46]?.getD undef = _ := hv 26 _ _ rfl
        have v18 : a.tmps[47]?.getD undef = _ := hv 25 _ _ rfl
        have v19 : a.tmps[48]?.getD undef = _ := hv 24 _ _ rfl
        have v20 : a.tmps[49]?.getD undef = _ := hv 23 _ _ rfl
        have v21 : a.tmps[50]?.getD undef = _ := hv 22 _ _ rfl
        have v22 : a.tmps[51]?.getD undef = _ := hv 21 _ _ rfl
        have v23 : a.tmps[52]?.getD undef = _ := hv 20 _ _ rfl
        have v24 : a.tmps[53]?.getD undef = _ := hv 19 _ _ rfl
        have v25 : a.tmps[54]?.getD undef = _ := hv 18 _ _ rfl
        have v26 : a.tmps[55]?.getD undef = _ := hv 17 _ _ rfl
        have v27 : a.tmps[56]?.getD undef = _ := hv 16 _ _ rfl
        have v28 : a.tmps[57]?.getD undef = _ := hv 15 _ _ rfl
        have v29 : a.tmps[58]?.getD undef = _ := hv 14 _ _ rfl
        have v30 : a.tmps[59]?.getD undef = _ := hv 13 _ _ rfl
        have v31 : a.tmps[60]?.getD undef = _ := hv 12 _ _ rfl
        have u32 := hv 11 _ _ rfl
        have v33 : a.tmps[62]?.getD undef = _ := hv 10 _ _ rfl
        have v34 : a.tmps[63]?.getD undef = _ := hv 9 _ _ rfl
        have v35 : a.tmps[64]?.getD undef = _ := hv 8 _ _ rfl
        have v36 : a.tmps[65]?.getD undef = _ := hv 7 _ _ rfl
        have v37 : a.tmps[66]?.getD undef = _ := hv 6 _ _ rfl
        have v38 : a.tmps[67]?.getD undef = _ := hv 5 _ _ rfl
        have v39 : a.tmps[68]?.getD undef = _ := hv 4 _ _ rfl
        have u40 := hv 3 _ _ rfl
        have v41 : a.tmps[70]?.getD undef = _ := hv 2 _ _ rfl
        have v42 : a.tmps[71]?.getD undef = _ := hv 1 _ _ rfl
        have v43 : a.tmps[72]?.getD undef = _ := hv 0 _ _ rfl
        have hE := hF.out
        rw [hE]
        clear hE hF hv
        simp only [List.foldl_cons, List.foldl_nil, Act.put, List.setIfInBounds_toArray, List.set_cons_zero, List.set_cons_succ, Array.getD_eq_getD_getElem?, v0, v1, v2, v3, v4, v5, v6, v7, v8, v9, v10, v11, v12, v13, v14, v15, v16, v17, v18, v19, v20, v21, v22, v23, v24, v25, v26, v27, v28, v29, v30, v31, v33, v34, v35, v36, v37, v38, v39, v41, v42, v43]
        clear v0 v1 v2 v3 v4 v5 v6 v7 v8 v9 v10 v11 v12 v13 v14 v15 v16 v17 v18 v19 v20 v21 v22 v23 v24 v25 v26 v27 v28 v29 v30 v31 v33 v34 v35 v36 v37 v38 v39 v41 v42 v43
        have hE0 := hB
        clear hB
        go_wp2_with fail
        go_meet
        exact ⟨rfl, HT.out.step hE0⟩
      · have hmn : hasB (mlo a1 a2 b1 b2) (mhi a1 a2 b1 b2) n = true := by rw [has_meet, hx, hy]; rfl
        have hjn := has_join (a := a1) (b := a2) (c := b1) (d := b2) (n := n) (.inl hx)
        refine wp_region_walk [0, 1, 2, 3, 4, 5, 6, 7, 8, 9, 10, 11, 12, 13, 14, 15, 16, 17, 18, 19, 20, 21, 22, 23, 24, 25, 26, 27, 28, 29, 30, 31, 32, 33, 34, 35, 36, 37, 38, 39, 40, 41, 42, 43] [29, 30, 31, 32, 33, 34, 35, 36, 37, 38, 39, 40, 41, 42, 43, 44, 45, 46, 47, 48, 49, 50, 51, 52, 53, 54, 55, 56, 57, 58, 59, 60, 61, 62, 63, 64, 65, 66, 67, 68, 69, 70, 71, 72] 0 (by kernel_rfl) (by kernel_rfl) (by kernel_rfl) rfl (by simp) (by kernel_rfl) (by kernel_rfl) ?_
        apply RegW.val 0 rfl
        · intro a w' hF hB hd; have e5 := hF.2.2 5 (by decide); simp at e5; clear hd hF; obtain ⟨x0, x1, x2, x3, x4, x5, x6, x7, x8, x9, x10⟩ := HT.out.held hB; refine wpOp_step rfl (fun K' hK => ?_); go_simp; exact hK _ _ ⟨_, rfl, Below.refl _ _, cst_ok⟩
        apply RegW.val 1 rfl
        · intro a w' hF hB hd; have e3 := hF.2.2 3 (by decide); simp at e3; clear hd hF; refine wpOp_step rfl (fun K' hK => ?_); go_simp; exact hK _ _ ⟨_, rfl, Below.refl _ _, cst_ok⟩
        apply RegW.val 2 rfl
        · intro a w' hF hB hd; have v0 : a.tmps[29]?.getD undef = _ := hd 0 (of_decide_eq_true (by kernel_rfl)) 1 _ _ rfl rfl; have v1 : a.tmps[30]?.getD undef = _ := hd 1 (of_decide_eq_true (by kernel_rfl)) 0 _ _ rfl rfl; clear hd hF; refine wpOp_step rfl (fun K' hK => ?_); go_simp; (first | (with_reducible refine (has_v hx _).mono ?_; rintro e w1 ⟨rfl, hb⟩; exact hK _ _ ⟨_, rfl, hb, cst_ok⟩) | (with_reducible refine (has_v hy _).mono ?_; rintro e w1 ⟨rfl, hb⟩; exact hK _ _ ⟨_, rfl, hb, cst_ok⟩) | (with_reducible refine (has_v hmn _).mono ?_; rintro e w1 ⟨rfl, hb⟩; exact hK _ _ ⟨_, rfl, hb, cst_ok⟩) | (with_reducible refine (has_v hjn _).mono ?_; rintro e w1 ⟨rfl, hb⟩; exact hK _ _ ⟨_, rfl, hb, cst_ok⟩))
        apply RegW.val 3 rfl
        · intro a w' hF hB hd; have v2 : a.tmps[31]?.getD undef = _ := hd 2 (of_decide_eq_true (by kernel_rfl)) 0 _ _ rfl rfl; clear hd hF; refine wpOp_step rfl (fun K' hK => ?_); go_simp; exact hK _ _ ⟨_, rfl, Below.refl _ _, cst_ok⟩
        apply RegW.val 4 rfl
        · intro a w' hF hB hd; have v3 : a.tmps[32]?.getD undef = _ := hd 3 (of_decide_eq_true (by kernel_rfl)) 0 _ _ rfl rfl; have gd := tmp_bool v3; have e6 := hF.2.2 6 (by decide); simp at e6; clear hd hF; obtain ⟨x0, x1, x2, x3, x4, x5, x6, x7, x8, x9, x10⟩ := HT.out.held hB; refine wpOp_step rfl (fun K' hK => ?_); go_simp; exact hK _ _ ⟨_, rfl, Below.refl _ _, cst_ok⟩
        apply RegW.val 5 rfl
        · intro a w' hF hB hd; have v3 : a.tmps[32]?.getD undef = _ := hd 3 (of_decide_eq_true (by kernel_rfl)) 1 _ _ rfl rfl; have gd := tmp_bool v3; have e3 := hF.2.2 3 (by decide); simp at e3; clear hd hF; refine wpOp_step rfl (fun K' hK => ?_); go_simp; exact hK _ _ ⟨_, rfl, Below.refl _ _, cst_ok⟩
        apply RegW.val 6 rfl
        · intro a w' hF hB hd; have v3 : a.tmps[32]?.getD undef = _ := hd 3 (of_decide_eq_true (by kernel_rfl)) 2 _ _ rfl rfl; have v4 : a.tmps[33]?.getD undef = _ := hd 4 (of_decide_eq_true (by kernel_rfl)) 1 _ _ rfl rfl; have v5 : a.tmps[34]?.getD undef = _ := hd 5 (of_decide_eq_true (by kernel_rfl)) 0 _ _ rfl rfl; have gd := tmp_bool v3; clear hd hF; refine wpOp_step rfl (fun K' hK => ?_); go_simp; (first | exact hK _ _ ⟨_, rfl, Below.refl _ _, cst_ok⟩ | (with_reducible refine (has_v hx _).mono ?_; rintro e w1 ⟨rfl, hb⟩; exact hK _ _ ⟨_, rfl, hb, cst_ok⟩) | (with_reducible refine (has_v hy _).mono ?_; rintro e w1 ⟨rfl, hb⟩; exact hK _ _ ⟨_, rfl, hb, cst_ok⟩) | (with_reducible refine (has_v hmn _).mono ?_; rintro e w1 ⟨rfl, hb⟩; exact hK _ _ ⟨_, rfl, hb, cst_ok⟩) | (with_reducible refine (has_v hjn _).mono ?_; rintro e w1 ⟨rfl, hb⟩; exact hK _ _ ⟨_, rfl, hb, cst_ok⟩))
        apply RegW.val 7 rfl
        · intro a w' hF hB hd; have v3 : a.tmps[32]?.getD undef = _ := hd 3 (of_decide_eq_true (by kernel_rfl)) 3 _ _ rfl rfl; have v6 : a.tmps[35]?.getD undef = _ := hd 6 (of_decide_eq_true (by kernel_rfl)) 0 _ _ rfl rfl; clear hd hF; refine wpOp_step rfl (fun K' hK => ?_); go_simp; exact hK _ _ ⟨_, rfl, Below.refl _ _, cst_ok⟩
        apply RegW.val 8 rfl
        · intro a w' hF hB hd; have v7 : a.tmps[36]?.getD undef = _ := hd 7 (of_decide_eq_true (by kernel_rfl)) 0 _ _ rfl rfl; clear hd hF; refine wpOp_step rfl (fun K' hK => ?_); go_simp; exact hK _ _ ⟨_, rfl, Below.refl _ _, cst_ok⟩
        apply RegW.val 9 rfl
        · intro a w' hF hB hd; have v8 : a.tmps[37]?.getD undef = _ := hd 8 (of_decide_eq_true (by kernel_rfl)) 0 _ _ rfl rfl; have gd := tmp_bool v8; have e11 := hF.2.2 11 (by decide); simp at e11; clear hd hF; obtain ⟨x0, x1, x2, x3, x4, x5, x6, x7, x8, x9, x10⟩ := HT.out.held hB; refine wpOp_step rfl (fun K' hK => ?_); go_simp; exact hK _ _ ⟨_, rfl, Below.refl _ _, cst_ok⟩
        apply RegW.val 10 rfl
        · intro a w' hF hB hd; have v8 : a.tmps[37]?.getD undef = _ := hd 8 (of_decide_eq_true (by kernel_rfl)) 1 _ _ rfl rfl; have gd := tmp_bool v8; have e3 := hF.2.2 3 (by decide); simp at e3; clear hd hF; refine wpOp_step rfl (fun K' hK => ?_); go_simp; exact hK _ _ ⟨_, rfl, Below.refl _ _, cst_ok⟩
        apply RegW.val 11 rfl
        · intro a w' hF hB hd; have v8 : a.tmps[37]?.getD undef = _ := hd 8 (of_decide_eq_true (by kernel_rfl)) 2 _ _ rfl rfl; have v9 : a.tmps[38]?.getD undef = _ := hd 9 (of_decide_eq_true (by kernel_rfl)) 1 _ _ rfl rfl; have v10 : a.tmps[39]?.getD undef = _ := hd 10 (of_decide_eq_true (by kernel_rfl)) 0 _ _ rfl rfl; have gd := tmp_bool v8; clear hd hF; refine wpOp_step rfl (fun K' hK => ?_); go_simp; (first | exact hK _ _ ⟨_, rfl, Below.refl _ _, cst_ok⟩ | (with_reducible refine (has_v hx _).mono ?_; rintro e w1 ⟨rfl, hb⟩; exact hK _ _ ⟨_, rfl, hb, cst_ok⟩) | (with_reducible refine (has_v hy _).mono ?_; rintro e w1 ⟨rfl, hb⟩; exact hK _ _ ⟨_, rfl, hb, cst_ok⟩) | (with_reducible refine (has_v hmn _).mono ?_; rintro e w1 ⟨rfl, hb⟩; exact hK _ _ ⟨_, rfl, hb, cst_ok⟩) | (with_reducible refine (has_v hjn _).mono ?_; rintro e w1 ⟨rfl, hb⟩; exact hK _ _ ⟨_, rfl, hb, cst_ok⟩))
        apply RegW.val 12 rfl
        · intro a w' hF hB hd; have v8 : a.tmps[37]?.getD undef = _ := hd 8 (of_decide_eq_true (by kernel_rfl)) 3 _ _ rfl rfl; have v11 : a.tmps[40]?.getD undef = _ := hd 11 (of_decide_eq_true (by kernel_rfl)) 0 _ _ rfl rfl; have gd := tmp_bool v8; clear hd hF; refine wpOp_step rfl (fun K' hK => ?_); go_simp; exact hK _ _ ⟨_, rfl, Below.refl _ _, cst_ok⟩
        apply RegW.val 13 rfl
        · intro a w' hF hB hd; have v8 : a.tmps[37]?.getD undef = _ := hd 8 (of_decide_eq_true (by kernel_rfl)) 4 _ _ rfl rfl; have v12 : a.tmps[41]?.getD undef = _ := hd 12 (of_decide_eq_true (by kernel_rfl)) 0 _ _ rfl rfl; clear hd hF; refine wpOp_step rfl (fun K' hK => ?_); go_simp; exact hK _ _ ⟨_, rfl, Below.refl _ _, cst_ok⟩
        apply RegW.val 14 rfl
        · intro a w' hF hB hd; have v13 : a.tmps[42]?.getD undef = _ := hd 13 (of_decide_eq_true (by kernel_rfl)) 0 _ _ rfl rfl; clear hd hF; refine wpOp_step rfl (fun K' hK => ?_); go_simp; exact hK _ _ ⟨_, rfl, Below.refl _ _, cst_ok⟩
        apply RegW.val 15 rfl
        · intro a w' hF hB hd; have v14 : a.tmps[43]?.getD undef = _ := hd 14 (of_decide_eq_true (by kernel_rfl)) 0 _ _ rfl rfl; have gd := tmp_bool v14; have e12 := hF.2.2 12 (by decide); simp at e12; clear hd hF; obtain ⟨x0, x1, x2, x3, x4, x5, x6, x7, x8, x9, x10⟩ := HT.out.held hB; refine wpOp_step rfl (fun K' hK => ?_); go_simp; exact hK _ _ ⟨_, rfl, Below.refl _ _, cst_ok⟩
        apply RegW.val 16 rfl
        · intro a w' hF hB hd; have v14 : a.tmps[43]?.getD undef = _ := hd 14 (of_decide_eq_true (by kernel_rfl)) 1 _ _ rfl rfl; have gd := tmp_bool v14; have e3 := hF.2.2 3 (by decide); simp at e3; clear hd hF; refine wpOp_step rfl (fun K' hK => ?_); go_simp; exact hK _ _ ⟨_, rfl, Below.refl _ _, cst_ok⟩
        apply RegW.val 17 rfl
        · intro a w' hF hB hd; have v14 : a.tmps[43]?.getD undef = _ := hd 14 (of_decide_eq_true (by kernel_rfl)) 2 _ _ rfl rfl; have v15 : a.tmps[44]?.getD undef = _ := hd 15 (of_decide_eq_true (by kernel_rfl)) 1 _ _ rfl rfl; have v16 : a.tmps[45]?.getD undef = _ := hd 16 (of_decide_eq_true (by kernel_rfl)) 0 _ _ rfl rfl; have gd := tmp_bool v14; clear hd hF; refine wpOp_step rfl (fun K' hK => ?_); go_simp; (first | exact hK _ _ ⟨_, rfl, Below.refl _ _, cst_ok⟩ | (with_reducible refine (has_v hx _).mono ?_; rintro e w1 ⟨rfl, hb⟩; exact hK _ _ ⟨_, rfl, hb, cst_ok⟩) | (with_reducible refine (has_v hy _).mono ?_; rintro e w1 ⟨rfl, hb⟩; exact hK _ _ ⟨_, rfl, hb, cst_ok⟩) | (with_reducible refine (has_v hmn _).mono ?_; rintro e w1 ⟨rfl, hb⟩; exact hK _ _ ⟨_, rfl, hb, cst_ok⟩) | (with_reducible refine (has_v hjn _).mono ?_; rintro e w1 ⟨rfl, hb⟩; exact hK _ _ ⟨_, rfl, hb, cst_ok⟩))
        apply RegW.val 18 rfl
        · intro a w' hF hB hd; have v14 : a.tmps[43]?.getD undef = _ := hd 14 (of_decide_eq_true (by kernel_rfl)) 3 _ _ rfl rfl; have gd := tmp_bool v14; have e5 := hF.2.2 5 (by decide); simp at e5; clear hd hF; obtain ⟨x0, x1, x2, x3, x4, x5, x6, x7, x8, x9, x10⟩ := HT.out.held hB; refine wpOp_step rfl (fun K' hK => ?_); go_simp; exact hK _ _ ⟨_, rfl, Below.refl _ _, cst_ok⟩
        apply RegW.val 19 rfl
        · intro a w' hF hB hd; have v14 : a.tmps[43]?.getD undef = _ := hd 14 (of_decide_eq_true (by kernel_rfl)) 4 _ _ rfl rfl; have gd := tmp_bool v14; have e3 := hF.2.2 3 (by decide); simp at e3; clear hd hF; refine wpOp_step rfl (fun K' hK => ?_); go_simp; exact hK _ _ ⟨_, rfl, Below.refl _ _, cst_ok⟩
        apply RegW.val 20 rfl
        · intro a w' hF hB hd; have v14 : a.tmps[43]?.getD undef = _ := hd 14 (of_decide_eq_true (by kernel_rfl)) 5 _ _ rfl rfl; have v18 : a.tmps[47]?.getD undef = _ := hd 18 (of_decide_eq_true (by kernel_rfl)) 1 _ _ rfl rfl; have v19 : a.tmps[48]?.getD undef = _ := hd 19 (of_decide_eq_true (by kernel_rfl)) 0 _ _ rfl rfl; have gd := tmp_bool v14; clear hd hF; refine wpOp_step rfl (fun K' hK => ?_); go_simp; (first | exact hK _ _ ⟨_, rfl, Below.refl _ _, cst_ok⟩ | (with_reducible refine (has_v hx _).mono ?_; rintro e w1 ⟨rfl, hb⟩; exact hK _ _ ⟨_, rfl, hb, cst_ok⟩) | (with_reducible refine (has_v hy _).mono ?_; rintro e w1 ⟨rfl, hb⟩; exact hK _ _ ⟨_, rfl, hb, cst_ok⟩) | (with_reducible refine (has_v hmn _).mono ?_; rintro e w1 ⟨rfl, hb⟩; exact hK _ _ ⟨_, rfl, hb, cst_ok⟩) | (with_reducible refine (has_v hjn _).mono ?_; rintro e w1 ⟨rfl, hb⟩; exact hK _ _ ⟨_, rfl, hb, cst_ok⟩))
        apply RegW.val 21 rfl
        · intro a w' hF hB hd; have v14 : a.tmps[43]?.getD undef = _ := hd 14 (of_decide_eq_true (by kernel_rfl)) 6 _ _ rfl rfl; have v20 : a.tmps[49]?.getD undef = _ := hd 20 (of_decide_eq_true (by kernel_rfl)) 0 _ _ rfl rfl; have gd := tmp_bool v14; clear hd hF; refine wpOp_step rfl (fun K' hK => ?_); go_simp; exact hK _ _ ⟨_, rfl, Below.refl _ _, cst_ok⟩
        apply RegW.val 22 rfl
        · intro a w' hF hB hd; have v21 : a.tmps[50]?.getD undef = _ := hd 21 (of_decide_eq_true (by kernel_rfl)) 0 _ _ rfl rfl; have gd := tmp_bool v21; have e6 := hF.2.2 6 (by decide); simp at e6; clear hd hF; obtain ⟨x0, x1, x2, x3, x4, x5, x6, x7, x8, x9, x10⟩ := HT.out.held hB; refine wpOp_step rfl (fun K' hK => ?_); go_simp; exact hK _ _ ⟨_, rfl, Below.refl _ _, cst_ok⟩
        apply RegW.val 23 rfl
        · intro a w' hF hB hd; have v21 : a.tmps[50]?.getD undef = _ := hd 21 (of_decide_eq_true (by kernel_rfl)) 1 _ _ rfl rfl; have gd := tmp_bool v21; have e3 := hF.2.2 3 (by decide); simp at e3; clear hd hF; refine wpOp_step rfl (fun K' hK => ?_); go_simp; exact hK _ _ ⟨_, rfl, Below.refl _ _, cst_ok⟩
        apply RegW.val 24 rfl
        · intro a w' hF hB hd; have v21 : a.tmps[50]?.getD undef = _ := hd 21 (of_decide_eq_true (by kernel_rfl)) 2 _ _ rfl rfl; have v22 : a.tmps[51]?.getD undef = _ := hd 22 (of_decide_eq_true (by kernel_rfl)) 1 _ _ rfl rfl; have v23 : a.tmps[52]?.getD undef = _ := hd 23 (of_decide_eq_true (by kernel_rfl)) 0 _ _ rfl rfl; have gd := tmp_bool v21; clear hd hF; refine wpOp_step rfl (fun K' hK => ?_); go_simp; (first | exact hK _ _ ⟨_, rfl, Below.refl _ _, cst_ok⟩ | (with_reducible refine (has_v hx _).mono ?_; rintro e w1 ⟨rfl, hb⟩; exact hK _ _ ⟨_, rfl, hb, cst_ok⟩) | (with_reducible refine (has_v hy _).mono ?_; rintro e w1 ⟨rfl, hb⟩; exact hK _ _ ⟨_, rfl, hb, cst_ok⟩) | (with_reducible refine (has_v hmn _).mono ?_; rintro e w1 ⟨rfl, hb⟩; exact hK _ _ ⟨_, rfl, hb, cst_ok⟩) | (with_reducible refine (has_v hjn _).mono ?_; rintro e w1 ⟨rfl, hb⟩; exact hK _ _ ⟨_, rfl, hb, cst_ok⟩))
        apply RegW.val 25 rfl
        · intro a w' hF hB hd; have v14 : a.tmps[43]?.getD undef = _ := hd 14 (of_decide_eq_true (by kernel_rfl)) 10 _ _ rfl rfl; have v21 : a.tmps[50]?.getD undef = _ := hd 21 (of_decide_eq_true (by kernel_rfl)) 3 _ _ rfl rfl; have v24 : a.tmps[53]?.getD undef = _ := hd 24 (of_decide_eq_true (by kernel_rfl)) 0 _ _ rfl rfl; have gd := tmp_bool v14; clear hd hF; refine wpOp_step rfl (fun K' hK => ?_); go_simp; exact hK _ _ ⟨_, rfl, Below.refl _ _, cst_ok⟩
        apply RegW.val 26 rfl
        · intro a w' hF hB hd; have v14 : a.tmps[43]?.getD undef = _ := hd 14 (of_decide_eq_true (by kernel_rfl)) 11 _ _ rfl rfl; have v17 : a.tmps[46]?.getD undef = _ := hd 17 (of_decide_eq_true (by kernel_rfl)) 8 _ _ rfl rfl; have v25 : a.tmps[54]?.getD undef = _ := hd 25 (of_decide_eq_true (by kernel_rfl)) 0 _ _ rfl rfl; have gd := tmp_bool v14; clear hd hF; refine wpOp_step rfl (fun K' hK => ?_); go_simp; exact hK _ _ ⟨_, rfl, Below.refl _ _, cst_ok⟩
        apply RegW.val 27 rfl
        · intro a w' hF hB hd; have v14 : a.tmps[43]?.getD undef = _ := hd 14 (of_decide_eq_true (by kernel_rfl)) 12 _ _ rfl rfl; have v26 : a.tmps[55]?.getD undef = _ := hd 26 (of_decide_eq_true (by kernel_rfl)) 0 _ _ rfl rfl; clear hd hF; refine wpOp_step rfl (fun K' hK => ?_); go_simp; exact hK _ _ ⟨_, rfl, Below.refl _ _, cst_ok⟩
        apply RegW.val 28 rfl
        · intro a w' hF hB hd; have v27 : a.tmps[56]?.getD undef = _ := hd 27 (of_decide_eq_true (by kernel_rfl)) 0 _ _ rfl rfl; clear hd hF; refine wpOp_step rfl (fun K' hK => ?_); go_simp; exact hK _ _ ⟨_, rfl, Below.refl _ _, cst_ok⟩
        apply RegW.val 29 rfl
        · intro a w' hF hB hd; have v28 : a.tmps[57]?.getD undef = _ := hd 28 (of_decide_eq_true (by kernel_rfl)) 0 _ _ rfl rfl; have gd := tmp_bool v28; have e11 := hF.2.2 11 (by decide); simp at e11; clear hd hF; obtain ⟨x0, x1, x2, x3, x4, x5, x6, x7, x8, x9, x10⟩ := HT.out.held hB; refine wpOp_step rfl (fun K' hK => ?_); go_simp; exact hK _ _ ⟨_, rfl, Below.refl _ _, cst_ok⟩
        apply RegW.val 30 rfl
        · intro a w' hF hB hd; have v28 : a.tmps[57]?.getD undef = _ := hd 28 (of_decide_eq_true (by kernel_rfl)) 1 _ _ rfl rfl; have gd := tmp_bool v28; have e6 := hF.2.2 6 (by decide); simp at e6; clear hd hF; obtain ⟨x0, x1, x2, x3, x4, x5, x6, x7, x8, x9, x10⟩ := HT.out.held hB; refine wpOp_step rfl (fun K' hK => ?_); go_simp; exact hK _ _ ⟨_, rfl, Below.refl _ _, cst_ok⟩
        apply RegW.val 31 rfl
        · intro a w' hF hB hd; have v28 : a.tmps[57]?.getD undef = _ := hd 28 (of_decide_eq_true (by kernel_rfl)) 2 _ _ rfl rfl; have gd := tmp_bool v28; have e5 := hF.2.2 5 (by decide); simp at e5; clear hd hF; obtain ⟨x0, x1, x2, x3, x4, x5, x6, x7, x8, x9, x10⟩ := HT.out.held hB; refine wpOp_step rfl (fun K' hK => ?_); go_simp; exact hK _ _ ⟨_, rfl, Below.refl _ _, cst_ok⟩
        apply RegW.two 32 rfl
        · intro a w' hF hB hd; have v28 : a.tmps[57]?.getD undef = _ := hd 28 (of_decide_eq_true (by kernel_rfl)) 3 _ _ rfl rfl; have v30 : a.tmps[59]?.getD undef = _ := hd 30 (of_decide_eq_true (by kernel_rfl)) 1 _ _ rfl rfl; have v31 : a.tmps[60]?.getD undef = _ := hd 31 (of_decide_eq_true (by kernel_rfl)) 0 _ _ rfl rfl; have gd := tmp_bool v28; clear hd hF; refine wpOp_step rfl (fun K' hK => ?_); go_simp; exact hK _ _ ⟨_, rfl, (Below.refl _ _).alloc (Nat.le_refl _) _, ⟨_, rfl, rd_two _ _ _ _ _⟩⟩
        apply RegW.val 33 rfl
        · intro a w' hF hB hd; have v28 : a.tmps[57]?.getD undef = _ := hd 28 (of_decide_eq_true (by kernel_rfl)) 4 _ _ rfl rfl; have u32 := hd 32 (of_decide_eq_true (by kernel_rfl)) 0 _ _ rfl rfl; obtain ⟨g32, p32, q⟩ := u32; have gd := tmp_bool v28; clear hd hF; refine wpOp_step rfl (fun K' hK => ?_); go_simp; (first | exact hK _ _ ⟨_, rfl, Below.refl _ _, cst_ok⟩ | (with_reducible refine (joinAB_c _ _ _ _ _ _ q).mono ?_; rintro e w1 ⟨rfl, hb⟩; exact hK _ _ ⟨_, rfl, hb, cst_ok⟩))
        apply RegW.val 34 rfl
        · intro a w' hF hB hd; have v28 : a.tmps[57]?.getD undef = _ := hd 28 (of_decide_eq_true (by kernel_rfl)) 5 _ _ rfl rfl; have v29 : a.tmps[58]?.getD undef = _ := hd 29 (of_decide_eq_true (by kernel_rfl)) 4 _ _ rfl rfl; have v33 : a.tmps[62]?.getD undef = _ := hd 33 (of_decide_eq_true (by kernel_rfl)) 0 _ _ rfl rfl; have gd := tmp_bool v28; clear hd hF; refine wpOp_step rfl (fun K' hK => ?_); go_simp; exact hK _ _ ⟨_, rfl, Below.refl _ _, cst_ok⟩
        apply RegW.val 35 rfl
        · intro a w' hF hB hd; have v28 : a.tmps[57]?.getD undef = _ := hd 28 (of_decide_eq_true (by kernel_rfl)) 6 _ _ rfl rfl; have v34 : a.tmps[63]?.getD undef = _ := hd 34 (of_decide_eq_true (by kernel_rfl)) 0 _ _ rfl rfl; clear hd hF; refine wpOp_step rfl (fun K' hK => ?_); go_simp; exact hK _ _ ⟨_, rfl, Below.refl _ _, cst_ok⟩
        apply RegW.val 36 rfl
        · intro a w' hF hB hd; have v35 : a.tmps[64]?.getD undef = _ := hd 35 (of_decide_eq_true (by kernel_rfl)) 0 _ _ rfl rfl; clear hd hF; refine wpOp_step rfl (fun K' hK => ?_); go_simp; exact hK _ _ ⟨_, rfl, Below.refl _ _, cst_ok⟩
        apply RegW.val 37 rfl
        · intro a w' hF hB hd; have v36 : a.tmps[65]?.getD undef = _ := hd 36 (of_decide_eq_true (by kernel_rfl)) 0 _ _ rfl rfl; have gd := tmp_bool v36; have e12 := hF.2.2 12 (by decide); simp at e12; clear hd hF; obtain ⟨x0, x1, x2, x3, x4, x5, x6, x7, x8, x9, x10⟩ := HT.out.held hB; refine wpOp_step rfl (fun K' hK => ?_); go_simp; exact hK _ _ ⟨_, rfl, Below.refl _ _, cst_ok⟩
        apply RegW.val 38 rfl
        · intro a w' hF hB hd; have v36 : a.tmps[65]?.getD undef = _ := hd 36 (of_decide_eq_true (by kernel_rfl)) 1 _ _ rfl rfl; have gd := tmp_bool v36; have e6 := hF.2.2 6 (by decide); simp at e6; clear hd hF; obtain ⟨x0, x1, x2, x3, x4, x5, x6, x7, x8, x9, x10⟩ := HT.out.held hB; refine wpOp_step rfl (fun K' hK => ?_); go_simp; exact hK _ _ ⟨_, rfl, Below.refl _ _, cst_ok⟩
        apply RegW.val 39 rfl
        · intro a w' hF hB hd; have v36 : a.tmps[65]?.getD undef = _ := hd 36 (of_decide_eq_true (by kernel_rfl)) 2 _ _ rfl rfl; have gd := tmp_bool v36; have e5 := hF.2.2 5 (by decide); simp at e5; clear hd hF; obtain ⟨x0, x1, x2, x3, x4, x5, x6, x7, x8, x9, x10⟩ := HT.out.held hB; refine wpOp_step rfl (fun K' hK => ?_); go_simp; exact hK _ _ ⟨_, rfl, Below.refl _ _, cst_ok⟩
        apply RegW.two 40 rfl
        · intro a w' hF hB hd; have v36 : a.tmps[65]?.getD undef = _ := hd 36 (of_decide_eq_true (by kernel_rfl)) 3 _ _ rfl rfl; have v38 : a.tmps[67]?.getD undef = _ := hd 38 (of_decide_eq_true (by kernel_rfl)) 1 _ _ rfl rfl; have v39 : a.tmps[68]?.getD undef = _ := hd 39 (of_decide_eq_true (by kernel_rfl)) 0 _ _ rfl rfl; have gd := tmp_bool v36; clear hd hF; refine wpOp_step rfl (fun K' hK => ?_); go_simp; exact hK _ _ ⟨_, rfl, (Below.refl _ _).alloc (Nat.le_refl _) _, ⟨_, rfl, rd_two _ _ _ _ _⟩⟩
        apply RegW.val 41 rfl
        · intro a w' hF hB hd; have v36 : a.tmps[65]?.getD undef = _ := hd 36 (of_decide_eq_true (by kernel_rfl)) 4 _ _ rfl rfl; have u40 := hd 40 (of_decide_eq_true (by kernel_rfl)) 0 _ _ rfl rfl; obtain ⟨g40, p40, q⟩ := u40; have gd := tmp_bool v36; clear hd hF; refine wpOp_step rfl (fun K' hK => ?_); go_simp; (first | exact hK _ _ ⟨_, rfl, Below.refl _ _, cst_ok⟩ | (with_reducible refine (meetAB_c _ _ _ _ _ _ q (by first | exact HA.out | exact HB.out | exact HM.out)).mono ?_; rintro e w1 ⟨rfl, hb⟩; exact hK _ _ ⟨_, rfl, hb, cst_ok⟩))
        apply RegW.val 42 rfl
        · intro a w' hF hB hd; have v36 : a.tmps[65]?.getD undef = _ := hd 36 (of_decide_eq_true (by kernel_rfl)) 5 _ _ rfl rfl; have v37 : a.tmps[66]?.getD undef = _ := hd 37 (of_decide_eq_true (by kernel_rfl)) 4 _ _ rfl rfl; have v41 : a.tmps[70]?.getD undef = _ := hd 41 (of_decide_eq_true (by kernel_rfl)) 0 _ _ rfl rfl; have gd := tmp_bool v36; clear hd hF; refine wpOp_step rfl (fun K' hK => ?_); go_simp; exact hK _ _ ⟨_, rfl, Below.refl _ _, cst_ok⟩
        apply RegW.val 43 rfl
        · intro a w' hF hB hd; have v36 : a.tmps[65]?.getD undef = _ := hd 36 (of_decide_eq_true (by kernel_rfl)) 6 _ _ rfl rfl; have v42 : a.tmps[71]?.getD undef = _ := hd 42 (of_decide_eq_true (by kernel_rfl)) 0 _ _ rfl rfl; clear hd hF; refine wpOp_step rfl (fun K' hK => ?_); go_simp; exact hK _ _ ⟨_, rfl, Below.refl _ _, cst_ok⟩
        refine RegW.done (fun a w' hF hB hv => ?_)
        have v0 : a.tmps[29]?.getD undef = _ := hv 43 _ _ rfl
        have v1 : a.tmps[30]?.getD undef = _ := hv 42 _ _ rfl
        have v2 : a.tmps[31]?.getD undef = _ := hv 41 _ _ rfl
        have v3 : a.tmps[32]?.getD undef = _ := hv 40 _ _ rfl
        have v4 : a.tmps[33]?.getD undef = _ := hv 39 _ _ rfl
        have v5 : a.tmps[34]?.getD undef = _ := hv 38 _ _ rfl
        have v6 : a.tmps[35]?.getD undef = _ := hv 37 _ _ rfl
        have v7 : a.tmps[36]?.getD undef = _ := hv 36 _ _ rfl
        have v8 : a.tmps[37]?.getD undef = _ := hv 35 _ _ rfl
        have v9 : a.tmps[38]?.getD undef = _ := hv 34 _ _ rfl
        have v10 : a.tmps[39]?.getD undef = _ := hv 33 _ _ rfl
        have v11 : a.tmps[40]?.getD undef = _ := hv 32 _ _ rfl
        have v12 : a.tmps[41]?.getD undef = _ := hv 31 _ _ rfl
        have v13 : a.tmps[42]?.getD undef = _ := hv 30 _ _ rfl
        have v14 : a.tmps[43]?.getD undef = _ := hv 29 _ _ rfl
        have v15 : a.tmps[44]?.getD undef = _ := hv 28 _ _ rfl
        have v16 : a.tmps[45]?.getD undef = _ := hv 27 _ _ rfl
        have v17 : a.tmps[46]?.getD undef = _ := hv 26 _ _ rfl
        have v18 : a.tmps[47]?.getD undef = _ := hv 25 _ _ rfl
        have v19 : a.tmps[48]?.getD undef = _ := hv 24 _ _ rfl
        have v20 : a.tmps[49]?.getD undef = _ := hv 23 _ _ rfl
        have v21 : a.tmps[50]?.getD undef = _ := hv 22 _ _ rfl
        have v22 : a.tmps[51]?.getD undef = _ := hv 21 _ _ rfl
        have v23 : a.tmps[52]?.getD undef = _ := hv 20 _ _ rfl
        have v24 : a.tmps[53]?.getD undef = _ := hv 19 _ _ rfl
        have v25 : a.tmps[54]?.getD undef = _ := hv 18 _ _ rfl
        have v26 : a.tmps[55]?.getD undef = _ := hv 17 _ _ rfl
        have v27 : a.tmps[56]?.getD undef = _ := hv 16 _ _ rfl
        have v28 : a.tmps[57]?.getD undef = _ := hv 15 _ _ rfl
        have v29 : a.tmps[58]?.getD undef = _ := hv 14 _ _ rfl
        have v30 : a.tmps[59]?.getD undef = _ := hv 13 _ _ rfl
        have v31 : a.tmps[60]?.getD undef = _ := hv 12 _ _ rfl
        have u32 := hv 11 _ _ rfl
        have v33 : a.tmps[62]?.getD undef = _ := hv 10 _ _ rfl
        have v34 : a.tmps[63]?.getD undef = _ := hv 9 _ _ rfl
        have v35 : a.tmps[64]?.getD undef = _ := hv 8 _ _ rfl
        have v36 : a.tmps[65]?.getD undef = _ := hv 7 _ _ rfl
        have v37 : a.tmps[66]?.getD undef = _ := hv 6 _ _ rfl
        have v38 : a.tmps[67]?.getD undef = _ := hv 5 _ _ rfl
        have v39 : a.tmps[68]?.getD undef = _ := hv 4 _ _ rfl
        have u40 := hv 3 _ _ rfl
        have v41 : a.tmps[70]?.getD undef = _ := hv 2 _ _ rfl
        have v42 : a.tmps[71]?.getD undef = _ := hv 1 _ _ rfl
        have v43 : a.tmps[72]?.getD undef = _ := hv 0 _ _ rfl
        have hE := hF.out
        rw [hE]
        clear hE hF hv
        simp only [List.foldl_cons, List.foldl_nil, Act.put, List.setIfInBounds_toArray, List.set_cons_zero, List.set_cons_succ, Array.getD_eq_getD_getElem?, v0, v1, v2, v3, v4, v5, v6, v7, v8, v9, v10, v11, v12, v13, v14, v15, v16, v17, v18, v19, v20, v21, v22, v23, v24, v25, v26, v27, v28, v29, v30, v31, v33, v34, v35, v36, v37, v38, v39, v41, v42, v43]
        clear v0 v1 v2 v3 v4 v5 v6 v7 v8 v9 v10 v11 v12 v13 v14 v15 v16 v17 v18 v19 v20 v21 v22 v23 v24 v25 v26 v27 v28 v29 v30 v31 v33 v34 v35 v36 v37 v38 v39 v41 v42 v43
        have hE0 := hB
        clear hB
        go_wp2_with fail
        go_meet
        exact ⟨rfl, HT.out.step hE0⟩
    case rest =>
      obtain ⟨rfl, hT⟩ := hcut
      have HT := Lib.hid hT
      clear hT
      go_upto_region 6 with fail
      go_cut [125] (fun s125 wx => s125 = .bool false ∧ T5 w wx g11 g12 a1 a2 b1 b2 c1 c2)
      case first =>
        generalize wc = wz at *
        have hal := (rj_assoc a1 a2 b1 b2 c1 c2).1
        have hah := (rj_assoc a1 a2 b1 b2 c1 c2).2
        have hml := (m_assoc a1 a2 b1 b2 c1 c2).1
        have hmh := (m_assoc a1 a2 b1 b2 c1 c2).2
        have hab1 := absorb1 a1 a2 b1 b2
        have hab2 := absorb2 a1 a2 b1 b2
        have hws := within_same a1 a2 b1 b2
        refine wp_region_walk [0, 1, 2, 3, 4, 5, 6, 7, 8, 9, 10, 11, 12, 13, 14, 15, 16, 17, 18, 19, 20, 21, 22, 23, 24, 25, 26, 27, 28, 29, 30, 31, 32, 33, 34, 35, 36, 37, 38, 39, 40, 41, 42, 43, 44, 45, 46, 47, 48, 49, 50, 51, 52] [73, 74, 75, 76, 77, 78, 79, 80, 81, 82, 83, 84, 85, 86, 87, 88, 89, 90, 91, 92, 93, 94, 95, 96, 97, 98, 99, 100, 101, 102, 103, 104, 105, 106, 107, 108, 109, 110, 111, 112, 113, 114, 115, 116, 117, 118, 119, 120, 121, 122, 123, 124, 125] 0 (by kernel_rfl) (by kernel_rfl) (by kernel_rfl) rfl (by simp) (by kernel_rfl) (by kernel_rfl) ?_
        apply RegW.val 0 rfl
        · intro a w' hF hB hd; have e11 := hF.2.2 11 (by decide); simp at e11; clear hd hF; obtain ⟨x0, x1, x2, x3, x4, x5, x6, x7, x8, x9, x10⟩ := HT.out.held hB; refine wpOp_step rfl (fun K' hK => ?_); go_simp; exact hK _ _ ⟨_, rfl, Below.refl _ _, cst_ok⟩
        apply RegW.val 1 rfl
        · intro a w' hF hB hd; have e7 := hF.2.2 7 (by decide); simp at e7; clear hd hF; obtain ⟨x0, x1, x2, x3, x4, x5, x6, x7, x8, x9, x10⟩ := HT.out.held hB; refine wpOp_step rfl (fun K' hK => ?_); go_simp; exact hK _ _ ⟨_, rfl, Below.refl _ _, cst_ok⟩
        apply RegW.two 2 rfl
        · intro a w' hF hB hd; have v0 : a.tmps[73]?.getD undef = _ := hd 0 (of_decide_eq_true (by kernel_rfl)) 1 _ _ rfl rfl; have v1 : a.tmps[74]?.getD undef = _ := hd 1 (of_decide_eq_true (by kernel_rfl)) 0 _ _ rfl rfl; clear hd hF; refine wpOp_step rfl (fun K' hK => ?_); go_simp; exact hK _ _ ⟨_, rfl, (Below.refl _ _).alloc (Nat.le_refl _) _, ⟨_, rfl, rd_two _ _ _ _ _⟩⟩
        apply RegW.val 3 rfl
        · intro a w' hF hB hd; have u2 := hd 2 (of_decide_eq_true (by kernel_rfl)) 0 _ _ rfl rfl; obtain ⟨g2, p2, q⟩ := u2; clear hd hF; refine wpOp_step rfl (fun K' hK => ?_); go_simp; (first | (with_reducible refine (joinAB_c _ _ _ _ _ _ q).mono ?_; rintro e w1 ⟨rfl, hb⟩; exact hK _ _ ⟨_, rfl, hb, cst_ok⟩))
        apply RegW.val 4 rfl
        · intro a w' hF hB hd; have e5 := hF.2.2 5 (by decide); simp at e5; clear hd hF; obtain ⟨x0, x1, x2, x3, x4, x5, x6, x7, x8, x9, x10⟩ := HT.out.held hB; refine wpOp_step rfl (fun K' hK => ?_); go_simp; exact hK _ _ ⟨_, rfl, Below.refl _ _, cst_ok⟩
        apply RegW.val 5 rfl
        · intro a w' hF hB hd; have e6 := hF.2.2 6 (by decide); simp at e6; clear hd hF; obtain ⟨x0, x1, x2, x3, x4, x5, x6, x7, x8, x9, x10⟩ := HT.out.held hB; refine wpOp_step rfl (fun K' hK => ?_); go_simp; exact hK _ _ ⟨_, rfl, Below.refl _ _, cst_ok⟩
        apply RegW.val 6 rfl
        · intro a w' hF hB hd; have e7 := hF.2.2 7 (by decide); simp at e7; clear hd hF; obtain ⟨x0, x1, x2, x3, x4, x5, x6, x7, x8, x9, x10⟩ := HT.out.held hB; refine wpOp_step rfl (fun K' hK => ?_); go_simp; exact hK _ _ ⟨_, rfl, Below.refl _ _, cst_ok⟩
        apply RegW.two 7 rfl
        · intro a w' hF hB hd; have v5 : a.tmps[78]?.getD undef = _ := hd 5 (of_decide_eq_true (by kernel_rfl)) 1 _ _ rfl rfl; have v6 : a.tmps[79]?.getD undef = _ := hd 6 (of_decide_eq_true (by kernel_rfl)) 0 _ _ rfl rfl; clear hd hF; refine wpOp_step rfl (fun K' hK => ?_); go_simp; exact hK _ _ ⟨_, rfl, (Below.refl _ _).alloc (Nat.le_refl _) _, ⟨_, rfl, rd_two _ _ _ _ _⟩⟩
        apply RegW.val 8 rfl
        · intro a w' hF hB hd; have u7 := hd 7 (of_decide_eq_true (by kernel_rfl)) 0 _ _ rfl rfl; obtain ⟨g7, p7, q⟩ := u7; clear hd hF; refine wpOp_step rfl (fun K' hK => ?_); go_simp; (first | (with_reducible refine (joinAB_c _ _ _ _ _ _ q).mono ?_; rintro e w1 ⟨rfl, hb⟩; exact hK _ _ ⟨_, rfl, hb, cst_ok⟩))
        apply RegW.two 9 rfl
        · intro a w' hF hB hd; have v4 : a.tmps[77]?.getD undef = _ := hd 4 (of_decide_eq_true (by kernel_rfl)) 4 _ _ rfl rfl; have v8 : a.tmps[81]?.getD undef = _ := hd 8 (of_decide_eq_true (by kernel_rfl)) 0 _ _ rfl rfl; clear hd hF; refine wpOp_step rfl (fun K' hK => ?_); go_simp; exact hK _ _ ⟨_, rfl, (Below.refl _ _).alloc (Nat.le_refl _) _, ⟨_, rfl, rd_two _ _ _ _ _⟩⟩
        apply RegW.val 10 rfl
        · intro a w' hF hB hd; have u9 := hd 9 (of_decide_eq_true (by kernel_rfl)) 0 _ _ rfl rfl; obtain ⟨g9, p9, q⟩ := u9; clear hd hF; refine wpOp_step rfl (fun K' hK => ?_); go_simp; (first | (with_reducible refine (joinAB_c _ _ _ _ _ _ q).mono ?_; rintro e w1 ⟨rfl, hb⟩; exact hK _ _ ⟨_, rfl, hb, cst_ok⟩))
        apply RegW.val 11 rfl
        · intro a w' hF hB hd; have v3 : a.tmps[76]?.getD undef = _ := hd 3 (of_decide_eq_true (by kernel_rfl)) 7 _ _ rfl rfl; have v10 : a.tmps[83]?.getD undef = _ := hd 10 (of_decide_eq_true (by kernel_rfl)) 0 _ _ rfl rfl; clear hd hF; refine wpOp_step rfl (fun K' hK => ?_); go_simp; exact hK _ _ ⟨_, rfl, Below.refl _ _, cst_ok⟩
        apply RegW.val 12 rfl
        · intro a w' hF hB hd; have v11 : a.tmps[84]?.getD undef = _ := hd 11 (of_decide_eq_true (by kernel_rfl)) 0 _ _ rfl rfl; clear hd hF; refine wpOp_step rfl (fun K' hK => ?_); go_simp; exact hK _ _ ⟨_, rfl, Below.refl _ _, cst_ok⟩
        apply RegW.val 13 rfl
        · intro a w' hF hB hd; have v12 : a.tmps[85]?.getD undef = _ := hd 12 (of_decide_eq_true (by kernel_rfl)) 0 _ _ rfl rfl; have gd := tmp_bool v12; have e12 := hF.2.2 12 (by decide); simp at e12; clear hd hF; obtain ⟨x0, x1, x2, x3, x4, x5, x6, x7, x8, x9, x10⟩ := HT.out.held hB; refine wpOp_step rfl (fun K' hK => ?_); go_simp; exact hK _ _ ⟨_, rfl, Below.refl _ _, cst_ok⟩
        apply RegW.val 14 rfl
        · intro a w' hF hB hd; have v12 : a.tmps[85]?.getD undef = _ := hd 12 (of_decide_eq_true (by kernel_rfl)) 1 _ _ rfl rfl; have gd := tmp_bool v12; have e7 := hF.2.2 7 (by decide); simp at e7; clear hd hF; obtain ⟨x0, x1, x2, x3, x4, x5, x6, x7, x8, x9, x10⟩ := HT.out.held hB; refine wpOp_step rfl (fun K' hK => ?_); go_simp; exact hK _ _ ⟨_, rfl, Below.refl _ _, cst_ok⟩
        apply RegW.two 15 rfl
        · intro a w' hF hB hd; have v12 : a.tmps[85]?.getD undef = _ := hd 12 (of_decide_eq_true (by kernel_rfl)) 2 _ _ rfl rfl; have v13 : a.tmps[86]?.getD undef = _ := hd 13 (of_decide_eq_true (by kernel_rfl)) 1 _ _ rfl rfl; have v14 : a.tmps[87]?.getD undef = _ := hd 14 (of_decide_eq_true (by kernel_rfl)) 0 _ _ rfl rfl; have gd := tmp_bool v12; clear hd hF; refine wpOp_step rfl (fun K' hK => ?_); go_simp; exact hK _ _ ⟨_, rfl, (Below.refl _ _).alloc (Nat.le_refl _) _, ⟨_, rfl, rd_two _ _ _ _ _⟩⟩
        apply RegW.val 16 rfl
        · intro a w' hF hB hd; have v12 : a.tmps[85]?.getD undef = _ := hd 12 (of_decide_eq_true (by kernel_rfl)) 3 _ _ rfl rfl; have u15 := hd 15 (of_decide_eq_true (by kernel_rfl)) 0 _ _ rfl rfl; obtain ⟨g15, p15, q⟩ := u15; have gd := tmp_bool v12; clear hd hF; refine wpOp_step rfl (fun K' hK => ?_); go_simp; (first | exact hK _ _ ⟨_, rfl, Below.refl _ _, cst_ok⟩ | (with_reducible refine (meetAB_c _ _ _ _ _ _ q (by first | exact HA.out | exact HB.out | exact HM.out)).mono ?_; rintro e w1 ⟨rfl, hb⟩; exact hK _ _ ⟨_, rfl, hb, cst_ok⟩))
        apply RegW.val 17 rfl
        · intro a w' hF hB hd; have v12 : a.tmps[85]?.getD undef = _ := hd 12 (of_decide_eq_true (by kernel_rfl)) 4 _ _ rfl rfl; have gd := tmp_bool v12; have e5 := hF.2.2 5 (by decide); simp at e5; clear hd hF; obtain ⟨x0, x1, x2, x3, x4, x5, x6, x7, x8, x9, x10⟩ := HT.out.held hB; refine wpOp_step rfl (fun K' hK => ?_); go_simp; exact hK _ _ ⟨_, rfl, Below.refl _ _, cst_ok⟩
        apply RegW.val 18 rfl
        · intro a w' hF hB hd; have v12 : a.tmps[85]?.getD undef = _ := hd 12 (of_decide_eq_true (by kernel_rfl)) 5 _ _ rfl rfl; have gd := tmp_bool v12; have e6 := hF.2.2 6 (by decide); simp at e6; clear hd hF; obtain ⟨x0, x1, x2, x3, x4, x5, x6, x7, x8, x9, x10⟩ := HT.out.held hB; refine wpOp_step rfl (fun K' hK => ?_); go_simp; exact hK _ _ ⟨_, rfl, Below.refl _ _, cst_ok⟩
        apply RegW.val 19 rfl
        · intro a w' hF hB hd; have v12 : a.tmps[85]?.getD undef = _ := hd 12 (of_decide_eq_true (by kernel_rfl)) 6 _ _ rfl rfl; have gd := tmp_bool v12; have e7 := hF.2.2 7 (by decide); simp at e7; clear hd hF; obtain ⟨x0, x1, x2, x3, x4, x5, x6, x7, x8, x9, x10⟩ := HT.out.held hB; refine wpOp_step rfl (fun K' hK => ?_); go_simp; exact hK _ _ ⟨_, rfl, Below.refl _ _, cst_ok⟩
        apply RegW.two 20 rfl
        · intro a w' hF hB hd; have v12 : a.tmps[85]?.getD undef = _ := hd 12 (of_decide_eq_true (by kernel_rfl)) 7 _ _ rfl rfl; have v18 : a.tmps[91]?.getD undef = _ := hd 18 (of_decide_eq_true (by kernel_rfl)) 1 _ _ rfl rfl; have v19 : a.tmps[92]?.getD undef = _ := hd 19 (of_decide_eq_true (by kernel_rfl)) 0 _ _ rfl rfl; have gd := tmp_bool v12; clear hd hF; refine wpOp_step rfl (fun K' hK => ?_); go_simp; exact hK _ _ ⟨_, rfl, (Below.refl _ _).alloc (Nat.le_refl _) _, ⟨_, rfl, rd_two _ _ _ _ _⟩⟩
        apply RegW.val 21 rfl
        · intro a w' hF hB hd; have v12 : a.tmps[85]?.getD undef = _ := hd 12 (of_decide_eq_true (by kernel_rfl)) 8 _ _ rfl rfl; have u20 := hd 20 (of_decide_eq_true (by kernel_rfl)) 0 _ _ rfl rfl; obtain ⟨g20, p20, q⟩ := u20; have gd := tmp_bool v12; clear hd hF; refine wpOp_step rfl (fun K' hK => ?_); go_simp; (first | exact hK _ _ ⟨_, rfl, Below.refl _ _, cst_ok⟩ | (with_reducible refine (meetAB_c _ _ _ _ _ _ q (by first | exact HA.out | exact HB.out | exact HM.out)).mono ?_; rintro e w1 ⟨rfl, hb⟩; exact hK _ _ ⟨_, rfl, hb, cst_ok⟩))
        apply RegW.two 22 rfl
        · intro a w' hF hB hd; have v12 : a.tmps[85]?.getD undef = _ := hd 12 (of_decide_eq_true (by kernel_rfl)) 9 _ _ rfl rfl; have v17 : a.tmps[90]?.getD undef = _ := hd 17 (of_decide_eq_true (by kernel_rfl)) 4 _ _ rfl rfl; have v21 : a.tmps[94]?.getD undef = _ := hd 21 (of_decide_eq_true (by kernel_rfl)) 0 _ _ rfl rfl; have gd := tmp_bool v12; clear hd hF; refine wpOp_step rfl (fun K' hK => ?_); go_simp; exact hK _ _ ⟨_, rfl, (Below.refl _ _).alloc (Nat.le_refl _) _, ⟨_, rfl, rd_two _ _ _ _ _⟩⟩
        apply RegW.val 23 rfl
        · intro a w' hF hB hd; have v12 : a.tmps[85]?.getD undef = _ := hd 12 (of_decide_eq_true (by kernel_rfl)) 10 _ _ rfl rfl; have u22 := hd 22 (of_decide_eq_true (by kernel_rfl)) 0 _ _ rfl rfl; obtain ⟨g22, p22, q⟩ := u22; have gd := tmp_bool v12; clear hd hF; refine wpOp_step rfl (fun K' hK => ?_); go_simp; (first | exact hK _ _ ⟨_, rfl, Below.refl _ _, cst_ok⟩ | (with_reducible refine (meetAB_c _ _ _ _ _ _ q (by first | exact HA.out | exact HB.out | exact HM.out)).mono ?_; rintro e w1 ⟨rfl, hb⟩; exact hK _ _ ⟨_, rfl, hb, cst_ok⟩))
        apply RegW.val 24 rfl
        · intro a w' hF hB hd; have v12 : a.tmps[85]?.getD undef = _ := hd 12 (of_decide_eq_true (by kernel_rfl)) 11 _ _ rfl rfl; have v16 : a.tmps[89]?.getD undef = _ := hd 16 (of_decide_eq_true (by kernel_rfl)) 7 _ _ rfl rfl; have v23 : a.tmps[96]?.getD undef = _ := hd 23 (of_decide_eq_true (by kernel_rfl)) 0 _ _ rfl rfl; have gd := tmp_bool v12; clear hd hF; refine wpOp_step rfl (fun K' hK => ?_); go_simp; exact hK _ _ ⟨_, rfl, Below.refl _ _, cst_ok⟩
        apply RegW.val 25 rfl
        · intro a w' hF hB hd; have v12 : a.tmps[85]?.getD undef = _ := hd 12 (of_decide_eq_true (by kernel_rfl)) 12 _ _ rfl rfl; have v24 : a.tmps[97]?.getD undef = _ := hd 24 (of_decide_eq_true (by kernel_rfl)) 0 _ _ rfl rfl; clear hd hF; refine wpOp_step rfl (fun K' hK => ?_); go_simp; exact hK _ _ ⟨_, rfl, Below.refl _ _, cst_ok⟩
        apply RegW.val 26 rfl
        · intro a w' hF hB hd; have v25 : a.tmps[98]?.getD undef = _ := hd 25 (of_decide_eq_true (by kernel_rfl)) 0 _ _ rfl rfl; clear hd hF; refine wpOp_step rfl (fun K' hK => ?_); go_simp; exact hK _ _ ⟨_, rfl, Below.refl _ _, cst_ok⟩
        apply RegW.val 27 rfl
        · intro a w' hF hB hd; have v26 : a.tmps[99]?.getD undef = _ := hd 26 (of_decide_eq_true (by kernel_rfl)) 0 _ _ rfl rfl; have gd := tmp_bool v26; have e5 := hF.2.2 5 (by decide); simp at e5; clear hd hF; obtain ⟨x0, x1, x2, x3, x4, x5, x6, x7, x8, x9, x10⟩ := HT.out.held hB; refine wpOp_step rfl (fun K' hK => ?_); go_simp; exact hK _ _ ⟨_, rfl, Below.refl _ _, cst_ok⟩
        apply RegW.val 28 rfl
        · intro a w' hF hB hd; have v26 : a.tmps[99]?.getD undef = _ := hd 26 (of_decide_eq_true (by kernel_rfl)) 1 _ _ rfl rfl; have gd := tmp_bool v26; have e12 := hF.2.2 12 (by decide); simp at e12; clear hd hF; obtain ⟨x0, x1, x2, x3, x4, x5, x6, x7, x8, x9, x10⟩ := HT.out.held hB; refine wpOp_step rfl (fun K' hK => ?_); go_simp; exact hK _ _ ⟨_, rfl, Below.refl _ _, cst_ok⟩
        apply RegW.two 29 rfl
        · intro a w' hF hB hd; have v26 : a.tmps[99]?.getD undef = _ := hd 26 (of_decide_eq_true (by kernel_rfl)) 2 _ _ rfl rfl; have v27 : a.tmps[100]?.getD undef = _ := hd 27 (of_decide_eq_true (by kernel_rfl)) 1 _ _ rfl rfl; have v28 : a.tmps[101]?.getD undef = _ := hd 28 (of_decide_eq_true (by kernel_rfl)) 0 _ _ rfl rfl; have gd := tmp_bool v26; clear hd hF; refine wpOp_step rfl (fun K' hK => ?_); go_simp; exact hK _ _ ⟨_, rfl, (Below.refl _ _).alloc (Nat.le_refl _) _, ⟨_, rfl, rd_two _ _ _ _ _⟩⟩
        apply RegW.val 30 rfl
        · intro a w' hF hB hd; have v26 : a.tmps[99]?.getD undef = _ := hd 26 (of_decide_eq_true (by kernel_rfl)) 3 _ _ rfl rfl; have u29 := hd 29 (of_decide_eq_true (by kernel_rfl)) 0 _ _ rfl rfl; obtain ⟨g29, p29, q⟩ := u29; have gd := tmp_bool v26; clear hd hF; refine wpOp_step rfl (fun K' hK => ?_); go_simp; (first | exact hK _ _ ⟨_, rfl, Below.refl _ _, cst_ok⟩ | (with_reducible refine (joinAB_c _ _ _ _ _ _ q).mono ?_; rintro e w1 ⟨rfl, hb⟩; exact hK _ _ ⟨_, rfl, hb, cst_ok⟩))
        apply RegW.val 31 rfl
        · intro a w' hF hB hd; have v26 : a.tmps[99]?.getD undef = _ := hd 26 (of_decide_eq_true (by kernel_rfl)) 4 _ _ rfl rfl; have gd := tmp_bool v26; have e5 := hF.2.2 5 (by decide); simp at e5; clear hd hF; obtain ⟨x0, x1, x2, x3, x4, x5, x6, x7, x8, x9, x10⟩ := HT.out.held hB; refine wpOp_step rfl (fun K' hK => ?_); go_simp; exact hK _ _ ⟨_, rfl, Below.refl _ _, cst_ok⟩
        apply RegW.val 32 rfl
        · intro a w' hF hB hd; have v26 : a.tmps[99]?.getD undef = _ := hd 26 (of_decide_eq_true (by kernel_rfl)) 5 _ _ rfl rfl; have v30 : a.tmps[103]?.getD undef = _ := hd 30 (of_decide_eq_true (by kernel_rfl)) 1 _ _ rfl rfl; have v31 : a.tmps[104]?.getD undef = _ := hd 31 (of_decide_eq_true (by kernel_rfl)) 0 _ _ rfl rfl; have gd := tmp_bool v26; clear hd hF; refine wpOp_step rfl (fun K' hK => ?_); go_simp; (first | exact hK _ _ ⟨_, rfl, Below.refl _ _, cst_ok⟩ | (with_reducible refine (same_c _ _ _ _ _).mono ?_; rintro e w1 ⟨rfl, hb⟩; exact hK _ _ ⟨_, rfl, hb, cst_ok⟩))
        apply RegW.val 33 rfl
        · intro a w' hF hB hd; have v26 : a.tmps[99]?.getD undef = _ := hd 26 (of_decide_eq_true (by kernel_rfl)) 6 _ _ rfl rfl; have v32 : a.tmps[105]?.getD undef = _ := hd 32 (of_decide_eq_true (by kernel_rfl)) 0 _ _ rfl rfl; have gd := tmp_bool v26; clear hd hF; refine wpOp_step rfl (fun K' hK => ?_); go_simp; exact hK _ _ ⟨_, rfl, Below.refl _ _, cst_ok⟩
        apply RegW.val 34 rfl
        · intro a w' hF hB hd; have v26 : a.tmps[99]?.getD undef = _ := hd 26 (of_decide_eq_true (by kernel_rfl)) 7 _ _ rfl rfl; have v33 : a.tmps[106]?.getD undef = _ := hd 33 (of_decide_eq_true (by kernel_rfl)) 0 _ _ rfl rfl; clear hd hF; refine wpOp_step rfl (fun K' hK => ?_); go_simp; exact hK _ _ ⟨_, rfl, Below.refl _ _, cst_ok⟩
        apply RegW.val 35 rfl
        · intro a w' hF hB hd; have v34 : a.tmps[107]?.getD undef = _ := hd 34 (of_decide_eq_true (by kernel_rfl)) 0 _ _ rfl rfl; clear hd hF; refine wpOp_step rfl (fun K' hK => ?_); go_simp; exact hK _ _ ⟨_, rfl, Below.refl _ _, cst_ok⟩
        apply RegW.val 36 rfl
        · intro a w' hF hB hd; have v35 : a.tmps[108]?.getD undef = _ := hd 35 (of_decide_eq_true (by kernel_rfl)) 0 _ _ rfl rfl; have gd := tmp_bool v35; have e5 := hF.2.2 5 (by decide); simp at e5; clear hd hF; obtain ⟨x0, x1, x2, x3, x4, x5, x6, x7, x8, x9, x10⟩ := HT.out.held hB; refine wpOp_step rfl (fun K' hK => ?_); go_simp; exact hK _ _ ⟨_, rfl, Below.refl _ _, cst_ok⟩
        apply RegW.val 37 rfl
        · intro a w' hF hB hd; have v35 : a.tmps[108]?.getD undef = _ := hd 35 (of_decide_eq_true (by kernel_rfl)) 1 _ _ rfl rfl; have gd := tmp_bool v35; have e11 := hF.2.2 11 (by decide); simp at e11; clear hd hF; obtain ⟨x0, x1, x2, x3, x4, x5, x6, x7, x8, x9, x10⟩ := HT.out.held hB; refine wpOp_step rfl (fun K' hK => ?_); go_simp; exact hK _ _ ⟨_, rfl, Below.refl _ _, cst_ok⟩
        apply RegW.two 38 rfl
        · intro a w' hF hB hd; have v35 : a.tmps[108]?.getD undef = _ := hd 35 (of_decide_eq_true (by kernel_rfl)) 2 _ _ rfl rfl; have v36 : a.tmps[109]?.getD undef = _ := hd 36 (of_decide_eq_true (by kernel_rfl)) 1 _ _ rfl rfl; have v37 : a.tmps[110]?.getD undef = _ := hd 37 (of_decide_eq_true (by kernel_rfl)) 0 _ _ rfl rfl; have gd := tmp_bool v35; clear hd hF; refine wpOp_step rfl (fun K' hK => ?_); go_simp; exact hK _ _ ⟨_, rfl, (Below.refl _ _).alloc (Nat.le_refl _) _, ⟨_, rfl, rd_two _ _ _ _ _⟩⟩
        apply RegW.val 39 rfl
        · intro a w' hF hB hd; have v35 : a.tmps[108]?.getD undef = _ := hd 35 (of_decide_eq_true (by kernel_rfl)) 3 _ _ rfl rfl; have u38 := hd 38 (of_decide_eq_true (by kernel_rfl)) 0 _ _ rfl rfl; obtain ⟨g38, p38, q⟩ := u38; have gd := tmp_bool v35; clear hd hF; refine wpOp_step rfl (fun K' hK => ?_); go_simp; (first | exact hK _ _ ⟨_, rfl, Below.refl _ _, cst_ok⟩ | (with_reducible refine (meetAB_c _ _ _ _ _ _ q (by first | exact HA.out | exact HB.out | exact HM.out)).mono ?_; rintro e w1 ⟨rfl, hb⟩; exact hK _ _ ⟨_, rfl, hb, cst_ok⟩))
        apply RegW.val 40 rfl
        · intro a w' hF hB hd; have v35 : a.tmps[108]?.getD undef = _ := hd 35 (of_decide_eq_true (by kernel_rfl)) 4 _ _ rfl rfl; have gd := tmp_bool v35; have e5 := hF.2.2 5 (by decide); simp at e5; clear hd hF; obtain ⟨x0, x1, x2, x3, x4, x5, x6, x7, x8, x9, x10⟩ := HT.out.held hB; refine wpOp_step rfl (fun K' hK => ?_); go_simp; exact hK _ _ ⟨_, rfl, Below.refl _ _, cst_ok⟩
        apply RegW.val 41 rfl
        · intro a w' hF hB hd; have v35 : a.tmps[108]?.getD undef = _ := hd 35 (of_decide_eq_true (by kernel_rfl)) 5 _ _ rfl rfl; have v39 : a.tmps[112]?.getD undef = _ := hd 39 (of_decide_eq_true (by kernel_rfl)) 1 _ _ rfl rfl; have v40 : a.tmps[113]?.getD undef = _ := hd 40 (of_decide_eq_true (by kernel_rfl)) 0 _ _ rfl rfl; have gd := tmp_bool v35; clear hd hF; refine wpOp_step rfl (fun K' hK => ?_); go_simp; (first | exact hK _ _ ⟨_, rfl, Below.refl _ _, cst_ok⟩ | (with_reducible refine (same_c _ _ _ _ _).mono ?_; rintro e w1 ⟨rfl, hb⟩; exact hK _ _ ⟨_, rfl, hb, cst_ok⟩))
        apply RegW.val 42 rfl
        · intro a w' hF hB hd; have v35 : a.tmps[108]?.getD undef = _ := hd 35 (of_decide_eq_true (by kernel_rfl)) 6 _ _ rfl rfl; have v41 : a.tmps[114]?.getD undef = _ := hd 41 (of_decide_eq_true (by kernel_rfl)) 0 _ _ rfl rfl; have gd := tmp_bool v35; clear hd hF; refine wpOp_step rfl (fun K' hK => ?_); go_simp; exact hK _ _ ⟨_, rfl, Below.refl _ _, cst_ok⟩
        apply RegW.val 43 rfl
        · intro a w' hF hB hd; have v35 : a.tmps[108]?.getD undef = _ := hd 35 (of_decide_eq_true (by kernel_rfl)) 7 _ _ rfl rfl; have v42 : a.tmps[115]?.getD undef = _ := hd 42 (of_decide_eq_true (by kernel_rfl)) 0 _ _ rfl rfl; clear hd hF; refine wpOp_step rfl (fun K' hK => ?_); go_simp; exact hK _ _ ⟨_, rfl, Below.refl _ _, cst_ok⟩
        apply RegW.val 44 rfl
        · intro a w' hF hB hd; have v43 : a.tmps[116]?.getD undef = _ := hd 43 (of_decide_eq_true (by kernel_rfl)) 0 _ _ rfl rfl; clear hd hF; refine wpOp_step rfl (fun K' hK => ?_); go_simp; exact hK _ _ ⟨_, rfl, Below.refl _ _, cst_ok⟩
        apply RegW.val 45 rfl
        · intro a w' hF hB hd; have v44 : a.tmps[117]?.getD undef = _ := hd 44 (of_decide_eq_true (by kernel_rfl)) 0 _ _ rfl rfl; have gd := tmp_bool v44; have e5 := hF.2.2 5 (by decide); simp at e5; clear hd hF; obtain ⟨x0, x1, x2, x3, x4, x5, x6, x7, x8, x9, x10⟩ := HT.out.held hB; refine wpOp_step rfl (fun K' hK => ?_); go_simp; exact hK _ _ ⟨_, rfl, Below.refl _ _, cst_ok⟩
        apply RegW.val 46 rfl
        · intro a w' hF hB hd; have v44 : a.tmps[117]?.getD undef = _ := hd 44 (of_decide_eq_true (by kernel_rfl)) 1 _ _ rfl rfl; have gd := tmp_bool v44; have e6 := hF.2.2 6 (by decide); simp at e6; clear hd hF; obtain ⟨x0, x1, x2, x3, x4, x5, x6, x7, x8, x9, x10⟩ := HT.out.held hB; refine wpOp_step rfl (fun K' hK => ?_); go_simp; exact hK _ _ ⟨_, rfl, Below.refl _ _, cst_ok⟩
        apply RegW.val 47 rfl
        · intro a w' hF hB hd; have v44 : a.tmps[117]?.getD undef = _ := hd 44 (of_decide_eq_true (by kernel_rfl)) 2 _ _ rfl rfl; have v45 : a.tmps[118]?.getD undef = _ := hd 45 (of_decide_eq_true (by kernel_rfl)) 1 _ _ rfl rfl; have v46 : a.tmps[119]?.getD undef = _ := hd 46 (of_decide_eq_true (by kernel_rfl)) 0 _ _ rfl rfl; have gd := tmp_bool v44; clear hd hF; refine wpOp_step rfl (fun K' hK => ?_); go_simp; (first | exact hK _ _ ⟨_, rfl, Below.refl _ _, cst_ok⟩ | (with_reducible refine (within_c _ _ _ _ _).mono ?_; rintro e w1 ⟨rfl, hb⟩; exact hK _ _ ⟨_, rfl, hb, cst_ok⟩))
        apply RegW.val 48 rfl
        · intro a w' hF hB hd; have v44 : a.tmps[117]?.getD undef = _ := hd 44 (of_decide_eq_true (by kernel_rfl)) 3 _ _ rfl rfl; have gd := tmp_bool v44; have e11 := hF.2.2 11 (by decide); simp at e11; clear hd hF; obtain ⟨x0, x1, x2, x3, x4, x5, x6, x7, x8, x9, x10⟩ := HT.out.held hB; refine wpOp_step rfl (fun K' hK => ?_); go_simp; exact hK _ _ ⟨_, rfl, Below.refl _ _, cst_ok⟩
        apply RegW.val 49 rfl
        · intro a w' hF hB hd; have v44 : a.tmps[117]?.getD undef = _ := hd 44 (of_decide_eq_true (by kernel_rfl)) 4 _ _ rfl rfl; have gd := tmp_bool v44; have e6 := hF.2.2 6 (by decide); simp at e6; clear hd hF; obtain ⟨x0, x1, x2, x3, x4, x5, x6, x7, x8, x9, x10⟩ := HT.out.held hB; refine wpOp_step rfl (fun K' hK => ?_); go_simp; exact hK _ _ ⟨_, rfl, Below.refl _ _, cst_ok⟩
        apply RegW.val 50 rfl
        · intro a w' hF hB hd; have v44 : a.tmps[117]?.getD undef = _ := hd 44 (of_decide_eq_true (by kernel_rfl)) 5 _ _ rfl rfl; have v48 : a.tmps[121]?.getD undef = _ := hd 48 (of_decide_eq_true (by kernel_rfl)) 1 _ _ rfl rfl; have v49 : a.tmps[122]?.getD undef = _ := hd 49 (of_decide_eq_true (by kernel_rfl)) 0 _ _ rfl rfl; have gd := tmp_bool v44; clear hd hF; refine wpOp_step rfl (fun K' hK => ?_); go_simp; (first | exact hK _ _ ⟨_, rfl, Below.refl _ _, cst_ok⟩ | (with_reducible refine (same_c _ _ _ _ _).mono ?_; rintro e w1 ⟨rfl, hb⟩; exact hK _ _ ⟨_, rfl, hb, cst_ok⟩))
        apply RegW.val 51 rfl
        · intro a w' hF hB hd; have v44 : a.tmps[117]?.getD undef = _ := hd 44 (of_decide_eq_true (by kernel_rfl)) 6 _ _ rfl rfl; have v47 : a.tmps[120]?.getD undef = _ := hd 47 (of_decide_eq_true (by kernel_rfl)) 3 _ _ rfl rfl; have v50 : a.tmps[123]?.getD undef = _ := hd 50 (of_decide_eq_true (by kernel_rfl)) 0 _ _ rfl rfl; have gd := tmp_bool v44; clear hd hF; refine wpOp_step rfl (fun K' hK => ?_); go_simp; exact hK _ _ ⟨_, rfl, Below.refl _ _, cst_ok⟩
        apply RegW.val 52 rfl
        · intro a w' hF hB hd; have v44 : a.tmps[117]?.getD undef = _ := hd 44 (of_decide_eq_true (by kernel_rfl)) 7 _ _ rfl rfl; have v51 : a.tmps[124]?.getD undef = _ := hd 51 (of_decide_eq_true (by kernel_rfl)) 0 _ _ rfl rfl; clear hd hF; refine wpOp_step rfl (fun K' hK => ?_); go_simp; exact hK _ _ ⟨_, rfl, Below.refl _ _, cst_ok⟩
        refine RegW.done (fun a w' hF hB hv => ?_)
        have v0 : a.tmps[73]?.getD undef = _ := hv 52 _ _ rfl
        have v1 : a.tmps[74]?.getD undef = _ := hv 51 _ _ rfl
        have u2 := hv 50 _ _ rfl
        have v3 : a.tmps[76]?.getD undef = _ := hv 49 _ _ rfl
        have v4 : a.tmps[77]?.getD undef = _ := hv 48 _ _ rfl
        have v5 : a.tmps[78]?.getD undef = _ := hv 47 _ _ rfl
        have v6 : a.tmps[79]?.getD undef = _ := hv 46 _ _ rfl
        have u7 := hv 45 _ _ rfl
        have v8 : a.tmps[81]?.getD undef = _ := hv 44 _ _ rfl
        have u9 := hv 43 _ _ rfl
        have v10 : a.tmps[83]?.getD undef = _ := hv 42 _ _ rfl
        have v11 : a.tmps[84]?.getD undef = _ := hv 41 _ _ rfl
        have v12 : a.tmps[85]?.getD undef = _ := hv 40 _ _ rfl
        have v13 : a.tmps[86]?.getD undef = _ := hv 39 _ _ rfl
        have v14 : a.tmps[87]?.getD undef = _ := hv 38 _ _ rfl
        have u15 := hv 37 _ _ rfl
        have v16 : a.tmps[89]?.getD undef = _ := hv 36 _ _ rfl
        have v17 : a.tmps[90]?.getD undef = _ := hv 35 _ _ rfl
        have v18 : a.tmps[91]?.getD undef = _ := hv 34 _ _ rfl
        have v19 : a.tmps[92]?.getD undef = _ := hv 33 _ _ rfl
        have u20 := hv 32 _ _ rfl
        have v21 : a.tmps[94]?.getD undef = _ := hv 31 _ _ rfl
        have u22 := hv 30 _ _ rfl
        have v23 : a.tmps[96]?.getD undef = _ := hv 29 _ _ rfl
        have v24 : a.tmps[97]?.getD undef = _ := hv 28 _ _ rfl
        have v25 : a.tmps[98]?.getD undef = _ := hv 27 _ _ rfl
        have v26 : a.tmps[99]?.getD undef = _ := hv 26 _ _ rfl
        have v27 : a.tmps[100]?.getD undef = _ := hv 25 _ _ rfl
        have v28 : a.tmps[101]?.getD undef = _ := hv 24 _ _ rfl
        have u29 := hv 23 _ _ rfl
        have v30 : a.tmps[103]?.getD undef = _ := hv 22 _ _ rfl
        have v31 : a.tmps[104]?.getD undef = _ := hv 21 _ _ rfl
        have v32 : a.tmps[105]?.getD undef = _ := hv 20 _ _ rfl
        have v33 : a.tmps[106]?.getD undef = _ := hv 19 _ _ rfl
        have v34 : a.tmps[107]?.getD undef = _ := hv 18 _ _ rfl
        have v35 : a.tmps[108]?.getD undef = _ := hv 17 _ _ rfl
        have v36 : a.tmps[109]?.getD undef = _ := hv 16 _ _ rfl
        have v37 : a.tmps[110]?.getD undef = _ := hv 15 _ _ rfl
        have u38 := hv 14 _ _ rfl
        have v39 : a.tmps[112]?.getD undef = _ := hv 13 _ _ rfl
        have v40 : a.tmps[113]?.getD undef = _ := hv 12 _ _ rfl
        have v41 : a.tmps[114]?.getD undef = _ := hv 11 _ _ rfl
        have v42 : a.tmps[115]?.getD undef = _ := hv 10 _ _ rfl
        have v43 : a.tmps[116]?.getD undef = _ := hv 9 _ _ rfl
        have v44 : a.tmps[117]?.getD undef = _ := hv 8 _ _ rfl
        have v45 : a.tmps[118]?.getD undef = _ := hv 7 _ _ rfl
        have v46 : a.tmps[119]?.getD undef = _ := hv 6 _ _ rfl
        have v47 : a.tmps[120]?.getD undef = _ := hv 5 _ _ rfl
        have v48 : a.tmps[121]?.getD undef = _ := hv 4 _ _ rfl
        have v49 : a.tmps[122]?.getD undef = _ := hv 3 _ _ rfl
        have v50 : a.tmps[123]?.getD undef = _ := hv 2 _ _ rfl
        have v51 : a.tmps[124]?.getD undef = _ := hv 1 _ _ rfl
        have v52 : a.tmps[125]?.getD undef = _ := hv 0 _ _ rfl
        have hE := hF.out
        rw [hE]
        clear hE hF hv
        simp only [List.foldl_cons, List.foldl_nil, Act.put, List.setIfInBounds_toArray, List.set_cons_zero, List.set_cons_succ, Array.getD_eq_getD_getElem?, v0, v1, v3, v4, v5, v6, v8, v10, v11, v12, v13, v14, v16, v17, v18, v19, v21, v23, v24, v25, v26, v27, v28, v30, v31, v32, v33, v34, v35, v36, v37, v39, v40, v41, v42, v43, v44, v45, v46, v47, v48, v49, v50, v51, v52]
        clear v0 v1 v3 v4 v5 v6 v8 v10 v11 v12 v13 v14 v16 v17 v18 v19 v21 v23 v24 v25 v26 v27 v28 v30 v31 v32 v33 v34 v35 v36 v37 v39 v40 v41 v42 v43 v44 v45 v46 v47 v48 v49 v50 v51 v52
        have hE0 := hB
        clear hB
        go_wp2_with fail
        go_meet
        exact ⟨rfl, HT.out.step hE0⟩
      case rest =>
        obtain ⟨rfl, hT⟩ := hcut
        have HT := Lib.hid hT
        clear hT
        go_upto_region 8 with fail
        go_cut [162] (fun s162 wx => s162 = .bool false ∧ T5 w wx g11 g12 a1 a2 b1 b2 c1 c2)
        case first =>
          generalize wc = wz at *
          have hww := within_widen a1 a2 b1 b2 HB.out
          have hnw := within_narrow (a := a1) (b := a2) HB.out
          have HNW := Lib.hid hnw
          clear hnw
          cases hx : hasB a1 a2 n
          · cases hv : withinB b1 b2 a1 a2
            · refine wp_region_walk [0, 1, 2, 3, 4, 5, 6, 7, 8, 9, 10, 11, 12, 13, 14, 15, 16, 17, 18, 19, 20, 21, 22, 23, 24, 25, 26, 27, 28, 29, 30, 31, 32, 33, 34, 35, 36] [126, 127, 128, 129, 130, 131, 132, 133, 134, 135, 136, 137, 138, 139, 140, 141, 142, 143, 144, 145, 146, 147, 148, 149, 150, 151, 152, 153, 154, 155, 156, 157, 158, 159, 160, 161, 162] 0 (by kernel_rfl) (by kernel_rfl) (by kernel_rfl) rfl (by simp) (by kernel_rfl) (by kernel_rfl) ?_
              apply RegW.val 0 rfl
              · intro a w' hF hB hd; have e11 := hF.2.2 11 (by decide); simp at e11; clear hd hF; obtain ⟨x0, x1, x2, x3, x4, x5, x6, x7, x8, x9, x10⟩ := HT.out.held hB; refine wpOp_step rfl (fun K' hK => ?_); go_simp; exact hK _ _ ⟨_, rfl, Below.refl _ _, cst_ok⟩
              apply RegW.val 1 rfl
              · intro a w' hF hB hd; have e5 := hF.2.2 5 (by decide); simp at e5; clear hd hF; obtain ⟨x0, x1, x2, x3, x4, x5, x6, x7, x8, x9, x10⟩ := HT.out.held hB; refine wpOp_step rfl (fun K' hK => ?_); go_simp; exact hK _ _ ⟨_, rfl, Below.refl _ _, cst_ok⟩
              apply RegW.val 2 rfl
              · intro a w' hF hB hd; have e6 := hF.2.2 6 (by decide); simp at e6; clear hd hF; obtain ⟨x0, x1, x2, x3, x4, x5, x6, x7, x8, x9, x10⟩ := HT.out.held hB; refine wpOp_step rfl (fun K' hK => ?_); go_simp; exact hK _ _ ⟨_, rfl, Below.refl _ _, cst_ok⟩
              apply RegW.val 3 rfl
              · intro a w' hF hB hd; have v1 : a.tmps[127]?.getD undef = _ := hd 1 (of_decide_eq_true (by kernel_rfl)) 1 _ _ rfl rfl; have v2 : a.tmps[128]?.getD undef = _ := hd 2 (of_decide_eq_true (by kernel_rfl)) 0 _ _ rfl rfl; clear hd hF; refine wpOp_step rfl (fun K' hK => ?_); go_simp; (first | (with_reducible refine (widen_c _ _ _ _ _).mono ?_; rintro e w1 ⟨rfl, hb⟩; exact hK _ _ ⟨_, rfl, hb, cst_ok⟩))
              apply RegW.val 4 rfl
              · intro a w' hF hB hd; have v0 : a.tmps[126]?.getD undef = _ := hd 0 (of_decide_eq_true (by kernel_rfl)) 3 _ _ rfl rfl; have v3 : a.tmps[129]?.getD undef = _ := hd 3 (of_decide_eq_true (by kernel_rfl)) 0 _ _ rfl rfl; clear hd hF; refine wpOp_step rfl (fun K' hK => ?_); go_simp; (first | (with_reducible refine (within_c _ _ _ _ _).mono ?_; rintro e w1 ⟨rfl, hb⟩; exact hK _ _ ⟨_, rfl, hb, cst_ok⟩))
              apply RegW.val 5 rfl
              · intro a w' hF hB hd; have v4 : a.tmps[130]?.getD undef = _ := hd 4 (of_decide_eq_true (by kernel_rfl)) 0 _ _ rfl rfl; clear hd hF; refine wpOp_step rfl (fun K' hK => ?_); go_simp; exact hK _ _ ⟨_, rfl, Below.refl _ _, cst_ok⟩
              apply RegW.val 6 rfl
              · intro a w' hF hB hd; have v5 : a.tmps[131]?.getD undef = _ := hd 5 (of_decide_eq_true (by kernel_rfl)) 0 _ _ rfl rfl; clear hd hF; refine wpOp_step rfl (fun K' hK => ?_); go_simp; exact hK _ _ ⟨_, rfl, Below.refl _ _, cst_ok⟩
              apply RegW.val 7 rfl
              · intro a w' hF hB hd; have v6 : a.tmps[132]?.getD undef = _ := hd 6 (of_decide_eq_true (by kernel_rfl)) 0 _ _ rfl rfl; have gd := tmp_bool v6; have e5 := hF.2.2 5 (by decide); simp at e5; clear hd hF; obtain ⟨x0, x1, x2, x3, x4, x5, x6, x7, x8, x9, x10⟩ := HT.out.held hB; refine wpOp_step rfl (fun K' hK => ?_); go_simp; exact hK _ _ ⟨_, rfl, Below.refl _ _, cst_ok⟩
              apply RegW.val 8 rfl
              · intro a w' hF hB hd; have v6 : a.tmps[132]?.getD undef = _ := hd 6 (of_decide_eq_true (by kernel_rfl)) 1 _ _ rfl rfl; have gd := tmp_bool v6; have e3 := hF.2.2 3 (by decide); simp at e3; clear hd hF; refine wpOp_step rfl (fun K' hK => ?_); go_simp; exact hK _ _ ⟨_, rfl, Below.refl _ _, cst_ok⟩
              apply RegW.val 9 rfl
              · intro a w' hF hB hd; have v6 : a.tmps[132]?.getD undef = _ := hd 6 (of_decide_eq_true (by kernel_rfl)) 2 _ _ rfl rfl; have v7 : a.tmps[133]?.getD undef = _ := hd 7 (of_decide_eq_true (by kernel_rfl)) 1 _ _ rfl rfl; have v8 : a.tmps[134]?.getD undef = _ := hd 8 (of_decide_eq_true (by kernel_rfl)) 0 _ _ rfl rfl; have gd := tmp_bool v6; clear hd hF; refine wpOp_step rfl (fun K' hK => ?_); go_simp; (first | exact hK _ _ ⟨_, rfl, Below.refl _ _, cst_ok⟩ | (with_reducible refine (has_v hx _).mono ?_; rintro e w1 ⟨rfl, hb⟩; exact hK _ _ ⟨_, rfl, hb, cst_ok⟩))
              apply RegW.val 10 rfl
              · intro a w' hF hB hd; have v6 : a.tmps[132]?.getD undef = _ := hd 6 (of_decide_eq_true (by kernel_rfl)) 3 _ _ rfl rfl; have v9 : a.tmps[135]?.getD undef = _ := hd 9 (of_decide_eq_true (by kernel_rfl)) 0 _ _ rfl rfl; have gd := tmp_bool v6; clear hd hF; refine wpOp_step rfl (fun K' hK => ?_); go_simp; exact hK _ _ ⟨_, rfl, Below.refl _ _, cst_ok⟩
              apply RegW.val 11 rfl
              · intro a w' hF hB hd; have v10 : a.tmps[136]?.getD undef = _ := hd 10 (of_decide_eq_true (by kernel_rfl)) 0 _ _ rfl rfl; have gd := tmp_bool v10; have e6 := hF.2.2 6 (by decide); simp at e6; clear hd hF; obtain ⟨x0, x1, x2, x3, x4, x5, x6, x7, x8, x9, x10⟩ := HT.out.held hB; refine wpOp_step rfl (fun K' hK => ?_); go_simp; exact hK _ _ ⟨_, rfl, Below.refl _ _, cst_ok⟩
              apply RegW.val 12 rfl
              · intro a w' hF hB hd; have v10 : a.tmps[136]?.getD undef = _ := hd 10 (of_decide_eq_true (by kernel_rfl)) 1 _ _ rfl rfl; have gd := tmp_bool v10; have e3 := hF.2.2 3 (by decide); simp at e3; clear hd hF; refine wpOp_step rfl (fun K' hK => ?_); go_simp; exact hK _ _ ⟨_, rfl, Below.refl _ _, cst_ok⟩
              apply RegW.val 13 rfl
              · intro a w' hF hB hd; have v10 : a.tmps[136]?.getD undef = _ := hd 10 (of_decide_eq_true (by kernel_rfl)) 2 _ _ rfl rfl; have v11 : a.tmps[137]?.getD undef = _ := hd 11 (of_decide_eq_true (by kernel_rfl)) 1 _ _ rfl rfl; have v12 : a.tmps[138]?.getD undef = _ := hd 12 (of_decide_eq_true (by kernel_rfl)) 0 _ _ rfl rfl; have gd := tmp_bool v10; clear hd hF; refine wpOp_step rfl (fun K' hK => ?_); go_simp; (first | exact hK _ _ ⟨_, rfl, Below.refl _ _, cst_ok⟩ | (with_reducible refine (has_v hx _).mono ?_; rintro e w1 ⟨rfl, hb⟩; exact hK _ _ ⟨_, rfl, hb, cst_ok⟩))
              apply RegW.val 14 rfl
              · intro a w' hF hB hd; have v6 : a.tmps[132]?.getD undef = _ := hd 6 (of_decide_eq_true (by kernel_rfl)) 7 _ _ rfl rfl; have v10 : a.tmps[136]?.getD undef = _ := hd 10 (of_decide_eq_true (by kernel_rfl)) 3 _ _ rfl rfl; have v13 : a.tmps[139]?.getD undef = _ := hd 13 (of_decide_eq_true (by kernel_rfl)) 0 _ _ rfl rfl; have gd := tmp_bool v6; clear hd hF; refine wpOp_step rfl (fun K' hK => ?_); go_simp; exact hK _ _ ⟨_, rfl, Below.refl _ _, cst_ok⟩
              apply RegW.val 15 rfl
              · intro a w' hF hB hd; have v6 : a.tmps[132]?.getD undef = _ := hd 6 (of_decide_eq_true (by kernel_rfl)) 8 _ _ rfl rfl; have v14 : a.tmps[140]?.getD undef = _ := hd 14 (of_decide_eq_true (by kernel_rfl)) 0 _ _ rfl rfl; have gd := tmp_bool v6; clear hd hF; refine wpOp_step rfl (fun K' hK => ?_); go_simp; exact hK _ _ ⟨_, rfl, Below.refl _ _, cst_ok⟩
              apply RegW.val 16 rfl
              · intro a w' hF hB hd; have v15 : a.tmps[141]?.getD undef = _ := hd 15 (of_decide_eq_true (by kernel_rfl)) 0 _ _ rfl rfl; have gd := tmp_bool v15; have e5 := hF.2.2 5 (by decide); simp at e5; clear hd hF; obtain ⟨x0, x1, x2, x3, x4, x5, x6, x7, x8, x9, x10⟩ := HT.out.held hB; refine wpOp_step rfl (fun K' hK => ?_); go_simp; exact hK _ _ ⟨_, rfl, Below.refl _ _, cst_ok⟩
              apply RegW.val 17 rfl
              · intro a w' hF hB hd; have v15 : a.tmps[141]?.getD undef = _ := hd 15 (of_decide_eq_true (by kernel_rfl)) 1 _ _ rfl rfl; have gd := tmp_bool v15; have e6 := hF.2.2 6 (by decide); simp at e6; clear hd hF; obtain ⟨x0, x1, x2, x3, x4, x5, x6, x7, x8, x9, x10⟩ := HT.out.held hB; refine wpOp_step rfl (fun K' hK => ?_); go_simp; exact hK _ _ ⟨_, rfl, Below.refl _ _, cst_ok⟩
              apply RegW.val 18 rfl
              · intro a w' hF hB hd; have v15 : a.tmps[141]?.getD undef = _ := hd 15 (of_decide_eq_true (by kernel_rfl)) 2 _ _ rfl rfl; have v16 : a.tmps[142]?.getD undef = _ := hd 16 (of_decide_eq_true (by kernel_rfl)) 1 _ _ rfl rfl; have v17 : a.tmps[143]?.getD undef = _ := hd 17 (of_decide_eq_true (by kernel_rfl)) 0 _ _ rfl rfl; have gd := tmp_bool v15; clear hd hF; refine wpOp_step rfl (fun K' hK => ?_); go_simp; (first | exact hK _ _ ⟨_, rfl, Below.refl _ _, cst_ok⟩ | (with_reducible refine (narrow_c _ _ _ _ _).mono ?_; rintro e w1 ⟨rfl, hb⟩; exact hK _ _ ⟨_, rfl, hb, cst_ok⟩))
              apply RegW.val 19 rfl
              · intro a w' hF hB hd; have v15 : a.tmps[141]?.getD undef = _ := hd 15 (of_decide_eq_true (by kernel_rfl)) 3 _ _ rfl rfl; have gd := tmp_bool v15; have e3 := hF.2.2 3 (by decide); simp at e3; clear hd hF; refine wpOp_step rfl (fun K' hK => ?_); go_simp; exact hK _ _ ⟨_, rfl, Below.refl _ _, cst_ok⟩
              apply RegW.val 20 rfl
              · intro a w' hF hB hd; have v15 : a.tmps[141]?.getD undef = _ := hd 15 (of_decide_eq_true (by kernel_rfl)) 4 _ _ rfl rfl; have v18 : a.tmps[144]?.getD undef = _ := hd 18 (of_decide_eq_true (by kernel_rfl)) 1 _ _ rfl rfl; have v19 : a.tmps[145]?.getD undef = _ := hd 19 (of_decide_eq_true (by kernel_rfl)) 0 _ _ rfl rfl; have gd := tmp_bool v15; clear hd hF; refine wpOp_step rfl (fun K' hK => ?_); go_simp; (first | exact hK _ _ ⟨_, rfl, Below.refl _ _, cst_ok⟩ | (with_reducible refine (has_v hx _).mono ?_; rintro e w1 ⟨rfl, hb⟩; exact hK _ _ ⟨_, rfl, hb, cst_ok⟩))
              apply RegW.val 21 rfl
              · intro a w' hF hB hd; have v15 : a.tmps[141]?.getD undef = _ := hd 15 (of_decide_eq_true (by kernel_rfl)) 5 _ _ rfl rfl; have v20 : a.tmps[146]?.getD undef = _ := hd 20 (of_decide_eq_true (by kernel_rfl)) 0 _ _ rfl rfl; have gd := tmp_bool v15; clear hd hF; refine wpOp_step rfl (fun K' hK => ?_); go_simp; exact hK _ _ ⟨_, rfl, Below.refl _ _, cst_ok⟩
              apply RegW.val 22 rfl
              · intro a w' hF hB hd; have v6 : a.tmps[132]?.getD undef = _ := hd 6 (of_decide_eq_true (by kernel_rfl)) 15 _ _ rfl rfl; have v15 : a.tmps[141]?.getD undef = _ := hd 15 (of_decide_eq_true (by kernel_rfl)) 6 _ _ rfl rfl; have v21 : a.tmps[147]?.getD undef = _ := hd 21 (of_decide_eq_true (by kernel_rfl)) 0 _ _ rfl rfl; have gd := tmp_bool v6; clear hd hF; refine wpOp_step rfl (fun K' hK => ?_); go_simp; exact hK _ _ ⟨_, rfl, Below.refl _ _, cst_ok⟩
              apply RegW.val 23 rfl
              · intro a w' hF hB hd; have v6 : a.tmps[132]?.getD undef = _ := hd 6 (of_decide_eq_true (by kernel_rfl)) 16 _ _ rfl rfl; have v22 : a.tmps[148]?.getD undef = _ := hd 22 (of_decide_eq_true (by kernel_rfl)) 0 _ _ rfl rfl; clear hd hF; refine wpOp_step rfl (fun K' hK => ?_); go_simp; exact hK _ _ ⟨_, rfl, Below.refl _ _, cst_ok⟩
              apply RegW.val 24 rfl
              · intro a w' hF hB hd; have v23 : a.tmps[149]?.getD undef = _ := hd 23 (of_decide_eq_true (by kernel_rfl)) 0 _ _ rfl rfl; clear hd hF; refine wpOp_step rfl (fun K' hK => ?_); go_simp; exact hK _ _ ⟨_, rfl, Below.refl _ _, cst_ok⟩
              apply RegW.val 25 rfl
              · intro a w' hF hB hd; have v24 : a.tmps[150]?.getD undef = _ := hd 24 (of_decide_eq_true (by kernel_rfl)) 0 _ _ rfl rfl; have gd := tmp_bool v24; have e6 := hF.2.2 6 (by decide); simp at e6; clear hd hF; obtain ⟨x0, x1, x2, x3, x4, x5, x6, x7, x8, x9, x10⟩ := HT.out.held hB; refine wpOp_step rfl (fun K' hK => ?_); go_simp; exact hK _ _ ⟨_, rfl, Below.refl _ _, cst_ok⟩
              apply RegW.val 26 rfl
              · intro a w' hF hB hd; have v24 : a.tmps[150]?.getD undef = _ := hd 24 (of_decide_eq_true (by kernel_rfl)) 1 _ _ rfl rfl; have gd := tmp_bool v24; have e5 := hF.2.2 5 (by decide); simp at e5; clear hd hF; obtain ⟨x0, x1, x2, x3, x4, x5, x6, x7, x8, x9, x10⟩ := HT.out.held hB; refine wpOp_step rfl (fun K' hK => ?_); go_simp; exact hK _ _ ⟨_, rfl, Below.refl _ _, cst_ok⟩
              apply RegW.val 27 rfl
              · intro a w' hF hB hd; have v24 : a.tmps[150]?.getD undef = _ := hd 24 (of_decide_eq_true (by kernel_rfl)) 2 _ _ rfl rfl; have v25 : a.tmps[151]?.getD undef = _ := hd 25 (of_decide_eq_true (by kernel_rfl)) 1 _ _ rfl rfl; have v26 : a.tmps[152]?.getD undef = _ := hd 26 (of_decide_eq_true (by kernel_rfl)) 0 _ _ rfl rfl; have gd := tmp_bool v24; clear hd hF; refine wpOp_step rfl (fun K' hK => ?_); go_simp; (first | exact hK _ _ ⟨_, rfl, Below.refl _ _, cst_ok⟩ | (with_reducible refine (within_c _ _ _ _ _).mono ?_; rintro e w1 ⟨rfl, hb⟩; exact hK _ _ ⟨_, rfl, hb, cst_ok⟩))
              apply RegW.val 28 rfl
              · intro a w' hF hB hd; have v24 : a.tmps[150]?.getD undef = _ := hd 24 (of_decide_eq_true (by kernel_rfl)) 3 _ _ rfl rfl; have v27 : a.tmps[153]?.getD undef = _ := hd 27 (of_decide_eq_true (by kernel_rfl)) 0 _ _ rfl rfl; have gd := tmp_bool v24; clear hd hF; refine wpOp_step rfl (fun K' hK => ?_); go_simp; exact hK _ _ ⟨_, rfl, Below.refl _ _, cst_ok⟩
              apply RegW.val 29 rfl
              · intro a w' hF hB hd; have v28 : a.tmps[154]?.getD undef = _ := hd 28 (of_decide_eq_true (by kernel_rfl)) 0 _ _ rfl rfl; have gd := tmp_bool v28; have e5 := hF.2.2 5 (by decide); simp at e5; clear hd hF; obtain ⟨x0, x1, x2, x3, x4, x5, x6, x7, x8, x9, x10⟩ := HT.out.held hB; refine wpOp_step rfl (fun K' hK => ?_); go_simp; exact hK _ _ ⟨_, rfl, Below.refl _ _, cst_ok⟩
              apply RegW.val 30 rfl
              · intro a w' hF hB hd; have v28 : a.tmps[154]?.getD undef = _ := hd 28 (of_decide_eq_true (by kernel_rfl)) 1 _ _ rfl rfl; have gd := tmp_bool v28; have e6 := hF.2.2 6 (by decide); simp at e6; clear hd hF; obtain ⟨x0, x1, x2, x3, x4, x5, x6, x7, x8, x9, x10⟩ := HT.out.held hB; refine wpOp_step rfl (fun K' hK => ?_); go_simp; exact hK _ _ ⟨_, rfl, Below.refl _ _, cst_ok⟩
              apply RegW.val 31 rfl
              · intro a w' hF hB hd; have v28 : a.tmps[154]?.getD undef = _ := hd 28 (of_decide_eq_true (by kernel_rfl)) 2 _ _ rfl rfl; have v29 : a.tmps[155]?.getD undef = _ := hd 29 (of_decide_eq_true (by kernel_rfl)) 1 _ _ rfl rfl; have v30 : a.tmps[156]?.getD undef = _ := hd 30 (of_decide_eq_true (by kernel_rfl)) 0 _ _ rfl rfl; have gd := tmp_bool v28; clear hd hF; refine wpOp_step rfl (fun K' hK => ?_); go_simp; (first | exact hK _ _ ⟨_, rfl, Below.refl _ _, cst_ok⟩ | (with_reducible refine (narrow_c _ _ _ _ _).mono ?_; rintro e w1 ⟨rfl, hb⟩; exact hK _ _ ⟨_, rfl, hb, cst_ok⟩))
              apply RegW.val 32 rfl
              · intro a w' hF hB hd; have v28 : a.tmps[154]?.getD undef = _ := hd 28 (of_decide_eq_true (by kernel_rfl)) 3 _ _ rfl rfl; have gd := tmp_bool v28; have e5 := hF.2.2 5 (by decide); simp at e5; clear hd hF; obtain ⟨x0, x1, x2, x3, x4, x5, x6, x7, x8, x9, x10⟩ := HT.out.held hB; refine wpOp_step rfl (fun K' hK => ?_); go_simp; exact hK _ _ ⟨_, rfl, Below.refl _ _, cst_ok⟩
              apply RegW.val 33 rfl
              · intro a w' hF hB hd; have v28 : a.tmps[154]?.getD undef = _ := hd 28 (of_decide_eq_true (by kernel_rfl)) 4 _ _ rfl rfl; have v31 : a.tmps[157]?.getD undef = _ := hd 31 (of_decide_eq_true (by kernel_rfl)) 1 _ _ rfl rfl; have v32 : a.tmps[158]?.getD undef = _ := hd 32 (of_decide_eq_true (by kernel_rfl)) 0 _ _ rfl rfl; have gd := tmp_bool v28; clear hd hF; refine wpOp_step rfl (fun K' hK => ?_); go_simp; (first | exact hK _ _ ⟨_, rfl, Below.refl _ _, cst_ok⟩ | (with_reducible refine (within_c _ _ _ _ _).mono ?_; rintro e w1 ⟨rfl, hb⟩; exact hK _ _ ⟨_, rfl, hb, cst_ok⟩))
              apply RegW.val 34 rfl
              · intro a w' hF hB hd; have v28 : a.tmps[154]?.getD undef = _ := hd 28 (of_decide_eq_true (by kernel_rfl)) 5 _ _ rfl rfl; have v33 : a.tmps[159]?.getD undef = _ := hd 33 (of_decide_eq_true (by kernel_rfl)) 0 _ _ rfl rfl; have gd := tmp_bool v28; clear hd hF; refine wpOp_step rfl (fun K' hK => ?_); go_simp; exact hK _ _ ⟨_, rfl, Below.refl _ _, cst_ok⟩
              apply RegW.val 35 rfl
              · intro a w' hF hB hd; have v24 : a.tmps[150]?.getD undef = _ := hd 24 (of_decide_eq_true (by kernel_rfl)) 10 _ _ rfl rfl; have v28 : a.tmps[154]?.getD undef = _ := hd 28 (of_decide_eq_true (by kernel_rfl)) 6 _ _ rfl rfl; have v34 : a.tmps[160]?.getD undef = _ := hd 34 (of_decide_eq_true (by kernel_rfl)) 0 _ _ rfl rfl; have gd := tmp_bool v24; clear hd hF; refine wpOp_step rfl (fun K' hK => ?_); go_simp; exact hK _ _ ⟨_, rfl, Below.refl _ _, cst_ok⟩
              apply RegW.val 36 rfl
              · intro a w' hF hB hd; have v24 : a.tmps[150]?.getD undef = _ := hd 24 (of_decide_eq_true (by kernel_rfl)) 11 _ _ rfl rfl; have v35 : a.tmps[161]?.getD undef = _ := hd 35 (of_decide_eq_true (by kernel_rfl)) 0 _ _ rfl rfl; clear hd hF; refine wpOp_step rfl (fun K' hK => ?_); go_simp; exact hK _ _ ⟨_, rfl, Below.refl _ _, cst_ok⟩
              refine RegW.done (fun a w' hF hB hv => ?_)
              have v0 : a.tmps[126]?.getD undef = _ := hv 36 _ _ rfl
              have v1 : a.tmps[127]?.getD undef = _ := hv 35 _ _ rfl
              have v2 : a.tmps[128]?.getD undef = _ := hv 34 _ _ rfl
              have v3 : a.tmps[129]?.getD undef = _ := hv 33 _ _ rfl
              have v4 : a.tmps[130]?.getD undef = _ := hv 32 _ _ rfl
              have v5 : a.tmps[131]?.getD undef = _ := hv 31 _ _ rfl
              have v6 : a.tmps[132]?.getD undef = _ := hv 30 _ _ rfl
              have v7 : a.tmps[133]?.getD undef = _ := hv 29 _ _ rfl
              have v8 : a.tmps[134]?.getD undef = _ := hv 28 _ _ rfl
              have v9 : a.tmps[135]?.getD undef = _ := hv 27 _ _ rfl
              have v10 : a.tmps[136]?.getD undef = _ := hv 26 _ _ rfl
              have v11 : a.tmps[137]?.getD undef = _ := hv 25 _ _ rfl
              have v12 : a.tmps[138]?.getD undef = _ := hv 24 _ _ rfl
              have v13 : a.tmps[139]?.getD undef = _ := hv 23 _ _ rfl
              have v14 : a.tmps[140]?.getD undef = _ := hv 22 _ _ rfl
              have v15 : a.tmps[141]?.getD undef = _ := hv 21 _ _ rfl
              have v16 : a.tmps[142]?.getD undef = _ := hv 20 _ _ rfl
              have v17 : a.tmps[143]?.getD undef = _ := hv 19 _ _ rfl
              have v18 : a.tmps[144]?.getD undef = _ := hv 18 _ _ rfl
              have v19 : a.tmps[145]?.getD undef = _ := hv 17 _ _ rfl
              have v20 : a.tmps[146]?.getD undef = _ := hv 16 _ _ rfl
              have v21 : a.tmps[147]?.getD undef = _ := hv 15 _ _ rfl
              have v22 : a.tmps[148]?.getD undef = _ := hv 14 _ _ rfl
              have v23 : a.tmps[149]?.getD undef = _ := hv 13 _ _ rfl
              have v24 : a.tmps[150]?.getD undef = _ := hv 12 _ _ rfl
              have v25 : a.tmps[151]?.getD undef = _ := hv 11 _ _ rfl
              have v26 : a.tmps[152]?.getD undef = _ := hv 10 _ _ rfl
              have v27 : a.tmps[153]?.getD undef = _ := hv 9 _ _ rfl
              have v28 : a.tmps[154]?.getD undef = _ := hv 8 _ _ rfl
              have v29 : a.tmps[155]?.getD undef = _ := hv 7 _ _ rfl
              have v30 : a.tmps[156]?.getD undef = _ := hv 6 _ _ rfl
              have v31 : a.tmps[157]?.getD undef = _ := hv 5 _ _ rfl
              have v32 : a.tmps[158]?.getD undef = _ := hv 4 _ _ rfl
              have v33 : a.tmps[159]?.getD undef = _ := hv 3 _ _ rfl
              have v34 : a.tmps[160]?.getD undef = _ := hv 2 _ _ rfl
              have v35 : a.tmps[161]?.getD undef = _ := hv 1 _ _ rfl
              have v36 : a.tmps[162]?.getD undef = _ := hv 0 _ _ rfl
              have hE := hF.out
              rw [hE]
              clear hE hF hv
              simp only [List.foldl_cons, List.foldl_nil, Act.put, List.setIfInBounds_toArray, List.set_cons_zero, List.set_cons_succ, Array.getD_eq_getD_getElem?, v0, v1, v2, v3, v4, v5, v6, v7, v8, v9, v10, v11, v12, v13, v14, v15, v16, v17, v18, v19, v20, v21, v22, v23, v24, v25, v26, v27, v28, v29, v30, v31, v32, v33, v34, v35, v36]
              clear v0 v1 v2 v3 v4 v5 v6 v7 v8 v9 v10 v11 v12 v13 v14 v15 v16 v17 v18 v19 v20 v21 v22 v23 v24 v25 v26 v27 v28 v29 v30 v31 v32 v33 v34 v35 v36
              have hE0 := hB
              clear hB
              go_wp2_with fail
              go_meet
              exact ⟨rfl, HT.out.step hE0⟩
            · have hvn : withinB (nlo a1 a2 b1 b2) (nhi a1 a2 b1 b2) a1 a2 = true := by rcases HNW.out with h | h; exact h; rw [hv] at h; cases h
              refine wp_region_walk [0, 1, 2, 3, 4, 5, 6, 7, 8, 9, 10, 11, 12, 13, 14, 15, 16, 17, 18, 19, 20, 21, 22, 23, 24, 25, 26, 27, 28, 29, 30, 31, 32, 33, 34, 35, 36] [126, 127, 128, 129, 130, 131, 132, 133, 134, 135, 136, 137, 138, 139, 140, 141, 142, 143, 144, 145, 146, 147, 148, 149, 150, 151, 152, 153, 154, 155, 156, 157, 158, 159, 160, 161, 162] 0 (by kernel_rfl) (by kernel_rfl) (by kernel_rfl) rfl (by simp) (by kernel_rfl) (by kernel_rfl) ?_
              apply RegW.val 0 rfl
              · intro a w' hF hB hd; have e11 := hF.2.2 11 (by decide); simp at e11; clear hd hF; obtain ⟨x0, x1, x2, x3, x4, x5, x6, x7, x8, x9, x10⟩ := HT.out.held hB; refine wpOp_step rfl (fun K' hK => ?_); go_simp; exact hK _ _ ⟨_, rfl, Below.refl _ _, cst_ok⟩
              apply RegW.val 1 rfl
              · intro a w' hF hB hd; have e5 := hF.2.2 5 (by decide); simp at e5; clear hd hF; obtain ⟨x0, x1, x2, x3, x4, x5, x6, x7, x8, x9, x10⟩ := HT.out.held hB; refine wpOp_step rfl (fun K' hK => ?_); go_simp; exact hK _ _ ⟨_, rfl, Below.refl _ _, cst_ok⟩
              apply RegW.val 2 rfl
              · intro a w' hF hB hd; have e6 := hF.2.2 6 (by decide); simp at e6; clear hd hF; obtain ⟨x0, x1, x2, x3, x4, x5, x6, x7, x8, x9, x10⟩ := HT.out.held hB; refine wpOp_step rfl (fun K' hK => ?_); go_simp; exact hK _ _ ⟨_, rfl, Below.refl _ _, cst_ok⟩
              apply RegW.val 3 rfl
              · intro a w' hF hB hd; have v1 : a.tmps[127]?.getD undef = _ := hd 1 (of_decide_eq_true (by kernel_rfl)) 1 _ _ rfl rfl; have v2 : a.tmps[128]?.getD undef = _ := hd 2 (of_decide_eq_true (by kernel_rfl)) 0 _ _ rfl rfl; clear hd hF; refine wpOp_step rfl (fun K' hK => ?_); go_simp; (first | (with_reducible refine (widen_c _ _ _ _ _).mono ?_; rintro e w1 ⟨rfl, hb⟩; exact hK _ _ ⟨_, rfl, hb, cst_ok⟩))
              apply RegW.val 4 rfl
              · intro a w' hF hB hd; have v0 : a.tmps[126]?.getD undef = _ := hd 0 (of_decide_eq_true (by kernel_rfl)) 3 _ _ rfl rfl; have v3 : a.tmps[129]?.getD undef = _ := hd 3 (of_decide_eq_true (by kernel_rfl)) 0 _ _ rfl rfl; clear hd hF; refine wpOp_step rfl (fun K' hK => ?_); go_simp; (first | (with_reducible refine (within_c _ _ _ _ _).mono ?_; rintro e w1 ⟨rfl, hb⟩; exact hK _ _ ⟨_, rfl, hb, cst_ok⟩))
              apply RegW.val 5 rfl
              · intro a w' hF hB hd; have v4 : a.tmps[130]?.getD undef = _ := hd 4 (of_decide_eq_true (by kernel_rfl)) 0 _ _ rfl rfl; clear hd hF; refine wpOp_step rfl (fun K' hK => ?_); go_simp; exact hK _ _ ⟨_, rfl, Below.refl _ _, cst_ok⟩
              apply RegW.val 6 rfl
              · intro a w' hF hB hd; have v5 : a.tmps[131]?.getD undef = _ := hd 5 (of_decide_eq_true (by kernel_rfl)) 0 _ _ rfl rfl; clear hd hF; refine wpOp_step rfl (fun K' hK => ?_); go_simp; exact hK _ _ ⟨_, rfl, Below.refl _ _, cst_ok⟩
              apply RegW.val 7 rfl
              · intro a w' hF hB hd; have v6 : a.tmps[132]?.getD undef = _ := hd 6 (of_decide_eq_true (by kernel_rfl)) 0 _ _ rfl rfl; have gd := tmp_bool v6; have e5 := hF.2.2 5 (by decide); simp at e5; clear hd hF; obtain ⟨x0, x1, x2, x3, x4, x5, x6, x7, x8, x9, x10⟩ := HT.out.held hB; refine wpOp_step rfl (fun K' hK => ?_); go_simp; exact hK _ _ ⟨_, rfl, Below.refl _ _, cst_ok⟩
              apply RegW.val 8 rfl
              · intro a w' hF hB hd; have v6 : a.tmps[132]?.getD undef = _ := hd 6 (of_decide_eq_true (by kernel_rfl)) 1 _ _ rfl rfl; have gd := tmp_bool v6; have e3 := hF.2.2 3 (by decide); simp at e3; clear hd hF; refine wpOp_step rfl (fun K' hK => ?_); go_simp; exact hK _ _ ⟨_, rfl, Below.refl _ _, cst_ok⟩
              apply RegW.val 9 rfl
              · intro a w' hF hB hd; have v6 : a.tmps[132]?.getD undef = _ := hd 6 (of_decide_eq_true (by kernel_rfl)) 2 _ _ rfl rfl; have v7 : a.tmps[133]?.getD undef = _ := hd 7 (of_decide_eq_true (by kernel_rfl)) 1 _ _ rfl rfl; have v8 : a.tmps[134]?.getD undef = _ := hd 8 (of_decide_eq_true (by kernel_rfl)) 0 _ _ rfl rfl; have gd := tmp_bool v6; clear hd hF; refine wpOp_step rfl (fun K' hK => ?_); go_simp; (first | exact hK _ _ ⟨_, rfl, Below.refl _ _, cst_ok⟩ | (with_reducible refine (has_v hx _).mono ?_; rintro e w1 ⟨rfl, hb⟩; exact hK _ _ ⟨_, rfl, hb, cst_ok⟩))
              apply RegW.val 10 rfl
              · intro a w' hF hB hd; have v6 : a.tmps[132]?.getD undef = _ := hd 6 (of_decide_eq_true (by kernel_rfl)) 3 _ _ rfl rfl; have v9 : a.tmps[135]?.getD undef = _ := hd 9 (of_decide_eq_true (by kernel_rfl)) 0 _ _ rfl rfl; have gd := tmp_bool v6; clear hd hF; refine wpOp_step rfl (fun K' hK => ?_); go_simp; exact hK _ _ ⟨_, rfl, Below.refl _ _, cst_ok⟩
              apply RegW.val 11 rfl
              · intro a w' hF hB hd; have v10 : a.tmps[136]?.getD undef = _ := hd 10 (of_decide_eq_true (by kernel_rfl)) 0 _ _ rfl rfl; have gd := tmp_bool v10; have e6 := hF.2.2 6 (by decide); simp at e6; clear hd hF; obtain ⟨x0, x1, x2, x3, x4, x5, x6, x7, x8, x9, x10⟩ := HT.out.held hB; refine wpOp_step rfl (fun K' hK => ?_); go_simp; exact hK _ _ ⟨_, rfl, Below.refl _ _, cst_ok⟩
              apply RegW.val 12 rfl
              · intro a w' hF hB hd; have v10 : a.tmps[136]?.getD undef = _ := hd 10 (of_decide_eq_true (by kernel_rfl)) 1 _ _ rfl rfl; have gd := tmp_bool v10; have e3 := hF.2.2 3 (by decide); simp at e3; clear hd hF; refine wpOp_step rfl (fun K' hK => ?_); go_simp; exact hK _ _ ⟨_, rfl, Below.refl _ _, cst_ok⟩
              apply RegW.val 13 rfl
              · intro a w' hF hB hd; have v10 : a.tmps[136]?.getD undef = _ := hd 10 (of_decide_eq_true (by kernel_rfl)) 2 _ _ rfl rfl; have v11 : a.tmps[137]?.getD undef = _ := hd 11 (of_decide_eq_true (by kernel_rfl)) 1 _ _ rfl rfl; have v12 : a.tmps[138]?.getD undef = _ := hd 12 (of_decide_eq_true (by kernel_rfl)) 0 _ _ rfl rfl; have gd := tmp_bool v10; clear hd hF; refine wpOp_step rfl (fun K' hK => ?_); go_simp; (first | exact hK _ _ ⟨_, rfl, Below.refl _ _, cst_ok⟩ | (with_reducible refine (has_v hx _).mono ?_; rintro e w1 ⟨rfl, hb⟩; exact hK _ _ ⟨_, rfl, hb, cst_ok⟩))
              apply RegW.val 14 rfl
              · intro a w' hF hB hd; have v6 : a.tmps[132]?.getD undef = _ := hd 6 (of_decide_eq_true (by kernel_rfl)) 7 _ _ rfl rfl; have v10 : a.tmps[136]?.getD undef = _ := hd 10 (of_decide_eq_true (by kernel_rfl)) 3 _ _ rfl rfl; have v13 : a.tmps[139]?.getD undef = _ := hd 13 (of_decide_eq_true (by kernel_rfl)) 0 _ _ rfl rfl; have gd := tmp_bool v6; clear hd hF; refine wpOp_step rfl (fun K' hK => ?_); go_simp; exact hK _ _ ⟨_, rfl, Below.refl _ _, cst_ok⟩
              apply RegW.val 15 rfl
              · intro a w' hF hB hd; have v6 : a.tmps[132]?.getD undef = _ := hd 6 (of_decide_eq_true (by kernel_rfl)) 8 _ _ rfl rfl; have v14 : a.tmps[140]?.getD undef = _ := hd 14 (of_decide_eq_true (by kernel_rfl)) 0 _ _ rfl rfl; have gd := tmp_bool v6; clear hd hF; refine wpOp_step rfl (fun K' hK => ?_); go_simp; exact hK _ _ ⟨_, rfl, Below.refl _ _, cst_ok⟩
              apply RegW.val 16 rfl
              · intro a w' hF hB hd; have v15 : a.tmps[141]?.getD undef = _ := hd 15 (of_decide_eq_true (by kernel_rfl)) 0 _ _ rfl rfl; have gd := tmp_bool v15; have e5 := hF.2.2 5 (by decide); simp at e5; clear hd hF; obtain ⟨x0, x1, x2, x3, x4, x5, x6, x7, x8, x9, x10⟩ := HT.out.held hB; refine wpOp_step rfl (fun K' hK => ?_); go_simp; exact hK _ _ ⟨_, rfl, Below.refl _ _, cst_ok⟩
              apply RegW.val 17 rfl
              · intro a w' hF hB hd; have v15 : a.tmps[141]?.getD undef = _ := hd 15 (of_decide_eq_true (by kernel_rfl)) 1 _ _ rfl rfl; have gd := tmp_bool v15; have e6 := hF.2.2 6 (by decide); simp at e6; clear hd hF; obtain ⟨x0, x1, x2, x3, x4, x5, x6, x7, x8, x9, x10⟩ := HT.out.held hB; refine wpOp_step rfl (fun K' hK => ?_); go_simp; exact hK _ _ ⟨_, rfl, Below.refl _ _, cst_ok⟩
              apply RegW.val 18 rfl
              · intro a w' hF hB hd; have v15 : a.tmps[141]?.getD undef = _ := hd 15 (of_decide_eq_true (by kernel_rfl)) 2 _ _ rfl rfl; have v16 : a.tmps[142]?.getD undef = _ := hd 16 (of_decide_eq_true (by kernel_rfl)) 1 _ _ rfl rfl; have v17 : a.tmps[143]?.getD undef = _ := hd 17 (of_decide_eq_true (by kernel_rfl)) 0 _ _ rfl rfl; have gd := tmp_bool v15; clear hd hF; refine wpOp_step rfl (fun K' hK => ?_); go_simp; (first | exact hK _ _ ⟨_, rfl, Below.refl _ _, cst_ok⟩ | (with_reducible refine (narrow_c _ _ _ _ _).mono ?_; rintro e w1 ⟨rfl, hb⟩; exact hK _ _ ⟨_, rfl, hb, cst_ok⟩))
              apply RegW.val 19 rfl
              · intro a w' hF hB hd; have v15 : a.tmps[141]?.getD undef = _ := hd 15 (of_decide_eq_true (by kernel_rfl)) 3 _ _ rfl rfl; have gd := tmp_bool v15; have e3 := hF.2.2 3 (by decide); simp at e3; clear hd hF; refine wpOp_step rfl (fun K' hK => ?_); go_simp; exact hK _ _ ⟨_, rfl, Below.refl _ _, cst_ok⟩
              apply RegW.val 20 rfl
              · intro a w' hF hB hd; have v15 : a.tmps[141]?.getD undef = _ := hd 15 (of_decide_eq_true (by kernel_rfl)) 4 _ _ rfl rfl; have v18 : a.tmps[144]?.getD undef = _ := hd 18 (of_decide_eq_true (by kernel_rfl)) 1 _ _ rfl rfl; have v19 : a.tmps[145]?.getD undef = _ := hd 19 (of_decide_eq_true (by kernel_rfl)) 0 _ _ rfl rfl; have gd := tmp_bool v15; clear hd hF; refine wpOp_step rfl (fun K' hK => ?_); go_simp; (first | exact hK _ _ ⟨_, rfl, Below.refl _ _, cst_ok⟩ | (with_reducible refine (has_v hx _).mono ?_; rintro e w1 ⟨rfl, hb⟩; exact hK _ _ ⟨_, rfl, hb, cst_ok⟩))
              apply RegW.val 21 rfl
              · intro a w' hF hB hd; have v15 : a.tmps[141]?.getD undef = _ := hd 15 (of_decide_eq_true (by kernel_rfl)) 5 _ _ rfl rfl; have v20 : a.tmps[146]?.getD undef = _ := hd 20 (of_decide_eq_true (by kernel_rfl)) 0 _ _ rfl rfl; have gd := tmp_bool v15; clear hd hF; refine wpOp_step rfl (fun K' hK => ?_); go_simp; exact hK _ _ ⟨_, rfl, Below.refl _ _, cst_ok⟩
              apply RegW.val 22 rfl
              · intro a w' hF hB hd; have v6 : a.tmps[132]?.getD undef = _ := hd 6 (of_decide_eq_true (by kernel_rfl)) 15 _ _ rfl rfl; have v15 : a.tmps[141]?.getD undef = _ := hd 15 (of_decide_eq_true (by kernel_rfl)) 6 _ _ rfl rfl; have v21 : a.tmps[147]?.getD undef = _ := hd 21 (of_decide_eq_true (by kernel_rfl)) 0 _ _ rfl rfl; have gd := tmp_bool v6; clear hd hF; refine wpOp_step rfl (fun K' hK => ?_); go_simp; exact hK _ _ ⟨_, rfl, Below.refl _ _, cst_ok⟩
              apply RegW.val 23 rfl
              · intro a w' hF hB hd; have v6 : a.tmps[132]?.getD undef = _ := hd 6 (of_decide_eq_true (by kernel_rfl)) 16 _ _ rfl rfl; have v22 : a.tmps[148]?.getD undef = _ := hd 22 (of_decide_eq_true (by kernel_rfl)) 0 _ _ rfl rfl; clear hd hF; refine wpOp_step rfl (fun K' hK => ?_); go_simp; exact hK _ _ ⟨_, rfl, Below.refl _ _, cst_ok⟩
              apply RegW.val 24 rfl
              · intro a w' hF hB hd; have v23 : a.tmps[149]?.getD undef = _ := hd 23 (of_decide_eq_true (by kernel_rfl)) 0 _ _ rfl rfl; clear hd hF; refine wpOp_step rfl (fun K' hK => ?_); go_simp; exact hK _ _ ⟨_, rfl, Below.refl _ _, cst_ok⟩
              apply RegW.val 25 rfl
              · intro a w' hF hB hd; have v24 : a.tmps[150]?.getD undef = _ := hd 24 (of_decide_eq_true (by kernel_rfl)) 0 _ _ rfl rfl; have gd := tmp_bool v24; have e6 := hF.2.2 6 (by decide); simp at e6; clear hd hF; obtain ⟨x0, x1, x2, x3, x4, x5, x6, x7, x8, x9, x10⟩ := HT.out.held hB; refine wpOp_step rfl (fun K' hK => ?_); go_simp; exact hK _ _ ⟨_, rfl, Below.refl _ _, cst_ok⟩
              apply RegW.val 26 rfl
              · intro a w' hF hB hd; have v24 : a.tmps[150]?.getD undef = _ := hd 24 (of_decide_eq_true (by kernel_rfl)) 1 _ _ rfl rfl; have gd := tmp_bool v24; have e5 := hF.2.2 5 (by decide); simp at e5; clear hd hF; obtain ⟨x0, x1, x2, x3, x4, x5, x6, x7, x8, x9, x10⟩ := HT.out.held hB; refine wpOp_step rfl (fun K' hK => ?_); go_simp; exact hK _ _ ⟨_, rfl, Below.refl _ _, cst_ok⟩
              apply RegW.val 27 rfl
              · intro a w' hF hB hd; have v24 : a.tmps[150]?.getD undef = _ := hd 24 (of_decide_eq_true (by kernel_rfl)) 2 _ _ rfl rfl; have v25 : a.tmps[151]?.getD undef = _ := hd 25 (of_decide_eq_true (by kernel_rfl)) 1 _ _ rfl rfl; have v26 : a.tmps[152]?.getD undef = _ := hd 26 (of_decide_eq_true (by kernel_rfl)) 0 _ _ rfl rfl; have gd := tmp_bool v24; clear hd hF; refine wpOp_step rfl (fun K' hK => ?_); go_simp; (first | exact hK _ _ ⟨_, rfl, Below.refl _ _, cst_ok⟩ | (with_reducible refine (within_c _ _ _ _ _).mono ?_; rintro e w1 ⟨rfl, hb⟩; exact hK _ _ ⟨_, rfl, hb, cst_ok⟩))
              apply RegW.val 28 rfl
              · intro a w' hF hB hd; have v24 : a.tmps[150]?.getD undef = _ := hd 24 (of_decide_eq_true (by kernel_rfl)) 3 _ _ rfl rfl; have v27 : a.tmps[153]?.getD undef = _ := hd 27 (of_decide_eq_true (by kernel_rfl)) 0 _ _ rfl rfl; have gd := tmp_bool v24; clear hd hF; refine wpOp_step rfl (fun K' hK => ?_); go_simp; exact hK _ _ ⟨_, rfl, Below.refl _ _, cst_ok⟩
              apply RegW.val 29 rfl
              · intro a w' hF hB hd; have v28 : a.tmps[154]?.getD undef = _ := hd 28 (of_decide_eq_true (by kernel_rfl)) 0 _ _ rfl rfl; have gd := tmp_bool v28; have e5 := hF.2.2 5 (by decide); simp at e5; clear hd hF; obtain ⟨x0, x1, x2, x3, x4, x5, x6, x7, x8, x9, x10⟩ := HT.out.held hB; refine wpOp_step rfl (fun K' hK => ?_); go_simp; exact hK _ _ ⟨_, rfl, Below.refl _ _, cst_ok⟩
              apply RegW.val 30 rfl
              · intro a w' hF hB hd; have v28 : a.tmps[154]?.getD undef = _ := hd 28 (of_decide_eq_true (by kernel_rfl)) 1 _ _ rfl rfl; have gd := tmp_bool v28; have e6 := hF.2.2 6 (by decide); simp at e6; clear hd hF; obtain ⟨x0, x1, x2, x3, x4, x5, x6, x7, x8, x9, x10⟩ := HT.out.held hB; refine wpOp_step rfl (fun K' hK => ?_); go_simp; exact hK _ _ ⟨_, rfl, Below.refl _ _, cst_ok⟩
              apply RegW.val 31 rfl
              · intro a w' hF hB hd; have v28 : a.tmps[154]?.getD undef = _ := hd 28 (of_decide_eq_true (by kernel_rfl)) 2 _ _ rfl rfl; have v29 : a.tmps[155]?.getD undef = _ := hd 29 (of_decide_eq_true (by kernel_rfl)) 1 _ _ rfl rfl; have v30 : a.tmps[156]?.getD undef = _ := hd 30 (of_decide_eq_true (by kernel_rfl)) 0 _ _ rfl rfl; have gd := tmp_bool v28; clear hd hF; refine wpOp_step rfl (fun K' hK => ?_); go_simp; (first | exact hK _ _ ⟨_, rfl, Below.refl _ _, cst_ok⟩ | (with_reducible refine (narrow_c _ _ _ _ _).mono ?_; rintro e w1 ⟨rfl, hb⟩; exact hK _ _ ⟨_, rfl, hb, cst_ok⟩))
              apply RegW.val 32 rfl
              · intro a w' hF hB hd; have v28 : a.tmps[154]?.getD undef = _ := hd 28 (of_decide_eq_true (by kernel_rfl)) 3 _ _ rfl rfl; have gd := tmp_bool v28; have e5 := hF.2.2 5 (by decide); simp at e5; clear hd hF; obtain ⟨x0, x1, x2, x3, x4, x5, x6, x7, x8, x9, x10⟩ := HT.out.held hB; refine wpOp_step rfl (fun K' hK => ?_); go_simp; exact hK _ _ ⟨_, rfl, Below.refl _ _, cst_ok⟩
              apply RegW.val 33 rfl
              · intro a w' hF hB hd; have v28 : a.tmps[154]?.getD undef = _ := hd 28 (of_decide_eq_true (by kernel_rfl)) 4 _ _ rfl rfl; have v31 : a.tmps[157]?.getD undef = _ := hd 31 (of_decide_eq_true (by kernel_rfl)) 1 _ _ rfl rfl; have v32 : a.tmps[158]?.getD undef = _ := hd 32 (of_decide_eq_true (by kernel_rfl)) 0 _ _ rfl rfl; have gd := tmp_bool v28; clear hd hF; refine wpOp_step rfl (fun K' hK => ?_); go_simp; (first | exact hK _ _ ⟨_, rfl, Below.refl _ _, cst_ok⟩ | (with_reducible refine (within_c _ _ _ _ _).mono ?_; rintro e w1 ⟨rfl, hb⟩; exact hK _ _ ⟨_, rfl, hb, cst_ok⟩))
              apply RegW.val 34 rfl
              · intro a w' hF hB hd; have v28 : a.tmps[154]?.getD undef = _ := hd 28 (of_decide_eq_true (by kernel_rfl)) 5 _ _ rfl rfl; have v33 : a.tmps[159]?.getD undef = _ := hd 33 (of_decide_eq_true (by kernel_rfl)) 0 _ _ rfl rfl; have gd := tmp_bool v28; clear hd hF; refine wpOp_step rfl (fun K' hK => ?_); go_simp; exact hK _ _ ⟨_, rfl, Below.refl _ _, cst_ok⟩
              apply RegW.val 35 rfl
              · intro a w' hF hB hd; have v24 : a.tmps[150]?.getD undef = _ := hd 24 (of_decide_eq_true (by kernel_rfl)) 10 _ _ rfl rfl; have v28 : a.tmps[154]?.getD undef = _ := hd 28 (of_decide_eq_true (by kernel_rfl)) 6 _ _ rfl rfl; have v34 : a.tmps[160]?.getD undef = _ := hd 34 (of_decide_eq_true (by kernel_rfl)) 0 _ _ rfl rfl; have gd := tmp_bool v24; clear hd hF; refine wpOp_step rfl (fun K' hK => ?_); go_simp; exact hK _ _ ⟨_, rfl, Below.refl _ _, cst_ok⟩
              apply RegW.val 36 rfl
              · intro a w' hF hB hd; have v24 : a.tmps[150]?.getD undef = _ := hd 24 (of_decide_eq_true (by kernel_rfl)) 11 _ _ rfl rfl; have v35 : a.tmps[161]?.getD undef = _ := hd 35 (of_decide_eq_true (by kernel_rfl)) 0 _ _ rfl rfl; clear hd hF; refine wpOp_step rfl (fun K' hK => ?_); go_simp; exact hK _ _ ⟨_, rfl, Below.refl _ _, cst_ok⟩
              refine RegW.done (fun a w' hF hB hv => ?_)
              have v0 : a.tmps[126]?.getD undef = _ := hv 36 _ _ rfl
              have v1 : a.tmps[127]?.getD undef = _ := hv 35 _ _ rfl
              have v2 : a.tmps[128]?.getD undef = _ := hv 34 _ _ rfl
              have v3 : a.tmps[129]?.getD undef = _ := hv 33 _ _ rfl
              have v4 : a.tmps[130]?.getD undef = _ := hv 32 _ _ rfl
              have v5 : a.tmps[131]?.getD undef = _ := hv 31 _ _ rfl
              have v6 : a.tmps[132]?.getD undef = _ := hv 30 _ _ rfl
              have v7 : a.tmps[133]?.getD undef = _ := hv 29 _ _ rfl
              have v8 : a.tmps[134]?.getD undef = _ := hv 28 _ _ rfl
              have v9 : a.tmps[135]?.getD undef = _ := hv 27 _ _ rfl
              have v10 : a.tmps[136]?.getD undef = _ := hv 26 _ _ rfl
              have v11 : a.tmps[137]?.getD undef = _ := hv 25 _ _ rfl
              have v12 : a.tmps[138]?.getD undef = _ := hv 24 _ _ rfl
              have v13 : a.tmps[139]?.getD undef = _ := hv 23 _ _ rfl
              have v14 : a.tmps[140]?.getD undef = _ := hv 22 _ _ rfl
              have v15 : a.tmps[141]?.getD undef = _ := hv 21 _ _ rfl
              have v16 : a.tmps[142]?.getD undef = _ := hv 20 _ _ rfl
              have v17 : a.tmps[143]?.getD undef = _ := hv 19 _ _ rfl
              have v18 : a.tmps[144]?.getD undef = _ := hv 18 _ _ rfl
              have v19 : a.tmps[145]?.getD undef = _ := hv 17 _ _ rfl
              have v20 : a.tmps[146]?.getD undef = _ := hv 16 _ _ rfl
              have v21 : a.tmps[147]?.getD undef = _ := hv 15 _ _ rfl
              have v22 : a.tmps[148]?.getD undef = _ := hv 14 _ _ rfl
              have v23 : a.tmps[149]?.getD undef = _ := hv 13 _ _ rfl
              have v24 : a.tmps[150]?.getD undef = _ := hv 12 _ _ rfl
              have v25 : a.tmps[151]?.getD undef = _ := hv 11 _ _ rfl
              have v26 : a.tmps[152]?.getD undef = _ := hv 10 _ _ rfl
              have v27 : a.tmps[153]?.getD undef = _ := hv 9 _ _ rfl
              have v28 : a.tmps[154]?.getD undef = _ := hv 8 _ _ rfl
              have v29 : a.tmps[155]?.getD undef = _ := hv 7 _ _ rfl
              have v30 : a.tmps[156]?.getD undef = _ := hv 6 _ _ rfl
              have v31 : a.tmps[157]?.getD undef = _ := hv 5 _ _ rfl
              have v32 : a.tmps[158]?.getD undef = _ := hv 4 _ _ rfl
              have v33 : a.tmps[159]?.getD undef = _ := hv 3 _ _ rfl
              have v34 : a.tmps[160]?.getD undef = _ := hv 2 _ _ rfl
              have v35 : a.tmps[161]?.getD undef = _ := hv 1 _ _ rfl
              have v36 : a.tmps[162]?.getD undef = _ := hv 0 _ _ rfl
              have hE := hF.out
              rw [hE]
              clear hE hF hv
              simp only [List.foldl_cons, List.foldl_nil, Act.put, List.setIfInBounds_toArray, List.set_cons_zero, List.set_cons_succ, Array.getD_eq_getD_getElem?, v0, v1, v2, v3, v4, v5, v6, v7, v8, v9, v10, v11, v12, v13, v14, v15, v16, v17, v18, v19, v20, v21, v22, v23, v24, v25, v26, v27, v28, v29, v30, v31, v32, v33, v34, v35, v36]
              clear v0 v1 v2 v3 v4 v5 v6 v7 v8 v9 v10 v11 v12 v13 v14 v15 v16 v17 v18 v19 v20 v21 v22 v23 v24 v25 v26 v27 v28 v29 v30 v31 v32 v33 v34 v35 v36
              have hE0 := hB
              clear hB
              go_wp2_with fail
              go_meet
              exact ⟨rfl, HT.out.step hE0⟩
          · cases hy : hasB b1 b2 n
            · cases hv : withinB b1 b2 a1 a2
              · refine wp_region_walk [0, 1, 2, 3, 4, 5, 6, 7, 8, 9, 10, 11, 12, 13, 14, 15, 16, 17, 18, 19, 20, 21, 22, 23, 24, 25, 26, 27, 28, 29, 30, 31, 32, 33, 34, 35, 36] [126, 127, 128, 129, 130, 131, 132, 133, 134, 135, 136, 137, 138, 139, 140, 141, 142, 143, 144, 145, 146, 147, 148, 149, 150, 151, 152, 153, 154, 155, 156, 157, 158, 159, 160, 161, 162] 0 (by kernel_rfl) (by kernel_rfl) (by kernel_rfl) rfl (by simp) (by kernel_rfl) (by kernel_rfl) ?_
                apply RegW.val 0 rfl
                · intro a w' hF hB hd; have e11 := hF.2.2 11 (by decide); simp at e11; clear hd hF; obtain ⟨x0, x1, x2, x3, x4, x5, x6, x7, x8, x9, x10⟩ := HT.out.held hB; refine wpOp_step rfl (fun K' hK => ?_); go_simp; exact hK _ _ ⟨_, rfl, Below.refl _ _, cst_ok⟩
                apply RegW.val 1 rfl
                · intro a w' hF hB hd; have e5 := hF.2.2 5 (by decide); simp at e5; clear hd hF; obtain ⟨x0, x1, x2, x3, x4, x5, x6, x7, x8, x9, x10⟩ := HT.out.held hB; refine wpOp_step rfl (fun K' hK => ?_); go_simp; exact hK _ _ ⟨_, rfl, Below.refl _ _, cst_ok⟩
                apply RegW.val 2 rfl
                · intro a w' hF hB hd; have e6 := hF.2.2 6 (by decide); simp at e6; clear hd hF; obtain ⟨x0, x1, x2, x3, x4, x5, x6, x7, x8, x9, x10⟩ := HT.out.held hB; refine wpOp_step rfl (fun K' hK => ?_); go_simp; exact hK _ _ ⟨_, rfl, Below.refl _ _, cst_ok⟩
                apply RegW.val 3 rfl
                · intro a w' hF hB hd; have v1 : a.tmps[127]?.getD undef = _ := hd 1 (of_decide_eq_true (by kernel_rfl)) 1 _ _ rfl rfl; have v2 : a.tmps[128]?.getD undef = _ := hd 2 (of_decide_eq_true (by kernel_rfl)) 0 _ _ rfl rfl; clear hd hF; refine wpOp_step rfl (fun K' hK => ?_); go_simp; (first | (with_reducible refine (widen_c _ _ _ _ _).mono ?_; rintro e w1 ⟨rfl, hb⟩; exact hK _ _ ⟨_, rfl, hb, cst_ok⟩))
                apply RegW.val 4 rfl
                · intro a w' hF hB hd; have v0 : a.tmps[126]?.getD undef = _ := hd 0 (of_decide_eq_true (by kernel_rfl)) 3 _ _ rfl rfl; have v3 : a.tmps[129]?.getD undef = _ := hd 3 (of_decide_eq_true (by kernel_rfl)) 0 _ _ rfl rfl; clear hd hF; refine wpOp_step rfl (fun K' hK => ?_); go_simp; (first | (with_reducible refine (within_c _ _ _ _ _).mono ?_; rintro e w1 ⟨rfl, hb⟩; exact hK _ _ ⟨_, rfl, hb, cst_ok⟩))
                apply RegW.val 5 rfl
                · intro a w' hF hB hd; have v4 : a.tmps[130]?.getD undef = _ := hd 4 (of_decide_eq_true (by kernel_rfl)) 0 _ _ rfl rfl; clear hd hF; refine wpOp_step rfl (fun K' hK => ?_); go_simp; exact hK _ _ ⟨_, rfl, Below.refl _ _, cst_ok⟩
                apply RegW.val 6 rfl
                · intro a w' hF hB hd; have v5 : a.tmps[131]?.getD undef = _ := hd 5 (of_decide_eq_true (by kernel_rfl)) 0 _ _ rfl rfl; clear hd hF; refine wpOp_step rfl (fun K' hK => ?_); go_simp; exact hK _ _ ⟨_, rfl, Below.refl _ _, cst_ok⟩
                apply RegW.val 7 rfl
                · intro a w' hF hB hd; have v6 : a.tmps[132]?.getD undef = _ := hd 6 (of_decide_eq_true (by kernel_rfl)) 0 _ _ rfl rfl; have gd := tmp_bool v6; have e5 := hF.2.2 5 (by decide); simp at e5; clear hd hF; obtain ⟨x0, x1, x2, x3, x4, x5, x6, x7, x8, x9, x10⟩ := HT.out.held hB; refine wpOp_step rfl (fun K' hK => ?_); go_simp; exact hK _ _ ⟨_, rfl, Below.refl _ _, cst_ok⟩
                apply RegW.val 8 rfl
                · intro a w' hF hB hd; have v6 : a.tmps[132]?.getD undef = _ := hd 6 (of_decide_eq_true (by kernel_rfl)) 1 _ _ rfl rfl; have gd := tmp_bool v6; have e3 := hF.2.2 3 (by decide); simp at e3; clear hd hF; refine wpOp_step rfl (fun K' hK => ?_); go_simp; exact hK _ _ ⟨_, rfl, Below.refl _ _, cst_ok⟩
                apply RegW.val 9 rfl
                · intro a w' hF hB hd; have v6 : a.tmps[132]?.getD undef = _ := hd 6 (of_decide_eq_true (by kernel_rfl)) 2 _ _ rfl rfl; have v7 : a.tmps[133]?.getD undef = _ := hd 7 (of_decide_eq_true (by kernel_rfl)) 1 _ _ rfl rfl; have v8 : a.tmps[134]?.getD undef = _ := hd 8 (of_decide_eq_true (by kernel_rfl)) 0 _ _ rfl rfl; have gd := tmp_bool v6; clear hd hF; refine wpOp_step rfl (fun K' hK => ?_); go_simp; (first | exact hK _ _ ⟨_, rfl, Below.refl _ _, cst_ok⟩ | (with_reducible refine (has_v hx _).mono ?_; rintro e w1 ⟨rfl, hb⟩; exact hK _ _ ⟨_, rfl, hb, cst_ok⟩) | (with_reducible refine (has_v hy _).mono ?_; rintro e w1 ⟨rfl, hb⟩; exact hK _ _ ⟨_, rfl, hb, cst_ok⟩))
                apply RegW.val 10 rfl
                · intro a w' hF hB hd; have v6 : a.tmps[132]?.getD undef = _ := hd 6 (of_decide_eq_true (by kernel_rfl)) 3 _ _ rfl rfl; have v9 : a.tmps[135]?.getD undef = _ := hd 9 (of_decide_eq_true (by kernel_rfl)) 0 _ _ rfl rfl; have gd := tmp_bool v6; clear hd hF; refine wpOp_step rfl (fun K' hK => ?_); go_simp; exact hK _ _ ⟨_, rfl, Below.refl _ _, cst_ok⟩
                apply RegW.val 11 rfl
                · intro a w' hF hB hd; have v10 : a.tmps[136]?.getD undef = _ := hd 10 (of_decide_eq_true (by kernel_rfl)) 0 _ _ rfl rfl; have gd := tmp_bool v10; have e6 := hF.2.2 6 (by decide); simp at e6; clear hd hF; obtain ⟨x0, x1, x2, x3, x4, x5, x6, x7, x8, x9, x10⟩ := HT.out.held hB; refine wpOp_step rfl (fun K' hK => ?_); go_simp; exact hK _ _ ⟨_, rfl, Below.refl _ _, cst_ok⟩
                apply RegW.val 12 rfl
                · intro a w' hF hB hd; have v10 : a.tmps[136]?.getD undef = _ := hd 10 (of_decide_eq_true (by kernel_rfl)) 1 _ _ rfl rfl; have gd := tmp_bool v10; have e3 := hF.2.2 3 (by decide); simp at e3; clear hd hF; refine wpOp_step rfl (fun K' hK => ?_); go_simp; exact hK _ _ ⟨_, rfl, Below.refl _ _, cst_ok⟩
                apply RegW.val 13 rfl
                · intro a w' hF hB hd; have v10 : a.tmps[136]?.getD undef = _ := hd 10 (of_decide_eq_true (by kernel_rfl)) 2 _ _ rfl rfl; have v11 : a.tmps[137]?.getD undef = _ := hd 11 (of_decide_eq_true (by kernel_rfl)) 1 _ _ rfl rfl; have v12 : a.tmps[138]?.getD undef = _ := hd 12 (of_decide_eq_true (by kernel_rfl)) 0 _ _ rfl rfl; have gd := tmp_bool v10; clear hd hF; refine wpOp_step rfl (fun K' hK => ?_); go_simp; (first | exact hK _ _ ⟨_, rfl, Below.refl _ _, cst_ok⟩ | (with_reducible refine (has_v hx _).mono ?_; rintro e w1 ⟨rfl, hb⟩; exact hK _ _ ⟨_, rfl, hb, cst_ok⟩) | (with_reducible refine (has_v hy _).mono ?_; rintro e w1 ⟨rfl, hb⟩; exact hK _ _ ⟨_, rfl, hb, cst_ok⟩))
                apply RegW.val 14 rfl
                · intro a w' hF hB hd; have v6 : a.tmps[132]?.getD undef = _ := hd 6 (of_decide_eq_true (by kernel_rfl)) 7 _ _ rfl rfl; have v10 : a.tmps[136]?.getD undef = _ := hd 10 (of_decide_eq_true (by kernel_rfl)) 3 _ _ rfl rfl; have v13 : a.tmps[139]?.getD undef = _ := hd 13 (of_decide_eq_true (by kernel_rfl)) 0 _ _ rfl rfl; have gd := tmp_bool v6; clear hd hF; refine wpOp_step rfl (fun K' hK => ?_); go_simp; exact hK _ _ ⟨_, rfl, Below.refl _ _, cst_ok⟩
                apply RegW.val 15 rfl
                · intro a w' hF hB hd; have v6 : a.tmps[132]?.getD undef = _ := hd 6 (of_decide_eq_true (by kernel_rfl)) 8 _ _ rfl rfl; have v14 : a.tmps[140]?.getD undef = _ := hd 14 (of_decide_eq_true (by kernel_rfl)) 0 _ _ rfl rfl; have gd := tmp_bool v6; clear hd hF; refine wpOp_step rfl (fun K' hK => ?_); go_simp; exact hK _ _ ⟨_, rfl, Below.refl _ _, cst_ok⟩
                apply RegW.val 16 rfl
                · intro a w' hF hB hd; have v15 : a.tmps[141]?.getD undef = _ := hd 15 (of_decide_eq_true (by kernel_rfl)) 0 _ _ rfl rfl; have gd := tmp_bool v15; have e5 := hF.2.2 5 (by decide); simp at e5; clear hd hF; obtain ⟨x0, x1, x2, x3, x4, x5, x6, x7, x8, x9, x10⟩ := HT.out.held hB; refine wpOp_step rfl (fun K' hK => ?_); go_simp; exact hK _ _ ⟨_, rfl, Below.refl _ _, cst_ok⟩
                apply RegW.val 17 rfl
                · intro a w' hF hB hd; have v15 : a.tmps[141]?.getD undef = _ := hd 15 (of_decide_eq_true (by kernel_rfl)) 1 _ _ rfl rfl; have gd := tmp_bool v15; have e6 := hF.2.2 6 (by decide); simp at e6; clear hd hF; obtain ⟨x0, x1, x2, x3, x4, x5, x6, x7, x8, x9, x10⟩ := HT.out.held hB; refine wpOp_step rfl (fun K' hK => ?_); go_simp; exact hK _ _ ⟨_, rfl, Below.refl _ _, cst_ok⟩
                apply RegW.val 18 rfl
                · intro a w' hF hB hd; have v15 : a.tmps[141]?.getD undef = _ := hd 15 (of_decide_eq_true (by kernel_rfl)) 2 _ _ rfl rfl; have v16 : a.tmps[142]?.getD undef = _ := hd 16 (of_decide_eq_true (by kernel_rfl)) 1 _ _ rfl rfl; have v17 : a.tmps[143]?.getD undef = _ := hd 17 (of_decide_eq_true (by kernel_rfl)) 0 _ _ rfl rfl; have gd := tmp_bool v15; clear hd hF; refine wpOp_step rfl (fun K' hK => ?_); go_simp; (first | exact hK _ _ ⟨_, rfl, Below.refl _ _, cst_ok⟩ | (with_reducible refine (narrow_c _ _ _ _ _).mono ?_; rintro e w1 ⟨rfl, hb⟩; exact hK _ _ ⟨_, rfl, hb, cst_ok⟩))
                apply RegW.val 19 rfl
                · intro a w' hF hB hd; have v15 : a.tmps[141]?.getD undef = _ := hd 15 (of_decide_eq_true (by kernel_rfl)) 3 _ _ rfl rfl; have gd := tmp_bool v15; have e3 := hF.2.2 3 (by decide); simp at e3; clear hd hF; refine wpOp_step rfl (fun K' hK => ?_); go_simp; exact hK _ _ ⟨_, rfl, Below.refl _ _, cst_ok⟩
                apply RegW.val 20 rfl
                · intro a w' hF hB hd; have v15 : a.tmps[141]?.getD undef = _ := hd 15 (of_decide_eq_true (by kernel_rfl)) 4 _ _ rfl rfl; have v18 : a.tmps[144]?.getD undef = _ := hd 18 (of_decide_eq_true (by kernel_rfl)) 1 _ _ rfl rfl; have v19 : a.tmps[145]?.getD undef = _ := hd 19 (of_decide_eq_true (by kernel_rfl)) 0 _ _ rfl rfl; have gd := tmp_bool v15; clear hd hF; refine wpOp_step rfl (fun K' hK => ?_); go_simp; (first | exact hK _ _ ⟨_, rfl, Below.refl _ _, cst_ok⟩ | (with_reducible refine (has_v hx _).mono ?_; rintro e w1 ⟨rfl, hb⟩; exact hK _ _ ⟨_, rfl, hb, cst_ok⟩) | (with_reducible refine (has_v hy _).mono ?_; rintro e w1 ⟨rfl, hb⟩; exact hK _ _ ⟨_, rfl, hb, cst_ok⟩))
                apply RegW.val 21 rfl
                · intro a w' hF hB hd; have v15 : a.tmps[141]?.getD undef = _ := hd 15 (of_decide_eq_true (by kernel_rfl)) 5 _ _ rfl rfl; have v20 : a.tmps[146]?.getD undef = _ := hd 20 (of_decide_eq_true (by kernel_rfl)) 0 _ _ rfl rfl; have gd := tmp_bool v15; clear hd hF; refine wpOp_step rfl (fun K' hK => ?_); go_simp; exact hK _ _ ⟨_, rfl, Below.refl _ _, cst_ok⟩
                apply RegW.val 22 rfl
                · intro a w' hF hB hd; have v6 : a.tmps[132]?.getD undef = _ := hd 6 (of_decide_eq_true (by kernel_rfl)) 15 _ _ rfl rfl; have v15 : a.tmps[141]?.getD undef = _ := hd 15 (of_decide_eq_true (by kernel_rfl)) 6 _ _ rfl rfl; have v21 : a.tmps[147]?.getD undef = _ := hd 21 (of_decide_eq_true (by kernel_rfl)) 0 _ _ rfl rfl; have gd := tmp_bool v6; clear hd hF; refine wpOp_step rfl (fun K' hK => ?_); go_simp; exact hK _ _ ⟨_, rfl, Below.refl _ _, cst_ok⟩
                apply RegW.val 23 rfl
                · intro a w' hF hB hd; have v6 : a.tmps[132]?.getD undef = _ := hd 6 (of_decide_eq_true (by kernel_rfl)) 16 _ _ rfl rfl; have v22 : a.tmps[148]?.getD undef = _ := hd 22 (of_decide_eq_true (by kernel_rfl)) 0 _ _ rfl rfl; clear hd hF; refine wpOp_step rfl (fun K' hK => ?_); go_simp; exact hK _ _ ⟨_, rfl, Below.refl _ _, cst_ok⟩
                apply RegW.val 24 rfl
                · intro a w' hF hB hd; have v23 : a.tmps[149]?.getD undef = _ := hd 23 (of_decide_eq_true (by kernel_rfl)) 0 _ _ rfl rfl; clear hd hF; refine wpOp_step rfl (fun K' hK => ?_); go_simp; exact hK _ _ ⟨_, rfl, Below.refl _ _, cst_ok⟩
                apply RegW.val 25 rfl
                · intro a w' hF hB hd; have v24 : a.tmps[150]?.getD undef = _ := hd 24 (of_decide_eq_true (by kernel_rfl)) 0 _ _ rfl rfl; have gd := tmp_bool v24; have e6 := hF.2.2 6 (by decide); simp at e6; clear hd hF; obtain ⟨x0, x1, x2, x3, x4, x5, x6, x7, x8, x9, x10⟩ := HT.out.held hB; refine wpOp_step rfl (fun K' hK => ?_); go_simp; exact hK _ _ ⟨_, rfl, Below.refl _ _, cst_ok⟩
                apply RegW.val 26 rfl
                · intro a w' hF hB hd; have v24 : a.tmps[150]?.getD undef = _ := hd 24 (of_decide_eq_true (by kernel_rfl)) 1 _ _ rfl rfl; have gd := tmp_bool v24; have e5 := hF.2.2 5 (by decide); simp at e5; clear hd hF; obtain ⟨x0, x1, x2, x3, x4, x5, x6, x7, x8, x9, x10⟩ := HT.out.held hB; refine wpOp_step rfl (fun K' hK => ?_); go_simp; exact hK _ _ ⟨_, rfl, Below.refl _ _, cst_ok⟩
                apply RegW.val 27 rfl
                · intro a w' hF hB hd; have v24 : a.tmps[150]?.getD undef = _ := hd 24 (of_decide_eq_true (by kernel_rfl)) 2 _ _ rfl rfl; have v25 : a.tmps[151]?.getD undef = _ := hd 25 (of_decide_eq_true (by kernel_rfl)) 1 _ _ rfl rfl; have v26 : a.tmps[152]?.getD undef = _ := hd 26 (of_decide_eq_true (by kernel_rfl)) 0 _ _ rfl rfl; have gd := tmp_bool v24; clear hd hF; refine wpOp_step rfl (fun K' hK => ?_); go_simp; (first | exact hK _ _ ⟨_, rfl, Below.refl _ _, cst_ok⟩ | (with_reducible refine (within_c _ _ _ _ _).mono ?_; rintro e w1 ⟨rfl, hb⟩; exact hK _ _ ⟨_, rfl, hb, cst_ok⟩))
                apply RegW.val 28 rfl
                · intro a w' hF hB hd; have v24 : a.tmps[150]?.getD undef = _ := hd 24 (of_decide_eq_true (by kernel_rfl)) 3 _ _ rfl rfl; have v27 : a.tmps[153]?.getD undef = _ := hd 27 (of_decide_eq_true (by kernel_rfl)) 0 _ _ rfl rfl; have gd := tmp_bool v24; clear hd hF; refine wpOp_step rfl (fun K' hK => ?_); go_simp; exact hK _ _ ⟨_, rfl, Below.refl _ _, cst_ok⟩
                apply RegW.val 29 rfl
                · intro a w' hF hB hd; have v28 : a.tmps[154]?.getD undef = _ := hd 28 (of_decide_eq_true (by kernel_rfl)) 0 _ _ rfl rfl; have gd := tmp_bool v28; have e5 := hF.2.2 5 (by decide); simp at e5; clear hd hF; obtain ⟨x0, x1, x2, x3, x4, x5, x6, x7, x8, x9, x10⟩ := HT.out.held hB; refine wpOp_step rfl (fun K' hK => ?_); go_simp; exact hK _ _ ⟨_, rfl, Below.refl _ _, cst_ok⟩
                apply RegW.val 30 rfl
                · intro a w' hF hB hd; have v28 : a.tmps[154]?.getD undef = _ := hd 28 (of_decide_eq_true (by kernel_rfl)) 1 _ _ rfl rfl; have gd := tmp_bool v28; have e6 := hF.2.2 6 (by decide); simp at e6; clear hd hF; obtain ⟨x0, x1, x2, x3, x4, x5, x6, x7, x8, x9, x10⟩ := HT.out.held hB; refine wpOp_step rfl (fun K' hK => ?_); go_simp; exact hK _ _ ⟨_, rfl, Below.refl _ _, cst_ok⟩
                apply RegW.val 31 rfl
                · intro a w' hF hB hd; have v28 : a.tmps[154]?.getD undef = _ := hd 28 (of_decide_eq_true (by kernel_rfl)) 2 _ _ rfl rfl; have v29 : a.tmps[155]?.getD undef = _ := hd 29 (of_decide_eq_true (by kernel_rfl)) 1 _ _ rfl rfl; have v30 : a.tmps[156]?.getD undef = _ := hd 30 (of_decide_eq_true (by kernel_rfl)) 0 _ _ rfl rfl; have gd := tmp_bool v28; clear hd hF; refine wpOp_step rfl (fun K' hK => ?_); go_simp; (first | exact hK _ _ ⟨_, rfl, Below.refl _ _, cst_ok⟩ | (with_reducible refine (narrow_c _ _ _ _ _).mono ?_; rintro e w1 ⟨rfl, hb⟩; exact hK _ _ ⟨_, rfl, hb, cst_ok⟩))
                apply RegW.val 32 rfl
                · intro a w' hF hB hd; have v28 : a.tmps[154]?.getD undef = _ := hd 28 (of_decide_eq_true (by kernel_rfl)) 3 _ _ rfl rfl; have gd := tmp_bool v28; have e5 := hF.2.2 5 (by decide); simp at e5; clear hd hF; obtain ⟨x0, x1, x2, x3, x4, x5, x6, x7, x8, x9, x10⟩ := HT.out.held hB; refine wpOp_step rfl (fun K' hK => ?_); go_simp; exact hK _ _ ⟨_, rfl, Below.refl _ _, cst_ok⟩
                apply RegW.val 33 rfl
                · intro a w' hF hB hd; have v28 : a.tmps[154]?.getD undef = _ := hd 28 (of_decide_eq_true (by kernel_rfl)) 4 _ _ rfl rfl; have v31 : a.tmps[157]?.getD undef = _ := hd 31 (of_decide_eq_true (by kernel_rfl)) 1 _ _ rfl rfl; have v32 : a.tmps[158]?.getD undef = _ := hd 32 (of_decide_eq_true (by kernel_rfl)) 0 _ _ rfl rfl; have gd := tmp_bool v28; clear hd hF; refine wpOp_step rfl (fun K' hK => ?_); go_simp; (first | exact hK _ _ ⟨_, rfl, Below.refl _ _, cst_ok⟩ | (with_reducible refine (within_c _ _ _ _ _).mono ?_; rintro e w1 ⟨rfl, hb⟩; exact hK _ _ ⟨_, rfl, hb, cst_ok⟩))
                apply RegW.val 34 rfl
                · intro a w' hF hB hd; have v28 : a.tmps[154]?.getD undef = _ := hd 28 (of_decide_eq_true (by kernel_rfl)) 5 _ _ rfl rfl; have v33 : a.tmps[159]?.getD undef = _ := hd 33 (of_decide_eq_true (by kernel_rfl)) 0 _ _ rfl rfl; have gd := tmp_bool v28; clear hd hF; refine wpOp_step rfl (fun K' hK => ?_); go_simp; exact hK _ _ ⟨_, rfl, Below.refl _ _, cst_ok⟩
                apply RegW.val 35 rfl
                · intro a w' hF hB hd; have v24 : a.tmps[150]?.getD undef = _ := hd 24 (of_decide_eq_true (by kernel_rfl)) 10 _ _ rfl rfl; have v28 : a.tmps[154]?.getD undef = _ := hd 28 (of_decide_eq_true (by kernel_rfl)) 6 _ _ rfl rfl; have v34 : a.tmps[160]?.getD undef = _ := hd 34 (of_decide_eq_true (by kernel_rfl)) 0 _ _ rfl rfl; have gd := tmp_bool v24; clear hd hF; refine wpOp_step rfl (fun K' hK => ?_); go_simp; exact hK _ _ ⟨_, rfl, Below.refl _ _, cst_ok⟩
                apply RegW.val 36 rfl
                · intro a w' hF hB hd; have v24 : a.tmps[150]?.getD undef = _ := hd 24 (of_decide_eq_true (by kernel_rfl)) 11 _ _ rfl rfl; have v35 : a.tmps[161]?.getD undef = _ := hd 35 (of_decide_eq_true (by kernel_rfl)) 0 _ _ rfl rfl; clear hd hF; refine wpOp_step rfl (fun K' hK => ?_); go_simp; exact hK _ _ ⟨_, rfl, Below.refl _ _, cst_ok⟩
                refine RegW.done (fun a w' hF hB hv => ?_)
                have v0 : a.tmps[126]?.getD undef = _ := hv 36 _ _ rfl
                have v1 : a.tmps[127]?.getD undef = _ := hv 35 _ _ rfl
                have v2 : a.tmps[128]?.getD undef = _ := hv 34 _ _ rfl
                have v3 : a.tmps[129]?.getD undef = _ := hv 33 _ _ rfl
                have v4 : a.tmps[130]?.getD undef = _ := hv 32 _ _ rfl
                have v5 : a.tmps[131]?.getD undef = _ := hv 31 _ _ rfl
                have v6 : a.tmps[132]?.getD undef = _ := hv 30 _ _ rfl
                have v7 : a.tmps[133]?.getD undef = _ := hv 29 _ _ rfl
                have v8 : a.tmps[134]?.getD undef = _ := hv 28 _ _ rfl
                have v9 : a.tmps[135]?.getD undef = _ := hv 27 _ _ rfl
                have v10 : a.tmps[136]?.getD undef = _ := hv 26 _ _ rfl
                have v11 : a.tmps[137]?.getD undef = _ := hv 25 _ _ rfl
                have v12 : a.tmps[138]?.getD undef = _ := hv 24 _ _ rfl
                have v13 : a.tmps[139]?.getD undef = _ := hv 23 _ _ rfl
                have v14 : a.tmps[140]?.getD undef = _ := hv 22 _ _ rfl
                have v15 : a.tmps[141]?.getD undef = _ := hv 21 _ _ rfl
                have v16 : a.tmps[142]?.getD undef = _ := hv 20 _ _ rfl
                have v17 : a.tmps[143]?.getD undef = _ := hv 19 _ _ rfl
                have v18 : a.tmps[144]?.getD undef = _ := hv 18 _ _ rfl
                have v19 : a.tmps[145]?.getD undef = _ := hv 17 _ _ rfl
                have v20 : a.tmps[146]?.getD undef = _ := hv 16 _ _ rfl
                have v21 : a.tmps[147]?.getD undef = _ := hv 15 _ _ rfl
                have v22 : a.tmps[148]?.getD undef = _ := hv 14 _ _ rfl
                have v23 : a.tmps[149]?.getD undef = _ := hv 13 _ _ rfl
                have v24 : a.tmps[150]?.getD undef = _ := hv 12 _ _ rfl
                have v25 : a.tmps[151]?.getD undef = _ := hv 11 _ _ rfl
                have v26 : a.tmps[152]?.getD undef = _ := hv 10 _ _ rfl
                have v27 : a.tmps[153]?.getD undef = _ := hv 9 _ _ rfl
                have v28 : a.tmps[154]?.getD undef = _ := hv 8 _ _ rfl
                have v29 : a.tmps[155]?.getD undef = _ := hv 7 _ _ rfl
                have v30 : a.tmps[156]?.getD undef = _ := hv 6 _ _ rfl
                have v31 : a.tmps[157]?.getD undef = _ := hv 5 _ _ rfl
                have v32 : a.tmps[158]?.getD undef = _ := hv 4 _ _ rfl
                have v33 : a.tmps[159]?.getD undef = _ := hv 3 _ _ rfl
                have v34 : a.tmps[160]?.getD undef = _ := hv 2 _ _ rfl
                have v35 : a.tmps[161]?.getD undef = _ := hv 1 _ _ rfl
                have v36 : a.tmps[162]?.getD undef = _ := hv 0 _ _ rfl
                have hE := hF.out
                rw [hE]
                clear hE hF hv
                simp only [List.foldl_cons, List.foldl_nil, Act.put, List.setIfInBounds_toArray, List.set_cons_zero, List.set_cons_succ, Array.getD_eq_getD_getElem?, v0, v1, v2, v3, v4, v5, v6, v7, v8, v9, v10, v11, v12, v13, v14, v15, v16, v17, v18, v19, v20, v21, v22, v23, v24, v25, v26, v27, v28, v29, v30, v31, v32, v33, v34, v35, v36]
                clear v0 v1 v2 v3 v4 v5 v6 v7 v8 v9 v10 v11 v12 v13 v14 v15 v16 v17 v18 v19 v20 v21 v22 v23 v24 v25 v26 v27 v28 v29 v30 v31 v32 v33 v34 v35 v36
                have hE0 := hB
                clear hB
                go_wp2_with fail
                go_meet
                exact ⟨rfl, HT.out.step hE0⟩
              · have hvn : withinB (nlo a1 a2 b1 b2) (nhi a1 a2 b1 b2) a1 a2 = true := by rcases HNW.out with h | h; exact h; rw [hv] at h; cases h
                refine wp_region_walk [0, 1, 2, 3, 4, 5, 6, 7, 8, 9, 10, 11, 12, 13, 14, 15, 16, 17, 18, 19, 20, 21, 22, 23, 24, 25, 26, 27, 28, 29, 30, 31, 32, 33, 34, 35, 36] [126, 127, 128, 129, 130, 131, 132, 133, 134, 135, 136, 137, 138, 139, 140, 141, 142, 143, 144, 145, 146, 147, 148, 149, 150, 151, 152, 153, 154, 155, 156, 157, 158, 159, 160, 161, 162] 0 (by kernel_rfl) (by kernel_rfl) (by kernel_rfl) rfl (by simp) (by kernel_rfl) (by kernel_rfl) ?_
                apply RegW.val 0 rfl
                · intro a w' hF hB hd; have e11 := hF.2.2 11 (by decide); simp at e11; clear hd hF; obtain ⟨x0, x1, x2, x3, x4, x5, x6, x7, x8, x9, x10⟩ := HT.out.held hB; refine wpOp_step rfl (fun K' hK => ?_); go_simp; exact hK _ _ ⟨_, rfl, Below.refl _ _, cst_ok⟩
                apply RegW.val 1 rfl
                · intro a w' hF hB hd; have e5 := hF.2.2 5 (by decide); simp at e5; clear hd hF; obtain ⟨x0, x1, x2, x3, x4, x5, x6, x7, x8, x9, x10⟩ := HT.out.held hB; refine wpOp_step rfl (fun K' hK => ?_); go_simp; exact hK _ _ ⟨_, rfl, Below.refl _ _, cst_ok⟩
                apply RegW.val 2 rfl
                · intro a w' hF hB hd; have e6 := hF.2.2 6 (by decide); simp at e6; clear hd hF; obtain ⟨x0, x1, x2, x3, x4, x5, x6, x7, x8, x9, x10⟩ := HT.out.held hB; refine wpOp_step rfl (fun K' hK => ?_); go_simp; exact hK _ _ ⟨_, rfl, Below.refl _ _, cst_ok⟩
                apply RegW.val 3 rfl
                · intro a w' hF hB hd; have v1 : a.tmps[127]?.getD undef = _ := hd 1 (of_decide_eq_true (by kernel_rfl)) 1 _ _ rfl rfl; have v2 : a.tmps[128]?.getD undef = _ := hd 2 (of_decide_eq_true (by kernel_rfl)) 0 _ _ rfl rfl; clear hd hF; refine wpOp_step rfl (fun K' hK => ?_); go_simp; (first | (with_reducible refine (widen_c _ _ _ _ _).mono ?_; rintro e w1 ⟨rfl, hb⟩; exact hK _ _ ⟨_, rfl, hb, cst_ok⟩))
                apply RegW.val 4 rfl
                · intro a w' hF hB hd; have v0 : a.tmps[126]?.getD undef = _ := hd 0 (of_decide_eq_true (by kernel_rfl)) 3 _ _ rfl rfl; have v3 : a.tmps[129]?.getD undef = _ := hd 3 (of_decide_eq_true (by kernel_rfl)) 0 _ _ rfl rfl; clear hd hF; refine wpOp_step rfl (fun K' hK => ?_); go_simp; (first | (with_reducible refine (within_c _ _ _ _ _).mono ?_; rintro e w1 ⟨rfl, hb⟩; exact hK _ _ ⟨_, rfl, hb, cst_ok⟩))
                apply RegW.val 5 rfl
                · intro a w' hF hB hd; have v4 : a.tmps[130]?.getD undef = _ := hd 4 (of_decide_eq_true (by kernel_rfl)) 0 _ _ rfl rfl; clear hd hF; refine wpOp_step rfl (fun K' hK => ?_); go_simp; exact hK _ _ ⟨_, rfl, Below.refl _ _, cst_ok⟩
                apply RegW.val 6 rfl
                · intro a w' hF hB hd; have v5 : a.tmps[131]?.getD undef = _ := hd 5 (of_decide_eq_true (by kernel_rfl)) 0 _ _ rfl rfl; clear hd hF; refine wpOp_step rfl (fun K' hK => ?_); go_simp; exact hK _ _ ⟨_, rfl, Below.refl _ _, cst_ok⟩
                apply RegW.val 7 rfl
                · intro a w' hF hB hd; have v6 : a.tmps[132]?.getD undef = _ := hd 6 (of_decide_eq_true (by kernel_rfl)) 0 _ _ rfl rfl; have gd := tmp_bool v6; have e5 := hF.2.2 5 (by decide); simp at e5; clear hd hF; obtain ⟨x0, x1, x2, x3, x4, x5, x6, x7, x8, x9, x10⟩ := HT.out.held hB; refine wpOp_step rfl (fun K' hK => ?_); go_simp; exact hK _ _ ⟨_, rfl, Below.refl _ _, cst_ok⟩
                apply RegW.val 8 rfl
                · intro a w' hF hB hd; have v6 : a.tmps[132]?.getD undef = _ := hd 6 (of_decide_eq_true (by kernel_rfl)) 1 _ _ rfl rfl; have gd := tmp_bool v6; have e3 := hF.2.2 3 (by decide); simp at e3; clear hd hF; refine wpOp_step rfl (fun K' hK => ?_); go_simp; exact hK _ _ ⟨_, rfl, Below.refl _ _, cst_ok⟩
                apply RegW.val 9 rfl
                · intro a w' hF hB hd; have v6 : a.tmps[132]?.getD undef = _ := hd 6 (of_decide_eq_true (by kernel_rfl)) 2 _ _ rfl rfl; have v7 : a.tmps[133]?.getD undef = _ := hd 7 (of_decide_eq_true (by kernel_rfl)) 1 _ _ rfl rfl; have v8 : a.tmps[134]?.getD undef = _ := hd 8 (of_decide_eq_true (by kernel_rfl)) 0 _ _ rfl rfl; have gd := tmp_bool v6; clear hd hF; refine wpOp_step rfl (fun K' hK => ?_); go_simp; (first | exact hK _ _ ⟨_, rfl, Below.refl _ _, cst_ok⟩ | (with_reducible refine (has_v hx _).mono ?_; rintro e w1 ⟨rfl, hb⟩; exact hK _ _ ⟨_, rfl, hb, cst_ok⟩) | (with_reducible refine (has_v hy _).mono ?_; rintro e w1 ⟨rfl, hb⟩; exact hK _ _ ⟨_, rfl, hb, cst_ok⟩))
                apply RegW.val 10 rfl
                · intro a w' hF hB hd; have v6 : a.tmps[132]?.getD undef = _ := hd 6 (of_decide_eq_true (by kernel_rfl)) 3 _ _ rfl rfl; have v9 : a.tmps[135]?.getD undef = _ := hd 9 (of_decide_eq_true (by kernel_rfl)) 0 _ _ rfl rfl; have gd := tmp_bool v6; clear hd hF; refine wpOp_step rfl (fun K' hK => ?_); go_simp; exact hK _ _ ⟨_, rfl, Below.refl _ _, cst_ok⟩
                apply RegW.val 11 rfl
                · intro a w' hF hB hd; have v10 : a.tmps[136]?.getD undef = _ := hd 10 (of_decide_eq_true (by kernel_rfl)) 0 _ _ rfl rfl; have gd := tmp_bool v10; have e6 := hF.2.2 6 (by decide); simp at e6; clear hd hF; obtain ⟨x0, x1, x2, x3, x4, x5, x6, x7, x8, x9, x10⟩ := HT.out.held hB; refine wpOp_step rfl (fun K' hK => ?_); go_simp; exact hK _ _ ⟨_, rfl, Below.refl _ _, cst_ok⟩
                apply RegW.val 12 rfl
                · intro a w' hF hB hd; have v10 : a.tmps[136]?.getD undef = _ := hd 10 (of_decide_eq_true (by kernel_rfl)) 1 _ _ rfl rfl; have gd := tmp_bool v10; have e3 := hF.2.2 3 (by decide); simp at e3; clear hd hF; refine wpOp_step rfl (fun K' hK => ?_); go_simp; exact hK _ _ ⟨_, rfl, Below.refl _ _, cst_ok⟩
                apply RegW.val 13 rfl
                · intro a w' hF hB hd; have v10 : a.tmps[136]?.getD undef = _ := hd 10 (of_decide_eq_true (by kernel_rfl)) 2 _ _ rfl rfl; have v11 : a.tmps[137]?.getD undef = _ := hd 11 (of_decide_eq_true (by kernel_rfl)) 1 _ _ rfl rfl; have v12 : a.tmps[138]?.getD undef = _ := hd 12 (of_decide_eq_true (by kernel_rfl)) 0 _ _ rfl rfl; have gd := tmp_bool v10; clear hd hF; refine wpOp_step rfl (fun K' hK => ?_); go_simp; (first | exact hK _ _ ⟨_, rfl, Below.refl _ _, cst_ok⟩ | (with_reducible refine (has_v hx _).mono ?_; rintro e w1 ⟨rfl, hb⟩; exact hK _ _ ⟨_, rfl, hb, cst_ok⟩) | (with_reducible refine (has_v hy _).mono ?_; rintro e w1 ⟨rfl, hb⟩; exact hK _ _ ⟨_, rfl, hb, cst_ok⟩))
                apply RegW.val 14 rfl
                · intro a w' hF hB hd; have v6 : a.tmps[132]?.getD undef = _ := hd 6 (of_decide_eq_true (by kernel_rfl)) 7 _ _ rfl rfl; have v10 : a.tmps[136]?.getD undef = _ := hd 10 (of_decide_eq_true (by kernel_rfl)) 3 _ _ rfl rfl; have v13 : a.tmps[139]?.getD undef = _ := hd 13 (of_decide_eq_true (by kernel_rfl)) 0 _ _ rfl rfl; have gd := tmp_bool v6; clear hd hF; refine wpOp_step rfl (fun K' hK => ?_); go_simp; exact hK _ _ ⟨_, rfl, Below.refl _ _, cst_ok⟩
                apply RegW.val 15 rfl
                · intro a w' hF hB hd; have v6 : a.tmps[132]?.getD undef = _ := hd 6 (of_decide_eq_true (by kernel_rfl)) 8 _ _ rfl rfl; have v14 : a.tmps[140]?.getD undef = _ := hd 14 (of_decide_eq_true (by kernel_rfl)) 0 _ _ rfl rfl; have gd := tmp_bool v6; clear hd hF; refine wpOp_step rfl (fun K' hK => ?_); go_simp; exact hK _ _ ⟨_, rfl, Below.refl _ _, cst_ok⟩
                apply RegW.val 16 rfl
                · intro a w' hF hB hd; have v15 : a.tmps[141]?.getD undef = _ := hd 15 (of_decide_eq_true (by kernel_rfl)) 0 _ _ rfl rfl; have gd := tmp_bool v15; have e5 := hF.2.2 5 (by decide); simp at e5; clear hd hF; obtain ⟨x0, x1, x2, x3, x4, x5, x6, x7, x8, x9, x10⟩ := HT.out.held hB; refine wpOp_step rfl (fun K' hK => ?_); go_simp; exact hK _ _ ⟨_, rfl, Below.refl _ _, cst_ok⟩
                apply RegW.val 17 rfl
                · intro a w' hF hB hd; have v15 : a.tmps[141]?.getD undef = _ := hd 15 (of_decide_eq_true (by kernel_rfl)) 1 _ _ rfl rfl; have gd := tmp_bool v15; have e6 := hF.2.2 6 (by decide); simp at e6; clear hd hF; obtain ⟨x0, x1, x2, x3, x4, x5, x6, x7, x8, x9, x10⟩ := HT.out.held hB; refine wpOp_step rfl (fun K' hK => ?_); go_simp; exact hK _ _ ⟨_, rfl, Below.refl _ _, cst_ok⟩
                apply RegW.val 18 rfl
                · intro a w' hF hB hd; have v15 : a.tmps[141]?.getD undef = _ := hd 15 (of_decide_eq_true (by kernel_rfl)) 2 _ _ rfl rfl; have v16 : a.tmps[142]?.getD undef = _ := hd 16 (of_decide_eq_true (by kernel_rfl)) 1 _ _ rfl rfl; have v17 : a.tmps[143]?.getD undef = _ := hd 17 (of_decide_eq_true (by kernel_rfl)) 0 _ _ rfl rfl; have gd := tmp_bool v15; clear hd hF; refine wpOp_step rfl (fun K' hK => ?_); go_simp; (first | exact hK _ _ ⟨_, rfl, Below.refl _ _, cst_ok⟩ | (with_reducible refine (narrow_c _ _ _ _ _).mono ?_; rintro e w1 ⟨rfl, hb⟩; exact hK _ _ ⟨_, rfl, hb, cst_ok⟩))
                apply RegW.val 19 rfl
                · intro a w' hF hB hd; have v15 : a.tmps[141]?.getD undef = _ := hd 15 (of_decide_eq_true (by kernel_rfl)) 3 _ _ rfl rfl; have gd := tmp_bool v15; have e3 := hF.2.2 3 (by decide); simp at e3; clear hd hF; refine wpOp_step rfl (fun K' hK => ?_); go_simp; exact hK _ _ ⟨_, rfl, Below.refl _ _, cst_ok⟩
                apply RegW.val 20 rfl
                · intro a w' hF hB hd; have v15 : a.tmps[141]?.getD undef = _ := hd 15 (of_decide_eq_true (by kernel_rfl)) 4 _ _ rfl rfl; have v18 : a.tmps[144]?.getD undef = _ := hd 18 (of_decide_eq_true (by kernel_rfl)) 1 _ _ rfl rfl; have v19 : a.tmps[145]?.getD undef = _ := hd 19 (of_decide_eq_true (by kernel_rfl)) 0 _ _ rfl rfl; have gd := tmp_bool v15; clear hd hF; refine wpOp_step rfl (fun K' hK => ?_); go_simp; (first | exact hK _ _ ⟨_, rfl, Below.refl _ _, cst_ok⟩ | (with_reducible refine (has_v hx _).mono ?_; rintro e w1 ⟨rfl, hb⟩; exact hK _ _ ⟨_, rfl, hb, cst_ok⟩) | (with_reducible refine (has_v hy _).mono ?_; rintro e w1 ⟨rfl, hb⟩; exact hK _ _ ⟨_, rfl, hb, cst_ok⟩))
                apply RegW.val 21 rfl
                · intro a w' hF hB hd; have v15 : a.tmps[141]?.getD undef = _ := hd 15 (of_decide_eq_true (by kernel_rfl)) 5 _ _ rfl rfl; have v20 : a.tmps[146]?.getD undef = _ := hd 20 (of_decide_eq_true (by kernel_rfl)) 0 _ _ rfl rfl; have gd := tmp_bool v15; clear hd hF; refine wpOp_step rfl (fun K' hK => ?_); go_simp; exact hK _ _ ⟨_, rfl, Below.refl _ _, cst_ok⟩
                apply RegW.val 22 rfl
                · intro a w' hF hB hd; have v6 : a.tmps[132]?.getD undef = _ := hd 6 (of_decide_eq_true (by kernel_rfl)) 15 _ _ rfl rfl; have v15 : a.tmps[141]?.getD undef = _ := hd 15 (of_decide_eq_true (by kernel_rfl)) 6 _ _ rfl rfl; have v21 : a.tmps[147]?.getD undef = _ := hd 21 (of_decide_eq_true (by kernel_rfl)) 0 _ _ rfl rfl; have gd := tmp_bool v6; clear hd hF; refine wpOp_step rfl (fun K' hK => ?_); go_simp; exact hK _ _ ⟨_, rfl, Below.refl _ _, cst_ok⟩
                apply RegW.val 23 rfl
                · intro a w' hF hB hd; have v6 : a.tmps[132]?.getD undef = _ := hd 6 (of_decide_eq_true (by kernel_rfl)) 16 _ _ rfl rfl; have v22 : a.tmps[148]?.getD undef = _ := hd 22 (of_decide_eq_true (by kernel_rfl)) 0 _ _ rfl rfl; clear hd hF; refine wpOp_step rfl (fun K' hK => ?_); go_simp; exact hK _ _ ⟨_, rfl, Below.refl _ _, cst_ok⟩
                apply RegW.val 24 rfl
                · intro a w' hF hB hd; have v23 : a.tmps[149]?.getD undef = _ := hd 23 (of_decide_eq_true (by kernel_rfl)) 0 _ _ rfl rfl; clear hd hF; refine wpOp_step rfl (fun K' hK => ?_); go_simp; exact hK _ _ ⟨_, rfl, Below.refl _ _, cst_ok⟩
                apply RegW.val 25 rfl
                · intro a w' hF hB hd; have v24 : a.tmps[150]?.getD undef = _ := hd 24 (of_decide_eq_true (by kernel_rfl)) 0 _ _ rfl rfl; have gd := tmp_bool v24; have e6 := hF.2.2 6 (by decide); simp at e6; clear hd hF; obtain ⟨x0, x1, x2, x3, x4, x5, x6, x7, x8, x9, x10⟩ := HT.out.held hB; refine wpOp_step rfl (fun K' hK => ?_); go_simp; exact hK _ _ ⟨_, rfl, Below.refl _ _, cst_ok⟩
                apply RegW.val 26 rfl
                · intro a w' hF hB hd; have v24 : a.tmps[150]?.getD undef = _ := hd 24 (of_decide_eq_true (by kernel_rfl)) 1 _ _ rfl rfl; have gd := tmp_bool v24; have e5 := hF.2.2 5 (by decide); simp at e5; clear hd hF; obtain ⟨x0, x1, x2, x3, x4, x5, x6, x7, x8, x9, x10⟩ := HT.out.held hB; refine wpOp_step rfl (fun K' hK => ?_); go_simp; exact hK _ _ ⟨_, rfl, Below.refl _ _, cst_ok⟩
                apply RegW.val 27 rfl
                · intro a w' hF hB hd; have v24 : a.tmps[150]?.getD undef = _ := hd 24 (of_decide_eq_true (by kernel_rfl)) 2 _ _ rfl rfl; have v25 : a.tmps[151]?.getD undef = _ := hd 25 (of_decide_eq_true (by kernel_rfl)) 1 _ _ rfl rfl; have v26 : a.tmps[152]?.getD undef = _ := hd 26 (of_decide_eq_true (by kernel_rfl)) 0 _ _ rfl rfl; have gd := tmp_bool v24; clear hd hF; refine wpOp_step rfl (fun K' hK => ?_); go_simp; (first | exact hK _ _ ⟨_, rfl, Below.refl _ _, cst_ok⟩ | (with_reducible refine (within_c _ _ _ _ _).mono ?_; rintro e w1 ⟨rfl, hb⟩; exact hK _ _ ⟨_, rfl, hb, cst_ok⟩))
                apply RegW.val 28 rfl
                · intro a w' hF hB hd; have v24 : a.tmps[150]?.getD undef = _ := hd 24 (of_decide_eq_true (by kernel_rfl)) 3 _ _ rfl rfl; have v27 : a.tmps[153]?.getD undef = _ := hd 27 (of_decide_eq_true (by kernel_rfl)) 0 _ _ rfl rfl; have gd := tmp_bool v24; clear hd hF; refine wpOp_step rfl (fun K' hK => ?_); go_simp; exact hK _ _ ⟨_, rfl, Below.refl _ _, cst_ok⟩
                apply RegW.val 29 rfl
                · intro a w' hF hB hd; have v28 : a.tmps[154]?.getD undef = _ := hd 28 (of_decide_eq_true (by kernel_rfl)) 0 _ _ rfl rfl; have gd := tmp_bool v28; have e5 := hF.2.2 5 (by decide); simp at e5; clear hd hF; obtain ⟨x0, x1, x2, x3, x4, x5, x6, x7, x8, x9, x10⟩ := HT.out.held hB; refine wpOp_step rfl (fun K' hK => ?_); go_simp; exact hK _ _ ⟨_, rfl, Below.refl _ _, cst_ok⟩
                apply RegW.val 30 rfl
                · intro a w' hF hB hd; have v28 : a.tmps[154]?.getD undef = _ := hd 28 (of_decide_eq_true (by kernel_rfl)) 1 _ _ rfl rfl; have gd := tmp_bool v28; have e6 := hF.2.2 6 (by decide); simp at e6; clear hd hF; obtain ⟨x0, x1, x2, x3, x4, x5, x6, x7, x8, x9, x10⟩ := HT.out.held hB; refine wpOp_step rfl (fun K' hK => ?_); go_simp; exact hK _ _ ⟨_, rfl, Below.refl _ _, cst_ok⟩
                apply RegW.val 31 rfl
                · intro a w' hF hB hd; have v28 : a.tmps[154]?.getD undef = _ := hd 28 (of_decide_eq_true (by kernel_rfl)) 2 _ _ rfl rfl; have v29 : a.tmps[155]?.getD undef = _ := hd 29 (of_decide_eq_true (by kernel_rfl)) 1 _ _ rfl rfl; have v30 : a.tmps[156]?.getD undef = _ := hd 30 (of_decide_eq_true (by kernel_rfl)) 0 _ _ rfl rfl; have gd := tmp_bool v28; clear hd hF; refine wpOp_step rfl (fun K' hK => ?_); go_simp; (first | exact hK _ _ ⟨_, rfl, Below.refl _ _, cst_ok⟩ | (with_reducible refine (narrow_c _ _ _ _ _).mono ?_; rintro e w1 ⟨rfl, hb⟩; exact hK _ _ ⟨_, rfl, hb, cst_ok⟩))
                apply RegW.val 32 rfl
                · intro a w' hF hB hd; have v28 : a.tmps[154]?.getD undef = _ := hd 28 (of_decide_eq_true (by kernel_rfl)) 3 _ _ rfl rfl; have gd := tmp_bool v28; have e5 := hF.2.2 5 (by decide); simp at e5; clear hd hF; obtain ⟨x0, x1, x2, x3, x4, x5, x6, x7, x8, x9, x10⟩ := HT.out.held hB; refine wpOp_step rfl (fun K' hK => ?_); go_simp; exact hK _ _ ⟨_, rfl, Below.refl _ _, cst_ok⟩
                apply RegW.val 33 rfl
                · intro a w' hF hB hd; have v28 : a.tmps[154]?.getD undef = _ := hd 28 (of_decide_eq_true (by kernel_rfl)) 4 _ _ rfl rfl; have v31 : a.tmps[157]?.getD undef = _ := hd 31 (of_decide_eq_true (by kernel_rfl)) 1 _ _ rfl rfl; have v32 : a.tmps[158]?.getD undef = _ := hd 32 (of_decide_eq_true (by kernel_rfl)) 0 _ _ rfl rfl; have gd := tmp_bool v28; clear hd hF; refine wpOp_step rfl (fun K' hK => ?_); go_simp; (first | exact hK _ _ ⟨_, rfl, Below.refl _ _, cst_ok⟩ | (with_reducible refine (within_c _ _ _ _ _).mono ?_; rintro e w1 ⟨rfl, hb⟩; exact hK _ _ ⟨_, rfl, hb, cst_ok⟩))
                apply RegW.val 34 rfl
                · intro a w' hF hB hd; have v28 : a.tmps[154]?.getD undef = _ := hd 28 (of_decide_eq_true (by kernel_rfl)) 5 _ _ rfl rfl; have v33 : a.tmps[159]?.getD undef = _ := hd 33 (of_decide_eq_true (by kernel_rfl)) 0 _ _ rfl rfl; have gd := tmp_bool v28; clear hd hF; refine wpOp_step rfl (fun K' hK => ?_); go_simp; exact hK _ _ ⟨_, rfl, Below.refl _ _, cst_ok⟩
                apply RegW.val 35 rfl
                · intro a w' hF hB hd; have v24 : a.tmps[150]?.getD undef = _ := hd 24 (of_decide_eq_true (by kernel_rfl)) 10 _ _ rfl rfl; have v28 : a.tmps[154]?.getD undef = _ := hd 28 (of_decide_eq_true (by kernel_rfl)) 6 _ _ rfl rfl; have v34 : a.tmps[160]?.getD undef = _ := hd 34 (of_decide_eq_true (by kernel_rfl)) 0 _ _ rfl rfl; have gd := tmp_bool v24; clear hd hF; refine wpOp_step rfl (fun K' hK => ?_); go_simp; exact hK _ _ ⟨_, rfl, Below.refl _ _, cst_ok⟩
                apply RegW.val 36 rfl
                · intro a w' hF hB hd; have v24 : a.tmps[150]?.getD undef = _ := hd 24 (of_decide_eq_true (by kernel_rfl)) 11 _ _ rfl rfl; have v35 : a.tmps[161]?.getD undef = _ := hd 35 (of_decide_eq_true (by kernel_rfl)) 0 _ _ rfl rfl; clear hd hF; refine wpOp_step rfl (fun K' hK => ?_); go_simp; exact hK _ _ ⟨_, rfl, Below.refl _ _, cst_ok⟩
                refine RegW.done (fun a w' hF hB hv => ?_)
                have v0 : a.tmps[126]?.getD undef = _ := hv 36 _ _ rfl
                have v1 : a.tmps[127]?.getD undef = _ := hv 35 _ _ rfl
                have v2 : a.tmps[128]?.getD undef = _ := hv 34 _ _ rfl
                have v3 : a.tmps[129]?.getD undef = _ := hv 33 _ _ rfl
                have v4 : a.tmps[130]?.getD undef = _ := hv 32 _ _ rfl
                have v5 : a.tmps[131]?.getD undef = _ := hv 31 _ _ rfl
                have v6 : a.tmps[132]?.getD undef = _ := hv 30 _ _ rfl
                have v7 : a.tmps[133]?.getD undef = _ := hv 29 _ _ rfl
                have v8 : a.tmps[134]?.getD undef = _ := hv 28 _ _ rfl
                have v9 : a.tmps[135]?.getD undef = _ := hv 27 _ _ rfl
                have v10 : a.tmps[136]?.getD undef = _ := hv 26 _ _ rfl
                have v11 : a.tmps[137]?.getD undef = _ := hv 25 _ _ rfl
                have v12 : a.tmps[138]?.getD undef = _ := hv 24 _ _ rfl
                have v13 : a.tmps[139]?.getD undef = _ := hv 23 _ _ rfl
                have v14 : a.tmps[140]?.getD undef = _ := hv 22 _ _ rfl
                have v15 : a.tmps[141]?.getD undef = _ := hv 21 _ _ rfl
                have v16 : a.tmps[142]?.getD undef = _ := hv 20 _ _ rfl
                have v17 : a.tmps[143]?.getD undef = _ := hv 19 _ _ rfl
                have v18 : a.tmps[144]?.getD undef = _ := hv 18 _ _ rfl
                have v19 : a.tmps[145]?.getD undef = _ := hv 17 _ _ rfl
                have v20 : a.tmps[146]?.getD undef = _ := hv 16 _ _ rfl
                have v21 : a.tmps[147]?.getD undef = _ := hv 15 _ _ rfl
                have v22 : a.tmps[148]?.getD undef = _ := hv 14 _ _ rfl
                have v23 : a.tmps[149]?.getD undef = _ := hv 13 _ _ rfl
                have v24 : a.tmps[150]?.getD undef = _ := hv 12 _ _ rfl
                have v25 : a.tmps[151]?.getD undef = _ := hv 11 _ _ rfl
                have v26 : a.tmps[152]?.getD undef = _ := hv 10 _ _ rfl
                have v27 : a.tmps[153]?.getD undef = _ := hv 9 _ _ rfl
                have v28 : a.tmps[154]?.getD undef = _ := hv 8 _ _ rfl
                have v29 : a.tmps[155]?.getD undef = _ := hv 7 _ _ rfl
                have v30 : a.tmps[156]?.getD undef = _ := hv 6 _ _ rfl
                have v31 : a.tmps[157]?.getD undef = _ := hv 5 _ _ rfl
                have v32 : a.tmps[158]?.getD undef = _ := hv 4 _ _ rfl
                have v33 : a.tmps[159]?.getD undef = _ := hv 3 _ _ rfl
                have v34 : a.tmps[160]?.getD undef = _ := hv 2 _ _ rfl
                have v35 : a.tmps[161]?.getD undef = _ := hv 1 _ _ rfl
                have v36 : a.tmps[162]?.getD undef = _ := hv 0 _ _ rfl
                have hE := hF.out
                rw [hE]
                clear hE hF hv
                simp only [List.foldl_cons, List.foldl_nil, Act.put, List.setIfInBounds_toArray, List.set_cons_zero, List.set_cons_succ, Array.getD_eq_getD_getElem?, v0, v1, v2, v3, v4, v5, v6, v7, v8, v9, v10, v11, v12, v13, v14, v15, v16, v17, v18, v19, v20, v21, v22, v23, v24, v25, v26, v27, v28, v29, v30, v31, v32, v33, v34, v35, v36]
                clear v0 v1 v2 v3 v4 v5 v6 v7 v8 v9 v10 v11 v12 v13 v14 v15 v16 v17 v18 v19 v20 v21 v22 v23 v24 v25 v26 v27 v28 v29 v30 v31 v32 v33 v34 v35 v36
                have hE0 := hB
                clear hB
                go_wp2_with fail
                go_meet
                exact ⟨rfl, HT.out.step hE0⟩
            · cases hv : withinB b1 b2 a1 a2
              · have hnn := has_narrow hx hy
                refine wp_region_walk [0, 1, 2, 3, 4, 5, 6, 7, 8, 9, 10, 11, 12, 13, 14, 15, 16, 17, 18, 19, 20, 21, 22, 23, 24, 25, 26, 27, 28, 29, 30, 31, 32, 33, 34, 35, 36] [126, 127, 128, 129, 130, 131, 132, 133, 134, 135, 136, 137, 138, 139, 140, 141, 142, 143, 144, 145, 146, 147, 148, 149, 150, 151, 152, 153, 154, 155, 156, 157, 158, 159, 160, 161, 162] 0 (by kernel_rfl) (by kernel_rfl) (by kernel_rfl) rfl (by simp) (by kernel_rfl) (by kernel_rfl) ?_
                apply RegW.val 0 rfl
                · intro a w' hF hB hd; have e11 := hF.2.2 11 (by decide); simp at e11; clear hd hF; obtain ⟨x0, x1, x2, x3, x4, x5, x6, x7, x8, x9, x10⟩ := HT.out.held hB; refine wpOp_step rfl (fun K' hK => ?_); go_simp; exact hK _ _ ⟨_, rfl, Below.refl _ _, cst_ok⟩
                apply RegW.val 1 rfl
                · intro a w' hF hB hd; have e5 := hF.2.2 5 (by decide); simp at e5; clear hd hF; obtain ⟨x0, x1, x2, x3, x4, x5, x6, x7, x8, x9, x10⟩ := HT.out.held hB; refine wpOp_step rfl (fun K' hK => ?_); go_simp; exact hK _ _ ⟨_, rfl, Below.refl _ _, cst_ok⟩
                apply RegW.val 2 rfl
                · intro a w' hF hB hd; have e6 := hF.2.2 6 (by decide); simp at e6; clear hd hF; obtain ⟨x0, x1, x2, x3, x4, x5, x6, x7, x8, x9, x10⟩ := HT.out.held hB; refine wpOp_step rfl (fun K' hK => ?_); go_simp; exact hK _ _ ⟨_, rfl, Below.refl _ _, cst_ok⟩
                apply RegW.val 3 rfl
                · intro a w' hF hB hd; have v1 : a.tmps[127]?.getD undef = _ := hd 1 (of_decide_eq_true (by kernel_rfl)) 1 _ _ rfl rfl; have v2 : a.tmps[128]?.getD undef = _ := hd 2 (of_decide_eq_true (by kernel_rfl)) 0 _ _ rfl rfl; clear hd hF; refine wpOp_step rfl (fun K' hK => ?_); go_simp; (first | (with_reducible refine (widen_c _ _ _ _ _).mono ?_; rintro e w1 ⟨rfl, hb⟩; exact hK _ _ ⟨_, rfl, hb, cst_ok⟩))
                apply RegW.val 4 rfl
                · intro a w' hF hB hd; have v0 : a.tmps[126]?.getD undef = _ := hd 0 (of_decide_eq_true (by kernel_rfl)) 3 _ _ rfl rfl; have v3 : a.tmps[129]?.getD undef = _ := hd 3 (of_decide_eq_true (by kernel_rfl)) 0 _ _ rfl rfl; clear hd hF; refine wpOp_step rfl (fun K' hK => ?_); go_simp; (first | (with_reducible refine (within_c _ _ _ _ _).mono ?_; rintro e w1 ⟨rfl, hb⟩; exact hK _ _ ⟨_, rfl, hb, cst_ok⟩))
                apply RegW.val 5 rfl
                · intro a w' hF hB hd; have v4 : a.tmps[130]?.getD undef = _ := hd 4 (of_decide_eq_true (by kernel_rfl)) 0 _ _ rfl rfl; clear hd hF; refine wpOp_step rfl (fun K' hK => ?_); go_simp; exact hK _ _ ⟨_, rfl, Below.refl _ _, cst_ok⟩
                apply RegW.val 6 rfl
                · intro a w' hF hB hd; have v5 : a.tmps[131]?.getD undef = _ := hd 5 (of_decide_eq_true (by kernel_rfl)) 0 _ _ rfl rfl; clear hd hF; refine wpOp_step rfl (fun K' hK => ?_); go_simp; exact hK _ _ ⟨_, rfl, Below.refl _ _, cst_ok⟩
                apply RegW.val 7 rfl
                · intro a w' hF hB hd; have v6 : a.tmps[132]?.getD undef = _ := hd 6 (of_decide_eq_true (by kernel_rfl)) 0 _ _ rfl rfl; have gd := tmp_bool v6; have e5 := hF.2.2 5 (by decide); simp at e5; clear hd hF; obtain ⟨x0, x1, x2, x3, x4, x5, x6, x7, x8, x9, x10⟩ := HT.out.held hB; refine wpOp_step rfl (fun K' hK => ?_); go_simp; exact hK _ _ ⟨_, rfl, Below.refl _ _, cst_ok⟩
                apply RegW.val 8 rfl
                · intro a w' hF hB hd; have v6 : a.tmps[132]?.getD undef = _ := hd 6 (of_decide_eq_true (by kernel_rfl)) 1 _ _ rfl rfl; have gd := tmp_bool v6; have e3 := hF.2.2 3 (by decide); simp at e3; clear hd hF; refine wpOp_step rfl (fun K' hK => ?_); go_simp; exact hK _ _ ⟨_, rfl, Below.refl _ _, cst_ok⟩
                apply RegW.val 9 rfl
                · intro a w' hF hB hd; have v6 : a.tmps[132]?.getD undef = _ := hd 6 (of_decide_eq_true (by kernel_rfl)) 2 _ _ rfl rfl; have v7 : a.tmps[133]?.getD undef = _ := hd 7 (of_decide_eq_true (by kernel_rfl)) 1 _ _ rfl rfl; have v8 : a.tmps[134]?.getD undef = _ := hd 8 (of_decide_eq_true (by kernel_rfl)) 0 _ _ rfl rfl; have gd := tmp_bool v6; clear hd hF; refine wpOp_step rfl (fun K' hK => ?_); go_simp; (first | exact hK _ _ ⟨_, rfl, Below.refl _ _, cst_ok⟩ | (with_reducible refine (has_v hx _).mono ?_; rintro e w1 ⟨rfl, hb⟩; exact hK _ _ ⟨_, rfl, hb, cst_ok⟩) | (with_reducible refine (has_v hy _).mono ?_; rintro e w1 ⟨rfl, hb⟩; exact hK _ _ ⟨_, rfl, hb, cst_ok⟩) | (with_reducible refine (has_v hnn _).mono ?_; rintro e w1 ⟨rfl, hb⟩; exact hK _ _ ⟨_, rfl, hb, cst_ok⟩))
                apply RegW.val 10 rfl
                · intro a w' hF hB hd; have v6 : a.tmps[132]?.getD undef = _ := hd 6 (of_decide_eq_true (by kernel_rfl)) 3 _ _ rfl rfl; have v9 : a.tmps[135]?.getD undef = _ := hd 9 (of_decide_eq_true (by kernel_rfl)) 0 _ _ rfl rfl; have gd := tmp_bool v6; clear hd hF; refine wpOp_step rfl (fun K' hK => ?_); go_simp; exact hK _ _ ⟨_, rfl, Below.refl _ _, cst_ok⟩
                apply RegW.val 11 rfl
                · intro a w' hF hB hd; have v10 : a.tmps[136]?.getD undef = _ := hd 10 (of_decide_eq_true (by kernel_rfl)) 0 _ _ rfl rfl; have gd := tmp_bool v10; have e6 := hF.2.2 6 (by decide); simp at e6; clear hd hF; obtain ⟨x0, x1, x2, x3, x4, x5, x6, x7, x8, x9, x10⟩ := HT.out.held hB; refine wpOp_step rfl (fun K' hK => ?_); go_simp; exact hK _ _ ⟨_, rfl, Below.refl _ _, cst_ok⟩
                apply RegW.val 12 rfl
                · intro a w' hF hB hd; have v10 : a.tmps[136]?.getD undef = _ := hd 10 (of_decide_eq_true (by kernel_rfl)) 1 _ _ rfl rfl; have gd := tmp_bool v10; have e3 := hF.2.2 3 (by decide); simp at e3; clear hd hF; refine wpOp_step rfl (fun K' hK => ?_); go_simp; exact hK _ _ ⟨_, rfl, Below.refl _ _, cst_ok⟩
                apply RegW.val 13 rfl
                · intro a w' hF hB hd; have v10 : a.tmps[136]?.getD undef = _ := hd 10 (of_decide_eq_true (by kernel_rfl)) 2 _ _ rfl rfl; have v11 : a.tmps[137]?.getD undef = _ := hd 11 (of_decide_eq_true (by kernel_rfl)) 1 _ _ rfl rfl; have v12 : a.tmps[138]?.getD undef = _ := hd 12 (of_decide_eq_true (by kernel_rfl)) 0 _ _ rfl rfl; have gd := tmp_bool v10; clear hd hF; refine wpOp_step rfl (fun K' hK => ?_); go_simp; (first | exact hK _ _ ⟨_, rfl, Below.refl _ _, cst_ok⟩ | (with_reducible refine (has_v hx _).mono ?_; rintro e w1 ⟨rfl, hb⟩; exact hK _ _ ⟨_, rfl, hb, cst_ok⟩) | (with_reducible refine (has_v hy _).mono ?_; rintro e w1 ⟨rfl, hb⟩; exact hK _ _ ⟨_, rfl, hb, cst_ok⟩) | (with_reducible refine (has_v hnn _).mono ?_; rintro e w1 ⟨rfl, hb⟩; exact hK _ _ ⟨_, rfl, hb, cst_ok⟩))
                apply RegW.val 14 rfl
                · intro a w' hF hB hd; have v6 : a.tmps[132]?.getD undef = _ := hd 6 (of_decide_eq_true (by kernel_rfl)) 7 _ _ rfl rfl; have v10 : a.tmps[136]?.getD undef = _ := hd 10 (of_decide_eq_true (by kernel_rfl)) 3 _ _ rfl rfl; have v13 : a.tmps[139]?.getD undef = _ := hd 13 (of_decide_eq_true (by kernel_rfl)) 0 _ _ rfl rfl; have gd := tmp_bool v6; clear hd hF; refine wpOp_step rfl (fun K' hK => ?_); go_simp; exact hK _ _ ⟨_, rfl, Below.refl _ _, cst_ok⟩
                apply RegW.val 15 rfl
                · intro a w' hF hB hd; have v6 : a.tmps[132]?.getD undef = _ := hd 6 (of_decide_eq_true (by kernel_rfl)) 8 _ _ rfl rfl; have v14 : a.tmps[140]?.getD undef = _ := hd 14 (of_decide_eq_true (by kernel_rfl)) 0 _ _ rfl rfl; have gd := tmp_bool v6; clear hd hF; refine wpOp_step rfl (fun K' hK => ?_); go_simp; exact hK _ _ ⟨_, rfl, Below.refl _ _, cst_ok⟩
                apply RegW.val 16 rfl
                · intro a w' hF hB hd; have v15 : a.tmps[141]?.getD undef = _ := hd 15 (of_decide_eq_true (by kernel_rfl)) 0 _ _ rfl rfl; have gd := tmp_bool v15; have e5 := hF.2.2 5 (by decide); simp at e5; clear hd hF; obtain ⟨x0, x1, x2, x3, x4, x5, x6, x7, x8, x9, x10⟩ := HT.out.held hB; refine wpOp_step rfl (fun K' hK => ?_); go_simp; exact hK _ _ ⟨_, rfl, Below.refl _ _, cst_ok⟩
                apply RegW.val 17 rfl
                · intro a w' hF hB hd; have v15 : a.tmps[141]?.getD undef = _ := hd 15 (of_decide_eq_true (by kernel_rfl)) 1 _ _ rfl rfl; have gd := tmp_bool v15; have e6 := hF.2.2 6 (by decide); simp at e6; clear hd hF; obtain ⟨x0, x1, x2, x3, x4, x5, x6, x7, x8, x9, x10⟩ := HT.out.held hB; refine wpOp_step rfl (fun K' hK => ?_); go_simp; exact hK _ _ ⟨_, rfl, Below.refl _ _, cst_ok⟩
                apply RegW.val 18 rfl
                · intro a w' hF hB hd; have v15 : a.tmps[141]?.getD undef = _ := hd 15 (of_decide_eq_true (by kernel_rfl)) 2 _ _ rfl rfl; have v16 : a.tmps[142]?.getD undef = _ := hd 16 (of_decide_eq_true (by kernel_rfl)) 1 _ _ rfl rfl; have v17 : a.tmps[143]?.getD undef = _ := hd 17 (of_decide_eq_true (by kernel_rfl)) 0 _ _ rfl rfl; have gd := tmp_bool v15; clear hd hF; refine wpOp_step rfl (fun K' hK => ?_); go_simp; (first | exact hK _ _ ⟨_, rfl, Below.refl _ _, cst_ok⟩ | (with_reducible refine (narrow_c _ _ _ _ _).mono ?_; rintro e w1 ⟨rfl, hb⟩; exact hK _ _ ⟨_, rfl, hb, cst_ok⟩))
                apply RegW.val 19 rfl
                · intro a w' hF hB hd; have v15 : a.tmps[141]?.getD undef = _ := hd 15 (of_decide_eq_true (by kernel_rfl)) 3 _ _ rfl rfl; have gd := tmp_bool v15; have e3 := hF.2.2 3 (by decide); simp at e3; clear hd hF; refine wpOp_step rfl (fun K' hK => ?_); go_simp; exact hK _ _ ⟨_, rfl, Below.refl _ _, cst_ok⟩
                apply RegW.val 20 rfl
                · intro a w' hF hB hd; have v15 : a.tmps[141]?.getD undef = _ := hd 15 (of_decide_eq_true (by kernel_rfl)) 4 _ _ rfl rfl; have v18 : a.tmps[144]?.getD undef = _ := hd 18 (of_decide_eq_true (by kernel_rfl)) 1 _ _ rfl rfl; have v19 : a.tmps[145]?.getD undef = _ := hd 19 (of_decide_eq_true (by kernel_rfl)) 0 _ _ rfl rfl; have gd := tmp_bool v15; clear hd hF; refine wpOp_step rfl (fun K' hK => ?_); go_simp; (first | exact hK _ _ ⟨_, rfl, Below.refl _ _, cst_ok⟩ | (with_reducible refine (has_v hx _).mono ?_; rintro e w1 ⟨rfl, hb⟩; exact hK _ _ ⟨_, rfl, hb, cst_ok⟩) | (with_reducible refine (has_v hy _).mono ?_; rintro e w1 ⟨rfl, hb⟩; exact hK _ _ ⟨_, rfl, hb, cst_ok⟩) | (with_reducible refine (has_v hnn _).mono ?_; rintro e w1 ⟨rfl, hb⟩; exact hK _ _ ⟨_, rfl, hb, cst_ok⟩))
                apply RegW.val 21 rfl
                · intro a w' hF hB hd; have v15 : a.tmps[141]?.getD undef = _ := hd 15 (of_decide_eq_true (by kernel_rfl)) 5 _ _ rfl rfl; have v20 : a.tmps[146]?.getD undef = _ := hd 20 (of_decide_eq_true (by kernel_rfl)) 0 _ _ rfl rfl; have gd := tmp_bool v15; clear hd hF; refine wpOp_step rfl (fun K' hK => ?_); go_simp; exact hK _ _ ⟨_, rfl, Below.refl _ _, cst_ok⟩
                apply RegW.val 22 rfl
                · intro a w' hF hB hd; have v6 : a.tmps[132]?.getD undef = _ := hd 6 (of_decide_eq_true (by kernel_rfl)) 15 _ _ rfl rfl; have v15 : a.tmps[141]?.getD undef = _ := hd 15 (of_decide_eq_true (by kernel_rfl)) 6 _ _ rfl rfl; have v21 : a.tmps[147]?.getD undef = _ := hd 21 (of_decide_eq_true (by kernel_rfl)) 0 _ _ rfl rfl; have gd := tmp_bool v6; clear hd hF; refine wpOp_step rfl (fun K' hK => ?_); go_simp; exact hK _ _ ⟨_, rfl, Below.refl _ _, cst_ok⟩
                apply RegW.val 23 rfl
                · intro a w' hF hB hd; have v6 : a.tmps[132]?.getD undef = _ := hd 6 (of_decide_eq_true (by kernel_rfl)) 16 _ _ rfl rfl; have v22 : a.tmps[148]?.getD undef = _ := hd 22 (of_decide_eq_true (by kernel_rfl)) 0 _ _ rfl rfl; clear hd hF; refine wpOp_step rfl (fun K' hK => ?_); go_simp; exact hK _ _ ⟨_, rfl, Below.refl _ _, cst_ok⟩
                apply RegW.val 24 rfl
                · intro a w' hF hB hd; have v23 : a.tmps[149]?.getD undef = _ := hd 23 (of_decide_eq_true (by kernel_rfl)) 0 _ _ rfl rfl; clear hd hF; refine wpOp_step rfl (fun K' hK => ?_); go_simp; exact hK _ _ ⟨_, rfl, Below.refl _ _, cst_ok⟩
                apply RegW.val 25 rfl
                · intro a w' hF hB hd; have v24 : a.tmps[150]?.getD undef = _ := hd 24 (of_decide_eq_true (by kernel_rfl)) 0 _ _ rfl rfl; have gd := tmp_bool v24; have e6 := hF.2.2 6 (by decide); simp at e6; clear hd hF; obtain ⟨x0, x1, x2, x3, x4, x5, x6, x7, x8, x9, x10⟩ := HT.out.held hB; refine wpOp_step rfl (fun K' hK => ?_); go_simp; exact hK _ _ ⟨_, rfl, Below.refl _ _, cst_ok⟩
                apply RegW.val 26 rfl
                · intro a w' hF hB hd; have v24 : a.tmps[150]?.getD undef = _ := hd 24 (of_decide_eq_true (by kernel_rfl)) 1 _ _ rfl rfl; have gd := tmp_bool v24; have e5 := hF.2.2 5 (by decide); simp at e5; clear hd hF; obtain ⟨x0, x1, x2, x3, x4, x5, x6, x7, x8, x9, x10⟩ := HT.out.held hB; refine wpOp_step rfl (fun K' hK => ?_); go_simp; exact hK _ _ ⟨_, rfl, Below.refl _ _, cst_ok⟩
                apply RegW.val 27 rfl
                · intro a w' hF hB hd; have v24 : a.tmps[150]?.getD undef = _ := hd 24 (of_decide_eq_true (by kernel_rfl)) 2 _ _ rfl rfl; have v25 : a.tmps[151]?.getD undef = _ := hd 25 (of_decide_eq_true (by kernel_rfl)) 1 _ _ rfl rfl; have v26 : a.tmps[152]?.getD undef = _ := hd 26 (of_decide_eq_true (by kernel_rfl)) 0 _ _ rfl rfl; have gd := tmp_bool v24; clear hd hF; refine wpOp_step rfl (fun K' hK => ?_); go_simp; (first | exact hK _ _ ⟨_, rfl, Below.refl _ _, cst_ok⟩ | (with_reducible refine (within_c _ _ _ _ _).mono ?_; rintro e w1 ⟨rfl, hb⟩; exact hK _ _ ⟨_, rfl, hb, cst_ok⟩))
                apply RegW.val 28 rfl
                · intro a w' hF hB hd; have v24 : a.tmps[150]?.getD undef = _ := hd 24 (of_decide_eq_true (by kernel_rfl)) 3 _ _ rfl rfl; have v27 : a.tmps[153]?.getD undef = _ := hd 27 (of_decide_eq_true (by kernel_rfl)) 0 _ _ rfl rfl; have gd := tmp_bool v24; clear hd hF; refine wpOp_step rfl (fun K' hK => ?_); go_simp; exact hK _ _ ⟨_, rfl, Below.refl _ _, cst_ok⟩
                apply RegW.val 29 rfl
                · intro a w' hF hB hd; have v28 : a.tmps[154]?.getD undef = _ := hd 28 (of_decide_eq_true (by kernel_rfl)) 0 _ _ rfl rfl; have gd := tmp_bool v28; have e5 := hF.2.2 5 (by decide); simp at e5; clear hd hF; obtain ⟨x0, x1, x2, x3, x4, x5, x6, x7, x8, x9, x10⟩ := HT.out.held hB; refine wpOp_step rfl (fun K' hK => ?_); go_simp; exact hK _ _ ⟨_, rfl, Below.refl _ _, cst_ok⟩
                apply RegW.val 30 rfl
                · intro a w' hF hB hd; have v28 : a.tmps[154]?.getD undef = _ := hd 28 (of_decide_eq_true (by kernel_rfl)) 1 _ _ rfl rfl; have gd := tmp_bool v28; have e6 := hF.2.2 6 (by decide); simp at e6; clear hd hF; obtain ⟨x0, x1, x2, x3, x4, x5, x6, x7, x8, x9, x10⟩ := HT.out.held hB; refine wpOp_step rfl (fun K' hK => ?_); go_simp; exact hK _ _ ⟨_, rfl, Below.refl _ _, cst_ok⟩
                apply RegW.val 31 rfl
                · intro a w' hF hB hd; have v28 : a.tmps[154]?.getD undef = _ := hd 28 (of_decide_eq_true (by kernel_rfl)) 2 _ _ rfl rfl; have v29 : a.tmps[155]?.getD undef = _ := hd 29 (of_decide_eq_true (by kernel_rfl)) 1 _ _ rfl rfl; have v30 : a.tmps[156]?.getD undef = _ := hd 30 (of_decide_eq_true (by kernel_rfl)) 0 _ _ rfl rfl; have gd := tmp_bool v28; clear hd hF; refine wpOp_step rfl (fun K' hK => ?_); go_simp; (first | exact hK _ _ ⟨_, rfl, Below.refl _ _, cst_ok⟩ | (with_reducible refine (narrow_c _ _ _ _ _).mono ?_; rintro e w1 ⟨rfl, hb⟩; exact hK _ _ ⟨_, rfl, hb, cst_ok⟩))
                apply RegW.val 32 rfl
                · intro a w' hF hB hd; have v28 : a.tmps[154]?.getD undef = _ := hd 28 (of_decide_eq_true (by kernel_rfl)) 3 _ _ rfl rfl; have gd := tmp_bool v28; have e5 := hF.2.2 5 (by decide); simp at e5; clear hd hF; obtain ⟨x0, x1, x2, x3, x4, x5, x6, x7, x8, x9, x10⟩ := HT.out.held hB; refine wpOp_step rfl (fun K' hK => ?_); go_simp; exact hK _ _ ⟨_, rfl, Below.refl _ _, cst_ok⟩
                apply RegW.val 33 rfl
                · intro a w' hF hB hd; have v28 : a.tmps[154]?.getD undef = _ := hd 28 (of_decide_eq_true (by kernel_rfl)) 4 _ _ rfl rfl; have v31 : a.tmps[157]?.getD undef = _ := hd 31 (of_decide_eq_true (by kernel_rfl)) 1 _ _ rfl rfl; have v32 : a.tmps[158]?.getD undef = _ := hd 32 (of_decide_eq_true (by kernel_rfl)) 0 _ _ rfl rfl; have gd := tmp_bool v28; clear hd hF; refine wpOp_step rfl (fun K' hK => ?_); go_simp; (first | exact hK _ _ ⟨_, rfl, Below.refl _ _, cst_ok⟩ | (with_reducible refine (within_c _ _ _ _ _).mono ?_; rintro e w1 ⟨rfl, hb⟩; exact hK _ _ ⟨_, rfl, hb, cst_ok⟩))
                apply RegW.val 34 rfl
                · intro a w' hF hB hd; have v28 : a.tmps[154]?.getD undef = _ := hd 28 (of_decide_eq_true (by kernel_rfl)) 5 _ _ rfl rfl; have v33 : a.tmps[159]?.getD undef = _ := hd 33 (of_decide_eq_true (by kernel_rfl)) 0 _ _ rfl rfl; have gd := tmp_bool v28; clear hd hF; refine wpOp_step rfl (fun K' hK => ?_); go_simp; exact hK _ _ ⟨_, rfl, Below.refl _ _, cst_ok⟩
                apply RegW.val 35 rfl
                · intro a w' hF hB hd; have v24 : a.tmps[150]?.getD undef = _ := hd 24 (of_decide_eq_true (by kernel_rfl)) 10 _ _ rfl rfl; have v28 : a.tmps[154]?.getD undef = _ := hd 28 (of_decide_eq_true (by kernel_rfl)) 6 _ _ rfl rfl; have v34 : a.tmps[160]?.getD undef = _ := hd 34 (of_decide_eq_true (by kernel_rfl)) 0 _ _ rfl rfl; have gd := tmp_bool v24; clear hd hF; refine wpOp_step rfl (fun K' hK => ?_); go_simp; exact hK _ _ ⟨_, rfl, Below.refl _ _, cst_ok⟩
                apply RegW.val 36 rfl
                · intro a w' hF hB hd; have v24 : a.tmps[150]?.getD undef = _ := hd 24 (of_decide_eq_true (by kernel_rfl)) 11 _ _ rfl rfl; have v35 : a.tmps[161]?.getD undef = _ := hd 35 (of_decide_eq_true (by kernel_rfl)) 0 _ _ rfl rfl; clear hd hF; refine wpOp_step rfl (fun K' hK => ?_); go_simp; exact hK _ _ ⟨_, rfl, Below.refl _ _, cst_ok⟩
                refine RegW.done (fun a w' hF hB hv => ?_)
                have v0 : a.tmps[126]?.getD undef = _ := hv 36 _ _ rfl
                have v1 : a.tmps[127]?.getD undef = _ := hv 35 _ _ rfl
                have v2 : a.tmps[128]?.getD undef = _ := hv 34 _ _ rfl
                have v3 : a.tmps[129]?.getD undef = _ := hv 33 _ _ rfl
                have v4 : a.tmps[130]?.getD undef = _ := hv 32 _ _ rfl
                have v5 : a.tmps[131]?.getD undef = _ := hv 31 _ _ rfl
                have v6 : a.tmps[132]?.getD undef = _ := hv 30 _ _ rfl
                have v7 : a.tmps[133]?.getD undef = _ := hv 29 _ _ rfl
                have v8 : a.tmps[134]?.getD undef = _ := hv 28 _ _ rfl
                have v9 : a.tmps[135]?.getD undef = _ := hv 27 _ _ rfl
                have v10 : a.tmps[136]?.getD undef = _ := hv 26 _ _ rfl
                have v11 : a.tmps[137]?.getD undef = _ := hv 25 _ _ rfl
                have v12 : a.tmps[138]?.getD undef = _ := hv 24 _ _ rfl
                have v13 : a.tmps[139]?.getD undef = _ := hv 23 _ _ rfl
                have v14 : a.tmps[140]?.getD undef = _ := hv 22 _ _ rfl
                have v15 : a.tmps[141]?.getD undef = _ := hv 21 _ _ rfl
                have v16 : a.tmps[142]?.getD undef = _ := hv 20 _ _ rfl
                have v17 : a.tmps[143]?.getD undef = _ := hv 19 _ _ rfl
                have v18 : a.tmps[144]?.getD undef = _ := hv 18 _ _ rfl
                have v19 : a.tmps[145]?.getD undef = _ := hv 17 _ _ rfl
                have v20 : a.tmps[146]?.getD undef = _ := hv 16 _ _ rfl
                have v21 : a.tmps[147]?.getD undef = _ := hv 15 _ _ rfl
                have v22 : a.tmps[148]?.getD undef = _ := hv 14 _ _ rfl
                have v23 : a.tmps[149]?.getD undef = _ := hv 13 _ _ rfl
                have v24 : a.tmps[150]?.getD undef = _ := hv 12 _ _ rfl
                have v25 : a.tmps[151]?.getD undef = _ := hv 11 _ _ rfl
                have v26 : a.tmps[152]?.getD undef = _ := hv 10 _ _ rfl
                have v27 : a.tmps[153]?.getD undef = _ := hv 9 _ _ rfl
                have v28 : a.tmps[154]?.getD undef = _ := hv 8 _ _ rfl
                have v29 : a.tmps[155]?.getD undef = _ := hv 7 _ _ rfl
                have v30 : a.tmps[156]?.getD undef = _ := hv 6 _ _ rfl
                have v31 : a.tmps[157]?.getD undef = _ := hv 5 _ _ rfl
                have v32 : a.tmps[158]?.getD undef = _ := hv 4 _ _ rfl
                have v33 : a.tmps[159]?.getD undef = _ := hv 3 _ _ rfl
                have v34 : a.tmps[160]?.getD undef = _ := hv 2 _ _ rfl
                have v35 : a.tmps[161]?.getD undef = _ := hv 1 _ _ rfl
                have v36 : a.tmps[162]?.getD undef = _ := hv 0 _ _ rfl
                have hE := hF.out
                rw [hE]
                clear hE hF hv
                simp only [List.foldl_cons, List.foldl_nil, Act.put, List.setIfInBounds_toArray, List.set_cons_zero, List.set_cons_succ, Array.getD_eq_getD_getElem?, v0, v1, v2, v3, v4, v5, v6, v7, v8, v9, v10, v11, v12, v13, v14, v15, v16, v17, v18, v19, v20, v21, v22, v23, v24, v25, v26, v27, v28, v29, v30, v31, v32, v33, v34, v35, v36]
                clear v0 v1 v2 v3 v4 v5 v6 v7 v8 v9 v10 v11 v12 v13 v14 v15 v16 v17 v18 v19 v20 v21 v22 v23 v24 v25 v26 v27 v28 v29 v30 v31 v32 v33 v34 v35 v36
                have hE0 := hB
                clear hB
                go_wp2_with fail
                go_meet
                exact ⟨rfl, HT.out.step hE0⟩
              · have hnn := has_narrow hx hy
                have hvn : withinB (nlo a1 a2 b1 b2) (nhi a1 a2 b1 b2) a1 a2 = true := by rcases HNW.out with h | h; exact h; rw [hv] at h; cases h
                refine wp_region_walk [0, 1, 2, 3, 4, 5, 6, 7, 8, 9, 10, 11, 12, 13, 14, 15, 16, 17, 18, 19, 20, 21, 22, 23, 24, 25, 26, 27, 28, 29, 30, 31, 32, 33, 34, 35, 36] [126, 127, 128, 129, 130, 131, 132, 133, 134, 135, 136, 137, 138, 139, 140, 141, 142, 143, 144, 145, 146, 147, 148, 149, 150, 151, 152, 153, 154, 155, 156, 157, 158, 159, 160, 161, 162] 0 (by kernel_rfl) (by kernel_rfl) (by kernel_rfl) rfl (by simp) (by kernel_rfl) (by kernel_rfl) ?_
                apply RegW.val 0 rfl
                · intro a w' hF hB hd; have e11 := hF.2.2 11 (by decide); simp at e11; clear hd hF; obtain ⟨x0, x1, x2, x3, x4, x5, x6, x7, x8, x9, x10⟩ := HT.out.held hB; refine wpOp_step rfl (fun K' hK => ?_); go_simp; exact hK _ _ ⟨_, rfl, Below.refl _ _, cst_ok⟩
                apply RegW.val 1 rfl
                · intro a w' hF hB hd; have e5 := hF.2.2 5 (by decide); simp at e5; clear hd hF; obtain ⟨x0, x1, x2, x3, x4, x5, x6, x7, x8, x9, x10⟩ := HT.out.held hB; refine wpOp_step rfl (fun K' hK => ?_); go_simp; exact hK _ _ ⟨_, rfl, Below.refl _ _, cst_ok⟩
                apply RegW.val 2 rfl
                · intro a w' hF hB hd; have e6 := hF.2.2 6 (by decide); simp at e6; clear hd hF; obtain ⟨x0, x1, x2, x3, x4, x5, x6, x7, x8, x9, x10⟩ := HT.out.held hB; refine wpOp_step rfl (fun K' hK => ?_); go_simp; exact hK _ _ ⟨_, rfl, Below.refl _ _, cst_ok⟩
                apply RegW.val 3 rfl
                · intro a w' hF hB hd; have v1 : a.tmps[127]?.getD undef = _ := hd 1 (of_decide_eq_true (by kernel_rfl)) 1 _ _ rfl rfl; have v2 : a.tmps[128]?.getD undef = _ := hd 2 (of_decide_eq_true (by kernel_rfl)) 0 _ _ rfl rfl; clear hd hF; refine wpOp_step rfl (fun K' hK => ?_); go_simp; (first | (with_reducible refine (widen_c _ _ _ _ _).mono ?_; rintro e w1 ⟨rfl, hb⟩; exact hK _ _ ⟨_, rfl, hb, cst_ok⟩))
                apply RegW.val 4 rfl
                · intro a w' hF hB hd; have v0 : a.tmps[126]?.getD undef = _ := hd 0 (of_decide_eq_true (by kernel_rfl)) 3 _ _ rfl rfl; have v3 : a.tmps[129]?.getD undef = _ := hd 3 (of_decide_eq_true (by kernel_rfl)) 0 _ _ rfl rfl; clear hd hF; refine wpOp_step rfl (fun K' hK => ?_); go_simp; (first | (with_reducible refine (within_c _ _ _ _ _).mono ?_; rintro e w1 ⟨rfl, hb⟩; exact hK _ _ ⟨_, rfl, hb, cst_ok⟩))
                apply RegW.val 5 rfl
                · intro a w' hF hB hd; have v4 : a.tmps[130]?.getD undef = _ := hd 4 (of_decide_eq_true (by kernel_rfl)) 0 _ _ rfl rfl; clear hd hF; refine wpOp_step rfl (fun K' hK => ?_); go_simp; exact hK _ _ ⟨_, rfl, Below.refl _ _, cst_ok⟩
                apply RegW.val 6 rfl
                · intro a w' hF hB hd; have v5 : a.tmps[131]?.getD undef = _ := hd 5 (of_decide_eq_true (by kernel_rfl)) 0 _ _ rfl rfl; clear hd hF; refine wpOp_step rfl (fun K' hK => ?_); go_simp; exact hK _ _ ⟨_, rfl, Below.refl _ _, cst_ok⟩
                apply RegW.val 7 rfl
                · intro a w' hF hB hd; have v6 : a.tmps[132]?.getD undef = _ := hd 6 (of_decide_eq_true (by kernel_rfl)) 0 _ _ rfl rfl; have gd := tmp_bool v6; have e5 := hF.2.2 5 (by decide); simp at e5; clear hd hF; obtain ⟨x0, x1, x2, x3, x4, x5, x6, x7, x8, x9, x10⟩ := HT.out.held hB; refine wpOp_step rfl (fun K' hK => ?_); go_simp; exact hK _ _ ⟨_, rfl, Below.refl _ _, cst_ok⟩
                apply RegW.val 8 rfl
                · intro a w' hF hB hd; have v6 : a.tmps[132]?.getD undef = _ := hd 6 (of_decide_eq_true (by kernel_rfl)) 1 _ _ rfl rfl; have gd := tmp_bool v6; have e3 := hF.2.2 3 (by decide); simp at e3; clear hd hF; refine wpOp_step rfl (fun K' hK => ?_); go_simp; exact hK _ _ ⟨_, rfl, Below.refl _ _, cst_ok⟩
                apply RegW.val 9 rfl
                · intro a w' hF hB hd; have v6 : a.tmps[132]?.getD undef = _ := hd 6 (of_decide_eq_true (by kernel_rfl)) 2 _ _ rfl rfl; have v7 : a.tmps[133]?.getD undef = _ := hd 7 (of_decide_eq_true (by kernel_rfl)) 1 _ _ rfl rfl; have v8 : a.tmps[134]?.getD undef = _ := hd 8 (of_decide_eq_true (by kernel_rfl)) 0 _ _ rfl rfl; have gd := tmp_bool v6; clear hd hF; refine wpOp_step rfl (fun K' hK => ?_); go_simp; (first | exact hK _ _ ⟨_, rfl, Below.refl _ _, cst_ok⟩ | (with_reducible refine (has_v hx _).mono ?_; rintro e w1 ⟨rfl, hb⟩; exact hK _ _ ⟨_, rfl, hb, cst_ok⟩) | (with_reducible refine (has_v hy _).mono ?_; rintro e w1 ⟨rfl, hb⟩; exact hK _ _ ⟨_, rfl, hb, cst_ok⟩) | (with_reducible refine (has_v hnn _).mono ?_; rintro e w1 ⟨rfl, hb⟩; exact hK _ _ ⟨_, rfl, hb, cst_ok⟩))
                apply RegW.val 10 rfl
                · intro a w' hF hB hd; have v6 : a.tmps[132]?.getD undef = _ := hd 6 (of_decide_eq_true (by kernel_rfl)) 3 _ _ rfl rfl; have v9 : a.tmps[135]?.getD undef = _ := hd 9 (of_decide_eq_true (by kernel_rfl)) 0 _ _ rfl rfl; have gd := tmp_bool v6; clear hd hF; refine wpOp_step rfl (fun K' hK => ?_); go_simp; exact hK _ _ ⟨_, rfl, Below.refl _ _, cst_ok⟩
                apply RegW.val 11 rfl
                · intro a w' hF hB hd; have v10 : a.tmps[136]?.getD undef = _ := hd 10 (of_decide_eq_true (by kernel_rfl)) 0 _ _ rfl rfl; have gd := tmp_bool v10; have e6 := hF.2.2 6 (by decide); simp at e6; clear hd hF; obtain ⟨x0, x1, x2, x3, x4, x5, x6, x7, x8, x9, x10⟩ := HT.out.held hB; refine wpOp_step rfl (fun K' hK => ?_); go_simp; exact hK _ _ ⟨_, rfl, Below.refl _ _, cst_ok⟩
                apply RegW.val 12 rfl
                · intro a w' hF hB hd; have v10 : a.tmps[136]?.getD undef = _ := hd 10 (of_decide_eq_true (by kernel_rfl)) 1 _ _ rfl rfl; have gd := tmp_bool v10; have e3 := hF.2.2 3 (by decide); simp at e3; clear hd hF; refine wpOp_step rfl (fun K' hK => ?_); go_simp; exact hK _ _ ⟨_, rfl, Below.refl _ _, cst_ok⟩
                apply RegW.val 13 rfl
                · intro a w' hF hB hd; have v10 : a.tmps[136]?.getD undef = _ := hd 10 (of_decide_eq_true (by kernel_rfl)) 2 _ _ rfl rfl; have v11 : a.tmps[137]?.getD undef = _ := hd 11 (of_decide_eq_true (by kernel_rfl)) 1 _ _ rfl rfl; have v12 : a.tmps[138]?.getD undef = _ := hd 12 (of_decide_eq_true (by kernel_rfl)) 0 _ _ rfl rfl; have gd := tmp_bool v10; clear hd hF; refine wpOp_step rfl (fun K' hK => ?_); go_simp; (first | exact hK _ _ ⟨_, rfl, Below.refl _ _, cst_ok⟩ | (with_reducible refine (has_v hx _).mono ?_; rintro e w1 ⟨rfl, hb⟩; exact hK _ _ ⟨_, rfl, hb, cst_ok⟩) | (with_reducible refine (has_v hy _).mono ?_; rintro e w1 ⟨rfl, hb⟩; exact hK _ _ ⟨_, rfl, hb, cst_ok⟩) | (with_reducible refine (has_v hnn _).mono ?_; rintro e w1 ⟨rfl, hb⟩; exact hK _ _ ⟨_, rfl, hb, cst_ok⟩))
                apply RegW.val 14 rfl
                · intro a w' hF hB hd; have v6 : a.tmps[132]?.getD undef = _ := hd 6 (of_decide_eq_true (by kernel_rfl)) 7 _ _ rfl rfl; have v10 : a.tmps[136]?.getD undef = _ := hd 10 (of_decide_eq_true (by kernel_rfl)) 3 _ _ rfl rfl; have v13 : a.tmps[139]?.getD undef = _ := hd 13 (of_decide_eq_true (by kernel_rfl)) 0 _ _ rfl rfl; have gd := tmp_bool v6; clear hd hF; refine wpOp_step rfl (fun K' hK => ?_); go_simp; exact hK _ _ ⟨_, rfl, Below.refl _ _, cst_ok⟩
                apply RegW.val 15 rfl
                · intro a w' hF hB hd; have v6 : a.tmps[132]?.getD undef = _ := hd 6 (of_decide_eq_true (by kernel_rfl)) 8 _ _ rfl rfl; have v14 : a.tmps[140]?.getD undef = _ := hd 14 (of_decide_eq_true (by kernel_rfl)) 0 _ _ rfl rfl; have gd := tmp_bool v6; clear hd hF; refine wpOp_step rfl (fun K' hK => ?_); go_simp; exact hK _ _ ⟨_, rfl, Below.refl _ _, cst_ok⟩
                apply RegW.val 16 rfl
                · intro a w' hF hB hd; have v15 : a.tmps[141]?.getD undef = _ := hd 15 (of_decide_eq_true (by kernel_rfl)) 0 _ _ rfl rfl; have gd := tmp_bool v15; have e5 := hF.2.2 5 (by decide); simp at e5; clear hd hF; obtain ⟨x0, x1, x2, x3, x4, x5, x6, x7, x8, x9, x10⟩ := HT.out.held hB; refine wpOp_step rfl (fun K' hK => ?_); go_simp; exact hK _ _ ⟨_, rfl, Below.refl _ _, cst_ok⟩
                apply RegW.val 17 rfl
                · intro a w' hF hB hd; have v15 : a.tmps[141]?.getD undef = _ := hd 15 (of_decide_eq_true (by kernel_rfl)) 1 _ _ rfl rfl; have gd := tmp_bool v15; have e6 := hF.2.2 6 (by decide); simp at e6; clear hd hF; obtain ⟨x0, x1, x2, x3, x4, x5, x6, x7, x8, x9, x10⟩ := HT.out.held hB; refine wpOp_step rfl (fun K' hK => ?_); go_simp; exact hK _ _ ⟨_, rfl, Below.refl _ _, cst_ok⟩
                apply RegW.val 18 rfl
                · intro a w' hF hB hd; have v15 : a.tmps[141]?.getD undef = _ := hd 15 (of_decide_eq_true (by kernel_rfl)) 2 _ _ rfl rfl; have v16 : a.tmps[142]?.getD undef = _ := hd 16 (of_decide_eq_true (by kernel_rfl)) 1 _ _ rfl rfl; have v17 : a.tmps[143]?.getD undef = _ := hd 17 (of_decide_eq_true (by kernel_rfl)) 0 _ _ rfl rfl; have gd := tmp_bool v15; clear hd hF; refine wpOp_step rfl (fun K' hK => ?_); go_simp; (first | exact hK _ _ ⟨_, rfl, Below.refl _ _, cst_ok⟩ | (with_reducible refine (narrow_c _ _ _ _ _).mono ?_; rintro e w1 ⟨rfl, hb⟩; exact hK _ _ ⟨_, rfl, hb, cst_ok⟩))
                apply RegW.val 19 rfl
                · intro a w' hF hB hd; have v15 : a.tmps[141]?.getD undef = _ := hd 15 (of_decide_eq_true (by kernel_rfl)) 3 _ _ rfl rfl; have gd := tmp_bool v15; have e3 := hF.2.2 3 (by decide); simp at e3; clear hd hF; refine wpOp_step rfl (fun K' hK => ?_); go_simp; exact hK _ _ ⟨_, rfl, Below.refl _ _, cst_ok⟩
                apply RegW.val 20 rfl
                · intro a w' hF hB hd; have v15 : a.tmps[141]?.getD undef = _ := hd 15 (of_decide_eq_true (by kernel_rfl)) 4 _ _ rfl rfl; have v18 : a.tmps[144]?.getD undef = _ := hd 18 (of_decide_eq_true (by kernel_rfl)) 1 _ _ rfl rfl; have v19 : a.tmps[145]?.getD undef = _ := hd 19 (of_decide_eq_true (by kernel_rfl)) 0 _ _ rfl rfl; have gd := tmp_bool v15; clear hd hF; refine wpOp_step rfl (fun K' hK => ?_); go_simp; (first | exact hK _ _ ⟨_, rfl, Below.refl _ _, cst_ok⟩ | (with_reducible refine (has_v hx _).mono ?_; rintro e w1 ⟨rfl, hb⟩; exact hK _ _ ⟨_, rfl, hb, cst_ok⟩) | (with_reducible refine (has_v hy _).mono ?_; rintro e w1 ⟨rfl, hb⟩; exact hK _ _ ⟨_, rfl, hb, cst_ok⟩) | (with_reducible refine (has_v hnn _).mono ?_; rintro e w1 ⟨rfl, hb⟩; exact hK _ _ ⟨_, rfl, hb, cst_ok⟩))
                apply RegW.val 21 rfl
                · intro a w' hF hB hd; have v15 : a.tmps[141]?.getD undef = _ := hd 15 (of_decide_eq_true (by kernel_rfl)) 5 _ _ rfl rfl; have v20 : a.tmps[146]?.getD undef = _ := hd 20 (of_decide_eq_true (by kernel_rfl)) 0 _ _ rfl rfl; have gd := tmp_bool v15; clear hd hF; refine wpOp_step rfl (fun K' hK => ?_); go_simp; exact hK _ _ ⟨_, rfl, Below.refl _ _, cst_ok⟩
                apply RegW.val 22 rfl
                · intro a w' hF hB hd; have v6 : a.tmps[132]?.getD undef = _ := hd 6 (of_decide_eq_true (by kernel_rfl)) 15 _ _ rfl rfl; have v15 : a.tmps[141]?.getD undef = _ := hd 15 (of_decide_eq_true (by kernel_rfl)) 6 _ _ rfl rfl; have v21 : a.tmps[147]?.getD undef = _ := hd 21 (of_decide_eq_true (by kernel_rfl)) 0 _ _ rfl rfl; have gd := tmp_bool v6; clear hd hF; refine wpOp_step rfl (fun K' hK => ?_); go_simp; exact hK _ _ ⟨_, rfl, Below.refl _ _, cst_ok⟩
                apply RegW.val 23 rfl
                · intro a w' hF hB hd; have v6 : a.tmps[132]?.getD undef = _ := hd 6 (of_decide_eq_true (by kernel_rfl)) 16 _ _ rfl rfl; have v22 : a.tmps[148]?.getD undef = _ := hd 22 (of_decide_eq_true (by kernel_rfl)) 0 _ _ rfl rfl; clear hd hF; refine wpOp_step rfl (fun K' hK => ?_); go_simp; exact hK _ _ ⟨_, rfl, Below.refl _ _, cst_ok⟩
                apply RegW.val 24 rfl
                · intro a w' hF hB hd; have v23 : a.tmps[149]?.getD undef = _ := hd 23 (of_decide_eq_true (by kernel_rfl)) 0 _ _ rfl rfl; clear hd hF; refine wpOp_step rfl (fun K' hK => ?_); go_simp; exact hK _ _ ⟨_, rfl, Below.refl _ _, cst_ok⟩
                apply RegW.val 25 rfl
                · intro a w' hF hB hd; have v24 : a.tmps[150]?.getD undef = _ := hd 24 (of_decide_eq_true (by kernel_rfl)) 0 _ _ rfl rfl; have gd := tmp_bool v24; have e6 := hF.2.2 6 (by decide); simp at e6; clear hd hF; obtain ⟨x0, x1, x2, x3, x4, x5, x6, x7, x8, x9, x10⟩ := HT.out.held hB; refine wpOp_step rfl (fun K' hK => ?_); go_simp; exact hK _ _ ⟨_, rfl, Below.refl _ _, cst_ok⟩
                apply RegW.val 26 rfl
                · intro a w' hF hB hd; have v24 : a.tmps[150]?.getD undef = _ := hd 24 (of_decide_eq_true (by kernel_rfl)) 1 _ _ rfl rfl; have gd := tmp_bool v24; have e5 := hF.2.2 5 (by decide); simp at e5; clear hd hF; obtain ⟨x0, x1, x2, x3, x4, x5, x6, x7, x8, x9, x10⟩ := HT.out.held hB; refine wpOp_step rfl (fun K' hK => ?_); go_simp; exact hK _ _ ⟨_, rfl, Below.refl _ _, cst_ok⟩
                apply RegW.val 27 rfl
                · intro a w' hF hB hd; have v24 : a.tmps[150]?.getD undef = _ := hd 24 (of_decide_eq_true (by kernel_rfl)) 2 _ _ rfl rfl; have v25 : a.tmps[151]?.getD undef = _ := hd 25 (of_decide_eq_true (by kernel_rfl)) 1 _ _ rfl rfl; have v26 : a.tmps[152]?.getD undef = _ := hd 26 (of_decide_eq_true (by kernel_rfl)) 0 _ _ rfl rfl; have gd := tmp_bool v24; clear hd hF; refine wpOp_step rfl (fun K' hK => ?_); go_simp; (first | exact hK _ _ ⟨_, rfl, Below.refl _ _, cst_ok⟩ | (with_reducible refine (within_c _ _ _ _ _).mono ?_; rintro e w1 ⟨rfl, hb⟩; exact hK _ _ ⟨_, rfl, hb, cst_ok⟩))
                apply RegW.val 28 rfl
                · intro a w' hF hB hd; have v24 : a.tmps[150]?.getD undef = _ := hd 24 (of_decide_eq_true (by kernel_rfl)) 3 _ _ rfl rfl; have v27 : a.tmps[153]?.getD undef = _ := hd 27 (of_decide_eq_true (by kernel_rfl)) 0 _ _ rfl rfl; have gd := tmp_bool v24; clear hd hF; refine wpOp_step rfl (fun K' hK => ?_); go_simp; exact hK _ _ ⟨_, rfl, Below.refl _ _, cst_ok⟩
                apply RegW.val 29 rfl
                · intro a w' hF hB hd; have v28 : a.tmps[154]?.getD undef = _ := hd 28 (of_decide_eq_true (by kernel_rfl)) 0 _ _ rfl rfl; have gd := tmp_bool v28; have e5 := hF.2.2 5 (by decide); simp at e5; clear hd hF; obtain ⟨x0, x1, x2, x3, x4, x5, x6, x7, x8, x9, x10⟩ := HT.out.held hB; refine wpOp_step rfl (fun K' hK => ?_); go_simp; exact hK _ _ ⟨_, rfl, Below.refl _ _, cst_ok⟩
                apply RegW.val 30 rfl
                · intro a w' hF hB hd; have v28 : a.tmps[154]?.getD undef = _ := hd 28 (of_decide_eq_true (by kernel_rfl)) 1 _ _ rfl rfl; have gd := tmp_bool v28; have e6 := hF.2.2 6 (by decide); simp at e6; clear hd hF; obtain ⟨x0, x1, x2, x3, x4, x5, x6, x7, x8, x9, x10⟩ := HT.out.held hB; refine wpOp_step rfl (fun K' hK => ?_); go_simp; exact hK _ _ ⟨_, rfl, Below.refl _ _, cst_ok⟩
                apply RegW.val 31 rfl
                · intro a w' hF hB hd; have v28 : a.tmps[154]?.getD undef = _ := hd 28 (of_decide_eq_true (by kernel_rfl)) 2 _ _ rfl rfl; have v29 : a.tmps[155]?.getD undef = _ := hd 29 (of_decide_eq_true (by kernel_rfl)) 1 _ _ rfl rfl; have v30 : a.tmps[156]?.getD undef = _ := hd 30 (of_decide_eq_true (by kernel_rfl)) 0 _ _ rfl rfl; have gd := tmp_bool v28; clear hd hF; refine wpOp_step rfl (fun K' hK => ?_); go_simp; (first | exact hK _ _ ⟨_, rfl, Below.refl _ _, cst_ok⟩ | (with_reducible refine (narrow_c _ _ _ _ _).mono ?_; rintro e w1 ⟨rfl, hb⟩; exact hK _ _ ⟨_, rfl, hb, cst_ok⟩))
                apply RegW.val 32 rfl
                · intro a w' hF hB hd; have v28 : a.tmps[154]?.getD undef = _ := hd 28 (of_decide_eq_true (by kernel_rfl)) 3 _ _ rfl rfl; have gd := tmp_bool v28; have e5 := hF.2.2 5 (by decide); simp at e5; clear hd hF; obtain ⟨x0, x1, x2, x3, x4, x5, x6, x7, x8, x9, x10⟩ := HT.out.held hB; refine wpOp_step rfl (fun K' hK => ?_); go_simp; exact hK _ _ ⟨_, rfl, Below.refl _ _, cst_ok⟩
                apply RegW.val 33 rfl
                · intro a w' hF hB hd; have v28 : a.tmps[154]?.getD undef = _ := hd 28 (of_decide_eq_true (by kernel_rfl)) 4 _ _ rfl rfl; have v31 : a.tmps[157]?.getD undef = _ := hd 31 (of_decide_eq_true (by kernel_rfl)) 1 _ _ rfl rfl; have v32 : a.tmps[158]?.getD undef = _ := hd 32 (of_decide_eq_true (by kernel_rfl)) 0 _ _ rfl rfl; have gd := tmp_bool v28; clear hd hF; refine wpOp_step rfl (fun K' hK => ?_); go_simp; (first | exact hK _ _ ⟨_, rfl, Below.refl _ _, cst_ok⟩ | (with_reducible refine (within_c _ _ _ _ _).mono ?_; rintro e w1 ⟨rfl, hb⟩; exact hK _ _ ⟨_, rfl, hb, cst_ok⟩))
                apply RegW.val 34 rfl
                · intro a w' hF hB hd; have v28 : a.tmps[154]?.getD undef = _ := hd 28 (of_decide_eq_true (by kernel_rfl)) 5 _ _ rfl rfl; have v33 : a.tmps[159]?.getD undef = _ := hd 33 (of_decide_eq_true (by kernel_rfl)) 0 _ _ rfl rfl; have gd := tmp_bool v28; clear hd hF; refine wpOp_step rfl (fun K' hK => ?_); go_simp; exact hK _ _ ⟨_, rfl, Below.refl _ _, cst_ok⟩
                apply RegW.val 35 rfl
                · intro a w' hF hB hd; have v24 : a.tmps[150]?.getD undef = _ := hd 24 (of_decide_eq_true (by kernel_rfl)) 10 _ _ rfl rfl; have v28 : a.tmps[154]?.getD undef = _ := hd 28 (of_decide_eq_true (by kernel_rfl)) 6 _ _ rfl rfl; have v34 : a.tmps[160]?.getD undef = _ := hd 34 (of_decide_eq_true (by kernel_rfl)) 0 _ _ rfl rfl; have gd := tmp_bool v24; clear hd hF; refine wpOp_step rfl (fun K' hK => ?_); go_simp; exact hK _ _ ⟨_, rfl, Below.refl _ _, cst_ok⟩
                apply RegW.val 36 rfl
                · intro a w' hF hB hd; have v24 : a.tmps[150]?.getD undef = _ := hd 24 (of_decide_eq_true (by kernel_rfl)) 11 _ _ rfl rfl; have v35 : a.tmps[161]?.getD undef = _ := hd 35 (of_decide_eq_true (by kernel_rfl)) 0 _ _ rfl rfl; clear hd hF; refine wpOp_step rfl (fun K' hK => ?_); go_simp; exact hK _ _ ⟨_, rfl, Below.refl _ _, cst_ok⟩
                refine RegW.done (fun a w' hF hB hv => ?_)
                have v0 : a.tmps[126]?.getD undef = _ := hv 36 _ _ rfl
                have v1 : a.tmps[127]?.getD undef = _ := hv 35 _ _ rfl
                have v2 : a.tmps[128]?.getD undef = _ := hv 34 _ _ rfl
                have v3 : a.tmps[129]?.getD undef = _ := hv 33 _ _ rfl
                have v4 : a.tmps[130]?.getD undef = _ := hv 32 _ _ rfl
                have v5 : a.tmps[131]?.getD undef = _ := hv 31 _ _ rfl
                have v6 : a.tmps[132]?.getD undef = _ := hv 30 _ _ rfl
                have v7 : a.tmps[133]?.getD undef = _ := hv 29 _ _ rfl
                have v8 : a.tmps[134]?.getD undef = _ := hv 28 _ _ rfl
                have v9 : a.tmps[135]?.getD undef = _ := hv 27 _ _ rfl
                have v10 : a.tmps[136]?.getD undef = _ := hv 26 _ _ rfl
                have v11 : a.tmps[137]?.getD undef = _ := hv 25 _ _ rfl
                have v12 : a.tmps[138]?.getD undef = _ := hv 24 _ _ rfl
                have v13 : a.tmps[139]?.getD undef = _ := hv 23 _ _ rfl
                have v14 : a.tmps[140]?.getD undef = _ := hv 22 _ _ rfl
                have v15 : a.tmps[141]?.getD undef = _ := hv 21 _ _ rfl
                have v16 : a.tmps[142]?.getD undef = _ := hv 20 _ _ rfl
                have v17 : a.tmps[143]?.getD undef = _ := hv 19 _ _ rfl
                have v18 : a.tmps[144]?.getD undef = _ := hv 18 _ _ rfl
                have v19 : a.tmps[145]?.getD undef = _ := hv 17 _ _ rfl
                have v20 : a.tmps[146]?.getD undef = _ := hv 16 _ _ rfl
                have v21 : a.tmps[147]?.getD undef = _ := hv 15 _ _ rfl
                have v22 : a.tmps[148]?.getD undef = _ := hv 14 _ _ rfl
                have v23 : a.tmps[149]?.getD undef = _ := hv 13 _ _ rfl
                have v24 : a.tmps[150]?.getD undef = _ := hv 12 _ _ rfl
                have v25 : a.tmps[151]?.getD undef = _ := hv 11 _ _ rfl
                have v26 : a.tmps[152]?.getD undef = _ := hv 10 _ _ rfl
                have v27 : a.tmps[153]?.getD undef = _ := hv 9 _ _ rfl
                have v28 : a.tmps[154]?.getD undef = _ := hv 8 _ _ rfl
                have v29 : a.tmps[155]?.getD undef = _ := hv 7 _ _ rfl
                have v30 : a.tmps[156]?.getD undef = _ := hv 6 _ _ rfl
                have v31 : a.tmps[157]?.getD undef = _ := hv 5 _ _ rfl
                have v32 : a.tmps[158]?.getD undef = _ := hv 4 _ _ rfl
                have v33 : a.tmps[159]?.getD undef = _ := hv 3 _ _ rfl
                have v34 : a.tmps[160]?.getD undef = _ := hv 2 _ _ rfl
                have v35 : a.tmps[161]?.getD undef = _ := hv 1 _ _ rfl
                have v36 : a.tmps[162]?.getD undef = _ := hv 0 _ _ rfl
                have hE := hF.out
                rw [hE]
                clear hE hF hv
                simp only [List.foldl_cons, List.foldl_nil, Act.put, List.setIfInBounds_toArray, List.set_cons_zero, List.set_cons_succ, Array.getD_eq_getD_getElem?, v0, v1, v2, v3, v4, v5, v6, v7, v8, v9, v10, v11, v12, v13, v14, v15, v16, v17, v18, v19, v20, v21, v22, v23, v24, v25, v26, v27, v28, v29, v30, v31, v32, v33, v34, v35, v36]
                clear v0 v1 v2 v3 v4 v5 v6 v7 v8 v9 v10 v11 v12 v13 v14 v15 v16 v17 v18 v19 v20 v21 v22 v23 v24 v25 v26 v27 v28 v29 v30 v31 v32 v33 v34 v35 v36
                have hE0 := hB
                clear hB
                go_wp2_with fail
                go_meet
                exact ⟨rfl, HT.out.step hE0⟩
        case rest =>
          obtain ⟨rfl, hT⟩ := hcut
          have hTb := hT.1
          have hrd := HR.out.keep hTb
          have HRx := Lib.hid hrd
          have hka := hT.2.1
          have d0 := hka.cell 0
          have d1 := hka.cell 1
          have dz := hka.lt
          simp at d0 d1
          have HT := Lib.hid hT
          clear hT hTb hrd hka
          generalize wc = wx at *
          go_wp2_with fail
          go_loopw [14, 15] (fun t i w3 => ∃ (k q : Nat) (x1 x2 : Int), i = .int .i64 k ∧ t = .int .i64 q ∧ k ≤ len ∧ q ≤ rank x1 x2 ∧ -9223372036854775808 ≤ x1 ∧ x2 ≤ 9223372036854775807 ∧ Bk w3 wx.heap.size 24 #[.int .i64 x1, .int .i64 x2] ∧ Below wx.heap.size wx w3) (fun _ i _ => len - (intOf i).toNat)
          case atStart => exact ⟨0, 0, a1, a2, rfl, rfl, Nat.zero_le _, Nat.zero_le _, HA.out.1, HA.out.2, Bk.new wx 24 #[.int .i64 a1, .int .i64 a2], (Below.refl _ _).alloc (Nat.le_refl _) _⟩
          case round =>
            obtain ⟨k, q, x1, x2, rfl, rfl, hk, hq, hx1, hx2, hbk, hBx⟩ := hrel
            have hrk := rank_le x1 x2
            by_cases hlt : k < len
            · have h1 : decide ((k : Int) < (len : Int)) = true := by simp <;> omega
              obtain ⟨b, off, rfl, hbl, hcs⟩ := (HRx.out.keep hBx).2 (by omega)
              obtain ⟨p, hp⟩ : ∃ p, l[k]? = some p := ⟨_, List.getElem?_eq_getElem (by have := HR.out.1; omega)⟩
              obtain ⟨p1, p2⟩ := p
              obtain ⟨cp1, cp2⟩ := hcs k _ hp
              have hpb := HLs.out _ (List.mem_of_getElem? hp)
              have hrw := rank_widen x1 x2 p1 p2 hpb
              have hwb : -9223372036854775808 ≤ wlo x1 x2 p1 p2 ∧ whi x1 x2 p1 p2 ≤ 9223372036854775807 := by
                simp only at hpb
                unfold wlo whi plo phi
                (repeat' split) <;> omega
              have HPB := Lib.hid hwb
              have hl0 : ∀ w', Below wr.heap.size wr w' → w'.cell? ⟨b, off + k * 2, none⟩ = some (.int .i64 p1) ∧ w'.cell? ⟨b, off + k * 2 + 1, none⟩ = some (.int .i64 p2) := fun w' hw => ⟨(hw.cell (p := ⟨b, off + k * 2, none⟩) hbl).trans cp1, (hw.cell (p := ⟨b, off + k * 2 + 1, none⟩) hbl).trans cp2⟩
              have HL := Lib.hid (And.intro hbk hl0)
              have HB5 := Lib.hid hBx
              clear hbk hl0 hcs hp hpb hwb hBx cp1 cp2 hx1 hx2
              rcases hrw with ⟨hs, hq2⟩ | ⟨hs, hq2⟩
              · have HQ := Lib.hid (show q ≤ rank (wlo x1 x2 p1 p2) (whi x1 x2 p1 p2) by omega)
                clear hq2
                go_upto_region 14 with fail
                refine wp_region_walk [0, 1, 2, 3, 4, 5, 6, 7] [170, 171, 172, 173, 174, 175, 16] 1 (by kernel_rfl) (by kernel_rfl) (by kernel_rfl) rfl (by simp) (by kernel_rfl) (by kernel_rfl) ?_
                apply RegW.val 0 rfl
                · intro a w' hF hB hd; have e13 := hF.2.2 13 (by decide); simp at e13; clear hd hF; have x0 := (HL.out.1.keep hB).cell 0; have x1 := (HL.out.1.keep hB).cell 1; obtain ⟨x2, x3⟩ := HL.out.2 _ hB; refine wpOp_step rfl (fun K' hK => ?_); go_simp; exact hK _ _ ⟨_, rfl, Below.refl _ _, cst_ok⟩
                apply RegW.val 1 rfl
                · intro a w' hF hB hd; have e4 := hF.2.2 4 (by decide); simp at e4; clear hd hF; refine wpOp_step rfl (fun K' hK => ?_); go_simp; exact hK _ _ ⟨_, rfl, Below.refl _ _, cst_ok⟩
                apply RegW.val 2 rfl
                · intro a w' hF hB hd; have e15 := hF.2.2 15 (by decide); simp at e15; clear hd hF; refine wpOp_step rfl (fun K' hK => ?_); go_simp; exact hK _ _ ⟨_, rfl, Below.refl _ _, cst_ok⟩
                apply RegW.val 3 rfl
                · intro a w' hF hB hd; have v1 : a.tmps[171]?.getD undef = _ := hd 1 (of_decide_eq_true (by kernel_rfl)) 1 _ _ rfl rfl; have v2 : a.tmps[172]?.getD undef = _ := hd 2 (of_decide_eq_true (by kernel_rfl)) 0 _ _ rfl rfl; clear hd hF; refine wpOp_step rfl (fun K' hK => ?_); go_simp; exact hK _ _ ⟨_, rfl, Below.refl _ _, cst_ok⟩
                apply RegW.val 4 rfl
                · intro a w' hF hB hd; have v3 : a.tmps[173]?.getD undef = _ := hd 3 (of_decide_eq_true (by kernel_rfl)) 0 _ _ rfl rfl; clear hd hF; have x0 := (HL.out.1.keep hB).cell 0; have x1 := (HL.out.1.keep hB).cell 1; obtain ⟨x2, x3⟩ := HL.out.2 _ hB; refine wpOp_step rfl (fun K' hK => ?_); go_simp; exact hK _ _ ⟨_, rfl, Below.refl _ _, cst_ok⟩
                apply RegW.val 5 rfl
                · intro a w' hF hB hd; have v0 : a.tmps[170]?.getD undef = _ := hd 0 (of_decide_eq_true (by kernel_rfl)) 4 _ _ rfl rfl; have v4 : a.tmps[174]?.getD undef = _ := hd 4 (of_decide_eq_true (by kernel_rfl)) 0 _ _ rfl rfl; clear hd hF; refine wpOp_step rfl (fun K' hK => ?_); go_simp; (first | (with_reducible refine (widen_c _ _ _ _ _).mono ?_; rintro e w1 ⟨rfl, hb⟩; exact hK _ _ ⟨_, rfl, hb, cst_ok⟩))
                refine RegW.op 6 rfl (ptr wr.heap.size 24 2) ?_ ?_
                · intro a w' hF hB hd; clear hd hF; refine wpOp_step rfl (fun K' hK => ?_); go_simp; exact hK _ _ ⟨_, rfl, (Below.refl _ _).alloc (Nat.le_refl _) _, ⟨_, rfl, hB.size, _, rfl, Bk.new _ _ _⟩⟩
                refine RegW.tail1 7 rfl (fun a w' hF hB hv => ?_)
                have v0 : a.tmps[170]?.getD undef = _ := hv 6 _ _ rfl
                have v1 : a.tmps[171]?.getD undef = _ := hv 5 _ _ rfl
                have v2 : a.tmps[172]?.getD undef = _ := hv 4 _ _ rfl
                have v3 : a.tmps[173]?.getD undef = _ := hv 3 _ _ rfl
                have v4 : a.tmps[174]?.getD undef = _ := hv 2 _ _ rfl
                have v5 : a.tmps[175]?.getD undef = _ := hv 1 _ _ rfl
                have u6 := hv 0 _ _ rfl
                obtain ⟨g6, p6, q6, cs6, r6, s6⟩ := u6
                obtain ⟨z0, z1, c0, c1⟩ := s6.cells2 r6
                have y0 := s6.frozen 0
                have y1 := s6.frozen 1
                have HS6 := Lib.hid (And.intro s6 (And.intro r6 (And.intro q6 hB)))
                clear s6 r6 q6 hB
                refine wpOp_step rfl (fun K' hK => ?_)
                go_simp
                refine hK _ _ ?_
                clear hK
                clear hv
                have hE := hF.out
                rw [hE]
                clear hE hF
                simp only [List.foldl_cons, List.foldl_nil, Act.put, List.setIfInBounds_toArray, List.set_cons_zero, List.set_cons_succ, Array.getD_eq_getD_getElem?, v0, v1, v2, v3, v4, v5, p6]
                clear p6 c0 c1 y0 y1 v0 v1 v2 v3 v4 v5
                obtain ⟨s6, r6, q6, hB⟩ := HS6.out
                have hk16 := s6.stored2 r6 (.int .i64 (wlo x1 x2 p1 p2)) (.int .i64 (whi x1 x2 p1 p2))
                have hne : wx.heap.size ≠ g6 := by have := HL.out.1.lt; omega
                have hkx := ((HL.out.1.keep hB).far (p := ⟨g6, 0, none⟩) hne (.int .i64 (wlo x1 x2 p1 p2))).far (p := ⟨g6, 1, none⟩) hne (.int .i64 (whi x1 x2 p1 p2))
                have hBB := HB5.out.trans (((hB.setCell (p := ⟨g6, 0, none⟩) q6 (.int .i64 (wlo x1 x2 p1 p2))).setCell (p := ⟨g6, 1, none⟩) q6 (.int .i64 (whi x1 x2 p1 p2))).mono HB5.out.size)
                generalize ((w'.setCell ⟨g6, 0, none⟩ (.int .i64 (wlo x1 x2 p1 p2))).setCell ⟨g6, 1, none⟩ (.int .i64 (whi x1 x2 p1 p2))) = w5 at *
                have e0 := hkx.cell 0
                have e1 := hkx.cell 1
                have e2 := hk16.cell 0
                have e3 := hk16.cell 1
                simp at e0 e1 e2 e3
                have HZ := Lib.hid (And.intro hk16 (And.intro hkx hBB))
                clear s6 r6 q6 hB hk16 hkx hBB HS6 hne
                go_wp2_with (go_at_call 20; refine (same_c _ _ _ _ _).mono ?_; rintro e w6 ⟨rfl, hb6⟩; have k16 := HZ.out.1.keep hb6; have kx := HZ.out.2.1.keep hb6; have f0 := k16.cell 0; have f1 := k16.cell 1; have f2 := kx.cell 0; have f3 := kx.cell 1; have f4 := kx.frozen 0; have f5 := kx.frozen 1; simp at f0 f1 f2 f3; have HZ6 := Lib.hid (And.intro kx hb6); clear k16 kx hb6)
                obtain ⟨kx, hb6⟩ := HZ6.out
                go_roundw
                case rel => exact ⟨k + 1, q, wlo x1 x2 p1 p2, whi x1 x2 p1 p2, by go_num, by simp, by omega, HQ.out, HPB.out.1, HPB.out.2, by simpa using (kx.put 0 (.int .i64 (wlo x1 x2 p1 p2))).put 1 (.int .i64 (whi x1 x2 p1 p2)), ((HZ.out.2.2.trans (hb6.mono HZ.out.2.2.size)).setCell (Nat.le_refl _) _).setCell (Nat.le_refl _) _⟩
                case measure => simp [intOf] <;> omega
              · have HQ := Lib.hid (show q + 1 ≤ rank (wlo x1 x2 p1 p2) (whi x1 x2 p1 p2) by omega)
                clear hq2
                go_upto_region 14 with fail
                refine wp_region_walk [0, 1, 2, 3, 4, 5, 6, 7] [170, 171, 172, 173, 174, 175, 16] 1 (by kernel_rfl) (by kernel_rfl) (by kernel_rfl) rfl (by simp) (by kernel_rfl) (by kernel_rfl) ?_
                apply RegW.val 0 rfl
                · intro a w' hF hB hd; have e13 := hF.2.2 13 (by decide); simp at e13; clear hd hF; have x0 := (HL.out.1.keep hB).cell 0; have x1 := (HL.out.1.keep hB).cell 1; obtain ⟨x2, x3⟩ := HL.out.2 _ hB; refine wpOp_step rfl (fun K' hK => ?_); go_simp; exact hK _ _ ⟨_, rfl, Below.refl _ _, cst_ok⟩
                apply RegW.val 1 rfl
                · intro a w' hF hB hd; have e4 := hF.2.2 4 (by decide); simp at e4; clear hd hF; refine wpOp_step rfl (fun K' hK => ?_); go_simp; exact hK _ _ ⟨_, rfl, Below.refl _ _, cst_ok⟩
                apply RegW.val 2 rfl
                · intro a w' hF hB hd; have e15 := hF.2.2 15 (by decide); simp at e15; clear hd hF; refine wpOp_step rfl (fun K' hK => ?_); go_simp; exact hK _ _ ⟨_, rfl, Below.refl _ _, cst_ok⟩
                apply RegW.val 3 rfl
                · intro a w' hF hB hd; have v1 : a.tmps[171]?.getD undef = _ := hd 1 (of_decide_eq_true (by kernel_rfl)) 1 _ _ rfl rfl; have v2 : a.tmps[172]?.getD undef = _ := hd 2 (of_decide_eq_true (by kernel_rfl)) 0 _ _ rfl rfl; clear hd hF; refine wpOp_step rfl (fun K' hK => ?_); go_simp; exact hK _ _ ⟨_, rfl, Below.refl _ _, cst_ok⟩
                apply RegW.val 4 rfl
                · intro a w' hF hB hd; have v3 : a.tmps[173]?.getD undef = _ := hd 3 (of_decide_eq_true (by kernel_rfl)) 0 _ _ rfl rfl; clear hd hF; have x0 := (HL.out.1.keep hB).cell 0; have x1 := (HL.out.1.keep hB).cell 1; obtain ⟨x2, x3⟩ := HL.out.2 _ hB; refine wpOp_step rfl (fun K' hK => ?_); go_simp; exact hK _ _ ⟨_, rfl, Below.refl _ _, cst_ok⟩
                apply RegW.val 5 rfl
                · intro a w' hF hB hd; have v0 : a.tmps[170]?.getD undef = _ := hd 0 (of_decide_eq_true (by kernel_rfl)) 4 _ _ rfl rfl; have v4 : a.tmps[174]?.getD undef = _ := hd 4 (of_decide_eq_true (by kernel_rfl)) 0 _ _ rfl rfl; clear hd hF; refine wpOp_step rfl (fun K' hK => ?_); go_simp; (first | (with_reducible refine (widen_c _ _ _ _ _).mono ?_; rintro e w1 ⟨rfl, hb⟩; exact hK _ _ ⟨_, rfl, hb, cst_ok⟩))
                refine RegW.op 6 rfl (ptr wr.heap.size 24 2) ?_ ?_
                · intro a w' hF hB hd; clear hd hF; refine wpOp_step rfl (fun K' hK => ?_); go_simp; exact hK _ _ ⟨_, rfl, (Below.refl _ _).alloc (Nat.le_refl _) _, ⟨_, rfl, hB.size, _, rfl, Bk.new _ _ _⟩⟩
                refine RegW.tail1 7 rfl (fun a w' hF hB hv => ?_)
                have v0 : a.tmps[170]?.getD undef = _ := hv 6 _ _ rfl
                have v1 : a.tmps[171]?.getD undef = _ := hv 5 _ _ rfl
                have v2 : a.tmps[172]?.getD undef = _ := hv 4 _ _ rfl
                have v3 : a.tmps[173]?.getD undef = _ := hv 3 _ _ rfl
                have v4 : a.tmps[174]?.getD undef = _ := hv 2 _ _ rfl
                have v5 : a.tmps[175]?.getD undef = _ := hv 1 _ _ rfl
                have u6 := hv 0 _ _ rfl
                obtain ⟨g6, p6, q6, cs6, r6, s6⟩ := u6
                obtain ⟨z0, z1, c0, c1⟩ := s6.cells2 r6
                have y0 := s6.frozen 0
                have y1 := s6.frozen 1
                have HS6 := Lib.hid (And.intro s6 (And.intro r6 (And.intro q6 hB)))
                clear s6 r6 q6 hB
                refine wpOp_step rfl (fun K' hK => ?_)
                go_simp
                refine hK _ _ ?_
                clear hK
                clear hv
                have hE := hF.out
                rw [hE]
                clear hE hF
                simp only [List.foldl_cons, List.foldl_nil, Act.put, List.setIfInBounds_toArray, List.set_cons_zero, List.set_cons_succ, Array.getD_eq_getD_getElem?, v0, v1, v2, v3, v4, v5, p6]
                clear p6 c0 c1 y0 y1 v0 v1 v2 v3 v4 v5
                obtain ⟨s6, r6, q6, hB⟩ := HS6.out
                have hk16 := s6.stored2 r6 (.int .i64 (wlo x1 x2 p1 p2)) (.int .i64 (whi x1 x2 p1 p2))
                have hne : wx.heap.size ≠ g6 := by have := HL.out.1.lt; omega
                have hkx := ((HL.out.1.keep hB).far (p := ⟨g6, 0, none⟩) hne (.int .i64 (wlo x1 x2 p1 p2))).far (p := ⟨g6, 1, none⟩) hne (.int .i64 (whi x1 x2 p1 p2))
                have hBB := HB5.out.trans (((hB.setCell (p := ⟨g6, 0, none⟩) q6 (.int .i64 (wlo x1 x2 p1 p2))).setCell (p := ⟨g6, 1, none⟩) q6 (.int .i64 (whi x1 x2 p1 p2))).mono HB5.out.size)
                generalize ((w'.setCell ⟨g6, 0, none⟩ (.int .i64 (wlo x1 x2 p1 p2))).setCell ⟨g6, 1, none⟩ (.int .i64 (whi x1 x2 p1 p2))) = w5 at *
                have e0 := hkx.cell 0
                have e1 := hkx.cell 1
                have e2 := hk16.cell 0
                have e3 := hk16.cell 1
                simp at e0 e1 e2 e3
                have HZ := Lib.hid (And.intro hk16 (And.intro hkx hBB))
                clear s6 r6 q6 hB hk16 hkx hBB HS6 hne
                go_wp2_with (go_at_call 20; refine (same_c _ _ _ _ _).mono ?_; rintro e w6 ⟨rfl, hb6⟩; have k16 := HZ.out.1.keep hb6; have kx := HZ.out.2.1.keep hb6; have f0 := k16.cell 0; have f1 := k16.cell 1; have f2 := kx.cell 0; have f3 := kx.cell 1; have f4 := kx.frozen 0; have f5 := kx.frozen 1; simp at f0 f1 f2 f3; have HZ6 := Lib.hid (And.intro kx hb6); clear k16 kx hb6)
                obtain ⟨kx, hb6⟩ := HZ6.out
                go_roundw
                case rel => exact ⟨k + 1, q + 1, wlo x1 x2 p1 p2, whi x1 x2 p1 p2, by go_num, by simp, by omega, HQ.out, HPB.out.1, HPB.out.2, by simpa using (kx.put 0 (.int .i64 (wlo x1 x2 p1 p2))).put 1 (.int .i64 (whi x1 x2 p1 p2)), ((HZ.out.2.2.trans (hb6.mono HZ.out.2.2.size)).setCell (Nat.le_refl _) _).setCell (Nat.le_refl _) _⟩
                case measure => simp [intOf] <;> omega
            · obtain rfl : k = len := by omega
              have h1 : decide ((k : Int) < (k : Int)) = false := by simp
              have h2 : decide ((q : Int) ≤ 3) = true := by simp <;> omega
              have HB5 := Lib.hid hBx
              clear hbk hBx
              go_wp2_with (go_at_call 7; refine (works_c _).mono ?_; rintro e w6 ⟨rfl, hb6⟩)
              go_ret
              exact ⟨rfl, (HT.out.1.trans (HB5.out.mono HT.out.1.size)).trans (hb6.mono (Nat.le_trans HT.out.1.size HB5.out.size))⟩
end Go.Proofs.Ytfepaalplceaaaa
