/- InterLattice returns true whatever the intervals and the number: a join has all that is in either, a meet just what is in both, and so on; for every input, no condition. -/
import Derived.Test.YtfepaalplceaaaaArgs
import Derived.Test.YtfepaalplceaaaaLattice
namespace Go.Proofs.Ytfepaalplceaaaa
open Go.ChangeShapes Go.WideShapes Go.ChangeAt Go.RowKit Go.Joins
theorem readF4 : (Try.f4.params.toList.all fun t => Try.prog.readableRec t && decide (t < Try.prog.types.size)) = true := by kernel_rfl

set_option maxRecDepth 100000 in
set_option maxHeartbeats 1600000 in
theorem lattice_any (a1 a2 b1 b2 c1 c2 n : Int) (A : Option Addr) (len cap : Nat) (l : List (Int × Int)) (w : World) (hr : Rd w A len l) (hm : len ≤ maxLen) (ha : -9223372036854775808 ≤ a1 ∧ a2 ≤ 9223372036854775807) (hb : -9223372036854775808 ≤ b1 ∧ b2 ≤ 9223372036854775807) (hl : ∀ q ∈ l, -9223372036854775808 ≤ q.1 ∧ q.2 ≤ 9223372036854775807) :
    Calls Try.prog 4 #[.agg #[.int .i64 a1, .int .i64 a2], .agg #[.int .i64 b1, .int .i64 b2], .agg #[.int .i64 c1, .int .i64 c2], .int .i64 n, .slice A len cap] w fun e w' => e = .returned (.bool true) ∧ Below w.heap.size w w' := by
  by_cases hn : len ≤ 30
  · exact lattice_c a1 a2 b1 b2 c1 c2 n A len cap l w hr hn ha hb hl
  · unfold maxLen at hm
    have hn' : (30 : Int) < (len : Int) := by omega
    clear hr
    go_enter Try.func4, Try.ntmps4
    go_wp2_with (first | (go_at_call 7; refine (works_c _).mono ?_; rintro e w1 ⟨rfl, hb1⟩))
    go_ret
    exact ⟨rfl, by repeat (first | exact Below.refl _ _ | assumption | refine Below.alloc ?_ (by first | omega | (simp <;> omega)) _ | refine Below.trans ?_ (Below.mono (by assumption) (by first | omega | (simp <;> omega))))⟩

set_option maxRecDepth 100000 in
theorem lattice_lifted (os : Os) (started : os.Started) (H : Type) (enc : TypeId × Value → H) :
    ReturnsInHanded {} Try.checked os 4 .any (Rows.interLatticeSpec.pre6 enc Try.prog Try.f4 Rows.interLatticeRow.domain false) (Rows.interLatticeSpec.post enc Try.prog Try.f4 false true false false) := by
  refine returnsInHanded_of_change (C := Try.checked) own started (by kernel_rfl) Try.func4
    (ChangeSpec.witness6 (enc := enc) (C := Try.checked) false ⟨#[], #[.agg #[.int .i64 0, .int .i64 0], .agg #[.int .i64 0, .int .i64 0], .agg #[.int .i64 0, .int .i64 0], .int .i64 0, .slice none 0 0], []⟩ 8 (by kernel_rfl) (by kernel_rfl) (by kernel_rfl) (by kernel_rfl)) ?_
  intro W base args ds gs before hval0 hW hcnd _
  have hval : ∀ (j : Nat) t v, Try.f4.params[j]? = some t → args[j]? = some v → Value.okWide Try.prog W .any base t v := hval0
  have hW' := hW
  obtain ⟨p, q, hA0, hV, rfl, hfz, hnd⟩ := hW
  have hA : DataW.TrodAll enc Try.prog W 0 (fun _ => true) true Try.f4.params.toList args.toList ds p := hA0
  rw [Try.params4] at hA hval
  obtain ⟨v0, r0, d0, e0, p0, q0, hargs, rfl, rfl, h0, hA1⟩ := trodAll_cons hA
  obtain ⟨v1, r1, d1, e1, p1, q1, rfl, rfl, rfl, h1, hA2⟩ := trodAll_cons hA1
  obtain ⟨v2, r2, d2, e2, p2, q2, rfl, rfl, rfl, h2, hA3⟩ := trodAll_cons hA2
  obtain ⟨v3, r3, d3, e3, p3, q3, rfl, rfl, rfl, h3, hA4⟩ := trodAll_cons hA3
  obtain ⟨v4, r4, d4, e4, p4, q4, rfl, rfl, rfl, h4, hA5⟩ := trodAll_cons hA4
  obtain ⟨rfl, rfl, rfl⟩ := trodAll_nil hA5
  obtain ⟨rfl, rfl⟩ := trodVars_none hV
  have hargs' : args = #[v0, v1, v2, v3, v4] := by
    cases args; simpa using hargs
  subst hargs'
  obtain ⟨a, rfl, ha⟩ := open_inter (hval 0 24 v0 rfl rfl) h0
  obtain ⟨b, rfl, hb⟩ := open_inter (hval 1 24 v1 rfl rfl) h1
  obtain ⟨c, rfl, _⟩ := open_inter (hval 2 24 v2 rfl rfl) h2
  obtain ⟨n, rfl, _⟩ := open_int_ (hval 3 2 v3 rfl rfl) h3
  obtain ⟨A, len, cap, l, rfl, hm, hr, hl⟩ := open_inters (hval 4 22 v4 rfl rfl) h4
  refine (lattice_any a.1 a.2 b.1 b.2 c.1 c.2 n A len cap l W hr hm ⟨ha.1.1, ha.2.2⟩ ⟨hb.1.1, hb.2.2⟩ (fun q hq => ⟨(hl q hq).1.1, (hl q hq).2.2⟩)).mono fun e W' ⟨he, hg⟩ => ?_
  subst he
  exact ⟨_, rfl, law_post laidOut readF4 (by kernel_rfl) Try.underlying4 rfl rfl rfl rfl hW' hg⟩

theorem lattice_over : Rows.interLatticeRow.holds Try.pinned (OpenSpec.ofChange Rows.interLatticeSpec) :=
  OpenClaim.holds_of_wide 4 Try.f4 rfl rfl rfl rfl rfl rfl rfl ⟨rfl, rfl, rfl, rfl, rfl⟩ rfl rfl rfl rfl rfl (by kernel_rfl) Try.func4 (by kernel_rfl)
    (of_decide_eq_true (by kernel_rfl)) (by unfold Func.isWrapper; first | (rw [if_pos (by decide +kernel)]; kernel_rfl) | (rw [if_neg (by decide +kernel)]; exact ⟨rfl, rfl⟩))
    (fun os started H enc _ => lattice_lifted os started H enc)

/-- The statement. -/
theorem lattice_holds : Rows.InterLatticeSaid := lattice_over
#print axioms lattice_holds
end Go.Proofs.Ytfepaalplceaaaa
