/- InterJoins returns true whatever the intervals: joins and meets of any intervals, and what is widened and narrowed, are the document's; for every input, no condition. -/
import Derived.Test.YtfepaalplceaaaaArgs
import Derived.Test.YtfepaalplceaaaaJoins
namespace Go.Proofs.Ytfepaalplceaaaa
open Go.ChangeShapes Go.WideShapes Go.ChangeAt Go.RowKit Go.Joins
theorem readF3 : (Try.f3.params.toList.all fun t => Try.prog.readableRec t && decide (t < Try.prog.types.size)) = true := by kernel_rfl

theorem joins_any (A : Option Addr) (n c : Nat) (l : List (Int × Int)) (a1 a2 b1 b2 : Int) (w : World) (hr : Rd w A n l) (hm : n ≤ maxLen) :
    Calls Try.prog 3 #[.slice A n c, .agg #[.int .i64 a1, .int .i64 a2], .agg #[.int .i64 b1, .int .i64 b2]] w fun e w' => e = .returned (.bool true) ∧ Below w.heap.size w w' := by
  by_cases hn : n ≤ 20
  · exact joins_c A n c l a1 a2 b1 b2 w hr hn
  · unfold maxLen at hm
    have hn' : (20 : Int) < (n : Int) := by omega
    clear hr
    go_enter Try.func3, Try.ntmps3
    go_wp2_with (first | (go_at_call 7; refine (works_c _).mono ?_; rintro e w1 ⟨rfl, hb1⟩))
    go_ret
    exact ⟨rfl, by repeat (first | exact Below.refl _ _ | assumption | refine Below.alloc ?_ (by first | omega | (simp <;> omega)) _ | refine Below.trans ?_ (Below.mono (by assumption) (by first | omega | (simp <;> omega))))⟩

set_option maxRecDepth 100000 in
theorem joins_lifted (os : Os) (started : os.Started) (H : Type) (enc : TypeId × Value → H) :
    ReturnsInHanded {} Try.checked os 3 .any (Rows.interJoinsSpec.pre6 enc Try.prog Try.f3 Rows.interJoinsRow.domain false) (Rows.interJoinsSpec.post enc Try.prog Try.f3 false true false false) := by
  refine returnsInHanded_of_change (C := Try.checked) own started (by kernel_rfl) Try.func3
    (ChangeSpec.witness6 (enc := enc) (C := Try.checked) false ⟨#[], #[.slice none 0 0, .agg #[.int .i64 0, .int .i64 0], .agg #[.int .i64 0, .int .i64 0]], []⟩ 8 (by kernel_rfl) (by kernel_rfl) (by kernel_rfl) (by kernel_rfl)) ?_
  intro W base args ds gs before hval0 hW hcnd _
  have hval : ∀ (j : Nat) t v, Try.f3.params[j]? = some t → args[j]? = some v → Value.okWide Try.prog W .any base t v := hval0
  have hW' := hW
  obtain ⟨p, q, hA0, hV, rfl, hfz, hnd⟩ := hW
  have hA : DataW.TrodAll enc Try.prog W 0 (fun _ => true) true Try.f3.params.toList args.toList ds p := hA0
  rw [Try.params3] at hA hval
  obtain ⟨v0, v1, v2, d0, d1, d2, p0, p1, p2, hargs, rfl, rfl, h0, h1, h2⟩ := trodAll_three hA
  obtain ⟨rfl, rfl⟩ := trodVars_none hV
  have hargs' : args = #[v0, v1, v2] := by
    cases args; simpa using hargs
  subst hargs'
  obtain ⟨A, n, c, l, rfl, hm, hr, _⟩ := open_inters (hval 0 22 v0 rfl rfl) h0
  obtain ⟨a, rfl, _⟩ := open_inter (hval 1 24 v1 rfl rfl) h1
  obtain ⟨b, rfl, _⟩ := open_inter (hval 2 24 v2 rfl rfl) h2
  refine (joins_any A n c l a.1 a.2 b.1 b.2 W hr hm).mono fun e W' ⟨he, hg⟩ => ?_
  subst he
  exact ⟨_, rfl, law_post laidOut readF3 (by kernel_rfl) Try.underlying4 rfl rfl rfl rfl hW' hg⟩

theorem joins_over : Rows.interJoinsRow.holds Try.pinned (OpenSpec.ofChange Rows.interJoinsSpec) :=
  OpenClaim.holds_of_wide 3 Try.f3 rfl rfl rfl rfl rfl rfl rfl ⟨rfl, rfl, rfl, rfl, rfl⟩ rfl rfl rfl rfl rfl (by kernel_rfl) Try.func3 (by kernel_rfl)
    (of_decide_eq_true (by kernel_rfl)) (by unfold Func.isWrapper; first | (rw [if_pos (by decide +kernel)]; kernel_rfl) | (rw [if_neg (by decide +kernel)]; exact ⟨rfl, rfl⟩))
    (fun os started H enc _ => joins_lifted os started H enc)

/-- The statement. -/
theorem joins_holds : Rows.InterJoinsSaid := joins_over
#print axioms joins_holds
end Go.Proofs.Ytfepaalplceaaaa
