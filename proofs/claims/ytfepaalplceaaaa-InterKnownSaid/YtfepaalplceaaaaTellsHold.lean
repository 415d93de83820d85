/- InterTells returns true whatever the two intervals and the number: any interval is told as the document says, also one that is empty otherwise; for every input, no condition. -/
import Derived.Test.YtfepaalplceaaaaArgs
import Derived.Test.YtfepaalplceaaaaTells
namespace Go.Proofs.Ytfepaalplceaaaa
open Go.ChangeShapes Go.WideShapes Go.ChangeAt Go.RowKit Go.Joins
theorem readF5 : (Try.f5.params.toList.all fun t => Try.prog.readableRec t && decide (t < Try.prog.types.size)) = true := by kernel_rfl

set_option maxRecDepth 100000 in
theorem tells_lifted (os : Os) (started : os.Started) (H : Type) (enc : TypeId × Value → H) :
    ReturnsInHanded {} Try.checked os 5 .any (Rows.interTellsSpec.pre6 enc Try.prog Try.f5 Rows.interTellsRow.domain false) (Rows.interTellsSpec.post enc Try.prog Try.f5 false true false false) := by
  refine returnsInHanded_of_change (C := Try.checked) own started (by kernel_rfl) Try.func5
    (ChangeSpec.witness6 (enc := enc) (C := Try.checked) false ⟨#[], #[.agg #[.int .i64 0, .int .i64 0], .agg #[.int .i64 0, .int .i64 0], .int .i64 0], []⟩ 8 (by kernel_rfl) (by kernel_rfl) (by kernel_rfl) (by kernel_rfl)) ?_
  intro W base args ds gs before hval0 hW hcnd _
  have hval : ∀ (j : Nat) t v, Try.f5.params[j]? = some t → args[j]? = some v → Value.okWide Try.prog W .any base t v := hval0
  have hW' := hW
  obtain ⟨p, q, hA0, hV, rfl, hfz, hnd⟩ := hW
  have hA : DataW.TrodAll enc Try.prog W 0 (fun _ => true) true Try.f5.params.toList args.toList ds p := hA0
  rw [Try.params5] at hA hval
  obtain ⟨v0, v1, v2, d0, d1, d2, p0, p1, p2, hargs, rfl, rfl, h0, h1, h2⟩ := trodAll_three hA
  obtain ⟨rfl, rfl⟩ := trodVars_none hV
  have hargs' : args = #[v0, v1, v2] := by
    cases args; simpa using hargs
  subst hargs'
  obtain ⟨a, rfl, ha⟩ := open_inter (hval 0 24 v0 rfl rfl) h0
  obtain ⟨b, rfl, _⟩ := open_inter (hval 1 24 v1 rfl rfl) h1
  obtain ⟨n, rfl, _⟩ := open_int_ (hval 2 2 v2 rfl rfl) h2
  refine (tells_c a.1 a.2 b.1 b.2 n W ⟨ha.1.1, ha.2.2⟩).mono fun e W' ⟨he, hg⟩ => ?_
  subst he
  exact ⟨_, rfl, law_post laidOut readF5 (by kernel_rfl) Try.underlying4 rfl rfl rfl rfl hW' hg⟩

theorem tells_over : Rows.interTellsRow.holds Try.pinned (OpenSpec.ofChange Rows.interTellsSpec) :=
  OpenClaim.holds_of_wide 5 Try.f5 rfl rfl rfl rfl rfl rfl rfl ⟨rfl, rfl, rfl, rfl, rfl⟩ rfl rfl rfl rfl rfl (by kernel_rfl) Try.func5 (by kernel_rfl)
    (of_decide_eq_true (by kernel_rfl)) (by unfold Func.isWrapper; first | (rw [if_pos (by decide +kernel)]; kernel_rfl) | (rw [if_neg (by decide +kernel)]; exact ⟨rfl, rfl⟩))
    (fun os started H enc _ => tells_lifted os started H enc)

/-- The statement. -/
theorem tells_holds : Rows.InterTellsSaid := tells_over
#print axioms tells_holds
end Go.Proofs.Ytfepaalplceaaaa
