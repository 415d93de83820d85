/- DeciTexts returns true whatever the limbs and the whole number: the digits are the document's, and as many; for every input, no condition. -/
import Derived.Test.YtehdbogiacmabaaDany
import Derived.Test.YtehdbogiacmabaaDargs
namespace Go.Proofs.Ytehdbogiacmabaa
open Go.ChangeShapes Go.WideShapes Go.ChangeAt Go.RowKit Go.Joins
theorem readFtexts : (Try.f4.params.toList.all fun t => Try.prog.readableRec t && decide (t < Try.prog.types.size)) = true := by kernel_rfl
set_option maxRecDepth 100000 in
theorem texts_lifted (os : Os) (started : os.Started) (H : Type) (enc : TypeId × Value → H) :
    ReturnsInHanded {} Try.checked os 4 .any (Rows.deciTextsSpec.pre6 enc Try.prog Try.f4 Rows.deciTextsRow.domain false) (Rows.deciTextsSpec.post enc Try.prog Try.f4 false true false false) := by
  refine returnsInHanded_of_change (C := Try.checked) own started (by kernel_rfl) Try.func4
    (ChangeSpec.witness6 (enc := enc) (C := Try.checked) false ⟨#[], #[.slice none 0 0, .int .i64 0], []⟩ 8 (by kernel_rfl) (by kernel_rfl) (by kernel_rfl) (by kernel_rfl)) ?_
  intro W base args ds gs before hval0 hW hcnd _
  have hval : ∀ (j : Nat) t v, Try.f4.params[j]? = some t → args[j]? = some v → Value.okWide Try.prog W .any base t v := hval0
  have hW' := hW
  obtain ⟨p, q, hA0, hV, rfl, hfz, hnd⟩ := hW
  have hA : DataW.TrodAll enc Try.prog W 0 (fun _ => true) true Try.f4.params.toList args.toList ds p := hA0
  rw [Try.params4] at hA hval
  obtain ⟨v0, r0, d0, e0, p0, q0, hargs, rfl, rfl, h0, hA1⟩ := trodAll_cons hA
  obtain ⟨v1, r1, d1, e1, p1, q1, rfl, rfl, rfl, h1, hA2⟩ := trodAll_cons hA1
  obtain ⟨rfl, rfl, rfl⟩ := trodAll_nil hA2
  obtain ⟨rfl, rfl⟩ := trodVars_none hV
  have hargs' : args = #[v0, v1] := by
    cases args; simpa using hargs
  subst hargs'
  obtain ⟨A0, n0, c0, l0, rfl, hn0, hm0, ra0, ta0⟩ := open_words (hval 0 22 v0 rfl rfl) h0
  obtain ⟨x1, rfl, lo1, hi1⟩ := open_whole64 (hval 1 2 v1 rfl rfl) h1
  refine (texts_any A0 n0 c0 l0 x1 W ra0 ta0 lo1 hi1).mono fun e W' ⟨he, hg⟩ => ?_
  subst he
  exact ⟨_, rfl, law_post laidOut readFtexts (by kernel_rfl) Try.underlying4 rfl rfl rfl rfl hW' hg⟩
theorem texts_over : Rows.deciTextsRow.holds Try.pinned (OpenSpec.ofChange Rows.deciTextsSpec) :=
  OpenClaim.holds_of_wide 4 Try.f4 rfl rfl rfl rfl rfl rfl rfl ⟨rfl, rfl, rfl, rfl, rfl⟩ rfl rfl rfl rfl rfl (by kernel_rfl) Try.func4 (by kernel_rfl)
    (of_decide_eq_true (by kernel_rfl)) (by unfold Func.isWrapper; first | (rw [if_pos (by decide +kernel)]; kernel_rfl) | (rw [if_neg (by decide +kernel)]; exact ⟨rfl, rfl⟩))
    (fun os started H enc _ => texts_lifted os started H enc)
/-- The statement. -/
theorem texts_holds : Rows.DeciTextsSaid := texts_over
#print axioms texts_holds
end Go.Proofs.Ytehdbogiacmabaa
