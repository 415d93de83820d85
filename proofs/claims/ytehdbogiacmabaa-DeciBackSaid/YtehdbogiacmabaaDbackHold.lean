/- DeciBack returns true whatever the limbs, the divisor, the whole number and the text: what is told is read as it was; for every input, no condition. -/
import Derived.Test.YtehdbogiacmabaaDany
import Derived.Test.YtehdbogiacmabaaDargs
namespace Go.Proofs.Ytehdbogiacmabaa
open Go.ChangeShapes Go.WideShapes Go.ChangeAt Go.RowKit Go.Joins
theorem readFback : (Try.f6.params.toList.all fun t => Try.prog.readableRec t && decide (t < Try.prog.types.size)) = true := by kernel_rfl
set_option maxRecDepth 100000 in
theorem back_lifted (os : Os) (started : os.Started) (H : Type) (enc : TypeId × Value → H) :
    ReturnsInHanded {} Try.checked os 6 .any (Rows.deciBackSpec.pre6 enc Try.prog Try.f6 Rows.deciBackRow.domain false) (Rows.deciBackSpec.post enc Try.prog Try.f6 false true false false) := by
  refine returnsInHanded_of_change (C := Try.checked) own started (by kernel_rfl) Try.func6
    (ChangeSpec.witness6 (enc := enc) (C := Try.checked) false ⟨#[], #[.slice none 0 0, .slice none 0 0, .int .u64 0, .int .i64 0, .string ⟨#[]⟩], []⟩ 8 (by kernel_rfl) (by kernel_rfl) (by kernel_rfl) (by kernel_rfl)) ?_
  intro W base args ds gs before hval0 hW hcnd _
  have hval : ∀ (j : Nat) t v, Try.f6.params[j]? = some t → args[j]? = some v → Value.okWide Try.prog W .any base t v := hval0
  have hW' := hW
  obtain ⟨p, q, hA0, hV, rfl, hfz, hnd⟩ := hW
  have hA : DataW.TrodAll enc Try.prog W 0 (fun _ => true) true Try.f6.params.toList args.toList ds p := hA0
  rw [Try.params6] at hA hval
  obtain ⟨v0, r0, d0, e0, p0, q0, hargs, rfl, rfl, h0, hA1⟩ := trodAll_cons hA
  obtain ⟨v1, r1, d1, e1, p1, q1, rfl, rfl, rfl, h1, hA2⟩ := trodAll_cons hA1
  obtain ⟨v2, r2, d2, e2, p2, q2, rfl, rfl, rfl, h2, hA3⟩ := trodAll_cons hA2
  obtain ⟨v3, r3, d3, e3, p3, q3, rfl, rfl, rfl, h3, hA4⟩ := trodAll_cons hA3
  obtain ⟨v4, r4, d4, e4, p4, q4, rfl, rfl, rfl, h4, hA5⟩ := trodAll_cons hA4
  obtain ⟨rfl, rfl, rfl⟩ := trodAll_nil hA5
  obtain ⟨rfl, rfl⟩ := trodVars_none hV
  have hargs' : args = #[v0, v1, v2, v3, v4] := by
    cases args; simpa using hargs
  subst hargs'
  obtain ⟨A0, n0, c0, l0, rfl, hn0, hm0, ra0, ta0⟩ := open_words (hval 0 22 v0 rfl rfl) h0
  obtain ⟨A1, n1, c1, l1, rfl, hn1, hm1, ra1, ta1⟩ := open_words (hval 1 22 v1 rfl rfl) h1
  obtain ⟨x2, rfl, hx2⟩ := open_word (hval 2 23 v2 rfl rfl) h2
  obtain ⟨x3, rfl, lo3, hi3⟩ := open_whole64 (hval 3 2 v3 rfl rfl) h3
  obtain ⟨s4, rfl, hs4⟩ := open_text (hval 4 9 v4 rfl rfl) h4
  refine (back_any A0 n0 c0 l0 A1 n1 c1 l1 x2 x3 s4 W ra0 ta0 ra1 ta1 hx2 lo3 hi3).mono fun e W' ⟨he, hg⟩ => ?_
  subst he
  exact ⟨_, rfl, law_post laidOut readFback (by kernel_rfl) Try.underlying4 rfl rfl rfl rfl hW' hg⟩
theorem back_over : Rows.deciBackRow.holds Try.pinned (OpenSpec.ofChange Rows.deciBackSpec) :=
  OpenClaim.holds_of_wide 6 Try.f6 rfl rfl rfl rfl rfl rfl rfl ⟨rfl, rfl, rfl, rfl, rfl⟩ rfl rfl rfl rfl rfl (by kernel_rfl) Try.func6 (by kernel_rfl)
    (of_decide_eq_true (by kernel_rfl)) (by unfold Func.isWrapper; first | (rw [if_pos (by decide +kernel)]; kernel_rfl) | (rw [if_neg (by decide +kernel)]; exact ⟨rfl, rfl⟩))
    (fun os started H enc _ => back_lifted os started H enc)
/-- The statement. -/
theorem back_holds : Rows.DeciBackSaid := back_over
#print axioms back_holds
end Go.Proofs.Ytehdbogiacmabaa
