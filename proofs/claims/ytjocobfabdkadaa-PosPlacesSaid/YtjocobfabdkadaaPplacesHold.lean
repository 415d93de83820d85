/- PosPlaces returns true whatever the text, the place and the position: positions, places and lines are the document's; for every input, no condition. -/
import Derived.Test.YtjocobfabdkadaaPanyp
import Derived.Test.YtjocobfabdkadaaPargs
namespace Go.Proofs.Ytjocobfabdkadaa
open Go.ChangeShapes Go.WideShapes Go.ChangeAt Go.RowKit Go.Joins
theorem readFplaces : (Try.f3.params.toList.all fun t => Try.prog.readableRec t && decide (t < Try.prog.types.size)) = true := by kernel_rfl
set_option maxRecDepth 100000 in
theorem places_lifted (os : Os) (started : os.Started) (H : Type) (enc : TypeId × Value → H) :
    ReturnsInHanded {} Try.checked os 3 .any (Rows.posPlacesSpec.pre6 enc Try.prog Try.f3 Rows.posPlacesRow.domain false) (Rows.posPlacesSpec.post enc Try.prog Try.f3 false true false false) := by
  refine returnsInHanded_of_change (C := Try.checked) own started (by kernel_rfl) Try.func3
    (ChangeSpec.witness6 (enc := enc) (C := Try.checked) false ⟨#[], #[.string ⟨#[]⟩, .int .i64 0, .agg #[.int .i64 0, .int .i64 0]], []⟩ 8 (by kernel_rfl) (by kernel_rfl) (by kernel_rfl) (by kernel_rfl)) ?_
  intro W base args ds gs before hval0 hW hcnd _
  have hval : ∀ (j : Nat) t v, Try.f3.params[j]? = some t → args[j]? = some v → Value.okWide Try.prog W .any base t v := hval0
  have hW' := hW
  obtain ⟨p, q, hA0, hV, rfl, hfz, hnd⟩ := hW
  have hA : DataW.TrodAll enc Try.prog W 0 (fun _ => true) true Try.f3.params.toList args.toList ds p := hA0
  rw [Try.params3] at hA hval
  obtain ⟨v0, r0, d0, e0, p0, q0, hargs, rfl, rfl, h0, hA1⟩ := trodAll_cons hA
  obtain ⟨v1, r1, d1, e1, p1, q1, rfl, rfl, rfl, h1, hA2⟩ := trodAll_cons hA1
  obtain ⟨v2, r2, d2, e2, p2, q2, rfl, rfl, rfl, h2, hA3⟩ := trodAll_cons hA2
  obtain ⟨rfl, rfl, rfl⟩ := trodAll_nil hA3
  obtain ⟨rfl, rfl⟩ := trodVars_none hV
  have hargs' : args = #[v0, v1, v2] := by
    cases args; simpa using hargs
  subst hargs'
  obtain ⟨s0, rfl, hs0⟩ := open_text (hval 0 9 v0 rfl rfl) h0
  obtain ⟨x1, rfl, hx1⟩ := open_whole (hval 1 3 v1 rfl rfl) h1
  obtain ⟨L2, C2, rfl, hL2, hC2⟩ := open_pos (hval 2 23 v2 rfl rfl) h2
  refine (places_any s0 x1 L2 C2 W hL2.2 hC2.2).mono fun e W' ⟨he, hg⟩ => ?_
  subst he
  exact ⟨_, rfl, law_post laidOut readFplaces (by kernel_rfl) Try.underlying4 rfl rfl rfl rfl hW' hg⟩
theorem places_over : Rows.posPlacesRow.holds Try.pinned (OpenSpec.ofChange Rows.posPlacesSpec) :=
  OpenClaim.holds_of_wide 3 Try.f3 rfl rfl rfl rfl rfl rfl rfl ⟨rfl, rfl, rfl, rfl, rfl⟩ rfl rfl rfl rfl rfl (by kernel_rfl) Try.func3 (by kernel_rfl)
    (of_decide_eq_true (by kernel_rfl)) (by unfold Func.isWrapper; first | (rw [if_pos (by decide +kernel)]; kernel_rfl) | (rw [if_neg (by decide +kernel)]; exact ⟨rfl, rfl⟩))
    (fun os started H enc _ => places_lifted os started H enc)
/-- The statement. -/
theorem places_holds : Rows.PosPlacesSaid := places_over
#print axioms places_holds
end Go.Proofs.Ytjocobfabdkadaa
