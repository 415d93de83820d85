/- NatMakes returns true whatever the limbs: numbers are made of limbs, told, and compared, as the document says; for every input, no condition. -/
import Derived.Test.YtdocpljgollcaaaWords
import Derived.Test.YtdocpljgollcaaaMakes
namespace Go.Proofs.Ytdocpljgollcaaa
open Go.ChangeShapes Go.WideShapes Go.ChangeAt Go.RowKit Go.Joins
theorem readF5 : (Try.f5.params.toList.all fun t => Try.prog.readableRec t && decide (t < Try.prog.types.size)) = true := by kernel_rfl

set_option maxRecDepth 100000 in
set_option maxHeartbeats 1600000 in
theorem natmakes_any (A B : Option Addr) (n m c1 c2 : Nat) (la lb : List Nat) (t : Nat) (w : World) (ha : Rw .u64 w A n la) (hb : Rw .u64 w B m lb) (ta : AllLt 18446744073709551616 la) (tb : AllLt 18446744073709551616 lb) (ht : t < 18446744073709551616) (hn1 : n ≤ c1) (hm1 : m ≤ c2) (hn : n ≤ maxLen) (hm : m ≤ maxLen) :
    Calls Try.prog 5 #[.slice A n c1, .slice B m c2, .int .u64 t] w fun e w' => e = .returned (.bool true) ∧ Below w.heap.size w w' := by
  by_cases h : n ≤ 40 ∧ m ≤ 40
  · exact makes_c A B n m c1 c2 la lb t w ha hb ta tb ht h.1 h.2 hn1 hm1
  · unfold maxLen at hn hm
    clear ha hb ta tb
    by_cases h1 : n ≤ 40
    · have g1 : decide ((40 : Int) < (n : Int)) = false := by simp <;> omega
      have g2 : decide ((40 : Int) < (m : Int)) = true := by simp <;> omega
      go_enter Try.func5, Try.ntmps5
      go_wp2_with (go_at_call 7; refine (works_c _).mono ?_; rintro e w1 ⟨rfl, hb1⟩)
      go_ret
      exact ⟨rfl, hb1⟩
    · have g1 : decide ((40 : Int) < (n : Int)) = true := by simp <;> omega
      go_enter Try.func5, Try.ntmps5
      go_wp2_with (go_at_call 7; refine (works_c _).mono ?_; rintro e w1 ⟨rfl, hb1⟩)
      go_ret
      exact ⟨rfl, hb1⟩

set_option maxRecDepth 100000 in
theorem natmakes_lifted (os : Os) (started : os.Started) (H : Type) (enc : TypeId × Value → H) :
    ReturnsInHanded {} Try.checked os 5 .any (Rows.natMakesSpec.pre6 enc Try.prog Try.f5 Rows.natMakesRow.domain false) (Rows.natMakesSpec.post enc Try.prog Try.f5 false true false false) := by
  refine returnsInHanded_of_change (C := Try.checked) own started (by kernel_rfl) Try.func5
    (ChangeSpec.witness6 (enc := enc) (C := Try.checked) false ⟨#[], #[.slice none 0 0, .slice none 0 0, .int .u64 0], []⟩ 8 (by kernel_rfl) (by kernel_rfl) (by kernel_rfl) (by kernel_rfl)) ?_
  intro W base args ds gs before hval0 hW hcnd _
  have hval : ∀ (j : Nat) t v, Try.f5.params[j]? = some t → args[j]? = some v → Value.okWide Try.prog W .any base t v := hval0
  have hW' := hW
  obtain ⟨p, q, hA0, hV, rfl, hfz, hnd⟩ := hW
  have hA : DataW.TrodAll enc Try.prog W 0 (fun _ => true) true Try.f5.params.toList args.toList ds p := hA0
  rw [Try.params5] at hA hval
  obtain ⟨v0, v1, v2, d0, d1, d2, p0, p1, p2, hargs, rfl, rfl, h0, h1, h2⟩ := trodAll_three hA
  obtain ⟨rfl, rfl⟩ := trodVars_none hV
  have hargs' : args = #[v0, v1, v2] := by
    cases args; simpa using hargs
  subst hargs'
  obtain ⟨A, n, c1, la, rfl, hn1, hcn, ra, ta⟩ := open_words (hval 0 22 v0 rfl rfl) h0
  obtain ⟨B, m, c2, lb, rfl, hm1, hcm, rb, tb⟩ := open_words (hval 1 22 v1 rfl rfl) h1
  obtain ⟨t, rfl, ht⟩ := open_word (hval 2 33 v2 rfl rfl) h2
  refine (natmakes_any A B n m c1 c2 la lb t W ra rb ta tb ht hn1 hm1 (by omega) (by omega)).mono fun e W' ⟨he, hg⟩ => ?_
  subst he
  exact ⟨_, rfl, law_post laidOut readF5 (by kernel_rfl) Try.underlying4 rfl rfl rfl rfl hW' hg⟩

theorem natmakes_over : Rows.natMakesRow.holds Try.pinned (OpenSpec.ofChange Rows.natMakesSpec) :=
  OpenClaim.holds_of_wide 5 Try.f5 rfl rfl rfl rfl rfl rfl rfl ⟨rfl, rfl, rfl, rfl, rfl⟩ rfl rfl rfl rfl rfl (by kernel_rfl) Try.func5 (by kernel_rfl)
    (of_decide_eq_true (by kernel_rfl)) (by unfold Func.isWrapper; first | (rw [if_pos (by decide +kernel)]; kernel_rfl) | (rw [if_neg (by decide +kernel)]; exact ⟨rfl, rfl⟩))
    (fun os started H enc _ => natmakes_lifted os started H enc)

/-- The statement. -/
theorem natmakes_holds : Rows.NatMakesSaid := natmakes_over
#print axioms natmakes_holds
end Go.Proofs.Ytdocpljgollcaaa
