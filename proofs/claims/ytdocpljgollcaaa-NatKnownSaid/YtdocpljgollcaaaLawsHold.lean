/- NatLaws returns true whatever the limbs: sums and products hang on no order, a product of a sum is the sum of the products, what is added may be taken away; for every input, no condition. -/
import Derived.Test.YtdocpljgollcaaaWords
import Derived.Test.YtdocpljgollcaaaLaws
namespace Go.Proofs.Ytdocpljgollcaaa
open Go.ChangeShapes Go.WideShapes Go.ChangeAt Go.RowKit Go.Joins
theorem readF3 : (Try.f3.params.toList.all fun t => Try.prog.readableRec t && decide (t < Try.prog.types.size)) = true := by kernel_rfl

set_option maxRecDepth 100000 in
set_option maxHeartbeats 1600000 in
theorem natlaws_any (A B C : Option Addr) (n m q c1 c2 c3 : Nat) (la lb lc : List Nat) (w : World) (ha : Rw .u64 w A n la) (hb : Rw .u64 w B m lb) (hc : Rw .u64 w C q lc) (ta : AllLt 18446744073709551616 la) (tb : AllLt 18446744073709551616 lb) (tc : AllLt 18446744073709551616 lc) (hn1 : n ≤ c1) (hm1 : m ≤ c2) (hq1 : q ≤ c3) (hn : n ≤ maxLen) (hm : m ≤ maxLen) (hq : q ≤ maxLen) :
    Calls Try.prog 3 #[.slice A n c1, .slice B m c2, .slice C q c3] w fun e w' => e = .returned (.bool true) ∧ Below w.heap.size w w' := by
  by_cases h : n ≤ 30 ∧ m ≤ 30 ∧ q ≤ 30
  · exact natlaws_c A B C n m q c1 c2 c3 la lb lc w ha hb hc ta tb tc h.1 h.2.1 h.2.2 hn1 hm1 hq1
  · unfold maxLen at hn hm hq
    clear ha hb hc ta tb tc
    by_cases h1 : n ≤ 30
    · have g1 : decide ((30 : Int) < (n : Int)) = false := by simp <;> omega
      by_cases h2 : m ≤ 30
      · have g2 : decide ((30 : Int) < (m : Int)) = false := by simp <;> omega
        have g3 : decide ((30 : Int) < (q : Int)) = true := by simp <;> omega
        go_enter Try.func3, Try.ntmps3
        go_wp2_with (go_at_call 7; refine (works_c _).mono ?_; rintro e w1 ⟨rfl, hb1⟩)
        go_ret
        exact ⟨rfl, hb1⟩
      · have g2 : decide ((30 : Int) < (m : Int)) = true := by simp <;> omega
        go_enter Try.func3, Try.ntmps3
        go_wp2_with (go_at_call 7; refine (works_c _).mono ?_; rintro e w1 ⟨rfl, hb1⟩)
        go_ret
        exact ⟨rfl, hb1⟩
    · have g1 : decide ((30 : Int) < (n : Int)) = true := by simp <;> omega
      go_enter Try.func3, Try.ntmps3
      go_wp2_with (go_at_call 7; refine (works_c _).mono ?_; rintro e w1 ⟨rfl, hb1⟩)
      go_ret
      exact ⟨rfl, hb1⟩

set_option maxRecDepth 100000 in
theorem natlaws_lifted (os : Os) (started : os.Started) (H : Type) (enc : TypeId × Value → H) :
    ReturnsInHanded {} Try.checked os 3 .any (Rows.natLawsSpec.pre6 enc Try.prog Try.f3 Rows.natLawsRow.domain false) (Rows.natLawsSpec.post enc Try.prog Try.f3 false true false false) := by
  refine returnsInHanded_of_change (C := Try.checked) own started (by kernel_rfl) Try.func3
    (ChangeSpec.witness6 (enc := enc) (C := Try.checked) false ⟨#[], #[.slice none 0 0, .slice none 0 0, .slice none 0 0], []⟩ 8 (by kernel_rfl) (by kernel_rfl) (by kernel_rfl) (by kernel_rfl)) ?_
  intro W base args ds gs before hval0 hW hcnd _
  have hval : ∀ (j : Nat) t v, Try.f3.params[j]? = some t → args[j]? = some v → Value.okWide Try.prog W .any base t v := hval0
  have hW' := hW
  obtain ⟨p, q, hA0, hV, rfl, hfz, hnd⟩ := hW
  have hA : DataW.TrodAll enc Try.prog W 0 (fun _ => true) true Try.f3.params.toList args.toList ds p := hA0
  rw [Try.params3] at hA hval
  obtain ⟨v0, v1, v2, d0, d1, d2, p0, p1, p2, hargs, rfl, rfl, h0, h1, h2⟩ := trodAll_three hA
  obtain ⟨rfl, rfl⟩ := trodVars_none hV
  have hargs' : args = #[v0, v1, v2] := by
    cases args; simpa using hargs
  subst hargs'
  obtain ⟨A, n, c1, la, rfl, hn1, hcn, ra, ta⟩ := open_words (hval 0 22 v0 rfl rfl) h0
  obtain ⟨B, m, c2, lb, rfl, hm1, hcm, rb, tb⟩ := open_words (hval 1 22 v1 rfl rfl) h1
  obtain ⟨C, q, c3, lc, rfl, hq1, hcq, rc, tc⟩ := open_words (hval 2 22 v2 rfl rfl) h2
  refine (natlaws_any A B C n m q c1 c2 c3 la lb lc W ra rb rc ta tb tc hn1 hm1 hq1 (by omega) (by omega) (by omega)).mono fun e W' ⟨he, hg⟩ => ?_
  subst he
  exact ⟨_, rfl, law_post laidOut readF3 (by kernel_rfl) Try.underlying4 rfl rfl rfl rfl hW' hg⟩

theorem natlaws_over : Rows.natLawsRow.holds Try.pinned (OpenSpec.ofChange Rows.natLawsSpec) :=
  OpenClaim.holds_of_wide 3 Try.f3 rfl rfl rfl rfl rfl rfl rfl ⟨rfl, rfl, rfl, rfl, rfl⟩ rfl rfl rfl rfl rfl (by kernel_rfl) Try.func3 (by kernel_rfl)
    (of_decide_eq_true (by kernel_rfl)) (by unfold Func.isWrapper; first | (rw [if_pos (by decide +kernel)]; kernel_rfl) | (rw [if_neg (by decide +kernel)]; exact ⟨rfl, rfl⟩))
    (fun os started H enc _ => natlaws_lifted os started H enc)

/-- The statement. -/
theorem natlaws_holds : Rows.NatLawsSaid := natlaws_over
#print axioms natlaws_holds
end Go.Proofs.Ytdocpljgollcaaa
