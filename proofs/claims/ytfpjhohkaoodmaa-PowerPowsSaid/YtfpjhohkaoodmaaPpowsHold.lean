/- PowerPows returns true whatever the cap, the limbs and the exponent: powers, sums of powers and powers of two are the document's; for every input, no condition. -/
import Derived.Test.YtfpjhohkaoodmaaWords
import Derived.Test.YtfpjhohkaoodmaaPpows
namespace Go.Proofs.Ytfpjhohkaoodmaa
open Go.ChangeShapes Go.WideShapes Go.ChangeAt Go.RowKit Go.Joins
theorem readF3 : (Try.f3.params.toList.all fun t => Try.prog.readableRec t && decide (t < Try.prog.types.size)) = true := by kernel_rfl
set_option maxRecDepth 100000 in
set_option maxHeartbeats 1600000 in
theorem pows_any (c : Int) (A : Option Addr) (n0 c0 : Nat) (la : List Nat) (n : Nat) (w : World) (ha : Rw .u64 w A n0 la) (ta : AllLt 18446744073709551616 la) (hn : n < 18446744073709551616) (hl1 : n0 ≤ c0) (hm : n0 ≤ maxLen) :
    Calls Try.prog 3 #[.int .i64 c, .slice A n0 c0, .int .u64 n] w fun e w' => e = .returned (.bool true) ∧ Below w.heap.size w w' := by
  by_cases h : n0 ≤ 6
  · exact pows_c c A n0 c0 la n w ha ta hn h hl1
  · unfold maxLen at hm
    clear ha ta
    have g1 : decide ((6 : Int) < (n0 : Int)) = true := by simp <;> omega
    go_enter Try.func3, Try.ntmps3
    go_wp2_with (go_at_call 5; refine (works_c _).mono ?_; rintro e w1 ⟨rfl, hb1⟩)
    go_ret
    exact ⟨rfl, hb1⟩
set_option maxRecDepth 100000 in
theorem pows_lifted (os : Os) (started : os.Started) (H : Type) (enc : TypeId × Value → H) :
    ReturnsInHanded {} Try.checked os 3 .any (Rows.powerPowsSpec.pre6 enc Try.prog Try.f3 Rows.powerPowsRow.domain false) (Rows.powerPowsSpec.post enc Try.prog Try.f3 false true false false) := by
  refine returnsInHanded_of_change (C := Try.checked) own started (by kernel_rfl) Try.func3
    (ChangeSpec.witness6 (enc := enc) (C := Try.checked) false ⟨#[], #[.int .i64 0, .slice none 0 0, .int .u64 0], []⟩ 8 (by kernel_rfl) (by kernel_rfl) (by kernel_rfl) (by kernel_rfl)) ?_
  intro W base args ds gs before hval0 hW hcnd _
  have hval : ∀ (j : Nat) t v, Try.f3.params[j]? = some t → args[j]? = some v → Value.okWide Try.prog W .any base t v := hval0
  have hW' := hW
  obtain ⟨p, q, hA0, hV, rfl, hfz, hnd⟩ := hW
  have hA : DataW.TrodAll enc Try.prog W 0 (fun _ => true) true Try.f3.params.toList args.toList ds p := hA0
  rw [Try.params3] at hA hval
  obtain ⟨v0, v1, v2, d0, d1, d2, p0, p1, p2, hargs, rfl, rfl, h0, h1, h2⟩ := trodAll_three hA
  obtain ⟨rfl, rfl⟩ := trodVars_none hV
  have hargs' : args = #[v0, v1, v2] := by
    cases args; simpa using hargs
  subst hargs'
  obtain ⟨c, rfl, _, _⟩ := open_whole (hval 0 3 v0 rfl rfl) h0
  obtain ⟨A, n0, c0, la, rfl, hn1, hcn, ra, ta⟩ := open_words (hval 1 22 v1 rfl rfl) h1
  obtain ⟨n, rfl, hn⟩ := open_word (hval 2 23 v2 rfl rfl) h2
  refine (pows_any c A n0 c0 la n W ra ta hn hn1 (by omega)).mono fun e W' ⟨he, hg⟩ => ?_
  subst he
  exact ⟨_, rfl, law_post laidOut readF3 (by kernel_rfl) Try.underlying4 rfl rfl rfl rfl hW' hg⟩
theorem pows_over : Rows.powerPowsRow.holds Try.pinned (OpenSpec.ofChange Rows.powerPowsSpec) :=
  OpenClaim.holds_of_wide 3 Try.f3 rfl rfl rfl rfl rfl rfl rfl ⟨rfl, rfl, rfl, rfl, rfl⟩ rfl rfl rfl rfl rfl (by kernel_rfl) Try.func3 (by kernel_rfl)
    (of_decide_eq_true (by kernel_rfl)) (by unfold Func.isWrapper; first | (rw [if_pos (by decide +kernel)]; kernel_rfl) | (rw [if_neg (by decide +kernel)]; exact ⟨rfl, rfl⟩))
    (fun os started H enc _ => pows_lifted os started H enc)
/-- The statement. -/
theorem pows_holds : Rows.PowerPowsSaid := pows_over
#print axioms pows_holds
end Go.Proofs.Ytfpjhohkaoodmaa
