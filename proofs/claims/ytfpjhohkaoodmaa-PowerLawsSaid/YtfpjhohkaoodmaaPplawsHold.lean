/- PowerLaws returns true whatever the limbs and the exponents: a power of a sum of exponents is the product of the powers, a sum of powers times a and 1 is the next sum, two of a log is enough and two of one less is not; for every input, no condition. -/
import Derived.Test.YtfpjhohkaoodmaaWords
import Derived.Test.YtfpjhohkaoodmaaPplaws
namespace Go.Proofs.Ytfpjhohkaoodmaa
open Go.ChangeShapes Go.WideShapes Go.ChangeAt Go.RowKit Go.Joins
theorem readF4 : (Try.f4.params.toList.all fun t => Try.prog.readableRec t && decide (t < Try.prog.types.size)) = true := by kernel_rfl
set_option maxRecDepth 100000 in
set_option maxHeartbeats 1600000 in
theorem plaws_any (A : Option Addr) (n0 c0 : Nat) (la : List Nat) (m n : Nat) (w : World) (ha : Rw .u64 w A n0 la) (ta : AllLt 18446744073709551616 la) (hm : m < 256) (hn : n < 256) (hl1 : n0 ≤ c0) (hx : n0 ≤ maxLen) :
    Calls Try.prog 4 #[.slice A n0 c0, .int .u8 m, .int .u8 n] w fun e w' => e = .returned (.bool true) ∧ Below w.heap.size w w' := by
  by_cases h : n0 ≤ 3
  · exact plaws_c A n0 c0 la m n w ha ta hm hn h hl1
  · unfold maxLen at hx
    clear ha ta
    have g1 : decide ((3 : Int) < (n0 : Int)) = true := by simp <;> omega
    go_enter Try.func4, Try.ntmps4
    go_wp2_with (go_at_call 5; refine (works_c _).mono ?_; rintro e w1 ⟨rfl, hb1⟩)
    go_ret
    exact ⟨rfl, hb1⟩
theorem open_byte {H : Type} {enc : TypeId × Value → H} {W : World} {r : Reach} {b0 : Nat} {v : Value} {d : DataW H} {p : List MemPlace} (hv : Value.okWide Try.prog W r b0 5 v) (h : DataW.Trod enc Try.prog W 0 (fun _ => true) true 5 v d p) : ∃ n : Nat, v = .int .u8 n ∧ n < 256 := by
  obtain ⟨x, rfl, rfl, rfl, wx⟩ := open_int Try.underlying5 hv h
  have := bounds_u8 wx
  exact ⟨x.toNat, by rw [Int.toNat_of_nonneg this.1], by omega⟩
set_option maxRecDepth 100000 in
theorem plaws_lifted (os : Os) (started : os.Started) (H : Type) (enc : TypeId × Value → H) :
    ReturnsInHanded {} Try.checked os 4 .any (Rows.powerLawsSpec.pre6 enc Try.prog Try.f4 Rows.powerLawsRow.domain false) (Rows.powerLawsSpec.post enc Try.prog Try.f4 false true false false) := by
  refine returnsInHanded_of_change (C := Try.checked) own started (by kernel_rfl) Try.func4
    (ChangeSpec.witness6 (enc := enc) (C := Try.checked) false ⟨#[], #[.slice none 0 0, .int .u8 0, .int .u8 0], []⟩ 8 (by kernel_rfl) (by kernel_rfl) (by kernel_rfl) (by kernel_rfl)) ?_
  intro W base args ds gs before hval0 hW hcnd _
  have hval : ∀ (j : Nat) t v, Try.f4.params[j]? = some t → args[j]? = some v → Value.okWide Try.prog W .any base t v := hval0
  have hW' := hW
  obtain ⟨p, q, hA0, hV, rfl, hfz, hnd⟩ := hW
  have hA : DataW.TrodAll enc Try.prog W 0 (fun _ => true) true Try.f4.params.toList args.toList ds p := hA0
  rw [Try.params4] at hA hval
  obtain ⟨v0, v1, v2, d0, d1, d2, p0, p1, p2, hargs, rfl, rfl, h0, h1, h2⟩ := trodAll_three hA
  obtain ⟨rfl, rfl⟩ := trodVars_none hV
  have hargs' : args = #[v0, v1, v2] := by
    cases args; simpa using hargs
  subst hargs'
  obtain ⟨A, n0, c0, la, rfl, hn1, hcn, ra, ta⟩ := open_words (hval 0 22 v0 rfl rfl) h0
  obtain ⟨m, rfl, hm⟩ := open_byte (hval 1 5 v1 rfl rfl) h1
  obtain ⟨n, rfl, hn⟩ := open_byte (hval 2 5 v2 rfl rfl) h2
  refine (plaws_any A n0 c0 la m n W ra ta hm hn hn1 (by omega)).mono fun e W' ⟨he, hg⟩ => ?_
  subst he
  exact ⟨_, rfl, law_post laidOut readF4 (by kernel_rfl) Try.underlying4 rfl rfl rfl rfl hW' hg⟩
theorem plaws_over : Rows.powerLawsRow.holds Try.pinned (OpenSpec.ofChange Rows.powerLawsSpec) :=
  OpenClaim.holds_of_wide 4 Try.f4 rfl rfl rfl rfl rfl rfl rfl ⟨rfl, rfl, rfl, rfl, rfl⟩ rfl rfl rfl rfl rfl (by kernel_rfl) Try.func4 (by kernel_rfl)
    (of_decide_eq_true (by kernel_rfl)) (by unfold Func.isWrapper; first | (rw [if_pos (by decide +kernel)]; kernel_rfl) | (rw [if_neg (by decide +kernel)]; exact ⟨rfl, rfl⟩))
    (fun os started H enc _ => plaws_lifted os started H enc)
/-- The statement. -/
theorem plaws_holds : Rows.PowerLawsSaid := plaws_over
#print axioms plaws_holds
end Go.Proofs.Ytfpjhohkaoodmaa
