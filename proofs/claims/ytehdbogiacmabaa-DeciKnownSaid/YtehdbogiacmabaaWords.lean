/- How the arguments of the statements about numbers open: rows of limbs, limbs, integers. -/
import Derived.Test.YtehdbogiacmabaaLaw
import Derived.Test.YtehdbogiacmabaaNatw
namespace Go.Proofs.Ytehdbogiacmabaa
open Go.ChangeShapes Go.WideShapes Go.ChangeAt Go.RowKit Go.Joins
theorem Try.cellsWord : Try.prog.cellsOf 23 = 1 := by kernel_rfl
section
variable {H : Type} {enc : TypeId × Value → H} {W : World} {base : Nat} {r : Reach} {b0 : Nat} {v : Value} {d : DataW H} {p : List MemPlace}
theorem open_word (hv : Value.okWide Try.prog W r b0 23 v) (h : DataW.Trod enc Try.prog W 0 (fun _ => true) true 23 v d p) : ∃ n : Nat, v = .int .u64 n ∧ n < 18446744073709551616 := by
  obtain ⟨x, rfl, rfl, rfl, wx⟩ := open_int Try.underlying23 hv h
  have := bounds_u64 wx
  exact ⟨x.toNat, by rw [Int.toNat_of_nonneg this.1], by omega⟩
theorem open_whole (hv : Value.okWide Try.prog W r b0 3 v) (h : DataW.Trod enc Try.prog W 0 (fun _ => true) true 3 v d p) : ∃ n : Int, v = .int .i64 n ∧ -9223372036854775808 ≤ n ∧ n ≤ 9223372036854775807 := by
  obtain ⟨x, rfl, rfl, rfl, wx⟩ := open_int Try.underlying3 hv h
  have := bounds_i64 wx
  exact ⟨x, rfl, this.1, this.2⟩
theorem open_words (hv : Value.okWide Try.prog W r b0 22 v) (h : DataW.Trod enc Try.prog W 0 (fun _ => true) true 22 v d p) :
    ∃ (A : Option Addr) (n c : Nat) (l : List Nat), v = .slice A n c ∧ n ≤ c ∧ c ≤ maxLen ∧ Rw .u64 W A n l ∧ AllLt 18446744073709551616 l := by
  obtain ⟨a0, len, cap, rfl⟩ := okWide_slice Try.underlying22 hv
  obtain ⟨fuel, hf⟩ := h
  rcases Go.Deep.open_slice Try.underlying22 hf with ⟨hcs, _⟩ | ⟨a, len', cap', m, n, D, Pl, hcs, _, hl, hm, hmm, hx, hi⟩
  · simp [Value.cells] at hcs
    obtain ⟨rfl, rfl, rfl⟩ := hcs
    exact ⟨none, 0, 0, [], rfl, Nat.le_refl _, by unfold maxLen; omega, Rw.nil _ _ _, fun x hx => by cases hx⟩
  · simp [Value.cells] at hcs
    obtain ⟨rfl, rfl, rfl⟩ := hcs
    rw [if_pos rfl] at hmm
    subst hmm
    have hel : ∀ i, i < len → ∃ x : Nat, x < 18446744073709551616 ∧ W.cell? (a.add i) = some (.int .u64 x) := fun i hi' => by
      obtain ⟨cs', hc, ht⟩ := hi i (by omega)
      rw [Try.cellsWord] at hc
      obtain ⟨_, hcl, hat⟩ := World.cells?_some hc
      match cs', hcl with
      | [c0], _ =>
        obtain ⟨x, e0, _, wx⟩ := DataW.trod_int Try.underlying23 ht
        simp at e0
        subst e0
        have hb := bounds_u64 wx
        refine ⟨x.toNat, by omega, ?_⟩
        have := hat 0 (by omega)
        rw [Int.toNat_of_nonneg hb.1]
        simpa [Go.Deep.add_add] using this
    obtain ⟨l, hll, hq⟩ := list_of len hel
    refine ⟨some a, len, _, l, rfl, hl, hm, ⟨hll, fun hn => ?_⟩, fun q hq' => ?_⟩
    · obtain ⟨q0, _, hc0⟩ := hel 0 hn
      obtain ⟨b, off, rfl, hb⟩ := spot_of (i := 0) (by simpa using hc0) rfl
      refine ⟨b, off, rfl, hb, fun i q hiq => ?_⟩
      obtain ⟨_, h1⟩ := hq i q hiq
      rw [plainAddr] at h1
      exact h1
    · obtain ⟨i, hi'⟩ := List.mem_iff_getElem?.1 hq'
      exact (hq i q hi').1
end
theorem own : ownKnob Try.prog.godebug = none := by kernel_rfl
theorem laidOut : laidOutB Try.prog = true := by kernel_rfl
end Go.Proofs.Ytehdbogiacmabaa
