/- How the arguments of the statements about decimal digits open: whole numbers of 64 bits, texts. -/
import Derived.Test.YtehdbogiacmabaaWords
import Derived.ChangeMaps5
namespace Go.Proofs.Ytehdbogiacmabaa
open Go.ChangeShapes Go.WideShapes Go.ChangeAt Go.RowKit Go.Joins
open Go.ChangeMaps (open_string)
section
variable {H : Type} {enc : TypeId × Value → H} {W : World} {base : Nat} {r : Reach} {b0 : Nat} {v : Value} {d : DataW H} {p : List MemPlace}
theorem open_whole64 (hv : Value.okWide Try.prog W r b0 2 v) (h : DataW.Trod enc Try.prog W 0 (fun _ => true) true 2 v d p) : ∃ n : Int, v = .int .i64 n ∧ -9223372036854775808 ≤ n ∧ n ≤ 9223372036854775807 := by
  obtain ⟨x, rfl, rfl, rfl, wx⟩ := open_int Try.underlying2 hv h
  have := bounds_i64 wx
  exact ⟨x, rfl, this.1, this.2⟩
theorem open_text (hv : Value.okWide Try.prog W r b0 9 v) (h : DataW.Trod enc Try.prog W 0 (fun _ => true) true 9 v d p) : ∃ s : ByteArray, v = .string s ∧ s.size ≤ maxLen := by
  obtain ⟨s, rfl, _, _, hs⟩ := open_string Try.underlying9 hv h
  exact ⟨s, rfl, hs⟩
end
end Go.Proofs.Ytehdbogiacmabaa
