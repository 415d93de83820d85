/- How the arguments of the statements of chapter 19 open: integers, intervals, and slices of intervals. -/
import Derived.Test.YtfepaalplceaaaaLaw
import Derived.Test.YtfepaalplceaaaaFold
namespace Go.Proofs.Ytfepaalplceaaaa
open Go.ChangeShapes Go.WideShapes Go.ChangeAt Go.RowKit Go.Joins
theorem Try.cells24 : Try.prog.cellsOf 24 = 2 := by kernel_rfl
theorem Try.cells2 : Try.prog.cellsOf 2 = 1 := by kernel_rfl
def InR (p : Int × Int) : Prop := (-9223372036854775808 ≤ p.1 ∧ p.1 ≤ 9223372036854775807) ∧ (-9223372036854775808 ≤ p.2 ∧ p.2 ≤ 9223372036854775807)
section
variable {H : Type} {enc : TypeId × Value → H} {W : World} {base : Nat} {r : Reach} {b0 : Nat} {v : Value} {d : DataW H} {p : List MemPlace}
theorem open_int_ (hv : Value.okWide Try.prog W r b0 2 v) (h : DataW.Trod enc Try.prog W 0 (fun _ => true) true 2 v d p) : ∃ n : Int, v = .int .i64 n ∧ -9223372036854775808 ≤ n ∧ n ≤ 9223372036854775807 := by
  obtain ⟨x, rfl, rfl, rfl, wx⟩ := open_int Try.underlying2 hv h
  have := bounds_i64 wx
  exact ⟨x, rfl, this.1, this.2⟩
theorem open_inter (hv : Value.okWide Try.prog W r b0 24 v) (h : DataW.Trod enc Try.prog W 0 (fun _ => true) true 24 v d p) : ∃ q : Int × Int, v = .agg #[.int .i64 q.1, .int .i64 q.2] ∧ InR q := by
  obtain ⟨c0, c1, y0, y1, m, rfl, rfl, rfl, hy0, hy1⟩ := open_agg2 Try.underlying24 (by kernel_rfl) Try.cells24 hv h
  obtain ⟨a, e0, _, wa⟩ := DataW.trod_int Try.underlying2 hy0
  obtain ⟨b, e1, _, wb⟩ := DataW.trod_int Try.underlying2 hy1
  simp at e0 e1
  subst e0 e1
  exact ⟨(a, b), rfl, bounds_i64 wa, bounds_i64 wb⟩
theorem open_inters (hv : Value.okWide Try.prog W r b0 22 v) (h : DataW.Trod enc Try.prog W 0 (fun _ => true) true 22 v d p) :
    ∃ (A : Option Addr) (n c : Nat) (l : List (Int × Int)), v = .slice A n c ∧ n ≤ maxLen ∧ Rd W A n l ∧ ∀ q ∈ l, InR q := by
  obtain ⟨a0, len, cap, rfl⟩ := okWide_slice Try.underlying22 hv
  obtain ⟨fuel, hf⟩ := h
  rcases Go.Deep.open_slice Try.underlying22 hf with ⟨hcs, _⟩ | ⟨a, len', cap', m, n, D, Pl, hcs, _, hl, hm, hmm, hx, hi⟩
  · simp [Value.cells] at hcs
    obtain ⟨rfl, rfl, rfl⟩ := hcs
    exact ⟨none, 0, 0, [], rfl, by unfold maxLen; omega, ⟨rfl, fun h => absurd h (by omega)⟩, fun q hq => by cases hq⟩
  · simp [Value.cells] at hcs
    obtain ⟨rfl, rfl, rfl⟩ := hcs
    rw [if_pos rfl] at hmm
    subst hmm
    have hel : ∀ i, i < len → ∃ q : Int × Int, InR q ∧ W.cell? (a.add (i * 2)) = some (.int .i64 q.1) ∧ W.cell? (a.add (i * 2 + 1)) = some (.int .i64 q.2) := fun i hi' => by
      obtain ⟨cs', hc, ht⟩ := hi i (by omega)
      rw [Try.cells24] at hc
      obtain ⟨y0, y1, n', _, hlen, h0, h1⟩ := trod_struct2 Try.underlying24 ht
      obtain ⟨_, hcl, hat⟩ := World.cells?_some hc
      match cs', hcl with
      | [c0, c1], _ =>
        obtain ⟨x, e0, _, wx⟩ := DataW.trod_int Try.underlying2 (by simpa [Try.cells2] using h0)
        obtain ⟨y, e1, _, wy⟩ := DataW.trod_int Try.underlying2 (by simpa [Try.cells2] using h1)
        simp at e0 e1
        subst e0 e1
        refine ⟨(x, y), ⟨bounds_i64 wx, bounds_i64 wy⟩, ?_, ?_⟩
        · have := hat 0 (by omega)
          simpa [Go.Deep.add_add] using this
        · have := hat 1 (by omega)
          simpa [Go.Deep.add_add] using this
    obtain ⟨l, hll, hq⟩ := Ytfepaalplceaaaa.list_of len hel
    refine ⟨some a, len, _, l, rfl, by omega, ⟨hll, fun hn => ?_⟩, fun q hm => ?_⟩
    · obtain ⟨q0, _, hc0, _⟩ := hel 0 hn
      obtain ⟨b, off, rfl, hb⟩ := spot_of (i := 0) (by simpa using hc0) rfl
      refine ⟨b, off, rfl, hb, fun i q hiq => ?_⟩
      obtain ⟨_, h1, h2⟩ := hq i q hiq
      rw [add_plain] at h1 h2
      exact ⟨h1, by simpa [Nat.add_assoc] using h2⟩
    · obtain ⟨i, hi'⟩ := List.mem_iff_getElem?.1 hm
      exact (hq i q hi').1
end
theorem own : ownKnob Try.prog.godebug = none := by kernel_rfl
theorem laidOut : laidOutB Try.prog = true := by kernel_rfl
end Go.Proofs.Ytfepaalplceaaaa
