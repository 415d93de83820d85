/- How a fault and a row of faults open, and the statement about telling for every input. -/
import Derived.Test.YtjocobfabdkadaaPtells
namespace Go.Proofs.Ytjocobfabdkadaa
open Go.ChangeShapes Go.WideShapes Go.ChangeAt Go.RowKit Go.Joins
attribute [local go_sem] alloc_drewN setCell_drewN
section
variable {H : Type} {enc : TypeId × Value → H} {W : World} {base : Nat} {r : Reach} {b0 : Nat} {v : Value} {d : DataW H} {p : List MemPlace}
set_option maxRecDepth 100000 in
theorem flt_trod {fuel : Nat} {cs : List Value} {x : DataW H × List MemPlace} (h : DataW.trod enc Try.prog W 0 (fun _ => true) true fuel 45 cs = some x) : ∃ L C E : Int, cs = [.int .i64 L, .int .i64 C, .int .i64 E] ∧ Whl L ∧ Whl C ∧ Whl E := by
  obtain ⟨y0, y1, n', _, hlen, h0, h1⟩ := trod_struct2 Try.underlying45 h
  rw [Try.cellsFault] at hlen
  match cs, hlen with
  | [c0, c1, c2], _ =>
    obtain ⟨z0, z1, m', _, _, k0, k1⟩ := trod_struct2 Try.underlying23 h0
    obtain ⟨a, e0, _, wa⟩ := DataW.trod_int Try.underlying3 (by simpa [Try.cellsPos, Try.cellsInt] using k0)
    obtain ⟨b, e1, _, wb⟩ := DataW.trod_int Try.underlying3 (by simpa [Try.cellsPos, Try.cellsInt] using k1)
    obtain ⟨c, e2, _, wc⟩ := DataW.trod_int Try.underlying40 (by simpa [Try.cellsErr] using h1)
    simp at e0 e1 e2
    subst e0 e1 e2
    exact ⟨a, b, c, rfl, bounds_i64 wa, bounds_i64 wb, bounds_i64 wc⟩
set_option maxRecDepth 100000 in
theorem open_fault (hv : Value.okWide Try.prog W r b0 45 v) (h : DataW.Trod enc Try.prog W 0 (fun _ => true) true 45 v d p) : ∃ L C E : Int, v = .agg #[.int .i64 L, .int .i64 C, .int .i64 E] ∧ Whl L ∧ Whl C ∧ Whl E := by
  obtain ⟨cs, rfl, hsz⟩ := okWide_struct Try.underlying45 hv
  obtain ⟨fuel, hf⟩ := h
  obtain ⟨L, C, E, hc, h1⟩ := flt_trod hf
  refine ⟨L, C, E, ?_, h1⟩
  obtain ⟨cs⟩ := cs
  simp [Value.cells] at hc
  rw [hc]
set_option maxRecDepth 100000 in
theorem open_faults (hv : Value.okWide Try.prog W r b0 38 v) (h : DataW.Trod enc Try.prog W 0 (fun _ => true) true 38 v d p) :
    ∃ (A : Option Addr) (n c : Nat) (l : List Flt), v = .slice A n c ∧ n ≤ maxLen ∧ RwF W A n l ∧ AllF l := by
  obtain ⟨a0, len, cap, rfl⟩ := okWide_slice Try.underlying38 hv
  obtain ⟨fuel, hf⟩ := h
  rcases Go.Deep.open_slice Try.underlying38 hf with ⟨hcs, _⟩ | ⟨a, len', cap', m, n, D, Pl, hcs, _, hl, hm, hmm, hx, hi⟩
  · simp [Value.cells] at hcs
    obtain ⟨rfl, rfl, rfl⟩ := hcs
    exact ⟨none, 0, 0, [], rfl, by unfold maxLen; omega, ⟨rfl, fun h => absurd h (by omega)⟩, fun q hq => by cases hq⟩
  · simp [Value.cells] at hcs
    obtain ⟨rfl, rfl, rfl⟩ := hcs
    rw [if_pos rfl] at hmm
    subst hmm
    have hel : ∀ i, i < len → ∃ q : Flt, (Whl q.1 ∧ Whl q.2.1 ∧ Whl q.2.2) ∧ W.cell? (a.add (i * 3)) = some (.int .i64 q.1) ∧ W.cell? (a.add (i * 3 + 1)) = some (.int .i64 q.2.1) ∧ W.cell? (a.add (i * 3 + 2)) = some (.int .i64 q.2.2) := fun i hi' => by
      obtain ⟨cs', hc, ht⟩ := hi i (by omega)
      rw [Try.cellsFault] at hc
      obtain ⟨L, C, E, rfl, hw⟩ := flt_trod ht
      obtain ⟨_, hcl, hat⟩ := World.cells?_some hc
      refine ⟨(L, C, E), hw, ?_, ?_, ?_⟩
      · have := hat 0 (by omega)
        simpa [Go.Deep.add_add] using this
      · have := hat 1 (by omega)
        simpa [Go.Deep.add_add] using this
      · have := hat 2 (by omega)
        simpa [Go.Deep.add_add] using this
    obtain ⟨l, hll, hq⟩ := list_of len hel
    refine ⟨some a, len, _, l, rfl, by omega, ⟨hll, fun hn => ?_⟩, fun q hm => ?_⟩
    · obtain ⟨q0, _, hc0, _⟩ := hel 0 hn
      obtain ⟨b, off, rfl, hb⟩ := spot_of (i := 0) (by simpa using hc0) rfl
      refine ⟨b, off, rfl, hb, fun i q hiq => ?_⟩
      obtain ⟨_, h1, h2, h3⟩ := hq i q hiq
      rw [plainAddr] at h1 h2 h3
      exact ⟨h1, by simpa [Nat.add_assoc] using h2, by simpa [Nat.add_assoc] using h3⟩
    · obtain ⟨i, hi'⟩ := List.mem_iff_getElem?.1 hm
      exact (hq i q hi').1
end
set_option maxRecDepth 100000 in
theorem tells_any (a1 b1 a2 b2 : Int) (A : Option Addr) (n c : Nat) (l : List Flt) (s : ByteArray) (w : World) (hr : RwF w A n l) (hl : AllF l) (hw : Whl a1 ∧ Whl b1) :
    Calls Try.prog 4 #[.agg #[.int .i64 a1, .int .i64 b1], .agg #[.int .i64 a2, .int .i64 b2], .slice A n c, .string s] w fun e w' => e = .returned (.bool true) ∧ Below w.heap.size w w' := by
  by_cases h1 : n ≤ 40
  · by_cases h2 : s.size ≤ 60
    · exact tells_c a1 b1 a2 b2 A n c l s w hr hl hw h1 h2
    · have HP := Lib.hid (And.intro hr hl)
      clear hr hl hw
      have g1 : decide ((40 : Int) < (n : Int)) = false := by simp; omega
      have g2 : decide ((60 : Int) < (s.size : Int)) = true := by simp; omega
      go_enter Try.func4, Try.ntmps4
      go_wp2_with (go_at_call 7; refine (works_c _).mono ?_; rintro e w1 ⟨rfl, hb1⟩; have hb2 := below_box w (.cells #[.int .i64 a1, .int .i64 b1] 23); have hb3 := below_box (w.alloc (.cells #[.int .i64 a1, .int .i64 b1] 23)) (.cells #[.int .i64 a2, .int .i64 b2] 23); have HB := Lib.hid (hb2.trans ((hb3.trans (hb1.mono hb3.size)).mono hb2.size)); clear hb1 hb2 hb3)
      go_ret
      exact ⟨rfl, HB.out⟩
  · clear hr hl hw
    have g1 : decide ((40 : Int) < (n : Int)) = true := by simp; omega
    go_enter Try.func4, Try.ntmps4
    go_wp2_with (go_at_call 7; refine (works_c _).mono ?_; rintro e w1 ⟨rfl, hb1⟩; have hb2 := below_box w (.cells #[.int .i64 a1, .int .i64 b1] 23); have hb3 := below_box (w.alloc (.cells #[.int .i64 a1, .int .i64 b1] 23)) (.cells #[.int .i64 a2, .int .i64 b2] 23); have HB := Lib.hid (hb2.trans ((hb3.trans (hb1.mono hb3.size)).mono hb2.size)); clear hb1 hb2 hb3)
    go_ret
    exact ⟨rfl, HB.out⟩
end Go.Proofs.Ytjocobfabdkadaa
