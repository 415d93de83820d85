/- PosTells returns true whatever the positions, the faults and the text: they are compared, told and read as the document says; for every input, no condition. -/
import Derived.Test.YtjocobfabdkadaaPtells
namespace Go.Proofs.Ytjocobfabdkadaa
open Go.ChangeShapes Go.WideShapes Go.ChangeAt Go.RowKit Go.Joins
attribute [local go_sem] alloc_drewN setCell_drewN
section
variable {H : Type} {enc : TypeId × Value → H} {W : World} {base : Nat} {r : Reach} {b0 : Nat} {v : Value} {d : DataW H} {p : List MemPlace}
set_option maxRecDepth 100000 in
theorem flt_trod {fuel : Nat} {cs : List Value} {x : DataW H × List MemPlace} (h : DataW.trod enc Try.prog W 0 (fun _ => true) true fuel 45 cs = some x) : ∃ L C E : Int, cs = [.int .i64 L, .int .i64 C, .int .i64 E] ∧ Whl L ∧ Whl C ∧ Whl E := by
  obtain ⟨y0, y1, n', _, hlen, h0, h1⟩ := trod_struct2 Try.underlying45 h
  rw [Try.cellsFault] at hlen
  match cs, hlen with
  | [c0, c1, c2], _ =>
    obtain ⟨z0, z1, m', _, _, k0, k1⟩ := trod_struct2 Try.underlying23 h0
    obtain ⟨a, e0, _, wa⟩ := DataW.trod_int Try.underlying3 (by simpa [Try.cellsPos, Try.cellsInt] using k0)
    obtain ⟨b, e1, _, wb⟩ := DataW.trod_int Try.underlying3 (by simpa [Try.cellsPos, Try.cellsInt] using k1)
    obtain ⟨c, e2, _, wc⟩ := DataW.trod_int Try.underlying40 (by simpa [Try.cellsErr] using h1)
    simp at e0 e1 e2
    subst e0 e1 e2
    exact ⟨a, b, c, rfl, bounds_i64 wa, bounds_i64 wb, bounds_i64 wc⟩
set_option maxRecDepth 100000 in
theorem open_fault (hv : Value.okWide Try.prog W r b0 45 v) (h : DataW.Trod enc Try.prog W 0 (fun _ => true) true 45 v d p) : ∃ L C E : Int, v = .agg #[.int .i64 L, .int .i64 C, .int .i64 E] ∧ Whl L ∧ Whl C ∧ Whl E := by
  obtain ⟨cs, rfl, hsz⟩ := okWide_struct Try.underlying45 hv
  obtain ⟨fuel, hf⟩ := h
  obtain ⟨L, C, E, hc, h1⟩ := flt_trod hf
  refine ⟨L, C, E, ?_, h1⟩
  obtain ⟨cs⟩ := cs
  simp [Value.cells] at hc
  rw [hc]
set_option maxRecDepth 100000 in
theorem open_faults (hv : Value.okWide Try.prog W r b0 38 v) (h : DataW.Trod enc Try.prog W 0 (fun _ => true) true 38 v d p) :
    ∃ (A : Option Addr) (n c : Nat) (l : List Flt), v = .slice A n c ∧ n ≤ maxLen ∧ RwF W A n l ∧ AllF l := by
  obtain ⟨a0, len, cap, rfl⟩ := okWide_slice Try.underlying38 hv
  obtain ⟨fuel, hf⟩ := h
  rcases Go.Deep.open_slice Try.underlying38 hf with ⟨hcs, _⟩ | ⟨a, len', cap', m, n, D, Pl, hcs, _, hl, hm, hmm, hx, hi⟩
  · simp [Value.cells] at hcs
    obtain ⟨rfl, rfl, rfl⟩ := hcs
    exact ⟨none, 0, 0, [], rfl, by unfold maxLen; omega, ⟨rfl, fun h => absurd h (by omega)⟩, fun q hq => by cases hq⟩
  · simp [Value.cells] at hcs
    obtain ⟨rfl, rfl, rfl⟩ := hcs
    rw [if_pos rfl] at hmm
    subst hmm
    have hel : ∀ i, i < len → ∃ q : Flt, (Whl q.1 ∧ Whl q.2.1 ∧ Whl q.2.2) ∧ W.cell? (a.add (i * 3)) = some (.int .i64 q.1) ∧ W.cell? (a.add (i * 3 + 1)) = some (.int .i64 q.2.1) ∧ W.cell? (a.add (i * 3 + 2)) = some (.int .i64 q.2.2) := fun i hi' => by
      obtain ⟨cs', hc, ht⟩ := hi i (by omega)
      rw [Try.cellsFault] at hc
      obtain ⟨L, C, E, rfl, hw⟩ := flt_trod ht
      obtain ⟨_, hcl, hat⟩ := World.cells?_some hc
      refine ⟨(L, C, E), hw, ?_, ?_, ?_⟩
      · have := hat 0 (by omega)
        simpa [Go.Deep.add_add] using this
      · have := hat 1 (by omega)
        simpa [Go.Deep.add_add] using this
      · have := hat 2 (by omega)
        simpa [Go.Deep.add_add] using this
    obtain ⟨l, hll, hq⟩ := list_of len hel
    refine ⟨some a, len, _, l, rfl, by omega, ⟨hll, fun hn => ?_⟩, fun q hm => ?_⟩
    · obtain ⟨q0, _, hc0, _⟩ := hel 0 hn
      obtain ⟨b, off, rfl, hb⟩ := spot_of (i := 0) (by simpa using hc0) rfl
      refine ⟨b, off, rfl, hb, fun i q hiq => ?_⟩
      obtain ⟨_, h1, h2, h3⟩ := hq i q hiq
      rw [plainAddr] at h1 h2 h3
      exact ⟨h1, by simpa [Nat.add_assoc] using h2, by simpa [Nat.add_assoc] using h3⟩
    · obtain ⟨i, hi'⟩ := List.mem_iff_getElem?.1 hm
      exact (hq i q hi').1
end
set_option maxRecDepth 100000 in
theorem tells_any (a1 b1 a2 b2 : Int) (A : Option Addr) (n c : Nat) (l : List Flt) (s : ByteArray) (w : World) (hr : RwF w A n l) (hl : AllF l) (hw : Whl a1 ∧ Whl b1) :
    Calls Try.prog 4 #[.agg #[.int .i64 a1, .int .i64 b1], .agg #[.int .i64 a2, .int .i64 b2], .slice A n c, .string s] w fun e w' => e = .returned (.bool true) ∧ Below w.heap.size w w' := by
  by_cases h1 : n ≤ 40
  · by_cases h2 : s.size ≤ 60
    · exact tells_c a1 b1 a2 b2 A n c l s w hr hl hw h1 h2
    · have HP := Lib.hid (And.intro hr hl)
      clear hr hl hw
      have g1 : decide ((40 : Int) < (n : Int)) = false := by simp; omega
      have g2 : decide ((60 : Int) < (s.size : Int)) = true := by simp; omega
      go_enter Try.func4, Try.ntmps4
      go_wp2_with (go_at_call 7; refine (works_c _).mono ?_; rintro e w1 ⟨rfl, hb1⟩; have hb2 := below_box w (.cells #[.int .i64 a1, .int .i64 b1] 23); have hb3 := below_box (w.alloc (.cells #[.int .i64 a1, .int .i64 b1] 23)) (.cells #[.int .i64 a2, .int .i64 b2] 23); have HB := Lib.hid (hb2.trans ((hb3.trans (hb1.mono hb3.size)).mono hb2.size)); clear hb1 hb2 hb3)
      go_ret
      exact ⟨rfl, HB.out⟩
  · clear hr hl hw
    have g1 : decide ((40 : Int) < (n : Int)) = true := by simp; omega
    go_enter Try.func4, Try.ntmps4
    go_wp2_with (go_at_call 7; refine (works_c _).mono ?_; rintro e w1 ⟨rfl, hb1⟩; have hb2 := below_box w (.cells #[.int .i64 a1, .int .i64 b1] 23); have hb3 := below_box (w.alloc (.cells #[.int .i64 a1, .int .i64 b1] 23)) (.cells #[.int .i64 a2, .int .i64 b2] 23); have HB := Lib.hid (hb2.trans ((hb3.trans (hb1.mono hb3.size)).mono hb2.size)); clear hb1 hb2 hb3)
    go_ret
    exact ⟨rfl, HB.out⟩
end Go.Proofs.Ytjocobfabdkadaa
namespace Go.Proofs.Ytjocobfabdkadaa
open Go.ChangeShapes Go.WideShapes Go.ChangeAt Go.RowKit Go.Joins
theorem readFtells : (Try.f4.params.toList.all fun t => Try.prog.readableRec t && decide (t < Try.prog.types.size)) = true := by kernel_rfl
set_option maxRecDepth 100000 in
theorem tells_lifted (os : Os) (started : os.Started) (H : Type) (enc : TypeId × Value → H) :
    ReturnsInHanded {} Try.checked os 4 .any (Rows.posTellsSpec.pre6 enc Try.prog Try.f4 Rows.posTellsRow.domain false) (Rows.posTellsSpec.post enc Try.prog Try.f4 false true false false) := by
  refine returnsInHanded_of_change (C := Try.checked) own started (by kernel_rfl) Try.func4
    (ChangeSpec.witness6 (enc := enc) (C := Try.checked) false ⟨#[], #[.agg #[.int .i64 0, .int .i64 0], .agg #[.int .i64 0, .int .i64 0], .slice none 0 0, .string ⟨#[]⟩], []⟩ 8 (by kernel_rfl) (by kernel_rfl) (by kernel_rfl) (by kernel_rfl)) ?_
  intro W base args ds gs before hval0 hW hcnd _
  have hval : ∀ (j : Nat) t v, Try.f4.params[j]? = some t → args[j]? = some v → Value.okWide Try.prog W .any base t v := hval0
  have hW' := hW
  obtain ⟨p, q, hA0, hV, rfl, hfz, hnd⟩ := hW
  have hA : DataW.TrodAll enc Try.prog W 0 (fun _ => true) true Try.f4.params.toList args.toList ds p := hA0
  rw [Try.params4] at hA hval
  obtain ⟨v0, r0, d0, e0, p0, q0, hargs, rfl, rfl, h0, hA1⟩ := trodAll_cons hA
  obtain ⟨v1, r1, d1, e1, p1, q1, rfl, rfl, rfl, h1, hA2⟩ := trodAll_cons hA1
  obtain ⟨v2, r2, d2, e2, p2, q2, rfl, rfl, rfl, h2, hA3⟩ := trodAll_cons hA2
  obtain ⟨v3, r3, d3, e3, p3, q3, rfl, rfl, rfl, h3, hA4⟩ := trodAll_cons hA3
  obtain ⟨rfl, rfl, rfl⟩ := trodAll_nil hA4
  obtain ⟨rfl, rfl⟩ := trodVars_none hV
  have hargs' : args = #[v0, v1, v2, v3] := by
    cases args; simpa using hargs
  subst hargs'
  obtain ⟨L0, C0, rfl, hL0, hC0⟩ := open_pos (hval 0 23 v0 rfl rfl) h0
  obtain ⟨L1, C1, rfl, hL1, hC1⟩ := open_pos (hval 1 23 v1 rfl rfl) h1
  obtain ⟨A2, n2, c2, l2, rfl, hn2, ra2, ta2⟩ := open_faults (hval 2 38 v2 rfl rfl) h2
  obtain ⟨s3, rfl, hs3⟩ := open_text (hval 3 9 v3 rfl rfl) h3
  refine (tells_any L0 C0 L1 C1 A2 n2 c2 l2 s3 W ra2 ta2 ⟨hL0, hC0⟩).mono fun e W' ⟨he, hg⟩ => ?_
  subst he
  exact ⟨_, rfl, law_post laidOut readFtells (by kernel_rfl) Try.underlying4 rfl rfl rfl rfl hW' hg⟩
theorem tells_over : Rows.posTellsRow.holds Try.pinned (OpenSpec.ofChange Rows.posTellsSpec) :=
  OpenClaim.holds_of_wide 4 Try.f4 rfl rfl rfl rfl rfl rfl rfl ⟨rfl, rfl, rfl, rfl, rfl⟩ rfl rfl rfl rfl rfl (by kernel_rfl) Try.func4 (by kernel_rfl)
    (of_decide_eq_true (by kernel_rfl)) (by unfold Func.isWrapper; first | (rw [if_pos (by decide +kernel)]; kernel_rfl) | (rw [if_neg (by decide +kernel)]; exact ⟨rfl, rfl⟩))
    (fun os started H enc _ => tells_lifted os started H enc)
/-- The statement. -/
theorem tells_holds : Rows.PosTellsSaid := tells_over
#print axioms tells_holds
end Go.Proofs.Ytjocobfabdkadaa
