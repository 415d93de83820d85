/- Of of package pos, and the document's, by contract: texts of at most 1000 bytes. -/
import Derived.Test.YtjocobfabdkadaaPosp
namespace Go.Proofs.Ytjocobfabdkadaa
open Go.RowKit
attribute [local go_sem] alloc_drewN setCell_drewN
/-- A position as a value. -/
def posV (p : Nat × Nat) : Value := .agg #[.int .i64 (p.1 : Int), .int .i64 (p.2 : Int)]
theorem posV_mk {p : Nat × Nat} {a b : Int} (h1 : a = p.1) (h2 : b = p.2) : Value.agg #[.int .i64 a, .int .i64 b] = posV p := by
  rw [h1, h2]; rfl
set_option maxRecDepth 100000 in
set_option maxHeartbeats 4000000 in
theorem of_in (s : ByteArray) (i : Nat) (w : World) (hs : s.size ≤ 1000) (hi : i ≤ s.size) :
    Calls Try.prog 8 #[.string s, .int .i64 i] w fun e w' => e = .returned (.tuple #[posV (posAt (bys s) i), .bool true]) ∧ Below w.heap.size w w' := by
  have hge := posAt_ge (bys s) i (by rw [bys_len]; exact hi)
  have hcl := count_line hi
  obtain ⟨K, hK⟩ : ∃ K, (posAt (bys s) i).1 = K + 1 := ⟨(posAt (bys s) i).1 - 1, by omega⟩
  obtain ⟨C, hC⟩ : ∃ C, (posAt (bys s) i).2 = C := ⟨_, rfl⟩
  rw [hK] at hcl hge
  rw [hC] at hge
  have hK1 : K ≤ i := by omega
  have hC1 : C ≤ i + 1 := by omega
  have HH := Lib.hid (And.intro hK (And.intro hC hcl))
  clear hge hcl hK hC
  have g1 : decide ((s.size : Int) < (i : Int)) = false := by simp; omega
  have hz : w.heap.size < (w.alloc (.cells #[.int .i64 0, .int .i64 0] 23)).heap.size := by simp
  go_enter Try.func8, Try.ntmps8
  go_wp2_with (first
    | (go_at_call 29; refine (count_c _ _).mono ?_; rintro e w1 ⟨rfl, rfl⟩; rw [HH.out.2.2, show K + 1 - 1 = K by omega])
    | (go_at_call 30; refine (last_c s i hi (by omega) _).mono ?_; rintro e w2 ⟨rfl, rfl⟩; rw [HH.out.2.1]))
  refine bodyPost_ret (v := .tuple #[.agg #[.int .i64 ((K : Int) + 1), .int .i64 ((i : Int) - ((i : Int) - (C : Int)))], .bool true]) (by simp [results, Try.results8, go_sem]) rfl ⟨?_, ?_⟩
  · rw [posV_mk (p := posAt (bys s) i) (by rw [HH.out.1]; omega) (by rw [HH.out.2.1]; omega)]
  · exact (Below.refl _ _).alloc (Nat.le_refl _) _
set_option maxRecDepth 100000 in
set_option maxHeartbeats 4000000 in
theorem of_out (s : ByteArray) (i : Int) (w : World) (hi : i < 0 ∨ (s.size : Int) < i) :
    Calls Try.prog 8 #[.string s, .int .i64 i] w fun e w' => e = .returned (.tuple #[.agg #[.int .i64 0, .int .i64 0], .bool false]) ∧ Below w.heap.size w w' := by
  rcases hi with h | h
  · have g1 : decide (i < 0) = true := decide_eq_true h
    go_enter Try.func8, Try.ntmps8
    go_wp2_with fail
    refine bodyPost_ret (v := .tuple #[.agg #[.int .i64 0, .int .i64 0], .bool false]) (by simp [results, Try.results8, go_sem]) rfl ⟨rfl, (Below.refl _ _).alloc (Nat.le_refl _) _⟩
  · have g1 : decide (i < 0) = false := decide_eq_false (by omega)
    have g2 : decide ((s.size : Int) < i) = true := decide_eq_true h
    go_enter Try.func8, Try.ntmps8
    go_wp2_with fail
    refine bodyPost_ret (v := .tuple #[.agg #[.int .i64 0, .int .i64 0], .bool false]) (by simp [results, Try.results8, go_sem]) rfl ⟨rfl, (Below.refl _ _).alloc (Nat.le_refl _) _⟩
set_option maxRecDepth 100000 in
set_option maxHeartbeats 4000000 in
theorem rOf_in (s : ByteArray) (i : Nat) (w : World) (hs : s.size ≤ 1000) (hi : i ≤ s.size) :
    Calls Try.prog 9 #[.string s, .int .i64 i] w fun e w' => e = .returned (.tuple #[posV (posAt (bys s) i), .bool true]) ∧ Below w.heap.size w w' := by
  have g1 : decide ((s.size : Int) < (i : Int)) = false := by simp; omega
  have hlen := Lib.hid (bys_len s)
  go_enter Try.func9, Try.ntmps9
  go_wp2_with fail
  go_loopw [7] (fun v wr => ∃ (j : Nat) (p : Nat × Nat), v = .int .i64 j ∧ j ≤ i ∧ posAt (bys s) j = p ∧ Bk wr w.heap.size 27 #[.int .i64 0, .int .i64 0] ∧ Bk wr (w.heap.size + 1) 27 #[.int .i64 (p.1 : Int), .int .i64 (p.2 : Int)] ∧ Below w.heap.size w wr) (fun v _ => i - (intOf v).toNat)
  case atStart =>
    refine ⟨0, (1, 1), rfl, Nat.zero_le _, posAt_zero _, (Bk.new w _ _).alloc _, ?_, ((Below.refl _ _).alloc (Nat.le_refl _) _).alloc (by simp) _⟩
    have := Bk.new (w.alloc (.cells #[.int .i64 0, .int .i64 0] 27)) 27 #[.int .i64 1, .int .i64 1]
    simpa using this
  case round =>
    obtain ⟨j, p, rfl, hj, hp, hk0, hk1, hB⟩ := hrel
    have c0 := hk0.cell 0
    have c1 := hk0.cell 1
    have d0 := hk1.cell 0
    have d1 := hk1.cell 1
    have f0 := hk0.frozen 0
    have f1 := hk0.frozen 1
    have e0 := hk1.frozen 0
    have e1 := hk1.frozen 1
    have z0 := hk0.lt
    have z1 := hk1.lt
    simp at c0 c1 d0 d1
    have hge := posAt_ge (bys s) j (by rw [hlen.out]; omega)
    rw [hp] at hge
    obtain ⟨L, C⟩ := p
    simp only at hge d0 d1 hk1
    have hL : L ≤ 1001 := by omega
    have hC : C ≤ 1001 := by omega
    have HK := Lib.hid (And.intro hk0 (And.intro hk1 (And.intro hB hp)))
    clear hk0 hk1 hB hp hge
    by_cases hji : j < i
    · have g2 : decide ((j : Int) < (i : Int)) = true := by simp; omega
      have hjs : j < s.size := by omega
      have hx := bys_at hjs
      by_cases h10 : (s[j]'hjs).toNat = 10
      · have g3 : (((s[j]'hjs).toNat : Int) == 10) = true := by simp [h10]
        have HX := Lib.hid (And.intro hx h10)
        clear hx h10
        go_wp2_with fail
        go_roundw
        case rel =>
          obtain ⟨hk0, hk1, hB, hp⟩ := HK.out
          refine ⟨j + 1, (L + 1, 1), by go_num, by omega, by rw [posAt_succ HX.out.1, hp, HX.out.2]; rfl, ((hk0.far (by simp) _).far (by simp) _).far (by simp) _, ?_, ((hB.setCell (by simp) _).setCell (by simp) _).setCell (by simp) _⟩
          exact ((hk1.put 1 _).put 0 _).put 1 _
        case measure => simp [intOf]; omega
      · have g3 : (((s[j]'hjs).toNat : Int) == 10) = false := beq_false_of_ne (by omega)
        have HX := Lib.hid (And.intro hx h10)
        clear hx h10
        go_wp2_with fail
        go_roundw
        case rel =>
          obtain ⟨hk0, hk1, hB, hp⟩ := HK.out
          refine ⟨j + 1, (L, C + 1), by go_num, by omega, ?_, hk0.far (by simp) _, hk1.put 1 _, hB.setCell (by simp) _⟩
          rw [posAt_succ HX.out.1, hp]
          unfold step
          rw [if_neg HX.out.2]
        case measure => simp [intOf]; omega
    · obtain rfl : j = i := by omega
      have g2 : decide ((j : Int) < (j : Int)) = false := by simp
      go_wp2_with fail
      refine bodyPost_ret (v := .tuple #[.agg #[.int .i64 (L : Int), .int .i64 (C : Int)], .bool true]) (by simp [results, Try.results9, go_sem, z0, c0, c1, f0, f1]) rfl ⟨?_, (HK.out.2.2.1.setCell (by simp) _).setCell (by simp) _⟩
      rw [HK.out.2.2.2]
      rfl
set_option maxRecDepth 100000 in
set_option maxHeartbeats 4000000 in
theorem rOf_out (s : ByteArray) (i : Int) (w : World) (hi : i < 0 ∨ (s.size : Int) < i) :
    Calls Try.prog 9 #[.string s, .int .i64 i] w fun e w' => e = .returned (.tuple #[.agg #[.int .i64 0, .int .i64 0], .bool false]) ∧ Below w.heap.size w w' := by
  rcases hi with h | h
  · have g1 : decide (i < 0) = true := decide_eq_true h
    go_enter Try.func9, Try.ntmps9
    go_wp2_with fail
    refine bodyPost_ret (v := .tuple #[.agg #[.int .i64 0, .int .i64 0], .bool false]) (by simp [results, Try.results9, go_sem]) rfl ⟨rfl, (Below.refl _ _).alloc (Nat.le_refl _) _⟩
  · have g1 : decide (i < 0) = false := decide_eq_false (by omega)
    have g2 : decide ((s.size : Int) < i) = true := decide_eq_true h
    go_enter Try.func9, Try.ntmps9
    go_wp2_with fail
    refine bodyPost_ret (v := .tuple #[.agg #[.int .i64 0, .int .i64 0], .bool false]) (by simp [results, Try.results9, go_sem]) rfl ⟨rfl, (Below.refl _ _).alloc (Nat.le_refl _) _⟩
end Go.Proofs.Ytjocobfabdkadaa
