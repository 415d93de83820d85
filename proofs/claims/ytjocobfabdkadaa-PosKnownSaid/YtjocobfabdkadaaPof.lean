/- Of of package pos, and the document's, by contract: texts of at most 1000 bytes. -/
import Derived.Test.YtjocobfabdkadaaDbackp
import Derived.Test.YtjocobfabdkadaaShelf
import Derived.Lib.IndexLaws
import Derived.Lib.LastIndexByte
namespace Go.Proofs.Ytjocobfabdkadaa
open Go.RowKit
def step (p : Nat × Nat) (x : Nat) : Nat × Nat := if x = 10 then (p.1 + 1, 1) else (p.1, p.2 + 1)
/-- Line and column of a place in a text. -/
def posAt (l : List Nat) (i : Nat) : Nat × Nat := (l.take i).foldl step (1, 1)
theorem posAt_zero (l : List Nat) : posAt l 0 = (1, 1) := by simp [posAt]
theorem posAt_succ {l : List Nat} {i x : Nat} (hx : l[i]? = some x) : posAt l (i + 1) = step (posAt l i) x := by
  obtain ⟨g1, g2⟩ := List.getElem?_eq_some_iff.1 hx
  unfold posAt
  rw [List.take_succ_eq_append_getElem g1, List.foldl_append, g2]
  rfl
theorem posAt_nl {l : List Nat} {i : Nat} (hx : l[i]? = some 10) : posAt l (i + 1) = ((posAt l i).1 + 1, 1) := by
  rw [posAt_succ hx]; rfl
theorem posAt_run {l : List Nat} {st : Nat} : ∀ n : Nat, st + n ≤ l.length → (∀ j, st ≤ j → j < st + n → l[j]? ≠ some 10) → posAt l (st + n) = ((posAt l st).1, (posAt l st).2 + n)
  | 0, _, _ => rfl
  | n + 1, h, hn => by
    have hx : l[st + n]? = some (l[st + n]'(by omega)) := List.getElem?_eq_getElem _
    have h10 : (l[st + n]'(by omega)) ≠ 10 := fun e => hn (st + n) (by omega) (by omega) (by rw [hx, e])
    rw [show st + (n + 1) = st + n + 1 by omega, posAt_succ hx, posAt_run n (by omega) (fun j h1 h2 => hn j h1 (by omega))]
    unfold step
    rw [if_neg h10]
    rfl
theorem posAt_step {l : List Nat} {i : Nat} (h : i < l.length) : (posAt l i).1 < (posAt l (i + 1)).1 ∨ ((posAt l i).1 = (posAt l (i + 1)).1 ∧ (posAt l i).2 < (posAt l (i + 1)).2) := by
  have hx : l[i]? = some (l[i]'h) := List.getElem?_eq_getElem _
  rw [posAt_succ hx]
  unfold step
  split
  · left; simp
  · right; simp
theorem posAt_lt {l : List Nat} {i : Nat} : ∀ j : Nat, i < j → j ≤ l.length → (posAt l i).1 < (posAt l j).1 ∨ ((posAt l i).1 = (posAt l j).1 ∧ (posAt l i).2 < (posAt l j).2)
  | 0, h, _ => absurd h (by omega)
  | j + 1, h, hl => by
    have h1 := posAt_step (l := l) (i := j) (by omega)
    by_cases hij : i = j
    · subst hij; exact h1
    · have h2 := posAt_lt (l := l) (i := i) j (by omega) (by omega)
      omega
theorem line_mono {l : List Nat} {i j : Nat} (h : i ≤ j) (hj : j ≤ l.length) : (posAt l i).1 ≤ (posAt l j).1 := by
  by_cases e : i = j
  · subst e; exact Nat.le_refl _
  · have := posAt_lt (l := l) (i := i) j (by omega) hj
    omega
theorem posAt_inj {l : List Nat} {i j : Nat} (hi : i ≤ l.length) (hj : j ≤ l.length) (h : posAt l i = posAt l j) : i = j := by
  rcases Nat.lt_trichotomy i j with h1 | h1 | h1
  · have := posAt_lt (l := l) (i := i) j h1 hj
    rw [h] at this; omega
  · exact h1
  · have := posAt_lt (l := l) (i := j) i h1 hi
    rw [h] at this; omega
theorem posAt_ge (l : List Nat) : ∀ i : Nat, i ≤ l.length → 1 ≤ (posAt l i).1 ∧ 1 ≤ (posAt l i).2 ∧ (posAt l i).1 ≤ i + 1 ∧ (posAt l i).2 ≤ i + 1
  | 0, _ => by rw [posAt_zero]; simp
  | i + 1, h => by
    have hx : l[i]? = some (l[i]'(by omega)) := List.getElem?_eq_getElem _
    have := posAt_ge l i (by omega)
    rw [posAt_succ hx]
    unfold step
    split <;> simp <;> omega
theorem line_count (l : List Nat) : ∀ i : Nat, i ≤ l.length → (posAt l i).1 = (l.take i).count 10 + 1
  | 0, _ => by rw [posAt_zero]; simp
  | i + 1, h => by
    have hx : l[i]? = some (l[i]'(by omega)) := List.getElem?_eq_getElem _
    have ih := line_count l i (by omega)
    rw [posAt_succ hx, List.take_succ_eq_append_getElem (by omega), List.count_append]
    unfold step
    split
    · rename_i h10; rw [h10]; simp; omega
    · rename_i h10; simp [ih, List.count_singleton, h10]
/-- The first newline from a place on. -/
def nlAt (l : List Nat) (v : Int) : Prop := (v = -1 ∧ ∀ k : Nat, l[k]? ≠ some 10) ∨ ∃ o : Nat, v = o ∧ l[o]? = some 10 ∧ ∀ k : Nat, k < o → l[k]? ≠ some 10
theorem bys_get (s : ByteArray) (k : Nat) (c : UInt8) : (bys s)[k]? = some c.toNat ↔ s.data.toList[k]? = some c := by
  unfold bys
  rw [List.getElem?_map]
  cases s.data.toList[k]? with
  | none => simp
  | some x =>
    simp only [Option.map_some, Option.some.injEq]
    exact ⟨fun h => UInt8.toNat_inj.1 h, fun h => by rw [h]⟩
theorem nlAt_byte (s : ByteArray) : nlAt (bys s) (Lib.indexByte s.data.toList 10) := by
  have hge := Lib.indexByte_ge s.data.toList 10
  by_cases h : Lib.indexByte s.data.toList 10 = -1
  · left
    refine ⟨h, fun k hk => Lib.indexByte_none h k ((bys_get s k 10).1 hk)⟩
  · right
    obtain ⟨o, ho⟩ : ∃ o : Nat, Lib.indexByte s.data.toList 10 = o := ⟨(Lib.indexByte s.data.toList 10).toNat, by omega⟩
    have h1 := Lib.indexByte_some ho
    exact ⟨o, ho, (bys_get s o 10).2 h1.1, fun k hk e => h1.2 k hk ((bys_get s k 10).1 e)⟩
theorem nl_c (s : ByteArray) (w : World) : Calls Try.prog 31 #[.string s, .int .u8 10] w fun e w' => ∃ v, e = .returned (.int .i64 v) ∧ nlAt (bys s) v ∧ w' = w :=
  (Try.strings_IndexByte s 10 w).mono fun _ _ ⟨h1, h2⟩ => ⟨_, h1, nlAt_byte s, h2⟩
theorem count_bys (s : ByteArray) : Lib.countByte s.data.toList 10 = (bys s).count 10 := by
  unfold Lib.countByte bys
  induction s.data.toList with
  | nil => rfl
  | cons x l ih =>
    simp only [List.map_cons, List.count_cons, ih]
    congr 1
    by_cases h : x = 10
    · subst h; rfl
    · have : x.toNat ≠ 10 := fun e => h (UInt8.toNat_inj.1 e)
      simp [h, this]
theorem count_c (s : ByteArray) (w : World) : Calls Try.prog 29 #[.string s, .string ⟨#[10]⟩] w fun e w' => e = .returned (.int .i64 ((bys s).count 10 : Nat)) ∧ w' = w :=
  (Try.strings_Count_one s 10 w).mono fun _ _ ⟨h1, h2⟩ => ⟨by rw [h1, count_bys], h2⟩
theorem last_col (s : ByteArray) (i : Nat) (hi : i ≤ s.size) : ((posAt (bys s) i).2 : Int) = (i : Int) - Lib.lastIndexByte (s.extract 0 i) 10 := by
  have hl : (bys s).length = s.size := bys_len s
  have hsz : (s.extract 0 i).size = i := by simp; omega
  have hat : ∀ j, j < i → (((s.extract 0 i).data[j]!).toNat : Int) = 10 → (bys s)[j]? = some 10 := by
    intro j hj h
    have hj' : j < (s.extract 0 i).data.size := by show j < (s.extract 0 i).size; omega
    rw [getElem!_pos _ j hj'] at h
    have h1 : (bys (s.extract 0 i))[j]? = some 10 := by
      rw [bys_at (show j < (s.extract 0 i).size by omega)]
      congr 1
      exact Int.ofNat_inj.1 h
    rw [bys_extract, List.drop_zero, Nat.sub_zero, List.getElem?_take, if_pos hj] at h1
    exact h1
  have hat' : ∀ j, j < i → (((s.extract 0 i).data[j]!).toNat : Int) ≠ 10 → (bys s)[j]? ≠ some 10 := by
    intro j hj h e
    have hj' : j < (s.extract 0 i).data.size := by show j < (s.extract 0 i).size; omega
    apply h
    rw [getElem!_pos _ j hj']
    have h1 : (bys (s.extract 0 i))[j]? = some 10 := by
      rw [bys_extract, List.drop_zero, Nat.sub_zero, List.getElem?_take, if_pos hj]
      exact e
    rw [bys_at (show j < (s.extract 0 i).size by omega)] at h1
    have := Option.some.inj h1
    exact congrArg Nat.cast this
  have hsp := Lib.lastIdx_spec (s.extract 0 i) 10 (s.extract 0 i).size
  unfold Lib.lastIndexByte
  rw [hsz] at hsp ⊢
  rcases hsp with ⟨h1, h2⟩ | ⟨m, hm, h1, h2, h3⟩
  · rw [h1]
    have := posAt_run (l := bys s) (st := 0) i (by omega) (fun j _ hj => hat' j (by omega) (h2 j (by omega)))
    rw [Nat.zero_add] at this
    rw [this, posAt_zero]
    simp
    omega
  · rw [h1]
    have hx := hat m hm h2
    have h4 := posAt_run (l := bys s) (st := m + 1) (i - (m + 1)) (by omega) (fun j g1 g2 => hat' j (by omega) (h3 j (by omega) (by omega)))
    rw [show m + 1 + (i - (m + 1)) = i by omega, posAt_nl hx] at h4
    rw [h4]
    simp
    omega
theorem last_c (s : ByteArray) (i : Nat) (hi : i ≤ s.size) (hs : s.size ≤ 100000) (w : World) :
    Calls Try.prog 30 #[.string (s.extract 0 i), .int .u8 10] w fun e w' => e = .returned (.int .i64 ((i : Int) - ((posAt (bys s) i).2 : Int))) ∧ w' = w :=
  (Try.strings_LastIndexByte (s.extract 0 i) 10 (by simp; omega) w).mono fun _ _ ⟨h1, h2⟩ => ⟨by rw [h1]; congr 2; have := last_col s i hi; omega, h2⟩
theorem count_line {s : ByteArray} {i : Nat} (hi : i ≤ s.size) : ((bys (s.extract 0 i)).count 10 : Nat) = (posAt (bys s) i).1 - 1 := by
  rw [line_count _ _ (by rw [bys_len]; exact hi), bys_extract, List.drop_zero, Nat.sub_zero]
  simp
end Go.Proofs.Ytjocobfabdkadaa
namespace Go.Proofs.Ytjocobfabdkadaa
open Go.RowKit
attribute [local go_sem] alloc_drewN setCell_drewN
/-- A position as a value. -/
def posV (p : Nat × Nat) : Value := .agg #[.int .i64 (p.1 : Int), .int .i64 (p.2 : Int)]
theorem posV_mk {p : Nat × Nat} {a b : Int} (h1 : a = p.1) (h2 : b = p.2) : Value.agg #[.int .i64 a, .int .i64 b] = posV p := by
  rw [h1, h2]; rfl
set_option maxRecDepth 100000 in
set_option maxHeartbeats 4000000 in
theorem of_in (s : ByteArray) (i : Nat) (w : World) (hs : s.size ≤ 1000) (hi : i ≤ s.size) :
    Calls Try.prog 8 #[.string s, .int .i64 i] w fun e w' => e = .returned (.tuple #[posV (posAt (bys s) i), .bool true]) ∧ Below w.heap.size w w' := by
  have hge := posAt_ge (bys s) i (by rw [bys_len]; exact hi)
  have hcl := count_line hi
  obtain ⟨K, hK⟩ : ∃ K, (posAt (bys s) i).1 = K + 1 := ⟨(posAt (bys s) i).1 - 1, by omega⟩
  obtain ⟨C, hC⟩ : ∃ C, (posAt (bys s) i).2 = C := ⟨_, rfl⟩
  rw [hK] at hcl hge
  rw [hC] at hge
  have hK1 : K ≤ i := by omega
  have hC1 : C ≤ i + 1 := by omega
  have HH := Lib.hid (And.intro hK (And.intro hC hcl))
  clear hge hcl hK hC
  have g1 : decide ((s.size : Int) < (i : Int)) = false := by simp; omega
  have hz : w.heap.size < (w.alloc (.cells #[.int .i64 0, .int .i64 0] 23)).heap.size := by simp
  go_enter Try.func8, Try.ntmps8
  go_wp2_with (first
    | (go_at_call 29; refine (count_c _ _).mono ?_; rintro e w1 ⟨rfl, rfl⟩; rw [HH.out.2.2, show K + 1 - 1 = K by omega])
    | (go_at_call 30; refine (last_c s i hi (by omega) _).mono ?_; rintro e w2 ⟨rfl, rfl⟩; rw [HH.out.2.1]))
  refine bodyPost_ret (v := .tuple #[.agg #[.int .i64 ((K : Int) + 1), .int .i64 ((i : Int) - ((i : Int) - (C : Int)))], .bool true]) (by simp [results, Try.results8, go_sem]) rfl ⟨?_, ?_⟩
  · rw [posV_mk (p := posAt (bys s) i) (by rw [HH.out.1]; omega) (by rw [HH.out.2.1]; omega)]
  · exact (Below.refl _ _).alloc (Nat.le_refl _) _
set_option maxRecDepth 100000 in
set_option maxHeartbeats 4000000 in
theorem of_out (s : ByteArray) (i : Int) (w : World) (hi : i < 0 ∨ (s.size : Int) < i) :
    Calls Try.prog 8 #[.string s, .int .i64 i] w fun e w' => e = .returned (.tuple #[.agg #[.int .i64 0, .int .i64 0], .bool false]) ∧ Below w.heap.size w w' := by
  rcases hi with h | h
  · have g1 : decide (i < 0) = true := decide_eq_true h
    go_enter Try.func8, Try.ntmps8
    go_wp2_with fail
    refine bodyPost_ret (v := .tuple #[.agg #[.int .i64 0, .int .i64 0], .bool false]) (by simp [results, Try.results8, go_sem]) rfl ⟨rfl, (Below.refl _ _).alloc (Nat.le_refl _) _⟩
  · have g1 : decide (i < 0) = false := decide_eq_false (by omega)
    have g2 : decide ((s.size : Int) < i) = true := decide_eq_true h
    go_enter Try.func8, Try.ntmps8
    go_wp2_with fail
    refine bodyPost_ret (v := .tuple #[.agg #[.int .i64 0, .int .i64 0], .bool false]) (by simp [results, Try.results8, go_sem]) rfl ⟨rfl, (Below.refl _ _).alloc (Nat.le_refl _) _⟩
set_option maxRecDepth 100000 in
set_option maxHeartbeats 4000000 in
theorem rOf_in (s : ByteArray) (i : Nat) (w : World) (hs : s.size ≤ 1000) (hi : i ≤ s.size) :
    Calls Try.prog 9 #[.string s, .int .i64 i] w fun e w' => e = .returned (.tuple #[posV (posAt (bys s) i), .bool true]) ∧ Below w.heap.size w w' := by
  have g1 : decide ((s.size : Int) < (i : Int)) = false := by simp; omega
  have hlen := Lib.hid (bys_len s)
  go_enter Try.func9, Try.ntmps9
  go_wp2_with fail
  go_loopw [7] (fun v wr => ∃ (j : Nat) (p : Nat × Nat), v = .int .i64 j ∧ j ≤ i ∧ posAt (bys s) j = p ∧ Bk wr w.heap.size 27 #[.int .i64 0, .int .i64 0] ∧ Bk wr (w.heap.size + 1) 27 #[.int .i64 (p.1 : Int), .int .i64 (p.2 : Int)] ∧ Below w.heap.size w wr) (fun v _ => i - (intOf v).toNat)
  case atStart =>
    refine ⟨0, (1, 1), rfl, Nat.zero_le _, posAt_zero _, (Bk.new w _ _).alloc _, ?_, ((Below.refl _ _).alloc (Nat.le_refl _) _).alloc (by simp) _⟩
    have := Bk.new (w.alloc (.cells #[.int .i64 0, .int .i64 0] 27)) 27 #[.int .i64 1, .int .i64 1]
    simpa using this
  case round =>
    obtain ⟨j, p, rfl, hj, hp, hk0, hk1, hB⟩ := hrel
    have c0 := hk0.cell 0
    have c1 := hk0.cell 1
    have d0 := hk1.cell 0
    have d1 := hk1.cell 1
    have f0 := hk0.frozen 0
    have f1 := hk0.frozen 1
    have e0 := hk1.frozen 0
    have e1 := hk1.frozen 1
    have z0 := hk0.lt
    have z1 := hk1.lt
    simp at c0 c1 d0 d1
    have hge := posAt_ge (bys s) j (by rw [hlen.out]; omega)
    rw [hp] at hge
    obtain ⟨L, C⟩ := p
    simp only at hge d0 d1 hk1
    have hL : L ≤ 1001 := by omega
    have hC : C ≤ 1001 := by omega
    have HK := Lib.hid (And.intro hk0 (And.intro hk1 (And.intro hB hp)))
    clear hk0 hk1 hB hp hge
    by_cases hji : j < i
    · have g2 : decide ((j : Int) < (i : Int)) = true := by simp; omega
      have hjs : j < s.size := by omega
      have hx := bys_at hjs
      by_cases h10 : (s[j]'hjs).toNat = 10
      · have g3 : (((s[j]'hjs).toNat : Int) == 10) = true := by simp [h10]
        have HX := Lib.hid (And.intro hx h10)
        clear hx h10
        go_wp2_with fail
        go_roundw
        case rel =>
          obtain ⟨hk0, hk1, hB, hp⟩ := HK.out
          refine ⟨j + 1, (L + 1, 1), by go_num, by omega, by rw [posAt_succ HX.out.1, hp, HX.out.2]; rfl, ((hk0.far (by simp) _).far (by simp) _).far (by simp) _, ?_, ((hB.setCell (by simp) _).setCell (by simp) _).setCell (by simp) _⟩
          exact ((hk1.put 1 _).put 0 _).put 1 _
        case measure => simp [intOf]; omega
      · have g3 : (((s[j]'hjs).toNat : Int) == 10) = false := beq_false_of_ne (by omega)
        have HX := Lib.hid (And.intro hx h10)
        clear hx h10
        go_wp2_with fail
        go_roundw
        case rel =>
          obtain ⟨hk0, hk1, hB, hp⟩ := HK.out
          refine ⟨j + 1, (L, C + 1), by go_num, by omega, ?_, hk0.far (by simp) _, hk1.put 1 _, hB.setCell (by simp) _⟩
          rw [posAt_succ HX.out.1, hp]
          unfold step
          rw [if_neg HX.out.2]
        case measure => simp [intOf]; omega
    · obtain rfl : j = i := by omega
      have g2 : decide ((j : Int) < (j : Int)) = false := by simp
      go_wp2_with fail
      refine bodyPost_ret (v := .tuple #[.agg #[.int .i64 (L : Int), .int .i64 (C : Int)], .bool true]) (by simp [results, Try.results9, go_sem, z0, c0, c1, f0, f1]) rfl ⟨?_, (HK.out.2.2.1.setCell (by simp) _).setCell (by simp) _⟩
      rw [HK.out.2.2.2]
      rfl
set_option maxRecDepth 100000 in
set_option maxHeartbeats 4000000 in
theorem rOf_out (s : ByteArray) (i : Int) (w : World) (hi : i < 0 ∨ (s.size : Int) < i) :
    Calls Try.prog 9 #[.string s, .int .i64 i] w fun e w' => e = .returned (.tuple #[.agg #[.int .i64 0, .int .i64 0], .bool false]) ∧ Below w.heap.size w w' := by
  rcases hi with h | h
  · have g1 : decide (i < 0) = true := decide_eq_true h
    go_enter Try.func9, Try.ntmps9
    go_wp2_with fail
    refine bodyPost_ret (v := .tuple #[.agg #[.int .i64 0, .int .i64 0], .bool false]) (by simp [results, Try.results9, go_sem]) rfl ⟨rfl, (Below.refl _ _).alloc (Nat.le_refl _) _⟩
  · have g1 : decide (i < 0) = false := decide_eq_false (by omega)
    have g2 : decide ((s.size : Int) < i) = true := decide_eq_true h
    go_enter Try.func9, Try.ntmps9
    go_wp2_with fail
    refine bodyPost_ret (v := .tuple #[.agg #[.int .i64 0, .int .i64 0], .bool false]) (by simp [results, Try.results9, go_sem]) rfl ⟨rfl, (Below.refl _ _).alloc (Nat.le_refl _) _⟩
end Go.Proofs.Ytjocobfabdkadaa
