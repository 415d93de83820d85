/- PosBack, in plain Lean: lines joined make the text; every position lies on a line of the text; what is told of whole numbers is read back. -/
import Derived.Test.YtjocobfabdkadaaPfirst
namespace Go.Proofs.Ytjocobfabdkadaa
open Go.RowKit
/-- Lines joined by bytes 10. -/
def jn : List (List Nat) → List Nat
  | [] => []
  | [a] => a
  | a :: b :: r => a ++ 10 :: jn (b :: r)
theorem jn_cons (a : List Nat) {l : List (List Nat)} (h : l ≠ []) : jn (a :: l) = a ++ 10 :: jn l := by
  cases l with
  | nil => exact absurd rfl h
  | cons b r => rfl
theorem jn_snoc (a : List Nat) : ∀ {l : List (List Nat)}, l ≠ [] → jn (l ++ [a]) = jn l ++ 10 :: a
  | [], h => absurd rfl h
  | [b], _ => rfl
  | b :: c :: r, _ => by
    have ih := jn_snoc a (l := c :: r) (by simp)
    rw [List.cons_append, jn_cons b (by simp), ih, jn_cons b (l := c :: r) (by simp)]
    simp
theorem jn_lines : ∀ l : List Nat, jn (linesOf l) = l
  | [] => rfl
  | x :: l => by
    have ih := jn_lines l
    unfold linesOf
    by_cases hx : x = 10
    · rw [if_pos hx, jn_cons _ (linesOf_ne l), ih, hx]
      rfl
    · rw [if_neg hx]
      have hne := linesOf_ne l
      match hl : linesOf l with
      | [] => exact absurd hl hne
      | [h] =>
        rw [hl] at ih
        show x :: h = x :: l
        rw [show h = l from ih]
      | h :: b :: t =>
        rw [hl] at ih
        show (x :: h) ++ 10 :: jn (b :: t) = x :: l
        rw [← ih]
        rfl
theorem jn_le : ∀ (l : List (List Nat)) (i : Nat), (jn (l.take i)).length ≤ (jn l).length
  | [], i => by simp
  | [a], 0 => by simp [jn]
  | [a], i + 1 => by simp
  | a :: b :: r, 0 => by simp [jn]
  | a :: b :: r, 1 => by simp [jn]
  | a :: b :: r, i + 2 => by
    have ih := jn_le (b :: r) (i + 1)
    rw [List.take_succ_cons, jn_cons a (l := (b :: r).take (i + 1)) (by simp), jn_cons a (by simp)]
    simp only [List.length_append, List.length_cons]
    omega
theorem mem_jn : ∀ {l : List (List Nat)} {h : List Nat}, h ∈ l → h.length ≤ (jn l).length
  | [], h, hm => by cases hm
  | [a], h, hm => by rw [List.mem_singleton.1 hm]; exact Nat.le_refl _
  | a :: b :: r, h, hm => by
    rw [jn_cons a (by simp)]
    simp only [List.length_append, List.length_cons]
    rcases List.mem_cons.1 hm with rfl | hm
    · omega
    · have := mem_jn hm
      omega
theorem lines_count : ∀ l : List Nat, (linesOf l).length = l.count 10 + 1
  | [] => rfl
  | x :: l => by
    have ih := lines_count l
    unfold linesOf
    by_cases hx : x = 10
    · subst hx; simp [ih]
    · rw [if_neg hx, List.count_cons_of_ne hx]
      have hne := linesOf_ne l
      match hl : linesOf l with
      | [] => exact absurd hl hne
      | h :: t => rw [hl] at ih; simpa using ih
/-- The column is at most one behind the line's end. -/
theorem run_col : ∀ (l : List Nat) (a b i : Nat), ∃ (k : Nat) (h : List Nat), ((l.take i).foldl step (a, b)).1 = a + k ∧ (linesOf l)[k]? = some h ∧ ((l.take i).foldl step (a, b)).2 ≤ (if k = 0 then b else 1) + h.length
  | l, a, b, 0 => by
    have hne := linesOf_ne l
    match hl : linesOf l with
    | [] => exact absurd hl hne
    | h :: t => exact ⟨0, h, by simp, by simp, by simp⟩
  | [], a, b, i + 1 => ⟨0, [], by simp, by simp [linesOf], by simp⟩
  | x :: l, a, b, i + 1 => by
    by_cases hx : x = 10
    · obtain ⟨k, h, h1, h2, h3⟩ := run_col l (a + 1) 1 i
      refine ⟨k + 1, h, ?_, ?_, ?_⟩
      · rw [List.take_succ_cons, List.foldl_cons, show step (a, b) x = (a + 1, 1) by unfold step; rw [if_pos hx], h1]; omega
      · unfold linesOf; rw [if_pos hx]; simpa using h2
      · rw [List.take_succ_cons, List.foldl_cons, show step (a, b) x = (a + 1, 1) by unfold step; rw [if_pos hx]]
        have : (if k = 0 then 1 else 1) = 1 := by split <;> rfl
        rw [this] at h3
        simpa using h3
    · obtain ⟨k, h, h1, h2, h3⟩ := run_col l a (b + 1) i
      have hs : step (a, b) x = (a, b + 1) := by unfold step; rw [if_neg hx]
      have hne := linesOf_ne l
      match hl : linesOf l with
      | [] => exact absurd hl hne
      | g :: t =>
        have hL : linesOf (x :: l) = (x :: g) :: t := by unfold linesOf; rw [if_neg hx, hl]
        rw [hl] at h2
        cases k with
        | zero =>
          simp at h2 h3
          subst h2
          refine ⟨0, x :: g, ?_, by rw [hL]; rfl, ?_⟩
          · rw [List.take_succ_cons, List.foldl_cons, hs, h1]
          · rw [List.take_succ_cons, List.foldl_cons, hs]; simp; omega
        | succ k =>
          refine ⟨k + 1, h, ?_, by rw [hL]; simpa using h2, ?_⟩
          · rw [List.take_succ_cons, List.foldl_cons, hs, h1]
          · rw [List.take_succ_cons, List.foldl_cons, hs]; simpa using h3
theorem pos_line (l : List Nat) (i : Nat) : ∃ (k : Nat) (h : List Nat), (posAt l i).1 = k + 1 ∧ (linesOf l)[k]? = some h ∧ (posAt l i).2 ≤ h.length + 1 := by
  obtain ⟨k, h, h1, h2, h3⟩ := run_col l 1 1 i
  refine ⟨k, h, by unfold posAt; omega, h2, ?_⟩
  have : (if k = 0 then 1 else 1) = 1 := by split <;> rfl
  rw [this] at h3
  unfold posAt
  omega
theorem pcmp_lt {a b c d : Int} (h : a < c ∨ (a = c ∧ b < d)) : pcmp a b c d = -1 := by
  unfold pcmp Lib.compareInt
  rcases h with h | ⟨rfl, h⟩
  · simp [h]
  · simp [h]
theorem dig_wdec (n : Int) : ∀ x ∈ wdec n, x ≠ 58 ∧ x ≠ 32 := fun x hx => by
  unfold wdec at hx
  have hd : ∀ y ∈ dec n.natAbs, y ≠ 58 ∧ y ≠ 32 := fun y hy => by
    have := dig_dec n.natAbs y hy
    obtain ⟨h1, h2⟩ := this
    exact ⟨by omega, by omega⟩
  split at hx
  · rcases List.mem_cons.1 hx with rfl | h
    · exact ⟨by decide, by decide⟩
    · exact hd x h
  · exact hd x hx
abbrev In64 (v : Int) : Prop := -9223372036854775808 ≤ v ∧ v ≤ 9223372036854775807
theorem rd_tx {L C : Int} (hL : In64 L) (hC : In64 C) : rdP (tx L C) = some (L, C) := by
  show rdP (wdec L ++ 58 :: wdec C) = some (L, C)
  rw [rdP_some (cutB_mid fun x hx => (dig_wdec L x hx).1), (pw_wdec hL.1 hL.2).1, (pw_wdec hL.1 hL.2).2, (pw_wdec hC.1 hC.2).1, (pw_wdec hC.1 hC.2).2, if_pos ⟨rfl, rfl⟩]
theorem rd_ftx {L C E : Int} (hL : In64 L) (hC : In64 C) (hE : In64 E) : rdF (ftx L C E) = some (L, C, E) := by
  have h : ∀ x ∈ tx L C, x ≠ 32 := fun x hx => by
    unfold tx at hx
    rcases List.mem_append.1 hx with h | h
    · exact (dig_wdec L x h).2
    · rcases List.mem_cons.1 h with rfl | h
      · decide
      · exact (dig_wdec C x h).2
  show rdF (tx L C ++ 32 :: wdec E) = some (L, C, E)
  rw [rdF_some (cutB_mid h), rd_tx hL hC, (pw_wdec hE.1 hE.2).1, (pw_wdec hE.1 hE.2).2]
  rfl
theorem tx_byte (L C : Int) : ∀ x ∈ tx L C, x < 256 := fun x hx => by
  unfold tx at hx
  rcases List.mem_append.1 hx with h | h
  · exact wdec_byte L x h
  · rcases List.mem_cons.1 h with rfl | h
    · decide
    · exact wdec_byte C x h
theorem ftx_byte (L C E : Int) : ∀ x ∈ ftx L C E, x < 256 := fun x hx => by
  unfold ftx at hx
  rcases List.mem_append.1 hx with h | h
  · exact tx_byte L C x h
  · rcases List.mem_cons.1 h with rfl | h
    · decide
    · exact wdec_byte E x h
theorem ftx_len {L C E : Int} (hL : In64 L) (hC : In64 C) (hE : In64 E) : (str (ftx L C E)).size ≤ 1000 := by
  have h1 := tx_len hL.1 hL.2 hC.1 hC.2
  have h2 := wdec_len hE.1 hE.2
  rw [str_size]
  unfold ftx
  simp only [List.length_append, List.length_cons]
  omega
set_option maxRecDepth 100000 in
theorem read_back {L C : Int} (hL : In64 L) (hC : In64 C) (w : World) :
    Calls Try.prog 21 #[.string (str (tx L C))] w fun e w' => e = .returned (.tuple #[.agg #[.int .i64 L, .int .i64 C], .bool true]) ∧ Below w.heap.size w w' :=
  (read_c (str (tx L C)) w (by have := tx_sz hL.1 hL.2 hC.1 hC.2; omega)).mono fun e w' h => RdOk.get_yes (by rw [bys_str (tx_byte L C)]; exact rd_tx hL hC) h
set_option maxRecDepth 100000 in
theorem readFault_back {L C E : Int} (hL : In64 L) (hC : In64 C) (hE : In64 E) (w : World) :
    Calls Try.prog 23 #[.string (str (ftx L C E))] w fun e w' => e = .returned (.tuple #[.agg #[.int .i64 L, .int .i64 C, .int .i64 E], .bool true]) ∧ Below w.heap.size w w' :=
  (readFault_c (str (ftx L C E)) w (ftx_len hL hC hE)).mono fun e w' h => by
    unfold RfOk at h
    rw [bys_str (ftx_byte L C E), rd_ftx hL hC hE] at h
    exact h
end Go.Proofs.Ytjocobfabdkadaa
