/- DeciBack: the plain laws: what is told is read as it was; texts of digits are compared as their numbers are. -/
import Derived.Test.YtjocobfabdkadaaRparse
namespace Go.Proofs.Ytjocobfabdkadaa
open Go.RowKit
theorem str_dec_eq (X Y : Nat) : ((str (dec X)).toList == (str (dec Y)).toList) = decide (X = Y) := by
  rw [str_eq (dec_byte X), bys_str (dec_byte Y)]
  exact decide_eq_decide.2 ⟨dec_inj, fun h => by rw [h]⟩
theorem str_list (l : List Nat) : (str l).toList = l.map fun x => UInt8.ofNat x := by
  rw [ByteArray.toList_eq]
  simp [str, strOfNums]
theorem less_lex : ∀ {l m : List Nat}, (∀ x ∈ l, x < 256) → (∀ x ∈ m, x < 256) → Op.bytesLess (l.map fun x => UInt8.ofNat x) (m.map fun x => UInt8.ofNat x) = lexLt l m
  | [], [], _, _ => rfl
  | _ :: _, [], _, _ => rfl
  | [], _ :: _, _, _ => rfl
  | a :: x, b :: y, hl, hm => by
    have ha := hl a (List.mem_cons_self ..)
    have hb := hm b (List.mem_cons_self ..)
    have ih := less_lex (l := x) (m := y) (fun z hz => hl z (List.mem_cons_of_mem _ hz)) (fun z hz => hm z (List.mem_cons_of_mem _ hz))
    simp only [List.map_cons, Op.bytesLess, lexLt, ih]
    have e1 : (decide (UInt8.ofNat a < UInt8.ofNat b)) = decide (a < b) := by
      apply decide_eq_decide.2
      rw [UInt8.lt_iff_toNat_lt]
      simp
      omega
    have e2 : (UInt8.ofNat a == UInt8.ofNat b) = decide (a = b) := by
      by_cases h : a = b
      · subst h; simp
      · rw [decide_eq_false h, beq_eq_false_iff_ne]
        intro h2
        have := congrArg UInt8.toNat h2
        simp at this
        omega
    rw [e1, e2]
theorem str_less (X Y : Nat) : Op.bytesLess (str (dec X)).toList (str (dec Y)).toList = lexLt (dec X) (dec Y) := by
  rw [str_list, str_list, less_lex (dec_byte X) (dec_byte Y)]
/-- The test of the statement. -/
theorem less_iff (X Y : Nat) : (decide ((str (dec X)).size < (str (dec Y)).size) || (decide ((str (dec X)).size = (str (dec Y)).size) && Op.bytesLess (str (dec X)).toList (str (dec Y)).toList)) = decide (X < Y) := by
  rw [str_less, str_size, str_size, Bool.eq_iff_iff]
  simp only [Bool.or_eq_true, Bool.and_eq_true, decide_eq_true_eq]
  exact dec_less X Y
theorem bys_dec (X : Nat) : bys (str (dec X)) = dec X := bys_str (dec_byte X)
theorem bys_wdec (n : Int) : bys (str (wdec n)) = wdec n := bys_str (wdec_byte n)
theorem neg_dec (N : Nat) : neg (dec N) = false := by
  unfold neg
  apply decide_eq_false
  intro h
  have := dig_dec N 45 (List.mem_of_getElem? h)
  exact absurd this (by decide)
theorem pw_wdec {n : Int} (h1 : -9223372036854775808 ≤ n) (h2 : n ≤ 9223372036854775807) : pwv (wdec n) = n ∧ pwe (wdec n) = 0 := by
  by_cases h0 : n < 0
  · obtain ⟨N, rfl, hN⟩ : ∃ N : Nat, n = -(N : Int) ∧ 0 < N := ⟨n.natAbs, by omega, by omega⟩
    rw [wdec_neg N hN]
    have hn : neg (45 :: dec N) = true := by simp [neg]
    have hm : mag (45 :: dec N) = dec N := by unfold mag; rw [if_pos hn]; rfl
    have hok : pwOk (45 :: dec N) := by
      unfold pwOk
      rw [hm, hn, decv_dec]
      exact ⟨isDec_dec N, (show N ≤ 9223372036854775808 by omega), fun h => by omega⟩
    unfold pwv pwe
    rw [if_pos hok, if_pos hok, if_pos hn, hm, decv_dec]
    exact ⟨rfl, rfl⟩
  · obtain ⟨N, rfl⟩ : ∃ N : Nat, n = (N : Int) := ⟨n.toNat, by omega⟩
    rw [wdec_pos]
    have hn := neg_dec N
    have hm : mag (dec N) = dec N := by unfold mag; rw [hn]; rfl
    have hok : pwOk (dec N) := by
      unfold pwOk
      rw [hm, hn, decv_dec]
      exact ⟨isDec_dec N, (show N ≤ 9223372036854775807 by omega), fun h => (by cases h.1)⟩
    unfold pwv pwe
    rw [if_pos hok, if_pos hok, hn, hm, decv_dec]
    exact ⟨rfl, rfl⟩
theorem pw_range (l : List Nat) : -9223372036854775808 ≤ pwv l ∧ pwv l ≤ 9223372036854775807 := by
  unfold pwv
  by_cases h : pwOk l
  · rw [if_pos h]
    have h2 := h.2.1
    cases hn : neg l with
    | true =>
      rw [hn] at h2
      have : decv (mag l) ≤ 9223372036854775808 := h2
      simp
      omega
    | false =>
      rw [hn] at h2
      have : decv (mag l) ≤ 9223372036854775807 := h2
      simp
      omega
  · rw [if_neg h]; decide
theorem most_lt (b : Bool) : mostv b < 18446744073709551616 := by cases b <;> decide
theorem wdec_back {l : List Nat} (h : pwe l = 0) : wdec (pwv l) = l := by
  have hok : pwOk l := by
    by_cases h1 : pwOk l
    · exact h1
    · unfold pwe at h; rw [if_neg h1] at h; exact absurd h (by decide)
  have hlt : decv (mag l) < 18446744073709551616 := Nat.lt_of_le_of_lt hok.2.1 (most_lt _)
  have h1 := (pw_iff rfl hok.1 rfl hlt).2 hok
  have h2 := pw_val rfl rfl hok
  rw [h2] at h1
  unfold pwv
  rw [if_pos hok]
  exact h1
theorem wback_str {s : ByteArray} (h : pwe (bys s) = 0) : str (wdec (pwv (bys s))) = s := by rw [wdec_back h, str_bys]
theorem back_str {s : ByteArray} (h : isDec (bys s)) : str (dec (decv (bys s))) = s := by rw [dec_decv h, str_bys]
theorem pwe_cases (l : List Nat) : pwe l = 0 ∨ pwe l = 20 := by
  unfold pwe
  by_cases h : pwOk l
  · rw [if_pos h]; exact .inl rfl
  · rw [if_neg h]; exact .inr rfl
/-- A number's text, read under a cap of as many limbs, and of one less. -/
theorem fit_len {l : List Nat} {X : Nat} (h : Lim 18446744073709551616 l X) : fitB (l.length : Int) X = true := by
  rw [← fitB_len h]
  exact decide_eq_true (by omega)
theorem fit_less {l : List Nat} {X : Nat} (h : Lim 18446744073709551616 l X) : fitB ((l.length : Int) - 1) X = decide (l.length = 0) := by
  rw [← fitB_len h]
  exact decide_eq_decide.2 (by omega)
theorem divmod_sum {X b : Nat} : X / b * b + X % b = X := by
  rw [Nat.mul_comm]
  exact Nat.div_add_mod X b
end Go.Proofs.Ytjocobfabdkadaa
