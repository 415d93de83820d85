/- Text and Digits of package deci, by contract. Numbers of at most 100 limbs. -/
import Derived.Test.YtjocobfabdkadaaDec
import Derived.Laws.BytesArg
namespace Go.Proofs.Ytjocobfabdkadaa
open Go.RowKit
attribute [local go_sem] alloc_drewN setCell_drewN
/-- The string of these bytes. -/
def str (l : List Nat) : ByteArray := strOfNums (l.map fun (x : Nat) => (x : Int))
theorem run_str {w : World} {A : Option Addr} {n c : Nat} {l : List Nat} (h : Rw .u8 w A n l) : (convert 80 9 (.slice A n c)).run Try.prog w = .ok (.string (str l)) w := by
  by_cases h0 : n = 0
  · subst h0
    have : l = [] := List.eq_nil_of_length_eq_zero h.1
    subst this
    cases A with
    | none => exact run_convert_bytes_nil w _ 5 Try.underlying80 Try.underlying5 0 c _ Try.underlying9
    | some a =>
      rw [run_convert_bytes_string w _ _ 5 _ 0 c Try.underlying80 Try.underlying5 Try.underlying9, run_bytesToString w _ 0 c [] (by simpa using run_loadCells_list (P := Try.prog) w a [] (fun j v hj => by simp at hj))]
      rfl
  · obtain ⟨b, off, rfl, _, hc⟩ := h.2 (by omega)
    refine run_convert_bytes_arg w _ 5 Try.underlying80 Try.underlying5 b off n c (l.map fun (x : Nat) => (x : Int)) (by simpa using h.1) (fun i hi => ?_) _ Try.underlying9
    have hx : l[i]? = some (l[i]'(by rw [h.1]; exact hi)) := List.getElem?_eq_getElem _
    rw [hc i _ hx]
    simp [List.getD, hx]
theorem fits_chunk {N : Nat} (h : Fits N 100) : N < 10000000000000000000 ^ 200 := by
  have h1 : (18446744073709551616 : Nat) ^ 100 ≤ (10000000000000000000 ^ 2) ^ 100 := Nat.pow_le_pow_left (by decide) 100
  rw [← Nat.pow_mul] at h1
  exact Nat.lt_of_lt_of_le h.lt h1
theorem chunk_count {N : Nat} (h : N < 10000000000000000000 ^ 200) (i : Nat) (hi : N / 10000000000000000000 ^ i ≠ 0) : i < 200 := by
  rcases Nat.lt_or_ge i 200 with h1 | h1
  · exact h1
  · exact absurd (Nat.div_eq_of_lt (Nat.lt_of_lt_of_le h (Nat.pow_le_pow_right (by decide) h1))) hi
set_option maxHeartbeats 4000000 in
theorem text_c (u : Value) (N : Nat) (w : World) (hu : IsNat 0 w u N) (hN : Fits N 100) :
    Calls Try.prog 44 #[u] w fun e w' => e = .returned (.string (str (dec N))) ∧ Below w.heap.size w w' := by
  have hu0 := hu
  obtain ⟨A, n, c, l, rfl, hr, hl, _⟩ := hu
  have hW : Below w.heap.size w (w.alloc (.cells #[.slice A n c] 76)) := (Below.refl _ _).alloc (Nat.le_refl _) _
  have HW := Lib.hid (And.intro hW (And.intro (hu0.keep hW) (And.intro (Bk.new w 76 #[.slice A n c]) hl)))
  have hn : l.length = n := hr.1
  clear hW hu0 hr hl
  go_enter Try.func44, Try.ntmps44
  by_cases h0 : n = 0
  · have hN0 : N = 0 := HW.out.2.2.2.zero.1 (by omega)
    subst hN0 h0
    go_wp2_with (go_at_call 55; refine (len_w HW.out.2.1 HW.out.2.2.2).mono ?_; rintro e w1 ⟨rfl, hb⟩; rw [hn]; have HB := Lib.hid hb; clear hb)
    go_ret
    exact ⟨rfl, HW.out.1.trans (HB.out.mono HW.out.1.size)⟩
  · have h1 : ((n : Int) == 0) = false := beq_false_of_ne (by omega)
    have hN0 : N ≠ 0 := fun e => h0 (by rw [← hn]; exact HW.out.2.2.2.zero.2 e)
    have H0 := Lib.hid (And.intro h0 hN0)
    clear h0 hN0
    go_wp2_with (first
      | (go_at_call 55; refine (len_w HW.out.2.1 HW.out.2.2.2).mono ?_; rintro e w1 ⟨rfl, hb⟩; rw [hn]; have hk1 := HW.out.2.2.1.keep hb; have c1 := (hk1.alloc (.cells #[.slice none 0 0] 80)).cell 0; simp at c1; have HB := Lib.hid (And.intro (HW.out.1.trans (hb.mono HW.out.1.size)) (HW.out.2.1.keep hb)); clear hb hk1)
      | (go_at_call 57; refine (all_c 0 _ N _ (HB.out.2.alloc _) (hN.mono (by decide))).mono ?_; rintro e w2 ⟨v2, l2, rfl, ho, hlim, hb2⟩; obtain ⟨gb, c2, rfl, hgb, hG⟩ := ho.gr rfl (by have := hlim.zero; have := H0.out.2; omega); have hkp := (Bk.new w1 80 #[.slice none 0 0]).keep hb2; simp at hgb; have HO := Lib.hid (And.intro hG (And.intro hlim (And.intro hb2 (And.intro hkp hgb)))); clear ho hG hlim hb2 hkp)
      | (go_at_call 56; refine (putAll_c w1.heap.size gb l2.length c2 N l2 _ HO.out.2.2.2.1 HO.out.1 HO.out.2.1 (by omega) (HO.out.2.1.len hN) (chunk_count (fits_chunk hN))).mono ?_; rintro e w3 ⟨rfl, v3, h3, hb3⟩; have c3 := h3.bk.cell 0; simp at c3; have ho3 := h3.own; rw [chunks_dec H0.out.2 (fits_chunk hN)] at ho3; obtain ⟨A3, d3, rfl, hr3, _⟩ := ho3.slice; have hs3 := run_str (c := d3) hr3; have HZ := Lib.hid hb3; clear h3 hb3 ho3 hr3))
    go_ret
    have hs1 := HB.out.1.size
    have B2 : Below w.heap.size w w2 := HB.out.1.trans ((((Below.refl _ w1).alloc (Nat.le_refl _) (.cells #[.slice none 0 0] 80)).trans (HO.out.2.2.1.mono (by simp))).mono hs1)
    have hs2 := B2.size
    have hgb := HO.out.2.2.2.2
    refine ⟨rfl, HZ.out.os.trans B2.os, HZ.out.tape.trans B2.tape, HZ.out.output.trans B2.output, Nat.le_trans hs2 HZ.out.size, fun k hk => (HZ.out.block k (by omega) (by omega) (by intro e; injection e; omega)).trans (B2.block k hk)⟩
end Go.Proofs.Ytjocobfabdkadaa
