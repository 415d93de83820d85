/- Whole of package deci, by contract. -/
import Derived.Test.YtjocobfabdkadaaParse
import Derived.Test.YtjocobfabdkadaaRtext
namespace Go.Proofs.Ytjocobfabdkadaa
open Go.RowKit
attribute [local go_sem] alloc_drewN setCell_drewN
/-- A whole number's digits, with its sign. -/
def wdec (n : Int) : List Nat := if n < 0 then 45 :: dec n.natAbs else dec n.natAbs
theorem str_cons (x : Nat) (l : List Nat) (h : x < 256) : (⟨#[UInt8.ofNat x]⟩ : ByteArray) ++ str l = str (x :: l) := by
  apply ByteArray.ext
  simp [str, strOfNums, ByteArray.data_append]
set_option maxRecDepth 100000 in
theorem whole_c (n : Int) (w : World) (h1 : -9223372036854775808 ≤ n) (h2 : n ≤ 9223372036854775807) :
    Calls Try.prog 32 #[.int .i64 n] w fun e w' => e = .returned (.string (str (wdec n))) ∧ Below w.heap.size w w' := by
  go_enter Try.func32, Try.ntmps32
  have hm : n.natAbs < 18446744073709551616 := by omega
  by_cases h0 : n < 0
  · have hd : decide (n < 0) = true := decide_eq_true h0
    have e1 : IntKind.u64.wrap (-IntKind.u64.wrap n) = ((n.natAbs : Nat) : Int) := by
      show (-(n % 18446744073709551616)) % 18446744073709551616 = _
      omega
    have H0 := Lib.hid h0
    clear h0
    generalize hN : n.natAbs = N at *
    have hsz : (str (dec N)).size ≤ 20 := by
      rw [str_size]
      exact dec_short (Nat.lt_trans hm (by decide)) (by decide)
    have HN := Lib.hid hN
    clear hN
    go_wp2_with (first
      | (go_at_call 45; (try rw [e1]); refine (of_w N _ hm).mono ?_; rintro e w1 ⟨v, rfl, hv, hb⟩; have HB := Lib.hid (And.intro hv hb); clear hv hb)
      | (go_at_call 44; refine (text_c _ N _ HB.out.1 (Fits.mono (s := 1) ⟨by simpa using hm⟩ (by decide))).mono ?_; rintro e w2 ⟨rfl, hb⟩; have HC := Lib.hid hb; clear hb))
    go_ret
    refine ⟨?_, HB.out.2.trans (HC.out.mono HB.out.2.size)⟩
    unfold wdec
    rw [if_pos H0.out, HN.out, ← str_cons 45 _ (by decide)]
    rfl
  · have hd : decide (n < 0) = false := decide_eq_false h0
    obtain ⟨N, rfl⟩ : ∃ N : Nat, n = N := ⟨n.natAbs, by omega⟩
    have hN : N < 18446744073709551616 := by omega
    have H0 := Lib.hid h0
    clear h0
    go_wp2_with (first
      | (go_at_call 45; refine (of_w N _ hN).mono ?_; rintro e w1 ⟨v, rfl, hv, hb⟩; have HB := Lib.hid (And.intro hv hb); clear hv hb)
      | (go_at_call 44; refine (text_c _ N _ HB.out.1 (Fits.mono (s := 1) ⟨by simpa using hN⟩ (by decide))).mono ?_; rintro e w2 ⟨rfl, hb⟩; have HC := Lib.hid hb; clear hb))
    go_ret
    refine ⟨?_, HB.out.2.trans (HC.out.mono HB.out.2.size)⟩
    unfold wdec
    rw [if_neg (by omega)]
    rfl
end Go.Proofs.Ytjocobfabdkadaa
