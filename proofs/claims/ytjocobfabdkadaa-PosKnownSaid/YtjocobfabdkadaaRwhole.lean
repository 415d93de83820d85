/- The document's Whole, by contract. -/
import Derived.Test.YtjocobfabdkadaaPwhole
namespace Go.Proofs.Ytjocobfabdkadaa
open Go.RowKit
attribute [local go_sem] alloc_drewN setCell_drewN
theorem rw_word {w : World} {x : Nat} {v : Int} (ty : TypeId) (h : v = x) : Rw .u64 (w.alloc (.cells #[.int .u64 v] ty)) (some ⟨w.heap.size, 0, none⟩) 1 [x] := by
  subst h
  refine ⟨rfl, fun _ => ⟨_, _, rfl, by simp, fun i y hy => ?_⟩⟩
  have hi : i = 0 := by
    have := (List.getElem?_eq_some_iff.1 hy).1
    simp at this; exact this
  subst hi
  simp at hy
  subst hy
  exact (Bk.new w ty #[.int .u64 (x : Int)]).cell 0
theorem lt_one {x : Nat} (h : x < 18446744073709551616) : AllLt 18446744073709551616 [x] := fun y hy => by
  rw [List.mem_singleton.1 hy]; exact h
theorem word_bytes {N : Nat} (h : N < 18446744073709551616) : FitB N 300 := (show FitB N 8 from ⟨h⟩).mono (by decide)
theorem refOf1_w {w : World} {x : Nat} {v : Int} (ty : TypeId) (h : v = x) (hx : x < 18446744073709551616) :
    Calls Try.prog 47 #[.slice (some ⟨w.heap.size, 0, none⟩) 1 1] (w.alloc (.cells #[.int .u64 v] ty)) fun e w' => ∃ y, e = .returned y ∧ IsByt w' y x ∧ Below w.heap.size w w' :=
  (refOf_c _ 1 1 [x] _ (rw_word ty h) (lt_one hx) (by decide)).mono fun e w' ⟨y, h1, h2, h3⟩ => ⟨y, h1, by simpa [val] using h2, ((Below.refl _ _).alloc (Nat.le_refl _) _).trans (h3.mono (by simp))⟩
set_option maxRecDepth 100000 in
set_option maxHeartbeats 1000000 in
theorem refWhole_c (n : Int) (w : World) (h1 : -9223372036854775808 ≤ n) (h2 : n ≤ 9223372036854775807) :
    Calls Try.prog 33 #[.int .i64 n] w fun e w' => e = .returned (.string (str (wdec n))) ∧ Below w.heap.size w w' := by
  have hm : n.natAbs < 18446744073709551616 := by omega
  by_cases h0 : n < 0
  · have hd : decide (n < 0) = true := decide_eq_true h0
    have e1 : ∀ v : Int, v = IntKind.u64.wrap (wrap64 (-n)) → v = ((n.natAbs : Nat) : Int) := by
      intro v hv
      rw [hv]
      unfold wrap64
      show ((-n + 9223372036854775808) % 18446744073709551616 - 9223372036854775808) % 18446744073709551616 = _
      omega
    have hsz : (str (dec n.natAbs)).size ≤ 20 := by
      rw [str_size]
      exact dec_short (Nat.lt_trans hm (by decide)) (by decide)
    have H0 := Lib.hid h0
    have HE := Lib.hid e1
    clear h0 e1
    generalize hN : n.natAbs = N at *
    have HN := Lib.hid hN
    clear hN
    go_enter Try.func33, Try.ntmps33
    go_wp2_with (first
      | (go_at_call 47; refine (refOf1_w _ (HE.out _ rfl) hm).mono ?_; rintro e w1 ⟨v, rfl, hv, hb⟩; have HB := Lib.hid (And.intro hv hb); clear hv hb)
      | (go_at_call 46; refine (refText_c N _ _ HB.out.1 (word_bytes hm)).mono ?_; rintro e w2 ⟨rfl, hb⟩; have HC := Lib.hid hb; clear hb))
    go_ret
    refine ⟨?_, HB.out.2.trans (HC.out.mono HB.out.2.size)⟩
    unfold wdec
    rw [if_pos H0.out, HN.out, ← str_cons 45 _ (by decide)]
    rfl
  · have hd : decide (n < 0) = false := decide_eq_false h0
    obtain ⟨N, rfl⟩ : ∃ N : Nat, n = N := ⟨n.natAbs, by omega⟩
    have hN : N < 18446744073709551616 := by omega
    have H0 := Lib.hid h0
    clear h0
    go_enter Try.func33, Try.ntmps33
    go_wp2_with (first
      | (go_at_call 47; refine (refOf1_w _ rfl hN).mono ?_; rintro e w1 ⟨v, rfl, hv, hb⟩; have HB := Lib.hid (And.intro hv hb); clear hv hb)
      | (go_at_call 46; refine (refText_c N _ _ HB.out.1 (word_bytes hN)).mono ?_; rintro e w2 ⟨rfl, hb⟩; have HC := Lib.hid hb; clear hb))
    go_ret
    refine ⟨?_, HB.out.2.trans (HC.out.mono HB.out.2.size)⟩
    unfold wdec
    rw [if_neg (by omega)]
    rfl
end Go.Proofs.Ytjocobfabdkadaa
