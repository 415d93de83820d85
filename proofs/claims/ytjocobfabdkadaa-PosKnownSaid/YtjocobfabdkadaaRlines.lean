/- The document's Lines, and SameTexts, by contract: texts of at most 1000 bytes. -/
import Derived.Test.YtjocobfabdkadaaPlines
import Derived.Deep.QuietTactic
import Derived.BigQuiet
namespace Go.Proofs.Ytjocobfabdkadaa
open Go.RowKit
attribute [local go_sem] alloc_drewN setCell_drewN
theorem OwnS.snoc' {g : Nat} {w : World} {v' : Value} {ss : List ByteArray} {x : ByteArray} (h : w.ownsRow g 9 1 v' (ss.length + 1) (ss.map Value.string ++ [Value.string x])) : OwnS g w v' (ss ++ [x]) := OwnS.snoc h
theorem drop_cut {l : List Nat} {f i : Nat} (hfi : f ≤ i) (h : l[i]? = some 10) : l.drop f = (l.drop f).take (i - f) ++ 10 :: l.drop (i + 1) := by
  have h1 : (l.drop f)[i - f]? = some 10 := by rw [List.getElem?_drop, show f + (i - f) = i by omega]; exact h
  have := cut_ten h1
  rw [List.drop_drop, show f + (i - f + 1) = i + 1 by omega] at this
  exact this
theorem drop_take_ten {l : List Nat} {f i : Nat} (h : ∀ k, f ≤ k → k < i → l[k]? ≠ some 10) : ∀ x ∈ (l.drop f).take (i - f), x ≠ 10 :=
  take_ten fun k hk => by rw [List.getElem?_drop]; exact h (f + k) (by omega) (by omega)
set_option maxRecDepth 100000 in
set_option maxHeartbeats 8000000 in
theorem rLines_c (s : ByteArray) (w : World) (hs : s.size ≤ 1000) :
    Calls Try.prog 15 #[.string s] w fun e w' => ∃ v ss, e = .returned v ∧ OwnS w.heap.size w' v ss ∧ ss.map bys = linesOf (bys s) ∧ Below w.heap.size w w' := by
  obtain ⟨i0, hi0, hz0, hz1, hz2⟩ := info_parts infoStr
  have hlen := Lib.hid (bys_len s)
  go_enter Try.func15, Try.ntmps15
  go_wp2_with fail
  go_loopw [3, 4, 5] (fun v a b wr => ∃ (done : List ByteArray) (f i : Nat), a = .int .i64 f ∧ b = .int .i64 i ∧ OwnS w.heap.size wr v done ∧ f ≤ i ∧ i ≤ s.size ∧ done.length ≤ f ∧ (∀ k, f ≤ k → k < i → (bys s)[k]? ≠ some 10) ∧ done.map bys ++ linesOf ((bys s).drop f) = linesOf (bys s) ∧ Below w.heap.size w wr) (fun _ _ b _ => s.size - (intOf b).toNat)
  case atStart => exact ⟨[], 0, 0, rfl, rfl, OwnS.nil _ _, Nat.le_refl _, Nat.zero_le _, Nat.le_refl _, fun k _ h => absurd h (by omega), by simp, Below.refl _ _⟩
  case round =>
    obtain ⟨done, f, i, rfl, rfl, ho, hfi, his, hdf, hno, hl, hB⟩ := hrel
    have hws := hB.size
    have HO := Lib.hid (And.intro ho (And.intro hl (And.intro hB hno)))
    clear ho hl hB hno
    have hb1 : done.length + 1 ≤ maxLen := by unfold maxLen; omega
    have hb2 : (done.length + 1) * 16 ≤ 140737488355328 := by omega
    by_cases hi : i < s.size
    · have g1 : decide ((i : Int) < (s.size : Int)) = true := by simp; omega
      have hx := bys_at hi
      by_cases h10 : (s[i]'hi).toNat = 10
      · have g2 : (((s[i]'hi).toNat : Int) == 10) = true := by simp [h10]
        have HX := Lib.hid (show (bys s)[i]? = some 10 by rw [hx, h10])
        clear hx h10
        go_wp2_with (at_builtin; refine wpList_append_own _ rfl _ _ 34 rfl w.heap.size 9 i0 (.string ⟨#[]⟩) 1 16 Try.underlying34 hi0 hz0 hz1 hz2 rfl (by decide) _ done.length (done.map Value.string) rfl (World.ownsRow.alloc HO.out.1 _) ⟨wr.heap.size, 0, none⟩ 1 1 [.string (s.extract f i)] rfl rfl (new_str wr _) (one_str _) hb1 hb2 (by simp; omega) ?_; intro v' wq ho' hg' _; have HB := Lib.hid (And.intro (OwnS.snoc ho') (((HO.out.2.2.1.alloc (by omega) _).grown hg' (by simp; omega) (fun k hk => (HO.out.1.lt k hk).1)) : Below w.heap.size w wq)); clear ho' hg')
        go_roundw
        case rel =>
          refine ⟨done ++ [s.extract f i], i + 1, i + 1, by go_num, by go_num, HB.out.1, Nat.le_refl _, by omega, by simp; omega, fun k h1 h2 => absurd h2 (by omega), ?_, HB.out.2⟩
          have h3 := linesOf_cut ((bys s).drop (i + 1)) (drop_take_ten HO.out.2.2.2)
          rw [← drop_cut hfi HX.out] at h3
          rw [← HO.out.2.1, h3, List.map_append, List.append_assoc, List.map_singleton, bys_extract]
          rfl
        case measure => simp [intOf]; omega
      · have g2 : (((s[i]'hi).toNat : Int) == 10) = false := beq_false_of_ne (by omega)
        have HX := Lib.hid (show (bys s)[i]? ≠ some 10 by rw [hx]; intro e; exact h10 (Option.some.inj e))
        clear hx h10
        go_wp2_with fail
        go_roundw
        case rel =>
          refine ⟨done, f, i + 1, rfl, by go_num, HO.out.1, by omega, by omega, hdf, fun k h1 h2 => ?_, HO.out.2.1, HO.out.2.2.1⟩
          by_cases hk : k = i
          · subst hk; exact HX.out
          · exact HO.out.2.2.2 k h1 (by omega)
        case measure => simp [intOf]; omega
    · obtain rfl : i = s.size := by omega
      have g1 : decide ((s.size : Int) < (s.size : Int)) = false := by simp
      go_wp2_with (at_builtin; refine wpList_append_own _ rfl _ _ 34 rfl w.heap.size 9 i0 (.string ⟨#[]⟩) 1 16 Try.underlying34 hi0 hz0 hz1 hz2 rfl (by decide) _ done.length (done.map Value.string) rfl (World.ownsRow.alloc HO.out.1 _) ⟨wr.heap.size, 0, none⟩ 1 1 [.string (s.extract f s.size)] rfl rfl (new_str wr _) (one_str _) hb1 hb2 (by simp; omega) ?_; intro v' wq ho' hg' _; have HB := Lib.hid (And.intro (OwnS.snoc ho') (((HO.out.2.2.1.alloc (by omega) _).grown hg' (by simp; omega) (fun k hk => (HO.out.1.lt k hk).1)) : Below w.heap.size w wq)); clear ho' hg')
      go_ret
      refine ⟨v', done ++ [s.extract f s.size], rfl, HB.out.1, ?_, HB.out.2⟩
      have e2 : bys (s.extract f s.size) = (bys s).drop f := by rw [bys_extract, List.take_of_length_le (by rw [List.length_drop, hlen.out]; omega)]
      have h3 : linesOf ((bys s).drop f) = [(bys s).drop f] := linesOf_one (mem_ten fun k hk => by
        rw [List.getElem?_drop] at hk
        have := (List.getElem?_eq_some_iff.1 hk).1
        rw [hlen.out] at this
        exact HO.out.2.2.2 (f + k) (by omega) (by omega) hk)
      rw [← HO.out.2.1, h3, List.map_append, List.map_singleton, e2]
theorem RwS.at_ {w : World} {A : Option Addr} {n : Nat} {ss : List ByteArray} {i : Nat} (h : RwS w A n ss) (hi : i < n) : ∃ b off x, A = some ⟨b, off, none⟩ ∧ b < w.heap.size ∧ ss[i]? = some x ∧ w.cell? ⟨b, off + i, none⟩ = some (.string x) := by
  obtain ⟨b, off, e, hl, hc⟩ := h.2 (by omega)
  have hx : ss[i]? = some (ss[i]'(by rw [h.1]; exact hi)) := List.getElem?_eq_getElem _
  exact ⟨b, off, _, e, hl, hx, hc i _ hx⟩
set_option maxRecDepth 100000 in
set_option maxHeartbeats 8000000 in
theorem sameTexts_c (A B : Option Addr) (n c d : Nat) (ss : List ByteArray) (w : World) (ha : RwS w A n ss) (hb : RwS w B n ss) (hn : n ≤ 100000) :
    Calls Try.prog 14 #[.slice A n c, .slice B n d] w fun e w' => e = .returned (.bool true) ∧ ∃ q, w' = w.drewN q := by
  have HA := Lib.hid (And.intro ha hb)
  clear ha hb
  go_enter Try.func14, Try.ntmps14
  go_wp2_with fail
  go_loopw [5] (fun v wr => ∃ i q : Nat, v = .int .i64 i ∧ i ≤ n ∧ wr = w.drewN q) (fun v _ => n - (intOf v).toNat)
  case atStart => exact ⟨0, 0, rfl, Nat.zero_le _, rfl⟩
  case round =>
    obtain ⟨i, q, rfl, hi, rfl⟩ := hrel
    by_cases hin : i < n
    · have g1 : decide ((i : Int) < (n : Int)) = true := by simp; omega
      obtain ⟨ba, oa, x, rfl, _, hx, hca⟩ := HA.out.1.at_ hin
      obtain ⟨bb, ob, y, rfl, _, hy, hcb⟩ := HA.out.2.at_ hin
      rw [hx] at hy
      obtain rfl := Option.some.inj hy
      clear hx hy
      go_wp2_with fail
      go_quiet (fail)
      go_wp2_with fail
      go_roundw
      case rel => exact ⟨i + 1, _, by go_num, by omega, rfl⟩
      case measure => simp [intOf]; omega
    · have g1 : decide ((i : Int) < (n : Int)) = false := by simp; omega
      go_wp2_with fail
      go_ret
      exact ⟨rfl, _, rfl⟩
end Go.Proofs.Ytjocobfabdkadaa
