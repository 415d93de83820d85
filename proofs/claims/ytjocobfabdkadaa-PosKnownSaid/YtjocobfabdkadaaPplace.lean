/- Place of package pos, and the document's, by contract: texts of at most 1000 bytes; any position. -/
import Derived.Test.YtjocobfabdkadaaPof
namespace Go.Proofs.Ytjocobfabdkadaa
open Go.RowKit
attribute [local go_sem] alloc_drewN setCell_drewN
/-- The place of a position. -/
def plI (l : List Nat) (L C : Int) : Option Nat := (List.range (l.length + 1)).find? fun i => decide (((posAt l i).1 : Int) = L ∧ ((posAt l i).2 : Int) = C)
theorem plI_some {l : List Nat} {L C : Int} {i : Nat} (hi : i ≤ l.length) (h1 : ((posAt l i).1 : Int) = L) (h2 : ((posAt l i).2 : Int) = C) : plI l L C = some i := by
  unfold plI
  cases hf : (List.range (l.length + 1)).find? fun i => decide (((posAt l i).1 : Int) = L ∧ ((posAt l i).2 : Int) = C) with
  | none =>
    have := (List.find?_eq_none.1 hf) i (List.mem_range.2 (by omega))
    exact absurd (decide_eq_true ⟨h1, h2⟩) this
  | some j =>
    have hj := List.find?_some hf
    have hm := List.mem_range.1 (List.mem_of_find?_eq_some hf)
    simp only [decide_eq_true_eq] at hj
    have : posAt l j = posAt l i := Prod.ext (by omega) (by omega)
    rw [posAt_inj (by omega) hi this]
theorem plI_none {l : List Nat} {L C : Int} (h : ∀ i, i ≤ l.length → ¬ (((posAt l i).1 : Int) = L ∧ ((posAt l i).2 : Int) = C)) : plI l L C = none := by
  unfold plI
  rw [List.find?_eq_none]
  intro i hi
  have := h i (by have := List.mem_range.1 hi; omega)
  simpa using this
def PlOk (l : List Nat) (L C : Int) (w : World) (e : Ending) (w' : World) : Prop := e = .returned (.tuple #[.int .i64 ((plI l L C).getD 0 : Nat), .bool (plI l L C).isSome]) ∧ Below w.heap.size w w'
theorem PlOk.no {l : List Nat} {L C : Int} {w w' : World} (h : ∀ i, i ≤ l.length → ¬ (((posAt l i).1 : Int) = L ∧ ((posAt l i).2 : Int) = C)) (hb : Below w.heap.size w w') : PlOk l L C w (.returned (.tuple #[.int .i64 0, .bool false])) w' := by
  unfold PlOk
  rw [plI_none h]
  exact ⟨rfl, hb⟩
theorem PlOk.yes {l : List Nat} {L C v : Int} {i : Nat} {w w' : World} (hi : i ≤ l.length) (h1 : ((posAt l i).1 : Int) = L) (h2 : ((posAt l i).2 : Int) = C) (hv : v = i) (hb : Below w.heap.size w w') : PlOk l L C w (.returned (.tuple #[.int .i64 v, .bool true])) w' := by
  unfold PlOk
  rw [plI_some hi h1 h2, hv]
  exact ⟨rfl, hb⟩
theorem nl_w {s : ByteArray} {v : Int} {w : World} (h : Lib.indexByte s.data.toList 10 = v) : Calls Try.prog 31 #[.string s, .int .u8 10] w fun e w' => e = .returned (.int .i64 v) ∧ w = w' :=
  (Try.strings_IndexByte s 10 w).mono fun _ _ ⟨h1, h2⟩ => ⟨by rw [h1, ← h]; rfl, h2.symm⟩
theorem bys_from {s : ByteArray} {a k : Nat} : (bys (s.extract a s.size))[k]? = (bys s)[a + k]? := by
  rw [bys_extract, List.take_of_length_le (by rw [List.length_drop, bys_len]; omega), List.getElem?_drop]
/-- What the first newline from the start of a line says of that line's end. -/
theorem nl_from {s : ByteArray} {st : Nat} {v : Int} (h : nlAt (bys (s.extract st s.size)) v) : (v = -1 ∧ ∀ k, st ≤ k → (bys s)[k]? ≠ some 10) ∨ ∃ o : Nat, v = o ∧ (bys s)[st + o]? = some 10 ∧ ∀ k, st ≤ k → k < st + o → (bys s)[k]? ≠ some 10 := by
  rcases h with ⟨h1, h2⟩ | ⟨o, h1, h2, h3⟩
  · refine .inl ⟨h1, fun k hk => ?_⟩
    have := h2 (k - st)
    rwa [bys_from, show st + (k - st) = k by omega] at this
  · refine .inr ⟨o, h1, by rwa [bys_from] at h2, fun k hk hk2 => ?_⟩
    have := h3 (k - st) (by omega)
    rwa [bys_from, show st + (k - st) = k by omega] at this
section
variable {l : List Nat} {st k i : Nat}
/-- No newline from the start of line k on: no place has a later line, and on line k the columns run to the end. -/
theorem none_later (hst : st ≤ l.length) (hp : posAt l st = (k, 1)) (hn : ∀ j, st ≤ j → l[j]? ≠ some 10) (hi : i ≤ l.length) : (posAt l i).1 ≤ k := by
  by_cases h : i ≤ st
  · have := line_mono h hst
    rw [hp] at this; exact this
  · have := posAt_run (l := l) (st := st) (i - st) (by omega) (fun j h1 _ => hn j h1)
    rw [show st + (i - st) = i by omega, hp] at this
    rw [this]; exact Nat.le_refl _
theorem on_line (hst : st ≤ l.length) (hp : posAt l st = (k, 1)) (hi : i ≤ l.length) (hk : (posAt l i).1 = k) (hc : 1 ≤ (posAt l i).2) : st ≤ i := by
  rcases Nat.lt_or_ge i st with h | h
  · have := posAt_lt (l := l) (i := i) st h hst
    rw [hp] at this
    simp at this
    omega
  · exact h
theorem col_line {n : Nat} (hp : posAt l st = (k, 1)) (hn : ∀ j, st ≤ j → j < st + n → l[j]? ≠ some 10) (h : st + n ≤ l.length) : posAt l (st + n) = (k, 1 + n) := by
  rw [posAt_run n h hn, hp]
end
set_option maxRecDepth 100000 in
set_option maxHeartbeats 16000000 in
theorem place_c (s : ByteArray) (L C : Int) (w : World) (hs : s.size ≤ 1000) (hL : L ≤ 9223372036854775807) (hC : C ≤ 9223372036854775807) :
    Calls Try.prog 10 #[.string s, .agg #[.int .i64 L, .int .i64 C]] w (PlOk (bys s) L C w) := by
  have hlen := Lib.hid (bys_len s)
  have hbx := Lib.hid (And.intro (Bk.new w 23 #[.int .i64 L, .int .i64 C]) ((Below.refl _ w).alloc (Nat.le_refl _) (.cells #[.int .i64 L, .int .i64 C] 23)))
  go_enter Try.func10, Try.ntmps10
  by_cases hL1 : L < 1
  · have g1 : decide (L < 1) = true := decide_eq_true hL1
    have HL1 := Lib.hid hL1
    clear hL1
    go_wp2_with fail
    go_ret2
    exact PlOk.no (fun i hi h => by have := posAt_ge (bys s) i hi; have := HL1.out; omega) hbx.out.2
  · have g1 : decide (L < 1) = false := decide_eq_false hL1
    by_cases hC1 : C < 1
    · have g2 : decide (C < 1) = true := decide_eq_true hC1
      have HC1 := Lib.hid hC1
      clear hC1
      go_wp2_with fail
      go_ret2
      exact PlOk.no (fun i hi h => by have := posAt_ge (bys s) i hi; have := HC1.out; omega) hbx.out.2
    · have g2 : decide (C < 1) = false := decide_eq_false hC1
      have hL2 : 1 ≤ L := by omega
      have hC2 : 1 ≤ C := by omega
      clear hL1 hC1
      go_wp2_with fail
      go_loop [6, 7] (fun a v => ∃ (st k : Nat), a = .int .i64 st ∧ v = .int .i64 k ∧ st ≤ s.size ∧ (k : Int) ≤ L ∧ posAt (bys s) st = (k, 1)) (fun a _ => s.size - (intOf a).toNat)
      case atStart => exact ⟨0, 1, rfl, rfl, Nat.zero_le _, by omega, posAt_zero _⟩
      case round =>
        obtain ⟨st, k, rfl, rfl, hst, hk, hp⟩ := hrel
        have hkk := posAt_ge (bys s) st (by rw [hlen.out]; exact hst)
        rw [hp] at hkk
        have hk1 : k ≤ 1001 := by have := hkk.2.2.1; simp at this; omega
        have HP := Lib.hid hp
        clear hp hkk
        have hv := nlAt_byte (s.extract st s.size)
        obtain ⟨v, hve⟩ : ∃ v, Lib.indexByte (s.extract st s.size).data.toList 10 = v := ⟨_, rfl⟩
        rw [hve] at hv
        have HV := Lib.hid hve
        clear hve
        by_cases hkL : (k : Int) < L
        · have g3 : decide ((k : Int) < L) = true := decide_eq_true hkL
          rcases nl_from hv with ⟨rfl, hn⟩ | ⟨o, rfl, ho, hn⟩
          · have HN := Lib.hid hn
            clear hn hv
            go_wp2_with (go_at_call 31; refine (nl_w HV.out).mono ?_; rintro e w1 ⟨rfl, rfl⟩)
            go_ret2
            exact PlOk.no (fun i hi h => by have := none_later (by rw [hlen.out]; exact hst) HP.out (fun j hj => HN.out j hj) hi; omega) hbx.out.2
          · have hos : st + o < s.size := by
              have := (List.getElem?_eq_some_iff.1 ho).1
              rw [hlen.out] at this; exact this
            have HN := Lib.hid (And.intro ho hn)
            clear ho hn hv
            go_wp2_with (go_at_call 31; refine (nl_w HV.out).mono ?_; rintro e w1 ⟨rfl, rfl⟩)
            go_round
            case rel =>
              refine ⟨st + o + 1, k + 1, by go_num, by go_num, by omega, by omega, ?_⟩
              rw [posAt_nl HN.out.1, col_line HP.out HN.out.2 (by rw [hlen.out]; omega)]
            case measure => simp [intOf]; omega
        · have g3 : decide ((k : Int) < L) = false := decide_eq_false hkL
          obtain rfl : L = (k : Int) := by omega
          rcases nl_from hv with ⟨rfl, hn⟩ | ⟨o, rfl, ho, hn⟩
          · have HN := Lib.hid hn
            clear hn hv
            by_cases hc : (s.size : Int) - st < C - 1
            · have g4 : decide ((s.size : Int) - st < C - 1) = true := decide_eq_true hc
              go_wp2_with (go_at_call 31; refine (nl_w HV.out).mono ?_; rintro e w1 ⟨rfl, rfl⟩)
              go_ret2
              refine PlOk.no (fun i hi h => ?_) hbx.out.2
              have hl := hlen.out
              have h1 := on_line (by omega) HP.out hi (by omega) (by omega)
              have h2 := col_line (n := i - st) HP.out (fun j hj _ => HN.out j hj) (by omega)
              rw [show st + (i - st) = i by omega] at h2
              rw [h2] at h
              omega
            · have g4 : decide ((s.size : Int) - st < C - 1) = false := decide_eq_false hc
              go_wp2_with (go_at_call 31; refine (nl_w HV.out).mono ?_; rintro e w1 ⟨rfl, rfl⟩)
              go_ret2
              have hl := hlen.out
              have h2 := col_line (n := (C - 1).toNat) HP.out (fun j hj _ => HN.out j hj) (by omega)
              exact PlOk.yes (i := st + (C - 1).toNat) (by omega) (by rw [h2]) (by rw [h2]; omega) (by omega) hbx.out.2
          · have hos : st + o < s.size := by
              have := (List.getElem?_eq_some_iff.1 ho).1
              rw [hlen.out] at this; exact this
            have HN := Lib.hid (And.intro ho hn)
            clear ho hn hv
            by_cases hc : (o : Int) < C - 1
            · have g4 : decide ((o : Int) < C - 1) = true := decide_eq_true hc
              go_wp2_with (go_at_call 31; refine (nl_w HV.out).mono ?_; rintro e w1 ⟨rfl, rfl⟩)
              go_ret2
              refine PlOk.no (fun i hi h => ?_) hbx.out.2
              have hl := hlen.out
              have h1 := on_line (by omega) HP.out hi (by omega) (by omega)
              by_cases hio : i ≤ st + o
              · have h2 := col_line (n := i - st) HP.out (fun j hj hj2 => HN.out.2 j hj (by omega)) (by omega)
                rw [show st + (i - st) = i by omega] at h2
                rw [h2] at h
                omega
              · have h3 := line_mono (l := bys s) (i := st + o + 1) (j := i) (by omega) hi
                rw [posAt_nl HN.out.1, col_line HP.out HN.out.2 (by omega)] at h3
                simp at h3
                omega
            · have g4 : decide ((o : Int) < C - 1) = false := decide_eq_false hc
              go_wp2_with (go_at_call 31; refine (nl_w HV.out).mono ?_; rintro e w1 ⟨rfl, rfl⟩)
              go_ret2
              have hl := hlen.out
              have h2 := col_line (n := (C - 1).toNat) HP.out (fun j hj hj2 => HN.out.2 j hj (by omega)) (by omega)
              exact PlOk.yes (i := st + (C - 1).toNat) (by omega) (by rw [h2]) (by rw [h2]; omega) (by omega) hbx.out.2
theorem not_at {l : List Nat} {j a b : Nat} {L C : Int} (hno : ∀ i, i < j → ¬ (((posAt l i).1 : Int) = L ∧ ((posAt l i).2 : Int) = C)) (hp : posAt l j = (a, b)) (hq : ¬ ((a : Int) = L ∧ (b : Int) = C)) (i : Nat) (hi : i < j + 1) : ¬ (((posAt l i).1 : Int) = L ∧ ((posAt l i).2 : Int) = C) := by
  by_cases h : i = j
  · subst h; rw [hp]; exact hq
  · exact hno i (by omega)
set_option maxRecDepth 100000 in
set_option maxHeartbeats 16000000 in
theorem rPlace_c (s : ByteArray) (L C : Int) (w : World) (hs : s.size ≤ 1000) :
    Calls Try.prog 11 #[.string s, .agg #[.int .i64 L, .int .i64 C]] w (PlOk (bys s) L C w) := by
  have hlen := Lib.hid (bys_len s)
  go_enter Try.func11, Try.ntmps11
  go_wp2_with fail
  go_loopw [7] (fun v wr => ∃ (j a b : Nat), v = .int .i64 j ∧ j ≤ s.size + 1 ∧ a ≤ j + 1 ∧ b ≤ j + 1 ∧ (j ≤ s.size → posAt (bys s) j = (a, b)) ∧ (∀ i, i < j → ¬ (((posAt (bys s) i).1 : Int) = L ∧ ((posAt (bys s) i).2 : Int) = C)) ∧ Bk wr w.heap.size 27 #[.int .i64 L, .int .i64 C] ∧ Bk wr (w.heap.size + 1) 27 #[.int .i64 (a : Int), .int .i64 (b : Int)] ∧ Below w.heap.size w wr) (fun v _ => s.size + 1 - (intOf v).toNat)
  case atStart =>
    refine ⟨0, 1, 1, rfl, Nat.zero_le _, by omega, by omega, fun _ => posAt_zero _, fun i hi => absurd hi (by omega), (Bk.new w _ _).alloc _, ?_, ((Below.refl _ _).alloc (Nat.le_refl _) _).alloc (by simp) _⟩
    have := Bk.new (w.alloc (.cells #[.int .i64 L, .int .i64 C] 27)) 27 #[.int .i64 1, .int .i64 1]
    simpa using this
  case round =>
    obtain ⟨j, a, b, rfl, hj, ha, hb, hp, hno, hk0, hk1, hB⟩ := hrel
    have c0 := hk0.cell 0
    have c1 := hk0.cell 1
    have d0 := hk1.cell 0
    have d1 := hk1.cell 1
    have f0 := hk0.frozen 0
    have f1 := hk0.frozen 1
    have e0 := hk1.frozen 0
    have e1 := hk1.frozen 1
    have z0 := hk0.lt
    have z1 := hk1.lt
    simp at c0 c1 d0 d1
    have HK := Lib.hid (And.intro hk0 (And.intro hk1 (And.intro hB (And.intro hp hno))))
    clear hk0 hk1 hB hp hno
    by_cases hji : j ≤ s.size
    · have g2 : decide ((j : Int) ≤ (s.size : Int)) = true := by simp; omega
      by_cases hq : (a : Int) = L ∧ (b : Int) = C
      · obtain ⟨rfl, rfl⟩ := hq
        go_wp2_with fail
        go_ret2
        have hpj := HK.out.2.2.2.1 hji
        exact PlOk.yes (by rw [hlen.out]; exact hji) (by rw [hpj]) (by rw [hpj]) rfl HK.out.2.2.1
      · have HQ := Lib.hid hq
        by_cases haL : (a : Int) = L
        · have hb2 : ((b : Int) == C) = false := beq_false_of_ne (fun h => hq ⟨haL, h⟩)
          obtain rfl : L = (a : Int) := haL.symm
          clear hq haL
          by_cases hjs : j < s.size
          · have g3 : decide ((j : Int) < (s.size : Int)) = true := by simp; omega
            have hx := bys_at hjs
            by_cases h10 : (s[j]'hjs).toNat = 10
            · have g4 : (((s[j]'hjs).toNat : Int) == 10) = true := by simp [h10]
              have HX := Lib.hid (And.intro hx h10)
              clear hx h10
              go_wp2_with fail
              go_roundw
              case rel =>
                obtain ⟨hk0, hk1, hB, hp, hno⟩ := HK.out
                have hpj := hp hji
                refine ⟨j + 1, a + 1, 1, by go_num, by omega, by omega, by omega, fun _ => by rw [posAt_succ HX.out.1, hpj, HX.out.2]; rfl, fun i hi => not_at hno hpj HQ.out i hi, ((hk0.far (by simp) _).far (by simp) _).far (by simp) _, ?_, ((hB.setCell (by simp) _).setCell (by simp) _).setCell (by simp) _⟩
                exact ((hk1.put 1 _).put 0 _).put 1 _
              case measure => simp [intOf]; omega
            · have g4 : (((s[j]'hjs).toNat : Int) == 10) = false := beq_false_of_ne (by omega)
              have HX := Lib.hid (And.intro hx h10)
              clear hx h10
              go_wp2_with fail
              go_roundw
              case rel =>
                obtain ⟨hk0, hk1, hB, hp, hno⟩ := HK.out
                have hpj := hp hji
                refine ⟨j + 1, a, b + 1, by go_num, by omega, by omega, by omega, fun _ => ?_, fun i hi => not_at hno hpj HQ.out i hi, hk0.far (by simp) _, hk1.put 1 _, hB.setCell (by simp) _⟩
                rw [posAt_succ HX.out.1, hpj]
                unfold step
                rw [if_neg HX.out.2]
              case measure => simp [intOf]; omega
          · have g3 : decide ((j : Int) < (s.size : Int)) = false := by simp; omega
            go_wp2_with fail
            go_roundw
            case rel =>
              obtain ⟨hk0, hk1, hB, hp, hno⟩ := HK.out
              have hpj := hp hji
              exact ⟨j + 1, a, b + 1, by go_num, by omega, by omega, by omega, fun h => absurd h (by omega), fun i hi => not_at hno hpj HQ.out i hi, hk0.far (by simp) _, hk1.put 1 _, hB.setCell (by simp) _⟩
            case measure => simp [intOf]; omega
        · have ha2 : ((a : Int) == L) = false := beq_false_of_ne haL
          clear hq haL
          by_cases hjs : j < s.size
          · have g3 : decide ((j : Int) < (s.size : Int)) = true := by simp; omega
            have hx := bys_at hjs
            by_cases h10 : (s[j]'hjs).toNat = 10
            · have g4 : (((s[j]'hjs).toNat : Int) == 10) = true := by simp [h10]
              have HX := Lib.hid (And.intro hx h10)
              clear hx h10
              go_wp2_with fail
              go_roundw
              case rel =>
                obtain ⟨hk0, hk1, hB, hp, hno⟩ := HK.out
                have hpj := hp hji
                refine ⟨j + 1, a + 1, 1, by go_num, by omega, by omega, by omega, fun _ => by rw [posAt_succ HX.out.1, hpj, HX.out.2]; rfl, fun i hi => not_at hno hpj HQ.out i hi, ((hk0.far (by simp) _).far (by simp) _).far (by simp) _, ?_, ((hB.setCell (by simp) _).setCell (by simp) _).setCell (by simp) _⟩
                exact ((hk1.put 1 _).put 0 _).put 1 _
              case measure => simp [intOf]; omega
            · have g4 : (((s[j]'hjs).toNat : Int) == 10) = false := beq_false_of_ne (by omega)
              have HX := Lib.hid (And.intro hx h10)
              clear hx h10
              go_wp2_with fail
              go_roundw
              case rel =>
                obtain ⟨hk0, hk1, hB, hp, hno⟩ := HK.out
                have hpj := hp hji
                refine ⟨j + 1, a, b + 1, by go_num, by omega, by omega, by omega, fun _ => ?_, fun i hi => not_at hno hpj HQ.out i hi, hk0.far (by simp) _, hk1.put 1 _, hB.setCell (by simp) _⟩
                rw [posAt_succ HX.out.1, hpj]
                unfold step
                rw [if_neg HX.out.2]
              case measure => simp [intOf]; omega
          · have g3 : decide ((j : Int) < (s.size : Int)) = false := by simp; omega
            go_wp2_with fail
            go_roundw
            case rel =>
              obtain ⟨hk0, hk1, hB, hp, hno⟩ := HK.out
              have hpj := hp hji
              exact ⟨j + 1, a, b + 1, by go_num, by omega, by omega, by omega, fun h => absurd h (by omega), fun i hi => not_at hno hpj HQ.out i hi, hk0.far (by simp) _, hk1.put 1 _, hB.setCell (by simp) _⟩
            case measure => simp [intOf]; omega
    · obtain rfl : j = s.size + 1 := by omega
      have g2 : decide (((s.size + 1 : Nat) : Int) ≤ (s.size : Int)) = false := by simp; omega
      go_wp2_with fail
      go_ret2
      exact PlOk.no (fun i hi h => HK.out.2.2.2.2 i (by rw [hlen.out] at hi; omega) h) HK.out.2.2.1
end Go.Proofs.Ytjocobfabdkadaa
