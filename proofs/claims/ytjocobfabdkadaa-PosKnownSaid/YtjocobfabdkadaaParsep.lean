/- Parse of package deci: the plain law: what parts of a text are worth. -/
import Derived.Test.YtjocobfabdkadaaPutAll
import Derived.Laws.BytesArg
import Derived.Laws.RangeString
import Derived.Laws.RangeAny
namespace Go.Proofs.Ytjocobfabdkadaa
theorem low_zero (f : Nat) : low f 0 0 = [] := by cases f <;> simp [low]
theorem low_fuel : ∀ f g n : Nat, n < 10 ^ f → n < 10 ^ g → low f n 0 = low g n 0
  | 0, g, n, h, _ => by
    have : n = 0 := by simp at h; exact h
    subst this
    rw [low_zero, low_zero]
  | f + 1, g, n, h, h2 => by
    by_cases h0 : n = 0
    · subst h0; rw [low_zero, low_zero]
    · cases g with
      | zero => simp at h2; omega
      | succ g =>
        rw [low_more (by omega), low_more (by omega), Nat.zero_sub]
        rw [Nat.pow_succ] at h h2
        rw [low_fuel f g (n / 10) (by omega) (by omega)]
theorem low_split : ∀ (k f g q r : Nat), 0 < q → r < 10 ^ k → k ≤ g → low (f + k) (q * 10 ^ k + r) 0 = low g r k ++ low f q 0
  | 0, f, g, q, r, hq, hr, hg => by
    have : r = 0 := by simp at hr; exact hr
    subst this
    rw [low_zero]; simp
  | k + 1, f, g, q, r, hq, hr, hg => by
    obtain ⟨g, rfl⟩ : ∃ g', g = g' + 1 := ⟨g - 1, by omega⟩
    have hp : 0 < 10 ^ k := Nat.pow_pos (by omega)
    have e : q * 10 ^ (k + 1) + r = 10 * (q * 10 ^ k + r / 10) + r % 10 := by
      rw [Nat.pow_succ, Nat.mul_add, ← Nat.mul_assoc q, Nat.mul_comm (q * 10 ^ k) 10]
      omega
    have hq1 : 0 < q * 10 ^ k := Nat.mul_pos hq hp
    rw [show f + (k + 1) = f + k + 1 by omega, low_more (by omega), low_more (by omega), e]
    rw [show (10 * (q * 10 ^ k + r / 10) + r % 10) % 10 = r % 10 by omega, show (10 * (q * 10 ^ k + r / 10) + r % 10) / 10 = q * 10 ^ k + r / 10 by omega]
    rw [Nat.pow_succ] at hr
    rw [Nat.zero_sub, low_split k f g q (r / 10) hq (by omega) (by omega)]
    simp
theorem low_one {f n : Nat} (h : n ≠ 0) : low (f + 1) n 1 = low (f + 1) n 0 := by
  rw [low_more (by omega), low_more (by omega)]
theorem chunks_low : ∀ (f F N : Nat), N < 10000000000000000000 ^ f → N < 10 ^ F → ((chunks f N).map fun x => low 200 x.1 x.2).flatten = low F N 0
  | 0, F, N, h, _ => by
    have : N = 0 := by simp at h; exact h
    subst this
    rw [low_zero]; rfl
  | f + 1, F, N, h, hF => by
    by_cases h0 : N = 0
    · subst h0; rw [low_zero, chunks_zero]; rfl
    · have e19 : (10 : Nat) ^ 19 = 10000000000000000000 := by decide
      rw [chunks_more h0]
      by_cases hq : N / 10000000000000000000 = 0
      · have hN : N < 10000000000000000000 := by omega
        rw [hq, if_pos rfl, chunks_zero, Nat.mod_eq_of_lt hN]
        simp only [List.map_cons, List.map_nil, List.flatten_cons, List.flatten_nil, List.append_nil]
        rw [low_one h0]
        exact low_fuel _ _ _ (Nat.lt_of_lt_of_le (e19 ▸ hN) (Nat.pow_le_pow_right (by omega) (by omega))) hF
      · rw [if_neg hq]
        simp only [List.map_cons, List.flatten_cons]
        have h19 : 19 ≤ F := by
          rcases Nat.lt_or_ge F 19 with h1 | h1
          · exfalso
            have : 10 ^ F ≤ 10 ^ 19 := Nat.pow_le_pow_right (by omega) (by omega)
            omega
          · exact h1
        obtain ⟨G, rfl⟩ : ∃ G, F = G + 19 := ⟨F - 19, by omega⟩
        have hG : N / 10000000000000000000 < 10 ^ G := by
          rw [Nat.div_lt_iff_lt_mul (by decide), ← e19, ← Nat.pow_add]
          exact hF
        have hf : N / 10000000000000000000 < 10000000000000000000 ^ f := by
          rw [Nat.div_lt_iff_lt_mul (by decide), ← Nat.pow_succ]
          exact h
        rw [chunks_low f G _ hf hG]
        have hs := low_split 19 G 200 (N / 10000000000000000000) (N % 10000000000000000000) (by omega) (by rw [e19]; omega) (by omega)
        rw [e19, show N / 10000000000000000000 * 10000000000000000000 + N % 10000000000000000000 = N by omega] at hs
        exact hs.symm
/-- The decimal digits of a number, as bytes, the uppermost first. -/
def dec (N : Nat) : List Nat := if N = 0 then [48] else (low N N 0).reverse
theorem chunks_dec {N : Nat} (h0 : N ≠ 0) (h : N < 10000000000000000000 ^ 200) : ((chunks 200 N).map fun x => low 200 x.1 x.2).flatten.reverse = dec N := by
  rw [chunks_low 200 N N h (Nat.lt_pow_self (by omega)), dec, if_neg h0]
end Go.Proofs.Ytjocobfabdkadaa
namespace Go.Proofs.Ytjocobfabdkadaa
open Go.RowKit
attribute [local go_sem] alloc_drewN setCell_drewN
/-- The string of these bytes. -/
def str (l : List Nat) : ByteArray := strOfNums (l.map fun (x : Nat) => (x : Int))
theorem run_str {w : World} {A : Option Addr} {n c : Nat} {l : List Nat} (h : Rw .u8 w A n l) : (convert 80 9 (.slice A n c)).run Try.prog w = .ok (.string (str l)) w := by
  by_cases h0 : n = 0
  · subst h0
    have : l = [] := List.eq_nil_of_length_eq_zero h.1
    subst this
    cases A with
    | none => exact run_convert_bytes_nil w _ 5 Try.underlying80 Try.underlying5 0 c _ Try.underlying9
    | some a =>
      rw [run_convert_bytes_string w _ _ 5 _ 0 c Try.underlying80 Try.underlying5 Try.underlying9, run_bytesToString w _ 0 c [] (by simpa using run_loadCells_list (P := Try.prog) w a [] (fun j v hj => by simp at hj))]
      rfl
  · obtain ⟨b, off, rfl, _, hc⟩ := h.2 (by omega)
    refine run_convert_bytes_arg w _ 5 Try.underlying80 Try.underlying5 b off n c (l.map fun (x : Nat) => (x : Int)) (by simpa using h.1) (fun i hi => ?_) _ Try.underlying9
    have hx : l[i]? = some (l[i]'(by rw [h.1]; exact hi)) := List.getElem?_eq_getElem _
    rw [hc i _ hx]
    simp [List.getD, hx]
theorem fits_chunk {N : Nat} (h : Fits N 100) : N < 10000000000000000000 ^ 200 := by
  have h1 : (18446744073709551616 : Nat) ^ 100 ≤ (10000000000000000000 ^ 2) ^ 100 := Nat.pow_le_pow_left (by decide) 100
  rw [← Nat.pow_mul] at h1
  exact Nat.lt_of_lt_of_le h.lt h1
theorem chunk_count {N : Nat} (h : N < 10000000000000000000 ^ 200) (i : Nat) (hi : N / 10000000000000000000 ^ i ≠ 0) : i < 200 := by
  rcases Nat.lt_or_ge i 200 with h1 | h1
  · exact h1
  · exact absurd (Nat.div_eq_of_lt (Nat.lt_of_lt_of_le h (Nat.pow_le_pow_right (by decide) h1))) hi
set_option maxHeartbeats 4000000 in
theorem text_c (u : Value) (N : Nat) (w : World) (hu : IsNat 0 w u N) (hN : Fits N 100) :
    Calls Try.prog 44 #[u] w fun e w' => e = .returned (.string (str (dec N))) ∧ Below w.heap.size w w' := by
  have hu0 := hu
  obtain ⟨A, n, c, l, rfl, hr, hl, _⟩ := hu
  have hW : Below w.heap.size w (w.alloc (.cells #[.slice A n c] 76)) := (Below.refl _ _).alloc (Nat.le_refl _) _
  have HW := Lib.hid (And.intro hW (And.intro (hu0.keep hW) (And.intro (Bk.new w 76 #[.slice A n c]) hl)))
  have hn : l.length = n := hr.1
  clear hW hu0 hr hl
  go_enter Try.func44, Try.ntmps44
  by_cases h0 : n = 0
  · have hN0 : N = 0 := HW.out.2.2.2.zero.1 (by omega)
    subst hN0 h0
    go_wp2_with (go_at_call 55; refine (len_w HW.out.2.1 HW.out.2.2.2).mono ?_; rintro e w1 ⟨rfl, hb⟩; rw [hn]; have HB := Lib.hid hb; clear hb)
    go_ret
    exact ⟨rfl, HW.out.1.trans (HB.out.mono HW.out.1.size)⟩
  · have h1 : ((n : Int) == 0) = false := beq_false_of_ne (by omega)
    have hN0 : N ≠ 0 := fun e => h0 (by rw [← hn]; exact HW.out.2.2.2.zero.2 e)
    have H0 := Lib.hid (And.intro h0 hN0)
    clear h0 hN0
    go_wp2_with (first
      | (go_at_call 55; refine (len_w HW.out.2.1 HW.out.2.2.2).mono ?_; rintro e w1 ⟨rfl, hb⟩; rw [hn]; have hk1 := HW.out.2.2.1.keep hb; have c1 := (hk1.alloc (.cells #[.slice none 0 0] 80)).cell 0; simp at c1; have HB := Lib.hid (And.intro (HW.out.1.trans (hb.mono HW.out.1.size)) (HW.out.2.1.keep hb)); clear hb hk1)
      | (go_at_call 57; refine (all_c 0 _ N _ (HB.out.2.alloc _) (hN.mono (by decide))).mono ?_; rintro e w2 ⟨v2, l2, rfl, ho, hlim, hb2⟩; obtain ⟨gb, c2, rfl, hgb, hG⟩ := ho.gr rfl (by have := hlim.zero; have := H0.out.2; omega); have hkp := (Bk.new w1 80 #[.slice none 0 0]).keep hb2; simp at hgb; have HO := Lib.hid (And.intro hG (And.intro hlim (And.intro hb2 (And.intro hkp hgb)))); clear ho hG hlim hb2 hkp)
      | (go_at_call 56; refine (putAll_c w1.heap.size gb l2.length c2 N l2 _ HO.out.2.2.2.1 HO.out.1 HO.out.2.1 (by omega) (HO.out.2.1.len hN) (chunk_count (fits_chunk hN))).mono ?_; rintro e w3 ⟨rfl, v3, h3, hb3⟩; have c3 := h3.bk.cell 0; simp at c3; have ho3 := h3.own; rw [chunks_dec H0.out.2 (fits_chunk hN)] at ho3; obtain ⟨A3, d3, rfl, hr3, _⟩ := ho3.slice; have hs3 := run_str (c := d3) hr3; have HZ := Lib.hid hb3; clear h3 hb3 ho3 hr3))
    go_ret
    have hs1 := HB.out.1.size
    have B2 : Below w.heap.size w w2 := HB.out.1.trans ((((Below.refl _ w1).alloc (Nat.le_refl _) (.cells #[.slice none 0 0] 80)).trans (HO.out.2.2.1.mono (by simp))).mono hs1)
    have hs2 := B2.size
    have hgb := HO.out.2.2.2.2
    refine ⟨rfl, HZ.out.os.trans B2.os, HZ.out.tape.trans B2.tape, HZ.out.output.trans B2.output, Nat.le_trans hs2 HZ.out.size, fun k hk => (HZ.out.block k (by omega) (by omega) (by intro e; injection e; omega)).trans (B2.block k hk)⟩
end Go.Proofs.Ytjocobfabdkadaa
namespace Go.Proofs.Ytjocobfabdkadaa
open Go.RowKit
attribute [local go_sem] alloc_drewN setCell_drewN
/-- The bytes of a string. -/
def bys (s : ByteArray) : List Nat := s.data.toList.map fun x => x.toNat
theorem bys_len (s : ByteArray) : (bys s).length = s.size := by unfold bys; rw [List.length_map]; rfl
theorem bys_at {s : ByteArray} {i : Nat} (h : i < s.size) : (bys s)[i]? = some (s[i]'h).toNat := by
  have h' : i < s.data.toList.length := h
  simp only [bys, List.getElem?_map, List.getElem?_eq_getElem h', Option.map_some]
  rfl
theorem empty_iff (s : ByteArray) : s.toList.isEmpty = true ↔ s.size = 0 := by
  rw [ByteArray.toList_eq, List.isEmpty_iff_length_eq_zero]
  rfl
def Dig (x : Nat) : Prop := 48 ≤ x ∧ x ≤ 57
instance (x : Nat) : Decidable (Dig x) := inferInstanceAs (Decidable (_ ∧ _))
/-- Are these bytes the digits of a number? -/
def isDec (l : List Nat) : Prop := l ≠ [] ∧ ¬ (l[0]? = some 48 ∧ 1 < l.length) ∧ ∀ x ∈ l, Dig x
instance (l : List Nat) : Decidable (isDec l) := inferInstanceAs (Decidable (_ ∧ _ ∧ _))
theorem iter_below (w : World) (s : ByteArray) (pos : Nat) : Below w.heap.size w (w.iter s pos) := (Below.refl _ _).alloc (Nat.le_refl _) _
set_option maxRecDepth 100000 in
set_option maxHeartbeats 4000000 in
theorem digits_ok_c (s : ByteArray) (w : World) :
    Calls Try.prog 72 #[.string s] w fun e w' => e = .returned (.bool (decide (isDec (bys s)))) ∧ Below w.heap.size w w' := by
  have hlen := bys_len s
  go_enter Try.func72, Try.ntmps72
  go_upto_region 1 with fail
  go_cut [16] from 5 (fun v16 wx => ∃ d : Bool, v16 = .bool d ∧ (d = true ↔ bys s = [] ∨ ((bys s)[0]? = some 48 ∧ 1 < (bys s).length)) ∧ wx = w)
  case first =>
    by_cases hs0 : s.size = 0
    · have hb0 : bys s = [] := List.eq_nil_of_length_eq_zero (by omega)
      have he := (empty_iff s).2 hs0
      have HS := Lib.hid (And.intro hs0 hb0)
      clear hs0 hb0
      go_wp2
      go_meet
      exact ⟨true, rfl, by simp [HS.out.2], rfl⟩
    · have hb0 : bys s ≠ [] := fun e => hs0 (by rw [← hlen, e]; rfl)
      have he : s.toList.isEmpty = false := by
        cases h : s.toList.isEmpty with
        | false => rfl
        | true => exact absurd ((empty_iff s).1 h) hs0
      have hsp : 0 < s.size := by omega
      have hx := bys_at hsp
      by_cases h48 : (s[0]'hsp).toNat = 48
      · have h1 : (((s[0]'hsp).toNat : Int) == 48) = true := by simp [h48]
        have HS := Lib.hid (And.intro hb0 (And.intro hx h48))
        clear hb0 hx h48 hlen hs0
        go_wp2
        go_meet
        refine ⟨_, congrArg Value.bool (Eq.refl _), ?_, rfl⟩
        obtain ⟨hb0, hx, h48⟩ := HS.out
        rw [hx, h48, bys_len]
        simp [hb0]
        omega
      · have h1 : (((s[0]'hsp).toNat : Int) == 48) = false := beq_false_of_ne (by omega)
        have HS := Lib.hid (And.intro hb0 (And.intro hx h48))
        clear hb0 hx h48 hlen hs0
        go_wp2
        go_meet
        refine ⟨false, rfl, ?_, rfl⟩
        obtain ⟨hb0, hx, h48⟩ := HS.out
        rw [hx]
        simp [hb0, h48]
  case rest =>
    obtain ⟨d, rfl, hd, rfl⟩ := hcut
    cases d with
    | true =>
      have HD := Lib.hid (hd.1 rfl)
      clear hd
      go_wp2
      go_ret
      refine ⟨congrArg Ending.returned (congrArg Value.bool ?_), Below.refl _ _⟩
      have h := HD.out
      symm
      rw [decide_eq_false_iff_not]
      rintro ⟨h1, h2, _⟩
      rcases h with h | h
      · exact h1 h
      · exact h2 h
    | false =>
      have HD := Lib.hid hd
      clear hd
      go_wp2_with fail
      go_loopw [] (fun w' => ∃ pos, w' = wc.iter s pos ∧ pos ≤ s.size ∧ ∀ x ∈ (bys s).take pos, Dig x) (fun w' => s.size - w'.iterPos wc.heap.size)
      case atStart => exact ⟨0, rfl, Nat.zero_le _, by simp⟩
      case round =>
        obtain ⟨pos, rfl, hps, hall⟩ := hrel
        have HA := Lib.hid hall
        clear hall
        by_cases hp : pos < s.size
        · have hnx : ∀ ty, (Instr.next (.pointer (some ⟨wc.heap.size, 0, none⟩)) true ty).run Try.prog (wc.iter s pos) = _ := fun ty => run_next_any wc s pos ty hp
          have hx := bys_at hp
          by_cases hd8 : Dig (s[pos]'hp).toNat
          · have hdc := decode_ascii s pos hp (by have := hd8.2; omega)
            rw [hdc] at hnx
            have h1 : decide (((s[pos]'hp).toNat : Int) < 48) = false := by have := hd8.1; simp; omega
            have h2 : decide ((57 : Int) < ((s[pos]'hp).toNat : Int)) = false := by have := hd8.2; simp; omega
            have HX := Lib.hid (And.intro hx (And.intro hd8 hdc))
            clear hx hd8 hdc
            go_wp2
            go_roundw
            case rel =>
              refine ⟨pos + 1, rfl, by omega, fun x hxm => ?_⟩
              obtain ⟨g1, g2⟩ := List.getElem?_eq_some_iff.1 HX.out.1
              rw [List.take_succ_eq_append_getElem g1] at hxm
              rcases List.mem_append.1 hxm with h | h
              · exact HA.out x h
              · rw [List.mem_singleton.1 h, g2]; exact HX.out.2.1
            case measure => simp; omega
          · have hV : (Utf8.decode s pos).1 < 48 ∨ 57 < (Utf8.decode s pos).1 := by
              by_cases ha : (s[pos]'hp).toNat < 128
              · rw [decode_ascii s pos hp ha]
                have h : ¬ (48 ≤ (s[pos]'hp).toNat ∧ (s[pos]'hp).toNat ≤ 57) := hd8
                show (s[pos]'hp).toNat < 48 ∨ 57 < (s[pos]'hp).toNat
                omega
              · have := (decode_high s pos hp (by omega)).1
                omega
            generalize Utf8.decode s pos = D at hnx hV
            obtain ⟨V, U⟩ := D
            simp only at hV hnx
            by_cases hV8 : V < 48
            · have h1 : decide ((V : Int) < 48) = true := by simp; omega
              have H3 := Lib.hid (And.intro hx (And.intro hd8 hV))
              clear hx hd8 hV
              go_wp2
              go_ret
              refine ⟨congrArg Ending.returned (congrArg Value.bool ?_), iter_below _ _ _⟩
              symm
              rw [decide_eq_false_iff_not]
              rintro ⟨_, _, h3⟩
              exact H3.out.2.1 (h3 _ (List.mem_of_getElem? H3.out.1))
            · have h1 : decide ((V : Int) < 48) = false := by simp; omega
              have h2 : decide ((57 : Int) < (V : Int)) = true := by simp; omega
              have H3 := Lib.hid (And.intro hx (And.intro hd8 hV))
              clear hx hd8 hV
              go_wp2
              go_ret
              refine ⟨congrArg Ending.returned (congrArg Value.bool ?_), iter_below _ _ _⟩
              symm
              rw [decide_eq_false_iff_not]
              rintro ⟨_, _, h3⟩
              exact H3.out.2.1 (h3 _ (List.mem_of_getElem? H3.out.1))
        · have hnx : ∀ ty, (Instr.next (.pointer (some ⟨wc.heap.size, 0, none⟩)) true ty).run Try.prog (wc.iter s pos) = _ := fun ty => run_next_end wc s pos ty hp
          go_wp2
          go_ret
          refine ⟨congrArg Ending.returned (congrArg Value.bool ?_), iter_below _ _ _⟩
          symm
          rw [decide_eq_true_iff]
          have h := HD.out
          simp only [Bool.false_eq_true, false_iff, not_or] at h
          have ha := HA.out
          rw [List.take_of_length_le (by omega)] at ha
          exact ⟨h.1, h.2, ha⟩
end Go.Proofs.Ytjocobfabdkadaa
namespace Go.Proofs.Ytjocobfabdkadaa
open Go.RowKit
attribute [local go_sem] alloc_drewN setCell_drewN
/-- The number whose digits these are. -/
def decv (l : List Nat) : Nat := l.foldl (fun n x => n * 10 + (x - 48)) 0
theorem decv_snoc (l : List Nat) (x : Nat) : decv (l ++ [x]) = decv l * 10 + (x - 48) := by simp [decv, List.foldl_append]
theorem decv_take {l : List Nat} {i x : Nat} (hx : l[i]? = some x) : decv (l.take (i + 1)) = decv (l.take i) * 10 + (x - 48) := by
  obtain ⟨g1, g2⟩ := List.getElem?_eq_some_iff.1 hx
  rw [List.take_succ_eq_append_getElem g1, decv_snoc, g2]
theorem decv_lt {l : List Nat} (h : ∀ x ∈ l, Dig x) : ∀ i, i ≤ l.length → decv (l.take i) < 10 ^ i
  | 0, _ => by simp [decv]
  | i + 1, hi => by
    have hx : l[i]? = some (l[i]'(by omega)) := List.getElem?_eq_getElem _
    have hd := h _ (List.getElem_mem (show i < l.length by omega))
    have := decv_lt h i (by omega)
    rw [decv_take hx, Nat.pow_succ]
    have h2 := hd.2
    omega
set_option maxRecDepth 100000 in
set_option maxHeartbeats 4000000 in
theorem sml_c (s : ByteArray) (w : World) (hs : s.size ≤ 19) (hd : ∀ x ∈ bys s, Dig x) :
    Calls Try.prog 74 #[.string s] w fun e w' => e = .returned (.int .u64 (decv (bys s))) ∧ Below w.heap.size w w' := by
  have hlen := bys_len s
  have HH := Lib.hid (And.intro hd hlen)
  clear hd hlen
  go_enter Try.func74, Try.ntmps74
  go_wp2_with fail
  go_loopw [3] (fun v w' => ∃ pos n, w' = w.iter s pos ∧ pos ≤ s.size ∧ v = .int .u64 (n : Nat) ∧ n = decv ((bys s).take pos)) (fun _ w' => s.size - w'.iterPos w.heap.size)
  case atStart => exact ⟨0, 0, rfl, Nat.zero_le _, rfl, rfl⟩
  case round =>
    obtain ⟨pos, n, rfl, hps, rfl, hn⟩ := hrel
    by_cases hp : pos < s.size
    · have hnx : ∀ ty, (Instr.next (.pointer (some ⟨w.heap.size, 0, none⟩)) true ty).run Try.prog (w.iter s pos) = _ := fun ty => run_next_any w s pos ty hp
      have hx := bys_at hp
      have hd8 := HH.out.1 _ (List.mem_of_getElem? hx)
      rw [decode_ascii s pos hp (by have := hd8.2; omega)] at hnx
      have hlt := decv_lt HH.out.1 pos (by rw [HH.out.2]; omega)
      rw [← hn] at hlt
      have hpw : 10 ^ pos ≤ 10 ^ 18 := Nat.pow_le_pow_right (by omega) (by omega)
      have hnb : n < 1000000000000000000 := Nat.lt_of_lt_of_le hlt (Nat.le_trans hpw (by decide))
      have ht := decv_take hx
      rw [← hn] at ht
      obtain ⟨x, hxe⟩ : ∃ x, x = (s[pos]'hp).toNat := ⟨_, rfl⟩
      rw [← hxe] at hnx ht hd8
      have h1 := hd8.1
      have h2 := hd8.2
      have HT := Lib.hid (And.intro ht hn)
      clear ht hn hlt hpw hx hd8 hxe
      go_wp2
      go_roundw
      case rel => exact ⟨pos + 1, n * 10 + (x - 48), rfl, by omega, congrArg _ (by omega), HT.out.1.symm⟩
      case measure => simp; omega
    · have hnx : ∀ ty, (Instr.next (.pointer (some ⟨w.heap.size, 0, none⟩)) true ty).run Try.prog (w.iter s pos) = _ := fun ty => run_next_end w s pos ty hp
      have HN := Lib.hid hn
      clear hn
      go_wp2
      go_ret
      refine ⟨?_, iter_below _ _ _⟩
      have := HN.out
      rw [List.take_of_length_le (by rw [HH.out.2]; omega)] at this
      rw [← this]
      rfl
end Go.Proofs.Ytjocobfabdkadaa
namespace Go.Proofs.Ytjocobfabdkadaa
open Go.RowKit
attribute [local go_sem] alloc_drewN setCell_drewN
theorem shift_step {W i x s h lo mo c mo2 t V r2v m0 : Nat} (h1 : lo + W * h = x * t) (h2 : s + W * c = lo + mo) (h3 : mo2 = h + c) (hv : V + W ^ i * mo = r2v * t + m0) :
    V + W ^ i * s + W ^ (i + 1) * mo2 = (r2v + W ^ i * x) * t + m0 := by
  subst h3
  have e1 : s + W * (h + c) = x * t + mo := by rw [Nat.mul_add]; omega
  have e2 : W ^ i * s + W ^ (i + 1) * (h + c) = W ^ i * (x * t) + W ^ i * mo := by
    rw [Nat.pow_succ, Nat.mul_assoc, ← Nat.mul_add, ← Nat.mul_add, e1]
  rw [Nat.add_mul, Nat.mul_assoc]
  omega
theorem carry_lt {x t hi lo s d mo : Nat} (h3 : lo + 18446744073709551616 * hi = x * t) (a1 : s + 18446744073709551616 * d = lo + mo + 0) (hx : x < 18446744073709551616) (ht : t < 18446744073709551616) (hmo : mo < 18446744073709551616) : hi + d < 18446744073709551616 := by
  have h1 : x * t ≤ 18446744073709551615 * 18446744073709551615 := Nat.mul_le_mul (by omega) (by omega)
  omega
set_option maxHeartbeats 8000000 in
theorem shift_c (g t more : Nat) (v : Value) (l : List Nat) (w : World) (h : Own g w v l) (hl : AllLt 18446744073709551616 l) (ht : t < 18446744073709551616) (hm : more < 18446744073709551616) (hn : l.length ≤ 1000) (hg : g ≤ w.heap.size) :
    Calls Try.prog 73 #[v, .int .u64 t, .int .u64 more] w fun e w' => ∃ (v' : Value) (q : List Nat), e = .returned v' ∧ Own g w' v' q ∧ AllLt 18446744073709551616 q ∧ val 18446744073709551616 q = val 18446744073709551616 l * t + more ∧ (q.length = l.length ∨ (q.length = l.length + 1 ∧ q.getLast? ≠ some 0)) ∧ Below g w w' := by
  obtain ⟨A, c, rfl, hr0, hc0, _⟩ := h.slice
  obtain ⟨n, hnl⟩ : ∃ n, n = l.length := ⟨_, rfl⟩
  have ho0 : w.ownsRow g 78 1 (.slice A n c) n (cellsOf .u64 l) := by rw [hnl]; exact h
  rw [← hnl] at hn hr0 hc0 ⊢
  have HO := Lib.hid (And.intro ho0 (And.intro hl hnl))
  clear h hr0 ho0 hl hnl
  go_enter Try.func73, Try.ntmps73
  go_wp2_with fail
  go_loopw [2, 14] (fun m i wr => ∃ (k mo : Nat) (q : List Nat), i = .int .i64 k ∧ m = .int .u64 mo ∧ k ≤ n ∧ mo < 18446744073709551616 ∧ wr.ownsRow g 78 1 (.slice A n c) n (cellsOf .u64 q) ∧ AllLt 18446744073709551616 q ∧ val 18446744073709551616 (q.take k) + 18446744073709551616 ^ k * mo = val 18446744073709551616 (l.take k) * t + more ∧ q.drop k = l.drop k ∧ Below g w wr) (fun _ i _ => n - (intOf i).toNat)
  case atStart => exact ⟨0, more, l, rfl, rfl, Nat.zero_le _, hm, HO.out.1, HO.out.2.1, by simp [val], rfl, Below.refl _ _⟩
  case round =>
    obtain ⟨k, mo, q, rfl, rfl, hk, hmo, ho, hq, hv, hd, hB⟩ := hrel
    have hql : q.length = n := by have := ho.1; simpa [cellsOf] using this
    by_cases hkn : k < n
    · have h1 : decide ((k : Int) < (n : Int)) = true := by simp <;> omega
      obtain ⟨gb, cap, e, hgb, hgl⟩ := ho.form (by omega)
      injection e with e1 e2 e3
      subst e1 e3
      obtain ⟨x, hx, hcx, hfx⟩ := Own.at_ ho (k := k) hkn
      have hxb := hq.at_ hx
      have HX := Lib.hid (And.intro ho (And.intro hq (And.intro hv (And.intro hd (And.intro hB hx)))))
      clear ho hq hv hd hB hx
      go_wp2_with (first
        | (go_at_call 81; refine (mul64_c x t hxb ht _).mono ?_; rintro e w1 ⟨hi, lo, h3, h4, h5, rfl, rfl⟩; obtain ⟨s, d, a1, a2, a3, a4⟩ := add64_c lo mo 0 h4 hmo (by decide) w1; have a5 : (callFunc 82 #[.int .u64 lo, .int .u64 mo, .int .u64 0]).run Try.prog w1 = _ := a4; have hsum : hi + d < 18446744073709551616 := carry_lt h3 a1 hxb ht hmo; have HA := Lib.hid (And.intro h3 (And.intro h5 (And.intro a1 a2))); clear h3 a1 a4)
        )
      obtain ⟨ho, hq, hv, hd, hB, hx⟩ := HX.out
      have hlx : l[k]? = some x := by
        have := congrArg (fun m => m[0]?) hd
        simp only [List.getElem?_drop, Nat.add_zero] at this
        rw [← this, hx]
      have hkq : k < q.length := (List.getElem?_eq_some_iff.1 hx).1
      go_roundw
      case rel =>
        refine ⟨k + 1, hi + d, q.set k s, by go_num, congrArg _ (by omega), by omega, hsum, Own.put ho k s, hq.set HA.out.2.2.2, ?_, ?_, hB.setCell (by simp; exact hgb) _⟩
        · rw [val_take_succ 18446744073709551616 (i := k) (x := s) (by rw [List.getElem?_set_self hkq]), List.take_set_of_le (Nat.le_refl _), val_take_succ 18446744073709551616 hlx]
          exact shift_step HA.out.1 HA.out.2.2.1 rfl hv
        · rw [List.drop_set, if_pos (by omega)]
          have := congrArg (List.drop 1) hd
          simpa [List.drop_drop, Nat.add_comm] using this
      case measure => simp [intOf] <;> omega
    · obtain rfl : k = n := by omega
      have h1 : decide ((k : Int) < (k : Int)) = false := by simp
      have hvq : val 18446744073709551616 q + 18446744073709551616 ^ k * mo = val 18446744073709551616 l * t + more := by
        rw [List.take_of_length_le (by omega), List.take_of_length_le (by rw [← HO.out.2.2]; exact Nat.le_refl _)] at hv
        exact hv
      have HX := Lib.hid (And.intro ho (And.intro hq (And.intro hvq hB)))
      have hsz := hB.size
      clear ho hq hv hvq hd hB
      by_cases hm0 : mo = 0
      · subst hm0
        go_wp2
        go_ret
        exact ⟨_, q, rfl, by have := HX.out.1; unfold Own; rw [hql]; exact this, HX.out.2.1, by have := HX.out.2.2.1; simpa using this, .inl hql, HX.out.2.2.2⟩
      · have h2 : 0 < mo := by omega
        go_wp2_with (at_builtin; refine wpList_append_row (k := .u64) rfl _ _ rfl g Try.underlying74 info64 rfl (by decide) (.slice A k c) q [mo] (some ⟨_, 0, none⟩) 1 1 rfl rfl (World.ownsRow.alloc (by have := HX.out.1; rw [← hql] at this ⊢; exact this) _) (rw_newI _ _ mo rfl _) (by omega) (by simp; omega) ?_; intro v' w' ho' hg' _; have HG := Lib.hid (And.intro ho' hg'); clear ho' hg')
        go_ret
        refine ⟨v', q ++ [mo], rfl, HG.out.1, HX.out.2.1.snoc hmo, ?_, .inr ⟨by simp [hql], by simp; omega⟩, (HX.out.2.2.2.alloc (by omega) _).grown HG.out.2 (by simp; omega) (fun j hj => (World.ownsRow.lt HX.out.1 j hj).1)⟩
        rw [val_snoc, hql]
        exact HX.out.2.2.1
end Go.Proofs.Ytjocobfabdkadaa
namespace Go.Proofs.Ytjocobfabdkadaa
theorem decv_from : ∀ (m : List Nat) (a : Nat), m.foldl (fun n x => n * 10 + (x - 48)) a = a * 10 ^ m.length + decv m
  | [], a => by simp [decv]
  | x :: m, a => by
    have h1 := decv_from m (a * 10 + (x - 48))
    have h2 := decv_from m (0 * 10 + (x - 48))
    simp only [decv, List.foldl_cons, List.length_cons, Nat.pow_succ] at *
    rw [h1, h2, Nat.add_mul, Nat.add_mul, Nat.mul_assoc, Nat.mul_comm (10 ^ m.length) 10]
    omega
theorem decv_append (l m : List Nat) : decv (l ++ m) = decv l * 10 ^ m.length + decv m := by
  show (l ++ m).foldl _ 0 = _
  rw [List.foldl_append, decv_from]
  rfl
theorem bys_extract (s : ByteArray) (a b : Nat) : bys (s.extract a b) = ((bys s).drop a).take (b - a) := by
  simp [bys, ByteArray.data_extract]
theorem Dig.sub {l : List Nat} (h : ∀ x ∈ l, Dig x) (a n : Nat) : ∀ x ∈ (l.drop a).take n, Dig x := fun x hx => h x (List.mem_of_mem_drop (List.mem_of_mem_take hx))
theorem decv_part {l : List Nat} {a n : Nat} (h : a + n ≤ l.length) : decv (l.take (a + n)) = decv (l.take a) * 10 ^ n + decv ((l.drop a).take n) := by
  rw [List.take_add, decv_append, List.length_take, List.length_drop, Nat.min_eq_left (by omega)]
theorem last_trim {q : List Nat} (h : q.getLast? ≠ some 0) : trimLen q = q.length := by
  rcases List.eq_nil_or_concat q with rfl | ⟨m, x, rfl⟩
  · rfl
  · have hx : x ≠ 0 := by intro e; subst e; simp at h
    rw [List.concat_eq_append, trimLen_snoc, if_neg hx]
    simp
/-- What shift makes of a number's limbs is, again, a number's limbs. -/
theorem lim_shift {q l : List Nat} {t more M : Nat} (hl : Lim 18446744073709551616 l M) (hq : AllLt 18446744073709551616 q) (hv : val 18446744073709551616 q = M * t + more) (ht : 0 < t)
    (h : q.length = l.length ∨ (q.length = l.length + 1 ∧ q.getLast? ≠ some 0)) : Lim 18446744073709551616 q (M * t + more) := by
  refine ⟨hq, hv, ?_⟩
  rcases h with h | ⟨_, h⟩
  · by_cases h0 : l = []
    · subst h0
      have := List.eq_nil_of_length_eq_zero h
      subst this; rfl
    · have hle := trimLen_le q
      by_cases hc : trimLen q = q.length
      · exact hc
      · exfalso
        have h1 := val_lt 18446744073709551616 (by omega) (q.take (trimLen q)) (hq.take _)
        rw [val_trim, hv, List.length_take, Nat.min_eq_left hle] at h1
        have h2 := lim_ge 18446744073709551616 (by omega) l hl.2.2 h0
        rw [hl.2.1] at h2
        have h3 : 18446744073709551616 ^ trimLen q ≤ 18446744073709551616 ^ (l.length - 1) := Nat.pow_le_pow_right (by omega) (by omega)
        have h4 : M ≤ M * t := Nat.le_mul_of_pos_right _ ht
        omega
  · exact last_trim h
end Go.Proofs.Ytjocobfabdkadaa
