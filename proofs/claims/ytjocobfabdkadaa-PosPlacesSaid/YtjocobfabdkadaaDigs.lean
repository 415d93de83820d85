/- digits and small of package deci, by contract. -/
import Derived.Test.YtjocobfabdkadaaText
import Derived.Laws.RangeString
import Derived.Laws.RangeAny
namespace Go.Proofs.Ytjocobfabdkadaa
open Go.RowKit
attribute [local go_sem] alloc_drewN setCell_drewN
/-- The bytes of a string. -/
def bys (s : ByteArray) : List Nat := s.data.toList.map fun x => x.toNat
theorem bys_len (s : ByteArray) : (bys s).length = s.size := by unfold bys; rw [List.length_map]; rfl
theorem bys_at {s : ByteArray} {i : Nat} (h : i < s.size) : (bys s)[i]? = some (s[i]'h).toNat := by
  have h' : i < s.data.toList.length := h
  simp only [bys, List.getElem?_map, List.getElem?_eq_getElem h', Option.map_some]
  rfl
theorem empty_iff (s : ByteArray) : s.toList.isEmpty = true ↔ s.size = 0 := by
  rw [ByteArray.toList_eq, List.isEmpty_iff_length_eq_zero]
  rfl
def Dig (x : Nat) : Prop := 48 ≤ x ∧ x ≤ 57
instance (x : Nat) : Decidable (Dig x) := inferInstanceAs (Decidable (_ ∧ _))
/-- Are these bytes the digits of a number? -/
def isDec (l : List Nat) : Prop := l ≠ [] ∧ ¬ (l[0]? = some 48 ∧ 1 < l.length) ∧ ∀ x ∈ l, Dig x
instance (l : List Nat) : Decidable (isDec l) := inferInstanceAs (Decidable (_ ∧ _ ∧ _))
theorem iter_below (w : World) (s : ByteArray) (pos : Nat) : Below w.heap.size w (w.iter s pos) := (Below.refl _ _).alloc (Nat.le_refl _) _
set_option maxRecDepth 100000 in
set_option maxHeartbeats 4000000 in
theorem digits_ok_c (s : ByteArray) (w : World) :
    Calls Try.prog 72 #[.string s] w fun e w' => e = .returned (.bool (decide (isDec (bys s)))) ∧ Below w.heap.size w w' := by
  have hlen := bys_len s
  go_enter Try.func72, Try.ntmps72
  go_upto_region 1 with fail
  go_cut [16] from 5 (fun v16 wx => ∃ d : Bool, v16 = .bool d ∧ (d = true ↔ bys s = [] ∨ ((bys s)[0]? = some 48 ∧ 1 < (bys s).length)) ∧ wx = w)
  case first =>
    by_cases hs0 : s.size = 0
    · have hb0 : bys s = [] := List.eq_nil_of_length_eq_zero (by omega)
      have he := (empty_iff s).2 hs0
      have HS := Lib.hid (And.intro hs0 hb0)
      clear hs0 hb0
      go_wp2
      go_meet
      exact ⟨true, rfl, by simp [HS.out.2], rfl⟩
    · have hb0 : bys s ≠ [] := fun e => hs0 (by rw [← hlen, e]; rfl)
      have he : s.toList.isEmpty = false := by
        cases h : s.toList.isEmpty with
        | false => rfl
        | true => exact absurd ((empty_iff s).1 h) hs0
      have hsp : 0 < s.size := by omega
      have hx := bys_at hsp
      by_cases h48 : (s[0]'hsp).toNat = 48
      · have h1 : (((s[0]'hsp).toNat : Int) == 48) = true := by simp [h48]
        have HS := Lib.hid (And.intro hb0 (And.intro hx h48))
        clear hb0 hx h48 hlen hs0
        go_wp2
        go_meet
        refine ⟨_, congrArg Value.bool (Eq.refl _), ?_, rfl⟩
        obtain ⟨hb0, hx, h48⟩ := HS.out
        rw [hx, h48, bys_len]
        simp [hb0]
        omega
      · have h1 : (((s[0]'hsp).toNat : Int) == 48) = false := beq_false_of_ne (by omega)
        have HS := Lib.hid (And.intro hb0 (And.intro hx h48))
        clear hb0 hx h48 hlen hs0
        go_wp2
        go_meet
        refine ⟨false, rfl, ?_, rfl⟩
        obtain ⟨hb0, hx, h48⟩ := HS.out
        rw [hx]
        simp [hb0, h48]
  case rest =>
    obtain ⟨d, rfl, hd, rfl⟩ := hcut
    cases d with
    | true =>
      have HD := Lib.hid (hd.1 rfl)
      clear hd
      go_wp2
      go_ret
      refine ⟨congrArg Ending.returned (congrArg Value.bool ?_), Below.refl _ _⟩
      have h := HD.out
      symm
      rw [decide_eq_false_iff_not]
      rintro ⟨h1, h2, _⟩
      rcases h with h | h
      · exact h1 h
      · exact h2 h
    | false =>
      have HD := Lib.hid hd
      clear hd
      go_wp2_with fail
      go_loopw [] (fun w' => ∃ pos, w' = wc.iter s pos ∧ pos ≤ s.size ∧ ∀ x ∈ (bys s).take pos, Dig x) (fun w' => s.size - w'.iterPos wc.heap.size)
      case atStart => exact ⟨0, rfl, Nat.zero_le _, by simp⟩
      case round =>
        obtain ⟨pos, rfl, hps, hall⟩ := hrel
        have HA := Lib.hid hall
        clear hall
        by_cases hp : pos < s.size
        · have hnx : ∀ ty, (Instr.next (.pointer (some ⟨wc.heap.size, 0, none⟩)) true ty).run Try.prog (wc.iter s pos) = _ := fun ty => run_next_any wc s pos ty hp
          have hx := bys_at hp
          by_cases hd8 : Dig (s[pos]'hp).toNat
          · have hdc := decode_ascii s pos hp (by have := hd8.2; omega)
            rw [hdc] at hnx
            have h1 : decide (((s[pos]'hp).toNat : Int) < 48) = false := by have := hd8.1; simp; omega
            have h2 : decide ((57 : Int) < ((s[pos]'hp).toNat : Int)) = false := by have := hd8.2; simp; omega
            have HX := Lib.hid (And.intro hx (And.intro hd8 hdc))
            clear hx hd8 hdc
            go_wp2
            go_roundw
            case rel =>
              refine ⟨pos + 1, rfl, by omega, fun x hxm => ?_⟩
              obtain ⟨g1, g2⟩ := List.getElem?_eq_some_iff.1 HX.out.1
              rw [List.take_succ_eq_append_getElem g1] at hxm
              rcases List.mem_append.1 hxm with h | h
              · exact HA.out x h
              · rw [List.mem_singleton.1 h, g2]; exact HX.out.2.1
            case measure => simp; omega
          · have hV : (Utf8.decode s pos).1 < 48 ∨ 57 < (Utf8.decode s pos).1 := by
              by_cases ha : (s[pos]'hp).toNat < 128
              · rw [decode_ascii s pos hp ha]
                have h : ¬ (48 ≤ (s[pos]'hp).toNat ∧ (s[pos]'hp).toNat ≤ 57) := hd8
                show (s[pos]'hp).toNat < 48 ∨ 57 < (s[pos]'hp).toNat
                omega
              · have := (decode_high s pos hp (by omega)).1
                omega
            generalize Utf8.decode s pos = D at hnx hV
            obtain ⟨V, U⟩ := D
            simp only at hV hnx
            by_cases hV8 : V < 48
            · have h1 : decide ((V : Int) < 48) = true := by simp; omega
              have H3 := Lib.hid (And.intro hx (And.intro hd8 hV))
              clear hx hd8 hV
              go_wp2
              go_ret
              refine ⟨congrArg Ending.returned (congrArg Value.bool ?_), iter_below _ _ _⟩
              symm
              rw [decide_eq_false_iff_not]
              rintro ⟨_, _, h3⟩
              exact H3.out.2.1 (h3 _ (List.mem_of_getElem? H3.out.1))
            · have h1 : decide ((V : Int) < 48) = false := by simp; omega
              have h2 : decide ((57 : Int) < (V : Int)) = true := by simp; omega
              have H3 := Lib.hid (And.intro hx (And.intro hd8 hV))
              clear hx hd8 hV
              go_wp2
              go_ret
              refine ⟨congrArg Ending.returned (congrArg Value.bool ?_), iter_below _ _ _⟩
              symm
              rw [decide_eq_false_iff_not]
              rintro ⟨_, _, h3⟩
              exact H3.out.2.1 (h3 _ (List.mem_of_getElem? H3.out.1))
        · have hnx : ∀ ty, (Instr.next (.pointer (some ⟨wc.heap.size, 0, none⟩)) true ty).run Try.prog (wc.iter s pos) = _ := fun ty => run_next_end wc s pos ty hp
          go_wp2
          go_ret
          refine ⟨congrArg Ending.returned (congrArg Value.bool ?_), iter_below _ _ _⟩
          symm
          rw [decide_eq_true_iff]
          have h := HD.out
          simp only [Bool.false_eq_true, false_iff, not_or] at h
          have ha := HA.out
          rw [List.take_of_length_le (by omega)] at ha
          exact ⟨h.1, h.2, ha⟩
end Go.Proofs.Ytjocobfabdkadaa
