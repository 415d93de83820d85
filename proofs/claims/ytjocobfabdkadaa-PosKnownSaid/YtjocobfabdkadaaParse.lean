/- Parse of package deci, by contract. Texts of at most 1000 bytes; any cap. -/
import Derived.Test.YtjocobfabdkadaaParsep
import Derived.Deep.CutBlock
namespace Go.Proofs.Ytjocobfabdkadaa
open Go.RowKit
attribute [local go_sem] alloc_drewN setCell_drewN
/-- What Parse answers (behind a name: a walk parts at an 'if'). -/
def ParseOk (s : ByteArray) (c : Int) (w : World) (e : Ending) (w' : World) : Prop := ∃ A n d, e = .returned (.tuple #[.agg #[.slice A n d], .int .i64 (if isDec (bys s) then (if fitB c (decv (bys s)) then 0 else 10) else 20)]) ∧ IsNat 0 w' (.agg #[.slice A n d]) (if isDec (bys s) ∧ fitB c (decv (bys s)) = true then decv (bys s) else 0) ∧ Below w.heap.size w w'
theorem small_lt {s : ByteArray} {a b : Nat} (h : ∀ x ∈ bys s, Dig x) (hb : b - a ≤ 19) : decv (bys (s.extract a b)) < 18446744073709551616 := by
  rw [bys_extract]
  have hd := Dig.sub h a (b - a)
  have h1 := decv_lt hd _ (Nat.le_refl _)
  rw [List.take_length] at h1
  have h2 : 10 ^ (List.take (b - a) (List.drop a (bys s))).length ≤ 10 ^ 19 := Nat.pow_le_pow_right (by omega) (by rw [List.length_take]; omega)
  have h3 : (10 : Nat) ^ 19 < 18446744073709551616 := by decide
  omega
set_option maxRecDepth 100000 in
set_option maxHeartbeats 8000000 in
theorem parse_c (s : ByteArray) (c : Int) (w : World) (hs : s.size ≤ 1000) :
    Calls Try.prog 61 #[.string s, .int .i64 c] w (ParseOk s c w) := by
  have hkr := Bk.new w 76 #[.slice none 0 0]
  have HW := Lib.hid (And.intro ((Below.refl _ w).alloc (Nat.le_refl _) (.cells #[.slice none 0 0] 76)) hkr)
  clear hkr
  have hlen := bys_len s
  go_enter Try.func61, Try.ntmps61
  by_cases hd : isDec (bys s)
  · have HD := Lib.hid hd
    have hdt : decide (isDec (bys s)) = true := decide_eq_true hd
    clear hd
    go_upto_region 3 with (go_at_call 72; refine (digits_ok_c s _).mono ?_; rintro e w1 ⟨rfl, hb⟩; rw [hdt]; have HB := Lib.hid (And.intro (HW.out.1.trans (hb.mono HW.out.1.size)) (HW.out.2.keep hb)); clear hb)
    go_upto_region 5 with (first
      | (go_at_call 74; refine (sml_c (s.extract 0 (s.size % 19)) _ (by rw [← bys_len, bys_extract]; simp; omega) (by rw [bys_extract]; exact Dig.sub HD.out.2.2 _ _)).mono ?_; rintro e w2 ⟨rfl, hb⟩; have hk := HB.out.2.keep hb; have HC := Lib.hid (And.intro (HB.out.1.trans (hb.mono HB.out.1.size)) hk); clear hb hk)
      | (go_at_call 73; refine (shift_c (w.heap.size + 1) 1 _ _ [] _ (World.ownsRow_nil _ _ _ _) (fun _ h => (by cases h)) (by decide) (small_lt HD.out.2.2 (by omega)) (by decide) (by have := HC.out.2.lt; omega)).mono ?_; rintro e w3 ⟨v3, q3, rfl, hS⟩; have HS := Lib.hid hS; clear hS))
    obtain ⟨hoS, hqS, hvS, hlS, hbS⟩ := HS.out
    have hcap0 : Lim 18446744073709551616 q3 (decv ((bys s).take (s.size % 19))) := by
      have := lim_shift (M := 0) (t := 1) (Lim.nil _) hqS hvS (by decide) hlS
      rw [bys_extract] at this
      simpa using this
    have HI := Lib.hid (And.intro hoS (And.intro hcap0 (And.intro ((HC.out.2.below hbS (by omega))) (HC.out.1.trans (hbS.mono (by omega))))))
    clear hoS hqS hvS hlS hbS hcap0 HS
    go_wp2_with fail
    go_loopw [7, 8] (fun v a wr => ∃ (at0 : Nat) (q : List Nat), a = .int .i64 at0 ∧ at0 ≤ s.size ∧ (s.size - at0) % 19 = 0 ∧ Own (w.heap.size + 1) wr v q ∧ Lim 18446744073709551616 q (decv ((bys s).take at0)) ∧ Bk wr w.heap.size 76 #[.slice none 0 0] ∧ Below w.heap.size w wr) (fun _ a _ => s.size - (intOf a).toNat)
    case atStart => exact ⟨s.size % 19, q3, by simp, by omega, by omega, HI.out.1, HI.out.2.1, HI.out.2.2.1, HI.out.2.2.2⟩
    case round =>
      obtain ⟨i, q, rfl, hi, h19, ho, hlim, hk, hB⟩ := hrel
      have hsz := hB.size
      have hks := hk.lt
      have HQ := Lib.hid (And.intro ho (And.intro hlim (And.intro hk (And.intro hB h19))))
      clear ho hlim hk hB h19
      by_cases his : i < s.size
      · have hi19 : i + 19 ≤ s.size := by have := HQ.out.2.2.2.2; omega
        have h1 : decide ((i : Int) < (s.size : Int)) = true := by simp <;> omega
        have hql : q.length ≤ 1000 := by
          have h1 := decv_lt HD.out.2.2 i (by omega)
          have h2 : 10 ^ i ≤ 18446744073709551616 ^ i := Nat.pow_le_pow_left (by omega) i
          have := HQ.out.2.1.len (s := i) ⟨Nat.lt_of_lt_of_le h1 h2⟩
          omega
        go_upto_region 9 with (first
          | (go_at_call 74; refine (sml_c (s.extract i (i + 19)) _ (by rw [← bys_len, bys_extract]; simp; omega) (by rw [bys_extract]; exact Dig.sub HD.out.2.2 _ _)).mono ?_; rintro e w4 ⟨rfl, hb⟩; have HS4 := Lib.hid hb; clear hb)
          | (go_at_call 73; refine (shift_c (w.heap.size + 1) 10000000000000000000 _ _ q _ (HQ.out.1.keep HS4.out) HQ.out.2.1.1 (by decide) (small_lt HD.out.2.2 (by omega)) hql (by have := HS4.out.size; omega)).mono ?_; rintro e w5 ⟨v5, q5, rfl, hS⟩; obtain ⟨A5, d5, rfl, _⟩ := hS.1.slice; have HS5 := Lib.hid hS; clear hS))
        go_cut [41] from 23 to 42 (fun v41 wx => ∃ b : Bool, v41 = .bool b ∧ (b = true ↔ max 0 c < (q5.length : Int)) ∧ wx = w5)
        case first =>
          go_wp2
          go_meet
          exact ⟨_, congrArg Value.bool (Eq.refl _), by simp, rfl⟩
        case rest =>
          obtain ⟨b, rfl, hbc, rfl⟩ := hcut
          obtain ⟨ho, hlim, hk, hB, h19⟩ := HQ.out
          obtain ⟨o5, l5, v5, n5, b5⟩ := HS5.out
          have hk5 := (hk.keep HS4.out).below b5 (by omega)
          have hB5 := (hB.trans (HS4.out.mono hsz)).trans (b5.mono (by omega))
          have hlim5 : Lim 18446744073709551616 q5 (decv ((bys s).take (i + 19))) := by
            rw [hlim.2.1] at v5
            have := lim_shift hlim l5 v5 (by decide) n5
            rw [bys_extract, show i + 19 - i = 19 by omega] at this
            rw [decv_part (by omega)]
            exact this
          have H5 := Lib.hid (And.intro o5 (And.intro hlim5 (And.intro hk5 hB5)))
          have HBC := Lib.hid hbc
          clear ho hlim hk hB o5 l5 v5 n5 b5 hk5 hB5 hlim5 hbc
          cases b with
          | true =>
            have c5 := H5.out.2.2.1.cell 0
            have f5 := H5.out.2.2.1.frozen 0
            have z5 := H5.out.2.2.1.lt
            simp at c5
            go_wp2_with fail
            have hf5 : fitB c (decv ((bys s).take (i + 19))) = false := by
              rw [← fitB_len H5.out.2.1 c]
              have := HBC.out.1 (by simp)
              exact decide_eq_false (by omega)
            have hle5 : decv ((bys s).take (i + 19)) ≤ decv (bys s) := by
              have e := decv_append ((bys s).take (i + 19)) ((bys s).drop (i + 19))
              rw [List.take_append_drop] at e
              have := Nat.le_mul_of_pos_right (decv ((bys s).take (i + 19))) (Nat.pow_pos (show 0 < 10 by omega) : 0 < 10 ^ ((bys s).drop (i + 19)).length)
              omega
            have hfN : fitB c (decv (bys s)) = false := by
              cases h : fitB c (decv (bys s)) with
              | false => rfl
              | true => rw [fitB_le h hle5] at hf5; cases hf5
            refine bodyPost_ret (v := .tuple #[.agg #[.slice none 0 0], .int .i64 10]) (by simp [results, Try.results61, go_sem, H5.out.2.2.1.res1]) rfl ⟨none, 0, 0, by rw [if_pos HD.out, hfN]; rfl, by rw [if_neg (fun h => by rw [hfN] at h; cases h.2)]; exact isNat_zero _ _, H5.out.2.2.2.setCell (by simp) _⟩
          | false =>
            go_wp2_with fail
            go_roundw
            case rel => exact ⟨i + 19, q5, by go_num, by omega, by omega, H5.out.1, H5.out.2.1, H5.out.2.2.1, H5.out.2.2.2⟩
            case measure => simp [intOf] <;> omega
      · obtain rfl : i = s.size := by omega
        have h1 : decide ((s.size : Int) < (s.size : Int)) = false := by simp
        have hql : q.length ≤ 1000 := by
          have h1 := decv_lt HD.out.2.2 s.size (by omega)
          have h2 : 10 ^ s.size ≤ 18446744073709551616 ^ s.size := Nat.pow_le_pow_left (by omega) s.size
          have := HQ.out.2.1.len (s := s.size) ⟨Nat.lt_of_lt_of_le h1 h2⟩
          omega
        obtain ⟨A6, d6, rfl, hr6, hc6, _⟩ := HQ.out.1.slice
        have HR6 := Lib.hid (And.intro hr6 hc6)
        clear hr6 hc6
        go_upto_region 12 with (go_at_call 75; refine (limbs_c _ q.length d6 q _ HR6.out.1 HQ.out.2.1.1 (by omega) HR6.out.2).mono ?_; rintro e w6 ⟨v6, rfl, hv6, hb⟩; obtain ⟨A7, n7, c7, l7, rfl, hx7⟩ := hv6; have HL6 := Lib.hid (And.intro hx7 hb); clear hx7 hb)
        have hN : decv ((bys s).take s.size) = decv (bys s) := by rw [List.take_of_length_le (by omega)]
        have hx7 : IsNat wr.heap.size w6 (.agg #[.slice A7 n7 c7]) (decv (bys s)) := by
          have : IsNat wr.heap.size w6 (.agg #[.slice A7 n7 c7]) (val 18446744073709551616 q) := ⟨A7, n7, c7, l7, rfl, HL6.out.1⟩
          rw [HQ.out.2.1.2.1, hN] at this
          exact this
        have hW6 : Below w.heap.size w w6 := HQ.out.2.2.2.1.trans (HL6.out.2.mono hsz)
        have hk6 := HQ.out.2.2.1.keep HL6.out.2
        have H7 := Lib.hid (And.intro (hx7.alloc (.cells #[.slice A7 n7 c7] 76)) (And.intro (hW6.alloc hW6.size (.cells #[.slice A7 n7 c7] 76)) (And.intro (hk6.alloc (.cells #[.slice A7 n7 c7] 76)) (Bk.new w6 76 #[.slice A7 n7 c7]))))
        clear hx7 hW6 hk6
        obtain ⟨b, hfb⟩ : ∃ b, fitB c (decv (bys s)) = b := ⟨_, rfl⟩
        have HF := Lib.hid hfb
        clear hfb
        cases b with
        | false =>
          go_wp2_with (go_at_call 76; refine (fits_c _ c _ (decv (bys s)) _ H7.out.1).mono ?_; rintro e w8 ⟨rfl, hb⟩; rw [HF.out]; have k9 := H7.out.2.2.2.keep hb; have k4 := H7.out.2.2.1.keep hb; have c9 := k9.cell 0; have c4 := k4.cell 0; have f4 := k4.frozen 0; have z4 := k4.lt; simp at c9 c4; have H8 := Lib.hid (And.intro (H7.out.2.1.trans (hb.mono H7.out.2.1.size)) (And.intro k4 (H7.out.1.keep hb))); clear hb k9 k4)
          refine bodyPost_ret (v := .tuple #[.agg #[.slice none 0 0], .int .i64 10]) (by simp [results, Try.results61, go_sem, H8.out.2.1.res1]) rfl ⟨none, 0, 0, by rw [if_pos HD.out, HF.out]; rfl, by rw [if_neg (fun h => by rw [HF.out] at h; cases h.2)]; exact isNat_zero _ _, H8.out.1.setCell (by simp) _⟩
        | true =>
          go_wp2_with (go_at_call 76; refine (fits_c _ c _ (decv (bys s)) _ H7.out.1).mono ?_; rintro e w8 ⟨rfl, hb⟩; rw [HF.out]; have k9 := H7.out.2.2.2.keep hb; have k4 := H7.out.2.2.1.keep hb; have c9 := k9.cell 0; have c4 := k4.cell 0; have f4 := k4.frozen 0; have z4 := k4.lt; simp at c9 c4; have H8 := Lib.hid (And.intro (H7.out.2.1.trans (hb.mono H7.out.2.1.size)) (And.intro k4 (H7.out.1.keep hb))); clear hb k9 k4)
          refine bodyPost_ret (v := .tuple #[.agg #[.slice A7 n7 c7], .int .i64 0]) (by simp [results, Try.results61, go_sem, H8.out.2.1.res1]) rfl ⟨A7, n7, c7, by rw [if_pos HD.out, HF.out]; rfl, by rw [if_pos ⟨HD.out, HF.out⟩]; exact (H8.out.2.2.far (by simpa using hks)).mono (Nat.zero_le _), H8.out.1.setCell (by simp) _⟩
  · have HD := Lib.hid hd
    have hdf : decide (isDec (bys s)) = false := decide_eq_false hd
    clear hd
    go_wp2_with (go_at_call 72; refine (digits_ok_c s _).mono ?_; rintro e w1 ⟨rfl, hb⟩; rw [hdf]; have hk := HW.out.2.keep hb; have c1 := hk.cell 0; have f1 := hk.frozen 0; have z1 := hk.lt; simp at c1; have HB := Lib.hid (And.intro (HW.out.1.trans (hb.mono HW.out.1.size)) hk); clear hb hk)
    refine bodyPost_ret (v := .tuple #[.agg #[.slice none 0 0], .int .i64 20]) (by simp [results, Try.results61, go_sem, HB.out.2.res1]) rfl ⟨none, 0, 0, by rw [if_neg HD.out], by rw [if_neg (fun h => HD.out h.1)]; exact isNat_zero _ _, HB.out.1.setCell (by simp) _⟩
end Go.Proofs.Ytjocobfabdkadaa
