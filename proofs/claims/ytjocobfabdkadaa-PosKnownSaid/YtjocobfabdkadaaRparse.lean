/- The document's Parse and ParseWhole, by contract: texts of at most 60 bytes. -/
import Derived.Test.YtjocobfabdkadaaRnum
import Derived.Deep.DeepCutAuto
namespace Go.Proofs.Ytjocobfabdkadaa
open Go.RowKit
attribute [local go_sem] alloc_drewN setCell_drewN
theorem number_bad {s : ByteArray} {l : List Nat} {w : World} (hs : s.size ≤ 60) (hl : bys s = l) (h : ¬ isDec l) :
    Calls Try.prog 50 #[.string s] w fun e w' => ∃ A n c l N, e = .returned (.tuple #[.slice A n c, .bool false]) ∧ Rw .u8 w' A n l ∧ Lim 256 l N ∧ n ≤ 2000 ∧ Below w.heap.size w w' := by
  subst hl
  refine (refNumber_c s w hs).mono fun e w' ⟨x, N, he, hi, hN, hf, hb⟩ => ?_
  rw [decide_eq_false h] at he
  obtain ⟨A, n, c, l, rfl, hr, hl, _⟩ := hi
  exact ⟨A, n, c, l, N, he, hr, hl, by rw [← hr.1]; exact Nat.le_trans (hl.lenB hf) (by decide), hb⟩
theorem number_good {s : ByteArray} {l : List Nat} {w : World} (hs : s.size ≤ 60) (hl : bys s = l) (h : isDec l) :
    Calls Try.prog 50 #[.string s] w fun e w' => ∃ A n c k, e = .returned (.tuple #[.slice A n c, .bool true]) ∧ IsByt w' (.slice A n c) (decv l) ∧ FitB (decv l) 60 ∧ Rw .u8 w' A n k ∧ Lim 256 k (decv l) ∧ n ≤ 2000 ∧ Below w.heap.size w w' := by
  subst hl
  refine (refNumber_c s w hs).mono fun e w' ⟨x, N, he, hi, hN, hf, hb⟩ => ?_
  rw [decide_eq_true h] at he
  rw [hN h] at hi hf
  obtain ⟨A, n, c, l, rfl, hr, hl, h4⟩ := hi
  exact ⟨A, n, c, l, he, ⟨A, n, c, l, rfl, hr, hl, h4⟩, hf, hr, hl, by rw [← hr.1]; exact Nat.le_trans (hl.lenB hf) (by decide), hb⟩
/-- What the document's Parse answers. -/
def RparseOk (l : List Nat) (c : Int) (w : World) (e : Ending) (w' : World) : Prop := ∃ x, e = .returned (.tuple #[x, .int .i64 (if isDec l then (if fitB c (decv l) then 0 else 10) else 20)]) ∧ IsByt w' x (if isDec l ∧ fitB c (decv l) = true then decv l else 0) ∧ Below w.heap.size w w'
/-! ### ParseWhole -/
theorem wdec_neg (N : Nat) (h : 0 < N) : wdec (-(N : Int)) = 45 :: dec N := by
  unfold wdec
  rw [if_pos (by omega)]
  congr 2
  omega
theorem wdec_pos (N : Nat) : wdec (N : Int) = dec N := by
  unfold wdec
  rw [if_neg (by omega)]
  rfl
theorem mag_neg {l : List Nat} (h : neg l = true) : l = 45 :: mag l := by
  unfold mag
  rw [if_pos h]
  unfold neg at h
  have h := of_decide_eq_true h
  cases l with
  | nil => simp at h
  | cons x m => simp at h; subst h; rfl
theorem mag_pos {l : List Nat} (h : neg l = false) : l = mag l := by
  unfold mag
  rw [h]
  rfl
theorem dig_ne {l : List Nat} (h : ∀ x ∈ l, Dig x) (m : List Nat) : l ≠ 45 :: m := fun e => by
  have := h 45 (by rw [e]; simp)
  exact absurd this (by decide)
/-- What the document's ParseWhole asks, and what it answers then. -/
def outv (b : Bool) (N : Nat) : Int := if b then wrap64 (-(wrap64 (N : Int))) else wrap64 (N : Int)
theorem outv_true (N : Nat) : outv true N = wrap64 (-(wrap64 (N : Int))) := by unfold outv; rw [if_pos rfl]
theorem outv_false (N : Nat) : outv false N = wrap64 (N : Int) := by unfold outv; rw [if_neg Bool.false_ne_true]
theorem outv_range (b : Bool) (N : Nat) : -9223372036854775808 ≤ outv b N ∧ outv b N ≤ 9223372036854775807 := by
  unfold outv wrap64
  cases b <;> simp <;> omega
theorem pw_iff {l : List Nat} {b : Bool} {N : Nat} (hb : neg l = b) (hd : isDec (mag l)) (hN : decv (mag l) = N) (hlt : N < 18446744073709551616) : wdec (outv b N) = l ↔ pwOk l := by
  have hdec := dec_decv hd
  rw [hN] at hdec
  unfold pwOk
  rw [hb, hN]
  cases b with
  | true =>
    have hl := mag_neg hb
    unfold outv
    rw [if_pos rfl]
    by_cases h0 : N = 0
    · constructor
      · intro h
        exfalso
        subst h0
        have e : wrap64 (-(wrap64 ((0 : Nat) : Int))) = ((0 : Nat) : Int) := by unfold wrap64; omega
        rw [e, wdec_pos, hl] at h
        exact dig_ne (dig_dec 0) _ h
      · rintro ⟨_, _, h⟩; exact absurd ⟨rfl, h0⟩ h
    · by_cases hm : N ≤ 9223372036854775808
      · have e : wrap64 (-(wrap64 (N : Int))) = -(N : Int) := by unfold wrap64; omega
        rw [e, wdec_neg N (by omega), hdec, ← hl]
        exact ⟨fun _ => ⟨hd, hm, fun h => h0 h.2⟩, fun _ => rfl⟩
      · constructor
        · intro h
          exfalso
          obtain ⟨K, hK⟩ : ∃ K : Nat, wrap64 (-(wrap64 (N : Int))) = (K : Int) := ⟨(wrap64 (-(wrap64 (N : Int)))).toNat, by unfold wrap64; omega⟩
          rw [hK, wdec_pos, hl] at h
          exact dig_ne (dig_dec K) _ h
        · rintro ⟨_, h, _⟩; exact absurd h hm
  | false =>
    have hl := mag_pos hb
    unfold outv
    rw [if_neg (by decide)]
    by_cases hm : N ≤ 9223372036854775807
    · have e : wrap64 (N : Int) = (N : Int) := by unfold wrap64; omega
      rw [e, wdec_pos, hdec, ← hl]
      exact ⟨fun _ => ⟨hl ▸ hd, hm, fun h => (by cases h.1)⟩, fun _ => rfl⟩
    · constructor
      · intro h
        exfalso
        obtain ⟨K, hK, hK0⟩ : ∃ K : Nat, wrap64 (N : Int) = -(K : Int) ∧ 0 < K := ⟨(-(wrap64 (N : Int))).toNat, by unfold wrap64; omega, by unfold wrap64; omega⟩
        rw [hK, wdec_neg K hK0] at h
        rw [hl] at h
        exact dig_ne hd.2.2 _ h.symm
      · rintro ⟨_, h, _⟩; exact absurd h hm
theorem pw_val {l : List Nat} {b : Bool} {N : Nat} (hb : neg l = b) (hN : decv (mag l) = N) (h : pwOk l) : outv b N = if b then -(N : Int) else N := by
  obtain ⟨_, h2, h3⟩ := h
  rw [hb, hN] at h2 h3
  unfold outv wrap64
  cases b with
  | true =>
    have : N ≤ 9223372036854775808 := h2
    simp
    omega
  | false =>
    have : N ≤ 9223372036854775807 := h2
    simp
    omega
theorem wdec_byte (n : Int) : ∀ x ∈ wdec n, x < 256 := by
  unfold wdec
  by_cases h : n < 0
  · rw [if_pos h]
    intro x hx
    rcases List.mem_cons.1 hx with rfl | hx
    · decide
    · exact dec_byte _ x hx
  · rw [if_neg h]
    exact dec_byte _
theorem limbs_few {w : World} {g : Nat} {x : Value} {r : List Nat} {N : Nat} (ho : Own g w x r) (hl : Lim 18446744073709551616 r N) :
    (N = 0 ∧ ∃ A c, x = .slice A 0 c) ∨ (N < 18446744073709551616 ∧ ∃ b off c, x = .slice (some ⟨b, off, none⟩) 1 c ∧ w.cell? ⟨b, off, none⟩ = some (.int .u64 N)) ∨ (18446744073709551616 ≤ N ∧ ∃ A n c, x = .slice A (n + 2) c) := by
  obtain ⟨A, c, rfl, hr, _⟩ := ho.slice
  rcases lim_small hl with ⟨rfl, h⟩ | ⟨rfl, h⟩ | ⟨h1, h2⟩
  · exact .inl ⟨h, A, c, rfl⟩
  · obtain ⟨b, off, e, _, hc⟩ := hr.2 (by simp)
    have := hc 0 N rfl
    subst e
    exact .inr (.inl ⟨h, b, off, c, rfl, this⟩)
  · exact .inr (.inr ⟨h2, A, r.length - 2, c, by rw [show r.length - 2 + 2 = r.length by omega]⟩)
set_option maxRecDepth 100000 in
set_option maxHeartbeats 16000000 in
theorem refPw_false (s : ByteArray) (w : World) (hs : s.size ≤ 60) (hb0 : neg (bys s) = false) :
    Calls Try.prog 37 #[.string s] w (PwOk (bys s) w) := by
  have hlen := bys_len s
  have HNB := Lib.hid hb0
  clear hb0
  go_enter Try.func37, Try.ntmps37
  go_upto_region 1 with fail
  go_cut [4] from 11 to 18 (fun v4 wx => v4 = .bool false ∧ wx = w)
  case first =>
    by_cases hs0 : s.size = 0
    · have hb0 : bys s = [] := List.eq_nil_of_length_eq_zero (by omega)
      have he := (empty_iff s).2 hs0
      have HS := Lib.hid (And.intro hs0 hb0)
      clear hs0 hb0 hlen
      go_wp2
      go_meet
      exact ⟨congrArg Value.bool (Eq.refl _), rfl⟩
    · have he : s.toList.isEmpty = false := by
        cases h : s.toList.isEmpty with
        | false => rfl
        | true => exact absurd ((empty_iff s).1 h) hs0
      have hsp : 0 < s.size := by omega
      have hx := bys_at hsp
      by_cases h45 : (s[0]'hsp).toNat = 45
      · have h1 : (((s[0]'hsp).toNat : Int) == 45) = true := by simp [h45]
        have HS := Lib.hid (And.intro hx h45)
        clear hx h45 hlen hs0
        go_wp2
        go_meet
        have h := HNB.out; unfold neg at h; rw [HS.out.1, HS.out.2] at h; exact absurd h (by decide)
      · have h1 : (((s[0]'hsp).toNat : Int) == 45) = false := beq_false_of_ne (by omega)
        have HS := Lib.hid (And.intro hx h45)
        clear hx h45 hlen hs0
        go_wp2
        go_meet
        exact ⟨congrArg Value.bool (Eq.refl _), rfl⟩
  case rest =>
    obtain ⟨rfl, rfl⟩ := hcut
    have hb := HNB.out
    have hm : bys s = mag (bys s) := by unfold mag; rw [hb]; rfl
    have hsz := hs
    by_cases hd : isDec (mag (bys s))
    · obtain ⟨N, hN⟩ : ∃ N, decv (mag (bys s)) = N := ⟨_, rfl⟩
      have HG := Lib.hid (And.intro hb (And.intro hm (And.intro hN hd)))
      clear hb hm hN hd
      go_upto_region 6 with (go_at_call 50; refine (number_good hsz HG.out.2.1 HG.out.2.2.2).mono ?_; rintro e w1 ⟨A, n, d, k, rfl, hx, hf, hr, hl, hn, hb⟩; rw [HG.out.2.2.1] at hl; have HX := Lib.hid (And.intro hr (And.intro hl (And.intro hn hb))); clear hx hf hr hl hn hb)
      go_upto_region 7 with (go_at_call 51; refine (refLimbs_c A n d k N _ HX.out.1 HX.out.2.1 HX.out.2.2.1).mono ?_; rintro e w2 ⟨x, r, rfl, ho, hl, hb⟩; have hff := limbs_few ho hl; have HL := Lib.hid hff; have HB := Lib.hid (HX.out.2.2.2.trans (hb.mono HX.out.2.2.2.size)); clear ho hl hb hff)
      have hR := outv_range false N
      have hE := str_eq (wdec_byte (outv false N)) s
      rcases HL.out with ⟨h0, A2, c2, rfl⟩ | ⟨h1, b2, o2, c2, rfl, hc⟩ | ⟨h1, A2, n2, c2, rfl⟩
      · subst h0
        have hlt : (0 : Nat) < 18446744073709551616 := by decide
        by_cases hok : wdec (outv false 0) = bys s
        · rw [decide_eq_true hok] at hE
          have HK := Lib.hid (And.intro hok hlt)
          clear hok hlt
          have hv : outv false 0 = 0 := by simp [outv, wrap64]
          rw [hv] at hE hR
          have HV := Lib.hid hv
          clear hv
          go_wp2_with (go_at_call 33; refine (refWhole_c 0 _ (by decide) (by decide)).mono ?_; rintro e w3 ⟨rfl, hb⟩; have HW := Lib.hid hb; clear hb)
          go_ret2
          have hpw := (pw_iff HG.out.1 HG.out.2.2.2 HG.out.2.2.1 HK.out.2).1 HK.out.1
          exact PwOk.good hpw HG.out.1 HG.out.2.2.1 (by rw [← pw_val HG.out.1 HG.out.2.2.1 hpw]; first | exact HV.out.symm | exact HV2.out) (HB.out.trans (HW.out.mono HB.out.size))
        · rw [decide_eq_false hok] at hE
          have HK := Lib.hid (And.intro hok hlt)
          clear hok hlt
          have hv : outv false 0 = 0 := by simp [outv, wrap64]
          rw [hv] at hE hR
          have HV := Lib.hid hv
          clear hv
          go_wp2_with (go_at_call 33; refine (refWhole_c 0 _ (by decide) (by decide)).mono ?_; rintro e w3 ⟨rfl, hb⟩; have HW := Lib.hid hb; clear hb)
          go_ret2
          exact PwOk.bad (fun h => HK.out.1 ((pw_iff HG.out.1 HG.out.2.2.2 HG.out.2.2.1 HK.out.2).2 h)) (HB.out.trans (HW.out.mono HB.out.size))
      · have hlt := h1
        by_cases hok : wdec (outv false N) = bys s
        · rw [decide_eq_true hok] at hE
          have HK := Lib.hid (And.intro hok hlt)
          clear hok hlt h1
          obtain ⟨v, hv⟩ : ∃ v, v = outv false N := ⟨_, rfl⟩
          have hv2 : wrap64 (N : Int) = v := by rw [hv, outv_false]
          rw [← hv] at hE hR
          have HV := Lib.hid hv.symm
          have HV2 := Lib.hid hv2
          clear hv hv2
          go_wp2_with (go_at_call 33; (try rw [HV2.out]); refine (refWhole_c _ _ hR.1 hR.2).mono ?_; rintro e w3 ⟨rfl, hb⟩; have HW := Lib.hid hb; clear hb)
          go_ret2
          have hpw := (pw_iff HG.out.1 HG.out.2.2.2 HG.out.2.2.1 HK.out.2).1 HK.out.1
          exact PwOk.good hpw HG.out.1 HG.out.2.2.1 (by rw [← pw_val HG.out.1 HG.out.2.2.1 hpw]; first | exact HV.out.symm | exact HV2.out) (HB.out.trans (HW.out.mono HB.out.size))
        · rw [decide_eq_false hok] at hE
          have HK := Lib.hid (And.intro hok hlt)
          clear hok hlt h1
          obtain ⟨v, hv⟩ : ∃ v, v = outv false N := ⟨_, rfl⟩
          have hv2 : wrap64 (N : Int) = v := by rw [hv, outv_false]
          rw [← hv] at hE hR
          have HV := Lib.hid hv.symm
          have HV2 := Lib.hid hv2
          clear hv hv2
          go_wp2_with (go_at_call 33; (try rw [HV2.out]); refine (refWhole_c _ _ hR.1 hR.2).mono ?_; rintro e w3 ⟨rfl, hb⟩; have HW := Lib.hid hb; clear hb)
          go_ret2
          exact PwOk.bad (fun h => HK.out.1 ((pw_iff HG.out.1 HG.out.2.2.2 HG.out.2.2.1 HK.out.2).2 h)) (HB.out.trans (HW.out.mono HB.out.size))
      · have H1 := Lib.hid h1
        have h2 : decide ((1 : Int) < ((n2 + 2 : Nat) : Int)) = true := by simp; omega
        clear h1 hE hR
        go_wp2_with fail
        go_ret2
        have hno : ¬ pwOk (bys s) := by
          intro h
          have h3 := h.2.1
          rw [HG.out.1, HG.out.2.2.1] at h3
          have h4 := H1.out
          have h5 : mostv false ≤ 9223372036854775808 := by decide
          omega
        exact PwOk.bad hno HB.out
    · have HG := Lib.hid (And.intro hm hd)
      clear hb hm hd
      go_wp2_with (first | (go_at_call 50; refine (number_bad hsz HG.out.1 HG.out.2).mono ?_; rintro e w1 ⟨A, n, d, k, N, rfl, hr, hl, hn, hb⟩; have HX := Lib.hid (And.intro hr (And.intro hl (And.intro hn hb))); clear hr hl hn hb) | (go_at_call 51; refine (refLimbs_c A n d k N _ HX.out.1 HX.out.2.1 HX.out.2.2.1).mono ?_; rintro e w2 ⟨x, r, rfl, ho, hl, hb⟩; obtain ⟨A2, c2, rfl, _⟩ := ho.slice; have HB := Lib.hid (HX.out.2.2.2.trans (hb.mono HX.out.2.2.2.size)); clear hl hb))
      go_ret2
      exact PwOk.bad (fun h => HG.out.2 h.1) HB.out
set_option maxRecDepth 100000 in
set_option maxHeartbeats 16000000 in
theorem refPw_true (s : ByteArray) (w : World) (hs : s.size ≤ 60) (hb0 : neg (bys s) = true) :
    Calls Try.prog 37 #[.string s] w (PwOk (bys s) w) := by
  have hlen := bys_len s
  have HNB := Lib.hid hb0
  clear hb0
  go_enter Try.func37, Try.ntmps37
  go_upto_region 1 with fail
  go_cut [4] from 11 to 18 (fun v4 wx => v4 = .bool true ∧ wx = w)
  case first =>
    by_cases hs0 : s.size = 0
    · have hb0 : bys s = [] := List.eq_nil_of_length_eq_zero (by omega)
      have he := (empty_iff s).2 hs0
      have HS := Lib.hid (And.intro hs0 hb0)
      clear hs0 hb0 hlen
      go_wp2
      go_meet
      have h := HNB.out; unfold neg at h; rw [HS.out.2] at h; exact absurd h (by decide)
    · have he : s.toList.isEmpty = false := by
        cases h : s.toList.isEmpty with
        | false => rfl
        | true => exact absurd ((empty_iff s).1 h) hs0
      have hsp : 0 < s.size := by omega
      have hx := bys_at hsp
      by_cases h45 : (s[0]'hsp).toNat = 45
      · have h1 : (((s[0]'hsp).toNat : Int) == 45) = true := by simp [h45]
        have HS := Lib.hid (And.intro hx h45)
        clear hx h45 hlen hs0
        go_wp2
        go_meet
        exact ⟨congrArg Value.bool (Eq.refl _), rfl⟩
      · have h1 : (((s[0]'hsp).toNat : Int) == 45) = false := beq_false_of_ne (by omega)
        have HS := Lib.hid (And.intro hx h45)
        clear hx h45 hlen hs0
        go_wp2
        go_meet
        have h := HNB.out; unfold neg at h; rw [HS.out.1] at h; simp at h; exact absurd h HS.out.2
  case rest =>
    obtain ⟨rfl, rfl⟩ := hcut
    have hb := HNB.out
    have hsp : 1 ≤ s.size := by
      unfold neg at hb
      have := (List.getElem?_eq_some_iff.1 (of_decide_eq_true hb)).1
      omega
    have hm : bys (s.extract 1 s.size) = mag (bys s) := by
      unfold mag
      rw [hb, bys_extract, if_pos rfl, List.take_of_length_le (by simp; omega)]
    have hsz : (s.extract 1 s.size).size ≤ 60 := by simp; omega
    by_cases hd : isDec (mag (bys s))
    · obtain ⟨N, hN⟩ : ∃ N, decv (mag (bys s)) = N := ⟨_, rfl⟩
      have HG := Lib.hid (And.intro hb (And.intro hm (And.intro hN hd)))
      clear hb hm hN hd
      go_upto_region 6 with (go_at_call 50; refine (number_good hsz HG.out.2.1 HG.out.2.2.2).mono ?_; rintro e w1 ⟨A, n, d, k, rfl, hx, hf, hr, hl, hn, hb⟩; rw [HG.out.2.2.1] at hl; have HX := Lib.hid (And.intro hr (And.intro hl (And.intro hn hb))); clear hx hf hr hl hn hb)
      go_upto_region 7 with (go_at_call 51; refine (refLimbs_c A n d k N _ HX.out.1 HX.out.2.1 HX.out.2.2.1).mono ?_; rintro e w2 ⟨x, r, rfl, ho, hl, hb⟩; have hff := limbs_few ho hl; have HL := Lib.hid hff; have HB := Lib.hid (HX.out.2.2.2.trans (hb.mono HX.out.2.2.2.size)); clear ho hl hb hff)
      have hR := outv_range true N
      have hE := str_eq (wdec_byte (outv true N)) s
      rcases HL.out with ⟨h0, A2, c2, rfl⟩ | ⟨h1, b2, o2, c2, rfl, hc⟩ | ⟨h1, A2, n2, c2, rfl⟩
      · subst h0
        have hlt : (0 : Nat) < 18446744073709551616 := by decide
        by_cases hok : wdec (outv true 0) = bys s
        · rw [decide_eq_true hok] at hE
          have HK := Lib.hid (And.intro hok hlt)
          clear hok hlt
          have hv : outv true 0 = 0 := by simp [outv, wrap64]
          rw [hv] at hE hR
          have HV := Lib.hid hv
          clear hv
          go_wp2_with (go_at_call 33; refine (refWhole_c 0 _ (by decide) (by decide)).mono ?_; rintro e w3 ⟨rfl, hb⟩; have HW := Lib.hid hb; clear hb)
          go_ret2
          have hpw := (pw_iff HG.out.1 HG.out.2.2.2 HG.out.2.2.1 HK.out.2).1 HK.out.1
          exact PwOk.good hpw HG.out.1 HG.out.2.2.1 (by rw [← pw_val HG.out.1 HG.out.2.2.1 hpw]; first | exact HV.out.symm | exact HV2.out) (HB.out.trans (HW.out.mono HB.out.size))
        · rw [decide_eq_false hok] at hE
          have HK := Lib.hid (And.intro hok hlt)
          clear hok hlt
          have hv : outv true 0 = 0 := by simp [outv, wrap64]
          rw [hv] at hE hR
          have HV := Lib.hid hv
          clear hv
          go_wp2_with (go_at_call 33; refine (refWhole_c 0 _ (by decide) (by decide)).mono ?_; rintro e w3 ⟨rfl, hb⟩; have HW := Lib.hid hb; clear hb)
          go_ret2
          exact PwOk.bad (fun h => HK.out.1 ((pw_iff HG.out.1 HG.out.2.2.2 HG.out.2.2.1 HK.out.2).2 h)) (HB.out.trans (HW.out.mono HB.out.size))
      · have hlt := h1
        by_cases hok : wdec (outv true N) = bys s
        · rw [decide_eq_true hok] at hE
          have HK := Lib.hid (And.intro hok hlt)
          clear hok hlt h1
          obtain ⟨v, hv⟩ : ∃ v, v = outv true N := ⟨_, rfl⟩
          have hv2 : wrap64 (-(wrap64 (N : Int))) = v := by rw [hv, outv_true]
          rw [← hv] at hE hR
          have HV := Lib.hid hv.symm
          have HV2 := Lib.hid hv2
          clear hv hv2
          go_wp2_with (go_at_call 33; (try rw [HV2.out]); refine (refWhole_c _ _ hR.1 hR.2).mono ?_; rintro e w3 ⟨rfl, hb⟩; have HW := Lib.hid hb; clear hb)
          go_ret2
          have hpw := (pw_iff HG.out.1 HG.out.2.2.2 HG.out.2.2.1 HK.out.2).1 HK.out.1
          exact PwOk.good hpw HG.out.1 HG.out.2.2.1 (by rw [← pw_val HG.out.1 HG.out.2.2.1 hpw]; first | exact HV.out.symm | exact HV2.out) (HB.out.trans (HW.out.mono HB.out.size))
        · rw [decide_eq_false hok] at hE
          have HK := Lib.hid (And.intro hok hlt)
          clear hok hlt h1
          obtain ⟨v, hv⟩ : ∃ v, v = outv true N := ⟨_, rfl⟩
          have hv2 : wrap64 (-(wrap64 (N : Int))) = v := by rw [hv, outv_true]
          rw [← hv] at hE hR
          have HV := Lib.hid hv.symm
          have HV2 := Lib.hid hv2
          clear hv hv2
          go_wp2_with (go_at_call 33; (try rw [HV2.out]); refine (refWhole_c _ _ hR.1 hR.2).mono ?_; rintro e w3 ⟨rfl, hb⟩; have HW := Lib.hid hb; clear hb)
          go_ret2
          exact PwOk.bad (fun h => HK.out.1 ((pw_iff HG.out.1 HG.out.2.2.2 HG.out.2.2.1 HK.out.2).2 h)) (HB.out.trans (HW.out.mono HB.out.size))
      · have H1 := Lib.hid h1
        have h2 : decide ((1 : Int) < ((n2 + 2 : Nat) : Int)) = true := by simp; omega
        clear h1 hE hR
        go_wp2_with fail
        go_ret2
        have hno : ¬ pwOk (bys s) := by
          intro h
          have h3 := h.2.1
          rw [HG.out.1, HG.out.2.2.1] at h3
          have h4 := H1.out
          have h5 : mostv true ≤ 9223372036854775808 := by decide
          omega
        exact PwOk.bad hno HB.out
    · have HG := Lib.hid (And.intro hm hd)
      clear hb hm hd
      go_wp2_with (first | (go_at_call 50; refine (number_bad hsz HG.out.1 HG.out.2).mono ?_; rintro e w1 ⟨A, n, d, k, N, rfl, hr, hl, hn, hb⟩; have HX := Lib.hid (And.intro hr (And.intro hl (And.intro hn hb))); clear hr hl hn hb) | (go_at_call 51; refine (refLimbs_c A n d k N _ HX.out.1 HX.out.2.1 HX.out.2.2.1).mono ?_; rintro e w2 ⟨x, r, rfl, ho, hl, hb⟩; obtain ⟨A2, c2, rfl, _⟩ := ho.slice; have HB := Lib.hid (HX.out.2.2.2.trans (hb.mono HX.out.2.2.2.size)); clear hl hb))
      go_ret2
      exact PwOk.bad (fun h => HG.out.2 h.1) HB.out
theorem refParseWhole_c (s : ByteArray) (w : World) (hs : s.size ≤ 60) :
    Calls Try.prog 37 #[.string s] w (PwOk (bys s) w) := by
  cases h : neg (bys s) with
  | true => exact refPw_true s w hs h
  | false => exact refPw_false s w hs h
end Go.Proofs.Ytjocobfabdkadaa
