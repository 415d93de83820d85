/- ParseWhole of package deci, by contract. Texts of at most 1000 bytes. -/
import Derived.Test.YtjocobfabdkadaaWhole
import Derived.Test.YtjocobfabdkadaaSmall
namespace Go.Proofs.Ytjocobfabdkadaa
open Go.RowKit
attribute [local go_sem] alloc_drewN setCell_drewN
/-- Does the text begin with a sign? What stands behind it; how much a whole number may be. -/
def neg (l : List Nat) : Bool := decide (l[0]? = some 45)
def mag (l : List Nat) : List Nat := if neg l then l.drop 1 else l
def mostv (b : Bool) : Nat := if b then 9223372036854775808 else 9223372036854775807
def pwOk (l : List Nat) : Prop := isDec (mag l) ∧ decv (mag l) ≤ mostv (neg l) ∧ ¬ (neg l = true ∧ decv (mag l) = 0)
instance (l : List Nat) : Decidable (pwOk l) := inferInstanceAs (Decidable (_ ∧ _ ∧ _))
def pwv (l : List Nat) : Int := if pwOk l then (if neg l then - (decv (mag l) : Int) else decv (mag l)) else 0
def pwe (l : List Nat) : Int := if pwOk l then 0 else 20
def PwOk (l : List Nat) (w : World) (e : Ending) (w' : World) : Prop := e = .returned (.tuple #[.int .i64 (pwv l), .int .i64 (pwe l)]) ∧ Below w.heap.size w w'
theorem PwOk.bad {l : List Nat} {w w' : World} (h : ¬ pwOk l) (hb : Below w.heap.size w w') : PwOk l w (.returned (.tuple #[.int .i64 0, .int .i64 20])) w' := by
  unfold PwOk pwv pwe
  rw [if_neg h, if_neg h]
  exact ⟨rfl, hb⟩
theorem PwOk.good {l : List Nat} {w w' : World} {b : Bool} {N : Nat} {v : Int} (h : pwOk l) (hn : neg l = b) (hN : decv (mag l) = N) (hv : v = if b then -(N : Int) else N) (hb : Below w.heap.size w w') : PwOk l w (.returned (.tuple #[.int .i64 v, .int .i64 0])) w' := by
  unfold PwOk pwv pwe
  rw [if_pos h, if_pos h, hn, hN, hv]
  exact ⟨rfl, hb⟩
theorem wrap_neg {N : Nat} (h0 : 0 < N) (h : N ≤ 9223372036854775808) : IntKind.i64.wrap (IntKind.u64.wrap (-(N : Int))) = -(N : Int) := by
  have hu : IntKind.u64.wrap (-(N : Int)) = 18446744073709551616 - (N : Int) := by
    show (-(N : Int)) % 18446744073709551616 = _
    omega
  rw [hu, IntKind.wrap_i64]
  omega
theorem wrap_pos {N : Nat} (h : N ≤ 9223372036854775807) : IntKind.i64.wrap (N : Int) = (N : Int) := IntWalk.i64_in _ (by omega)
theorem fitB1 (N : Nat) : fitB 1 N = decide (N < 18446744073709551616) := by
  unfold fitB
  rw [show (max (0 : Int) 1).toNat = 1 from rfl, Nat.pow_one]
theorem parse_bad (s : ByteArray) (l : List Nat) (w : World) (hs : s.size ≤ 1000) (hl : bys s = l) (h : ¬ (isDec l ∧ decv l < 18446744073709551616)) :
    Calls Try.prog 61 #[.string s, .int .i64 1] w fun e w' => ∃ A n d E, e = .returned (.tuple #[.agg #[.slice A n d], .int .i64 E]) ∧ (E != 0) = true ∧ IsNat 0 w' (.agg #[.slice A n d]) 0 ∧ Below w.heap.size w w' := by
  subst hl
  refine (parse_c s 1 w hs).mono fun e w' ⟨A, n, d, he, hi, hb⟩ => ?_
  have h' : ¬ (isDec (bys s) ∧ fitB 1 (decv (bys s)) = true) := fun ⟨g1, g2⟩ => h ⟨g1, by rw [fitB1] at g2; exact of_decide_eq_true g2⟩
  rw [if_neg h'] at hi
  refine ⟨A, n, d, _, he, ?_, hi, hb⟩
  by_cases g1 : isDec (bys s)
  · rw [if_pos g1, if_neg (fun g2 => h' ⟨g1, g2⟩)]; rfl
  · rw [if_neg g1]; rfl
theorem parse_good (s : ByteArray) (l : List Nat) (c : Int) (w : World) (hs : s.size ≤ 1000) (hl : bys s = l) (hd : isDec l) (hf : fitB c (decv l) = true) :
    Calls Try.prog 61 #[.string s, .int .i64 c] w fun e w' => ∃ A n d, e = .returned (.tuple #[.agg #[.slice A n d], .int .i64 0]) ∧ IsNat 0 w' (.agg #[.slice A n d]) (decv l) ∧ Below w.heap.size w w' := by
  subst hl
  refine (parse_c s c w hs).mono fun e w' ⟨A, n, d, he, hi, hb⟩ => ?_
  rw [if_pos ⟨hd, hf⟩] at hi
  rw [if_pos hd, if_pos hf] at he
  exact ⟨A, n, d, he, hi, hb⟩
set_option maxRecDepth 100000 in
set_option maxHeartbeats 8000000 in
theorem parseWhole_c (s : ByteArray) (w : World) (hs : s.size ≤ 1000) :
    Calls Try.prog 49 #[.string s] w (PwOk (bys s) w) := by
  have hlen := bys_len s
  go_enter Try.func49, Try.ntmps49
  go_upto_region 1 with fail
  go_cut [4] from 10 to 17 (fun v4 wx => ∃ b : Bool, v4 = .bool b ∧ neg (bys s) = b ∧ wx = w)
  case first =>
    by_cases hs0 : s.size = 0
    · have hb0 : bys s = [] := List.eq_nil_of_length_eq_zero (by omega)
      have he := (empty_iff s).2 hs0
      have HS := Lib.hid (And.intro hs0 hb0)
      clear hs0 hb0 hlen
      go_wp2
      go_meet
      exact ⟨false, rfl, by rw [HS.out.2]; rfl, rfl⟩
    · have he : s.toList.isEmpty = false := by
        cases h : s.toList.isEmpty with
        | false => rfl
        | true => exact absurd ((empty_iff s).1 h) hs0
      have hsp : 0 < s.size := by omega
      have hx := bys_at hsp
      by_cases h45 : (s[0]'hsp).toNat = 45
      · have h1 : (((s[0]'hsp).toNat : Int) == 45) = true := by simp [h45]
        have HS := Lib.hid (And.intro hx h45)
        clear hx h45 hlen hs0
        go_wp2
        go_meet
        exact ⟨_, congrArg Value.bool (Eq.refl _), by unfold neg; rw [HS.out.1, HS.out.2]; rfl, rfl⟩
      · have h1 : (((s[0]'hsp).toNat : Int) == 45) = false := beq_false_of_ne (by omega)
        have HS := Lib.hid (And.intro hx h45)
        clear hx h45 hlen hs0
        go_wp2
        go_meet
        exact ⟨_, congrArg Value.bool (Eq.refl _), by unfold neg; rw [HS.out.1]; simp [HS.out.2], rfl⟩
  case rest =>
    obtain ⟨b, rfl, hb, rfl⟩ := hcut
    cases b with
    | false =>
      have hm : bys s = mag (bys s) := by unfold mag; rw [hb]; rfl
      have hsz := hs
      obtain ⟨N, hN⟩ : ∃ N, decv (mag (bys s)) = N := ⟨_, rfl⟩
      have HG := Lib.hid (And.intro hb (And.intro hm hN))
      by_cases hg : isDec (mag (bys s)) ∧ N < 18446744073709551616
      · have hgd := Lib.hid hg.1
        have hgl : N < 18446744073709551616 := hg.2
        clear hg hb hm hN
        by_cases hmo : N ≤ mostv false
        · have h1 : decide (9223372036854775807 < (N : Int)) = false := by have : N ≤ 9223372036854775807 := hmo; simp; omega
          have h3 : IntKind.i64.wrap (N : Int) = (N : Int) := wrap_pos hmo
          have HGL := Lib.hid hgl
          have HM := Lib.hid hmo
          clear hgl hmo
          go_wp2_with (first | (go_at_call 61; refine (parse_good _ _ 1 _ hsz HG.out.2.1 hgd.out (by rw [HG.out.2.2]; rw [fitB1]; exact decide_eq_true HGL.out)).mono ?_; rintro e w1 ⟨A, n, d, rfl, hi, hb1⟩; rw [HG.out.2.2] at hi; have HI := Lib.hid (And.intro hi hb1); clear hi hb1) | (go_at_call 62; refine (small_yes _ N _ (HI.out.1.alloc _) (HGL.out)).mono ?_; rintro e w2 ⟨rfl, hb2⟩; have HJ := Lib.hid hb2; clear hb2))
          go_ret2
          exact PwOk.good ⟨hgd.out, by rw [HG.out.1, HG.out.2.2]; exact HM.out, fun h => by rw [HG.out.1] at h; cases h.1⟩ HG.out.1 HG.out.2.2 (by simp) (HI.out.2.trans ((((Below.refl _ _).alloc (Nat.le_refl _) _).trans (HJ.out.mono (by simp))).mono HI.out.2.size))
        · have h1 : decide (9223372036854775807 < (N : Int)) = true := by have : ¬ N ≤ 9223372036854775807 := hmo; simp; omega
          have HGL := Lib.hid hgl
          have HM := Lib.hid hmo
          clear hgl hmo
          go_wp2_with (first | (go_at_call 61; refine (parse_good _ _ 1 _ hsz HG.out.2.1 hgd.out (by rw [HG.out.2.2]; rw [fitB1]; exact decide_eq_true HGL.out)).mono ?_; rintro e w1 ⟨A, n, d, rfl, hi, hb1⟩; rw [HG.out.2.2] at hi; have HI := Lib.hid (And.intro hi hb1); clear hi hb1) | (go_at_call 62; refine (small_yes _ N _ (HI.out.1.alloc _) (HGL.out)).mono ?_; rintro e w2 ⟨rfl, hb2⟩; have HJ := Lib.hid hb2; clear hb2))
          go_ret2
          exact PwOk.bad (fun h => HM.out (by have := h.2.1; rw [HG.out.1, HG.out.2.2] at this; exact this)) (HI.out.2.trans ((((Below.refl _ _).alloc (Nat.le_refl _) _).trans (HJ.out.mono (by simp))).mono HI.out.2.size))
      · have HB := Lib.hid hg
        clear hg hb hm hN
        go_wp2_with (first | (go_at_call 61; refine (parse_bad _ _ _ hsz HG.out.2.1 (by rw [HG.out.2.2]; exact HB.out)).mono ?_; rintro e w1 ⟨A, n, d, E, rfl, hE, hi, hb1⟩;  have HI := Lib.hid (And.intro hi hb1); clear hi hb1) | (go_at_call 62; refine (small_yes _ 0 _ (HI.out.1.alloc _) (by decide)).mono ?_; rintro e w2 ⟨rfl, hb2⟩; have HJ := Lib.hid hb2; clear hb2))
        go_ret2
        exact PwOk.bad (fun h => HB.out ⟨h.1, by have := h.2.1; rw [HG.out.1, HG.out.2.2] at this; exact Nat.lt_of_le_of_lt this (by decide)⟩) (HI.out.2.trans ((((Below.refl _ _).alloc (Nat.le_refl _) _).trans (HJ.out.mono (by simp))).mono HI.out.2.size))
    | true =>
      have hsp : 1 ≤ s.size := by
        unfold neg at hb
        have := (List.getElem?_eq_some_iff.1 (of_decide_eq_true hb)).1
        omega
      have hm : bys (s.extract 1 s.size) = mag (bys s) := by
        unfold mag
        rw [hb, bys_extract, if_pos rfl, List.take_of_length_le (by simp; omega)]
      have hsz : (s.extract 1 s.size).size ≤ 1000 := by simp; omega
      obtain ⟨N, hN⟩ : ∃ N, decv (mag (bys s)) = N := ⟨_, rfl⟩
      have HG := Lib.hid (And.intro hb (And.intro hm hN))
      by_cases hg : isDec (mag (bys s)) ∧ N < 18446744073709551616
      · have hgd := Lib.hid hg.1
        have hgl : N < 18446744073709551616 := hg.2
        clear hg hb hm hN
        by_cases hmo : N ≤ mostv true
        · have h1 : decide (9223372036854775808 < (N : Int)) = false := by have : N ≤ 9223372036854775808 := hmo; simp; omega
          by_cases h0 : N = 0
          · have h2 : ((N : Int) == 0) = true := by simp [h0]
            have HGL := Lib.hid hgl
            have HM := Lib.hid (And.intro hmo h0)
            clear hgl hmo h0
            go_wp2_with (first | (go_at_call 61; refine (parse_good _ _ 1 _ hsz HG.out.2.1 hgd.out (by rw [HG.out.2.2]; rw [fitB1]; exact decide_eq_true HGL.out)).mono ?_; rintro e w1 ⟨A, n, d, rfl, hi, hb1⟩; rw [HG.out.2.2] at hi; have HI := Lib.hid (And.intro hi hb1); clear hi hb1) | (go_at_call 62; refine (small_yes _ N _ (HI.out.1.alloc _) (HGL.out)).mono ?_; rintro e w2 ⟨rfl, hb2⟩; have HJ := Lib.hid hb2; clear hb2))
            go_ret2
            exact PwOk.bad (fun h => h.2.2 ⟨HG.out.1, by rw [HG.out.2.2, HM.out.2]⟩) (HI.out.2.trans ((((Below.refl _ _).alloc (Nat.le_refl _) _).trans (HJ.out.mono (by simp))).mono HI.out.2.size))
          · have h2 : ((N : Int) == 0) = false := beq_false_of_ne (by omega)
            have h3 : IntKind.i64.wrap (IntKind.u64.wrap (-(N : Int))) = -(N : Int) := wrap_neg (by omega) hmo
            have HGL := Lib.hid hgl
            have HM := Lib.hid hmo
            have H0 := Lib.hid h0
            clear hgl hmo h0
            go_wp2_with (first | (go_at_call 61; refine (parse_good _ _ 1 _ hsz HG.out.2.1 hgd.out (by rw [HG.out.2.2]; rw [fitB1]; exact decide_eq_true HGL.out)).mono ?_; rintro e w1 ⟨A, n, d, rfl, hi, hb1⟩; rw [HG.out.2.2] at hi; have HI := Lib.hid (And.intro hi hb1); clear hi hb1) | (go_at_call 62; refine (small_yes _ N _ (HI.out.1.alloc _) (HGL.out)).mono ?_; rintro e w2 ⟨rfl, hb2⟩; have HJ := Lib.hid hb2; clear hb2))
            go_ret2
            exact PwOk.good ⟨hgd.out, by rw [HG.out.1, HG.out.2.2]; exact HM.out, fun h => H0.out (by rw [← HG.out.2.2]; exact h.2)⟩ HG.out.1 HG.out.2.2 (by simp) (HI.out.2.trans ((((Below.refl _ _).alloc (Nat.le_refl _) _).trans (HJ.out.mono (by simp))).mono HI.out.2.size))
        · have h1 : decide (9223372036854775808 < (N : Int)) = true := by have : ¬ N ≤ 9223372036854775808 := hmo; simp; omega
          have HGL := Lib.hid hgl
          have HM := Lib.hid hmo
          clear hgl hmo
          go_wp2_with (first | (go_at_call 61; refine (parse_good _ _ 1 _ hsz HG.out.2.1 hgd.out (by rw [HG.out.2.2]; rw [fitB1]; exact decide_eq_true HGL.out)).mono ?_; rintro e w1 ⟨A, n, d, rfl, hi, hb1⟩; rw [HG.out.2.2] at hi; have HI := Lib.hid (And.intro hi hb1); clear hi hb1) | (go_at_call 62; refine (small_yes _ N _ (HI.out.1.alloc _) (HGL.out)).mono ?_; rintro e w2 ⟨rfl, hb2⟩; have HJ := Lib.hid hb2; clear hb2))
          go_ret2
          exact PwOk.bad (fun h => HM.out (by have := h.2.1; rw [HG.out.1, HG.out.2.2] at this; exact this)) (HI.out.2.trans ((((Below.refl _ _).alloc (Nat.le_refl _) _).trans (HJ.out.mono (by simp))).mono HI.out.2.size))
      · have HB := Lib.hid hg
        clear hg hb hm hN
        go_wp2_with (first | (go_at_call 61; refine (parse_bad _ _ _ hsz HG.out.2.1 (by rw [HG.out.2.2]; exact HB.out)).mono ?_; rintro e w1 ⟨A, n, d, E, rfl, hE, hi, hb1⟩;  have HI := Lib.hid (And.intro hi hb1); clear hi hb1) | (go_at_call 62; refine (small_yes _ 0 _ (HI.out.1.alloc _) (by decide)).mono ?_; rintro e w2 ⟨rfl, hb2⟩; have HJ := Lib.hid hb2; clear hb2))
        go_ret2
        exact PwOk.bad (fun h => HB.out ⟨h.1, by have := h.2.1; rw [HG.out.1, HG.out.2.2] at this; exact Nat.lt_of_le_of_lt this (by decide)⟩) (HI.out.2.trans ((((Below.refl _ _).alloc (Nat.le_refl _) _).trans (HJ.out.mono (by simp))).mono HI.out.2.size))
end Go.Proofs.Ytjocobfabdkadaa
