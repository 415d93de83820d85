/- The document's numbers, by contract: Of, Limbs, Fits. At most 200 limbs, 1600 bytes. -/
import Derived.Test.YtjocobfabdkadaaRefc
namespace Go.Proofs.Ytjocobfabdkadaa
open Go.RowKit
attribute [local go_sem] alloc_drewN setCell_drewN
theorem of_byte {q k y T : Nat} {r : List Nat} (hr : r.length = 8 * k + q) (hv : val 256 r + 256 ^ (8 * k + q) * y = T) : val 256 (r ++ [y % 256]) + 256 ^ (8 * k + (q + 1)) * (y / 256) = T := by
  rw [val_snoc, hr, ← Nat.add_assoc (8 * k) q 1, Nat.pow_succ, Nat.mul_assoc, Nat.add_assoc, ← Nat.mul_add]
  rw [show y % 256 + 256 * (y / 256) = y by omega]
  exact hv
set_option maxHeartbeats 8000000 in
theorem refOf_c (A : Option Addr) (n c : Nat) (l : List Nat) (w : World) (hr : Rw .u64 w A n l) (hl : AllLt 18446744073709551616 l) (hn : n ≤ 200) :
    Calls Try.prog 47 #[.slice A n c] w fun e w' => ∃ x, e = .returned x ∧ IsByt w' x (val 18446744073709551616 l) ∧ Below w.heap.size w w' := by
  have hlen := Lib.hid hr.1
  have HI := Lib.hid hr
  clear hr
  go_enter Try.func47, Try.ntmps47
  go_wp2
  go_loopw [3, 4] (fun o i w1 => ∃ (k : Nat) (r : List Nat), i = .int .i64 k ∧ k ≤ n ∧ OwnB w.heap.size w1 o r ∧ r.length = 8 * k ∧ AllLt 256 r ∧ val 256 r = val 18446744073709551616 (l.take k) ∧ Below w.heap.size w w1) (fun _ i _ => n - (intOf i).toNat)
  case atStart => exact ⟨0, [], rfl, Nat.zero_le _, World.ownsRow_nil _ _ _ _, rfl, fun _ h => (by cases h), rfl, Below.refl _ _⟩
  case round =>
    obtain ⟨k, r, rfl, hk, ho, hrk, hrl, hv, hB⟩ := hrel
    obtain ⟨Ao, co, rfl, hro, hco⟩ := ho.slice
    have hsz := hB.size
    by_cases hkn : k < n
    · have g1 : decide ((k : Int) < (n : Int)) = true := by simp <;> omega
      obtain ⟨b, off, x, rfl, hbl, hx, hcx⟩ := (HI.out.keep hB).at_ hkn
      have hxl := hl.at_ hx
      have hT := val_take_succ 18446744073709551616 hx
      rw [← hv] at hT
      have HX := Lib.hid (And.intro hT (And.intro hrl (And.intro hrk (And.intro ho hB))))
      clear hT hrl hrk ho hB hx hv hro
      go_wp2
      go_loopw [3, 5, 6] (fun o nn j w2 => ∃ (q y : Nat) (r2 : List Nat), j = .int .i64 q ∧ q ≤ 8 ∧ nn = .int .u64 y ∧ y < 18446744073709551616 ∧ y < 256 ^ (8 - q) ∧ OwnB w.heap.size w2 o r2 ∧ r2.length = 8 * k + q ∧ AllLt 256 r2 ∧ val 256 r2 + 256 ^ (8 * k + q) * y = val 18446744073709551616 (l.take (k + 1)) ∧ Below w.heap.size w w2) (fun _ _ j _ => 8 - (intOf j).toNat)
      case atStart => exact ⟨0, x, r, rfl, by omega, rfl, hxl, hxl, HX.out.2.2.2.1, HX.out.2.2.1, HX.out.2.1, by rw [HX.out.1, Nat.add_zero, pow_8], HX.out.2.2.2.2⟩
      case round =>
        obtain ⟨q, y, r2, rfl, hq, rfl, hy64, hy, ho2, hrk2, hrl2, hv2, hB2⟩ := hrel
        obtain ⟨Ao2, co2, rfl, hro2, hco2⟩ := ho2.slice
        have hsz2 := hB2.size
        have hrs : r2.length ≤ 2000 := by omega
        have HO := Lib.hid ho2
        have HV := Lib.hid (And.intro hv2 (And.intro hrl2 (And.intro hB2 (And.intro hrk2 hy))))
        clear ho2 hv2 hrl2 hB2 hrk2 hy hro2
        by_cases hq8 : q < 8
        · have g2 : decide ((q : Int) < 8) = true := by simp <;> omega
          go_wp2_with (at_builtin; refine wpList_append_row (k := .u8) rfl _ _ rfl w.heap.size Try.underlying80 info8 rfl (by decide) (.slice Ao2 r2.length co2) r2 [y % 256] (some ⟨_, 0, none⟩) 1 1 rfl rfl (World.ownsRow.alloc HO.out _) (rw_newI _ _ (y % 256) (Int.natCast_emod y 256).symm _) (by omega) (by simp; omega) ?_; intro v' w' ho' hg' _; have HG := Lib.hid (And.intro ho' hg'); clear ho' hg')
          obtain ⟨hv2, hrl2, hB2, hrk2, hy⟩ := HV.out
          go_roundw
          case rel => exact ⟨q + 1, y / 256, r2 ++ [y % 256], by go_num, by omega, by simp, by omega, by rw [show 8 - q = 8 - (q + 1) + 1 by omega, Nat.pow_succ] at hy; exact Nat.div_lt_of_lt_mul (by rw [Nat.mul_comm]; exact hy), HG.out.1, by simp; omega, hrl2.snoc (by omega), of_byte hrk2 hv2, OwnB.grew HO.out hB2 HG.out.2 hsz2⟩
          case measure => simp [intOf] <;> omega
        · obtain rfl : q = 8 := by omega
          have g2 : decide (((8 : Nat) : Int) < 8) = false := by decide
          obtain ⟨hv2, hrl2, hB2, hrk2, hy⟩ := HV.out
          have hy0 : y = 0 := by simpa using hy
          have HZ := Lib.hid (And.intro hv2 (And.intro hrl2 (And.intro hB2 (And.intro hrk2 hy0))))
          clear hv2 hrl2 hB2 hrk2 hy hy0
          go_wp2
          go_roundw
          case rel =>
            obtain ⟨hv2, hrl2, hB2, hrk2, hy0⟩ := HZ.out
            subst hy0
            exact ⟨k + 1, r2, by go_num, by omega, HO.out, by omega, hrl2, by simpa using hv2, hB2⟩
          case measure => simp [intOf] <;> omega
    · obtain rfl : k = n := by omega
      have g1 : decide ((k : Int) < (k : Int)) = false := by simp
      rw [← hlen.out, List.take_length] at hv
      have hrs : r.length ≤ 2000 := by omega
      clear hrk
      go_wp2_with (go_at_call 60; refine (refTrim_c _ _ _ r _ hro hrl (by omega)).mono ?_; rintro e w1 ⟨x, rfl, hx, hb⟩)
      go_ret
      exact ⟨_, rfl, by rw [← hv]; exact hx, hB.trans (hb.mono hsz)⟩
theorem pow8 : (256 : Nat) ^ 8 = 18446744073709551616 := by simp
theorem limbs_chunk {k t : Nat} {l : List Nat} (ht : t = min l.length (8 * k + 8)) (hk : 8 * k ≤ l.length) : val 256 (l.take (8 * k + 8)) = val 256 (l.take (8 * k)) + 18446744073709551616 ^ k * val 256 ((l.take t).drop (8 * k)) := by
  have e : l.take (8 * k + 8) = l.take t := by
    subst ht
    by_cases h : l.length ≤ 8 * k + 8
    · rw [List.take_of_length_le h, Nat.min_eq_left h, List.take_length]
    · rw [Nat.min_eq_right (by omega)]
  have h1 := val_append 256 ((l.take t).take (8 * k)) ((l.take t).drop (8 * k))
  rw [List.take_append_drop, List.take_take, List.length_take, Nat.min_eq_left (by omega), Nat.min_eq_left (by omega)] at h1
  rw [e, h1, pow_8]
theorem limbs_canon {l r : List Nat} {N k : Nat} (hl : Lim 256 l N) (hr : AllLt 18446744073709551616 r) (hv : val 18446744073709551616 r = N) (hk : r.length = k) (hkl : 8 * k < l.length + 8) : Lim 18446744073709551616 r N := by
  refine ⟨hr, hv, ?_⟩
  by_cases h0 : k = 0
  · subst h0
    have := List.eq_nil_of_length_eq_zero hk
    subst this; rfl
  · have hle := trimLen_le r
    by_cases hc : trimLen r = r.length
    · exact hc
    · exfalso
      have h1 := val_lt 18446744073709551616 (by omega) (r.take (trimLen r)) (hr.take _)
      rw [val_trim, hv, List.length_take, Nat.min_eq_left hle] at h1
      have h2 := lim_ge 256 (by omega) l hl.2.2 (by intro e; subst e; simp at hkl; omega)
      rw [hl.2.1] at h2
      have h3 : 18446744073709551616 ^ trimLen r ≤ 18446744073709551616 ^ (k - 1) := Nat.pow_le_pow_right (by omega) (by omega)
      rw [pow_8 (k - 1)] at h3
      have h4 : 256 ^ (8 * (k - 1)) ≤ 256 ^ (l.length - 1) := Nat.pow_le_pow_right (by omega) (by omega)
      omega
theorem drop_byte {l : List Nat} {t x : Nat} (hx : l[t]? = some x) : val 256 (l.drop t) = x + 256 * val 256 (l.drop (t + 1)) := by
  obtain ⟨ht, rfl⟩ := List.getElem?_eq_some_iff.1 hx
  rw [← List.getElem_cons_drop ht]; rfl
set_option maxHeartbeats 8000000 in
theorem refLimbsA_c (A : Option Addr) (n c : Nat) (l : List Nat) (w : World) (hr : Rw .u8 w A n l) (hl : AllLt 256 l) (hn : n ≤ 2000) :
    Calls Try.prog 51 #[.slice A n c] w fun e w' => ∃ (x : Value) (r : List Nat), e = .returned x ∧ Own w.heap.size w' x r ∧ AllLt 18446744073709551616 r ∧ val 18446744073709551616 r = val 256 l ∧ 8 * r.length < n + 8 ∧ Below w.heap.size w w' := by
  have hlen := Lib.hid hr.1
  have HI := Lib.hid hr
  clear hr
  go_enter Try.func51, Try.ntmps51
  go_wp2
  go_loopw [3, 4] (fun o i w1 => ∃ (k : Nat) (r : List Nat), i = .int .i64 ((8 * k : Nat) : Int) ∧ 8 * k < n + 8 ∧ Own w.heap.size w1 o r ∧ r.length = k ∧ AllLt 18446744073709551616 r ∧ val 18446744073709551616 r = val 256 (l.take (8 * k)) ∧ Below w.heap.size w w1) (fun _ i _ => n - (intOf i).toNat)
  case atStart => exact ⟨0, [], rfl, by omega, World.ownsRow_nil _ _ _ _, rfl, fun _ h => (by cases h), rfl, Below.refl _ _⟩
  case round =>
    obtain ⟨k, r, rfl, hk, ho, hrk, hrl, hv, hB⟩ := hrel
    obtain ⟨Ao, co, rfl, hro, hco, _⟩ := ho.slice
    have hsz := hB.size
    have hrs : r.length ≤ 1000 := by omega
    generalize hi8 : 8 * k = i8 at *
    by_cases hkn : i8 < n
    · have g1 : decide ((i8 : Int) < (n : Int)) = true := by simp <;> omega
      by_cases hc8 : n ≤ i8 + 8
      · have hmm : (n : Int) ≤ (i8 : Int) + 8 := by omega
        have hti : i8 < n := by omega
        have ht8 : n ≤ i8 + 8 := by omega
        have htn : n ≤ n := by omega
        have hchunk := limbs_chunk (l := l) (k := k) (t := n) (by rw [hlen.out]; omega) (by rw [hlen.out]; omega)
        have hsl : (l.take (n)).length = n := by rw [List.length_take, hlen.out]; omega
        rw [hi8] at hchunk
        have HX := Lib.hid (And.intro hv (And.intro hrl (And.intro hrk (And.intro ho (And.intro hB (And.intro hi8 (And.intro hchunk hsl)))))))
        clear hv hrl hrk ho hB hi8 hro hk hchunk hsl
        go_wp2
        go_loop [5, 6] (fun xx kk => ∃ t y : Nat, kk = .int .i64 ((t : Int) - 1) ∧ i8 ≤ t ∧ t ≤ n ∧ xx = .int .u64 y ∧ y = val 256 ((l.take (n)).drop t)) (fun _ kk => (intOf kk + 1).toNat)
        case atStart => exact ⟨n, 0, by first | rfl | (congr 1; omega) | simp, by omega, by omega, rfl, by rw [List.drop_of_length_le (by rw [HX.out.2.2.2.2.2.2.2]; exact Nat.le_refl _)]; rfl⟩
        case round =>
          obtain ⟨t, y, rfl, hit, htt, rfl, hy⟩ := hrel
          have hyl : y < 256 ^ (n - t) := by
            have := val_lt 256 (by omega) _ (show AllLt 256 ((l.take (n)).drop t) from fun x hx => hl x (List.mem_of_mem_take (List.mem_of_mem_drop hx)))
            rw [← hy, List.length_drop, HX.out.2.2.2.2.2.2.2] at this
            exact this
          by_cases hti2 : i8 < t
          · have g2 : decide ((i8 : Int) ≤ (t : Int) - 1) = true := by simp <;> omega
            obtain ⟨s, rfl⟩ : ∃ s, t = s + 1 := ⟨t - 1, by omega⟩
            obtain ⟨b, off, x, rfl, hbl, hx, hcx⟩ := (HI.out.keep HX.out.2.2.2.2.1).at_ (i := s) (by omega)
            have hxl := hl.at_ hx
            have hdb := drop_byte (l := l.take (n)) (t := s) (x := x) (by rw [List.getElem?_take, if_pos (by omega)]; exact hx)
            rw [← hy] at hdb
            have hyb : x + 256 * y < 18446744073709551616 := by
              have h1 : x + 256 * y < 256 ^ (n - s) := by
                rw [show n - s = n - (s + 1) + 1 by omega, Nat.pow_succ]
                omega
              have h2 : 256 ^ (n - s) ≤ 256 ^ 8 := Nat.pow_le_pow_right (by omega) (by omega)
              have h3 := pow8
              omega
            have hyb2 : y * 256 < 18446744073709551616 := by omega
            have hyb3 : y * 256 + x < 18446744073709551616 := by rw [Nat.mul_comm, Nat.add_comm]; exact hyb
            have HY := Lib.hid (And.intro hy (And.intro hyl hdb))
            clear hy hyl hdb hx
            go_wp2
            go_round
            case rel => exact ⟨s, y * 256 + x, by go_num, by omega, by omega, by simp, by rw [HY.out.2.2]; omega⟩
            case measure => simp [intOf] <;> omega
          · obtain rfl : t = i8 := by omega
            have g2 : decide ((t : Int) ≤ (t : Int) - 1) = false := by simp <;> omega
            have hy64 : y < 18446744073709551616 := by
              have h2 : 256 ^ (n - t) ≤ 256 ^ 8 := Nat.pow_le_pow_right (by omega) (by omega)
              have h3 := pow8
              omega
            have HY := Lib.hid (And.intro hy hyl)
            clear hy hyl
            go_wp2_with (at_builtin; refine wpList_append_row (k := .u64) rfl _ _ rfl w.heap.size Try.underlying74 info64 rfl (by decide) (.slice Ao r.length co) r [y] (some ⟨_, 0, none⟩) 1 1 rfl rfl (World.ownsRow.alloc HX.out.2.2.2.1 _) (rw_newI _ _ y rfl _) (by omega) (by simp; omega) ?_; intro v' w' ho' hg' _; have HG := Lib.hid (And.intro ho' hg'); clear ho' hg')
            obtain ⟨hv, hrl, hrk, ho, hB, hi8, hchunk, hsl⟩ := HX.out
            go_roundw
            case rel =>
              refine ⟨k + 1, r ++ [y], by rw [← hi8]; simp; omega, by omega, HG.out.1, by simp; omega, hrl.snoc hy64, ?_, (hB.alloc (by omega) _).grown HG.out.2 (by simp; omega) (fun q hq => (ho.lt q hq).1)⟩
              rw [val_snoc, hv, hrk, show 8 * (k + 1) = t + 8 by omega, hchunk, HY.out.1]
            case measure => simp [intOf] <;> omega
      · have hmm : ¬ (n : Int) ≤ (i8 : Int) + 8 := by omega
        have hti : i8 < (i8 + 8) := by omega
        have ht8 : (i8 + 8) ≤ i8 + 8 := by omega
        have htn : (i8 + 8) ≤ n := by omega
        have hchunk := limbs_chunk (l := l) (k := k) (t := (i8 + 8)) (by rw [hlen.out]; omega) (by rw [hlen.out]; omega)
        have hsl : (l.take ((i8 + 8))).length = (i8 + 8) := by rw [List.length_take, hlen.out]; omega
        rw [hi8] at hchunk
        have HX := Lib.hid (And.intro hv (And.intro hrl (And.intro hrk (And.intro ho (And.intro hB (And.intro hi8 (And.intro hchunk hsl)))))))
        clear hv hrl hrk ho hB hi8 hro hk hchunk hsl
        go_wp2
        go_loop [5, 6] (fun xx kk => ∃ t y : Nat, kk = .int .i64 ((t : Int) - 1) ∧ i8 ≤ t ∧ t ≤ (i8 + 8) ∧ xx = .int .u64 y ∧ y = val 256 ((l.take ((i8 + 8))).drop t)) (fun _ kk => (intOf kk + 1).toNat)
        case atStart => exact ⟨(i8 + 8), 0, by first | rfl | (congr 1; omega) | simp, by omega, by omega, rfl, by rw [List.drop_of_length_le (by rw [HX.out.2.2.2.2.2.2.2]; exact Nat.le_refl _)]; rfl⟩
        case round =>
          obtain ⟨t, y, rfl, hit, htt, rfl, hy⟩ := hrel
          have hyl : y < 256 ^ ((i8 + 8) - t) := by
            have := val_lt 256 (by omega) _ (show AllLt 256 ((l.take ((i8 + 8))).drop t) from fun x hx => hl x (List.mem_of_mem_take (List.mem_of_mem_drop hx)))
            rw [← hy, List.length_drop, HX.out.2.2.2.2.2.2.2] at this
            exact this
          by_cases hti2 : i8 < t
          · have g2 : decide ((i8 : Int) ≤ (t : Int) - 1) = true := by simp <;> omega
            obtain ⟨s, rfl⟩ : ∃ s, t = s + 1 := ⟨t - 1, by omega⟩
            obtain ⟨b, off, x, rfl, hbl, hx, hcx⟩ := (HI.out.keep HX.out.2.2.2.2.1).at_ (i := s) (by omega)
            have hxl := hl.at_ hx
            have hdb := drop_byte (l := l.take ((i8 + 8))) (t := s) (x := x) (by rw [List.getElem?_take, if_pos (by omega)]; exact hx)
            rw [← hy] at hdb
            have hyb : x + 256 * y < 18446744073709551616 := by
              have h1 : x + 256 * y < 256 ^ ((i8 + 8) - s) := by
                rw [show (i8 + 8) - s = (i8 + 8) - (s + 1) + 1 by omega, Nat.pow_succ]
                omega
              have h2 : 256 ^ ((i8 + 8) - s) ≤ 256 ^ 8 := Nat.pow_le_pow_right (by omega) (by omega)
              have h3 := pow8
              omega
            have hyb2 : y * 256 < 18446744073709551616 := by omega
            have hyb3 : y * 256 + x < 18446744073709551616 := by rw [Nat.mul_comm, Nat.add_comm]; exact hyb
            have HY := Lib.hid (And.intro hy (And.intro hyl hdb))
            clear hy hyl hdb hx
            go_wp2
            go_round
            case rel => exact ⟨s, y * 256 + x, by go_num, by omega, by omega, by simp, by rw [HY.out.2.2]; omega⟩
            case measure => simp [intOf] <;> omega
          · obtain rfl : t = i8 := by omega
            have g2 : decide ((t : Int) ≤ (t : Int) - 1) = false := by simp <;> omega
            have hy64 : y < 18446744073709551616 := by
              have h2 : 256 ^ ((t + 8) - t) ≤ 256 ^ 8 := Nat.pow_le_pow_right (by omega) (by omega)
              have h3 := pow8
              omega
            have HY := Lib.hid (And.intro hy hyl)
            clear hy hyl
            go_wp2_with (at_builtin; refine wpList_append_row (k := .u64) rfl _ _ rfl w.heap.size Try.underlying74 info64 rfl (by decide) (.slice Ao r.length co) r [y] (some ⟨_, 0, none⟩) 1 1 rfl rfl (World.ownsRow.alloc HX.out.2.2.2.1 _) (rw_newI _ _ y rfl _) (by omega) (by simp; omega) ?_; intro v' w' ho' hg' _; have HG := Lib.hid (And.intro ho' hg'); clear ho' hg')
            obtain ⟨hv, hrl, hrk, ho, hB, hi8, hchunk, hsl⟩ := HX.out
            go_roundw
            case rel =>
              refine ⟨k + 1, r ++ [y], by rw [← hi8]; simp; omega, by omega, HG.out.1, by simp; omega, hrl.snoc hy64, ?_, (hB.alloc (by omega) _).grown HG.out.2 (by simp; omega) (fun q hq => (ho.lt q hq).1)⟩
              rw [val_snoc, hv, hrk, show 8 * (k + 1) = t + 8 by omega, hchunk, HY.out.1]
            case measure => simp [intOf] <;> omega
    · have g1 : decide ((i8 : Int) < (n : Int)) = false := by simp <;> omega
      rw [List.take_of_length_le (by rw [hlen.out]; omega)] at hv
      have hrk8 : 8 * r.length < n + 8 := by omega
      clear hro
      go_wp2
      go_ret
      exact ⟨_, r, rfl, ho, hrl, hv, hrk8, hB⟩
theorem refLimbs_c (A : Option Addr) (n c : Nat) (l : List Nat) (N : Nat) (w : World) (hr : Rw .u8 w A n l) (hl : Lim 256 l N) (hn : n ≤ 2000) :
    Calls Try.prog 51 #[.slice A n c] w fun e w' => ∃ (x : Value) (r : List Nat), e = .returned x ∧ Own w.heap.size w' x r ∧ Lim 18446744073709551616 r N ∧ Below w.heap.size w w' :=
  (refLimbsA_c A n c l w hr hl.1 hn).mono fun _ _ ⟨x, r, h1, h2, h3, h4, h5, h6⟩ => ⟨x, r, h1, h2, limbs_canon hl h3 (h4.trans hl.2.1) rfl (by rw [hr.1]; exact h5), h6⟩
end Go.Proofs.Ytjocobfabdkadaa
