/- math/bits.LeadingZeros64 and Div64, by contract. -/
import Derived.Test.YtjocobfabdkadaaDivp
import Derived.Test.YtjocobfabdkadaaLen64
import Derived.Lib.ItoaNum
import Derived.Deep.DeepCutAuto
import Derived.Deep.CutRange
import Derived.Deep.CutBlock
import Derived.Laws.BitsAllLaws
namespace Go.Proofs.Ytjocobfabdkadaa
open Go.RowKit
theorem lz64_c (x : Nat) (w : World) (h : x < 18446744073709551616) : Calls Try.prog 83 #[.int .u64 x] w fun e w' => e = .returned (.int .i64 ((64 - Lib.bitLen x : Nat) : Int)) ∧ w' = w := by
  have hl : Lib.bitLen x ≤ 64 := Lib.bitLen_le x 64 (Nat.le_refl _) h
  go_enter Try.func83, Try.ntmps83
  go_wp2_with (go_at_call 84; refine (len64_c x w h).mono ?_; rintro e w1 ⟨rfl, rfl⟩)
  go_ret
  refine ⟨congrArg Ending.returned (congrArg (Value.int IntKind.i64) ?_), rfl⟩
  go_num
theorem wrap_nat {n : Nat} (h : n < 18446744073709551616) : IntKind.u64.wrap (n : Int) = (n : Int) := by
  show (n : Int) % 18446744073709551616 = _
  omega
theorem shl_word {x t : Nat} (h : x * 2 ^ t < 18446744073709551616) : IntKind.u64.wrap ((x : Int) * 2 ^ t) = ((x * 2 ^ t : Nat) : Int) := by
  have : ((x : Int) * 2 ^ t) = ((x * 2 ^ t : Nat) : Int) := by simp
  rw [this, wrap_nat h]
theorem shl_low {x t : Nat} : IntKind.u64.wrap ((x : Int) * 2 ^ t) = ((x * 2 ^ t % 18446744073709551616 : Nat) : Int) := by
  have : ((x : Int) * 2 ^ t) = ((x * 2 ^ t : Nat) : Int) := by simp
  rw [this]
  show ((x * 2 ^ t : Nat) : Int) % 18446744073709551616 = _
  omega
theorem shr_word {x t : Nat} : (x : Int) / 2 ^ t = ((x / 2 ^ t : Nat) : Int) := by simp
theorem or_words {x y t : Nat} (ht : t ≤ 64) (h : x * 2 ^ t < 18446744073709551616) (hy : y < 18446744073709551616) :
    bits BinOp.or IntKind.u64 ((x * 2 ^ t : Nat) : Int) ((y / 2 ^ (64 - t) : Nat) : Int) = ((x * 2 ^ t + y / 2 ^ (64 - t) : Nat) : Int) ∧ y / 2 ^ (64 - t) < 2 ^ t := by
  have hlt : y / 2 ^ (64 - t) < 2 ^ t := by
    rw [Nat.div_lt_iff_lt_mul (Nat.pow_pos (by omega)), ← Nat.pow_add, show t + (64 - t) = 64 by omega]
    exact hy
  refine ⟨?_, hlt⟩
  rw [u64_or_nat _ _ h (Nat.lt_of_le_of_lt (Nat.div_le_self _ _) hy), ← Nat.shiftLeft_eq, Nat.shiftLeft_add_eq_or_of_lt hlt]
theorem and_low {x : Nat} (h : x < 18446744073709551616) : bits BinOp.and IntKind.u64 (x : Int) 4294967295 = ((x % 4294967296 : Nat) : Int) := by
  have := u64_and_nat x 4294967295 h (by decide)
  rw [show ((4294967295 : Nat) : Int) = 4294967295 from rfl] at this
  rw [this, show (4294967295 : Nat) = 2 ^ 32 - 1 from rfl, Nat.and_two_pow_sub_one_eq_mod]
theorem shift_two {hi lo y t : Nat} (ht : t ≤ 64) (hh : hi < y) (hlo : lo < 18446744073709551616) :
    hi * 2 ^ t + lo / 2 ^ (64 - t) < y * 2 ^ t ∧ (hi * 18446744073709551616 + lo) * 2 ^ t = ((hi * 2 ^ t + lo / 2 ^ (64 - t)) * 4294967296 + lo * 2 ^ t % 18446744073709551616 / 4294967296) * 4294967296 + lo * 2 ^ t % 18446744073709551616 % 4294967296 := by
  have hp : 0 < 2 ^ t := Nat.pow_pos (by omega)
  have hw : 2 ^ (64 - t) * 2 ^ t = 18446744073709551616 := by rw [← Nat.pow_add, show 64 - t + t = 64 by omega]
  have e1 : lo * 2 ^ t / 18446744073709551616 = lo / 2 ^ (64 - t) := by rw [← hw, Nat.mul_div_mul_right _ _ hp]
  have hlt : lo / 2 ^ (64 - t) < 2 ^ t := by
    rw [Nat.div_lt_iff_lt_mul (Nat.pow_pos (by omega)), Nat.mul_comm, hw]
    exact hlo
  constructor
  · have : (hi + 1) * 2 ^ t ≤ y * 2 ^ t := Nat.mul_le_mul_right _ hh
    rw [Nat.add_mul] at this
    omega
  · rw [← e1, Nat.add_mul, Nat.mul_right_comm]
    generalize lo * 2 ^ t = m
    generalize hi * 2 ^ t = k
    omega
theorem quo_word {u a : Nat} (hu : u < 18446744073709551616) : IntKind.u64.wrap ((u : Int) / (a : Int)) = ((u / a : Nat) : Int) := by
  have e : (u : Int) / (a : Int) = ((u / a : Nat) : Int) := by simp
  rw [e, wrap_nat (Nat.lt_of_le_of_lt (Nat.div_le_self _ _) hu)]
theorem rem_word {u a : Nat} (hu : u < 18446744073709551616) : IntKind.u64.wrap ((u : Int) - IntKind.u64.wrap (((u / a : Nat) : Int) * (a : Int))) = ((u % a : Nat) : Int) := by
  have h1 := Nat.div_add_mod u a
  have e : ((u / a : Nat) : Int) * (a : Int) = ((u / a * a : Nat) : Int) := by simp
  rw [Nat.mul_comm] at h1
  rw [e, wrap_nat (by omega)]
  generalize u / a * a = k at h1 ⊢
  have e2 : ((u : Int) - (k : Int)) = ((u % a : Nat) : Int) := by omega
  rw [e2, wrap_nat (by omega)]
theorem left_word {m f p z : Nat} (h1 : p * z ≤ m * 4294967296 + f) (h2 : m * 4294967296 + f - p * z < 18446744073709551616) :
    IntKind.u64.wrap (IntKind.u64.wrap (IntKind.u64.wrap ((m : Int) * 4294967296) + (f : Int)) - IntKind.u64.wrap ((p : Int) * (z : Int))) = ((m * 4294967296 + f - p * z : Nat) : Int) := by
  have e : ((p : Int) * (z : Int)) = ((p * z : Nat) : Int) := by simp
  rw [e]
  generalize p * z = k at h1 h2 ⊢
  show ((((m : Int) * 4294967296) % 18446744073709551616 + (f : Int)) % 18446744073709551616 - (k : Int) % 18446744073709551616) % 18446744073709551616 = _
  omega
theorem test_word {q b r v : Nat} (hq : q < 4294967296) (hb : b < 4294967296) (hr : r < 4294967296) (hv : v < 4294967296) :
    IntKind.u64.wrap ((q : Int) * (b : Int)) = ((q * b : Nat) : Int) ∧ IntKind.u64.wrap (4294967296 * (r : Int) + (v : Int)) = ((4294967296 * r + v : Nat) : Int) := by
  have hqb : q * b < 18446744073709551616 := by
    have : q * b ≤ 4294967295 * 4294967295 := Nat.mul_le_mul (by omega) (by omega)
    omega
  have e : ((q : Int) * (b : Int)) = ((q * b : Nat) : Int) := by simp
  refine ⟨by rw [e, wrap_nat hqb], ?_⟩
  show (4294967296 * (r : Int) + (v : Int)) % 18446744073709551616 = _
  omega
set_option maxRecDepth 100000 in
set_option maxHeartbeats 4000000 in
theorem div64_c (hi lo y : Nat) (w : World) (hh : hi < y) (hlo : lo < 18446744073709551616) (hy : y < 18446744073709551616) :
    Calls Try.prog 79 #[.int .u64 hi, .int .u64 lo, .int .u64 y] w fun e w' => ∃ q r : Nat, q * y + r = hi * 18446744073709551616 + lo ∧ r < y ∧ e = .returned (.tuple #[.int .u64 q, .int .u64 r]) ∧ ∃ m, w' = w.drewN m := by
  have g1 : ((y : Int) == 0) = false := by simp; omega
  have g2 : decide ((y : Int) ≤ (hi : Int)) = false := by simp; omega
  go_enter Try.func79, Try.ntmps79
  by_cases h0 : hi = 0
  · have g3 : ((hi : Int) == 0) = true := by simp [h0]
    have H := Lib.hid h0
    clear h0
    go_wp2
    go_quiet (fail)
    have e : IntKind.u64.wrap ((lo : Int) / (y : Int)) = ((lo / y : Nat) : Int) := quo_word hlo
    have e2 : ((lo : Int) % (y : Int)) = ((lo % y : Nat) : Int) := by simp
    go_wp2
    rw [e, e2]
    go_ret2
    have h0 := H.out
    subst h0
    exact ⟨lo / y, lo % y, by rw [Nat.mul_comm, Nat.div_add_mod]; omega, Nat.mod_lt _ (by omega), rfl, _, rfl⟩
  · have g3 : ((hi : Int) == 0) = false := by simp; omega
    have H := Lib.hid h0
    clear h0
    have hy63 : 0 < Lib.bitLen y ∧ 9223372036854775808 ≤ y * 2 ^ (64 - Lib.bitLen y) ∧ y * 2 ^ (64 - Lib.bitLen y) < 18446744073709551616 := by
      obtain ⟨b1, b2, b3⟩ := Lib.bitLenAux_bounds 64 y hy (by omega)
      exact ⟨b1, shift_full (Lib.bitLen_le y 64 (Nat.le_refl _) hy) b3 b2 b1⟩
    obtain ⟨hb0, hy63, hy64⟩ := hy63
    go_upto_region 8 with (go_at_call 83; refine (lz64_c y _ hy).mono ?_; rintro e w1 ⟨rfl, rfl⟩)
    go_cut [2, 8] from 19 (fun v2 v8 wx => ∃ z t : Nat, v2 = .int .u64 z ∧ v8 = .int .u64 t ∧ z = y * 2 ^ t ∧ 9223372036854775808 ≤ z ∧ z < 18446744073709551616 ∧ t ≤ 63 ∧ wx = w1)
    case first =>
      go_wp2
      go_meet

      exact ⟨_, _, congrArg _ (shl_word hy64), rfl, rfl, hy63, hy64, by omega, rfl⟩
    case rest =>
      obtain ⟨z, t, rfl, rfl, hz, hz63, hz64, ht, rfl⟩ := hcut
      obtain ⟨s1, s2⟩ := shift_two (t := t) (by omega) hh hlo
      rw [← hz] at s1
      have hhz : hi * 2 ^ t < 18446744073709551616 := Nat.lt_of_le_of_lt (Nat.le_add_right _ _) (Nat.lt_trans s1 hz64)
      have HZ := Lib.hid (And.intro hz (And.intro hz63 (And.intro hz64 (And.intro ht (And.intro s1 s2)))))
      clear hz hz63 s1 s2
      go_upto_region 14 with fail
      go_cut [9, 10, 11, 12, 13, 14] from 19 (fun v9 v10 v11 v12 v13 v14 wx => ∃ a b u v f : Nat, v9 = .int .u64 a ∧ v10 = .int .u64 b ∧ v11 = .int .u64 u ∧ v13 = .int .u64 v ∧ v14 = .int .u64 f ∧ z = a * 4294967296 + b ∧ b < 4294967296 ∧ u < z ∧ v < 4294967296 ∧ f < 4294967296 ∧ (hi * 18446744073709551616 + lo) * 2 ^ t = (u * 4294967296 + v) * 4294967296 + f ∧ wx = wc)
      case first =>
        go_wp2
        go_meet
        obtain ⟨o1, o2⟩ := or_words (x := hi) (y := lo) (t := t) (by omega) hhz hlo
        rw [and_low hz64, shl_word hhz, shr_word, o1, shl_low, and_low (Nat.mod_lt _ (by decide))]
        refine ⟨z / 4294967296, z % 4294967296, _, lo * 2 ^ t % 18446744073709551616 / 4294967296, _, congrArg _ (by omega), rfl, rfl, congrArg _ (by omega), rfl, by omega, by omega, HZ.out.2.2.2.2.1, by omega, by omega, HZ.out.2.2.2.2.2, rfl⟩
      case rest =>
        obtain ⟨a, b, u, v, f, rfl, rfl, rfl, rfl, rfl, hab, hb, huz, hv, hf, hn, rfl⟩ := hcut
        have ha : 2147483648 ≤ a ∧ a < 4294967296 := by have := HZ.out.2.1; omega
        have ha0 : ¬ ((a : Int) = 0) := by omega
        have hu : u < 18446744073709551616 := by omega
        have HN := Lib.hid (And.intro hab (And.intro hb (And.intro huz (And.intro hv (And.intro hf hn)))))
        clear hab hb huz hv hf hn
        go_upto_region 16 with fail
        go_cut [15, 16] from 19 (fun v15 v16 wx => ∃ q r : Nat, v15 = .int .u64 q ∧ v16 = .int .u64 r ∧ q = u / a ∧ r = u % a ∧ wx = wc)
        case first =>
          go_wp2
          go_meet
          rw [quo_word hu, rem_word hu]
          exact ⟨_, _, rfl, rfl, rfl, rfl, rfl⟩
        case rest =>
          obtain ⟨q, r, rfl, rfl, hq, hr, rfl⟩ := hcut
          have hG : Guess a b u v q r ∧ r < 4294967296 := by
            subst hq hr
            exact ⟨guess_first HN.out.2.2.2.1 (by omega), by have := Nat.mod_lt u (show 0 < a by omega); omega⟩
          have HG := Lib.hid hG
          clear hG hq hr
          go_upto_block 0 with fail
          go_cut [15, 16] from 67 (fun v15 v16 wx => ∃ q r : Nat, v15 = .int .u64 q ∧ v16 = .int .u64 r ∧ q < 4294967296 ∧ q * z ≤ u * 4294967296 + v ∧ u * 4294967296 + v - q * z < z ∧ wx = wc)
          case first =>
            go_wp2_with fail
            go_loop [15, 16] (fun v15 v16 => ∃ q r : Nat, v15 = .int .u64 q ∧ v16 = .int .u64 r ∧ Guess a b u v q r ∧ r < 4294967296) (fun v15 v16 => (intOf v15).toNat)
            case atStart => exact ⟨q, r, rfl, rfl, HG.out⟩
            case round =>
              obtain ⟨q, r, rfl, rfl, hG, hr⟩ := hrel
              have HG := Lib.hid (And.intro hG hr)
              clear hG
              go_upto_region 17 with fail
              go_cut [78] from 67 to 85 (fun v78 wx => ∃ d : Bool, v78 = .bool d ∧ (d = true ↔ 4294967296 ≤ q ∨ 4294967296 * r + v < q * b) ∧ wx = wc)
              case first =>
                by_cases hq : 4294967296 ≤ q
                · have hd : decide ((4294967296 : Int) ≤ (q : Int)) = true := by simp; omega
                  have HQ := Lib.hid hq
                  clear hq
                  go_wp2
                  go_meet
                  exact ⟨true, rfl, by simp [HQ.out], rfl⟩
                · have hd : decide ((4294967296 : Int) ≤ (q : Int)) = false := by simp; omega
                  have HQ := Lib.hid hq
                  clear hq
                  go_wp2
                  go_meet
                  obtain ⟨t1, t2⟩ := test_word (q := q) (b := b) (r := r) (v := v) (by have := HQ.out; omega) HN.out.2.1 hr (by have := HN.out; omega)
                  refine ⟨_, congrArg Value.bool (Eq.refl _), ?_, rfl⟩
                  rw [t1, t2]
                  have := HQ.out
                  simp
                  omega
              case rest =>
                obtain ⟨d, rfl, hd, rfl⟩ := hcut
                cases d with
                | false =>
                  have HD := Lib.hid hd
                  clear hd
                  go_wp2
                  go_meet
                  have hd := HD.out
                  simp at hd
                  obtain ⟨e1, e2⟩ := guess_done HG.out.1 HN.out.2.1 hd.1 (.inr hd.2)
                  rw [← HN.out.1] at e1 e2
                  exact ⟨q, r, rfl, rfl, hd.1, e1, e2, rfl⟩
                | true =>
                  have hd1 := hd.1 rfl
                  have hGd := guess_down HG.out.1 (by have := HN.out; omega) (by have := HN.out; omega) hd1
                  obtain ⟨p, rfl⟩ : ∃ p, q = p + 1 := ⟨q - 1, by omega⟩
                  have hG2 : Guess a b u v p (r + a) := hGd.2
                  have hpu : p < 18446744073709551615 := by
                    have h1 := HG.out.1.1
                    have h2 : p + 1 ≤ (p + 1) * a := Nat.le_mul_of_pos_right _ (by omega)
                    omega
                  have HG2 := Lib.hid (And.intro hG2 hpu)
                  clear hd hd1 hGd hG2 hpu
                  have w1 : IntKind.u64.wrap (p : Int) = (p : Int) := wrap_nat (by have := HG2.out.2; omega)
                  obtain ⟨r2, hr2⟩ : ∃ r2, r2 = r + a := ⟨_, rfl⟩
                  have w2 : (r : Int) + (a : Int) = (r2 : Int) := by omega
                  have hrb : r2 < 18446744073709551616 := by omega
                  have HG3 := Lib.hid (And.intro hr2 (hr2 ▸ HG2.out.1 : Guess a b u v p r2))
                  clear hr2
                  by_cases hra : 4294967296 ≤ r2
                  · have hd : decide ((4294967296 : Int) ≤ (r2 : Int)) = true := by simp; omega
                    have HR := Lib.hid hra
                    clear hra
                    go_wp2
                    go_meet
                    have hs := guess_small HG3.out.2 (by have := HN.out; omega) HN.out.2.1 HR.out
                    obtain ⟨e1, e2⟩ := guess_done HG3.out.2 HN.out.2.1 hs (.inl HR.out)
                    rw [← HN.out.1] at e1 e2
                    exact ⟨p, r2, rfl, rfl, hs, e1, e2, rfl⟩
                  · have hd : decide ((4294967296 : Int) ≤ (r2 : Int)) = false := by simp; omega
                    have HR := Lib.hid hra
                    clear hra
                    go_wp2
                    go_round
                    case rel => exact ⟨p, r2, rfl, rfl, HG3.out.2, by have := HR.out; omega⟩
                    case measure => simp [intOf] <;> omega
          case rest =>
            obtain ⟨q1, r1, rfl, rfl, hq1, hle, hlt, rfl⟩ := hcut
            obtain ⟨m, hm⟩ : ∃ m, m = u * 4294967296 + v - q1 * z := ⟨_, rfl⟩
            have lw := left_word hle (by omega : u * 4294967296 + v - q1 * z < 18446744073709551616)
            rw [← hm] at lw hlt
            have h1 : u * 4294967296 + v = q1 * z + m := by omega
            have H1 := Lib.hid (And.intro h1 hlt)
            have hmw : m < 18446744073709551616 := by omega
            clear h1 hm hle hlt HG
            go_upto_region 21 with fail
            go_cut [17] from 67 (fun v17 wx => v17 = .int .u64 m ∧ wx = wc)
            case first =>
              go_wp2
              go_meet
              exact ⟨rfl, rfl⟩
            case rest =>
              obtain ⟨rfl, rfl⟩ := hcut
              clear lw
              go_upto_region 23 with fail
              go_cut [18, 16] from 67 (fun v18 v16 wx => ∃ q r : Nat, v18 = .int .u64 q ∧ v16 = .int .u64 r ∧ q = m / a ∧ r = m % a ∧ wx = wc)
              case first =>
                go_wp2
                go_meet
                rw [quo_word hmw, rem_word hmw]
                exact ⟨_, _, rfl, rfl, rfl, rfl, rfl⟩
              case rest =>
                obtain ⟨q, r, rfl, rfl, hq, hr, rfl⟩ := hcut
                have hG : Guess a b m f q r ∧ r < 4294967296 := by
                  subst hq hr
                  exact ⟨guess_first HN.out.2.2.2.2.1 (by omega), by have := Nat.mod_lt m (show 0 < a by omega); omega⟩
                have HG := Lib.hid hG
                clear hG hq hr
                go_upto_block 2 with fail
                go_cut [18, 16] from 102 (fun v18 v16 wx => ∃ q r : Nat, v18 = .int .u64 q ∧ v16 = .int .u64 r ∧ q < 4294967296 ∧ q * z ≤ m * 4294967296 + f ∧ m * 4294967296 + f - q * z < z ∧ wx = wc)
                case first =>
                  go_wp2_with fail
                  go_loop [18, 16] (fun v18 v16 => ∃ q r : Nat, v18 = .int .u64 q ∧ v16 = .int .u64 r ∧ Guess a b m f q r ∧ r < 4294967296) (fun v18 v16 => (intOf v18).toNat)
                  case atStart => exact ⟨q, r, rfl, rfl, HG.out⟩
                  case round =>
                    have hzm := H1.out.2
                    obtain ⟨q, r, rfl, rfl, hG, hr⟩ := hrel
                    have HG := Lib.hid (And.intro hG hr)
                    clear hG
                    go_upto_region 24 with fail
                    go_cut [113] from 102 to 120 (fun v78 wx => ∃ d : Bool, v78 = .bool d ∧ (d = true ↔ 4294967296 ≤ q ∨ 4294967296 * r + f < q * b) ∧ wx = wc)
                    case first =>
                      by_cases hq : 4294967296 ≤ q
                      · have hd : decide ((4294967296 : Int) ≤ (q : Int)) = true := by simp; omega
                        have HQ := Lib.hid hq
                        clear hq
                        go_wp2
                        go_meet
                        exact ⟨true, rfl, by simp [HQ.out], rfl⟩
                      · have hd : decide ((4294967296 : Int) ≤ (q : Int)) = false := by simp; omega
                        have HQ := Lib.hid hq
                        clear hq
                        go_wp2
                        go_meet
                        obtain ⟨t1, t2⟩ := test_word (q := q) (b := b) (r := r) (v := f) (by have := HQ.out; omega) HN.out.2.1 hr (by have := HN.out; omega)
                        refine ⟨_, congrArg Value.bool (Eq.refl _), ?_, rfl⟩
                        rw [t1, t2]
                        have := HQ.out
                        simp
                        omega
                    case rest =>
                      obtain ⟨d, rfl, hd, rfl⟩ := hcut
                      cases d with
                      | false =>
                        have HD := Lib.hid hd
                        clear hd
                        go_wp2
                        go_meet
                        have hd := HD.out
                        simp at hd
                        obtain ⟨e1, e2⟩ := guess_done HG.out.1 HN.out.2.1 hd.1 (.inr hd.2)
                        rw [← HN.out.1] at e1 e2
                        exact ⟨q, r, rfl, rfl, hd.1, e1, e2, rfl⟩
                      | true =>
                        have hd1 := hd.1 rfl
                        have hGd := guess_down HG.out.1 (by have := HN.out; omega) (by have := HN.out; omega) hd1
                        obtain ⟨p, rfl⟩ : ∃ p, q = p + 1 := ⟨q - 1, by omega⟩
                        have hG2 : Guess a b m f p (r + a) := hGd.2
                        have hpu : p < 18446744073709551615 := by
                          have h1 := HG.out.1.1
                          have h2 : p + 1 ≤ (p + 1) * a := Nat.le_mul_of_pos_right _ (by omega)
                          omega
                        have HG2 := Lib.hid (And.intro hG2 hpu)
                        clear hd hd1 hGd hG2 hpu
                        have w1 : IntKind.u64.wrap (p : Int) = (p : Int) := wrap_nat (by have := HG2.out.2; omega)
                        obtain ⟨r2, hr2⟩ : ∃ r2, r2 = r + a := ⟨_, rfl⟩
                        have w2 : (r : Int) + (a : Int) = (r2 : Int) := by omega
                        have hrb : r2 < 18446744073709551616 := by omega
                        have HG3 := Lib.hid (And.intro hr2 (hr2 ▸ HG2.out.1 : Guess a b m f p r2))
                        clear hr2
                        by_cases hra : 4294967296 ≤ r2
                        · have hd : decide ((4294967296 : Int) ≤ (r2 : Int)) = true := by simp; omega
                          have HR := Lib.hid hra
                          clear hra
                          go_wp2
                          go_meet
                          have hs := guess_small HG3.out.2 (by have := HN.out; omega) HN.out.2.1 HR.out
                          obtain ⟨e1, e2⟩ := guess_done HG3.out.2 HN.out.2.1 hs (.inl HR.out)
                          rw [← HN.out.1] at e1 e2
                          exact ⟨p, r2, rfl, rfl, hs, e1, e2, rfl⟩
                        · have hd : decide ((4294967296 : Int) ≤ (r2 : Int)) = false := by simp; omega
                          have HR := Lib.hid hra
                          clear hra
                          go_wp2
                          go_round
                          case rel => exact ⟨p, r2, rfl, rfl, HG3.out.2, by have := HR.out; omega⟩
                          case measure => simp [intOf] <;> omega
                case rest =>
                  obtain ⟨q0, r0, rfl, rfl, hq0, hle, hlt, rfl⟩ := hcut
                  have lw := left_word hle (by omega : m * 4294967296 + f - q0 * z < 18446744073709551616)
                  have h2 : m * 4294967296 + f = q0 * z + (m * 4294967296 + f - q0 * z) := by omega
                  have qw : (q1 : Int) * 4294967296 + (q0 : Int) = ((q1 * 4294967296 + q0 : Nat) : Int) := by omega
                  have hz := HZ.out.1
                  rw [hz] at h2 hlt
                  have h1 := H1.out.1
                  rw [hz] at h1
                  obtain ⟨g1, g2⟩ := guess_both (Nat.pow_pos (by omega)) HN.out.2.2.2.2.2 h1 h2 hlt
                  rw [← hz] at g1 g2
                  have HE := Lib.hid (And.intro lw (And.intro qw (And.intro g1 g2)))
                  clear lw qw g1 g2 h1 h2 hlt hz hle
                  go_wp2
                  rw [HE.out.1, HE.out.2.1, shr_word]
                  go_ret2
                  exact ⟨_, _, HE.out.2.2.1, HE.out.2.2.2, rfl, 0, rfl⟩
end Go.Proofs.Ytjocobfabdkadaa
