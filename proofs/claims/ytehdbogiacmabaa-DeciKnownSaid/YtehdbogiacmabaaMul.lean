/- Mul of package nat, by contract. Numbers of at most 4000 limbs. -/
import Derived.Test.YtehdbogiacmabaaAdder
namespace Go.Proofs.Ytehdbogiacmabaa
open Go.RowKit
attribute [local go_sem] alloc_drewN setCell_drewN
theorem mul_inner {b k j x y old s2 carry carry' A0 : Nat} {r lb : List Nat} (hy : lb[j]? = some y) (ho : r[k + j]? = some old) (he : x * y + carry + old = s2 + b * carry')
    (hv : val b r + b ^ (k + j) * carry = A0 + b ^ k * (x * val b (lb.take j))) :
    val b (r.set (k + j) s2) + b ^ (k + (j + 1)) * carry' = A0 + b ^ k * (x * val b (lb.take (j + 1))) := by
  have h1 := val_set b s2 ho
  rw [val_take_succ b hy, Nat.mul_add, Nat.mul_add]
  have h2 : b ^ k * (x * (b ^ j * y)) = b ^ (k + j) * (x * y) := by
    rw [Nat.pow_add, Nat.mul_left_comm x, Nat.mul_assoc]
  have h3 : b ^ (k + (j + 1)) * carry' = b ^ (k + j) * (b * carry') := by
    rw [← Nat.add_assoc, Nat.pow_succ, Nat.mul_assoc]
  have h4 : b ^ (k + j) * (x * y + carry + old) = b ^ (k + j) * (s2 + b * carry') := by rw [he]
  simp only [Nat.mul_add] at h4
  rw [h2, h3]
  omega
theorem zeros_at {r : List Nat} {q z : Nat} (hd : r.drop q = List.replicate z 0) (hz : 0 < z) : r[q]? = some 0 := by
  have h := congrArg (fun t : List Nat => t[0]?) hd
  simp only [List.getElem?_drop, Nat.add_zero] at h
  rw [h, List.getElem?_replicate, if_pos hz]
theorem zeros_next {r : List Nat} {q z s : Nat} (hd : r.drop q = List.replicate z 0) : (r.set q s).drop (q + 1) = List.replicate (z - 1) 0 := by
  rw [List.drop_set_of_lt (by omega)]
  have h := congrArg (List.drop 1) hd
  rw [List.drop_drop, List.drop_replicate] at h
  exact h
theorem zeros_skip {r : List Nat} {q z : Nat} (hd : r.drop q = List.replicate z 0) : r.drop (q + 1) = List.replicate (z - 1) 0 := by
  have h := congrArg (List.drop 1) hd
  rw [List.drop_drop, List.drop_replicate] at h
  exact h
theorem mul_outer {b k m x carry : Nat} {r la lb : List Nat} (hx : la[k]? = some x) (hm : lb.length = m) (h0 : r[k + m]? = some 0)
    (hv : val b r + b ^ (k + m) * carry = val b (la.take k) * val b lb + b ^ k * (x * val b (lb.take m))) :
    val b (r.set (k + m) carry) = val b (la.take (k + 1)) * val b lb := by
  have h1 := val_set b carry h0
  rw [← hm, List.take_length, hm] at hv
  rw [val_take_succ b hx, Nat.add_mul, Nat.mul_assoc]
  omega
theorem own_made {g n : Nat} {w : World} {v : Value} (h : w.ownsRow g 23 1 v n (madeCells (Value.int .u64 0).cells (n * 1)).toList) : w.ownsRow g 23 1 v n (cellsOf .u64 (List.replicate n 0)) := by
  rw [Nat.mul_one] at h
  have e : (madeCells (Value.int .u64 0).cells n).toList = cellsOf .u64 (List.replicate n 0) := by
    rw [show (Value.int .u64 0).cells = #[Value.int .u64 0] from rfl, toList_madeCells_one]
    simp [cellsOf]
  rwa [e] at h
theorem word_sq {x y c o : Nat} (hx : x < 18446744073709551616) (hy : y < 18446744073709551616) (hc : c < 18446744073709551616) (ho : o < 18446744073709551616) : x * y + c + o < 18446744073709551616 * 18446744073709551616 := by
  have h := Nat.mul_le_mul (Nat.le_of_lt_succ hx) (Nat.le_of_lt_succ hy)
  omega
theorem below_of_grown {w w1 : World} (h : w.grownBy w1 none) : Below w.heap.size w w1 := ⟨h.os, h.tape, h.output, h.size, fun k hk => h.block k hk (by simp)⟩
theorem Rw.lt {k : IntKind} {w : World} {A : Option Addr} {n : Nat} {l : List Nat} (h : Rw k w A n l) (hn : 0 < n) (b off : Nat) (e : A = some ⟨b, off, none⟩) : b < w.heap.size := by
  obtain ⟨b', off', e', hl, _⟩ := h.2 hn
  rw [e] at e'
  injection e' with e'
  injection e' with e1
  omega
set_option maxHeartbeats 8000000 in
theorem mul_c (s0 g h : Nat) (u v : Value) (N M : Nat) (w : World) (hu : IsNat g w u N) (hv : IsNat h w v M) (hN : Fits N s0) (hM : Fits M s0) (hs0 : s0 ≤ 4000) :
    Calls Try.prog 26 #[u, v] w fun e w' => ∃ x, e = .returned x ∧ IsNat w.heap.size w' x (N * M) ∧ Below w.heap.size w w' := by
  obtain ⟨i0, hi0, hz0, hz1, hz2⟩ := info_parts info64
  obtain ⟨A, n, c, la, rfl, hn, hla, hnc, _⟩ := hu
  obtain ⟨B, m, d, lb, rfl, hm, hlb, hmd, _⟩ := hv
  have hn4 : n ≤ 4000 := by rw [← hn.1]; exact Nat.le_trans (hla.len hN) hs0
  have hm4 : m ≤ 4000 := by rw [← hm.1]; exact Nat.le_trans (hlb.len hM) hs0
  have hW : Below w.heap.size w (((w.alloc (.cells #[.slice A n c] 26)).alloc (.cells #[.slice B m d] 26)).alloc (.cells #[.slice none 0 0] 26)) := (((Below.refl _ _).alloc (Nat.le_refl _) _).alloc (by simp) _).alloc (by simp <;> omega) _
  have hkb := ((Bk.new (w.alloc (.cells #[.slice A n c] 26)) 26 #[.slice B m d]).alloc (.cells #[.slice none 0 0] 26))
  have hka := (((Bk.new w 26 #[.slice A n c]).alloc (.cells #[.slice B m d] 26)).alloc (.cells #[.slice none 0 0] 26))
  have hkr := (Bk.new ((w.alloc (.cells #[.slice A n c] 26)).alloc (.cells #[.slice B m d] 26)) 26 #[.slice none 0 0])
  simp at hkb hkr
  go_enter Try.func26, Try.ntmps26
  by_cases hz : n = 0 ∨ m = 0
  · have hNM : N * M = 0 := by
      rcases hz with hz | hz
      · rw [hla.zero.1 (hn.1.trans hz), Nat.zero_mul]
      · rw [hlb.zero.1 (hm.1.trans hz), Nat.mul_zero]
    by_cases hz' : n = 0
    · subst hz'
      have h1 : (((0 : Nat) : Int) == 0) = true := by simp
      have hcr := hkr.cell 0
      simp at hcr
      clear hn hm
      go_wp2
      refine bodyPost_ret (v := .agg #[.slice none 0 0]) (by simp [results, Try.results26, go_sem]) rfl ⟨_, rfl, (by first | exact isNat_zero _ _ | (rw [hNM]; exact isNat_zero _ _)), hW⟩
    · have h1 : ((n : Int) == 0) = false := by simp <;> omega
      have h2 : ((m : Int) == 0) = true := by simp <;> omega
      have hcr := hkr.cell 0
      simp at hcr
      clear hn hm
      go_wp2
      refine bodyPost_ret (v := .agg #[.slice none 0 0]) (by simp [results, Try.results26, go_sem]) rfl ⟨_, rfl, (by first | exact isNat_zero _ _ | (rw [hNM]; exact isNat_zero _ _)), hW⟩
  · have h1 : ((n : Int) == 0) = false := by simp <;> omega
    have h2 : ((m : Int) == 0) = false := by simp <;> omega
    have HW := Lib.hid (And.intro hW (And.intro hka (And.intro hkb (And.intro hkr (And.intro (hn.keep hW) (hm.keep hW))))))
    have hs3 : (((w.alloc (.cells #[.slice A n c] 26)).alloc (.cells #[.slice B m d] 26)).alloc (.cells #[.slice none 0 0] 26)).heap.size = w.heap.size + 1 + 1 + 1 := by simp
    have HS := Lib.hid hs3
    clear hs3
    have HL := Lib.hid (And.intro hn.1 (And.intro hm.1 (And.intro hn.2 hm.2)))
    clear hW hka hkb hkr hn hm
    go_wp2_with (first
      | (refine wpList_make_full _ rfl _ _ _ rfl (w.heap.size + 3) 23 i0 (.int .u64 0) 1 Try.underlying22 hi0 hz0 hz1 .i64 .i64 _ _ (n + m) rfl rfl (Int.natCast_add n m).symm (Int.natCast_add n m).symm (by rw [hz2]; omega) (by simp only [maxLen]; omega) (by simp) ?_; intro w1 ho hg1; have hka1 := HW.out.2.1.grown hg1 (by simp); have hkb1 := HW.out.2.2.1.grown hg1 (by simp); have hca1 := hka1.cell 0; have hcb1 := hkb1.cell 0; have hla1 := hka1.lt; have hlb1 := hkb1.lt; simp at hca1 hcb1; have hB1 := HW.out.1.grown hg1 (by simp; omega) (fun k hk => by cases hk); have HB := Lib.hid (And.intro hka1 (And.intro hkb1 (And.intro (HW.out.2.2.2.1.grown hg1 (by simp)) hB1))); have hg3 := below_of_grown hg1; have HA1 := Lib.hid (HW.out.2.2.2.2.1.keep hg3); have HB1 := Lib.hid (HW.out.2.2.2.2.2.keep hg3); have hom := own_made ho; rw [HS.out] at hom; have HO := Lib.hid hom; clear hom; have hgs := hg1.size; simp at hgs; clear ho hg1 hB1 hka1 hkb1 hg3))
    go_loopw [36] (fun i w2 => ∃ (k : Nat) (r : List Nat), i = .int .i64 k ∧ k ≤ n ∧ r.length = n + m ∧ w2.ownsRow (w.heap.size + 3) 23 1 (.slice (some ⟨w.heap.size + 1 + 1 + 1, 0, none⟩) (n + m) (n + m)) (n + m) (cellsOf .u64 r) ∧ AllLt 18446744073709551616 r ∧ r.drop (k + m) = List.replicate (n - k) 0 ∧ val 18446744073709551616 r = val 18446744073709551616 (la.take k) * val 18446744073709551616 lb ∧ Below (w.heap.size + 3) w1 w2) (fun i _ => n - (intOf i).toNat)
    case atStart => exact ⟨0, List.replicate (n + m) 0, rfl, Nat.zero_le _, by simp, HO.out, fun x hx => by rw [(List.mem_replicate.1 hx).2]; omega, by simp, by rw [val_zeros]; simp [val], Below.refl _ _⟩
    case round =>
      obtain ⟨k, r, rfl, hk, hrl, ho, hrt, hdr, hv, hB2⟩ := hrel
      by_cases hkn : k < n
      · have h3 : decide ((k : Int) < (n : Int)) = true := by simp <;> omega
        have hz2s := hB2.size
        have hA2 := HA1.out.low (g := w.heap.size + 3) (fun h b off e => by have := HW.out.2.2.2.2.1.lt h b off e; simpa using this) hB2
        obtain ⟨ba, oa, x, rfl, hbl, hx, hcx⟩ := hA2.at_ (i := k) hkn
        have hxl := hla.1.at_ hx
        have hkb2 := HB.out.2.1.below hB2 (by omega)
        have hcb2 := hkb2.cell 0
        have hzb2 := hkb2.lt
        simp at hcb2
        by_cases hx0 : x = 0
        · subst hx0
          have h4 : (((0 : Nat) : Int) == 0) = true := by simp
          have HX := Lib.hid (And.intro hx (And.intro hrl (And.intro ho (And.intro hrt (And.intro hdr (And.intro hv hB2))))))
          clear hx hrl ho hrt hdr hv hB2 hA2 hkb2
          go_wp2
          obtain ⟨hx, hrl, ho, hrt, hdr, hv, hB2⟩ := HX.out
          go_roundw
          case rel => exact ⟨k + 1, r, by go_num, by omega, hrl, ho, hrt, by rw [show k + 1 + m = k + m + 1 by omega, show n - (k + 1) = n - k - 1 by omega]; exact zeros_skip hdr, by rw [hv, val_take_succ _ hx]; simp, hB2⟩
          case measure => simp [intOf] <;> omega
        · have h4 : ((x : Int) == 0) = false := by simp <;> omega
          have HX := Lib.hid (And.intro hx (And.intro hrl (And.intro ho (And.intro hrt (And.intro hdr (And.intro hv hB2))))))
          clear hx hrl ho hrt hdr hv hB2 hA2 hkb2
          go_wp2
          obtain ⟨hx, hrl, ho, hrt, hdr, hv, hB2⟩ := HX.out
          go_loopw [8, 46] (fun ca q w3 => ∃ (j cy : Nat) (r2 : List Nat), q = .int .i64 j ∧ ca = .int .u64 cy ∧ j ≤ m ∧ cy < 18446744073709551616 ∧ r2.length = n + m ∧ w3.ownsRow (w.heap.size + 3) 23 1 (.slice (some ⟨w.heap.size + 1 + 1 + 1, 0, none⟩) (n + m) (n + m)) (n + m) (cellsOf .u64 r2) ∧ AllLt 18446744073709551616 r2 ∧ r2.drop (k + m) = List.replicate (n - k) 0 ∧ val 18446744073709551616 r2 + 18446744073709551616 ^ (k + j) * cy = val 18446744073709551616 (la.take k) * val 18446744073709551616 lb + 18446744073709551616 ^ k * (x * val 18446744073709551616 (lb.take j)) ∧ Below (w.heap.size + 3) w1 w3) (fun _ q _ => m - (intOf q).toNat)
          case atStart => exact ⟨0, 0, r, rfl, rfl, Nat.zero_le _, by omega, hrl, ho, hrt, hdr, by rw [hv]; simp [val], hB2⟩
          case round =>
            clear hrl ho hrt hdr hv hB2 hcx hcb2 hzb2
            obtain ⟨j, cy, r2, rfl, rfl, hj, hcy, hrl, ho, hrt, hdr, hv, hB2⟩ := hrel
            have hkb2 := HB.out.2.1.below hB2 (by omega)
            have hcb2 := hkb2.cell 0
            have hzb2 := hkb2.lt
            simp at hcb2
            by_cases hjm : j < m
            · have h5 : decide ((j : Int) < (m : Int)) = true := by simp <;> omega
              have hB2r := HB1.out.low (g := w.heap.size + 3) (fun h b off e => by have := HW.out.2.2.2.2.2.lt h b off e; simpa using this) hB2
              obtain ⟨bb, ob, y, rfl, hbb, hy, hcy2⟩ := hB2r.at_ (i := j) hjm
              have hyl := hlb.1.at_ hy
              obtain ⟨old, hold, hco, hfo⟩ := Own.at_ ho (k := k + j) (by omega)
              have hol := hrt.at_ hold
              have hsq := word_sq hxl hyl hcy hol
              have HX := Lib.hid (And.intro hx (And.intro hrl (And.intro ho (And.intro hrt (And.intro hdr (And.intro hv (And.intro hB2 (And.intro hy hold))))))))
              clear hx hrl ho hrt hdr hv hB2 hkb2 hy hold hB2r
              go_wp2_with (first
                | (go_at_call 46; refine (mul64_c x y hxl hyl _).mono ?_; rintro e w' ⟨hh, ll, hhl, hl1, hh1, rfl, rfl⟩; obtain ⟨s1, c1, ha1, ha2, ha3, ha4⟩ := add64_c ll cy 0 hl1 hcy (by omega) w'; obtain ⟨s2, c2, hb1, hb2, hb3, hb4⟩ := add64_c old s1 0 hol ha2 (by omega) w'; have hc1 : hh + c1 < 18446744073709551616 := (by omega); have hc2 : hh + c1 + c2 < 18446744073709551616 := (by omega); have ha5 : (callFunc 47 #[.int .u64 ll, .int .u64 cy, .int .u64 0]).run Try.prog w' = _ := ha4; have hb5 : (callFunc 47 #[.int .u64 old, .int .u64 s1, .int .u64 0]).run Try.prog w' = _ := hb4; have HE := Lib.hid (show x * y + cy + old = s2 + 18446744073709551616 * (hh + c1 + c2) by omega); clear ha4 hb4 ha1 hb1 hhl)
                | simp only [ha5]
                | simp only [hb5])
              obtain ⟨hx, hrl, ho, hrt, hdr, hv, hB2, hy, hold⟩ := HX.out
              go_roundw
              case rel => exact ⟨j + 1, hh + c1 + c2, r2.set (k + j) s2, by go_num, by simp, by omega, hc2, by simpa using hrl, Own.put ho (k + j) s2, hrt.set hb2, by rw [List.drop_set_of_lt (by omega)]; exact hdr, mul_inner hy hold HE.out hv, hB2.setCell (by simp) _⟩
              case measure => simp [intOf] <;> omega
            · obtain rfl : j = m := by omega
              have h5 : decide ((j : Int) < (j : Int)) = false := by simp
              obtain ⟨z, hz, hcz, hfz⟩ := Own.at_ ho (k := k + j) (by omega)
              have hz0 := zeros_at hdr (by omega)
              have HX := Lib.hid (And.intro hx (And.intro hrl (And.intro ho (And.intro hrt (And.intro hdr (And.intro hv (And.intro hB2 hz0)))))))
              clear hx hrl ho hrt hdr hv hB2 hkb2 hz hz0
              go_wp2
              obtain ⟨hx, hrl, ho, hrt, hdr, hv, hB2, hz0⟩ := HX.out
              go_roundw
              case rel => exact ⟨k + 1, r2.set (k + j) cy, by go_num, by omega, by simpa using hrl, Own.put ho (k + j) cy, hrt.set hcy, by rw [show k + 1 + j = k + j + 1 by omega, show n - (k + 1) = n - k - 1 by omega]; exact zeros_next hdr, mul_outer hx HL.out.2.1 hz0 hv, hB2.setCell (by simp) _⟩
              case measure => simp [intOf] <;> omega
      · obtain rfl : k = n := by omega
        have h3 : decide ((k : Int) < (k : Int)) = false := by simp
        have hfin : val 18446744073709551616 r = N * M := by
          rw [hv, ← HL.out.1, List.take_length, hla.2.1, hlb.2.1]
        have hrw := Rw.of_own ho
        have hz2s := hB2.size
        have HR := Lib.hid (And.intro hrw (And.intro hrt (fun (b off : Nat) (e : some (⟨w.heap.size + 1 + 1 + 1, 0, none⟩ : Addr) = some ⟨b, off, none⟩) => (ho.lt b (by rw [e]; rfl)).1)))
        clear ho hrw hrt hv hdr
        go_wp2_with (go_at_call 30; refine (own_c (w.heap.size + 3) _ (k + m) (k + m) r _ HR.out.1 HR.out.2.1 (by omega) (Nat.le_refl _) HR.out.2.2).mono ?_; rintro e w4 ⟨v, rfl, hv2, hb⟩; have hk2 := (HB.out.2.2.1.below hB2 (by omega)).keep hb; have hB4 := (HB.out.2.2.2.trans (hB2.mono (by omega))).trans (hb.mono (by omega)); obtain ⟨A2, m2, c2, l2, rfl, hv2⟩ := hv2; have HV := Lib.hid (And.intro hv2 hB4); clear hv2 hb hB4; have hf2 := hk2.frozen 0; have hc2 := hk2.cell 0; have hz2 := hk2.lt; simp at hc2)
        refine bodyPost_ret (v := .agg #[.slice A2 m2 c2]) (by simp [results, Try.results26, go_sem, hk2.res1]) rfl ⟨_, rfl, ?_, HV.out.2.setCell (by simp; omega) _⟩
        have : IsNat (w.heap.size + 3) w4 (.agg #[.slice A2 m2 c2]) (val 18446744073709551616 r) := ⟨A2, m2, c2, l2, rfl, HV.out.1⟩
        rw [hfin] at this
        exact (this.far (by simp)).mono (by omega)
end Go.Proofs.Ytehdbogiacmabaa
