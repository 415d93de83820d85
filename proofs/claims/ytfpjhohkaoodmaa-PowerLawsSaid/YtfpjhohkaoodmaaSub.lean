/- Sub and Mul of package nat, by contract. Numbers of at most 9000 limbs. -/
import Derived.Test.YtfpjhohkaoodmaaAdder
namespace Go.Proofs.Ytfpjhohkaoodmaa
open Go.RowKit
attribute [local go_sem] alloc_drewN setCell_drewN
theorem take_succ0 (b : Nat) {m : List Nat} {k : Nat} (hk : m.length ≤ k) : val b (m.take (k + 1)) = val b (m.take k) := by
  rw [List.take_of_length_le hk, List.take_of_length_le (by omega)]
theorem sub_step {b k x s y d d' : Nat} {l r m : List Nat} (hx : r[k]? = some x) (hd : r.drop k = l.drop k) (hs : s + y + d = x + b * d') (hy : val b (m.take (k + 1)) = val b (m.take k) + b ^ k * y)
    (hv : val b (r.take k) + val b (m.take k) = val b (l.take k) + b ^ k * d) :
    val b ((r.set k s).take (k + 1)) + val b (m.take (k + 1)) = val b (l.take (k + 1)) + b ^ (k + 1) * d' := by
  have hk := (List.getElem?_eq_some_iff.1 hx).1
  rw [val_take_succ b (x := s) (by simp [hk]), List.take_set_of_le (Nat.le_refl _), hy, val_take_succ b (hx ▸ (drop_at hd).symm : l[k]? = some x), Nat.pow_succ, Nat.mul_assoc]
  have h1 : b ^ k * (s + y + d) = b ^ k * (x + b * d') := by rw [hs]
  simp only [Nat.mul_add] at h1
  omega
theorem sub_end {b k d : Nat} {l r m : List Nat} (hl : r.length = l.length) (hk : k ≤ l.length) (hm : m.length ≤ k) (hd : r.drop k = l.drop k) (hv : val b (r.take k) + val b (m.take k) = val b (l.take k) + b ^ k * d) :
    val b r + val b m = val b l + b ^ k * d := by
  have h1 := val_append b (r.take k) (r.drop k)
  have h2 := val_append b (l.take k) (l.drop k)
  rw [List.take_append_drop, List.length_take, Nat.min_eq_left (by omega)] at h1 h2
  rw [List.take_of_length_le hm] at hv
  rw [hd] at h1
  omega
set_option maxHeartbeats 8000000 in
theorem sub_c (s0 g h : Nat) (u v : Value) (N M : Nat) (w : World) (hu : IsNat g w u N) (hv : IsNat h w v M) (hN : Fits N s0) (hM : Fits M s0) (hs0 : s0 ≤ 9000) :
    Calls Try.prog 37 #[u, v] w fun e w' => ∃ x, e = .returned (.tuple #[x, .int .i64 (if N < M then 11 else 0)]) ∧ IsNat w.heap.size w' x (N - M) ∧ Below w.heap.size w w' := by
  have hu0 := hu
  have hv0 := hv
  obtain ⟨A, n, c, l0, rfl, hu1⟩ := hu
  obtain ⟨B, m, d, lm, rfl, hm, hlm, hmd, _⟩ := hv
  have hW : Below w.heap.size w (((w.alloc (.cells #[.slice A n c] 29)).alloc (.cells #[.slice B m d] 29)).alloc (.cells #[.slice none 0 0] 29)) := (((Below.refl _ _).alloc (Nat.le_refl _) _).alloc (by simp) _).alloc (by simp <;> omega) _
  have hkb := ((Bk.new (w.alloc (.cells #[.slice A n c] 29)) 29 #[.slice B m d]).alloc (.cells #[.slice none 0 0] 29))
  have hka := (((Bk.new w 29 #[.slice A n c]).alloc (.cells #[.slice B m d] 29)).alloc (.cells #[.slice none 0 0] 29))
  have hkr := (Bk.new ((w.alloc (.cells #[.slice A n c] 29)).alloc (.cells #[.slice B m d] 29)) 29 #[.slice none 0 0])
  simp at hkb hkr
  go_enter Try.func37, Try.ntmps37
  have HW := Lib.hid (And.intro hW (And.intro hka (And.intro hkb (And.intro hkr (And.intro (hu0.keep hW) (And.intro (hv0.keep hW) hm))))))
  clear hW hka hkb hkr hu0 hv0 hm hu1
  by_cases hlt : N < M
  · have hc : cmpI N M = -1 := by unfold cmpI; rw [if_pos hlt]
    go_wp2_with (go_at_call 17; refine (cmp_c _ _ _ _ N M _ HW.out.2.2.2.2.1 HW.out.2.2.2.2.2.1 (hN.mono (by omega)) (hM.mono (by omega))).mono ?_; rintro e w1 ⟨rfl, hb⟩; have hk := HW.out.2.2.2.1.keep hb; have hB := HW.out.1.trans (hb.mono HW.out.1.size); have hf := hk.frozen 0; have hcc := hk.cell 0; have hz := hk.lt; simp at hcc; have HB := Lib.hid hB; clear hB hb)
    refine bodyPost_ret (v := .tuple #[.agg #[.slice none 0 0], .int .i64 11]) (by simp [results, Try.results37, go_sem, hk.res1]) rfl ⟨_, rfl, ?_, HB.out.setCell (by simp; omega) _⟩
    rw [show N - M = 0 by omega]
    exact isNat_zero _ _
  · have hc : ∃ q, cmpI N M = q ∧ decide (q < 0) = false := by
      unfold cmpI; rw [if_neg hlt]; split <;> exact ⟨_, rfl, by decide⟩
    obtain ⟨q, hq, hq0⟩ := hc
    go_wp2_with (first
      | (go_at_call 17; refine (cmp_c _ _ _ _ N M _ HW.out.2.2.2.2.1 HW.out.2.2.2.2.2.1 (hN.mono (by omega)) (hM.mono (by omega))).mono ?_; rintro e w1 ⟨rfl, hb⟩; have hka1 := HW.out.2.1.keep hb; have hc0 := hka1.cell 0; simp at hc0; have HB := Lib.hid hb; clear hb hka1)
      | (go_at_call 16; refine (all_c _ _ N _ (HW.out.2.2.2.2.1.keep HB.out) (hN.mono (by omega))).mono ?_; rintro e w2 ⟨v2, l, rfl, ho, hlim, hb2⟩; have HB2 := Lib.hid hb2; have HO := Lib.hid ho; obtain ⟨A0, c0, rfl, _⟩ := ho.slice; clear ho hb2))
    have hln : l.length ≤ 9000 := hlim.len (hN.mono hs0)
    have hml : lm.length = m := by have := HW.out.2.2.2.2.2.2.1; exact this
    have hmn : m ≤ l.length := by
      by_cases hc : l.length < lm.length
      · exact absurd (hlim.lt_of_len (by omega) hlm hc) hlt
      · omega
    have hww : w.heap.size ≤ w1.heap.size := by have := HB.out.size; simp at this; omega
    have hcc0 : l.length ≤ c0 := by
      obtain ⟨A', c', e, _, h, _⟩ := HO.out.slice
      injection e with _ _ e; omega
    have hC : Below w.heap.size w w2 := (HW.out.1.trans (HB.out.mono (by simp; omega))).trans (HB2.out.mono hww)
    have HC := Lib.hid hC
    clear hC
    go_loopw [7, 19] (fun bo i w3 => ∃ (k dd : Nat) (r : List Nat), i = .int .i64 k ∧ bo = .int .u64 dd ∧ k ≤ l.length ∧ dd ≤ 1 ∧ r.length = l.length ∧ w3.ownsRow w1.heap.size 23 1 (.slice A0 l.length c0) l.length (cellsOf .u64 r) ∧ AllLt 18446744073709551616 r ∧ val 18446744073709551616 (r.take k) + val 18446744073709551616 (lm.take k) = val 18446744073709551616 (l.take k) + 18446744073709551616 ^ k * dd ∧ r.drop k = l.drop k ∧ Below w1.heap.size w2 w3) (fun _ i _ => l.length - (intOf i).toNat)
    case atStart => exact ⟨0, 0, l, rfl, rfl, Nat.zero_le _, by omega, rfl, HO.out, hlim.1, by simp [val], rfl, Below.refl _ _⟩
    case round =>
      obtain ⟨k, dd, r, rfl, rfl, hk, hdd, hrl, ho, hrlt, hv, hdr, hB3⟩ := hrel
      have HW3 := HW
      have hkb := (HW.out.2.2.1.keep HB.out |>.keep HB2.out |>.below hB3 (by have := HB.out.size; simp at this; omega))
      have hcb := hkb.cell 0
      have hzb := hkb.lt
      simp at hcb
      have hz3 := hB3.size
      by_cases hkn : k < l.length
      · have h2 : decide ((k : Int) < (l.length : Int)) = true := by simp <;> omega
        obtain ⟨gb, cap, e, hgb, hgl⟩ := ho.form (by omega)
        injection e with e1 e2 e3
        subst e1 e3
        obtain ⟨x, hx, hcx, hfx⟩ := Own.at_ ho (k := k) hkn
        have hxl := hrlt.at_ hx
        by_cases hkm : k < m
        · have h3 : decide ((k : Int) < (m : Int)) = true := by simp <;> omega
          have hmr := ((HW.out.2.2.2.2.2.2.keep HC.out).low (g := w1.heap.size) (fun hm0 b off e => by
            obtain ⟨b', off', e', hl', _⟩ := HW.out.2.2.2.2.2.2.2 hm0
            rw [e] at e'; injection e' with e'; injection e' with e1; omega) hB3)
          obtain ⟨b, off, y, rfl, hbl, hy, hcy⟩ := hmr.at_ (i := k) hkm
          have hyl := hlm.1.at_ hy
          have hts := val_take_succ 18446744073709551616 hy
          obtain ⟨s, d', hs1, hs2, hs3, hs4⟩ := sub64_c x y dd hxl hyl hdd wr
          have HX := Lib.hid (And.intro hx (And.intro hdr (And.intro hts (And.intro hv (And.intro hrl (And.intro hrlt ho))))))
          clear hx hdr hts hv hrl hrlt ho hy hmr
          go_wp2_with (simp only [hs4])
          obtain ⟨hx, hdr, hts, hv, hrl, hrlt, ho⟩ := HX.out
          go_roundw
          case rel => exact ⟨k + 1, d', r.set k s, by go_num, rfl, by omega, hs3, by simpa using hrl, Own.put ho k s, hrlt.set hs2, sub_step hx hdr hs1 hts hv, drop_next hdr, hB3.setCell (by simp; omega) _⟩
          case measure => simp [intOf] <;> omega
        · have h3 : decide ((k : Int) < (m : Int)) = false := by simp <;> omega
          have h5 : dd = 0 ∨ dd = 1 := by omega
          rcases h5 with rfl | rfl
          · have hfin : val 18446744073709551616 r = N - M := by
              have h3 := sub_end hrl hk (by omega) hdr hv
              rw [hlim.2.1, hlm.2.1] at h3
              omega
            have hrw := Rw.of_own ho
            have HR := Lib.hid (And.intro hrw (And.intro hrlt (fun (b off : Nat) (e : some (⟨gb, 0, none⟩ : Addr) = some ⟨b, off, none⟩) => (ho.lt b (by rw [e]; rfl)).1)))
            clear ho hrw hrlt hv hdr hx hcx hfx
            go_wp2_with (go_at_call 26; refine (own_c w1.heap.size _ l.length c0 r _ HR.out.1 HR.out.2.1 (by omega) hcc0 HR.out.2.2).mono ?_; rintro e w4 ⟨v, rfl, hv2, hb⟩; have hk2 := (HW3.out.2.2.2.1.keep HB.out |>.keep HB2.out |>.below hB3 (by have := HB.out.size; simp at this; omega)).keep hb; have hB4 := (HC.out.trans (hB3.mono hww)).trans (hb.mono (by have := hB3.size; omega)); obtain ⟨A2, m2, c2, l2, rfl, hv2⟩ := hv2; have HV := Lib.hid (And.intro hv2 hB4); clear hv2 hb hB4; have hf2 := hk2.frozen 0; have hc2 := hk2.cell 0; have hz2 := hk2.lt; simp at hc2)
            refine bodyPost_ret (v := .tuple #[.agg #[.slice A2 m2 c2], .int .i64 0]) (by simp [results, Try.results37, go_sem, hk2.res1]) rfl ⟨_, rfl, ?_, HV.out.2.setCell (by simp; omega) _⟩
            have : IsNat w1.heap.size w4 (.agg #[.slice A2 m2 c2]) (val 18446744073709551616 r) := ⟨A2, m2, c2, l2, rfl, HV.out.1⟩
            rw [hfin] at this
            exact (this.far (by simp; have := HB.out.size; simp at this; omega)).mono (by omega)
          · have hts : val 18446744073709551616 (lm.take (k + 1)) = val 18446744073709551616 (lm.take k) + 18446744073709551616 ^ k * 0 := by rw [take_succ0 _ (by omega)]; rfl
            obtain ⟨s, d', hs1, hs2, hs3, hs4⟩ := sub64_c x 0 1 hxl (by omega) hdd wr
            have hs5 : (callFunc 49 #[.int .u64 x, .int .u64 0, .int .u64 1]).run Try.prog wr = _ := hs4
            have HX := Lib.hid (And.intro hx (And.intro hdr (And.intro hts (And.intro hv (And.intro hrl (And.intro hrlt ho))))))
            clear hx hdr hts hv hrl hrlt ho
            go_wp2_with (simp only [hs5])
            obtain ⟨hx, hdr, hts, hv, hrl, hrlt, ho⟩ := HX.out
            go_roundw
            case rel => exact ⟨k + 1, d', r.set k s, by go_num, rfl, by omega, hs3, by simpa using hrl, Own.put ho k s, hrlt.set hs2, sub_step hx hdr hs1 hts hv, drop_next hdr, hB3.setCell (by simp; omega) _⟩
            case measure => simp [intOf] <;> omega
      · obtain rfl : k = l.length := by omega
        have h2 : decide ((l.length : Int) < (l.length : Int)) = false := by simp
        have hfin : val 18446744073709551616 r = N - M := by
          have h3 := sub_end hrl (Nat.le_refl _) (by omega) hdr hv
          rw [hlim.2.1, hlm.2.1] at h3
          have h4 := val_lt 18446744073709551616 (by omega) r hrlt
          rw [hrl] at h4
          have h5 : dd = 0 ∨ dd = 1 := by omega
          rcases h5 with rfl | rfl <;> omega
        have hrw := Rw.of_own ho
        have HR := Lib.hid (And.intro hrw (And.intro hrlt (fun (b off : Nat) (e : A0 = some ⟨b, off, none⟩) => (ho.lt b (by rw [e]; rfl)).1)))
        clear ho hrw hrlt hv hdr
        (go_wp2_with (go_at_call 26; refine (own_c w1.heap.size A0 l.length c0 r _ HR.out.1 HR.out.2.1 (by omega) hcc0 HR.out.2.2).mono ?_; rintro e w4 ⟨v, rfl, hv2, hb⟩; have hk2 := (HW3.out.2.2.2.1.keep HB.out |>.keep HB2.out |>.below hB3 (by have := HB.out.size; simp at this; omega)).keep hb; have hB4 := (HC.out.trans (hB3.mono hww)).trans (hb.mono (by have := hB3.size; omega)); obtain ⟨A2, m2, c2, l2, rfl, hv2⟩ := hv2; have HV := Lib.hid (And.intro hv2 hB4); clear hv2 hb hB4; have hf2 := hk2.frozen 0; have hc2 := hk2.cell 0; have hz2 := hk2.lt; simp at hc2)
         refine bodyPost_ret (v := .tuple #[.agg #[.slice A2 m2 c2], .int .i64 0]) (by simp [results, Try.results37, go_sem, hk2.res1]) rfl ⟨_, rfl, ?_, HV.out.2.setCell (by simp; omega) _⟩
         have : IsNat w1.heap.size w4 (.agg #[.slice A2 m2 c2]) (val 18446744073709551616 r) := ⟨A2, m2, c2, l2, rfl, HV.out.1⟩
         rw [hfin] at this
         exact (this.far (by simp; have := HB.out.size; simp at this; omega)).mono (by omega))
end Go.Proofs.Ytfpjhohkaoodmaa
