/- PowerPows, walked: for any cap, any row of at most 6 limbs and any exponent the statement returns true, and nothing that was there before has turned. -/
import Derived.Test.YtfpjhohkaoodmaaPworks
namespace Go.Proofs.Ytfpjhohkaoodmaa
open Go.RowKit
attribute [local go_sem] alloc_drewN setCell_drewN
theorem bytOk_get {w w' : World} {c : Int} {M : Nat} {b : Bool} {e : Ending} (h : BytOk w c M e w') (hb : fitB c M = b) : ∃ x, e = .returned (.tuple #[x, .bool b]) ∧ (b = true → IsByt w' x M) ∧ Below w.heap.size w w' := by
  subst hb
  exact h
/-- A variable's block, and the number that it holds. -/
def NatBx (w : World) (g : Nat) (A : Option Addr) (k d N : Nat) : Prop := Bk w g 29 #[.slice A k d] ∧ IsNat 0 w (.agg #[.slice A k d]) N
theorem NatBx.keep {w w' : World} {g : Nat} {A : Option Addr} {k d N : Nat} (h : NatBx w g A k d N) (hb : Below w.heap.size w w') : NatBx w' g A k d N := ⟨h.1.keep hb, h.2.keep hb⟩
theorem NatBx.cell {w : World} {g : Nat} {A : Option Addr} {k d N : Nat} (h : NatBx w g A k d N) : w.cell? ⟨g, 0, none⟩ = some (.slice A k d) := h.1.cell 0
def MayByt (w : World) (x : Value) (b : Bool) (N : Nat) : Prop := b = true → IsByt w x N
theorem MayByt.keep {w w' : World} {x : Value} {b : Bool} {N : Nat} (h : MayByt w x b N) (hb : Below w.heap.size w w') : MayByt w' x b N := fun h1 => (h h1).keep hb
theorem pow_min {c : Int} {X n m : Nat} (hc : c ≤ 12) (hm : min n 1000 = m) : fitB c (X ^ m) = fitB c (X ^ n) ∧ (fitB c (X ^ n) = true → X ^ n = X ^ m) := by
  by_cases h : n ≤ 1000
  · obtain rfl : n = m := by omega
    exact ⟨rfl, fun _ => rfl⟩
  · have hm1 : m = 1000 := by omega
    clear hm
    by_cases h0 : X = 0
    · subst h0
      rw [Nat.zero_pow (by omega), Nat.zero_pow (by omega)]
      exact ⟨rfl, fun _ => rfl⟩
    · by_cases h1 : X = 1
      · subst h1
        rw [Nat.one_pow, Nat.one_pow]
        exact ⟨rfl, fun _ => rfl⟩
      · have e1 : fitB c (X ^ m) = false := fitB_pow_false (by omega) (by omega)
        have e2 : fitB c (X ^ n) = false := fitB_pow_false (by omega) (by omega)
        exact ⟨by rw [e1, e2], fun h => by rw [e2] at h; cases h⟩
set_option maxRecDepth 100000 in
set_option maxHeartbeats 8000000 in
theorem pows_c (c : Int) (A : Option Addr) (n0 c0 : Nat) (la : List Nat) (n : Nat) (w : World) (ha : Rw .u64 w A n0 la) (ta : AllLt 18446744073709551616 la) (hn : n < 18446744073709551616) (hl : n0 ≤ 6) (hl1 : n0 ≤ c0) :
    Calls Try.prog 3 #[.int .i64 c, .slice A n0 c0, .int .u64 n] w fun e w' => e = .returned (.bool true) ∧ Below w.heap.size w w' := by
  have g0 : decide ((6 : Int) < (n0 : Int)) = false := by simp <;> omega
  have hX := Fits.of_lim ta (show la.length ≤ 6 by rw [ha.1]; exact hl)
  have HA := Lib.hid (And.intro ha ta)
  have HB := Lib.hid (Below.refl w.heap.size w)
  have hk : max (-3) (min c 12) ≤ 12 := by omega
  clear ha ta
  go_enter Try.func3, Try.ntmps3
  go_upto_region 4 with (go_at_call 6; refine (limit_c c _).mono ?_; rintro e w1 ⟨rfl, rfl⟩)
  generalize max (-3) (min c 12) = k at *
  obtain ⟨X, hXe⟩ : ∃ X, X = val 18446744073709551616 la := ⟨_, rfl⟩
  rw [← hXe] at hX
  have HXE := Lib.hid hXe
  clear hXe
  go_upto_region 6 with (first | (go_at_call 7; refine (refOf_c A n0 c0 la _ HA.out.1 HA.out.2 (by omega)).mono ?_; rintro e w1 ⟨vx, rfl, hx, hb⟩; rw [← HXE.out] at hx; have HX := Lib.hid hx; have HA := Lib.hid (And.intro (HA.out.1.keep hb) HA.out.2); have HB := Lib.hid (HB.out.trans (hb.mono HB.out.size)); clear hx hb) | (go_at_call 8; refine (limbs_c A n0 c0 la _ HA.out.1 HA.out.2 (by omega) hl1).mono ?_; rintro e wp ⟨vp, rfl, hi, hb⟩; rw [← HXE.out] at hi; obtain ⟨Ap, kp, dp, lp, rfl, hi⟩ := hi; have Hp := Lib.hid (show IsNat 0 wp (.agg #[.slice Ap kp dp]) X from IsNat.mono ⟨Ap, kp, dp, lp, rfl, hi⟩ (Nat.zero_le _)); have HX := Lib.hid (HX.out.keep hb); have HB := Lib.hid (HB.out.trans (hb.mono HB.out.size)); clear hi hb))
  have bb : Below wp.heap.size wp (wp.alloc (.cells #[.slice Ap kp dp] 29)) := (Below.refl _ _).alloc (Nat.le_refl _) _
  have hx : NatBx (wp.alloc (.cells #[.slice Ap kp dp] 29)) wp.heap.size Ap kp dp (X) := ⟨Bk.new _ _ _, Hp.out.keep bb⟩
  have HB := Lib.hid (HB.out.trans (bb.mono HB.out.size))
  have HX := Lib.hid (HX.out.keep bb)
  have Hp := Lib.hid hx
  clear hx bb
  generalize wp.alloc (.cells #[.slice Ap kp dp] 29) = zp at *
  generalize wp.heap.size = gp at *
  have cp := Hp.out.cell
  clear HA
  have hmn : min (n : Int) 1000 = ((min n 1000 : Nat) : Int) := by omega
  go_upto_region 7 with fail
  clear hmn
  obtain ⟨m, hm⟩ : ∃ m, min n 1000 = m := ⟨_, rfl⟩
  rw [hm]
  have hm1 : m ≤ 1000 := by omega
  obtain ⟨p1, p2⟩ := pow_min (c := k) (X := X) hk hm
  obtain ⟨q1, q2⟩ := pow_min (c := k) (X := 2) hk hm
  obtain ⟨b1, hb1⟩ : ∃ b, fitB k (X ^ n) = b := ⟨_, rfl⟩
  obtain ⟨b2, hb2⟩ : ∃ b, fitB k (geo X (n + 1)) = b := ⟨_, rfl⟩
  obtain ⟨b3, hb3⟩ : ∃ b, fitB k (2 ^ n) = b := ⟨_, rfl⟩
  rw [hb1] at p1 p2
  rw [hb3] at q1 q2
  have HF := Lib.hid (And.intro hb1 (And.intro p1 (And.intro p2 (And.intro hb2 (And.intro hb3 (And.intro q1 q2))))))
  clear hm p1 p2 q1 q2 hb1 hb2 hb3
  go_upto_region 8 with (first | (go_at_call 9; refine (pow_c k _ X n _ Hp.out.2 (hX.mono (by decide)) hn (by omega)).mono ?_; intro e wr hx; obtain ⟨Ar, kr, dr, rfl, hi, hb⟩ := natOk_get hx rfl (HF.out.1); have Hr := Lib.hid hi; have HB := Lib.hid (HB.out.trans (hb.mono HB.out.size)); have HX := Lib.hid (HX.out.keep hb); have Hp := Lib.hid (Hp.out.keep hb); clear hx hi hb))
  have bb : Below wr.heap.size wr (wr.alloc (.cells #[.slice Ar kr dr] 29)) := (Below.refl _ _).alloc (Nat.le_refl _) _
  have hx : NatBx (wr.alloc (.cells #[.slice Ar kr dr] 29)) wr.heap.size Ar kr dr (if b1 then X ^ n else 0) := ⟨Bk.new _ _ _, Hr.out.keep bb⟩
  have HB := Lib.hid (HB.out.trans (bb.mono HB.out.size))
  have HX := Lib.hid (HX.out.keep bb)
  have Hp := Lib.hid (Hp.out.keep bb)
  have Hr := Lib.hid hx
  clear hx bb
  generalize wr.alloc (.cells #[.slice Ar kr dr] 29) = zr at *
  generalize wr.heap.size = gr at *
  have cp := Hp.out.cell
  have cr := Hr.out.cell
  go_upto_region 9 with (first | (go_at_call 10; refine (rpow_c k _ X m _ HX.out hX hm1 hk).mono ?_; intro e wt hx; obtain ⟨xt, rfl, hi, hb⟩ := bytOk_get hx (HF.out.2.1); have Ht := Lib.hid hi; have HB := Lib.hid (HB.out.trans (hb.mono HB.out.size)); have HX := Lib.hid (HX.out.keep hb); have Hp := Lib.hid (Hp.out.keep hb); have Hr := Lib.hid (Hr.out.keep hb); clear hx hi hb))
  have Ht := Lib.hid (show MayByt wt xt b1 (X ^ m) from Ht.out)
  have cp := Hp.out.cell
  have cr := Hr.out.cell
  go_upto_region 11 with (first | (go_at_call_of 11 (Value.agg #[Value.slice Ar kr dr]); refine (is_same (b := b1) Ar kr dr xt (X ^ n) (X ^ m) _ HF.out.1 HF.out.2.1 HF.out.2.2.1 (by omega) Hr.out.2 Ht.out).mono ?_; rintro e w9 ⟨rfl, hb⟩; have HB := Lib.hid (HB.out.trans (hb.mono HB.out.size)); have HX := Lib.hid (HX.out.keep hb); have Hp := Lib.hid (Hp.out.keep hb); have Hr := Lib.hid (Hr.out.keep hb); have Ht := Lib.hid (Ht.out.keep hb); clear hb))
  have cp := Hp.out.cell
  go_upto_region 12 with (first | (go_at_call 12; refine (psum_c k _ X n _ Hp.out.2 (hX.mono (by decide)) hn (by omega)).mono ?_; intro e ws hx; obtain ⟨As, ks, ds, rfl, hi, hb⟩ := natOk_get hx rfl (HF.out.2.2.2.1); have Hs := Lib.hid hi; have HB := Lib.hid (HB.out.trans (hb.mono HB.out.size)); have HX := Lib.hid (HX.out.keep hb); have Hp := Lib.hid (Hp.out.keep hb); clear hx hi hb))
  have bb : Below ws.heap.size ws (ws.alloc (.cells #[.slice As ks ds] 29)) := (Below.refl _ _).alloc (Nat.le_refl _) _
  have hx : NatBx (ws.alloc (.cells #[.slice As ks ds] 29)) ws.heap.size As ks ds (if b2 then geo X (n + 1) else 0) := ⟨Bk.new _ _ _, Hs.out.keep bb⟩
  have HB := Lib.hid (HB.out.trans (bb.mono HB.out.size))
  have HX := Lib.hid (HX.out.keep bb)
  have Hp := Lib.hid (Hp.out.keep bb)
  have Hs := Lib.hid hx
  clear hx bb
  generalize ws.alloc (.cells #[.slice As ks ds] 29) = zs at *
  generalize ws.heap.size = gs at *
  go_upto_region 13 with (first | (go_at_call 13; refine (rsum_c k _ X n _ HX.out hX hn hk).mono ?_; intro e wu hx; obtain ⟨xu, rfl, hi, hb⟩ := bytOk_get hx (HF.out.2.2.2.1); have Hu := Lib.hid hi; have HB := Lib.hid (HB.out.trans (hb.mono HB.out.size)); have HX := Lib.hid (HX.out.keep hb); have Hp := Lib.hid (Hp.out.keep hb); have Hs := Lib.hid (Hs.out.keep hb); clear hx hi hb))
  have Hu := Lib.hid (show MayByt wu xu b2 (geo X (n + 1)) from Hu.out)
  go_upto_region 14 with (first | (go_at_call 14; refine (two_c k n _ hn (by omega)).mono ?_; intro e wq hx; obtain ⟨Aq, kq, dq, rfl, hi, hb⟩ := natOk_get hx rfl (HF.out.2.2.2.2.1); have Hq := Lib.hid hi; have HB := Lib.hid (HB.out.trans (hb.mono HB.out.size)); have HX := Lib.hid (HX.out.keep hb); have Hp := Lib.hid (Hp.out.keep hb); have Hs := Lib.hid (Hs.out.keep hb); have Hu := Lib.hid (Hu.out.keep hb); clear hx hi hb))
  have bb : Below wq.heap.size wq (wq.alloc (.cells #[.slice Aq kq dq] 29)) := (Below.refl _ _).alloc (Nat.le_refl _) _
  have hx : NatBx (wq.alloc (.cells #[.slice Aq kq dq] 29)) wq.heap.size Aq kq dq (if b3 then 2 ^ n else 0) := ⟨Bk.new _ _ _, Hq.out.keep bb⟩
  have HB := Lib.hid (HB.out.trans (bb.mono HB.out.size))
  have HX := Lib.hid (HX.out.keep bb)
  have Hp := Lib.hid (Hp.out.keep bb)
  have Hs := Lib.hid (Hs.out.keep bb)
  have Hu := Lib.hid (Hu.out.keep bb)
  have Hq := Lib.hid hx
  clear hx bb
  generalize wq.alloc (.cells #[.slice Aq kq dq] 29) = zq at *
  generalize wq.heap.size = gq at *
  have h2 : IsByt (zq.alloc (.cells #[.int .u8 2] 5)) (.slice (some ⟨zq.heap.size, 0, none⟩) 1 1) 2 := ⟨_, _, _, [2], rfl, rw_new zq 2 _, ⟨by intro x hx; simp at hx; omega, by simp [val], by simp [trimLen]⟩, Nat.le_refl _⟩
  have b2' : Below zq.heap.size zq (zq.alloc (.cells #[.int .u8 2] 5)) := (Below.refl _ _).alloc (Nat.le_refl _) _
  have H2 := Lib.hid (And.intro h2 b2')
  clear h2 b2'
  go_upto_region 15 with (first | (go_at_call 10; refine (rpow_c k _ 2 m _ H2.out.1 (Fits.mono (s := 1) ⟨by decide⟩ (by decide)) hm1 hk).mono ?_; intro e wv hx; obtain ⟨xv, rfl, hi, hb⟩ := bytOk_get hx HF.out.2.2.2.2.2.1; have hb := below_through H2.out.2 hb; have Hv := Lib.hid (show MayByt wv xv b3 (2 ^ m) from hi); have HB := Lib.hid (HB.out.trans (hb.mono HB.out.size)); have HX := Lib.hid (HX.out.keep hb); have Hp := Lib.hid (Hp.out.keep hb); have Hs := Lib.hid (Hs.out.keep hb); have Hu := Lib.hid (Hu.out.keep hb); have Hq := Lib.hid (Hq.out.keep hb); clear hx hi hb))
  obtain ⟨Ax, nx, dx, rfl⟩ := byt_slice HX.out
  obtain ⟨lx, hlx⟩ : ∃ l : List Nat, Lim 18446744073709551616 l X := by
    obtain ⟨_, _, _, l, _, _, h, _⟩ := Hp.out.2
    exact ⟨l, h⟩
  have HLX := Lib.hid hlx
  clear hlx
  have cp := Hp.out.cell
  have cs := Hs.out.cell
  have cq := Hq.out.cell
  go_wp2_with (first
    | (go_at_call_of 11 (Value.agg #[Value.slice As ks ds]); refine (is_same (b := b2) As ks ds xu (geo X (n + 1)) (geo X (n + 1)) _ HF.out.2.2.2.1 HF.out.2.2.2.1 (fun _ => rfl) (by omega) Hs.out.2 Hu.out).mono ?_; rintro e w9 ⟨rfl, hb⟩; have HB := Lib.hid (HB.out.trans (hb.mono HB.out.size)); have HX := Lib.hid (HX.out.keep hb); have Hp := Lib.hid (Hp.out.keep hb); have Hs := Lib.hid (Hs.out.keep hb); have Hu := Lib.hid (Hu.out.keep hb); have Hq := Lib.hid (Hq.out.keep hb); have Hv := Lib.hid (Hv.out.keep hb); have cp := Hp.out.cell; have cs := Hs.out.cell; have cq := Hq.out.cell; clear hb)
    | (go_at_call_of 11 (Value.agg #[Value.slice Aq kq dq]); refine (is_same (b := b3) Aq kq dq xv (2 ^ n) (2 ^ m) _ HF.out.2.2.2.2.1 HF.out.2.2.2.2.2.1 HF.out.2.2.2.2.2.2 (by omega) Hq.out.2 Hv.out).mono ?_; rintro e w9 ⟨rfl, hb⟩; have HB := Lib.hid (HB.out.trans (hb.mono HB.out.size)); have HX := Lib.hid (HX.out.keep hb); have Hp := Lib.hid (Hp.out.keep hb); have Hs := Lib.hid (Hs.out.keep hb); have Hu := Lib.hid (Hu.out.keep hb); have Hq := Lib.hid (Hq.out.keep hb); have Hv := Lib.hid (Hv.out.keep hb); have cp := Hp.out.cell; have cs := Hs.out.cell; have cq := Hq.out.cell; clear hb)
    | (go_at_call 16; refine (all_w Hp.out.2 (hX.mono (by decide)) ⟨HLX.out, rfl⟩).mono ?_; rintro e w9 ⟨A9, c9, rfl, hr, hb⟩; have HR := Lib.hid hr; have HB := Lib.hid (HB.out.trans (hb.mono HB.out.size)); have HX := Lib.hid (HX.out.keep hb); have Hp := Lib.hid (Hp.out.keep hb); have Hs := Lib.hid (Hs.out.keep hb); have Hu := Lib.hid (Hu.out.keep hb); have Hq := Lib.hid (Hq.out.keep hb); have Hv := Lib.hid (Hv.out.keep hb); have cp := Hp.out.cell; have cs := Hs.out.cell; have cq := Hq.out.cell; clear hr hb)
    | (go_at_call 7; refine (refOf_c _ _ _ _ _ HR.out HLX.out.1 (Nat.le_trans (HLX.out.len hX) (by decide))).mono ?_; rintro e w10 ⟨x10, rfl, hx, hb⟩; rw [HLX.out.2.1] at hx; have HR := Lib.hid hx; have HB := Lib.hid (HB.out.trans (hb.mono HB.out.size)); have HX := Lib.hid (HX.out.keep hb); have Hp := Lib.hid (Hp.out.keep hb); have Hs := Lib.hid (Hs.out.keep hb); have Hu := Lib.hid (Hu.out.keep hb); have Hq := Lib.hid (Hq.out.keep hb); have Hv := Lib.hid (Hv.out.keep hb); have cp := Hp.out.cell; have cs := Hs.out.cell; have cq := Hq.out.cell; clear hx hb)
    | (go_at_call 15; refine (same_w HR.out HX.out (hX.mono (by decide)) (hX.mono (by decide)) (b := true) (decide_eq_true rfl)).mono ?_; rintro e w11 ⟨rfl, hb⟩; have HB := Lib.hid (HB.out.trans (hb.mono HB.out.size)); have HX := Lib.hid (HX.out.keep hb); have Hp := Lib.hid (Hp.out.keep hb); have Hs := Lib.hid (Hs.out.keep hb); have Hu := Lib.hid (Hu.out.keep hb); have Hq := Lib.hid (Hq.out.keep hb); have Hv := Lib.hid (Hv.out.keep hb); clear hb)
    | (go_at_call 5; refine (works_c _).mono ?_; rintro e w12 ⟨rfl, hb⟩; have HB := Lib.hid (HB.out.trans (hb.mono HB.out.size)); have HX := Lib.hid (HX.out.keep hb); have Hp := Lib.hid (Hp.out.keep hb); have Hs := Lib.hid (Hs.out.keep hb); have Hu := Lib.hid (Hu.out.keep hb); have Hq := Lib.hid (Hq.out.keep hb); have Hv := Lib.hid (Hv.out.keep hb); clear hb))
  go_ret
  exact ⟨rfl, HB.out⟩
end Go.Proofs.Ytfpjhohkaoodmaa
