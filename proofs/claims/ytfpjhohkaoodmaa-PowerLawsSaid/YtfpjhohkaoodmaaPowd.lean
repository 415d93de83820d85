/- Two, Bits and Log of package power, by contract. -/
import Derived.Test.YtfpjhohkaoodmaaPows
namespace Go.Proofs.Ytfpjhohkaoodmaa
open Go.RowKit
attribute [local go_sem] alloc_drewN setCell_drewN
theorem two_val (n : Nat) : val 18446744073709551616 ((List.replicate (n / 64 + 1) 0).set (n / 64) (2 ^ (n % 64))) = 2 ^ n := by
  have h := val_set 18446744073709551616 (l := List.replicate (n / 64 + 1) 0) (i := n / 64) (x := 0) (2 ^ (n % 64)) (by simp)
  rw [val_zeros] at h
  have e : 18446744073709551616 ^ (n / 64) * 2 ^ (n % 64) = 2 ^ n := by
    rw [show (18446744073709551616 : Nat) = 2 ^ 64 by decide, ← Nat.pow_mul, ← Nat.pow_add, Nat.div_add_mod]
  rw [e] at h
  omega
theorem two_lt (n : Nat) : 2 ^ (n % 64) < 18446744073709551616 := by
  have h : 2 ^ (n % 64) < 2 ^ 64 := Nat.pow_lt_pow_right (by decide) (Nat.mod_lt _ (by decide))
  omega
theorem shl_val (n : Nat) : IntKind.u64.wrap (2 ^ (n % 64)) = ((2 ^ (n % 64) : Nat) : Int) := by
  have h := two_lt n
  rw [IntKind.wrap_u64]
  have e : ((2 : Int) ^ (n % 64)) = ((2 ^ (n % 64) : Nat) : Int) := by simp
  rw [e]
  generalize 2 ^ (n % 64) = y at *
  omega
theorem info64' : (Try.prog.info? 23).map (fun i => (i.zero, i.size, i.bytes)) = some (some (.int .u64 0), 1, 8) := info64
set_option maxRecDepth 100000 in
set_option maxHeartbeats 4000000 in
theorem two_c (c : Int) (n : Nat) (w : World) (hn : n < 18446744073709551616) (hc : c ≤ 200) :
    Calls Try.prog 14 #[.int .i64 c, .int .u64 n] w fun e w' => NatOk w c (2 ^ n) e w' := by
  obtain ⟨i0, hi0, hz0, hz1, hz2⟩ := info_parts info64'
  have h1 : Below w.heap.size w (w.alloc (.cells #[.slice none 0 0] 29)) := (Below.refl _ _).alloc (Nat.le_refl _) _
  have k4 := Bk.new w 29 #[.slice none 0 0]
  have HK := Lib.hid (And.intro h1 k4)
  clear h1 k4
  go_enter Try.func14, Try.ntmps14
  by_cases hbey : 64 * (max 0 c).toNat ≤ n
  · have HD := Lib.hid (decide_eq_true hbey)
    have HM := Lib.hid (show fitB c (2 ^ n) = false by rw [fitB_two]; exact decide_eq_false (by omega))
    clear hbey
    go_wp2_with (first
      | (go_at_call 28; refine (within_c c _ (by omega)).mono ?_; rintro e w0 ⟨rfl, rfl⟩)
      | (go_at_call 30; refine (beyond_c c n _ (by omega) hn).mono ?_; rintro e w2 ⟨rfl, rfl⟩; rw [HD.out]))
    exact bodyPost_ret (v := .tuple #[.agg #[.slice none 0 0], .bool false]) (by simp [results, Try.results14, go_sem]) rfl (NatOk.mk HM.out rfl (isNat_zero _ _) HK.out.1)
  · have HD := Lib.hid (decide_eq_false hbey)
    have HM := Lib.hid (show fitB c (2 ^ n) = true by rw [fitB_two]; exact decide_eq_true (by omega))
    have hn2 : n < 12800 := by omega
    clear hbey
    go_upto_region 5 with (first
      | (go_at_call 28; refine (within_c c _ (by omega)).mono ?_; rintro e w0 ⟨rfl, rfl⟩)
      | (go_at_call 30; refine (beyond_c c n _ (by omega) hn).mono ?_; rintro e w2 ⟨rfl, rfl⟩; rw [HD.out])
      | (refine wpList_make_full _ rfl _ _ _ rfl (w.heap.size + 1) 23 i0 (.int .u64 0) 1 Try.underlying22 hi0 hz0 hz1 .u64 .u64 _ _ (n / 64 + 1) rfl rfl (by omega) (by omega) (by rw [hz2]; omega) (by simp only [maxLen]; omega) (by simp) ?_; intro w1 ho hg1; have hk4 := HK.out.2.grown hg1 (by simp); have hB1 := HK.out.1.grown hg1 (by simp) (fun k hk => by cases hk); have hom := own_made ho; have hz := hg1.size; simp at hz; have HO := Lib.hid (And.intro hom (And.intro hk4 hB1)); clear ho hg1 hk4 hB1 hom))
    have hs1 : (w.alloc (.cells #[.slice none 0 0] 29)).heap.size = w.heap.size + 1 := by simp
    have ho := HO.out.1
    rw [hs1] at ho
    obtain ⟨y, hy, hcy, hfy⟩ := Own.at_ ho (k := n / 64) (by omega)
    have hg1 : w.heap.size + 1 < w1.heap.size := by
      obtain ⟨g, cap, e, _, h⟩ := ho.form (by omega)
      injection e with e
      injection e with e
      injection e with e
      omega
    have hk4 := HO.out.2.1
    have c4 := hk4.cell 0
    have f4 := hk4.frozen 0
    have z4 := hk4.lt
    simp only [List.getElem?_toArray, List.getElem?_cons_zero] at c4
    have e1 : ((n : Int) / 64).toNat = n / 64 := by omega
    have e2 : 0 ≤ (n : Int) / 64 := by omega
    have e3 : (n : Int) / 64 < ((n / 64 + 1 : Nat) : Int) := by omega
    have HX := Lib.hid (And.intro ho (And.intro hk4 (And.intro HO.out.2.2 hy)))
    clear ho hk4 HO hy
    go_upto_region 6 with fail
    rw [shl_val]
    have hpo := Own.put HX.out.1 (n / 64) (2 ^ (n % 64))
    have hr : Rw .u64 (w1.setCell ⟨w.heap.size + 1, n / 64, none⟩ (.int .u64 (2 ^ (n % 64) : Nat))) (some ⟨w.heap.size + 1, 0, none⟩) (n / 64 + 1) ((List.replicate (n / 64 + 1) 0).set (n / 64) (2 ^ (n % 64))) := Rw.of_own hpo
    have hkk := HX.out.2.1.far (p := ⟨w.heap.size + 1, n / 64, none⟩) (by simp) (.int .u64 (2 ^ (n % 64) : Nat))
    have hbb := HX.out.2.2.1.setCell (p := ⟨w.heap.size + 1, n / 64, none⟩) (by simp) (.int .u64 (2 ^ (n % 64) : Nat))
    have hall : AllLt 18446744073709551616 ((List.replicate (n / 64 + 1) 0).set (n / 64) (2 ^ (n % 64))) := by
      intro x hx
      rcases List.mem_or_eq_of_mem_set hx with h | h
      · rw [(List.mem_replicate.1 h).2]; decide
      · rw [h]; exact two_lt n
    have HY := Lib.hid (And.intro hr (And.intro hkk (And.intro hbb hall)))
    clear hpo hr hkk hbb hall c4 f4 hcy hfy
    generalize w1.setCell ⟨w.heap.size + 1, n / 64, none⟩ (.int .u64 (2 ^ (n % 64) : Nat)) = w2 at *
    go_wp2_with (go_at_call 8; refine (limbs_c _ _ _ _ _ HY.out.1 HY.out.2.2.2 (by omega) (Nat.le_refl _)).mono ?_; rintro e w3 ⟨x, rfl, hx, hb⟩; rw [two_val] at hx; obtain ⟨A3, n3, d3, l3, rfl, hx⟩ := hx; have hk4 := HY.out.2.1.keep hb; have c4 := hk4.cell 0; have f4 := hk4.frozen 0; have z5 := hk4.lt; have z6 := HY.out.2.1.lt; simp only [List.getElem?_toArray, List.getElem?_cons_zero] at c4; have HZ := Lib.hid (And.intro hx (And.intro hk4 (HY.out.2.2.1.trans (hb.mono HY.out.2.2.1.size)))); clear hx hk4 hb)
    exact bodyPost_ret (v := .tuple #[.agg #[.slice A3 n3 d3], .bool true]) (by simp [results, Try.results14, go_sem, HZ.out.2.1.res1]) rfl (NatOk.mk HM.out rfl (IsNat.mono (IsNat.far (⟨A3, n3, d3, l3, rfl, HZ.out.1⟩ : IsNat w2.heap.size w3 _ _) (by simp; omega)) (Nat.zero_le _)) (HZ.out.2.2.setCell (by simp) _))
theorem bitn_zero : Bitn 0 0 := ⟨by decide, fun h => absurd h (by decide), fun _ => rfl⟩
theorem bitn_limbs {l : List Nat} {N x : Nat} (h : Lim 18446744073709551616 l N) (hx : l[l.length - 1]? = some x) : Bitn N ((l.length - 1) * 64 + Lib.bitLen x) := by
  have hk : l.length - 1 < l.length := (List.getElem?_eq_some_iff.1 hx).1
  have hx0 : x ≠ 0 := by
    intro h0
    have h1 := trimLen_take hx
    rw [show l.length - 1 + 1 = l.length by omega, List.take_length, h.2.2, if_pos h0] at h1
    have h2 := trimLen_le (l.take (l.length - 1))
    rw [List.length_take] at h2
    omega
  have hxl := h.1.at_ hx
  have e1 := val_take_succ 18446744073709551616 hx
  rw [show l.length - 1 + 1 = l.length by omega, List.take_length, h.2.1] at e1
  have hlo := val_lt 18446744073709551616 (by omega) (l.take (l.length - 1)) (h.1.take _)
  rw [List.length_take, Nat.min_eq_left (by omega)] at hlo
  have eB : (18446744073709551616 : Nat) ^ (l.length - 1) = 2 ^ ((l.length - 1) * 64) := by
    rw [show (18446744073709551616 : Nat) = 2 ^ 64 by decide, ← Nat.pow_mul, Nat.mul_comm]
  rw [eB] at e1 hlo
  obtain ⟨b1, b2⟩ := bitLen_ge hxl (by omega)
  have b3 := bitLen_lt hxl
  generalize (l.length - 1) * 64 = P at *
  generalize Lib.bitLen x = b at *
  refine ⟨?_, fun _ => ⟨?_, by omega⟩, fun h0 => ?_⟩
  · rw [Nat.pow_add]
    have := Nat.mul_le_mul_left (2 ^ P) (show x + 1 ≤ 2 ^ b from b3)
    rw [Nat.mul_add] at this
    omega
  · rw [show P + b - 1 = P + (b - 1) by omega, Nat.pow_add]
    have := Nat.mul_le_mul_left (2 ^ P) b1
    omega
  · exfalso
    have h4 : 0 < 2 ^ P := Nat.pow_pos (by decide)
    have h5 := Nat.mul_le_mul_left (2 ^ P) (show 1 ≤ x by omega)
    omega
set_option maxRecDepth 100000 in
set_option maxHeartbeats 4000000 in
theorem bits_c (v : Value) (N : Nat) (w : World) (hv : IsNat 0 w v N) (hN : Fits N 1000) :
    Calls Try.prog 24 #[v] w fun e w' => (∃ b : Nat, e = .returned (.int .u64 b) ∧ Bitn N b) ∧ Below w.heap.size w w' := by
  have hv0 := hv
  obtain ⟨A0, n0, d0, l0, rfl, -, hl0, -⟩ := hv
  have b1 : Below w.heap.size w (w.alloc (.cells #[.slice A0 n0 d0] 29)) := (Below.refl _ _).alloc (Nat.le_refl _) _
  have HV := Lib.hid (And.intro (hv0.keep b1) b1)
  have hlen := hl0.len hN
  have HL := Lib.hid hl0
  clear hv0 b1 hl0
  go_enter Try.func24, Try.ntmps24
  go_upto_region 2 with (go_at_call 16; refine (all_w HV.out.1 hN ⟨HL.out, rfl⟩).mono ?_; rintro e w1 ⟨A, c, rfl, hr, hb⟩; have HR := Lib.hid (And.intro hr (HV.out.2.trans (hb.mono HV.out.2.size))); clear hr hb)
  by_cases hz : l0.length = 0
  · have g0 : ((l0.length : Int) == 0) = true := by simp [hz]
    have hN0 := HL.out.zero.1 hz
    go_wp2
    go_ret
    subst hN0
    exact ⟨⟨0, rfl, bitn_zero⟩, HR.out.2⟩
  · have g0 : ((l0.length : Int) == 0) = false := beq_false_of_ne (by omega)
    obtain ⟨z, hz⟩ : ∃ z, l0.length = z + 1 := ⟨l0.length - 1, by omega⟩
    have hr := HR.out.1
    obtain ⟨b, off, x, rfl, hb, hx, hc⟩ := hr.at_ (i := z) (by omega)
    have hxl := HL.out.1.at_ hx
    have hbt := bitn_limbs HL.out (by rw [hz, Nat.add_sub_cancel]; exact hx)
    rw [hz, Nat.add_sub_cancel] at hbt
    have hle := bitLen_le x
    have HB := Lib.hid hbt
    clear hbt hx hr HL
    rw [hz] at g0 ⊢
    have i1 : (0 : Int) ≤ ((z + 1 : Nat) : Int) - 1 := by omega
    have i2 : ((z + 1 : Nat) : Int) - 1 < ((z + 1 : Nat) : Int) := by omega
    go_wp2_with (go_at_call 33; refine (len64_c x _ hxl).mono ?_; rintro e w3 ⟨rfl, rfl⟩)
    go_ret
    exact ⟨⟨z * 64 + Lib.bitLen x, ret_int (by simp), HB.out⟩, HR.out.2⟩
theorem below_through {w w1 w2 : World} (h : Below w.heap.size w w1) (hb : Below w1.heap.size w1 w2) : Below w.heap.size w w2 := h.trans (hb.mono h.size)
set_option maxRecDepth 100000 in
set_option maxHeartbeats 4000000 in
theorem log_c (v : Value) (N : Nat) (w : World) (hv : IsNat 0 w v N) (hN : Fits N 1000) :
    Calls Try.prog 21 #[v] w fun e w' => (∃ b : Nat, e = .returned (.int .u64 b) ∧ Bitn (N - 1) b) ∧ Below w.heap.size w w' := by
  have hv0 := hv
  obtain ⟨A0, n0, d0, l0, rfl, -, -, -⟩ := hv
  have b1 : Below w.heap.size w (w.alloc (.cells #[.slice A0 n0 d0] 29)) := (Below.refl _ _).alloc (Nat.le_refl _) _
  have k1 := Bk.new w 29 #[.slice A0 n0 d0]
  have c1 := k1.cell 0
  simp only [List.getElem?_toArray, List.getElem?_cons_zero] at c1
  have HV := Lib.hid (And.intro (hv0.keep b1) (And.intro b1 k1))
  clear hv0 b1 k1
  go_enter Try.func21, Try.ntmps21
  go_upto_region 1 with fail
  generalize w.alloc (.cells #[.slice A0 n0 d0] 29) = wz at *
  obtain ⟨e11, he11⟩ : ∃ e11, (if N < 1 then (11 : Int) else 0) = e11 := ⟨_, rfl⟩
  have HE := Lib.hid he11
  clear he11
  have z1 := HV.out.2.2.lt
  go_region_law (first
    | (go_simp; go_at_call 20; refine (of_w 1 _ (by decide)).mono ?_; rintro e w2 ⟨v1, rfl, hv1, hb⟩; (try (have hk3 := Bk.keep (Bk.drew (Bk.new _ 29 #[.slice none 0 0])) hb; have cc3 := hk3.cell 0; have ff3 := hk3.frozen 0; (try simp at cc3); (try simp at ff3); have zz3 := hk3.lt; (try simp at zz3); have HK3 := Lib.hid hk3; clear hk3)); have hb : Below wz.heap.size wz w2 := below_through (by first | exact (Below.refl _ _).drew | exact ((Below.refl _ _).alloc (Nat.le_refl _) _).drew) hb; have k1 := HV.out.2.2.keep hb; have zk1 := k1.lt; have c1 := k1.cell 0; simp only [List.getElem?_toArray, List.getElem?_cons_zero] at c1; have HO := Lib.hid (And.intro hv1 hb); clear hv1 hb k1)
    | (go_simp; go_at_call 37; refine (sub_c 1000 0 0 _ _ N 1 _ (by first | exact HV.out.1.keep HO.out.2 | exact (HV.out.1.keep HO.out.2).alloc _) (by first | exact HO.out.1 | exact HO.out.1.alloc _) hN (fits1.mono (by decide)) (by decide)).mono ?_; rintro e w3 ⟨x, rfl, hx, hb⟩; rw [HE.out]; have hzb := hb.size; (try simp at hzb); (try (have hk3 := Bk.keep (Bk.new _ 29 #[.slice none 0 0]) hb; have cc3 := hk3.cell 0; have ff3 := hk3.frozen 0; (try simp at cc3); (try simp at ff3); have zz3 := hk3.lt; (try simp at zz3); have HK3 := Lib.hid hk3; clear hk3)); (try (have hk3 := HK3.out.keep hb; have cc3 := hk3.cell 0; have ff3 := hk3.frozen 0; (try simp at cc3); (try simp at ff3); have zz4 := hk3.lt; (try simp at zz4); clear hk3)); have hb : Below w2.heap.size w2 w3 := below_through (by first | exact Below.refl _ _ | exact ((Below.refl _ _).alloc (Nat.le_refl _) _)) hb; obtain ⟨A3, n3, d3, l3, rfl, hy⟩ := hx; have HX := Lib.hid (And.intro hy hb); clear hy hb))
  all_goals
    have HW := Lib.hid (show Below w.heap.size w w3 from HV.out.2.1.trans ((HO.out.2.trans (HX.out.2.mono HO.out.2.size)).mono HV.out.2.1.size))
    have HI := Lib.hid (show IsNat _ w3 (.agg #[.slice A3 n3 d3]) (N - 1) from ⟨A3, n3, d3, l3, rfl, HX.out.1⟩)
    have hs1 := HO.out.2.size
    have hs2 := HV.out.2.1.size
    by_cases hN0 : N < 1
    · have e := HE.out
      rw [if_pos hN0] at e
      subst e
      go_wp2_with fail
      go_ret
      exact ⟨⟨0, rfl, by rw [show N - 1 = 0 by omega]; exact bitn_zero⟩, (by first | exact HW.out.alloc (by omega) _ | exact HW.out.setCell (by simp <;> omega) _)⟩
    · have e := HE.out
      rw [if_neg hN0] at e
      subst e
      go_wp2_with (go_at_call 24; refine (bits_c _ (N - 1) _ (by first | exact (HI.out.alloc _).mono (Nat.zero_le _) | exact (HI.out.far (by simp <;> omega)).mono (Nat.zero_le _)) (hN.le (Nat.sub_le N 1))).mono ?_; rintro e w4 ⟨⟨b, rfl, hbt⟩, hb⟩; have hB := below_through (by first | exact HW.out.alloc (by omega) _ | exact HW.out.setCell (by simp <;> omega) _) hb; have HB := Lib.hid (And.intro hbt hB); clear hbt hb hB)
      go_ret
      exact ⟨⟨b, rfl, HB.out.1⟩, HB.out.2⟩
end Go.Proofs.Ytfpjhohkaoodmaa
