/- Sum of package power, by contract: the sum of powers, if it fits under the cap. Caps of at most 200 limbs, bases of at most 200. -/
import Derived.Test.YtfpjhohkaoodmaaPowc
namespace Go.Proofs.Ytfpjhohkaoodmaa
open Go.RowKit
attribute [local go_sem] alloc_drewN setCell_drewN
/-- What lies in memory ahead of Sum's loop. -/
structure SumM (w0 w : World) (g : Nat) (a one : Value) (N : Nat) : Prop where
  hB : Below w0.heap.size w0 w
  k4 : Bk w w0.heap.size 29 #[a]
  k6 : Bk w (w0.heap.size + 1) 29 #[.slice none 0 0]
  k8 : Bk w g 29 #[one]
  oa : OffN (fun b => b = w0.heap.size + 1) w a N
  o1 : OffN (fun b => b = w0.heap.size + 1) w one 1
  lt : w0.heap.size + 1 < g
section
variable {w0 w w' : World} {g : Nat} {a one : Value} {N : Nat}
theorem SumM.keep (h : SumM w0 w g a one N) (hb : Below w.heap.size w w') : SumM w0 w' g a one N :=
  ⟨h.hB.trans (hb.mono h.hB.size), h.k4.keep hb, h.k6.keep hb, h.k8.keep hb, h.oa.keep hb, h.o1.keep hb, h.lt⟩
theorem SumM.cells (h : SumM w0 w g a one N) :
    w.cell? ⟨w0.heap.size, 0, none⟩ = some a ∧ w.cell? ⟨w0.heap.size + 1, 0, none⟩ = some (.slice none 0 0) ∧ w.cell? ⟨g, 0, none⟩ = some one ∧ w.frozen? ⟨w0.heap.size + 1, 0, none⟩ = false ∧ w0.heap.size + 1 < w.heap.size ∧ g < w.heap.size :=
  ⟨h.k4.cell 0, h.k6.cell 0, h.k8.cell 0, h.k6.frozen 0, h.k6.lt, h.k8.lt⟩
end
/-- The blocks that Sum's loop writes over: the result's and s's. -/
def badS (H G b : Nat) : Prop := b = H + 1 ∨ b = G
/-- What lies in memory while Sum's loop goes on. -/
structure SumL (w0 w : World) (g9 G : Nat) (a less s : Value) (N S : Nat) : Prop where
  hB : Below w0.heap.size w0 w
  k4 : Bk w w0.heap.size 29 #[a]
  k6 : Bk w (w0.heap.size + 1) 29 #[.slice none 0 0]
  k9 : Bk w g9 29 #[less]
  k11 : Bk w G 29 #[s]
  oa : OffN (badS w0.heap.size G) w a N
  ol : OffN (badS w0.heap.size G) w less (N - 1)
  os : OffN (badS w0.heap.size G) w s S
  lt : w0.heap.size + 1 < g9 ∧ g9 < G
section
variable {w0 w w' : World} {g9 G : Nat} {a less s : Value} {N S : Nat}
theorem SumL.keep (h : SumL w0 w g9 G a less s N S) (hb : Below w.heap.size w w') : SumL w0 w' g9 G a less s N S :=
  ⟨h.hB.trans (hb.mono h.hB.size), h.k4.keep hb, h.k6.keep hb, h.k9.keep hb, h.k11.keep hb, h.oa.keep hb, h.ol.keep hb, h.os.keep hb, h.lt⟩
theorem SumL.put (h : SumL w0 w g9 G a less s N S) (hb : Below w.heap.size w w') {g M : Nat} {t : Value} (hg : w.heap.size ≤ g) (hi : IsNat g w' (.agg #[t]) M) : SumL w0 (w'.setCell ⟨G, 0, none⟩ t) g9 G a less t N M := by
  have hl := h.lt
  have hz := h.k11.lt
  have h' := h.keep hb
  have ho : OffN (badS w0.heap.size G) w' t M := OffN.of hi (by unfold badS; omega)
  refine ⟨h'.hB.setCell (by simp; omega) _, h'.k4.far (by simp; omega) _, h'.k6.far (by simp; omega) _, h'.k9.far (by simp; omega) _, ?_, h'.oa.far (.inr rfl) _ _, h'.ol.far (.inr rfl) _ _, ho.far (.inr rfl) _ _, hl⟩
  have := h'.k11.put 0 t
  simpa using this
theorem SumL.cells (h : SumL w0 w g9 G a less s N S) :
    w.cell? ⟨w0.heap.size, 0, none⟩ = some a ∧ w.cell? ⟨w0.heap.size + 1, 0, none⟩ = some (.slice none 0 0) ∧ w.cell? ⟨g9, 0, none⟩ = some less ∧ w.cell? ⟨G, 0, none⟩ = some s ∧ w.frozen? ⟨w0.heap.size + 1, 0, none⟩ = false ∧ w.frozen? ⟨G, 0, none⟩ = false ∧ w0.heap.size + 1 < w.heap.size ∧ G < w.heap.size :=
  ⟨h.k4.cell 0, h.k6.cell 0, h.k9.cell 0, h.k11.cell 0, h.k6.frozen 0, h.k11.frozen 0, h.k6.lt, h.k11.lt⟩
end
theorem geo_half (N n m : Nat) : geo N (n / 2 ^ m) = if n / 2 ^ m % 2 = 1 then geo N (2 * (n / 2 ^ (m + 1))) * N + 1 else geo N (2 * (n / 2 ^ (m + 1))) := by
  have h := half_step n m
  split
  · rename_i h1
    rw [h1] at h
    rw [h]; rfl
  · have h0 : n / 2 ^ m % 2 = 0 := by omega
    rw [h0, Nat.add_zero] at h
    rw [h]
theorem fits_word1 {t : Nat} (h : t < 18446744073709551616) : Fits t 1000 := Fits.mono (s := 1) ⟨by simpa using h⟩ (by decide)
theorem geo_le_all {N n k : Nat} (hN : 2 ≤ N) (h : k ≤ n + 1) : geo N k ≤ geo N (n + 1) := geo_mono (by omega) h
theorem sub_okN {N : Nat} (h : 2 ≤ N) : (if N < 1 then (11 : Int) else 0) = 0 := if_neg (by omega)
set_option maxRecDepth 100000 in
set_option maxHeartbeats 8000000 in
theorem psum_c (c : Int) (v : Value) (N n : Nat) (w : World) (hv : IsNat 0 w v N) (hN : Fits N 200) (hn : n < 18446744073709551616) (hc : c ≤ 200) :
    Calls Try.prog 12 #[.int .i64 c, v, .int .u64 n] w fun e w' => NatOk w c (geo N (n + 1)) e w' := by
  have hv0 := hv
  obtain ⟨Aa, na, da, la, rfl, -, hla0, -⟩ := hv
  have h1 : Below w.heap.size w ((w.alloc (.cells #[.slice Aa na da] 29)).alloc (.cells #[.slice none 0 0] 29)) := ((Below.refl _ _).alloc (Nat.le_refl _) _).alloc (by simp) _
  have k4 := (Bk.new w 29 #[.slice Aa na da]).alloc (.cells #[.slice none 0 0] 29)
  have k6 := Bk.new (w.alloc (.cells #[.slice Aa na da] 29)) 29 #[.slice none 0 0]
  simp at k6
  have HP := Lib.hid (And.intro h1 (And.intro k4 (And.intro k6 hv0)))
  have HZ := Lib.hid hla0
  clear h1 k4 k6 hla0 hv0
  go_enter Try.func12, Try.ntmps12
  go_wp2_with fail
  go_step3
  go_upto_region 3 with (first
    | (go_at_call 28; refine (within_c c _ (by omega)).mono ?_; rintro e w0 ⟨rfl, rfl⟩)
    | (go_at_call 20; refine (of_c 1 _ (by decide)).mono ?_; rintro e w1 ⟨v1, rfl, hv1, hb⟩; obtain ⟨A1, n1, d1, l1, rfl, hv1⟩ := hv1; have z1 := hb.size; simp at z1; have HO := Lib.hid (And.intro hv1 hb); clear hv1 hb))
  have i1 : IsNat (w.heap.size + 1 + 1) w1 (.agg #[.slice A1 n1 d1]) 1 := by
    have h : IsNat ((w.alloc (.cells #[.slice Aa na da] 29)).alloc (.cells #[.slice none 0 0] 29)).heap.size w1 (.agg #[.slice A1 n1 d1]) 1 := ⟨A1, n1, d1, l1, rfl, HO.out.1⟩
    exact h.mono (by simp)
  have b8 : Below w1.heap.size w1 (w1.alloc (.cells #[.slice A1 n1 d1] 29)) := (Below.refl _ _).alloc (Nat.le_refl _) _
  have hB : Below w.heap.size w (w1.alloc (.cells #[.slice A1 n1 d1] 29)) := (HP.out.1.trans (HO.out.2.mono HP.out.1.size)).trans (b8.mono (by omega))
  have HQ : Hid (SumM w (w1.alloc (.cells #[.slice A1 n1 d1] 29)) w1.heap.size (.slice Aa na da) (.slice A1 n1 d1) N) := Lib.hid ⟨hB, (HP.out.2.1.keep HO.out.2).keep b8, (HP.out.2.2.1.keep HO.out.2).keep b8, Bk.new w1 _ _,
    (OffN.of HP.out.2.2.2 (by omega)).keep hB, (OffN.of i1 (by omega)).keep b8, by omega⟩
  obtain ⟨c4, c6, c8, f6, z6, z8⟩ := HQ.out.cells
  have zz : (w1.alloc (.cells #[.slice A1 n1 d1] 29)).heap.size = w1.heap.size + 1 := by simp
  clear i1 b8 hB HP HO
  generalize w1.alloc (.cells #[.slice A1 n1 d1] 29) = wz at *
  generalize w1.heap.size = g8 at *
  by_cases hn0 : n = 0
  · subst hn0
    have HM := Lib.hid (show geo N (0 + 1) = 1 by simp [geo])
    obtain ⟨b, hb0⟩ : ∃ b, fitB c 1 = b := ⟨_, rfl⟩
    have HB := Lib.hid hb0
    clear hb0
    cases b
    · go_wp2_with (first | (go_at_call 29; refine (punder_c c A1 n1 d1 1 _ HQ.out.o1.nat HB.out).mono ?_; rintro e w2 ⟨rfl, hb⟩; have HQ := Lib.hid (HQ.out.keep hb); obtain ⟨c4, c6, c8, f6, z6, z8⟩ := HQ.out.cells; clear hb))
      rw [Exit.noGoto_ret]
      exact bodyPost_ret (v := .tuple #[.agg #[.slice none 0 0], .bool false]) (by simp [results, Try.results12, go_sem, HQ.out.k6.res1]) rfl (NatOk.mk (by rw [HM.out]; exact HB.out) rfl (isNat_zero _ _) (HQ.out.hB.setCell (by simp <;> omega) _))
    · go_wp2_with (first | (go_at_call 29; refine (punder_c c A1 n1 d1 1 _ HQ.out.o1.nat HB.out).mono ?_; rintro e w2 ⟨rfl, hb⟩; have HQ := Lib.hid (HQ.out.keep hb); obtain ⟨c4, c6, c8, f6, z6, z8⟩ := HQ.out.cells; clear hb))
      rw [Exit.noGoto_ret]
      exact bodyPost_ret (v := .tuple #[.agg #[.slice A1 n1 d1], .bool true]) (by simp [results, Try.results12, go_sem, HQ.out.k6.res1]) rfl (NatOk.mk (by rw [HM.out]; exact HB.out) (by rw [HM.out]; rfl) (HQ.out.o1.far (g := w.heap.size + 1) rfl _ _).nat (HQ.out.hB.setCell (by simp <;> omega) _))
  · have gn : ((n : Int) == 0) = false := by simp <;> omega
    by_cases hN0 : N = 0
    · have hl0 : ((la.length : Int) == 0) = true := by have := HZ.out.zero.2 hN0; simp [this]
      have HM := Lib.hid (show geo N (n + 1) = 1 by rw [hN0]; exact geo_zero_base _ (by omega))
      obtain ⟨b, hb0⟩ : ∃ b, fitB c 1 = b := ⟨_, rfl⟩
      have HB := Lib.hid hb0
      clear hb0
      cases b
      · go_wp2_with (first | (go_at_call 23; refine (len_w HQ.out.oa.nat HZ.out).mono ?_; rintro e w2 ⟨rfl, hb⟩; have HQ := Lib.hid (HQ.out.keep hb); obtain ⟨c4, c6, c8, f6, z6, z8⟩ := HQ.out.cells; clear hb) | (go_at_call 29; refine (punder_c c A1 n1 d1 1 _ HQ.out.o1.nat HB.out).mono ?_; rintro e w2 ⟨rfl, hb⟩; have HQ := Lib.hid (HQ.out.keep hb); obtain ⟨c4, c6, c8, f6, z6, z8⟩ := HQ.out.cells; clear hb))
        rw [Exit.noGoto_ret]
        exact bodyPost_ret (v := .tuple #[.agg #[.slice none 0 0], .bool false]) (by simp [results, Try.results12, go_sem, HQ.out.k6.res1]) rfl (NatOk.mk (by rw [HM.out]; exact HB.out) rfl (isNat_zero _ _) (HQ.out.hB.setCell (by simp <;> omega) _))
      · go_wp2_with (first | (go_at_call 23; refine (len_w HQ.out.oa.nat HZ.out).mono ?_; rintro e w2 ⟨rfl, hb⟩; have HQ := Lib.hid (HQ.out.keep hb); obtain ⟨c4, c6, c8, f6, z6, z8⟩ := HQ.out.cells; clear hb) | (go_at_call 29; refine (punder_c c A1 n1 d1 1 _ HQ.out.o1.nat HB.out).mono ?_; rintro e w2 ⟨rfl, hb⟩; have HQ := Lib.hid (HQ.out.keep hb); obtain ⟨c4, c6, c8, f6, z6, z8⟩ := HQ.out.cells; clear hb))
        rw [Exit.noGoto_ret]
        exact bodyPost_ret (v := .tuple #[.agg #[.slice A1 n1 d1], .bool true]) (by simp [results, Try.results12, go_sem, HQ.out.k6.res1]) rfl (NatOk.mk (by rw [HM.out]; exact HB.out) (by rw [HM.out]; rfl) (HQ.out.o1.far (g := w.heap.size + 1) rfl _ _).nat (HQ.out.hB.setCell (by simp <;> omega) _))
    · have hl0 : ((la.length : Int) == 0) = false := by have := HZ.out.zero.1; simp; rintro rfl; exact hN0 (this rfl)
      obtain ⟨q, hq⟩ : ∃ q, cmpI N 1 = q := ⟨_, rfl⟩
      have HC := Lib.hid hq
      by_cases hN1 : N = 1
      · subst hN1
        obtain rfl : q = 0 := by rw [← hq]; rfl
        have HM := Lib.hid (geo_one_base (n + 1))
        clear hq
        obtain ⟨b, hb0⟩ : ∃ b, fitB c (n + 1) = b := ⟨_, rfl⟩
        have HB := Lib.hid hb0
        clear hb0
        cases b
        · go_upto_region 6 with (first | (go_at_call 23; refine (len_w HQ.out.oa.nat HZ.out).mono ?_; rintro e w2 ⟨rfl, hb⟩; have HQ := Lib.hid (HQ.out.keep hb); obtain ⟨c4, c6, c8, f6, z6, z8⟩ := HQ.out.cells; clear hb) | (go_at_call 17; refine (cmp_w HQ.out.oa.nat HQ.out.o1.nat (hN.mono (by decide)) (fits1.mono (by decide)) HC.out).mono ?_; rintro e w2 ⟨rfl, hb⟩; have HQ := Lib.hid (HQ.out.keep hb); obtain ⟨c4, c6, c8, f6, z6, z8⟩ := HQ.out.cells; clear hb))
          have zg : w.heap.size + 1 < g8 := HQ.out.lt
          go_region_held3 (fun w' => w'.cell? ⟨g8, 0, none⟩ = some (.slice A1 n1 d1)) (first | go_keep | exact c8 | exact cell_off c8 (by omega))
            (first
              | (go_at_call 20; refine (of_w n _ hn).mono ?_; rintro e w3 ⟨vn, rfl, hvn, hb⟩; have hb := below_undrew hb; have HQ := Lib.hid (HQ.out.keep hb); obtain ⟨c4, c6, c8, f6, z6, z8⟩ := HQ.out.cells; have HV := Lib.hid hvn; clear hb hvn)
              | (go_at_call 19; refine (add_c 1000 _ _ _ _ _ _ _ HV.out HQ.out.o1.nat (fits_word1 hn) (fits1.mono (by decide)) (by decide)).mono ?_; rintro e w4 ⟨vs, rfl, hvs, hb⟩; have HQ := Lib.hid (HQ.out.keep hb); obtain ⟨c4, c6, c8, f6, z6, z8⟩ := HQ.out.cells; obtain ⟨A5, n5, d5, l5, rfl, hvs⟩ := hvs; have ho := OffN.of (bad := fun b => b = w.heap.size + 1) (⟨A5, n5, d5, l5, rfl, hvs⟩ : IsNat w3.heap.size w4 _ (n + 1)) (by intro b hb; left; omega); have HV := Lib.hid ho; clear hb hvs ho)
              | (go_at_call 29; refine (punder_c c A5 n5 d5 (n + 1) _ HV.out.nat HB.out).mono ?_; rintro e w5 ⟨rfl, hb⟩; have HV := Lib.hid (HV.out.keep hb); have HQ := Lib.hid (HQ.out.keep hb); obtain ⟨c4, c6, c8, f6, z6, z8⟩ := HQ.out.cells; clear hb))
          all_goals
            go_wp2_with fail
            rw [Exit.noGoto_ret]
            exact bodyPost_ret (v := .tuple #[.agg #[.slice none 0 0], .bool false]) (by simp [results, Try.results12, go_sem, HQ.out.k6.res1]) rfl (NatOk.mk (by rw [HM.out]; exact HB.out) (by rw [HM.out]; rfl) (isNat_zero _ _) (HQ.out.hB.setCell (by simp <;> omega) _))
        · go_upto_region 6 with (first | (go_at_call 23; refine (len_w HQ.out.oa.nat HZ.out).mono ?_; rintro e w2 ⟨rfl, hb⟩; have HQ := Lib.hid (HQ.out.keep hb); obtain ⟨c4, c6, c8, f6, z6, z8⟩ := HQ.out.cells; clear hb) | (go_at_call 17; refine (cmp_w HQ.out.oa.nat HQ.out.o1.nat (hN.mono (by decide)) (fits1.mono (by decide)) HC.out).mono ?_; rintro e w2 ⟨rfl, hb⟩; have HQ := Lib.hid (HQ.out.keep hb); obtain ⟨c4, c6, c8, f6, z6, z8⟩ := HQ.out.cells; clear hb))
          have zg : w.heap.size + 1 < g8 := HQ.out.lt
          go_region_held3 (fun w' => w'.cell? ⟨g8, 0, none⟩ = some (.slice A1 n1 d1)) (first | go_keep | exact c8 | exact cell_off c8 (by omega))
            (first
              | (go_at_call 20; refine (of_w n _ hn).mono ?_; rintro e w3 ⟨vn, rfl, hvn, hb⟩; have hb := below_undrew hb; have HQ := Lib.hid (HQ.out.keep hb); obtain ⟨c4, c6, c8, f6, z6, z8⟩ := HQ.out.cells; have HV := Lib.hid hvn; clear hb hvn)
              | (go_at_call 19; refine (add_c 1000 _ _ _ _ _ _ _ HV.out HQ.out.o1.nat (fits_word1 hn) (fits1.mono (by decide)) (by decide)).mono ?_; rintro e w4 ⟨vs, rfl, hvs, hb⟩; have HQ := Lib.hid (HQ.out.keep hb); obtain ⟨c4, c6, c8, f6, z6, z8⟩ := HQ.out.cells; obtain ⟨A5, n5, d5, l5, rfl, hvs⟩ := hvs; have ho := OffN.of (bad := fun b => b = w.heap.size + 1) (⟨A5, n5, d5, l5, rfl, hvs⟩ : IsNat w3.heap.size w4 _ (n + 1)) (by intro b hb; left; omega); have HV := Lib.hid ho; clear hb hvs ho)
              | (go_at_call 29; refine (punder_c c A5 n5 d5 (n + 1) _ HV.out.nat HB.out).mono ?_; rintro e w5 ⟨rfl, hb⟩; have HV := Lib.hid (HV.out.keep hb); have HQ := Lib.hid (HQ.out.keep hb); obtain ⟨c4, c6, c8, f6, z6, z8⟩ := HQ.out.cells; clear hb))
          all_goals
            go_wp2_with fail
            rw [Exit.noGoto_ret]
            exact bodyPost_ret (v := .tuple #[.agg #[.slice A5 n5 d5], .bool true]) (by simp [results, Try.results12, go_sem, HQ.out.k6.res1]) rfl (NatOk.mk (by rw [HM.out]; exact HB.out) (by rw [HM.out]; rfl) (HV.out.far (g := w.heap.size + 1) rfl _ _).nat (HQ.out.hB.setCell (by simp <;> omega) _))
      · have gq : (q == 0) = false := beq_false_of_ne (fun e => hN1 (cmp_one.1 (hq.trans e)))
        clear hq
        have hN2 : 2 ≤ N := by omega
        by_cases hbey : 64 * (max 0 c).toNat ≤ n
        · have HM := Lib.hid (fitB_geo_false (c := c) hN2 hbey)
          have HD := Lib.hid (decide_eq_true hbey)
          clear hbey
          go_wp2_with (first | (go_at_call 23; refine (len_w HQ.out.oa.nat HZ.out).mono ?_; rintro e w2 ⟨rfl, hb⟩; have HQ := Lib.hid (HQ.out.keep hb); obtain ⟨c4, c6, c8, f6, z6, z8⟩ := HQ.out.cells; clear hb) | (go_at_call 17; refine (cmp_w HQ.out.oa.nat HQ.out.o1.nat (hN.mono (by decide)) (fits1.mono (by decide)) HC.out).mono ?_; rintro e w2 ⟨rfl, hb⟩; have HQ := Lib.hid (HQ.out.keep hb); obtain ⟨c4, c6, c8, f6, z6, z8⟩ := HQ.out.cells; clear hb) | (go_at_call 30; refine (beyond_c c n _ (by omega) hn).mono ?_; rintro e w2 ⟨rfl, rfl⟩; rw [HD.out]))
          rw [Exit.noGoto_ret]
          exact bodyPost_ret (v := .tuple #[.agg #[.slice none 0 0], .bool false]) (by simp [results, Try.results12, go_sem, HQ.out.k6.res1]) rfl (NatOk.mk HM.out rfl (isNat_zero _ _) (HQ.out.hB.setCell (by simp <;> omega) _))
        · have HD := Lib.hid (decide_eq_false hbey)
          have hL := bitLen_le n
          have HL := Lib.hid (bitLen_div hn)
          clear hbey
          go_wp2_with (first | (go_at_call 23; refine (len_w HQ.out.oa.nat HZ.out).mono ?_; rintro e w2 ⟨rfl, hb⟩; have HQ := Lib.hid (HQ.out.keep hb); obtain ⟨c4, c6, c8, f6, z6, z8⟩ := HQ.out.cells; clear hb) | (go_at_call 17; refine (cmp_w HQ.out.oa.nat HQ.out.o1.nat (hN.mono (by decide)) (fits1.mono (by decide)) HC.out).mono ?_; rintro e w2 ⟨rfl, hb⟩; have HQ := Lib.hid (HQ.out.keep hb); obtain ⟨c4, c6, c8, f6, z6, z8⟩ := HQ.out.cells; clear hb) | (go_at_call 30; refine (beyond_c c n _ (by omega) hn).mono ?_; rintro e w2 ⟨rfl, rfl⟩; rw [HD.out]) | (go_at_call 37; refine (sub_c 1000 _ _ _ _ N 1 _ HQ.out.oa.nat HQ.out.o1.nat (hN.mono (by decide)) (fits1.mono (by decide)) (by decide)).mono ?_; rintro e w3 ⟨x, rfl, hx, hb⟩; rw [sub_okN hN2]; obtain ⟨A3, n3, d3, l3, rfl, hx⟩ := hx; have HQ := Lib.hid (HQ.out.keep hb); obtain ⟨c4, c6, c8, f6, z6, z8⟩ := HQ.out.cells; have HS := Lib.hid hx; clear hx hb))
          go_step3
          go_wp2_with (go_at_call 33; refine (len64_c n _ hn).mono ?_; rintro e w4 ⟨rfl, rfl⟩)
          have hbb : Below w3.heap.size w3 ((w3.alloc (.cells #[.slice A3 n3 d3] 29)).alloc (.cells #[.slice none 0 0] 29)) := ((Below.refl _ _).alloc (Nat.le_refl _) _).alloc (by simp) _
          have k9 := (Bk.new w3 29 #[.slice A3 n3 d3]).alloc (.cells #[.slice none 0 0] 29)
          have k11 := Bk.new (w3.alloc (.cells #[.slice A3 n3 d3] 29)) 29 #[.slice none 0 0]
          simp at k11
          have hT : SumL w ((w3.alloc (.cells #[.slice A3 n3 d3] 29)).alloc (.cells #[.slice none 0 0] 29)) w3.heap.size (w3.heap.size + 1) (.slice Aa na da) (.slice A3 n3 d3) (.slice none 0 0) N 0 :=
            ⟨HQ.out.hB.trans (hbb.mono HQ.out.hB.size), HQ.out.k4.keep hbb, HQ.out.k6.keep hbb, k9, k11, (HQ.out.oa.more (by unfold badS; omega)).keep hbb, (OffN.of (bad := badS w.heap.size (w3.heap.size + 1)) (⟨A3, n3, d3, l3, rfl, HS.out⟩ : IsNat _ w3 (.agg #[.slice A3 n3 d3]) (N - 1)) (by unfold badS; omega)).keep hbb, OffN.nil, ⟨by omega, by omega⟩⟩
          have HT := Lib.hid hT
          clear hT k9 k11 hbb HQ HS c4 c6 c8 f6
          generalize (w3.alloc (.cells #[.slice A3 n3 d3] 29)).alloc (.cells #[.slice none 0 0] 29) = wz at *
          generalize w3.heap.size + 1 = G at *
          generalize w3.heap.size = g9 at *
          have HM1 := Lib.hid (fun M : Nat => geo_pow (N := N) (by omega) M)
          go_loopw [12, 13] (fun s12 i w1 => ∃ (j : Nat) (A : Option Addr) (k d : Nat), s12 = .bool true ∧ i = .int .i64 ((j : Int) - 1) ∧ j ≤ 64 ∧ SumL w w1 g9 G (.slice Aa na da) (.slice A3 n3 d3) (.slice A k d) N (geo N (n / 2 ^ j)) ∧ fitB c (geo N (n / 2 ^ j)) = true) (fun _ i _ => (intOf i + 1).toNat)
          case atStart => exact ⟨Lib.bitLen n, none, 0, 0, rfl, rfl, hL, by rw [HL.out]; exact HT.out, by rw [HL.out]; exact fitB_zero c⟩
          case round =>
            obtain ⟨j, A, k, d, rfl, rfl, hj, hT, hf⟩ := hrel
            have HT := Lib.hid hT
            have HF := Lib.hid hf
            clear hT hf
            obtain ⟨c4, c6, c9, c11, f6, f11, z6, z11⟩ := HT.out.cells
            by_cases hj0 : j = 0
            · subst hj0
              have g1 : decide ((0 : Int) ≤ (((0 : Nat) : Int) - 1)) = false := by decide
              have e0 : n / 2 ^ 0 = n := by simp
              have hT := HT.out
              have hf := HF.out
              rw [e0] at hT hf
              have hfS : Fits (geo N n) 400 := (fitB_fits (s := 200) hf hc).mono (by decide)
              have HT := Lib.hid hT
              clear hT hf e0
              obtain ⟨b, hb0⟩ : ∃ b, fitB c (geo N n * N + 1) = b := ⟨_, rfl⟩
              have HB := Lib.hid hb0
              clear hb0
              cases b
              · go_wp2_with (go_at_call 38; refine (more_c c _ _ _ _ _ _ _ N _ HT.out.os.nat HT.out.oa.nat hfS (hN.mono (by decide))).mono ?_; rintro e w9 ⟨A9, n9, d9, rfl, hx, hb⟩; rw [HB.out] at hx ⊢; have hx : IsNat wr.heap.size w9 _ 0 := hx; have HT := Lib.hid (HT.out.keep hb); obtain ⟨c4, c6, c9, c11, f6, f11, z6, z11⟩ := HT.out.cells; have HX := Lib.hid hx; clear hb hx)
                rw [Exit.noGoto_ret]
                exact bodyPost_ret (v := .tuple #[.agg #[.slice A9 n9 d9], .bool false]) (by simp [results, Try.results12, go_sem, HT.out.k6.res1]) rfl (NatOk.mk HB.out rfl ((HX.out.far (by simp; omega)).mono (Nat.zero_le _)) (HT.out.hB.setCell (by simp <;> omega) _))
              · go_wp2_with (go_at_call 38; refine (more_c c _ _ _ _ _ _ _ N _ HT.out.os.nat HT.out.oa.nat hfS (hN.mono (by decide))).mono ?_; rintro e w9 ⟨A9, n9, d9, rfl, hx, hb⟩; rw [HB.out] at hx ⊢; have hx : IsNat wr.heap.size w9 _ (geo N n * N + 1) := hx; have HT := Lib.hid (HT.out.keep hb); obtain ⟨c4, c6, c9, c11, f6, f11, z6, z11⟩ := HT.out.cells; have HX := Lib.hid hx; clear hb hx)
                rw [Exit.noGoto_ret]
                exact bodyPost_ret (v := .tuple #[.agg #[.slice A9 n9 d9], .bool true]) (by simp [results, Try.results12, go_sem, HT.out.k6.res1]) rfl (NatOk.mk HB.out rfl ((HX.out.far (by simp; omega)).mono (Nat.zero_le _)) (HT.out.hB.setCell (by simp <;> omega) _))
            · obtain ⟨m, rfl⟩ : ∃ m, j = m + 1 := ⟨j - 1, by omega⟩
              have g1 : decide ((0 : Int) ≤ (((m + 1 : Nat) : Int) - 1)) = true := by simp <;> omega
              have HT0 := HT
              have hfS : Fits (geo N (n / 2 ^ (m + 1))) 200 := fitB_fits HF.out hc
              have hbt := bit_test m hn
              obtain ⟨b1, hb1⟩ : ∃ b, fitB c (geo N (n / 2 ^ (m + 1)) * (N - 1)) = b := ⟨_, rfl⟩
              have HB1 := Lib.hid hb1
              have hS1 := HM1.out (n / 2 ^ (m + 1))
              have hp1 : N ^ (n / 2 ^ (m + 1)) ≤ N ^ n := pow_mono (by omega) (half_le n (m + 1))
              have HLE1 := Lib.hid (show geo N (n / 2 ^ (m + 1)) * (N - 1) ≤ geo N (n + 1) by have := pow_le_geo N n; omega)
              have HS2 := Lib.hid (show geo N (n / 2 ^ (m + 1)) * (geo N (n / 2 ^ (m + 1)) * (N - 1) + 2) = geo N (2 * (n / 2 ^ (m + 1))) by rw [geo_twice]; congr 1; omega)
              clear hb1 hS1 hp1 hj0
              cases b1
              · go_upto_region 15 with (go_at_call 32; refine (capMul_c 0 0 c _ _ (geo N (n / 2 ^ (m + 1))) (N - 1) _ HT.out.os.nat HT.out.ol.nat (hfS.mono (by decide)) ((hN.le (Nat.sub_le N 1)).mono (by decide))).mono ?_; rintro e w4 ⟨x, rfl, hx, hb⟩; rw [HB1.out] at hx ⊢; have hx : IsNat wr.heap.size w4 x (0) := hx; have HT := Lib.hid (HT.out.keep hb); obtain ⟨A4, n4, d4, l4, rfl, hy⟩ := hx; have HX := Lib.hid hy; have z4 := hb.size; clear hy hb)
                have b14 : Below w4.heap.size w4 (w4.alloc (.cells #[.slice A4 n4 d4] 29)) := (Below.refl _ _).alloc (Nat.le_refl _) _
                have k14 := Bk.new w4 29 #[.slice A4 n4 d4]
                have i14 : IsNat 0 (w4.alloc (.cells #[.slice A4 n4 d4] 29)) (.agg #[.slice A4 n4 d4]) (0) := IsNat.keep (IsNat.mono (⟨A4, n4, d4, l4, rfl, HX.out⟩ : IsNat wr.heap.size w4 _ _) (Nat.zero_le _)) b14
                have HT := Lib.hid (HT.out.keep b14)
                have HW := Lib.hid (And.intro k14 i14)
                clear b14 k14 i14 HX
                have zG4 := HT.out.k11.lt
                generalize w4.alloc (.cells #[.slice A4 n4 d4] 29) = w5 at *
                have g14 : G < w4.heap.size := by have := HT0.out.k11.lt; omega
                generalize w4.heap.size = g14' at *
                obtain ⟨c4, c6, c9, c11, f6, f11, z6, z11⟩ := HT.out.cells
                have c14 := HW.out.1.cell 0
                simp only [List.getElem?_toArray, List.getElem?_cons_zero] at c14
                go_wp2_with fail
                rw [Exit.noGoto_ret]
                exact bodyPost_ret (v := .tuple #[.agg #[.slice none 0 0], .bool false]) (by simp [results, Try.results12, go_sem, HT.out.k6.res1]) rfl (NatOk.mk (fitB_false HB1.out HLE1.out) rfl (isNat_zero _ _) (HT.out.hB.setCell (by simp <;> omega) _))
              · have hfX : Fits (geo N (n / 2 ^ (m + 1)) * (N - 1)) 200 := fitB_fits HB1.out hc
                go_upto_region 17 with (go_at_call 32; refine (capMul_c 0 0 c _ _ (geo N (n / 2 ^ (m + 1))) (N - 1) _ HT.out.os.nat HT.out.ol.nat (hfS.mono (by decide)) ((hN.le (Nat.sub_le N 1)).mono (by decide))).mono ?_; rintro e w4 ⟨x, rfl, hx, hb⟩; rw [HB1.out] at hx ⊢; have hx : IsNat wr.heap.size w4 x (geo N (n / 2 ^ (m + 1)) * (N - 1)) := hx; have HT := Lib.hid (HT.out.keep hb); obtain ⟨A4, n4, d4, l4, rfl, hy⟩ := hx; have HX := Lib.hid hy; have z4 := hb.size; clear hy hb)
                have b14 : Below w4.heap.size w4 (w4.alloc (.cells #[.slice A4 n4 d4] 29)) := (Below.refl _ _).alloc (Nat.le_refl _) _
                have k14 := Bk.new w4 29 #[.slice A4 n4 d4]
                have i14 : IsNat 0 (w4.alloc (.cells #[.slice A4 n4 d4] 29)) (.agg #[.slice A4 n4 d4]) (geo N (n / 2 ^ (m + 1)) * (N - 1)) := IsNat.keep (IsNat.mono (⟨A4, n4, d4, l4, rfl, HX.out⟩ : IsNat wr.heap.size w4 _ _) (Nat.zero_le _)) b14
                have HT := Lib.hid (HT.out.keep b14)
                have HW := Lib.hid (And.intro k14 i14)
                clear b14 k14 i14 HX
                have zG4 := HT.out.k11.lt
                generalize w4.alloc (.cells #[.slice A4 n4 d4] 29) = w5 at *
                have g14 : G < w4.heap.size := by have := HT0.out.k11.lt; omega
                generalize w4.heap.size = g14' at *
                obtain ⟨c4, c6, c9, c11, f6, f11, z6, z11⟩ := HT.out.cells
                have c14 := HW.out.1.cell 0
                simp only [List.getElem?_toArray, List.getElem?_cons_zero] at c14
                obtain ⟨b2, hb2⟩ : ∃ b, fitB c (geo N (n / 2 ^ (m + 1)) * (geo N (n / 2 ^ (m + 1)) * (N - 1) + 2)) = b := ⟨_, rfl⟩
                have HB2 := Lib.hid hb2
                have HLE2 := Lib.hid (show geo N (2 * (n / 2 ^ (m + 1))) ≤ geo N (n + 1) from geo_le_all hN2 (by have := half_step n m; have := half_le n m; omega))
                clear hb2
                cases b2
                · go_region_law
                    (first
                      | (go_simp; go_at_call 20; refine (of_w 2 _ (by decide)).mono ?_; rintro e w6 ⟨v2, rfl, hv2, hb⟩; have hb := below_undrew hb; have HT := Lib.hid (HT.out.keep hb); obtain ⟨c4, c6, c9, c11, f6, f11, z6, z11⟩ := HT.out.cells; have HW := Lib.hid (And.intro (HW.out.1.keep hb) (HW.out.2.keep hb)); have c14 := HW.out.1.cell 0; simp only [List.getElem?_toArray, List.getElem?_cons_zero] at c14; have HV := Lib.hid hv2; clear hb hv2)
                      | (go_simp; go_at_call 19; refine (add_w HW.out.2 HV.out (hfX.mono (by decide)) (Fits.mono (s := 1) ⟨by decide⟩ (by decide))).mono ?_; rintro e w7 ⟨v3, rfl, hv3, hb⟩; have HT := Lib.hid (HT.out.keep hb); obtain ⟨c4, c6, c9, c11, f6, f11, z6, z11⟩ := HT.out.cells; have HW := Lib.hid (And.intro (HW.out.1.keep hb) (HW.out.2.keep hb)); have c14 := HW.out.1.cell 0; simp only [List.getElem?_toArray, List.getElem?_cons_zero] at c14; have HV := Lib.hid hv3; clear hb hv3)
                      | (go_simp; go_at_call 32; refine (capMul_c 0 0 c _ _ _ _ _ HT.out.os.nat HV.out (hfS.mono (by decide)) ((fits_add hfX (Fits.mono (s := 1) (N := 2) ⟨by decide⟩ (Nat.le_refl 1))).mono (by decide))).mono ?_; rintro e w8 ⟨x, rfl, hx, hb⟩; rw [HB2.out] at hx ⊢; have hx : IsNat w7.heap.size w8 x (0) := hx; obtain ⟨A8, n8, d8, l8, rfl, hy⟩ := hx; have hput := HT.out.put hb (Nat.le_refl _) (⟨A8, n8, d8, l8, rfl, hy⟩ : IsNat w7.heap.size w8 (.agg #[.slice A8 n8 d8]) (0)); have HT := Lib.hid (HT.out.keep hb); obtain ⟨c4, c6, c9, c11, f6, f11, z6, z11⟩ := HT.out.cells; have HW := Lib.hid (HW.out.1.keep hb); have c14 := HW.out.cell 0; simp only [List.getElem?_toArray, List.getElem?_cons_zero] at c14; have HU := Lib.hid hput; clear hb hy hput))
                  all_goals
                    have HT := HU
                    clear HU HW c14
                    generalize w8.setCell ⟨G, 0, none⟩ (.slice A8 n8 d8) = w10 at *
                    obtain ⟨c4, c6, c9, c11, f6, f11, z6, z11⟩ := HT.out.cells
                    go_wp2_with fail
                    rw [Exit.noGoto_ret]
                    exact bodyPost_ret (v := .tuple #[.agg #[.slice none 0 0], .bool false]) (by simp [results, Try.results12, go_sem, HT.out.k6.res1]) rfl (NatOk.mk (fitB_false HB2.out (by rw [HS2.out]; exact HLE2.out)) rfl (isNat_zero _ _) (HT.out.hB.setCell (by simp <;> omega) _))
                · have hf2 : Fits (geo N (n / 2 ^ (m + 1)) * (geo N (n / 2 ^ (m + 1)) * (N - 1) + 2)) 400 := (fitB_fits (s := 200) HB2.out hc).mono (by decide)
                  by_cases hbit : n / 2 ^ m % 2 = 1
                  · rw [decide_eq_true hbit] at hbt
                    obtain ⟨b3, hb3⟩ : ∃ b, fitB c (geo N (n / 2 ^ (m + 1)) * (geo N (n / 2 ^ (m + 1)) * (N - 1) + 2) * N + 1) = b := ⟨_, rfl⟩
                    have HB3 := Lib.hid hb3
                    have HG := Lib.hid (geo_half N n m)
                    have HLE3 := Lib.hid (show geo N (n / 2 ^ (m + 1)) * (geo N (n / 2 ^ (m + 1)) * (N - 1) + 2) * N + 1 ≤ geo N (n + 1) by
                      have h1 := HG.out
                      rw [if_pos hbit] at h1
                      rw [HS2.out, ← h1]
                      exact geo_le_all hN2 (by have := half_le n m; omega))
                    have HBIT := Lib.hid hbit
                    clear hb3 hbit
                    go_region_law
                      (first
                        | (go_simp; go_at_call 20; refine (of_w 2 _ (by decide)).mono ?_; rintro e w6 ⟨v2, rfl, hv2, hb⟩; have hb := below_undrew hb; have HT := Lib.hid (HT.out.keep hb); obtain ⟨c4, c6, c9, c11, f6, f11, z6, z11⟩ := HT.out.cells; have HW := Lib.hid (And.intro (HW.out.1.keep hb) (HW.out.2.keep hb)); have c14 := HW.out.1.cell 0; simp only [List.getElem?_toArray, List.getElem?_cons_zero] at c14; have HV := Lib.hid hv2; clear hb hv2)
                        | (go_simp; go_at_call 19; refine (add_w HW.out.2 HV.out (hfX.mono (by decide)) (Fits.mono (s := 1) ⟨by decide⟩ (by decide))).mono ?_; rintro e w7 ⟨v3, rfl, hv3, hb⟩; have HT := Lib.hid (HT.out.keep hb); obtain ⟨c4, c6, c9, c11, f6, f11, z6, z11⟩ := HT.out.cells; have HW := Lib.hid (And.intro (HW.out.1.keep hb) (HW.out.2.keep hb)); have c14 := HW.out.1.cell 0; simp only [List.getElem?_toArray, List.getElem?_cons_zero] at c14; have HV := Lib.hid hv3; clear hb hv3)
                        | (go_simp; go_at_call 32; refine (capMul_c 0 0 c _ _ _ _ _ HT.out.os.nat HV.out (hfS.mono (by decide)) ((fits_add hfX (Fits.mono (s := 1) (N := 2) ⟨by decide⟩ (Nat.le_refl 1))).mono (by decide))).mono ?_; rintro e w8 ⟨x, rfl, hx, hb⟩; rw [HB2.out] at hx ⊢; have hx : IsNat w7.heap.size w8 x (geo N (n / 2 ^ (m + 1)) * (geo N (n / 2 ^ (m + 1)) * (N - 1) + 2)) := hx; obtain ⟨A8, n8, d8, l8, rfl, hy⟩ := hx; have hput := HT.out.put hb (Nat.le_refl _) (⟨A8, n8, d8, l8, rfl, hy⟩ : IsNat w7.heap.size w8 (.agg #[.slice A8 n8 d8]) (geo N (n / 2 ^ (m + 1)) * (geo N (n / 2 ^ (m + 1)) * (N - 1) + 2))); have HT := Lib.hid (HT.out.keep hb); obtain ⟨c4, c6, c9, c11, f6, f11, z6, z11⟩ := HT.out.cells; have HW := Lib.hid (HW.out.1.keep hb); have c14 := HW.out.cell 0; simp only [List.getElem?_toArray, List.getElem?_cons_zero] at c14; have HU := Lib.hid hput; clear hb hy hput))
                    all_goals
                      have HT := HU
                      clear HU HW c14
                      generalize w8.setCell ⟨G, 0, none⟩ (.slice A8 n8 d8) = w10 at *
                      obtain ⟨c4, c6, c9, c11, f6, f11, z6, z11⟩ := HT.out.cells
                      cases b3
                      · go_upto_region 21 with (go_at_call 38; refine (more_c c _ _ _ _ _ _ _ N _ HT.out.os.nat HT.out.oa.nat (hf2.mono (by decide)) (hN.mono (by decide))).mono ?_; rintro e w9 ⟨A9, n9, d9, rfl, hx, hb⟩; rw [HB3.out] at hx ⊢; have hx : IsNat w10.heap.size w9 _ (0) := hx; have hput := HT.out.put hb (Nat.le_refl _) hx; have HT := Lib.hid (HT.out.keep hb); obtain ⟨c4, c6, c9, c11, f6, f11, z6, z11⟩ := HT.out.cells; have HU := Lib.hid hput; clear hb hx hput)
                        have HT := HU
                        clear HU
                        generalize w9.setCell ⟨G, 0, none⟩ (.slice A9 n9 d9) = w11 at *
                        obtain ⟨c4, c6, c9, c11, f6, f11, z6, z11⟩ := HT.out.cells
                        go_wp2_with fail
                        rw [Exit.noGoto_ret]
                        exact bodyPost_ret (v := .tuple #[.agg #[.slice none 0 0], .bool false]) (by simp [results, Try.results12, go_sem, HT.out.k6.res1]) rfl (NatOk.mk (fitB_false HB3.out HLE3.out) rfl (isNat_zero _ _) (HT.out.hB.setCell (by simp <;> omega) _))
                      · go_upto_region 21 with (go_at_call 38; refine (more_c c _ _ _ _ _ _ _ N _ HT.out.os.nat HT.out.oa.nat (hf2.mono (by decide)) (hN.mono (by decide))).mono ?_; rintro e w9 ⟨A9, n9, d9, rfl, hx, hb⟩; rw [HB3.out] at hx ⊢; have hx : IsNat w10.heap.size w9 _ (geo N (n / 2 ^ (m + 1)) * (geo N (n / 2 ^ (m + 1)) * (N - 1) + 2) * N + 1) := hx; have hput := HT.out.put hb (Nat.le_refl _) hx; have HT := Lib.hid (HT.out.keep hb); obtain ⟨c4, c6, c9, c11, f6, f11, z6, z11⟩ := HT.out.cells; have HU := Lib.hid hput; clear hb hx hput)
                        have HT := HU
                        clear HU
                        generalize w9.setCell ⟨G, 0, none⟩ (.slice A9 n9 d9) = w11 at *
                        obtain ⟨c4, c6, c9, c11, f6, f11, z6, z11⟩ := HT.out.cells
                        go_wp2_with fail
                        go_roundw
                        case rel => exact ⟨m, A9, n9, d9, rfl, by go_num, by omega, by have h := HT.out; rw [HS2.out] at h; rw [HG.out, if_pos HBIT.out]; exact h, by have h := HB3.out; rw [HS2.out] at h; rw [HG.out, if_pos HBIT.out]; exact h⟩
                        case measure => simp [intOf] <;> omega
                  · rw [decide_eq_false hbit] at hbt
                    have HG := Lib.hid (geo_half N n m)
                    have HBIT := Lib.hid hbit
                    clear hbit
                    go_region_law
                      (first
                        | (go_simp; go_at_call 20; refine (of_w 2 _ (by decide)).mono ?_; rintro e w6 ⟨v2, rfl, hv2, hb⟩; have hb := below_undrew hb; have HT := Lib.hid (HT.out.keep hb); obtain ⟨c4, c6, c9, c11, f6, f11, z6, z11⟩ := HT.out.cells; have HW := Lib.hid (And.intro (HW.out.1.keep hb) (HW.out.2.keep hb)); have c14 := HW.out.1.cell 0; simp only [List.getElem?_toArray, List.getElem?_cons_zero] at c14; have HV := Lib.hid hv2; clear hb hv2)
                        | (go_simp; go_at_call 19; refine (add_w HW.out.2 HV.out (hfX.mono (by decide)) (Fits.mono (s := 1) ⟨by decide⟩ (by decide))).mono ?_; rintro e w7 ⟨v3, rfl, hv3, hb⟩; have HT := Lib.hid (HT.out.keep hb); obtain ⟨c4, c6, c9, c11, f6, f11, z6, z11⟩ := HT.out.cells; have HW := Lib.hid (And.intro (HW.out.1.keep hb) (HW.out.2.keep hb)); have c14 := HW.out.1.cell 0; simp only [List.getElem?_toArray, List.getElem?_cons_zero] at c14; have HV := Lib.hid hv3; clear hb hv3)
                        | (go_simp; go_at_call 32; refine (capMul_c 0 0 c _ _ _ _ _ HT.out.os.nat HV.out (hfS.mono (by decide)) ((fits_add hfX (Fits.mono (s := 1) (N := 2) ⟨by decide⟩ (Nat.le_refl 1))).mono (by decide))).mono ?_; rintro e w8 ⟨x, rfl, hx, hb⟩; rw [HB2.out] at hx ⊢; have hx : IsNat w7.heap.size w8 x (geo N (n / 2 ^ (m + 1)) * (geo N (n / 2 ^ (m + 1)) * (N - 1) + 2)) := hx; obtain ⟨A8, n8, d8, l8, rfl, hy⟩ := hx; have hput := HT.out.put hb (Nat.le_refl _) (⟨A8, n8, d8, l8, rfl, hy⟩ : IsNat w7.heap.size w8 (.agg #[.slice A8 n8 d8]) (geo N (n / 2 ^ (m + 1)) * (geo N (n / 2 ^ (m + 1)) * (N - 1) + 2))); have HT := Lib.hid (HT.out.keep hb); obtain ⟨c4, c6, c9, c11, f6, f11, z6, z11⟩ := HT.out.cells; have HW := Lib.hid (HW.out.1.keep hb); have c14 := HW.out.cell 0; simp only [List.getElem?_toArray, List.getElem?_cons_zero] at c14; have HU := Lib.hid hput; clear hb hy hput))
                    all_goals
                      have HT := HU
                      clear HU HW c14
                      generalize w8.setCell ⟨G, 0, none⟩ (.slice A8 n8 d8) = w10 at *
                      obtain ⟨c4, c6, c9, c11, f6, f11, z6, z11⟩ := HT.out.cells
                      go_wp2_with fail
                      go_roundw
                      case rel => exact ⟨m, A8, n8, d8, rfl, by go_num, by omega, by have h := HT.out; rw [HS2.out] at h; rw [HG.out, if_neg HBIT.out]; exact h, by have h := HB2.out; rw [HS2.out] at h; rw [HG.out, if_neg HBIT.out]; exact h⟩
                      case measure => simp [intOf] <;> omega
end Go.Proofs.Ytfpjhohkaoodmaa
