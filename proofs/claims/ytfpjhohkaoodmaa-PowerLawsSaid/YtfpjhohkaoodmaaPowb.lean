/- Pow of package power, by contract: a power, if it fits under the cap. Caps of at most 200 limbs, bases of at most 200. -/
import Derived.Test.YtfpjhohkaoodmaaPow
import Derived.Deep.DeepCutAuto
import Derived.RegionTactic
namespace Go.Proofs.Ytfpjhohkaoodmaa
open Go.RowKit
attribute [local go_sem] alloc_drewN setCell_drewN
/-- The number M, and true, if it fits under the cap; else 0, and false. Nothing that was there before has turned. -/
def NatOk (w : World) (c : Int) (M : Nat) (e : Ending) (w' : World) : Prop :=
  ∃ A k d, e = .returned (.tuple #[.agg #[.slice A k d], .bool (fitB c M)]) ∧ IsNat 0 w' (.agg #[.slice A k d]) (if fitB c M then M else 0) ∧ Below w.heap.size w w'
theorem NatOk.mk {w w' : World} {c : Int} {M : Nat} {A : Option Addr} {k d : Nat} {b : Bool} {K : Nat} (hb : fitB c M = b) (hK : K = if b then M else 0) (h : IsNat 0 w' (.agg #[.slice A k d]) K) (hB : Below w.heap.size w w') : NatOk w c M (.returned (.tuple #[.agg #[.slice A k d], .bool b])) w' := by
  subst hb hK
  exact ⟨A, k, d, rfl, h, hB⟩
theorem cmp_one {N : Nat} : cmpI N 1 = 0 ↔ N = 1 := by
  unfold cmpI
  constructor
  · intro h
    split at h
    · cases h
    · split at h
      · cases h
      · omega
  · rintro rfl; rfl
/-- The blocks that are written over: the result's alone; with them r's and ok's. -/
def badR (H : Nat) (b : Nat) : Prop := b = H + 1 + 1
def badL (H G : Nat) (b : Nat) : Prop := b = H + 1 + 1 ∨ b = G ∨ b = G + 1
/-- What lies in memory while Pow goes on. -/
structure PowM (bad : Nat → Prop) (w0 w : World) (g : Nat) (c : Int) (a one : Value) (N : Nat) : Prop where
  hB : Below w0.heap.size w0 w
  k3 : Bk w w0.heap.size 33 #[.int .i64 c]
  k4 : Bk w (w0.heap.size + 1) 29 #[a]
  k6 : Bk w (w0.heap.size + 1 + 1) 29 #[.slice none 0 0]
  k8 : Bk w g 29 #[one]
  oa : OffN bad w a N
  o1 : OffN bad w one 1
  lt : w0.heap.size + 1 + 1 < g
section
variable {bad bad' : Nat → Prop} {w0 w w' : World} {g : Nat} {c : Int} {a one : Value} {N : Nat}
theorem PowM.keep (h : PowM bad w0 w g c a one N) (hb : Below w.heap.size w w') : PowM bad w0 w' g c a one N :=
  ⟨h.hB.trans (hb.mono h.hB.size), h.k3.keep hb, h.k4.keep hb, h.k6.keep hb, h.k8.keep hb, h.oa.keep hb, h.o1.keep hb, h.lt⟩
theorem PowM.more (h : PowM bad w0 w g c a one N) (hb : ∀ b, bad' b → bad b ∨ w.heap.size ≤ b) : PowM bad' w0 w g c a one N :=
  ⟨h.hB, h.k3, h.k4, h.k6, h.k8, h.oa.more hb, h.o1.more hb, h.lt⟩
theorem PowM.put (h : PowM bad w0 w g c a one N) {p : Nat} (hp : bad p) (hg : g < p) (u : Value) : PowM bad w0 (w.setCell ⟨p, 0, none⟩ u) g c a one N := by
  have hl := h.lt
  exact ⟨h.hB.setCell (by simp; omega) _, h.k3.far (by simp; omega) _, h.k4.far (by simp; omega) _, h.k6.far (by simp; omega) _, h.k8.far (by simp; omega) _, h.oa.far hp _ _, h.o1.far hp _ _, hl⟩
theorem PowM.cells (h : PowM bad w0 w g c a one N) :
    w.cell? ⟨w0.heap.size, 0, none⟩ = some (.int .i64 c) ∧ w.cell? ⟨w0.heap.size + 1, 0, none⟩ = some a ∧ w.cell? ⟨w0.heap.size + 1 + 1, 0, none⟩ = some (.slice none 0 0) ∧ w.cell? ⟨g, 0, none⟩ = some one ∧ w.frozen? ⟨w0.heap.size + 1 + 1, 0, none⟩ = false ∧ w0.heap.size + 1 + 1 < w.heap.size ∧ g < w.heap.size :=
  ⟨h.k3.cell 0, h.k4.cell 0, h.k6.cell 0, h.k8.cell 0, h.k6.frozen 0, h.k6.lt, h.k8.lt⟩
end
/-- Behind a number and a Bool that were stored in the blocks of r and ok. -/
theorem stored_after {H G g : Nat} {w0 w w' : World} {c : Int} {a one s u : Value} {N M : Nat} {b : Bool} (hH : H = w0.heap.size) (hP : PowM (badL H G) w0 w g c a one N) (h9 : Bk w G 29 #[s]) (h10 : Bk w (G + 1) 4 #[u]) (hg : g < G) (hs : Stored G (G + 1) b M w w') :
    ∃ A k d, PowM (badL H G) w0 w' g c a one N ∧ Bk w' G 29 #[.slice A k d] ∧ OffN (badL H G) w' (.slice A k d) M ∧ Bk w' (G + 1) 4 #[.bool b] := by
  subst hH
  obtain ⟨A, k, d, w1, hb, hi, rfl⟩ := hs
  have hz := h10.lt
  have hl := hP.lt
  have ho : OffN (badL w0.heap.size G) w1 (.slice A k d) M := OffN.of hi (by unfold badL; omega)
  refine ⟨A, k, d, ((hP.keep hb).put (.inr (.inl rfl)) hg _).put (.inr (.inr rfl)) (by omega) _, ?_, (ho.far (.inr (.inl rfl)) _ _).far (.inr (.inr rfl)) _ _, ?_⟩
  · have := (h9.keep hb).put 0 (.slice A k d)
    have := this.far (p := ⟨G + 1, 0, none⟩) (by simp) (.bool b)
    simpa using this
  · have := ((h10.keep hb).far (p := ⟨G, 0, none⟩) (by simp) (.slice A k d)).put 0 (.bool b)
    simpa using this
theorem pow_half (N n m : Nat) : N ^ (n / 2 ^ m) = N ^ (n / 2 ^ (m + 1)) * N ^ (n / 2 ^ (m + 1)) * N ^ (n / 2 ^ m % 2) := by
  have h := congrArg (fun k => N ^ k) (half_step n m)
  simp only [Nat.pow_add, Nat.two_mul] at h
  exact h
theorem bit_test {n : Nat} (m : Nat) (hn : n < 18446744073709551616) : (bits BinOp.and IntKind.u64 ((n : Int) / 2 ^ m) 1 == 1) = decide (n / 2 ^ m % 2 = 1) := by
  have h1 : (n : Int) / 2 ^ m = ((n / 2 ^ m : Nat) : Int) := by simp
  have h2 : n / 2 ^ m < 18446744073709551616 := Nat.lt_of_le_of_lt (half_le n m) hn
  have h3 := u64_and_nat (n / 2 ^ m) 1 h2 (by decide)
  rw [h1]
  rw [show ((1 : Nat) : Int) = 1 from rfl] at h3
  rw [h3, Nat.and_one_is_mod]
  by_cases h : n / 2 ^ m % 2 = 1
  · rw [h]; rfl
  · have : n / 2 ^ m % 2 = 0 := by omega
    rw [this]; rfl
theorem pow_half_le {N : Nat} (n m : Nat) (hN : 2 ≤ N) : N ^ (n / 2 ^ m) ≤ N ^ n := pow_mono (by omega) (half_le n m)
set_option maxRecDepth 100000 in
set_option maxHeartbeats 8000000 in
theorem pow_c (c : Int) (v : Value) (N n : Nat) (w : World) (hv : IsNat 0 w v N) (hN : Fits N 200) (hn : n < 18446744073709551616) (hc : c ≤ 200) :
    Calls Try.prog 9 #[.int .i64 c, v, .int .u64 n] w fun e w' => NatOk w c (N ^ n) e w' := by
  have hv0 := hv
  obtain ⟨Aa, na, da, la, rfl, -, hla0, -⟩ := hv
  have h1 : Below w.heap.size w (((w.alloc (.cells #[.int .i64 c] 33)).alloc (.cells #[.slice Aa na da] 29)).alloc (.cells #[.slice none 0 0] 29)) := (((Below.refl _ _).alloc (Nat.le_refl _) _).alloc (by simp) _).alloc (by simp <;> omega) _
  have k3 := ((Bk.new w 33 #[.int .i64 c]).alloc (.cells #[.slice Aa na da] 29)).alloc (.cells #[.slice none 0 0] 29)
  have k4 := (Bk.new (w.alloc (.cells #[.int .i64 c] 33)) 29 #[.slice Aa na da]).alloc (.cells #[.slice none 0 0] 29)
  have k6 := Bk.new ((w.alloc (.cells #[.int .i64 c] 33)).alloc (.cells #[.slice Aa na da] 29)) 29 #[.slice none 0 0]
  simp at k4 k6
  have HP := Lib.hid (And.intro h1 (And.intro k3 (And.intro k4 (And.intro k6 hv0))))
  have HZ := Lib.hid hla0
  clear h1 k3 k4 k6 hla0 hv0
  go_enter Try.func9, Try.ntmps9
  go_wp2_with fail
  go_step3
  go_upto_region 3 with (first
    | (go_at_call 28; refine (within_c c _ (by omega)).mono ?_; rintro e w0 ⟨rfl, rfl⟩)
    | (go_at_call 20; refine (of_c 1 _ (by decide)).mono ?_; rintro e w1 ⟨v1, rfl, hv1, hb⟩; obtain ⟨A1, n1, d1, l1, rfl, hv1⟩ := hv1; have z1 := hb.size; simp at z1; have HO := Lib.hid (And.intro hv1 hb); clear hv1 hb))
  have i1 : IsNat (w.heap.size + 1 + 1 + 1) w1 (.agg #[.slice A1 n1 d1]) 1 := by
    have h : IsNat (((w.alloc (.cells #[.int .i64 c] 33)).alloc (.cells #[.slice Aa na da] 29)).alloc (.cells #[.slice none 0 0] 29)).heap.size w1 (.agg #[.slice A1 n1 d1]) 1 := ⟨A1, n1, d1, l1, rfl, HO.out.1⟩
    exact h.mono (by simp)
  have b8 : Below w1.heap.size w1 (w1.alloc (.cells #[.slice A1 n1 d1] 29)) := (Below.refl _ _).alloc (Nat.le_refl _) _
  have hB : Below w.heap.size w (w1.alloc (.cells #[.slice A1 n1 d1] 29)) := (HP.out.1.trans (HO.out.2.mono HP.out.1.size)).trans (b8.mono (by omega))
  have HQ : Hid (PowM (badR w.heap.size) w (w1.alloc (.cells #[.slice A1 n1 d1] 29)) w1.heap.size c (.slice Aa na da) (.slice A1 n1 d1) N) := Lib.hid ⟨hB, (HP.out.2.1.keep HO.out.2).keep b8, (HP.out.2.2.1.keep HO.out.2).keep b8, (HP.out.2.2.2.1.keep HO.out.2).keep b8, Bk.new w1 _ _,
    (OffN.of HP.out.2.2.2.2 (by unfold badR; omega)).keep hB, (OffN.of i1 (by unfold badR; omega)).keep b8, by omega⟩
  obtain ⟨c3, c4, c6, c8, f6, z6, z8⟩ := HQ.out.cells
  have zz : (w1.alloc (.cells #[.slice A1 n1 d1] 29)).heap.size = w1.heap.size + 1 := by simp
  clear i1 b8 hB HP HO
  generalize w1.alloc (.cells #[.slice A1 n1 d1] 29) = wz at *
  generalize w1.heap.size = g8 at *
  by_cases hn0 : n = 0
  · subst hn0
    obtain ⟨b, hb0⟩ : ∃ b, fitB c 1 = b := ⟨_, rfl⟩
    have HB := Lib.hid hb0
    clear hb0
    cases b
    · go_wp2_with (go_at_call 29; refine (punder_c c A1 n1 d1 1 _ HQ.out.o1.nat HB.out).mono ?_; rintro e w2 ⟨rfl, hb⟩; have HQ := Lib.hid (HQ.out.keep hb); obtain ⟨c3, c4, c6, c8, f6, z6, z8⟩ := HQ.out.cells; clear hb)
      rw [Exit.noGoto_ret]
      exact bodyPost_ret (v := .tuple #[.agg #[.slice none 0 0], .bool false]) (by simp [results, Try.results9, go_sem, HQ.out.k6.res1]) rfl (NatOk.mk (by rw [Nat.pow_zero]; exact HB.out) rfl (isNat_zero _ _) (HQ.out.hB.setCell (by simp; omega) _))
    · go_wp2_with (go_at_call 29; refine (punder_c c A1 n1 d1 1 _ HQ.out.o1.nat HB.out).mono ?_; rintro e w2 ⟨rfl, hb⟩; have HQ := Lib.hid (HQ.out.keep hb); obtain ⟨c3, c4, c6, c8, f6, z6, z8⟩ := HQ.out.cells; clear hb)
      rw [Exit.noGoto_ret]
      exact bodyPost_ret (v := .tuple #[.agg #[.slice A1 n1 d1], .bool true]) (by simp [results, Try.results9, go_sem, HQ.out.k6.res1]) rfl (NatOk.mk (by rw [Nat.pow_zero]; exact HB.out) (by rw [Nat.pow_zero]; rfl) (HQ.out.o1.far (g := w.heap.size + 1 + 1) rfl _ _).nat (HQ.out.hB.setCell (by simp; omega) _))
  · have gn : ((n : Int) == 0) = false := by simp <;> omega
    obtain ⟨q, hq⟩ : ∃ q, cmpI N 1 = q := ⟨_, rfl⟩
    have HC := Lib.hid hq
    by_cases hN1 : N = 1
    · subst hN1
      obtain rfl : q = 0 := by rw [← hq]; rfl
      have hM : 1 ^ n = 1 := Nat.one_pow n
      have HM := Lib.hid hM
      clear hq hM
      obtain ⟨b, hb0⟩ : ∃ b, fitB c 1 = b := ⟨_, rfl⟩
      have HB := Lib.hid hb0
      clear hb0
      cases b
      · go_wp2_with (first
          | (go_at_call 17; refine (cmp_w HQ.out.oa.nat HQ.out.o1.nat (hN.mono (by decide)) (fits1.mono (by decide)) HC.out).mono ?_; rintro e w2 ⟨rfl, hb⟩; have HQ := Lib.hid (HQ.out.keep hb); obtain ⟨c3, c4, c6, c8, f6, z6, z8⟩ := HQ.out.cells; clear hb)
          | (go_at_call 29; refine (punder_c c A1 n1 d1 1 _ HQ.out.o1.nat HB.out).mono ?_; rintro e w2 ⟨rfl, hb⟩; have HQ := Lib.hid (HQ.out.keep hb); obtain ⟨c3, c4, c6, c8, f6, z6, z8⟩ := HQ.out.cells; clear hb))
        rw [Exit.noGoto_ret]
        exact bodyPost_ret (v := .tuple #[.agg #[.slice none 0 0], .bool false]) (by simp [results, Try.results9, go_sem, HQ.out.k6.res1]) rfl (NatOk.mk (by rw [HM.out]; exact HB.out) rfl (isNat_zero _ _) (HQ.out.hB.setCell (by simp; omega) _))
      · go_wp2_with (first
          | (go_at_call 17; refine (cmp_w HQ.out.oa.nat HQ.out.o1.nat (hN.mono (by decide)) (fits1.mono (by decide)) HC.out).mono ?_; rintro e w2 ⟨rfl, hb⟩; have HQ := Lib.hid (HQ.out.keep hb); obtain ⟨c3, c4, c6, c8, f6, z6, z8⟩ := HQ.out.cells; clear hb)
          | (go_at_call 29; refine (punder_c c A1 n1 d1 1 _ HQ.out.o1.nat HB.out).mono ?_; rintro e w2 ⟨rfl, hb⟩; have HQ := Lib.hid (HQ.out.keep hb); obtain ⟨c3, c4, c6, c8, f6, z6, z8⟩ := HQ.out.cells; clear hb))
        rw [Exit.noGoto_ret]
        exact bodyPost_ret (v := .tuple #[.agg #[.slice A1 n1 d1], .bool true]) (by simp [results, Try.results9, go_sem, HQ.out.k6.res1]) rfl (NatOk.mk (by rw [HM.out]; exact HB.out) (by rw [HM.out]; rfl) (HQ.out.o1.far (g := w.heap.size + 1 + 1) rfl _ _).nat (HQ.out.hB.setCell (by simp; omega) _))
    · have gq : (q == 0) = false := beq_false_of_ne (fun e => hN1 (cmp_one.1 (hq.trans e)))
      clear hq
      by_cases hN0 : N = 0
      · have hl0 : ((la.length : Int) == 0) = true := by have := HZ.out.zero.2 hN0; simp [this]
        have hM : N ^ n = 0 := by rw [hN0]; exact Nat.zero_pow (by omega)
        have HM := Lib.hid hM
        clear hM
        go_wp2_with (first
          | (go_at_call 17; refine (cmp_w HQ.out.oa.nat HQ.out.o1.nat (hN.mono (by decide)) (fits1.mono (by decide)) HC.out).mono ?_; rintro e w2 ⟨rfl, hb⟩; have HQ := Lib.hid (HQ.out.keep hb); obtain ⟨c3, c4, c6, c8, f6, z6, z8⟩ := HQ.out.cells; clear hb)
          | (go_at_call 23; refine (len_w HQ.out.oa.nat HZ.out).mono ?_; rintro e w2 ⟨rfl, hb⟩; have HQ := Lib.hid (HQ.out.keep hb); obtain ⟨c3, c4, c6, c8, f6, z6, z8⟩ := HQ.out.cells; clear hb))
        rw [Exit.noGoto_ret]
        exact bodyPost_ret (v := .tuple #[.agg #[.slice none 0 0], .bool true]) (by simp [results, Try.results9, go_sem, HQ.out.k6.res1]) rfl (NatOk.mk (by rw [HM.out]; exact fitB_zero c) (by rw [HM.out]; rfl) (isNat_zero _ _) (HQ.out.hB.setCell (by simp; omega) _))
      · have hl0 : ((la.length : Int) == 0) = false := by have := HZ.out.zero.1; simp; rintro rfl; exact hN0 (this rfl)
        have hN2 : 2 ≤ N := by omega
        by_cases hbey : 64 * (max 0 c).toNat ≤ n
        · have hM := fitB_pow_false (c := c) hN2 hbey
          have HM := Lib.hid hM
          have hbd : decide (64 * (max 0 c).toNat ≤ n) = true := decide_eq_true hbey
          have HD := Lib.hid hbd
          clear hM hbd hbey
          go_wp2_with (first
            | (go_at_call 17; refine (cmp_w HQ.out.oa.nat HQ.out.o1.nat (hN.mono (by decide)) (fits1.mono (by decide)) HC.out).mono ?_; rintro e w2 ⟨rfl, hb⟩; have HQ := Lib.hid (HQ.out.keep hb); obtain ⟨c3, c4, c6, c8, f6, z6, z8⟩ := HQ.out.cells; clear hb)
            | (go_at_call 23; refine (len_w HQ.out.oa.nat HZ.out).mono ?_; rintro e w2 ⟨rfl, hb⟩; have HQ := Lib.hid (HQ.out.keep hb); obtain ⟨c3, c4, c6, c8, f6, z6, z8⟩ := HQ.out.cells; clear hb)
            | (go_at_call 30; refine (beyond_c c n _ (by omega) hn).mono ?_; rintro e w2 ⟨rfl, rfl⟩; rw [HD.out]))
          rw [Exit.noGoto_ret]
          exact bodyPost_ret (v := .tuple #[.agg #[.slice none 0 0], .bool false]) (by simp [results, Try.results9, go_sem, HQ.out.k6.res1]) rfl (NatOk.mk HM.out rfl (isNat_zero _ _) (HQ.out.hB.setCell (by simp; omega) _))
        · have hbd : decide (64 * (max 0 c).toNat ≤ n) = false := decide_eq_false hbey
          have HD := Lib.hid hbd
          have hL := bitLen_le n
          have HL := Lib.hid (bitLen_div hn)
          have hf1 : fitB c 1 = true := by unfold fitB; exact decide_eq_true (Nat.one_lt_pow (by omega) (by decide))
          have HF1 := Lib.hid hf1
          clear hbd hbey hf1
          go_wp2_with (first
            | (go_at_call 17; refine (cmp_w HQ.out.oa.nat HQ.out.o1.nat (hN.mono (by decide)) (fits1.mono (by decide)) HC.out).mono ?_; rintro e w2 ⟨rfl, hb⟩; have HQ := Lib.hid (HQ.out.keep hb); obtain ⟨c3, c4, c6, c8, f6, z6, z8⟩ := HQ.out.cells; clear hb)
            | (go_at_call 23; refine (len_w HQ.out.oa.nat HZ.out).mono ?_; rintro e w2 ⟨rfl, hb⟩; have HQ := Lib.hid (HQ.out.keep hb); obtain ⟨c3, c4, c6, c8, f6, z6, z8⟩ := HQ.out.cells; clear hb)
            | (go_at_call 30; refine (beyond_c c n _ (by omega) hn).mono ?_; rintro e w2 ⟨rfl, rfl⟩; rw [HD.out])
            | (go_at_call 33; refine (len64_c n _ hn).mono ?_; rintro e w2 ⟨rfl, rfl⟩))
          go_step3
          go_wp2_with (go_at_call 33; refine (len64_c n _ hn).mono ?_; rintro e w3 ⟨rfl, rfl⟩)
          have hbb : Below w2.heap.size w2 ((w2.alloc (.cells #[.slice A1 n1 d1] 29)).alloc (.cells #[.bool true] 4)) := ((Below.refl _ _).alloc (Nat.le_refl _) _).alloc (by simp) _
          have hP := (HQ.out.more (bad' := badL w.heap.size w2.heap.size) (by unfold badL badR; omega)).keep hbb
          have h9 := (Bk.new w2 29 #[.slice A1 n1 d1]).alloc (.cells #[.bool true] 4)
          have h10 := Bk.new (w2.alloc (.cells #[.slice A1 n1 d1] 29)) 4 #[.bool true]
          simp at h10
          have HS := Lib.hid (And.intro hP (And.intro h9 h10))
          have zG : ((w2.alloc (.cells #[.slice A1 n1 d1] 29)).alloc (.cells #[.bool true] 4)).heap.size = w2.heap.size + 1 + 1 := by simp
          have zg := z8
          clear hP h9 h10 hbb HQ c3 c4 c6 c8 f6 z8
          generalize (w2.alloc (.cells #[.slice A1 n1 d1] 29)).alloc (.cells #[.bool true] 4) = wz at *
          generalize w2.heap.size = G at *
          go_loopw [12] (fun i w1 => ∃ (j : Nat) (A : Option Addr) (k d : Nat), i = .int .i64 ((j : Int) - 1) ∧ j ≤ 64 ∧ PowM (badL w.heap.size G) w w1 g8 c (.slice Aa na da) (.slice A1 n1 d1) N ∧ Bk w1 G 29 #[.slice A k d] ∧ OffN (badL w.heap.size G) w1 (.slice A k d) (N ^ (n / 2 ^ j)) ∧ fitB c (N ^ (n / 2 ^ j)) = true ∧ Bk w1 (G + 1) 4 #[.bool true]) (fun i _ => (intOf i + 1).toNat)
          case atStart => exact ⟨Lib.bitLen n, A1, n1, d1, rfl, hL, HS.out.1, HS.out.2.1, by rw [HL.out, Nat.pow_zero]; exact HS.out.1.o1, by rw [HL.out, Nat.pow_zero]; exact HF1.out, HS.out.2.2⟩
          case round =>
            obtain ⟨j, A, k, d, rfl, hj, hP, h9, ho, hf, h10⟩ := hrel
            obtain ⟨c3, c4, c6, c8, f6, z6, z8⟩ := hP.cells
            have c9 := h9.cell 0
            have c10 := h10.cell 0
            have f9 := h9.frozen 0
            have f10 := h10.frozen 0
            have z10 := h10.lt
            simp only [List.getElem?_toArray, List.getElem?_cons_zero] at c9 c10
            have HR := Lib.hid (And.intro hP (And.intro h9 (And.intro ho (And.intro hf h10))))
            clear hP h9 ho hf h10 HS
            by_cases hj0 : j = 0
            · subst hj0
              have g1 : decide ((0 : Int) ≤ (((0 : Nat) : Int) - 1)) = false := by decide
              have e0 : n / 2 ^ 0 = n := by simp
              have HE := Lib.hid e0
              clear e0
              go_wp2
              go_region
              all_goals
                go_wp2
                rw [Exit.noGoto_ret]
                exact bodyPost_ret (v := .tuple #[.agg #[.slice A k d], .bool true]) (by simp [results, Try.results9, go_sem, HR.out.1.k6.res1]) rfl (NatOk.mk (by have := HR.out.2.2.2.1; rw [HE.out] at this; exact this) (by rw [if_pos rfl]) (OffN.nat (OffN.far (show OffN (badL w.heap.size G) wr (.slice A k d) (N ^ n) by have := HR.out.2.2.1; rw [HE.out] at this; exact this) (.inl rfl) 0 _)) ((HR.out.1.hB.setCell (by simp; omega) _).drew))
            · obtain ⟨m, rfl⟩ : ∃ m, j = m + 1 := ⟨j - 1, by omega⟩
              have g1 : decide ((0 : Int) ≤ (((m + 1 : Nat) : Int) - 1)) = true := by simp <;> omega
              obtain ⟨b, hb0⟩ : ∃ b, fitB c (N ^ (n / 2 ^ (m + 1)) * N ^ (n / 2 ^ (m + 1))) = b := ⟨_, rfl⟩
              have HB := Lib.hid hb0
              clear hb0 hj0
              have hfr : Fits (N ^ (n / 2 ^ (m + 1))) 1000 := (fitB_fits (s := 200) HR.out.2.2.2.1 hc).mono (by decide)
              have hle := pow_half_le n m hN2
              rw [pow_half N n m] at hle
              have HLE := Lib.hid hle
              clear hle
              cases b
              · go_wp2_with (go_at_call 31; refine (square_c _ _ _ c _ _ _ _ HR.out.1.k3 HR.out.2.1 HR.out.2.2.2.2 HR.out.2.2.1.nat hfr).mono ?_; rintro e w3 ⟨rfl, hs⟩; rw [HB.out] at hs ⊢; obtain ⟨A2, k2, d2, hP2, h92, ho2, h102⟩ := stored_after (M := 0) rfl HR.out.1 HR.out.2.1 HR.out.2.2.2.2 zg hs; obtain ⟨c3, c4, c6, c8, f6, z6, z8⟩ := hP2.cells; have c9 := h92.cell 0; have c10 := h102.cell 0; have f9 := h92.frozen 0; have f10 := h102.frozen 0; have z10 := h102.lt; simp only [List.getElem?_toArray, List.getElem?_cons_zero] at c9 c10; have HR2 := Lib.hid (And.intro hP2 (And.intro h92 (And.intro ho2 h102))); clear hs hP2 h92 ho2 h102)
                go_region
                all_goals
                  go_wp2
                  rw [Exit.noGoto_ret]
                  exact bodyPost_ret (v := .tuple #[.agg #[.slice A2 k2 d2], .bool false]) (by simp [results, Try.results9, go_sem, HR2.out.1.k6.res1]) rfl (NatOk.mk (fitB_false HB.out (Nat.le_trans (Nat.le_mul_of_pos_right _ (Nat.pow_pos (by omega))) HLE.out)) rfl (((HR2.out.2.2.1).far (.inl rfl) 0 _).nat) ((HR2.out.1.hB.setCell (by simp; omega) _).drew))
              · have hfr2 : Fits (N ^ (n / 2 ^ (m + 1)) * N ^ (n / 2 ^ (m + 1))) 1000 := (fitB_fits (s := 200) HB.out hc).mono (by decide)
                have hbt := bit_test m hn
                by_cases hbit : n / 2 ^ m % 2 = 1
                · rw [decide_eq_true hbit] at hbt
                  obtain ⟨b2, hb2⟩ : ∃ b2, fitB c (N ^ (n / 2 ^ (m + 1)) * N ^ (n / 2 ^ (m + 1)) * N) = b2 := ⟨_, rfl⟩
                  have HB2 := Lib.hid hb2
                  have HBIT := Lib.hid hbit
                  clear hb2 hbit
                  cases b2
                  · go_upto_region 16 with (go_at_call 31; refine (square_c _ _ _ c _ _ _ _ HR.out.1.k3 HR.out.2.1 HR.out.2.2.2.2 HR.out.2.2.1.nat hfr).mono ?_; rintro e w3 ⟨rfl, hs⟩; rw [HB.out] at hs ⊢; obtain ⟨A2, k2, d2, hP2, h92, ho2, h102⟩ := stored_after (M := N ^ (n / 2 ^ (m + 1)) * N ^ (n / 2 ^ (m + 1))) rfl HR.out.1 HR.out.2.1 HR.out.2.2.2.2 zg hs; obtain ⟨c3, c4, c6, c8, f6, z6, z8⟩ := hP2.cells; have c9 := h92.cell 0; have c10 := h102.cell 0; have f9 := h92.frozen 0; have f10 := h102.frozen 0; have z10 := h102.lt; simp only [List.getElem?_toArray, List.getElem?_cons_zero] at c9 c10; have HR2 := Lib.hid (And.intro hP2 (And.intro h92 (And.intro ho2 h102))); clear hs hP2 h92 ho2 h102)
                    go_wp2_with (go_at_call 32; refine (capMul_c 0 0 c _ _ _ N _ HR2.out.2.2.1.nat HR2.out.1.oa.nat hfr2 (hN.mono (by decide))).mono ?_; rintro e w4 ⟨x, rfl, hx, hb⟩; rw [HB2.out] at hx ⊢; have hk9 := HR2.out.2.1.keep hb; have hk10 := HR2.out.2.2.2.keep hb; have d9 := hk9.cell 0; have d10 := hk10.cell 0; have e9 := hk9.frozen 0; have e10 := hk10.frozen 0; have y10 := hk10.lt; have y9 := hk9.lt; simp only [List.getElem?_toArray, List.getElem?_cons_zero] at d9 d10; have hx : IsNat w3.heap.size w4 x (0) := hx; obtain ⟨A4, k4, d4, l4, rfl, hy⟩ := hx; have HX := Lib.hid (And.intro hy hb); clear hy hb hk9 hk10; have k6' := HR2.out.1.k6.keep HX.out.2; have c6' := k6'.cell 0; have f6' := k6'.frozen 0; have z6' := k6'.lt; simp only [List.getElem?_toArray, List.getElem?_cons_zero] at c6')
                    obtain ⟨A5, k5, d5, hP5, h95, ho5, h105⟩ := stored_after (M := 0) rfl HR2.out.1 HR2.out.2.1 HR2.out.2.2.2 zg (show Stored G (G + 1) false 0 w3 ((w4.setCell ⟨G, 0, none⟩ (.slice A4 k4 d4)).setCell ⟨G + 1, 0, none⟩ (.bool false)) from ⟨A4, k4, d4, w4, HX.out.2, ⟨A4, k4, d4, l4, rfl, HX.out.1⟩, rfl⟩)
                    generalize ((w4.setCell ⟨G, 0, none⟩ (.slice A4 k4 d4)).setCell ⟨G + 1, 0, none⟩ (.bool false)) = w5 at *
                    obtain ⟨c3, c4, c6, c8, f6, z6, z8⟩ := hP5.cells
                    have c9 := h95.cell 0
                    have c10 := h105.cell 0
                    simp only [List.getElem?_toArray, List.getElem?_cons_zero] at c9 c10
                    have HR5 := Lib.hid (And.intro hP5 (And.intro h95 (And.intro ho5 h105)))
                    clear hP5 h95 ho5 h105
                    go_region
                    all_goals
                      go_wp2
                      rw [Exit.noGoto_ret]
                      exact bodyPost_ret (v := .tuple #[.agg #[.slice A5 k5 d5], .bool false]) (by simp [results, Try.results9, go_sem, HR5.out.1.k6.res1]) rfl (NatOk.mk (fitB_false HB2.out (by have := HLE.out; rw [HBIT.out, Nat.pow_one] at this; exact this)) rfl ((HR5.out.2.2.1.far (.inl rfl) 0 _).nat) ((HR5.out.1.hB.setCell (by simp; omega) _).drew))
                  · go_upto_region 16 with (go_at_call 31; refine (square_c _ _ _ c _ _ _ _ HR.out.1.k3 HR.out.2.1 HR.out.2.2.2.2 HR.out.2.2.1.nat hfr).mono ?_; rintro e w3 ⟨rfl, hs⟩; rw [HB.out] at hs ⊢; obtain ⟨A2, k2, d2, hP2, h92, ho2, h102⟩ := stored_after (M := N ^ (n / 2 ^ (m + 1)) * N ^ (n / 2 ^ (m + 1))) rfl HR.out.1 HR.out.2.1 HR.out.2.2.2.2 zg hs; obtain ⟨c3, c4, c6, c8, f6, z6, z8⟩ := hP2.cells; have c9 := h92.cell 0; have c10 := h102.cell 0; have f9 := h92.frozen 0; have f10 := h102.frozen 0; have z10 := h102.lt; simp only [List.getElem?_toArray, List.getElem?_cons_zero] at c9 c10; have HR2 := Lib.hid (And.intro hP2 (And.intro h92 (And.intro ho2 h102))); clear hs hP2 h92 ho2 h102)
                    go_wp2_with (go_at_call 32; refine (capMul_c 0 0 c _ _ _ N _ HR2.out.2.2.1.nat HR2.out.1.oa.nat hfr2 (hN.mono (by decide))).mono ?_; rintro e w4 ⟨x, rfl, hx, hb⟩; rw [HB2.out] at hx ⊢; have hk9 := HR2.out.2.1.keep hb; have hk10 := HR2.out.2.2.2.keep hb; have d9 := hk9.cell 0; have d10 := hk10.cell 0; have e9 := hk9.frozen 0; have e10 := hk10.frozen 0; have y10 := hk10.lt; have y9 := hk9.lt; simp only [List.getElem?_toArray, List.getElem?_cons_zero] at d9 d10; have hx : IsNat w3.heap.size w4 x (N ^ (n / 2 ^ (m + 1)) * N ^ (n / 2 ^ (m + 1)) * N) := hx; obtain ⟨A4, k4, d4, l4, rfl, hy⟩ := hx; have HX := Lib.hid (And.intro hy hb); clear hy hb hk9 hk10; have k6' := HR2.out.1.k6.keep HX.out.2; have c6' := k6'.cell 0; have f6' := k6'.frozen 0; have z6' := k6'.lt; simp only [List.getElem?_toArray, List.getElem?_cons_zero] at c6')
                    obtain ⟨A5, k5, d5, hP5, h95, ho5, h105⟩ := stored_after (M := N ^ (n / 2 ^ (m + 1)) * N ^ (n / 2 ^ (m + 1)) * N) rfl HR2.out.1 HR2.out.2.1 HR2.out.2.2.2 zg (show Stored G (G + 1) true _ w3 ((w4.setCell ⟨G, 0, none⟩ (.slice A4 k4 d4)).setCell ⟨G + 1, 0, none⟩ (.bool true)) from ⟨A4, k4, d4, w4, HX.out.2, ⟨A4, k4, d4, l4, rfl, HX.out.1⟩, rfl⟩)
                    go_roundw
                    case rel => exact ⟨m, A5, k5, d5, by go_num, by omega, hP5, h95, by rw [pow_half, HBIT.out, Nat.pow_one]; exact ho5, by rw [pow_half, HBIT.out, Nat.pow_one]; exact HB2.out, h105⟩
                    case measure => simp [intOf] <;> omega
                · rw [decide_eq_false hbit] at hbt
                  have e0 : n / 2 ^ m % 2 = 0 := by omega
                  have HBIT := Lib.hid e0
                  clear hbit e0
                  go_wp2_with (go_at_call 31; refine (square_c _ _ _ c _ _ _ _ HR.out.1.k3 HR.out.2.1 HR.out.2.2.2.2 HR.out.2.2.1.nat hfr).mono ?_; rintro e w3 ⟨rfl, hs⟩; rw [HB.out] at hs ⊢; obtain ⟨A2, k2, d2, hP2, h92, ho2, h102⟩ := stored_after (M := N ^ (n / 2 ^ (m + 1)) * N ^ (n / 2 ^ (m + 1))) rfl HR.out.1 HR.out.2.1 HR.out.2.2.2.2 zg hs; obtain ⟨c3, c4, c6, c8, f6, z6, z8⟩ := hP2.cells; have c9 := h92.cell 0; have c10 := h102.cell 0; have f9 := h92.frozen 0; have f10 := h102.frozen 0; have z10 := h102.lt; simp only [List.getElem?_toArray, List.getElem?_cons_zero] at c9 c10; have HR2 := Lib.hid (And.intro hP2 (And.intro h92 (And.intro ho2 h102))); clear hs hP2 h92 ho2 h102)
                  go_roundw
                  case rel => exact ⟨m, A2, k2, d2, by go_num, by omega, HR2.out.1, HR2.out.2.1, by rw [pow_half, HBIT.out, Nat.pow_zero, Nat.mul_one]; exact HR2.out.2.2.1, by rw [pow_half, HBIT.out, Nat.pow_zero, Nat.mul_one]; exact HB.out, HR2.out.2.2.2⟩
                  case measure => simp [intOf] <;> omega
end Go.Proofs.Ytfpjhohkaoodmaa
