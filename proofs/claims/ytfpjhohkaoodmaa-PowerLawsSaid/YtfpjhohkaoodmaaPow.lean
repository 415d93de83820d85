/- Pow of package power, by contract, and what it calls: a power, if it fits. Caps of at most 200 limbs, bases of at most 200. -/
import Derived.Test.YtfpjhohkaoodmaaLen64
import Derived.Test.YtfpjhohkaoodmaaPowp
import Derived.Test.YtfpjhohkaoodmaaCapm
import Derived.Laws.BitsAllLaws
namespace Go.Proofs.Ytfpjhohkaoodmaa
open Go.RowKit
attribute [local go_sem] alloc_drewN setCell_drewN
/-- The number's limbs, if there are any, lie in none of the blocks 'bad'. -/
def OffN (bad : Nat → Prop) (w : World) (s : Value) (N : Nat) : Prop :=
  ∃ (A : Option Addr) (n c : Nat) (l : List Nat), s = .slice A n c ∧ Rw .u64 w A n l ∧ Lim 18446744073709551616 l N ∧ n ≤ c ∧ (0 < n → ∀ b off, A = some ⟨b, off, none⟩ → ¬ bad b)
section
variable {bad : Nat → Prop} {N : Nat} {w w' : World} {s : Value}
theorem OffN.of {g : Nat} (hn : IsNat g w (.agg #[s]) N) (h : ∀ b, bad b → b < g ∨ w.heap.size ≤ b) : OffN bad w s N := by
  obtain ⟨A, n, c, l, e, hr, hl, hc, hb⟩ := hn
  simp at e
  refine ⟨A, n, c, l, e, hr, hl, hc, fun h0 b off eA hbad => ?_⟩
  obtain ⟨b', off', e', hb', _⟩ := hr.2 h0
  rw [eA] at e'
  injection e' with e'
  injection e' with e1
  have h2 := hb b off eA
  rcases h b hbad with h3 | h3 <;> omega
theorem OffN.keep (hn : OffN bad w s N) (hb : Below w.heap.size w w') : OffN bad w' s N := by
  obtain ⟨A, n, c, l, e, hr, h1⟩ := hn
  exact ⟨A, n, c, l, e, hr.keep hb, h1⟩
theorem OffN.nat (hn : OffN bad w s N) : IsNat 0 w (.agg #[s]) N := by
  obtain ⟨A, n, c, l, rfl, hr, hl, hc, _⟩ := hn
  exact ⟨A, n, c, l, rfl, hr, hl, hc, fun _ _ _ => Nat.zero_le _⟩
theorem Rw.off {k : IntKind} {A : Option Addr} {n : Nat} {l : List Nat} (hr : Rw k w A n l) {p : Addr} (hp : 0 < n → ∀ b off, A = some ⟨b, off, none⟩ → b ≠ p.block) (u : Value) : Rw k (w.setCell p u) A n l :=
  ⟨hr.1, fun hn => by
    obtain ⟨b, off, e, hb, hc⟩ := hr.2 hn
    refine ⟨b, off, e, by simpa using hb, fun i x hx => ?_⟩
    rw [World.cell?_setCell_other w p ⟨b, off + i, none⟩ u (fun e' => hp hn b off e (by rw [e']))]
    exact hc i x hx⟩
theorem OffN.far (hn : OffN bad w s N) {g : Nat} (hg : bad g) (i : Nat) (u : Value) : OffN bad (w.setCell ⟨g, i, none⟩ u) s N := by
  obtain ⟨A, n, c, l, e, hr, hl, hc, hb⟩ := hn
  exact ⟨A, n, c, l, e, hr.off (fun h0 b off eA e' => hb h0 b off eA (e' ▸ hg)) u, hl, hc, hb⟩
theorem OffN.more {bad' : Nat → Prop} (hn : OffN bad w s N) (h : ∀ b, bad' b → bad b ∨ w.heap.size ≤ b) : OffN bad' w s N := by
  obtain ⟨A, n, c, l, e, hr, hl, hc, hb⟩ := hn
  refine ⟨A, n, c, l, e, hr, hl, hc, fun h0 b off eA hbad => ?_⟩
  rcases h b hbad with h1 | h1
  · exact hb h0 b off eA h1
  · obtain ⟨b', off', e', hb', _⟩ := hr.2 h0
    rw [eA] at e'
    injection e' with e'
    injection e' with e1
    omega
theorem OffN.slice (hn : OffN bad w s N) : ∃ A n c, s = .slice A n c := by
  obtain ⟨A, n, c, _, e, _⟩ := hn
  exact ⟨A, n, c, e⟩
theorem OffN.nil : OffN bad w (.slice none 0 0) 0 := ⟨none, 0, 0, [], rfl, Rw.nil _ _ _, Lim.nil _, Nat.le_refl _, fun h => absurd h (by omega)⟩
theorem OffN.pick {b : Bool} (hn : OffN bad w s N) : OffN bad w (if b then s else .slice none 0 0) (if b then N else 0) := by
  cases b
  · exact OffN.nil
  · exact hn
end
theorem within_c (c : Int) (w : World) (hc : c ≤ 268435456) : Calls Try.prog 28 #[.int .i64 c] w fun e w' => e = .returned (.int .i64 c) ∧ w = w' := by
  go_enter Try.func28, Try.ntmps28
  go_wp2
  go_ret
  exact ⟨ret_int (by omega), rfl⟩
theorem beyond_c (c : Int) (n : Nat) (w : World) (hc : c ≤ 268435456) (hn : n < 18446744073709551616) :
    Calls Try.prog 30 #[.int .i64 c, .int .u64 n] w fun e w' => e = .returned (.bool (decide (64 * (max 0 c).toNat ≤ n))) ∧ w = w' := by
  by_cases h0 : c ≤ 0
  · have g0 : decide (c ≤ 0) = true := by simp [h0]
    have e0 : decide (64 * (max 0 c).toNat ≤ n) = true := decide_eq_true (by omega)
    have HE := Lib.hid e0
    clear e0
    go_enter Try.func30, Try.ntmps30
    go_wp2
    go_ret
    exact ⟨by rw [HE.out]; rfl, rfl⟩
  · have g0 : decide (c ≤ 0) = false := by simp <;> omega
    obtain ⟨k, rfl⟩ : ∃ k : Nat, c = k := ⟨c.toNat, by omega⟩
    have e0 : decide (64 * (max 0 (k : Int)).toNat ≤ n) = decide ((k : Int) ≤ (n : Int) / 64) := decide_eq_decide.2 (by omega)
    have HE := Lib.hid e0
    have g1 : decide (k = 0) = false := by simp <;> omega
    have g2 : ¬ k = 0 := by omega
    clear e0 h0
    go_enter Try.func30, Try.ntmps30
    go_wp2
    go_ret
    exact ⟨by rw [HE.out]; rfl, rfl⟩
set_option maxHeartbeats 1600000 in
theorem punder_c {b : Bool} (c : Int) (A : Option Addr) (n d : Nat) (N : Nat) (w : World) (hv : IsNat 0 w (.agg #[.slice A n d]) N) (hb0 : fitB c N = b) :
    Calls Try.prog 29 #[.int .i64 c, .agg #[.slice A n d]] w fun e w' => e = .returned (.tuple #[.agg #[.slice (if b then A else none) (if b then n else 0) (if b then d else 0)], .bool b]) ∧ Below w.heap.size w w' := by
  have hW : Below w.heap.size w ((w.alloc (.cells #[.slice A n d] 29)).alloc (.cells #[.slice none 0 0] 29)) := ((Below.refl _ _).alloc (Nat.le_refl _) _).alloc (by simp) _
  have hka := (Bk.new w 29 #[.slice A n d]).alloc (.cells #[.slice none 0 0] 29)
  have hkr := Bk.new (w.alloc (.cells #[.slice A n d] 29)) 29 #[.slice none 0 0]
  simp at hkr
  have HW := Lib.hid (And.intro hW (And.intro hka (And.intro hkr (And.intro (hv.keep hW) hb0))))
  clear hW hka hkr hv hb0
  go_enter Try.func29, Try.ntmps29
  cases b with
  | false =>
    go_wp2_with (go_at_call 46; refine (fits_c _ c _ N _ HW.out.2.2.2.1).mono ?_; rintro e w1 ⟨rfl, hb⟩; rw [HW.out.2.2.2.2]; have hka := HW.out.2.1.keep hb; have hkr := HW.out.2.2.1.keep hb; have hc1 := hka.cell 0; have hc2 := hkr.cell 0; have hf2 := hkr.frozen 0; have hz2 := hkr.lt; simp at hc1 hc2; have HB := Lib.hid (And.intro (HW.out.1.trans (hb.mono HW.out.1.size)) hkr); clear hb hka hkr)
    exact bodyPost_ret (v := .tuple #[.agg #[.slice none 0 0], .bool false]) (by simp [results, Try.results29, go_sem, HB.out.2.res1]) rfl ⟨rfl, HB.out.1.setCell (by simp) _⟩
  | true =>
    go_wp2_with (go_at_call 46; refine (fits_c _ c _ N _ HW.out.2.2.2.1).mono ?_; rintro e w1 ⟨rfl, hb⟩; rw [HW.out.2.2.2.2]; have hka := HW.out.2.1.keep hb; have hkr := HW.out.2.2.1.keep hb; have hc1 := hka.cell 0; have hc2 := hkr.cell 0; have hf2 := hkr.frozen 0; have hz2 := hkr.lt; simp at hc1 hc2; have HB := Lib.hid (And.intro (HW.out.1.trans (hb.mono HW.out.1.size)) hkr); clear hb hka hkr)
    exact bodyPost_ret (v := .tuple #[.agg #[.slice A n d], .bool true]) (by simp [results, Try.results29, go_sem, HB.out.2.res1]) rfl ⟨rfl, HB.out.1.setCell (by simp) _⟩
/-- A number and a Bool were stored: M in block g, b in block h. -/
def Stored (g h : Nat) (b : Bool) (M : Nat) (w w' : World) : Prop := ∃ A n d w1, Below w.heap.size w w1 ∧ IsNat w.heap.size w1 (.agg #[.slice A n d]) M ∧ w' = (w1.setCell ⟨g, 0, none⟩ (.slice A n d)).setCell ⟨h, 0, none⟩ (.bool b)
set_option maxHeartbeats 1600000 in
theorem square_c (g3 g9 g10 : Nat) (c : Int) (s u : Value) (R : Nat) (w : World) (h3 : Bk w g3 33 #[.int .i64 c]) (h9 : Bk w g9 29 #[s]) (h10 : Bk w g10 4 #[u]) (hn : IsNat 0 w (.agg #[s]) R) (hR : Fits R 1000) :
    Calls Try.prog 31 #[.pointer (some ⟨g3, 0, none⟩), .pointer (some ⟨g9, 0, none⟩), .pointer (some ⟨g10, 0, none⟩)] w fun e w' => e = .returned (.bool (fitB c (R * R))) ∧ Stored g9 g10 (fitB c (R * R)) (if fitB c (R * R) then R * R else 0) w w' := by
  have hn0 := hn
  obtain ⟨A0, n0, d0, l0, e0, _⟩ := hn
  simp at e0
  subst e0
  have c3 := h3.cell 0
  have c9 := h9.cell 0
  have hne : g9 ≠ g10 := by
    rintro rfl
    unfold Bk at h9 h10
    rw [h9] at h10
    injection h10 with h10
    injection h10 with _ h10
    exact absurd h10 (by decide)
  simp at c3 c9
  obtain ⟨b, hb0⟩ : ∃ b, fitB c (R * R) = b := ⟨_, rfl⟩
  have HX := Lib.hid (And.intro h9 (And.intro h10 (And.intro hn0 hb0)))
  rw [hb0]
  clear h3 h9 h10 hn0 hb0
  go_enter Try.func31, Try.ntmps31
  cases b
  · go_wp2_with (go_at_call 32; refine (capMul_c 0 0 c _ _ R R _ HX.out.2.2.1 HX.out.2.2.1 hR hR).mono ?_; rintro e w1 ⟨x, rfl, hx, hb⟩; rw [HX.out.2.2.2] at hx ⊢; have hy : IsNat w.heap.size w1 x (0) := hx; obtain ⟨A, n, d, l, rfl, hy⟩ := hy; clear hx; have k9 := HX.out.1.keep hb; have k10 := HX.out.2.1.keep hb; have z9 := k9.lt; have z10 := k10.lt; have d9 := k9.cell 0; have d10 := k10.cell 0; have f9 := k9.frozen 0; have f10 := k10.frozen 0; simp at d9 d10; have HV := Lib.hid (And.intro hy (And.intro hb k10)); clear hy hb k9 k10)
    go_ret
    exact ⟨rfl, A, n, d, w1, HV.out.2.1, ⟨A, n, d, l, rfl, HV.out.1⟩, rfl⟩
  · go_wp2_with (go_at_call 32; refine (capMul_c 0 0 c _ _ R R _ HX.out.2.2.1 HX.out.2.2.1 hR hR).mono ?_; rintro e w1 ⟨x, rfl, hx, hb⟩; rw [HX.out.2.2.2] at hx ⊢; have hy : IsNat w.heap.size w1 x (R * R) := hx; obtain ⟨A, n, d, l, rfl, hy⟩ := hy; clear hx; have k9 := HX.out.1.keep hb; have k10 := HX.out.2.1.keep hb; have z9 := k9.lt; have z10 := k10.lt; have d9 := k9.cell 0; have d10 := k10.cell 0; have f9 := k9.frozen 0; have f10 := k10.frozen 0; simp at d9 d10; have HV := Lib.hid (And.intro hy (And.intro hb k10)); clear hy hb k9 k10)
    go_ret
    exact ⟨rfl, A, n, d, w1, HV.out.2.1, ⟨A, n, d, l, rfl, HV.out.1⟩, rfl⟩
end Go.Proofs.Ytfpjhohkaoodmaa
