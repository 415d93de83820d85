/- Small and Max of package nat, by contract: the number if it is one limb; the greatest of at most 100 numbers of at most 1000 limbs each. -/
import Derived.Test.YtdocpljgollcaaaNatw
namespace Go.Proofs.Ytdocpljgollcaaa
open Go.RowKit
attribute [local go_sem] alloc_drewN setCell_drewN
theorem lim_small {l : List Nat} {N : Nat} (h : Lim 18446744073709551616 l N) : (l = [] ∧ N = 0) ∨ (l = [N] ∧ N < 18446744073709551616) ∨ (2 ≤ l.length ∧ 18446744073709551616 ≤ N) := by
  match l, h with
  | [], h => exact .inl ⟨rfl, h.2.1.symm⟩
  | [x], h =>
    have h1 : val 18446744073709551616 [x] = N := h.2.1
    simp [val] at h1
    subst h1
    exact .inr (.inl ⟨rfl, h.1 x (List.mem_cons_self ..)⟩)
  | x :: y :: l, h =>
    refine .inr (.inr ⟨by simp, ?_⟩)
    have h1 := lim_ge 18446744073709551616 (by omega) (x :: y :: l) h.2.2 (by simp)
    rw [h.2.1] at h1
    have h2 : 18446744073709551616 ^ 1 ≤ 18446744073709551616 ^ ((x :: y :: l).length - 1) := Nat.pow_le_pow_right (by omega) (by simp)
    omega
set_option maxHeartbeats 1600000 in
theorem small_yes (v : Value) (N : Nat) (w : World) (hv : IsNat 0 w v N) (hN : N < 18446744073709551616) :
    Calls Try.prog 26 #[v] w fun e w' => e = .returned (.tuple #[.int .u64 N, .bool true]) ∧ Below w.heap.size w w' := by
  obtain ⟨A, n, c, l, rfl, hr, hl, _⟩ := hv
  rcases lim_small hl with ⟨rfl, rfl⟩ | ⟨rfl, _⟩ | ⟨_, h⟩
  · obtain rfl : 0 = n := hr.1
    clear hr hl
    go_enter Try.func26, Try.ntmps26
    go_wp2
    go_ret2
    exact ⟨rfl, (Below.refl _ _).alloc (Nat.le_refl _) _⟩
  · obtain rfl : 1 = n := hr.1
    obtain ⟨b, off, rfl, hb, hc⟩ := hr.2 (by decide)
    have hc0 := hc 0 N rfl
    rw [Nat.add_zero] at hc0
    have HN := Lib.hid hN
    clear hr hl hc hN
    go_enter Try.func26, Try.ntmps26
    go_wp2
    go_ret2
    exact ⟨rfl, (Below.refl _ _).alloc (Nat.le_refl _) _⟩
  · omega
set_option maxHeartbeats 1600000 in
theorem small_no (v : Value) (N : Nat) (w : World) (hv : IsNat 0 w v N) (hN : 18446744073709551616 ≤ N) :
    Calls Try.prog 26 #[v] w fun e w' => e = .returned (.tuple #[.int .u64 0, .bool false]) ∧ Below w.heap.size w w' := by
  obtain ⟨A, n, c, l, rfl, hr, hl, _⟩ := hv
  rcases lim_small hl with ⟨_, h⟩ | ⟨_, h⟩ | ⟨hn, _⟩
  · omega
  · omega
  · have h0 := hr.1
    have g0 : ((n : Int) == 0) = false := by simp <;> omega
    have g1 : ((n : Int) == 1) = false := by simp <;> omega
    clear hr hl hn h0 hN
    go_enter Try.func26, Try.ntmps26
    go_wp2
    go_ret2
    exact ⟨rfl, (Below.refl _ _).alloc (Nat.le_refl _) _⟩
def maxOf (Ns : List Nat) : Nat := Ns.foldl (fun a b => if a < b then b else a) 0
theorem maxOf_take {Ns : List Nat} {k N : Nat} (h : Ns[k]? = some N) : maxOf (Ns.take (k + 1)) = if maxOf (Ns.take k) < N then N else maxOf (Ns.take k) := by
  unfold maxOf
  obtain ⟨hk, rfl⟩ := List.getElem?_eq_some_iff.1 h
  rw [List.take_succ_eq_append_getElem hk, List.foldl_append]; rfl
theorem maxOf_fits {s : Nat} : ∀ (k : Nat) {Ns : List Nat}, (∀ N ∈ Ns, Fits N s) → k ≤ Ns.length → Fits (maxOf (Ns.take k)) s
  | 0, Ns, _, _ => ⟨by simp [maxOf]; exact Nat.pow_pos (by omega)⟩
  | k + 1, Ns, h, hk => by
    have hN : Ns[k]? = some Ns[k] := List.getElem?_eq_getElem (by omega)
    rw [maxOf_take hN]
    split
    · exact h _ (List.mem_of_getElem? hN)
    · exact maxOf_fits k h (by omega)
set_option maxHeartbeats 8000000 in
theorem max_c (s : Nat) (A : Option Addr) (n c : Nat) (Ns : List Nat) (w : World) (hr : NatsAt w.heap.size s w A n Ns) (hs : s ≤ 1000) (hn : n ≤ 100) :
    Calls Try.prog 28 #[.slice A n c] w fun e w' => ∃ v, e = .returned v ∧ IsNat w.heap.size w' v (maxOf Ns) ∧ Below w.heap.size w w' := by
  go_enter Try.func28, Try.ntmps28
  go_wp2
  go_loopw [8] (fun i w1 => ∃ (k m cc : Nat) (B : Option Addr) (l : List Nat), i = .int .i64 k ∧ k ≤ n ∧ m ≤ cc ∧ Rw .u64 w B m l ∧ Lim 18446744073709551616 l (maxOf (Ns.take k)) ∧ Bk w1 (w.heap.size + 1) 25 #[.slice B m cc] ∧ Bk w1 w.heap.size 25 #[.slice none 0 0] ∧ Below w.heap.size w w1) (fun i _ => n - (intOf i).toNat)
  case atStart => exact ⟨0, 0, 0, none, [], rfl, Nat.zero_le _, Nat.le_refl _, Rw.nil _ _ _, Lim.nil _, by have := Bk.new (w.alloc (.cells #[.slice none 0 0] 25)) 25 #[.slice none 0 0]; simpa using this, (Bk.new _ _ _).alloc _, ((Below.refl _ _).alloc (Nat.le_refl _) _).alloc (by simp) _⟩
  case round =>
    obtain ⟨k, m, cc, B, l, rfl, hk, hmc, hrw, hlim, hb3, hb2, hB⟩ := hrel
    have hz3 := hb3.lt
    have hfz := hb3.frozen 0
    have hcz := hb3.cell 0
    simp at hcz
    have hMf : Fits (maxOf (Ns.take k)) 1000 := (maxOf_fits k hr.2.1 (by rw [hr.1]; exact hk)).mono hs
    by_cases hlt : k < n
    · have h1 : decide ((k : Int) < (n : Int)) = true := by simp <;> omega
      obtain ⟨e1, e2, e3⟩ := hr
      obtain ⟨b, off, rfl, hbl, hc⟩ := e3 (by omega)
      have hN : Ns[k]? = some (Ns[k]'(by omega)) := List.getElem?_eq_getElem _
      have hmax := maxOf_take hN
      have hfit := (e2 _ (List.mem_of_getElem? hN)).mono hs
      generalize (Ns[k]'(by omega)) = N at hN hmax hfit
      generalize maxOf (Ns.take k) = M at *
      obtain ⟨B', m', c', l', hmc', hcell0, hrw0, hlim', hBb⟩ := hc k N hN
      have hcell := (hB.cell (p := ⟨b, off + k, none⟩) hbl).trans hcell0
      have hrw' := hrw0.keep hB
      have hi1 : IsNat 0 (wr.alloc (.cells #[.slice B' m' c'] 25)) (.agg #[.slice B' m' c']) N := (IsNat.alloc ⟨B', m', c', l', rfl, hrw', hlim', hmc', fun _ _ _ => Nat.zero_le _⟩ _)
      have hi2 : IsNat 0 (wr.alloc (.cells #[.slice B' m' c'] 25)) (.agg #[.slice B m cc]) M := (IsNat.alloc ⟨B, m, cc, l, rfl, hrw.keep hB, hlim, hmc, fun _ _ _ => Nat.zero_le _⟩ _)
      have hB1 := hB.alloc hB.size (.cells #[.slice B' m' c'] 25)
      obtain ⟨q, hq⟩ : ∃ q, cmpI N M = q := ⟨_, rfl⟩
      have HX := Lib.hid (And.intro hmax (And.intro hrw (And.intro hlim (And.intro hrw0 (And.intro hlim' (And.intro hi1 (And.intro hi2 (And.intro hB1 (And.intro (hb3.alloc (.cells #[.slice B' m' c'] 25)) (hb2.alloc (.cells #[.slice B' m' c'] 25)))))))))))
      have HQ := Lib.hid hq
      by_cases hgt : M < N
      · have hq1 : decide (0 < q) = true := by rw [← hq]; unfold cmpI; rw [if_neg (by omega), if_pos hgt]; decide
        clear hc hN e2 e3 hmax hlim hrw hrw' hlim' hrw0 hBb hb3 hb2 hB hi1 hi2 hB1 hq e1 hcell0
        go_wp2_with (go_at_call 10; refine (cmp_w HX.out.2.2.2.2.2.1 HX.out.2.2.2.2.2.2.1 hfit hMf HQ.out).mono ?_; rintro e w2 ⟨rfl, hb⟩; have hk3 := HX.out.2.2.2.2.2.2.2.2.1.keep hb; have hk2 := HX.out.2.2.2.2.2.2.2.2.2.keep hb; have hk5 := (Bk.new wr 25 #[.slice B' m' c']).keep hb; have hc3 := hk3.cell 0; have hc5 := hk5.cell 0; have hz33 := hk3.lt; have hz5 := hk5.lt; have hf3 := hk3.frozen 0; have hf5 := hk5.frozen 0; simp at hc3 hc5; have HK := Lib.hid (And.intro hk3 (And.intro hk2 hb)); clear hk3 hk2 hk5 hb)
        obtain ⟨hmax, hrw, hlim, hrw0, hlim', hi1, hi2, hB1, hb3, hb2⟩ := HX.out
        obtain ⟨hk3, hk2, hb⟩ := HK.out
        go_roundw
        case rel => exact ⟨k + 1, m', c', B', l', by go_num, by omega, hmc', hrw0, by rw [hmax, if_pos hgt]; exact hlim', by have := hk3.put 0 (.slice B' m' c'); simpa using this, hk2.far (by simp <;> omega) _, (hB1.trans (hb.mono hB1.size)).setCell (by simp) _⟩
        case measure => simp [intOf] <;> omega
      · have hq1 : decide (0 < q) = false := by rw [← hq]; unfold cmpI; rw [if_neg hgt]; split <;> decide
        clear hc hN e2 e3 hmax hlim hrw hrw' hlim' hrw0 hBb hb3 hb2 hB hi1 hi2 hB1 hq e1 hcell0
        go_wp2_with (go_at_call 10; refine (cmp_w HX.out.2.2.2.2.2.1 HX.out.2.2.2.2.2.2.1 hfit hMf HQ.out).mono ?_; rintro e w2 ⟨rfl, hb⟩; have HK := Lib.hid hb; clear hb)
        obtain ⟨hmax, hrw, hlim, hrw0, hlim', hi1, hi2, hB1, hb3, hb2⟩ := HX.out
        have hb := HK.out
        go_roundw
        case rel => exact ⟨k + 1, m, cc, B, l, by go_num, by omega, hmc, hrw, by rw [hmax, if_neg hgt]; exact hlim, hb3.keep hb, hb2.keep hb, hB1.trans (hb.mono hB1.size)⟩
        case measure => simp [intOf] <;> omega
    · obtain rfl : k = n := by omega
      have h1 : decide ((k : Int) < (k : Int)) = false := by simp
      rw [show Ns.take k = Ns by rw [← hr.1, List.take_length]] at hlim hMf
      have hi : IsNat 0 wr (.agg #[.slice B m cc]) (maxOf Ns) := ⟨B, m, cc, l, rfl, hrw.keep hB, hlim, hmc, fun _ _ _ => Nat.zero_le _⟩
      have HX := Lib.hid (And.intro hi (And.intro hB hb2))
      clear hr hrw hlim hi hB hb2
      go_wp2_with (first
        | (go_at_call 29; refine (all_c 0 _ _ _ HX.out.1 (hMf.mono (by decide))).mono ?_; rintro e w2 ⟨u2, l2, rfl, ho, hlim2, hb⟩; obtain ⟨Ao, co, rfl, hro, hco, hgo⟩ := ho.slice; have hln := hlim2.len hMf; have HO := Lib.hid (And.intro hro (And.intro hlim2 (And.intro hgo hb))); clear ho hro hlim2 hgo hb)
        | (go_at_call 30; refine (own_c wr.heap.size _ _ _ l2 _ HO.out.1 HO.out.2.1.1 (by omega) hco HO.out.2.2.1).mono ?_; rintro e w3 ⟨v, rfl, hv, hb⟩; rw [HO.out.2.1.2.1] at hv; have hb23 : Below wr.heap.size wr w3 := HO.out.2.2.2.trans (hb.mono HO.out.2.2.2.size); have hk2 := HX.out.2.2.keep hb23; have hB2 := HX.out.2.1.trans (hb23.mono HX.out.2.1.size); obtain ⟨A2, m2, c2, l3, rfl, hv⟩ := hv; have HV := Lib.hid (And.intro hv hB2); clear hv hb hb23 hB2; have hf2 := hk2.frozen 0; have hc2 := hk2.cell 0; have hz2 := hk2.lt; simp at hc2))
      refine bodyPost_ret (v := .agg #[.slice A2 m2 c2]) (by simp [results, Try.results28, go_sem, hk2.res1]) rfl ⟨_, rfl, ?_, HV.out.2.setCell (Nat.le_refl _) _⟩
      have : IsNat wr.heap.size w3 (.agg #[.slice A2 m2 c2]) (maxOf Ns) := ⟨A2, m2, c2, l3, rfl, HV.out.1⟩
      exact (this.far (by simp; omega)).mono (by omega)
section
variable {w : World} {s : Nat}
theorem max0_w (w : World) : Calls Try.prog 28 #[.slice none 0 0] w fun e w' => ∃ x, e = .returned x ∧ IsNat 0 w' x 0 ∧ Below w.heap.size w w' :=
  (max_c 0 none 0 0 [] w ⟨rfl, (fun _ h => by cases h), fun h => absurd h (by omega)⟩ (by decide) (by decide)).mono fun _ _ ⟨x, h1, h2, h3⟩ => ⟨x, h1, h2.mono (Nat.zero_le _), h3⟩
end
end Go.Proofs.Ytdocpljgollcaaa
