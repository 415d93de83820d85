/- The document's numbers (package sieveholesref01), by contract: rows of bytes. trim, at, Cmp, Of. At most 100000 bytes. -/
import Derived.Test.YtjocobfabdkadaaNatw
namespace Go.Proofs.Ytjocobfabdkadaa
open Go.RowKit
attribute [local go_sem] alloc_drewN setCell_drewN
/-- The value v is a row of bytes that is the number N, without a nought at its end. -/
def IsByt (w : World) (v : Value) (N : Nat) : Prop := ∃ (A : Option Addr) (n c : Nat) (l : List Nat), v = .slice A n c ∧ Rw .u8 w A n l ∧ Lim 256 l N ∧ n ≤ c
theorem IsByt.keep {w w' : World} {v : Value} {N : Nat} (h : IsByt w v N) (hb : Below w.heap.size w w') : IsByt w' v N := by
  obtain ⟨A, n, c, l, h1, h2, h3⟩ := h
  exact ⟨A, n, c, l, h1, h2.keep hb, h3⟩
structure FitB (N s : Nat) : Prop where
  lt : N < 256 ^ s
theorem Lim.lenB {l : List Nat} {N s : Nat} (h : Lim 256 l N) (hN : FitB N s) : l.length ≤ s := by
  obtain ⟨h1, h2, h3⟩ := h
  subst h2
  by_cases hl : l = []
  · subst hl; simp
  · have h4 := lim_ge 256 (by omega) l h3 hl
    have h5 := Nat.lt_of_le_of_lt h4 hN.lt
    have h6 := (Nat.pow_lt_pow_iff_right (show 1 < 256 by omega)).1 h5
    omega
theorem pow_8 (k : Nat) : (18446744073709551616 : Nat) ^ k = 256 ^ (8 * k) := by
  rw [Nat.pow_mul]
theorem Fits.bytes {N s : Nat} (h : Fits N s) : FitB N (8 * s) := ⟨by rw [← pow_8]; exact h.lt⟩
theorem FitB.mono {N s t : Nat} (h : FitB N s) (hst : s ≤ t) : FitB N t := ⟨Nat.lt_of_lt_of_le h.lt (Nat.pow_le_pow_right (by omega) hst)⟩
theorem info8 : (Try.prog.info? 5).map (fun i => (i.zero, i.size, i.bytes)) = some (some (.int .u8 0), 1, 1) := by kernel_rfl
def OwnB (g : Nat) (w : World) (v : Value) (l : List Nat) : Prop := w.ownsRow g 5 1 v l.length (cellsOf .u8 l)
theorem OwnB.slice {g : Nat} {w : World} {v : Value} {l : List Nat} (h : OwnB g w v l) : ∃ A c, v = .slice A l.length c ∧ Rw .u8 w A l.length l ∧ l.length ≤ c := by
  rcases h.2 with ⟨rfl, h0⟩ | ⟨b, cap, cur, rfl, hb, hh, hcap, _⟩
  · have : l = [] := List.eq_nil_of_length_eq_zero h0
    subst this
    exact ⟨none, 0, rfl, Rw.nil _ _ _, Nat.le_refl _⟩
  · exact ⟨_, cap, rfl, Rw.of_own h, hcap⟩
set_option maxHeartbeats 4000000 in
theorem refTrim_c (A : Option Addr) (n c : Nat) (l : List Nat) (w : World) (hr : Rw .u8 w A n l) (hl : AllLt 256 l) (hn : n ≤ 100000) :
    Calls Try.prog 60 #[.slice A n c] w fun e w' => ∃ v, e = .returned v ∧ IsByt w' v (val 256 l) ∧ Below w.heap.size w w' := by
  have hlen := hr.1
  go_enter Try.func60, Try.ntmps60
  go_wp2_with (at_builtin; refine wpList_append_row (k := .u8) rfl _ _ rfl w.heap.size Try.underlying80 info8 rfl (by decide) (.slice none 0 0) [] l A n c rfl rfl (World.ownsRow_nil _ _ _ _) hr (by simp; omega) (by simp) ?_; intro v' w1 ho hg1 _; obtain ⟨A1, c1, rfl, hr1, hc1⟩ := (show OwnB w.heap.size w1 v' l from ho).slice; have HB := Lib.hid (And.intro ((Below.refl _ _).grown hg1 (Nat.le_refl _) (fun k hk => by simp [Value.ownBlock] at hk) : Below w.heap.size w w1) hr1); clear hg1 ho hr1 hr)
  go_loop [3] (fun u => ∃ m : Nat, u = .slice A1 m c1 ∧ m ≤ n ∧ trimLen (l.take m) = trimLen l) (fun u => sliceLen u)
  case atStart => exact ⟨n, rfl, Nat.le_refl _, by rw [← hlen, List.take_length]⟩
  case round =>
    obtain ⟨m, rfl, hm, ht⟩ := hrel
    by_cases h0 : m = 0
    · subst h0
      go_wp2
      go_ret
      simp at ht
      rw [show trimLen [] = 0 from rfl] at ht
      have h1 := val_trim 256 l
      rw [← ht] at h1
      exact ⟨_, rfl, by rw [← h1]; exact ⟨A1, 0, c1, [], rfl, Rw.nil _ _ _, Lim.nil _, Nat.zero_le _⟩, HB.out.1⟩
    · obtain ⟨k, rfl⟩ : ∃ k, m = k + 1 := ⟨m - 1, by omega⟩
      obtain ⟨b, off, x, rfl, hbl, hx, hc⟩ := HB.out.2.at_ (i := k) (by omega)
      have HT := Lib.hid (And.intro ht hx)
      clear ht hx
      have h1 : decide ((0 : Int) < (((k + 1 : Nat)) : Int)) = true := by simp <;> omega
      by_cases hx0 : x = 0
      · subst hx0
        go_wp2
        go_round
        case rel => exact ⟨k, by simp, by omega, by have := HT.out.1; rw [trimLen_take HT.out.2] at this; simpa using this⟩
        case measure => simp [sliceLen]
      · have h2 : ((x : Int) == 0) = false := beq_false_of_ne (by omega)
        go_wp2
        go_ret
        have := HT.out.1
        rw [trimLen_take HT.out.2, if_neg hx0] at this
        refine ⟨_, rfl, ⟨_, k + 1, c1, l.take (trimLen l), rfl, by rw [← this]; exact HB.out.2.take (by omega), Lim.trim hl, by omega⟩, HB.out.1⟩
end Go.Proofs.Ytjocobfabdkadaa
