/- The contracts of package nat, as the laws' walks want them: at most 1000 limbs; what numbers and rows lie in slots and boxes. Plain; and works, the chapter's examples. -/
import Derived.Test.YtjocobfabdkadaaCap
import Derived.Test.YtjocobfabdkadaaRegion
namespace Go.Proofs.Ytjocobfabdkadaa
open Go.RowKit
attribute [local go_sem] alloc_drewN setCell_drewN
/-- A slot holds the number N. -/
def num (N : Nat) : StP := ⟨fun u w => ∃ x, u = x ∧ IsNat 0 w x N, fun _ _ _ hb ⟨x, h1, h2⟩ => ⟨x, h1, h2.keep hb⟩⟩
/-- A slot holds a row of n limbs, which reads as l. -/
def row (n : Nat) (l : List Nat) : StP := ⟨fun u w => ∃ A c, u = .slice A n c ∧ Rw .u64 w A n l, fun _ _ _ hb ⟨A, c, h1, h2⟩ => ⟨A, c, h1, h2.keep hb⟩⟩
section
variable {P : Program} {ops : Array Oper} {Q : Exit → Act → World → Prop} {a0 : Act} {w0 : World} {ds : List Nat} {nt : Nat} {sp : List (Nat × StP)} {t : Nat} {todo : List Nat}
theorem RegW.num {N : Nat} (i : Nat) (hi : sp.length = i) (h : OpH P ops Q a0 w0 ds sp i t (num N)) (r : RegW P ops Q a0 w0 ds nt ((t, num N) :: sp) todo) : RegW P ops Q a0 w0 ds nt sp (t :: todo) := RegW.op i hi _ h r
theorem RegW.row {n : Nat} {l : List Nat} (i : Nat) (hi : sp.length = i) (h : OpH P ops Q a0 w0 ds sp i t (row n l)) (r : RegW P ops Q a0 w0 ds nt ((t, row n l) :: sp) todo) : RegW P ops Q a0 w0 ds nt sp (t :: todo) := RegW.op i hi _ h r
end
/-- Block g is a variable that holds the number N. -/
def BoxN (w : World) (g N : Nat) : Prop := ∃ s, Bk w g 76 #[s] ∧ IsNat 0 w (.agg #[s]) N
theorem BoxN.keep {w w' : World} {g N : Nat} (h : BoxN w g N) (hb : Below w.heap.size w w') : BoxN w' g N := by
  obtain ⟨s, h1, h2⟩ := h
  exact ⟨s, h1.keep hb, h2.keep hb⟩
theorem fits_le {N s t : Nat} (h : Fits N s) (hst : s ≤ t) : Fits N t := h.mono hst
theorem fits_add {N M s t : Nat} (h : Fits N s) (h' : Fits M t) : Fits (N + M) (max s t + 1) := (h.mono (Nat.le_max_left _ _)).add (h'.mono (Nat.le_max_right _ _))
theorem fits_mul {N M s t : Nat} (h : Fits N s) (h' : Fits M t) : Fits (N * M) (s + t) := h.mul h'
theorem fits0 : Fits 0 0 := ⟨by decide⟩
theorem fits1 : Fits 1 1 := ⟨by decide⟩
theorem fitsTop : Fits 18446744073709551615 1 := ⟨by decide⟩
section
variable {u v : Value} {N M : Nat} {w : World}
theorem of_w (x : Nat) (w : World) (hx : x < 18446744073709551616) : Calls Try.prog 45 #[.int .u64 x] w fun e w' => ∃ v, e = .returned v ∧ IsNat 0 w' v x ∧ Below w.heap.size w w' :=
  (of_c x w hx).mono fun _ _ ⟨v, h1, h2, h3⟩ => ⟨v, h1, h2.mono (Nat.zero_le _), h3⟩
theorem cmp0 (h : N = M) : cmpI N M = 0 := by subst h; simp [cmpI]
theorem len_w {l : List Nat} (hu : IsNat 0 w u N) (hl : Lim 18446744073709551616 l N) : Calls Try.prog 55 #[u] w fun e w' => e = .returned (.int .i64 l.length) ∧ Below w.heap.size w w' :=
  (len_c _ _ N w hu).mono fun _ _ ⟨⟨l', h1, h2⟩, h3⟩ => ⟨by rw [h1, h2.unique hl], h3⟩
theorem all_w {n : Nat} {l : List Nat} (hu : IsNat 0 w u N) (hN : Fits N 1000) (hl : Lim 18446744073709551616 l N ∧ l.length = n) : Calls Try.prog 57 #[u] w fun e w' => ∃ A c, e = .returned (.slice A n c) ∧ Rw .u64 w' A n l ∧ Below w.heap.size w w' :=
  (all_c _ _ N w hu (hN.mono (by decide))).mono fun _ _ ⟨x, l', h1, h2, h3, h4⟩ => by
    obtain rfl := h3.unique hl.1
    obtain ⟨rfl⟩ := hl.2
    obtain ⟨A, c, rfl, h5, _⟩ := h2.slice
    exact ⟨A, c, h1, h5, h4⟩
end
end Go.Proofs.Ytjocobfabdkadaa
