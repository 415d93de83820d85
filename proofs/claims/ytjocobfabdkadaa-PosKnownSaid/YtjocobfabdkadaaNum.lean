/- Rows of words in memory, and what a number's limbs are worth: plain words and laws, and the first contracts (trim, own, Of, Limbs, All, Len). A row of at most 100000 words. -/
import Derived.Test.YtjocobfabdkadaaBase
import Derived.Laws.OwnMore
import Derived.Deep.AppendLies
import Derived.Maps.AppendAt
import Derived.OwnWalk
import Derived.Lib.Hide
namespace Go.Proofs.Ytjocobfabdkadaa
open Go.RowKit
/-- The row of n words of kind k from A on reads as the list l. -/
def Rw (k : IntKind) (w : World) (A : Option Addr) (n : Nat) (l : List Nat) : Prop :=
  l.length = n ∧ (0 < n → ∃ b off, A = some ⟨b, off, none⟩ ∧ b < w.heap.size ∧ ∀ (i x : Nat), l[i]? = some x → w.cell? ⟨b, off + i, none⟩ = some (.int k x))
section
variable {k : IntKind} {w w' : World} {A : Option Addr} {n : Nat} {l : List Nat}
theorem Rw.nil (k : IntKind) (w : World) (A : Option Addr) : Rw k w A 0 [] := ⟨rfl, fun h => absurd h (by omega)⟩
theorem Rw.keep (h : Rw k w A n l) (hb : Below w.heap.size w w') : Rw k w' A n l :=
  ⟨h.1, fun hn => by
    obtain ⟨b, off, e, hl, hc⟩ := h.2 hn
    exact ⟨b, off, e, Nat.lt_of_lt_of_le hl hb.size, fun i x hx => (hb.cell (p := ⟨b, off + i, none⟩) hl).trans (hc i x hx)⟩⟩
theorem Rw.drewN (h : Rw k w A n l) (m : Nat) : Rw k (w.drewN m) A n l := h
theorem Rw.alloc (h : Rw k w A n l) (o : Obj) : Rw k (w.alloc o) A n l := h.keep ((Below.refl _ _).alloc (Nat.le_refl _) _)
theorem Rw.at_ {i : Nat} (h : Rw k w A n l) (hi : i < n) : ∃ b off x, A = some ⟨b, off, none⟩ ∧ b < w.heap.size ∧ l[i]? = some x ∧ w.cell? ⟨b, off + i, none⟩ = some (.int k x) := by
  obtain ⟨b, off, e, hl, hc⟩ := h.2 (by omega)
  have hx : l[i]? = some (l[i]'(by have := h.1; omega)) := List.getElem?_eq_getElem _
  exact ⟨b, off, _, e, hl, hx, hc i _ hx⟩
theorem Rw.take (h : Rw k w A n l) {m : Nat} (hm : m ≤ n) : Rw k w A m (l.take m) :=
  ⟨by rw [List.length_take, h.1]; omega, fun hn => by
    obtain ⟨b, off, e, hl, hc⟩ := h.2 (by omega)
    refine ⟨b, off, e, hl, fun i x hx => hc i x ?_⟩
    rw [List.getElem?_take] at hx
    split at hx
    · exact hx
    · cases hx⟩
def cellsOf (k : IntKind) (l : List Nat) : List Value := l.map fun (x : Nat) => .int k (x : Int)
theorem plainAddr (b off j : Nat) : (⟨b, off, none⟩ : Addr).add j = ⟨b, off + j, none⟩ := by
  unfold Addr.add; split
  · rename_i h; subst h; rfl
  · rfl
/-- A row of the call's own reads, too. -/
theorem Rw.of_own {base : Nat} {e : TypeId} {c : Nat} (h : w.ownsRow base e 1 (.slice A n c) n (cellsOf k l)) : Rw k w A n l := by
  have hl : l.length = n := by have := h.1; simpa [cellsOf] using this
  refine ⟨hl, fun hn => ?_⟩
  obtain ⟨g, cap, hv, _, hlt⟩ := h.form hn
  have hA : A = some ⟨g, 0, none⟩ := by injection hv
  subst hA
  refine ⟨g, 0, rfl, hlt, fun i x hx => ?_⟩
  have := h.cells (g := g) rfl i (.int k x) (by simp [cellsOf, hx])
  rwa [plainAddr] at this
end

/-! ### What limbs are worth -/
def val (b : Nat) : List Nat → Nat
  | [] => 0
  | x :: l => x + b * val b l
theorem val_append (b : Nat) : ∀ l m : List Nat, val b (l ++ m) = val b l + b ^ l.length * val b m
  | [], m => by simp [val]
  | x :: l, m => by
    simp only [List.cons_append, val, val_append b l m, List.length_cons, Nat.pow_succ]
    rw [Nat.mul_add, Nat.add_assoc, Nat.mul_comm (b ^ l.length) b, Nat.mul_assoc]
def AllLt (b : Nat) (l : List Nat) : Prop := ∀ x ∈ l, x < b
theorem AllLt.at_ {b i x : Nat} {l : List Nat} (h : AllLt b l) (hx : l[i]? = some x) : x < b := h x (List.mem_of_getElem? hx)
theorem val_lt (b : Nat) (hb : 0 < b) : ∀ l : List Nat, AllLt b l → val b l < b ^ l.length
  | [], _ => by simp [val]
  | x :: l, h => by
    have h1 := val_lt b hb l fun y hy => h y (List.mem_cons_of_mem _ hy)
    have h2 := h x (List.mem_cons_self ..)
    simp only [val, List.length_cons, Nat.pow_succ]
    have h3 : b * (val b l + 1) ≤ b * b ^ l.length := Nat.mul_le_mul_left b h1
    rw [Nat.mul_add, Nat.mul_one] at h3
    rw [Nat.mul_comm (b ^ l.length) b]
    omega
theorem val_take_succ (b : Nat) {l : List Nat} {i x : Nat} (hx : l[i]? = some x) : val b (l.take (i + 1)) = val b (l.take i) + b ^ i * x := by
  obtain ⟨hi, rfl⟩ := List.getElem?_eq_some_iff.1 hx
  rw [List.take_succ_eq_append_getElem hi, val_append, List.length_take, Nat.min_eq_left (Nat.le_of_lt hi)]
  simp [val]
theorem val_zeros (b n : Nat) : val b (List.replicate n 0) = 0 := by
  induction n with
  | zero => rfl
  | succ n ih => simp [List.replicate_succ, val, ih]
/-- How many are left without the noughts at the end. -/
def trimLen : List Nat → Nat
  | [] => 0
  | x :: l => if trimLen l = 0 then (if x = 0 then 0 else 1) else trimLen l + 1
theorem trimLen_le : ∀ l : List Nat, trimLen l ≤ l.length
  | [] => Nat.le_refl _
  | x :: l => by
    have := trimLen_le l
    simp only [trimLen, List.length_cons]
    split
    · split <;> omega
    · omega
theorem trimLen_snoc : ∀ (l : List Nat) (x : Nat), trimLen (l ++ [x]) = if x = 0 then trimLen l else l.length + 1
  | [], x => by simp [trimLen]
  | y :: l, x => by
    simp only [List.cons_append, trimLen, trimLen_snoc l x, List.length_cons]
    by_cases hx : x = 0
    · simp [hx]
    · simp [hx]
theorem trimLen_take {l : List Nat} {i x : Nat} (hx : l[i]? = some x) : trimLen (l.take (i + 1)) = if x = 0 then trimLen (l.take i) else i + 1 := by
  obtain ⟨hi, rfl⟩ := List.getElem?_eq_some_iff.1 hx
  rw [List.take_succ_eq_append_getElem hi, trimLen_snoc, List.length_take, Nat.min_eq_left (Nat.le_of_lt hi)]
theorem val_trim (b : Nat) : ∀ l : List Nat, val b (l.take (trimLen l)) = val b l
  | [] => rfl
  | x :: l => by
    have ih := val_trim b l
    simp only [trimLen]
    by_cases h : trimLen l = 0
    · rw [h] at ih
      simp only [List.take_zero, val] at ih
      rw [if_pos h]
      by_cases hx : x = 0
      · simp [hx, val, ← ih]
      · simp [hx, val, ← ih]
    · rw [if_neg h, List.take_succ_cons, val, val, ih]
/-- The limbs, to the base b, of the number N: none of them too great, no nought at the end. -/
def Lim (b : Nat) (l : List Nat) (N : Nat) : Prop := AllLt b l ∧ val b l = N ∧ trimLen l = l.length
theorem trimLen_trim : ∀ l : List Nat, trimLen (l.take (trimLen l)) = trimLen l
  | [] => rfl
  | x :: l => by
    have ih := trimLen_trim l
    simp only [trimLen]
    by_cases h : trimLen l = 0
    · rw [if_pos h]
      by_cases hx : x = 0
      · simp [hx, trimLen]
      · simp [hx, trimLen]
    · rw [if_neg h, List.take_succ_cons]
      simp only [trimLen, ih, if_neg h]
theorem AllLt.take {b : Nat} {l : List Nat} (h : AllLt b l) (i : Nat) : AllLt b (l.take i) := fun x hx => h x (List.mem_of_mem_take hx)
theorem Lim.trim {b : Nat} {l : List Nat} (h : AllLt b l) : Lim b (l.take (trimLen l)) (val b l) :=
  ⟨h.take _, val_trim b l, by rw [trimLen_trim, List.length_take, Nat.min_eq_left (trimLen_le l)]⟩
theorem Lim.nil (b : Nat) : Lim b [] 0 := ⟨fun _ h => (by cases h), rfl, rfl⟩
theorem Lim.zero {b : Nat} {l : List Nat} {N : Nat} (h : Lim b l N) : l.length = 0 ↔ N = 0 := by
  obtain ⟨h1, h2, h3⟩ := h
  constructor
  · intro hl
    cases l with
    | nil => exact h2.symm
    | cons x l => simp at hl
  · intro hN
    subst hN
    suffices ∀ l : List Nat, val b l = 0 → trimLen l = l.length → 0 < b → l.length = 0 by
      by_cases hb : 0 < b
      · exact this l h2 h3 hb
      · cases l with
        | nil => rfl
        | cons x l => exact absurd (h1 x (List.mem_cons_self ..)) (by omega)
    intro l
    induction l with
    | nil => intros; rfl
    | cons x l ih =>
      intro hv ht hb
      simp only [val] at hv
      have hx : x = 0 := by omega
      have hl : val b l = 0 := by
        have : b * val b l = 0 := by omega
        rcases Nat.mul_eq_zero.1 this with h | h
        · omega
        · exact h
      simp only [trimLen, List.length_cons] at ht
      by_cases h0 : trimLen l = 0
      · rw [if_pos h0, if_pos hx] at ht; omega
      · rw [if_neg h0] at ht
        have := ih hl (by omega) hb
        have := trimLen_le l
        omega
theorem Lim.unique {b : Nat} : ∀ {l m : List Nat} {N : Nat}, Lim b l N → Lim b m N → l = m
  | [], m, N, h, h' => by
    have h0 := (h.zero).1 rfl
    have := h'.zero.2 h0
    exact (List.eq_nil_of_length_eq_zero this).symm
  | x :: l, [], N, h, h' => by
    have h0 := (h'.zero).1 rfl
    have := h.zero.2 h0
    simp at this
  | x :: l, y :: m, N, h, h' => by
    obtain ⟨h1, h2, h3⟩ := h
    obtain ⟨k1, k2, k3⟩ := h'
    have hx := h1 x (List.mem_cons_self ..)
    have hy := k1 y (List.mem_cons_self ..)
    simp only [val] at h2 k2
    have hxy : x = y := by
      have e1 : N % b = x := by rw [← h2, Nat.add_mul_mod_self_left, Nat.mod_eq_of_lt hx]
      have e2 : N % b = y := by rw [← k2, Nat.add_mul_mod_self_left, Nat.mod_eq_of_lt hy]
      rw [← e1, e2]
    have hlm : val b l = val b m := by
      have : b * val b l = b * val b m := by omega
      exact Nat.eq_of_mul_eq_mul_left (by omega) this
    have tl : ∀ (z : Nat) (s : List Nat), trimLen (z :: s) = (z :: s).length → trimLen s = s.length := by
      intro z s hs
      simp only [trimLen, List.length_cons] at hs
      by_cases h0 : trimLen s = 0
      · rw [if_pos h0] at hs
        split at hs <;> omega
      · rw [if_neg h0] at hs; omega
    have := Lim.unique (b := b) (l := l) (m := m) (N := val b l) ⟨fun z hz => h1 z (List.mem_cons_of_mem _ hz), rfl, tl x l h3⟩ ⟨fun z hz => k1 z (List.mem_cons_of_mem _ hz), hlm.symm, tl y m k3⟩
    rw [hxy, this]
theorem lim_ge (b : Nat) (hb : 0 < b) : ∀ l : List Nat, trimLen l = l.length → l ≠ [] → b ^ (l.length - 1) ≤ val b l
  | [], _, h => absurd rfl h
  | x :: l, ht, _ => by
    have hlen : (x :: l).length - 1 = l.length := by simp
    rw [hlen]
    simp only [trimLen, List.length_cons] at ht
    by_cases h0 : trimLen l = 0
    · rw [if_pos h0] at ht
      have hl0 : l.length = 0 := by split at ht <;> omega
      have : l = [] := List.eq_nil_of_length_eq_zero hl0
      subst this
      have hx : x ≠ 0 := by intro hx; simp [hx] at ht
      simp [val]; omega
    · rw [if_neg h0] at ht
      have hne : l ≠ [] := by intro e; subst e; exact h0 rfl
      have h1 := lim_ge b hb l (by omega) hne
      have hl1 : l.length = (l.length - 1) + 1 := by
        cases l with
        | nil => exact absurd rfl hne
        | cons y m => simp
      rw [hl1, Nat.pow_succ, val, Nat.mul_comm]
      have := Nat.mul_le_mul_left b h1
      omega
theorem Lim.lt_of_len {b : Nat} (hb : 1 < b) {l m : List Nat} {N M : Nat} (h : Lim b l N) (h' : Lim b m M) (hlm : l.length < m.length) : N < M := by
  have h1 := val_lt b (by omega) l h.1
  have h2 := lim_ge b (by omega) m h'.2.2 (by intro e; subst e; simp at hlm)
  rw [h.2.1] at h1
  rw [h'.2.1] at h2
  have h3 : b ^ l.length ≤ b ^ (m.length - 1) := Nat.pow_le_pow_right (by omega) (by omega)
  omega
theorem val_lt_at {b i x y : Nat} (hb : 0 < b) {l m : List Nat} (hl : AllLt b l) (hx : l[i]? = some x) (hy : m[i]? = some y) (hd : l.drop (i + 1) = m.drop (i + 1)) (hxy : x < y) : val b l < val b m := by
  have hil := (List.getElem?_eq_some_iff.1 hx).1
  have him := (List.getElem?_eq_some_iff.1 hy).1
  have e1 := val_append b (l.take (i + 1)) (l.drop (i + 1))
  have e2 := val_append b (m.take (i + 1)) (m.drop (i + 1))
  rw [List.take_append_drop, List.length_take, Nat.min_eq_left (by omega), val_take_succ b hx] at e1
  rw [List.take_append_drop, List.length_take, Nat.min_eq_left (by omega), val_take_succ b hy, ← hd] at e2
  have h1 := val_lt b hb (l.take i) (hl.take i)
  rw [List.length_take, Nat.min_eq_left (by omega)] at h1
  have h2 : b ^ i * (x + 1) ≤ b ^ i * y := Nat.mul_le_mul_left _ hxy
  rw [Nat.mul_add, Nat.mul_one] at h2
  omega
/-- How two numbers compare. -/
def cmpI (N M : Nat) : Int := if N < M then -1 else if M < N then 1 else 0
end Go.Proofs.Ytjocobfabdkadaa
