/- Caps of package nat, by contract: Fits, under, Add, Mul. Numbers of at most 2000 limbs; any cap. -/
import Derived.Test.YtjocobfabdkadaaLimb
namespace Go.Proofs.Ytjocobfabdkadaa
open Go.RowKit
attribute [local go_sem] alloc_drewN setCell_drewN
end Go.Proofs.Ytjocobfabdkadaa
namespace Go.Proofs.Ytjocobfabdkadaa
open Go.RowKit
attribute [local go_sem] alloc_drewN setCell_drewN
/-! ### The plain law of adding -/
theorem val_set (b : Nat) {l : List Nat} {i x : Nat} (y : Nat) (hx : l[i]? = some x) : val b (l.set i y) + b ^ i * x = val b l + b ^ i * y := by
  have hi := (List.getElem?_eq_some_iff.1 hx).1
  have h1 := val_append b (l.take (i + 1)) (l.drop (i + 1))
  have h2 := val_append b ((l.set i y).take (i + 1)) ((l.set i y).drop (i + 1))
  rw [List.take_append_drop] at h1 h2
  rw [val_take_succ b hx, List.length_take, Nat.min_eq_left (by omega)] at h1
  rw [val_take_succ b (x := y) (by simp [hi]), List.length_take, List.length_set, Nat.min_eq_left (by omega), List.take_set_of_le (Nat.le_refl _), List.drop_set_of_lt (by omega)] at h2
  omega
theorem AllLt.set {b : Nat} {l : List Nat} (h : AllLt b l) {i y : Nat} (hy : y < b) : AllLt b (l.set i y) := fun x hx => by
  rcases List.mem_or_eq_of_mem_set hx with h1 | h1
  · exact h x h1
  · omega
theorem AllLt.snoc {b : Nat} {l : List Nat} (h : AllLt b l) {y : Nat} (hy : y < b) : AllLt b (l ++ [y]) := fun x hx => by
  rcases List.mem_append.1 hx with h1 | h1
  · exact h x h1
  · simp at h1; omega
theorem val_snoc0 (b : Nat) (l : List Nat) : val b (l ++ [0]) = val b l := by simp [val_append, val]
theorem drop_at {l m : List Nat} {k : Nat} (h : l.drop k = m.drop k) : l[k]? = m[k]? := by
  have := congrArg (fun t : List Nat => t[0]?) h
  simpa using this
theorem drop_next {l m : List Nat} {k s : Nat} (h : l.drop k = m.drop k) : (l.set k s).drop (k + 1) = m.drop (k + 1) := by
  rw [List.drop_set_of_lt (by omega)]
  have := congrArg (List.drop 1) h
  simpa [List.drop_drop, Nat.add_comm] using this
theorem add_step {b k x y s d d' : Nat} {r r2 m : List Nat} (hx : m[k]? = some x) (hy : r2[k]? = some y) (hd : r2.drop k = r.drop k) (hs : s + b * d' = y + x + d)
    (hv : val b (r2.take k) + b ^ k * d = val b (r.take k) + val b (m.take k)) :
    val b ((r2.set k s).take (k + 1)) + b ^ (k + 1) * d' = val b (r.take (k + 1)) + val b (m.take (k + 1)) := by
  have hk := (List.getElem?_eq_some_iff.1 hy).1
  rw [val_take_succ b (x := s) (by simp [hk]), List.take_set_of_le (Nat.le_refl _), val_take_succ b (hy ▸ (drop_at hd).symm : r[k]? = some y), val_take_succ b hx, Nat.pow_succ, Nat.mul_assoc]
  have h1 : b ^ k * (s + b * d') = b ^ k * (y + x + d) := by rw [hs]
  simp only [Nat.mul_add] at h1
  omega
theorem add_end {b n d : Nat} {r r2 m : List Nat} (hm : m.length = n) (hl : r2.length = r.length) (hn : n ≤ r.length) (hd : r2.drop n = r.drop n) (hv : val b (r2.take n) + b ^ n * d = val b (r.take n) + val b (m.take n)) :
    val b r2 + b ^ n * d = val b r + val b m := by
  have h1 := val_append b (r2.take n) (r2.drop n)
  have h2 := val_append b (r.take n) (r.drop n)
  rw [List.take_append_drop, List.length_take, Nat.min_eq_left (by omega)] at h1 h2
  rw [hd] at h1
  rw [← hm, List.take_length, hm] at hv
  omega
def sliceLen : Value → Nat
  | .slice _ n _ => n
  | _ => 0
theorem Rw.low {k : IntKind} {g n : Nat} {w w' : World} {A : Option Addr} {l : List Nat} (h : Rw k w A n l) (hA : 0 < n → ∀ b off, A = some ⟨b, off, none⟩ → b < g) (hb : Below g w w') : Rw k w' A n l :=
  ⟨h.1, fun hn => by
    obtain ⟨b, off, e, hl, hc⟩ := h.2 hn
    have := hA hn b off e
    exact ⟨b, off, e, Nat.lt_of_lt_of_le hl hb.size, fun i x hx => (hb.cell (p := ⟨b, off + i, none⟩) this).trans (hc i x hx)⟩⟩
theorem rw_new {k : IntKind} (w : World) (x : Nat) (t : TypeId) : Rw k (w.alloc (.cells #[.int k x] t)) (some ⟨w.heap.size, 0, none⟩) 1 [x] := by
  refine ⟨rfl, fun _ => ⟨w.heap.size, 0, rfl, by simp, fun i y hy => ?_⟩⟩
  have h0 : i = 0 := by
    have := (List.getElem?_eq_some_iff.1 hy).1
    simp at this; exact this
  subst h0
  simp at hy
  subst hy
  simp
theorem Own.len {g : Nat} {w : World} {v : Value} {l : List Nat} (h : Own g w v l) : sliceLen v = l.length := by
  obtain ⟨A, c, rfl, _⟩ := h.slice
  rfl
/-- A store into a row of the call's own. -/
theorem Own.put {g gb n cap : Nat} {w : World} {l : List Nat} (h : w.ownsRow g 78 1 (.slice (some ⟨gb, 0, none⟩) n cap) n (cellsOf .u64 l)) (k s : Nat) :
    (w.setCell ⟨gb, k, none⟩ (.int .u64 s)).ownsRow g 78 1 (.slice (some ⟨gb, 0, none⟩) n cap) n (cellsOf .u64 (l.set k s)) := by
  have := (h.stored k (.int .u64 s)).1
  rwa [show (cellsOf .u64 l).set k (.int .u64 s) = cellsOf .u64 (l.set k s) by simp [cellsOf, List.map_set]] at this
/-- A store elsewhere. -/
theorem Own.far {g gb n cap : Nat} {w : World} {l : List Nat} (h : w.ownsRow g 78 1 (.slice (some ⟨gb, 0, none⟩) n cap) n (cellsOf .u64 l)) {p : Addr} (hp : p.block ≠ gb) (u : Value) :
    (w.setCell p u).ownsRow g 78 1 (.slice (some ⟨gb, 0, none⟩) n cap) n (cellsOf .u64 l) :=
  h.kept (row := some p.block) ⟨rfl, rfl, rfl, by simp, fun k _ hk => Below.heap_setCell w p u k (fun e => hk (by rw [e]))⟩ (.inr (by simp [Value.ownBlock]; exact fun e => hp e.symm))
theorem Own.at_ {g gb n cap k : Nat} {w : World} {l : List Nat} (h : w.ownsRow g 78 1 (.slice (some ⟨gb, 0, none⟩) n cap) n (cellsOf .u64 l)) (hk : k < n) :
    ∃ y, l[k]? = some y ∧ w.cell? ⟨gb, k, none⟩ = some (.int .u64 y) ∧ w.frozen? ⟨gb, k, none⟩ = false := by
  have hl : l.length = n := by have := h.1; simpa [cellsOf] using this
  have hx : l[k]? = some (l[k]'(by omega)) := List.getElem?_eq_getElem _
  refine ⟨_, hx, ?_, h.frozenAt k⟩
  rw [h.cellAt k (by omega)]
  simp [cellsOf, hx]
/-- A row of numbers: the list of what they are. Their limbs lie below block g; none has more than s limbs. -/
def NatsAt (g s : Nat) (w : World) (A : Option Addr) (n : Nat) (Ns : List Nat) : Prop :=
  Ns.length = n ∧ (∀ N ∈ Ns, Fits N s) ∧ (0 < n → ∃ b off, A = some ⟨b, off, none⟩ ∧ b < g ∧ ∀ (i N : Nat), Ns[i]? = some N → ∃ (B : Option Addr) (m c : Nat) (l : List Nat), m ≤ c ∧ w.cell? ⟨b, off + i, none⟩ = some (.slice B m c) ∧ Rw .u64 w B m l ∧ Lim 18446744073709551616 l N ∧ (0 < m → ∀ b off, B = some ⟨b, off, none⟩ → b < g))
theorem NatsAt.low {g s n : Nat} {w w' : World} {A : Option Addr} {Ns : List Nat} (h : NatsAt g s w A n Ns) (hb : Below g w w') : NatsAt g s w' A n Ns := by
  obtain ⟨h1, h2, h3⟩ := h
  refine ⟨h1, h2, fun hn => ?_⟩
  obtain ⟨b, off, e, hl, hc⟩ := h3 hn
  refine ⟨b, off, e, hl, fun i N hN => ?_⟩
  obtain ⟨B, m, c, l, k0, k1, k2, k3, k4⟩ := hc i N hN
  exact ⟨B, m, c, l, k0, (hb.cell (p := ⟨b, off + i, none⟩) hl).trans k1, k2.low k4 hb, k3, k4⟩
theorem NatsAt.up {g g' s n : Nat} {w : World} {A : Option Addr} {Ns : List Nat} (h : NatsAt g s w A n Ns) (hg : g ≤ g') : NatsAt g' s w A n Ns := by
  obtain ⟨h1, h2, h3⟩ := h
  refine ⟨h1, h2, fun hn => ?_⟩
  obtain ⟨b, off, e, hl, hc⟩ := h3 hn
  refine ⟨b, off, e, Nat.lt_of_lt_of_le hl hg, fun i N hN => ?_⟩
  obtain ⟨B, m, c, l, k0, k1, k2, k3, k4⟩ := hc i N hN
  exact ⟨B, m, c, l, k0, k1, k2, k3, fun hm b off e => Nat.lt_of_lt_of_le (k4 hm b off e) hg⟩
def sumOf (Ns : List Nat) : Nat := Ns.foldl (· + ·) 0
theorem sumOf_take {Ns : List Nat} {k N : Nat} (h : Ns[k]? = some N) : sumOf (Ns.take (k + 1)) = sumOf (Ns.take k) + N := by
  unfold sumOf
  obtain ⟨hk, rfl⟩ := List.getElem?_eq_some_iff.1 h
  rw [List.take_succ_eq_append_getElem hk, List.foldl_append]; rfl
theorem IsNat.row {g : Nat} {w : World} {x : Value} {N : Nat} (h : IsNat g w (.agg #[x]) N) : ∃ (B : Option Addr) (m c : Nat) (l : List Nat), x = .slice B m c ∧ m ≤ c ∧ Rw .u64 w B m l ∧ Lim 18446744073709551616 l N ∧ (0 < m → ∀ b off, B = some ⟨b, off, none⟩ → b < w.heap.size) := by
  obtain ⟨B, m, c, l, e, h1, h2, h0, _⟩ := h
  simp at e
  refine ⟨B, m, c, l, e, h0, h1, h2, fun hm b off eB => ?_⟩
  obtain ⟨b', off', e', hl, _⟩ := h1.2 hm
  rw [eB] at e'
  injection e' with e'
  injection e' with e1
  rw [e1]; exact hl
theorem natsAt_new {s : Nat} (W : World) (cs : Array Value) (t : TypeId) (Ns : List Nat) (hf : ∀ N ∈ Ns, Fits N s) (h : ∀ (i N : Nat), Ns[i]? = some N → ∃ x g, cs[i]? = some x ∧ IsNat g W (.agg #[x]) N) :
    NatsAt (W.heap.size + 1) s (W.alloc (.cells cs t)) (some ⟨W.heap.size, 0, none⟩) Ns.length Ns := by
  refine ⟨rfl, hf, fun hn => ⟨W.heap.size, 0, rfl, by omega, fun i N hN => ?_⟩⟩
  obtain ⟨x, g, hx, hi⟩ := h i N hN
  obtain ⟨B, m, c, l, rfl, h0, h1, h2, h3⟩ := hi.row
  refine ⟨B, m, c, l, h0, ?_, h1.alloc _, h2, fun hm b off e => Nat.lt_succ_of_lt (h3 hm b off e)⟩
  have := (Bk.new W t cs).cell i
  rw [Nat.zero_add, this, hx]
end Go.Proofs.Ytjocobfabdkadaa
namespace Go.Proofs.Ytjocobfabdkadaa
open Go.RowKit
attribute [local go_sem] alloc_drewN setCell_drewN
theorem mul_inner {b k j x y old s2 carry carry' A0 : Nat} {r lb : List Nat} (hy : lb[j]? = some y) (ho : r[k + j]? = some old) (he : x * y + carry + old = s2 + b * carry')
    (hv : val b r + b ^ (k + j) * carry = A0 + b ^ k * (x * val b (lb.take j))) :
    val b (r.set (k + j) s2) + b ^ (k + (j + 1)) * carry' = A0 + b ^ k * (x * val b (lb.take (j + 1))) := by
  have h1 := val_set b s2 ho
  rw [val_take_succ b hy, Nat.mul_add, Nat.mul_add]
  have h2 : b ^ k * (x * (b ^ j * y)) = b ^ (k + j) * (x * y) := by
    rw [Nat.pow_add, Nat.mul_left_comm x, Nat.mul_assoc]
  have h3 : b ^ (k + (j + 1)) * carry' = b ^ (k + j) * (b * carry') := by
    rw [← Nat.add_assoc, Nat.pow_succ, Nat.mul_assoc]
  have h4 : b ^ (k + j) * (x * y + carry + old) = b ^ (k + j) * (s2 + b * carry') := by rw [he]
  simp only [Nat.mul_add] at h4
  rw [h2, h3]
  omega
theorem zeros_at {r : List Nat} {q z : Nat} (hd : r.drop q = List.replicate z 0) (hz : 0 < z) : r[q]? = some 0 := by
  have h := congrArg (fun t : List Nat => t[0]?) hd
  simp only [List.getElem?_drop, Nat.add_zero] at h
  rw [h, List.getElem?_replicate, if_pos hz]
theorem zeros_next {r : List Nat} {q z s : Nat} (hd : r.drop q = List.replicate z 0) : (r.set q s).drop (q + 1) = List.replicate (z - 1) 0 := by
  rw [List.drop_set_of_lt (by omega)]
  have h := congrArg (List.drop 1) hd
  rw [List.drop_drop, List.drop_replicate] at h
  exact h
theorem zeros_skip {r : List Nat} {q z : Nat} (hd : r.drop q = List.replicate z 0) : r.drop (q + 1) = List.replicate (z - 1) 0 := by
  have h := congrArg (List.drop 1) hd
  rw [List.drop_drop, List.drop_replicate] at h
  exact h
theorem mul_outer {b k m x carry : Nat} {r la lb : List Nat} (hx : la[k]? = some x) (hm : lb.length = m) (h0 : r[k + m]? = some 0)
    (hv : val b r + b ^ (k + m) * carry = val b (la.take k) * val b lb + b ^ k * (x * val b (lb.take m))) :
    val b (r.set (k + m) carry) = val b (la.take (k + 1)) * val b lb := by
  have h1 := val_set b carry h0
  rw [← hm, List.take_length, hm] at hv
  rw [val_take_succ b hx, Nat.add_mul, Nat.mul_assoc]
  omega
theorem own_made {g n : Nat} {w : World} {v : Value} (h : w.ownsRow g 78 1 v n (madeCells (Value.int .u64 0).cells (n * 1)).toList) : w.ownsRow g 78 1 v n (cellsOf .u64 (List.replicate n 0)) := by
  rw [Nat.mul_one] at h
  have e : (madeCells (Value.int .u64 0).cells n).toList = cellsOf .u64 (List.replicate n 0) := by
    rw [show (Value.int .u64 0).cells = #[Value.int .u64 0] from rfl, toList_madeCells_one]
    simp [cellsOf]
  rwa [e] at h
theorem word_sq {x y c o : Nat} (hx : x < 18446744073709551616) (hy : y < 18446744073709551616) (hc : c < 18446744073709551616) (ho : o < 18446744073709551616) : x * y + c + o < 18446744073709551616 * 18446744073709551616 := by
  have h := Nat.mul_le_mul (Nat.le_of_lt_succ hx) (Nat.le_of_lt_succ hy)
  omega
theorem below_of_grown {w w1 : World} (h : w.grownBy w1 none) : Below w.heap.size w w1 := ⟨h.os, h.tape, h.output, h.size, fun k hk => h.block k hk (by simp)⟩
theorem Rw.lt {k : IntKind} {w : World} {A : Option Addr} {n : Nat} {l : List Nat} (h : Rw k w A n l) (hn : 0 < n) (b off : Nat) (e : A = some ⟨b, off, none⟩) : b < w.heap.size := by
  obtain ⟨b', off', e', hl, _⟩ := h.2 hn
  rw [e] at e'
  injection e' with e'
  injection e' with e1
  omega
end Go.Proofs.Ytjocobfabdkadaa
namespace Go.Proofs.Ytjocobfabdkadaa
open Go.RowKit
attribute [local go_sem] alloc_drewN setCell_drewN
/-- Has N no more limbs than the cap c allows? -/
def fitB (c : Int) (N : Nat) : Bool := decide (N < 18446744073709551616 ^ (max 0 c).toNat)
theorem lim_len_iff {l : List Nat} {N k : Nat} (h : Lim 18446744073709551616 l N) : l.length ≤ k ↔ N < 18446744073709551616 ^ k :=
  ⟨fun hk => by
    have h1 := val_lt 18446744073709551616 (by omega) l h.1
    rw [h.2.1] at h1
    exact Nat.lt_of_lt_of_le h1 (Nat.pow_le_pow_right (by omega) hk), fun hk => h.len ⟨hk⟩⟩
theorem fitB_len {l : List Nat} {N : Nat} (h : Lim 18446744073709551616 l N) (c : Int) : decide ((l.length : Int) ≤ max 0 c) = fitB c N := by
  unfold fitB
  have h1 := lim_len_iff (k := (max 0 c).toNat) h
  by_cases h2 : N < 18446744073709551616 ^ (max 0 c).toNat
  · have h3 := h1.2 h2
    rw [decide_eq_true h2]
    exact decide_eq_true (by omega)
  · have h3 : ¬ l.length ≤ (max 0 c).toNat := fun h => h2 (h1.1 h)
    rw [decide_eq_false h2]
    exact decide_eq_false (by omega)
set_option maxHeartbeats 1600000 in
theorem fits_c (g : Nat) (c : Int) (v : Value) (N : Nat) (w : World) (hv : IsNat g w v N) :
    Calls Try.prog 76 #[.int .i64 c, v] w fun e w' => e = .returned (.bool (fitB c N)) ∧ Below w.heap.size w w' := by
  obtain ⟨A, n, d, l, rfl, hr, hl, _⟩ := hv
  go_enter Try.func76, Try.ntmps76
  have hfit := fitB_len hl c
  rw [hr.1] at hfit
  have HF := Lib.hid hfit
  clear hr hl hfit
  go_wp2
  all_goals
    go_ret
    refine ⟨?_, (Below.refl _ _).alloc (Nat.le_refl _) _⟩
    rw [← HF.out]
    first
      | (rw [show max 0 c = c by omega]; rfl)
      | (rw [show max 0 c = 0 by omega]; exact congrArg (fun b => Ending.returned (.bool b)) (decide_eq_decide.2 (by omega)))
theorem fitB_le {c : Int} {N M : Nat} (h : fitB c N = true) (hM : M ≤ N) : fitB c M = true := by
  unfold fitB at *
  have := of_decide_eq_true h
  exact decide_eq_true (by omega)
theorem fitB_zero (c : Int) : fitB c 0 = true := decide_eq_true (Nat.pow_pos (by omega))
end Go.Proofs.Ytjocobfabdkadaa
