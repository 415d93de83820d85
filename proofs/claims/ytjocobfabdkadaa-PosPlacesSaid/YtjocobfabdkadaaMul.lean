/- Mul of package nat, by contract. Numbers of at most 4000 limbs. -/
import Derived.Test.YtjocobfabdkadaaAdder
namespace Go.Proofs.Ytjocobfabdkadaa
open Go.RowKit
attribute [local go_sem] alloc_drewN setCell_drewN
theorem mul_inner {b k j x y old s2 carry carry' A0 : Nat} {r lb : List Nat} (hy : lb[j]? = some y) (ho : r[k + j]? = some old) (he : x * y + carry + old = s2 + b * carry')
    (hv : val b r + b ^ (k + j) * carry = A0 + b ^ k * (x * val b (lb.take j))) :
    val b (r.set (k + j) s2) + b ^ (k + (j + 1)) * carry' = A0 + b ^ k * (x * val b (lb.take (j + 1))) := by
  have h1 := val_set b s2 ho
  rw [val_take_succ b hy, Nat.mul_add, Nat.mul_add]
  have h2 : b ^ k * (x * (b ^ j * y)) = b ^ (k + j) * (x * y) := by
    rw [Nat.pow_add, Nat.mul_left_comm x, Nat.mul_assoc]
  have h3 : b ^ (k + (j + 1)) * carry' = b ^ (k + j) * (b * carry') := by
    rw [← Nat.add_assoc, Nat.pow_succ, Nat.mul_assoc]
  have h4 : b ^ (k + j) * (x * y + carry + old) = b ^ (k + j) * (s2 + b * carry') := by rw [he]
  simp only [Nat.mul_add] at h4
  rw [h2, h3]
  omega
theorem zeros_at {r : List Nat} {q z : Nat} (hd : r.drop q = List.replicate z 0) (hz : 0 < z) : r[q]? = some 0 := by
  have h := congrArg (fun t : List Nat => t[0]?) hd
  simp only [List.getElem?_drop, Nat.add_zero] at h
  rw [h, List.getElem?_replicate, if_pos hz]
theorem zeros_next {r : List Nat} {q z s : Nat} (hd : r.drop q = List.replicate z 0) : (r.set q s).drop (q + 1) = List.replicate (z - 1) 0 := by
  rw [List.drop_set_of_lt (by omega)]
  have h := congrArg (List.drop 1) hd
  rw [List.drop_drop, List.drop_replicate] at h
  exact h
theorem zeros_skip {r : List Nat} {q z : Nat} (hd : r.drop q = List.replicate z 0) : r.drop (q + 1) = List.replicate (z - 1) 0 := by
  have h := congrArg (List.drop 1) hd
  rw [List.drop_drop, List.drop_replicate] at h
  exact h
theorem mul_outer {b k m x carry : Nat} {r la lb : List Nat} (hx : la[k]? = some x) (hm : lb.length = m) (h0 : r[k + m]? = some 0)
    (hv : val b r + b ^ (k + m) * carry = val b (la.take k) * val b lb + b ^ k * (x * val b (lb.take m))) :
    val b (r.set (k + m) carry) = val b (la.take (k + 1)) * val b lb := by
  have h1 := val_set b carry h0
  rw [← hm, List.take_length, hm] at hv
  rw [val_take_succ b hx, Nat.add_mul, Nat.mul_assoc]
  omega
theorem own_made {g n : Nat} {w : World} {v : Value} (h : w.ownsRow g 78 1 v n (madeCells (Value.int .u64 0).cells (n * 1)).toList) : w.ownsRow g 78 1 v n (cellsOf .u64 (List.replicate n 0)) := by
  rw [Nat.mul_one] at h
  have e : (madeCells (Value.int .u64 0).cells n).toList = cellsOf .u64 (List.replicate n 0) := by
    rw [show (Value.int .u64 0).cells = #[Value.int .u64 0] from rfl, toList_madeCells_one]
    simp [cellsOf]
  rwa [e] at h
theorem word_sq {x y c o : Nat} (hx : x < 18446744073709551616) (hy : y < 18446744073709551616) (hc : c < 18446744073709551616) (ho : o < 18446744073709551616) : x * y + c + o < 18446744073709551616 * 18446744073709551616 := by
  have h := Nat.mul_le_mul (Nat.le_of_lt_succ hx) (Nat.le_of_lt_succ hy)
  omega
theorem below_of_grown {w w1 : World} (h : w.grownBy w1 none) : Below w.heap.size w w1 := ⟨h.os, h.tape, h.output, h.size, fun k hk => h.block k hk (by simp)⟩
theorem Rw.lt {k : IntKind} {w : World} {A : Option Addr} {n : Nat} {l : List Nat} (h : Rw k w A n l) (hn : 0 < n) (b off : Nat) (e : A = some ⟨b, off, none⟩) : b < w.heap.size := by
  obtain ⟨b', off', e', hl, _⟩ := h.2 hn
  rw [e] at e'
  injection e' with e'
  injection e' with e1
  omega
end Go.Proofs.Ytjocobfabdkadaa
