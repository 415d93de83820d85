/- The document's numbers, by contract: Fits, Mul. At most 700 bytes each. -/
import Derived.Test.YtjocobfabdkadaaRefd
namespace Go.Proofs.Ytjocobfabdkadaa
open Go.RowKit
attribute [local go_sem] alloc_drewN setCell_drewN
/-! ### The plain law of multiplying, column by column -/
structure MulI (la lb S : List Nat) (m i k : Nat) : Prop where
  v : val 256 S = val 256 (la.take i) * val 256 lb + 256 ^ i * (byteAt la i * val 256 (lb.take k))
  b1 : ∀ j x : Nat, S[j]? = some x → x ≤ 512
  b2 : ∀ j x : Nat, S[j]? = some x → j ≠ i + k → x ≤ 256
  z : ∀ j x : Nat, S[j]? = some x → i + m ≤ j → j ≠ i + k → x = 0
  e : k = m → ∀ x : Nat, S[i + m]? = some x → x ≤ 256
theorem set_at {S : List Nat} {i j y x : Nat} (h : (S.set i y)[j]? = some x) : (j = i ∧ x = y) ∨ (j ≠ i ∧ S[j]? = some x) := by
  rw [List.getElem?_set] at h
  by_cases hij : i = j
  · rw [if_pos hij] at h
    split at h
    · injection h with h; exact .inl ⟨hij.symm, h.symm⟩
    · cases h
  · rw [if_neg hij] at h; exact .inr ⟨fun e => hij e.symm, h⟩
theorem MulI.start (la lb : List Nat) (m s : Nat) : MulI la lb (List.replicate s 0) m 0 0 := by
  have h0 : ∀ j x, (List.replicate s 0)[j]? = some x → x = 0 := fun j x h => (List.mem_replicate.1 (List.mem_of_getElem? h)).2
  exact ⟨by rw [val_zeros]; simp [val], fun j x h => by rw [h0 j x h]; omega, fun j x h _ => by rw [h0 j x h]; omega, fun j x h _ _ => h0 j x h, fun _ x h => by rw [h0 _ x h]; omega⟩
theorem MulI.step {la lb S : List Nat} {m i k p q b : Nat} (h : MulI la lb S m i k) (ha : byteAt la i < 256) (hb : b < 256) (hk : k < m) (hbk : lb[k]? = some b) (hp : S[i + k]? = some p) (hq : S[i + k + 1]? = some q) :
    MulI la lb ((S.set (i + k) ((p + byteAt la i * b) % 256)).set (i + k + 1) (q + (p + byteAt la i * b) / 256)) m i (k + 1) := by
  have hab : byteAt la i * b ≤ 255 * 255 := Nat.mul_le_mul (by omega) (by omega)
  have hp5 := h.b1 _ _ hp
  have hq2 := h.b2 _ _ hq (by omega)
  generalize hA : byteAt la i = a at *
  refine ⟨?_, fun j x hx => ?_, fun j x hx hj => ?_, fun j x hx hj hj2 => ?_, fun hkm x hx => ?_⟩
  · have h1 := val_set 256 ((p + a * b) % 256) hp
    have h2 := val_set 256 (q + (p + a * b) / 256) (show (S.set (i + k) ((p + a * b) % 256))[i + k + 1]? = some q by rw [List.getElem?_set, if_neg (by omega)]; exact hq)
    have h3 := h.v
    rw [hA] at h3
    rw [hA, val_take_succ 256 hbk]
    have h4 : 256 ^ i * (a * (256 ^ k * b)) = 256 ^ (i + k) * (a * b) := by rw [Nat.pow_add, Nat.mul_left_comm a, Nat.mul_assoc]
    have h5 : 256 ^ (i + k + 1) = 256 * 256 ^ (i + k) := by rw [Nat.pow_succ, Nat.mul_comm]
    have h6 : 256 ^ (i + k) * ((p + a * b) % 256) + 256 ^ (i + k) * (256 * ((p + a * b) / 256)) = 256 ^ (i + k) * p + 256 ^ (i + k) * (a * b) := by
      rw [← Nat.mul_add, ← Nat.mul_add, Nat.mod_add_div]
    rw [h5, Nat.mul_add, Nat.mul_assoc 256, Nat.mul_assoc 256, Nat.mul_left_comm 256 (256 ^ (i + k)) ((p + a * b) / 256)] at h2
    rw [Nat.mul_add a, Nat.mul_add (256 ^ i), h4]
    omega
  · rcases set_at hx with ⟨_, rfl⟩ | ⟨_, hx⟩
    · omega
    · rcases set_at hx with ⟨_, rfl⟩ | ⟨_, hx⟩
      · omega
      · exact h.b1 _ _ hx
  · rcases set_at hx with ⟨hj', rfl⟩ | ⟨_, hx⟩
    · omega
    · rcases set_at hx with ⟨_, rfl⟩ | ⟨hj3, hx⟩
      · omega
      · exact h.b2 _ _ hx hj3
  · rcases set_at hx with ⟨hj', rfl⟩ | ⟨_, hx⟩
    · omega
    · rcases set_at hx with ⟨hj', rfl⟩ | ⟨hj3, hx⟩
      · omega
      · exact h.z _ _ hx hj hj3
  · rcases set_at hx with ⟨hj', rfl⟩ | ⟨hj', hx⟩
    · have := h.z _ _ hq (by omega) (by omega)
      omega
    · omega
theorem MulI.next {la lb S : List Nat} {m i : Nat} (h : MulI la lb S m i m) (hm : lb.length = m) : MulI la lb S m (i + 1) 0 := by
  have hall : ∀ j x, S[j]? = some x → x ≤ 256 := fun j x hx => by
    by_cases hj : j = i + m
    · subst hj; exact h.e rfl x hx
    · exact h.b2 j x hx hj
  refine ⟨?_, fun j x hx => Nat.le_trans (hall j x hx) (by omega), fun j x hx _ => hall j x hx, fun j x hx hj _ => h.z j x hx (by omega) (by omega), fun _ x hx => hall _ x hx⟩
  have := h.v
  rw [← hm, List.take_length] at this
  rw [this, val_take_byte, Nat.add_mul, Nat.mul_assoc]
  simp [val]
theorem infoInt : (Try.prog.info? 3).map (fun i => (i.zero, i.size, i.bytes)) = some (some (.int .i64 0), 1, 8) := by kernel_rfl
theorem ownI_put {g gb n cap : Nat} {w : World} {l : List Nat} (h : w.ownsRow g 3 1 (.slice (some ⟨gb, 0, none⟩) n cap) n (cellsOf .i64 l)) (k s : Nat) :
    (w.setCell ⟨gb, k, none⟩ (.int .i64 s)).ownsRow g 3 1 (.slice (some ⟨gb, 0, none⟩) n cap) n (cellsOf .i64 (l.set k s)) := by
  have := (h.stored k (.int .i64 s)).1
  rwa [show (cellsOf .i64 l).set k (.int .i64 s) = cellsOf .i64 (l.set k s) by simp [cellsOf, List.map_set]] at this
theorem ownI_at {g gb n cap k : Nat} {w : World} {l : List Nat} (h : w.ownsRow g 3 1 (.slice (some ⟨gb, 0, none⟩) n cap) n (cellsOf .i64 l)) (hk : k < n) :
    ∃ y, l[k]? = some y ∧ w.cell? ⟨gb, k, none⟩ = some (.int .i64 y) ∧ w.frozen? ⟨gb, k, none⟩ = false := by
  have hl : l.length = n := by have := h.1; simpa [cellsOf] using this
  have hx : l[k]? = some (l[k]'(by omega)) := List.getElem?_eq_getElem _
  refine ⟨_, hx, ?_, h.frozenAt k⟩
  rw [h.cellAt k (by omega)]
  simp [cellsOf, hx]
theorem ownI_made {g n : Nat} {w : World} {v : Value} (h : w.ownsRow g 3 1 v n (madeCells (Value.int .i64 0).cells (n * 1)).toList) : w.ownsRow g 3 1 v n (cellsOf .i64 (List.replicate n 0)) := by
  rw [Nat.mul_one] at h
  have e : (madeCells (Value.int .i64 0).cells n).toList = cellsOf .i64 (List.replicate n 0) := by
    rw [show (Value.int .i64 0).cells = #[Value.int .i64 0] from rfl, toList_madeCells_one]
    simp [cellsOf]
  rwa [e] at h
end Go.Proofs.Ytjocobfabdkadaa
