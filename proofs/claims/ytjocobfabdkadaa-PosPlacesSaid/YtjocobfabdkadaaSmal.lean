/- small of package deci, by contract: the number of at most 19 digits. -/
import Derived.Test.YtjocobfabdkadaaDigs
namespace Go.Proofs.Ytjocobfabdkadaa
open Go.RowKit
attribute [local go_sem] alloc_drewN setCell_drewN
/-- The number whose digits these are. -/
def decv (l : List Nat) : Nat := l.foldl (fun n x => n * 10 + (x - 48)) 0
theorem decv_snoc (l : List Nat) (x : Nat) : decv (l ++ [x]) = decv l * 10 + (x - 48) := by simp [decv, List.foldl_append]
theorem decv_take {l : List Nat} {i x : Nat} (hx : l[i]? = some x) : decv (l.take (i + 1)) = decv (l.take i) * 10 + (x - 48) := by
  obtain ⟨g1, g2⟩ := List.getElem?_eq_some_iff.1 hx
  rw [List.take_succ_eq_append_getElem g1, decv_snoc, g2]
theorem decv_lt {l : List Nat} (h : ∀ x ∈ l, Dig x) : ∀ i, i ≤ l.length → decv (l.take i) < 10 ^ i
  | 0, _ => by simp [decv]
  | i + 1, hi => by
    have hx : l[i]? = some (l[i]'(by omega)) := List.getElem?_eq_getElem _
    have hd := h _ (List.getElem_mem (show i < l.length by omega))
    have := decv_lt h i (by omega)
    rw [decv_take hx, Nat.pow_succ]
    have h2 := hd.2
    omega
set_option maxRecDepth 100000 in
set_option maxHeartbeats 4000000 in
theorem sml_c (s : ByteArray) (w : World) (hs : s.size ≤ 19) (hd : ∀ x ∈ bys s, Dig x) :
    Calls Try.prog 74 #[.string s] w fun e w' => e = .returned (.int .u64 (decv (bys s))) ∧ Below w.heap.size w w' := by
  have hlen := bys_len s
  have HH := Lib.hid (And.intro hd hlen)
  clear hd hlen
  go_enter Try.func74, Try.ntmps74
  go_wp2_with fail
  go_loopw [3] (fun v w' => ∃ pos n, w' = w.iter s pos ∧ pos ≤ s.size ∧ v = .int .u64 (n : Nat) ∧ n = decv ((bys s).take pos)) (fun _ w' => s.size - w'.iterPos w.heap.size)
  case atStart => exact ⟨0, 0, rfl, Nat.zero_le _, rfl, rfl⟩
  case round =>
    obtain ⟨pos, n, rfl, hps, rfl, hn⟩ := hrel
    by_cases hp : pos < s.size
    · have hnx : ∀ ty, (Instr.next (.pointer (some ⟨w.heap.size, 0, none⟩)) true ty).run Try.prog (w.iter s pos) = _ := fun ty => run_next_any w s pos ty hp
      have hx := bys_at hp
      have hd8 := HH.out.1 _ (List.mem_of_getElem? hx)
      rw [decode_ascii s pos hp (by have := hd8.2; omega)] at hnx
      have hlt := decv_lt HH.out.1 pos (by rw [HH.out.2]; omega)
      rw [← hn] at hlt
      have hpw : 10 ^ pos ≤ 10 ^ 18 := Nat.pow_le_pow_right (by omega) (by omega)
      have hnb : n < 1000000000000000000 := Nat.lt_of_lt_of_le hlt (Nat.le_trans hpw (by decide))
      have ht := decv_take hx
      rw [← hn] at ht
      obtain ⟨x, hxe⟩ : ∃ x, x = (s[pos]'hp).toNat := ⟨_, rfl⟩
      rw [← hxe] at hnx ht hd8
      have h1 := hd8.1
      have h2 := hd8.2
      have HT := Lib.hid (And.intro ht hn)
      clear ht hn hlt hpw hx hd8 hxe
      go_wp2
      go_roundw
      case rel => exact ⟨pos + 1, n * 10 + (x - 48), rfl, by omega, congrArg _ (by omega), HT.out.1.symm⟩
      case measure => simp; omega
    · have hnx : ∀ ty, (Instr.next (.pointer (some ⟨w.heap.size, 0, none⟩)) true ty).run Try.prog (w.iter s pos) = _ := fun ty => run_next_end w s pos ty hp
      have HN := Lib.hid hn
      clear hn
      go_wp2
      go_ret
      refine ⟨?_, iter_below _ _ _⟩
      have := HN.out
      rw [List.take_of_length_le (by rw [HH.out.2]; omega)] at this
      rw [← this]
      rfl
end Go.Proofs.Ytjocobfabdkadaa
