/- The document's numbers, by contract: at, Cmp, Same, Add, Sub, Of. At most 2000 bytes. -/
import Derived.Test.YtjocobfabdkadaaRef
namespace Go.Proofs.Ytjocobfabdkadaa
open Go.RowKit
attribute [local go_sem] alloc_drewN setCell_drewN
def byteAt (l : List Nat) (i : Nat) : Nat := l[i]?.getD 0
theorem byteAt_lt {l : List Nat} (h : AllLt 256 l) (i : Nat) : byteAt l i < 256 := by
  unfold byteAt
  cases hx : l[i]? with
  | none => simp
  | some x => exact h.at_ hx
theorem val_take_byte (b : Nat) (l : List Nat) (i : Nat) : val b (l.take (i + 1)) = val b (l.take i) + b ^ i * byteAt l i := by
  unfold byteAt
  cases hx : l[i]? with
  | none =>
    have := List.getElem?_eq_none_iff.1 hx
    rw [List.take_of_length_le (by omega), List.take_of_length_le this]
    simp
  | some x => exact val_take_succ b hx
set_option maxHeartbeats 1600000 in
theorem at_c (A : Option Addr) (n c : Nat) (l : List Nat) (i : Nat) (w : World) (hr : Rw .u8 w A n l) (hl : AllLt 256 l) (hn : n ≤ 100000) (hi : i ≤ 1000000) :
    Calls Try.prog 77 #[.slice A n c, .int .i64 i] w fun e w' => e = .returned (.int .i64 (byteAt l i)) ∧ w' = w := by
  by_cases hin : i < n
  · obtain ⟨b, off, x, rfl, hb, hx, hc⟩ := hr.at_ hin
    have hxl := hl.at_ hx
    have h1 : decide ((i : Int) < (n : Int)) = true := by simp <;> omega
    have HX := Lib.hid hx
    clear hx hr
    go_enter Try.func77, Try.ntmps77
    go_wp2
    go_ret
    exact ⟨by unfold byteAt; rw [HX.out]; rfl, rfl⟩
  · have h1 : decide ((i : Int) < (n : Int)) = false := by simp <;> omega
    have h2 : byteAt l i = 0 := by
      unfold byteAt
      rw [List.getElem?_eq_none (by rw [hr.1]; omega)]; rfl
    clear hr
    go_enter Try.func77, Try.ntmps77
    go_wp2
    go_ret
    exact ⟨by rw [h2]; rfl, rfl⟩
end Go.Proofs.Ytjocobfabdkadaa
