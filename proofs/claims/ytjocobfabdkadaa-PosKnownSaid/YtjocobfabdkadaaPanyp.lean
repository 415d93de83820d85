/- PosPlaces returns true whatever it is called with. -/
import Derived.Test.YtjocobfabdkadaaPplaces
namespace Go.Proofs.Ytjocobfabdkadaa
open Go.RowKit
attribute [local go_sem] alloc_drewN setCell_drewN
set_option maxRecDepth 100000 in
theorem places_any (s : ByteArray) (i L C : Int) (w : World) (hL : L ≤ 9223372036854775807) (hC : C ≤ 9223372036854775807) :
    Calls Try.prog 3 #[.string s, .int .i64 i, .agg #[.int .i64 L, .int .i64 C]] w fun e w' => e = .returned (.bool true) ∧ Below w.heap.size w w' := by
  by_cases h : s.size ≤ 400
  · exact places_c s i L C w h hL hC
  · clear hL hC
    have g1 : decide ((400 : Int) < (s.size : Int)) = true := by simp <;> omega
    go_enter Try.func3, Try.ntmps3
    go_wp2_with (go_at_call 7; refine (works_c _).mono ?_; rintro e w1 ⟨rfl, hb1⟩; have HB := Lib.hid ((below_box w (.cells #[.int .i64 L, .int .i64 C] 23)).trans (hb1.mono (below_box w _).size)); clear hb1)
    go_ret
    exact ⟨rfl, HB.out⟩
end Go.Proofs.Ytjocobfabdkadaa
