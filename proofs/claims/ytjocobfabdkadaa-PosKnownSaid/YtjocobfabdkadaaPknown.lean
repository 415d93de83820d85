/- PosKnown, walked: the closed statement returns true. -/
import Derived.Test.YtjocobfabdkadaaPfargs
import Derived.Test.YtjocobfabdkadaaPback
import Derived.Test.YtjocobfabdkadaaPanyp
import Derived.Test.YtjocobfabdkadaaPair
namespace Go.Proofs.Ytjocobfabdkadaa
open Go.RowKit
attribute [local go_sem] alloc_drewN setCell_drewN
theorem ktx_at : ∀ {i : Nat}, i < 7 → ∃ s : ByteArray, (#[.string ⟨#[]⟩, .string ⟨#[10]⟩, .string ⟨#[97, 98, 10, 99]⟩, .string ⟨#[10, 10]⟩, .string ⟨#[97, 13, 10, 98, 0, 10]⟩, .string ⟨#[111, 110, 101, 32, 108, 105, 110, 101]⟩, .string ⟨#[10, 120, 10, 10, 121, 121, 10]⟩] : Array Value)[i]? = some (.string s)
  | 0, _ => ⟨_, rfl⟩
  | 1, _ => ⟨_, rfl⟩
  | 2, _ => ⟨_, rfl⟩
  | 3, _ => ⟨_, rfl⟩
  | 4, _ => ⟨_, rfl⟩
  | 5, _ => ⟨_, rfl⟩
  | 6, _ => ⟨_, rfl⟩
  | n + 7, h => absurd h (by omega)
theorem kod_at : ∀ {i : Nat}, i < 16 → ∃ s : ByteArray, (#[.string ⟨#[]⟩, .string ⟨#[58]⟩, .string ⟨#[49, 58]⟩, .string ⟨#[58, 49]⟩, .string ⟨#[49, 58, 50]⟩, .string ⟨#[48, 49, 58, 50]⟩, .string ⟨#[49, 58, 50, 58, 51]⟩, .string ⟨#[49, 32, 50]⟩, .string ⟨#[49, 58, 50, 32]⟩, .string ⟨#[49, 58, 50, 32, 51]⟩, .string ⟨#[49, 58, 50, 32, 32, 51]⟩, .string ⟨#[32, 49, 58, 50, 32, 51]⟩, .string ⟨#[49, 58, 50, 32, 120]⟩, .string ⟨#[57, 50, 50, 51, 51, 55, 50, 48, 51, 54, 56, 53, 52, 55, 55, 53, 56, 48, 56, 58, 49]⟩, .string ⟨#[45, 49, 58, 45, 57, 50, 50, 51, 51, 55, 50, 48, 51, 54, 56, 53, 52, 55, 55, 53, 56, 48, 56, 32, 45, 55]⟩, .string ⟨#[49, 58, 50, 32, 51, 32, 52]⟩] : Array Value)[i]? = some (.string s)
  | 0, _ => ⟨_, rfl⟩
  | 1, _ => ⟨_, rfl⟩
  | 2, _ => ⟨_, rfl⟩
  | 3, _ => ⟨_, rfl⟩
  | 4, _ => ⟨_, rfl⟩
  | 5, _ => ⟨_, rfl⟩
  | 6, _ => ⟨_, rfl⟩
  | 7, _ => ⟨_, rfl⟩
  | 8, _ => ⟨_, rfl⟩
  | 9, _ => ⟨_, rfl⟩
  | 10, _ => ⟨_, rfl⟩
  | 11, _ => ⟨_, rfl⟩
  | 12, _ => ⟨_, rfl⟩
  | 13, _ => ⟨_, rfl⟩
  | 14, _ => ⟨_, rfl⟩
  | 15, _ => ⟨_, rfl⟩
  | n + 16, h => absurd h (by omega)
theorem kva_at : ∀ {i : Nat}, i < 6 → ∃ v : Int, (#[.int .i64 0, .int .i64 1, .int .i64 (-1), .int .i64 7, .int .i64 9223372036854775807, .int .i64 (-9223372036854775808)] : Array Value)[i]? = some (.int .i64 v) ∧ Whl v
  | 0, _ => ⟨_, rfl, by unfold Whl; omega⟩
  | 1, _ => ⟨_, rfl, by unfold Whl; omega⟩
  | 2, _ => ⟨_, rfl, by unfold Whl; omega⟩
  | 3, _ => ⟨_, rfl, by unfold Whl; omega⟩
  | 4, _ => ⟨_, rfl, by unfold Whl; omega⟩
  | 5, _ => ⟨_, rfl, by unfold Whl; omega⟩
  | n + 6, h => absurd h (by omega)
def slc (B : Nat) (ty : TypeId) (cs : Array Value) : StP := ⟨fun u w => ∃ g, u = .slice (some ⟨g, 0, none⟩) 5 5 ∧ B ≤ g ∧ Bk w g ty cs, fun _ _ _ hb h => by
  obtain ⟨g, h1, h2, h3⟩ := h
  exact ⟨g, h1, h2, h3.keep hb⟩⟩
theorem rwF_of_bk {w : World} {g : Nat} {ty : TypeId} {l : List Flt} (h : Bk w g ty (cellsF l).toArray) : RwF w (some ⟨g, 0, none⟩) l.length l := by
  refine ⟨rfl, fun _ => ⟨g, 0, rfl, h.lt, fun i f hf => ?_⟩⟩
  obtain ⟨h1, h2, h3⟩ := cellsF_at hf
  have k0 := h.cell (i * 3)
  have k1 := h.cell (i * 3 + 1)
  have k2 := h.cell (i * 3 + 2)
  simp only [List.getElem?_toArray] at k0 k1 k2
  rw [h1] at k0
  rw [h2] at k1
  rw [h3] at k2
  simpa using ⟨k0, k1, k2⟩
theorem RwF.take {w : World} {A : Option Addr} {n m : Nat} {l : List Flt} (h : RwF w A n l) (hm : m ≤ n) : RwF w A m (l.take m) := by
  refine ⟨by rw [List.length_take, h.1]; omega, fun h0 => ?_⟩
  obtain ⟨b, off, e, hb, hc⟩ := h.2 (by omega)
  refine ⟨b, off, e, hb, fun i f hf => hc i f ?_⟩
  rw [List.getElem?_take] at hf
  split at hf
  · exact hf
  · cases hf
theorem AllF.take {l : List Flt} (h : AllF l) (m : Nat) : AllF (l.take m) := fun f hf => h f (List.mem_of_mem_take hf)
set_option maxRecDepth 100000 in
set_option maxHeartbeats 32000000 in
theorem known_c (w : World) : Calls Try.prog 6 #[] w fun e w' => e = .returned (.bool true) ∧ Below w.heap.size w w' := by
  go_enter Try.func6, Try.ntmps6
  go_upto_region 2 with fail
  have HT := Lib.hid (And.intro (Bk.new w 9 #[.string ⟨#[]⟩, .string ⟨#[10]⟩, .string ⟨#[97, 98, 10, 99]⟩, .string ⟨#[10, 10]⟩, .string ⟨#[97, 13, 10, 98, 0, 10]⟩, .string ⟨#[111, 110, 101, 32, 108, 105, 110, 101]⟩, .string ⟨#[10, 120, 10, 10, 121, 121, 10]⟩]) (below_box w (.cells #[.string ⟨#[]⟩, .string ⟨#[10]⟩, .string ⟨#[97, 98, 10, 99]⟩, .string ⟨#[10, 10]⟩, .string ⟨#[97, 13, 10, 98, 0, 10]⟩, .string ⟨#[111, 110, 101, 32, 108, 105, 110, 101]⟩, .string ⟨#[10, 120, 10, 10, 121, 121, 10]⟩] 9)))
  generalize hw : w.alloc (.cells #[.string ⟨#[]⟩, .string ⟨#[10]⟩, .string ⟨#[97, 98, 10, 99]⟩, .string ⟨#[10, 10]⟩, .string ⟨#[97, 13, 10, 98, 0, 10]⟩, .string ⟨#[111, 110, 101, 32, 108, 105, 110, 101]⟩, .string ⟨#[10, 120, 10, 10, 121, 121, 10]⟩] 9) = w1 at *
  clear hw
  go_wp2_with fail
  go_loopw [2] (fun v wr => ∃ i : Nat, v = .int .i64 i ∧ i ≤ 7 ∧ Below w1.heap.size w1 wr) (fun v _ => 7 - (intOf v).toNat)
  case atStart => exact ⟨0, rfl, by decide, Below.refl _ _⟩
  case round =>
  obtain ⟨i, rfl, hi, hB⟩ := hrel
  by_cases hi7 : i < 7
  · have g1 : decide ((i : Int) < 7) = true := by simp <;> omega
    have HB := Lib.hid hB
    clear hB
    go_wp2_with fail
    go_loopw [3] (fun v wr => ∃ n : Int, v = .int .i64 n ∧ (-1 ≤ n ∧ n ≤ 12) ∧ Below w1.heap.size w1 wr) (fun v _ => (12 - intOf v).toNat)
    case atStart => exact ⟨-1, rfl, by decide, HB.out⟩
    case round =>
    clear HB
    obtain ⟨n, rfl, hn, hB⟩ := hrel
    have HB := Lib.hid hB
    clear hB
    by_cases hn12 : n < 12
    · have g2 : decide (n < 12) = true := by simp <;> omega
      go_wp2_with fail
      go_loopw [4] (fun v wr => ∃ k : Int, v = .int .i64 k ∧ (-1 ≤ k ∧ k ≤ 6) ∧ Below w1.heap.size w1 wr) (fun v _ => (6 - intOf v).toNat)
      case atStart => exact ⟨-1, rfl, by decide, HB.out⟩
      case round =>
      clear HB
      obtain ⟨k, rfl, hk, hB⟩ := hrel
      by_cases hk6 : k < 6
      · have g3 : decide (k < 6) = true := by simp <;> omega
        obtain ⟨s, hs⟩ := ktx_at hi7
        have hI : (i : Int) < 7 := by omega
        have hz := HT.out.1.lt
        have HM := Lib.hid (And.intro hz ((HT.out.1.cell i).trans hs))
        have m0 := (hB.cell (p := ⟨w.heap.size, i, none⟩) hz).trans HM.out.2
        have HB := Lib.hid hB
        clear hB hs hz
        go_wp2_with (first
          | (go_at_call 3; go_loud (refine (places_any s n k n _ (by omega) (by omega)).mono ?_; rintro e wa ⟨rfl, hb⟩; have HB := Lib.hid (HB.out.trans (hb.mono HB.out.size)); clear hb m0; have m0 := (HB.out.cell (p := ⟨w.heap.size, i, none⟩) HM.out.1).trans HM.out.2))
          | (go_at_call 5; go_loud (refine (back_any s n k k _ ⟨by omega, by omega⟩ ⟨by omega, by omega⟩ ⟨by omega, by omega⟩).mono ?_; rintro e wb ⟨rfl, hb⟩; have HB := Lib.hid (HB.out.trans (hb.mono HB.out.size)); clear hb m0)))
        go_roundw
        case rel => exact ⟨k + 1, by go_num, by omega, HB.out⟩
        case measure => simp [intOf]; omega
      have g3 : decide (k < 6) = false := by simp <;> omega
      go_wp2_with fail
      go_roundw
      case rel => exact ⟨n + 1, by go_num, by omega, hB⟩
      case measure => simp [intOf]; omega
    have g2 : decide (n < 12) = false := by simp <;> omega
    go_wp2_with fail
    go_roundw
    case rel => exact ⟨i + 1, by go_num, by omega, HB.out⟩
    case measure => simp [intOf]; omega
  have g1 : decide ((i : Int) < 7) = false := by simp <;> omega
  clear hi hi7
  have HB := Lib.hid (HT.out.2.trans (hB.mono HT.out.2.size))
  clear HT hB
  go_upto_region 14 with fail
  have HT := Lib.hid (And.intro (Bk.new wr 3 #[.int .i64 0, .int .i64 1, .int .i64 (-1), .int .i64 7, .int .i64 9223372036854775807, .int .i64 (-9223372036854775808)]) (HB.out.trans ((below_box wr (.cells #[.int .i64 0, .int .i64 1, .int .i64 (-1), .int .i64 7, .int .i64 9223372036854775807, .int .i64 (-9223372036854775808)] 3)).mono HB.out.size)))
  generalize hg : wr.heap.size = gv at *
  generalize hw : wr.alloc (.cells #[.int .i64 0, .int .i64 1, .int .i64 (-1), .int .i64 7, .int .i64 9223372036854775807, .int .i64 (-9223372036854775808)] 3) = w5 at *
  clear hg hw HB
  go_wp2_with fail
  go_loopw [6] (fun v wr => ∃ i : Nat, v = .int .i64 i ∧ i ≤ 6 ∧ Below w5.heap.size w5 wr) (fun v _ => 6 - (intOf v).toNat)
  case atStart => exact ⟨0, rfl, by decide, Below.refl _ _⟩
  case round =>
  obtain ⟨i, rfl, hi, hB⟩ := hrel
  by_cases hi6 : i < 6
  · have g1 : decide ((i : Int) < 6) = true := by simp <;> omega
    have HB := Lib.hid hB
    clear hB
    go_wp2_with fail
    go_loopw [7] (fun v wr => ∃ k : Nat, v = .int .i64 k ∧ k ≤ 6 ∧ Below w5.heap.size w5 wr) (fun v _ => 6 - (intOf v).toNat)
    case atStart => exact ⟨0, rfl, by decide, HB.out⟩
    case round =>
    clear HB
    obtain ⟨k, rfl, hk, hB⟩ := hrel
    by_cases hk6 : k < 6
    · have g2 : decide ((k : Int) < 6) = true := by simp <;> omega
      obtain ⟨x, hx, hwx⟩ := kva_at hi6
      obtain ⟨y, hy, hwy⟩ := kva_at hk6
      have hz := HT.out.1.lt
      have HM := Lib.hid (And.intro (Nat.lt_of_lt_of_le hz hB.size) (And.intro ((hB.cell (p := ⟨gv, i, none⟩) hz).trans ((HT.out.1.cell i).trans hx)) ((hB.cell (p := ⟨gv, k, none⟩) hz).trans ((HT.out.1.cell k).trans hy))))
      have HB := Lib.hid hB
      have HR := Lib.hid (And.intro hwx hwy)
      clear hB hx hy hz hwx hwy
      go_upto_region 20 with fail
      refine wp_region_pair [0, 1, 2, 3, 4, 5, 6, 7, 8, 9, 10, 11, 12, 13, 14, 15, 16, 17] [(64, cst (.slice (some ⟨gv, 0, none⟩) 6 6)), (65, cst (.int .i64 (i : Int))), (66, cst (.pointer (some ⟨gv, i, none⟩))), (67, cst (.int .i64 x)), (68, cst (.slice (some ⟨gv, 0, none⟩) 6 6)), (69, cst (.int .i64 (k : Int))), (70, cst (.pointer (some ⟨gv, k, none⟩))), (71, cst (.int .i64 y)), (72, cst (.agg #[.int .i64 x, .int .i64 y])), (73, cst (.slice (some ⟨gv, 0, none⟩) 6 6)), (74, cst (.int .i64 (k : Int))), (75, cst (.pointer (some ⟨gv, k, none⟩))), (76, cst (.int .i64 y)), (77, cst (.agg #[.int .i64 y, .int .i64 7])), (8, ptr wr.heap.size 23 2), (9, ptr wr.heap.size 23 2)] 14 15 8 9 23 (.int .i64 x) (.int .i64 y) (by kernel_rfl) (by kernel_rfl) (by kernel_rfl) rfl (by simp) ?_ rfl rfl (by decide) (of_decide_eq_true (by kernel_rfl)) (of_decide_eq_true (by kernel_rfl)) (by kernel_rfl) ?_ ?_ ?_ ?_
      · intro q t V h
        have hm := List.mem_of_getElem? h
        simp only [List.mem_cons, List.not_mem_nil, or_false, Prod.mk.injEq] at hm
        rcases hm with ⟨rfl, rfl⟩ | ⟨rfl, rfl⟩ | ⟨rfl, rfl⟩ | ⟨rfl, rfl⟩ | ⟨rfl, rfl⟩ | ⟨rfl, rfl⟩ | ⟨rfl, rfl⟩ | ⟨rfl, rfl⟩ | ⟨rfl, rfl⟩ | ⟨rfl, rfl⟩ | ⟨rfl, rfl⟩ | ⟨rfl, rfl⟩ | ⟨rfl, rfl⟩ | ⟨rfl, rfl⟩ | ⟨rfl, rfl⟩ | ⟨rfl, rfl⟩
        all_goals first | exact cst_stable _ | exact ptr_stable _ _ _
      · intro q t V a w' hsp ha hb hF hB hd
        match q, hsp, ha, hb, hd with
        | 0, hsp, _, _, hd =>
          obtain ⟨rfl, rfl⟩ := Prod.mk.inj (Option.some.inj hsp)
          have e0 := hF.2.2 5 (by simp)
          simp at e0
          clear hd hF
          refine wpOp_step rfl (fun K' hK => ?_)
          go_simp
          exact hK _ _ ⟨_, rfl, Below.refl _ _, cst_ok⟩
        | 1, hsp, _, _, hd =>
          obtain ⟨rfl, rfl⟩ := Prod.mk.inj (Option.some.inj hsp)
          have e0 := hF.2.2 6 (by simp)
          simp at e0
          clear hd hF
          refine wpOp_step rfl (fun K' hK => ?_)
          go_simp
          exact hK _ _ ⟨_, rfl, Below.refl _ _, cst_ok⟩
        | 2, hsp, _, _, hd =>
          obtain ⟨rfl, rfl⟩ := Prod.mk.inj (Option.some.inj hsp)
          have v0 : a.tmps[64]?.getD undef = _ := hd 0 (of_decide_eq_true (by kernel_rfl)) _ _ rfl
          have v1 : a.tmps[65]?.getD undef = _ := hd 1 (of_decide_eq_true (by kernel_rfl)) _ _ rfl
          clear hd hF
          have hI : (i : Int) < 6 := (by omega)
          refine wpOp_step rfl (fun K' hK => ?_)
          go_simp
          exact hK _ _ ⟨_, rfl, Below.refl _ _, cst_ok⟩
        | 3, hsp, _, _, hd =>
          obtain ⟨rfl, rfl⟩ := Prod.mk.inj (Option.some.inj hsp)
          have v2 : a.tmps[66]?.getD undef = _ := hd 2 (of_decide_eq_true (by kernel_rfl)) _ _ rfl
          clear hd hF
          have m0 := (hB.cell (p := ⟨gv, i, none⟩) HM.out.1).trans HM.out.2.1
          refine wpOp_step rfl (fun K' hK => ?_)
          go_simp
          exact hK _ _ ⟨_, rfl, Below.refl _ _, cst_ok⟩
        | 4, hsp, _, _, hd =>
          obtain ⟨rfl, rfl⟩ := Prod.mk.inj (Option.some.inj hsp)
          have e0 := hF.2.2 5 (by simp)
          simp at e0
          clear hd hF
          refine wpOp_step rfl (fun K' hK => ?_)
          go_simp
          exact hK _ _ ⟨_, rfl, Below.refl _ _, cst_ok⟩
        | 5, hsp, _, _, hd =>
          obtain ⟨rfl, rfl⟩ := Prod.mk.inj (Option.some.inj hsp)
          have e0 := hF.2.2 7 (by simp)
          simp at e0
          clear hd hF
          refine wpOp_step rfl (fun K' hK => ?_)
          go_simp
          exact hK _ _ ⟨_, rfl, Below.refl _ _, cst_ok⟩
        | 6, hsp, _, _, hd =>
          obtain ⟨rfl, rfl⟩ := Prod.mk.inj (Option.some.inj hsp)
          have v4 : a.tmps[68]?.getD undef = _ := hd 4 (of_decide_eq_true (by kernel_rfl)) _ _ rfl
          have v5 : a.tmps[69]?.getD undef = _ := hd 5 (of_decide_eq_true (by kernel_rfl)) _ _ rfl
          clear hd hF
          have hI : (k : Int) < 6 := (by omega)
          refine wpOp_step rfl (fun K' hK => ?_)
          go_simp
          exact hK _ _ ⟨_, rfl, Below.refl _ _, cst_ok⟩
        | 7, hsp, _, _, hd =>
          obtain ⟨rfl, rfl⟩ := Prod.mk.inj (Option.some.inj hsp)
          have v6 : a.tmps[70]?.getD undef = _ := hd 6 (of_decide_eq_true (by kernel_rfl)) _ _ rfl
          clear hd hF
          have m0 := (hB.cell (p := ⟨gv, k, none⟩) HM.out.1).trans HM.out.2.2
          refine wpOp_step rfl (fun K' hK => ?_)
          go_simp
          exact hK _ _ ⟨_, rfl, Below.refl _ _, cst_ok⟩
        | 8, hsp, _, _, hd =>
          obtain ⟨rfl, rfl⟩ := Prod.mk.inj (Option.some.inj hsp)
          have v3 : a.tmps[67]?.getD undef = _ := hd 3 (of_decide_eq_true (by kernel_rfl)) _ _ rfl
          have v7 : a.tmps[71]?.getD undef = _ := hd 7 (of_decide_eq_true (by kernel_rfl)) _ _ rfl
          clear hd hF
          refine wpOp_step rfl (fun K' hK => ?_)
          go_simp
          exact hK _ _ ⟨_, rfl, Below.refl _ _, cst_ok⟩
        | 9, hsp, _, _, hd =>
          obtain ⟨rfl, rfl⟩ := Prod.mk.inj (Option.some.inj hsp)
          have e0 := hF.2.2 5 (by simp)
          simp at e0
          clear hd hF
          refine wpOp_step rfl (fun K' hK => ?_)
          go_simp
          exact hK _ _ ⟨_, rfl, Below.refl _ _, cst_ok⟩
        | 10, hsp, _, _, hd =>
          obtain ⟨rfl, rfl⟩ := Prod.mk.inj (Option.some.inj hsp)
          have e0 := hF.2.2 7 (by simp)
          simp at e0
          clear hd hF
          refine wpOp_step rfl (fun K' hK => ?_)
          go_simp
          exact hK _ _ ⟨_, rfl, Below.refl _ _, cst_ok⟩
        | 11, hsp, _, _, hd =>
          obtain ⟨rfl, rfl⟩ := Prod.mk.inj (Option.some.inj hsp)
          have v9 : a.tmps[73]?.getD undef = _ := hd 9 (of_decide_eq_true (by kernel_rfl)) _ _ rfl
          have v10 : a.tmps[74]?.getD undef = _ := hd 10 (of_decide_eq_true (by kernel_rfl)) _ _ rfl
          clear hd hF
          have hI : (k : Int) < 6 := (by omega)
          refine wpOp_step rfl (fun K' hK => ?_)
          go_simp
          exact hK _ _ ⟨_, rfl, Below.refl _ _, cst_ok⟩
        | 12, hsp, _, _, hd =>
          obtain ⟨rfl, rfl⟩ := Prod.mk.inj (Option.some.inj hsp)
          have v11 : a.tmps[75]?.getD undef = _ := hd 11 (of_decide_eq_true (by kernel_rfl)) _ _ rfl
          clear hd hF
          have m0 := (hB.cell (p := ⟨gv, k, none⟩) HM.out.1).trans HM.out.2.2
          refine wpOp_step rfl (fun K' hK => ?_)
          go_simp
          exact hK _ _ ⟨_, rfl, Below.refl _ _, cst_ok⟩
        | 13, hsp, _, _, hd =>
          obtain ⟨rfl, rfl⟩ := Prod.mk.inj (Option.some.inj hsp)
          have v12 : a.tmps[76]?.getD undef = _ := hd 12 (of_decide_eq_true (by kernel_rfl)) _ _ rfl
          clear hd hF
          refine wpOp_step rfl (fun K' hK => ?_)
          go_simp
          exact hK _ _ ⟨_, rfl, Below.refl _ _, cst_ok⟩
        | 14, _, ha, _, _ => exact absurd rfl ha
        | 15, _, _, hb, _ => exact absurd rfl hb
        | q + 16, hsp, _, _, _ => simp at hsp
      · intro q t a w' h
        rcases h with ⟨rfl, rfl⟩ | ⟨rfl, rfl⟩
        · refine wpOp_step rfl (fun K' hK => ?_)
          go_simp
          exact hK _ _ ⟨rfl, below_box _ _, (by simp), _, rfl, Bk.new _ _ _⟩
        · refine wpOp_step rfl (fun K' hK => ?_)
          go_simp
          exact hK _ _ ⟨rfl, below_box _ _, (by simp), _, rfl, Bk.new _ _ _⟩
      · intro a w' g cs hF hB hd e1 hcs hk
        have v8 : a.tmps[72]?.getD undef = _ := hd 8 (of_decide_eq_true (by kernel_rfl)) _ _ rfl
        obtain ⟨z0, z1, c0, c1⟩ := hk.cells2 hcs
        have f0 := hk.frozen 0
        have f1 := hk.frozen 1
        have kz := hk.lt
        clear hd hF hk
        refine wpOp_step rfl (fun K' hK => ?_)
        go_simp
        exact hK _ _ ⟨rfl, rfl⟩
      intro a w' g h cs hF hB hv e1 e2 hgh hg hh hk hcs hk2
      have v0 : a.tmps[64]?.getD undef = _ := hv 0 _ _ rfl
      have v1 : a.tmps[65]?.getD undef = _ := hv 1 _ _ rfl
      have v2 : a.tmps[66]?.getD undef = _ := hv 2 _ _ rfl
      have v3 : a.tmps[67]?.getD undef = _ := hv 3 _ _ rfl
      have v4 : a.tmps[68]?.getD undef = _ := hv 4 _ _ rfl
      have v5 : a.tmps[69]?.getD undef = _ := hv 5 _ _ rfl
      have v6 : a.tmps[70]?.getD undef = _ := hv 6 _ _ rfl
      have v7 : a.tmps[71]?.getD undef = _ := hv 7 _ _ rfl
      have v8 : a.tmps[72]?.getD undef = _ := hv 8 _ _ rfl
      have v9 : a.tmps[73]?.getD undef = _ := hv 9 _ _ rfl
      have v10 : a.tmps[74]?.getD undef = _ := hv 10 _ _ rfl
      have v11 : a.tmps[75]?.getD undef = _ := hv 11 _ _ rfl
      have v12 : a.tmps[76]?.getD undef = _ := hv 12 _ _ rfl
      have v13 : a.tmps[77]?.getD undef = _ := hv 13 _ _ rfl
      obtain ⟨z0, z1, c0, c1⟩ := hk2.cells2 hcs
      have f0 := hk2.frozen 0
      have f1 := hk2.frozen 1
      have kz := hk2.lt
      clear hv
      have HQ := Lib.hid (And.intro ((hk.far (p := ⟨h, 0, none⟩) hgh (.int .i64 y)).far (p := ⟨h, 1, none⟩) hgh (.int .i64 7)) (And.intro (hk2.stored2 hcs (.int .i64 y) (.int .i64 7)) ((hB.setCell (p := ⟨h, 0, none⟩) hh (.int .i64 y)).setCell (p := ⟨h, 1, none⟩) hh (.int .i64 7))))
      clear hk hk2
      refine wpOp_step rfl (fun K' hK => ?_)
      go_simp
      refine hK _ _ ?_
      clear hK
      have hE := hF.out
      rw [hE]
      clear hE hF
      simp only [List.map_cons, List.map_nil, List.foldl_cons, List.foldl_nil, Act.put, List.setIfInBounds_toArray, List.set_cons_zero, List.set_cons_succ, Array.getD_eq_getD_getElem?, v0, v1, v2, v3, v4, v5, v6, v7, v8, v9, v10, v11, v12, v13, e1, e2]
      clear v0 v1 v2 v3 v4 v5 v6 v7 v8 v9 v10 v11 v12 v13 e1 e2 c0 c1 f0 f1 kz
      generalize hw : (w'.setCell ⟨h, 0, none⟩ (.int .i64 y)).setCell ⟨h, 1, none⟩ (.int .i64 7) = w6 at *
      clear hw
      have HM := Lib.hid (And.intro (Nat.lt_of_lt_of_le HM.out.1 HQ.out.2.2.size) ((HQ.out.2.2.cell (p := ⟨gv, i, none⟩) HM.out.1).trans HM.out.2.1))
      have HQ := Lib.hid (And.intro HQ.out.1 (And.intro HQ.out.2.1 (HB.out.trans (HQ.out.2.2.mono HB.out.size))))
      clear HB hB
      go_upto_region 21 with fail
      refine wp_region_walk [0, 1, 2, 3, 4, 5, 6, 7, 8, 9, 10, 11, 12, 13, 14, 15] [78, 79, 80, 81, 82, 83, 84, 85, 86, 87, 88, 89, 90, 91, 92, 10] 0 (by kernel_rfl) (by kernel_rfl) (by kernel_rfl) rfl (by simp) (by kernel_rfl) (by kernel_rfl) ?_
      apply RegW.val 0 rfl
      · intro a w' hF hB hd; have e8 := hF.2.2 8 (by decide); simp at e8; clear hd hF; have hk := (HQ.out.1).keep hB; have k0 := hk.cell 0; have k1 := hk.cell 1; have kz := hk.lt; simp at k0 k1; refine wpOp_step rfl (fun K' hK => ?_); go_simp; exact hK _ _ ⟨_, rfl, Below.refl _ _, cst_ok⟩
      apply RegW.val 1 rfl
      · intro a w' hF hB hd; have v0 : a.tmps[78]?.getD undef = _ := hd 0 (of_decide_eq_true (by kernel_rfl)) 0 _ _ rfl rfl; clear hd hF; refine wpOp_step rfl (fun K' hK => ?_); go_simp; exact hK _ _ ⟨_, rfl, Below.refl _ _, cst_ok⟩
      apply RegW.val 2 rfl
      · intro a w' hF hB hd; have e8 := hF.2.2 8 (by decide); simp at e8; clear hd hF; have hk := (HQ.out.1).keep hB; have k0 := hk.cell 0; have k1 := hk.cell 1; have kz := hk.lt; simp at k0 k1; refine wpOp_step rfl (fun K' hK => ?_); go_simp; exact hK _ _ ⟨_, rfl, Below.refl _ _, cst_ok⟩
      apply RegW.val 3 rfl
      · intro a w' hF hB hd; have v2 : a.tmps[80]?.getD undef = _ := hd 2 (of_decide_eq_true (by kernel_rfl)) 0 _ _ rfl rfl; clear hd hF; refine wpOp_step rfl (fun K' hK => ?_); go_simp; exact hK _ _ ⟨_, rfl, Below.refl _ _, cst_ok⟩
      apply RegW.val 4 rfl
      · intro a w' hF hB hd; have e9 := hF.2.2 9 (by decide); simp at e9; clear hd hF; have hk := (HQ.out.2.1).keep hB; have k0 := hk.cell 0; have k1 := hk.cell 1; have kz := hk.lt; simp at k0 k1; refine wpOp_step rfl (fun K' hK => ?_); go_simp; exact hK _ _ ⟨_, rfl, Below.refl _ _, cst_ok⟩
      apply RegW.val 5 rfl
      · intro a w' hF hB hd; have v4 : a.tmps[82]?.getD undef = _ := hd 4 (of_decide_eq_true (by kernel_rfl)) 0 _ _ rfl rfl; clear hd hF; refine wpOp_step rfl (fun K' hK => ?_); go_simp; exact hK _ _ ⟨_, rfl, Below.refl _ _, cst_ok⟩
      apply RegW.val 6 rfl
      · intro a w' hF hB hd; have e9 := hF.2.2 9 (by decide); simp at e9; clear hd hF; have hk := (HQ.out.2.1).keep hB; have k0 := hk.cell 0; have k1 := hk.cell 1; have kz := hk.lt; simp at k0 k1; refine wpOp_step rfl (fun K' hK => ?_); go_simp; exact hK _ _ ⟨_, rfl, Below.refl _ _, cst_ok⟩
      apply RegW.val 7 rfl
      · intro a w' hF hB hd; have e5 := hF.2.2 5 (by decide); simp at e5; clear hd hF; refine wpOp_step rfl (fun K' hK => ?_); go_simp; exact hK _ _ ⟨_, rfl, Below.refl _ _, cst_ok⟩
      apply RegW.val 8 rfl
      · intro a w' hF hB hd; have e6 := hF.2.2 6 (by decide); simp at e6; clear hd hF; refine wpOp_step rfl (fun K' hK => ?_); go_simp; exact hK _ _ ⟨_, rfl, Below.refl _ _, cst_ok⟩
      refine RegW.op 9 rfl (cst (.pointer (some ⟨gv, i, none⟩))) ?_ ?_
      · intro a w' hF hB hd; have v7 : a.tmps[85]?.getD undef = _ := hd 7 (of_decide_eq_true (by kernel_rfl)) 1 _ _ rfl rfl; have v8 : a.tmps[86]?.getD undef = _ := hd 8 (of_decide_eq_true (by kernel_rfl)) 0 _ _ rfl rfl; clear hd hF; have hI : (i : Int) < 6 := (by omega); refine wpOp_step rfl (fun K' hK => ?_); go_simp; exact hK _ _ ⟨_, rfl, Below.refl _ _, cst_ok⟩
      refine RegW.op 10 rfl (cst (.int .i64 x)) ?_ ?_
      · intro a w' hF hB hd; have v9 : a.tmps[87]?.getD undef = _ := hd 9 (of_decide_eq_true (by kernel_rfl)) 0 _ _ rfl rfl; clear hd hF; have m0 := (hB.cell (p := ⟨gv, i, none⟩) HM.out.1).trans HM.out.2; refine wpOp_step rfl (fun K' hK => ?_); go_simp; exact hK _ _ ⟨_, rfl, Below.refl _ _, cst_ok⟩
      apply RegW.val 11 rfl
      · intro a w' hF hB hd; have v6 : a.tmps[84]?.getD undef = _ := hd 6 (of_decide_eq_true (by kernel_rfl)) 4 _ _ rfl rfl; have v10 : a.tmps[88]?.getD undef = _ := hd 10 (of_decide_eq_true (by kernel_rfl)) 0 _ _ rfl rfl; clear hd hF; refine wpOp_step rfl (fun K' hK => ?_); go_simp; exact hK _ _ ⟨_, rfl, Below.refl _ _, cst_ok⟩
      apply RegW.val 12 rfl
      · intro a w' hF hB hd; have e8 := hF.2.2 8 (by decide); simp at e8; clear hd hF; have hk := (HQ.out.1).keep hB; have k0 := hk.cell 0; have k1 := hk.cell 1; have kz := hk.lt; simp at k0 k1; refine wpOp_step rfl (fun K' hK => ?_); go_simp; exact hK _ _ ⟨_, rfl, Below.refl _ _, cst_ok⟩
      apply RegW.val 13 rfl
      · intro a w' hF hB hd; have v12 : a.tmps[90]?.getD undef = _ := hd 12 (of_decide_eq_true (by kernel_rfl)) 0 _ _ rfl rfl; clear hd hF; refine wpOp_step rfl (fun K' hK => ?_); go_simp; exact hK _ _ ⟨_, rfl, Below.refl _ _, cst_ok⟩
      refine RegW.op 14 rfl (slc w6.heap.size 45 #[.int .i64 x, .int .i64 y, .int .i64 0, .int .i64 x, .int .i64 y, .int .i64 80, .int .i64 y, .int .i64 7, .int .i64 81, .int .i64 y, .int .i64 7, .int .i64 x, .int .i64 x, .int .i64 y, .int .i64 82]) ?_ ?_
      · intro a w' hF hB hd; have v1 : a.tmps[79]?.getD undef = _ := hd 1 (of_decide_eq_true (by kernel_rfl)) 12 _ _ rfl rfl; have v3 : a.tmps[81]?.getD undef = _ := hd 3 (of_decide_eq_true (by kernel_rfl)) 10 _ _ rfl rfl; have v5 : a.tmps[83]?.getD undef = _ := hd 5 (of_decide_eq_true (by kernel_rfl)) 8 _ _ rfl rfl; have v11 : a.tmps[89]?.getD undef = _ := hd 11 (of_decide_eq_true (by kernel_rfl)) 2 _ _ rfl rfl; have v13 : a.tmps[91]?.getD undef = _ := hd 13 (of_decide_eq_true (by kernel_rfl)) 0 _ _ rfl rfl; clear hd hF; refine wpOp_step rfl (fun K' hK => ?_); go_simp; exact hK _ _ ⟨_, rfl, below_box _ _, ⟨_, rfl, hB.size, Bk.new _ _ _⟩⟩
      refine RegW.op 15 rfl (slc w6.heap.size 45 #[.int .i64 x, .int .i64 y, .int .i64 0, .int .i64 x, .int .i64 y, .int .i64 80, .int .i64 y, .int .i64 7, .int .i64 81, .int .i64 y, .int .i64 7, .int .i64 x, .int .i64 x, .int .i64 y, .int .i64 82]) ?_ ?_
      · intro a w' hF hB hd; have u14 := hd 14 (of_decide_eq_true (by kernel_rfl)) 0 _ _ rfl rfl; obtain ⟨g14, p14, q14, k14⟩ := u14; clear hd hF; refine wpOp_step rfl (fun K' hK => ?_); go_simp; exact hK _ _ ⟨_, rfl, Below.refl _ _, ⟨_, rfl, q14, k14⟩⟩
      refine RegW.done (fun a w' hF hB hv => ?_)
      have v0 : a.tmps[78]?.getD undef = _ := hv 15 _ _ rfl
      have v1 : a.tmps[79]?.getD undef = _ := hv 14 _ _ rfl
      have v2 : a.tmps[80]?.getD undef = _ := hv 13 _ _ rfl
      have v3 : a.tmps[81]?.getD undef = _ := hv 12 _ _ rfl
      have v4 : a.tmps[82]?.getD undef = _ := hv 11 _ _ rfl
      have v5 : a.tmps[83]?.getD undef = _ := hv 10 _ _ rfl
      have v6 : a.tmps[84]?.getD undef = _ := hv 9 _ _ rfl
      have v7 : a.tmps[85]?.getD undef = _ := hv 8 _ _ rfl
      have v8 : a.tmps[86]?.getD undef = _ := hv 7 _ _ rfl
      have v9 : a.tmps[87]?.getD undef = _ := hv 6 _ _ rfl
      have v10 : a.tmps[88]?.getD undef = _ := hv 5 _ _ rfl
      have v11 : a.tmps[89]?.getD undef = _ := hv 4 _ _ rfl
      have v12 : a.tmps[90]?.getD undef = _ := hv 3 _ _ rfl
      have v13 : a.tmps[91]?.getD undef = _ := hv 2 _ _ rfl
      have u14 := hv 1 _ _ rfl
      obtain ⟨g14, p14, q14, k14⟩ := u14
      have u15 := hv 0 _ _ rfl
      obtain ⟨g15, p15, q15, k15⟩ := u15
      have hE := hF.out
      rw [hE]
      clear hE hF hv
      simp only [List.foldl_cons, List.foldl_nil, Act.put, List.setIfInBounds_toArray, List.set_cons_zero, List.set_cons_succ, Array.getD_eq_getD_getElem?, v0, v1, v2, v3, v4, v5, v6, v7, v8, v9, v10, v11, v12, v13, p14, p15]
      clear v0 v1 v2 v3 v4 v5 v6 v7 v8 v9 v10 v11 v12 v13 p14 p15
      have HF := Lib.hid (rwF_of_bk (l := [(x, y, 0), (x, y, 80), (y, 7, 81), (y, 7, x), (x, y, 82)]) k15)
      have HS := Lib.hid k15
      have HQ := Lib.hid (And.intro (HQ.out.1.keep hB) (And.intro (HQ.out.2.1.keep hB) (HQ.out.2.2.trans (hB.mono HQ.out.2.2.size))))
      have hall : AllF [(x, y, 0), (x, y, 80), (y, 7, 81), (y, 7, x), (x, y, 82)] := fun f hf => by
        simp only [List.mem_cons, List.not_mem_nil, or_false] at hf
        rcases hf with rfl | rfl | rfl | rfl | rfl
        all_goals exact ⟨(by first | exact HR.out.1 | exact HR.out.2), (by first | exact HR.out.2 | (unfold Whl; simp)), (by first | exact HR.out.1 | (unfold Whl; simp))⟩
      have HA := Lib.hid hall
      obtain ⟨m, hm⟩ : ∃ m, (i + k) % 6 = m := ⟨_, rfl⟩
      have hm5 : m ≤ 5 := by omega
      have HTm := Lib.hid (show ((i : Int) + (k : Int)).tmod 6 = (m : Int) by rw [Int.tmod_eq_emod_of_nonneg (by omega)]; omega)
      clear hB hall k14 k15 q14 q15 HM
      generalize w' = w7 at *
      go_upto_region 22 with fail
      refine wp_region_walk [0, 1, 2, 3, 4, 5, 6, 7, 8, 9, 10, 11, 12, 13, 14, 15, 16, 17, 18, 19, 20, 21, 22, 23, 24, 25, 26, 27, 28, 29] [93, 94, 95, 96, 97, 98, 99, 100, 101, 102, 103, 104, 105, 106, 107, 108, 109, 110, 111, 112, 113, 114, 115, 116, 117, 118, 119, 120, 121, 122] 0 (by kernel_rfl) (by kernel_rfl) (by kernel_rfl) rfl (by simp) (by kernel_rfl) (by kernel_rfl) ?_
      apply RegW.val 0 rfl
      · intro a w' hF hB hd; have e8 := hF.2.2 8 (by decide); simp at e8; clear hd hF; have hk := (HQ.out.1).keep hB; have k0 := hk.cell 0; have k1 := hk.cell 1; have kz := hk.lt; simp at k0 k1; refine wpOp_step rfl (fun K' hK => ?_); go_simp; exact hK _ _ ⟨_, rfl, Below.refl _ _, cst_ok⟩
      apply RegW.val 1 rfl
      · intro a w' hF hB hd; have e9 := hF.2.2 9 (by decide); simp at e9; clear hd hF; have hk := (HQ.out.2.1).keep hB; have k0 := hk.cell 0; have k1 := hk.cell 1; have kz := hk.lt; simp at k0 k1; refine wpOp_step rfl (fun K' hK => ?_); go_simp; exact hK _ _ ⟨_, rfl, Below.refl _ _, cst_ok⟩
      apply RegW.val 2 rfl
      · intro a w' hF hB hd; have e10 := hF.2.2 10 (by decide); simp at e10; clear hd hF; refine wpOp_step rfl (fun K' hK => ?_); go_simp; exact hK _ _ ⟨_, rfl, Below.refl _ _, cst_ok⟩
      apply RegW.val 3 rfl
      · intro a w' hF hB hd; have e6 := hF.2.2 6 (by decide); simp at e6; clear hd hF; refine wpOp_step rfl (fun K' hK => ?_); go_simp; exact hK _ _ ⟨_, rfl, Below.refl _ _, cst_ok⟩
      apply RegW.val 4 rfl
      · intro a w' hF hB hd; have e7 := hF.2.2 7 (by decide); simp at e7; clear hd hF; refine wpOp_step rfl (fun K' hK => ?_); go_simp; exact hK _ _ ⟨_, rfl, Below.refl _ _, cst_ok⟩
      refine RegW.op 5 rfl (cst (.int .i64 ((i : Int) + (k : Int)))) ?_ ?_
      · intro a w' hF hB hd; have v3 : a.tmps[96]?.getD undef = _ := hd 3 (of_decide_eq_true (by kernel_rfl)) 1 _ _ rfl rfl; have v4 : a.tmps[97]?.getD undef = _ := hd 4 (of_decide_eq_true (by kernel_rfl)) 0 _ _ rfl rfl; clear hd hF; refine wpOp_step rfl (fun K' hK => ?_); go_simp; rw [IntWalk.i64_in ((i : Int) + (k : Int)) (by omega)]; exact hK _ _ ⟨_, rfl, Below.refl _ _, cst_ok⟩
      refine RegW.op 6 rfl (cst (.int .i64 (m : Int))) ?_ ?_
      · intro a w' hF hB hd; have v5 : a.tmps[98]?.getD undef = _ := hd 5 (of_decide_eq_true (by kernel_rfl)) 0 _ _ rfl rfl; clear hd hF; refine wpOp_step rfl (fun K' hK => ?_); go_simp; rw [HTm.out]; exact hK _ _ ⟨_, rfl, Below.refl _ _, cst_ok⟩
      refine RegW.op 7 rfl (cst (.slice (some ⟨g15, 0, none⟩) m 5)) ?_ ?_
      · intro a w' hF hB hd; have v2 : a.tmps[95]?.getD undef = _ := hd 2 (of_decide_eq_true (by kernel_rfl)) 4 _ _ rfl rfl; have v6 : a.tmps[99]?.getD undef = _ := hd 6 (of_decide_eq_true (by kernel_rfl)) 0 _ _ rfl rfl; clear hd hF; have hI : (m : Int) ≤ 5 := (by omega); refine wpOp_step rfl (fun K' hK => ?_); go_simp; exact hK _ _ ⟨_, rfl, Below.refl _ _, cst_ok⟩
      apply RegW.val 8 rfl
      · intro a w' hF hB hd; have e8 := hF.2.2 8 (by decide); simp at e8; clear hd hF; have hk := (HQ.out.1).keep hB; have k0 := hk.cell 0; have k1 := hk.cell 1; have kz := hk.lt; simp at k0 k1; refine wpOp_step rfl (fun K' hK => ?_); go_simp; exact hK _ _ ⟨_, rfl, Below.refl _ _, cst_ok⟩
      refine RegW.op 9 rfl (cst (.string (str (tx x y)))) ?_ ?_
      · intro a w' hF hB hd; have v8 : a.tmps[101]?.getD undef = _ := hd 8 (of_decide_eq_true (by kernel_rfl)) 0 _ _ rfl rfl; clear hd hF; refine wpOp_step rfl (fun K' hK => ?_); go_simp; refine (text_p x y _ HR.out.1.1 HR.out.1.2 HR.out.2.1 HR.out.2.2).mono ?_; rintro e w2 ⟨rfl, hb⟩; exact hK _ _ ⟨_, rfl, hb, cst_ok⟩
      refine RegW.op 10 rfl (cst (.bool true)) ?_ ?_
      · intro a w' hF hB hd; have v0 : a.tmps[93]?.getD undef = _ := hd 0 (of_decide_eq_true (by kernel_rfl)) 9 _ _ rfl rfl; have v1 : a.tmps[94]?.getD undef = _ := hd 1 (of_decide_eq_true (by kernel_rfl)) 8 _ _ rfl rfl; have v7 : a.tmps[100]?.getD undef = _ := hd 7 (of_decide_eq_true (by kernel_rfl)) 2 _ _ rfl rfl; have v9 : a.tmps[102]?.getD undef = _ := hd 9 (of_decide_eq_true (by kernel_rfl)) 0 _ _ rfl rfl; clear hd hF; refine wpOp_step rfl (fun K' hK => ?_); go_simp; refine (tells_any x y y 7 _ m 5 _ _ _ ((HF.out.keep hB).take hm5) (HA.out.take m) HR.out).mono ?_; rintro e w2 ⟨rfl, hb⟩; exact hK _ _ ⟨_, rfl, hb, cst_ok⟩
      apply RegW.val 11 rfl
      · intro a w' hF hB hd; have v10 : a.tmps[103]?.getD undef = _ := hd 10 (of_decide_eq_true (by kernel_rfl)) 0 _ _ rfl rfl; clear hd hF; refine wpOp_step rfl (fun K' hK => ?_); go_simp; exact hK _ _ ⟨_, rfl, Below.refl _ _, cst_ok⟩
      apply RegW.val 12 rfl
      · intro a w' hF hB hd; have v11 : a.tmps[104]?.getD undef = _ := hd 11 (of_decide_eq_true (by kernel_rfl)) 0 _ _ rfl rfl; clear hd hF; refine wpOp_step rfl (fun K' hK => ?_); go_simp; exact hK _ _ ⟨_, rfl, Below.refl _ _, cst_ok⟩
      apply RegW.val 13 rfl
      · intro a w' hF hB hd; have v12 : a.tmps[105]?.getD undef = _ := hd 12 (of_decide_eq_true (by kernel_rfl)) 0 _ _ rfl rfl; have gd := tmp_bool v12; have e9 := hF.2.2 9 (by decide); simp at e9; clear hd hF; have hk := (HQ.out.2.1).keep hB; have k0 := hk.cell 0; have k1 := hk.cell 1; have kz := hk.lt; simp at k0 k1; refine wpOp_step rfl (fun K' hK => ?_); go_simp; exact hK _ _ ⟨_, rfl, Below.refl _ _, cst_ok⟩
      apply RegW.val 14 rfl
      · intro a w' hF hB hd; have v12 : a.tmps[105]?.getD undef = _ := hd 12 (of_decide_eq_true (by kernel_rfl)) 1 _ _ rfl rfl; have gd := tmp_bool v12; have e8 := hF.2.2 8 (by decide); simp at e8; clear hd hF; have hk := (HQ.out.1).keep hB; have k0 := hk.cell 0; have k1 := hk.cell 1; have kz := hk.lt; simp at k0 k1; refine wpOp_step rfl (fun K' hK => ?_); go_simp; exact hK _ _ ⟨_, rfl, Below.refl _ _, cst_ok⟩
      apply RegW.val 15 rfl
      · intro a w' hF hB hd; have v12 : a.tmps[105]?.getD undef = _ := hd 12 (of_decide_eq_true (by kernel_rfl)) 2 _ _ rfl rfl; have gd := tmp_bool v12; have e10 := hF.2.2 10 (by decide); simp at e10; clear hd hF; refine wpOp_step rfl (fun K' hK => ?_); go_simp; exact hK _ _ ⟨_, rfl, Below.refl _ _, cst_ok⟩
      apply RegW.val 16 rfl
      · intro a w' hF hB hd; have v12 : a.tmps[105]?.getD undef = _ := hd 12 (of_decide_eq_true (by kernel_rfl)) 3 _ _ rfl rfl; have gd := tmp_bool v12; have e10 := hF.2.2 10 (by decide); simp at e10; clear hd hF; refine wpOp_step rfl (fun K' hK => ?_); go_simp; exact hK _ _ ⟨_, rfl, Below.refl _ _, cst_ok⟩
      refine RegW.op 17 rfl (cst (.pointer (some ⟨g15, 9, none⟩))) ?_ ?_
      · intro a w' hF hB hd; have v12 : a.tmps[105]?.getD undef = _ := hd 12 (of_decide_eq_true (by kernel_rfl)) 4 _ _ rfl rfl; have v16 : a.tmps[109]?.getD undef = _ := hd 16 (of_decide_eq_true (by kernel_rfl)) 0 _ _ rfl rfl; have gd := tmp_bool v12; clear hd hF; refine wpOp_step rfl (fun K' hK => ?_); go_simp; exact hK _ _ ⟨_, rfl, Below.refl _ _, cst_ok⟩
      apply RegW.val 18 rfl
      · intro a w' hF hB hd; have v12 : a.tmps[105]?.getD undef = _ := hd 12 (of_decide_eq_true (by kernel_rfl)) 5 _ _ rfl rfl; have v17 : a.tmps[110]?.getD undef = _ := hd 17 (of_decide_eq_true (by kernel_rfl)) 0 _ _ rfl rfl; have gd := tmp_bool v12; clear hd hF; have hk := HS.out.keep hB; have k0 := hk.cell 9; have k1 := hk.cell 10; have k2 := hk.cell 11; have kz := hk.lt; simp at k0 k1 k2; refine wpOp_step rfl (fun K' hK => ?_); go_simp; exact hK _ _ ⟨_, rfl, Below.refl _ _, cst_ok⟩
      refine RegW.op 19 rfl (cst (.string (str (ftx y 7 x)))) ?_ ?_
      · intro a w' hF hB hd; have v12 : a.tmps[105]?.getD undef = _ := hd 12 (of_decide_eq_true (by kernel_rfl)) 6 _ _ rfl rfl; have v18 : a.tmps[111]?.getD undef = _ := hd 18 (of_decide_eq_true (by kernel_rfl)) 0 _ _ rfl rfl; have gd := tmp_bool v12; clear hd hF; refine wpOp_step rfl (fun K' hK => ?_); go_simp; refine (faultText_c y 7 x _ HR.out.2.1 HR.out.2.2 (by decide) (by decide) HR.out.1.1 HR.out.1.2).mono ?_; rintro e w2 ⟨rfl, hb⟩; exact hK _ _ ⟨_, rfl, hb, cst_ok⟩
      refine RegW.op 20 rfl (cst (.bool true)) ?_ ?_
      · intro a w' hF hB hd; have v12 : a.tmps[105]?.getD undef = _ := hd 12 (of_decide_eq_true (by kernel_rfl)) 7 _ _ rfl rfl; have v13 : a.tmps[106]?.getD undef = _ := hd 13 (of_decide_eq_true (by kernel_rfl)) 6 _ _ rfl rfl; have v14 : a.tmps[107]?.getD undef = _ := hd 14 (of_decide_eq_true (by kernel_rfl)) 5 _ _ rfl rfl; have v15 : a.tmps[108]?.getD undef = _ := hd 15 (of_decide_eq_true (by kernel_rfl)) 4 _ _ rfl rfl; have v19 : a.tmps[112]?.getD undef = _ := hd 19 (of_decide_eq_true (by kernel_rfl)) 0 _ _ rfl rfl; have gd := tmp_bool v12; clear hd hF; refine wpOp_step rfl (fun K' hK => ?_); go_simp; refine (tells_any y 7 x y _ 5 5 _ _ _ (HF.out.keep hB) HA.out ⟨HR.out.2, ⟨by decide, by decide⟩⟩).mono ?_; rintro e w2 ⟨rfl, hb⟩; exact hK _ _ ⟨_, rfl, hb, cst_ok⟩
      apply RegW.val 21 rfl
      · intro a w' hF hB hd; have v12 : a.tmps[105]?.getD undef = _ := hd 12 (of_decide_eq_true (by kernel_rfl)) 8 _ _ rfl rfl; have v20 : a.tmps[113]?.getD undef = _ := hd 20 (of_decide_eq_true (by kernel_rfl)) 0 _ _ rfl rfl; have gd := tmp_bool v12; clear hd hF; refine wpOp_step rfl (fun K' hK => ?_); go_simp; exact hK _ _ ⟨_, rfl, Below.refl _ _, cst_ok⟩
      apply RegW.val 22 rfl
      · intro a w' hF hB hd; have v12 : a.tmps[105]?.getD undef = _ := hd 12 (of_decide_eq_true (by kernel_rfl)) 9 _ _ rfl rfl; have v21 : a.tmps[114]?.getD undef = _ := hd 21 (of_decide_eq_true (by kernel_rfl)) 0 _ _ rfl rfl; clear hd hF; refine wpOp_step rfl (fun K' hK => ?_); go_simp; exact hK _ _ ⟨_, rfl, Below.refl _ _, cst_ok⟩
      apply RegW.val 23 rfl
      · intro a w' hF hB hd; have v22 : a.tmps[115]?.getD undef = _ := hd 22 (of_decide_eq_true (by kernel_rfl)) 0 _ _ rfl rfl; clear hd hF; refine wpOp_step rfl (fun K' hK => ?_); go_simp; exact hK _ _ ⟨_, rfl, Below.refl _ _, cst_ok⟩
      apply RegW.val 24 rfl
      · intro a w' hF hB hd; have v23 : a.tmps[116]?.getD undef = _ := hd 23 (of_decide_eq_true (by kernel_rfl)) 0 _ _ rfl rfl; have gd := tmp_bool v23; have e10 := hF.2.2 10 (by decide); simp at e10; clear hd hF; refine wpOp_step rfl (fun K' hK => ?_); go_simp; exact hK _ _ ⟨_, rfl, Below.refl _ _, cst_ok⟩
      refine RegW.op 25 rfl (cst (.pointer (some ⟨g15, 9, none⟩))) ?_ ?_
      · intro a w' hF hB hd; have v23 : a.tmps[116]?.getD undef = _ := hd 23 (of_decide_eq_true (by kernel_rfl)) 1 _ _ rfl rfl; have v24 : a.tmps[117]?.getD undef = _ := hd 24 (of_decide_eq_true (by kernel_rfl)) 0 _ _ rfl rfl; have gd := tmp_bool v23; clear hd hF; refine wpOp_step rfl (fun K' hK => ?_); go_simp; exact hK _ _ ⟨_, rfl, Below.refl _ _, cst_ok⟩
      apply RegW.val 26 rfl
      · intro a w' hF hB hd; have v23 : a.tmps[116]?.getD undef = _ := hd 23 (of_decide_eq_true (by kernel_rfl)) 2 _ _ rfl rfl; have v25 : a.tmps[118]?.getD undef = _ := hd 25 (of_decide_eq_true (by kernel_rfl)) 0 _ _ rfl rfl; have gd := tmp_bool v23; clear hd hF; have hk := HS.out.keep hB; have k0 := hk.cell 9; have k1 := hk.cell 10; have k2 := hk.cell 11; have kz := hk.lt; simp at k0 k1 k2; refine wpOp_step rfl (fun K' hK => ?_); go_simp; exact hK _ _ ⟨_, rfl, Below.refl _ _, cst_ok⟩
      refine RegW.op 27 rfl (cst (.bool true)) ?_ ?_
      · intro a w' hF hB hd; have v23 : a.tmps[116]?.getD undef = _ := hd 23 (of_decide_eq_true (by kernel_rfl)) 3 _ _ rfl rfl; have v26 : a.tmps[119]?.getD undef = _ := hd 26 (of_decide_eq_true (by kernel_rfl)) 0 _ _ rfl rfl; have gd := tmp_bool v23; clear hd hF; refine wpOp_step rfl (fun K' hK => ?_); go_simp; refine (back_any _ y 7 x _ HR.out.2 ⟨by decide, by decide⟩ HR.out.1).mono ?_; rintro e w2 ⟨rfl, hb⟩; exact hK _ _ ⟨_, rfl, hb, cst_ok⟩
      apply RegW.val 28 rfl
      · intro a w' hF hB hd; have v23 : a.tmps[116]?.getD undef = _ := hd 23 (of_decide_eq_true (by kernel_rfl)) 4 _ _ rfl rfl; have v27 : a.tmps[120]?.getD undef = _ := hd 27 (of_decide_eq_true (by kernel_rfl)) 0 _ _ rfl rfl; have gd := tmp_bool v23; clear hd hF; refine wpOp_step rfl (fun K' hK => ?_); go_simp; exact hK _ _ ⟨_, rfl, Below.refl _ _, cst_ok⟩
      apply RegW.val 29 rfl
      · intro a w' hF hB hd; have v23 : a.tmps[116]?.getD undef = _ := hd 23 (of_decide_eq_true (by kernel_rfl)) 5 _ _ rfl rfl; have v28 : a.tmps[121]?.getD undef = _ := hd 28 (of_decide_eq_true (by kernel_rfl)) 0 _ _ rfl rfl; clear hd hF; refine wpOp_step rfl (fun K' hK => ?_); go_simp; exact hK _ _ ⟨_, rfl, Below.refl _ _, cst_ok⟩
      refine RegW.done (fun a w' hF hB hv => ?_)
      have v0 : a.tmps[93]?.getD undef = _ := hv 29 _ _ rfl
      have v1 : a.tmps[94]?.getD undef = _ := hv 28 _ _ rfl
      have v2 : a.tmps[95]?.getD undef = _ := hv 27 _ _ rfl
      have v3 : a.tmps[96]?.getD undef = _ := hv 26 _ _ rfl
      have v4 : a.tmps[97]?.getD undef = _ := hv 25 _ _ rfl
      have v5 : a.tmps[98]?.getD undef = _ := hv 24 _ _ rfl
      have v6 : a.tmps[99]?.getD undef = _ := hv 23 _ _ rfl
      have v7 : a.tmps[100]?.getD undef = _ := hv 22 _ _ rfl
      have v8 : a.tmps[101]?.getD undef = _ := hv 21 _ _ rfl
      have v9 : a.tmps[102]?.getD undef = _ := hv 20 _ _ rfl
      have v10 : a.tmps[103]?.getD undef = _ := hv 19 _ _ rfl
      have v11 : a.tmps[104]?.getD undef = _ := hv 18 _ _ rfl
      have v12 : a.tmps[105]?.getD undef = _ := hv 17 _ _ rfl
      have v13 : a.tmps[106]?.getD undef = _ := hv 16 _ _ rfl
      have v14 : a.tmps[107]?.getD undef = _ := hv 15 _ _ rfl
      have v15 : a.tmps[108]?.getD undef = _ := hv 14 _ _ rfl
      have v16 : a.tmps[109]?.getD undef = _ := hv 13 _ _ rfl
      have v17 : a.tmps[110]?.getD undef = _ := hv 12 _ _ rfl
      have v18 : a.tmps[111]?.getD undef = _ := hv 11 _ _ rfl
      have v19 : a.tmps[112]?.getD undef = _ := hv 10 _ _ rfl
      have v20 : a.tmps[113]?.getD undef = _ := hv 9 _ _ rfl
      have v21 : a.tmps[114]?.getD undef = _ := hv 8 _ _ rfl
      have v22 : a.tmps[115]?.getD undef = _ := hv 7 _ _ rfl
      have v23 : a.tmps[116]?.getD undef = _ := hv 6 _ _ rfl
      have v24 : a.tmps[117]?.getD undef = _ := hv 5 _ _ rfl
      have v25 : a.tmps[118]?.getD undef = _ := hv 4 _ _ rfl
      have v26 : a.tmps[119]?.getD undef = _ := hv 3 _ _ rfl
      have v27 : a.tmps[120]?.getD undef = _ := hv 2 _ _ rfl
      have v28 : a.tmps[121]?.getD undef = _ := hv 1 _ _ rfl
      have v29 : a.tmps[122]?.getD undef = _ := hv 0 _ _ rfl
      have hE := hF.out
      rw [hE]
      clear hE hF hv
      simp only [List.foldl_cons, List.foldl_nil, Act.put, List.setIfInBounds_toArray, List.set_cons_zero, List.set_cons_succ, Array.getD_eq_getD_getElem?, v0, v1, v2, v3, v4, v5, v6, v7, v8, v9, v10, v11, v12, v13, v14, v15, v16, v17, v18, v19, v20, v21, v22, v23, v24, v25, v26, v27, v28, v29]
      clear v0 v1 v2 v3 v4 v5 v6 v7 v8 v9 v10 v11 v12 v13 v14 v15 v16 v17 v18 v19 v20 v21 v22 v23 v24 v25 v26 v27 v28 v29
      have HB := Lib.hid (HQ.out.2.2.trans (hB.mono HQ.out.2.2.size))
      clear hB HQ
      go_wp2_with fail
      go_roundw
      case rel => exact ⟨k + 1, by go_num, by omega, HB.out⟩
      case measure => simp [intOf]; omega
    have g2 : decide ((k : Int) < 6) = false := by simp <;> omega
    go_wp2_with fail
    go_roundw
    case rel => exact ⟨i + 1, by go_num, by omega, hB⟩
    case measure => simp [intOf]; omega
  have g1 : decide ((i : Int) < 6) = false := by simp <;> omega
  clear hi hi6
  have HB := Lib.hid (HT.out.2.trans (hB.mono HT.out.2.size))
  clear HT hB
  go_upto_region 25 with fail
  have HT := Lib.hid (And.intro (Bk.new wr 9 #[.string ⟨#[]⟩, .string ⟨#[58]⟩, .string ⟨#[49, 58]⟩, .string ⟨#[58, 49]⟩, .string ⟨#[49, 58, 50]⟩, .string ⟨#[48, 49, 58, 50]⟩, .string ⟨#[49, 58, 50, 58, 51]⟩, .string ⟨#[49, 32, 50]⟩, .string ⟨#[49, 58, 50, 32]⟩, .string ⟨#[49, 58, 50, 32, 51]⟩, .string ⟨#[49, 58, 50, 32, 32, 51]⟩, .string ⟨#[32, 49, 58, 50, 32, 51]⟩, .string ⟨#[49, 58, 50, 32, 120]⟩, .string ⟨#[57, 50, 50, 51, 51, 55, 50, 48, 51, 54, 56, 53, 52, 55, 55, 53, 56, 48, 56, 58, 49]⟩, .string ⟨#[45, 49, 58, 45, 57, 50, 50, 51, 51, 55, 50, 48, 51, 54, 56, 53, 52, 55, 55, 53, 56, 48, 56, 32, 45, 55]⟩, .string ⟨#[49, 58, 50, 32, 51, 32, 52]⟩]) (HB.out.trans ((below_box wr (.cells #[.string ⟨#[]⟩, .string ⟨#[58]⟩, .string ⟨#[49, 58]⟩, .string ⟨#[58, 49]⟩, .string ⟨#[49, 58, 50]⟩, .string ⟨#[48, 49, 58, 50]⟩, .string ⟨#[49, 58, 50, 58, 51]⟩, .string ⟨#[49, 32, 50]⟩, .string ⟨#[49, 58, 50, 32]⟩, .string ⟨#[49, 58, 50, 32, 51]⟩, .string ⟨#[49, 58, 50, 32, 32, 51]⟩, .string ⟨#[32, 49, 58, 50, 32, 51]⟩, .string ⟨#[49, 58, 50, 32, 120]⟩, .string ⟨#[57, 50, 50, 51, 51, 55, 50, 48, 51, 54, 56, 53, 52, 55, 55, 53, 56, 48, 56, 58, 49]⟩, .string ⟨#[45, 49, 58, 45, 57, 50, 50, 51, 51, 55, 50, 48, 51, 54, 56, 53, 52, 55, 55, 53, 56, 48, 56, 32, 45, 55]⟩, .string ⟨#[49, 58, 50, 32, 51, 32, 52]⟩] 9)).mono HB.out.size)))
  generalize hg : wr.heap.size = go at *
  generalize hw : wr.alloc (.cells #[.string ⟨#[]⟩, .string ⟨#[58]⟩, .string ⟨#[49, 58]⟩, .string ⟨#[58, 49]⟩, .string ⟨#[49, 58, 50]⟩, .string ⟨#[48, 49, 58, 50]⟩, .string ⟨#[49, 58, 50, 58, 51]⟩, .string ⟨#[49, 32, 50]⟩, .string ⟨#[49, 58, 50, 32]⟩, .string ⟨#[49, 58, 50, 32, 51]⟩, .string ⟨#[49, 58, 50, 32, 32, 51]⟩, .string ⟨#[32, 49, 58, 50, 32, 51]⟩, .string ⟨#[49, 58, 50, 32, 120]⟩, .string ⟨#[57, 50, 50, 51, 51, 55, 50, 48, 51, 54, 56, 53, 52, 55, 55, 53, 56, 48, 56, 58, 49]⟩, .string ⟨#[45, 49, 58, 45, 57, 50, 50, 51, 51, 55, 50, 48, 51, 54, 56, 53, 52, 55, 55, 53, 56, 48, 56, 32, 45, 55]⟩, .string ⟨#[49, 58, 50, 32, 51, 32, 52]⟩] 9) = w8 at *
  clear hg hw HB
  go_wp2_with fail
  go_loopw [12] (fun v wr => ∃ i : Nat, v = .int .i64 i ∧ i ≤ 16 ∧ Below w8.heap.size w8 wr) (fun v _ => 16 - (intOf v).toNat)
  case atStart => exact ⟨0, rfl, by decide, Below.refl _ _⟩
  case round =>
  obtain ⟨i, rfl, hi, hB⟩ := hrel
  by_cases hi16 : i < 16
  · have g1 : decide ((i : Int) < 16) = true := by simp <;> omega
    obtain ⟨s, hs⟩ := kod_at hi16
    have hI : (i : Int) < 16 := by omega
    have hz := HT.out.1.lt
    have m0 := (hB.cell (p := ⟨go, i, none⟩) hz).trans ((HT.out.1.cell i).trans hs)
    have HB := Lib.hid hB
    clear hB hs hz
    go_wp2_with (go_at_call 4; go_loud (refine (tells_any 0 0 i 0 none 0 0 [] s _ ⟨rfl, fun h => absurd h (by decide)⟩ (fun f hf => by cases hf) ⟨⟨by decide, by decide⟩, ⟨by decide, by decide⟩⟩).mono ?_; rintro e wa ⟨rfl, hb⟩; have HB := Lib.hid (HB.out.trans (hb.mono HB.out.size)); clear hb m0))
    go_roundw
    case rel => exact ⟨i + 1, by go_num, by omega, HB.out⟩
    case measure => simp [intOf]; omega
  have g1 : decide ((i : Int) < 16) = false := by simp <;> omega
  clear hi hi16
  have HB := Lib.hid (HT.out.2.trans (hB.mono HT.out.2.size))
  clear HT hB
  go_wp2_with (go_at_call 7; refine (works_c _).mono ?_; rintro e w1 ⟨rfl, hb1⟩; have HB := Lib.hid (HB.out.trans (hb1.mono HB.out.size)); clear hb1)
  go_ret
  exact ⟨rfl, HB.out⟩
end Go.Proofs.Ytjocobfabdkadaa
