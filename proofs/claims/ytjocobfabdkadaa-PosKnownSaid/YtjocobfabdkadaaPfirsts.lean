/- First, and the document's, by contract: at most 1000 faults. -/
import Derived.Test.YtjocobfabdkadaaPfirst
namespace Go.Proofs.Ytjocobfabdkadaa
open Go.RowKit
attribute [local go_sem] alloc_drewN setCell_drewN
/-- The first fault of a row: the error's number is its third part. -/
def stepF (acc : Option (Int × Int × Int)) (f : Int × Int × Int) : Option (Int × Int × Int) := if f.2.2 = 0 then acc else match acc with
  | none => some f
  | some g => if pcmp f.1 f.2.1 g.1 g.2.1 < 0 then some f else some g
def firstF (l : List (Int × Int × Int)) : Option (Int × Int × Int) := l.foldl stepF none
theorem firstF_succ {l : List (Int × Int × Int)} {i : Nat} {f : Int × Int × Int} {q : Option (Int × Int × Int)} (h : l[i]? = some f) (hq : firstF (l.take i) = q) : firstF (l.take (i + 1)) = stepF q f := by
  obtain ⟨g1, g2⟩ := List.getElem?_eq_some_iff.1 h
  unfold firstF at hq ⊢
  rw [List.take_succ_eq_append_getElem g1, List.foldl_append, hq, g2]
  rfl
def RwF (w : World) (A : Option Addr) (n : Nat) (l : List (Int × Int × Int)) : Prop :=
  l.length = n ∧ (0 < n → ∃ b off, A = some ⟨b, off, none⟩ ∧ b < w.heap.size ∧ ∀ (i : Nat) (f : Int × Int × Int), l[i]? = some f → w.cell? ⟨b, off + i * 3, none⟩ = some (.int .i64 f.1) ∧ w.cell? ⟨b, off + i * 3 + 1, none⟩ = some (.int .i64 f.2.1) ∧ w.cell? ⟨b, off + i * 3 + 2, none⟩ = some (.int .i64 f.2.2))
theorem RwF.keep {w w' : World} {A : Option Addr} {n : Nat} {l : List (Int × Int × Int)} (h : RwF w A n l) (hb : Below w.heap.size w w') : RwF w' A n l :=
  ⟨h.1, fun hn => by
    obtain ⟨b, off, e, hl, hc⟩ := h.2 hn
    exact ⟨b, off, e, Nat.lt_of_lt_of_le hl hb.size, fun i f hf => ⟨(hb.cell (p := ⟨b, off + i * 3, none⟩) hl).trans (hc i f hf).1, (hb.cell (p := ⟨b, off + i * 3 + 1, none⟩) hl).trans (hc i f hf).2.1, (hb.cell (p := ⟨b, off + i * 3 + 2, none⟩) hl).trans (hc i f hf).2.2⟩⟩⟩
theorem RwF.at_ {w : World} {A : Option Addr} {n : Nat} {l : List (Int × Int × Int)} {i : Nat} (h : RwF w A n l) (hi : i < n) : ∃ b off L C E, A = some ⟨b, off, none⟩ ∧ b < w.heap.size ∧ l[i]? = some (L, C, E) ∧ w.cell? ⟨b, off + i * 3, none⟩ = some (.int .i64 L) ∧ w.cell? ⟨b, off + i * 3 + 1, none⟩ = some (.int .i64 C) ∧ w.cell? ⟨b, off + i * 3 + 2, none⟩ = some (.int .i64 E) := by
  obtain ⟨b, off, e, hl, hc⟩ := h.2 (by omega)
  have hx : l[i]? = some (l[i]'(by rw [h.1]; exact hi)) := List.getElem?_eq_getElem _
  exact ⟨b, off, _, _, _, e, hl, hx, hc i _ hx⟩
/-- The cells of a fault that may be none. -/
def cF (q : Option (Int × Int × Int)) : Array Value := #[.int .i64 (q.getD (0, 0, 0)).1, .int .i64 (q.getD (0, 0, 0)).2.1, .int .i64 (q.getD (0, 0, 0)).2.2]
theorem cF_some (L C E : Int) : cF (some (L, C, E)) = #[.int .i64 L, .int .i64 C, .int .i64 E] := rfl
theorem cF_none : cF none = #[.int .i64 0, .int .i64 0, .int .i64 0] := rfl
def FsOk (l : List (Int × Int × Int)) (w : World) (e : Ending) (w' : World) : Prop := e = .returned (.tuple #[fltO (firstF l), .bool (firstF l).isSome]) ∧ Below w.heap.size w w'
theorem FsOk.mk {l : List (Int × Int × Int)} {w w' : World} {q : Option (Int × Int × Int)} {x y z : Int} {b : Bool} (h : firstF l = q) (hc : cF q = #[.int .i64 x, .int .i64 y, .int .i64 z]) (hb : q.isSome = b) (hB : Below w.heap.size w w') : FsOk l w (.returned (.tuple #[.agg #[.int .i64 x, .int .i64 y, .int .i64 z], .bool b])) w' := by
  unfold FsOk
  rw [h, hb, ← hc]
  exact ⟨rfl, hB⟩
theorem cF_cells (q : Option (Int × Int × Int)) : ∃ x y z : Int, cF q = #[.int .i64 x, .int .i64 y, .int .i64 z] := ⟨_, _, _, rfl⟩
set_option maxRecDepth 100000 in
set_option maxHeartbeats 16000000 in
theorem rFirst_c (A : Option Addr) (n c : Nat) (l : List (Int × Int × Int)) (w : World) (hr : RwF w A n l) (hn : n ≤ 1000) :
    Calls Try.prog 20 #[.slice A n c] w (FsOk l w) := by
  have HA := Lib.hid hr
  clear hr
  go_enter Try.func20, Try.ntmps20
  go_wp2_with fail
  go_loopw [5, 6] (fun fd v wr => ∃ (i : Nat) (q : Option (Int × Int × Int)), v = .int .i64 i ∧ fd = .bool q.isSome ∧ i ≤ n ∧ Bk wr w.heap.size 42 #[.int .i64 0, .int .i64 0, .int .i64 0] ∧ Bk wr (w.heap.size + 1) 42 (cF q) ∧ Below w.heap.size w wr ∧ firstF (l.take i) = q) (fun _ v _ => n - (intOf v).toNat)
  case atStart =>
    refine ⟨0, none, rfl, rfl, Nat.zero_le _, (Bk.new w _ _).alloc _, ?_, ((Below.refl _ _).alloc (Nat.le_refl _) _).alloc (by simp) _, rfl⟩
    have := Bk.new (w.alloc (.cells #[.int .i64 0, .int .i64 0, .int .i64 0] 42)) 42 #[.int .i64 0, .int .i64 0, .int .i64 0]
    rw [World.size_alloc] at this
    exact this
  case round =>
    obtain ⟨i, q, rfl, rfl, hi, hk0, hk1, hB, hq⟩ := hrel
    have HW := Lib.hid (And.intro hk0 (And.intro hk1 (And.intro hB hq)))
    by_cases hin : i < n
    · have g1 : decide ((i : Int) < (n : Int)) = true := by simp; omega
      obtain ⟨b, off, L, C, E, rfl, hbl0, hf, m0, m1, m2⟩ := HA.out.at_ hin
      have m0 := (hB.cell (p := ⟨b, off + i * 3, none⟩) hbl0).trans m0
      have m1 := (hB.cell (p := ⟨b, off + i * 3 + 1, none⟩) hbl0).trans m1
      have m2 := (hB.cell (p := ⟨b, off + i * 3 + 2, none⟩) hbl0).trans m2
      have hbl : b < wr.heap.size := Nat.lt_of_lt_of_le hbl0 hB.size
      have HC := Lib.hid (And.intro m0 (And.intro m1 m2))
      have hd0 : b ≠ w.heap.size := by omega
      have hd1 : b ≠ w.heap.size + 1 := by omega
      have HF := Lib.hid hf
      clear hk0 hk1 hB hq m0 m1 m2 hf hbl0
      by_cases hE : E = 0
      · have e1 : (E != 0) = false := by simp [hE]
        have HE := Lib.hid hE
        clear hE
        go_upto_region 6 with fail
        refine wp_region_walk [0, 1, 2, 3, 4, 5, 6, 7, 8, 9, 10, 11, 12, 13, 14, 15, 16, 17, 18, 19, 20] [13, 14, 15, 16, 17, 18, 19, 20, 21, 22, 23, 24, 25, 26, 27, 28, 29, 30, 31, 32, 33] 0 (by kernel_rfl) (by kernel_rfl) (by kernel_rfl) rfl (by simp) (by kernel_rfl) (by kernel_rfl) ?_
        apply RegW.val 0 rfl
        · intro a w' hF hB hd; have e0 := hF.2.2 0 (by decide); simp at e0; clear hd hF; refine wpOp_step rfl (fun K' hK => ?_); go_simp; exact hK _ _ ⟨_, rfl, Below.refl _ _, cst_ok⟩
        apply RegW.val 1 rfl
        · intro a w' hF hB hd; have e6 := hF.2.2 6 (by decide); simp at e6; clear hd hF; refine wpOp_step rfl (fun K' hK => ?_); go_simp; exact hK _ _ ⟨_, rfl, Below.refl _ _, cst_ok⟩
        refine RegW.op 2 rfl (cst (.pointer (some ⟨b, off + i * 3, none⟩))) ?_ ?_
        · intro a w' hF hB hd; have v0 : a.tmps[13]?.getD undef = _ := hd 0 (of_decide_eq_true (by kernel_rfl)) 1 _ _ rfl rfl; have v1 : a.tmps[14]?.getD undef = _ := hd 1 (of_decide_eq_true (by kernel_rfl)) 0 _ _ rfl rfl; clear hd hF; have hI : (i : Int) < (n : Int) := (by omega); refine wpOp_step rfl (fun K' hK => ?_); go_simp; exact hK _ _ ⟨_, rfl, Below.refl _ _, cst_ok⟩
        apply RegW.val 3 rfl
        · intro a w' hF hB hd; have v2 : a.tmps[15]?.getD undef = _ := hd 2 (of_decide_eq_true (by kernel_rfl)) 0 _ _ rfl rfl; clear hd hF; refine wpOp_step rfl (fun K' hK => ?_); go_simp; exact hK _ _ ⟨_, rfl, Below.refl _ _, cst_ok⟩
        apply RegW.val 4 rfl
        · intro a w' hF hB hd; have v3 : a.tmps[16]?.getD undef = _ := hd 3 (of_decide_eq_true (by kernel_rfl)) 0 _ _ rfl rfl; clear hd hF; have m0 := (hB.cell (p := ⟨b, off + i * 3, none⟩) hbl).trans HC.out.1; have m1 := (hB.cell (p := ⟨b, off + i * 3 + 1, none⟩) hbl).trans HC.out.2.1; have m2 := (hB.cell (p := ⟨b, off + i * 3 + 2, none⟩) hbl).trans HC.out.2.2; refine wpOp_step rfl (fun K' hK => ?_); go_simp; exact hK _ _ ⟨_, rfl, Below.refl _ _, cst_ok⟩
        apply RegW.val 5 rfl
        · intro a w' hF hB hd; have v4 : a.tmps[17]?.getD undef = _ := hd 4 (of_decide_eq_true (by kernel_rfl)) 0 _ _ rfl rfl; clear hd hF; refine wpOp_step rfl (fun K' hK => ?_); go_simp; exact hK _ _ ⟨_, rfl, Below.refl _ _, cst_ok⟩
        apply RegW.val 6 rfl
        · intro a w' hF hB hd; have v5 : a.tmps[18]?.getD undef = _ := hd 5 (of_decide_eq_true (by kernel_rfl)) 0 _ _ rfl rfl; clear hd hF; refine wpOp_step rfl (fun K' hK => ?_); go_simp; exact hK _ _ ⟨_, rfl, Below.refl _ _, cst_ok⟩
        refine RegW.skip 7 6 19 _ _ _ _ rfl rfl rfl rfl rfl rfl (by kernel_rfl) 0 rfl rfl rfl ?_
        refine RegW.skip 8 6 19 _ _ _ _ rfl rfl rfl rfl rfl rfl (by kernel_rfl) 1 rfl rfl rfl ?_
        refine RegW.skip 9 6 19 _ _ _ _ rfl rfl rfl rfl rfl rfl (by kernel_rfl) 2 rfl rfl rfl ?_
        refine RegW.skip 10 9 22 _ _ _ _ rfl rfl rfl rfl rfl rfl (by kernel_rfl) 0 rfl rfl rfl ?_
        refine RegW.skip 11 9 22 _ _ _ _ rfl rfl rfl rfl rfl rfl (by kernel_rfl) 1 rfl rfl rfl ?_
        refine RegW.skip 12 9 22 _ _ _ _ rfl rfl rfl rfl rfl rfl (by kernel_rfl) 2 rfl rfl rfl ?_
        refine RegW.skip 13 9 22 _ _ _ _ rfl rfl rfl rfl rfl rfl (by kernel_rfl) 3 rfl rfl rfl ?_
        refine RegW.skip 14 9 22 _ _ _ _ rfl rfl rfl rfl rfl rfl (by kernel_rfl) 4 rfl rfl rfl ?_
        refine RegW.skip 15 9 22 _ _ _ _ rfl rfl rfl rfl rfl rfl (by kernel_rfl) 5 rfl rfl rfl ?_
        refine RegW.skip 16 9 22 _ _ _ _ rfl rfl rfl rfl rfl rfl (by kernel_rfl) 6 rfl rfl rfl ?_
        refine RegW.skip 17 9 22 _ _ _ _ rfl rfl rfl rfl rfl rfl (by kernel_rfl) 7 rfl rfl rfl ?_
        refine RegW.skip 18 9 22 _ _ _ _ rfl rfl rfl rfl rfl rfl (by kernel_rfl) 8 rfl rfl rfl ?_
        refine RegW.skip 19 6 19 _ _ _ _ rfl rfl rfl rfl rfl rfl (by kernel_rfl) 12 rfl rfl rfl ?_
        apply RegW.val 20 rfl
        · intro a w' hF hB hd; have v6 : a.tmps[19]?.getD undef = _ := hd 6 (of_decide_eq_true (by kernel_rfl)) 13 _ _ rfl rfl; have v19 : a.tmps[32]?.getD undef = _ := hd 19 (of_decide_eq_true (by kernel_rfl)) 0 _ _ rfl rfl; clear hd hF; refine wpOp_step rfl (fun K' hK => ?_); go_simp; exact hK _ _ ⟨_, rfl, Below.refl _ _, cst_ok⟩
        refine RegW.done (fun a w' hF hB hv => ?_)
        have v0 : a.tmps[13]?.getD undef = _ := hv 20 _ _ rfl
        have v1 : a.tmps[14]?.getD undef = _ := hv 19 _ _ rfl
        have v2 : a.tmps[15]?.getD undef = _ := hv 18 _ _ rfl
        have v3 : a.tmps[16]?.getD undef = _ := hv 17 _ _ rfl
        have v4 : a.tmps[17]?.getD undef = _ := hv 16 _ _ rfl
        have v5 : a.tmps[18]?.getD undef = _ := hv 15 _ _ rfl
        have v6 : a.tmps[19]?.getD undef = _ := hv 14 _ _ rfl
        have v7 : a.tmps[20]?.getD undef = _ := hv 13 _ _ rfl
        have v8 : a.tmps[21]?.getD undef = _ := hv 12 _ _ rfl
        have v9 : a.tmps[22]?.getD undef = _ := hv 11 _ _ rfl
        have v10 : a.tmps[23]?.getD undef = _ := hv 10 _ _ rfl
        have v11 : a.tmps[24]?.getD undef = _ := hv 9 _ _ rfl
        have v12 : a.tmps[25]?.getD undef = _ := hv 8 _ _ rfl
        have v13 : a.tmps[26]?.getD undef = _ := hv 7 _ _ rfl
        have v14 : a.tmps[27]?.getD undef = _ := hv 6 _ _ rfl
        have v15 : a.tmps[28]?.getD undef = _ := hv 5 _ _ rfl
        have v16 : a.tmps[29]?.getD undef = _ := hv 4 _ _ rfl
        have v17 : a.tmps[30]?.getD undef = _ := hv 3 _ _ rfl
        have v18 : a.tmps[31]?.getD undef = _ := hv 2 _ _ rfl
        have v19 : a.tmps[32]?.getD undef = _ := hv 1 _ _ rfl
        have v20 : a.tmps[33]?.getD undef = _ := hv 0 _ _ rfl
        have hE := hF.out
        rw [hE]
        clear hE hF hv
        simp only [List.foldl_cons, List.foldl_nil, Act.put, List.setIfInBounds_toArray, List.set_cons_zero, List.set_cons_succ, Array.getD_eq_getD_getElem?, v0, v1, v2, v3, v4, v5, v6, v7, v8, v9, v10, v11, v12, v13, v14, v15, v16, v17, v18, v19, v20]
        clear v0 v1 v2 v3 v4 v5 v6 v7 v8 v9 v10 v11 v12 v13 v14 v15 v16 v17 v18 v19 v20

        have HW := Lib.hid (And.intro (HW.out.1.keep hB) (And.intro (HW.out.2.1.keep hB) (And.intro (HW.out.2.2.1.trans (hB.mono HW.out.2.2.1.size)) HW.out.2.2.2)))
        have m0 := (hB.cell (p := ⟨b, off + i * 3, none⟩) hbl).trans HC.out.1
        have m1 := (hB.cell (p := ⟨b, off + i * 3 + 1, none⟩) hbl).trans HC.out.2.1
        have m2 := (hB.cell (p := ⟨b, off + i * 3 + 2, none⟩) hbl).trans HC.out.2.2
        have k0 := HW.out.2.1.cell 0
        have k1 := HW.out.2.1.cell 1
        have k2 := HW.out.2.1.cell 2
        have f0 := HW.out.2.1.frozen 0
        have f1 := HW.out.2.1.frozen 1
        have f2 := HW.out.2.1.frozen 2
        have kz := HW.out.2.1.lt
        (try simp at k0 k1 k2)
        go_wp2_with fail
        go_roundw
        case rel => exact ⟨i + 1, q, by go_num, rfl, by omega, HW.out.1, HW.out.2.1, HW.out.2.2.1, by rw [firstF_succ HF.out HW.out.2.2.2]; unfold stepF; rw [if_pos HE.out]⟩
        case measure => simp [intOf]; omega
      · have e1 : (E != 0) = true := by simpa using hE
        have HE := Lib.hid hE
        clear hE
        cases q with
        | none =>
        go_upto_region 6 with fail
        refine wp_region_walk [0, 1, 2, 3, 4, 5, 6, 7, 8, 9, 10, 11, 12, 13, 14, 15, 16, 17, 18, 19, 20] [13, 14, 15, 16, 17, 18, 19, 20, 21, 22, 23, 24, 25, 26, 27, 28, 29, 30, 31, 32, 33] 0 (by kernel_rfl) (by kernel_rfl) (by kernel_rfl) rfl (by simp) (by kernel_rfl) (by kernel_rfl) ?_
        apply RegW.val 0 rfl
        · intro a w' hF hB hd; have e0 := hF.2.2 0 (by decide); simp at e0; clear hd hF; refine wpOp_step rfl (fun K' hK => ?_); go_simp; exact hK _ _ ⟨_, rfl, Below.refl _ _, cst_ok⟩
        apply RegW.val 1 rfl
        · intro a w' hF hB hd; have e6 := hF.2.2 6 (by decide); simp at e6; clear hd hF; refine wpOp_step rfl (fun K' hK => ?_); go_simp; exact hK _ _ ⟨_, rfl, Below.refl _ _, cst_ok⟩
        refine RegW.op 2 rfl (cst (.pointer (some ⟨b, off + i * 3, none⟩))) ?_ ?_
        · intro a w' hF hB hd; have v0 : a.tmps[13]?.getD undef = _ := hd 0 (of_decide_eq_true (by kernel_rfl)) 1 _ _ rfl rfl; have v1 : a.tmps[14]?.getD undef = _ := hd 1 (of_decide_eq_true (by kernel_rfl)) 0 _ _ rfl rfl; clear hd hF; have hI : (i : Int) < (n : Int) := (by omega); refine wpOp_step rfl (fun K' hK => ?_); go_simp; exact hK _ _ ⟨_, rfl, Below.refl _ _, cst_ok⟩
        apply RegW.val 3 rfl
        · intro a w' hF hB hd; have v2 : a.tmps[15]?.getD undef = _ := hd 2 (of_decide_eq_true (by kernel_rfl)) 0 _ _ rfl rfl; clear hd hF; refine wpOp_step rfl (fun K' hK => ?_); go_simp; exact hK _ _ ⟨_, rfl, Below.refl _ _, cst_ok⟩
        apply RegW.val 4 rfl
        · intro a w' hF hB hd; have v3 : a.tmps[16]?.getD undef = _ := hd 3 (of_decide_eq_true (by kernel_rfl)) 0 _ _ rfl rfl; clear hd hF; have m0 := (hB.cell (p := ⟨b, off + i * 3, none⟩) hbl).trans HC.out.1; have m1 := (hB.cell (p := ⟨b, off + i * 3 + 1, none⟩) hbl).trans HC.out.2.1; have m2 := (hB.cell (p := ⟨b, off + i * 3 + 2, none⟩) hbl).trans HC.out.2.2; refine wpOp_step rfl (fun K' hK => ?_); go_simp; exact hK _ _ ⟨_, rfl, Below.refl _ _, cst_ok⟩
        apply RegW.val 5 rfl
        · intro a w' hF hB hd; have v4 : a.tmps[17]?.getD undef = _ := hd 4 (of_decide_eq_true (by kernel_rfl)) 0 _ _ rfl rfl; clear hd hF; refine wpOp_step rfl (fun K' hK => ?_); go_simp; exact hK _ _ ⟨_, rfl, Below.refl _ _, cst_ok⟩
        apply RegW.val 6 rfl
        · intro a w' hF hB hd; have v5 : a.tmps[18]?.getD undef = _ := hd 5 (of_decide_eq_true (by kernel_rfl)) 0 _ _ rfl rfl; clear hd hF; refine wpOp_step rfl (fun K' hK => ?_); go_simp; exact hK _ _ ⟨_, rfl, Below.refl _ _, cst_ok⟩
        apply RegW.val 7 rfl
        · intro a w' hF hB hd; have v6 : a.tmps[19]?.getD undef = _ := hd 6 (of_decide_eq_true (by kernel_rfl)) 0 _ _ rfl rfl; have gd := tmp_bool v6; have e5 := hF.2.2 5 (by decide); simp at e5; clear hd hF; refine wpOp_step rfl (fun K' hK => ?_); go_simp; exact hK _ _ ⟨_, rfl, Below.refl _ _, cst_ok⟩
        apply RegW.val 8 rfl
        · intro a w' hF hB hd; have v6 : a.tmps[19]?.getD undef = _ := hd 6 (of_decide_eq_true (by kernel_rfl)) 1 _ _ rfl rfl; have v7 : a.tmps[20]?.getD undef = _ := hd 7 (of_decide_eq_true (by kernel_rfl)) 0 _ _ rfl rfl; have gd := tmp_bool v6; clear hd hF; refine wpOp_step rfl (fun K' hK => ?_); go_simp; exact hK _ _ ⟨_, rfl, Below.refl _ _, cst_ok⟩
        apply RegW.val 9 rfl
        · intro a w' hF hB hd; have v6 : a.tmps[19]?.getD undef = _ := hd 6 (of_decide_eq_true (by kernel_rfl)) 2 _ _ rfl rfl; have v8 : a.tmps[21]?.getD undef = _ := hd 8 (of_decide_eq_true (by kernel_rfl)) 0 _ _ rfl rfl; have gd := tmp_bool v6; clear hd hF; refine wpOp_step rfl (fun K' hK => ?_); go_simp; exact hK _ _ ⟨_, rfl, Below.refl _ _, cst_ok⟩
        refine RegW.skip 10 9 22 _ _ _ _ rfl rfl rfl rfl rfl rfl (by kernel_rfl) 0 rfl rfl rfl ?_
        refine RegW.skip 11 9 22 _ _ _ _ rfl rfl rfl rfl rfl rfl (by kernel_rfl) 1 rfl rfl rfl ?_
        refine RegW.skip 12 9 22 _ _ _ _ rfl rfl rfl rfl rfl rfl (by kernel_rfl) 2 rfl rfl rfl ?_
        refine RegW.skip 13 9 22 _ _ _ _ rfl rfl rfl rfl rfl rfl (by kernel_rfl) 3 rfl rfl rfl ?_
        refine RegW.skip 14 9 22 _ _ _ _ rfl rfl rfl rfl rfl rfl (by kernel_rfl) 4 rfl rfl rfl ?_
        refine RegW.skip 15 9 22 _ _ _ _ rfl rfl rfl rfl rfl rfl (by kernel_rfl) 5 rfl rfl rfl ?_
        refine RegW.skip 16 9 22 _ _ _ _ rfl rfl rfl rfl rfl rfl (by kernel_rfl) 6 rfl rfl rfl ?_
        refine RegW.skip 17 9 22 _ _ _ _ rfl rfl rfl rfl rfl rfl (by kernel_rfl) 7 rfl rfl rfl ?_
        refine RegW.skip 18 9 22 _ _ _ _ rfl rfl rfl rfl rfl rfl (by kernel_rfl) 8 rfl rfl rfl ?_
        apply RegW.val 19 rfl
        · intro a w' hF hB hd; have v6 : a.tmps[19]?.getD undef = _ := hd 6 (of_decide_eq_true (by kernel_rfl)) 12 _ _ rfl rfl; have v9 : a.tmps[22]?.getD undef = _ := hd 9 (of_decide_eq_true (by kernel_rfl)) 9 _ _ rfl rfl; have v18 : a.tmps[31]?.getD undef = _ := hd 18 (of_decide_eq_true (by kernel_rfl)) 0 _ _ rfl rfl; have gd := tmp_bool v6; clear hd hF; refine wpOp_step rfl (fun K' hK => ?_); go_simp; exact hK _ _ ⟨_, rfl, Below.refl _ _, cst_ok⟩
        apply RegW.val 20 rfl
        · intro a w' hF hB hd; have v6 : a.tmps[19]?.getD undef = _ := hd 6 (of_decide_eq_true (by kernel_rfl)) 13 _ _ rfl rfl; have v19 : a.tmps[32]?.getD undef = _ := hd 19 (of_decide_eq_true (by kernel_rfl)) 0 _ _ rfl rfl; clear hd hF; refine wpOp_step rfl (fun K' hK => ?_); go_simp; exact hK _ _ ⟨_, rfl, Below.refl _ _, cst_ok⟩
        refine RegW.done (fun a w' hF hB hv => ?_)
        have v0 : a.tmps[13]?.getD undef = _ := hv 20 _ _ rfl
        have v1 : a.tmps[14]?.getD undef = _ := hv 19 _ _ rfl
        have v2 : a.tmps[15]?.getD undef = _ := hv 18 _ _ rfl
        have v3 : a.tmps[16]?.getD undef = _ := hv 17 _ _ rfl
        have v4 : a.tmps[17]?.getD undef = _ := hv 16 _ _ rfl
        have v5 : a.tmps[18]?.getD undef = _ := hv 15 _ _ rfl
        have v6 : a.tmps[19]?.getD undef = _ := hv 14 _ _ rfl
        have v7 : a.tmps[20]?.getD undef = _ := hv 13 _ _ rfl
        have v8 : a.tmps[21]?.getD undef = _ := hv 12 _ _ rfl
        have v9 : a.tmps[22]?.getD undef = _ := hv 11 _ _ rfl
        have v10 : a.tmps[23]?.getD undef = _ := hv 10 _ _ rfl
        have v11 : a.tmps[24]?.getD undef = _ := hv 9 _ _ rfl
        have v12 : a.tmps[25]?.getD undef = _ := hv 8 _ _ rfl
        have v13 : a.tmps[26]?.getD undef = _ := hv 7 _ _ rfl
        have v14 : a.tmps[27]?.getD undef = _ := hv 6 _ _ rfl
        have v15 : a.tmps[28]?.getD undef = _ := hv 5 _ _ rfl
        have v16 : a.tmps[29]?.getD undef = _ := hv 4 _ _ rfl
        have v17 : a.tmps[30]?.getD undef = _ := hv 3 _ _ rfl
        have v18 : a.tmps[31]?.getD undef = _ := hv 2 _ _ rfl
        have v19 : a.tmps[32]?.getD undef = _ := hv 1 _ _ rfl
        have v20 : a.tmps[33]?.getD undef = _ := hv 0 _ _ rfl
        have hE := hF.out
        rw [hE]
        clear hE hF hv
        simp only [List.foldl_cons, List.foldl_nil, Act.put, List.setIfInBounds_toArray, List.set_cons_zero, List.set_cons_succ, Array.getD_eq_getD_getElem?, v0, v1, v2, v3, v4, v5, v6, v7, v8, v9, v10, v11, v12, v13, v14, v15, v16, v17, v18, v19, v20]
        clear v0 v1 v2 v3 v4 v5 v6 v7 v8 v9 v10 v11 v12 v13 v14 v15 v16 v17 v18 v19 v20

        rw [cF_none] at HW
        have HW := Lib.hid (And.intro (HW.out.1.keep hB) (And.intro (HW.out.2.1.keep hB) (And.intro (HW.out.2.2.1.trans (hB.mono HW.out.2.2.1.size)) HW.out.2.2.2)))
        have m0 := (hB.cell (p := ⟨b, off + i * 3, none⟩) hbl).trans HC.out.1
        have m1 := (hB.cell (p := ⟨b, off + i * 3 + 1, none⟩) hbl).trans HC.out.2.1
        have m2 := (hB.cell (p := ⟨b, off + i * 3 + 2, none⟩) hbl).trans HC.out.2.2
        have k0 := HW.out.2.1.cell 0
        have k1 := HW.out.2.1.cell 1
        have k2 := HW.out.2.1.cell 2
        have f0 := HW.out.2.1.frozen 0
        have f1 := HW.out.2.1.frozen 1
        have f2 := HW.out.2.1.frozen 2
        have kz := HW.out.2.1.lt
        (try simp at k0 k1 k2)
        go_wp2_with fail
        go_roundw
        case rel => exact ⟨i + 1, some (L, C, E), by go_num, rfl, by omega, ((HW.out.1.far (by simp) _).far (by simp) _).far (by simp) _, ((HW.out.2.1.put 0 _).put 1 _).put 2 _, ((HW.out.2.2.1.setCell (by simp) _).setCell (by simp) _).setCell (by simp) _, by rw [firstF_succ HF.out HW.out.2.2.2]; unfold stepF; rw [if_neg HE.out]⟩
        case measure => simp [intOf]; omega
        | some g =>
        obtain ⟨a1, b1, c1⟩ := g
        rw [cF_some] at HW
        obtain ⟨p, hp⟩ : ∃ p, pcmp L C a1 b1 = p := ⟨_, rfl⟩
        have HP := Lib.hid hp
        clear hp
        go_upto_region 6 with fail
        refine wp_region_walk [0, 1, 2, 3, 4, 5, 6, 7, 8, 9, 10, 11, 12, 13, 14, 15, 16, 17, 18, 19, 20] [13, 14, 15, 16, 17, 18, 19, 20, 21, 22, 23, 24, 25, 26, 27, 28, 29, 30, 31, 32, 33] 0 (by kernel_rfl) (by kernel_rfl) (by kernel_rfl) rfl (by simp) (by kernel_rfl) (by kernel_rfl) ?_
        apply RegW.val 0 rfl
        · intro a w' hF hB hd; have e0 := hF.2.2 0 (by decide); simp at e0; clear hd hF; refine wpOp_step rfl (fun K' hK => ?_); go_simp; exact hK _ _ ⟨_, rfl, Below.refl _ _, cst_ok⟩
        apply RegW.val 1 rfl
        · intro a w' hF hB hd; have e6 := hF.2.2 6 (by decide); simp at e6; clear hd hF; refine wpOp_step rfl (fun K' hK => ?_); go_simp; exact hK _ _ ⟨_, rfl, Below.refl _ _, cst_ok⟩
        refine RegW.op 2 rfl (cst (.pointer (some ⟨b, off + i * 3, none⟩))) ?_ ?_
        · intro a w' hF hB hd; have v0 : a.tmps[13]?.getD undef = _ := hd 0 (of_decide_eq_true (by kernel_rfl)) 1 _ _ rfl rfl; have v1 : a.tmps[14]?.getD undef = _ := hd 1 (of_decide_eq_true (by kernel_rfl)) 0 _ _ rfl rfl; clear hd hF; have hI : (i : Int) < (n : Int) := (by omega); refine wpOp_step rfl (fun K' hK => ?_); go_simp; exact hK _ _ ⟨_, rfl, Below.refl _ _, cst_ok⟩
        apply RegW.val 3 rfl
        · intro a w' hF hB hd; have v2 : a.tmps[15]?.getD undef = _ := hd 2 (of_decide_eq_true (by kernel_rfl)) 0 _ _ rfl rfl; clear hd hF; refine wpOp_step rfl (fun K' hK => ?_); go_simp; exact hK _ _ ⟨_, rfl, Below.refl _ _, cst_ok⟩
        apply RegW.val 4 rfl
        · intro a w' hF hB hd; have v3 : a.tmps[16]?.getD undef = _ := hd 3 (of_decide_eq_true (by kernel_rfl)) 0 _ _ rfl rfl; clear hd hF; have m0 := (hB.cell (p := ⟨b, off + i * 3, none⟩) hbl).trans HC.out.1; have m1 := (hB.cell (p := ⟨b, off + i * 3 + 1, none⟩) hbl).trans HC.out.2.1; have m2 := (hB.cell (p := ⟨b, off + i * 3 + 2, none⟩) hbl).trans HC.out.2.2; refine wpOp_step rfl (fun K' hK => ?_); go_simp; exact hK _ _ ⟨_, rfl, Below.refl _ _, cst_ok⟩
        apply RegW.val 5 rfl
        · intro a w' hF hB hd; have v4 : a.tmps[17]?.getD undef = _ := hd 4 (of_decide_eq_true (by kernel_rfl)) 0 _ _ rfl rfl; clear hd hF; refine wpOp_step rfl (fun K' hK => ?_); go_simp; exact hK _ _ ⟨_, rfl, Below.refl _ _, cst_ok⟩
        apply RegW.val 6 rfl
        · intro a w' hF hB hd; have v5 : a.tmps[18]?.getD undef = _ := hd 5 (of_decide_eq_true (by kernel_rfl)) 0 _ _ rfl rfl; clear hd hF; refine wpOp_step rfl (fun K' hK => ?_); go_simp; exact hK _ _ ⟨_, rfl, Below.refl _ _, cst_ok⟩
        apply RegW.val 7 rfl
        · intro a w' hF hB hd; have v6 : a.tmps[19]?.getD undef = _ := hd 6 (of_decide_eq_true (by kernel_rfl)) 0 _ _ rfl rfl; have gd := tmp_bool v6; have e5 := hF.2.2 5 (by decide); simp at e5; clear hd hF; refine wpOp_step rfl (fun K' hK => ?_); go_simp; exact hK _ _ ⟨_, rfl, Below.refl _ _, cst_ok⟩
        apply RegW.val 8 rfl
        · intro a w' hF hB hd; have v6 : a.tmps[19]?.getD undef = _ := hd 6 (of_decide_eq_true (by kernel_rfl)) 1 _ _ rfl rfl; have v7 : a.tmps[20]?.getD undef = _ := hd 7 (of_decide_eq_true (by kernel_rfl)) 0 _ _ rfl rfl; have gd := tmp_bool v6; clear hd hF; refine wpOp_step rfl (fun K' hK => ?_); go_simp; exact hK _ _ ⟨_, rfl, Below.refl _ _, cst_ok⟩
        apply RegW.val 9 rfl
        · intro a w' hF hB hd; have v6 : a.tmps[19]?.getD undef = _ := hd 6 (of_decide_eq_true (by kernel_rfl)) 2 _ _ rfl rfl; have v8 : a.tmps[21]?.getD undef = _ := hd 8 (of_decide_eq_true (by kernel_rfl)) 0 _ _ rfl rfl; have gd := tmp_bool v6; clear hd hF; refine wpOp_step rfl (fun K' hK => ?_); go_simp; exact hK _ _ ⟨_, rfl, Below.refl _ _, cst_ok⟩
        apply RegW.val 10 rfl
        · intro a w' hF hB hd; have v9 : a.tmps[22]?.getD undef = _ := hd 9 (of_decide_eq_true (by kernel_rfl)) 0 _ _ rfl rfl; have gd := tmp_bool v9; have e0 := hF.2.2 0 (by decide); simp at e0; clear hd hF; refine wpOp_step rfl (fun K' hK => ?_); go_simp; exact hK _ _ ⟨_, rfl, Below.refl _ _, cst_ok⟩
        apply RegW.val 11 rfl
        · intro a w' hF hB hd; have v9 : a.tmps[22]?.getD undef = _ := hd 9 (of_decide_eq_true (by kernel_rfl)) 1 _ _ rfl rfl; have gd := tmp_bool v9; have e6 := hF.2.2 6 (by decide); simp at e6; clear hd hF; refine wpOp_step rfl (fun K' hK => ?_); go_simp; exact hK _ _ ⟨_, rfl, Below.refl _ _, cst_ok⟩
        refine RegW.op 12 rfl (cst (.pointer (some ⟨b, off + i * 3, none⟩))) ?_ ?_
        · intro a w' hF hB hd; have v9 : a.tmps[22]?.getD undef = _ := hd 9 (of_decide_eq_true (by kernel_rfl)) 2 _ _ rfl rfl; have v10 : a.tmps[23]?.getD undef = _ := hd 10 (of_decide_eq_true (by kernel_rfl)) 1 _ _ rfl rfl; have v11 : a.tmps[24]?.getD undef = _ := hd 11 (of_decide_eq_true (by kernel_rfl)) 0 _ _ rfl rfl; have gd := tmp_bool v9; clear hd hF; have hI : (i : Int) < (n : Int) := (by omega); refine wpOp_step rfl (fun K' hK => ?_); go_simp; exact hK _ _ ⟨_, rfl, Below.refl _ _, cst_ok⟩
        apply RegW.val 13 rfl
        · intro a w' hF hB hd; have v9 : a.tmps[22]?.getD undef = _ := hd 9 (of_decide_eq_true (by kernel_rfl)) 3 _ _ rfl rfl; have v12 : a.tmps[25]?.getD undef = _ := hd 12 (of_decide_eq_true (by kernel_rfl)) 0 _ _ rfl rfl; have gd := tmp_bool v9; clear hd hF; refine wpOp_step rfl (fun K' hK => ?_); go_simp; exact hK _ _ ⟨_, rfl, Below.refl _ _, cst_ok⟩
        apply RegW.val 14 rfl
        · intro a w' hF hB hd; have v9 : a.tmps[22]?.getD undef = _ := hd 9 (of_decide_eq_true (by kernel_rfl)) 4 _ _ rfl rfl; have v13 : a.tmps[26]?.getD undef = _ := hd 13 (of_decide_eq_true (by kernel_rfl)) 0 _ _ rfl rfl; have gd := tmp_bool v9; clear hd hF; have m0 := (hB.cell (p := ⟨b, off + i * 3, none⟩) hbl).trans HC.out.1; have m1 := (hB.cell (p := ⟨b, off + i * 3 + 1, none⟩) hbl).trans HC.out.2.1; have m2 := (hB.cell (p := ⟨b, off + i * 3 + 2, none⟩) hbl).trans HC.out.2.2; refine wpOp_step rfl (fun K' hK => ?_); go_simp; exact hK _ _ ⟨_, rfl, Below.refl _ _, cst_ok⟩
        apply RegW.val 15 rfl
        · intro a w' hF hB hd; have v9 : a.tmps[22]?.getD undef = _ := hd 9 (of_decide_eq_true (by kernel_rfl)) 5 _ _ rfl rfl; have gd := tmp_bool v9; have e4 := hF.2.2 4 (by decide); simp at e4; clear hd hF; refine wpOp_step rfl (fun K' hK => ?_); go_simp; exact hK _ _ ⟨_, rfl, Below.refl _ _, cst_ok⟩
        apply RegW.val 16 rfl
        · intro a w' hF hB hd; have v9 : a.tmps[22]?.getD undef = _ := hd 9 (of_decide_eq_true (by kernel_rfl)) 6 _ _ rfl rfl; have v15 : a.tmps[28]?.getD undef = _ := hd 15 (of_decide_eq_true (by kernel_rfl)) 0 _ _ rfl rfl; have gd := tmp_bool v9; clear hd hF; have hk := HW.out.2.1.keep hB; have k0 := hk.cell 0; have k1 := hk.cell 1; have k2 := hk.cell 2; have kz := hk.lt; simp at k0 k1 k2; refine wpOp_step rfl (fun K' hK => ?_); go_simp; exact hK _ _ ⟨_, rfl, Below.refl _ _, cst_ok⟩
        refine RegW.op 17 rfl (cst (.int .i64 p)) ?_ ?_
        · intro a w' hF hB hd; have v9 : a.tmps[22]?.getD undef = _ := hd 9 (of_decide_eq_true (by kernel_rfl)) 7 _ _ rfl rfl; have v14 : a.tmps[27]?.getD undef = _ := hd 14 (of_decide_eq_true (by kernel_rfl)) 2 _ _ rfl rfl; have v16 : a.tmps[29]?.getD undef = _ := hd 16 (of_decide_eq_true (by kernel_rfl)) 0 _ _ rfl rfl; have gd := tmp_bool v9; clear hd hF; refine wpOp_step rfl (fun K' hK => ?_); go_simp; refine (rCmp_p L C a1 b1 _).mono ?_; rintro e w2 ⟨rfl, hb⟩; rw [HP.out]; exact hK _ _ ⟨_, rfl, hb, cst_ok⟩
        apply RegW.val 18 rfl
        · intro a w' hF hB hd; have v9 : a.tmps[22]?.getD undef = _ := hd 9 (of_decide_eq_true (by kernel_rfl)) 8 _ _ rfl rfl; have v17 : a.tmps[30]?.getD undef = _ := hd 17 (of_decide_eq_true (by kernel_rfl)) 0 _ _ rfl rfl; have gd := tmp_bool v9; clear hd hF; refine wpOp_step rfl (fun K' hK => ?_); go_simp; exact hK _ _ ⟨_, rfl, Below.refl _ _, cst_ok⟩
        apply RegW.val 19 rfl
        · intro a w' hF hB hd; have v6 : a.tmps[19]?.getD undef = _ := hd 6 (of_decide_eq_true (by kernel_rfl)) 12 _ _ rfl rfl; have v9 : a.tmps[22]?.getD undef = _ := hd 9 (of_decide_eq_true (by kernel_rfl)) 9 _ _ rfl rfl; have v18 : a.tmps[31]?.getD undef = _ := hd 18 (of_decide_eq_true (by kernel_rfl)) 0 _ _ rfl rfl; have gd := tmp_bool v6; clear hd hF; refine wpOp_step rfl (fun K' hK => ?_); go_simp; exact hK _ _ ⟨_, rfl, Below.refl _ _, cst_ok⟩
        apply RegW.val 20 rfl
        · intro a w' hF hB hd; have v6 : a.tmps[19]?.getD undef = _ := hd 6 (of_decide_eq_true (by kernel_rfl)) 13 _ _ rfl rfl; have v19 : a.tmps[32]?.getD undef = _ := hd 19 (of_decide_eq_true (by kernel_rfl)) 0 _ _ rfl rfl; clear hd hF; refine wpOp_step rfl (fun K' hK => ?_); go_simp; exact hK _ _ ⟨_, rfl, Below.refl _ _, cst_ok⟩
        refine RegW.done (fun a w' hF hB hv => ?_)
        have v0 : a.tmps[13]?.getD undef = _ := hv 20 _ _ rfl
        have v1 : a.tmps[14]?.getD undef = _ := hv 19 _ _ rfl
        have v2 : a.tmps[15]?.getD undef = _ := hv 18 _ _ rfl
        have v3 : a.tmps[16]?.getD undef = _ := hv 17 _ _ rfl
        have v4 : a.tmps[17]?.getD undef = _ := hv 16 _ _ rfl
        have v5 : a.tmps[18]?.getD undef = _ := hv 15 _ _ rfl
        have v6 : a.tmps[19]?.getD undef = _ := hv 14 _ _ rfl
        have v7 : a.tmps[20]?.getD undef = _ := hv 13 _ _ rfl
        have v8 : a.tmps[21]?.getD undef = _ := hv 12 _ _ rfl
        have v9 : a.tmps[22]?.getD undef = _ := hv 11 _ _ rfl
        have v10 : a.tmps[23]?.getD undef = _ := hv 10 _ _ rfl
        have v11 : a.tmps[24]?.getD undef = _ := hv 9 _ _ rfl
        have v12 : a.tmps[25]?.getD undef = _ := hv 8 _ _ rfl
        have v13 : a.tmps[26]?.getD undef = _ := hv 7 _ _ rfl
        have v14 : a.tmps[27]?.getD undef = _ := hv 6 _ _ rfl
        have v15 : a.tmps[28]?.getD undef = _ := hv 5 _ _ rfl
        have v16 : a.tmps[29]?.getD undef = _ := hv 4 _ _ rfl
        have v17 : a.tmps[30]?.getD undef = _ := hv 3 _ _ rfl
        have v18 : a.tmps[31]?.getD undef = _ := hv 2 _ _ rfl
        have v19 : a.tmps[32]?.getD undef = _ := hv 1 _ _ rfl
        have v20 : a.tmps[33]?.getD undef = _ := hv 0 _ _ rfl
        have hE := hF.out
        rw [hE]
        clear hE hF hv
        simp only [List.foldl_cons, List.foldl_nil, Act.put, List.setIfInBounds_toArray, List.set_cons_zero, List.set_cons_succ, Array.getD_eq_getD_getElem?, v0, v1, v2, v3, v4, v5, v6, v7, v8, v9, v10, v11, v12, v13, v14, v15, v16, v17, v18, v19, v20]
        clear v0 v1 v2 v3 v4 v5 v6 v7 v8 v9 v10 v11 v12 v13 v14 v15 v16 v17 v18 v19 v20

        by_cases hp0 : p < 0
        · have HP0 := Lib.hid hp0
          have HW := Lib.hid (And.intro (HW.out.1.keep hB) (And.intro (HW.out.2.1.keep hB) (And.intro (HW.out.2.2.1.trans (hB.mono HW.out.2.2.1.size)) HW.out.2.2.2)))
          have m0 := (hB.cell (p := ⟨b, off + i * 3, none⟩) hbl).trans HC.out.1
          have m1 := (hB.cell (p := ⟨b, off + i * 3 + 1, none⟩) hbl).trans HC.out.2.1
          have m2 := (hB.cell (p := ⟨b, off + i * 3 + 2, none⟩) hbl).trans HC.out.2.2
          have k0 := HW.out.2.1.cell 0
          have k1 := HW.out.2.1.cell 1
          have k2 := HW.out.2.1.cell 2
          have f0 := HW.out.2.1.frozen 0
          have f1 := HW.out.2.1.frozen 1
          have f2 := HW.out.2.1.frozen 2
          have kz := HW.out.2.1.lt
          (try simp at k0 k1 k2)
          go_wp2_with fail
          go_roundw
          case rel => exact ⟨i + 1, some (L, C, E), by go_num, rfl, by omega, ((HW.out.1.far (by simp) _).far (by simp) _).far (by simp) _, ((HW.out.2.1.put 0 _).put 1 _).put 2 _, ((HW.out.2.2.1.setCell (by simp) _).setCell (by simp) _).setCell (by simp) _, by rw [firstF_succ HF.out HW.out.2.2.2]; unfold stepF; rw [if_neg HE.out]; simp only [HP.out]; rw [if_pos (by have := HP0.out; omega)]⟩
          case measure => simp [intOf]; omega
        · have HP0 := Lib.hid hp0
          have HW := Lib.hid (And.intro (HW.out.1.keep hB) (And.intro (HW.out.2.1.keep hB) (And.intro (HW.out.2.2.1.trans (hB.mono HW.out.2.2.1.size)) HW.out.2.2.2)))
          have m0 := (hB.cell (p := ⟨b, off + i * 3, none⟩) hbl).trans HC.out.1
          have m1 := (hB.cell (p := ⟨b, off + i * 3 + 1, none⟩) hbl).trans HC.out.2.1
          have m2 := (hB.cell (p := ⟨b, off + i * 3 + 2, none⟩) hbl).trans HC.out.2.2
          have k0 := HW.out.2.1.cell 0
          have k1 := HW.out.2.1.cell 1
          have k2 := HW.out.2.1.cell 2
          have f0 := HW.out.2.1.frozen 0
          have f1 := HW.out.2.1.frozen 1
          have f2 := HW.out.2.1.frozen 2
          have kz := HW.out.2.1.lt
          (try simp at k0 k1 k2)
          go_wp2_with fail
          go_roundw
          case rel => exact ⟨i + 1, some (a1, b1, c1), by go_num, rfl, by omega, HW.out.1, HW.out.2.1, HW.out.2.2.1, by rw [firstF_succ HF.out HW.out.2.2.2]; unfold stepF; rw [if_neg HE.out]; simp only [HP.out]; rw [if_neg (by have := HP0.out; omega)]⟩
          case measure => simp [intOf]; omega
    · obtain rfl : i = n := by omega
      have g1 : decide ((i : Int) < (i : Int)) = false := by simp
      obtain ⟨x, y, z, hc⟩ := cF_cells q
      rw [hc] at hk1
      obtain ⟨fb, hfb⟩ : ∃ fb, q.isSome = fb := ⟨_, rfl⟩
      have HH := Lib.hid (And.intro hc hfb)
      rw [hfb]
      have z0 := hk0.lt
      have z1 := hk1.lt
      have c0 := hk0.cell 0
      have c1 := hk0.cell 1
      have c2 := hk0.cell 2
      have d0 := hk1.cell 0
      have d1 := hk1.cell 1
      have d2 := hk1.cell 2
      have f0 := hk0.frozen 0
      have f1 := hk0.frozen 1
      have f2 := hk0.frozen 2
      simp at c0 c1 c2 d0 d1 d2
      clear hk0 hk1 hB hq hc hfb
      go_wp2_with fail
      refine bodyPost_ret (v := .tuple #[.agg #[.int .i64 x, .int .i64 y, .int .i64 z], .bool fb]) (by simp [results, Try.results20, go_sem, z0, c0, c1, c2, f0, f1, f2]) rfl ?_
      have hfin := HW.out.2.2.2
      rw [List.take_of_length_le (by rw [HA.out.1]; exact Nat.le_refl _)] at hfin
      exact FsOk.mk hfin HH.out.1 HH.out.2 (((HW.out.2.2.1.setCell (by simp) _).setCell (by simp) _).setCell (by simp) _)
set_option maxRecDepth 100000 in
set_option maxHeartbeats 16000000 in
theorem first_c (A : Option Addr) (n c : Nat) (l : List (Int × Int × Int)) (w : World) (hr : RwF w A n l) (hn : n ≤ 1000) :
    Calls Try.prog 19 #[.slice A n c] w (FsOk l w) := by
  have HA := Lib.hid hr
  clear hr
  go_enter Try.func19, Try.ntmps19
  go_wp2_with fail
  go_loopw [5, 10] (fun fd v wr => ∃ (i : Nat) (q : Option (Int × Int × Int)), v = .int .i64 i ∧ fd = .bool q.isSome ∧ i ≤ n ∧ Bk wr w.heap.size 45 #[.int .i64 0, .int .i64 0, .int .i64 0] ∧ Bk wr (w.heap.size + 1) 45 (cF q) ∧ Below w.heap.size w wr ∧ firstF (l.take i) = q) (fun _ v _ => n - (intOf v).toNat)
  case atStart =>
    refine ⟨0, none, rfl, rfl, Nat.zero_le _, (Bk.new w _ _).alloc _, ?_, ((Below.refl _ _).alloc (Nat.le_refl _) _).alloc (by simp) _, rfl⟩
    have := Bk.new (w.alloc (.cells #[.int .i64 0, .int .i64 0, .int .i64 0] 45)) 45 #[.int .i64 0, .int .i64 0, .int .i64 0]
    rw [World.size_alloc] at this
    exact this
  case round =>
    obtain ⟨i, q, rfl, rfl, hi, hk0, hk1, hB, hq⟩ := hrel
    by_cases hin : i < n
    · have g1 : decide ((i : Int) < (n : Int)) = true := by simp; omega
      obtain ⟨b, off, L, C, E, rfl, hbl0, hf, m0, m1, m2⟩ := HA.out.at_ hin
      have m0 := (hB.cell (p := ⟨b, off + i * 3, none⟩) hbl0).trans m0
      have m1 := (hB.cell (p := ⟨b, off + i * 3 + 1, none⟩) hbl0).trans m1
      have m2 := (hB.cell (p := ⟨b, off + i * 3 + 2, none⟩) hbl0).trans m2
      have hb7 := below_box wr (.cells #[.int .i64 L, .int .i64 C, .int .i64 E] 45)
      have HW := Lib.hid (And.intro (hk0.keep hb7) (And.intro (hk1.keep hb7) (And.intro (hB.trans (hb7.mono hB.size)) (And.intro hq (Bk.new wr 45 #[.int .i64 L, .int .i64 C, .int .i64 E])))))
      have hz1 := hk1.lt
      have HF := Lib.hid hf
      clear hk0 hk1 hB hq hf hbl0 hb7
      go_upto_region 6 with fail
      generalize hg : wr.heap.size = g7 at *
      generalize hw : wr.alloc (.cells #[.int .i64 L, .int .i64 C, .int .i64 E] 45) = z7 at *
      clear hg hw m0 m1 m2
      by_cases hE : E = 0
      · subst hE
        have q0 := HW.out.2.2.2.2.cell 0
        have q1 := HW.out.2.2.2.2.cell 1
        have q2 := HW.out.2.2.2.2.cell 2
        have qz := HW.out.2.2.2.2.lt
        simp at q0 q1 q2
        go_wp2_with fail
        go_roundw
        case rel => exact ⟨i + 1, q, by go_num, rfl, by omega, HW.out.1, HW.out.2.1, HW.out.2.2.1, by rw [firstF_succ HF.out HW.out.2.2.2.1]; rfl⟩
        case measure => simp [intOf]; omega
      · have e1 : (E == 0) = false := beq_false_of_ne hE
        have HE := Lib.hid hE
        clear hE
        cases q with
        | none =>
          rw [cF_none] at HW
          have q0 := HW.out.2.2.2.2.cell 0
          have q1 := HW.out.2.2.2.2.cell 1
          have q2 := HW.out.2.2.2.2.cell 2
          have qz := HW.out.2.2.2.2.lt
          have k0 := HW.out.2.1.cell 0
          have k1 := HW.out.2.1.cell 1
          have k2 := HW.out.2.1.cell 2
          have f0 := HW.out.2.1.frozen 0
          have f1 := HW.out.2.1.frozen 1
          have f2 := HW.out.2.1.frozen 2
          have kz := HW.out.2.1.lt
          simp at q0 q1 q2 k0 k1 k2
          go_wp2_with fail
          go_roundw
          case rel => exact ⟨i + 1, some (L, C, E), by go_num, rfl, by omega, ((HW.out.1.far (by simp) _).far (by simp) _).far (by simp) _, ((HW.out.2.1.put 0 _).put 1 _).put 2 _, ((HW.out.2.2.1.setCell (by simp) _).setCell (by simp) _).setCell (by simp) _, by rw [firstF_succ HF.out HW.out.2.2.2.1]; unfold stepF; rw [if_neg HE.out]⟩
          case measure => simp [intOf]; omega
        | some g =>
          obtain ⟨a1, b1, c1⟩ := g
          rw [cF_some] at HW
          obtain ⟨p, hp⟩ : ∃ p, pcmp L C a1 b1 = p := ⟨_, rfl⟩
          have HP := Lib.hid hp
          clear hp
          have q0 := HW.out.2.2.2.2.cell 0
          have q1 := HW.out.2.2.2.2.cell 1
          have q2 := HW.out.2.2.2.2.cell 2
          have qz := HW.out.2.2.2.2.lt
          have k0 := HW.out.2.1.cell 0
          have k1 := HW.out.2.1.cell 1
          have k2 := HW.out.2.1.cell 2
          have f0 := HW.out.2.1.frozen 0
          have f1 := HW.out.2.1.frozen 1
          have f2 := HW.out.2.1.frozen 2
          have kz := HW.out.2.1.lt
          simp at q0 q1 q2 k0 k1 k2
          by_cases hp0 : p < 0
          · have HP0 := Lib.hid hp0
            go_wp2_with (go_at_call 25; refine (cmp_p L C a1 b1 _).mono ?_; rintro e w2 ⟨rfl, hb⟩; rw [HP.out]; clear q0 q1 q2 qz k0 k1 k2 f0 f1 f2 kz; have HW := Lib.hid (And.intro (HW.out.1.keep hb) (And.intro (HW.out.2.1.keep hb) (And.intro (HW.out.2.2.1.trans (hb.mono HW.out.2.2.1.size)) (And.intro HW.out.2.2.2.1 (HW.out.2.2.2.2.keep hb))))); clear hb; have q0 := HW.out.2.2.2.2.cell 0; have q1 := HW.out.2.2.2.2.cell 1; have q2 := HW.out.2.2.2.2.cell 2; have qz := HW.out.2.2.2.2.lt; have k0 := HW.out.2.1.cell 0; have k1 := HW.out.2.1.cell 1; have k2 := HW.out.2.1.cell 2; have f0 := HW.out.2.1.frozen 0; have f1 := HW.out.2.1.frozen 1; have f2 := HW.out.2.1.frozen 2; have kz := HW.out.2.1.lt; simp at q0 q1 q2 k0 k1 k2)
            go_roundw
            case rel => exact ⟨i + 1, some (L, C, E), by go_num, rfl, by omega, ((HW.out.1.far (by simp) _).far (by simp) _).far (by simp) _, ((HW.out.2.1.put 0 _).put 1 _).put 2 _, ((HW.out.2.2.1.setCell (by simp) _).setCell (by simp) _).setCell (by simp) _, by rw [firstF_succ HF.out HW.out.2.2.2.1]; unfold stepF; rw [if_neg HE.out]; simp only [HP.out]; rw [if_pos (by have := HP0.out; omega)]⟩
            case measure => simp [intOf]; omega
          · have HP0 := Lib.hid hp0
            go_wp2_with (go_at_call 25; refine (cmp_p L C a1 b1 _).mono ?_; rintro e w2 ⟨rfl, hb⟩; rw [HP.out]; clear q0 q1 q2 qz k0 k1 k2 f0 f1 f2 kz; have HW := Lib.hid (And.intro (HW.out.1.keep hb) (And.intro (HW.out.2.1.keep hb) (And.intro (HW.out.2.2.1.trans (hb.mono HW.out.2.2.1.size)) (And.intro HW.out.2.2.2.1 (HW.out.2.2.2.2.keep hb))))); clear hb; have q0 := HW.out.2.2.2.2.cell 0; have q1 := HW.out.2.2.2.2.cell 1; have q2 := HW.out.2.2.2.2.cell 2; have qz := HW.out.2.2.2.2.lt; have k0 := HW.out.2.1.cell 0; have k1 := HW.out.2.1.cell 1; have k2 := HW.out.2.1.cell 2; have f0 := HW.out.2.1.frozen 0; have f1 := HW.out.2.1.frozen 1; have f2 := HW.out.2.1.frozen 2; have kz := HW.out.2.1.lt; simp at q0 q1 q2 k0 k1 k2)
            go_roundw
            case rel => exact ⟨i + 1, some (a1, b1, c1), by go_num, rfl, by omega, HW.out.1, HW.out.2.1, HW.out.2.2.1, by rw [firstF_succ HF.out HW.out.2.2.2.1]; unfold stepF; rw [if_neg HE.out]; simp only [HP.out]; rw [if_neg (by have := HP0.out; omega)]⟩
            case measure => simp [intOf]; omega
    · obtain rfl : i = n := by omega
      have g1 : decide ((i : Int) < (i : Int)) = false := by simp
      have HW := Lib.hid (And.intro hB hq)
      obtain ⟨x, y, z, hc⟩ := cF_cells q
      rw [hc] at hk1
      obtain ⟨fb, hfb⟩ : ∃ fb, q.isSome = fb := ⟨_, rfl⟩
      have HH := Lib.hid (And.intro hc hfb)
      rw [hfb]
      have z0 := hk0.lt
      have z1 := hk1.lt
      have c0 := hk0.cell 0
      have c1 := hk0.cell 1
      have c2 := hk0.cell 2
      have d0 := hk1.cell 0
      have d1 := hk1.cell 1
      have d2 := hk1.cell 2
      have f0 := hk0.frozen 0
      have f1 := hk0.frozen 1
      have f2 := hk0.frozen 2
      simp at c0 c1 c2 d0 d1 d2
      clear hk0 hk1 hB hq hc hfb
      go_wp2_with fail
      refine bodyPost_ret (v := .tuple #[.agg #[.int .i64 x, .int .i64 y, .int .i64 z], .bool fb]) (by simp [results, Try.results19, go_sem, z0, c0, c1, c2, f0, f1, f2]) rfl ?_
      have hfin := HW.out.2
      rw [List.take_of_length_le (by rw [HA.out.1]; exact Nat.le_refl _)] at hfin
      exact FsOk.mk hfin HH.out.1 HH.out.2 (((HW.out.1.setCell (by simp) _).setCell (by simp) _).setCell (by simp) _)
end Go.Proofs.Ytjocobfabdkadaa
