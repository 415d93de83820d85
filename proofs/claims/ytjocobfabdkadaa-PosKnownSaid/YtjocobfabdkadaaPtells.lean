/- PosTells, walked: whatever the positions, the faults and the text, the statement returns true, and nothing that was there before has turned. -/
import Derived.Test.YtjocobfabdkadaaPfirsts
import Derived.Test.YtjocobfabdkadaaPargs
namespace Go.Proofs.Ytjocobfabdkadaa
open Go.RowKit
attribute [local go_sem] alloc_drewN setCell_drewN
/-! ### Rows of faults of the call's own -/
abbrev Flt := Int × Int × Int
def cellsF (l : List Flt) : List Value := l.flatMap fun f => [.int .i64 f.1, .int .i64 f.2.1, .int .i64 f.2.2]
theorem cellsF_len : ∀ l : List Flt, (cellsF l).length = l.length * 3
  | [] => rfl
  | f :: l => by
    have := cellsF_len l
    simp only [cellsF, List.flatMap_cons, List.length_append, List.length_cons, List.length_nil] at this ⊢
    omega
theorem cellsF_at : ∀ {l : List Flt} {i : Nat} {f : Flt}, l[i]? = some f → (cellsF l)[i * 3]? = some (.int .i64 f.1) ∧ (cellsF l)[i * 3 + 1]? = some (.int .i64 f.2.1) ∧ (cellsF l)[i * 3 + 2]? = some (.int .i64 f.2.2)
  | [], i, f, h => by simp at h
  | g :: l, 0, f, h => by
    simp at h
    subst h
    exact ⟨rfl, rfl, rfl⟩
  | g :: l, i + 1, f, h => by
    have ih := cellsF_at (l := l) (i := i) (f := f) (by simpa using h)
    have e : cellsF (g :: l) = [.int .i64 g.1, .int .i64 g.2.1, .int .i64 g.2.2] ++ cellsF l := rfl
    rw [e]
    refine ⟨?_, ?_, ?_⟩
    · rw [List.getElem?_append_right (by simp; omega), show (i + 1) * 3 - [Value.int .i64 g.1, .int .i64 g.2.1, .int .i64 g.2.2].length = i * 3 by simp; omega]; exact ih.1
    · rw [List.getElem?_append_right (by simp; omega), show (i + 1) * 3 + 1 - [Value.int .i64 g.1, .int .i64 g.2.1, .int .i64 g.2.2].length = i * 3 + 1 by simp; omega]; exact ih.2.1
    · rw [List.getElem?_append_right (by simp; omega), show (i + 1) * 3 + 2 - [Value.int .i64 g.1, .int .i64 g.2.1, .int .i64 g.2.2].length = i * 3 + 2 by simp; omega]; exact ih.2.2
theorem cellsF_snoc (l : List Flt) (L C E : Int) : cellsF l ++ [.int .i64 L, .int .i64 C, .int .i64 E] = cellsF (l ++ [(L, C, E)]) := by
  simp [cellsF, List.flatMap_append]
def OwnF (g : Nat) (w : World) (v : Value) (l : List Flt) : Prop := w.ownsRow g 42 3 v l.length (cellsF l)
theorem infoF : (Try.prog.info? 42).map (fun i => (i.zero, i.size, i.bytes)) = some (some (.agg #[.int .i64 0, .int .i64 0, .int .i64 0]), 3, 24) := by kernel_rfl
theorem OwnF.nil (g : Nat) (w : World) : OwnF g w (.slice none 0 0) [] := World.ownsRow_nil _ _ _ _
theorem OwnF.keep {g : Nat} {w w' : World} {v : Value} {l : List Flt} (h : OwnF g w v l) (hb : Below w.heap.size w w') : OwnF g w' v l := by
  refine World.ownsRow.kept h (row := none) ⟨hb.os, hb.tape, hb.output, hb.size, fun k hk _ => hb.block k hk⟩ ?_
  cases v.ownBlock <;> simp
theorem OwnF.rw {g : Nat} {w : World} {v : Value} {l : List Flt} (h : OwnF g w v l) : ∃ A c, v = .slice A l.length c ∧ RwF w A l.length l ∧ (0 < l.length → ∃ b, A = some ⟨b, 0, none⟩ ∧ g ≤ b ∧ b < w.heap.size) := by
  rcases h.2 with ⟨rfl, h0⟩ | ⟨b, cap, cur, rfl, hb, hh, hcap, _⟩
  · have : l = [] := List.eq_nil_of_length_eq_zero h0
    subst this
    exact ⟨none, 0, rfl, ⟨rfl, fun h => absurd h (by simp)⟩, fun h => absurd h (by simp)⟩
  · have hbl := (World.ownsRow.lt h b (by simp [Value.ownBlock])).2
    refine ⟨_, cap, rfl, ⟨rfl, fun _ => ⟨b, 0, rfl, hbl, fun i f hf => ?_⟩⟩, fun _ => ⟨b, rfl, hb, hbl⟩⟩
    obtain ⟨h1, h2, h3⟩ := cellsF_at hf
    have k1 := World.ownsRow.cells h (g := b) (by simp [Value.ownBlock]) _ _ h1
    have k2 := World.ownsRow.cells h (g := b) (by simp [Value.ownBlock]) _ _ h2
    have k3 := World.ownsRow.cells h (g := b) (by simp [Value.ownBlock]) _ _ h3
    rw [plainAddr] at k1 k2 k3
    exact ⟨k1, by rw [Nat.add_assoc]; exact k2, by rw [Nat.add_assoc]; exact k3⟩
theorem new_flt (w : World) (L C E : Int) (j : Nat) (u : Value) (h : [Value.int .i64 L, .int .i64 C, .int .i64 E][j]? = some u) : (w.alloc (.cells #[.int .i64 L, .int .i64 C, .int .i64 E] 42)).cell? ((⟨w.heap.size, 0, none⟩ : Addr).add j) = some u := by
  have hk := (Bk.new w 42 #[.int .i64 L, .int .i64 C, .int .i64 E]).cell j
  rw [plainAddr, Nat.zero_add, hk]
  simpa using h
theorem one_flt (L C E : Int) : ∀ u ∈ [Value.int .i64 L, .int .i64 C, .int .i64 E], u.oneCell' = true := fun u hu => by
  simp only [List.mem_cons, List.not_mem_nil, or_false] at hu
  rcases hu with rfl | rfl | rfl <;> rfl
theorem OwnF.snoc {g : Nat} {w : World} {v' : Value} {l : List Flt} {L C E : Int} (h : w.ownsRow g 42 3 v' (l.length + 1) (cellsF l ++ [.int .i64 L, .int .i64 C, .int .i64 E])) : OwnF g w v' (l ++ [(L, C, E)]) := by
  unfold OwnF
  rw [List.length_append, ← cellsF_snoc]
  exact h
theorem OwnF.snoc2 {g i : Nat} {w : World} {v' : Value} {l m : List Flt} {L C E : Int} (hi : l.length = i) (hm : l ++ [(L, C, E)] = m) (h : w.ownsRow g 42 3 v' (i + 1) (cellsF l ++ [.int .i64 L, .int .i64 C, .int .i64 E])) : OwnF g w v' m := by
  subst hi hm
  exact OwnF.snoc h
theorem OwnF.rw2 {g i : Nat} {w : World} {v : Value} {l : List Flt} (h : OwnF g w v l) (hl : l.length = i + 1) : ∃ b c, v = .slice (some ⟨b, 0, none⟩) (i + 1) c ∧ g ≤ b ∧ b < w.heap.size ∧ RwF w (some ⟨b, 0, none⟩) (i + 1) l := by
  obtain ⟨A, c, rfl, hr, hb⟩ := h.rw
  obtain ⟨b, rfl, h1, h2⟩ := hb (by omega)
  rw [hl] at hr ⊢
  exact ⟨b, c, rfl, h1, h2, hr⟩
theorem RwF.of_own {w : World} {b n : Nat} {l : List Flt} {i : Nat} {L C E : Int} (h : RwF w (some ⟨b, 0, none⟩) n l) (hn : 0 < n) (hf : l[i]? = some (L, C, E)) : w.cell? ⟨b, i * 3, none⟩ = some (.int .i64 L) ∧ w.cell? ⟨b, i * 3 + 1, none⟩ = some (.int .i64 C) ∧ w.cell? ⟨b, i * 3 + 2, none⟩ = some (.int .i64 E) := by
  obtain ⟨b', off, e, _, hc⟩ := h.2 hn
  simp at e
  obtain ⟨rfl, rfl⟩ := e
  have := hc i _ hf
  simpa using this
def AllF (l : List Flt) : Prop := ∀ f ∈ l, Whl f.1 ∧ Whl f.2.1 ∧ Whl f.2.2
set_option maxRecDepth 100000 in
set_option maxHeartbeats 32000000 in
theorem tells_c (a1 b1 a2 b2 : Int) (A : Option Addr) (n c : Nat) (l : List Flt) (s : ByteArray) (w : World) (hr : RwF w A n l) (hl : AllF l) (hw : Whl a1 ∧ Whl b1) (hn : n ≤ 40) (hs : s.size ≤ 60) :
    Calls Try.prog 4 #[.agg #[.int .i64 a1, .int .i64 b1], .agg #[.int .i64 a2, .int .i64 b2], .slice A n c, .string s] w fun e w' => e = .returned (.bool true) ∧ Below w.heap.size w w' := by
  obtain ⟨i0, hi0, hz0, hz1, hz2⟩ := info_parts infoF
  have g0 : decide ((40 : Int) < (n : Int)) = false := by simp; omega
  have g1 : decide ((60 : Int) < (s.size : Int)) = false := by simp; omega
  have HA := Lib.hid (And.intro hr hl)
  have HR := Lib.hid hw
  have hb0 := below_box w (.cells #[.int .i64 a1, .int .i64 b1] 23)
  have hb1 := below_box (w.alloc (.cells #[.int .i64 a1, .int .i64 b1] 23)) (.cells #[.int .i64 a2, .int .i64 b2] 23)
  have hk5 := Bk.new (w.alloc (.cells #[.int .i64 a1, .int .i64 b1] 23)) 23 #[.int .i64 a2, .int .i64 b2]
  rw [World.size_alloc] at hk5
  have HK := Lib.hid (And.intro ((Bk.new w 23 #[.int .i64 a1, .int .i64 b1]).keep hb1) (And.intro hk5 (hb0.trans (hb1.mono hb0.size))))
  clear hr hl hw hb0 hb1 hk5
  go_enter Try.func4, Try.ntmps4
  go_wp2_with fail
  go_loopw [9, 10] (fun r v wr => ∃ i : Nat, v = .int .i64 i ∧ i ≤ n ∧ OwnF (w.heap.size + 2) wr r (l.take i) ∧ Bk wr w.heap.size 23 #[.int .i64 a1, .int .i64 b1] ∧ Bk wr (w.heap.size + 1) 23 #[.int .i64 a2, .int .i64 b2] ∧ Below w.heap.size w wr) (fun _ v _ => n - (intOf v).toNat)
  case atStart => exact ⟨0, rfl, Nat.zero_le _, OwnF.nil _ _, HK.out.1, HK.out.2.1, HK.out.2.2⟩
  case round =>
    clear HK
    obtain ⟨i, rfl, hi, ho, hA, hB5, hB⟩ := hrel
    have hws := hB.size
    have HK := Lib.hid (And.intro hA (And.intro hB5 hB))
    have HO := Lib.hid ho
    by_cases hin : i < n
    · have g2 : decide ((i : Int) < (n : Int)) = true := by simp; omega
      obtain ⟨b, off, L, C, E, rfl, hbl0, hf, m0, m1, m2⟩ := HA.out.1.at_ hin
      have hI := HA.out.2 _ (List.mem_of_getElem? hf)
      have HI := Lib.hid hI
      have m0 := (hB.cell (p := ⟨b, off + i * 3, none⟩) hbl0).trans m0
      have m1 := (hB.cell (p := ⟨b, off + i * 3 + 1, none⟩) hbl0).trans m1
      have m2 := (hB.cell (p := ⟨b, off + i * 3 + 2, none⟩) hbl0).trans m2
      have htk : (l.take i).length = i := by rw [List.length_take, HA.out.1.1]; omega
      have hsn : l.take i ++ [(L, C, E)] = l.take (i + 1) := by
        obtain ⟨q1, q2⟩ := List.getElem?_eq_some_iff.1 hf
        rw [List.take_succ_eq_append_getElem q1, q2]
      have HT := Lib.hid (And.intro htk (And.intro hsn (And.intro (And.intro m0 (And.intro m1 m2)) (And.intro hbl0 hf))))
      have hb1 : i + 1 ≤ maxLen := by unfold maxLen; omega
      have hb2 : (i + 1) * 24 ≤ 140737488355328 := by omega
      have hws2 : w.heap.size + 2 ≤ wr.heap.size := hB5.lt
      clear ho hA hB5 hB hf hI htk hsn hbl0
      go_upto_region 8 with (first
        | (go_at_call 16; refine (fault_c L C E _).mono ?_; rintro e w1 ⟨rfl, hb⟩; have HO3 := Lib.hid (And.intro (OwnF.keep HO.out hb) hb); clear hb m0 m1 m2)
        | (at_builtin; refine wpList_append_own _ rfl _ _ 39 rfl (w.heap.size + 2) 42 i0 (.agg #[.int .i64 0, .int .i64 0, .int .i64 0]) 3 24 Try.underlying39 hi0 hz0 hz1 hz2 rfl (by decide) _ i (cellsF (l.take i)) rfl (World.ownsRow.alloc (by have := HO3.out.1; unfold OwnF at this; rw [HT.out.1] at this; exact this) _) ⟨w1.heap.size, 0, none⟩ 1 1 [.int .i64 L, .int .i64 C, .int .i64 E] rfl rfl (new_flt w1 L C E) (one_flt L C E) hb1 hb2 (by have := HO3.out.2.size; simp; omega) ?_; intro v' wq ho' hg' _; have hbx : Below (w.heap.size + 2) wr wq := ((HO3.out.2.mono hws2).alloc (Nat.le_trans hws2 HO3.out.2.size) _).grown hg' (by have := HO3.out.2.size; simp; omega) (fun k hk => (World.ownsRow.lt HO3.out.1 k hk).1); have hO := OwnF.snoc2 HT.out.1 HT.out.2.1 ho'; obtain ⟨rb, rc, rfl, hrb, hrl, hrw⟩ := hO.rw2 (i := i) (by rw [List.length_take, HA.out.1.1]; omega); have HQ := Lib.hid (And.intro hO (And.intro hrb (And.intro hrw hbx))); clear ho' hg' hbx hO hrb hrw HO3))
      have hbx := HQ.out.2.2.2
      have HK := Lib.hid (And.intro (HK.out.1.below hbx (by omega)) (And.intro (HK.out.2.1.below hbx (by omega)) (HK.out.2.2.trans (hbx.mono (by omega)))))
      have hBw := HK.out.2.2
      have HC := Lib.hid (And.intro ((hbx.cell (p := ⟨b, off + i * 3, none⟩) (Nat.lt_of_lt_of_le HT.out.2.2.2.1 (by omega))).trans HT.out.2.2.1.1) (And.intro ((hbx.cell (p := ⟨b, off + i * 3 + 1, none⟩) (Nat.lt_of_lt_of_le HT.out.2.2.2.1 (by omega))).trans HT.out.2.2.1.2.1) ((hbx.cell (p := ⟨b, off + i * 3 + 2, none⟩) (Nat.lt_of_lt_of_le HT.out.2.2.2.1 (by omega))).trans HT.out.2.2.1.2.2)))
      have HRC := Lib.hid (HQ.out.2.2.1.of_own (i := i) (by omega) (by rw [List.getElem?_take, if_pos (by omega)]; exact HT.out.2.2.2.2))
      have hbl : b < wq.heap.size := Nat.lt_of_lt_of_le HT.out.2.2.2.1 hBw.size
      clear hbx hBw
      refine wp_region_walk [0, 1, 2, 3, 4, 5, 6, 7, 8, 9, 10] [47, 48, 49, 50, 51, 52, 53, 54, 55, 56, 57] 0 (by kernel_rfl) (by kernel_rfl) (by kernel_rfl) rfl (by simp) (by kernel_rfl) (by kernel_rfl) ?_
      apply RegW.val 0 rfl
      · intro a w' hF hB hd; have e2 := hF.2.2 2 (by decide); simp at e2; clear hd hF; refine wpOp_step rfl (fun K' hK => ?_); go_simp; exact hK _ _ ⟨_, rfl, Below.refl _ _, cst_ok⟩
      apply RegW.val 1 rfl
      · intro a w' hF hB hd; have e10 := hF.2.2 10 (by decide); simp at e10; clear hd hF; refine wpOp_step rfl (fun K' hK => ?_); go_simp; exact hK _ _ ⟨_, rfl, Below.refl _ _, cst_ok⟩
      refine RegW.op 2 rfl (cst (.pointer (some ⟨b, off + i * 3, none⟩))) ?_ ?_
      · intro a w' hF hB hd; have v0 : a.tmps[47]?.getD undef = _ := hd 0 (of_decide_eq_true (by kernel_rfl)) 1 _ _ rfl rfl; have v1 : a.tmps[48]?.getD undef = _ := hd 1 (of_decide_eq_true (by kernel_rfl)) 0 _ _ rfl rfl; clear hd hF; have hI : (i : Int) < (n : Int) := (by omega); refine wpOp_step rfl (fun K' hK => ?_); go_simp; exact hK _ _ ⟨_, rfl, Below.refl _ _, cst_ok⟩
      apply RegW.val 3 rfl
      · intro a w' hF hB hd; have v2 : a.tmps[49]?.getD undef = _ := hd 2 (of_decide_eq_true (by kernel_rfl)) 0 _ _ rfl rfl; clear hd hF; have m0 := (hB.cell (p := ⟨b, off + i * 3, none⟩) hbl).trans HC.out.1; have m1 := (hB.cell (p := ⟨b, off + i * 3 + 1, none⟩) hbl).trans HC.out.2.1; have m2 := (hB.cell (p := ⟨b, off + i * 3 + 2, none⟩) hbl).trans HC.out.2.2; refine wpOp_step rfl (fun K' hK => ?_); go_simp; exact hK _ _ ⟨_, rfl, Below.refl _ _, cst_ok⟩
      refine RegW.op 4 rfl (cst (.string (str (ftx L C E)))) ?_ ?_
      · intro a w' hF hB hd; have v3 : a.tmps[50]?.getD undef = _ := hd 3 (of_decide_eq_true (by kernel_rfl)) 0 _ _ rfl rfl; clear hd hF; refine wpOp_step rfl (fun K' hK => ?_); go_simp; refine (faultText_c L C E _ HI.out.1.1 HI.out.1.2 HI.out.2.1.1 HI.out.2.1.2 HI.out.2.2.1 HI.out.2.2.2).mono ?_; rintro e w2 ⟨rfl, hb⟩; exact hK _ _ ⟨_, rfl, hb, cst_ok⟩
      apply RegW.val 5 rfl
      · intro a w' hF hB hd; have e9 := hF.2.2 9 (by decide); simp at e9; clear hd hF; refine wpOp_step rfl (fun K' hK => ?_); go_simp; exact hK _ _ ⟨_, rfl, Below.refl _ _, cst_ok⟩
      apply RegW.val 6 rfl
      · intro a w' hF hB hd; have e10 := hF.2.2 10 (by decide); simp at e10; clear hd hF; refine wpOp_step rfl (fun K' hK => ?_); go_simp; exact hK _ _ ⟨_, rfl, Below.refl _ _, cst_ok⟩
      refine RegW.op 7 rfl (cst (.pointer (some ⟨rb, i * 3, none⟩))) ?_ ?_
      · intro a w' hF hB hd; have v5 : a.tmps[52]?.getD undef = _ := hd 5 (of_decide_eq_true (by kernel_rfl)) 1 _ _ rfl rfl; have v6 : a.tmps[53]?.getD undef = _ := hd 6 (of_decide_eq_true (by kernel_rfl)) 0 _ _ rfl rfl; clear hd hF; have hI : (i : Int) < (i + 1 : Int) := (by omega); refine wpOp_step rfl (fun K' hK => ?_); go_simp; exact hK _ _ ⟨_, rfl, Below.refl _ _, cst_ok⟩
      apply RegW.val 8 rfl
      · intro a w' hF hB hd; have v7 : a.tmps[54]?.getD undef = _ := hd 7 (of_decide_eq_true (by kernel_rfl)) 0 _ _ rfl rfl; clear hd hF; have m0 := (hB.cell (p := ⟨rb, i * 3, none⟩) hrl).trans HRC.out.1; have m1 := (hB.cell (p := ⟨rb, i * 3 + 1, none⟩) hrl).trans HRC.out.2.1; have m2 := (hB.cell (p := ⟨rb, i * 3 + 2, none⟩) hrl).trans HRC.out.2.2; refine wpOp_step rfl (fun K' hK => ?_); go_simp; exact hK _ _ ⟨_, rfl, Below.refl _ _, cst_ok⟩
      refine RegW.op 9 rfl (cst (.string (str (ftx L C E)))) ?_ ?_
      · intro a w' hF hB hd; have v8 : a.tmps[55]?.getD undef = _ := hd 8 (of_decide_eq_true (by kernel_rfl)) 0 _ _ rfl rfl; clear hd hF; refine wpOp_step rfl (fun K' hK => ?_); go_simp; refine (rFaultText_c L C E _ HI.out.1.1 HI.out.1.2 HI.out.2.1.1 HI.out.2.1.2 HI.out.2.2.1 HI.out.2.2.2).mono ?_; rintro e w2 ⟨rfl, hb⟩; exact hK _ _ ⟨_, rfl, hb, cst_ok⟩
      apply RegW.val 10 rfl
      · intro a w' hF hB hd; have v4 : a.tmps[51]?.getD undef = _ := hd 4 (of_decide_eq_true (by kernel_rfl)) 5 _ _ rfl rfl; have v9 : a.tmps[56]?.getD undef = _ := hd 9 (of_decide_eq_true (by kernel_rfl)) 0 _ _ rfl rfl; clear hd hF; refine wpOp_step rfl (fun K' hK => ?_); go_simp; exact hK _ _ ⟨_, rfl, Below.refl _ _, cst_ok⟩
      refine RegW.done (fun a w' hF hB hv => ?_)
      have v0 : a.tmps[47]?.getD undef = _ := hv 10 _ _ rfl
      have v1 : a.tmps[48]?.getD undef = _ := hv 9 _ _ rfl
      have v2 : a.tmps[49]?.getD undef = _ := hv 8 _ _ rfl
      have v3 : a.tmps[50]?.getD undef = _ := hv 7 _ _ rfl
      have v4 : a.tmps[51]?.getD undef = _ := hv 6 _ _ rfl
      have v5 : a.tmps[52]?.getD undef = _ := hv 5 _ _ rfl
      have v6 : a.tmps[53]?.getD undef = _ := hv 4 _ _ rfl
      have v7 : a.tmps[54]?.getD undef = _ := hv 3 _ _ rfl
      have v8 : a.tmps[55]?.getD undef = _ := hv 2 _ _ rfl
      have v9 : a.tmps[56]?.getD undef = _ := hv 1 _ _ rfl
      have v10 : a.tmps[57]?.getD undef = _ := hv 0 _ _ rfl
      have hE := hF.out
      rw [hE]
      clear hE hF hv
      simp only [List.foldl_cons, List.foldl_nil, Act.put, List.setIfInBounds_toArray, List.set_cons_zero, List.set_cons_succ, Array.getD_eq_getD_getElem?, v0, v1, v2, v3, v4, v5, v6, v7, v8, v9, v10]
      clear v0 v1 v2 v3 v4 v5 v6 v7 v8 v9 v10

      go_wp2_with fail
      go_roundw
      case rel => exact ⟨i + 1, by go_num, by omega, OwnF.keep HQ.out.1 hB, HK.out.1.keep hB, HK.out.2.1.keep hB, HK.out.2.2.trans (hB.mono HK.out.2.2.size)⟩
      case measure => simp [intOf]; omega
    · have hin : i = n := by omega
      subst hin
      have g2 : decide ((i : Int) < (i : Int)) = false := by simp
      have ht : l.take i = l := by rw [← HA.out.1.1, List.take_length]
      rw [ht] at ho
      obtain ⟨RA, rc, rfl, hrw, hrb⟩ := ho.rw
      rw [HA.out.1.1] at *
      have HL := Lib.hid (And.intro (HA.out.1.keep hB) hrw)
      clear ho hA hB5 hB hrw hrb HO ht
      obtain ⟨x1, y1, z1, c1, hx1⟩ : ∃ x y z c, Value.tuple #[fltO (firstF l), .bool (firstF l).isSome] = .tuple #[.agg #[.int .i64 x, .int .i64 y, .int .i64 z], .bool c] := ⟨_, _, _, _, rfl⟩
      obtain ⟨x2, y2, c2, hx2⟩ : ∃ x y c, Value.tuple #[posO (rdP (bys s)), .bool (rdP (bys s)).isSome] = .tuple #[.agg #[.int .i64 x, .int .i64 y], .bool c] := ⟨_, _, _, rfl⟩
      obtain ⟨x3, y3, z3, c3, hx3⟩ : ∃ x y z c, Value.tuple #[fltO (rdF (bys s)), .bool (rdF (bys s)).isSome] = .tuple #[.agg #[.int .i64 x, .int .i64 y, .int .i64 z], .bool c] := ⟨_, _, _, _, rfl⟩
      have HE1 := Lib.hid hx1
      clear hx1
      have HE2 := Lib.hid hx2
      clear hx2
      have HE3 := Lib.hid hx3
      clear hx3
      go_upto_region 11 with (go_at_call 19; go_loud (refine (first_c A i c l _ HL.out.1 (by omega)).mono ?_; rintro e w0 ⟨rfl, hb⟩; rw [HE1.out]))
      have hB := hb.trans ((below_box w0 (.cells #[.int .i64 x1, .int .i64 y1, .int .i64 z1] 45)).mono hb.size)
      have HK := Lib.hid (And.intro (HK.out.1.keep hB) (And.intro (HK.out.2.1.keep hB) (HK.out.2.2.trans (hB.mono HK.out.2.2.size))))
      have HL := Lib.hid (And.intro (HL.out.1.keep hB) (HL.out.2.keep hB))
      have HX := Lib.hid (Bk.new w0 45 #[.int .i64 x1, .int .i64 y1, .int .i64 z1])
      clear hb hB
      generalize hg : w0.heap.size = g0 at *
      generalize hw : w0.alloc (.cells #[.int .i64 x1, .int .i64 y1, .int .i64 z1] 45) = p0 at *
      clear hg hw
      go_upto_region 12 with (go_at_call 20; go_loud (refine (rFirst_c RA i rc l _ HL.out.2 (by omega)).mono ?_; rintro e w1 ⟨rfl, hb⟩; rw [HE1.out]))
      have hB := hb.trans ((below_box w1 (.cells #[.int .i64 x1, .int .i64 y1, .int .i64 z1] 42)).mono hb.size)
      have HK := Lib.hid (And.intro (HK.out.1.keep hB) (And.intro (HK.out.2.1.keep hB) (HK.out.2.2.trans (hB.mono HK.out.2.2.size))))
      have HL := Lib.hid (And.intro (HL.out.1.keep hB) (HL.out.2.keep hB))
      have HX := Lib.hid (And.intro (HX.out.keep hB) (Bk.new w1 42 #[.int .i64 x1, .int .i64 y1, .int .i64 z1]))
      clear hb hB
      generalize hg : w1.heap.size = g1 at *
      generalize hw : w1.alloc (.cells #[.int .i64 x1, .int .i64 y1, .int .i64 z1] 42) = p1 at *
      clear hg hw
      go_upto_region 13 with (go_at_call 21; go_loud (refine (read_c s _ (by omega)).mono ?_; rintro e w2 ⟨rfl, hb⟩; rw [HE2.out]))
      have hB := hb.trans ((below_box w2 (.cells #[.int .i64 x2, .int .i64 y2] 23)).mono hb.size)
      have HK := Lib.hid (And.intro (HK.out.1.keep hB) (And.intro (HK.out.2.1.keep hB) (HK.out.2.2.trans (hB.mono HK.out.2.2.size))))
      have HL := Lib.hid (And.intro (HL.out.1.keep hB) (HL.out.2.keep hB))
      have HX := Lib.hid (And.intro (HX.out.1.keep hB) (And.intro (HX.out.2.keep hB) (Bk.new w2 23 #[.int .i64 x2, .int .i64 y2])))
      clear hb hB
      generalize hg : w2.heap.size = g2 at *
      generalize hw : w2.alloc (.cells #[.int .i64 x2, .int .i64 y2] 23) = p2 at *
      clear hg hw
      go_upto_region 14 with (go_at_call 22; go_loud (refine (rRead_c s _ (by omega)).mono ?_; rintro e w3 ⟨rfl, hb⟩; rw [HE2.out]))
      have hB := hb.trans ((below_box w3 (.cells #[.int .i64 x2, .int .i64 y2] 27)).mono hb.size)
      have HK := Lib.hid (And.intro (HK.out.1.keep hB) (And.intro (HK.out.2.1.keep hB) (HK.out.2.2.trans (hB.mono HK.out.2.2.size))))
      have HL := Lib.hid (And.intro (HL.out.1.keep hB) (HL.out.2.keep hB))
      have HX := Lib.hid (And.intro (HX.out.1.keep hB) (And.intro (HX.out.2.1.keep hB) (And.intro (HX.out.2.2.keep hB) (Bk.new w3 27 #[.int .i64 x2, .int .i64 y2]))))
      clear hb hB
      generalize hg : w3.heap.size = g3 at *
      generalize hw : w3.alloc (.cells #[.int .i64 x2, .int .i64 y2] 27) = p3 at *
      clear hg hw
      go_upto_region 15 with (go_at_call 23; go_loud (refine (readFault_c s _ (by omega)).mono ?_; rintro e w4 ⟨rfl, hb⟩; rw [HE3.out]))
      have hB := hb.trans ((below_box w4 (.cells #[.int .i64 x3, .int .i64 y3, .int .i64 z3] 45)).mono hb.size)
      have HK := Lib.hid (And.intro (HK.out.1.keep hB) (And.intro (HK.out.2.1.keep hB) (HK.out.2.2.trans (hB.mono HK.out.2.2.size))))
      have HL := Lib.hid (And.intro (HL.out.1.keep hB) (HL.out.2.keep hB))
      have HX := Lib.hid (And.intro (HX.out.1.keep hB) (And.intro (HX.out.2.1.keep hB) (And.intro (HX.out.2.2.1.keep hB) (And.intro (HX.out.2.2.2.keep hB) (Bk.new w4 45 #[.int .i64 x3, .int .i64 y3, .int .i64 z3])))))
      clear hb hB
      generalize hg : w4.heap.size = g4 at *
      generalize hw : w4.alloc (.cells #[.int .i64 x3, .int .i64 y3, .int .i64 z3] 45) = p4 at *
      clear hg hw
      go_upto_region 16 with (go_at_call 24; go_loud (refine (rReadFault_c s _ (by omega)).mono ?_; rintro e w5 ⟨rfl, hb⟩; rw [HE3.out]))
      have hB := hb.trans ((below_box w5 (.cells #[.int .i64 x3, .int .i64 y3, .int .i64 z3] 42)).mono hb.size)
      have HK := Lib.hid (And.intro (HK.out.1.keep hB) (And.intro (HK.out.2.1.keep hB) (HK.out.2.2.trans (hB.mono HK.out.2.2.size))))
      have HL := Lib.hid (And.intro (HL.out.1.keep hB) (HL.out.2.keep hB))
      have HX := Lib.hid (And.intro (HX.out.1.keep hB) (And.intro (HX.out.2.1.keep hB) (And.intro (HX.out.2.2.1.keep hB) (And.intro (HX.out.2.2.2.1.keep hB) (And.intro (HX.out.2.2.2.2.keep hB) (Bk.new w5 42 #[.int .i64 x3, .int .i64 y3, .int .i64 z3]))))))
      clear hb hB
      generalize hg : w5.heap.size = g5 at *
      generalize hw : w5.alloc (.cells #[.int .i64 x3, .int .i64 y3, .int .i64 z3] 42) = p5 at *
      clear hg hw
      go_wp2_with fail
      go_loopw [23] (fun v wr => ∃ j : Nat, v = .int .i64 j ∧ j ≤ i ∧ Below p5.heap.size p5 wr) (fun v _ => i - (intOf v).toNat)
      case atStart => exact ⟨0, rfl, Nat.zero_le _, Below.refl _ _⟩
      case round =>
      obtain ⟨j, rfl, hj, hB⟩ := hrel
      by_cases hjn : j < i
      · have g2 : decide ((j : Int) < (i : Int)) = true := by simp; omega
        obtain ⟨b, off, L, C, E, rfl, hbl0, hf, m0, m1, m2⟩ := HL.out.1.at_ hjn
        obtain ⟨rb, ro, L', C', E', rfl, hrl0, hf', r0, r1, r2⟩ := HL.out.2.at_ hjn
        rw [hf] at hf'
        obtain ⟨rfl, rfl, rfl⟩ : L = L' ∧ C = C' ∧ E = E' := by simpa using hf'
        have m0 := (hB.cell (p := ⟨b, off + j * 3, none⟩) hbl0).trans m0
        have m1 := (hB.cell (p := ⟨b, off + j * 3 + 1, none⟩) hbl0).trans m1
        have m2 := (hB.cell (p := ⟨b, off + j * 3 + 2, none⟩) hbl0).trans m2
        have r0 := (hB.cell (p := ⟨rb, ro + j * 3, none⟩) hrl0).trans r0
        have r1 := (hB.cell (p := ⟨rb, ro + j * 3 + 1, none⟩) hrl0).trans r1
        have r2 := (hB.cell (p := ⟨rb, ro + j * 3 + 2, none⟩) hrl0).trans r2
        have HC := Lib.hid (And.intro (Nat.lt_of_lt_of_le hbl0 hB.size) (And.intro m0 (And.intro m1 m2)))
        have HRC := Lib.hid (And.intro (Nat.lt_of_lt_of_le hrl0 hB.size) (And.intro r0 (And.intro r1 r2)))
        have HB := Lib.hid hB
        clear hB hf hf' hbl0 hrl0 m0 m1 m2 r0 r1 r2
        go_upto_region 19 with fail
        refine wp_region_walk [0, 1, 2, 3, 4, 5, 6, 7, 8, 9] [94, 95, 96, 97, 98, 99, 100, 101, 102, 103] 0 (by kernel_rfl) (by kernel_rfl) (by kernel_rfl) rfl (by simp) (by kernel_rfl) (by kernel_rfl) ?_
        apply RegW.val 0 rfl
        · intro a w' hF hB hd; have e2 := hF.2.2 2 (by decide); simp at e2; clear hd hF; refine wpOp_step rfl (fun K' hK => ?_); go_simp; exact hK _ _ ⟨_, rfl, Below.refl _ _, cst_ok⟩
        apply RegW.val 1 rfl
        · intro a w' hF hB hd; have e23 := hF.2.2 23 (by decide); simp at e23; clear hd hF; refine wpOp_step rfl (fun K' hK => ?_); go_simp; exact hK _ _ ⟨_, rfl, Below.refl _ _, cst_ok⟩
        refine RegW.op 2 rfl (cst (.pointer (some ⟨b, off + j * 3, none⟩))) ?_ ?_
        · intro a w' hF hB hd; have v0 : a.tmps[94]?.getD undef = _ := hd 0 (of_decide_eq_true (by kernel_rfl)) 1 _ _ rfl rfl; have v1 : a.tmps[95]?.getD undef = _ := hd 1 (of_decide_eq_true (by kernel_rfl)) 0 _ _ rfl rfl; clear hd hF; have hI : (j : Int) < (i : Int) := (by omega); refine wpOp_step rfl (fun K' hK => ?_); go_simp; exact hK _ _ ⟨_, rfl, Below.refl _ _, cst_ok⟩
        apply RegW.val 3 rfl
        · intro a w' hF hB hd; have v2 : a.tmps[96]?.getD undef = _ := hd 2 (of_decide_eq_true (by kernel_rfl)) 0 _ _ rfl rfl; clear hd hF; have m0 := (hB.cell (p := ⟨b, off + j * 3, none⟩) HC.out.1).trans HC.out.2.1; have m1 := (hB.cell (p := ⟨b, off + j * 3 + 1, none⟩) HC.out.1).trans HC.out.2.2.1; have m2 := (hB.cell (p := ⟨b, off + j * 3 + 2, none⟩) HC.out.1).trans HC.out.2.2.2; refine wpOp_step rfl (fun K' hK => ?_); go_simp; exact hK _ _ ⟨_, rfl, Below.refl _ _, cst_ok⟩
        apply RegW.val 4 rfl
        · intro a w' hF hB hd; have v3 : a.tmps[97]?.getD undef = _ := hd 3 (of_decide_eq_true (by kernel_rfl)) 0 _ _ rfl rfl; clear hd hF; refine wpOp_step rfl (fun K' hK => ?_); go_simp; refine (fault_c L C E _).mono ?_; rintro e w2 ⟨rfl, hb⟩; exact hK _ _ ⟨_, rfl, hb, cst_ok⟩
        apply RegW.val 5 rfl
        · intro a w' hF hB hd; have e9 := hF.2.2 9 (by decide); simp at e9; clear hd hF; refine wpOp_step rfl (fun K' hK => ?_); go_simp; exact hK _ _ ⟨_, rfl, Below.refl _ _, cst_ok⟩
        apply RegW.val 6 rfl
        · intro a w' hF hB hd; have e23 := hF.2.2 23 (by decide); simp at e23; clear hd hF; refine wpOp_step rfl (fun K' hK => ?_); go_simp; exact hK _ _ ⟨_, rfl, Below.refl _ _, cst_ok⟩
        refine RegW.op 7 rfl (cst (.pointer (some ⟨rb, ro + j * 3, none⟩))) ?_ ?_
        · intro a w' hF hB hd; have v5 : a.tmps[99]?.getD undef = _ := hd 5 (of_decide_eq_true (by kernel_rfl)) 1 _ _ rfl rfl; have v6 : a.tmps[100]?.getD undef = _ := hd 6 (of_decide_eq_true (by kernel_rfl)) 0 _ _ rfl rfl; clear hd hF; have hI : (j : Int) < (i : Int) := (by omega); refine wpOp_step rfl (fun K' hK => ?_); go_simp; exact hK _ _ ⟨_, rfl, Below.refl _ _, cst_ok⟩
        apply RegW.val 8 rfl
        · intro a w' hF hB hd; have v7 : a.tmps[101]?.getD undef = _ := hd 7 (of_decide_eq_true (by kernel_rfl)) 0 _ _ rfl rfl; clear hd hF; have m0 := (hB.cell (p := ⟨rb, ro + j * 3, none⟩) HRC.out.1).trans HRC.out.2.1; have m1 := (hB.cell (p := ⟨rb, ro + j * 3 + 1, none⟩) HRC.out.1).trans HRC.out.2.2.1; have m2 := (hB.cell (p := ⟨rb, ro + j * 3 + 2, none⟩) HRC.out.1).trans HRC.out.2.2.2; refine wpOp_step rfl (fun K' hK => ?_); go_simp; exact hK _ _ ⟨_, rfl, Below.refl _ _, cst_ok⟩
        apply RegW.val 9 rfl
        · intro a w' hF hB hd; have v4 : a.tmps[98]?.getD undef = _ := hd 4 (of_decide_eq_true (by kernel_rfl)) 4 _ _ rfl rfl; have v8 : a.tmps[102]?.getD undef = _ := hd 8 (of_decide_eq_true (by kernel_rfl)) 0 _ _ rfl rfl; clear hd hF; refine wpOp_step rfl (fun K' hK => ?_); go_simp; exact hK _ _ ⟨_, rfl, Below.refl _ _, cst_ok⟩
        refine RegW.done (fun a w' hF hB hv => ?_)
        have v0 : a.tmps[94]?.getD undef = _ := hv 9 _ _ rfl
        have v1 : a.tmps[95]?.getD undef = _ := hv 8 _ _ rfl
        have v2 : a.tmps[96]?.getD undef = _ := hv 7 _ _ rfl
        have v3 : a.tmps[97]?.getD undef = _ := hv 6 _ _ rfl
        have v4 : a.tmps[98]?.getD undef = _ := hv 5 _ _ rfl
        have v5 : a.tmps[99]?.getD undef = _ := hv 4 _ _ rfl
        have v6 : a.tmps[100]?.getD undef = _ := hv 3 _ _ rfl
        have v7 : a.tmps[101]?.getD undef = _ := hv 2 _ _ rfl
        have v8 : a.tmps[102]?.getD undef = _ := hv 1 _ _ rfl
        have v9 : a.tmps[103]?.getD undef = _ := hv 0 _ _ rfl
        have hE := hF.out
        rw [hE]
        clear hE hF hv
        simp only [List.foldl_cons, List.foldl_nil, Act.put, List.setIfInBounds_toArray, List.set_cons_zero, List.set_cons_succ, Array.getD_eq_getD_getElem?, v0, v1, v2, v3, v4, v5, v6, v7, v8, v9]
        clear v0 v1 v2 v3 v4 v5 v6 v7 v8 v9

        go_wp2_with fail
        go_roundw
        case rel => exact ⟨j + 1, by go_num, by omega, HB.out.trans (hB.mono HB.out.size)⟩
        case measure => simp [intOf]; omega
      have hjn : j = i := by omega
      subst hjn
      have g2 : decide ((j : Int) < (j : Int)) = false := by simp
      have HK := Lib.hid (And.intro (HK.out.1.keep hB) (And.intro (HK.out.2.1.keep hB) (HK.out.2.2.trans (hB.mono HK.out.2.2.size))))
      have HX := Lib.hid (And.intro (HX.out.1.keep hB) (And.intro (HX.out.2.1.keep hB) (And.intro (HX.out.2.2.1.keep hB) (And.intro (HX.out.2.2.2.1.keep hB) (And.intro (HX.out.2.2.2.2.1.keep hB) (HX.out.2.2.2.2.2.keep hB))))))
      clear hB
      go_upto_region 21 with fail
      refine wp_region_walk [0, 1, 2, 3, 4, 5, 6, 7, 8, 9, 10, 11, 12, 13, 14, 15, 16, 17, 18, 19, 20, 21, 22, 23, 24, 25, 26, 27, 28, 29, 30, 31, 32, 33, 34, 35, 36, 37, 38, 39, 40, 41, 42, 43, 44, 45, 46, 47, 48, 49, 50, 51, 52, 53] [104, 105, 106, 107, 108, 109, 110, 111, 112, 113, 114, 115, 116, 117, 118, 119, 120, 121, 122, 123, 124, 125, 126, 127, 128, 129, 130, 131, 132, 133, 134, 135, 136, 137, 138, 139, 140, 141, 142, 143, 144, 145, 146, 147, 148, 149, 150, 151, 152, 153, 154, 155, 156, 8] 0 (by kernel_rfl) (by kernel_rfl) (by kernel_rfl) rfl (by simp) (by kernel_rfl) (by kernel_rfl) ?_
      apply RegW.val 0 rfl
      · intro a w' hF hB hd; have e4 := hF.2.2 4 (by decide); simp at e4; clear hd hF; have hk := (HK.out.1).keep hB; have k0 := hk.cell 0; have k1 := hk.cell 1; have kz := hk.lt; simp at k0 k1; refine wpOp_step rfl (fun K' hK => ?_); go_simp; exact hK _ _ ⟨_, rfl, Below.refl _ _, cst_ok⟩
      apply RegW.val 1 rfl
      · intro a w' hF hB hd; have e5 := hF.2.2 5 (by decide); simp at e5; clear hd hF; have hk := (HK.out.2.1).keep hB; have k0 := hk.cell 0; have k1 := hk.cell 1; have kz := hk.lt; simp at k0 k1; refine wpOp_step rfl (fun K' hK => ?_); go_simp; exact hK _ _ ⟨_, rfl, Below.refl _ _, cst_ok⟩
      apply RegW.val 2 rfl
      · intro a w' hF hB hd; have v0 : a.tmps[104]?.getD undef = _ := hd 0 (of_decide_eq_true (by kernel_rfl)) 1 _ _ rfl rfl; have v1 : a.tmps[105]?.getD undef = _ := hd 1 (of_decide_eq_true (by kernel_rfl)) 0 _ _ rfl rfl; clear hd hF; refine wpOp_step rfl (fun K' hK => ?_); go_simp; refine (cmp_p a1 b1 a2 b2 _).mono ?_; rintro e w2 ⟨rfl, hb⟩; exact hK _ _ ⟨_, rfl, hb, cst_ok⟩
      apply RegW.val 3 rfl
      · intro a w' hF hB hd; have e4 := hF.2.2 4 (by decide); simp at e4; clear hd hF; have hk := (HK.out.1).keep hB; have k0 := hk.cell 0; have k1 := hk.cell 1; have kz := hk.lt; simp at k0 k1; refine wpOp_step rfl (fun K' hK => ?_); go_simp; exact hK _ _ ⟨_, rfl, Below.refl _ _, cst_ok⟩
      apply RegW.val 4 rfl
      · intro a w' hF hB hd; have v3 : a.tmps[107]?.getD undef = _ := hd 3 (of_decide_eq_true (by kernel_rfl)) 0 _ _ rfl rfl; clear hd hF; refine wpOp_step rfl (fun K' hK => ?_); go_simp; refine (ref_c a1 b1 _).mono ?_; rintro e w2 ⟨rfl, hb⟩; exact hK _ _ ⟨_, rfl, hb, cst_ok⟩
      apply RegW.val 5 rfl
      · intro a w' hF hB hd; have e5 := hF.2.2 5 (by decide); simp at e5; clear hd hF; have hk := (HK.out.2.1).keep hB; have k0 := hk.cell 0; have k1 := hk.cell 1; have kz := hk.lt; simp at k0 k1; refine wpOp_step rfl (fun K' hK => ?_); go_simp; exact hK _ _ ⟨_, rfl, Below.refl _ _, cst_ok⟩
      apply RegW.val 6 rfl
      · intro a w' hF hB hd; have v5 : a.tmps[109]?.getD undef = _ := hd 5 (of_decide_eq_true (by kernel_rfl)) 0 _ _ rfl rfl; clear hd hF; refine wpOp_step rfl (fun K' hK => ?_); go_simp; refine (ref_c a2 b2 _).mono ?_; rintro e w2 ⟨rfl, hb⟩; exact hK _ _ ⟨_, rfl, hb, cst_ok⟩
      apply RegW.val 7 rfl
      · intro a w' hF hB hd; have v4 : a.tmps[108]?.getD undef = _ := hd 4 (of_decide_eq_true (by kernel_rfl)) 2 _ _ rfl rfl; have v6 : a.tmps[110]?.getD undef = _ := hd 6 (of_decide_eq_true (by kernel_rfl)) 0 _ _ rfl rfl; clear hd hF; refine wpOp_step rfl (fun K' hK => ?_); go_simp; refine (rCmp_p a1 b1 a2 b2 _).mono ?_; rintro e w2 ⟨rfl, hb⟩; exact hK _ _ ⟨_, rfl, hb, cst_ok⟩
      apply RegW.val 8 rfl
      · intro a w' hF hB hd; have v2 : a.tmps[106]?.getD undef = _ := hd 2 (of_decide_eq_true (by kernel_rfl)) 5 _ _ rfl rfl; have v7 : a.tmps[111]?.getD undef = _ := hd 7 (of_decide_eq_true (by kernel_rfl)) 0 _ _ rfl rfl; clear hd hF; refine wpOp_step rfl (fun K' hK => ?_); go_simp; exact hK _ _ ⟨_, rfl, Below.refl _ _, cst_ok⟩
      apply RegW.val 9 rfl
      · intro a w' hF hB hd; have v8 : a.tmps[112]?.getD undef = _ := hd 8 (of_decide_eq_true (by kernel_rfl)) 0 _ _ rfl rfl; clear hd hF; refine wpOp_step rfl (fun K' hK => ?_); go_simp; exact hK _ _ ⟨_, rfl, Below.refl _ _, cst_ok⟩
      apply RegW.val 10 rfl
      · intro a w' hF hB hd; have v9 : a.tmps[113]?.getD undef = _ := hd 9 (of_decide_eq_true (by kernel_rfl)) 0 _ _ rfl rfl; have gd := tmp_bool v9; have e4 := hF.2.2 4 (by decide); simp at e4; clear hd hF; have hk := (HK.out.1).keep hB; have k0 := hk.cell 0; have k1 := hk.cell 1; have kz := hk.lt; simp at k0 k1; refine wpOp_step rfl (fun K' hK => ?_); go_simp; exact hK _ _ ⟨_, rfl, Below.refl _ _, cst_ok⟩
      apply RegW.val 11 rfl
      · intro a w' hF hB hd; have v9 : a.tmps[113]?.getD undef = _ := hd 9 (of_decide_eq_true (by kernel_rfl)) 1 _ _ rfl rfl; have v10 : a.tmps[114]?.getD undef = _ := hd 10 (of_decide_eq_true (by kernel_rfl)) 0 _ _ rfl rfl; have gd := tmp_bool v9; clear hd hF; refine wpOp_step rfl (fun K' hK => ?_); go_simp; refine (text_p a1 b1 _ HR.out.1.1 HR.out.1.2 HR.out.2.1 HR.out.2.2).mono ?_; rintro e w2 ⟨rfl, hb⟩; exact hK _ _ ⟨_, rfl, hb, cst_ok⟩
      apply RegW.val 12 rfl
      · intro a w' hF hB hd; have v9 : a.tmps[113]?.getD undef = _ := hd 9 (of_decide_eq_true (by kernel_rfl)) 2 _ _ rfl rfl; have gd := tmp_bool v9; have e4 := hF.2.2 4 (by decide); simp at e4; clear hd hF; have hk := (HK.out.1).keep hB; have k0 := hk.cell 0; have k1 := hk.cell 1; have kz := hk.lt; simp at k0 k1; refine wpOp_step rfl (fun K' hK => ?_); go_simp; exact hK _ _ ⟨_, rfl, Below.refl _ _, cst_ok⟩
      apply RegW.val 13 rfl
      · intro a w' hF hB hd; have v9 : a.tmps[113]?.getD undef = _ := hd 9 (of_decide_eq_true (by kernel_rfl)) 3 _ _ rfl rfl; have v12 : a.tmps[116]?.getD undef = _ := hd 12 (of_decide_eq_true (by kernel_rfl)) 0 _ _ rfl rfl; have gd := tmp_bool v9; clear hd hF; refine wpOp_step rfl (fun K' hK => ?_); go_simp; refine (ref_c a1 b1 _).mono ?_; rintro e w2 ⟨rfl, hb⟩; exact hK _ _ ⟨_, rfl, hb, cst_ok⟩
      apply RegW.val 14 rfl
      · intro a w' hF hB hd; have v9 : a.tmps[113]?.getD undef = _ := hd 9 (of_decide_eq_true (by kernel_rfl)) 4 _ _ rfl rfl; have v13 : a.tmps[117]?.getD undef = _ := hd 13 (of_decide_eq_true (by kernel_rfl)) 0 _ _ rfl rfl; have gd := tmp_bool v9; clear hd hF; refine wpOp_step rfl (fun K' hK => ?_); go_simp; refine (rText_p a1 b1 _ HR.out.1.1 HR.out.1.2 HR.out.2.1 HR.out.2.2).mono ?_; rintro e w2 ⟨rfl, hb⟩; exact hK _ _ ⟨_, rfl, hb, cst_ok⟩
      apply RegW.val 15 rfl
      · intro a w' hF hB hd; have v9 : a.tmps[113]?.getD undef = _ := hd 9 (of_decide_eq_true (by kernel_rfl)) 5 _ _ rfl rfl; have v11 : a.tmps[115]?.getD undef = _ := hd 11 (of_decide_eq_true (by kernel_rfl)) 3 _ _ rfl rfl; have v14 : a.tmps[118]?.getD undef = _ := hd 14 (of_decide_eq_true (by kernel_rfl)) 0 _ _ rfl rfl; have gd := tmp_bool v9; clear hd hF; refine wpOp_step rfl (fun K' hK => ?_); go_simp; exact hK _ _ ⟨_, rfl, Below.refl _ _, cst_ok⟩
      apply RegW.val 16 rfl
      · intro a w' hF hB hd; have v9 : a.tmps[113]?.getD undef = _ := hd 9 (of_decide_eq_true (by kernel_rfl)) 6 _ _ rfl rfl; have v15 : a.tmps[119]?.getD undef = _ := hd 15 (of_decide_eq_true (by kernel_rfl)) 0 _ _ rfl rfl; clear hd hF; refine wpOp_step rfl (fun K' hK => ?_); go_simp; exact hK _ _ ⟨_, rfl, Below.refl _ _, cst_ok⟩
      apply RegW.val 17 rfl
      · intro a w' hF hB hd; have v16 : a.tmps[120]?.getD undef = _ := hd 16 (of_decide_eq_true (by kernel_rfl)) 0 _ _ rfl rfl; clear hd hF; refine wpOp_step rfl (fun K' hK => ?_); go_simp; exact hK _ _ ⟨_, rfl, Below.refl _ _, cst_ok⟩
      apply RegW.val 18 rfl
      · intro a w' hF hB hd; have v17 : a.tmps[121]?.getD undef = _ := hd 17 (of_decide_eq_true (by kernel_rfl)) 0 _ _ rfl rfl; have gd := tmp_bool v17; have e11 := hF.2.2 11 (by decide); simp at e11; clear hd hF; have hk := (HX.out.1).keep hB; have k0 := hk.cell 0; have k1 := hk.cell 1; have k2 := hk.cell 2; have kz := hk.lt; simp at k0 k1 k2; refine wpOp_step rfl (fun K' hK => ?_); go_simp; exact hK _ _ ⟨_, rfl, Below.refl _ _, cst_ok⟩
      apply RegW.val 19 rfl
      · intro a w' hF hB hd; have v17 : a.tmps[121]?.getD undef = _ := hd 17 (of_decide_eq_true (by kernel_rfl)) 1 _ _ rfl rfl; have v18 : a.tmps[122]?.getD undef = _ := hd 18 (of_decide_eq_true (by kernel_rfl)) 0 _ _ rfl rfl; have gd := tmp_bool v17; clear hd hF; refine wpOp_step rfl (fun K' hK => ?_); go_simp; refine (fault_c x1 y1 z1 _).mono ?_; rintro e w2 ⟨rfl, hb⟩; exact hK _ _ ⟨_, rfl, hb, cst_ok⟩
      apply RegW.val 20 rfl
      · intro a w' hF hB hd; have v17 : a.tmps[121]?.getD undef = _ := hd 17 (of_decide_eq_true (by kernel_rfl)) 2 _ _ rfl rfl; have gd := tmp_bool v17; have e13 := hF.2.2 13 (by decide); simp at e13; clear hd hF; have hk := (HX.out.2.1).keep hB; have k0 := hk.cell 0; have k1 := hk.cell 1; have k2 := hk.cell 2; have kz := hk.lt; simp at k0 k1 k2; refine wpOp_step rfl (fun K' hK => ?_); go_simp; exact hK _ _ ⟨_, rfl, Below.refl _ _, cst_ok⟩
      apply RegW.val 21 rfl
      · intro a w' hF hB hd; have v17 : a.tmps[121]?.getD undef = _ := hd 17 (of_decide_eq_true (by kernel_rfl)) 3 _ _ rfl rfl; have v19 : a.tmps[123]?.getD undef = _ := hd 19 (of_decide_eq_true (by kernel_rfl)) 1 _ _ rfl rfl; have v20 : a.tmps[124]?.getD undef = _ := hd 20 (of_decide_eq_true (by kernel_rfl)) 0 _ _ rfl rfl; have gd := tmp_bool v17; clear hd hF; refine wpOp_step rfl (fun K' hK => ?_); go_simp; exact hK _ _ ⟨_, rfl, Below.refl _ _, cst_ok⟩
      apply RegW.val 22 rfl
      · intro a w' hF hB hd; have v17 : a.tmps[121]?.getD undef = _ := hd 17 (of_decide_eq_true (by kernel_rfl)) 4 _ _ rfl rfl; have v21 : a.tmps[125]?.getD undef = _ := hd 21 (of_decide_eq_true (by kernel_rfl)) 0 _ _ rfl rfl; clear hd hF; refine wpOp_step rfl (fun K' hK => ?_); go_simp; exact hK _ _ ⟨_, rfl, Below.refl _ _, cst_ok⟩
      apply RegW.val 23 rfl
      · intro a w' hF hB hd; have v22 : a.tmps[126]?.getD undef = _ := hd 22 (of_decide_eq_true (by kernel_rfl)) 0 _ _ rfl rfl; clear hd hF; refine wpOp_step rfl (fun K' hK => ?_); go_simp; exact hK _ _ ⟨_, rfl, Below.refl _ _, cst_ok⟩
      apply RegW.val 24 rfl
      · intro a w' hF hB hd; have v23 : a.tmps[127]?.getD undef = _ := hd 23 (of_decide_eq_true (by kernel_rfl)) 0 _ _ rfl rfl; have gd := tmp_bool v23; have e12 := hF.2.2 12 (by decide); simp at e12; clear hd hF; refine wpOp_step rfl (fun K' hK => ?_); go_simp; exact hK _ _ ⟨_, rfl, Below.refl _ _, cst_ok⟩
      apply RegW.val 25 rfl
      · intro a w' hF hB hd; have v23 : a.tmps[127]?.getD undef = _ := hd 23 (of_decide_eq_true (by kernel_rfl)) 1 _ _ rfl rfl; have gd := tmp_bool v23; have e14 := hF.2.2 14 (by decide); simp at e14; clear hd hF; refine wpOp_step rfl (fun K' hK => ?_); go_simp; exact hK _ _ ⟨_, rfl, Below.refl _ _, cst_ok⟩
      apply RegW.val 26 rfl
      · intro a w' hF hB hd; have v23 : a.tmps[127]?.getD undef = _ := hd 23 (of_decide_eq_true (by kernel_rfl)) 2 _ _ rfl rfl; have v24 : a.tmps[128]?.getD undef = _ := hd 24 (of_decide_eq_true (by kernel_rfl)) 1 _ _ rfl rfl; have v25 : a.tmps[129]?.getD undef = _ := hd 25 (of_decide_eq_true (by kernel_rfl)) 0 _ _ rfl rfl; have gd := tmp_bool v23; clear hd hF; refine wpOp_step rfl (fun K' hK => ?_); go_simp; exact hK _ _ ⟨_, rfl, Below.refl _ _, cst_ok⟩
      apply RegW.val 27 rfl
      · intro a w' hF hB hd; have v23 : a.tmps[127]?.getD undef = _ := hd 23 (of_decide_eq_true (by kernel_rfl)) 3 _ _ rfl rfl; have v26 : a.tmps[130]?.getD undef = _ := hd 26 (of_decide_eq_true (by kernel_rfl)) 0 _ _ rfl rfl; clear hd hF; refine wpOp_step rfl (fun K' hK => ?_); go_simp; exact hK _ _ ⟨_, rfl, Below.refl _ _, cst_ok⟩
      apply RegW.val 28 rfl
      · intro a w' hF hB hd; have v27 : a.tmps[131]?.getD undef = _ := hd 27 (of_decide_eq_true (by kernel_rfl)) 0 _ _ rfl rfl; clear hd hF; refine wpOp_step rfl (fun K' hK => ?_); go_simp; exact hK _ _ ⟨_, rfl, Below.refl _ _, cst_ok⟩
      apply RegW.val 29 rfl
      · intro a w' hF hB hd; have v28 : a.tmps[132]?.getD undef = _ := hd 28 (of_decide_eq_true (by kernel_rfl)) 0 _ _ rfl rfl; have gd := tmp_bool v28; have e15 := hF.2.2 15 (by decide); simp at e15; clear hd hF; have hk := (HX.out.2.2.1).keep hB; have k0 := hk.cell 0; have k1 := hk.cell 1; have kz := hk.lt; simp at k0 k1; refine wpOp_step rfl (fun K' hK => ?_); go_simp; exact hK _ _ ⟨_, rfl, Below.refl _ _, cst_ok⟩
      apply RegW.val 30 rfl
      · intro a w' hF hB hd; have v28 : a.tmps[132]?.getD undef = _ := hd 28 (of_decide_eq_true (by kernel_rfl)) 1 _ _ rfl rfl; have v29 : a.tmps[133]?.getD undef = _ := hd 29 (of_decide_eq_true (by kernel_rfl)) 0 _ _ rfl rfl; have gd := tmp_bool v28; clear hd hF; refine wpOp_step rfl (fun K' hK => ?_); go_simp; refine (ref_c x2 y2 _).mono ?_; rintro e w2 ⟨rfl, hb⟩; exact hK _ _ ⟨_, rfl, hb, cst_ok⟩
      apply RegW.val 31 rfl
      · intro a w' hF hB hd; have v28 : a.tmps[132]?.getD undef = _ := hd 28 (of_decide_eq_true (by kernel_rfl)) 2 _ _ rfl rfl; have gd := tmp_bool v28; have e17 := hF.2.2 17 (by decide); simp at e17; clear hd hF; have hk := (HX.out.2.2.2.1).keep hB; have k0 := hk.cell 0; have k1 := hk.cell 1; have kz := hk.lt; simp at k0 k1; refine wpOp_step rfl (fun K' hK => ?_); go_simp; exact hK _ _ ⟨_, rfl, Below.refl _ _, cst_ok⟩
      apply RegW.val 32 rfl
      · intro a w' hF hB hd; have v28 : a.tmps[132]?.getD undef = _ := hd 28 (of_decide_eq_true (by kernel_rfl)) 3 _ _ rfl rfl; have v30 : a.tmps[134]?.getD undef = _ := hd 30 (of_decide_eq_true (by kernel_rfl)) 1 _ _ rfl rfl; have v31 : a.tmps[135]?.getD undef = _ := hd 31 (of_decide_eq_true (by kernel_rfl)) 0 _ _ rfl rfl; have gd := tmp_bool v28; clear hd hF; refine wpOp_step rfl (fun K' hK => ?_); go_simp; exact hK _ _ ⟨_, rfl, Below.refl _ _, cst_ok⟩
      apply RegW.val 33 rfl
      · intro a w' hF hB hd; have v28 : a.tmps[132]?.getD undef = _ := hd 28 (of_decide_eq_true (by kernel_rfl)) 4 _ _ rfl rfl; have v32 : a.tmps[136]?.getD undef = _ := hd 32 (of_decide_eq_true (by kernel_rfl)) 0 _ _ rfl rfl; clear hd hF; refine wpOp_step rfl (fun K' hK => ?_); go_simp; exact hK _ _ ⟨_, rfl, Below.refl _ _, cst_ok⟩
      apply RegW.val 34 rfl
      · intro a w' hF hB hd; have v33 : a.tmps[137]?.getD undef = _ := hd 33 (of_decide_eq_true (by kernel_rfl)) 0 _ _ rfl rfl; clear hd hF; refine wpOp_step rfl (fun K' hK => ?_); go_simp; exact hK _ _ ⟨_, rfl, Below.refl _ _, cst_ok⟩
      apply RegW.val 35 rfl
      · intro a w' hF hB hd; have v34 : a.tmps[138]?.getD undef = _ := hd 34 (of_decide_eq_true (by kernel_rfl)) 0 _ _ rfl rfl; have gd := tmp_bool v34; have e16 := hF.2.2 16 (by decide); simp at e16; clear hd hF; refine wpOp_step rfl (fun K' hK => ?_); go_simp; exact hK _ _ ⟨_, rfl, Below.refl _ _, cst_ok⟩
      apply RegW.val 36 rfl
      · intro a w' hF hB hd; have v34 : a.tmps[138]?.getD undef = _ := hd 34 (of_decide_eq_true (by kernel_rfl)) 1 _ _ rfl rfl; have gd := tmp_bool v34; have e18 := hF.2.2 18 (by decide); simp at e18; clear hd hF; refine wpOp_step rfl (fun K' hK => ?_); go_simp; exact hK _ _ ⟨_, rfl, Below.refl _ _, cst_ok⟩
      apply RegW.val 37 rfl
      · intro a w' hF hB hd; have v34 : a.tmps[138]?.getD undef = _ := hd 34 (of_decide_eq_true (by kernel_rfl)) 2 _ _ rfl rfl; have v35 : a.tmps[139]?.getD undef = _ := hd 35 (of_decide_eq_true (by kernel_rfl)) 1 _ _ rfl rfl; have v36 : a.tmps[140]?.getD undef = _ := hd 36 (of_decide_eq_true (by kernel_rfl)) 0 _ _ rfl rfl; have gd := tmp_bool v34; clear hd hF; refine wpOp_step rfl (fun K' hK => ?_); go_simp; exact hK _ _ ⟨_, rfl, Below.refl _ _, cst_ok⟩
      apply RegW.val 38 rfl
      · intro a w' hF hB hd; have v34 : a.tmps[138]?.getD undef = _ := hd 34 (of_decide_eq_true (by kernel_rfl)) 3 _ _ rfl rfl; have v37 : a.tmps[141]?.getD undef = _ := hd 37 (of_decide_eq_true (by kernel_rfl)) 0 _ _ rfl rfl; clear hd hF; refine wpOp_step rfl (fun K' hK => ?_); go_simp; exact hK _ _ ⟨_, rfl, Below.refl _ _, cst_ok⟩
      apply RegW.val 39 rfl
      · intro a w' hF hB hd; have v38 : a.tmps[142]?.getD undef = _ := hd 38 (of_decide_eq_true (by kernel_rfl)) 0 _ _ rfl rfl; clear hd hF; refine wpOp_step rfl (fun K' hK => ?_); go_simp; exact hK _ _ ⟨_, rfl, Below.refl _ _, cst_ok⟩
      apply RegW.val 40 rfl
      · intro a w' hF hB hd; have v39 : a.tmps[143]?.getD undef = _ := hd 39 (of_decide_eq_true (by kernel_rfl)) 0 _ _ rfl rfl; have gd := tmp_bool v39; have e19 := hF.2.2 19 (by decide); simp at e19; clear hd hF; have hk := (HX.out.2.2.2.2.1).keep hB; have k0 := hk.cell 0; have k1 := hk.cell 1; have k2 := hk.cell 2; have kz := hk.lt; simp at k0 k1 k2; refine wpOp_step rfl (fun K' hK => ?_); go_simp; exact hK _ _ ⟨_, rfl, Below.refl _ _, cst_ok⟩
      apply RegW.val 41 rfl
      · intro a w' hF hB hd; have v39 : a.tmps[143]?.getD undef = _ := hd 39 (of_decide_eq_true (by kernel_rfl)) 1 _ _ rfl rfl; have v40 : a.tmps[144]?.getD undef = _ := hd 40 (of_decide_eq_true (by kernel_rfl)) 0 _ _ rfl rfl; have gd := tmp_bool v39; clear hd hF; refine wpOp_step rfl (fun K' hK => ?_); go_simp; refine (fault_c x3 y3 z3 _).mono ?_; rintro e w2 ⟨rfl, hb⟩; exact hK _ _ ⟨_, rfl, hb, cst_ok⟩
      apply RegW.val 42 rfl
      · intro a w' hF hB hd; have v39 : a.tmps[143]?.getD undef = _ := hd 39 (of_decide_eq_true (by kernel_rfl)) 2 _ _ rfl rfl; have gd := tmp_bool v39; have e21 := hF.2.2 21 (by decide); simp at e21; clear hd hF; have hk := (HX.out.2.2.2.2.2).keep hB; have k0 := hk.cell 0; have k1 := hk.cell 1; have k2 := hk.cell 2; have kz := hk.lt; simp at k0 k1 k2; refine wpOp_step rfl (fun K' hK => ?_); go_simp; exact hK _ _ ⟨_, rfl, Below.refl _ _, cst_ok⟩
      apply RegW.val 43 rfl
      · intro a w' hF hB hd; have v39 : a.tmps[143]?.getD undef = _ := hd 39 (of_decide_eq_true (by kernel_rfl)) 3 _ _ rfl rfl; have v41 : a.tmps[145]?.getD undef = _ := hd 41 (of_decide_eq_true (by kernel_rfl)) 1 _ _ rfl rfl; have v42 : a.tmps[146]?.getD undef = _ := hd 42 (of_decide_eq_true (by kernel_rfl)) 0 _ _ rfl rfl; have gd := tmp_bool v39; clear hd hF; refine wpOp_step rfl (fun K' hK => ?_); go_simp; exact hK _ _ ⟨_, rfl, Below.refl _ _, cst_ok⟩
      apply RegW.val 44 rfl
      · intro a w' hF hB hd; have v39 : a.tmps[143]?.getD undef = _ := hd 39 (of_decide_eq_true (by kernel_rfl)) 4 _ _ rfl rfl; have v43 : a.tmps[147]?.getD undef = _ := hd 43 (of_decide_eq_true (by kernel_rfl)) 0 _ _ rfl rfl; clear hd hF; refine wpOp_step rfl (fun K' hK => ?_); go_simp; exact hK _ _ ⟨_, rfl, Below.refl _ _, cst_ok⟩
      apply RegW.val 45 rfl
      · intro a w' hF hB hd; have v44 : a.tmps[148]?.getD undef = _ := hd 44 (of_decide_eq_true (by kernel_rfl)) 0 _ _ rfl rfl; clear hd hF; refine wpOp_step rfl (fun K' hK => ?_); go_simp; exact hK _ _ ⟨_, rfl, Below.refl _ _, cst_ok⟩
      apply RegW.val 46 rfl
      · intro a w' hF hB hd; have v45 : a.tmps[149]?.getD undef = _ := hd 45 (of_decide_eq_true (by kernel_rfl)) 0 _ _ rfl rfl; have gd := tmp_bool v45; have e20 := hF.2.2 20 (by decide); simp at e20; clear hd hF; refine wpOp_step rfl (fun K' hK => ?_); go_simp; exact hK _ _ ⟨_, rfl, Below.refl _ _, cst_ok⟩
      apply RegW.val 47 rfl
      · intro a w' hF hB hd; have v45 : a.tmps[149]?.getD undef = _ := hd 45 (of_decide_eq_true (by kernel_rfl)) 1 _ _ rfl rfl; have gd := tmp_bool v45; have e22 := hF.2.2 22 (by decide); simp at e22; clear hd hF; refine wpOp_step rfl (fun K' hK => ?_); go_simp; exact hK _ _ ⟨_, rfl, Below.refl _ _, cst_ok⟩
      apply RegW.val 48 rfl
      · intro a w' hF hB hd; have v45 : a.tmps[149]?.getD undef = _ := hd 45 (of_decide_eq_true (by kernel_rfl)) 2 _ _ rfl rfl; have v46 : a.tmps[150]?.getD undef = _ := hd 46 (of_decide_eq_true (by kernel_rfl)) 1 _ _ rfl rfl; have v47 : a.tmps[151]?.getD undef = _ := hd 47 (of_decide_eq_true (by kernel_rfl)) 0 _ _ rfl rfl; have gd := tmp_bool v45; clear hd hF; refine wpOp_step rfl (fun K' hK => ?_); go_simp; exact hK _ _ ⟨_, rfl, Below.refl _ _, cst_ok⟩
      apply RegW.val 49 rfl
      · intro a w' hF hB hd; have v45 : a.tmps[149]?.getD undef = _ := hd 45 (of_decide_eq_true (by kernel_rfl)) 3 _ _ rfl rfl; have v48 : a.tmps[152]?.getD undef = _ := hd 48 (of_decide_eq_true (by kernel_rfl)) 0 _ _ rfl rfl; clear hd hF; refine wpOp_step rfl (fun K' hK => ?_); go_simp; exact hK _ _ ⟨_, rfl, Below.refl _ _, cst_ok⟩
      apply RegW.val 50 rfl
      · intro a w' hF hB hd; have v49 : a.tmps[153]?.getD undef = _ := hd 49 (of_decide_eq_true (by kernel_rfl)) 0 _ _ rfl rfl; clear hd hF; refine wpOp_step rfl (fun K' hK => ?_); go_simp; exact hK _ _ ⟨_, rfl, Below.refl _ _, cst_ok⟩
      refine RegW.op 51 rfl (cst (.bool true)) ?_ ?_
      · intro a w' hF hB hd; have v50 : a.tmps[154]?.getD undef = _ := hd 50 (of_decide_eq_true (by kernel_rfl)) 0 _ _ rfl rfl; have gd := tmp_bool v50; clear hd hF; refine wpOp_step rfl (fun K' hK => ?_); go_simp; refine (works_c _).mono ?_; rintro e w2 ⟨rfl, hb⟩; exact hK _ _ ⟨_, rfl, hb, cst_ok⟩
      apply RegW.val 52 rfl
      · intro a w' hF hB hd; have v50 : a.tmps[154]?.getD undef = _ := hd 50 (of_decide_eq_true (by kernel_rfl)) 1 _ _ rfl rfl; have v51 : a.tmps[155]?.getD undef = _ := hd 51 (of_decide_eq_true (by kernel_rfl)) 0 _ _ rfl rfl; clear hd hF; refine wpOp_step rfl (fun K' hK => ?_); go_simp; exact hK _ _ ⟨_, rfl, Below.refl _ _, cst_ok⟩
      apply RegW.val 53 rfl
      · intro a w' hF hB hd; have v52 : a.tmps[156]?.getD undef = _ := hd 52 (of_decide_eq_true (by kernel_rfl)) 0 _ _ rfl rfl; clear hd hF; refine wpOp_step rfl (fun K' hK => ?_); go_simp; exact hK _ _ ⟨_, rfl, Below.refl _ _, cst_ok⟩
      refine RegW.done (fun a w' hF hB hv => ?_)
      have v0 : a.tmps[104]?.getD undef = _ := hv 53 _ _ rfl
      have v1 : a.tmps[105]?.getD undef = _ := hv 52 _ _ rfl
      have v2 : a.tmps[106]?.getD undef = _ := hv 51 _ _ rfl
      have v3 : a.tmps[107]?.getD undef = _ := hv 50 _ _ rfl
      have v4 : a.tmps[108]?.getD undef = _ := hv 49 _ _ rfl
      have v5 : a.tmps[109]?.getD undef = _ := hv 48 _ _ rfl
      have v6 : a.tmps[110]?.getD undef = _ := hv 47 _ _ rfl
      have v7 : a.tmps[111]?.getD undef = _ := hv 46 _ _ rfl
      have v8 : a.tmps[112]?.getD undef = _ := hv 45 _ _ rfl
      have v9 : a.tmps[113]?.getD undef = _ := hv 44 _ _ rfl
      have v10 : a.tmps[114]?.getD undef = _ := hv 43 _ _ rfl
      have v11 : a.tmps[115]?.getD undef = _ := hv 42 _ _ rfl
      have v12 : a.tmps[116]?.getD undef = _ := hv 41 _ _ rfl
      have v13 : a.tmps[117]?.getD undef = _ := hv 40 _ _ rfl
      have v14 : a.tmps[118]?.getD undef = _ := hv 39 _ _ rfl
      have v15 : a.tmps[119]?.getD undef = _ := hv 38 _ _ rfl
      have v16 : a.tmps[120]?.getD undef = _ := hv 37 _ _ rfl
      have v17 : a.tmps[121]?.getD undef = _ := hv 36 _ _ rfl
      have v18 : a.tmps[122]?.getD undef = _ := hv 35 _ _ rfl
      have v19 : a.tmps[123]?.getD undef = _ := hv 34 _ _ rfl
      have v20 : a.tmps[124]?.getD undef = _ := hv 33 _ _ rfl
      have v21 : a.tmps[125]?.getD undef = _ := hv 32 _ _ rfl
      have v22 : a.tmps[126]?.getD undef = _ := hv 31 _ _ rfl
      have v23 : a.tmps[127]?.getD undef = _ := hv 30 _ _ rfl
      have v24 : a.tmps[128]?.getD undef = _ := hv 29 _ _ rfl
      have v25 : a.tmps[129]?.getD undef = _ := hv 28 _ _ rfl
      have v26 : a.tmps[130]?.getD undef = _ := hv 27 _ _ rfl
      have v27 : a.tmps[131]?.getD undef = _ := hv 26 _ _ rfl
      have v28 : a.tmps[132]?.getD undef = _ := hv 25 _ _ rfl
      have v29 : a.tmps[133]?.getD undef = _ := hv 24 _ _ rfl
      have v30 : a.tmps[134]?.getD undef = _ := hv 23 _ _ rfl
      have v31 : a.tmps[135]?.getD undef = _ := hv 22 _ _ rfl
      have v32 : a.tmps[136]?.getD undef = _ := hv 21 _ _ rfl
      have v33 : a.tmps[137]?.getD undef = _ := hv 20 _ _ rfl
      have v34 : a.tmps[138]?.getD undef = _ := hv 19 _ _ rfl
      have v35 : a.tmps[139]?.getD undef = _ := hv 18 _ _ rfl
      have v36 : a.tmps[140]?.getD undef = _ := hv 17 _ _ rfl
      have v37 : a.tmps[141]?.getD undef = _ := hv 16 _ _ rfl
      have v38 : a.tmps[142]?.getD undef = _ := hv 15 _ _ rfl
      have v39 : a.tmps[143]?.getD undef = _ := hv 14 _ _ rfl
      have v40 : a.tmps[144]?.getD undef = _ := hv 13 _ _ rfl
      have v41 : a.tmps[145]?.getD undef = _ := hv 12 _ _ rfl
      have v42 : a.tmps[146]?.getD undef = _ := hv 11 _ _ rfl
      have v43 : a.tmps[147]?.getD undef = _ := hv 10 _ _ rfl
      have v44 : a.tmps[148]?.getD undef = _ := hv 9 _ _ rfl
      have v45 : a.tmps[149]?.getD undef = _ := hv 8 _ _ rfl
      have v46 : a.tmps[150]?.getD undef = _ := hv 7 _ _ rfl
      have v47 : a.tmps[151]?.getD undef = _ := hv 6 _ _ rfl
      have v48 : a.tmps[152]?.getD undef = _ := hv 5 _ _ rfl
      have v49 : a.tmps[153]?.getD undef = _ := hv 4 _ _ rfl
      have v50 : a.tmps[154]?.getD undef = _ := hv 3 _ _ rfl
      have v51 : a.tmps[155]?.getD undef = _ := hv 2 _ _ rfl
      have v52 : a.tmps[156]?.getD undef = _ := hv 1 _ _ rfl
      have v53 : a.tmps[8]?.getD undef = _ := hv 0 _ _ rfl
      have hE := hF.out
      rw [hE]
      clear hE hF hv
      simp only [List.foldl_cons, List.foldl_nil, Act.put, List.setIfInBounds_toArray, List.set_cons_zero, List.set_cons_succ, Array.getD_eq_getD_getElem?, v0, v1, v2, v3, v4, v5, v6, v7, v8, v9, v10, v11, v12, v13, v14, v15, v16, v17, v18, v19, v20, v21, v22, v23, v24, v25, v26, v27, v28, v29, v30, v31, v32, v33, v34, v35, v36, v37, v38, v39, v40, v41, v42, v43, v44, v45, v46, v47, v48, v49, v50, v51, v52, v53]
      clear v0 v1 v2 v3 v4 v5 v6 v7 v8 v9 v10 v11 v12 v13 v14 v15 v16 v17 v18 v19 v20 v21 v22 v23 v24 v25 v26 v27 v28 v29 v30 v31 v32 v33 v34 v35 v36 v37 v38 v39 v40 v41 v42 v43 v44 v45 v46 v47 v48 v49 v50 v51 v52 v53

      have hBw := hB
      go_wp2_with fail
      go_ret
      exact ⟨rfl, HK.out.2.2.trans (hBw.mono HK.out.2.2.size)⟩
end Go.Proofs.Ytjocobfabdkadaa
