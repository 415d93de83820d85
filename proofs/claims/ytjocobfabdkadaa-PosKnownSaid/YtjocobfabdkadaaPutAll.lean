/- putAll of package deci, by contract: a number's digits, chunk by chunk, by closures that are deferred. -/
import Derived.Test.YtjocobfabdkadaaPut
import Derived.Deep.CutBlock
import Derived.Deep.LoopGhost
namespace Go.Proofs.Ytjocobfabdkadaa
open Go.RowKit
attribute [local go_sem] alloc_drewN setCell_drewN
/-- A chunk that waits: the blocks of its value and of its least number of digits; these two. -/
structure Chunk where
  R : Nat
  L : Nat
  r : Nat
  least : Nat
def Chunk.digs (c : Chunk) : List Nat := (low 200 c.r c.least).reverse
def mkA (X : Nat) (c : Chunk) : Deferred := { target := .fn (.func 69) #[.pointer (some ⟨X, 0, none⟩), .pointer (some ⟨c.R, 0, none⟩), .pointer (some ⟨c.L, 0, none⟩)], args := #[] }
/-- The chunks of a number, the lowest first. -/
def chunks : Nat → Nat → List (Nat × Nat)
  | 0, _ => []
  | f + 1, M => if M = 0 then [] else (M % 10000000000000000000, if M / 10000000000000000000 = 0 then 1 else 19) :: chunks f (M / 10000000000000000000)
/-- A chunk's three blocks are as they were laid. -/
structure Lies (w : World) (c : Chunk) : Prop where
  R : Bk w c.R 78 #[.int .u64 c.r]
  L : Bk w c.L 3 #[.int .i64 c.least]
  lt : c.r < 18446744073709551616
  le : c.least ≤ 100
theorem low_len : ∀ f n least : Nat, (low f n least).length ≤ f
  | 0, _, _ => Nat.le_refl _
  | f + 1, n, least => by
    simp only [low]
    split
    · simp
    · have := low_len f (n / 10) (least - 1)
      simp; omega
theorem Chunk.digs_len (c : Chunk) : c.digs.length ≤ 200 := by
  unfold Chunk.digs
  rw [List.length_reverse]
  exact low_len _ _ _
set_option maxHeartbeats 4000000 in
theorem chunk_c (X p g : Nat) (c : Chunk) (v : Value) (l : List Nat) (w : World) (hX : Bk w X 88 #[.pointer (some ⟨p, 0, none⟩)]) (hc : Lies w c) (ho : Out w g p v l) (hg : g ≤ w.heap.size) (hl : l.length ≤ 50000) :
    CallsD Try.prog 69 #[.pointer (some ⟨X, 0, none⟩), .pointer (some ⟨c.R, 0, none⟩), .pointer (some ⟨c.L, 0, none⟩)] .returning w fun e u' w' => u' = .returning ∧ e = .returned (.tuple #[]) ∧ ∃ v', Out w' g p v' (l ++ c.digs) ∧ (v'.ownBlock = v.ownBlock ∨ ∃ q, v'.ownBlock = some q ∧ w.heap.size ≤ q) ∧ But w w' p v.ownBlock := by
  have c1 := hX.cell 0
  have c2 := hc.R.cell 0
  have c3 := hc.L.cell 0
  simp at c1 c2 c3
  have HO := Lib.hid (And.intro ho (And.intro hX hc))
  clear ho hX hc
  refine CallsD.mono (R := fun e u' w' => u' = .returning ∧ (e = .returned (.tuple #[]) ∧ ∃ v', Out w' g p v' (l ++ c.digs) ∧ (v'.ownBlock = v.ownBlock ∨ ∃ q, v'.ownBlock = some q ∧ w.heap.size ≤ q) ∧ But w w' p v.ownBlock)) ?_ (fun _ _ _ h => h)
  go_enter_d Try.func69, Try.ntmps69
  go_wp2_with (go_at_call 70; refine (put_c p g c.r c.least v l _ HO.out.1 hg HO.out.2.2.lt HO.out.2.2.le hl).mono ?_; rintro e w1 ⟨rfl, h2⟩; have H2 := Lib.hid h2; clear h2)
  go_end0
  exact ⟨rfl, H2.out⟩
theorem putAll_leaves (X p g : Nat) (fn : Func) (tmps : Array Value) (hfn : fn.results = #[]) (w0 : World) (r0 : Option Nat) (hg : g ≤ w0.heap.size) (hp : p < w0.heap.size) (R : Ending → World → Prop) : ∀ (cs : List Chunk) (v : Value) (l : List Nat) (w : World),
    Bk w X 88 #[.pointer (some ⟨p, 0, none⟩)] → X ≠ p → (∀ c ∈ cs, Lies w c ∧ c.R ≠ p ∧ c.L ≠ p ∧ v.ownBlock ≠ some c.R ∧ v.ownBlock ≠ some c.L) → Out w g p v l → v.ownBlock ≠ some X → l.length + cs.length * 200 ≤ 50000 →
    (v.ownBlock = r0 ∨ ∃ q, v.ownBlock = some q ∧ w0.heap.size ≤ q) → But w0 w p r0 →
    (∀ v' w', Out w' g p v' (l ++ (cs.map Chunk.digs).flatten) → (v'.ownBlock = r0 ∨ ∃ q, v'.ownBlock = some q ∧ w0.heap.size ≤ q) → But w0 w' p r0 → R (.returned (.tuple #[])) w') →
    Leaves Try.prog fn tmps R (cs.map (mkA X)) .returning w
  | [], v, l, w, hX, hXp, hb, ho, hvX, hl, hv, hB, hR => ⟨.tuple #[], by simp [results, hfn, go_sem], hR v w (by simpa using ho) hv hB⟩
  | b :: bs, v, l, w, hX, hXp, hb, ho, hvX, hl, hv, hB, hR => by
    obtain ⟨hb1, hb2, hb3, hb4, hb5⟩ := hb b (List.mem_cons_self ..)
    have hdl := b.digs_len
    refine leaves_cons (f := 69) (args := #[.pointer (some ⟨X, 0, none⟩), .pointer (some ⟨b.R, 0, none⟩), .pointer (some ⟨b.L, 0, none⟩)]) (by simp) (by simp [go_sem]) ?_
    refine (chunk_c X p g b v l w hX hb1 ho (Nat.le_trans hg hB.size) (by omega)).mono ?_
    rintro e u' w' ⟨rfl, rfl, v', ho', hv', hB'⟩
    have hsz := hB.size
    have hne : ∀ k, k < w.heap.size → v.ownBlock ≠ some k → v'.ownBlock ≠ some k := by
      intro k hk hkv
      rcases hv' with h | ⟨q, h, hq⟩
      · rw [h]; exact hkv
      · rw [h]; intro e; injection e; omega
    show Leaves Try.prog fn tmps R (bs.map (mkA X)) .returning w'
    refine putAll_leaves X p g fn tmps hfn w0 r0 hg hp R bs v' (l ++ b.digs) w' (hB'.bk hX hXp (fun e => hvX e.symm)) hXp (fun c hc => ?_) ho' (hne X hX.lt hvX) (by simp at hl ⊢; omega) ?_ (hB.trans hB' hv) (fun v2 w2 h2 => hR v2 w2 (by simpa using h2))
    · obtain ⟨h1, h2, h3, h4, h5⟩ := hb c (List.mem_cons_of_mem _ hc)
      exact ⟨⟨hB'.bk h1.R h2 (fun e => h4 e.symm), hB'.bk h1.L h3 (fun e => h5 e.symm), h1.lt, h1.le⟩, h2, h3, hne c.R h1.R.lt h4, hne c.L h1.L.lt h5⟩
    · rcases hv' with h | ⟨q, h, hq⟩
      · rw [h]; exact hv
      · exact .inr ⟨q, h, by omega⟩
theorem Gr.cap {w : World} {g n c : Nat} {l : List Nat} (h : Gr w g n c l) : n ≤ c := by
  rcases h.2 with ⟨h1, _⟩ | ⟨g', cap, cur, h1, h2, h3, h4, _⟩
  · cases h1
  · injection h1 with e1 e2 e3
    omega
theorem chunks_zero (f : Nat) : chunks f 0 = [] := by cases f <;> simp [chunks]
theorem chunks_more {f M : Nat} (h : M ≠ 0) : chunks (f + 1) M = (M % 10000000000000000000, if M / 10000000000000000000 = 0 then 1 else 19) :: chunks f (M / 10000000000000000000) := by
  simp only [chunks]
  rw [if_neg h]
theorem digs_flat (cs : List Chunk) : (((cs.map fun x => (x.r, x.least)).reverse).map fun x => low 200 x.1 x.2).flatten.reverse = (cs.map Chunk.digs).flatten := by
  rw [List.reverse_flatten, List.map_reverse, List.map_reverse, List.reverse_reverse, List.map_map, List.map_map]
  rfl
/-- Where putAll's loop stands. -/
def PutAllI (w0 : World) (p gb c N M : Nat) (a : Act) (w : World) : Prop := ∃ (i n : Nat) (q : List Nat) (cs : List Chunk) (u4 u5 u6 u7 u8 u9 u10 u11 u12 u13 u14 u15 u16 u17 u18 u19 u20 u21 u22 u23 u24 u25 u26 u27 u28 u29 u30 u31 : Value),
  a = { tmps := #[.pointer (some ⟨p, 0, none⟩), .slice (some ⟨gb, 0, none⟩) n c, .pointer (some ⟨w0.heap.size, 0, none⟩), undef, u4, u5, u6, u7, u8, u9, u10, u11, u12, u13, u14, u15, u16, u17, u18, u19, u20, u21, u22, u23, u24, u25, u26, u27, u28, u29, u30, u31], defers := cs.map (mkA w0.heap.size) } ∧
  n ≤ 100 ∧ i ≤ 200 ∧ M = N / 10000000000000000000 ^ i ∧ cs.length ≤ i ∧ Lim 18446744073709551616 q M ∧ Gr w gb n c q ∧ chunks 200 N = (cs.map fun x => (x.r, x.least)).reverse ++ chunks (200 - i) M ∧ (∀ x ∈ cs, Lies w x ∧ w0.heap.size < x.R ∧ w0.heap.size < x.L) ∧ Bk w w0.heap.size 88 #[.pointer (some ⟨p, 0, none⟩)] ∧ w0.grownBy w (some gb)
set_option maxHeartbeats 8000000 in
theorem putAll_c (p gb n c N : Nat) (l : List Nat) (w : World) (ho : Bk w p 80 #[.slice none 0 0]) (hG : Gr w gb n c l) (hl : Lim 18446744073709551616 l N) (hne : gb ≠ p) (hn : n ≤ 100) (hF : ∀ i, N / 10000000000000000000 ^ i ≠ 0 → i < 200) :
    Calls Try.prog 56 #[.pointer (some ⟨p, 0, none⟩), .slice (some ⟨gb, 0, none⟩) n c] w fun e w' => e = .returned (.tuple #[]) ∧ ∃ v', Out w' 0 p v' ((chunks 200 N).map fun x => low 200 x.1 x.2).flatten.reverse ∧ But w w' p (some gb) := by
  have hmf : ∀ (fn : Fn) (first cap : Array Value) (w : World), (Instr.makeFunc fn first cap).run Try.prog w = .ok (.func fn first cap) w := fun _ _ _ _ => rfl
  have hp := ho.lt
  have hgl := hG.lt
  have HO := Lib.hid (And.intro ho (And.intro hG hl))
  clear ho hG hl
  go_enter_defers Try.func56, Try.ntmps56
  go_wp2_with fail
  refine wp_loop_ghost (PutAllI w p gb c N) N ?_ ?_
  · exact ⟨0, n, l, [], undef, undef, undef, undef, undef, undef, undef, undef, undef, undef, undef, undef, undef, undef, undef, undef, undef, undef, undef, undef, undef, undef, undef, undef, undef, undef, undef, undef, rfl, hn, by omega, by simp, by simp, HO.out.2.2, HO.out.2.1.keep ((Below.refl _ _).alloc (Nat.le_refl _) _), by simp, fun _ h => (by cases h), Bk.new _ _ _, World.grownBy_alloc _ _ _⟩
  · rintro M a wr ⟨i, m, q, cs, u4, u5, u6, u7, u8, u9, u10, u11, u12, u13, u14, u15, u16, u17, u18, u19, u20, u21, u22, u23, u24, u25, u26, u27, u28, u29, u30, u31, rfl, hm, hi, hMi, hcl, hlim, hG, hch, hcs, hX, hB⟩
    have HI := Lib.hid (And.intro hlim (And.intro hG (And.intro hch (And.intro hcs (And.intro hX hB)))))
    have HM := Lib.hid hMi
    have hmc := hG.cap
    have hsz := hB.size
    clear hMi hlim hG hch hcs hX hB
    by_cases h0 : m = 0
    · subst h0
      go_wp2_with fail
      obtain ⟨hlim, hG, hch, hcs, hX, hB⟩ := HI.out
      have hM : M = 0 := hlim.zero.1 hG.len
      subst hM
      rw [chunks_zero, List.append_nil] at hch
      refine putAll_leaves w.heap.size p 0 Try.f56 _ rfl wr none (Nat.zero_le _) (by omega) _ cs (.slice none 0 0) [] wr hX (by omega) (fun x hx => ?_) ⟨HO.out.1.grown hB (fun e => by injection e; omega), World.ownsRow_nil _ _ _ _, by simp [Value.ownBlock]⟩ (by simp [Value.ownBlock]) (by simp; omega) (.inl rfl) (But.refl _ _ _) (fun v' w' h1 h2 h3 => ⟨rfl, v', ?_, ?_⟩)
      · obtain ⟨k1, k2, k3⟩ := hcs x hx
        exact ⟨k1, by omega, by omega, by simp [Value.ownBlock], by simp [Value.ownBlock]⟩
      · rw [hch, digs_flat]
        exact h1
      · exact ⟨h3.os.trans hB.os, h3.tape.trans hB.tape, h3.output.trans hB.output, Nat.le_trans hB.size h3.size, fun k hk hkp hkg => (h3.block k (Nat.lt_of_lt_of_le hk hB.size) hkp (by simp)).trans (hB.block k hk hkg)⟩
    · have h1 : decide ((0 : Int) < (m : Int)) = true := by simp; omega
      go_upto_block 2 with (go_at_call 68; refine (divide_c gb m c 10000000000000000000 q _ HI.out.2.1 HI.out.1.1 (by decide) (by decide) (by omega)).mono ?_; rintro e w2 ⟨q2, r, rfl, hr, hq2, hv, hG2, hg2⟩; have H2 := Lib.hid (And.intro hr (And.intro hq2 (And.intro hv (And.intro hG2 hg2)))); clear hr hq2 hv hG2 hg2)
      go_cut [1] from 6 to 31 (fun v1 wx => v1 = .slice (some ⟨gb, 0, none⟩) (trimLen q2) c ∧ wx = w2.alloc (.cells #[.int .u64 r] 78))
      case first =>
        have hq2l := H2.out.2.2.2.1.len
        have hz2 := H2.out.2.2.2.1.lt
        have HA := Lib.hid (H2.out.2.2.2.1.keep ((Below.refl _ _).alloc (Nat.le_refl _) (.cells #[.int .u64 r] 78)))
        go_wp2_with fail
        go_loop [1] (fun u => ∃ k, u = .slice (some ⟨gb, 0, none⟩) k c ∧ k ≤ m ∧ trimLen (q2.take k) = trimLen q2) (fun u => sliceLen u)
        case atStart => exact ⟨m, rfl, Nat.le_refl _, by rw [List.take_of_length_le (by omega)]⟩
        case round =>
          obtain ⟨k, rfl, hk, ht⟩ := hrel
          by_cases hk0 : k = 0
          · subst hk0
            have HT := Lib.hid ht
            clear ht
            go_wp2
            go_meet
            have := HT.out
            rw [List.take_zero, show trimLen [] = 0 from rfl] at this
            exact ⟨by rw [← this], rfl⟩
          · obtain ⟨j, rfl⟩ : ∃ j, k = j + 1 := ⟨k - 1, by omega⟩
            obtain ⟨x, hx, hcx, _⟩ := HA.out.at_ (k := j) (by omega)
            have h3 : decide ((0 : Int) < (((j + 1 : Nat)) : Int)) = true := by simp <;> omega
            rw [trimLen_take hx] at ht
            by_cases hx0 : x = 0
            · subst hx0
              have HT := Lib.hid ht
              clear ht hx
              go_wp2
              go_round
              case rel => exact ⟨j, by simp, by omega, by have := HT.out; simpa using this⟩
              case measure => simp [sliceLen]
            · have h4 : ((x : Int) == 0) = false := beq_false_of_ne (by omega)
              rw [if_neg hx0] at ht
              have HT := Lib.hid ht
              clear ht hx
              go_wp2
              go_meet
              exact ⟨by rw [← HT.out], rfl⟩
      case rest =>
        obtain ⟨rfl, rfl⟩ := hcut
        by_cases hz : trimLen q2 = 0
        · have h3 : ((trimLen q2 : Int) == 0) = true := by simp; omega
          have HZ := Lib.hid hz
          clear hz
          go_wp2_with fail
          obtain ⟨hlim, hG, hch, hcs, hX, hB⟩ := HI.out
          obtain ⟨hr, hq2, hv, hG2, hg2⟩ := H2.out
          have hM0 : M ≠ 0 := fun e => h0 (by rw [← hG.len]; exact hlim.zero.2 e)
          rw [hlim.2.1] at hv
          have hdiv : val 18446744073709551616 q2 = M / 10000000000000000000 ∧ r = M % 10000000000000000000 := by omega
          have hL2 : Lim 18446744073709551616 (q2.take (trimLen q2)) (M / 10000000000000000000) := by rw [← hdiv.1]; exact Lim.trim hq2
          have htl := trimLen_le q2
          have hql := hG2.len
          have hXl := (hX.grown hg2 (fun e => by injection e; omega)).lt
          have hi2 : i < 200 := hF i (by rw [← HM.out]; exact hM0)
          have hz0 : M / 10000000000000000000 = 0 := by
            have e := hL2.zero.1 (by rw [List.length_take]; have := HZ.out; omega)
            exact e
          refine ⟨M / 10000000000000000000, Nat.div_lt_self (by omega) (by decide), i + 1, trimLen q2, q2.take (trimLen q2), ⟨w2.heap.size, w2.heap.size + 1, r, 1⟩ :: cs, _, _, _, _, _, _, _, _, _, _, _, _, _, _, _, _, _, _, _, _, _, _, _, _, _, _, _, _, rfl, by omega, by omega, ?_, by simp; omega, hL2, ?_, ?_, ?_, ?_, ?_⟩
          · rw [HM.out, Nat.div_div_eq_div_mul, Nat.pow_succ]
          · exact ((hG2.cut (m := trimLen q2) (by omega)).keep ((Below.refl _ _).alloc (Nat.le_refl _) _)).keep ((Below.refl _ _).alloc (Nat.le_refl _) _)
          · rw [hch, show 200 - i = 200 - (i + 1) + 1 by omega, chunks_more hM0, if_pos hz0]
            simp [hdiv.2]
          · intro x hx
            rcases List.mem_cons.1 hx with rfl | hx
            · refine ⟨⟨(Bk.new _ _ _).alloc _, ?_, by show r < _; omega, by show 1 ≤ 100; decide⟩, hXl, by show w.heap.size < w2.heap.size + 1; omega⟩
              have := Bk.new (w2.alloc (.cells #[.int .u64 r] 78)) 3 #[.int .i64 1]
              simpa using this
            · obtain ⟨k1, k2, k3⟩ := hcs x hx
              exact ⟨⟨((k1.R.grown hg2 (fun e => by injection e; omega)).alloc _).alloc _, ((k1.L.grown hg2 (fun e => by injection e; omega)).alloc _).alloc _, k1.lt, k1.le⟩, k2, k3⟩
          · exact ((hX.grown hg2 (fun e => by injection e; omega)).alloc _).alloc _
          · exact ((hB.trans hg2).trans (World.grownBy_alloc _ _ _)).trans (World.grownBy_alloc _ _ _)
        · have h3 : ((trimLen q2 : Int) == 0) = false := beq_false_of_ne (by omega)
          have HZ := Lib.hid hz
          clear hz
          go_wp2_with fail
          obtain ⟨hlim, hG, hch, hcs, hX, hB⟩ := HI.out
          obtain ⟨hr, hq2, hv, hG2, hg2⟩ := H2.out
          have hM0 : M ≠ 0 := fun e => h0 (by rw [← hG.len]; exact hlim.zero.2 e)
          rw [hlim.2.1] at hv
          have hdiv : val 18446744073709551616 q2 = M / 10000000000000000000 ∧ r = M % 10000000000000000000 := by omega
          have hL2 : Lim 18446744073709551616 (q2.take (trimLen q2)) (M / 10000000000000000000) := by rw [← hdiv.1]; exact Lim.trim hq2
          have htl := trimLen_le q2
          have hql := hG2.len
          have hXl := (hX.grown hg2 (fun e => by injection e; omega)).lt
          have hi2 : i < 200 := hF i (by rw [← HM.out]; exact hM0)
          have hz0 : M / 10000000000000000000 = 0 → False := fun e => HZ.out (by
            have := hL2.zero.2 e
            rw [List.length_take] at this
            omega)
          refine ⟨M / 10000000000000000000, Nat.div_lt_self (by omega) (by decide), i + 1, trimLen q2, q2.take (trimLen q2), ⟨w2.heap.size, w2.heap.size + 1, r, 19⟩ :: cs, _, _, _, _, _, _, _, _, _, _, _, _, _, _, _, _, _, _, _, _, _, _, _, _, _, _, _, _, rfl, by omega, by omega, ?_, by simp; omega, hL2, ?_, ?_, ?_, ?_, ?_⟩
          · rw [HM.out, Nat.div_div_eq_div_mul, Nat.pow_succ]
          · exact ((hG2.cut (m := trimLen q2) (by omega)).keep ((Below.refl _ _).alloc (Nat.le_refl _) _)).keep ((Below.refl _ _).alloc (Nat.le_refl _) _)
          · rw [hch, show 200 - i = 200 - (i + 1) + 1 by omega, chunks_more hM0, if_neg hz0]
            simp [hdiv.2]
          · intro x hx
            rcases List.mem_cons.1 hx with rfl | hx
            · refine ⟨⟨(Bk.new _ _ _).alloc _, ?_, by show r < _; omega, by show 19 ≤ 100; decide⟩, hXl, by show w.heap.size < w2.heap.size + 1; omega⟩
              have := Bk.new (w2.alloc (.cells #[.int .u64 r] 78)) 3 #[.int .i64 19]
              simpa using this
            · obtain ⟨k1, k2, k3⟩ := hcs x hx
              exact ⟨⟨((k1.R.grown hg2 (fun e => by injection e; omega)).alloc _).alloc _, ((k1.L.grown hg2 (fun e => by injection e; omega)).alloc _).alloc _, k1.lt, k1.le⟩, k2, k3⟩
          · exact ((hX.grown hg2 (fun e => by injection e; omega)).alloc _).alloc _
          · exact ((hB.trans hg2).trans (World.grownBy_alloc _ _ _)).trans (World.grownBy_alloc _ _ _)
end Go.Proofs.Ytjocobfabdkadaa
