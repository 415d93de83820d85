/- put of package deci, by contract: its closures are deferred in a loop. -/
import Derived.Test.YtjocobfabdkadaaRdiv
import Derived.Test.YtjocobfabdkadaaDivide
import Derived.Defers
import Derived.Deep.RegionLaw
namespace Go.Proofs.Ytjocobfabdkadaa
open Go.RowKit
attribute [local go_sem] alloc_drewN setCell_drewN
/-- From w to w', of what was there only block p and block r may have turned. -/
structure But (w w' : World) (p : Nat) (r : Option Nat) : Prop where
  os : w'.os = w.os
  tape : w'.tape = w.tape
  output : w'.output = w.output
  size : w.heap.size ≤ w'.heap.size
  block : ∀ k, k < w.heap.size → k ≠ p → some k ≠ r → w'.heap[k]? = w.heap[k]?
/-- Block p is a variable that holds a row of bytes of the call's own. -/
structure Out (w : World) (g p : Nat) (v : Value) (l : List Nat) : Prop where
  bk : Bk w p 80 #[v]
  own : OwnB g w v l
  ne : v.ownBlock ≠ some p
section
variable {w w' : World} {g p : Nat} {r : Option Nat} {v : Value} {l : List Nat}
theorem But.refl (w : World) (p : Nat) (r : Option Nat) : But w w p r := ⟨rfl, rfl, rfl, Nat.le_refl _, fun _ _ _ _ => rfl⟩
theorem But.of_below (h : Below w.heap.size w w') (p : Nat) (r : Option Nat) : But w w' p r := ⟨h.os, h.tape, h.output, h.size, fun k hk _ _ => h.block k hk⟩
theorem But.bk {b : Nat} {t : TypeId} {cs : Array Value} (h : But w w' p r) (hb : Bk w b t cs) (hp : b ≠ p) (hr : some b ≠ r) : Bk w' b t cs := (h.block b hb.lt hp hr).trans hb
theorem But.trans {w'' : World} {r' : Option Nat} (h : But w w' p r) (k : But w' w'' p r') (hr : r' = r ∨ ∃ q, r' = some q ∧ w.heap.size ≤ q) : But w w'' p r :=
  ⟨k.os.trans h.os, k.tape.trans h.tape, k.output.trans h.output, Nat.le_trans h.size k.size, fun j hj hp hq => (k.block j (Nat.lt_of_lt_of_le hj h.size) hp (by
    rcases hr with rfl | ⟨q, rfl, hqs⟩
    · exact hq
    · intro e; injection e; omega)).trans (h.block j hj hp hq)⟩
theorem Out.keep (h : Out w g p v l) (hb : Below w.heap.size w w') : Out w' g p v l :=
  ⟨h.bk.keep hb, World.ownsRow.kept h.own (row := none) ⟨hb.os, hb.tape, hb.output, hb.size, fun k hk _ => hb.block k hk⟩ (by cases v.ownBlock <;> simp), h.ne⟩
end
set_option maxHeartbeats 4000000 in
theorem dig_c (X b p g d : Nat) (v : Value) (l : List Nat) (w : World) (hX : Bk w X 88 #[.pointer (some ⟨p, 0, none⟩)]) (hb : Bk w b 5 #[.int .u8 d]) (ho : Out w g p v l) (hXr : v.ownBlock ≠ some X) (hg : g ≤ w.heap.size) (hl : l.length ≤ 100000) :
    CallsD Try.prog 80 #[.pointer (some ⟨X, 0, none⟩), .pointer (some ⟨b, 0, none⟩)] .returning w fun e u' w' => u' = .returning ∧ e = .returned (.tuple #[]) ∧ ∃ v', Out w' g p v' (l ++ [d]) ∧ (v'.ownBlock = v.ownBlock ∨ ∃ q, v'.ownBlock = some q ∧ w.heap.size ≤ q) ∧ But w w' p v.ownBlock := by
  obtain ⟨i0, hi0, hz0, hz1, hz2⟩ := info_parts info8
  have c1 := hX.cell 0
  have c2 := hb.cell 0
  have c3 := ho.bk.cell 0
  have f3 := ho.bk.frozen 0
  have z3 := ho.bk.lt
  have d1 := (hX.alloc (.cells #[.int .u8 d] 5)).cell 0
  have d3 := (ho.bk.alloc (.cells #[.int .u8 d] 5)).cell 0
  simp at c1 c2 c3 d1 d3
  have HO := Lib.hid (And.intro ho (And.intro hX hb))
  clear ho hX hb
  refine CallsD.mono (R := fun e u' w' => u' = .returning ∧ (e = .returned (.tuple #[]) ∧ ∃ v', Out w' g p v' (l ++ [d]) ∧ (v'.ownBlock = v.ownBlock ∨ ∃ q, v'.ownBlock = some q ∧ w.heap.size ≤ q) ∧ But w w' p v.ownBlock)) ?_ (fun _ _ _ h => h)
  go_enter_d Try.func80, Try.ntmps80
  go_region_law (first
    | (refine step_append_lies _ rfl (.tmp 5) (.tmp 7) 80 rfl g 5 i0 (.int .u8 0) 1 1 Try.underlying80 hi0 hz0 hz1 hz2 (by decide) (by decide) v l.length (cellsOf .u8 l) (by simp [Act.eval]) (World.ownsRow.alloc HO.out.1.own _) ⟨_, 0, none⟩ 1 1 [.int .u8 d] (by simp [Act.eval]) (by simp) (World.news_of_block (Bk.new _ _ _)) (by intro u hu; simp at hu; subst hu; rfl) (by decide) (by simp only [maxLen]; omega) (by omega) (by simp; omega) _ rfl ?_; intro gb cap w2 ho2 hg2 hgb hlt; have hk := ((HO.out.1.bk.drew).alloc _).grown hg2 (fun e => HO.out.1.ne e.symm); have hkX := ((HO.out.2.1.drew).alloc _).grown hg2 (fun e => hXr e.symm); have cX := hkX.cell 0; simp at cX; have c4 := hk.cell 0; have f4 := hk.frozen 0; have z4 := hk.lt; simp at c4; have H2 := Lib.hid (And.intro ho2 (And.intro hg2 (And.intro hgb (And.intro hlt hk)))); clear ho2 hg2 hgb hlt hk hkX))
  all_goals
    obtain ⟨ho2, hg2, hgb, hlt, hk⟩ := H2.out
    have hgbp : gb ≠ p := by
      rcases hgb with h | h
      · intro e; exact HO.out.1.ne (e ▸ h)
      · simp at h; omega
    go_end0
    refine ⟨rfl, .slice (some ⟨gb, 0, none⟩) (l.length + 1) cap, ⟨by simpa using hk.put 0 (.slice (some ⟨gb, 0, none⟩) (l.length + 1) cap), ?_, by simp [Value.ownBlock]; exact hgbp⟩, ?_, ?_⟩
    · have h := World.ownsRow.kept (row := some p) (w' := w2.setCell ⟨p, 0, none⟩ (.slice (some ⟨gb, 0, none⟩) (l.length + 1) cap)) ho2 ⟨rfl, rfl, rfl, by simp, fun k _ hk => Below.heap_setCell _ _ _ k (fun e => hk (by rw [e]))⟩ (.inr (by simp [Value.ownBlock]; exact hgbp))
      unfold OwnB
      simpa [cellsOf] using h
    · rcases hgb with h | h
      · exact .inl (by rw [h]; rfl)
      · exact .inr ⟨gb, rfl, by simp at h; omega⟩
    · have hs := hg2.size
      simp at hs
      refine ⟨hg2.os, hg2.tape, hg2.output, by simp; omega, fun k hk1 hkp hkr => ?_⟩
      rw [Below.heap_setCell _ _ _ k hkp, hg2.block k (by simp; omega) hkr]
      exact Below.heap_alloc w _ k hk1
/-- The low digits of n, at least so many, the lowest first. -/
def low : Nat → Nat → Nat → List Nat
  | 0, _, _ => []
  | f + 1, n, least => if n = 0 ∧ least = 0 then [] else (48 + n % 10) :: low f (n / 10) (least - 1)
/-- The closure that puts the digit of block b. -/
def mk (X : Nat) (b : Nat × Nat) : Deferred := { target := .fn (.func 80) #[.pointer (some ⟨X, 0, none⟩), .pointer (some ⟨b.1, 0, none⟩)], args := #[] }
/-- What is left to do: the digits are put one behind the other. -/
theorem put_leaves (X p g : Nat) (fn : Func) (tmps : Array Value) (hfn : fn.results = #[]) (w0 : World) (r0 : Option Nat) (hg : g ≤ w0.heap.size) (hp : p < w0.heap.size) (R : Ending → World → Prop) : ∀ (bs : List (Nat × Nat)) (v : Value) (l : List Nat) (w : World),
    Bk w X 88 #[.pointer (some ⟨p, 0, none⟩)] → X ≠ p → (∀ b ∈ bs, Bk w b.1 5 #[.int .u8 b.2] ∧ b.1 ≠ p ∧ v.ownBlock ≠ some b.1) → Out w g p v l → v.ownBlock ≠ some X → l.length + bs.length ≤ 100000 →
    (v.ownBlock = r0 ∨ ∃ q, v.ownBlock = some q ∧ w0.heap.size ≤ q) → But w0 w p r0 →
    (∀ v' w', Out w' g p v' (l ++ bs.map Prod.snd) → (v'.ownBlock = r0 ∨ ∃ q, v'.ownBlock = some q ∧ w0.heap.size ≤ q) → But w0 w' p r0 → R (.returned (.tuple #[])) w') →
    Leaves Try.prog fn tmps R (bs.map (mk X)) .returning w
  | [], v, l, w, hX, hXp, hb, ho, hvX, hl, hv, hB, hR => ⟨.tuple #[], by simp [results, hfn, go_sem], hR v w (by simpa using ho) hv hB⟩
  | b :: bs, v, l, w, hX, hXp, hb, ho, hvX, hl, hv, hB, hR => by
    obtain ⟨hb1, hb2, hb3⟩ := hb b (List.mem_cons_self ..)
    refine leaves_cons (f := 80) (args := #[.pointer (some ⟨X, 0, none⟩), .pointer (some ⟨b.1, 0, none⟩)]) (by simp) (by simp [go_sem]) ?_
    refine (dig_c X b.1 p g b.2 v l w hX hb1 ho hvX (Nat.le_trans hg hB.size) (by simp at hl; omega)).mono ?_
    rintro e u' w' ⟨rfl, rfl, v', ho', hv', hB'⟩
    have hsz := hB.size
    have hne : ∀ k, k < w.heap.size → v.ownBlock ≠ some k → v'.ownBlock ≠ some k := by
      intro k hk hkv
      rcases hv' with h | ⟨q, h, hq⟩
      · rw [h]; exact hkv
      · rw [h]; intro e; injection e; omega
    show Leaves Try.prog fn tmps R (bs.map (mk X)) .returning w'
    refine put_leaves X p g fn tmps hfn w0 r0 hg hp R bs v' (l ++ [b.2]) w' (hB'.bk hX hXp (fun e => hvX e.symm)) hXp (fun c hc => ?_) ho' (hne X hX.lt hvX) (by simp at hl ⊢; omega) ?_ (hB.trans hB' hv) (fun v2 w2 h2 => hR v2 w2 (by simpa using h2))
    · obtain ⟨h1, h2, h3⟩ := hb c (List.mem_cons_of_mem _ hc)
      exact ⟨hB'.bk h1 h2 (fun e => h3 e.symm), h2, hne c.1 h1.lt h3⟩
    · rcases hv' with h | ⟨q, h, hq⟩
      · rw [h]; exact hv
      · exact .inr ⟨q, h, by omega⟩
theorem low_done {f : Nat} (hf : 0 < f) : low f 0 0 = [] := by
  cases f with
  | zero => omega
  | succ f => simp [low]
theorem low_more {f n least : Nat} (h : 0 < n ∨ 0 < least) : low (f + 1) n least = (48 + n % 10) :: low f (n / 10) (least - 1) := by
  simp only [low]
  rw [if_neg (by omega)]
theorem ten_lt {i n : Nat} (hn : n < 18446744073709551616) (h : 0 < n / 10 ^ i) : i < 20 := by
  rcases Nat.lt_or_ge i 20 with h1 | h1
  · exact h1
  · have h2 : 10 ^ 20 ≤ 10 ^ i := Nat.pow_le_pow_right (by omega) h1
    have h3 : n / 10 ^ i = 0 := Nat.div_eq_of_lt (by have : (10 : Nat) ^ 20 = 100000000000000000000 := by decide
                                                     omega)
    omega
/-- Where put's loop stands. -/
def PutI (w0 : World) (p n least : Nat) (a : Act) (w : World) : Prop := ∃ (i m : Nat) (bs : List (Nat × Nat)) (u7 u8 u9 u10 u11 u12 u13 u14 u15 u16 u17 u18 u19 u20 u21 u22 u23 : Value),
  a = { tmps := #[.pointer (some ⟨p, 0, none⟩), .int .u64 m, .int .i64 least, .pointer (some ⟨w0.heap.size, 0, none⟩), undef, undef, .int .i64 i, u7, u8, u9, u10, u11, u12, u13, u14, u15, u16, u17, u18, u19, u20, u21, u22, u23], defers := bs.map (mk w0.heap.size) } ∧
  m = n / 10 ^ i ∧ i ≤ 150 ∧ bs.length ≤ i ∧ low 200 n least = (bs.map Prod.snd).reverse ++ low (200 - i) m (least - i) ∧ (∀ b ∈ bs, Bk w b.1 5 #[.int .u8 b.2] ∧ w0.heap.size < b.1) ∧ Bk w w0.heap.size 88 #[.pointer (some ⟨p, 0, none⟩)] ∧ Below w0.heap.size w0 w
set_option maxHeartbeats 4000000 in
theorem put_c (p g n least : Nat) (v : Value) (l : List Nat) (w : World) (ho : Out w g p v l) (hg : g ≤ w.heap.size) (hn : n < 18446744073709551616) (hle : least ≤ 100) (hl : l.length ≤ 50000) :
    Calls Try.prog 70 #[.pointer (some ⟨p, 0, none⟩), .int .u64 n, .int .i64 least] w fun e w' => e = .returned (.tuple #[]) ∧ ∃ v', Out w' g p v' (l ++ (low 200 n least).reverse) ∧ (v'.ownBlock = v.ownBlock ∨ ∃ q, v'.ownBlock = some q ∧ w.heap.size ≤ q) ∧ But w w' p v.ownBlock := by
  have hmf : ∀ (fn : Fn) (first cap : Array Value) (w : World), (Instr.makeFunc fn first cap).run Try.prog w = .ok (.func fn first cap) w := fun _ _ _ _ => rfl
  have hp := ho.bk.lt
  have HO := Lib.hid ho
  clear ho
  go_enter_defers Try.func70, Try.ntmps70
  go_wp2_with fail
  refine wp_loop (PutI w p n least) (fun a _ => (intOf (a.tmps.getD 1 undef)).toNat + (least - (intOf (a.tmps.getD 6 undef)).toNat)) ?_ ?_
  · exact ⟨0, n, [], undef, undef, undef, undef, undef, undef, undef, undef, undef, undef, undef, undef, undef, undef, undef, undef, undef, rfl, by simp, by omega, by simp, by simp, fun _ h => (by cases h), Bk.new _ _ _, (Below.refl _ _).alloc (Nat.le_refl _) _⟩
  · rintro a wr ⟨i, m, bs, u7, u8, u9, u10, u11, u12, u13, u14, u15, u16, u17, u18, u19, u20, u21, u22, u23, rfl, hm, hi, hbl, hlow, hbs, hX, hB⟩
    have HI := Lib.hid (And.intro hm (And.intro hlow (And.intro hbs (And.intro hX hB))))
    have hsz := hB.size
    have hmn : m < 18446744073709551616 := by rw [hm]; exact Nat.lt_of_le_of_lt (Nat.div_le_self _ _) hn
    clear hm hlow hbs hX hB
    go_upto_region 2 with fail
    go_cut [14] from 8 to 23 (fun v14 wx => ∃ d : Bool, v14 = .bool d ∧ (d = true ↔ 0 < m ∨ i < least) ∧ wx = wr)
    case first =>
      by_cases h0 : 0 < m
      · go_wp2
        go_meet
        exact ⟨true, rfl, by simp [h0], rfl⟩
      · obtain rfl : m = 0 := by omega
        have h1 : decide ((0 : Int) < ((0 : Nat) : Int)) = false := by decide
        have H0 := Lib.hid h0
        clear h0
        go_wp2
        go_meet
        refine ⟨_, congrArg Value.bool (Eq.refl _), ?_, rfl⟩
        simp
    case rest =>
      obtain ⟨d, rfl, hd, rfl⟩ := hcut
      cases d with
      | false =>
        have HD := Lib.hid hd
        clear hd
        go_wp2_with fail
        have hd := HD.out
        simp at hd
        obtain ⟨hm, hlow, hbs, hX, hB⟩ := HI.out
        have hown : ∀ k, w.heap.size ≤ k → v.ownBlock ≠ some k := fun k hk e => by
          have := (World.ownsRow.lt HO.out.own k e).2
          omega
        rw [hd.1, show least - i = 0 by omega, low_done (by omega), List.append_nil] at hlow
        refine put_leaves w.heap.size p g Try.f70 _ rfl w v.ownBlock hg hp _ bs v l wc hX (by omega) (fun b hb => ⟨(hbs b hb).1, by have := (hbs b hb).2; omega, hown _ (by have := (hbs b hb).2; omega)⟩) (HO.out.keep hB) (hown _ (Nat.le_refl _)) (by omega) (.inl rfl) (But.of_below hB _ _) (fun v' w' h1 h2 h3 => ⟨rfl, v', ?_, h2, h3⟩)
        rw [hlow, List.reverse_reverse]
        exact h1
      | true =>
        have HD := Lib.hid (hd.1 rfl)
        clear hd
        go_wp2_with fail
        obtain ⟨hm, hlow, hbs, hX, hB⟩ := HI.out
        have hXl := hX.lt
        have e1 : (m : Int) / 10 = ((m / 10 : Nat) : Int) := by omega
        have e2 : 48 + (m : Int) % 10 = ((48 + m % 10 : Nat) : Int) := by omega
        have e3 : (i : Int) + 1 = ((i + 1 : Nat) : Int) := by omega
        rw [e1, e2, e3]
        have hi2 : i < 149 := by
          rcases HD.out with h | h
          · have := ten_lt (i := i) hn (by rw [← hm]; exact h); omega
          · omega
        refine ⟨⟨i + 1, m / 10, (wc.heap.size, 48 + m % 10) :: bs, _, _, _, _, _, _, _, _, _, _, _, _, _, _, _, _, _, rfl, ?_, by omega, by simp; omega, ?_, ?_, hX.alloc _, hB.alloc hsz _⟩, ?_⟩
        · rw [hm, Nat.div_div_eq_div_mul, Nat.pow_succ]
        · rw [hlow, show 200 - i = 200 - (i + 1) + 1 by omega, low_more (by have := HD.out; omega), show least - i - 1 = least - (i + 1) by omega]
          simp
        · intro b hb
          rcases List.mem_cons.1 hb with rfl | hb
          · exact ⟨Bk.new _ _ _, hXl⟩
          · exact ⟨(hbs b hb).1.alloc _, (hbs b hb).2⟩
        · have := HD.out
          simp [intOf]
          omega
end Go.Proofs.Ytjocobfabdkadaa
