/- trim, own, Of, Limbs, All and Len of package nat, by contract: a number is a row of limbs in memory that stays. A row of at most 100000 limbs. -/
import Derived.Test.YtjocobfabdkadaaBits
namespace Go.Proofs.Ytjocobfabdkadaa
open Go.RowKit
attribute [local go_sem] alloc_drewN setCell_drewN
/-- The value v is the number N; its limbs lie in blocks from g on. -/
def IsNat (g : Nat) (w : World) (v : Value) (N : Nat) : Prop :=
  ∃ (A : Option Addr) (n c : Nat) (l : List Nat), v = .agg #[.slice A n c] ∧ Rw .u64 w A n l ∧ Lim 18446744073709551616 l N ∧ n ≤ c ∧ ∀ b off, A = some ⟨b, off, none⟩ → g ≤ b
theorem IsNat.keep {g : Nat} {w w' : World} {v : Value} {N : Nat} (h : IsNat g w v N) (hb : Below w.heap.size w w') : IsNat g w' v N := by
  obtain ⟨A, n, c, l, h1, h2, h3⟩ := h
  exact ⟨A, n, c, l, h1, h2.keep hb, h3⟩
theorem IsNat.mono {g g' : Nat} {w : World} {v : Value} {N : Nat} (h : IsNat g w v N) (hg : g' ≤ g) : IsNat g' w v N := by
  obtain ⟨A, n, c, l, h1, h2, h3, h4, h5⟩ := h
  exact ⟨A, n, c, l, h1, h2, h3, h4, fun b off e => Nat.le_trans hg (h5 b off e)⟩
theorem IsNat.drewN {g : Nat} {w : World} {v : Value} {N : Nat} (h : IsNat g w v N) (m : Nat) : IsNat g (w.drewN m) v N := h
theorem IsNat.alloc {g : Nat} {w : World} {v : Value} {N : Nat} (h : IsNat g w v N) (o : Obj) : IsNat g (w.alloc o) v N := h.keep ((Below.refl _ _).alloc (Nat.le_refl _) _)
theorem IsNat.far {g : Nat} {w : World} {v : Value} {N : Nat} (h : IsNat g w v N) {p : Addr} (hp : p.block < g) {u : Value} : IsNat g (w.setCell p u) v N := by
  obtain ⟨A, n, c, l, h1, h2, h3, h4, h5⟩ := h
  refine ⟨A, n, c, l, h1, ⟨h2.1, fun hn => ?_⟩, h3, h4, h5⟩
  obtain ⟨b, off, e, hb, hc⟩ := h2.2 hn
  have hgb := h5 b off e
  refine ⟨b, off, e, by simpa using hb, fun i x hx => ?_⟩
  rw [World.cell?_setCell_other w p ⟨b, off + i, none⟩ u (fun e => by subst e; simp at hp; omega)]
  exact hc i x hx
theorem Bk.res1 {w : World} {g : Nat} {t : TypeId} {x u : Value} (h : Bk w g t #[x]) : (w.setCell ⟨g, 0, none⟩ u).cell? ⟨g, 0, none⟩ = some u := (h.put 0 u).cell 0
/-- N has at most s limbs. -/
structure Fits (N s : Nat) : Prop where
  lt : N < 18446744073709551616 ^ s
theorem Lim.len {l : List Nat} {N s : Nat} (h : Lim 18446744073709551616 l N) (hN : Fits N s) : l.length ≤ s := by
  obtain ⟨h1, h2, h3⟩ := h
  subst h2
  by_cases hl : l = []
  · subst hl; simp
  · have h4 := lim_ge 18446744073709551616 (by omega) l h3 hl
    have h5 := Nat.lt_of_le_of_lt h4 hN.lt
    have h6 := (Nat.pow_lt_pow_iff_right (show 1 < 18446744073709551616 by omega)).1 h5
    omega
theorem Fits.mono {N s t : Nat} (h : Fits N s) (hst : s ≤ t) : Fits N t := ⟨Nat.lt_of_lt_of_le h.lt (Nat.pow_le_pow_right (by omega) hst)⟩
theorem Fits.le {N M s : Nat} (h : Fits N s) (hM : M ≤ N) : Fits M s := ⟨Nat.lt_of_le_of_lt hM h.lt⟩
theorem Fits.add {N M s : Nat} (h : Fits N s) (h' : Fits M s) : Fits (N + M) (s + 1) := by
  obtain ⟨h⟩ := h
  obtain ⟨h'⟩ := h'
  constructor
  rw [Nat.pow_succ]
  omega
theorem Fits.mul {N M s t : Nat} (h : Fits N s) (h' : Fits M t) : Fits (N * M) (s + t) := by
  obtain ⟨h⟩ := h
  obtain ⟨h'⟩ := h'
  constructor
  rw [Nat.pow_add]
  rcases Nat.eq_zero_or_pos N with h0 | h0
  · subst h0; rw [Nat.zero_mul]; exact Nat.mul_pos (Nat.pow_pos (by omega)) (Nat.pow_pos (by omega))
  · exact Nat.mul_lt_mul_of_lt_of_lt h h'
theorem Fits.of_lim {l : List Nat} {s : Nat} (h : AllLt 18446744073709551616 l) (hl : l.length ≤ s) : Fits (val 18446744073709551616 l) s :=
  ⟨Nat.lt_of_lt_of_le (val_lt _ (by omega) l h) (Nat.pow_le_pow_right (by omega) hl)⟩
theorem info64 : (Try.prog.info? 78).map (fun i => (i.zero, i.size, i.bytes)) = some (some (.int .u64 0), 1, 8) := by kernel_rfl
set_option maxHeartbeats 1600000 in
theorem trim_c (A : Option Addr) (n c : Nat) (l : List Nat) (w : World) (hr : Rw .u64 w A n l) (hn : n ≤ 100000) :
    Calls Try.prog 71 #[.slice A n c] w fun e w' => e = .returned (.int .i64 (trimLen l : Nat)) ∧ w' = w := by
  go_enter Try.func71, Try.ntmps71
  go_wp2
  go_loop [3] (fun i => ∃ m : Nat, m ≤ n ∧ i = .int .i64 m ∧ trimLen (l.take m) = trimLen l) (fun i => (intOf i).toNat)
  case atStart => exact ⟨n, Nat.le_refl _, rfl, by rw [← hr.1, List.take_length]⟩
  case round =>
    obtain ⟨m, hm, rfl, ht⟩ := hrel
    by_cases h0 : m = 0
    · subst h0
      have h1 : decide ((0 : Int) < ((0 : Nat) : Int)) = false := by decide
      simp at ht
      rw [show trimLen [] = 0 from rfl] at ht
      go_wp2
      go_ret
      exact ⟨by rw [← ht]; rfl, rfl⟩
    · obtain ⟨k, rfl⟩ : ∃ k, m = k + 1 := ⟨m - 1, by omega⟩
      obtain ⟨b, off, x, rfl, hb, hx, hc⟩ := hr.at_ (i := k) (by omega)
      rw [trimLen_take hx] at ht
      have HT := Lib.hid ht
      clear ht
      have h1 : decide ((0 : Int) < (((k + 1 : Nat)) : Int)) = true := by simp <;> omega
      by_cases hx0 : x = 0
      · subst hx0
        go_wp2
        go_round
        case rel => exact ⟨k, by omega, by go_num, by simpa using HT.out⟩
        case measure => simp [intOf] <;> omega
      · have h2 : decide ((x : Int) = 0) = false := by simp <;> omega
        go_wp2
        go_ret
        have := HT.out
        rw [if_neg hx0] at this
        exact ⟨by rw [← this]; rfl, rfl⟩
theorem isNat_zero (g : Nat) (w : World) : IsNat g w (.agg #[.slice none 0 0]) 0 := ⟨none, 0, 0, [], rfl, Rw.nil _ _ _, Lim.nil _, Nat.le_refl _, fun _ _ h => by cases h⟩
set_option maxHeartbeats 1600000 in
theorem own_c (g : Nat) (A : Option Addr) (n c : Nat) (l : List Nat) (w : World) (hr : Rw .u64 w A n l) (hl : AllLt 18446744073709551616 l) (hn : n ≤ 100000) (hnc : n ≤ c) (hg : ∀ b off, A = some ⟨b, off, none⟩ → g ≤ b) :
    Calls Try.prog 58 #[.slice A n c] w fun e w' => ∃ v, e = .returned v ∧ IsNat g w' v (val 18446744073709551616 l) ∧ Below w.heap.size w w' := by
  have hr1 := (hr.alloc (.cells #[.slice none 0 0] 76))
  have ht := trimLen_le l
  have hlen := hr.1
  go_enter Try.func58, Try.ntmps58
  by_cases h0 : trimLen l = 0
  · go_wp2_with (go_at_call 71; refine (trim_c _ _ _ l _ hr1 hn).mono ?_; rintro e w1 ⟨rfl, rfl⟩)
    refine bodyPost_ret (v := .agg #[.slice none 0 0]) (by simp [results, Try.results58, go_sem, *]) rfl ⟨_, rfl, ?_, (Below.refl _ _).alloc (Nat.le_refl _) _⟩
    have := val_trim 18446744073709551616 l
    rw [h0] at this
    rw [← this]
    exact isNat_zero _ _
  · go_wp2_with (go_at_call 71; refine (trim_c _ _ _ l _ hr1 hn).mono ?_; rintro e w1 ⟨rfl, rfl⟩)
    refine bodyPost_ret (v := .agg #[.slice A (trimLen l) (trimLen l)]) (by simp [results, Try.results58, go_sem, *]) rfl ⟨_, rfl, ?_, (Below.refl _ _).alloc (Nat.le_refl _) _⟩
    exact ⟨A, trimLen l, trimLen l, _, rfl, (hr.alloc _).take (by omega), Lim.trim hl, Nat.le_refl _, hg⟩
/-- A row in memory of the call's own. -/
def Own (g : Nat) (w : World) (v : Value) (l : List Nat) : Prop := w.ownsRow g 78 1 v l.length (cellsOf .u64 l)
theorem cells_one {k : IntKind} {l : List Nat} : ∀ u ∈ cellsOf k l, u.oneCell' = true := by
  intro u hu
  obtain ⟨x, _, rfl⟩ := List.mem_map.1 hu
  rfl
theorem run_append_nil (t ty e : TypeId) (i : TypeInfo) (size : Nat) (P : Program) (w : World) (ht : P.underlying t = some (.slice e)) (hi : P.info? e = some i) (base : Nat)
    (v : Value) (n : Nat) (xs : List Value) (hown : w.ownsRow base e size v n xs) (c : Nat) : (Builtin.append_ #[t, t] ty #[v, .slice none 0 c]).run P w = .ok v w := by
  rcases hown.2 with ⟨rfl, rfl⟩ | ⟨g, cap, cur, rfl, _, _, hnc, _⟩
  · simp [Builtin.append_, run_underlying ht, sizeOf, typeInfo, hi, Builtin.lenOf, Builtin.firstCells]
  · simp [Builtin.append_, run_underlying ht, sizeOf, typeInfo, hi, Builtin.lenOf, Builtin.firstCells, hnc, storeCells]
/-- append onto a row of the call's own, of a row that reads. -/
theorem run_append_row {P : Program} {k : IntKind} {e t : TypeId} (w : World) (base ty : Nat) (i : TypeInfo) (z : Value) (bytes : Nat) (ht : P.underlying t = some (.slice e)) (hi : P.info? e = some i) (hz : i.zero = some z) (hsize : i.size = 1) (hby : i.bytes = bytes) (hzs : z.cells.size = 1) (hb8 : bytes ≤ 8)
    (v : Value) (l m : List Nat) (hown : w.ownsRow base e 1 v l.length (cellsOf k l)) (A : Option Addr) (n c : Nat) (hr : Rw k w A n m) (hlen : l.length + n ≤ 1000000) (hbase : base ≤ w.heap.size) :
    ∃ v' w', (Builtin.append_ #[t, t] ty #[v, .slice A n c]).run P w = .ok v' w' ∧ w'.ownsRow base e 1 v' (l ++ m).length (cellsOf k (l ++ m)) ∧ w.grownBy w' v.ownBlock ∧ (v'.ownBlock = v.ownBlock ∨ v'.ownBlock = some w.heap.size) := by
  have hcat : cellsOf k (l ++ m) = cellsOf k l ++ cellsOf k m := by simp [cellsOf]
  by_cases h0 : n = 0
  · subst h0
    have hm : m = [] := List.eq_nil_of_length_eq_zero hr.1
    subst hm
    cases A with
    | none => exact ⟨v, w, run_append_nil t ty e i 1 P w ht hi base v _ _ hown c, by simpa using hown, World.grownBy.refl w _, .inl rfl⟩
    | some ad =>
      obtain ⟨v', w', hrun, h2, h3, _, h5⟩ := run_append_own_at (P := P) w base t ty e i z 1 bytes ht hi hz hsize hby hzs (by decide) v _ _ hown ad 0 c [] (by simp) (by simp) (by simp) (by simp only [maxLen]; omega) (by
        have := Nat.mul_le_mul (show l.length + 0 ≤ 1000000 by omega) hb8; omega) hbase
      exact ⟨v', w', hrun, by simpa using h2, h3, h5⟩
  · obtain ⟨b, off, rfl, hb, hc⟩ := hr.2 (by omega)
    obtain ⟨v', w', hrun, h2, h3, _, h5⟩ := run_append_own_at (P := P) w base t ty e i z 1 bytes ht hi hz hsize hby hzs (by decide) v _ _ hown ⟨b, off, none⟩ n c (cellsOf k m) (by simp [cellsOf, hr.1]) (by
        intro j u hu
        rw [plainAddr]
        simp only [cellsOf, List.getElem?_map, Option.map_eq_some_iff] at hu
        obtain ⟨x, hx, rfl⟩ := hu
        exact hc j x hx) cells_one (by simp only [maxLen]; omega) (by
        have := Nat.mul_le_mul (show l.length + n ≤ 1000000 by omega) hb8; omega) hbase
    exact ⟨v', w', hrun, by rw [List.length_append, hr.1, hcat]; exact h2, h3, h5⟩
theorem wpList_append_row {P : Program} {k : IntKind} {e t : TypeId} {w : World} {ops : Array Oper} {rest : List Oper} {o : Oper} {a : Act} {Q : Exit → Act → World → Prop} (hgd : o.guard = none) (s x : Operand)
    (ho : o.op = .call { callee := .builtin .append, args := #[s, x], argTypes := #[t, t] }) (base : Nat) (ht : P.underlying t = some (.slice e)) {z : Value} {bytes : Nat} (hinfo : (P.info? e).map (fun i => (i.zero, i.size, i.bytes)) = some (some z, 1, bytes)) (hzs : z.cells.size = 1) (hb8 : bytes ≤ 8)
    (v : Value) (l m : List Nat) (A : Option Addr) (n c : Nat) (hs : a.eval s = v) (hx : a.eval x = .slice A n c) (hown : w.ownsRow base e 1 v l.length (cellsOf k l)) (hr : Rw k w A n m) (hlen : l.length + n ≤ 1000000) (hbase : base ≤ w.heap.size)
    (h : ∀ v' w', w'.ownsRow base e 1 v' (l ++ m).length (cellsOf k (l ++ m)) → w.grownBy w' v.ownBlock → (v'.ownBlock = v.ownBlock ∨ v'.ownBlock = some w.heap.size) → wpList P ops Q rest (a.put o.dst v') w') : wpList P ops Q (o :: rest) a w := by
  obtain ⟨i, hi, hz, hsize, hby⟩ := info_parts hinfo
  refine wpList_plain hgd fun K hK => ?_
  obtain ⟨v', w', hrun, h2, h3, h4⟩ := run_append_row (P := P) (k := k) w base o.type i z bytes ht hi hz hsize hby hzs hb8 v l m hown A n c hr hlen hbase
  unfold Oper.wp execOp
  simp only [ho, resolve, invoke, builtin, Sem.run_bind, Sem.run_pure, Result.andThen_ok, List.map_toArray, List.map_cons, List.map_nil, hs, hx, hrun]
  exact hK _ _ (h v' w' h2 h3 h4)
theorem Own.keep {g : Nat} {w w' : World} {v : Value} {l : List Nat} (h : Own g w v l) (hb : Below w.heap.size w w') : Own g w' v l := by
  refine h.kept (row := none) ⟨hb.os, hb.tape, hb.output, hb.size, fun k hk _ => hb.block k hk⟩ ?_
  cases v.ownBlock <;> simp
theorem Own.slice {g : Nat} {w : World} {v : Value} {l : List Nat} (h : Own g w v l) : ∃ A c, v = .slice A l.length c ∧ Rw .u64 w A l.length l ∧ l.length ≤ c ∧ ∀ b off, A = some ⟨b, off, none⟩ → g ≤ b := by
  rcases h.2 with ⟨rfl, h0⟩ | ⟨b, cap, cur, rfl, hb, hh, hcap, _⟩
  · have : l = [] := List.eq_nil_of_length_eq_zero h0
    subst this
    exact ⟨none, 0, rfl, Rw.nil _ _ _, Nat.le_refl _, fun _ _ h => by cases h⟩
  · exact ⟨_, cap, rfl, Rw.of_own h, hcap, fun b' off e => by injection e with e; injection e with e1; omega⟩
theorem own_grown {B : Nat} {w w1 w2 : World} {v : Value} {l : List Nat} {g : Nat} (hb : Below B w w1) (hg : w1.grownBy w2 v.ownBlock) (hown : Own g w1 v l) (hB : B ≤ g) (hsz : B ≤ w1.heap.size) : Below B w w2 :=
  hb.grown hg hsz (fun k hk => Nat.le_trans hB (hown.lt k hk).1)
set_option maxHeartbeats 1600000 in
theorem of_c (x : Nat) (w : World) (hx : x < 18446744073709551616) :
    Calls Try.prog 45 #[.int .u64 x] w fun e w' => ∃ v, e = .returned v ∧ IsNat w.heap.size w' v x ∧ Below w.heap.size w w' := by
  go_enter Try.func45, Try.ntmps45
  have hr : Rw .u64 ((w.alloc (.cells #[.slice none 0 0] 76)).alloc (.cells #[.int .u64 x] 78)) (some ⟨w.heap.size + 1, 0, none⟩) 1 [x] := by
    refine ⟨rfl, fun _ => ⟨w.heap.size + 1, 0, rfl, by simp, fun i y hy => ?_⟩⟩
    have h0 : i = 0 := by
      have := (List.getElem?_eq_some_iff.1 hy).1
      simp at this; exact this
    subst h0
    simp at hy
    subst hy
    simp
  have HR := Lib.hid hr
  clear hr
  go_wp2_with (go_at_call 58; refine (own_c (w.heap.size + 1) _ _ _ [x] _ HR.out (by intro y hy; simp at hy; omega) (by decide) (Nat.le_refl _) (by intro b off e; injection e with e; injection e with e1; omega)).mono ?_; rintro e w1 ⟨v, rfl, hv, hb⟩; obtain ⟨hc, hf, hz⟩ := bcell hb; simp at hc hf hz; obtain ⟨A, m, c, l, rfl, hv⟩ := hv; have HV := Lib.hid hv; clear hv)
  have hk : Bk w1 w.heap.size 76 #[.slice none 0 0] := ((Bk.new _ _ _).alloc _).keep hb
  have hz1 : w.heap.size < w1.heap.size := hk.lt
  refine bodyPost_ret (v := .agg #[.slice A m c]) (by simp [results, Try.results45, go_sem, hk.res1]) rfl ⟨_, rfl, ?_, ?_⟩
  · have : IsNat (w.heap.size + 1) w1 (.agg #[.slice A m c]) (val 18446744073709551616 [x]) := ⟨A, m, c, l, rfl, HV.out⟩
    simp [val] at this
    exact (this.far (by simp)).mono (by omega)
  · exact ((((Below.refl _ _).alloc (Nat.le_refl _) _).alloc (by simp) _).trans (hb.mono (by simp <;> omega))).setCell (Nat.le_refl _) _
set_option maxHeartbeats 1600000 in
theorem len_c (g : Nat) (v : Value) (N : Nat) (w : World) (hv : IsNat g w v N) :
    Calls Try.prog 55 #[v] w fun e w' => (∃ l : List Nat, e = .returned (.int .i64 l.length) ∧ Lim 18446744073709551616 l N) ∧ Below w.heap.size w w' := by
  obtain ⟨A, n, c, l, rfl, hr, hl, _⟩ := hv
  go_enter Try.func55, Try.ntmps55
  go_wp2
  go_ret
  exact ⟨⟨l, by rw [hr.1]; rfl, hl⟩, (Below.refl _ _).alloc (Nat.le_refl _) _⟩
set_option maxHeartbeats 1600000 in
theorem all_c (g : Nat) (v : Value) (N : Nat) (w : World) (hv : IsNat g w v N) (hN : Fits N 10000) :
    Calls Try.prog 57 #[v] w fun e w' => ∃ (u : Value) (l : List Nat), e = .returned u ∧ Own w.heap.size w' u l ∧ Lim 18446744073709551616 l N ∧ Below w.heap.size w w' := by
  obtain ⟨A, n, c, l, rfl, hr, hl, _⟩ := hv
  have hn : n ≤ 10000 := by
    rw [← hr.1]; exact hl.len hN
  have HR := Lib.hid (hr.alloc (.cells #[.slice A n c] 76))
  go_enter Try.func57, Try.ntmps57
  go_wp2_with (at_builtin; refine wpList_append_row (k := .u64) rfl _ _ rfl w.heap.size Try.underlying74 info64 rfl (by decide) (.slice none 0 0) [] l A n c rfl rfl (World.ownsRow_nil _ _ _ _) HR.out (by simp; omega) (by simp) ?_; intro v' w' ho hg _)
  go_ret
  exact ⟨v', l, rfl, ho, hl, ((Below.refl _ _).alloc (Nat.le_refl _) _).grown hg (by simp) (fun k hk => by simp [Value.ownBlock] at hk)⟩
set_option maxHeartbeats 1600000 in
theorem limbs_c (A : Option Addr) (n c : Nat) (l : List Nat) (w : World) (hr : Rw .u64 w A n l) (hl : AllLt 18446744073709551616 l) (hn : n ≤ 10000) (hnc : n ≤ c) :
    Calls Try.prog 75 #[.slice A n c] w fun e w' => ∃ v, e = .returned v ∧ IsNat w.heap.size w' v (val 18446744073709551616 l) ∧ Below w.heap.size w w' := by
  have ht := trimLen_le l
  have hlen := hr.1
  have hr1 := hr.alloc (.cells #[.slice none 0 0] 76)
  have htk := hr1.take (m := trimLen l) (by omega)
  have HR := Lib.hid hr1
  have HK := Lib.hid htk
  clear hr1 htk
  go_enter Try.func75, Try.ntmps75
  go_wp2_with (first
    | (go_at_call 71; refine (trim_c _ _ _ l _ HR.out (by omega)).mono ?_; rintro e w1 ⟨rfl, rfl⟩)
    | (at_builtin; refine wpList_append_row (k := .u64) rfl _ _ rfl (w.heap.size + 1) Try.underlying74 info64 rfl (by decide) (.slice none 0 0) [] (l.take (trimLen l)) A (trimLen l) c rfl rfl (World.ownsRow_nil _ _ _ _) HK.out (by simp; omega) (by simp) ?_; intro v' w' ho hg hat))
  have ho1 : Own (w.heap.size + 1) w' v' (l.take (trimLen l)) := ho
  have hB : Below w.heap.size w w' := ((Below.refl _ _).alloc (Nat.le_refl _) _).grown hg (by simp) (fun k hk => by simp [Value.ownBlock] at hk)
  have hk1 : Bk w' w.heap.size 76 #[.slice none 0 0] := (Bk.new _ _ _).grown hg (by simp [Value.ownBlock])
  obtain ⟨A', c', rfl, hr', hcc, hb'⟩ := ho1.slice
  have hlen' : (l.take (trimLen l)).length ≤ 10000 := by rw [List.length_take]; omega
  refine (own_c (w.heap.size + 1) _ _ _ _ _ hr' (hl.take _) (by omega) hcc hb').mono ?_
  rintro e w2 ⟨v, rfl, hv, hb⟩
  rw [val_trim] at hv
  have hk2 := hk1.keep hb
  have hB2 := hB.trans (hb.mono hB.size)
  obtain ⟨A2, m2, c2, l2, rfl, hv⟩ := hv
  have HV := Lib.hid hv
  clear hv hr' hb' hr hl ho1 ho hg hat hb hk1
  have hf2 := hk2.frozen 0
  have hc2 := hk2.cell 0
  have hz2 := hk2.lt
  simp at hc2
  go_wp2_with fail
  refine bodyPost_ret (v := .agg #[.slice A2 m2 c2]) (by simp [results, Try.results75, go_sem, hk2.res1]) rfl ⟨_, rfl, ?_, hB2.setCell (Nat.le_refl _) _⟩
  have : IsNat (w.heap.size + 1) w2 (.agg #[.slice A2 m2 c2]) (val 18446744073709551616 l) := ⟨A2, m2, c2, l2, rfl, HV.out⟩
  exact (this.far (by simp)).mono (by omega)
end Go.Proofs.Ytjocobfabdkadaa
