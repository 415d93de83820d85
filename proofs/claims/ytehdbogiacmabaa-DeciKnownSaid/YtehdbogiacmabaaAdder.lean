/- adder and its function, gather, Sum and Add of package nat, by contract. Numbers of at most 9000 limbs. -/
import Derived.Test.YtehdbogiacmabaaCmp
namespace Go.Proofs.Ytehdbogiacmabaa
open Go.RowKit
attribute [local go_sem] alloc_drewN setCell_drewN
theorem adder_c (w : World) : Calls Try.prog 57 #[] w fun e w' => e = .returned (.func (.func 59) #[] #[.pointer (some ⟨w.heap.size, 0, none⟩)]) ∧ w' = w.alloc (.cells #[.int .u64 0] 23) := by
  go_enter Try.func57, Try.ntmps57
  go_wp2
  go_ret
  exact ⟨rfl, rfl⟩
set_option maxHeartbeats 1600000 in
theorem add1_c (x y c cb : Nat) (w : World) (hx : x < 18446744073709551616) (hy : y < 18446744073709551616) (hc : c ≤ 1) (hk : Bk w cb 23 #[.int .u64 c]) :
    Calls Try.prog 59 #[.int .u64 x, .int .u64 y, .pointer (some ⟨cb, 0, none⟩)] w fun e w' => ∃ s d : Nat, s + 18446744073709551616 * d = x + y + c ∧ s < 18446744073709551616 ∧ d ≤ 1 ∧ e = .returned (.int .u64 s) ∧ w' = w.setCell ⟨cb, 0, none⟩ (.int .u64 d) := by
  obtain ⟨s, d, h1, h2, h3, h4⟩ := add64_c x y c hx hy hc w
  have hc0 := hk.cell 0
  have hf0 := hk.frozen 0
  have hl0 := hk.lt
  simp at hc0
  go_enter Try.func59, Try.ntmps59
  go_wp2_with (simp only [h4])
  go_ret
  exact ⟨s, d, h1, h2, h3, rfl, rfl⟩
/-! ### The plain law of adding -/
theorem val_set (b : Nat) {l : List Nat} {i x : Nat} (y : Nat) (hx : l[i]? = some x) : val b (l.set i y) + b ^ i * x = val b l + b ^ i * y := by
  have hi := (List.getElem?_eq_some_iff.1 hx).1
  have h1 := val_append b (l.take (i + 1)) (l.drop (i + 1))
  have h2 := val_append b ((l.set i y).take (i + 1)) ((l.set i y).drop (i + 1))
  rw [List.take_append_drop] at h1 h2
  rw [val_take_succ b hx, List.length_take, Nat.min_eq_left (by omega)] at h1
  rw [val_take_succ b (x := y) (by simp [hi]), List.length_take, List.length_set, Nat.min_eq_left (by omega), List.take_set_of_le (Nat.le_refl _), List.drop_set_of_lt (by omega)] at h2
  omega
theorem AllLt.set {b : Nat} {l : List Nat} (h : AllLt b l) {i y : Nat} (hy : y < b) : AllLt b (l.set i y) := fun x hx => by
  rcases List.mem_or_eq_of_mem_set hx with h1 | h1
  · exact h x h1
  · omega
theorem AllLt.snoc {b : Nat} {l : List Nat} (h : AllLt b l) {y : Nat} (hy : y < b) : AllLt b (l ++ [y]) := fun x hx => by
  rcases List.mem_append.1 hx with h1 | h1
  · exact h x h1
  · simp at h1; omega
theorem val_snoc0 (b : Nat) (l : List Nat) : val b (l ++ [0]) = val b l := by simp [val_append, val]
theorem drop_at {l m : List Nat} {k : Nat} (h : l.drop k = m.drop k) : l[k]? = m[k]? := by
  have := congrArg (fun t : List Nat => t[0]?) h
  simpa using this
theorem drop_next {l m : List Nat} {k s : Nat} (h : l.drop k = m.drop k) : (l.set k s).drop (k + 1) = m.drop (k + 1) := by
  rw [List.drop_set_of_lt (by omega)]
  have := congrArg (List.drop 1) h
  simpa [List.drop_drop, Nat.add_comm] using this
theorem add_step {b k x y s d d' : Nat} {r r2 m : List Nat} (hx : m[k]? = some x) (hy : r2[k]? = some y) (hd : r2.drop k = r.drop k) (hs : s + b * d' = y + x + d)
    (hv : val b (r2.take k) + b ^ k * d = val b (r.take k) + val b (m.take k)) :
    val b ((r2.set k s).take (k + 1)) + b ^ (k + 1) * d' = val b (r.take (k + 1)) + val b (m.take (k + 1)) := by
  have hk := (List.getElem?_eq_some_iff.1 hy).1
  rw [val_take_succ b (x := s) (by simp [hk]), List.take_set_of_le (Nat.le_refl _), val_take_succ b (hy ▸ (drop_at hd).symm : r[k]? = some y), val_take_succ b hx, Nat.pow_succ, Nat.mul_assoc]
  have h1 : b ^ k * (s + b * d') = b ^ k * (y + x + d) := by rw [hs]
  simp only [Nat.mul_add] at h1
  omega
theorem add_end {b n d : Nat} {r r2 m : List Nat} (hm : m.length = n) (hl : r2.length = r.length) (hn : n ≤ r.length) (hd : r2.drop n = r.drop n) (hv : val b (r2.take n) + b ^ n * d = val b (r.take n) + val b (m.take n)) :
    val b r2 + b ^ n * d = val b r + val b m := by
  have h1 := val_append b (r2.take n) (r2.drop n)
  have h2 := val_append b (r.take n) (r.drop n)
  rw [List.take_append_drop, List.length_take, Nat.min_eq_left (by omega)] at h1 h2
  rw [hd] at h1
  rw [← hm, List.take_length, hm] at hv
  omega
def sliceLen : Value → Nat
  | .slice _ n _ => n
  | _ => 0
theorem Rw.low {k : IntKind} {g n : Nat} {w w' : World} {A : Option Addr} {l : List Nat} (h : Rw k w A n l) (hA : 0 < n → ∀ b off, A = some ⟨b, off, none⟩ → b < g) (hb : Below g w w') : Rw k w' A n l :=
  ⟨h.1, fun hn => by
    obtain ⟨b, off, e, hl, hc⟩ := h.2 hn
    have := hA hn b off e
    exact ⟨b, off, e, Nat.lt_of_lt_of_le hl hb.size, fun i x hx => (hb.cell (p := ⟨b, off + i, none⟩) this).trans (hc i x hx)⟩⟩
theorem rw_new {k : IntKind} (w : World) (x : Nat) (t : TypeId) : Rw k (w.alloc (.cells #[.int k x] t)) (some ⟨w.heap.size, 0, none⟩) 1 [x] := by
  refine ⟨rfl, fun _ => ⟨w.heap.size, 0, rfl, by simp, fun i y hy => ?_⟩⟩
  have h0 : i = 0 := by
    have := (List.getElem?_eq_some_iff.1 hy).1
    simp at this; exact this
  subst h0
  simp at hy
  subst hy
  simp
theorem Own.len {g : Nat} {w : World} {v : Value} {l : List Nat} (h : Own g w v l) : sliceLen v = l.length := by
  obtain ⟨A, c, rfl, _⟩ := h.slice
  rfl
/-- A store into a row of the call's own. -/
theorem Own.put {g gb n cap : Nat} {w : World} {l : List Nat} (h : w.ownsRow g 23 1 (.slice (some ⟨gb, 0, none⟩) n cap) n (cellsOf .u64 l)) (k s : Nat) :
    (w.setCell ⟨gb, k, none⟩ (.int .u64 s)).ownsRow g 23 1 (.slice (some ⟨gb, 0, none⟩) n cap) n (cellsOf .u64 (l.set k s)) := by
  have := (h.stored k (.int .u64 s)).1
  rwa [show (cellsOf .u64 l).set k (.int .u64 s) = cellsOf .u64 (l.set k s) by simp [cellsOf, List.map_set]] at this
/-- A store elsewhere. -/
theorem Own.far {g gb n cap : Nat} {w : World} {l : List Nat} (h : w.ownsRow g 23 1 (.slice (some ⟨gb, 0, none⟩) n cap) n (cellsOf .u64 l)) {p : Addr} (hp : p.block ≠ gb) (u : Value) :
    (w.setCell p u).ownsRow g 23 1 (.slice (some ⟨gb, 0, none⟩) n cap) n (cellsOf .u64 l) :=
  h.kept (row := some p.block) ⟨rfl, rfl, rfl, by simp, fun k _ hk => Below.heap_setCell w p u k (fun e => hk (by rw [e]))⟩ (.inr (by simp [Value.ownBlock]; exact fun e => hp e.symm))
theorem Own.at_ {g gb n cap k : Nat} {w : World} {l : List Nat} (h : w.ownsRow g 23 1 (.slice (some ⟨gb, 0, none⟩) n cap) n (cellsOf .u64 l)) (hk : k < n) :
    ∃ y, l[k]? = some y ∧ w.cell? ⟨gb, k, none⟩ = some (.int .u64 y) ∧ w.frozen? ⟨gb, k, none⟩ = false := by
  have hl : l.length = n := by have := h.1; simpa [cellsOf] using this
  have hx : l[k]? = some (l[k]'(by omega)) := List.getElem?_eq_getElem _
  refine ⟨_, hx, ?_, h.frozenAt k⟩
  rw [h.cellAt k (by omega)]
  simp [cellsOf, hx]
set_option maxHeartbeats 8000000 in
theorem gather_c (g : Nat) (v : Value) (l : List Nat) (A : Option Addr) (n c : Nat) (m : List Nat) (w : World) (hv : Own g w v l) (hl : AllLt 18446744073709551616 l) (hr : Rw .u64 w A n m) (hm : AllLt 18446744073709551616 m) (hA : 0 < n → ∀ b off, A = some ⟨b, off, none⟩ → b < g) (hg : g ≤ w.heap.size) (hn : n ≤ 100000) (hll : l.length ≤ 100000) :
    Calls Try.prog 53 #[v, .slice A n c] w fun e w' => ∃ (v' : Value) (r : List Nat), e = .returned v' ∧ Own g w' v' r ∧ AllLt 18446744073709551616 r ∧ val 18446744073709551616 r = val 18446744073709551616 l + val 18446744073709551616 m ∧ r.length ≤ max l.length n + 1 ∧ Below g w w' := by
  have hml := hr.1
  go_enter Try.func53, Try.ntmps53
  go_wp2
  go_loopw [0] (fun u w1 => ∃ r : List Nat, Own g w1 u r ∧ AllLt 18446744073709551616 r ∧ val 18446744073709551616 r = val 18446744073709551616 l ∧ r.length ≤ max l.length n ∧ Below g w w1) (fun u _ => n - sliceLen u)
  case atStart => exact ⟨l, hv, hl, rfl, by omega, Below.refl _ _⟩
  case round =>
    obtain ⟨r, ho, hrl, hrv, hrn, hB⟩ := hrel
    obtain ⟨A0, c0, rfl, hr0, hcc0, hb0⟩ := ho.slice
    have hgs := hB.size
    by_cases hlt : r.length < n
    · have h1 : decide ((r.length : Int) < (n : Int)) = true := by simp <;> omega
      go_wp2_with (at_builtin; refine wpList_append_row (k := .u64) rfl _ _ rfl g Try.underlying22 info64 rfl (by decide) (.slice A0 r.length c0) r [0] (some ⟨wr.heap.size, 0, none⟩) 1 1 rfl rfl (World.ownsRow.alloc ho _) (rw_new _ 0 _) (by omega) (by simp; omega) ?_; intro v' w' ho' hg' _)
      have hB' : Below g w w' := (hB.alloc (by omega) _).grown hg' (by simp; omega) (fun k hk => (ho.lt k hk).1)
      have hL : sliceLen v' = r.length + 1 := by
        have := Own.len (show Own g w' v' (r ++ [0]) from ho'); simpa using this
      clear ho hr0 hg'
      go_roundw
      case rel => exact ⟨r ++ [0], ho', hrl.snoc (by omega), (val_snoc0 _ _).trans hrv, by simp; omega, hB'⟩
      case measure => simp [sliceLen] at hL ⊢; omega
    · have h1 : decide ((r.length : Int) < (n : Int)) = false := by simp <;> omega
      go_wp2_with (go_at_call 57; refine (adder_c _).mono ?_; rintro e w1 ⟨rfl, rfl⟩)
      have hcb := Bk.new wr 23 #[.int .u64 ((0 : Nat) : Int)]
      have hB1 : Below g w (wr.alloc (.cells #[.int .u64 ((0 : Nat) : Int)] 23)) := hB.alloc (by omega) _
      have ho1 : (wr.alloc (.cells #[.int .u64 ((0 : Nat) : Int)] 23)).ownsRow g 23 1 (.slice A0 r.length c0) r.length (cellsOf .u64 r) := World.ownsRow.alloc ho _
      have hne : ∀ b off, A0 = some ⟨b, off, none⟩ → b < wr.heap.size := fun b off e => by
        have := ho.lt b (by rw [e]; rfl); exact this.2
      clear ho hr0 hB
      generalize hcbe : wr.heap.size = cb at *
      go_loopw [21] (fun i w2 => ∃ (k d : Nat) (r2 : List Nat), i = .int .i64 k ∧ k ≤ n ∧ d ≤ 1 ∧ r2.length = r.length ∧ w2.ownsRow g 23 1 (.slice A0 r.length c0) r.length (cellsOf .u64 r2) ∧ AllLt 18446744073709551616 r2 ∧ val 18446744073709551616 (r2.take k) + 18446744073709551616 ^ k * d = val 18446744073709551616 (r.take k) + val 18446744073709551616 (m.take k) ∧ r2.drop k = r.drop k ∧ Bk w2 cb 23 #[.int .u64 d] ∧ Below g w w2) (fun i _ => n - (intOf i).toNat)
      case atStart => exact ⟨0, 0, r, rfl, Nat.zero_le _, by omega, rfl, ho1, hrl, by simp [val], rfl, hcb, hB1⟩
      case round =>
        obtain ⟨k, d, r2, rfl, hk, hd, hr2, ho2, hl2, hv2, hdr, hbk, hB2⟩ := hrel
        by_cases hkn : k < n
        · have h2 : decide ((k : Int) < (n : Int)) = true := by simp <;> omega
          obtain ⟨gb, cap, e, hgb, hgl⟩ := ho2.form (by omega)
          injection e with e1 e2 e3
          subst e1 e3
          have hgc := hne gb 0 rfl
          obtain ⟨y, hy, hcy, hfy⟩ := Own.at_ ho2 (k := k) (by omega)
          obtain ⟨b, off, x, rfl, hbl, hx, hcx⟩ := (hr.low hA hB2).at_ (i := k) hkn
          have hbg := hA (by omega) b off rfl
          have hgne : gb ≠ cb := by omega
          have hgne' : cb ≠ gb := by omega
          have hxl := hm.at_ hx
          have hyl := hl2.at_ hy
          have HX := Lib.hid (And.intro hx (And.intro hy (And.intro hdr (And.intro hv2 (And.intro hr2 hl2)))))
          have HO := Lib.hid ho2
          have HB := Lib.hid hB2
          have HK := Lib.hid hbk
          clear hx hy hdr hv2 ho2 hr2 hl2 hB2 hbk ho1 hcb hB1 hrl hrv
          go_wp2_with (go_at_call 59; refine (add1_c y x d cb _ hyl hxl hd HK.out).mono ?_; rintro e w3 ⟨s, d', hs1, hs2, hs3, rfl, rfl⟩)
          obtain ⟨hx, hy, hdr, hv2, hr2, hl2⟩ := HX.out
          have ho3 := Own.put (Own.far HO.out (p := ⟨cb, 0, none⟩) hgne' (.int .u64 d')) k s
          have hk3 : Bk ((wr.setCell ⟨cb, 0, none⟩ (.int .u64 d')).setCell ⟨gb, k, none⟩ (.int .u64 s)) cb 23 #[.int .u64 d'] := (HK.out.put 0 _).far hgne' _
          have hB3 : Below g w ((wr.setCell ⟨cb, 0, none⟩ (.int .u64 d')).setCell ⟨gb, k, none⟩ (.int .u64 s)) := (HB.out.setCell (by simp; omega) _).setCell (by simp; omega) _
          go_roundw
          case rel => exact ⟨k + 1, d', r2.set k s, by go_num, by omega, hs3, by simpa using hr2, ho3, hl2.set hs2, add_step hx hy hdr hs1 hv2, drop_next hdr, hk3, hB3⟩
          case measure => simp [intOf] <;> omega
        · obtain rfl : k = n := by omega
          have h2 : decide ((k : Int) < (k : Int)) = false := by simp
          have hend := add_end hml hr2 (by omega) hdr hv2
          have HX := Lib.hid (And.intro hend (And.intro hr2 hl2))
          have HO := Lib.hid ho2
          have HB := Lib.hid hB2
          have HK := Lib.hid hbk
          clear hend hdr hv2 ho2 hr2 hl2 hB2 hbk ho1 hcb hB1 hrl
          go_wp2_with (go_at_call 59; refine (add1_c 0 0 d cb _ (by omega) (by omega) hd HK.out).mono ?_; rintro e w3 ⟨s, d', hs1, hs2, hs3, rfl, rfl⟩)
          obtain rfl : s = d := by omega
          obtain ⟨hend, hr2, hl2⟩ := HX.out
          have ho3 : Own g (wr.setCell ⟨cb, 0, none⟩ (.int .u64 d')) (.slice A0 r.length c0) r2 := by
            have h := HO.out.kept (w' := wr.setCell ⟨cb, 0, none⟩ (.int .u64 d')) (row := some cb) ⟨rfl, rfl, rfl, by simp, fun q _ hq => Below.heap_setCell wr ⟨cb, 0, none⟩ (.int .u64 d') q (fun e => hq (by rw [e]))⟩ (by
              cases A0 with
              | none => exact .inl rfl
              | some ad =>
                right
                intro e
                have h1 := (HO.out.lt ad.block rfl)
                obtain ⟨gb, off, nn⟩ := ad
                simp [Value.ownBlock] at e
                subst e
                have h3 : r.length = 0 ∨ 0 < r.length := by omega
                rcases h3 with h3 | h3
                · rcases HO.out.2 with ⟨e, _⟩ | ⟨q, cap, cur, e, _⟩
                  · injection e with e; cases e
                  · injection e with e _ _
                    injection e with e
                    injection e with e1 e2 e3
                    subst e2 e3
                    exact absurd (hne _ _ rfl) (by omega)
                · obtain ⟨q, cap, e, _⟩ := HO.out.form h3
                  injection e with e _ _
                  injection e with e
                  injection e with e1 e2 e3
                  subst e2 e3
                  exact absurd (hne _ _ rfl) (by omega))
            unfold Own
            rw [hr2]; exact h
          have hB3 : Below g w (wr.setCell ⟨cb, 0, none⟩ (.int .u64 d')) := HB.out.setCell (by simp; omega) _
          clear HX HO HB HK hne hcbe hcc0 hb0
          go_loopw [0, 8, 9] (fun u e i w3 => ∃ (j q : Nat) (r3 : List Nat), i = .int .i64 j ∧ e = .int .u64 q ∧ q ≤ 1 ∧ Own g w3 u r3 ∧ AllLt 18446744073709551616 r3 ∧ val 18446744073709551616 r3 + 18446744073709551616 ^ j * q = val 18446744073709551616 l + val 18446744073709551616 m ∧ (q = 1 → j ≤ r3.length ∧ r3.length = r.length) ∧ r3.length ≤ r.length + 1 ∧ Below g w w3) (fun _ e i _ => (intOf e).toNat * (r.length + 1 - (intOf i).toNat))
          case atStart => exact ⟨k, s, r2, rfl, rfl, hd, ho3, hl2, by rw [hend, hrv], fun _ => ⟨by omega, hr2⟩, by omega, hB3⟩
          case round =>
            clear ho3 hB3 hl2 hend
            obtain ⟨j, q, r3, rfl, rfl, hq, ho4, hl4, hv4, hj4, hr4, hB4⟩ := hrel
            obtain ⟨A4, c4, rfl, hrw4, hcc4, hb4⟩ := ho4.slice
            have hq' : q = 0 ∨ q = 1 := by omega
            rcases hq' with rfl | rfl
            · go_wp2
              go_ret
              exact ⟨_, r3, rfl, ho4, hl4, by simpa using hv4, by omega, hB4⟩
            · obtain ⟨hj, hr34⟩ := hj4 rfl
              by_cases hjr : j = r3.length
              · have h3 : ((j : Int) == (r3.length : Int)) = true := by simp [hjr]
                have hgs4 := hB4.size
                have HX := Lib.hid (And.intro hv4 (And.intro hl4 (And.intro hjr hr34)))
                have hr3n : r3.length ≤ 200000 := by omega
                clear hv4 hl4 hj4 hr hA hrw4 hb4 hjr hr34
                go_wp2_with (first
                  | (at_builtin; refine wpList_append_row (k := .u64) rfl _ _ rfl g Try.underlying22 info64 rfl (by decide) (.slice A4 r3.length c4) r3 [0] (some ⟨wr.heap.size, 0, none⟩) 1 1 rfl rfl (World.ownsRow.alloc ho4 _) (rw_new _ 0 _) (by omega) (by simp; omega) ?_; intro v' w' ho' hg' _; obtain ⟨gb, cap, rfl, hgb, hgl⟩ := ho'.form (by simp); obtain ⟨y, hy, hcy, hfy⟩ := Own.at_ ho' (k := j) (by rw [HX.out.2.2.1]; simp); obtain rfl : y = 0 := (by rw [HX.out.2.2.1] at hy; simpa using hy.symm); have hB' : Below g w w' := (hB4.alloc (by omega) _).grown hg' (by simp; omega) (fun k hk => (ho4.lt k hk).1); have HO := Lib.hid ho'; clear ho' hg' hy ho4))
                obtain ⟨hv4, hl4, hjr, hr34⟩ := HX.out
                have hvs := val_set 18446744073709551616 (l := r3 ++ [0]) (i := j) (x := 0) 1 (by rw [hjr]; simp)
                rw [val_snoc0] at hvs
                have hoo := Own.put HO.out j 1
                go_roundw
                case rel => exact ⟨j + 1, 0, (r3 ++ [0]).set j 1, by go_num, rfl, by omega, by unfold Own; rw [List.length_set]; simpa using hoo, (hl4.snoc (by omega)).set (by omega), by omega, fun h => absurd h (by omega), by simp; omega, hB'.setCell (by simp; omega) _⟩
                case measure => simp [intOf] <;> omega
              · have h3 : ((j : Int) == (r3.length : Int)) = false := by simp <;> omega
                obtain ⟨gb, cap, e, hgb, hgl⟩ := World.ownsRow.form ho4 (by omega)
                injection e with e1 e2 e3
                subst e1 e3
                obtain ⟨y, hy, hcy, hfy⟩ := Own.at_ ho4 (k := j) (by omega)
                have hyl := hl4.at_ hy
                have HX := Lib.hid (And.intro hy (And.intro hv4 hl4))
                have HO := Lib.hid ho4
                clear hy hv4 hl4 ho4 hj4 hr hA hrw4 hb4
                by_cases hy1 : y = 18446744073709551615
                · subst hy1
                  go_wp2
                  obtain ⟨hy, hv4, hl4⟩ := HX.out
                  have hvs := val_set 18446744073709551616 0 hy
                  have hoo := Own.put HO.out j 0
                  have hw : IntKind.u64.wrap 18446744073709551616 = ((0 : Nat) : Int) := by decide
                  rw [hw]
                  go_roundw
                  case rel => exact ⟨j + 1, 1, r3.set j 0, by go_num, rfl, by omega, by unfold Own; rw [List.length_set]; exact hoo, hl4.set (by omega), by rw [Nat.pow_succ]; omega, fun _ => ⟨by simp; omega, by simpa using hr34⟩, by simp; omega, hB4.setCell (by simp; omega) _⟩
                  case measure => simp [intOf] <;> omega
                · go_wp2
                  obtain ⟨hy, hv4, hl4⟩ := HX.out
                  have hvs := val_set 18446744073709551616 (y + 1) hy
                  rw [Nat.mul_add] at hvs
                  have hoo := Own.put HO.out j (y + 1)
                  go_roundw
                  case rel => exact ⟨j + 1, 0, r3.set j (y + 1), by go_num, rfl, by omega, by unfold Own; rw [List.length_set]; exact hoo, hl4.set (by omega), by omega, fun h => absurd h (by omega), by simp; omega, hB4.setCell (by simp; omega) _⟩
                  case measure => simp [intOf] <;> omega
/-- A row of numbers: the list of what they are. Their limbs lie below block g; none has more than s limbs. -/
def NatsAt (g s : Nat) (w : World) (A : Option Addr) (n : Nat) (Ns : List Nat) : Prop :=
  Ns.length = n ∧ (∀ N ∈ Ns, Fits N s) ∧ (0 < n → ∃ b off, A = some ⟨b, off, none⟩ ∧ b < g ∧ ∀ (i N : Nat), Ns[i]? = some N → ∃ (B : Option Addr) (m c : Nat) (l : List Nat), m ≤ c ∧ w.cell? ⟨b, off + i, none⟩ = some (.slice B m c) ∧ Rw .u64 w B m l ∧ Lim 18446744073709551616 l N ∧ (0 < m → ∀ b off, B = some ⟨b, off, none⟩ → b < g))
theorem NatsAt.low {g s n : Nat} {w w' : World} {A : Option Addr} {Ns : List Nat} (h : NatsAt g s w A n Ns) (hb : Below g w w') : NatsAt g s w' A n Ns := by
  obtain ⟨h1, h2, h3⟩ := h
  refine ⟨h1, h2, fun hn => ?_⟩
  obtain ⟨b, off, e, hl, hc⟩ := h3 hn
  refine ⟨b, off, e, hl, fun i N hN => ?_⟩
  obtain ⟨B, m, c, l, k0, k1, k2, k3, k4⟩ := hc i N hN
  exact ⟨B, m, c, l, k0, (hb.cell (p := ⟨b, off + i, none⟩) hl).trans k1, k2.low k4 hb, k3, k4⟩
theorem NatsAt.up {g g' s n : Nat} {w : World} {A : Option Addr} {Ns : List Nat} (h : NatsAt g s w A n Ns) (hg : g ≤ g') : NatsAt g' s w A n Ns := by
  obtain ⟨h1, h2, h3⟩ := h
  refine ⟨h1, h2, fun hn => ?_⟩
  obtain ⟨b, off, e, hl, hc⟩ := h3 hn
  refine ⟨b, off, e, Nat.lt_of_lt_of_le hl hg, fun i N hN => ?_⟩
  obtain ⟨B, m, c, l, k0, k1, k2, k3, k4⟩ := hc i N hN
  exact ⟨B, m, c, l, k0, k1, k2, k3, fun hm b off e => Nat.lt_of_lt_of_le (k4 hm b off e) hg⟩
def sumOf (Ns : List Nat) : Nat := Ns.foldl (· + ·) 0
theorem sumOf_take {Ns : List Nat} {k N : Nat} (h : Ns[k]? = some N) : sumOf (Ns.take (k + 1)) = sumOf (Ns.take k) + N := by
  unfold sumOf
  obtain ⟨hk, rfl⟩ := List.getElem?_eq_some_iff.1 h
  rw [List.take_succ_eq_append_getElem hk, List.foldl_append]; rfl
set_option maxHeartbeats 8000000 in
theorem sum_c (s : Nat) (A : Option Addr) (n c : Nat) (Ns : List Nat) (w : World) (hr : NatsAt w.heap.size s w A n Ns) (hs : s ≤ 9000) (hn : n ≤ 100) :
    Calls Try.prog 45 #[.slice A n c] w fun e w' => ∃ v, e = .returned v ∧ IsNat w.heap.size w' v (sumOf Ns) ∧ Below w.heap.size w w' := by
  go_enter Try.func45, Try.ntmps45
  go_wp2
  go_loopw [3, 8] (fun u i w1 => ∃ (k : Nat) (r : List Nat), i = .int .i64 k ∧ k ≤ n ∧ Own (w.heap.size + 1) w1 u r ∧ AllLt 18446744073709551616 r ∧ val 18446744073709551616 r = sumOf (Ns.take k) ∧ r.length ≤ s + k ∧ Bk w1 w.heap.size 26 #[.slice none 0 0] ∧ Below w.heap.size w w1) (fun _ i _ => n - (intOf i).toNat)
  case atStart => exact ⟨0, [], rfl, Nat.zero_le _, World.ownsRow_nil _ _ _ _, fun _ h => (by cases h), rfl, by simp, Bk.new _ _ _, (Below.refl _ _).alloc (Nat.le_refl _) _⟩
  case round =>
    obtain ⟨k, r, rfl, hk, ho, hl, hv, hlen, hbk, hB⟩ := hrel
    obtain ⟨A0, c0, rfl, hr0, hcc0, hb0⟩ := ho.slice
    have hz := hbk.lt
    by_cases hlt : k < n
    · have h1 : decide ((k : Int) < (n : Int)) = true := by simp <;> omega
      obtain ⟨e1, e2, e3⟩ := hr.low hB
      obtain ⟨b, off, rfl, hbl, hc⟩ := e3 (by omega)
      have hN : Ns[k]? = some (Ns[k]'(by omega)) := List.getElem?_eq_getElem _
      have hsum := sumOf_take hN
      have hfit := e2 _ (List.mem_of_getElem? hN)
      generalize (Ns[k]'(by omega)) = N at hN hsum hfit
      obtain ⟨B, m, cc, l, _, hcell, hrw, hlim, hBb⟩ := hc k N hN
      have hm : m ≤ s := by rw [← hrw.1]; exact hlim.len hfit
      have ho1 : Own (w.heap.size + 1) (wr.alloc (.cells #[.slice B m cc] 26)) (.slice A0 r.length c0) r := World.ownsRow.alloc ho _
      have hrw1 := hrw.alloc (.cells #[.slice B m cc] 26)
      have HX := Lib.hid (And.intro hsum (And.intro hv (And.intro hlim (And.intro hl (And.intro ho1 (And.intro hrw1 (And.intro hBb (And.intro hB hbk))))))))
      clear hc hN e2 e3 hsum hv hlim hl ho1 ho hrw1 hrw hBb hB hr0 hb0 hr
      go_wp2_with (go_at_call 53; refine (gather_c (w.heap.size + 1) _ r B m cc l _ HX.out.2.2.2.2.1 HX.out.2.2.2.1 HX.out.2.2.2.2.2.1 HX.out.2.2.1.1 (fun h b off e => Nat.lt_succ_of_lt (HX.out.2.2.2.2.2.2.1 h b off e)) (by simp; omega) (by omega) (by omega)).mono ?_; rintro e w2 ⟨v', r', rfl, ho', hl', hv', hlen', hB'⟩)
      obtain ⟨hsum, hv, hlim, hl, ho1, hrw1, hBb, hB, hbk⟩ := HX.out
      go_roundw
      case rel => exact ⟨k + 1, r', by go_num, by omega, ho', hl', by rw [hv', hv, hsum, hlim.2.1], by omega, (hbk.alloc _).below hB' (by omega), (hB.alloc (by omega) _).trans (hB'.mono (by omega))⟩
      case measure => simp [intOf] <;> omega
    · obtain rfl : k = n := by omega
      have h1 : decide ((k : Int) < (k : Int)) = false := by simp
      rw [show Ns.take k = Ns by rw [← hr.1, List.take_length]] at hv
      clear ho hr
      go_wp2_with (go_at_call 30; refine (own_c (w.heap.size + 1) A0 r.length c0 r _ hr0 hl (by omega) hcc0 hb0).mono ?_; rintro e w2 ⟨v, rfl, hv2, hb⟩; have hk2 := hbk.keep hb; have hB2 := hB.trans (hb.mono hB.size); obtain ⟨A2, m2, c2, l2, rfl, hv2⟩ := hv2; have HV := Lib.hid hv2; clear hv2 hr0 hb0 hl hb hbk; have hf2 := hk2.frozen 0; have hc2 := hk2.cell 0; have hz2 := hk2.lt; simp at hc2)
      refine bodyPost_ret (v := .agg #[.slice A2 m2 c2]) (by simp [results, Try.results45, go_sem, hk2.res1]) rfl ⟨_, rfl, ?_, hB2.setCell (Nat.le_refl _) _⟩
      have : IsNat (w.heap.size + 1) w2 (.agg #[.slice A2 m2 c2]) (val 18446744073709551616 r) := ⟨A2, m2, c2, l2, rfl, HV.out⟩
      rw [hv] at this
      exact (this.far (by simp)).mono (by omega)
theorem IsNat.row {g : Nat} {w : World} {x : Value} {N : Nat} (h : IsNat g w (.agg #[x]) N) : ∃ (B : Option Addr) (m c : Nat) (l : List Nat), x = .slice B m c ∧ m ≤ c ∧ Rw .u64 w B m l ∧ Lim 18446744073709551616 l N ∧ (0 < m → ∀ b off, B = some ⟨b, off, none⟩ → b < w.heap.size) := by
  obtain ⟨B, m, c, l, e, h1, h2, h0, _⟩ := h
  simp at e
  refine ⟨B, m, c, l, e, h0, h1, h2, fun hm b off eB => ?_⟩
  obtain ⟨b', off', e', hl, _⟩ := h1.2 hm
  rw [eB] at e'
  injection e' with e'
  injection e' with e1
  rw [e1]; exact hl
theorem natsAt_new {s : Nat} (W : World) (cs : Array Value) (t : TypeId) (Ns : List Nat) (hf : ∀ N ∈ Ns, Fits N s) (h : ∀ (i N : Nat), Ns[i]? = some N → ∃ x g, cs[i]? = some x ∧ IsNat g W (.agg #[x]) N) :
    NatsAt (W.heap.size + 1) s (W.alloc (.cells cs t)) (some ⟨W.heap.size, 0, none⟩) Ns.length Ns := by
  refine ⟨rfl, hf, fun hn => ⟨W.heap.size, 0, rfl, by omega, fun i N hN => ?_⟩⟩
  obtain ⟨x, g, hx, hi⟩ := h i N hN
  obtain ⟨B, m, c, l, rfl, h0, h1, h2, h3⟩ := hi.row
  refine ⟨B, m, c, l, h0, ?_, h1.alloc _, h2, fun hm b off e => Nat.lt_succ_of_lt (h3 hm b off e)⟩
  have := (Bk.new W t cs).cell i
  rw [Nat.zero_add, this, hx]
set_option maxHeartbeats 4000000 in
theorem add_c (s g h : Nat) (u v : Value) (N M : Nat) (w : World) (hu : IsNat g w u N) (hv : IsNat h w v M) (hN : Fits N s) (hM : Fits M s) (hs : s ≤ 9000) :
    Calls Try.prog 25 #[u, v] w fun e w' => ∃ x, e = .returned x ∧ IsNat w.heap.size w' x (N + M) ∧ Below w.heap.size w w' := by
  have hu0 := hu
  have hv0 := hv
  obtain ⟨A, n, c, l, rfl, _⟩ := hu
  obtain ⟨B, m, d, k, rfl, _⟩ := hv
  have hW : Below w.heap.size w (((w.alloc (.cells #[.slice A n c] 26)).alloc (.cells #[.slice B m d] 26)).alloc (.cells #[.slice none 0 0] 26)) := (((Below.refl _ _).alloc (Nat.le_refl _) _).alloc (by simp) _).alloc (by simp <;> omega) _
  have hns := natsAt_new (s := s) (((w.alloc (.cells #[.slice A n c] 26)).alloc (.cells #[.slice B m d] 26)).alloc (.cells #[.slice none 0 0] 26)) #[.slice A n c, .slice B m d] 26 [N, M] (by intro x hx; simp at hx; rcases hx with rfl | rfl <;> assumption) (by
    intro i x hx
    match i, hx with
    | 0, hx => simp at hx; subst hx; exact ⟨_, g, rfl, hu0.keep hW⟩
    | 1, hx => simp at hx; subst hx; exact ⟨_, h, rfl, hv0.keep hW⟩)
  have HN := Lib.hid hns
  have hk := ((Bk.new ((w.alloc (.cells #[.slice A n c] 26)).alloc (.cells #[.slice B m d] 26)) 26 #[.slice none 0 0]).alloc (.cells #[.slice A n c, .slice B m d] 26))
  simp at hk
  have HK := Lib.hid (And.intro hk hW)
  clear hns hu0 hv0 hk hW
  go_enter Try.func25, Try.ntmps25
  go_wp2_with (go_at_call 45; refine (sum_c s _ _ _ [N, M] _ (by simpa using HN.out) hs (by decide)).mono ?_; rintro e w1 ⟨x, rfl, hx, hb⟩; have hk2 := HK.out.1.keep hb; have hB2 := (HK.out.2.alloc (by simp <;> omega) _).trans (hb.mono (by simp <;> omega)); obtain ⟨A2, m2, c2, l2, rfl, hx⟩ := hx; have HV := Lib.hid (And.intro hx hB2); clear hx hb hB2; have hf2 := hk2.frozen 0; have hc2 := hk2.cell 0; have hz2 := hk2.lt; simp at hc2)
  refine bodyPost_ret (v := .agg #[.slice A2 m2 c2]) (by simp [results, Try.results25, go_sem, hk2.res1]) rfl ⟨_, rfl, ?_, HV.out.2.setCell (by simp; omega) _⟩
  have : IsNat _ w1 (.agg #[.slice A2 m2 c2]) (sumOf [N, M]) := ⟨A2, m2, c2, l2, rfl, HV.out.1⟩
  have h2 := (this.far (p := ⟨w.heap.size + 1 + 1, 0, none⟩) (u := .slice A2 m2 c2) (by simp)).mono (g' := w.heap.size) (by simp; omega)
  simpa [sumOf] using h2
end Go.Proofs.Ytehdbogiacmabaa
