/- InterKnown: the examples of the chapter; intervals about the bounds, with each other: true. A closed statement. -/
import Derived.Test.YtfepaalplceaaaaTellsHold
import Derived.Test.YtfepaalplceaaaaJoinsHold
import Derived.Test.YtfepaalplceaaaaLatticeHold
import Derived.Test.YtfepaalplceaaaaRegion
import Derived.Maps.AppendAt
import Derived.Deep.RegionHeld3
import Derived.OwnWalk
import Derived.Deep.AppendLies
namespace Go.Proofs.Ytfepaalplceaaaa
open Go.ChangeShapes Go.WideShapes Go.ChangeAt Go.RowKit Go.Joins
attribute [local go_sem] alloc_drewN setCell_drewN
def Bnd (p : Int × Int) : Prop := -9223372036854775808 ≤ p.1 ∧ p.2 ≤ 9223372036854775807
def cells2 (L : List (Int × Int)) : List Value := L.flatMap fun p => [.int .i64 p.1, .int .i64 p.2]
theorem cells2_len (L : List (Int × Int)) : (cells2 L).length = L.length * 2 := by
  induction L with
  | nil => rfl
  | cons p L ih => simp only [cells2, List.flatMap_cons, List.length_append, List.length_cons, List.length_nil] at ih ⊢; omega
theorem cells2_at : ∀ {L : List (Int × Int)} {i : Nat} {p : Int × Int}, L[i]? = some p → (cells2 L)[i * 2]? = some (.int .i64 p.1) ∧ (cells2 L)[i * 2 + 1]? = some (.int .i64 p.2)
  | [], i, p, h => by simp at h
  | q :: L, 0, p, h => by simp at h; subst h; exact ⟨rfl, rfl⟩
  | q :: L, i + 1, p, h => by
    have := cells2_at (L := L) (i := i) (p := p) (by simpa using h)
    have e : cells2 (q :: L) = .int .i64 q.1 :: .int .i64 q.2 :: cells2 L := rfl
    rw [e, show (i + 1) * 2 = i * 2 + 1 + 1 from by omega]
    simpa using this
theorem plainAdd (b off j : Nat) : (⟨b, off, none⟩ : Addr).add j = ⟨b, off + j, none⟩ := by
  unfold Addr.add; split
  · rename_i h; subst h; rfl
  · rfl
/-- All of a slice of n intervals, within the bounds. -/
structure Ivs (w : World) (g n : Nat) (L : List (Int × Int)) : Prop where
  rd : Rd w (some ⟨g, 0, none⟩) n L
  bd : ∀ p ∈ L, Bnd p
theorem Ivs.keep {w w' : World} {g n : Nat} {L : List (Int × Int)} (h : Ivs w g n L) (hb : Below w.heap.size w w') : Ivs w' g n L := ⟨h.rd.keep hb, h.bd⟩
theorem Ivs.cells {w : World} {g n q : Nat} {L : List (Int × Int)} (h : Ivs w g n L) (hq : q < n) : ∃ x y : Int, w.cell? ⟨g, q * 2, none⟩ = some (.int .i64 x) ∧ w.cell? ⟨g, q * 2 + 1, none⟩ = some (.int .i64 y) ∧ -9223372036854775808 ≤ x ∧ y ≤ 9223372036854775807 := by
  obtain ⟨b, off, e, _, hc⟩ := h.rd.2 (by omega)
  injection e with e
  injection e with e1 e2
  subst e1 e2
  have hp : L[q]? = some (L[q]'(by have := h.rd.1; omega)) := List.getElem?_eq_getElem _
  have h1 := hc q _ hp
  simp only [Nat.zero_add] at h1
  exact ⟨_, _, h1.1, h1.2, h.bd _ (List.mem_of_getElem? hp)⟩
def agS : StP := ⟨fun u _ => ∃ x y : Int, u = .agg #[.int .i64 x, .int .i64 y] ∧ -9223372036854775808 ≤ x ∧ y ≤ 9223372036854775807, fun _ _ _ _ h => h⟩
def rdS (n : Nat) : StP := ⟨fun u w => ∃ (A : Option Addr) (c : Nat) (l : List (Int × Int)), u = .slice A n c ∧ Rd w A n l ∧ ∀ q ∈ l, -9223372036854775808 ≤ q.1 ∧ q.2 ≤ 9223372036854775807, fun _ _ _ hb ⟨A, c, l, h1, h2, h3⟩ => ⟨A, c, l, h1, h2.keep hb, h3⟩⟩
theorem nat_eq {w : World} {a : Nat} {z : Int} (h : z = a) : (cst (.int .i64 (a : Int))).p (.int .i64 z) w := by
  show Value.int .i64 z = _
  rw [h]
/-- The six ends. -/
def Ends (w : World) (g : Nat) : Prop := g < w.heap.size ∧ ∀ q, q < 6 → ∃ z : Int, w.cell? ⟨g, q, none⟩ = some (.int .i64 z) ∧ -9223372036854775808 ≤ z ∧ z ≤ 9223372036854775807
theorem Ends.low {w w' : World} {g B : Nat} (h : Ends w g) (hg : g < B) (hb : Below B w w') : Ends w' g := by
  refine ⟨?_, fun q hq => ?_⟩
  · obtain ⟨z, h1, _⟩ := h.2 0 (by decide)
    exact World.block_lt_of_cell? _ _ ((hb.cell (p := ⟨g, 0, none⟩) hg).trans h1)
  · obtain ⟨z, h1, h2⟩ := h.2 q hq
    exact ⟨z, (hb.cell (p := ⟨g, q, none⟩) hg).trans h1, h2⟩
theorem Ends.keep {w w' : World} {g : Nat} (h : Ends w g) (hb : Below w.heap.size w w') : Ends w' g := h.low h.1 hb
theorem ends_new (w : World) : Ends (w.alloc (.cells #[.int .i64 (-9223372036854775808), .int .i64 (-9223372036854775807), .int .i64 (-1), .int .i64 0, .int .i64 1, .int .i64 9223372036854775807] 2)) w.heap.size := by
  refine ⟨by simp, fun q hq => ?_⟩
  have h := (Bk.new w 2 #[.int .i64 (-9223372036854775808), .int .i64 (-9223372036854775807), .int .i64 (-1), .int .i64 0, .int .i64 1, .int .i64 9223372036854775807]).cell q
  match q, hq with
  | 0, _ => exact ⟨_, h, by decide, by decide⟩
  | 1, _ => exact ⟨_, h, by decide, by decide⟩
  | 2, _ => exact ⟨_, h, by decide, by decide⟩
  | 3, _ => exact ⟨_, h, by decide, by decide⟩
  | 4, _ => exact ⟨_, h, by decide, by decide⟩
  | 5, _ => exact ⟨_, h, by decide, by decide⟩
theorem info24 : (Try.prog.info? 24).map (fun i => (i.zero.map (·.cells.size), i.size, i.bytes)) = some (some 2, 2, 16) := by kernel_rfl
theorem info24' : ∃ i z, Try.prog.info? 24 = some i ∧ i.zero = some z ∧ i.size = 2 ∧ i.bytes = 16 ∧ z.cells.size = 2 := by
  have h := info24
  cases hi : Try.prog.info? 24 with
  | none => rw [hi] at h; cases h
  | some i =>
    rw [hi] at h
    simp only [Option.map_some, Option.some.injEq, Prod.mk.injEq] at h
    obtain ⟨h1, h2, h3⟩ := h
    cases hz : i.zero with
    | none => rw [hz] at h1; cases h1
    | some z =>
      rw [hz] at h1
      exact ⟨i, z, rfl, hz, h2, h3, by simpa using h1⟩
theorem news_two (w : World) (x y : Int) : ∀ (j : Nat) (u : Value), ([.int .i64 x, .int .i64 y] : List Value)[j]? = some u → (w.alloc (.cells #[.int .i64 x, .int .i64 y] 24)).cell? ((⟨w.heap.size, 0, none⟩ : Addr).add j) = some u := by
  intro j u hu
  rw [plainAdd]
  have h := (Bk.new w 24 #[.int .i64 x, .int .i64 y]).cell j
  rw [Nat.zero_add, h, ← hu]
  simp
theorem ivs_of {w : World} {base g n c : Nat} {L : List (Int × Int)} (h : w.ownsRow base 24 2 (.slice (some ⟨g, 0, none⟩) n c) n (cells2 L)) (hn : 0 < n) (hL : L.length = n) (hb : ∀ p ∈ L, Bnd p) : Ivs w g n L := by
  refine ⟨⟨hL, fun _ => ?_⟩, hb⟩
  obtain ⟨g', cap, hv, _, hlt⟩ := h.form hn
  injection hv with hv
  injection hv with hv
  injection hv with hv
  subst hv
  refine ⟨g, 0, rfl, hlt, fun i p hp => ?_⟩
  have h2 := cells2_at hp
  have hc := h.cells (g := g) rfl
  have h3 := hc _ _ h2.1
  have h4 := hc _ _ h2.2
  rw [plainAdd] at h3 h4
  exact ⟨h3, h4⟩
theorem rd_cut {w : World} {g n c a m m' : Nat} {L : List (Int × Int)} (h : Ivs w g n L) (hc : n ≤ c) (hm : a + m ≤ n) (hm' : m' = m) : (rdS m).p (.slice (if c = a then some ⟨g, 0, none⟩ else some ⟨g, a * 2, none⟩) m' (c - a)) w := by
  subst hm'
  generalize m' = m at *
  have key : ∀ off, (c ≠ a → off = a * 2) → (c = a → m = 0) → (rdS m).p (.slice (some ⟨g, off, none⟩) m (c - a)) w := fun off h1 h2 => by
    refine ⟨_, _, (L.drop a).take m, rfl, ⟨by rw [List.length_take, List.length_drop, h.rd.1]; omega, fun hm0 => ?_⟩, fun q hq => h.bd q (List.mem_of_mem_drop (List.mem_of_mem_take hq))⟩
    have hca : c ≠ a := fun e => by have := h2 e; omega
    obtain ⟨b, o, e, hl, hcs⟩ := h.rd.2 (by omega)
    injection e with e
    injection e with e1 e2
    subst e1 e2
    refine ⟨g, off, rfl, hl, fun i p hp => ?_⟩
    rw [h1 hca]
    have hi : i < m := by
      have := (List.getElem?_eq_some_iff.1 hp).1
      rw [List.length_take] at this; omega
    rw [List.getElem?_take, if_pos hi, List.getElem?_drop] at hp
    have := hcs (a + i) p hp
    rw [Nat.zero_add, Nat.add_mul] at this
    exact this
  split
  · rename_i e; exact key 0 (fun e' => absurd e e') (fun _ => by omega)
  · rename_i e; exact key _ (fun _ => rfl) (fun e' => absurd e' e)
theorem one_two (x y : Int) : ∀ u ∈ ([.int .i64 x, .int .i64 y] : List Value), u.oneCell' = true := by
  intro u hu
  simp at hu
  rcases hu with rfl | rfl <;> rfl
theorem own_cap {w : World} {base g n c : Nat} {e : TypeId} {size : Nat} {xs : List Value} (h : w.ownsRow base e size (.slice (some ⟨g, 0, none⟩) n c) n xs) : n ≤ c := by
  rcases h.2 with ⟨h1, _⟩ | ⟨b, cap, cur, h1, _, _, h2, _⟩
  · cases h1
  · injection h1 with _ _ h1
    subst h1
    exact h2
set_option maxRecDepth 100000 in
set_option maxHeartbeats 16000000 in
theorem known_c (w : World) : Calls Try.prog 6 #[] w fun e w' => e = .returned (.bool true) ∧ Below w.heap.size w w' := by
  obtain ⟨i0, z0, hi0, hz0, hs0, hb0, hzc⟩ := info24'
  go_enter Try.func6, Try.ntmps6
  go_upto_region 4 with (first | (go_at_call 8; refine (least_c _).mono ?_; rintro e w1 ⟨rfl, hw⟩; have hw := hw.symm; subst hw) | (go_at_call 9; refine (most_c _).mono ?_; rintro e w1 ⟨rfl, hw⟩; have hw := hw.symm; subst hw))
  have HE0 := Lib.hid (And.intro (ends_new w) ((Below.refl w.heap.size w).alloc (Nat.le_refl _) (.cells #[.int .i64 (-9223372036854775808), .int .i64 (-9223372036854775807), .int .i64 (-1), .int .i64 0, .int .i64 1, .int .i64 9223372036854775807] 2)))
  obtain ⟨W, hW⟩ : ∃ W, W = w.alloc (.cells #[.int .i64 (-9223372036854775808), .int .i64 (-9223372036854775807), .int .i64 (-1), .int .i64 0, .int .i64 1, .int .i64 9223372036854775807] 2) := ⟨_, rfl⟩
  rw [← hW] at HE0 ⊢
  clear hW
  have HG0 := HE0.out.1.1
  go_wp2
  go_loopw [3, 5] (fun v s w1 => ∃ (i : Nat) (L : List (Int × Int)), s = .int .i64 i ∧ i ≤ 6 ∧ L.length = 6 * i ∧ (∀ p ∈ L, Bnd p) ∧ w1.ownsRow W.heap.size 24 2 v (6 * i) (cells2 L) ∧ Below W.heap.size W w1) (fun _ s _ => 6 - (intOf s).toNat)
  case atStart => exact ⟨0, [], rfl, by decide, rfl, (fun _ h => by cases h), World.ownsRow_nil _ _ _ _, Below.refl _ _⟩
  case round =>
    obtain ⟨i, L, rfl, hi, hL, hbd, ho, hB⟩ := hrel
    obtain ⟨w2, rfl⟩ : ∃ w2 : World, w2 = wr := ⟨_, rfl⟩
    have HX := Lib.hid (And.intro hL (And.intro hbd (And.intro ho hB)))
    clear hL hbd ho hB
    by_cases hi1 : i < 6
    · have gi : decide ((i : Int) < 6) = true := by simp <;> omega
      go_wp2
      go_loopw [3, 6] (fun v s w1 => ∃ (k : Nat) (L : List (Int × Int)), s = .int .i64 k ∧ k ≤ 6 ∧ L.length = 6 * i + k ∧ (∀ p ∈ L, Bnd p) ∧ w1.ownsRow W.heap.size 24 2 v (6 * i + k) (cells2 L) ∧ Below W.heap.size W w1) (fun _ s _ => 6 - (intOf s).toNat)
      case atStart => exact ⟨0, L, rfl, by decide, HX.out.1, HX.out.2.1, HX.out.2.2.1, HX.out.2.2.2⟩
      case round =>
        obtain ⟨k, L, rfl, hk, hL, hbd, ho, hB⟩ := hrel
        obtain ⟨w3, rfl⟩ : ∃ w3 : World, w3 = wr := ⟨_, rfl⟩
        by_cases hk1 : k < 6
        · have gk : decide ((k : Int) < 6) = true := by simp <;> omega
          have hEn := HE0.out.1.low HG0 hB
          obtain ⟨x, c1, hx⟩ := hEn.2 i hi1
          obtain ⟨y, c2, hy⟩ := hEn.2 k hk1
          have hii : (i : Int) < 6 := by omega
          have hkk : (k : Int) < 6 := by omega
          have HZ := Lib.hid (And.intro hL (And.intro hbd (And.intro ho (And.intro hB (And.intro hx hy)))))
          have hsz := hB.size
          clear hL hbd ho hB hx hy hEn
          go_upto_region 10 with fail
          go_region_held3 (fun w' => w'.cell? ⟨w.heap.size, i, none⟩ = some (.int .i64 x) ∧ w'.cell? ⟨w.heap.size, k, none⟩ = some (.int .i64 y)) (first | go_keep | exact ⟨d1, d2⟩)
            ((refine step_append_lies _ (by rfl) _ _ _ (by rfl) W.heap.size 24 i0 z0 2 16 Try.underlying22 hi0 hz0 hs0 hb0 hzc (by decide) _ (6 * i + k) (cells2 L) (by rfl) (World.ownsRow.alloc HZ.out.2.2.1 _) ⟨w3.heap.size, 0, none⟩ 1 1 [.int .i64 x, .int .i64 y] (by rfl) rfl (news_two _ x y) (one_two x y) (by decide) (by simp only [maxLen]; omega) (by omega) (by simp; omega) (w3.heap.size + 1) (by simp) ?_; intro g cap w5 hown hgrow hat hlt; have hB5 : Below W.heap.size W w5 := ((HZ.out.2.2.2.1.drew).alloc (by simpa using hsz) _).grown hgrow (by simp; omega) (fun q hq => (HZ.out.2.2.1.lt q hq).1); have d1 := (hB5.cell (p := ⟨w.heap.size, i, none⟩) HG0).trans (((HZ.out.2.2.2.1).cell (p := ⟨w.heap.size, i, none⟩) HG0).symm.trans c1); have d2 := (hB5.cell (p := ⟨w.heap.size, k, none⟩) HG0).trans (((HZ.out.2.2.2.1).cell (p := ⟨w.heap.size, k, none⟩) HG0).symm.trans c2); have HO := Lib.hid (And.intro hown hB5); clear hown hgrow hat hB5))
          go_wp2_with fail
          obtain ⟨hL, hbd, ho, hB, hx, hy⟩ := HZ.out
          obtain ⟨ho', hB5⟩ := HO.out
          go_roundw
          case rel => exact ⟨k + 1, L ++ [(x, y)], by go_num, by omega, by simp; omega, (fun p hp => by
            rcases List.mem_append.1 hp with hp | hp
            · exact hbd p hp
            · simp at hp; subst hp; exact ⟨hx.1, hy.2⟩), by simpa [cells2, Nat.add_assoc] using ho', hB5⟩
          case measure => simp [intOf] <;> omega
        · obtain rfl : k = 6 := by omega
          have gk : decide (((6 : Nat) : Int) < 6) = false := by decide
          have HZ := Lib.hid (And.intro hL (And.intro hbd (And.intro ho hB)))
          clear hL hbd ho hB
          go_wp2
          obtain ⟨hL, hbd, ho, hB⟩ := HZ.out
          go_roundw
          case rel => exact ⟨i + 1, L, by go_num, by omega, by omega, hbd, by rw [Nat.mul_add]; exact ho, hB⟩
          case measure => simp [intOf] <;> omega
    · obtain rfl : i = 6 := by omega
      have gi : decide (((6 : Nat) : Int) < 6) = false := by decide
      obtain ⟨hL, hbd, ho, hB⟩ := HX.out
      obtain ⟨g, cap, e, _, _⟩ := World.ownsRow.form ho (by decide)
      subst e
      have hcap : 36 ≤ cap := own_cap ho
      have HR0 := Lib.hid (And.intro (ivs_of ho (by decide) hL hbd) (And.intro hcap hB))
      clear HX hL hbd ho hB hcap
      go_wp2
      go_loopw [7] (fun s w1 => ∃ i : Nat, s = .int .i64 i ∧ i ≤ 36 ∧ Below w2.heap.size w2 w1) (fun s _ => 36 - (intOf s).toNat)
      case atStart => exact ⟨0, rfl, by decide, Below.refl _ _⟩
      case round =>
        obtain ⟨i, rfl, hi, hB⟩ := hrel
        obtain ⟨w3, rfl⟩ : ∃ w3 : World, w3 = wr := ⟨_, rfl⟩
        have HB3 := Lib.hid hB
        clear hB
        by_cases hi1 : i < 36
        · have gi : decide ((i : Int) < 36) = true := by simp <;> omega
          have HKI := Lib.hid hi1
          have hii : (i : Int) < 36 := by omega
          go_wp2
          go_loopw [8] (fun s w1 => ∃ k : Nat, s = .int .i64 k ∧ k ≤ 36 ∧ Below w2.heap.size w2 w1) (fun s _ => 36 - (intOf s).toNat)
          case atStart => exact ⟨0, rfl, by decide, HB3.out⟩
          case round =>
            obtain ⟨k, rfl, hk, hB⟩ := hrel
            obtain ⟨w4, rfl⟩ : ∃ w4 : World, w4 = wr := ⟨_, rfl⟩
            have HB4 := Lib.hid hB
            clear hB
            by_cases hk1 : k < 36
            · have gk : decide ((k : Int) < 36) = true := by simp <;> omega
              have HKK := Lib.hid hk1
              have hkk : (k : Int) < 36 := by omega
              have hEn := (HE0.out.1.low HG0 HR0.out.2.2).keep HB4.out
              obtain ⟨z, cz, hz⟩ := hEn.2 ((i + k) % 6) (by omega)
              have HZ := Lib.hid hz
              clear hz hEn
              have HR := Lib.hid (And.intro (HR0.out.1.keep HB4.out) HR0.out.2.1)
              go_upto_region 18 with fail
              refine wp_region_walk [0, 1, 2, 3, 4, 5, 6, 7, 8, 9, 10, 11, 12, 13, 14, 15, 16, 17, 18, 19, 20, 21, 22, 23, 24, 25, 26, 27, 28, 29, 30, 31, 32, 33, 34, 35, 36, 37, 38, 39, 40, 41, 42, 43, 44, 45, 46, 47, 48, 49, 50, 51, 52, 53, 54, 55, 56, 57, 58, 59] [56, 57, 58, 59, 60, 61, 62, 63, 64, 65, 66, 67, 68, 69, 70, 71, 72, 73, 74, 75, 76, 77, 78, 79, 80, 81, 82, 83, 84, 85, 86, 87, 88, 89, 90, 91, 92, 93, 94, 95, 96, 97, 98, 99, 100, 101, 102, 103, 104, 105, 106, 107, 108, 109, 110, 111, 112, 113, 114, 115] 0 (by kernel_rfl) (by kernel_rfl) (by kernel_rfl) rfl (by simp) (by kernel_rfl) (by kernel_rfl) ?_
              apply RegW.val 0 rfl
              · intro a w' hF hB hd; have e3 := hF.2.2 3 (by decide); simp at e3; clear hd hF; refine wpOp_step rfl (fun K' hK => ?_); go_simp; exact hK _ _ ⟨_, rfl, Below.refl _ _, cst_ok⟩
              apply RegW.val 1 rfl
              · intro a w' hF hB hd; have e7 := hF.2.2 7 (by decide); simp at e7; clear hd hF; refine wpOp_step rfl (fun K' hK => ?_); go_simp; exact hK _ _ ⟨_, rfl, Below.refl _ _, cst_ok⟩
              apply RegW.val 2 rfl
              · intro a w' hF hB hd; have v0 : a.tmps[56]?.getD undef = _ := hd 0 (of_decide_eq_true (by kernel_rfl)) 1 _ _ rfl rfl; have v1 : a.tmps[57]?.getD undef = _ := hd 1 (of_decide_eq_true (by kernel_rfl)) 0 _ _ rfl rfl; clear hd hF; refine wpOp_step rfl (fun K' hK => ?_); go_simp; exact hK _ _ ⟨_, rfl, Below.refl _ _, cst_ok⟩
              refine RegW.op 3 rfl agS ?_ ?_
              · intro a w' hF hB hd; have v2 : a.tmps[58]?.getD undef = _ := hd 2 (of_decide_eq_true (by kernel_rfl)) 0 _ _ rfl rfl; clear hd hF; obtain ⟨x0, y0, k0, k1, k2⟩ := (HR.out.1.keep hB).cells HKI.out; refine wpOp_step rfl (fun K' hK => ?_); go_simp; exact hK _ _ ⟨_, rfl, Below.refl _ _, ⟨x0, y0, rfl, k2⟩⟩
              apply RegW.val 4 rfl
              · intro a w' hF hB hd; have e3 := hF.2.2 3 (by decide); simp at e3; clear hd hF; refine wpOp_step rfl (fun K' hK => ?_); go_simp; exact hK _ _ ⟨_, rfl, Below.refl _ _, cst_ok⟩
              apply RegW.val 5 rfl
              · intro a w' hF hB hd; have e8 := hF.2.2 8 (by decide); simp at e8; clear hd hF; refine wpOp_step rfl (fun K' hK => ?_); go_simp; exact hK _ _ ⟨_, rfl, Below.refl _ _, cst_ok⟩
              apply RegW.val 6 rfl
              · intro a w' hF hB hd; have v4 : a.tmps[60]?.getD undef = _ := hd 4 (of_decide_eq_true (by kernel_rfl)) 1 _ _ rfl rfl; have v5 : a.tmps[61]?.getD undef = _ := hd 5 (of_decide_eq_true (by kernel_rfl)) 0 _ _ rfl rfl; clear hd hF; refine wpOp_step rfl (fun K' hK => ?_); go_simp; exact hK _ _ ⟨_, rfl, Below.refl _ _, cst_ok⟩
              refine RegW.op 7 rfl agS ?_ ?_
              · intro a w' hF hB hd; have v6 : a.tmps[62]?.getD undef = _ := hd 6 (of_decide_eq_true (by kernel_rfl)) 0 _ _ rfl rfl; clear hd hF; obtain ⟨x0, y0, k0, k1, k2⟩ := (HR.out.1.keep hB).cells HKK.out; refine wpOp_step rfl (fun K' hK => ?_); go_simp; exact hK _ _ ⟨_, rfl, Below.refl _ _, ⟨x0, y0, rfl, k2⟩⟩
              apply RegW.val 8 rfl
              · intro a w' hF hB hd; have e9 := hF.2.2 9 (by decide); simp at e9; clear hd hF; refine wpOp_step rfl (fun K' hK => ?_); go_simp; exact hK _ _ ⟨_, rfl, Below.refl _ _, cst_ok⟩
              apply RegW.val 9 rfl
              · intro a w' hF hB hd; have u3 := hd 3 (of_decide_eq_true (by kernel_rfl)) 5 _ _ rfl rfl; obtain ⟨x3, y3, p3, h3⟩ := u3; have u7 := hd 7 (of_decide_eq_true (by kernel_rfl)) 1 _ _ rfl rfl; obtain ⟨x7, y7, p7, h7⟩ := u7; have v8 : a.tmps[64]?.getD undef = _ := hd 8 (of_decide_eq_true (by kernel_rfl)) 0 _ _ rfl rfl; clear hd hF; refine wpOp_step rfl (fun K' hK => ?_); go_simp; refine (tells_c x3 y3 x7 y7 _ _ h3).mono ?_; rintro e w1 ⟨rfl, hb⟩; exact hK _ _ ⟨_, rfl, hb, cst_ok⟩
              apply RegW.val 10 rfl
              · intro a w' hF hB hd; have v9 : a.tmps[65]?.getD undef = _ := hd 9 (of_decide_eq_true (by kernel_rfl)) 0 _ _ rfl rfl; clear hd hF; refine wpOp_step rfl (fun K' hK => ?_); go_simp; exact hK _ _ ⟨_, rfl, Below.refl _ _, cst_ok⟩
              apply RegW.val 11 rfl
              · intro a w' hF hB hd; have v10 : a.tmps[66]?.getD undef = _ := hd 10 (of_decide_eq_true (by kernel_rfl)) 0 _ _ rfl rfl; clear hd hF; refine wpOp_step rfl (fun K' hK => ?_); go_simp; exact hK _ _ ⟨_, rfl, Below.refl _ _, cst_ok⟩
              apply RegW.val 12 rfl
              · intro a w' hF hB hd; have v11 : a.tmps[67]?.getD undef = _ := hd 11 (of_decide_eq_true (by kernel_rfl)) 0 _ _ rfl rfl; have gd := tmp_bool v11; have e3 := hF.2.2 3 (by decide); simp at e3; clear hd hF; refine wpOp_step rfl (fun K' hK => ?_); go_simp; exact hK _ _ ⟨_, rfl, Below.refl _ _, cst_ok⟩
              apply RegW.val 13 rfl
              · intro a w' hF hB hd; have v11 : a.tmps[67]?.getD undef = _ := hd 11 (of_decide_eq_true (by kernel_rfl)) 1 _ _ rfl rfl; have gd := tmp_bool v11; have e7 := hF.2.2 7 (by decide); simp at e7; clear hd hF; refine wpOp_step rfl (fun K' hK => ?_); go_simp; exact hK _ _ ⟨_, rfl, Below.refl _ _, cst_ok⟩
              refine RegW.op 14 rfl (cst (.int .i64 ((i % 30 : Nat) : Int))) ?_ ?_
              · intro a w' hF hB hd; have v11 : a.tmps[67]?.getD undef = _ := hd 11 (of_decide_eq_true (by kernel_rfl)) 2 _ _ rfl rfl; have v13 : a.tmps[69]?.getD undef = _ := hd 13 (of_decide_eq_true (by kernel_rfl)) 0 _ _ rfl rfl; have gd := tmp_bool v11; clear hd hF; refine wpOp_step rfl (fun K' hK => ?_); go_simp; exact hK _ _ ⟨_, rfl, Below.refl _ _, nat_eq (by first | rfl | (simp; done) | (rw [IntWalk.i64_in _ (by omega)]; omega) | omega)⟩
              apply RegW.val 15 rfl
              · intro a w' hF hB hd; have v11 : a.tmps[67]?.getD undef = _ := hd 11 (of_decide_eq_true (by kernel_rfl)) 3 _ _ rfl rfl; have gd := tmp_bool v11; have e7 := hF.2.2 7 (by decide); simp at e7; clear hd hF; refine wpOp_step rfl (fun K' hK => ?_); go_simp; exact hK _ _ ⟨_, rfl, Below.refl _ _, cst_ok⟩
              refine RegW.op 16 rfl (cst (.int .i64 ((i % 30 : Nat) : Int))) ?_ ?_
              · intro a w' hF hB hd; have v11 : a.tmps[67]?.getD undef = _ := hd 11 (of_decide_eq_true (by kernel_rfl)) 4 _ _ rfl rfl; have v15 : a.tmps[71]?.getD undef = _ := hd 15 (of_decide_eq_true (by kernel_rfl)) 0 _ _ rfl rfl; have gd := tmp_bool v11; clear hd hF; refine wpOp_step rfl (fun K' hK => ?_); go_simp; exact hK _ _ ⟨_, rfl, Below.refl _ _, nat_eq (by first | rfl | (simp; done) | (rw [IntWalk.i64_in _ (by omega)]; omega) | omega)⟩
              apply RegW.val 17 rfl
              · intro a w' hF hB hd; have v11 : a.tmps[67]?.getD undef = _ := hd 11 (of_decide_eq_true (by kernel_rfl)) 5 _ _ rfl rfl; have gd := tmp_bool v11; have e8 := hF.2.2 8 (by decide); simp at e8; clear hd hF; refine wpOp_step rfl (fun K' hK => ?_); go_simp; exact hK _ _ ⟨_, rfl, Below.refl _ _, cst_ok⟩
              refine RegW.op 18 rfl (cst (.int .i64 ((k % 6 : Nat) : Int))) ?_ ?_
              · intro a w' hF hB hd; have v11 : a.tmps[67]?.getD undef = _ := hd 11 (of_decide_eq_true (by kernel_rfl)) 6 _ _ rfl rfl; have v17 : a.tmps[73]?.getD undef = _ := hd 17 (of_decide_eq_true (by kernel_rfl)) 0 _ _ rfl rfl; have gd := tmp_bool v11; clear hd hF; refine wpOp_step rfl (fun K' hK => ?_); go_simp; exact hK _ _ ⟨_, rfl, Below.refl _ _, nat_eq (by first | rfl | (simp; done) | (rw [IntWalk.i64_in _ (by omega)]; omega) | omega)⟩
              refine RegW.op 19 rfl (cst (.int .i64 ((i % 30 + k % 6 : Nat) : Int))) ?_ ?_
              · intro a w' hF hB hd; have v11 : a.tmps[67]?.getD undef = _ := hd 11 (of_decide_eq_true (by kernel_rfl)) 7 _ _ rfl rfl; have v16 : a.tmps[72]?.getD undef = _ := hd 16 (of_decide_eq_true (by kernel_rfl)) 2 _ _ rfl rfl; have v18 : a.tmps[74]?.getD undef = _ := hd 18 (of_decide_eq_true (by kernel_rfl)) 0 _ _ rfl rfl; have gd := tmp_bool v11; clear hd hF; refine wpOp_step rfl (fun K' hK => ?_); go_simp; exact hK _ _ ⟨_, rfl, Below.refl _ _, nat_eq (by first | rfl | (simp; done) | (rw [IntWalk.i64_in _ (by omega)]; omega) | omega)⟩
              refine RegW.op 20 rfl (rdS (k % 6)) ?_ ?_
              · intro a w' hF hB hd; have v11 : a.tmps[67]?.getD undef = _ := hd 11 (of_decide_eq_true (by kernel_rfl)) 8 _ _ rfl rfl; have v12 : a.tmps[68]?.getD undef = _ := hd 12 (of_decide_eq_true (by kernel_rfl)) 7 _ _ rfl rfl; have v14 : a.tmps[70]?.getD undef = _ := hd 14 (of_decide_eq_true (by kernel_rfl)) 5 _ _ rfl rfl; have v19 : a.tmps[75]?.getD undef = _ := hd 19 (of_decide_eq_true (by kernel_rfl)) 0 _ _ rfl rfl; have gd := tmp_bool v11; clear hd hF; have hcap := HR.out.2; have f1 : 0 ≤ (i : Int) % 30 + (k : Int) % 6 := (by omega); have f2 : (i : Int) % 30 + (k : Int) % 6 ≤ (cap : Int) := (by omega); have f3 : 0 ≤ (i : Int) % 30 := (by omega); have f4 : (i : Int) % 30 ≤ max ((i : Int) % 30 + (k : Int) % 6) 0 := (by omega); have f7 : (i : Int) % 30 ≤ (i : Int) % 30 + (k : Int) % 6 := (by omega); have f5 : ((i : Int) % 30).toNat = i % 30 := (by omega); have f6 : ((i : Int) % 30 + (k : Int) % 6).toNat = i % 30 + k % 6 := (by omega); refine wpOp_step rfl (fun K' hK => ?_); go_simp; exact hK _ _ ⟨_, rfl, Below.refl _ _, rd_cut (a := i % 30) (m := (k % 6)) (m' := (k % 6)) (HR.out.1.keep hB) hcap (by omega) rfl⟩
              apply RegW.val 21 rfl
              · intro a w' hF hB hd; have v11 : a.tmps[67]?.getD undef = _ := hd 11 (of_decide_eq_true (by kernel_rfl)) 9 _ _ rfl rfl; have gd := tmp_bool v11; have e3 := hF.2.2 3 (by decide); simp at e3; clear hd hF; refine wpOp_step rfl (fun K' hK => ?_); go_simp; exact hK _ _ ⟨_, rfl, Below.refl _ _, cst_ok⟩
              apply RegW.val 22 rfl
              · intro a w' hF hB hd; have v11 : a.tmps[67]?.getD undef = _ := hd 11 (of_decide_eq_true (by kernel_rfl)) 10 _ _ rfl rfl; have gd := tmp_bool v11; have e7 := hF.2.2 7 (by decide); simp at e7; clear hd hF; refine wpOp_step rfl (fun K' hK => ?_); go_simp; exact hK _ _ ⟨_, rfl, Below.refl _ _, cst_ok⟩
              apply RegW.val 23 rfl
              · intro a w' hF hB hd; have v11 : a.tmps[67]?.getD undef = _ := hd 11 (of_decide_eq_true (by kernel_rfl)) 11 _ _ rfl rfl; have v21 : a.tmps[77]?.getD undef = _ := hd 21 (of_decide_eq_true (by kernel_rfl)) 1 _ _ rfl rfl; have v22 : a.tmps[78]?.getD undef = _ := hd 22 (of_decide_eq_true (by kernel_rfl)) 0 _ _ rfl rfl; have gd := tmp_bool v11; clear hd hF; refine wpOp_step rfl (fun K' hK => ?_); go_simp; exact hK _ _ ⟨_, rfl, Below.refl _ _, cst_ok⟩
              refine RegW.op 24 rfl agS ?_ ?_
              · intro a w' hF hB hd; have v11 : a.tmps[67]?.getD undef = _ := hd 11 (of_decide_eq_true (by kernel_rfl)) 12 _ _ rfl rfl; have v23 : a.tmps[79]?.getD undef = _ := hd 23 (of_decide_eq_true (by kernel_rfl)) 0 _ _ rfl rfl; have gd := tmp_bool v11; clear hd hF; obtain ⟨x0, y0, k0, k1, k2⟩ := (HR.out.1.keep hB).cells HKI.out; refine wpOp_step rfl (fun K' hK => ?_); go_simp; exact hK _ _ ⟨_, rfl, Below.refl _ _, ⟨x0, y0, rfl, k2⟩⟩
              apply RegW.val 25 rfl
              · intro a w' hF hB hd; have v11 : a.tmps[67]?.getD undef = _ := hd 11 (of_decide_eq_true (by kernel_rfl)) 13 _ _ rfl rfl; have gd := tmp_bool v11; have e3 := hF.2.2 3 (by decide); simp at e3; clear hd hF; refine wpOp_step rfl (fun K' hK => ?_); go_simp; exact hK _ _ ⟨_, rfl, Below.refl _ _, cst_ok⟩
              apply RegW.val 26 rfl
              · intro a w' hF hB hd; have v11 : a.tmps[67]?.getD undef = _ := hd 11 (of_decide_eq_true (by kernel_rfl)) 14 _ _ rfl rfl; have gd := tmp_bool v11; have e8 := hF.2.2 8 (by decide); simp at e8; clear hd hF; refine wpOp_step rfl (fun K' hK => ?_); go_simp; exact hK _ _ ⟨_, rfl, Below.refl _ _, cst_ok⟩
              apply RegW.val 27 rfl
              · intro a w' hF hB hd; have v11 : a.tmps[67]?.getD undef = _ := hd 11 (of_decide_eq_true (by kernel_rfl)) 15 _ _ rfl rfl; have v25 : a.tmps[81]?.getD undef = _ := hd 25 (of_decide_eq_true (by kernel_rfl)) 1 _ _ rfl rfl; have v26 : a.tmps[82]?.getD undef = _ := hd 26 (of_decide_eq_true (by kernel_rfl)) 0 _ _ rfl rfl; have gd := tmp_bool v11; clear hd hF; refine wpOp_step rfl (fun K' hK => ?_); go_simp; exact hK _ _ ⟨_, rfl, Below.refl _ _, cst_ok⟩
              refine RegW.op 28 rfl agS ?_ ?_
              · intro a w' hF hB hd; have v11 : a.tmps[67]?.getD undef = _ := hd 11 (of_decide_eq_true (by kernel_rfl)) 16 _ _ rfl rfl; have v27 : a.tmps[83]?.getD undef = _ := hd 27 (of_decide_eq_true (by kernel_rfl)) 0 _ _ rfl rfl; have gd := tmp_bool v11; clear hd hF; obtain ⟨x0, y0, k0, k1, k2⟩ := (HR.out.1.keep hB).cells HKK.out; refine wpOp_step rfl (fun K' hK => ?_); go_simp; exact hK _ _ ⟨_, rfl, Below.refl _ _, ⟨x0, y0, rfl, k2⟩⟩
              apply RegW.val 29 rfl
              · intro a w' hF hB hd; have v11 : a.tmps[67]?.getD undef = _ := hd 11 (of_decide_eq_true (by kernel_rfl)) 17 _ _ rfl rfl; have u20 := hd 20 (of_decide_eq_true (by kernel_rfl)) 8 _ _ rfl rfl; obtain ⟨A20, c20, l20, p20, r20, h20⟩ := u20; have u24 := hd 24 (of_decide_eq_true (by kernel_rfl)) 4 _ _ rfl rfl; obtain ⟨x24, y24, p24, h24⟩ := u24; have u28 := hd 28 (of_decide_eq_true (by kernel_rfl)) 0 _ _ rfl rfl; obtain ⟨x28, y28, p28, h28⟩ := u28; have gd := tmp_bool v11; clear hd hF; refine wpOp_step rfl (fun K' hK => ?_); go_simp; refine (joins_any A20 (k % 6) c20 l20 x24 y24 x28 y28 _ r20 (by unfold maxLen; omega)).mono ?_; rintro e w1 ⟨rfl, hb⟩; exact hK _ _ ⟨_, rfl, hb, cst_ok⟩
              apply RegW.val 30 rfl
              · intro a w' hF hB hd; have v11 : a.tmps[67]?.getD undef = _ := hd 11 (of_decide_eq_true (by kernel_rfl)) 18 _ _ rfl rfl; have v29 : a.tmps[85]?.getD undef = _ := hd 29 (of_decide_eq_true (by kernel_rfl)) 0 _ _ rfl rfl; have gd := tmp_bool v11; clear hd hF; refine wpOp_step rfl (fun K' hK => ?_); go_simp; exact hK _ _ ⟨_, rfl, Below.refl _ _, cst_ok⟩
              apply RegW.val 31 rfl
              · intro a w' hF hB hd; have v11 : a.tmps[67]?.getD undef = _ := hd 11 (of_decide_eq_true (by kernel_rfl)) 19 _ _ rfl rfl; have v30 : a.tmps[86]?.getD undef = _ := hd 30 (of_decide_eq_true (by kernel_rfl)) 0 _ _ rfl rfl; clear hd hF; refine wpOp_step rfl (fun K' hK => ?_); go_simp; exact hK _ _ ⟨_, rfl, Below.refl _ _, cst_ok⟩
              apply RegW.val 32 rfl
              · intro a w' hF hB hd; have v31 : a.tmps[87]?.getD undef = _ := hd 31 (of_decide_eq_true (by kernel_rfl)) 0 _ _ rfl rfl; clear hd hF; refine wpOp_step rfl (fun K' hK => ?_); go_simp; exact hK _ _ ⟨_, rfl, Below.refl _ _, cst_ok⟩
              apply RegW.val 33 rfl
              · intro a w' hF hB hd; have v32 : a.tmps[88]?.getD undef = _ := hd 32 (of_decide_eq_true (by kernel_rfl)) 0 _ _ rfl rfl; have gd := tmp_bool v32; have e3 := hF.2.2 3 (by decide); simp at e3; clear hd hF; refine wpOp_step rfl (fun K' hK => ?_); go_simp; exact hK _ _ ⟨_, rfl, Below.refl _ _, cst_ok⟩
              apply RegW.val 34 rfl
              · intro a w' hF hB hd; have v32 : a.tmps[88]?.getD undef = _ := hd 32 (of_decide_eq_true (by kernel_rfl)) 1 _ _ rfl rfl; have gd := tmp_bool v32; have e7 := hF.2.2 7 (by decide); simp at e7; clear hd hF; refine wpOp_step rfl (fun K' hK => ?_); go_simp; exact hK _ _ ⟨_, rfl, Below.refl _ _, cst_ok⟩
              apply RegW.val 35 rfl
              · intro a w' hF hB hd; have v32 : a.tmps[88]?.getD undef = _ := hd 32 (of_decide_eq_true (by kernel_rfl)) 2 _ _ rfl rfl; have v33 : a.tmps[89]?.getD undef = _ := hd 33 (of_decide_eq_true (by kernel_rfl)) 1 _ _ rfl rfl; have v34 : a.tmps[90]?.getD undef = _ := hd 34 (of_decide_eq_true (by kernel_rfl)) 0 _ _ rfl rfl; have gd := tmp_bool v32; clear hd hF; refine wpOp_step rfl (fun K' hK => ?_); go_simp; exact hK _ _ ⟨_, rfl, Below.refl _ _, cst_ok⟩
              refine RegW.op 36 rfl agS ?_ ?_
              · intro a w' hF hB hd; have v32 : a.tmps[88]?.getD undef = _ := hd 32 (of_decide_eq_true (by kernel_rfl)) 3 _ _ rfl rfl; have v35 : a.tmps[91]?.getD undef = _ := hd 35 (of_decide_eq_true (by kernel_rfl)) 0 _ _ rfl rfl; have gd := tmp_bool v32; clear hd hF; obtain ⟨x0, y0, k0, k1, k2⟩ := (HR.out.1.keep hB).cells HKI.out; refine wpOp_step rfl (fun K' hK => ?_); go_simp; exact hK _ _ ⟨_, rfl, Below.refl _ _, ⟨x0, y0, rfl, k2⟩⟩
              apply RegW.val 37 rfl
              · intro a w' hF hB hd; have v32 : a.tmps[88]?.getD undef = _ := hd 32 (of_decide_eq_true (by kernel_rfl)) 4 _ _ rfl rfl; have gd := tmp_bool v32; have e3 := hF.2.2 3 (by decide); simp at e3; clear hd hF; refine wpOp_step rfl (fun K' hK => ?_); go_simp; exact hK _ _ ⟨_, rfl, Below.refl _ _, cst_ok⟩
              apply RegW.val 38 rfl
              · intro a w' hF hB hd; have v32 : a.tmps[88]?.getD undef = _ := hd 32 (of_decide_eq_true (by kernel_rfl)) 5 _ _ rfl rfl; have gd := tmp_bool v32; have e8 := hF.2.2 8 (by decide); simp at e8; clear hd hF; refine wpOp_step rfl (fun K' hK => ?_); go_simp; exact hK _ _ ⟨_, rfl, Below.refl _ _, cst_ok⟩
              apply RegW.val 39 rfl
              · intro a w' hF hB hd; have v32 : a.tmps[88]?.getD undef = _ := hd 32 (of_decide_eq_true (by kernel_rfl)) 6 _ _ rfl rfl; have v37 : a.tmps[93]?.getD undef = _ := hd 37 (of_decide_eq_true (by kernel_rfl)) 1 _ _ rfl rfl; have v38 : a.tmps[94]?.getD undef = _ := hd 38 (of_decide_eq_true (by kernel_rfl)) 0 _ _ rfl rfl; have gd := tmp_bool v32; clear hd hF; refine wpOp_step rfl (fun K' hK => ?_); go_simp; exact hK _ _ ⟨_, rfl, Below.refl _ _, cst_ok⟩
              refine RegW.op 40 rfl agS ?_ ?_
              · intro a w' hF hB hd; have v32 : a.tmps[88]?.getD undef = _ := hd 32 (of_decide_eq_true (by kernel_rfl)) 7 _ _ rfl rfl; have v39 : a.tmps[95]?.getD undef = _ := hd 39 (of_decide_eq_true (by kernel_rfl)) 0 _ _ rfl rfl; have gd := tmp_bool v32; clear hd hF; obtain ⟨x0, y0, k0, k1, k2⟩ := (HR.out.1.keep hB).cells HKK.out; refine wpOp_step rfl (fun K' hK => ?_); go_simp; exact hK _ _ ⟨_, rfl, Below.refl _ _, ⟨x0, y0, rfl, k2⟩⟩
              apply RegW.val 41 rfl
              · intro a w' hF hB hd; have v32 : a.tmps[88]?.getD undef = _ := hd 32 (of_decide_eq_true (by kernel_rfl)) 8 _ _ rfl rfl; have gd := tmp_bool v32; have e3 := hF.2.2 3 (by decide); simp at e3; clear hd hF; refine wpOp_step rfl (fun K' hK => ?_); go_simp; exact hK _ _ ⟨_, rfl, Below.refl _ _, cst_ok⟩
              apply RegW.val 42 rfl
              · intro a w' hF hB hd; have v32 : a.tmps[88]?.getD undef = _ := hd 32 (of_decide_eq_true (by kernel_rfl)) 9 _ _ rfl rfl; have gd := tmp_bool v32; have e7 := hF.2.2 7 (by decide); simp at e7; clear hd hF; refine wpOp_step rfl (fun K' hK => ?_); go_simp; exact hK _ _ ⟨_, rfl, Below.refl _ _, cst_ok⟩
              refine RegW.op 43 rfl (cst (.int .i64 ((i * 5 : Nat) : Int))) ?_ ?_
              · intro a w' hF hB hd; have v32 : a.tmps[88]?.getD undef = _ := hd 32 (of_decide_eq_true (by kernel_rfl)) 10 _ _ rfl rfl; have v42 : a.tmps[98]?.getD undef = _ := hd 42 (of_decide_eq_true (by kernel_rfl)) 0 _ _ rfl rfl; have gd := tmp_bool v32; clear hd hF; refine wpOp_step rfl (fun K' hK => ?_); go_simp; exact hK _ _ ⟨_, rfl, Below.refl _ _, nat_eq (by first | rfl | (simp; done) | (rw [IntWalk.i64_in _ (by omega)]; omega) | omega)⟩
              apply RegW.val 44 rfl
              · intro a w' hF hB hd; have v32 : a.tmps[88]?.getD undef = _ := hd 32 (of_decide_eq_true (by kernel_rfl)) 11 _ _ rfl rfl; have gd := tmp_bool v32; have e8 := hF.2.2 8 (by decide); simp at e8; clear hd hF; refine wpOp_step rfl (fun K' hK => ?_); go_simp; exact hK _ _ ⟨_, rfl, Below.refl _ _, cst_ok⟩
              refine RegW.op 45 rfl (cst (.int .i64 ((i * 5 + k : Nat) : Int))) ?_ ?_
              · intro a w' hF hB hd; have v32 : a.tmps[88]?.getD undef = _ := hd 32 (of_decide_eq_true (by kernel_rfl)) 12 _ _ rfl rfl; have v43 : a.tmps[99]?.getD undef = _ := hd 43 (of_decide_eq_true (by kernel_rfl)) 1 _ _ rfl rfl; have v44 : a.tmps[100]?.getD undef = _ := hd 44 (of_decide_eq_true (by kernel_rfl)) 0 _ _ rfl rfl; have gd := tmp_bool v32; clear hd hF; refine wpOp_step rfl (fun K' hK => ?_); go_simp; exact hK _ _ ⟨_, rfl, Below.refl _ _, nat_eq (by first | rfl | (simp; done) | (rw [IntWalk.i64_in _ (by omega)]; omega) | omega)⟩
              refine RegW.op 46 rfl (cst (.int .i64 (((i * 5 + k) % 36 : Nat) : Int))) ?_ ?_
              · intro a w' hF hB hd; have v32 : a.tmps[88]?.getD undef = _ := hd 32 (of_decide_eq_true (by kernel_rfl)) 13 _ _ rfl rfl; have v45 : a.tmps[101]?.getD undef = _ := hd 45 (of_decide_eq_true (by kernel_rfl)) 0 _ _ rfl rfl; have gd := tmp_bool v32; clear hd hF; refine wpOp_step rfl (fun K' hK => ?_); go_simp; exact hK _ _ ⟨_, rfl, Below.refl _ _, nat_eq (by first | rfl | (simp; done) | (rw [IntWalk.i64_in _ (by omega)]; omega) | omega)⟩
              apply RegW.val 47 rfl
              · intro a w' hF hB hd; have v32 : a.tmps[88]?.getD undef = _ := hd 32 (of_decide_eq_true (by kernel_rfl)) 14 _ _ rfl rfl; have v41 : a.tmps[97]?.getD undef = _ := hd 41 (of_decide_eq_true (by kernel_rfl)) 5 _ _ rfl rfl; have v46 : a.tmps[102]?.getD undef = _ := hd 46 (of_decide_eq_true (by kernel_rfl)) 0 _ _ rfl rfl; have gd := tmp_bool v32; clear hd hF; have e1 : 0 ≤ ((i : Int) * 5 + k) % 36 := (by omega); have e2 : ((i : Int) * 5 + k) % 36 < 36 := (by omega); have e3 : (((i : Int) * 5 + k) % 36).toNat = (i * 5 + k) % 36 := (by omega); refine wpOp_step rfl (fun K' hK => ?_); go_simp; exact hK _ _ ⟨_, rfl, Below.refl _ _, cst_ok⟩
              refine RegW.op 48 rfl agS ?_ ?_
              · intro a w' hF hB hd; have v32 : a.tmps[88]?.getD undef = _ := hd 32 (of_decide_eq_true (by kernel_rfl)) 15 _ _ rfl rfl; have v47 : a.tmps[103]?.getD undef = _ := hd 47 (of_decide_eq_true (by kernel_rfl)) 0 _ _ rfl rfl; have gd := tmp_bool v32; clear hd hF; obtain ⟨x0, y0, k0, k1, k2⟩ := (HR.out.1.keep hB).cells (show (i * 5 + k) % 36 < 36 by omega); refine wpOp_step rfl (fun K' hK => ?_); go_simp; exact hK _ _ ⟨_, rfl, Below.refl _ _, ⟨x0, y0, rfl, k2⟩⟩
              apply RegW.val 49 rfl
              · intro a w' hF hB hd; have v32 : a.tmps[88]?.getD undef = _ := hd 32 (of_decide_eq_true (by kernel_rfl)) 16 _ _ rfl rfl; have gd := tmp_bool v32; have e9 := hF.2.2 9 (by decide); simp at e9; clear hd hF; refine wpOp_step rfl (fun K' hK => ?_); go_simp; exact hK _ _ ⟨_, rfl, Below.refl _ _, cst_ok⟩
              apply RegW.val 50 rfl
              · intro a w' hF hB hd; have v32 : a.tmps[88]?.getD undef = _ := hd 32 (of_decide_eq_true (by kernel_rfl)) 17 _ _ rfl rfl; have gd := tmp_bool v32; have e3 := hF.2.2 3 (by decide); simp at e3; clear hd hF; refine wpOp_step rfl (fun K' hK => ?_); go_simp; exact hK _ _ ⟨_, rfl, Below.refl _ _, cst_ok⟩
              apply RegW.val 51 rfl
              · intro a w' hF hB hd; have v32 : a.tmps[88]?.getD undef = _ := hd 32 (of_decide_eq_true (by kernel_rfl)) 18 _ _ rfl rfl; have gd := tmp_bool v32; have e8 := hF.2.2 8 (by decide); simp at e8; clear hd hF; refine wpOp_step rfl (fun K' hK => ?_); go_simp; exact hK _ _ ⟨_, rfl, Below.refl _ _, cst_ok⟩
              refine RegW.op 52 rfl (cst (.int .i64 ((k % 20 : Nat) : Int))) ?_ ?_
              · intro a w' hF hB hd; have v32 : a.tmps[88]?.getD undef = _ := hd 32 (of_decide_eq_true (by kernel_rfl)) 19 _ _ rfl rfl; have v51 : a.tmps[107]?.getD undef = _ := hd 51 (of_decide_eq_true (by kernel_rfl)) 0 _ _ rfl rfl; have gd := tmp_bool v32; clear hd hF; refine wpOp_step rfl (fun K' hK => ?_); go_simp; exact hK _ _ ⟨_, rfl, Below.refl _ _, nat_eq (by first | rfl | (simp; done) | (rw [IntWalk.i64_in _ (by omega)]; omega) | omega)⟩
              apply RegW.val 53 rfl
              · intro a w' hF hB hd; have v32 : a.tmps[88]?.getD undef = _ := hd 32 (of_decide_eq_true (by kernel_rfl)) 20 _ _ rfl rfl; have gd := tmp_bool v32; have e8 := hF.2.2 8 (by decide); simp at e8; clear hd hF; refine wpOp_step rfl (fun K' hK => ?_); go_simp; exact hK _ _ ⟨_, rfl, Below.refl _ _, cst_ok⟩
              refine RegW.op 54 rfl (cst (.int .i64 ((k % 20 : Nat) : Int))) ?_ ?_
              · intro a w' hF hB hd; have v32 : a.tmps[88]?.getD undef = _ := hd 32 (of_decide_eq_true (by kernel_rfl)) 21 _ _ rfl rfl; have v53 : a.tmps[109]?.getD undef = _ := hd 53 (of_decide_eq_true (by kernel_rfl)) 0 _ _ rfl rfl; have gd := tmp_bool v32; clear hd hF; refine wpOp_step rfl (fun K' hK => ?_); go_simp; exact hK _ _ ⟨_, rfl, Below.refl _ _, nat_eq (by first | rfl | (simp; done) | (rw [IntWalk.i64_in _ (by omega)]; omega) | omega)⟩
              refine RegW.op 55 rfl (cst (.int .i64 ((k % 20 + 9 : Nat) : Int))) ?_ ?_
              · intro a w' hF hB hd; have v32 : a.tmps[88]?.getD undef = _ := hd 32 (of_decide_eq_true (by kernel_rfl)) 22 _ _ rfl rfl; have v54 : a.tmps[110]?.getD undef = _ := hd 54 (of_decide_eq_true (by kernel_rfl)) 0 _ _ rfl rfl; have gd := tmp_bool v32; clear hd hF; refine wpOp_step rfl (fun K' hK => ?_); go_simp; exact hK _ _ ⟨_, rfl, Below.refl _ _, nat_eq (by first | rfl | (simp; done) | (rw [IntWalk.i64_in _ (by omega)]; omega) | omega)⟩
              refine RegW.op 56 rfl (rdS 9) ?_ ?_
              · intro a w' hF hB hd; have v32 : a.tmps[88]?.getD undef = _ := hd 32 (of_decide_eq_true (by kernel_rfl)) 23 _ _ rfl rfl; have v50 : a.tmps[106]?.getD undef = _ := hd 50 (of_decide_eq_true (by kernel_rfl)) 5 _ _ rfl rfl; have v52 : a.tmps[108]?.getD undef = _ := hd 52 (of_decide_eq_true (by kernel_rfl)) 3 _ _ rfl rfl; have v55 : a.tmps[111]?.getD undef = _ := hd 55 (of_decide_eq_true (by kernel_rfl)) 0 _ _ rfl rfl; have gd := tmp_bool v32; clear hd hF; have hcap := HR.out.2; have f1 : 0 ≤ (k : Int) % 20 + 9 := (by omega); have f2 : (k : Int) % 20 + 9 ≤ (cap : Int) := (by omega); have f3 : 0 ≤ (k : Int) % 20 := (by omega); have f4 : (k : Int) % 20 ≤ max ((k : Int) % 20 + 9) 0 := (by omega); have f7 : (k : Int) % 20 ≤ (k : Int) % 20 + 9 := (by omega); have f5 : ((k : Int) % 20).toNat = k % 20 := (by omega); have f6 : ((k : Int) % 20 + 9).toNat = k % 20 + 9 := (by omega); refine wpOp_step rfl (fun K' hK => ?_); go_simp; exact hK _ _ ⟨_, rfl, Below.refl _ _, rd_cut (a := k % 20) (m := 9) (m' := 9) (HR.out.1.keep hB) hcap (by omega) rfl⟩
              apply RegW.val 57 rfl
              · intro a w' hF hB hd; have v32 : a.tmps[88]?.getD undef = _ := hd 32 (of_decide_eq_true (by kernel_rfl)) 24 _ _ rfl rfl; have u36 := hd 36 (of_decide_eq_true (by kernel_rfl)) 20 _ _ rfl rfl; obtain ⟨x36, y36, p36, h36⟩ := u36; have u40 := hd 40 (of_decide_eq_true (by kernel_rfl)) 16 _ _ rfl rfl; obtain ⟨x40, y40, p40, h40⟩ := u40; have u48 := hd 48 (of_decide_eq_true (by kernel_rfl)) 8 _ _ rfl rfl; obtain ⟨x48, y48, p48, h48⟩ := u48; have v49 : a.tmps[105]?.getD undef = _ := hd 49 (of_decide_eq_true (by kernel_rfl)) 7 _ _ rfl rfl; have u56 := hd 56 (of_decide_eq_true (by kernel_rfl)) 0 _ _ rfl rfl; obtain ⟨A56, c56, l56, p56, r56, h56⟩ := u56; have gd := tmp_bool v32; clear hd hF; refine wpOp_step rfl (fun K' hK => ?_); go_simp; refine (lattice_any x36 y36 x40 y40 x48 y48 _ A56 9 c56 l56 _ r56 (by unfold maxLen; omega) h36 h40 h56).mono ?_; rintro e w1 ⟨rfl, hb⟩; exact hK _ _ ⟨_, rfl, hb, cst_ok⟩
              apply RegW.val 58 rfl
              · intro a w' hF hB hd; have v32 : a.tmps[88]?.getD undef = _ := hd 32 (of_decide_eq_true (by kernel_rfl)) 25 _ _ rfl rfl; have v57 : a.tmps[113]?.getD undef = _ := hd 57 (of_decide_eq_true (by kernel_rfl)) 0 _ _ rfl rfl; have gd := tmp_bool v32; clear hd hF; refine wpOp_step rfl (fun K' hK => ?_); go_simp; exact hK _ _ ⟨_, rfl, Below.refl _ _, cst_ok⟩
              apply RegW.val 59 rfl
              · intro a w' hF hB hd; have v32 : a.tmps[88]?.getD undef = _ := hd 32 (of_decide_eq_true (by kernel_rfl)) 26 _ _ rfl rfl; have v58 : a.tmps[114]?.getD undef = _ := hd 58 (of_decide_eq_true (by kernel_rfl)) 0 _ _ rfl rfl; clear hd hF; refine wpOp_step rfl (fun K' hK => ?_); go_simp; exact hK _ _ ⟨_, rfl, Below.refl _ _, cst_ok⟩
              refine RegW.done (fun a w' hF hB hv => ?_)
              have v0 : a.tmps[56]?.getD undef = _ := hv 59 _ _ rfl
              have v1 : a.tmps[57]?.getD undef = _ := hv 58 _ _ rfl
              have v2 : a.tmps[58]?.getD undef = _ := hv 57 _ _ rfl
              have u3 := hv 56 _ _ rfl
              obtain ⟨x3, y3, p3, h3⟩ := u3
              have v4 : a.tmps[60]?.getD undef = _ := hv 55 _ _ rfl
              have v5 : a.tmps[61]?.getD undef = _ := hv 54 _ _ rfl
              have v6 : a.tmps[62]?.getD undef = _ := hv 53 _ _ rfl
              have u7 := hv 52 _ _ rfl
              obtain ⟨x7, y7, p7, h7⟩ := u7
              have v8 : a.tmps[64]?.getD undef = _ := hv 51 _ _ rfl
              have v9 : a.tmps[65]?.getD undef = _ := hv 50 _ _ rfl
              have v10 : a.tmps[66]?.getD undef = _ := hv 49 _ _ rfl
              have v11 : a.tmps[67]?.getD undef = _ := hv 48 _ _ rfl
              have v12 : a.tmps[68]?.getD undef = _ := hv 47 _ _ rfl
              have v13 : a.tmps[69]?.getD undef = _ := hv 46 _ _ rfl
              have v14 : a.tmps[70]?.getD undef = _ := hv 45 _ _ rfl
              have v15 : a.tmps[71]?.getD undef = _ := hv 44 _ _ rfl
              have v16 : a.tmps[72]?.getD undef = _ := hv 43 _ _ rfl
              have v17 : a.tmps[73]?.getD undef = _ := hv 42 _ _ rfl
              have v18 : a.tmps[74]?.getD undef = _ := hv 41 _ _ rfl
              have v19 : a.tmps[75]?.getD undef = _ := hv 40 _ _ rfl
              have u20 := hv 39 _ _ rfl
              obtain ⟨A20, c20, l20, p20, r20, h20⟩ := u20
              have v21 : a.tmps[77]?.getD undef = _ := hv 38 _ _ rfl
              have v22 : a.tmps[78]?.getD undef = _ := hv 37 _ _ rfl
              have v23 : a.tmps[79]?.getD undef = _ := hv 36 _ _ rfl
              have u24 := hv 35 _ _ rfl
              obtain ⟨x24, y24, p24, h24⟩ := u24
              have v25 : a.tmps[81]?.getD undef = _ := hv 34 _ _ rfl
              have v26 : a.tmps[82]?.getD undef = _ := hv 33 _ _ rfl
              have v27 : a.tmps[83]?.getD undef = _ := hv 32 _ _ rfl
              have u28 := hv 31 _ _ rfl
              obtain ⟨x28, y28, p28, h28⟩ := u28
              have v29 : a.tmps[85]?.getD undef = _ := hv 30 _ _ rfl
              have v30 : a.tmps[86]?.getD undef = _ := hv 29 _ _ rfl
              have v31 : a.tmps[87]?.getD undef = _ := hv 28 _ _ rfl
              have v32 : a.tmps[88]?.getD undef = _ := hv 27 _ _ rfl
              have v33 : a.tmps[89]?.getD undef = _ := hv 26 _ _ rfl
              have v34 : a.tmps[90]?.getD undef = _ := hv 25 _ _ rfl
              have v35 : a.tmps[91]?.getD undef = _ := hv 24 _ _ rfl
              have u36 := hv 23 _ _ rfl
              obtain ⟨x36, y36, p36, h36⟩ := u36
              have v37 : a.tmps[93]?.getD undef = _ := hv 22 _ _ rfl
              have v38 : a.tmps[94]?.getD undef = _ := hv 21 _ _ rfl
              have v39 : a.tmps[95]?.getD undef = _ := hv 20 _ _ rfl
              have u40 := hv 19 _ _ rfl
              obtain ⟨x40, y40, p40, h40⟩ := u40
              have v41 : a.tmps[97]?.getD undef = _ := hv 18 _ _ rfl
              have v42 : a.tmps[98]?.getD undef = _ := hv 17 _ _ rfl
              have v43 : a.tmps[99]?.getD undef = _ := hv 16 _ _ rfl
              have v44 : a.tmps[100]?.getD undef = _ := hv 15 _ _ rfl
              have v45 : a.tmps[101]?.getD undef = _ := hv 14 _ _ rfl
              have v46 : a.tmps[102]?.getD undef = _ := hv 13 _ _ rfl
              have v47 : a.tmps[103]?.getD undef = _ := hv 12 _ _ rfl
              have u48 := hv 11 _ _ rfl
              obtain ⟨x48, y48, p48, h48⟩ := u48
              have v49 : a.tmps[105]?.getD undef = _ := hv 10 _ _ rfl
              have v50 : a.tmps[106]?.getD undef = _ := hv 9 _ _ rfl
              have v51 : a.tmps[107]?.getD undef = _ := hv 8 _ _ rfl
              have v52 : a.tmps[108]?.getD undef = _ := hv 7 _ _ rfl
              have v53 : a.tmps[109]?.getD undef = _ := hv 6 _ _ rfl
              have v54 : a.tmps[110]?.getD undef = _ := hv 5 _ _ rfl
              have v55 : a.tmps[111]?.getD undef = _ := hv 4 _ _ rfl
              have u56 := hv 3 _ _ rfl
              obtain ⟨A56, c56, l56, p56, r56, h56⟩ := u56
              have v57 : a.tmps[113]?.getD undef = _ := hv 2 _ _ rfl
              have v58 : a.tmps[114]?.getD undef = _ := hv 1 _ _ rfl
              have v59 : a.tmps[115]?.getD undef = _ := hv 0 _ _ rfl
              have hE := hF.out
              rw [hE]
              clear hE hF hv
              simp only [List.foldl_cons, List.foldl_nil, Act.put, List.setIfInBounds_toArray, List.set_cons_zero, List.set_cons_succ, Array.getD_eq_getD_getElem?, v0, v1, v2, p3, v4, v5, v6, p7, v8, v9, v10, v11, v12, v13, v14, v15, v16, v17, v18, v19, p20, v21, v22, v23, p24, v25, v26, v27, p28, v29, v30, v31, v32, v33, v34, v35, p36, v37, v38, v39, p40, v41, v42, v43, v44, v45, v46, v47, p48, v49, v50, v51, v52, v53, v54, v55, p56, v57, v58, v59]
              clear v0 v1 v2 p3 v4 v5 v6 p7 v8 v9 v10 v11 v12 v13 v14 v15 v16 v17 v18 v19 p20 v21 v22 v23 p24 v25 v26 v27 p28 v29 v30 v31 v32 v33 v34 v35 p36 v37 v38 v39 p40 v41 v42 v43 v44 v45 v46 v47 p48 v49 v50 v51 v52 v53 v54 v55 p56 v57 v58 v59
              have hE0 := hB
              clear hB
              go_wp2_with fail
              go_roundw
              case rel => exact ⟨k + 1, by go_num, by omega, HB4.out.trans (hE0.mono HB4.out.size)⟩
              case measure => simp [intOf] <;> omega
            · obtain rfl : k = 36 := by omega
              have gk : decide (((36 : Nat) : Int) < 36) = false := by decide
              go_wp2
              go_roundw
              case rel => exact ⟨i + 1, by go_num, by omega, HB4.out⟩
              case measure => simp [intOf] <;> omega
        · obtain rfl : i = 36 := by omega
          have gi : decide (((36 : Nat) : Int) < 36) = false := by decide
          have HR := Lib.hid (And.intro (HR0.out.1.keep HB3.out) HR0.out.2.1)
          go_upto_region 20 with fail
          refine wp_region_walk [0, 1, 2, 3, 4, 5, 6, 7, 8, 9, 10] [116, 117, 118, 119, 120, 121, 122, 123, 124, 125, 0] 0 (by kernel_rfl) (by kernel_rfl) (by kernel_rfl) rfl (by simp) (by kernel_rfl) (by kernel_rfl) ?_
          apply RegW.val 0 rfl
          · intro a w' hF hB hd; have e3 := hF.2.2 3 (by decide); simp at e3; clear hd hF; refine wpOp_step rfl (fun K' hK => ?_); go_simp; exact hK _ _ ⟨_, rfl, Below.refl _ _, cst_ok⟩
          apply RegW.val 1 rfl
          · intro a w' hF hB hd; have v0 : a.tmps[116]?.getD undef = _ := hd 0 (of_decide_eq_true (by kernel_rfl)) 0 _ _ rfl rfl; clear hd hF; refine wpOp_step rfl (fun K' hK => ?_); go_simp; exact hK _ _ ⟨_, rfl, Below.refl _ _, cst_ok⟩
          refine RegW.op 2 rfl agS ?_ ?_
          · intro a w' hF hB hd; have v1 : a.tmps[117]?.getD undef = _ := hd 1 (of_decide_eq_true (by kernel_rfl)) 0 _ _ rfl rfl; clear hd hF; obtain ⟨x0, y0, k0, k1, k2⟩ := (HR.out.1.keep hB).cells (show 0 < 36 by decide); refine wpOp_step rfl (fun K' hK => ?_); go_simp; exact hK _ _ ⟨_, rfl, Below.refl _ _, ⟨x0, y0, rfl, k2⟩⟩
          apply RegW.val 3 rfl
          · intro a w' hF hB hd; have e3 := hF.2.2 3 (by decide); simp at e3; clear hd hF; refine wpOp_step rfl (fun K' hK => ?_); go_simp; exact hK _ _ ⟨_, rfl, Below.refl _ _, cst_ok⟩
          apply RegW.val 4 rfl
          · intro a w' hF hB hd; have v3 : a.tmps[119]?.getD undef = _ := hd 3 (of_decide_eq_true (by kernel_rfl)) 0 _ _ rfl rfl; clear hd hF; refine wpOp_step rfl (fun K' hK => ?_); go_simp; exact hK _ _ ⟨_, rfl, Below.refl _ _, cst_ok⟩
          refine RegW.op 5 rfl agS ?_ ?_
          · intro a w' hF hB hd; have v4 : a.tmps[120]?.getD undef = _ := hd 4 (of_decide_eq_true (by kernel_rfl)) 0 _ _ rfl rfl; clear hd hF; obtain ⟨x0, y0, k0, k1, k2⟩ := (HR.out.1.keep hB).cells (show 1 < 36 by decide); refine wpOp_step rfl (fun K' hK => ?_); go_simp; exact hK _ _ ⟨_, rfl, Below.refl _ _, ⟨x0, y0, rfl, k2⟩⟩
          apply RegW.val 6 rfl
          · intro a w' hF hB hd; have u2 := hd 2 (of_decide_eq_true (by kernel_rfl)) 3 _ _ rfl rfl; obtain ⟨x2, y2, p2, h2⟩ := u2; have u5 := hd 5 (of_decide_eq_true (by kernel_rfl)) 0 _ _ rfl rfl; obtain ⟨x5, y5, p5, h5⟩ := u5; clear hd hF; refine wpOp_step rfl (fun K' hK => ?_); go_simp; refine (joins_any none 0 0 [] x2 y2 x5 y5 _ ⟨rfl, fun h => absurd h (by decide)⟩ (by decide)).mono ?_; rintro e w1 ⟨rfl, hb⟩; exact hK _ _ ⟨_, rfl, hb, cst_ok⟩
          apply RegW.val 7 rfl
          · intro a w' hF hB hd; have v6 : a.tmps[122]?.getD undef = _ := hd 6 (of_decide_eq_true (by kernel_rfl)) 0 _ _ rfl rfl; clear hd hF; refine wpOp_step rfl (fun K' hK => ?_); go_simp; exact hK _ _ ⟨_, rfl, Below.refl _ _, cst_ok⟩
          apply RegW.val 8 rfl
          · intro a w' hF hB hd; have v7 : a.tmps[123]?.getD undef = _ := hd 7 (of_decide_eq_true (by kernel_rfl)) 0 _ _ rfl rfl; have gd := tmp_bool v7; clear hd hF; refine wpOp_step rfl (fun K' hK => ?_); go_simp; refine (works_c _).mono ?_; rintro e w1 ⟨rfl, hb⟩; exact hK _ _ ⟨_, rfl, hb, cst_ok⟩
          apply RegW.val 9 rfl
          · intro a w' hF hB hd; have v7 : a.tmps[123]?.getD undef = _ := hd 7 (of_decide_eq_true (by kernel_rfl)) 1 _ _ rfl rfl; have v8 : a.tmps[124]?.getD undef = _ := hd 8 (of_decide_eq_true (by kernel_rfl)) 0 _ _ rfl rfl; clear hd hF; refine wpOp_step rfl (fun K' hK => ?_); go_simp; exact hK _ _ ⟨_, rfl, Below.refl _ _, cst_ok⟩
          apply RegW.val 10 rfl
          · intro a w' hF hB hd; have v9 : a.tmps[125]?.getD undef = _ := hd 9 (of_decide_eq_true (by kernel_rfl)) 0 _ _ rfl rfl; clear hd hF; refine wpOp_step rfl (fun K' hK => ?_); go_simp; exact hK _ _ ⟨_, rfl, Below.refl _ _, cst_ok⟩
          refine RegW.done (fun a w' hF hB hv => ?_)
          have v0 : a.tmps[116]?.getD undef = _ := hv 10 _ _ rfl
          have v1 : a.tmps[117]?.getD undef = _ := hv 9 _ _ rfl
          have u2 := hv 8 _ _ rfl
          obtain ⟨x2, y2, p2, h2⟩ := u2
          have v3 : a.tmps[119]?.getD undef = _ := hv 7 _ _ rfl
          have v4 : a.tmps[120]?.getD undef = _ := hv 6 _ _ rfl
          have u5 := hv 5 _ _ rfl
          obtain ⟨x5, y5, p5, h5⟩ := u5
          have v6 : a.tmps[122]?.getD undef = _ := hv 4 _ _ rfl
          have v7 : a.tmps[123]?.getD undef = _ := hv 3 _ _ rfl
          have v8 : a.tmps[124]?.getD undef = _ := hv 2 _ _ rfl
          have v9 : a.tmps[125]?.getD undef = _ := hv 1 _ _ rfl
          have v10 : a.tmps[0]?.getD undef = _ := hv 0 _ _ rfl
          have hE := hF.out
          rw [hE]
          clear hE hF hv
          simp only [List.foldl_cons, List.foldl_nil, Act.put, List.setIfInBounds_toArray, List.set_cons_zero, List.set_cons_succ, Array.getD_eq_getD_getElem?, v0, v1, p2, v3, v4, p5, v6, v7, v8, v9, v10]
          clear v0 v1 p2 v3 v4 p5 v6 v7 v8 v9 v10
          have hE0 := hB
          clear hB
          go_wp2_with fail
          go_ret
          exact ⟨rfl, HE0.out.2.trans ((HR0.out.2.2.trans ((HB3.out.trans (hE0.mono HB3.out.size)).mono HR0.out.2.2.size)).mono HE0.out.2.size)⟩
end Go.Proofs.Ytfepaalplceaaaa
