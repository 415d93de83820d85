/- divide of package deci, by contract: limbs are divided in their own memory. And Div. -/
import Derived.Test.YtjocobfabdkadaaDiv64
import Derived.Test.YtjocobfabdkadaaNatw
namespace Go.Proofs.Ytjocobfabdkadaa
open Go.RowKit
attribute [local go_sem] alloc_drewN setCell_drewN
/-- Block g holds a row of n words, from its first cell on, that reads as l, and the call may write it. -/
def Gr (w : World) (g n c : Nat) (l : List Nat) : Prop := w.ownsRow g 78 1 (.slice (some ⟨g, 0, none⟩) n c) n (cellsOf .u64 l)
section
variable {w w' : World} {g n c : Nat} {l : List Nat}
theorem Gr.len (h : Gr w g n c l) : l.length = n := by have := h.1; simpa [cellsOf] using this
theorem Gr.lt (h : Gr w g n c l) : g < w.heap.size := (World.ownsRow.lt h g rfl).2
theorem Gr.put (h : Gr w g n c l) (k s : Nat) : Gr (w.setCell ⟨g, k, none⟩ (.int .u64 s)) g n c (l.set k s) := Own.put h k s
theorem Gr.at_ (h : Gr w g n c l) {k : Nat} (hk : k < n) : ∃ y, l[k]? = some y ∧ w.cell? ⟨g, k, none⟩ = some (.int .u64 y) ∧ w.frozen? ⟨g, k, none⟩ = false := Own.at_ h hk
theorem Gr.drewN (h : Gr w g n c l) (m : Nat) : Gr (w.drewN m) g n c l := h
theorem Gr.rw (h : Gr w g n c l) : Rw .u64 w (some ⟨g, 0, none⟩) n l := Rw.of_own h
theorem Gr.kept {row : Option Nat} (h : Gr w g n c l) (hg : w.grownBy w' row) (hr : some g ≠ row) : Gr w' g n c l := World.ownsRow.kept h hg (.inr hr)
theorem Gr.keep (h : Gr w g n c l) (hb : Below w.heap.size w w') : Gr w' g n c l := h.kept (row := none) ⟨hb.os, hb.tape, hb.output, hb.size, fun k hk _ => hb.block k hk⟩ (by simp)
theorem Gr.cut {m : Nat} (h : Gr w g n c l) (hm : m ≤ n) : Gr w g m c (l.take m) := by
  have hl := h.len
  rcases h.2 with ⟨h1, _⟩ | ⟨g', cap, cur, h1, h2, h3, h4, h5, h6, h7⟩
  · cases h1
  · injection h1 with e1 e2 e3
    injection e1 with e1
    injection e1 with e1
    subst e1 e3
    refine ⟨by simp [cellsOf]; omega, .inr ⟨g, c, cur, rfl, h2, h3, by omega, h5, h6, ?_⟩⟩
    have : cur.toList.take (m * 1) = (cur.toList.take (n * 1)).take m := by rw [List.take_take]; congr 1; omega
    rw [this, h7]
    simp [cellsOf]
end
theorem Own.gr {g n : Nat} {w : World} {v : Value} {l : List Nat} (h : Own g w v l) (hl : l.length = n) (hn : 0 < n) : ∃ gb c, v = .slice (some ⟨gb, 0, none⟩) n c ∧ g ≤ gb ∧ Gr w gb n c l := by
  subst hl
  rcases h.2 with ⟨_, h1⟩ | ⟨gb, cap, cur, h1, h2, h3, h4, h5, h6, h7⟩
  · omega
  · exact ⟨gb, cap, h1, h2, ⟨h.1, .inr ⟨gb, cap, cur, rfl, Nat.le_refl _, h3, h4, h5, h6, h7⟩⟩⟩
theorem Gr.own {g gb n c : Nat} {w : World} {l : List Nat} (h : Gr w gb n c l) (hg : g ≤ gb) : Own g w (.slice (some ⟨gb, 0, none⟩) n c) l := by
  have hl := h.len
  subst hl
  rcases h.2 with ⟨h1, _⟩ | ⟨gb', cap, cur, h1, h2, h3⟩
  · cases h1
  · exact ⟨h.1, .inr ⟨gb', cap, cur, h1, Nat.le_trans hg h2, h3⟩⟩
theorem div_step {W b r x q s Q L : Nat} (h : q * b + s = r * W + x) (hL : L = Q * b + r) : x + W * L = (q + W * Q) * b + s := by
  subst hL
  rw [Nat.mul_add, Nat.add_mul, ← Nat.mul_assoc, Nat.mul_comm W r]
  omega
theorem quo_lt {b r x q s : Nat} (h : q * b + s = r * 18446744073709551616 + x) (hr : r < b) (hx : x < 18446744073709551616) : q < 18446744073709551616 := by
  have h1 : (r + 1) * 18446744073709551616 ≤ b * 18446744073709551616 := Nat.mul_le_mul_right _ hr
  rw [Nat.add_mul, Nat.mul_comm b] at h1
  exact Nat.lt_of_mul_lt_mul_right (a := b) (by omega)
theorem divide0_c (A : Option Addr) (c b : Nat) (w : World) :
    Calls Try.prog 68 #[.slice A 0 c, .int .u64 b] w fun e w' => e = .returned (.int .u64 0) ∧ w' = w := by
  go_enter Try.func68, Try.ntmps68
  go_wp2
  go_loop [6, 5] (fun i r => i = .int .i64 (-1) ∧ r = .int .u64 0) (fun _ _ => 0)
  case atStart => exact ⟨by go_num, rfl⟩
  case round =>
    obtain ⟨rfl, rfl⟩ := hrel
    go_wp2
    go_ret
    exact ⟨rfl, rfl⟩
set_option maxHeartbeats 4000000 in
theorem divide_c (g n c b : Nat) (l : List Nat) (w : World) (h : Gr w g n c l) (hl : AllLt 18446744073709551616 l) (hb : 0 < b) (hb2 : b < 18446744073709551616) (hn : n ≤ 100000) :
    Calls Try.prog 68 #[.slice (some ⟨g, 0, none⟩) n c, .int .u64 b] w fun e w' => ∃ (q : List Nat) (r : Nat), e = .returned (.int .u64 r) ∧ r < b ∧ AllLt 18446744073709551616 q ∧ val 18446744073709551616 l = val 18446744073709551616 q * b + r ∧ Gr w' g n c q ∧ w.grownBy w' (some g) := by
  have hlen := h.len
  go_enter Try.func68, Try.ntmps68
  go_wp2
  go_loopw [6, 5] (fun i v wr => ∃ (k r : Nat) (q : List Nat), i = .int .i64 ((k : Int) - 1) ∧ v = .int .u64 r ∧ k ≤ n ∧ r < b ∧ AllLt 18446744073709551616 q ∧ q.take k = l.take k ∧ val 18446744073709551616 (l.drop k) = val 18446744073709551616 (q.drop k) * b + r ∧ Gr wr g n c q ∧ w.grownBy wr (some g)) (fun i _ _ => (intOf i + 1).toNat)
  case atStart => exact ⟨n, 0, l, rfl, rfl, Nat.le_refl _, hb, hl, rfl, by rw [List.drop_of_length_le (by omega)]; simp [val], h, World.grownBy.refl _ _⟩
  case round =>
    obtain ⟨k, r, q, rfl, rfl, hk, hr, hq, ht, hv, hg, hw⟩ := hrel
    by_cases hk0 : k = 0
    · subst hk0
      have h1 : decide ((0 : Int) ≤ (((0 : Nat) : Int) - 1)) = false := by decide
      have HR := Lib.hid (And.intro hr (And.intro hq (And.intro hv (And.intro hg hw))))
      clear hr hq hv hg hw ht
      go_wp2
      go_ret
      obtain ⟨hr, hq, hv, hg, hw⟩ := HR.out
      exact ⟨q, r, rfl, hr, hq, by simpa using hv, hg, hw⟩
    · obtain ⟨j, rfl⟩ : ∃ j, k = j + 1 := ⟨k - 1, by omega⟩
      have h1 : decide ((0 : Int) ≤ (((j + 1 : Nat) : Int) - 1)) = true := by simp <;> omega
      obtain ⟨x, hx, hc, hf⟩ := hg.at_ (k := j) (by omega)
      have hxl : l[j]? = some x := by
        have := congrArg (fun m => m[j]?) ht
        simp only [List.getElem?_take] at this
        rw [if_pos (by omega), if_pos (by omega), hx] at this
        exact this.symm
      have hxb := hq.at_ hx
      have hz := hg.lt
      have HX := Lib.hid (And.intro hx (And.intro hxl (And.intro hr (And.intro hq (And.intro ht (And.intro hv (And.intro hg hw)))))))
      clear hx hxl hq ht hv hg hw
      go_wp2_with (go_at_call 79; refine (div64_c r x b _ hr hxb hb2).mono ?_; rintro e w1 ⟨y, s, h3, h4, rfl, m, rfl⟩; have H3 := Lib.hid (And.intro h3 h4); clear h3 h4)
      obtain ⟨hx, hxl, hr, hq, ht, hv, hg, hw⟩ := HX.out
      have hy := quo_lt H3.out.1 hr hxb
      go_roundw
      case rel =>
        refine ⟨j, s, q.set j y, by go_num, rfl, by omega, H3.out.2, hq.set hy, ?_, ?_, (hg.drewN m).put j y, ?_⟩
        · rw [List.take_set_of_le (Nat.le_refl _)]
          have := congrArg (List.take j) ht
          rwa [List.take_take, List.take_take, Nat.min_eq_left (by omega)] at this
        · have e1 := (List.getElem?_eq_some_iff.1 hxl)
          have hjq : j < q.length := (List.getElem?_eq_some_iff.1 hx).1
          rw [← List.getElem_cons_drop e1.1, e1.2, val]
          have e2 : (q.set j y).drop j = y :: q.drop (j + 1) := by
            rw [List.drop_set, if_neg (by omega), Nat.sub_self, ← List.getElem_cons_drop hjq]
            rfl
          rw [e2, val]
          exact div_step H3.out.1 hv
        · exact hw.trans ((World.grownBy.refl _ _).trans ⟨rfl, rfl, rfl, by simp, fun k _ hk => Below.heap_setCell _ _ _ k (fun e => hk (by rw [e]))⟩)
      case measure => simp [intOf] <;> omega
/-- divide, of a row of the caller's own, however long. -/
theorem divideOwn_c (g b : Nat) (v : Value) (l : List Nat) (w : World) (h : Own g w v l) (hl : AllLt 18446744073709551616 l) (hb : 0 < b) (hb2 : b < 18446744073709551616) (hn : l.length ≤ 100000) (hg : g ≤ w.heap.size) :
    Calls Try.prog 68 #[v, .int .u64 b] w fun e w' => ∃ (q : List Nat) (r : Nat), e = .returned (.int .u64 r) ∧ r < b ∧ AllLt 18446744073709551616 q ∧ val 18446744073709551616 l = val 18446744073709551616 q * b + r ∧ Own g w' v q ∧ q.length = l.length ∧ Below g w w' := by
  by_cases h0 : l.length = 0
  · obtain ⟨A, c, rfl, _⟩ := h.slice
    have hnil : l = [] := List.eq_nil_of_length_eq_zero h0
    subst hnil
    exact (divide0_c A c b w).mono fun e w' ⟨h1, h2⟩ => ⟨[], 0, h1, hb, hl, by simp [val], h2 ▸ h, rfl, h2 ▸ Below.refl _ _⟩
  · obtain ⟨gb, c, rfl, hgb, hG⟩ := h.gr rfl (by omega)
    refine (divide_c gb l.length c b l w hG hl hb hb2 hn).mono ?_
    rintro e w' ⟨q, r, h1, h2, h3, h4, h5, h6⟩
    have hql := h5.len
    exact ⟨q, r, h1, h2, h3, h4, by have := h5.own hgb; rw [← hql] at this ⊢; exact this, hql, ⟨h6.os, h6.tape, h6.output, h6.size, fun k hk => h6.block k (by omega) (by intro e; injection e; omega)⟩⟩
end Go.Proofs.Ytjocobfabdkadaa
