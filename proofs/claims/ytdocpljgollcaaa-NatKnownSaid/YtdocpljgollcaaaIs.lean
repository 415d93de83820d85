/- is (of the statements about package nat): a number that is the document's, by contract. At most 200 limbs. -/
import Derived.Test.YtdocpljgollcaaaReff
namespace Go.Proofs.Ytdocpljgollcaaa
open Go.RowKit
attribute [local go_sem] alloc_drewN setCell_drewN
theorem ownsRow_keep {g n size : Nat} {e : TypeId} {w w' : World} {v : Value} {xs : List Value} (h : w.ownsRow g e size v n xs) (hb : Below w.heap.size w w') : w'.ownsRow g e size v n xs := by
  refine h.kept (row := none) ⟨hb.os, hb.tape, hb.output, hb.size, fun k hk _ => hb.block k hk⟩ ?_
  cases v.ownBlock <;> simp
theorem Lim.last {b k x : Nat} {l : List Nat} {N : Nat} (h : Lim b l N) (hk : k + 1 = l.length) (hx : l[k]? = some x) : x ≠ 0 := by
  intro h0
  have h1 := trimLen_take hx
  rw [hk, List.take_length, h.2.2, if_pos h0] at h1
  have h2 := trimLen_le (l.take k)
  rw [List.length_take] at h2
  omega
set_option maxRecDepth 100000 in
set_option maxHeartbeats 16000000 in
theorem is_c (g : Nat) (u v : Value) (N : Nat) (w : World) (hu : IsNat g w u N) (hv : IsByt w v N) (hN : Fits N 200) :
    Calls Try.prog 19 #[u, v] w fun e w' => e = .returned (.bool true) ∧ Below w.heap.size w w' := by
  have hu0 := hu.mono (Nat.zero_le g)
  obtain ⟨A, n, c, l0, rfl, hr0, hlim0, _⟩ := hu
  have HR0 := Lib.hid (And.intro hr0.1 hlim0)
  clear hr0 hlim0
  obtain ⟨Bv, bn, bc, bl, rfl, hb0⟩ := hv
  have hb1 : IsByt w (.slice Bv bn bc) N := ⟨Bv, bn, bc, bl, rfl, hb0⟩
  have HI := Lib.hid (And.intro hu0 (And.intro hb1 hN))
  clear hu0 hb0 hb1 hN
  go_enter Try.func19, Try.ntmps19
  go_wp2
  go_loopw [5] (fun t w1 => ∃ q : Nat, t = .int .i64 q ∧ q ≤ 2 ∧ Bk w1 w.heap.size 25 #[.slice A n c] ∧ Below w.heap.size w w1) (fun t _ => 2 - (intOf t).toNat)
  case atStart => exact ⟨0, rfl, by omega, Bk.new _ _ _, (Below.refl _ _).alloc (Nat.le_refl _) _⟩
  case round =>
    obtain ⟨q, rfl, hq, hk, hB⟩ := hrel
    by_cases hq2 : q < 2
    · have g1 : decide ((q : Int) < 2) = true := by simp <;> omega
      have hc0 := hk.cell 0
      have hz0 := hk.lt
      simp at hc0
      have HK := Lib.hid (And.intro hk hB)
      clear hk hB
      by_cases hn0 : n = 0
      · have FZ : ∀ l : List Nat, Lim 18446744073709551616 l N → l = [] := fun l hl => by
          have h1 := HR0.out.2.unique hl
          rw [← h1]
          exact List.eq_nil_of_length_eq_zero (by rw [HR0.out.1, hn0])
        have HN0 := Lib.hid hn0
        clear hn0
        go_wp2_with (first
          | (go_at_call 29; refine (all_c 0 _ N _ (HI.out.1.keep HK.out.2) (HI.out.2.2.mono (by decide))).mono ?_; rintro e w2 ⟨u2, l, rfl, ho, hlim, hb⟩; obtain ⟨Ao, co, rfl, hro, hco, _⟩ := ho.slice; have hkk := HK.out.1.keep hb; have hc2 := hkk.cell 0; have hz2 := hkk.lt; simp at hc2; have hsz := HK.out.2.size; obtain rfl := FZ l hlim;  have HL := Lib.hid (And.intro ho (And.intro hlim (And.intro hkk (And.intro (HK.out.2.trans (hb.mono hsz)) hro)))); clear ho hlim hkk hb hro)
          | (go_at_call 14; refine (len_w (HI.out.1.keep HL.out.2.2.2.1) HL.out.2.1).mono ?_; rintro e w3 ⟨rfl, hb⟩; have HM := Lib.hid hb; clear hb)
          | (go_at_call 15; refine (refOf_c _ 0 co [] _ (HL.out.2.2.2.2.keep HM.out) HL.out.2.1.1 (HL.out.2.1.len HI.out.2.2)).mono ?_; rintro e w4 ⟨x4, rfl, hx, hb⟩; have HO4 := Lib.hid (And.intro hx hb); clear hx hb)
          | (go_at_call 37; refine (refSame_c _ _ N N _ (by have := HO4.out.1; rw [HL.out.2.1.2.1] at this; exact this) (((HI.out.2.1.keep HL.out.2.2.2.1).keep HM.out).keep HO4.out.2) (HI.out.2.2.bytes.mono (by decide)) (HI.out.2.2.bytes.mono (by decide))).mono ?_; rintro e w5 ⟨rfl, hb⟩; have HS5 := Lib.hid hb; clear hb))
        have hb35 : Below w2.heap.size w2 w5 := (HM.out.trans (HO4.out.2.mono HM.out.size)).trans (HS5.out.mono (Nat.le_trans HM.out.size HO4.out.2.size))
        have ho5 : w5.ownsRow wr.heap.size 33 1 (.slice Ao 0 co) 0 (cellsOf .u64 []) := HL.out.1.keep hb35
        have hk5 := HL.out.2.2.1.keep hb35
        have hB5 := HL.out.2.2.2.1.trans (hb35.mono HL.out.2.2.2.1.size)
        have HY := Lib.hid (And.intro ho5 (And.intro hk5 hB5))
        clear hb35 ho5 hk5 hB5 HM HO4 HS5
        go_loopw [7] (fun i w6 => ∃ (k : Nat) (r : List Nat), i = .int .i64 k ∧ k ≤ 0 ∧ w6.ownsRow wr.heap.size 33 1 (.slice Ao 0 co) 0 (cellsOf .u64 r) ∧ Bk w6 w.heap.size 25 #[.slice A n c] ∧ Below w.heap.size w w6) (fun i _ => 0 - (intOf i).toNat)
        case atStart => exact ⟨0, [], rfl, Nat.zero_le _, HY.out.1, HY.out.2.1, HY.out.2.2⟩
        case round =>
          obtain ⟨k, r, rfl, hkl, ho6, hk6, hB6⟩ := hrel
          by_cases hkn : k < 0
          · exact absurd hkn (by omega)
          · have g5 : decide ((k : Int) < (0 : Int)) = false := by simp <;> omega
            have HZ := Lib.hid (And.intro hk6 hB6)
            clear ho6 hk6 hB6
            go_wp2
            obtain ⟨hk6, hB6⟩ := HZ.out
            go_roundw
            case rel => exact ⟨q + 1, by go_num, by omega, hk6, hB6⟩
            case measure => simp [intOf] <;> omega
      · have FZ : ∀ l : List Nat, Lim 18446744073709551616 l N → l ≠ [] ∧ 0 < l.length := fun l hl => by
          have h1 := HR0.out.2.unique hl
          have h2 : 0 < l.length := by rw [← h1, HR0.out.1]; omega
          exact ⟨fun e => by rw [e] at h2; exact absurd h2 (by decide), h2⟩
        have HN0 := Lib.hid hn0
        clear hn0
        go_wp2_with (first
          | (go_at_call 29; refine (all_c 0 _ N _ (HI.out.1.keep HK.out.2) (HI.out.2.2.mono (by decide))).mono ?_; rintro e w2 ⟨u2, l, rfl, ho, hlim, hb⟩; obtain ⟨Ao, co, rfl, hro, hco, _⟩ := ho.slice; have hkk := HK.out.1.keep hb; have hc2 := hkk.cell 0; have hz2 := hkk.lt; simp at hc2; have hsz := HK.out.2.size; obtain ⟨g2, g3⟩ := FZ l hlim; obtain ⟨z, hz⟩ : ∃ z, l.length = z + 1 := ⟨l.length - 1, by omega⟩; have hz200 : z ≤ 200 := (by have := hlim.len HI.out.2.2; omega); have ho' : w2.ownsRow wr.heap.size 33 1 (.slice Ao (z + 1) co) (z + 1) (cellsOf .u64 l) := (by have := ho; unfold Own at this; rw [hz] at this; exact this); rw [hz] at hro hco; obtain ⟨bo, oo, xo, rfl, hbo, hxo, hcx⟩ := hro.at_ (i := z) (by omega); have hxo0 := hlim.last (k := z) hz.symm hxo; clear hxo g3; have hxb : ((xo : Int) == 0) = false := beq_false_of_ne (by omega);  have HL := Lib.hid (And.intro ho' (And.intro hlim (And.intro hkk (And.intro (HK.out.2.trans (hb.mono hsz)) hro)))); clear ho ho' hlim hkk hb hro)
          | (go_at_call 14; refine (len_w (HI.out.1.keep HL.out.2.2.2.1) HL.out.2.1).mono ?_; rintro e w3 ⟨rfl, hb⟩; have HM := Lib.hid hb; clear hb; have hco3 := (HM.out.cell (p := ⟨bo, oo + z, none⟩) hbo).trans hcx)
          | (go_at_call 15; refine (refOf_c _ (z + 1) co l _ (HL.out.2.2.2.2.keep HM.out) HL.out.2.1.1 (by have := HL.out.2.1.len HI.out.2.2; omega)).mono ?_; rintro e w4 ⟨x4, rfl, hx, hb⟩; have HO4 := Lib.hid (And.intro hx hb); clear hx hb)
          | (go_at_call 37; refine (refSame_c _ _ N N _ (by have := HO4.out.1; rw [HL.out.2.1.2.1] at this; exact this) (((HI.out.2.1.keep HL.out.2.2.2.1).keep HM.out).keep HO4.out.2) (HI.out.2.2.bytes.mono (by decide)) (HI.out.2.2.bytes.mono (by decide))).mono ?_; rintro e w5 ⟨rfl, hb⟩; have HS5 := Lib.hid hb; clear hb))
        have hb35 : Below w2.heap.size w2 w5 := (HM.out.trans (HO4.out.2.mono HM.out.size)).trans (HS5.out.mono (Nat.le_trans HM.out.size HO4.out.2.size))
        have ho5 : w5.ownsRow wr.heap.size 33 1 (.slice (some ⟨bo, oo, none⟩) (z + 1) co) (z + 1) (cellsOf .u64 l) := ownsRow_keep HL.out.1 hb35
        have hk5 := HL.out.2.2.1.keep hb35
        have hB5 := HL.out.2.2.2.1.trans (hb35.mono HL.out.2.2.2.1.size)
        have HY := Lib.hid (And.intro ho5 (And.intro hk5 hB5))
        clear hb35 ho5 hk5 hB5 HM HO4 HS5
        go_loopw [7] (fun i w6 => ∃ (k : Nat) (r : List Nat), i = .int .i64 k ∧ k ≤ (z + 1) ∧ w6.ownsRow wr.heap.size 33 1 (.slice (some ⟨bo, oo, none⟩) (z + 1) co) (z + 1) (cellsOf .u64 r) ∧ Bk w6 w.heap.size 25 #[.slice A n c] ∧ Below w.heap.size w w6) (fun i _ => (z + 1) - (intOf i).toNat)
        case atStart => exact ⟨0, l, rfl, Nat.zero_le _, HY.out.1, HY.out.2.1, HY.out.2.2⟩
        case round =>
          obtain ⟨k, r, rfl, hkl, ho6, hk6, hB6⟩ := hrel
          by_cases hkn : k < (z + 1)
          · have g5 : decide ((k : Int) < ((z + 1 : Nat) : Int)) = true := by simp <;> omega
            obtain ⟨gb, cap, e, hgb, hgl⟩ := World.ownsRow.form ho6 (by omega)
            injection e with e1 e2 e3
            simp at e1
            obtain ⟨rfl, rfl⟩ := e1
            subst e3
            obtain ⟨y, hy, hcy, hfy⟩ := Own.at_ ho6 (k := k) hkn
            have HZ := Lib.hid (And.intro ho6 (And.intro hk6 hB6))
            clear ho6 hk6 hB6 hy
            go_wp2
            obtain ⟨ho6, hk6, hB6⟩ := HZ.out
            go_roundw
            case rel => exact ⟨k + 1, r.set k 7, by go_num, by omega, Own.put ho6 k 7, hk6.far (by simp; omega) _, hB6.setCell (by simp; omega) _⟩
            case measure => simp [intOf] <;> omega
          · have g5 : decide ((k : Int) < ((z + 1 : Nat) : Int)) = false := by simp <;> omega
            have HZ := Lib.hid (And.intro hk6 hB6)
            clear ho6 hk6 hB6
            go_wp2
            obtain ⟨hk6, hB6⟩ := HZ.out
            go_roundw
            case rel => exact ⟨q + 1, by go_num, by omega, hk6, hB6⟩
            case measure => simp [intOf] <;> omega
      
    · have g1 : decide ((q : Int) < 2) = false := by simp <;> omega
      go_wp2
      go_ret
      exact ⟨rfl, hB⟩
end Go.Proofs.Ytdocpljgollcaaa
