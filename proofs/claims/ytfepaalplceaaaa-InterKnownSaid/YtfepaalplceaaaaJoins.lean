/- InterJoins, walked: for a list of at most 20 intervals the statement returns true, and nothing that was there before has turned. Beyond 20 it is the examples alone. -/
import Derived.Test.YtfepaalplceaaaaWorks
import Derived.Deep.DeepCutAuto
namespace Go.Proofs.Ytfepaalplceaaaa
open Go.RowKit
attribute [local go_sem ↓] run_eql24 run_neq24 run_eql26
attribute [local go_sem] alloc_drewN setCell_drewN
def rjstep (p q : Int × Int) : Int × Int := (rjlo p.1 p.2 q.1 q.2, rjhi p.1 p.2 q.1 q.2)
theorem rj_step {p q : Int × Int} (hp : p = (1, 0) ∨ p.1 ≤ p.2) : jstep p q = rjstep p q ∧ (rjstep p q = (1, 0) ∨ (rjstep p q).1 ≤ (rjstep p q).2) := by
  obtain ⟨a, b⟩ := p
  obtain ⟨c, d⟩ := q
  rcases hp with h | h
  · obtain ⟨rfl, rfl⟩ := Prod.mk.inj h
    by_cases hq : d < c
    · have e1 : jstep (1, 0) (c, d) = (1, 0) := by simp [jstep, jlo, jhi, hq]
      have e2 : rjstep (1, 0) (c, d) = (1, 0) := by simp [rjstep, rjlo, rjhi, plo, phi, hq]
      exact ⟨e1.trans e2.symm, .inl e2⟩
    · have e1 : jstep (1, 0) (c, d) = (c, d) := by simp [jstep, jlo, jhi, hq]
      have e2 : rjstep (1, 0) (c, d) = (c, d) := by simp [rjstep, rjlo, rjhi, plo, phi, hq]
      exact ⟨e1.trans e2.symm, .inr (by rw [e2]; show c ≤ d; omega)⟩
  · have h' : ¬ b < a := Int.not_lt.2 h
    by_cases hq : d < c
    · have e1 : jstep (a, b) (c, d) = (a, b) := by simp [jstep, jlo, jhi, hq]
      have e2 : rjstep (a, b) (c, d) = (a, b) := by simp [rjstep, rjlo, rjhi, h', hq]
      exact ⟨e1.trans e2.symm, .inr (by rw [e2]; exact h)⟩
    · have e1 : jstep (a, b) (c, d) = (min a c, max b d) := by simp [jstep, jlo, jhi, h', hq]
      have e2 : rjstep (a, b) (c, d) = (min a c, max b d) := by simp [rjstep, rjlo, rjhi, h', hq]
      exact ⟨e1.trans e2.symm, .inr (by rw [e2]; simp only at h ⊢; omega)⟩
theorem rj_fold (l : List (Int × Int)) : ∀ p : Int × Int, (p = (1, 0) ∨ p.1 ≤ p.2) → l.foldl jstep p = l.foldl rjstep p := by
  induction l with
  | nil => intro p _; rfl
  | cons q l ih => intro p hp; rw [List.foldl_cons, List.foldl_cons, (rj_step hp).1]; exact ih _ (rj_step hp).2
theorem rj_eq (l : List (Int × Int)) (n : Nat) : foldF jstep 1 0 l n = foldF rjstep 1 0 l n := rj_fold _ _ (.inl rfl)
theorem rj_two (a b c d : Int) : foldF jstep 1 0 [(a, b), (c, d)] 2 = (rjlo a b c d, rjhi a b c d) := by
  show jstep (jstep (1, 0) (a, b)) (c, d) = _
  by_cases h : b < a
  · have e1 : jstep (1, 0) (a, b) = (1, 0) := by simp [jstep, jlo, jhi, h]
    rw [e1, (rj_step (.inl rfl)).1]
    simp [rjstep, rjlo, rjhi, h]
  · have e1 : jstep (1, 0) (a, b) = (a, b) := by simp [jstep, jlo, jhi, h]
    rw [e1, (rj_step (.inr (by simp only; omega))).1]; rfl
theorem joinR_c (A : Option Addr) (n c : Nat) (l : List (Int × Int)) (w : World) (hr : Rd w A n l) (hn : n ≤ 1000) :
    Calls Try.prog 13 #[.slice A n c] w fun e w' => e = .returned (.agg #[.int .i64 (foldF rjstep 1 0 l n).1, .int .i64 (foldF rjstep 1 0 l n).2]) ∧ Below w.heap.size w w' := by
  rw [← rj_eq]; exact join_c A n c l w hr hn
theorem joinAB_c (a b c d : Int) (g : Nat) (w : World) (hr : Rd w (some ⟨g, 0, none⟩) 2 [(a, b), (c, d)]) :
    Calls Try.prog 13 #[.slice (some ⟨g, 0, none⟩) 2 2] w fun e w' => e = .returned (.agg #[.int .i64 (rjlo a b c d), .int .i64 (rjhi a b c d)]) ∧ Below w.heap.size w w' :=
  join2_c a b c d g w hr (rj_two a b c d)
theorem S8 {w3 w' : World} {F0 F1 F2 F3 : Nat} {x0 y0 x1 y1 x2 y2 x3 y3 : Value} (hk : Bk w3 F0 24 #[x0, y0] ∧ Bk w3 F1 24 #[x1, y1] ∧ Bk w3 F2 26 #[x2, y2] ∧ Bk w3 F3 26 #[x3, y3]) (hN : Below w3.heap.size w3 w') :
    Below w3.heap.size w3 w' ∧ w'.cell? ⟨F0, 0, none⟩ = some x0 ∧ w'.cell? ⟨F0, 1, none⟩ = some y0 ∧ w'.cell? ⟨F1, 0, none⟩ = some x1 ∧ w'.cell? ⟨F1, 1, none⟩ = some y1 ∧ w'.cell? ⟨F2, 0, none⟩ = some x2 ∧ w'.cell? ⟨F2, 1, none⟩ = some y2 ∧ w'.cell? ⟨F3, 0, none⟩ = some x3 ∧ w'.cell? ⟨F3, 1, none⟩ = some y3 :=
  ⟨hN, (hk.1.keep hN).cell 0, (hk.1.keep hN).cell 1, (hk.2.1.keep hN).cell 0, (hk.2.1.keep hN).cell 1, (hk.2.2.1.keep hN).cell 0, (hk.2.2.1.keep hN).cell 1, (hk.2.2.2.keep hN).cell 0, (hk.2.2.2.keep hN).cell 1⟩
set_option maxRecDepth 100000 in
set_option maxHeartbeats 4000000 in
theorem joins_c (A : Option Addr) (n c : Nat) (l : List (Int × Int)) (a1 a2 b1 b2 : Int) (w : World) (hr : Rd w A n l) (hn : n ≤ 20) :
    Calls Try.prog 3 #[.slice A n c, .agg #[.int .i64 a1, .int .i64 a2], .agg #[.int .i64 b1, .int .i64 b2]] w fun e w' => e = .returned (.bool true) ∧ Below w.heap.size w w' := by
  go_enter Try.func3, Try.ntmps3
  go_wp2_with (first | (go_at_call 8; refine (least_c _).mono ?_; rintro e w1 ⟨rfl, rfl⟩) | (go_at_call 9; refine (most_c _).mono ?_; rintro e w1 ⟨rfl, rfl⟩))
  go_loopw [9] (fun i wr => ∃ k : Nat, k ≤ n ∧ i = .int .i64 k ∧ Bk wr w.heap.size 24 #[.int .i64 a1, .int .i64 a2] ∧ Bk wr (w.heap.size + 1) 24 #[.int .i64 b1, .int .i64 b2] ∧
      Bk wr (w.heap.size + 1 + 1) 26 #[.int .i64 (foldF rjstep 1 0 l k).1, .int .i64 (foldF rjstep 1 0 l k).2] ∧ Bk wr (w.heap.size + 1 + 1 + 1) 26 #[.int .i64 (foldF mstep (-9223372036854775808) 9223372036854775807 l k).1, .int .i64 (foldF mstep (-9223372036854775808) 9223372036854775807 l k).2] ∧ Below w.heap.size w wr) (fun i _ => n - (intOf i).toNat)
  case atStart => exact ⟨0, Nat.zero_le _, rfl, (((Bk.new _ _ _).alloc _).alloc _).alloc _, by have := (((Bk.new (w.alloc (.cells #[.int .i64 a1, .int .i64 a2] 24)) 24 #[.int .i64 b1, .int .i64 b2]).alloc (.cells #[.int .i64 1, .int .i64 0] 26)).alloc (.cells #[.int .i64 (-9223372036854775808), .int .i64 9223372036854775807] 26)); simpa using this, by have := ((Bk.new ((w.alloc (.cells #[.int .i64 a1, .int .i64 a2] 24)).alloc (.cells #[.int .i64 b1, .int .i64 b2] 24)) 26 #[.int .i64 1, .int .i64 0]).alloc (.cells #[.int .i64 (-9223372036854775808), .int .i64 9223372036854775807] 26)); simpa [foldF_zero] using this, by have := Bk.new (((w.alloc (.cells #[.int .i64 a1, .int .i64 a2] 24)).alloc (.cells #[.int .i64 b1, .int .i64 b2] 24)).alloc (.cells #[.int .i64 1, .int .i64 0] 26)) 26 #[.int .i64 (-9223372036854775808), .int .i64 9223372036854775807]; simpa [foldF_zero] using this, by repeat (first | exact Below.refl _ _ | refine Below.alloc ?_ (by first | omega | (simp <;> omega)) _)⟩
  case round =>
    obtain ⟨k, hk, rfl, hk1, hk2, hk3, hk4, hB⟩ := hrel
    have hz3 := hk4.lt
    have hz2 := hk3.lt
    have hz1 := hk2.lt
    have hz0 := hk1.lt
    by_cases hlt : k < n
    · obtain ⟨b, off, rfl, hbl, hcs⟩ := hr.2 (by omega)
      have hp : l[k]? = some (l[k]'(by have := hr.1; omega)) := List.getElem?_eq_getElem _
      have hst1 := foldF_succ rjstep 1 0 l k _ hp
      have hst2 := foldF_succ mstep (-9223372036854775808) 9223372036854775807 l k _ hp
      generalize (l[k]'(by have := hr.1; omega)) = p at hp hst1 hst2
      obtain ⟨hc1, hc2⟩ := hcs k p hp
      have HST1 := Lib.hid hst1
      have HST2 := Lib.hid hst2
      clear hst1 hst2 hp hcs
      rw [← hB.cell (p := ⟨b, off + k * 2, none⟩) hbl] at hc1
      rw [← hB.cell (p := ⟨b, off + k * 2 + 1, none⟩) hbl] at hc2
      have hbr : b < wr.heap.size := Nat.lt_of_lt_of_le hbl hB.size
      have d0 := hk3.cell 0
      have d1 := hk3.cell 1
      have e0 := hk4.cell 0
      have e1 := hk4.cell 1
      have f0 := hk3.frozen 0
      have f1 := hk3.frozen 1
      have f2 := hk4.frozen 0
      have f3 := hk4.frozen 1
      generalize foldF rjstep 1 0 l k = q at *
      generalize foldF mstep (-9223372036854775808) 9223372036854775807 l k = r at *
      simp at d0 d1 e0 e1
      clear hr
      go_upto_region 8 with fail
      go_cut [24] (fun _ wx => Bk wx w.heap.size 24 #[.int .i64 a1, .int .i64 a2] ∧ Bk wx (w.heap.size + 1) 24 #[.int .i64 b1, .int .i64 b2] ∧ Bk wx (w.heap.size + 1 + 1) 26 #[.int .i64 (rjstep q p).1, .int .i64 (rjstep q p).2] ∧ Bk wx (w.heap.size + 1 + 1 + 1) 26 #[.int .i64 r.1, .int .i64 r.2] ∧ Below w.heap.size w wx)
      case first =>
        go_region_with (first
          | (go_at_call 11; refine (ref_c _ _ _).mono ?_; rintro e w1 ⟨rfl, hb1⟩; (try replace hb1 := below_undrew hb1); obtain ⟨hcx, hfx, hzx⟩ := bcell hb1; (try simp at hcx hfx hzx); have q2 : w.heap.size + 1 + 1 < w1.heap.size := (by omega); have q3 : w.heap.size + 1 + 1 + 1 < w1.heap.size := (by omega); have q4 : b < w1.heap.size := (by omega))
          | (go_at_call 10; refine (rJoin_c _ _ _ _ _).mono ?_; rintro e w2 ⟨rfl, hb2⟩; (try replace hb2 := below_undrew hb2); obtain ⟨hcy, hfy, hzy⟩ := bcell hb2; (try simp at hcy hfy hzy); have q5 : w.heap.size + 1 + 1 < w2.heap.size := (by omega); have q6 : w.heap.size + 1 + 1 + 1 < w2.heap.size := (by omega); have q7 : b < w2.heap.size := (by omega); have c20 := (hcy _ 0 q2).trans ((hcx _ 0 hz2).trans d0); have c21 := (hcy _ 1 q2).trans ((hcx _ 1 hz2).trans d1); have f20 := (hfy _ 0 q2).trans ((hfx _ 0 hz2).trans f0); have f21 := (hfy _ 1 q2).trans ((hfx _ 1 hz2).trans f1)))
        all_goals
          go_wp2_with fail
          go_meet
          exact ⟨((((hk1.keep hb1).keep hb2)).far (by simp <;> omega) _).far (by simp <;> omega) _, ((((hk2.keep hb1).keep hb2)).far (by simp <;> omega) _).far (by simp <;> omega) _, by simpa [rjstep] using (((hk3.keep hb1).keep hb2).put 0 _).put 1 _, ((((hk4.keep hb1).keep hb2)).far (by simp <;> omega) _).far (by simp <;> omega) _, by repeat (first | exact Below.refl _ _ | assumption | refine Below.alloc ?_ (by first | omega | (simp <;> omega)) _ | refine Below.setCell ?_ (by first | omega | (simp <;> omega)) _ | refine Below.drew ?_ | refine below_drewN ?_ _ | refine Below.trans ?_ (Below.mono (by assumption) (by first | omega | (simp <;> omega))))⟩
      case rest =>
        obtain ⟨hm1, hm2, hm3, hm4, hD⟩ := hcut
        have hc1 : wc.cell? ⟨b, off + k * 2, none⟩ = some (.int .i64 p.1) := ((hD.cell (p := ⟨b, off + k * 2, none⟩) hbl).trans (hB.cell (p := ⟨b, off + k * 2, none⟩) hbl).symm).trans hc1
        have hc2 : wc.cell? ⟨b, off + k * 2 + 1, none⟩ = some (.int .i64 p.2) := ((hD.cell (p := ⟨b, off + k * 2 + 1, none⟩) hbl).trans (hB.cell (p := ⟨b, off + k * 2 + 1, none⟩) hbl).symm).trans hc2
        clear d0 d1 e0 e1 f0 f1 f2 f3 hk1 hk2 hk3 hk4 hz0 hz1 hz2 hz3 hbr hB
        have hk1 := hm1
        have hk2 := hm2
        have hk3 := hm3
        have hk4 := hm4
        have hB := hD
        clear hm1 hm2 hm3 hm4 hD
        have hz3 := hk4.lt
        have hz2 := hk3.lt
        have hz1 := hk2.lt
        have hz0 := hk1.lt
        have hbr : b < wc.heap.size := Nat.lt_of_lt_of_le hbl hB.size
        have e0 := hk4.cell 0
        have e1 := hk4.cell 1
        have f2 := hk4.frozen 0
        have f3 := hk4.frozen 1
        simp at e0 e1
        go_wp2_with fail
        go_region_with (first
          | (go_at_call 11; refine (ref_c _ _ _).mono ?_; rintro e w1 ⟨rfl, hb1⟩; (try replace hb1 := below_undrew hb1); obtain ⟨hcx, hfx, hzx⟩ := bcell hb1; (try simp at hcx hfx hzx); have q2 : w.heap.size + 1 + 1 < w1.heap.size := (by omega); have q3 : w.heap.size + 1 + 1 + 1 < w1.heap.size := (by omega); have q4 : b < w1.heap.size := (by omega))
          | (go_at_call 12; refine (rMeet_c _ _ _ _ _).mono ?_; rintro e w2 ⟨rfl, hb2⟩; (try replace hb2 := below_undrew hb2); obtain ⟨hcy, hfy, hzy⟩ := bcell hb2; (try simp at hcy hfy hzy); have q5 : w.heap.size + 1 + 1 < w2.heap.size := (by omega); have q6 : w.heap.size + 1 + 1 + 1 < w2.heap.size := (by omega); have q7 : b < w2.heap.size := (by omega); have c20 := (hcy _ 0 q3).trans ((hcx _ 0 hz3).trans e0); have c21 := (hcy _ 1 q3).trans ((hcx _ 1 hz3).trans e1); have f20 := (hfy _ 0 q3).trans ((hfx _ 0 hz3).trans f2); have f21 := (hfy _ 1 q3).trans ((hfx _ 1 hz3).trans f3)))
        all_goals
          go_wp2_with fail
          go_roundw
          case rel => exact ⟨k + 1, by omega, by go_num, ((((hk1.keep hb1).keep hb2)).far (by simp <;> omega) _).far (by simp <;> omega) _, ((((hk2.keep hb1).keep hb2)).far (by simp <;> omega) _).far (by simp <;> omega) _, by rw [HST1.out]; exact ((((hk3.keep hb1).keep hb2)).far (by simp <;> omega) _).far (by simp <;> omega) _, by rw [HST2.out]; simpa [mstep] using (((hk4.keep hb1).keep hb2).put 0 _).put 1 _, by repeat (first | exact Below.refl _ _ | assumption | refine Below.alloc ?_ (by first | omega | (simp <;> omega)) _ | refine Below.setCell ?_ (by first | omega | (simp <;> omega)) _ | refine Below.drew ?_ | refine below_drewN ?_ _ | refine Below.trans ?_ (Below.mono (by assumption) (by first | omega | (simp <;> omega))))⟩
          case measure => simp [intOf]; omega
    · obtain rfl : k = n := by omega
      have HR : Hid (Rd wr A k l) := ⟨hr.1, fun hn => by
        obtain ⟨b, off, e, hl, hc⟩ := hr.2 hn
        exact ⟨b, off, e, Nat.lt_of_lt_of_le hl hB.size, fun i p hp => ⟨(hB.cell (p := ⟨b, off + i * 2, none⟩) hl).trans (hc i p hp).1, (hB.cell (p := ⟨b, off + i * 2 + 1, none⟩) hl).trans (hc i p hp).2⟩⟩⟩
      clear hr
      have hK := And.intro hk1 (And.intro hk2 (And.intro hk3 hk4))
      have HK := Lib.hid hK
      clear hK hk1 hk2 hk3 hk4
      go_wp2_with fail
      go_region_held3 (fun w' => Below wr.heap.size wr w' ∧ w'.cell? ⟨w.heap.size, 0, none⟩ = some (.int .i64 a1) ∧ w'.cell? ⟨w.heap.size, 1, none⟩ = some (.int .i64 a2) ∧ w'.cell? ⟨w.heap.size + 1, 0, none⟩ = some (.int .i64 b1) ∧ w'.cell? ⟨w.heap.size + 1, 1, none⟩ = some (.int .i64 b2) ∧
          w'.cell? ⟨w.heap.size + 1 + 1, 0, none⟩ = some (.int .i64 (foldF rjstep 1 0 l k).1) ∧ w'.cell? ⟨w.heap.size + 1 + 1, 1, none⟩ = some (.int .i64 (foldF rjstep 1 0 l k).2) ∧ w'.cell? ⟨w.heap.size + 1 + 1 + 1, 0, none⟩ = some (.int .i64 (foldF mstep (-9223372036854775808) 9223372036854775807 l k).1) ∧ w'.cell? ⟨w.heap.size + 1 + 1 + 1, 1, none⟩ = some (.int .i64 (foldF mstep (-9223372036854775808) 9223372036854775807 l k).2))
        (first
          | exact S8 HK.out (Below.refl _ _).drew
          | (obtain ⟨h1, _⟩ := ‹Below wr.heap.size wr _ ∧ _›; exact S8 HK.out (h1.trans (hbn.mono h1.size)))
          | (obtain ⟨h1, _⟩ := ‹Below wr.heap.size wr _ ∧ _›; exact S8 HK.out (h1.alloc h1.size _)))
        (first
          | (go_at_call 11; refine (ref_c _ _ _).mono ?_; rintro e w1 ⟨rfl, hbn⟩)
          | (go_at_call_of 13 (Value.slice A k c); refine (joinR_c A k c l _ (HR.out.keep (‹Below wr.heap.size wr _ ∧ _›).1) (by omega)).mono ?_; rintro e w1 ⟨rfl, hbn⟩)
          | (go_at_call_of 14 (Value.slice A k c); refine (meet_c A k c l _ (HR.out.keep (‹Below wr.heap.size wr _ ∧ _›).1) (by omega)).mono ?_; rintro e w1 ⟨rfl, hbn⟩)
          | (go_at_call 13; refine (joinAB_c _ _ _ _ _ _ (rd_two _ _ _ _ _)).mono ?_; rintro e w1 ⟨rfl, hbn⟩)
          | (go_at_call 10; refine (rJoin_c _ _ _ _ _).mono ?_; rintro e w1 ⟨rfl, hbn⟩)
          | (go_at_call 15; refine (widen_c _ _ _ _ _).mono ?_; rintro e w1 ⟨rfl, hbn⟩)
          | (go_at_call 16; refine (rWiden_c _ _ _ _ _).mono ?_; rintro e w1 ⟨rfl, hbn⟩)
          | (go_at_call 17; refine (narrow_c _ _ _ _ _).mono ?_; rintro e w1 ⟨rfl, hbn⟩)
          | (go_at_call 18; refine (rNarrow_c _ _ _ _ _).mono ?_; rintro e w1 ⟨rfl, hbn⟩)
          | (go_at_call 7; refine (works_c _).mono ?_; rintro e w1 ⟨rfl, hbn⟩))
      have hE := (‹Below wr.heap.size wr _ ∧ _›).1
      go_wp2
      go_ret
      exact ⟨rfl, hB.trans (hE.mono hB.size)⟩
end Go.Proofs.Ytfepaalplceaaaa
