/- fold, Join and Meet of package inter: the fold of a list of intervals, by their contracts. A slice of at most 1000. -/
import Derived.Test.YtfepaalplceaaaaLeafb
import Derived.Lib.Hide
namespace Go.Proofs.Ytfepaalplceaaaa
open Go.RowKit
/-- A slice of intervals reads as the list l. -/
def Rd (w : World) (A : Option Addr) (n : Nat) (l : List (Int × Int)) : Prop :=
  l.length = n ∧ (0 < n → ∃ b off, A = some ⟨b, off, none⟩ ∧ b < w.heap.size ∧ ∀ i (p : Int × Int), l[i]? = some p → w.cell? ⟨b, off + i * 2, none⟩ = some (.int .i64 p.1) ∧ w.cell? ⟨b, off + i * 2 + 1, none⟩ = some (.int .i64 p.2))
theorem Rd.keep {w w' : World} {A : Option Addr} {n : Nat} {l : List (Int × Int)} (h : Rd w A n l) (hb : Below w.heap.size w w') : Rd w' A n l :=
  ⟨h.1, fun hn => by
    obtain ⟨b, off, e, hl, hc⟩ := h.2 hn
    exact ⟨b, off, e, Nat.lt_of_lt_of_le hl hb.size, fun i p hp => ⟨(hb.cell (p := ⟨b, off + i * 2, none⟩) hl).trans (hc i p hp).1, (hb.cell (p := ⟨b, off + i * 2 + 1, none⟩) hl).trans (hc i p hp).2⟩⟩⟩
def jstep (p q : Int × Int) : Int × Int := (jlo p.1 p.2 q.1 q.2, jhi p.1 p.2 q.1 q.2)
def mstep (p q : Int × Int) : Int × Int := (mlo p.1 p.2 q.1 q.2, mhi p.1 p.2 q.1 q.2)
def foldF (f : Int × Int → Int × Int → Int × Int) (x y : Int) (l : List (Int × Int)) (k : Nat) : Int × Int := (l.take k).foldl f (x, y)
theorem foldF_succ (f : Int × Int → Int × Int → Int × Int) (x y : Int) (l : List (Int × Int)) (k : Nat) (p : Int × Int) (h : l[k]? = some p) : foldF f x y l (k + 1) = f (foldF f x y l k) p := by
  unfold foldF
  obtain ⟨hk, rfl⟩ := List.getElem?_eq_some_iff.1 h
  rw [List.take_succ_eq_append_getElem hk, List.foldl_append]; rfl
theorem foldF_zero (f : Int × Int → Int × Int → Int × Int) (x y : Int) (l : List (Int × Int)) : foldF f x y l 0 = (x, y) := rfl
set_option maxHeartbeats 1600000 in
theorem foldJ_c (x y : Int) (A : Option Addr) (n c : Nat) (l : List (Int × Int)) (w : World) (hr : Rd w A n l) (hn : n ≤ 1000) :
    Calls Try.prog 37 #[.agg #[.int .i64 x, .int .i64 y], .slice A n c, .func (.func 38) #[] #[]] w fun e w' => e = .returned (.agg #[.int .i64 (foldF jstep x y l n).1, .int .i64 (foldF jstep x y l n).2]) ∧ Below w.heap.size w w' := by
  go_enter Try.func37, Try.ntmps37
  go_wp2
  go_loopw [11] (fun i wr => ∃ k : Nat, k ≤ n ∧ i = .int .i64 k ∧ Bk wr w.heap.size 24 #[.int .i64 (foldF jstep x y l k).1, .int .i64 (foldF jstep x y l k).2] ∧ Bk wr (w.heap.size + 1) 24 #[.int .i64 0, .int .i64 0] ∧ Below w.heap.size w wr) (fun i _ => n - (intOf i).toNat)
  case atStart => exact ⟨0, Nat.zero_le _, rfl, (Bk.new _ _ _).alloc _, by have := Bk.new (w.alloc (.cells #[.int .i64 x, .int .i64 y] 24)) 24 #[.int .i64 0, .int .i64 0]; simpa using this, ((Below.refl _ _).alloc (Nat.le_refl _) _).alloc (by simp) _⟩
  case round =>
    obtain ⟨k, hk, rfl, hb1, hb2, hB⟩ := hrel
    have hz1 := hb2.lt
    have hz0 := hb1.lt
    by_cases hlt : k < n
    · obtain ⟨b, off, rfl, hbl, hcs⟩ := hr.2 (by omega)
      have hp : l[k]? = some (l[k]'(by have := hr.1; omega)) := List.getElem?_eq_getElem _
      have hst := foldF_succ jstep x y l k _ hp
      generalize (l[k]'(by have := hr.1; omega)) = p at hp hst
      obtain ⟨hc1, hc2⟩ := hcs k p hp
      have HST := Lib.hid hst
      clear hst hp hcs
      rw [← hB.cell (p := ⟨b, off + k * 2, none⟩) hbl] at hc1
      rw [← hB.cell (p := ⟨b, off + k * 2 + 1, none⟩) hbl] at hc2
      have d0 := hb1.cell 0
      have d1 := hb1.cell 1
      have e0 := hb2.cell 0
      have f0 := hb1.frozen 0
      have f1 := hb1.frozen 1
      generalize foldF jstep x y l k = q at *
      simp at d0 d1 e0
      go_wp2_with (first | (go_at_call 38; refine (join1_c _ _ _ _ _).mono ?_; rintro e w1 ⟨rfl, hbw⟩; obtain ⟨hcw, hfw, hzw⟩ := bcell hbw; simp at hcw hfw hzw))
      go_roundw
      case rel => exact ⟨k + 1, by omega, by go_num, by rw [HST.out]; simpa [jstep] using (((hb1.alloc _).keep hbw).put 0 _).put 1 _, (((hb2.alloc _).keep hbw).far (by simp) _).far (by simp) _, by repeat (first | exact Below.refl _ _ | assumption | refine Below.alloc ?_ (by first | omega | (simp <;> omega)) _ | refine Below.setCell ?_ (by first | omega | (simp <;> omega)) _ | refine Below.drew ?_ | refine below_drewN ?_ _ | refine Below.trans ?_ (Below.mono (by assumption) (by first | omega | (simp <;> omega))))⟩
      case measure => simp [intOf]; omega
    · obtain rfl : k = n := by omega
      have d0 := hb1.cell 0
      have d1 := hb1.cell 1
      have e0 := hb2.cell 0
      have e1 := hb2.cell 1
      have f0 := hb2.frozen 0
      have f1 := hb2.frozen 1
      clear hr
      simp at d0 d1 e0 e1
      go_wp2_with fail
      exact bodyPost_agg (by simp [results, Try.results37, go_sem, *]) rfl ⟨rfl, rfl⟩ ⟨rfl, by repeat (first | exact Below.refl _ _ | assumption | refine Below.alloc ?_ (by first | omega | (simp <;> omega)) _ | refine Below.setCell ?_ (by first | omega | (simp <;> omega)) _ | refine Below.drew ?_ | refine below_drewN ?_ _ | refine Below.trans ?_ (Below.mono (by assumption) (by first | omega | (simp <;> omega))))⟩
set_option maxHeartbeats 1600000 in
theorem foldM_c (x y : Int) (A : Option Addr) (n c : Nat) (l : List (Int × Int)) (w : World) (hr : Rd w A n l) (hn : n ≤ 1000) :
    Calls Try.prog 37 #[.agg #[.int .i64 x, .int .i64 y], .slice A n c, .func (.func 39) #[] #[]] w fun e w' => e = .returned (.agg #[.int .i64 (foldF mstep x y l n).1, .int .i64 (foldF mstep x y l n).2]) ∧ Below w.heap.size w w' := by
  go_enter Try.func37, Try.ntmps37
  go_wp2
  go_loopw [11] (fun i wr => ∃ k : Nat, k ≤ n ∧ i = .int .i64 k ∧ Bk wr w.heap.size 24 #[.int .i64 (foldF mstep x y l k).1, .int .i64 (foldF mstep x y l k).2] ∧ Bk wr (w.heap.size + 1) 24 #[.int .i64 0, .int .i64 0] ∧ Below w.heap.size w wr) (fun i _ => n - (intOf i).toNat)
  case atStart => exact ⟨0, Nat.zero_le _, rfl, (Bk.new _ _ _).alloc _, by have := Bk.new (w.alloc (.cells #[.int .i64 x, .int .i64 y] 24)) 24 #[.int .i64 0, .int .i64 0]; simpa using this, ((Below.refl _ _).alloc (Nat.le_refl _) _).alloc (by simp) _⟩
  case round =>
    obtain ⟨k, hk, rfl, hb1, hb2, hB⟩ := hrel
    have hz1 := hb2.lt
    have hz0 := hb1.lt
    by_cases hlt : k < n
    · obtain ⟨b, off, rfl, hbl, hcs⟩ := hr.2 (by omega)
      have hp : l[k]? = some (l[k]'(by have := hr.1; omega)) := List.getElem?_eq_getElem _
      have hst := foldF_succ mstep x y l k _ hp
      generalize (l[k]'(by have := hr.1; omega)) = p at hp hst
      obtain ⟨hc1, hc2⟩ := hcs k p hp
      have HST := Lib.hid hst
      clear hst hp hcs
      rw [← hB.cell (p := ⟨b, off + k * 2, none⟩) hbl] at hc1
      rw [← hB.cell (p := ⟨b, off + k * 2 + 1, none⟩) hbl] at hc2
      have d0 := hb1.cell 0
      have d1 := hb1.cell 1
      have e0 := hb2.cell 0
      have f0 := hb1.frozen 0
      have f1 := hb1.frozen 1
      generalize foldF mstep x y l k = q at *
      simp at d0 d1 e0
      go_wp2_with (first | (go_at_call 39; refine (meet1_c _ _ _ _ _).mono ?_; rintro e w1 ⟨rfl, hbw⟩; obtain ⟨hcw, hfw, hzw⟩ := bcell hbw; simp at hcw hfw hzw))
      go_roundw
      case rel => exact ⟨k + 1, by omega, by go_num, by rw [HST.out]; simpa [mstep] using (((hb1.alloc _).keep hbw).put 0 _).put 1 _, (((hb2.alloc _).keep hbw).far (by simp) _).far (by simp) _, by repeat (first | exact Below.refl _ _ | assumption | refine Below.alloc ?_ (by first | omega | (simp <;> omega)) _ | refine Below.setCell ?_ (by first | omega | (simp <;> omega)) _ | refine Below.drew ?_ | refine below_drewN ?_ _ | refine Below.trans ?_ (Below.mono (by assumption) (by first | omega | (simp <;> omega))))⟩
      case measure => simp [intOf]; omega
    · obtain rfl : k = n := by omega
      have d0 := hb1.cell 0
      have d1 := hb1.cell 1
      have e0 := hb2.cell 0
      have e1 := hb2.cell 1
      have f0 := hb2.frozen 0
      have f1 := hb2.frozen 1
      clear hr
      simp at d0 d1 e0 e1
      go_wp2_with fail
      exact bodyPost_agg (by simp [results, Try.results37, go_sem, *]) rfl ⟨rfl, rfl⟩ ⟨rfl, by repeat (first | exact Below.refl _ _ | assumption | refine Below.alloc ?_ (by first | omega | (simp <;> omega)) _ | refine Below.setCell ?_ (by first | omega | (simp <;> omega)) _ | refine Below.drew ?_ | refine below_drewN ?_ _ | refine Below.trans ?_ (Below.mono (by assumption) (by first | omega | (simp <;> omega))))⟩
set_option maxHeartbeats 1600000 in
theorem join_c (A : Option Addr) (n c : Nat) (l : List (Int × Int)) (w : World) (hr : Rd w A n l) (hn : n ≤ 1000) :
    Calls Try.prog 13 #[.slice A n c] w fun e w' => e = .returned (.agg #[.int .i64 (foldF jstep 1 0 l n).1, .int .i64 (foldF jstep 1 0 l n).2]) ∧ Below w.heap.size w w' := by
  go_enter Try.func13, Try.ntmps13
  go_wp2_with fail
  refine (empty_c _).mono ?_
  rintro e w1 ⟨rfl, hb1⟩
  obtain ⟨hc1, hf1, hz1⟩ := bcell hb1
  simp at hc1 hf1 hz1
  have hr1 := (hr.keep ((Below.refl _ _).alloc (Nat.le_refl _) (.cells #[.int .i64 0, .int .i64 0] 24))).keep hb1
  have HR := Lib.hid hr1
  clear hr hr1
  go_wp2_with fail
  refine (foldJ_c _ _ _ _ _ l _ HR.out hn).mono ?_
  rintro e w2 ⟨rfl, hb2⟩
  obtain ⟨hc2, hf2, hz2⟩ := bcell hb2
  have hz3 : w.heap.size < w1.heap.size := by omega
  go_wp2_with fail
  exact bodyPost_agg (by simp [results, Try.results13, go_sem, *]) rfl ⟨rfl, rfl⟩ ⟨rfl, by repeat (first | exact Below.refl _ _ | assumption | refine Below.alloc ?_ (by first | omega | (simp <;> omega)) _ | refine Below.setCell ?_ (by first | omega | (simp <;> omega)) _ | refine Below.drew ?_ | refine below_drewN ?_ _ | refine Below.trans ?_ (Below.mono (by assumption) (by first | omega | (simp <;> omega))))⟩
set_option maxHeartbeats 1600000 in
theorem meet_c (A : Option Addr) (n c : Nat) (l : List (Int × Int)) (w : World) (hr : Rd w A n l) (hn : n ≤ 1000) :
    Calls Try.prog 14 #[.slice A n c] w fun e w' => e = .returned (.agg #[.int .i64 (foldF mstep (-9223372036854775808) 9223372036854775807 l n).1, .int .i64 (foldF mstep (-9223372036854775808) 9223372036854775807 l n).2]) ∧ Below w.heap.size w w' := by
  go_enter Try.func14, Try.ntmps14
  go_wp2_with fail
  refine (whole_c _).mono ?_
  rintro e w1 ⟨rfl, hb1⟩
  obtain ⟨hc1, hf1, hz1⟩ := bcell hb1
  simp at hc1 hf1 hz1
  have hr1 := (hr.keep ((Below.refl _ _).alloc (Nat.le_refl _) (.cells #[.int .i64 0, .int .i64 0] 24))).keep hb1
  have HR := Lib.hid hr1
  clear hr hr1
  go_wp2_with fail
  refine (foldM_c _ _ _ _ _ l _ HR.out hn).mono ?_
  rintro e w2 ⟨rfl, hb2⟩
  obtain ⟨hc2, hf2, hz2⟩ := bcell hb2
  have hz3 : w.heap.size < w1.heap.size := by omega
  go_wp2_with fail
  exact bodyPost_agg (by simp [results, Try.results14, go_sem, *]) rfl ⟨rfl, rfl⟩ ⟨rfl, by repeat (first | exact Below.refl _ _ | assumption | refine Below.alloc ?_ (by first | omega | (simp <;> omega)) _ | refine Below.setCell ?_ (by first | omega | (simp <;> omega)) _ | refine Below.drew ?_ | refine below_drewN ?_ _ | refine Below.trans ?_ (Below.mono (by assumption) (by first | omega | (simp <;> omega))))⟩
end Go.Proofs.Ytfepaalplceaaaa
