/- Lines of package pos, by contract: texts of at most 1000 bytes; rows of texts in memory. -/
import Derived.Test.YtjocobfabdkadaaPplace
import Derived.Deep.CutBlock
namespace Go.Proofs.Ytjocobfabdkadaa
open Go.RowKit
attribute [local go_sem] alloc_drewN setCell_drewN
/-- The lines of a text. -/
def linesOf : List Nat → List (List Nat)
  | [] => [[]]
  | x :: l => if x = 10 then [] :: linesOf l else match linesOf l with
    | [] => [[x]]
    | h :: t => (x :: h) :: t
theorem linesOf_ne (l : List Nat) : linesOf l ≠ [] := by
  cases l with
  | nil => simp [linesOf]
  | cons x l =>
    unfold linesOf
    split
    · simp
    · cases linesOf l <;> simp
theorem linesOf_one : ∀ {a : List Nat}, (∀ x ∈ a, x ≠ 10) → linesOf a = [a]
  | [], _ => rfl
  | x :: a, h => by
    unfold linesOf
    rw [if_neg (h x (List.mem_cons_self ..)), linesOf_one (fun y hy => h y (List.mem_cons_of_mem _ hy))]
theorem linesOf_cut : ∀ {a : List Nat} (b : List Nat), (∀ x ∈ a, x ≠ 10) → linesOf (a ++ 10 :: b) = a :: linesOf b
  | [], b, _ => by simp [linesOf]
  | x :: a, b, h => by
    have ih := linesOf_cut b (fun y hy => h y (List.mem_cons_of_mem _ hy))
    rw [List.cons_append]
    rw [linesOf, if_neg (h x (List.mem_cons_self ..)), ih]
theorem mem_ten {l : List Nat} (h : ∀ k : Nat, l[k]? ≠ some 10) : ∀ x ∈ l, x ≠ 10 := fun x hx e => by
  obtain ⟨i, hi⟩ := List.mem_iff_getElem?.1 hx
  exact h i (by rw [hi, e])
/-- The text ahead of the first newline, and what stands behind it. -/
theorem cut_ten {l : List Nat} {o : Nat} (h : l[o]? = some 10) : l = l.take o ++ 10 :: l.drop (o + 1) := by
  obtain ⟨h1, h2⟩ := List.getElem?_eq_some_iff.1 h
  rw [← h2, ← List.drop_eq_getElem_cons h1, List.take_append_drop]
theorem take_ten {l : List Nat} {o : Nat} (h : ∀ k : Nat, k < o → l[k]? ≠ some 10) : ∀ x ∈ l.take o, x ≠ 10 := mem_ten fun k hk => by
  rw [List.getElem?_take] at hk
  split at hk
  · rename_i hko; exact h k hko hk
  · cases hk
/-! ### Rows of texts -/
theorem infoStr : (Try.prog.info? 9).map (fun i => (i.zero, i.size, i.bytes)) = some (some (.string ⟨#[]⟩), 1, 16) := by kernel_rfl
def OwnS (g : Nat) (w : World) (v : Value) (ss : List ByteArray) : Prop := w.ownsRow g 9 1 v ss.length (ss.map Value.string)
def RwS (w : World) (A : Option Addr) (n : Nat) (ss : List ByteArray) : Prop :=
  ss.length = n ∧ (0 < n → ∃ b off, A = some ⟨b, off, none⟩ ∧ b < w.heap.size ∧ ∀ (i : Nat) (s : ByteArray), ss[i]? = some s → w.cell? ⟨b, off + i, none⟩ = some (.string s))
theorem RwS.keep {w w' : World} {A : Option Addr} {n : Nat} {ss : List ByteArray} (h : RwS w A n ss) (hb : Below w.heap.size w w') : RwS w' A n ss :=
  ⟨h.1, fun hn => by
    obtain ⟨b, off, e, hl, hc⟩ := h.2 hn
    exact ⟨b, off, e, Nat.lt_of_lt_of_le hl hb.size, fun i x hx => (hb.cell (p := ⟨b, off + i, none⟩) hl).trans (hc i x hx)⟩⟩
theorem OwnS.slice {g : Nat} {w : World} {v : Value} {ss : List ByteArray} (h : OwnS g w v ss) : ∃ A c, v = .slice A ss.length c ∧ RwS w A ss.length ss ∧ ss.length ≤ c := by
  rcases h.2 with ⟨rfl, h0⟩ | ⟨b, cap, cur, rfl, hb, hh, hcap, _⟩
  · have : ss = [] := List.eq_nil_of_length_eq_zero h0
    subst this
    exact ⟨none, 0, rfl, ⟨rfl, fun h => absurd h (by simp)⟩, Nat.le_refl _⟩
  · refine ⟨_, cap, rfl, ⟨rfl, fun hn => ?_⟩, hcap⟩
    obtain ⟨g', cap', hv, _, hlt⟩ := World.ownsRow.form h hn
    injection hv with e1
    injection e1 with e1
    injection e1 with e1
    subst e1
    refine ⟨b, 0, rfl, hlt, fun i x hx => ?_⟩
    have := World.ownsRow.cells h (g := b) rfl i (.string x) (by simp [hx])
    rwa [plainAddr] at this
theorem OwnS.nil (g : Nat) (w : World) : OwnS g w (.slice none 0 0) [] := World.ownsRow_nil _ _ _ _
theorem OwnS.keep {g : Nat} {w w' : World} {v : Value} {ss : List ByteArray} (h : OwnS g w v ss) (hb : Below w.heap.size w w') : OwnS g w' v ss := by
  refine World.ownsRow.kept h (row := none) ⟨hb.os, hb.tape, hb.output, hb.size, fun k hk _ => hb.block k hk⟩ ?_
  cases v.ownBlock <;> simp
theorem new_str (w : World) (x : ByteArray) (j : Nat) (u : Value) (h : [Value.string x][j]? = some u) : (w.alloc (.cells #[.string x] 9)).cell? ((⟨w.heap.size, 0, none⟩ : Addr).add j) = some u := by
  have hj : j = 0 := by
    have := (List.getElem?_eq_some_iff.1 h).1
    simp at this; exact this
  subst hj
  simp at h
  subst h
  rw [plainAddr]
  exact (Bk.new w 9 #[.string x]).cell 0
theorem one_str (x : ByteArray) : ∀ u ∈ [Value.string x], u.oneCell' = true := fun u hu => by
  rw [List.mem_singleton.1 hu]; rfl
/-- One text more. -/
theorem OwnS.snoc {g : Nat} {w : World} {v' : Value} {ss : List ByteArray} {x : ByteArray} (h : w.ownsRow g 9 1 v' (ss.length + 1) (ss.map Value.string ++ [Value.string x])) : OwnS g w v' (ss ++ [x]) := by
  unfold OwnS
  rw [List.length_append, List.map_append]
  exact h
def strSize : Value → Nat
  | .string s => s.size
  | _ => 0
set_option maxRecDepth 100000 in
set_option maxHeartbeats 8000000 in
theorem lines_c (s : ByteArray) (w : World) (hs : s.size ≤ 1000) :
    Calls Try.prog 13 #[.string s] w fun e w' => ∃ v ss, e = .returned v ∧ OwnS w.heap.size w' v ss ∧ ss.map bys = linesOf (bys s) ∧ Below w.heap.size w w' := by
  obtain ⟨i0, hi0, hz0, hz1, hz2⟩ := info_parts infoStr
  go_enter Try.func13, Try.ntmps13
  go_wp2_with fail
  go_step3
  go_wp2_with fail
  go_step3
  go_wp2_with fail
  go_loopw [0, 3] (fun t v wr => ∃ (r : ByteArray) (done : List ByteArray), t = .string r ∧ OwnS w.heap.size wr v done ∧ done.length + r.size ≤ s.size ∧ done.map bys ++ linesOf (bys r) = linesOf (bys s) ∧ Below w.heap.size w wr) (fun t _ _ => strSize t)
  case atStart => exact ⟨s, [], rfl, OwnS.nil _ _, by simp, by simp, Below.refl _ _⟩
  case round =>
    obtain ⟨r, done, rfl, ho, hsz, hl, hB⟩ := hrel
    have hws := hB.size
    have hlr := bys_len r
    have HO := Lib.hid (And.intro ho (And.intro hl hB))
    clear ho hl hB
    have hb1 : done.length + 1 ≤ maxLen := by unfold maxLen; omega
    have hb2 : (done.length + 1) * 16 ≤ 140737488355328 := by omega
    have hv := nlAt_byte r
    obtain ⟨v, hve⟩ : ∃ v, Lib.indexByte r.data.toList 10 = v := ⟨_, rfl⟩
    rw [hve] at hv
    have HV := Lib.hid hve
    clear hve
    rcases hv with ⟨rfl, hn⟩ | ⟨o, rfl, ho, hn⟩
    · have HN := Lib.hid hn
      clear hn
      go_wp2_with (first
        | (go_at_call 31; refine (nl_w HV.out).mono ?_; rintro e w1 ⟨rfl, rfl⟩)
        | (at_builtin; refine wpList_append_own _ rfl _ _ 34 rfl w.heap.size 9 i0 (.string ⟨#[]⟩) 1 16 Try.underlying34 hi0 hz0 hz1 hz2 rfl (by decide) _ done.length (done.map Value.string) rfl (World.ownsRow.alloc HO.out.1 _) ⟨wr.heap.size, 0, none⟩ 1 1 [.string (r)] rfl rfl (new_str wr _) (one_str _) hb1 hb2 (by simp; omega) ?_; intro v' wq ho' hg' _; have HB := Lib.hid (And.intro (OwnS.snoc ho') (((HO.out.2.2.alloc (by omega) _).grown hg' (by simp; omega) (fun k hk => (HO.out.1.lt k hk).1)) : Below w.heap.size w wq)); clear ho' hg'))
      rw [Exit.noGoto_ret]
      go_ret
      refine ⟨v', done ++ [r], rfl, HB.out.1, ?_, HB.out.2⟩
      rw [← HO.out.2.1, linesOf_one (mem_ten HN.out), List.map_append]
      rfl
    · have hos : o < r.size := by
        have := (List.getElem?_eq_some_iff.1 ho).1
        omega
      have HN := Lib.hid (And.intro ho hn)
      clear ho hn
      go_wp2_with (first
        | (go_at_call 31; refine (nl_w HV.out).mono ?_; rintro e w1 ⟨rfl, rfl⟩)
        | (at_builtin; refine wpList_append_own _ rfl _ _ 34 rfl w.heap.size 9 i0 (.string ⟨#[]⟩) 1 16 Try.underlying34 hi0 hz0 hz1 hz2 rfl (by decide) _ done.length (done.map Value.string) rfl (World.ownsRow.alloc HO.out.1 _) ⟨wr.heap.size, 0, none⟩ 1 1 [.string (r.extract 0 o)] rfl rfl (new_str wr _) (one_str _) hb1 hb2 (by simp; omega) ?_; intro v' wq ho' hg' _; have HB := Lib.hid (And.intro (OwnS.snoc ho') (((HO.out.2.2.alloc (by omega) _).grown hg' (by simp; omega) (fun k hk => (HO.out.1.lt k hk).1)) : Below w.heap.size w wq)); clear ho' hg'))
      go_roundw
      case rel =>
        refine ⟨r.extract (o + 1) r.size, done ++ [r.extract 0 o], rfl, HB.out.1, by simp; omega, ?_, HB.out.2⟩
        have hc := cut_ten HN.out.1
        have e1 : bys (r.extract 0 o) = (bys r).take o := by rw [bys_extract]; simp
        have e2 : bys (r.extract (o + 1) r.size) = (bys r).drop (o + 1) := by rw [bys_extract, List.take_of_length_le (by rw [List.length_drop, hlr]; omega)]
        rw [← HO.out.2.1, List.map_append, List.append_assoc, e2]
        congr 1
        rw [List.map_singleton, e1]
        have h3 := linesOf_cut ((bys r).drop (o + 1)) (take_ten HN.out.2)
        rw [← hc] at h3
        rw [h3]
        rfl
      case measure => simp [strSize]; omega
end Go.Proofs.Ytjocobfabdkadaa
