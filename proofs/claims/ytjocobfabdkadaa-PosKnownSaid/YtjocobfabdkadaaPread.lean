/- Read and ReadFault of package pos, by contract: texts of at most 1000 bytes. -/
import Derived.Test.YtjocobfabdkadaaPwork
import Derived.Deep.DeepCutAuto
namespace Go.Proofs.Ytjocobfabdkadaa
open Go.RowKit
attribute [local go_sem] alloc_drewN setCell_drewN
/-- A row, ahead of a byte's first place, and behind it. -/
def cutB (c : Nat) : List Nat → Option (List Nat × List Nat)
  | [] => none
  | x :: l => if x = c then some ([], l) else (cutB c l).map fun p => (x :: p.1, p.2)
theorem cutB_mid {c : Nat} : ∀ {a b : List Nat}, (∀ x ∈ a, x ≠ c) → cutB c (a ++ c :: b) = some (a, b)
  | [], b, _ => by simp [cutB]
  | x :: a, b, h => by
    rw [List.cons_append]
    unfold cutB
    rw [if_neg (h x (List.mem_cons_self ..)), cutB_mid (fun y hy => h y (List.mem_cons_of_mem _ hy))]
    rfl
theorem cutB_no {c : Nat} : ∀ {l : List Nat}, (∀ x ∈ l, x ≠ c) → cutB c l = none
  | [], _ => rfl
  | x :: l, h => by
    unfold cutB
    rw [if_neg (h x (List.mem_cons_self ..)), cutB_no (fun y hy => h y (List.mem_cons_of_mem _ hy))]
    rfl
theorem cutB_none {c : Nat} {l : List Nat} (h : ∀ k : Nat, l[k]? ≠ some c) : cutB c l = none := cutB_no fun x hx e => by
  obtain ⟨i, hi⟩ := List.mem_iff_getElem?.1 hx
  exact h i (by rw [hi, e])
theorem cutB_some {c o : Nat} {l : List Nat} (ho : l[o]? = some c) (h : ∀ k : Nat, k < o → l[k]? ≠ some c) : cutB c l = some (l.take o, l.drop (o + 1)) := by
  obtain ⟨h1, h2⟩ := List.getElem?_eq_some_iff.1 ho
  have e : l = l.take o ++ c :: l.drop (o + 1) := by rw [← h2, ← List.drop_eq_getElem_cons h1, List.take_append_drop]
  have hm : ∀ x ∈ l.take o, x ≠ c := fun x hx e => by
    obtain ⟨i, hi⟩ := List.mem_iff_getElem?.1 hx
    rw [List.getElem?_take] at hi
    split at hi
    · rename_i hio; exact h i hio (by rw [hi, e])
    · cases hi
  have := cutB_mid (b := l.drop (o + 1)) hm
  rwa [← e] at this
def fstAt (c : Nat) (l : List Nat) (v : Int) : Prop := (v = -1 ∧ ∀ k : Nat, l[k]? ≠ some c) ∨ ∃ o : Nat, v = o ∧ l[o]? = some c ∧ ∀ k : Nat, k < o → l[k]? ≠ some c
theorem fstAt_byte (s : ByteArray) (c : UInt8) : fstAt c.toNat (bys s) (Lib.indexByte s.data.toList c) := by
  have hge := Lib.indexByte_ge s.data.toList c
  by_cases h : Lib.indexByte s.data.toList c = -1
  · exact .inl ⟨h, fun k hk => Lib.indexByte_none h k ((bys_get s k c).1 hk)⟩
  · obtain ⟨o, ho⟩ : ∃ o : Nat, Lib.indexByte s.data.toList c = o := ⟨(Lib.indexByte s.data.toList c).toNat, by omega⟩
    have h1 := Lib.indexByte_some ho
    exact .inr ⟨o, ho, (bys_get s o c).2 h1.1, fun k hk e => h1.2 k hk ((bys_get s k c).1 e)⟩
theorem index_w {s : ByteArray} {c : UInt8} {v : Int} {w : World} (h : Lib.indexByte s.data.toList c = v) : Calls Try.prog 53 #[.string s, .string ⟨#[c]⟩] w fun e w' => e = .returned (.int .i64 v) ∧ w = w' :=
  (Try.stringslite_Index_one s c w).mono fun _ _ ⟨h1, h2⟩ => ⟨by rw [h1, h], h2.symm⟩
set_option maxRecDepth 100000 in
set_option maxHeartbeats 4000000 in
theorem liteCut_some (s : ByteArray) (c : UInt8) (o : Nat) (w : World) (hs : s.size ≤ 1000) (ho : o < s.size) (h : Lib.indexByte s.data.toList c = o) :
    Calls Try.prog 48 #[.string s, .string ⟨#[c]⟩] w fun e w' => e = .returned (.tuple #[.string (s.extract 0 o), .string (s.extract (o + 1) s.size), .bool true]) ∧ ∃ q, w' = w.drewN q := by
  have HV := Lib.hid h
  clear h
  go_enter Try.func48, Try.ntmps48
  go_upto_region 3 with (go_at_call 53; refine (index_w HV.out).mono ?_; rintro e w1 ⟨rfl, rfl⟩)
  have e1 : IntKind.i64.wrap ((o : Int) + 1) = (o : Int) + 1 := IntWalk.i64_in _ (by omega)
  have e2 : (0 : Int) ≤ (o : Int) + 1 := by omega
  have e3 : ((o : Int) + 1).toNat = o + 1 := by omega
  have e4 : (o : Int) + 1 ≤ (s.size : Int) := by omega
  have e5 : (o : Int) ≤ (s.size : Int) := by omega
  go_quiet (fail)
  clear e1 e2 e3 e4 e5
  go_wp2_with fail
  go_ret3
  exact ⟨rfl, _, rfl⟩
set_option maxRecDepth 100000 in
set_option maxHeartbeats 4000000 in
theorem liteCut_none (s : ByteArray) (c : UInt8) (w : World) (h : Lib.indexByte s.data.toList c = -1) :
    Calls Try.prog 48 #[.string s, .string ⟨#[c]⟩] w fun e w' => e = .returned (.tuple #[.string s, .string ⟨#[]⟩, .bool false]) ∧ w = w' := by
  have HV := Lib.hid h
  clear h
  go_enter Try.func48, Try.ntmps48
  go_wp2_with (go_at_call 53; refine (index_w HV.out).mono ?_; rintro e w1 ⟨rfl, rfl⟩)
  go_ret3
  exact ⟨rfl, rfl⟩
set_option maxRecDepth 100000 in
theorem cut_some (s : ByteArray) (c : UInt8) (o : Nat) (w : World) (hs : s.size ≤ 1000) (ho : o < s.size) (h : Lib.indexByte s.data.toList c = o) :
    Calls Try.prog 34 #[.string s, .string ⟨#[c]⟩] w fun e w' => e = .returned (.tuple #[.string (s.extract 0 o), .string (s.extract (o + 1) s.size), .bool true]) ∧ Below w.heap.size w w' := by
  have HV := Lib.hid h
  clear h
  go_enter Try.func34, Try.ntmps34
  go_wp2_with (go_at_call 48; refine (liteCut_some s c o _ hs ho HV.out).mono ?_; rintro e w1 ⟨rfl, q, rfl⟩)
  go_ret3
  exact ⟨rfl, below_drewN (Below.refl _ _) q⟩
set_option maxRecDepth 100000 in
theorem cut_none (s : ByteArray) (c : UInt8) (w : World) (h : Lib.indexByte s.data.toList c = -1) :
    Calls Try.prog 34 #[.string s, .string ⟨#[c]⟩] w fun e w' => e = .returned (.tuple #[.string s, .string ⟨#[]⟩, .bool false]) ∧ Below w.heap.size w w' := by
  have HV := Lib.hid h
  clear h
  go_enter Try.func34, Try.ntmps34
  go_wp2_with (go_at_call 48; refine (liteCut_none s c _ HV.out).mono ?_; rintro e w1 ⟨rfl, rfl⟩)
  go_ret3
  exact ⟨rfl, Below.refl _ _⟩
/-- A whole number, or none. -/
theorem pwe_bool (l : List Nat) : (pwe l != 0) = !decide (pwe l = 0) := by
  rcases pwe_cases l with h | h <;> rw [h] <;> rfl
theorem pwv_no {l : List Nat} (h : pwe l ≠ 0) : pwv l = 0 := by
  unfold pwe at h
  unfold pwv
  by_cases hp : pwOk l
  · rw [if_pos hp] at h; exact absurd rfl h
  · rw [if_neg hp]
set_option maxRecDepth 100000 in
theorem whole_b (s : ByteArray) (w : World) (hs : s.size ≤ 1000) :
    Calls Try.prog 35 #[.string s] w fun e w' => e = .returned (.tuple #[.int .i64 (pwv (bys s)), .bool (decide (pwe (bys s) = 0))]) ∧ Below w.heap.size w w' := by
  obtain ⟨v, hv⟩ : ∃ v, pwv (bys s) = v := ⟨_, rfl⟩
  obtain ⟨E, hE⟩ : ∃ E, pwe (bys s) = E := ⟨_, rfl⟩
  have hz : E ≠ 0 → v = 0 := fun h => by rw [← hv]; exact pwv_no (by rw [hE]; exact h)
  have HV := Lib.hid (And.intro hv (And.intro hE hz))
  rw [hv, hE]
  clear hv hE hz
  by_cases h : E = 0
  · subst h
    go_enter Try.func35, Try.ntmps35
    go_wp2_with (go_at_call 49; refine (parseWhole_c s _ hs).mono ?_; rintro e w1 ⟨rfl, hb⟩; rw [HV.out.1, HV.out.2.1]; have HB := Lib.hid hb; clear hb)
    go_ret2
    exact ⟨rfl, HB.out⟩
  · have h1 : (E != 0) = true := by simpa using h
    have H0 := Lib.hid h
    obtain rfl : v = 0 := HV.out.2.2 h
    clear h
    go_enter Try.func35, Try.ntmps35
    go_wp2_with (go_at_call 49; refine (parseWhole_c s _ hs).mono ?_; rintro e w1 ⟨rfl, hb⟩; rw [HV.out.1, HV.out.2.1]; have HB := Lib.hid hb; clear hb)
    go_ret2
    exact ⟨by rw [decide_eq_false H0.out]; rfl, HB.out⟩
/-- What a text tells of a position, and of a fault. -/
def rdP (l : List Nat) : Option (Int × Int) := match cutB 58 l with
  | none => none
  | some (a, b) => if pwe a = 0 ∧ pwe b = 0 then some (pwv a, pwv b) else none
def rfOf (a : Option (Int × Int)) (fb b : Int) : Option (Int × Int × Int) := match a with
  | none => none
  | some (L, C) => if fb = 0 then some (L, C, b) else none
def rdF (l : List Nat) : Option (Int × Int × Int) := match cutB 32 l with
  | none => none
  | some (a, b) => rfOf (rdP a) (pwe b) (pwv b)
def posO (p : Option (Int × Int)) : Value := .agg #[.int .i64 (p.getD (0, 0)).1, .int .i64 (p.getD (0, 0)).2]
def fltO (p : Option (Int × Int × Int)) : Value := .agg #[.int .i64 (p.getD (0, 0, 0)).1, .int .i64 (p.getD (0, 0, 0)).2.1, .int .i64 (p.getD (0, 0, 0)).2.2]
def RdOk (l : List Nat) (w : World) (e : Ending) (w' : World) : Prop := e = .returned (.tuple #[posO (rdP l), .bool (rdP l).isSome]) ∧ Below w.heap.size w w'
def RfOk (l : List Nat) (w : World) (e : Ending) (w' : World) : Prop := e = .returned (.tuple #[fltO (rdF l), .bool (rdF l).isSome]) ∧ Below w.heap.size w w'
theorem RdOk.no {l : List Nat} {w w' : World} (h : rdP l = none) (hb : Below w.heap.size w w') : RdOk l w (.returned (.tuple #[.agg #[.int .i64 0, .int .i64 0], .bool false])) w' := by
  unfold RdOk
  rw [h]
  exact ⟨rfl, hb⟩
theorem RdOk.yes {l : List Nat} {L C : Int} {w w' : World} (h : rdP l = some (L, C)) (hb : Below w.heap.size w w') : RdOk l w (.returned (.tuple #[.agg #[.int .i64 L, .int .i64 C], .bool true])) w' := by
  unfold RdOk
  rw [h]
  exact ⟨rfl, hb⟩
theorem RfOk.no {l : List Nat} {w w' : World} (h : rdF l = none) (hb : Below w.heap.size w w') : RfOk l w (.returned (.tuple #[.agg #[.int .i64 0, .int .i64 0, .int .i64 0], .bool false])) w' := by
  unfold RfOk
  rw [h]
  exact ⟨rfl, hb⟩
theorem RfOk.yes {l : List Nat} {L C E : Int} {w w' : World} (h : rdF l = some (L, C, E)) (hb : Below w.heap.size w w') : RfOk l w (.returned (.tuple #[.agg #[.int .i64 L, .int .i64 C, .int .i64 E], .bool true])) w' := by
  unfold RfOk
  rw [h]
  exact ⟨rfl, hb⟩
theorem bys_to {s : ByteArray} {o : Nat} : bys (s.extract 0 o) = (bys s).take o := by rw [bys_extract]; simp
theorem bys_on {s : ByteArray} {o : Nat} : bys (s.extract o s.size) = (bys s).drop o := by
  rw [bys_extract, List.take_of_length_le (by rw [List.length_drop, bys_len]; omega)]
theorem rdP_none {l : List Nat} (h : cutB 58 l = none) : rdP l = none := by unfold rdP; rw [h]
theorem rdP_some {l a b : List Nat} (h : cutB 58 l = some (a, b)) : rdP l = if pwe a = 0 ∧ pwe b = 0 then some (pwv a, pwv b) else none := by unfold rdP; rw [h]
theorem rdF_none {l : List Nat} (h : cutB 32 l = none) : rdF l = none := by unfold rdF; rw [h]
theorem rdF_some {l a b : List Nat} (h : cutB 32 l = some (a, b)) : rdF l = rfOf (rdP a) (pwe b) (pwv b) := by unfold rdF; rw [h]
theorem RdOk.get_no {l : List Nat} {w w' : World} {e : Ending} (h : rdP l = none) (hr : RdOk l w e w') : e = .returned (.tuple #[.agg #[.int .i64 0, .int .i64 0], .bool false]) ∧ Below w.heap.size w w' := by
  unfold RdOk at hr
  rw [h] at hr
  exact hr
theorem RdOk.get_yes {l : List Nat} {L C : Int} {w w' : World} {e : Ending} (h : rdP l = some (L, C)) (hr : RdOk l w e w') : e = .returned (.tuple #[.agg #[.int .i64 L, .int .i64 C], .bool true]) ∧ Below w.heap.size w w' := by
  unfold RdOk at hr
  rw [h] at hr
  exact hr
end Go.Proofs.Ytjocobfabdkadaa
