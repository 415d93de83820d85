/- The statements about decimal digits return true whatever they are called with: as calls of the closed statement. -/
import Derived.Test.YtehdbogiacmabaaDback
namespace Go.Proofs.Ytehdbogiacmabaa
open Go.RowKit
attribute [local go_sem] alloc_drewN setCell_drewN
/-- A row of words. -/
def Row (w : World) (u : Value) : Prop := ∃ A n c l, u = .slice A n c ∧ Rw .u64 w A n l ∧ AllLt 18446744073709551616 l ∧ n ≤ c
theorem Row.keep {w w' : World} {u : Value} (h : Row w u) (hb : Below w.heap.size w w') : Row w' u := by
  obtain ⟨A, n, c, l, h1, h2, h3, h4⟩ := h
  exact ⟨A, n, c, l, h1, h2.keep hb, h3, h4⟩
theorem Row.nil (w : World) : Row w (.slice none 0 0) := ⟨none, 0, 0, [], rfl, Rw.nil _ _ _, (fun _ h => by cases h), Nat.le_refl _⟩
def Wrd (v : Int) : Prop := 0 ≤ v ∧ v < 18446744073709551616
def Whl (v : Int) : Prop := -9223372036854775808 ≤ v ∧ v ≤ 9223372036854775807
theorem Wrd.wrap (v : Int) : Wrd (IntKind.u64.wrap v) := by
  have e : IntKind.u64.wrap v = v % 18446744073709551616 := rfl
  rw [e]
  exact ⟨Int.emod_nonneg _ (by decide), Int.emod_lt_of_pos _ (by decide)⟩
theorem Wrd.nat {n : Nat} (h : n < 18446744073709551616) : Wrd (n : Int) := ⟨by omega, by omega⟩
theorem Whl.wrap (v : Int) : Whl (IntKind.i64.wrap v) := by
  rw [IntKind.wrap_i64]
  exact ⟨by omega, by omega⟩
theorem Whl.wrap64 (v : Int) : Whl (wrap64 v) := by
  unfold RowKit.wrap64
  exact ⟨by omega, by omega⟩
theorem row_cells (w : World) (vs : List Int) (ty : TypeId) (hv : ∀ v ∈ vs, Wrd v) : Row (w.alloc (.cells (vs.map (Value.int .u64)).toArray ty)) (.slice (some ⟨w.heap.size, 0, none⟩) vs.length vs.length) := by
  refine ⟨_, _, _, vs.map Int.toNat, rfl, ⟨by simp, fun _ => ⟨_, _, rfl, by simp, fun i x hx => ?_⟩⟩, fun x hx => ?_, Nat.le_refl _⟩
  · have hk := (Bk.new w ty (vs.map (Value.int .u64)).toArray).cell i
    rw [Nat.zero_add, hk]
    rw [List.getElem?_map] at hx
    cases hi : vs[i]? with
    | none => rw [hi] at hx; cases hx
    | some v =>
      rw [hi] at hx
      have h0 := (hv v (List.mem_of_getElem? hi)).1
      simp at hx
      subst hx
      simp [hi]
      omega
  · obtain ⟨v, hm, rfl⟩ := List.mem_map.1 hx
    have := hv v hm
    have h1 := this.1
    have h2 := this.2
    omega
theorem Row.one {w : World} {v : Int} (ty : TypeId) (h : Wrd v) : Row (w.alloc (.cells #[.int .u64 v] ty)) (.slice (some ⟨w.heap.size, 0, none⟩) 1 1) :=
  row_cells w [v] ty (fun x hx => by rw [List.mem_singleton.1 hx]; exact h)
theorem Row.two {w : World} {v u : Int} (ty : TypeId) (h : Wrd v) (h2 : Wrd u) : Row (w.alloc (.cells #[.int .u64 v, .int .u64 u] ty)) (.slice (some ⟨w.heap.size, 0, none⟩) 2 2) :=
  row_cells w [v, u] ty (fun x hx => by
    rcases List.mem_cons.1 hx with rfl | hx
    · exact h
    · rw [List.mem_singleton.1 hx]; exact h2)
/-- It returns true, and leaves what was there. -/
def Yes (w : World) (e : Ending) (w' : World) : Prop := e = .returned (.bool true) ∧ Below w.heap.size w w'
set_option maxRecDepth 100000 in
theorem divides_any (A : Option Addr) (n0 c0 : Nat) (la : List Nat) (b : Nat) (w : World) (ha : Rw .u64 w A n0 la) (ta : AllLt 18446744073709551616 la) (hb64 : b < 18446744073709551616) :
    Calls Try.prog 3 #[.slice A n0 c0, .int .u64 b] w fun e w' => e = .returned (.bool true) ∧ Below w.heap.size w w' := by
  by_cases h : n0 ≤ 12
  · exact divides_c A n0 c0 la b w ha ta hb64 h
  · clear ha ta
    have g1 : decide ((12 : Int) < (n0 : Int)) = true := by simp <;> omega
    go_enter Try.func3, Try.ntmps3
    go_wp2_with (go_at_call 8; refine (works_c _).mono ?_; rintro e w1 ⟨rfl, hb1⟩)
    go_ret
    exact ⟨rfl, hb1⟩
theorem divides_k {u : Value} {v : Int} {w : World} (hu : Row w u) (hv : Wrd v) : Calls Try.prog 3 #[u, .int .u64 v] w (Yes w) := by
  obtain ⟨A, n, c, l, rfl, hr, hl, _⟩ := hu
  have h1 := hv.1
  have h2 := hv.2
  obtain ⟨b, rfl⟩ : ∃ b : Nat, v = b := ⟨v.toNat, by omega⟩
  exact divides_any A n c l b w hr hl (by omega)
set_option maxRecDepth 100000 in
theorem texts_any (A : Option Addr) (n0 c0 : Nat) (la : List Nat) (n : Int) (w : World) (ha : Rw .u64 w A n0 la) (ta : AllLt 18446744073709551616 la) (h1 : -9223372036854775808 ≤ n) (h2 : n ≤ 9223372036854775807) :
    Calls Try.prog 4 #[.slice A n0 c0, .int .i64 n] w fun e w' => e = .returned (.bool true) ∧ Below w.heap.size w w' := by
  by_cases h : n0 ≤ 6
  · exact texts_c A n0 c0 la n w ha ta h1 h2 h
  · clear ha ta h1 h2
    have g1 : decide ((6 : Int) < (n0 : Int)) = true := by simp <;> omega
    go_enter Try.func4, Try.ntmps4
    go_wp2_with (go_at_call 8; refine (works_c _).mono ?_; rintro e w1 ⟨rfl, hb1⟩)
    go_ret
    exact ⟨rfl, hb1⟩
theorem texts_k {u : Value} {n : Int} {w : World} (hu : Row w u) (hn : Whl n) : Calls Try.prog 4 #[u, .int .i64 n] w (Yes w) := by
  obtain ⟨A, m, c, l, rfl, hr, hl, _⟩ := hu
  exact texts_any A m c l n w hr hl hn.1 hn.2
set_option maxRecDepth 100000 in
theorem reads_any (s : ByteArray) (c : Int) (w : World) :
    Calls Try.prog 5 #[.string s, .int .i64 c] w fun e w' => e = .returned (.bool true) ∧ Below w.heap.size w w' := by
  by_cases h : s.size ≤ 60
  · exact reads_c s c w h
  · have g1 : decide ((60 : Int) < (s.size : Int)) = true := by simp <;> omega
    go_enter Try.func5, Try.ntmps5
    go_wp2_with (go_at_call 8; refine (works_c _).mono ?_; rintro e w1 ⟨rfl, hb1⟩)
    go_ret
    exact ⟨rfl, hb1⟩
set_option maxRecDepth 100000 in
theorem back_any (A : Option Addr) (n0 c0 : Nat) (la : List Nat) (B : Option Addr) (n1 c1 : Nat) (lb : List Nat) (b : Nat) (n : Int) (s : ByteArray) (w : World) (ha : Rw .u64 w A n0 la) (ta : AllLt 18446744073709551616 la) (hbb : Rw .u64 w B n1 lb) (tb : AllLt 18446744073709551616 lb)
    (hb64 : b < 18446744073709551616) (h1 : -9223372036854775808 ≤ n) (h2 : n ≤ 9223372036854775807) :
    Calls Try.prog 6 #[.slice A n0 c0, .slice B n1 c1, .int .u64 b, .int .i64 n, .string s] w fun e w' => e = .returned (.bool true) ∧ Below w.heap.size w w' := by
  by_cases hl : n0 ≤ 6
  · by_cases hl1 : n1 ≤ 6
    · by_cases hs : s.size ≤ 60
      · exact back_c A n0 c0 la B n1 c1 lb b n s w ha ta hbb tb hb64 h1 h2 hl hl1 hs
      · clear ha ta hbb tb h1 h2 hb64
        have g0 : decide ((6 : Int) < (n0 : Int)) = false := by simp <;> omega
        have g1 : decide ((6 : Int) < (n1 : Int)) = false := by simp <;> omega
        have g2 : decide ((60 : Int) < (s.size : Int)) = true := by simp <;> omega
        go_enter Try.func6, Try.ntmps6
        go_wp2_with (go_at_call 8; refine (works_c _).mono ?_; rintro e w1 ⟨rfl, hb1⟩)
        go_ret
        exact ⟨rfl, hb1⟩
    · clear ha ta hbb tb h1 h2 hb64
      have g0 : decide ((6 : Int) < (n0 : Int)) = false := by simp <;> omega
      have g1 : decide ((6 : Int) < (n1 : Int)) = true := by simp <;> omega
      go_enter Try.func6, Try.ntmps6
      go_wp2_with (go_at_call 8; refine (works_c _).mono ?_; rintro e w1 ⟨rfl, hb1⟩)
      go_ret
      exact ⟨rfl, hb1⟩
  · clear ha ta hbb tb h1 h2 hb64
    have g0 : decide ((6 : Int) < (n0 : Int)) = true := by simp <;> omega
    go_enter Try.func6, Try.ntmps6
    go_wp2_with (go_at_call 8; refine (works_c _).mono ?_; rintro e w1 ⟨rfl, hb1⟩)
    go_ret
    exact ⟨rfl, hb1⟩
theorem back_k {u v : Value} {b n : Int} {s : ByteArray} {w : World} (hu : Row w u) (hv : Row w v) (hb : Wrd b) (hn : Whl n) : Calls Try.prog 6 #[u, v, .int .u64 b, .int .i64 n, .string s] w (Yes w) := by
  obtain ⟨A, m, c, l, rfl, hr, hl, _⟩ := hu
  obtain ⟨B, k, d, r, rfl, hr2, hl2, _⟩ := hv
  have h1 := hb.1
  have h2 := hb.2
  obtain ⟨b, rfl⟩ : ∃ b' : Nat, b = b' := ⟨b.toNat, by omega⟩
  exact back_any A m c l B k d r b n s w hr hl hr2 hl2 (by omega) hn.1 hn.2
end Go.Proofs.Ytehdbogiacmabaa
