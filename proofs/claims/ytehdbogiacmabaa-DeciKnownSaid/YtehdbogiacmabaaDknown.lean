/- DeciKnown, walked: the closed statement returns true. -/
import Derived.Test.YtehdbogiacmabaaDany
import Derived.Deep.DeepCutAuto
import Derived.Laws.Closers25b
namespace Go.Proofs.Ytehdbogiacmabaa
open Go.RowKit
attribute [local go_sem] alloc_drewN setCell_drewN
theorem lawOwn_o (A : Option Addr) (n c : Nat) (l : List Nat) (w : World) (hr : Rw .u64 w A n l) (hn : n ≤ 1000) :
    Calls Try.prog 10 #[.slice A n c] w fun e w' => ∃ A1 c1 g, e = .returned (.slice A1 l.length c1) ∧ Own g w' (.slice A1 l.length c1) l ∧ w.heap.size ≤ g ∧ g ≤ w'.heap.size ∧ Below w.heap.size w w' := by
  obtain rfl : l.length = n := hr.1
  have HR := Lib.hid hr
  clear hr
  go_enter Try.func10, Try.ntmps10
  go_wp2_with (at_builtin; refine wpList_append_row (k := .u64) rfl _ _ rfl w.heap.size Try.underlying22 info64 rfl (by decide) (.slice none 0 0) [] l A l.length c rfl rfl (World.ownsRow_nil _ _ _ _) HR.out (by simp; omega) (by simp) ?_; intro v' w1 ho hg1 _; have ho := (show Own w.heap.size w1 v' l from ho); have hs := ho; obtain ⟨A1, c1, rfl, hr1, hc1, _⟩ := hs.slice; have HB := Lib.hid (And.intro ((Below.refl _ _).grown hg1 (Nat.le_refl _) (fun k hk => by simp [Value.ownBlock] at hk) : Below w.heap.size w w1) ho); clear hg1 ho hs hr1 hc1)
  go_ret
  exact ⟨A1, c1, _, rfl, HB.out.2, Nat.le_refl _, HB.out.1.size, HB.out.1⟩
theorem wpList_append_rowW {P : Program} {k : IntKind} {e t : TypeId} {w : World} {ops : Array Oper} {rest : List Oper} {o : Oper} {a : Act} {Q : Exit → Act → World → Prop} (hgd : Region.wanted o (yielded ops a.tmps) = true) (s x : Operand)
    (ho : o.op = .call { callee := .builtin .append, args := #[s, x], argTypes := #[t, t] }) (base : Nat) (ht : P.underlying t = some (.slice e)) {z : Value} {bytes : Nat} (hinfo : (P.info? e).map (fun i => (i.zero, i.size, i.bytes)) = some (some z, 1, bytes)) (hzs : z.cells.size = 1) (hb8 : bytes ≤ 8)
    (v : Value) (l m : List Nat) (A : Option Addr) (n c : Nat) (hs : a.eval s = v) (hx : a.eval x = .slice A n c) (hown : w.ownsRow base e 1 v l.length (cellsOf k l)) (hr : Rw k w A n m) (hlen : l.length + n ≤ 1000000) (hbase : base ≤ w.heap.size)
    (h : ∀ v' w', w'.ownsRow base e 1 v' (l ++ m).length (cellsOf k (l ++ m)) → w.grownBy w' v.ownBlock → (v'.ownBlock = v.ownBlock ∨ v'.ownBlock = some w.heap.size) → wpList P ops Q rest (a.put o.dst v') w') : wpList P ops Q (o :: rest) a w := by
  obtain ⟨i, hi, hz, hsize, hby⟩ := info_parts hinfo
  refine wpList_step fun K hK => ?_
  rw [if_pos hgd]
  obtain ⟨v', w', hrun, h2, h3, h4⟩ := run_append_row (P := P) (k := k) w base o.type i z bytes ht hi hz hsize hby hzs hb8 v l m hown A n c hr hlen hbase
  unfold Oper.wp execOp
  simp only [ho, resolve, invoke, builtin, Sem.run_bind, Sem.run_pure, Result.andThen_ok, List.map_toArray, List.map_cons, List.map_nil, hs, hx, hrun]
  exact hK _ _ (h v' w' h2 h3 h4)
theorem Own.row {g : Nat} {w : World} {v : Value} {l : List Nat} (h : Own g w v l) (hl : AllLt 18446744073709551616 l) : Row w v := by
  obtain ⟨A, c, rfl, hr, hc, _⟩ := h.slice
  exact ⟨A, _, c, l, rfl, hr, hl, hc⟩
theorem allLt_snoc {l : List Nat} {x : Nat} (h : AllLt 18446744073709551616 l) (hx : x < 18446744073709551616) : AllLt 18446744073709551616 (l ++ [x]) := fun y hy => by
  rcases List.mem_append.1 hy with hy | hy
  · exact h y hy
  · rw [List.mem_singleton.1 hy]; exact hx
theorem texts_at : ∀ i : Nat, i < 22 → ∃ s : ByteArray, (#[.string ⟨#[]⟩, .string ⟨#[48]⟩, .string ⟨#[48, 48]⟩, .string ⟨#[45, 48]⟩, .string ⟨#[45]⟩, .string ⟨#[45, 45, 49]⟩, .string ⟨#[43, 49]⟩, .string ⟨#[45, 49]⟩, .string ⟨#[55]⟩, .string ⟨#[48, 55]⟩, .string ⟨#[57, 50, 50, 51, 51, 55, 50, 48, 51, 54, 56, 53, 52, 55, 55, 53, 56, 48, 55]⟩, .string ⟨#[57, 50, 50, 51, 51, 55, 50, 48, 51, 54, 56, 53, 52, 55, 55, 53, 56, 48, 56]⟩, .string ⟨#[45, 57, 50, 50, 51, 51, 55, 50, 48, 51, 54, 56, 53, 52, 55, 55, 53, 56, 48, 56]⟩, .string ⟨#[45, 57, 50, 50, 51, 51, 55, 50, 48, 51, 54, 56, 53, 52, 55, 55, 53, 56, 48, 57]⟩, .string ⟨#[49, 56, 52, 52, 54, 55, 52, 52, 48, 55, 51, 55, 48, 57, 53, 53, 49, 54, 49, 53]⟩, .string ⟨#[49, 56, 52, 52, 54, 55, 52, 52, 48, 55, 51, 55, 48, 57, 53, 53, 49, 54, 49, 54]⟩, .string ⟨#[51, 52, 48, 50, 56, 50, 51, 54, 54, 57, 50, 48, 57, 51, 56, 52, 54, 51, 52, 54, 51, 51, 55, 52, 54, 48, 55, 52, 51, 49, 55, 54, 56, 50, 49, 49, 52, 53, 54]⟩, .string ⟨#[49, 32]⟩, .string ⟨#[49, 97]⟩, .string ⟨#[97]⟩, .string ⟨#[49, 50, 51, 52, 53, 54, 55, 56, 57, 48, 49, 50, 51, 52, 53, 54, 55, 56, 57, 48, 49, 50, 51, 52, 53, 54, 55, 56, 57, 48]⟩, .string ⟨#[45, 49, 56, 52, 52, 54, 55, 52, 52, 48, 55, 51, 55, 48, 57, 53, 53, 49, 54, 49, 54]⟩] : Array Value)[i]? = some (.string s)
  | 0, _ => ⟨_, rfl⟩
  | 1, _ => ⟨_, rfl⟩
  | 2, _ => ⟨_, rfl⟩
  | 3, _ => ⟨_, rfl⟩
  | 4, _ => ⟨_, rfl⟩
  | 5, _ => ⟨_, rfl⟩
  | 6, _ => ⟨_, rfl⟩
  | 7, _ => ⟨_, rfl⟩
  | 8, _ => ⟨_, rfl⟩
  | 9, _ => ⟨_, rfl⟩
  | 10, _ => ⟨_, rfl⟩
  | 11, _ => ⟨_, rfl⟩
  | 12, _ => ⟨_, rfl⟩
  | 13, _ => ⟨_, rfl⟩
  | 14, _ => ⟨_, rfl⟩
  | 15, _ => ⟨_, rfl⟩
  | 16, _ => ⟨_, rfl⟩
  | 17, _ => ⟨_, rfl⟩
  | 18, _ => ⟨_, rfl⟩
  | 19, _ => ⟨_, rfl⟩
  | 20, _ => ⟨_, rfl⟩
  | 21, _ => ⟨_, rfl⟩
  | n + 22, h => absurd h (by omega)
theorem wrd_xor {a b : Int} : Wrd (bits BinOp.xor .u64 a b) := by
  have h := bits_within .xor .u64 a b
  have e1 : IntKind.u64.min = 0 := by decide
  have e2 : IntKind.u64.max = 18446744073709551615 := by decide
  rw [e1, e2] at h
  exact ⟨h.1, by omega⟩
theorem below_box2 (w : World) (o p : Obj) : Below w.heap.size w ((w.alloc o).alloc p) := (below_box w o).trans ((below_box _ p).mono (below_box w o).size)
theorem below_box3 (w : World) (o p q : Obj) : Below w.heap.size w (((w.alloc o).alloc p).alloc q) := (below_box2 w o p).trans ((below_box _ q).mono (below_box2 w o p).size)
theorem refOf1_g {w : World} {x : Nat} {v : Int} {ty : TypeId} {g : Nat} (hg : g = w.heap.size) (h : v = x) (hx : x < 18446744073709551616) :
    Calls Try.prog 11 #[.slice (some ⟨g, 0, none⟩) 1 1] (w.alloc (.cells #[.int .u64 v] ty)) fun e w' => ∃ y, e = .returned y ∧ IsByt w' y x ∧ Below w.heap.size w w' := by
  subst hg
  exact refOf1_w ty h hx
def txts : Array Value := #[.string ⟨#[]⟩, .string ⟨#[48]⟩, .string ⟨#[48, 48]⟩, .string ⟨#[45, 48]⟩, .string ⟨#[45]⟩, .string ⟨#[45, 45, 49]⟩, .string ⟨#[43, 49]⟩, .string ⟨#[45, 49]⟩, .string ⟨#[55]⟩, .string ⟨#[48, 55]⟩, .string ⟨#[57, 50, 50, 51, 51, 55, 50, 48, 51, 54, 56, 53, 52, 55, 55, 53, 56, 48, 55]⟩, .string ⟨#[57, 50, 50, 51, 51, 55, 50, 48, 51, 54, 56, 53, 52, 55, 55, 53, 56, 48, 56]⟩, .string ⟨#[45, 57, 50, 50, 51, 51, 55, 50, 48, 51, 54, 56, 53, 52, 55, 55, 53, 56, 48, 56]⟩, .string ⟨#[45, 57, 50, 50, 51, 51, 55, 50, 48, 51, 54, 56, 53, 52, 55, 55, 53, 56, 48, 57]⟩, .string ⟨#[49, 56, 52, 52, 54, 55, 52, 52, 48, 55, 51, 55, 48, 57, 53, 53, 49, 54, 49, 53]⟩, .string ⟨#[49, 56, 52, 52, 54, 55, 52, 52, 48, 55, 51, 55, 48, 57, 53, 53, 49, 54, 49, 54]⟩, .string ⟨#[51, 52, 48, 50, 56, 50, 51, 54, 54, 57, 50, 48, 57, 51, 56, 52, 54, 51, 52, 54, 51, 51, 55, 52, 54, 48, 55, 52, 51, 49, 55, 54, 56, 50, 49, 49, 52, 53, 54]⟩, .string ⟨#[49, 32]⟩, .string ⟨#[49, 97]⟩, .string ⟨#[97]⟩, .string ⟨#[49, 50, 51, 52, 53, 54, 55, 56, 57, 48, 49, 50, 51, 52, 53, 54, 55, 56, 57, 48, 49, 50, 51, 52, 53, 54, 55, 56, 57, 48]⟩, .string ⟨#[45, 49, 56, 52, 52, 54, 55, 52, 52, 48, 55, 51, 55, 48, 57, 53, 53, 49, 54, 49, 54]⟩]
theorem txts_at {i : Nat} (h : i < 22) : ∃ s : ByteArray, txts[i]? = some (.string s) := texts_at i h
theorem Row.oneg {w : World} {v : Int} {ty : TypeId} {g : Nat} (hg : g = w.heap.size) (h : Wrd v) : Row (w.alloc (.cells #[.int .u64 v] ty)) (.slice (some ⟨g, 0, none⟩) 1 1) := hg ▸ Row.one ty h
theorem Row.twog {w : World} {v u : Int} {ty : TypeId} {g : Nat} (hg : g = w.heap.size) (h : Wrd v) (h2 : Wrd u) : Row (w.alloc (.cells #[.int .u64 v, .int .u64 u] ty)) (.slice (some ⟨g, 0, none⟩) 2 2) := hg ▸ Row.two ty h h2
/-- What is known of a row that begins some words. -/
def Beg (w : World) (v : Value) : Prop := ∃ A m l, v = .slice A m 4 ∧ Rw .u64 w A m l ∧ AllLt 18446744073709551616 l ∧ m ≤ 4
theorem beg_of {w : World} {v0 v1 v2 v3 : Int} {m : Nat} (ty : TypeId) (h0 : Wrd v0) (h1 : Wrd v1) (h2 : Wrd v2) (h3 : Wrd v3) (hm : m ≤ 4) : Beg (w.alloc (.cells #[.int .u64 v0, .int .u64 v1, .int .u64 v2, .int .u64 v3] ty)) (.slice (some ⟨w.heap.size, 0, none⟩) m 4) := by
  obtain ⟨A, n, c, l, e, hr, hl, _⟩ := row_cells w [v0, v1, v2, v3] ty (fun x hx => by
    simp only [List.mem_cons, List.not_mem_nil, or_false] at hx
    rcases hx with rfl | rfl | rfl | rfl <;> assumption)
  simp at e
  obtain ⟨rfl, rfl, rfl⟩ := e
  exact ⟨_, m, l.take m, rfl, hr.take hm, hl.take m, hm⟩
set_option maxRecDepth 100000 in
set_option maxHeartbeats 32000000 in
theorem known_c (w : World) : Calls Try.prog 7 #[] w fun e w' => e = .returned (.bool true) ∧ Below w.heap.size w w' := by
  go_enter Try.func7, Try.ntmps7
  go_wp2_with fail
  go_loopw [1] (fun v wr => ∃ i : Nat, v = .int .i64 i ∧ i ≤ 64 ∧ Below w.heap.size w wr) (fun v _ => 64 - (intOf v).toNat)
  case atStart => exact ⟨0, rfl, by decide, Below.refl _ _⟩
  case round =>
    obtain ⟨i, rfl, hi, hB⟩ := hrel
    have HB := Lib.hid hB
    clear hB
    by_cases hi64 : i < 64
    · have g1 : decide ((i : Int) < 64) = true := by simp <;> omega
      go_upto_region 4 with fail
      go_cut [2] from 14 to 15 (fun v2 wx => ∃ N : Nat, v2 = .int .u64 N ∧ N < 18446744073709551616 ∧ wx = wr)
      case first =>
        go_wp2_with fail
        go_meet
        exact ⟨(IntKind.u64.wrap (2 ^ i)).toNat, congrArg _ (Int.toNat_of_nonneg (Wrd.wrap _).1).symm, by have := (Wrd.wrap (2 ^ i)).2; have := (Wrd.wrap (2 ^ i)).1; omega, rfl⟩
      case rest =>
        obtain ⟨N, rfl, hN, rfl⟩ := hcut
        have hWN : Wrd (N : Int) := Wrd.nat hN
        go_upto_region 5 with fail
        go_cut [3] from 16 to 27 (fun v3 wx => Beg wx v3 ∧ Below w.heap.size w wx)
        case first =>
          go_wp2_with fail
          go_meet
          exact ⟨beg_of _ hWN (Wrd.wrap _) (Wrd.wrap _) wrd_xor (by omega), HB.out.alloc HB.out.size _⟩
        case rest =>
          obtain ⟨hbeg, hB⟩ := hcut
          obtain ⟨A, m, l, rfl, hr, hl, hm⟩ := hbeg
          clear HB
          have HB := Lib.hid hB
          have HR := Lib.hid hr
          have HL := Lib.hid hl
          have hl5 : l.length + 1 ≤ 1000000 := by have := hr.1; omega
          clear hB hr hl
          go_wp2_with (first
            | (go_at_call_of 3 (Value.slice A m 4); refine (divides_k ⟨A, m, 4, l, rfl, HR.out, HL.out, hm⟩ hWN).mono ?_; rintro e wq ⟨rfl, hb⟩; have HB := Lib.hid (HB.out.trans (hb.mono HB.out.size)); have HR := Lib.hid (HR.out.keep hb); clear hb)
            | (go_at_call 10; refine (lawOwn_o A m 4 l _ HR.out (by omega)).mono ?_; rintro e wo ⟨A1, c1, go, rfl, ho, hg1, hg2, hb⟩; have HO := Lib.hid (And.intro ho (And.intro hg1 (And.intro hg2 hb))); clear hb ho hg1 hg2)
            | (at_builtin; refine wpList_append_rowW (k := .u64) rfl _ _ rfl go Try.underlying22 info64 rfl (by decide) (.slice A1 l.length c1) l [N] (some ⟨wo.heap.size, 0, none⟩) 1 1 rfl rfl (World.ownsRow.alloc HO.out.1 _) (rw_word _ rfl) hl5 (Nat.le_trans HO.out.2.2.1 (by simp)) ?_; intro v' wq ho' hg' _; have hb := ((HO.out.2.2.2.alloc HO.out.2.2.2.size (.cells #[.int .u64 (N : Int)] 23)).grown hg' (by simp; exact Nat.le_succ_of_le HO.out.2.2.2.size) (fun k hk => Nat.le_trans HO.out.2.1 (HO.out.1.lt k hk).1)); have HR := Lib.hid (HR.out.keep hb); have HB := Lib.hid (HB.out.trans (hb.mono HB.out.size)); have HV := Lib.hid (Own.row (show Own go wq v' (l ++ [N]) from ho') (allLt_snoc HL.out hN)); clear hb ho' hg' HO)
            | (go_at_call 3; refine (divides_k HV.out (by first | exact Wrd.wrap _ | exact hWN | (constructor <;> omega))).mono ?_; rintro e wq ⟨rfl, hb⟩; have HB := Lib.hid (HB.out.trans (hb.mono HB.out.size)); have HR := Lib.hid (HR.out.keep hb); clear HV; clear hb)
            | (go_at_call 4; refine (texts_k HV.out (by first | exact Whl.wrap _ | exact Whl.wrap64 _ | (constructor <;> omega))).mono ?_; rintro e wq ⟨rfl, hb⟩; have HB := Lib.hid (HB.out.trans (hb.mono HB.out.size)); have HR := Lib.hid (HR.out.keep hb); clear HV; clear hb)
            | (go_at_call_of 6 (Value.slice A m 4); refine (back_k ⟨A, m, 4, l, rfl, HR.out.alloc _, HL.out, hm⟩ (Row.one _ hWN) ⟨by decide, by decide⟩ (by first | exact Whl.wrap _ | exact Whl.wrap64 _ | (constructor <;> omega))).mono ?_; rintro e wq ⟨rfl, hb⟩; have HB := Lib.hid (HB.out.trans (((below_box _ _).trans (hb.mono (below_box _ _).size)).mono HB.out.size)); clear hb)
            | (go_at_call 6; refine (back_k ((Row.two _ hWN hWN).keep (below_box _ _)) (Row.twog (by simp) (by first | exact Wrd.wrap _ | exact hWN | (constructor <;> omega)) hWN) (by first | exact Wrd.wrap _ | exact hWN | (constructor <;> omega)) (by first | exact Whl.wrap _ | exact Whl.wrap64 _ | (constructor <;> omega))).mono ?_; rintro e wq ⟨rfl, hb⟩; have HB := Lib.hid (HB.out.trans (((below_box2 _ _ _).trans (hb.mono (below_box2 _ _ _).size)).mono HB.out.size)); have HR := Lib.hid (HR.out.keep ((below_box2 _ _ _).trans (hb.mono (below_box2 _ _ _).size))); clear hb))
          go_roundw
          case rel => exact ⟨i + 1, by go_num, by omega, HB.out⟩
          case measure => simp [intOf]; omega
    · have g1 : decide ((i : Int) < 64) = false := by simp <;> omega
      clear hi hi64
      go_wp2_with fail
      go_loopw [4, 5] (fun a v wr => ∃ (T j : Nat), a = .int .u64 T ∧ T < 18446744073709551616 ∧ v = .int .i64 j ∧ j ≤ 20 ∧ Below w.heap.size w wr) (fun _ v _ => 20 - (intOf v).toNat)
      case atStart => exact ⟨1, 0, rfl, by decide, rfl, by decide, HB.out⟩
      case round =>
        clear HB
        obtain ⟨T, j, rfl, hT, rfl, hj, hB⟩ := hrel
        have HB := Lib.hid hB
        clear hB
        have hWT : Wrd (T : Int) := Wrd.nat hT
        by_cases hj20 : j < 20
        · have g1 : decide ((j : Int) < 20) = true := by simp <;> omega
          go_wp2_with fail
          obtain ⟨wo, rfl⟩ : ∃ wo : World, wo = wr := ⟨_, rfl⟩
          go_loopw [6] (fun v wr => ∃ k : Nat, v = .int .u64 k ∧ k ≤ 3 ∧ Below w.heap.size w wr) (fun v _ => 3 - (intOf v).toNat)
          case atStart => exact ⟨0, rfl, by decide, HB.out⟩
          case round =>
            clear HB
            obtain ⟨k, rfl, hk, hB⟩ := hrel
            have HB := Lib.hid hB
            clear hB
            by_cases hk3 : k < 3
            · have g1 : decide ((k : Int) < 3) = true := by simp <;> omega
              obtain ⟨S, hS⟩ : ∃ S, str (dec T) = S := ⟨_, rfl⟩
              have HS := Lib.hid hS
              clear hS
              go_wp2_with (first
                | (go_at_call 4; refine (texts_k (Row.one _ (Wrd.wrap _)) (by first | exact Whl.wrap _ | exact Whl.wrap64 _ | (constructor <;> omega))).mono ?_; rintro e wq ⟨rfl, hb⟩; have HB := Lib.hid (HB.out.trans (((below_box _ _).trans (hb.mono (below_box _ _).size)).mono HB.out.size)); clear hb)
                | (go_at_call 11; refine (refOf1_g (by simp) rfl hT).mono ?_; rintro e w3 ⟨y3, rfl, hy, hb⟩; have Ra := Lib.hid ((((Row.one (w := wq) 23 (Wrd.wrap _)).keep (below_box _ (.cells #[.int .u64 (T : Int)] 23)))).keep hb); have Rb := Lib.hid ((Row.oneg (w := wq.alloc (.cells #[.int .u64 _] 23)) (ty := 23) (g := wq.heap.size + 1) (by simp) hWT).keep hb); have HB := Lib.hid (HB.out.trans (((below_box2 _ _ _).trans (hb.mono (below_box2 _ _ _).size)).mono HB.out.size)); have HY := Lib.hid hy; clear hb hy)
                | (go_at_call 15; refine (refText_c T _ _ HY.out (word_bytes hT)).mono ?_; rintro e w4 ⟨rfl, hb⟩; rw [HS.out]; have Ra := Lib.hid (Ra.out.keep hb); have Rb := Lib.hid (Rb.out.keep hb); have HB := Lib.hid (HB.out.trans (hb.mono HB.out.size)); clear hb)
                | (go_at_call 6; refine (back_k Ra.out Rb.out hWT (by first | exact Whl.wrap _ | exact Whl.wrap64 _ | (constructor <;> omega))).mono ?_; rintro e wq ⟨rfl, hb⟩; have HB := Lib.hid (HB.out.trans (hb.mono HB.out.size)); clear hb Ra Rb HY))
              go_roundw
              case rel => exact ⟨k + 1, by go_num, by omega, HB.out⟩
              case measure => simp [intOf]; omega
            · have g1 : decide ((k : Int) < 3) = false := by simp <;> omega
              clear hk hk3
              go_wp2_with fail
              go_roundw
              case rel => exact ⟨(IntKind.u64.wrap ((T : Int) * 10)).toNat, j + 1, congrArg _ (Int.toNat_of_nonneg (Wrd.wrap _).1).symm, by have := (Wrd.wrap ((T : Int) * 10)).2; have := (Wrd.wrap ((T : Int) * 10)).1; omega, by go_num, by omega, HB.out⟩
              case measure => simp [intOf]; omega
        · have g1 : decide ((j : Int) < 20) = false := by simp <;> omega
          clear hj hj20
          go_upto_region 19 with fail
          have hk := Bk.new wr 9 txts
          have hb := below_box wr (.cells txts 9)
          have HT := Lib.hid (And.intro hk (HB.out.trans (hb.mono HB.out.size)))
          clear hk hb HB
          change Code.wp _ _ _ _ (wr.alloc (.cells txts 9))
          generalize hg : wr.heap.size = g7 at *
          generalize hw : wr.alloc (.cells txts 9) = z7 at *
          clear hg hw
          go_wp2_with fail
          go_loopw [8] (fun v wr => ∃ i : Nat, v = .int .i64 i ∧ i ≤ 22 ∧ Bk wr g7 9 txts ∧ Below w.heap.size w wr) (fun v _ => 22 - (intOf v).toNat)
          case atStart => exact ⟨0, rfl, by decide, HT.out.1, HT.out.2⟩
          case round =>
            clear HT
            obtain ⟨i, rfl, hi, hk, hB⟩ := hrel
            have HB := Lib.hid (And.intro hk hB)
            clear hk hB
            by_cases hi22 : i < 22
            · have g1 : decide ((i : Int) < 22) = true := by simp <;> omega
              go_wp2_with fail
              obtain ⟨wo, rfl⟩ : ∃ wo : World, wo = wr := ⟨_, rfl⟩
              go_loopw [9] (fun v wr => ∃ L : Int, v = .int .i64 L ∧ -1 ≤ L ∧ L ≤ 4 ∧ Bk wr g7 9 txts ∧ Below w.heap.size w wr) (fun v _ => (4 - intOf v).toNat)
              case atStart => exact ⟨-1, rfl, by decide, by decide, HB.out.1, HB.out.2⟩
              case round =>
                clear HB
                obtain ⟨L, rfl, hL1, hL4, hk, hB⟩ := hrel
                obtain ⟨s, hs⟩ := txts_at hi22
                have hc := (hk.cell i).trans hs
                have HB := Lib.hid (And.intro hk hB)
                have HS := Lib.hid hs
                clear hk hB hs
                by_cases hL : L < 4
                · have g2 : decide (L < 4) = true := decide_eq_true hL
                  go_wp2_with (first
                    | (go_at_call 5; refine (reads_any s L _).mono ?_; rintro e wq ⟨rfl, hb⟩; have hk := HB.out.1.keep hb; have hc2 := (hk.cell i).trans HS.out; have hz2 := hk.lt; have HB := Lib.hid (And.intro hk (HB.out.2.trans (hb.mono HB.out.2.size))); clear hb hk)
                    | (go_at_call 6; refine (back_k (Row.nil _) (Row.one _ (by first | exact Wrd.wrap _ | (constructor <;> omega))) (by first | exact Wrd.wrap _ | (constructor <;> omega)) ⟨by omega, by omega⟩).mono ?_; rintro e wr2 ⟨rfl, hb⟩; have hb2 := (below_box wq (.cells #[.int .u64 _] 23)).trans (hb.mono (below_box wq _).size); have HB := Lib.hid (And.intro (HB.out.1.keep hb2) (HB.out.2.trans (hb2.mono HB.out.2.size))); clear hb hb2))
                  go_roundw
                  case rel => exact ⟨L + 1, by go_num, by omega, by omega, HB.out.1, HB.out.2⟩
                  case measure => simp [intOf]; omega
                · have g2 : decide (L < 4) = false := decide_eq_false hL
                  clear hL1 hL4 hL hc
                  go_wp2_with fail
                  go_roundw
                  case rel => exact ⟨i + 1, by go_num, by omega, HB.out.1, HB.out.2⟩
                  case measure => simp [intOf]; omega
            · have g1 : decide ((i : Int) < 22) = false := by simp <;> omega
              clear hi hi22
              go_wp2_with (first
                | (go_at_call 3; refine (divides_k (Row.nil _) ⟨by decide, by decide⟩).mono ?_; rintro e wq ⟨rfl, hb⟩; have HB := Lib.hid (And.intro trivial (HB.out.2.trans (hb.mono HB.out.2.size))); clear hb)
                | (go_at_call 4; refine (texts_k (Row.nil _) ⟨by decide, by decide⟩).mono ?_; rintro e wq ⟨rfl, hb⟩; have HB := Lib.hid (And.intro trivial (HB.out.2.trans (hb.mono HB.out.2.size))); clear hb)
                | (go_at_call 8; refine (works_c _).mono ?_; rintro e wq ⟨rfl, hb⟩; have HB := Lib.hid (And.intro trivial (HB.out.2.trans (hb.mono HB.out.2.size))); clear hb))
              go_ret
              exact ⟨rfl, HB.out.2⟩

end Go.Proofs.Ytehdbogiacmabaa
