/- The document's numbers, by contract: Of, Limbs, Fits. At most 200 limbs, 1600 bytes. -/
import Derived.Test.YtjocobfabdkadaaNatw
namespace Go.Proofs.Ytjocobfabdkadaa
open Go.RowKit
attribute [local go_sem] alloc_drewN setCell_drewN
/-- The value v is a row of bytes that is the number N, without a nought at its end. -/
def IsByt (w : World) (v : Value) (N : Nat) : Prop := ∃ (A : Option Addr) (n c : Nat) (l : List Nat), v = .slice A n c ∧ Rw .u8 w A n l ∧ Lim 256 l N ∧ n ≤ c
theorem IsByt.keep {w w' : World} {v : Value} {N : Nat} (h : IsByt w v N) (hb : Below w.heap.size w w') : IsByt w' v N := by
  obtain ⟨A, n, c, l, h1, h2, h3⟩ := h
  exact ⟨A, n, c, l, h1, h2.keep hb, h3⟩
structure FitB (N s : Nat) : Prop where
  lt : N < 256 ^ s
theorem Lim.lenB {l : List Nat} {N s : Nat} (h : Lim 256 l N) (hN : FitB N s) : l.length ≤ s := by
  obtain ⟨h1, h2, h3⟩ := h
  subst h2
  by_cases hl : l = []
  · subst hl; simp
  · have h4 := lim_ge 256 (by omega) l h3 hl
    have h5 := Nat.lt_of_le_of_lt h4 hN.lt
    have h6 := (Nat.pow_lt_pow_iff_right (show 1 < 256 by omega)).1 h5
    omega
theorem pow_8 (k : Nat) : (18446744073709551616 : Nat) ^ k = 256 ^ (8 * k) := by
  rw [Nat.pow_mul]
theorem Fits.bytes {N s : Nat} (h : Fits N s) : FitB N (8 * s) := ⟨by rw [← pow_8]; exact h.lt⟩
theorem FitB.mono {N s t : Nat} (h : FitB N s) (hst : s ≤ t) : FitB N t := ⟨Nat.lt_of_lt_of_le h.lt (Nat.pow_le_pow_right (by omega) hst)⟩
theorem info8 : (Try.prog.info? 5).map (fun i => (i.zero, i.size, i.bytes)) = some (some (.int .u8 0), 1, 1) := by kernel_rfl
def OwnB (g : Nat) (w : World) (v : Value) (l : List Nat) : Prop := w.ownsRow g 5 1 v l.length (cellsOf .u8 l)
theorem OwnB.slice {g : Nat} {w : World} {v : Value} {l : List Nat} (h : OwnB g w v l) : ∃ A c, v = .slice A l.length c ∧ Rw .u8 w A l.length l ∧ l.length ≤ c := by
  rcases h.2 with ⟨rfl, h0⟩ | ⟨b, cap, cur, rfl, hb, hh, hcap, _⟩
  · have : l = [] := List.eq_nil_of_length_eq_zero h0
    subst this
    exact ⟨none, 0, rfl, Rw.nil _ _ _, Nat.le_refl _⟩
  · exact ⟨_, cap, rfl, Rw.of_own h, hcap⟩
set_option maxHeartbeats 4000000 in
theorem refTrim_c (A : Option Addr) (n c : Nat) (l : List Nat) (w : World) (hr : Rw .u8 w A n l) (hl : AllLt 256 l) (hn : n ≤ 100000) :
    Calls Try.prog 60 #[.slice A n c] w fun e w' => ∃ v, e = .returned v ∧ IsByt w' v (val 256 l) ∧ Below w.heap.size w w' := by
  have hlen := hr.1
  go_enter Try.func60, Try.ntmps60
  go_wp2_with (at_builtin; refine wpList_append_row (k := .u8) rfl _ _ rfl w.heap.size Try.underlying80 info8 rfl (by decide) (.slice none 0 0) [] l A n c rfl rfl (World.ownsRow_nil _ _ _ _) hr (by simp; omega) (by simp) ?_; intro v' w1 ho hg1 _; obtain ⟨A1, c1, rfl, hr1, hc1⟩ := (show OwnB w.heap.size w1 v' l from ho).slice; have HB := Lib.hid (And.intro ((Below.refl _ _).grown hg1 (Nat.le_refl _) (fun k hk => by simp [Value.ownBlock] at hk) : Below w.heap.size w w1) hr1); clear hg1 ho hr1 hr)
  go_loop [3] (fun u => ∃ m : Nat, u = .slice A1 m c1 ∧ m ≤ n ∧ trimLen (l.take m) = trimLen l) (fun u => sliceLen u)
  case atStart => exact ⟨n, rfl, Nat.le_refl _, by rw [← hlen, List.take_length]⟩
  case round =>
    obtain ⟨m, rfl, hm, ht⟩ := hrel
    by_cases h0 : m = 0
    · subst h0
      go_wp2
      go_ret
      simp at ht
      rw [show trimLen [] = 0 from rfl] at ht
      have h1 := val_trim 256 l
      rw [← ht] at h1
      exact ⟨_, rfl, by rw [← h1]; exact ⟨A1, 0, c1, [], rfl, Rw.nil _ _ _, Lim.nil _, Nat.zero_le _⟩, HB.out.1⟩
    · obtain ⟨k, rfl⟩ : ∃ k, m = k + 1 := ⟨m - 1, by omega⟩
      obtain ⟨b, off, x, rfl, hbl, hx, hc⟩ := HB.out.2.at_ (i := k) (by omega)
      have HT := Lib.hid (And.intro ht hx)
      clear ht hx
      have h1 : decide ((0 : Int) < (((k + 1 : Nat)) : Int)) = true := by simp <;> omega
      by_cases hx0 : x = 0
      · subst hx0
        go_wp2
        go_round
        case rel => exact ⟨k, by simp, by omega, by have := HT.out.1; rw [trimLen_take HT.out.2] at this; simpa using this⟩
        case measure => simp [sliceLen]
      · have h2 : ((x : Int) == 0) = false := beq_false_of_ne (by omega)
        go_wp2
        go_ret
        have := HT.out.1
        rw [trimLen_take HT.out.2, if_neg hx0] at this
        refine ⟨_, rfl, ⟨_, k + 1, c1, l.take (trimLen l), rfl, by rw [← this]; exact HB.out.2.take (by omega), Lim.trim hl, by omega⟩, HB.out.1⟩
end Go.Proofs.Ytjocobfabdkadaa
namespace Go.Proofs.Ytjocobfabdkadaa
open Go.RowKit
attribute [local go_sem] alloc_drewN setCell_drewN
def byteAt (l : List Nat) (i : Nat) : Nat := l[i]?.getD 0
theorem byteAt_lt {l : List Nat} (h : AllLt 256 l) (i : Nat) : byteAt l i < 256 := by
  unfold byteAt
  cases hx : l[i]? with
  | none => simp
  | some x => exact h.at_ hx
theorem val_take_byte (b : Nat) (l : List Nat) (i : Nat) : val b (l.take (i + 1)) = val b (l.take i) + b ^ i * byteAt l i := by
  unfold byteAt
  cases hx : l[i]? with
  | none =>
    have := List.getElem?_eq_none_iff.1 hx
    rw [List.take_of_length_le (by omega), List.take_of_length_le this]
    simp
  | some x => exact val_take_succ b hx
set_option maxHeartbeats 1600000 in
theorem at_c (A : Option Addr) (n c : Nat) (l : List Nat) (i : Nat) (w : World) (hr : Rw .u8 w A n l) (hl : AllLt 256 l) (hn : n ≤ 100000) (hi : i ≤ 1000000) :
    Calls Try.prog 77 #[.slice A n c, .int .i64 i] w fun e w' => e = .returned (.int .i64 (byteAt l i)) ∧ w' = w := by
  by_cases hin : i < n
  · obtain ⟨b, off, x, rfl, hb, hx, hc⟩ := hr.at_ hin
    have hxl := hl.at_ hx
    have h1 : decide ((i : Int) < (n : Int)) = true := by simp <;> omega
    have HX := Lib.hid hx
    clear hx hr
    go_enter Try.func77, Try.ntmps77
    go_wp2
    go_ret
    exact ⟨by unfold byteAt; rw [HX.out]; rfl, rfl⟩
  · have h1 : decide ((i : Int) < (n : Int)) = false := by simp <;> omega
    have h2 : byteAt l i = 0 := by
      unfold byteAt
      rw [List.getElem?_eq_none (by rw [hr.1]; omega)]; rfl
    clear hr
    go_enter Try.func77, Try.ntmps77
    go_wp2
    go_ret
    exact ⟨by rw [h2]; rfl, rfl⟩
end Go.Proofs.Ytjocobfabdkadaa
namespace Go.Proofs.Ytjocobfabdkadaa
open Go.RowKit
attribute [local go_sem] alloc_drewN setCell_drewN
theorem val_snoc (b : Nat) (l : List Nat) (x : Nat) : val b (l ++ [x]) = val b l + b ^ l.length * x := by simp [val_append, val]
theorem rw_newI {k : IntKind} (w : World) (z : Int) (x : Nat) (h : z = x) (t : TypeId) : Rw k (w.alloc (.cells #[.int k z] t)) (some ⟨w.heap.size, 0, none⟩) 1 [x] := by
  subst h; exact rw_new w x t
theorem OwnB.grew {g : Nat} {w0 w w' : World} {o : Obj} {v : Value} {l : List Nat} (h : OwnB g w v l) (hb : Below g w0 w) (hg : (w.alloc o).grownBy w' v.ownBlock) (hs : g ≤ w.heap.size) : Below g w0 w' :=
  (hb.alloc hs _).grown hg (by simp; omega) (fun k hk => (h.lt k hk).1)
theorem add_bytes {la lb r : List Nat} {d s d' : Nat} (hs : s + 256 * d' = byteAt la r.length + byteAt lb r.length + d) (hv : val 256 r + 256 ^ r.length * d = val 256 (la.take r.length) + val 256 (lb.take r.length)) :
    val 256 (r ++ [s]) + 256 ^ (r.length + 1) * d' = val 256 (la.take (r.length + 1)) + val 256 (lb.take (r.length + 1)) := by
  rw [val_snoc, val_take_byte, val_take_byte, Nat.pow_succ, Nat.mul_assoc]
  have h1 : 256 ^ r.length * (s + 256 * d') = 256 ^ r.length * (byteAt la r.length + byteAt lb r.length + d) := by rw [hs]
  simp only [Nat.mul_add] at h1
  omega
theorem sub_bytes {la lb r : List Nat} {d s d' : Nat} (hs : s + byteAt lb r.length + d = byteAt la r.length + 256 * d') (hv : val 256 r + val 256 (lb.take r.length) = val 256 (la.take r.length) + 256 ^ r.length * d) :
    val 256 (r ++ [s]) + val 256 (lb.take (r.length + 1)) = val 256 (la.take (r.length + 1)) + 256 ^ (r.length + 1) * d' := by
  rw [val_snoc, val_take_byte, val_take_byte, Nat.pow_succ, Nat.mul_assoc]
  have h1 : 256 ^ r.length * (s + byteAt lb r.length + d) = 256 ^ r.length * (byteAt la r.length + 256 * d') := by rw [hs]
  simp only [Nat.mul_add] at h1
  omega
set_option maxHeartbeats 8000000 in
theorem refAdd_c (u v : Value) (N M : Nat) (w : World) (hu : IsByt w u N) (hv : IsByt w v M) (hN : FitB N 2000) (hM : FitB M 2000) :
    Calls Try.prog 63 #[u, v] w fun e w' => ∃ x, e = .returned x ∧ IsByt w' x (N + M) ∧ Below w.heap.size w w' := by
  obtain ⟨A, n, c1, la, rfl, ha, hla, _⟩ := hu
  obtain ⟨B, m, c2, lb, rfl, hb, hlb, _⟩ := hv
  have hn : n ≤ 2000 := by rw [← ha.1]; exact hla.lenB hN
  have hm : m ≤ 2000 := by rw [← hb.1]; exact hlb.lenB hM
  have HI := Lib.hid (And.intro ha hb)
  have hlen := Lib.hid (And.intro ha.1 hb.1)
  clear ha hb
  go_enter Try.func63, Try.ntmps63
  go_wp2
  go_loopw [5, 6, 7] (fun o ca i w1 => ∃ (k d : Nat) (r : List Nat), i = .int .i64 k ∧ ca = .int .i64 d ∧ d ≤ 1 ∧ k + d ≤ max n m + 1 ∧ OwnB w.heap.size w1 o r ∧ r.length = k ∧ AllLt 256 r ∧ val 256 r + 256 ^ k * d = val 256 (la.take k) + val 256 (lb.take k) ∧ Below w.heap.size w w1) (fun _ ca i _ => 2 * (max n m - (intOf i).toNat) + (intOf ca).toNat)
  case atStart => exact ⟨0, 0, [], rfl, rfl, by omega, by omega, World.ownsRow_nil _ _ _ _, rfl, fun _ h => (by cases h), rfl, Below.refl _ _⟩
  case round =>
    obtain ⟨k, d, r, rfl, rfl, hd, hk, ho, hrk, hrl, hv, hB⟩ := hrel
    subst hrk
    obtain ⟨Ao, co, rfl, hro, hco⟩ := ho.slice
    have hxa := byteAt_lt hla.1 r.length
    have hxb := byteAt_lt hlb.1 r.length
    have hsz := hB.size
    have e1 : ((((byteAt la r.length + byteAt lb r.length + d) % 256 : Nat)) : Int) = (((byteAt la r.length : Nat) : Int) + ((byteAt lb r.length : Nat) : Int) + (d : Int)) % 256 := by omega
    have HE := Lib.hid e1
    have HO := Lib.hid ho
    have HV := Lib.hid (And.intro hv (And.intro hrl hB))
    clear e1 ho hro hv hrl hB
    by_cases hkn : r.length < n
    · have g1 : decide ((r.length : Int) < (n : Int)) = true := by simp <;> omega
      go_wp2_with (first
        | (go_at_call_of 77 (Value.slice A n c1); refine (at_c A n c1 la r.length _ (HI.out.1.keep HV.out.2.2) hla.1 (by omega) (by omega)).mono ?_; rintro e w1 ⟨rfl, rfl⟩)
        | (go_at_call 77; refine (at_c B m c2 lb r.length _ (HI.out.2.keep HV.out.2.2) hlb.1 (by omega) (by omega)).mono ?_; rintro e w1 ⟨rfl, rfl⟩)
        | (at_builtin; refine wpList_append_row (k := .u8) rfl _ _ rfl w.heap.size Try.underlying80 info8 rfl (by decide) (.slice Ao r.length co) r [((byteAt la r.length + byteAt lb r.length + d) % 256)] (some ⟨_, 0, none⟩) 1 1 rfl rfl (World.ownsRow.alloc HO.out _) (rw_newI _ _ ((byteAt la r.length + byteAt lb r.length + d) % 256) HE.out.symm _) (by omega) (by simp; omega) ?_; intro v' w' ho' hg' _; have HG := Lib.hid (And.intro ho' hg'); clear ho' hg'))
      obtain ⟨hv, hrl, hB⟩ := HV.out
      go_roundw
      case rel => exact ⟨r.length + 1, (byteAt la r.length + byteAt lb r.length + d) / 256, r ++ [(byteAt la r.length + byteAt lb r.length + d) % 256], by go_num, by simp, by omega, by omega, HG.out.1, by simp, hrl.snoc (by omega), add_bytes (by omega) hv, OwnB.grew HO.out hB HG.out.2 hsz⟩
      case measure => simp [intOf] <;> omega
    by_cases hkm : r.length < m
    · have g1 : decide ((r.length : Int) < (n : Int)) = false := by simp <;> omega
      have g2 : decide ((r.length : Int) < (m : Int)) = true := by simp <;> omega
      go_wp2_with (first
        | (go_at_call_of 77 (Value.slice A n c1); refine (at_c A n c1 la r.length _ (HI.out.1.keep HV.out.2.2) hla.1 (by omega) (by omega)).mono ?_; rintro e w1 ⟨rfl, rfl⟩)
        | (go_at_call 77; refine (at_c B m c2 lb r.length _ (HI.out.2.keep HV.out.2.2) hlb.1 (by omega) (by omega)).mono ?_; rintro e w1 ⟨rfl, rfl⟩)
        | (at_builtin; refine wpList_append_row (k := .u8) rfl _ _ rfl w.heap.size Try.underlying80 info8 rfl (by decide) (.slice Ao r.length co) r [((byteAt la r.length + byteAt lb r.length + d) % 256)] (some ⟨_, 0, none⟩) 1 1 rfl rfl (World.ownsRow.alloc HO.out _) (rw_newI _ _ ((byteAt la r.length + byteAt lb r.length + d) % 256) HE.out.symm _) (by omega) (by simp; omega) ?_; intro v' w' ho' hg' _; have HG := Lib.hid (And.intro ho' hg'); clear ho' hg'))
      obtain ⟨hv, hrl, hB⟩ := HV.out
      go_roundw
      case rel => exact ⟨r.length + 1, (byteAt la r.length + byteAt lb r.length + d) / 256, r ++ [(byteAt la r.length + byteAt lb r.length + d) % 256], by go_num, by simp, by omega, by omega, HG.out.1, by simp, hrl.snoc (by omega), add_bytes (by omega) hv, OwnB.grew HO.out hB HG.out.2 hsz⟩
      case measure => simp [intOf] <;> omega
    by_cases hd1 : d = 1
    · have g1 : decide ((r.length : Int) < (n : Int)) = false := by simp <;> omega
      have g2 : decide ((r.length : Int) < (m : Int)) = false := by simp <;> omega
      have g3 : decide ((0 : Int) < (d : Int)) = true := by simp <;> omega
      have g4 : 0 < d := by omega
      have hba : byteAt la r.length = 0 := by unfold byteAt; rw [List.getElem?_eq_none (by rw [hlen.out.1]; omega)]; rfl
      have hbb : byteAt lb r.length = 0 := by unfold byteAt; rw [List.getElem?_eq_none (by rw [hlen.out.2]; omega)]; rfl
      have HBB := Lib.hid (And.intro hba (And.intro hbb hd1))
      clear hba hbb hd1
      go_wp2_with (first
        | (go_at_call_of 77 (Value.slice A n c1); refine (at_c A n c1 la r.length _ (HI.out.1.keep HV.out.2.2) hla.1 (by omega) (by omega)).mono ?_; rintro e w1 ⟨rfl, rfl⟩)
        | (go_at_call 77; refine (at_c B m c2 lb r.length _ (HI.out.2.keep HV.out.2.2) hlb.1 (by omega) (by omega)).mono ?_; rintro e w1 ⟨rfl, rfl⟩)
        | (at_builtin; refine wpList_append_row (k := .u8) rfl _ _ rfl w.heap.size Try.underlying80 info8 rfl (by decide) (.slice Ao r.length co) r [((byteAt la r.length + byteAt lb r.length + d) % 256)] (some ⟨_, 0, none⟩) 1 1 rfl rfl (World.ownsRow.alloc HO.out _) (rw_newI _ _ ((byteAt la r.length + byteAt lb r.length + d) % 256) HE.out.symm _) (by omega) (by simp; omega) ?_; intro v' w' ho' hg' _; have HG := Lib.hid (And.intro ho' hg'); clear ho' hg'))
      obtain ⟨hv, hrl, hB⟩ := HV.out
      obtain ⟨hb1, hb2, hb3⟩ := HBB.out
      go_roundw
      case rel => exact ⟨r.length + 1, (byteAt la r.length + byteAt lb r.length + d) / 256, r ++ [(byteAt la r.length + byteAt lb r.length + d) % 256], by go_num, by simp, by omega, by omega, HG.out.1, by simp, hrl.snoc (by omega), add_bytes (by omega) hv, OwnB.grew HO.out hB HG.out.2 hsz⟩
      case measure => simp [intOf] <;> omega
    · have g1 : decide ((r.length : Int) < (n : Int)) = false := by simp <;> omega
      have g2 : decide ((r.length : Int) < (m : Int)) = false := by simp <;> omega
      obtain rfl : d = 0 := by omega
      obtain ⟨hv, hrl, hB⟩ := HV.out
      rw [List.take_of_length_le (by rw [hlen.out.1]; omega), List.take_of_length_le (by rw [hlen.out.2]; omega), hla.2.1, hlb.2.1] at hv
      have hro := (OwnB.slice HO.out)
      obtain ⟨A', c', e, hro, _⟩ := hro
      injection e with e1 _ e3
      subst e1 e3
      go_wp2_with (go_at_call 60; refine (refTrim_c _ _ _ r _ hro hrl (by omega)).mono ?_; rintro e w1 ⟨x, rfl, hx, hb⟩)
      go_ret
      exact ⟨_, rfl, by rw [show N + M = val 256 r by omega]; exact hx, hB.trans (hb.mono hsz)⟩
end Go.Proofs.Ytjocobfabdkadaa
namespace Go.Proofs.Ytjocobfabdkadaa
open Go.RowKit
attribute [local go_sem] alloc_drewN setCell_drewN
theorem of_byte {q k y T : Nat} {r : List Nat} (hr : r.length = 8 * k + q) (hv : val 256 r + 256 ^ (8 * k + q) * y = T) : val 256 (r ++ [y % 256]) + 256 ^ (8 * k + (q + 1)) * (y / 256) = T := by
  rw [val_snoc, hr, ← Nat.add_assoc (8 * k) q 1, Nat.pow_succ, Nat.mul_assoc, Nat.add_assoc, ← Nat.mul_add]
  rw [show y % 256 + 256 * (y / 256) = y by omega]
  exact hv
set_option maxHeartbeats 8000000 in
theorem refOf_c (A : Option Addr) (n c : Nat) (l : List Nat) (w : World) (hr : Rw .u64 w A n l) (hl : AllLt 18446744073709551616 l) (hn : n ≤ 200) :
    Calls Try.prog 47 #[.slice A n c] w fun e w' => ∃ x, e = .returned x ∧ IsByt w' x (val 18446744073709551616 l) ∧ Below w.heap.size w w' := by
  have hlen := Lib.hid hr.1
  have HI := Lib.hid hr
  clear hr
  go_enter Try.func47, Try.ntmps47
  go_wp2
  go_loopw [3, 4] (fun o i w1 => ∃ (k : Nat) (r : List Nat), i = .int .i64 k ∧ k ≤ n ∧ OwnB w.heap.size w1 o r ∧ r.length = 8 * k ∧ AllLt 256 r ∧ val 256 r = val 18446744073709551616 (l.take k) ∧ Below w.heap.size w w1) (fun _ i _ => n - (intOf i).toNat)
  case atStart => exact ⟨0, [], rfl, Nat.zero_le _, World.ownsRow_nil _ _ _ _, rfl, fun _ h => (by cases h), rfl, Below.refl _ _⟩
  case round =>
    obtain ⟨k, r, rfl, hk, ho, hrk, hrl, hv, hB⟩ := hrel
    obtain ⟨Ao, co, rfl, hro, hco⟩ := ho.slice
    have hsz := hB.size
    by_cases hkn : k < n
    · have g1 : decide ((k : Int) < (n : Int)) = true := by simp <;> omega
      obtain ⟨b, off, x, rfl, hbl, hx, hcx⟩ := (HI.out.keep hB).at_ hkn
      have hxl := hl.at_ hx
      have hT := val_take_succ 18446744073709551616 hx
      rw [← hv] at hT
      have HX := Lib.hid (And.intro hT (And.intro hrl (And.intro hrk (And.intro ho hB))))
      clear hT hrl hrk ho hB hx hv hro
      go_wp2
      go_loopw [3, 5, 6] (fun o nn j w2 => ∃ (q y : Nat) (r2 : List Nat), j = .int .i64 q ∧ q ≤ 8 ∧ nn = .int .u64 y ∧ y < 18446744073709551616 ∧ y < 256 ^ (8 - q) ∧ OwnB w.heap.size w2 o r2 ∧ r2.length = 8 * k + q ∧ AllLt 256 r2 ∧ val 256 r2 + 256 ^ (8 * k + q) * y = val 18446744073709551616 (l.take (k + 1)) ∧ Below w.heap.size w w2) (fun _ _ j _ => 8 - (intOf j).toNat)
      case atStart => exact ⟨0, x, r, rfl, by omega, rfl, hxl, hxl, HX.out.2.2.2.1, HX.out.2.2.1, HX.out.2.1, by rw [HX.out.1, Nat.add_zero, pow_8], HX.out.2.2.2.2⟩
      case round =>
        obtain ⟨q, y, r2, rfl, hq, rfl, hy64, hy, ho2, hrk2, hrl2, hv2, hB2⟩ := hrel
        obtain ⟨Ao2, co2, rfl, hro2, hco2⟩ := ho2.slice
        have hsz2 := hB2.size
        have hrs : r2.length ≤ 2000 := by omega
        have HO := Lib.hid ho2
        have HV := Lib.hid (And.intro hv2 (And.intro hrl2 (And.intro hB2 (And.intro hrk2 hy))))
        clear ho2 hv2 hrl2 hB2 hrk2 hy hro2
        by_cases hq8 : q < 8
        · have g2 : decide ((q : Int) < 8) = true := by simp <;> omega
          go_wp2_with (at_builtin; refine wpList_append_row (k := .u8) rfl _ _ rfl w.heap.size Try.underlying80 info8 rfl (by decide) (.slice Ao2 r2.length co2) r2 [y % 256] (some ⟨_, 0, none⟩) 1 1 rfl rfl (World.ownsRow.alloc HO.out _) (rw_newI _ _ (y % 256) (Int.natCast_emod y 256).symm _) (by omega) (by simp; omega) ?_; intro v' w' ho' hg' _; have HG := Lib.hid (And.intro ho' hg'); clear ho' hg')
          obtain ⟨hv2, hrl2, hB2, hrk2, hy⟩ := HV.out
          go_roundw
          case rel => exact ⟨q + 1, y / 256, r2 ++ [y % 256], by go_num, by omega, by simp, by omega, by rw [show 8 - q = 8 - (q + 1) + 1 by omega, Nat.pow_succ] at hy; exact Nat.div_lt_of_lt_mul (by rw [Nat.mul_comm]; exact hy), HG.out.1, by simp; omega, hrl2.snoc (by omega), of_byte hrk2 hv2, OwnB.grew HO.out hB2 HG.out.2 hsz2⟩
          case measure => simp [intOf] <;> omega
        · obtain rfl : q = 8 := by omega
          have g2 : decide (((8 : Nat) : Int) < 8) = false := by decide
          obtain ⟨hv2, hrl2, hB2, hrk2, hy⟩ := HV.out
          have hy0 : y = 0 := by simpa using hy
          have HZ := Lib.hid (And.intro hv2 (And.intro hrl2 (And.intro hB2 (And.intro hrk2 hy0))))
          clear hv2 hrl2 hB2 hrk2 hy hy0
          go_wp2
          go_roundw
          case rel =>
            obtain ⟨hv2, hrl2, hB2, hrk2, hy0⟩ := HZ.out
            subst hy0
            exact ⟨k + 1, r2, by go_num, by omega, HO.out, by omega, hrl2, by simpa using hv2, hB2⟩
          case measure => simp [intOf] <;> omega
    · obtain rfl : k = n := by omega
      have g1 : decide ((k : Int) < (k : Int)) = false := by simp
      rw [← hlen.out, List.take_length] at hv
      have hrs : r.length ≤ 2000 := by omega
      clear hrk
      go_wp2_with (go_at_call 60; refine (refTrim_c _ _ _ r _ hro hrl (by omega)).mono ?_; rintro e w1 ⟨x, rfl, hx, hb⟩)
      go_ret
      exact ⟨_, rfl, by rw [← hv]; exact hx, hB.trans (hb.mono hsz)⟩
theorem pow8 : (256 : Nat) ^ 8 = 18446744073709551616 := by simp
theorem limbs_chunk {k t : Nat} {l : List Nat} (ht : t = min l.length (8 * k + 8)) (hk : 8 * k ≤ l.length) : val 256 (l.take (8 * k + 8)) = val 256 (l.take (8 * k)) + 18446744073709551616 ^ k * val 256 ((l.take t).drop (8 * k)) := by
  have e : l.take (8 * k + 8) = l.take t := by
    subst ht
    by_cases h : l.length ≤ 8 * k + 8
    · rw [List.take_of_length_le h, Nat.min_eq_left h, List.take_length]
    · rw [Nat.min_eq_right (by omega)]
  have h1 := val_append 256 ((l.take t).take (8 * k)) ((l.take t).drop (8 * k))
  rw [List.take_append_drop, List.take_take, List.length_take, Nat.min_eq_left (by omega), Nat.min_eq_left (by omega)] at h1
  rw [e, h1, pow_8]
theorem limbs_canon {l r : List Nat} {N k : Nat} (hl : Lim 256 l N) (hr : AllLt 18446744073709551616 r) (hv : val 18446744073709551616 r = N) (hk : r.length = k) (hkl : 8 * k < l.length + 8) : Lim 18446744073709551616 r N := by
  refine ⟨hr, hv, ?_⟩
  by_cases h0 : k = 0
  · subst h0
    have := List.eq_nil_of_length_eq_zero hk
    subst this; rfl
  · have hle := trimLen_le r
    by_cases hc : trimLen r = r.length
    · exact hc
    · exfalso
      have h1 := val_lt 18446744073709551616 (by omega) (r.take (trimLen r)) (hr.take _)
      rw [val_trim, hv, List.length_take, Nat.min_eq_left hle] at h1
      have h2 := lim_ge 256 (by omega) l hl.2.2 (by intro e; subst e; simp at hkl; omega)
      rw [hl.2.1] at h2
      have h3 : 18446744073709551616 ^ trimLen r ≤ 18446744073709551616 ^ (k - 1) := Nat.pow_le_pow_right (by omega) (by omega)
      rw [pow_8 (k - 1)] at h3
      have h4 : 256 ^ (8 * (k - 1)) ≤ 256 ^ (l.length - 1) := Nat.pow_le_pow_right (by omega) (by omega)
      omega
theorem drop_byte {l : List Nat} {t x : Nat} (hx : l[t]? = some x) : val 256 (l.drop t) = x + 256 * val 256 (l.drop (t + 1)) := by
  obtain ⟨ht, rfl⟩ := List.getElem?_eq_some_iff.1 hx
  rw [← List.getElem_cons_drop ht]; rfl
set_option maxHeartbeats 8000000 in
theorem refLimbsA_c (A : Option Addr) (n c : Nat) (l : List Nat) (w : World) (hr : Rw .u8 w A n l) (hl : AllLt 256 l) (hn : n ≤ 2000) :
    Calls Try.prog 51 #[.slice A n c] w fun e w' => ∃ (x : Value) (r : List Nat), e = .returned x ∧ Own w.heap.size w' x r ∧ AllLt 18446744073709551616 r ∧ val 18446744073709551616 r = val 256 l ∧ 8 * r.length < n + 8 ∧ Below w.heap.size w w' := by
  have hlen := Lib.hid hr.1
  have HI := Lib.hid hr
  clear hr
  go_enter Try.func51, Try.ntmps51
  go_wp2
  go_loopw [3, 4] (fun o i w1 => ∃ (k : Nat) (r : List Nat), i = .int .i64 ((8 * k : Nat) : Int) ∧ 8 * k < n + 8 ∧ Own w.heap.size w1 o r ∧ r.length = k ∧ AllLt 18446744073709551616 r ∧ val 18446744073709551616 r = val 256 (l.take (8 * k)) ∧ Below w.heap.size w w1) (fun _ i _ => n - (intOf i).toNat)
  case atStart => exact ⟨0, [], rfl, by omega, World.ownsRow_nil _ _ _ _, rfl, fun _ h => (by cases h), rfl, Below.refl _ _⟩
  case round =>
    obtain ⟨k, r, rfl, hk, ho, hrk, hrl, hv, hB⟩ := hrel
    obtain ⟨Ao, co, rfl, hro, hco, _⟩ := ho.slice
    have hsz := hB.size
    have hrs : r.length ≤ 1000 := by omega
    generalize hi8 : 8 * k = i8 at *
    by_cases hkn : i8 < n
    · have g1 : decide ((i8 : Int) < (n : Int)) = true := by simp <;> omega
      by_cases hc8 : n ≤ i8 + 8
      · have hmm : (n : Int) ≤ (i8 : Int) + 8 := by omega
        have hti : i8 < n := by omega
        have ht8 : n ≤ i8 + 8 := by omega
        have htn : n ≤ n := by omega
        have hchunk := limbs_chunk (l := l) (k := k) (t := n) (by rw [hlen.out]; omega) (by rw [hlen.out]; omega)
        have hsl : (l.take (n)).length = n := by rw [List.length_take, hlen.out]; omega
        rw [hi8] at hchunk
        have HX := Lib.hid (And.intro hv (And.intro hrl (And.intro hrk (And.intro ho (And.intro hB (And.intro hi8 (And.intro hchunk hsl)))))))
        clear hv hrl hrk ho hB hi8 hro hk hchunk hsl
        go_wp2
        go_loop [5, 6] (fun xx kk => ∃ t y : Nat, kk = .int .i64 ((t : Int) - 1) ∧ i8 ≤ t ∧ t ≤ n ∧ xx = .int .u64 y ∧ y = val 256 ((l.take (n)).drop t)) (fun _ kk => (intOf kk + 1).toNat)
        case atStart => exact ⟨n, 0, by first | rfl | (congr 1; omega) | simp, by omega, by omega, rfl, by rw [List.drop_of_length_le (by rw [HX.out.2.2.2.2.2.2.2]; exact Nat.le_refl _)]; rfl⟩
        case round =>
          obtain ⟨t, y, rfl, hit, htt, rfl, hy⟩ := hrel
          have hyl : y < 256 ^ (n - t) := by
            have := val_lt 256 (by omega) _ (show AllLt 256 ((l.take (n)).drop t) from fun x hx => hl x (List.mem_of_mem_take (List.mem_of_mem_drop hx)))
            rw [← hy, List.length_drop, HX.out.2.2.2.2.2.2.2] at this
            exact this
          by_cases hti2 : i8 < t
          · have g2 : decide ((i8 : Int) ≤ (t : Int) - 1) = true := by simp <;> omega
            obtain ⟨s, rfl⟩ : ∃ s, t = s + 1 := ⟨t - 1, by omega⟩
            obtain ⟨b, off, x, rfl, hbl, hx, hcx⟩ := (HI.out.keep HX.out.2.2.2.2.1).at_ (i := s) (by omega)
            have hxl := hl.at_ hx
            have hdb := drop_byte (l := l.take (n)) (t := s) (x := x) (by rw [List.getElem?_take, if_pos (by omega)]; exact hx)
            rw [← hy] at hdb
            have hyb : x + 256 * y < 18446744073709551616 := by
              have h1 : x + 256 * y < 256 ^ (n - s) := by
                rw [show n - s = n - (s + 1) + 1 by omega, Nat.pow_succ]
                omega
              have h2 : 256 ^ (n - s) ≤ 256 ^ 8 := Nat.pow_le_pow_right (by omega) (by omega)
              have h3 := pow8
              omega
            have hyb2 : y * 256 < 18446744073709551616 := by omega
            have hyb3 : y * 256 + x < 18446744073709551616 := by rw [Nat.mul_comm, Nat.add_comm]; exact hyb
            have HY := Lib.hid (And.intro hy (And.intro hyl hdb))
            clear hy hyl hdb hx
            go_wp2
            go_round
            case rel => exact ⟨s, y * 256 + x, by go_num, by omega, by omega, by simp, by rw [HY.out.2.2]; omega⟩
            case measure => simp [intOf] <;> omega
          · obtain rfl : t = i8 := by omega
            have g2 : decide ((t : Int) ≤ (t : Int) - 1) = false := by simp <;> omega
            have hy64 : y < 18446744073709551616 := by
              have h2 : 256 ^ (n - t) ≤ 256 ^ 8 := Nat.pow_le_pow_right (by omega) (by omega)
              have h3 := pow8
              omega
            have HY := Lib.hid (And.intro hy hyl)
            clear hy hyl
            go_wp2_with (at_builtin; refine wpList_append_row (k := .u64) rfl _ _ rfl w.heap.size Try.underlying74 info64 rfl (by decide) (.slice Ao r.length co) r [y] (some ⟨_, 0, none⟩) 1 1 rfl rfl (World.ownsRow.alloc HX.out.2.2.2.1 _) (rw_newI _ _ y rfl _) (by omega) (by simp; omega) ?_; intro v' w' ho' hg' _; have HG := Lib.hid (And.intro ho' hg'); clear ho' hg')
            obtain ⟨hv, hrl, hrk, ho, hB, hi8, hchunk, hsl⟩ := HX.out
            go_roundw
            case rel =>
              refine ⟨k + 1, r ++ [y], by rw [← hi8]; simp; omega, by omega, HG.out.1, by simp; omega, hrl.snoc hy64, ?_, (hB.alloc (by omega) _).grown HG.out.2 (by simp; omega) (fun q hq => (ho.lt q hq).1)⟩
              rw [val_snoc, hv, hrk, show 8 * (k + 1) = t + 8 by omega, hchunk, HY.out.1]
            case measure => simp [intOf] <;> omega
      · have hmm : ¬ (n : Int) ≤ (i8 : Int) + 8 := by omega
        have hti : i8 < (i8 + 8) := by omega
        have ht8 : (i8 + 8) ≤ i8 + 8 := by omega
        have htn : (i8 + 8) ≤ n := by omega
        have hchunk := limbs_chunk (l := l) (k := k) (t := (i8 + 8)) (by rw [hlen.out]; omega) (by rw [hlen.out]; omega)
        have hsl : (l.take ((i8 + 8))).length = (i8 + 8) := by rw [List.length_take, hlen.out]; omega
        rw [hi8] at hchunk
        have HX := Lib.hid (And.intro hv (And.intro hrl (And.intro hrk (And.intro ho (And.intro hB (And.intro hi8 (And.intro hchunk hsl)))))))
        clear hv hrl hrk ho hB hi8 hro hk hchunk hsl
        go_wp2
        go_loop [5, 6] (fun xx kk => ∃ t y : Nat, kk = .int .i64 ((t : Int) - 1) ∧ i8 ≤ t ∧ t ≤ (i8 + 8) ∧ xx = .int .u64 y ∧ y = val 256 ((l.take ((i8 + 8))).drop t)) (fun _ kk => (intOf kk + 1).toNat)
        case atStart => exact ⟨(i8 + 8), 0, by first | rfl | (congr 1; omega) | simp, by omega, by omega, rfl, by rw [List.drop_of_length_le (by rw [HX.out.2.2.2.2.2.2.2]; exact Nat.le_refl _)]; rfl⟩
        case round =>
          obtain ⟨t, y, rfl, hit, htt, rfl, hy⟩ := hrel
          have hyl : y < 256 ^ ((i8 + 8) - t) := by
            have := val_lt 256 (by omega) _ (show AllLt 256 ((l.take ((i8 + 8))).drop t) from fun x hx => hl x (List.mem_of_mem_take (List.mem_of_mem_drop hx)))
            rw [← hy, List.length_drop, HX.out.2.2.2.2.2.2.2] at this
            exact this
          by_cases hti2 : i8 < t
          · have g2 : decide ((i8 : Int) ≤ (t : Int) - 1) = true := by simp <;> omega
            obtain ⟨s, rfl⟩ : ∃ s, t = s + 1 := ⟨t - 1, by omega⟩
            obtain ⟨b, off, x, rfl, hbl, hx, hcx⟩ := (HI.out.keep HX.out.2.2.2.2.1).at_ (i := s) (by omega)
            have hxl := hl.at_ hx
            have hdb := drop_byte (l := l.take ((i8 + 8))) (t := s) (x := x) (by rw [List.getElem?_take, if_pos (by omega)]; exact hx)
            rw [← hy] at hdb
            have hyb : x + 256 * y < 18446744073709551616 := by
              have h1 : x + 256 * y < 256 ^ ((i8 + 8) - s) := by
                rw [show (i8 + 8) - s = (i8 + 8) - (s + 1) + 1 by omega, Nat.pow_succ]
                omega
              have h2 : 256 ^ ((i8 + 8) - s) ≤ 256 ^ 8 := Nat.pow_le_pow_right (by omega) (by omega)
              have h3 := pow8
              omega
            have hyb2 : y * 256 < 18446744073709551616 := by omega
            have hyb3 : y * 256 + x < 18446744073709551616 := by rw [Nat.mul_comm, Nat.add_comm]; exact hyb
            have HY := Lib.hid (And.intro hy (And.intro hyl hdb))
            clear hy hyl hdb hx
            go_wp2
            go_round
            case rel => exact ⟨s, y * 256 + x, by go_num, by omega, by omega, by simp, by rw [HY.out.2.2]; omega⟩
            case measure => simp [intOf] <;> omega
          · obtain rfl : t = i8 := by omega
            have g2 : decide ((t : Int) ≤ (t : Int) - 1) = false := by simp <;> omega
            have hy64 : y < 18446744073709551616 := by
              have h2 : 256 ^ ((t + 8) - t) ≤ 256 ^ 8 := Nat.pow_le_pow_right (by omega) (by omega)
              have h3 := pow8
              omega
            have HY := Lib.hid (And.intro hy hyl)
            clear hy hyl
            go_wp2_with (at_builtin; refine wpList_append_row (k := .u64) rfl _ _ rfl w.heap.size Try.underlying74 info64 rfl (by decide) (.slice Ao r.length co) r [y] (some ⟨_, 0, none⟩) 1 1 rfl rfl (World.ownsRow.alloc HX.out.2.2.2.1 _) (rw_newI _ _ y rfl _) (by omega) (by simp; omega) ?_; intro v' w' ho' hg' _; have HG := Lib.hid (And.intro ho' hg'); clear ho' hg')
            obtain ⟨hv, hrl, hrk, ho, hB, hi8, hchunk, hsl⟩ := HX.out
            go_roundw
            case rel =>
              refine ⟨k + 1, r ++ [y], by rw [← hi8]; simp; omega, by omega, HG.out.1, by simp; omega, hrl.snoc hy64, ?_, (hB.alloc (by omega) _).grown HG.out.2 (by simp; omega) (fun q hq => (ho.lt q hq).1)⟩
              rw [val_snoc, hv, hrk, show 8 * (k + 1) = t + 8 by omega, hchunk, HY.out.1]
            case measure => simp [intOf] <;> omega
    · have g1 : decide ((i8 : Int) < (n : Int)) = false := by simp <;> omega
      rw [List.take_of_length_le (by rw [hlen.out]; omega)] at hv
      have hrk8 : 8 * r.length < n + 8 := by omega
      clear hro
      go_wp2
      go_ret
      exact ⟨_, r, rfl, ho, hrl, hv, hrk8, hB⟩
theorem refLimbs_c (A : Option Addr) (n c : Nat) (l : List Nat) (N : Nat) (w : World) (hr : Rw .u8 w A n l) (hl : Lim 256 l N) (hn : n ≤ 2000) :
    Calls Try.prog 51 #[.slice A n c] w fun e w' => ∃ (x : Value) (r : List Nat), e = .returned x ∧ Own w.heap.size w' x r ∧ Lim 18446744073709551616 r N ∧ Below w.heap.size w w' :=
  (refLimbsA_c A n c l w hr hl.1 hn).mono fun _ _ ⟨x, r, h1, h2, h3, h4, h5, h6⟩ => ⟨x, r, h1, h2, limbs_canon hl h3 (h4.trans hl.2.1) rfl (by rw [hr.1]; exact h5), h6⟩
end Go.Proofs.Ytjocobfabdkadaa
