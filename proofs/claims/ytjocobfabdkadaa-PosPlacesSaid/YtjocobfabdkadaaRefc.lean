/- The document's numbers, by contract: Add, Sub, Of. At most 2000 bytes. -/
import Derived.Test.YtjocobfabdkadaaRefb
namespace Go.Proofs.Ytjocobfabdkadaa
open Go.RowKit
attribute [local go_sem] alloc_drewN setCell_drewN
theorem val_snoc (b : Nat) (l : List Nat) (x : Nat) : val b (l ++ [x]) = val b l + b ^ l.length * x := by simp [val_append, val]
theorem rw_newI {k : IntKind} (w : World) (z : Int) (x : Nat) (h : z = x) (t : TypeId) : Rw k (w.alloc (.cells #[.int k z] t)) (some ⟨w.heap.size, 0, none⟩) 1 [x] := by
  subst h; exact rw_new w x t
theorem OwnB.grew {g : Nat} {w0 w w' : World} {o : Obj} {v : Value} {l : List Nat} (h : OwnB g w v l) (hb : Below g w0 w) (hg : (w.alloc o).grownBy w' v.ownBlock) (hs : g ≤ w.heap.size) : Below g w0 w' :=
  (hb.alloc hs _).grown hg (by simp; omega) (fun k hk => (h.lt k hk).1)
theorem add_bytes {la lb r : List Nat} {d s d' : Nat} (hs : s + 256 * d' = byteAt la r.length + byteAt lb r.length + d) (hv : val 256 r + 256 ^ r.length * d = val 256 (la.take r.length) + val 256 (lb.take r.length)) :
    val 256 (r ++ [s]) + 256 ^ (r.length + 1) * d' = val 256 (la.take (r.length + 1)) + val 256 (lb.take (r.length + 1)) := by
  rw [val_snoc, val_take_byte, val_take_byte, Nat.pow_succ, Nat.mul_assoc]
  have h1 : 256 ^ r.length * (s + 256 * d') = 256 ^ r.length * (byteAt la r.length + byteAt lb r.length + d) := by rw [hs]
  simp only [Nat.mul_add] at h1
  omega
theorem sub_bytes {la lb r : List Nat} {d s d' : Nat} (hs : s + byteAt lb r.length + d = byteAt la r.length + 256 * d') (hv : val 256 r + val 256 (lb.take r.length) = val 256 (la.take r.length) + 256 ^ r.length * d) :
    val 256 (r ++ [s]) + val 256 (lb.take (r.length + 1)) = val 256 (la.take (r.length + 1)) + 256 ^ (r.length + 1) * d' := by
  rw [val_snoc, val_take_byte, val_take_byte, Nat.pow_succ, Nat.mul_assoc]
  have h1 : 256 ^ r.length * (s + byteAt lb r.length + d) = 256 ^ r.length * (byteAt la r.length + 256 * d') := by rw [hs]
  simp only [Nat.mul_add] at h1
  omega
set_option maxHeartbeats 8000000 in
theorem refAdd_c (u v : Value) (N M : Nat) (w : World) (hu : IsByt w u N) (hv : IsByt w v M) (hN : FitB N 2000) (hM : FitB M 2000) :
    Calls Try.prog 63 #[u, v] w fun e w' => ∃ x, e = .returned x ∧ IsByt w' x (N + M) ∧ Below w.heap.size w w' := by
  obtain ⟨A, n, c1, la, rfl, ha, hla, _⟩ := hu
  obtain ⟨B, m, c2, lb, rfl, hb, hlb, _⟩ := hv
  have hn : n ≤ 2000 := by rw [← ha.1]; exact hla.lenB hN
  have hm : m ≤ 2000 := by rw [← hb.1]; exact hlb.lenB hM
  have HI := Lib.hid (And.intro ha hb)
  have hlen := Lib.hid (And.intro ha.1 hb.1)
  clear ha hb
  go_enter Try.func63, Try.ntmps63
  go_wp2
  go_loopw [5, 6, 7] (fun o ca i w1 => ∃ (k d : Nat) (r : List Nat), i = .int .i64 k ∧ ca = .int .i64 d ∧ d ≤ 1 ∧ k + d ≤ max n m + 1 ∧ OwnB w.heap.size w1 o r ∧ r.length = k ∧ AllLt 256 r ∧ val 256 r + 256 ^ k * d = val 256 (la.take k) + val 256 (lb.take k) ∧ Below w.heap.size w w1) (fun _ ca i _ => 2 * (max n m - (intOf i).toNat) + (intOf ca).toNat)
  case atStart => exact ⟨0, 0, [], rfl, rfl, by omega, by omega, World.ownsRow_nil _ _ _ _, rfl, fun _ h => (by cases h), rfl, Below.refl _ _⟩
  case round =>
    obtain ⟨k, d, r, rfl, rfl, hd, hk, ho, hrk, hrl, hv, hB⟩ := hrel
    subst hrk
    obtain ⟨Ao, co, rfl, hro, hco⟩ := ho.slice
    have hxa := byteAt_lt hla.1 r.length
    have hxb := byteAt_lt hlb.1 r.length
    have hsz := hB.size
    have e1 : ((((byteAt la r.length + byteAt lb r.length + d) % 256 : Nat)) : Int) = (((byteAt la r.length : Nat) : Int) + ((byteAt lb r.length : Nat) : Int) + (d : Int)) % 256 := by omega
    have HE := Lib.hid e1
    have HO := Lib.hid ho
    have HV := Lib.hid (And.intro hv (And.intro hrl hB))
    clear e1 ho hro hv hrl hB
    by_cases hkn : r.length < n
    · have g1 : decide ((r.length : Int) < (n : Int)) = true := by simp <;> omega
      go_wp2_with (first
        | (go_at_call_of 77 (Value.slice A n c1); refine (at_c A n c1 la r.length _ (HI.out.1.keep HV.out.2.2) hla.1 (by omega) (by omega)).mono ?_; rintro e w1 ⟨rfl, rfl⟩)
        | (go_at_call 77; refine (at_c B m c2 lb r.length _ (HI.out.2.keep HV.out.2.2) hlb.1 (by omega) (by omega)).mono ?_; rintro e w1 ⟨rfl, rfl⟩)
        | (at_builtin; refine wpList_append_row (k := .u8) rfl _ _ rfl w.heap.size Try.underlying80 info8 rfl (by decide) (.slice Ao r.length co) r [((byteAt la r.length + byteAt lb r.length + d) % 256)] (some ⟨_, 0, none⟩) 1 1 rfl rfl (World.ownsRow.alloc HO.out _) (rw_newI _ _ ((byteAt la r.length + byteAt lb r.length + d) % 256) HE.out.symm _) (by omega) (by simp; omega) ?_; intro v' w' ho' hg' _; have HG := Lib.hid (And.intro ho' hg'); clear ho' hg'))
      obtain ⟨hv, hrl, hB⟩ := HV.out
      go_roundw
      case rel => exact ⟨r.length + 1, (byteAt la r.length + byteAt lb r.length + d) / 256, r ++ [(byteAt la r.length + byteAt lb r.length + d) % 256], by go_num, by simp, by omega, by omega, HG.out.1, by simp, hrl.snoc (by omega), add_bytes (by omega) hv, OwnB.grew HO.out hB HG.out.2 hsz⟩
      case measure => simp [intOf] <;> omega
    by_cases hkm : r.length < m
    · have g1 : decide ((r.length : Int) < (n : Int)) = false := by simp <;> omega
      have g2 : decide ((r.length : Int) < (m : Int)) = true := by simp <;> omega
      go_wp2_with (first
        | (go_at_call_of 77 (Value.slice A n c1); refine (at_c A n c1 la r.length _ (HI.out.1.keep HV.out.2.2) hla.1 (by omega) (by omega)).mono ?_; rintro e w1 ⟨rfl, rfl⟩)
        | (go_at_call 77; refine (at_c B m c2 lb r.length _ (HI.out.2.keep HV.out.2.2) hlb.1 (by omega) (by omega)).mono ?_; rintro e w1 ⟨rfl, rfl⟩)
        | (at_builtin; refine wpList_append_row (k := .u8) rfl _ _ rfl w.heap.size Try.underlying80 info8 rfl (by decide) (.slice Ao r.length co) r [((byteAt la r.length + byteAt lb r.length + d) % 256)] (some ⟨_, 0, none⟩) 1 1 rfl rfl (World.ownsRow.alloc HO.out _) (rw_newI _ _ ((byteAt la r.length + byteAt lb r.length + d) % 256) HE.out.symm _) (by omega) (by simp; omega) ?_; intro v' w' ho' hg' _; have HG := Lib.hid (And.intro ho' hg'); clear ho' hg'))
      obtain ⟨hv, hrl, hB⟩ := HV.out
      go_roundw
      case rel => exact ⟨r.length + 1, (byteAt la r.length + byteAt lb r.length + d) / 256, r ++ [(byteAt la r.length + byteAt lb r.length + d) % 256], by go_num, by simp, by omega, by omega, HG.out.1, by simp, hrl.snoc (by omega), add_bytes (by omega) hv, OwnB.grew HO.out hB HG.out.2 hsz⟩
      case measure => simp [intOf] <;> omega
    by_cases hd1 : d = 1
    · have g1 : decide ((r.length : Int) < (n : Int)) = false := by simp <;> omega
      have g2 : decide ((r.length : Int) < (m : Int)) = false := by simp <;> omega
      have g3 : decide ((0 : Int) < (d : Int)) = true := by simp <;> omega
      have g4 : 0 < d := by omega
      have hba : byteAt la r.length = 0 := by unfold byteAt; rw [List.getElem?_eq_none (by rw [hlen.out.1]; omega)]; rfl
      have hbb : byteAt lb r.length = 0 := by unfold byteAt; rw [List.getElem?_eq_none (by rw [hlen.out.2]; omega)]; rfl
      have HBB := Lib.hid (And.intro hba (And.intro hbb hd1))
      clear hba hbb hd1
      go_wp2_with (first
        | (go_at_call_of 77 (Value.slice A n c1); refine (at_c A n c1 la r.length _ (HI.out.1.keep HV.out.2.2) hla.1 (by omega) (by omega)).mono ?_; rintro e w1 ⟨rfl, rfl⟩)
        | (go_at_call 77; refine (at_c B m c2 lb r.length _ (HI.out.2.keep HV.out.2.2) hlb.1 (by omega) (by omega)).mono ?_; rintro e w1 ⟨rfl, rfl⟩)
        | (at_builtin; refine wpList_append_row (k := .u8) rfl _ _ rfl w.heap.size Try.underlying80 info8 rfl (by decide) (.slice Ao r.length co) r [((byteAt la r.length + byteAt lb r.length + d) % 256)] (some ⟨_, 0, none⟩) 1 1 rfl rfl (World.ownsRow.alloc HO.out _) (rw_newI _ _ ((byteAt la r.length + byteAt lb r.length + d) % 256) HE.out.symm _) (by omega) (by simp; omega) ?_; intro v' w' ho' hg' _; have HG := Lib.hid (And.intro ho' hg'); clear ho' hg'))
      obtain ⟨hv, hrl, hB⟩ := HV.out
      obtain ⟨hb1, hb2, hb3⟩ := HBB.out
      go_roundw
      case rel => exact ⟨r.length + 1, (byteAt la r.length + byteAt lb r.length + d) / 256, r ++ [(byteAt la r.length + byteAt lb r.length + d) % 256], by go_num, by simp, by omega, by omega, HG.out.1, by simp, hrl.snoc (by omega), add_bytes (by omega) hv, OwnB.grew HO.out hB HG.out.2 hsz⟩
      case measure => simp [intOf] <;> omega
    · have g1 : decide ((r.length : Int) < (n : Int)) = false := by simp <;> omega
      have g2 : decide ((r.length : Int) < (m : Int)) = false := by simp <;> omega
      obtain rfl : d = 0 := by omega
      obtain ⟨hv, hrl, hB⟩ := HV.out
      rw [List.take_of_length_le (by rw [hlen.out.1]; omega), List.take_of_length_le (by rw [hlen.out.2]; omega), hla.2.1, hlb.2.1] at hv
      have hro := (OwnB.slice HO.out)
      obtain ⟨A', c', e, hro, _⟩ := hro
      injection e with e1 _ e3
      subst e1 e3
      go_wp2_with (go_at_call 60; refine (refTrim_c _ _ _ r _ hro hrl (by omega)).mono ?_; rintro e w1 ⟨x, rfl, hx, hb⟩)
      go_ret
      exact ⟨_, rfl, by rw [show N + M = val 256 r by omega]; exact hx, hB.trans (hb.mono hsz)⟩
end Go.Proofs.Ytjocobfabdkadaa
