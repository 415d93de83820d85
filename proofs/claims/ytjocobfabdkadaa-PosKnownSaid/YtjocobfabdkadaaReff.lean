/- The document's product, by contract. At most 700 bytes each. -/
import Derived.Test.YtjocobfabdkadaaRefe
namespace Go.Proofs.Ytjocobfabdkadaa
open Go.RowKit
attribute [local go_sem] alloc_drewN setCell_drewN
theorem carry_byte {S r : List Nat} {p d : Nat} (hp : S[r.length]? = some p) (hv : val 256 r + 256 ^ r.length * d = val 256 (S.take r.length)) : val 256 (r ++ [(p + d) % 256]) + 256 ^ (r.length + 1) * ((p + d) / 256) = val 256 (S.take (r.length + 1)) := by
  rw [val_snoc, val_take_succ 256 hp, Nat.pow_succ, Nat.mul_assoc]
  have h : 256 ^ r.length * ((p + d) % 256) + 256 ^ r.length * (256 * ((p + d) / 256)) = 256 ^ r.length * p + 256 ^ r.length * d := by
    rw [← Nat.mul_add, ← Nat.mul_add, Nat.mod_add_div]
  omega
theorem last_byte {r : List Nat} {d T : Nat} (hv : val 256 r + 256 ^ r.length * d = T) : val 256 (r ++ [d % 256]) + 256 ^ (r ++ [d % 256]).length * (d / 256) = T := by
  rw [val_snoc, List.length_append, List.length_singleton, Nat.pow_succ, Nat.mul_assoc]
  have h : 256 ^ r.length * (d % 256) + 256 ^ r.length * (256 * (d / 256)) = 256 ^ r.length * d := by
    rw [← Nat.mul_add, Nat.mod_add_div]
  omega
set_option maxHeartbeats 16000000 in
set_option maxRecDepth 100000 in
theorem refMul_c (u v : Value) (N M : Nat) (w : World) (hu : IsByt w u N) (hv : IsByt w v M) (hN : FitB N 700) (hM : FitB M 700) :
    Calls Try.prog 64 #[u, v] w fun e w' => ∃ x, e = .returned x ∧ IsByt w' x (N * M) ∧ Below w.heap.size w w' := by
  obtain ⟨i0, hi0, hz0, hz1, hz2⟩ := info_parts infoInt
  obtain ⟨A, n, c1, la, rfl, ha, hla, _⟩ := hu
  obtain ⟨B, m, c2, lb, rfl, hb, hlb, _⟩ := hv
  have hn : n ≤ 700 := by rw [← ha.1]; exact hla.lenB hN
  have hm : m ≤ 700 := by rw [← hb.1]; exact hlb.lenB hM
  have HI := Lib.hid (And.intro ha hb)
  have hlen := Lib.hid (And.intro ha.1 hb.1)
  clear ha hb
  go_enter Try.func64, Try.ntmps64
  go_wp2_with (refine wpList_make_full _ rfl _ _ _ rfl w.heap.size 3 i0 (.int .i64 0) 1 Try.underlying61 hi0 hz0 hz1 .i64 .i64 _ _ (n + m + 1) rfl rfl (by simp) (by simp) (by rw [hz2]; omega) (by simp only [maxLen]; omega) (Nat.le_refl _) ?_; intro w1 ho hg1; have HO := Lib.hid (And.intro (ownI_made ho) ((Below.refl _ _).grown hg1 (Nat.le_refl _) (fun k hk => by cases hk) : Below w.heap.size w w1)); clear ho hg1)
  go_loopw [6] (fun i w2 => ∃ (k : Nat) (S : List Nat), i = .int .i64 k ∧ k ≤ n ∧ S.length = n + m + 1 ∧ w2.ownsRow w.heap.size 3 1 (.slice (some ⟨w.heap.size, 0, none⟩) (n + m + 1) (n + m + 1)) (n + m + 1) (cellsOf .i64 S) ∧ MulI la lb S m k 0 ∧ Below w.heap.size w w2) (fun i _ => n - (intOf i).toNat)
  case atStart => exact ⟨0, List.replicate (n + m + 1) 0, rfl, Nat.zero_le _, by simp, HO.out.1, MulI.start _ _ _ _, HO.out.2⟩
  case round =>
    obtain ⟨i, S, rfl, hi, hS, ho, hI, hB⟩ := hrel
    by_cases hin : i < n
    · have g1 : decide ((i : Int) < (n : Int)) = true := by simp <;> omega
      go_wp2
      go_loopw [7] (fun q w3 => ∃ (k : Nat) (S : List Nat), q = .int .i64 k ∧ k ≤ m ∧ S.length = n + m + 1 ∧ w3.ownsRow w.heap.size 3 1 (.slice (some ⟨w.heap.size, 0, none⟩) (n + m + 1) (n + m + 1)) (n + m + 1) (cellsOf .i64 S) ∧ MulI la lb S m i k ∧ Below w.heap.size w w3) (fun q _ => m - (intOf q).toNat)
      case atStart => exact ⟨0, S, rfl, Nat.zero_le _, hS, ho, hI, hB⟩
      case round =>
        clear hS ho hI hB
        obtain ⟨k, S, rfl, hk, hS, ho, hI, hB⟩ := hrel
        by_cases hkm : k < m
        · have g2 : decide ((k : Int) < (m : Int)) = true := by simp <;> omega
          obtain ⟨p, hp, hcp, hfp⟩ := ownI_at ho (k := i + k) (by omega)
          obtain ⟨q, hq, hcq, hfq⟩ := ownI_at ho (k := i + k + 1) (by omega)
          obtain ⟨ba, oa, a, rfl, hba, hax, hca⟩ := (HI.out.1.keep hB).at_ hin
          obtain ⟨bb, ob, b, rfl, hbb, hbx, hcb⟩ := (HI.out.2.keep hB).at_ hkm
          have hal := hla.1.at_ hax
          have hbl := hlb.1.at_ hbx
          have hA : byteAt la i = a := by unfold byteAt; rw [hax]; rfl
          have hp5 := hI.b1 _ _ hp
          have hq5 := hI.b2 _ _ hq (by omega)
          have hab : a * b ≤ 255 * 255 := Nat.mul_le_mul (by omega) (by omega)
          have hst := hI.step (by omega) hbl hkm hbx hp hq
          rw [hA] at hst
          have hza := (HI.out.1.lt (by omega) _ _ rfl)
          have hzb := (HI.out.2.lt (by omega) _ _ rfl)
          have hne1 : ba ≠ w.heap.size := by omega
          have hne2 : bb ≠ w.heap.size := by omega
          obtain ⟨ab, habe⟩ : ∃ ab, ab = a * b := ⟨_, rfl⟩
          have habI : (a : Int) * (b : Int) = (ab : Int) := by rw [habe]; simp
          rw [← habe] at hst hab
          have HX := Lib.hid (And.intro hst (And.intro hS (And.intro ho (And.intro hB (And.intro hI (And.intro hp hq))))))
          clear hst hS ho hB hI hp hq hax hbx hA habe
          go_wp2
          go_quiet (fail)
          go_wp2
          obtain ⟨hst, hS, ho, hB, hI, hp, hq⟩ := HX.out
          have e1 : (((p + ab) % 256 : Nat) : Int) = ((p : Int) + (ab : Int)) % 256 := by omega
          have e2 : ((q + (p + ab) / 256 : Nat) : Int) = (q : Int) + ((p : Int) + (ab : Int)) / 256 := by omega
          have ho3 := ownI_put (ownI_put ho (i + k) ((p + ab) % 256)) (i + k + 1) (q + (p + ab) / 256)
          rw [e1, e2] at ho3
          go_roundw
          case rel => exact ⟨k + 1, _, by go_num, by omega, by simpa using hS, ho3, hst, below_drewN ((hB.setCell (by simp) _).setCell (by simp) _) _⟩
          case measure => simp [intOf] <;> omega
        · obtain rfl : k = m := by omega
          have g2 : decide ((k : Int) < (k : Int)) = false := by simp
          have HX := Lib.hid (And.intro hS (And.intro ho (And.intro hB hI)))
          clear hS ho hB hI
          go_wp2
          obtain ⟨hS, ho, hB, hI⟩ := HX.out
          go_roundw
          case rel => exact ⟨i + 1, S, by go_num, by omega, hS, ho, hI.next hlen.out.2, hB⟩
          case measure => simp [intOf] <;> omega
    · obtain rfl : i = n := by omega
      have g1 : decide ((i : Int) < (i : Int)) = false := by simp
      have hSv : val 256 S = N * M := by
        have := hI.v
        rw [← hlen.out.1, List.take_length, hla.2.1, hlb.2.1] at this
        rw [this]; simp [val]
      have hSb := hI.b1
      have hgs := hB.size
      have hol := (ho.lt w.heap.size rfl).2
      have HS := Lib.hid (And.intro hSv (And.intro hSb (And.intro hS (And.intro ho hB))))
      clear hSv hSb hS ho hB hI HO
      generalize wr = w2 at *
      go_wp2
      go_loopw [9, 10, 11] (fun o ca j w3 => ∃ (k d : Nat) (r : List Nat), j = .int .i64 k ∧ ca = .int .i64 d ∧ d ≤ 3 ∧ k ≤ i + m + 1 ∧ OwnB w2.heap.size w3 o r ∧ r.length = k ∧ AllLt 256 r ∧ val 256 r + 256 ^ k * d = val 256 (S.take k) ∧ Below w2.heap.size w2 w3) (fun _ _ j _ => i + m + 1 - (intOf j).toNat)
      case atStart => exact ⟨0, 0, [], rfl, rfl, by omega, by omega, World.ownsRow_nil _ _ _ _, rfl, fun _ h => (by cases h), rfl, Below.refl _ _⟩
      case round =>
        obtain ⟨k, d, r, rfl, rfl, hd, hk, ho, hrk, hrl, hv, hB⟩ := hrel
        subst hrk
        obtain ⟨Ao, co, rfl, hro, hco⟩ := ho.slice
        have hsz := hB.size
        have HO2 := Lib.hid ho
        have HV := Lib.hid (And.intro hv (And.intro hrl hB))
        clear ho hro hv hrl hB
        by_cases hkn : r.length < i + m + 1
        · have g2 : decide ((r.length : Int) < ((i : Int) + (m : Int) + 1)) = true := by simp <;> omega
          have hkn' : r.length < i + m + 1 := hkn
          obtain ⟨p, hp, hcp, hfp⟩ := ownI_at (HS.out.2.2.2.1.kept (w' := wr) (row := none) ⟨HV.out.2.2.os, HV.out.2.2.tape, HV.out.2.2.output, HV.out.2.2.size, fun q hq _ => HV.out.2.2.block q hq⟩ (.inr (by simp [Value.ownBlock]))) hkn
          have hp5 := HS.out.2.1 _ _ hp
          have e1 : (((p + d) % 256 : Nat) : Int) = ((p : Int) + (d : Int)) % 256 := by omega
          have HE := Lib.hid e1
          have HP := Lib.hid hp
          clear e1 hp
          go_wp2_with (at_builtin; refine wpList_append_row (k := .u8) rfl _ _ rfl w2.heap.size Try.underlying80 info8 rfl (by decide) (.slice Ao r.length co) r [(p + d) % 256] (some ⟨_, 0, none⟩) 1 1 rfl rfl (World.ownsRow.alloc HO2.out _) (rw_newI _ _ ((p + d) % 256) HE.out.symm _) (by omega) (by simp; omega) ?_; intro v' w' ho' hg' _; have HG := Lib.hid (And.intro ho' hg'); clear ho' hg')
          obtain ⟨hv, hrl, hB⟩ := HV.out
          go_roundw
          case rel => exact ⟨r.length + 1, (p + d) / 256, r ++ [(p + d) % 256], by go_num, by simp, by omega, by omega, HG.out.1, by simp, hrl.snoc (by omega), carry_byte HP.out hv, OwnB.grew HO2.out hB HG.out.2 hsz⟩
          case measure => simp [intOf] <;> omega
        · have g2 : decide ((r.length : Int) < ((i : Int) + (m : Int) + 1)) = false := by simp <;> omega
          obtain ⟨hv, hrl, hB⟩ := HV.out
          have hTv : val 256 r + 256 ^ r.length * d = N * M := by
            rw [hv, ← HS.out.1]
            congr 1
            exact List.take_of_length_le (by rw [HS.out.2.2.1]; omega)
          have HW := Lib.hid (And.intro hTv (And.intro hrl hB))
          clear hTv hv hrl hB
          go_wp2
          go_loopw [9, 10] (fun o ca w4 => ∃ (d : Nat) (r : List Nat), ca = .int .i64 d ∧ r.length + d ≤ i + m + 5 ∧ OwnB w2.heap.size w4 o r ∧ AllLt 256 r ∧ val 256 r + 256 ^ r.length * d = N * M ∧ Below w2.heap.size w2 w4) (fun _ ca _ => (intOf ca).toNat)
          case atStart => exact ⟨d, r, rfl, by omega, HO2.out, HW.out.2.1, HW.out.1, HW.out.2.2⟩
          case round =>
            obtain ⟨d4, r4, rfl, hd4, ho4, hrl4, hv4, hB4⟩ := hrel
            obtain ⟨A4, c4, rfl, hro4, hco4⟩ := ho4.slice
            have hsz4 := hB4.size
            by_cases hd0 : d4 = 0
            · subst hd0
              have hfin : N * M = val 256 r4 := by simpa using hv4.symm
              clear ho4 hv4
              go_wp2_with (go_at_call 60; refine (refTrim_c _ _ _ r4 _ hro4 hrl4 (by omega)).mono ?_; rintro e w5 ⟨x, rfl, hx, hb⟩)
              go_ret
              exact ⟨_, rfl, by rw [hfin]; exact hx, (HS.out.2.2.2.2.trans (hB4.mono hgs)).trans (hb.mono (Nat.le_trans hgs hsz4))⟩
            · have g3 : decide ((0 : Int) < (d4 : Int)) = true := by simp <;> omega
              have g4 : 0 < d4 := by omega
              have HO4 := Lib.hid ho4
              have HV4 := Lib.hid (And.intro hv4 (And.intro hrl4 hB4))
              clear ho4 hro4 hv4 hrl4 hB4
              go_wp2_with (at_builtin; refine wpList_append_row (k := .u8) rfl _ _ rfl w2.heap.size Try.underlying80 info8 rfl (by decide) (.slice A4 r4.length c4) r4 [d4 % 256] (some ⟨_, 0, none⟩) 1 1 rfl rfl (World.ownsRow.alloc HO4.out _) (rw_newI _ _ (d4 % 256) (Int.natCast_emod d4 256).symm _) (by omega) (by simp; omega) ?_; intro v' w' ho' hg' _; have HG := Lib.hid (And.intro ho' hg'); clear ho' hg')
              obtain ⟨hv4, hrl4, hB4⟩ := HV4.out
              go_roundw
              case rel => exact ⟨d4 / 256, r4 ++ [d4 % 256], by simp, by simp; omega, HG.out.1, hrl4.snoc (by omega), last_byte hv4, OwnB.grew HO4.out hB4 HG.out.2 hsz4⟩
              case measure => simp [intOf] <;> omega
end Go.Proofs.Ytjocobfabdkadaa
