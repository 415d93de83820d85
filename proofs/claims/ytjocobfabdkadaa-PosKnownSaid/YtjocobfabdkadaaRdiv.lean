/- The document's division, by contract. At most 300 bytes. -/
import Derived.Test.YtjocobfabdkadaaRdivp
import Derived.Test.YtjocobfabdkadaaRefe
import Derived.Deep.DeepCutAuto
import Derived.Deep.CutRange
namespace Go.Proofs.Ytjocobfabdkadaa
open Go.RowKit
attribute [local go_sem] alloc_drewN setCell_drewN
theorem ownB_put {g gb n cap : Nat} {w : World} {l : List Nat} (h : w.ownsRow g 5 1 (.slice (some ⟨gb, 0, none⟩) n cap) n (cellsOf .u8 l)) (k s : Nat) :
    (w.setCell ⟨gb, k, none⟩ (.int .u8 s)).ownsRow g 5 1 (.slice (some ⟨gb, 0, none⟩) n cap) n (cellsOf .u8 (l.set k s)) := by
  have := (h.stored k (.int .u8 s)).1
  rwa [show (cellsOf .u8 l).set k (.int .u8 s) = cellsOf .u8 (l.set k s) by simp [cellsOf, List.map_set]] at this
theorem ownB_at {g gb n cap k : Nat} {w : World} {l : List Nat} (h : w.ownsRow g 5 1 (.slice (some ⟨gb, 0, none⟩) n cap) n (cellsOf .u8 l)) (hk : k < n) :
    ∃ y, l[k]? = some y ∧ w.cell? ⟨gb, k, none⟩ = some (.int .u8 y) ∧ w.frozen? ⟨gb, k, none⟩ = false := by
  have hl : l.length = n := by have := h.1; simpa [cellsOf] using this
  have hx : l[k]? = some (l[k]'(by omega)) := List.getElem?_eq_getElem _
  refine ⟨_, hx, ?_, h.frozenAt k⟩
  rw [h.cellAt k (by omega)]
  simp [cellsOf, hx]
theorem ownB_made {g n : Nat} {w : World} {v : Value} (h : w.ownsRow g 5 1 v n (madeCells (Value.int .u8 0).cells (n * 1)).toList) : w.ownsRow g 5 1 v n (cellsOf .u8 (List.replicate n 0)) := by
  rw [Nat.mul_one] at h
  have e : (madeCells (Value.int .u8 0).cells n).toList = cellsOf .u8 (List.replicate n 0) := by
    rw [show (Value.int .u8 0).cells = #[Value.int .u8 0] from rfl, toList_madeCells_one]
    simp [cellsOf]
  rwa [e] at h
theorem sub_mod {T b : Nat} (hb : b ≤ T) (hT : T < 2 * b) (hb2 : b < 18446744073709551616) {t : Nat} (ht : t = T % 18446744073709551616) : IntKind.u64.wrap ((t : Int) - (b : Int)) = ((T - b : Nat) : Int) := by
  subst ht
  show (((T % 18446744073709551616 : Nat) : Int) - (b : Int)) % 18446744073709551616 = _
  omega
theorem bit_spell {x D s bit : Nat} (hx : x < 256) (hbit : bit = x / D % 2) :
    IntKind.u64.wrap (IntKind.u64.wrap ((s : Int) * 2) + IntKind.u64.wrap ((wrap64 ((x : Int) / (D : Int))).tmod 2)) = (((2 * s + bit) % 18446744073709551616 : Nat) : Int) := by
  subst hbit
  have e1 : (x : Int) / (D : Int) = ((x / D : Nat) : Int) := by simp
  have h1 : x / D ≤ x := Nat.div_le_self _ _
  rw [e1]
  generalize x / D = y at h1 ⊢
  have e2 : wrap64 (y : Int) = (y : Int) := by unfold wrap64; omega
  rw [e2, Int.tmod_eq_emod_of_nonneg (by omega)]
  show (((s : Int) * 2) % 18446744073709551616 + ((y : Int) % 2) % 18446744073709551616) % 18446744073709551616 = _
  omega
theorem val_setB {b i o : Nat} {l : List Nat} (h : l[i]? = some 0) : val b ((l.set i o).drop i) = o + b * val b (l.drop (i + 1)) := by
  have hj : i < l.length := (List.getElem?_eq_some_iff.1 h).1
  rw [List.drop_set, if_neg (by omega), Nat.sub_self, ← List.getElem_cons_drop hj]
  rfl
theorem div_step' {W b r x q s Q L : Nat} (h : r * W + x = q * b + s) (hL : L = Q * b + r) : x + W * L = (q + W * Q) * b + s := by
  subst hL
  rw [Nat.mul_add, Nat.add_mul, ← Nat.mul_assoc, Nat.mul_comm W r]
  omega
set_option maxRecDepth 100000 in
set_option maxHeartbeats 16000000 in
theorem refDiv_c (u : Value) (N b : Nat) (w : World) (hu : IsByt w u N) (hN : FitB N 300) (hb2 : b < 18446744073709551616) :
    Calls Try.prog 59 #[u, .int .u64 b] w fun e w' => ∃ x, e = .returned (.tuple #[x, .int .u64 ((if b = 0 then 0 else N % b : Nat) : Int), .int .i64 (if b = 0 then 2 else 0)]) ∧ IsByt w' x (N / b) ∧ Below w.heap.size w w' := by
  obtain ⟨i0, hi0, hz0, hz1, hz2⟩ := info_parts info8
  obtain ⟨A, n, c, l, rfl, hr, hl, hnc⟩ := hu
  have hn : n ≤ 300 := by rw [← hr.1]; exact hl.lenB hN
  have HR := Lib.hid hr
  have hlen := Lib.hid hr.1
  clear hr
  go_enter Try.func59, Try.ntmps59
  by_cases h0 : b = 0
  · have h1 : ((b : Int) == 0) = true := by simp [h0]
    have H0 := Lib.hid h0
    clear h0
    go_wp2
    refine bodyPost_ret (v := .tuple #[.slice none 0 0, .int .u64 0, .int .i64 2]) (by simp [results, Try.results59, go_sem]) rfl ⟨.slice none 0 0, by simp, ?_, Below.refl _ _⟩
    exact ⟨none, 0, 0, [], rfl, Rw.nil _ _ _, Lim.nil _, Nat.le_refl _⟩
  · have h1 : ((b : Int) == 0) = false := by simp; omega
    have hb0 : 0 < b := by omega
    have H0 := Lib.hid h0
    clear h0
    go_upto_region 4 with (refine wpList_make_full _ rfl _ _ _ rfl w.heap.size 5 i0 (.int .u8 0) 1 Try.underlying80 hi0 hz0 hz1 .i64 .i64 _ _ n rfl rfl (by simp) (by simp) (by rw [hz2]; omega) (by simp only [maxLen]; omega) (Nat.le_refl _) ?_; intro w1 ho hg1; have HO := Lib.hid (And.intro (ownB_made ho) ((Below.refl _ _).grown hg1 (Nat.le_refl _) (fun k hk => by cases hk) : Below w.heap.size w w1)); clear ho hg1)
    go_wp2_with fail
    go_loopw [8, 9] (fun v i wr => ∃ (k r : Nat) (q : List Nat), i = .int .i64 ((k : Int) - 1) ∧ v = .int .u64 r ∧ k ≤ n ∧ r < b ∧ AllLt 256 q ∧ q.take k = List.replicate k 0 ∧ val 256 (l.drop k) = val 256 (q.drop k) * b + r ∧ wr.ownsRow w.heap.size 5 1 (.slice (some ⟨w.heap.size, 0, none⟩) n n) n (cellsOf .u8 q) ∧ Below w.heap.size w wr) (fun _ i _ => (intOf i + 1).toNat)
    case atStart => exact ⟨n, 0, List.replicate n 0, rfl, rfl, Nat.le_refl _, hb0, fun x hx => by rw [(List.mem_replicate.1 hx).2]; decide, by simp, by rw [List.drop_of_length_le (by rw [hlen.out]; exact Nat.le_refl _)]; simp [val], HO.out.1, HO.out.2⟩
    case round =>
      obtain ⟨k, r, q, rfl, rfl, hk, hr, hq, ht, hv, ho, hB⟩ := hrel
      have hql : q.length = n := by have := ho.1; simpa [cellsOf] using this
      have hsz := hB.size
      by_cases hk0 : k = 0
      · subst hk0
        have h2 : decide ((0 : Int) ≤ (((0 : Nat) : Int) - 1)) = false := by decide
        have HX := Lib.hid (And.intro hq (And.intro hv (And.intro ho hB)))
        clear hq hv ho hB ht
        go_wp2_with (first
          | (go_at_call 51; refine (refLimbsA_c _ n n q _ (Rw.of_own HX.out.2.2.1) HX.out.1 (by omega)).mono ?_; rintro e w3 ⟨x, g, rfl, ho3, hg, hgv, hgl, hb3⟩; obtain ⟨A3, c3, rfl, hr3, hc3, _⟩ := ho3.slice; have H3 := Lib.hid (And.intro hg (And.intro hgv (And.intro hr3 hb3))); clear hg hgv ho3 hr3 hb3)
          | (go_at_call 47; refine (refOf_c _ g.length c3 g _ H3.out.2.2.1 H3.out.1 (by omega)).mono ?_; rintro e w4 ⟨x4, rfl, hx4, hb4⟩; have H4 := Lib.hid (And.intro hx4 hb4); clear hx4 hb4))
        have hN2 : val 18446744073709551616 g = N / b ∧ r = N % b := by
          have e := HX.out.2.1
          rw [List.drop_zero, List.drop_zero, hl.2.1] at e
          rw [H3.out.2.1]
          refine ⟨?_, ?_⟩
          · rw [e, Nat.mul_comm, Nat.mul_add_div hb0, Nat.div_eq_of_lt hr, Nat.add_zero]
          · rw [e, Nat.mul_comm, Nat.mul_add_mod, Nat.mod_eq_of_lt hr]
        refine bodyPost_ret (v := .tuple #[x4, .int .u64 r, .int .i64 0]) (by simp [results, Try.results59, go_sem]) rfl ⟨x4, by rw [hN2.2]; simp, ?_, (HX.out.2.2.2.trans (H3.out.2.2.2.mono hsz)).trans (H4.out.2.mono (Nat.le_trans hsz H3.out.2.2.2.size))⟩
        rw [← hN2.1]
        exact H4.out.1
      · obtain ⟨j, rfl⟩ : ∃ j, k = j + 1 := ⟨k - 1, by omega⟩
        have ej : (((j + 1 : Nat) : Int) - 1) = (j : Int) := by omega
        rw [ej]
        have h2 : decide ((0 : Int) ≤ (j : Int)) = true := by simp <;> omega
        obtain ⟨ba, oa, x, rfl, hba, hx, hcx⟩ := HR.out.at_ (i := j) (by omega)
        have hx8 := hl.1.at_ hx
        have hj0 : q[j]? = some 0 := by
          have := congrArg (fun m => m[j]?) ht
          simp only [List.getElem?_take, List.getElem?_replicate] at this
          rw [if_pos (by omega), if_pos (by omega)] at this
          exact this
        have hF := bit_first hr hx8
        have hqs : q.set j 0 = q := by
          obtain ⟨g1, g2⟩ := List.getElem?_eq_some_iff.1 hj0
          rw [← g2, List.set_getElem_self]
        have HX := Lib.hid (And.intro hq (And.intro ht (And.intro hv (And.intro hx (And.intro hj0 hr)))))
        clear hq ht hv hx hj0
        go_wp2_with fail
        go_loopw [8, 10] (fun v d w3 => ∃ (m s o : Nat), d = .int .i64 ((2 ^ m / 2 : Nat) : Int) ∧ v = .int .u64 s ∧ m ≤ 8 ∧ BitI b r x m o s ∧ w3.ownsRow w.heap.size 5 1 (.slice (some ⟨w.heap.size, 0, none⟩) n n) n (cellsOf .u8 (q.set j o)) ∧ Below w.heap.size w w3) (fun _ d _ => (intOf d).toNat)
        case atStart => exact ⟨8, r, 0, rfl, rfl, Nat.le_refl _, hF, by rw [hqs]; exact ho, hB⟩
        case round =>
          clear ho hB hF
          obtain ⟨m, s, o, rfl, rfl, hm, hI, ho, hB⟩ := hrel
          have hsb := hI.small
          by_cases hm0 : m = 0
          · subst hm0
            have h3 : decide ((0 : Int) < ((2 ^ 0 / 2 : Nat) : Int)) = false := by decide
            have HI := Lib.hid (And.intro hI (And.intro ho hB))
            clear hI ho hB
            go_wp2_with fail
            obtain ⟨hq, ht, hv, hx, hj0, hr⟩ := HX.out
            obtain ⟨b1, b2, b3⟩ := bit_last HI.out.1
            go_roundw
            case rel =>
              refine ⟨j, s, q.set j o, by go_num, rfl, by omega, b2, hq.set b3, ?_, ?_, HI.out.2.1, HI.out.2.2⟩
              · rw [List.take_set_of_le (Nat.le_refl _)]
                have := congrArg (List.take j) ht
                rwa [List.take_take, List.take_replicate, Nat.min_eq_left (by omega)] at this
              · rw [val_setB hj0, drop_byte hx]
                exact div_step' b1 hv
            case measure => simp [intOf] <;> omega
          · obtain ⟨p, rfl⟩ : ∃ p, m = p + 1 := ⟨m - 1, by omega⟩
            obtain ⟨D, hD⟩ : ∃ D, D = 2 ^ p := ⟨_, rfl⟩
            have hD2 : (2 : Nat) ^ (p + 1) / 2 = D := by rw [Nat.pow_succ, hD]; omega
            rw [hD2]
            obtain ⟨n1, n2, n3⟩ := bit_next hI (by omega)
            rw [← hD] at n1 n2 n3
            have hDp : 0 < D := by rw [hD]; exact Nat.pow_pos (by omega)
            have hD8 : D < 256 := by omega
            have h3 : decide ((0 : Int) < (D : Int)) = true := by simp <;> omega
            have hbit : x / D % 2 < 2 := Nat.mod_lt _ (by omega)
            obtain ⟨bit, hbe⟩ : ∃ bit, bit = x / D % 2 := ⟨_, rfl⟩
            rw [← hbe] at n2 n3 hbit
            have hDi : ¬ ((D : Int) = 0) := by omega
            obtain ⟨y, hy, hcy, hfy⟩ := ownB_at ho (k := j) (by omega)
            have hyo : y = o := by
              rw [List.getElem?_set_self (by omega)] at hy
              injection hy with e; exact e.symm
            subst hyo
            have hca := (hB.cell (p := ⟨ba, oa + j, none⟩) hba).trans hcx
            have hne : ba ≠ w.heap.size := by omega
            have hgz := (ho.lt w.heap.size rfl).2
            have HI := Lib.hid (And.intro n2 (And.intro n3 (And.intro ho (And.intro hB (And.intro hbe (And.intro hD hD2))))))
            clear n2 n3 ho hB hI hy hD hD2
            go_upto_region 11 with fail
            go_cut [11] from 24 to 60 (fun v11 wx => ∃ ov : Bool, v11 = .bool ov ∧ (ov = true ↔ 9223372036854775808 ≤ s) ∧ wx = wr)
            case first =>
              go_wp2
              go_meet
              exact ⟨_, congrArg Value.bool (Eq.refl _), by simp; omega, rfl⟩
            case rest =>
            obtain ⟨ov, rfl, hov, rfl⟩ := hcut
            have HV := Lib.hid hov
            clear hov
            go_upto_region 12 with fail
            go_cut [8] from 24 to 60 (fun v8 wx => ∃ t : Nat, v8 = .int .u64 t ∧ t = (2 * s + bit) % 18446744073709551616 ∧ wx = wc)
            case first =>
              go_wp2
              go_meet
              rw [bit_spell hx8 HI.out.2.2.2.2.1]
              exact ⟨_, rfl, rfl, rfl⟩
            case rest =>
              obtain ⟨t, rfl, ht, rfl⟩ := hcut
              have HT := Lib.hid ht
              clear ht
              go_upto_region 13 with fail
              go_cut [47] from 24 to 60 (fun v47 wx => ∃ g : Bool, v47 = .bool g ∧ (g = true ↔ b ≤ 2 * s + bit) ∧ wx = wc)
              case first =>
                cases ov with
                | true =>
                  have hs := HV.out.1 rfl
                  have hbT : b ≤ 2 * s + bit := by omega
                  have HS := Lib.hid hbT
                  clear hs hbT
                  go_wp2
                  go_meet
                  exact ⟨true, rfl, by simp [HS.out], rfl⟩
                | false =>
                  go_wp2
                  go_meet
                  refine ⟨_, congrArg Value.bool (Eq.refl _), ?_, rfl⟩
                  have hs := HV.out
                  have ht := HT.out
                  simp at hs ⊢
                  omega
              case rest =>
                obtain ⟨g, rfl, hg, rfl⟩ := hcut
                cases g with
                | true =>
                  have hT := hg.1 rfl
                  have e5 := sub_mod hT (by omega) hb2 HT.out
                  have hyD : y + D < 256 := n1
                  have HG := Lib.hid hT
                  clear hT hg
                  go_wp2_with fail
                  go_roundw
                  case rel => exact ⟨p, 2 * s + bit - b, y + D, congrArg (Value.int .i64) (by rw [← HI.out.2.2.2.2.2.1]; omega), by rw [HI.out.2.2.2.2.1], by omega, HI.out.1 HG.out, by have := ownB_put HI.out.2.2.1 j (y + D); rw [List.set_set, Int.natCast_add] at this; exact this, HI.out.2.2.2.1.setCell (by simp) _⟩
                  case measure => simp [intOf] <;> omega
                | false =>
                  have hT : ¬ b ≤ 2 * s + bit := fun h => by have := hg.2 h; cases this
                  have e5 : t = 2 * s + bit := by have := HT.out; omega
                  have HG := Lib.hid (And.intro hT e5)
                  clear hT hg e5
                  go_wp2_with fail
                  go_roundw
                  case rel => exact ⟨p, 2 * s + bit, y, congrArg (Value.int .i64) (by rw [← HI.out.2.2.2.2.2.1]; omega), by rw [HG.out.2], by omega, HI.out.2.1 (by have := HG.out; omega), HI.out.2.2.1, HI.out.2.2.2.1⟩
                  case measure => simp [intOf] <;> omega
end Go.Proofs.Ytjocobfabdkadaa
