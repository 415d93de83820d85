/- NatMakes, walked: for any two rows of at most 40 limbs and any limb the statement returns true, and nothing that was there before has turned. -/
import Derived.Test.YtdocpljgollcaaaNatb
import Derived.Test.YtdocpljgollcaaaMax
import Derived.Test.YtdocpljgollcaaaWorks
namespace Go.Proofs.Ytdocpljgollcaaa
open Go.RowKit
attribute [local go_sem] alloc_drewN setCell_drewN
def natsR (n : Nat) (Ns : List Nat) : StP := ⟨fun u w => ∃ A c, u = .slice A n c ∧ NatsAt w.heap.size 41 w A n Ns, fun _ _ _ hb ⟨A, c, h1, h2⟩ => ⟨A, c, h1, (h2.low hb).up hb.size⟩⟩
theorem fits_word {t : Nat} (h : t < 18446744073709551616) : Fits t 1 := ⟨by simpa using h⟩
theorem maxOf2 (X Y : Nat) : maxOf [X, Y] = if X < Y then Y else X := by
  simp only [maxOf, List.foldl_cons, List.foldl_nil]
  by_cases h : 0 < X
  · rw [if_pos h]
  · obtain rfl : X = 0 := by omega
    simp
theorem fits_max {X Y s : Nat} (h : Fits X s) (h' : Fits Y s) : Fits (maxOf [X, Y]) s := by
  rw [maxOf2]; split
  · exact h'
  · exact h
theorem byt_one {w : World} {x : Value} {t : Nat} (h : IsByt w x (val 18446744073709551616 [t])) : IsByt w x t := by simpa [val] using h
theorem max3 {g : Nat} {w : World} {x : Value} {Y : Nat} (h : IsNat g w x (maxOf [0, Y, 0])) : IsNat 0 w x Y := by
  have := h.mono (Nat.zero_le g)
  have e : maxOf [0, Y, 0] = Y := by
    simp only [maxOf, List.foldl_cons, List.foldl_nil]
    by_cases h0 : 0 < Y
    · simp [h0]
    · simp [h0]; omega
  rwa [e] at this
theorem natsM2_new {w : World} {A1 A2 : Option Addr} {n1 n2 d1 d2 X Y : Nat} (h1 : IsNat 0 w (.agg #[.slice A1 n1 d1]) X) (h2 : IsNat 0 w (.agg #[.slice A2 n2 d2]) Y) (hX : Fits X 40) (hY : Fits Y 40) :
    NatsAt (w.alloc (.cells #[.slice A1 n1 d1, .slice A2 n2 d2] 25)).heap.size 41 (w.alloc (.cells #[.slice A1 n1 d1, .slice A2 n2 d2] 25)) (some ⟨w.heap.size, 0, none⟩) 2 [X, Y] := by
  have := natsAt_new (s := 41) w #[.slice A1 n1 d1, .slice A2 n2 d2] 25 [X, Y] (by intro x hx; simp at hx; rcases hx with rfl | rfl <;> first | exact hX.mono (by decide) | exact hY.mono (by decide)) (by
    intro i x hx
    match i, hx with
    | 0, hx => simp at hx; subst hx; exact ⟨_, 0, rfl, h1⟩
    | 1, hx => simp at hx; subst hx; exact ⟨_, 0, rfl, h2⟩)
  simpa using this
theorem natsM_new {w : World} {A1 A2 A3 : Option Addr} {n1 n2 n3 d1 d2 d3 Y : Nat} (h1 : IsNat 0 w (.agg #[.slice A1 n1 d1]) 0) (h2 : IsNat 0 w (.agg #[.slice A2 n2 d2]) Y) (h3 : IsNat 0 w (.agg #[.slice A3 n3 d3]) 0) (hY : Fits Y 40) :
    NatsAt (w.alloc (.cells #[.slice A1 n1 d1, .slice A2 n2 d2, .slice A3 n3 d3] 25)).heap.size 41 (w.alloc (.cells #[.slice A1 n1 d1, .slice A2 n2 d2, .slice A3 n3 d3] 25)) (some ⟨w.heap.size, 0, none⟩) 3 [0, Y, 0] := by
  have := natsAt_new (s := 41) w #[.slice A1 n1 d1, .slice A2 n2 d2, .slice A3 n3 d3] 25 [0, Y, 0] (by intro x hx; simp at hx; rcases hx with rfl | rfl | rfl <;> first | exact hY.mono (by decide) | exact fits0.mono (by decide)) (by
    intro i x hx
    match i, hx with
    | 0, hx => simp at hx; subst hx; exact ⟨_, 0, rfl, h1⟩
    | 1, hx => simp at hx; subst hx; exact ⟨_, 0, rfl, h2⟩
    | 2, hx => simp at hx; subst hx; exact ⟨_, 0, rfl, h3⟩)
  simpa using this
theorem small_w {v : Value} {N S : Nat} {b : Bool} {w : World} (hv : IsNat 0 w v N) (h : (if N < 18446744073709551616 then N else 0) = S ∧ decide (N < 18446744073709551616) = b) :
    Calls Try.prog 26 #[v] w fun e w' => e = .returned (.tuple #[.int .u64 S, .bool b]) ∧ Below w.heap.size w w' := by
  obtain ⟨rfl, rfl⟩ := h
  by_cases hN : N < 18446744073709551616
  · rw [if_pos hN, decide_eq_true hN]; exact small_yes v N w hv hN
  · rw [if_neg hN, decide_eq_false hN]; exact small_no v N w hv (by omega)
theorem mk_next {l m : List Nat} {k : Nat} (z : Nat) (h : l.drop k = m.drop k) : (l.set k z).drop (k + 1) = m.drop (k + 1) := by
  rw [List.drop_set_of_lt (by omega)]
  have := congrArg (List.drop 1) h
  simpa [List.drop_drop] using this
theorem mk_at {l m : List Nat} {k : Nat} (h : l.drop k = m.drop k) : l[k]? = m[k]? := by
  have := congrArg (fun s => s[0]?) h
  simpa using this
theorem nat_far {g gb k : Nat} {w : World} {v : Value} {N : Nat} (h : IsNat g w v N) (hg : gb < g) (u : Value) : IsNat g (w.setCell ⟨gb, k, none⟩ u) v N := h.far (by simpa using hg)
set_option maxRecDepth 100000 in
set_option maxHeartbeats 16000000 in
theorem makes_c (A B : Option Addr) (n m c1 c2 : Nat) (la lb : List Nat) (t : Nat) (w : World) (ha : Rw .u64 w A n la) (hb : Rw .u64 w B m lb) (ta : AllLt 18446744073709551616 la) (tb : AllLt 18446744073709551616 lb) (ht : t < 18446744073709551616) (hn : n ≤ 40) (hm : m ≤ 40) (hn1 : n ≤ c1) (hm1 : m ≤ c2) :
    Calls Try.prog 5 #[.slice A n c1, .slice B m c2, .int .u64 t] w fun e w' => e = .returned (.bool true) ∧ Below w.heap.size w w' := by
  have h1 : decide ((40 : Int) < (n : Int)) = false := by simp <;> omega
  have h2 : decide ((40 : Int) < (m : Int)) = false := by simp <;> omega
  have hX := Fits.of_lim ta (show la.length ≤ 40 by rw [ha.1]; exact hn)
  have hY := Fits.of_lim tb (show lb.length ≤ 40 by rw [hb.1]; exact hm)
  have hlen := ha.1
  have HI := Lib.hid (And.intro ha (And.intro hb (And.intro ta tb)))
  have HL := Lib.hid hlen
  clear ha hb ta tb hlen
  go_enter Try.func5, Try.ntmps5
  go_upto_region 4 with (first
    | (go_at_call_of 15 (Value.slice A n c1); refine (refOf_c A n c1 la _ HI.out.1 HI.out.2.2.1 (by omega)).mono ?_; rintro e w1 ⟨vx, rfl, hv, hb⟩; have H1 := Lib.hid (And.intro hv hb); have z1 := hb.size; clear hv hb)
    | (go_at_call_of 15 (Value.slice B m c2); refine (refOf_c B m c2 lb _ (HI.out.2.1.keep H1.out.2) HI.out.2.2.2 (by omega)).mono ?_; rintro e w2 ⟨vy, rfl, hv, hb⟩; have H2 := Lib.hid (And.intro hv hb); have z2 := hb.size; clear hv hb))
  have hb02 : Below w.heap.size w w2 := H1.out.2.trans (H2.out.2.mono z1)
  have HB2 := Lib.hid hb02
  clear hb02
  go_upto_region 6 with (at_builtin; refine wpList_append_row (k := .u64) rfl _ _ rfl w2.heap.size Try.underlying22 info64 rfl (by decide) (.slice none 0 0) [] la A n c1 rfl rfl (World.ownsRow_nil _ _ _ _) (HI.out.1.keep HB2.out) (by simp; omega) (Nat.le_refl _) ?_; intro v3 w3 ho hg _; have ho' : Own w2.heap.size w3 v3 la := ho; obtain ⟨Ao, co, rfl, hro, hco, hgo⟩ := ho'.slice; rw [HL.out] at hro hco; have H3 := Lib.hid (And.intro ho' (And.intro hro (And.intro hgo ((Below.refl _ _).grown hg (Nat.le_refl _) (fun k hk => by simp [Value.ownBlock] at hk))))); clear ho ho' hro hgo hg)
  have z3 := H3.out.2.2.2.size
  go_upto_region 7 with (first
    | (go_at_call_of 8 (Value.slice Ao la.length co); refine (limbs_c Ao la.length co la _ (by rw [HL.out]; exact H3.out.2.1) HI.out.2.2.1 (by rw [HL.out]; omega) (by rw [HL.out]; exact hco)).mono ?_; rintro e w4 ⟨v1, rfl, hv, hb⟩; obtain ⟨A4, n4, d4, l4, rfl, hv⟩ := hv; have H4 := Lib.hid (And.intro hv hb); have z4 := hb.size; clear hv hb)
    | (go_at_call_of 8 (Value.slice B m c2); refine (limbs_c B m c2 lb _ (((HI.out.2.1.keep HB2.out).keep H3.out.2.2.2).keep H4.out.2) HI.out.2.2.2 (by omega) hm1).mono ?_; rintro e w5 ⟨v1, rfl, hv, hb⟩; obtain ⟨A5, n5, d5, l5, rfl, hv⟩ := hv; have H5 := Lib.hid (And.intro hv hb); have z5 := hb.size; clear hv hb))
  have b56 : Below w5.heap.size w5 ((w5.alloc (.cells #[.slice A4 n4 d4] 25)).alloc (.cells #[.slice A5 n5 d5] 25)) := ((Below.refl _ _).alloc (Nat.le_refl _) _).alloc (by simp) _
  have b46 : Below w4.heap.size w4 ((w5.alloc (.cells #[.slice A4 n4 d4] 25)).alloc (.cells #[.slice A5 n5 d5] 25)) := H5.out.2.trans (b56.mono z5)
  have b36 : Below w3.heap.size w3 ((w5.alloc (.cells #[.slice A4 n4 d4] 25)).alloc (.cells #[.slice A5 n5 d5] 25)) := H4.out.2.trans (b46.mono z4)
  have i4 : IsNat w3.heap.size ((w5.alloc (.cells #[.slice A4 n4 d4] 25)).alloc (.cells #[.slice A5 n5 d5] 25)) (.agg #[.slice A4 n4 d4]) (val 18446744073709551616 la) := IsNat.keep (⟨A4, n4, d4, l4, rfl, H4.out.1⟩ : IsNat w3.heap.size w4 _ _) b46
  have i5 : IsNat w3.heap.size ((w5.alloc (.cells #[.slice A4 n4 d4] 25)).alloc (.cells #[.slice A5 n5 d5] 25)) (.agg #[.slice A5 n5 d5]) (val 18446744073709551616 lb) := IsNat.mono (IsNat.keep (⟨A5, n5, d5, l5, rfl, H5.out.1⟩ : IsNat w4.heap.size w5 _ _) b56) z4
  have k4 : Bk ((w5.alloc (.cells #[.slice A4 n4 d4] 25)).alloc (.cells #[.slice A5 n5 d5] 25)) w5.heap.size 25 #[.slice A4 n4 d4] := (Bk.new _ _ _).alloc _
  have k5 : Bk ((w5.alloc (.cells #[.slice A4 n4 d4] 25)).alloc (.cells #[.slice A5 n5 d5] 25)) (w5.heap.size + 1) 25 #[.slice A5 n5 d5] := by have := Bk.new (w5.alloc (.cells #[.slice A4 n4 d4] 25)) 25 #[.slice A5 n5 d5]; simpa using this
  have o6 := ownsRow_keep H3.out.1 b36
  have b26 := H3.out.2.2.2.trans (b36.mono z3)
  have HT := Lib.hid (And.intro i4 (And.intro i5 (And.intro k4 (And.intro k5 (And.intro o6 b26)))))
  have g35 : w3.heap.size ≤ w5.heap.size := Nat.le_trans z4 z5
  have hgo : ∀ b off, Ao = some ⟨b, off, none⟩ → b < w3.heap.size := fun b off e => by
    have h := H3.out.1
    obtain ⟨_, h2⟩ := h
    rcases h2 with ⟨h3, _⟩ | ⟨gb, cap, cur, h3, _, h4, _⟩
    · rw [e] at h3; cases h3
    · rw [e] at h3
      injection h3 with h3
      injection h3 with h3
      injection h3 with h3
      rw [h3]
      exact (Array.getElem?_eq_some_iff.1 h4).1
  have HGO := Lib.hid hgo
  clear b56 b46 b36 i4 i5 k4 k5 o6 b26 H4 H5 hgo
  generalize ((w5.alloc (.cells #[.slice A4 n4 d4] 25)).alloc (.cells #[.slice A5 n5 d5] 25)) = wz at *
  go_wp2
  go_loopw [12] (fun i w1 => ∃ (k : Nat) (r : List Nat), i = .int .i64 k ∧ k ≤ la.length ∧ r.drop k = la.drop k ∧ IsNat w3.heap.size w1 (.agg #[.slice A4 n4 d4]) (val 18446744073709551616 la) ∧ IsNat w3.heap.size w1 (.agg #[.slice A5 n5 d5]) (val 18446744073709551616 lb) ∧ Bk w1 w5.heap.size 25 #[.slice A4 n4 d4] ∧ Bk w1 (w5.heap.size + 1) 25 #[.slice A5 n5 d5] ∧ w1.ownsRow w2.heap.size 33 1 (.slice Ao la.length co) la.length (cellsOf .u64 r) ∧ Below w2.heap.size w2 w1) (fun i _ => la.length - (intOf i).toNat)
  case atStart => exact ⟨0, la, rfl, Nat.zero_le _, rfl, HT.out.1, HT.out.2.1, HT.out.2.2.1, HT.out.2.2.2.1, HT.out.2.2.2.2.1, HT.out.2.2.2.2.2⟩
  case round =>
    obtain ⟨k, r, rfl, hk, hdr, i4, i5, k4, k5, ho, hB⟩ := hrel
    have lmax : la.length ≤ 40 := by rw [HL.out]; exact hn
    by_cases hkl : k < la.length
    · have g1 : decide ((k : Int) < (la.length : Int)) = true := by simp <;> omega
      obtain ⟨gb, cap, e, hgb, hgl⟩ := World.ownsRow.form ho (by omega)
      injection e with e1 e2 e3
      subst e1 e3
      have hgb3 := HGO.out gb 0 rfl
      obtain ⟨y, hy, hcy, hfy⟩ := Own.at_ ho (k := k) hkl
      obtain ⟨ba, oa, xa, rfl, hba, hxa, hca⟩ := ((HI.out.1.keep HB2.out).keep hB).at_ (i := k) (by rw [← HL.out]; exact hkl)
      obtain rfl : xa = y := by
        have := mk_at hdr
        rw [hy, hxa] at this
        injection this with this
        exact this.symm
      have HX := Lib.hid (And.intro hdr (And.intro i4 (And.intro i5 (And.intro k4 (And.intro k5 (And.intro ho hB))))))
      have kn : (k : Int) < (n : Int) := by have := HL.out; omega
      clear hdr i4 i5 k4 k5 ho hB hy hxa
      go_wp2
      go_quiet (fail)
      go_wp2
      obtain ⟨hdr, i4, i5, k4, k5, ho, hB⟩ := HX.out
      go_roundw
      case rel => exact ⟨k + 1, r.set k 99, by go_num, by omega, mk_next 99 hdr, nat_far i4 hgb3 _, nat_far i5 hgb3 _, k4.far (by simp <;> omega) _, k5.far (by simp <;> omega) _, Own.put ho k 99, below_drewN (hB.setCell (by simp <;> omega) _) _⟩
      case measure => simp [intOf] <;> omega
    · obtain rfl : k = la.length := by omega
      have g1 : decide ((la.length : Int) < (la.length : Int)) = false := by simp
      have b13 : Below wr.heap.size wr (wr.alloc (.cells #[.slice none 0 0] 25)) := (Below.refl _ _).alloc (Nat.le_refl _) _
      have x13 : BoxN (wr.alloc (.cells #[.slice none 0 0] 25)) wr.heap.size 0 := ⟨_, Bk.new _ _ _, isNat_zero _ _⟩
      have HT2 := Lib.hid (And.intro (BoxN.keep (⟨_, k4, i4.mono (Nat.zero_le _)⟩ : BoxN wr w5.heap.size _) b13) (And.intro (BoxN.keep (⟨_, k5, i5.mono (Nat.zero_le _)⟩ : BoxN wr (w5.heap.size + 1) _) b13) (And.intro x13 (And.intro (((H1.out.1.keep H2.out.2).keep hB).keep b13) (And.intro ((H2.out.1.keep hB).keep b13) (HB2.out.trans ((hB.trans (b13.mono hB.size)).mono HB2.out.size)))))))
      clear hdr i4 i5 k4 k5 ho hB b13 x13 HT HGO H3 H1 H2 HI HB2
      have HT := HT2
      clear HT2
      go_upto_region 14 with fail
      generalize wr.alloc (.cells #[.slice none 0 0] 25) = wz at *
      generalize val 18446744073709551616 la = X at *
      generalize val 18446744073709551616 lb = Y at *
      generalize wr.heap.size = g13 at *
      generalize w5.heap.size = g10 at *
      clear HL g1 z3 z4 z5 g35 lmax
      generalize la.length = nl at *
      clear hk
      obtain ⟨S, b, hS⟩ : ∃ S b, (if X < 18446744073709551616 then X else 0) = S ∧ decide (X < 18446744073709551616) = b := ⟨_, _, rfl, rfl⟩
      have HS := Lib.hid hS
      clear hS
      obtain ⟨sx, kx, ix⟩ := HT.out.1
      have cx := kx.cell 0
      have zx := kx.lt
      simp at cx
      obtain ⟨Ax, nx, cxx, lx, evx, rx, limx, hcx⟩ := HT.out.2.2.2.1
      subst evx
      have HX := Lib.hid (And.intro ix (And.intro rx limx))
      have hnx : nx ≤ 2000 := by rw [← rx.1]; exact limx.lenB (hX.bytes.mono (by decide))
      clear kx ix rx limx
      go_upto_if 70 with (first
        | (go_at_call 26; refine (small_w HX.out.1 HS.out).mono ?_; rintro e w6 ⟨rfl, hb⟩; have H6 := Lib.hid hb; clear hb)
        | (go_at_call 27; refine (refLimbs_c Ax nx cxx lx X _ (HX.out.2.1.keep H6.out) HX.out.2.2 hnx).mono ?_; rintro e w7 ⟨vl, rl, rfl, ho, hlim, hb⟩; have ho1 := ho; obtain ⟨Al, cl, rfl, hrl, _⟩ := ho.slice; have g16 : decide ((rl.length : Int) ≤ 1) = b := by { have h7 := HS.out.2; rw [← h7]; rcases lim_small hlim with ⟨q1, q2⟩ | ⟨q1, q2⟩ | ⟨q1, q2⟩ <;> simp [q1, q2] <;> omega }; have rll : rl.length ≤ 100 := Nat.le_trans (hlim.len hX) (by decide); have H7 := Lib.hid (And.intro hrl (And.intro hlim hb)); clear ho ho1 hrl hlim hb))
      have b07 : Below wz.heap.size wz w7 := H6.out.trans (H7.out.2.2.mono H6.out.size)
      have HT2 := Lib.hid (And.intro (HT.out.1.keep b07) (And.intro (HT.out.2.1.keep b07) (And.intro (HT.out.2.2.1.keep b07) (And.intro (HT.out.2.2.2.1.keep b07) (And.intro (HT.out.2.2.2.2.1.keep b07) (HT.out.2.2.2.2.2.trans (b07.mono HT.out.2.2.2.2.2.size)))))))
      have HR := Lib.hid (And.intro H7.out.1 H7.out.2.1)
      clear HT b07 H6 H7 cx zx hcx HX
      have HT := HT2
      clear HT2
      generalize w7 = wz at *
      go_cut [18] (fun s18 wx => s18 = .int .u64 S ∧ wx = wz)
      case first =>
        rcases lim_small HR.out.2 with ⟨q1, q2⟩ | ⟨q1, q2⟩ | ⟨q1, q2⟩
        · have hS := HS.out.1
          rw [if_pos (by omega), q2] at hS
          have hl0 : rl.length = 0 := by rw [q1]; rfl
          have g70 : ((rl.length : Int) == 1) = false := by rw [hl0]; decide
          clear q1 q2 hl0 HS HT HR
          go_wp2_with fail
          go_meet
          exact ⟨by rw [← hS]; rfl, rfl⟩
        · have hS := HS.out.1
          rw [if_pos q2] at hS
          have hl0 : rl.length = 1 := by rw [q1]; rfl
          have g70 : ((rl.length : Int) == 1) = true := by rw [hl0]; decide
          obtain ⟨bl, ol, rfl, hbl, hcl⟩ := HR.out.1.2 (by omega)
          have hcl0 := hcl 0 X (by rw [q1]; rfl)
          rw [Nat.add_zero] at hcl0
          have hl1 : (0 : Int) < (rl.length : Int) := by omega
          subst hS
          clear q1 q2 hl0 HS HT HR hcl
          go_wp2_with fail
          go_meet
          exact ⟨rfl, rfl⟩
        · have hS := HS.out.1
          rw [if_neg (by omega)] at hS
          have g70 : ((rl.length : Int) == 1) = false := by simp <;> omega
          clear q1 q2 HS HT HR
          go_wp2_with fail
          go_meet
          exact ⟨by rw [← hS]; rfl, rfl⟩
      case rest =>
        obtain ⟨rfl, rfl⟩ := hcut
        clear HR g16 rll
        go_upto_region 20 with fail
        refine wp_region_seq [74, 75, 76, 77, 78, 79, 80, 81, 82, 83, 84, 85, 86, 87, 88, 89, 90, 91, 92, 93, 94, 95, 96, 97, 98, 99, 100, 101] (by kernel_rfl) rfl (by simp) (by kernel_rfl) ?_
        apply RegW.val 0 rfl
        · intro a w' hF hB hd; have e15 := hF.2.2 15 (by decide); simp at e15; clear hd hF; refine wpOp_step rfl (fun K' hK => ?_); go_simp; exact hK _ _ ⟨_, rfl, Below.refl _ _, cst_ok⟩
        apply RegW.val 1 rfl
        · intro a w' hF hB hd; have e17 := hF.2.2 17 (by decide); simp at e17; clear hd hF; refine wpOp_step rfl (fun K' hK => ?_); go_simp; exact hK _ _ ⟨_, rfl, Below.refl _ _, cst_ok⟩
        apply RegW.val 2 rfl
        · intro a w' hF hB hd; have v0 : a.tmps[74]?.getD undef = _ := hd 0 (of_decide_eq_true (by kernel_rfl)) 1 _ _ rfl rfl; have v1 : a.tmps[75]?.getD undef = _ := hd 1 (of_decide_eq_true (by kernel_rfl)) 0 _ _ rfl rfl; clear hd hF; refine wpOp_step rfl (fun K' hK => ?_); go_simp; exact hK _ _ ⟨_, rfl, Below.refl _ _, cst_ok⟩
        apply RegW.val 3 rfl
        · intro a w' hF hB hd; have v2 : a.tmps[76]?.getD undef = _ := hd 2 (of_decide_eq_true (by kernel_rfl)) 0 _ _ rfl rfl; clear hd hF; refine wpOp_step rfl (fun K' hK => ?_); go_simp; exact hK _ _ ⟨_, rfl, Below.refl _ _, cst_ok⟩
        apply RegW.val 4 rfl
        · intro a w' hF hB hd; have v3 : a.tmps[77]?.getD undef = _ := hd 3 (of_decide_eq_true (by kernel_rfl)) 0 _ _ rfl rfl; have gd := tmp_bool v3; have e14 := hF.2.2 14 (by decide); simp at e14; clear hd hF; refine wpOp_step rfl (fun K' hK => ?_); go_simp; exact hK _ _ ⟨_, rfl, Below.refl _ _, cst_ok⟩
        apply RegW.val 5 rfl
        · intro a w' hF hB hd; have v3 : a.tmps[77]?.getD undef = _ := hd 3 (of_decide_eq_true (by kernel_rfl)) 1 _ _ rfl rfl; have gd := tmp_bool v3; have e18 := hF.2.2 18 (by decide); simp at e18; clear hd hF; refine wpOp_step rfl (fun K' hK => ?_); go_simp; exact hK _ _ ⟨_, rfl, Below.refl _ _, cst_ok⟩
        apply RegW.val 6 rfl
        · intro a w' hF hB hd; have v3 : a.tmps[77]?.getD undef = _ := hd 3 (of_decide_eq_true (by kernel_rfl)) 2 _ _ rfl rfl; have v4 : a.tmps[78]?.getD undef = _ := hd 4 (of_decide_eq_true (by kernel_rfl)) 1 _ _ rfl rfl; have v5 : a.tmps[79]?.getD undef = _ := hd 5 (of_decide_eq_true (by kernel_rfl)) 0 _ _ rfl rfl; have gd := tmp_bool v3; clear hd hF; refine wpOp_step rfl (fun K' hK => ?_); go_simp; exact hK _ _ ⟨_, rfl, Below.refl _ _, cst_ok⟩
        apply RegW.val 7 rfl
        · intro a w' hF hB hd; have v3 : a.tmps[77]?.getD undef = _ := hd 3 (of_decide_eq_true (by kernel_rfl)) 3 _ _ rfl rfl; have v6 : a.tmps[80]?.getD undef = _ := hd 6 (of_decide_eq_true (by kernel_rfl)) 0 _ _ rfl rfl; clear hd hF; refine wpOp_step rfl (fun K' hK => ?_); go_simp; exact hK _ _ ⟨_, rfl, Below.refl _ _, cst_ok⟩
        apply RegW.val 8 rfl
        · intro a w' hF hB hd; have v7 : a.tmps[81]?.getD undef = _ := hd 7 (of_decide_eq_true (by kernel_rfl)) 0 _ _ rfl rfl; clear hd hF; refine wpOp_step rfl (fun K' hK => ?_); go_simp; exact hK _ _ ⟨_, rfl, Below.refl _ _, cst_ok⟩
        apply RegW.num 9 rfl
        · intro a w' hF hB hd; have v8 : a.tmps[82]?.getD undef = _ := hd 8 (of_decide_eq_true (by kernel_rfl)) 0 _ _ rfl rfl; have gd := tmp_bool v8; have e10 := hF.2.2 10 (by decide); simp at e10; clear hd hF; obtain ⟨sv, hk, hi⟩ := (HT.out.1).keep hB; have c0 := hk.cell 0; simp at c0; refine wpOp_step rfl (fun K' hK => ?_); go_simp; exact hK _ _ ⟨_, rfl, Below.refl _ _, ⟨_, rfl, hi⟩⟩
        apply RegW.val 10 rfl
        · intro a w' hF hB hd; have v8 : a.tmps[82]?.getD undef = _ := hd 8 (of_decide_eq_true (by kernel_rfl)) 1 _ _ rfl rfl; have gd := tmp_bool v8; have e7 := hF.2.2 7 (by decide); simp at e7; clear hd hF; refine wpOp_step rfl (fun K' hK => ?_); go_simp; exact hK _ _ ⟨_, rfl, Below.refl _ _, cst_ok⟩
        apply RegW.val 11 rfl
        · intro a w' hF hB hd; have v8 : a.tmps[82]?.getD undef = _ := hd 8 (of_decide_eq_true (by kernel_rfl)) 2 _ _ rfl rfl; have u9 := hd 9 (of_decide_eq_true (by kernel_rfl)) 1 _ _ rfl rfl; obtain ⟨x9, p9, q9⟩ := u9; have v10 : a.tmps[84]?.getD undef = _ := hd 10 (of_decide_eq_true (by kernel_rfl)) 0 _ _ rfl rfl; have gd := tmp_bool v8; clear hd hF; refine wpOp_step rfl (fun K' hK => ?_); go_simp; refine (is_w q9 (HT.out.2.2.2.1.keep hB) (fits_le hX (by decide))).mono ?_; rintro e w1 ⟨rfl, hb⟩; exact hK _ _ ⟨_, rfl, hb, cst_ok⟩
        apply RegW.val 12 rfl
        · intro a w' hF hB hd; have v8 : a.tmps[82]?.getD undef = _ := hd 8 (of_decide_eq_true (by kernel_rfl)) 3 _ _ rfl rfl; have v11 : a.tmps[85]?.getD undef = _ := hd 11 (of_decide_eq_true (by kernel_rfl)) 0 _ _ rfl rfl; have gd := tmp_bool v8; clear hd hF; refine wpOp_step rfl (fun K' hK => ?_); go_simp; exact hK _ _ ⟨_, rfl, Below.refl _ _, cst_ok⟩
        apply RegW.val 13 rfl
        · intro a w' hF hB hd; have v8 : a.tmps[82]?.getD undef = _ := hd 8 (of_decide_eq_true (by kernel_rfl)) 4 _ _ rfl rfl; have v12 : a.tmps[86]?.getD undef = _ := hd 12 (of_decide_eq_true (by kernel_rfl)) 0 _ _ rfl rfl; clear hd hF; refine wpOp_step rfl (fun K' hK => ?_); go_simp; exact hK _ _ ⟨_, rfl, Below.refl _ _, cst_ok⟩
        apply RegW.val 14 rfl
        · intro a w' hF hB hd; have v13 : a.tmps[87]?.getD undef = _ := hd 13 (of_decide_eq_true (by kernel_rfl)) 0 _ _ rfl rfl; clear hd hF; refine wpOp_step rfl (fun K' hK => ?_); go_simp; exact hK _ _ ⟨_, rfl, Below.refl _ _, cst_ok⟩
        apply RegW.val 15 rfl
        · intro a w' hF hB hd; have v14 : a.tmps[88]?.getD undef = _ := hd 14 (of_decide_eq_true (by kernel_rfl)) 0 _ _ rfl rfl; have gd := tmp_bool v14; have e2 := hF.2.2 2 (by decide); simp at e2; clear hd hF; refine wpOp_step rfl (fun K' hK => ?_); go_simp; exact hK _ _ ⟨_, rfl, Below.refl _ _, cst_ok⟩
        apply RegW.num 16 rfl
        · intro a w' hF hB hd; have v14 : a.tmps[88]?.getD undef = _ := hd 14 (of_decide_eq_true (by kernel_rfl)) 1 _ _ rfl rfl; have v15 : a.tmps[89]?.getD undef = _ := hd 15 (of_decide_eq_true (by kernel_rfl)) 0 _ _ rfl rfl; have gd := tmp_bool v14; clear hd hF; refine wpOp_step rfl (fun K' hK => ?_); go_simp; refine (of_w t _ ht).mono ?_; rintro e w1 ⟨x, rfl, hx, hb⟩; exact hK _ _ ⟨_, rfl, hb, ⟨_, rfl, hx⟩⟩
        apply RegW.val 17 rfl
        · intro a w' hF hB hd; have v14 : a.tmps[88]?.getD undef = _ := hd 14 (of_decide_eq_true (by kernel_rfl)) 2 _ _ rfl rfl; have gd := tmp_bool v14; have e2 := hF.2.2 2 (by decide); simp at e2; clear hd hF; refine wpOp_step rfl (fun K' hK => ?_); go_simp; exact hK _ _ ⟨_, rfl, Below.refl _ _, cst_ok⟩
        refine RegW.op 18 rfl (row 1 [t]) ?_ ?_
        · intro a w' hF hB hd; have v14 : a.tmps[88]?.getD undef = _ := hd 14 (of_decide_eq_true (by kernel_rfl)) 3 _ _ rfl rfl; have v17 : a.tmps[91]?.getD undef = _ := hd 17 (of_decide_eq_true (by kernel_rfl)) 0 _ _ rfl rfl; have gd := tmp_bool v14; clear hd hF; refine wpOp_step rfl (fun K' hK => ?_); go_simp; exact hK _ _ ⟨_, rfl, (Below.refl _ _).alloc (Nat.le_refl _) _, ⟨_, _, rfl, rw_new _ t _⟩⟩
        apply RegW.byt 19 rfl
        · intro a w' hF hB hd; have v14 : a.tmps[88]?.getD undef = _ := hd 14 (of_decide_eq_true (by kernel_rfl)) 4 _ _ rfl rfl; have u18 := hd 18 (of_decide_eq_true (by kernel_rfl)) 0 _ _ rfl rfl; obtain ⟨A18, c18, p18, q18⟩ := u18; have gd := tmp_bool v14; clear hd hF; refine wpOp_step rfl (fun K' hK => ?_); go_simp; refine (refOf_c _ 1 _ [t] _ q18 (by intro y hy; simp at hy; omega) (by decide)).mono ?_; rintro e w1 ⟨x, rfl, hx, hb⟩; exact hK _ _ ⟨_, rfl, hb, ⟨_, rfl, byt_one hx⟩⟩
        apply RegW.val 20 rfl
        · intro a w' hF hB hd; have v14 : a.tmps[88]?.getD undef = _ := hd 14 (of_decide_eq_true (by kernel_rfl)) 5 _ _ rfl rfl; have u16 := hd 16 (of_decide_eq_true (by kernel_rfl)) 3 _ _ rfl rfl; obtain ⟨x16, p16, q16⟩ := u16; have u19 := hd 19 (of_decide_eq_true (by kernel_rfl)) 0 _ _ rfl rfl; obtain ⟨x19, p19, q19⟩ := u19; have gd := tmp_bool v14; clear hd hF; refine wpOp_step rfl (fun K' hK => ?_); go_simp; refine (is_w q16 q19 (fits_le (fits_word ht) (by decide))).mono ?_; rintro e w1 ⟨rfl, hb⟩; exact hK _ _ ⟨_, rfl, hb, cst_ok⟩
        apply RegW.val 21 rfl
        · intro a w' hF hB hd; have v14 : a.tmps[88]?.getD undef = _ := hd 14 (of_decide_eq_true (by kernel_rfl)) 6 _ _ rfl rfl; have v20 : a.tmps[94]?.getD undef = _ := hd 20 (of_decide_eq_true (by kernel_rfl)) 0 _ _ rfl rfl; have gd := tmp_bool v14; clear hd hF; refine wpOp_step rfl (fun K' hK => ?_); go_simp; exact hK _ _ ⟨_, rfl, Below.refl _ _, cst_ok⟩
        apply RegW.val 22 rfl
        · intro a w' hF hB hd; have v14 : a.tmps[88]?.getD undef = _ := hd 14 (of_decide_eq_true (by kernel_rfl)) 7 _ _ rfl rfl; have v21 : a.tmps[95]?.getD undef = _ := hd 21 (of_decide_eq_true (by kernel_rfl)) 0 _ _ rfl rfl; clear hd hF; refine wpOp_step rfl (fun K' hK => ?_); go_simp; exact hK _ _ ⟨_, rfl, Below.refl _ _, cst_ok⟩
        apply RegW.val 23 rfl
        · intro a w' hF hB hd; have v22 : a.tmps[96]?.getD undef = _ := hd 22 (of_decide_eq_true (by kernel_rfl)) 0 _ _ rfl rfl; clear hd hF; refine wpOp_step rfl (fun K' hK => ?_); go_simp; exact hK _ _ ⟨_, rfl, Below.refl _ _, cst_ok⟩
        apply RegW.num 24 rfl
        · intro a w' hF hB hd; have v23 : a.tmps[97]?.getD undef = _ := hd 23 (of_decide_eq_true (by kernel_rfl)) 0 _ _ rfl rfl; have gd := tmp_bool v23; have e13 := hF.2.2 13 (by decide); simp at e13; clear hd hF; obtain ⟨sv, hk, hi⟩ := (HT.out.2.2.1).keep hB; have c0 := hk.cell 0; simp at c0; refine wpOp_step rfl (fun K' hK => ?_); go_simp; exact hK _ _ ⟨_, rfl, Below.refl _ _, ⟨_, rfl, hi⟩⟩
        apply RegW.val 25 rfl
        · intro a w' hF hB hd; have v23 : a.tmps[97]?.getD undef = _ := hd 23 (of_decide_eq_true (by kernel_rfl)) 1 _ _ rfl rfl; have u24 := hd 24 (of_decide_eq_true (by kernel_rfl)) 0 _ _ rfl rfl; obtain ⟨x24, p24, q24⟩ := u24; have gd := tmp_bool v23; clear hd hF; refine wpOp_step rfl (fun K' hK => ?_); go_simp; refine (is_nil q24 rfl).mono ?_; rintro e w1 ⟨rfl, hb⟩; exact hK _ _ ⟨_, rfl, hb, cst_ok⟩
        apply RegW.val 26 rfl
        · intro a w' hF hB hd; have v23 : a.tmps[97]?.getD undef = _ := hd 23 (of_decide_eq_true (by kernel_rfl)) 2 _ _ rfl rfl; have v25 : a.tmps[99]?.getD undef = _ := hd 25 (of_decide_eq_true (by kernel_rfl)) 0 _ _ rfl rfl; have gd := tmp_bool v23; clear hd hF; refine wpOp_step rfl (fun K' hK => ?_); go_simp; exact hK _ _ ⟨_, rfl, Below.refl _ _, cst_ok⟩
        apply RegW.val 27 rfl
        · intro a w' hF hB hd; have v23 : a.tmps[97]?.getD undef = _ := hd 23 (of_decide_eq_true (by kernel_rfl)) 3 _ _ rfl rfl; have v26 : a.tmps[100]?.getD undef = _ := hd 26 (of_decide_eq_true (by kernel_rfl)) 0 _ _ rfl rfl; clear hd hF; refine wpOp_step rfl (fun K' hK => ?_); go_simp; exact hK _ _ ⟨_, rfl, Below.refl _ _, cst_ok⟩
        refine RegW.done (fun a w' hF hB hv => ?_)
        have v0 : a.tmps[74]?.getD undef = _ := hv 27 _ _ rfl
        have v1 : a.tmps[75]?.getD undef = _ := hv 26 _ _ rfl
        have v2 : a.tmps[76]?.getD undef = _ := hv 25 _ _ rfl
        have v3 : a.tmps[77]?.getD undef = _ := hv 24 _ _ rfl
        have v4 : a.tmps[78]?.getD undef = _ := hv 23 _ _ rfl
        have v5 : a.tmps[79]?.getD undef = _ := hv 22 _ _ rfl
        have v6 : a.tmps[80]?.getD undef = _ := hv 21 _ _ rfl
        have v7 : a.tmps[81]?.getD undef = _ := hv 20 _ _ rfl
        have v8 : a.tmps[82]?.getD undef = _ := hv 19 _ _ rfl
        have u9 := hv 18 _ _ rfl
        obtain ⟨x9, p9, q9⟩ := u9
        have v10 : a.tmps[84]?.getD undef = _ := hv 17 _ _ rfl
        have v11 : a.tmps[85]?.getD undef = _ := hv 16 _ _ rfl
        have v12 : a.tmps[86]?.getD undef = _ := hv 15 _ _ rfl
        have v13 : a.tmps[87]?.getD undef = _ := hv 14 _ _ rfl
        have v14 : a.tmps[88]?.getD undef = _ := hv 13 _ _ rfl
        have v15 : a.tmps[89]?.getD undef = _ := hv 12 _ _ rfl
        have u16 := hv 11 _ _ rfl
        obtain ⟨x16, p16, q16⟩ := u16
        have v17 : a.tmps[91]?.getD undef = _ := hv 10 _ _ rfl
        have u18 := hv 9 _ _ rfl
        obtain ⟨A18, c18, p18, q18⟩ := u18
        have u19 := hv 8 _ _ rfl
        obtain ⟨x19, p19, q19⟩ := u19
        have v20 : a.tmps[94]?.getD undef = _ := hv 7 _ _ rfl
        have v21 : a.tmps[95]?.getD undef = _ := hv 6 _ _ rfl
        have v22 : a.tmps[96]?.getD undef = _ := hv 5 _ _ rfl
        have v23 : a.tmps[97]?.getD undef = _ := hv 4 _ _ rfl
        have u24 := hv 3 _ _ rfl
        obtain ⟨x24, p24, q24⟩ := u24
        have v25 : a.tmps[99]?.getD undef = _ := hv 2 _ _ rfl
        have v26 : a.tmps[100]?.getD undef = _ := hv 1 _ _ rfl
        have v27 : a.tmps[101]?.getD undef = _ := hv 0 _ _ rfl
        have hE := hF.out
        rw [hE]
        clear hE hF hv
        simp only [List.foldl_cons, List.foldl_nil, Act.put, List.setIfInBounds_toArray, List.set_cons_zero, List.set_cons_succ, Array.getD_eq_getD_getElem?, v0, v1, v2, v3, v4, v5, v6, v7, v8, p9, v10, v11, v12, v13, v14, v15, p16, v17, p18, p19, v20, v21, v22, v23, p24, v25, v26, v27]
        clear v0 v1 v2 v3 v4 v5 v6 v7 v8 p9 v10 v11 v12 v13 v14 v15 p16 v17 p18 p19 v20 v21 v22 v23 p24 v25 v26 v27
        have HT2 := Lib.hid (And.intro (HT.out.1.keep hB) (And.intro (HT.out.2.1.keep hB) (And.intro (HT.out.2.2.1.keep hB) (And.intro (HT.out.2.2.2.1.keep hB) (And.intro (HT.out.2.2.2.2.1.keep hB) (HT.out.2.2.2.2.2.trans (hB.mono HT.out.2.2.2.2.2.size)))))))
        clear HT hB HS
        have HT := HT2
        clear HT2
        go_upto_region 23 with fail
        generalize w' = wz at *
        obtain ⟨q1, hq1⟩ : ∃ q, cmpI X Y = q := ⟨_, rfl⟩
        obtain ⟨q2, hq2⟩ : ∃ q, cmpI Y X = q := ⟨_, rfl⟩
        have HQ := Lib.hid (And.intro hq1 hq2)
        clear hq1 hq2
        obtain ⟨b106, g106⟩ : ∃ b, decide (0 < q2) = b := ⟨_, rfl⟩
        go_upto_if 106 with (go_at_call 18; refine (rCmp_w HT.out.2.2.2.2.1 HT.out.2.2.2.1 (fits_le hY (by decide)) (fits_le hX (by decide)) HQ.out.2).mono ?_; rintro e w8 ⟨rfl, hb⟩; have H8 := Lib.hid hb; clear hb)
        have b08 := H8.out
        have HT2 := Lib.hid (And.intro (HT.out.1.keep b08) (And.intro (HT.out.2.1.keep b08) (And.intro (HT.out.2.2.1.keep b08) (And.intro (HT.out.2.2.2.1.keep b08) (And.intro (HT.out.2.2.2.2.1.keep b08) (HT.out.2.2.2.2.2.trans (b08.mono HT.out.2.2.2.2.2.size)))))))
        clear HT H8 b08
        have HT := HT2
        clear HT2
        generalize w8 = wz at *
        go_cut [19] (fun s19 wx => IsByt wz s19 (maxOf [X, Y]) ∧ wx = wz)
        case first =>
          by_cases hxy : X < Y
          · obtain rfl : b106 = true := by rw [← g106, ← HQ.out.2]; unfold cmpI; rw [if_neg (by omega), if_pos hxy]; decide
            have hm1 : maxOf [X, Y] = Y := by rw [maxOf2, if_pos hxy]
            have hv := HT.out.2.2.2.2.1
            rw [← hm1] at hv
            have HV := Lib.hid hv
            clear hm1 hv HT HQ hxy g106
            go_wp2_with fail
            go_meet
            exact ⟨HV.out, rfl⟩
          · obtain rfl : b106 = false := by rw [← g106, ← HQ.out.2]; unfold cmpI; split <;> (try rw [if_neg hxy]) <;> decide
            have hm1 : maxOf [X, Y] = X := by rw [maxOf2, if_neg hxy]
            have hv := HT.out.2.2.2.1
            rw [← hm1] at hv
            have HV := Lib.hid hv
            clear hm1 hv HT HQ hxy g106
            go_wp2_with fail
            go_meet
            exact ⟨HV.out, rfl⟩
        case rest =>
          obtain ⟨hm19, rfl⟩ := hcut
          obtain ⟨hq1, hq2⟩ := HQ.out
          have HM := Lib.hid hm19
          have HQ1 := Lib.hid hq1
          have HQ2 := Lib.hid hq2
          clear hm19 hq1 hq2 HQ g106
          go_upto_region 25 with fail
          refine wp_region_seq [108, 109, 110, 111, 112, 113, 114, 115, 116, 117, 118, 119, 120, 121, 122, 123, 124, 125, 126, 127, 128, 129, 130, 131, 132, 133, 134, 135, 136, 137, 138, 139, 140, 141, 142, 143, 144, 145, 146, 147, 148, 149, 150, 151, 152, 153, 6] (by kernel_rfl) rfl (by simp) (by kernel_rfl) ?_
          apply RegW.num 0 rfl
          · intro a w' hF hB hd; have e10 := hF.2.2 10 (by decide); simp at e10; clear hd hF; obtain ⟨sv, hk, hi⟩ := (HT.out.1).keep hB; have c0 := hk.cell 0; simp at c0; refine wpOp_step rfl (fun K' hK => ?_); go_simp; exact hK _ _ ⟨_, rfl, Below.refl _ _, ⟨_, rfl, hi⟩⟩
          apply RegW.num 1 rfl
          · intro a w' hF hB hd; have e11 := hF.2.2 11 (by decide); simp at e11; clear hd hF; obtain ⟨sv, hk, hi⟩ := (HT.out.2.1).keep hB; have c0 := hk.cell 0; simp at c0; refine wpOp_step rfl (fun K' hK => ?_); go_simp; exact hK _ _ ⟨_, rfl, Below.refl _ _, ⟨_, rfl, hi⟩⟩
          apply RegW.val 2 rfl
          · intro a w' hF hB hd; have u0 := hd 0 (of_decide_eq_true (by kernel_rfl)) 1 _ _ rfl rfl; obtain ⟨x0, p0, q0⟩ := u0; have u1 := hd 1 (of_decide_eq_true (by kernel_rfl)) 0 _ _ rfl rfl; obtain ⟨x1, p1, q1⟩ := u1; clear hd hF; refine wpOp_step rfl (fun K' hK => ?_); go_simp; refine (cmp_w q0 q1 (fits_le hX (by decide)) (fits_le hY (by decide)) HQ1.out).mono ?_; rintro e w1 ⟨rfl, hb⟩; exact hK _ _ ⟨_, rfl, hb, cst_ok⟩
          apply RegW.val 3 rfl
          · intro a w' hF hB hd; have e7 := hF.2.2 7 (by decide); simp at e7; clear hd hF; refine wpOp_step rfl (fun K' hK => ?_); go_simp; exact hK _ _ ⟨_, rfl, Below.refl _ _, cst_ok⟩
          apply RegW.val 4 rfl
          · intro a w' hF hB hd; have e8 := hF.2.2 8 (by decide); simp at e8; clear hd hF; refine wpOp_step rfl (fun K' hK => ?_); go_simp; exact hK _ _ ⟨_, rfl, Below.refl _ _, cst_ok⟩
          apply RegW.val 5 rfl
          · intro a w' hF hB hd; have v3 : a.tmps[111]?.getD undef = _ := hd 3 (of_decide_eq_true (by kernel_rfl)) 1 _ _ rfl rfl; have v4 : a.tmps[112]?.getD undef = _ := hd 4 (of_decide_eq_true (by kernel_rfl)) 0 _ _ rfl rfl; clear hd hF; refine wpOp_step rfl (fun K' hK => ?_); go_simp; refine (rCmp_w (HT.out.2.2.2.1.keep hB) (HT.out.2.2.2.2.1.keep hB) (fits_le hX (by decide)) (fits_le hY (by decide)) HQ1.out).mono ?_; rintro e w1 ⟨rfl, hb⟩; exact hK _ _ ⟨_, rfl, hb, cst_ok⟩
          apply RegW.val 6 rfl
          · intro a w' hF hB hd; have v2 : a.tmps[110]?.getD undef = _ := hd 2 (of_decide_eq_true (by kernel_rfl)) 3 _ _ rfl rfl; have v5 : a.tmps[113]?.getD undef = _ := hd 5 (of_decide_eq_true (by kernel_rfl)) 0 _ _ rfl rfl; clear hd hF; refine wpOp_step rfl (fun K' hK => ?_); go_simp; exact hK _ _ ⟨_, rfl, Below.refl _ _, cst_ok⟩
          apply RegW.val 7 rfl
          · intro a w' hF hB hd; have v6 : a.tmps[114]?.getD undef = _ := hd 6 (of_decide_eq_true (by kernel_rfl)) 0 _ _ rfl rfl; clear hd hF; refine wpOp_step rfl (fun K' hK => ?_); go_simp; exact hK _ _ ⟨_, rfl, Below.refl _ _, cst_ok⟩
          apply RegW.num 8 rfl
          · intro a w' hF hB hd; have v7 : a.tmps[115]?.getD undef = _ := hd 7 (of_decide_eq_true (by kernel_rfl)) 0 _ _ rfl rfl; have gd := tmp_bool v7; have e11 := hF.2.2 11 (by decide); simp at e11; clear hd hF; obtain ⟨sv, hk, hi⟩ := (HT.out.2.1).keep hB; have c0 := hk.cell 0; simp at c0; refine wpOp_step rfl (fun K' hK => ?_); go_simp; exact hK _ _ ⟨_, rfl, Below.refl _ _, ⟨_, rfl, hi⟩⟩
          apply RegW.num 9 rfl
          · intro a w' hF hB hd; have v7 : a.tmps[115]?.getD undef = _ := hd 7 (of_decide_eq_true (by kernel_rfl)) 1 _ _ rfl rfl; have gd := tmp_bool v7; have e10 := hF.2.2 10 (by decide); simp at e10; clear hd hF; obtain ⟨sv, hk, hi⟩ := (HT.out.1).keep hB; have c0 := hk.cell 0; simp at c0; refine wpOp_step rfl (fun K' hK => ?_); go_simp; exact hK _ _ ⟨_, rfl, Below.refl _ _, ⟨_, rfl, hi⟩⟩
          apply RegW.val 10 rfl
          · intro a w' hF hB hd; have v7 : a.tmps[115]?.getD undef = _ := hd 7 (of_decide_eq_true (by kernel_rfl)) 2 _ _ rfl rfl; have u8 := hd 8 (of_decide_eq_true (by kernel_rfl)) 1 _ _ rfl rfl; obtain ⟨x8, p8, q8⟩ := u8; have u9 := hd 9 (of_decide_eq_true (by kernel_rfl)) 0 _ _ rfl rfl; obtain ⟨x9, p9, q9⟩ := u9; have gd := tmp_bool v7; clear hd hF; refine wpOp_step rfl (fun K' hK => ?_); go_simp; refine (cmp_w q8 q9 (fits_le hY (by decide)) (fits_le hX (by decide)) HQ2.out).mono ?_; rintro e w1 ⟨rfl, hb⟩; exact hK _ _ ⟨_, rfl, hb, cst_ok⟩
          apply RegW.val 11 rfl
          · intro a w' hF hB hd; have v7 : a.tmps[115]?.getD undef = _ := hd 7 (of_decide_eq_true (by kernel_rfl)) 3 _ _ rfl rfl; have gd := tmp_bool v7; have e8 := hF.2.2 8 (by decide); simp at e8; clear hd hF; refine wpOp_step rfl (fun K' hK => ?_); go_simp; exact hK _ _ ⟨_, rfl, Below.refl _ _, cst_ok⟩
          apply RegW.val 12 rfl
          · intro a w' hF hB hd; have v7 : a.tmps[115]?.getD undef = _ := hd 7 (of_decide_eq_true (by kernel_rfl)) 4 _ _ rfl rfl; have gd := tmp_bool v7; have e7 := hF.2.2 7 (by decide); simp at e7; clear hd hF; refine wpOp_step rfl (fun K' hK => ?_); go_simp; exact hK _ _ ⟨_, rfl, Below.refl _ _, cst_ok⟩
          apply RegW.val 13 rfl
          · intro a w' hF hB hd; have v7 : a.tmps[115]?.getD undef = _ := hd 7 (of_decide_eq_true (by kernel_rfl)) 5 _ _ rfl rfl; have v11 : a.tmps[119]?.getD undef = _ := hd 11 (of_decide_eq_true (by kernel_rfl)) 1 _ _ rfl rfl; have v12 : a.tmps[120]?.getD undef = _ := hd 12 (of_decide_eq_true (by kernel_rfl)) 0 _ _ rfl rfl; have gd := tmp_bool v7; clear hd hF; refine wpOp_step rfl (fun K' hK => ?_); go_simp; refine (rCmp_w (HT.out.2.2.2.2.1.keep hB) (HT.out.2.2.2.1.keep hB) (fits_le hY (by decide)) (fits_le hX (by decide)) HQ2.out).mono ?_; rintro e w1 ⟨rfl, hb⟩; exact hK _ _ ⟨_, rfl, hb, cst_ok⟩
          apply RegW.val 14 rfl
          · intro a w' hF hB hd; have v7 : a.tmps[115]?.getD undef = _ := hd 7 (of_decide_eq_true (by kernel_rfl)) 6 _ _ rfl rfl; have v10 : a.tmps[118]?.getD undef = _ := hd 10 (of_decide_eq_true (by kernel_rfl)) 3 _ _ rfl rfl; have v13 : a.tmps[121]?.getD undef = _ := hd 13 (of_decide_eq_true (by kernel_rfl)) 0 _ _ rfl rfl; have gd := tmp_bool v7; clear hd hF; refine wpOp_step rfl (fun K' hK => ?_); go_simp; exact hK _ _ ⟨_, rfl, Below.refl _ _, cst_ok⟩
          apply RegW.val 15 rfl
          · intro a w' hF hB hd; have v7 : a.tmps[115]?.getD undef = _ := hd 7 (of_decide_eq_true (by kernel_rfl)) 7 _ _ rfl rfl; have v14 : a.tmps[122]?.getD undef = _ := hd 14 (of_decide_eq_true (by kernel_rfl)) 0 _ _ rfl rfl; clear hd hF; refine wpOp_step rfl (fun K' hK => ?_); go_simp; exact hK _ _ ⟨_, rfl, Below.refl _ _, cst_ok⟩
          apply RegW.val 16 rfl
          · intro a w' hF hB hd; have v15 : a.tmps[123]?.getD undef = _ := hd 15 (of_decide_eq_true (by kernel_rfl)) 0 _ _ rfl rfl; clear hd hF; refine wpOp_step rfl (fun K' hK => ?_); go_simp; exact hK _ _ ⟨_, rfl, Below.refl _ _, cst_ok⟩
          apply RegW.num 17 rfl
          · intro a w' hF hB hd; have v16 : a.tmps[124]?.getD undef = _ := hd 16 (of_decide_eq_true (by kernel_rfl)) 0 _ _ rfl rfl; have gd := tmp_bool v16; have e10 := hF.2.2 10 (by decide); simp at e10; clear hd hF; obtain ⟨sv, hk, hi⟩ := (HT.out.1).keep hB; have c0 := hk.cell 0; simp at c0; refine wpOp_step rfl (fun K' hK => ?_); go_simp; exact hK _ _ ⟨_, rfl, Below.refl _ _, ⟨_, rfl, hi⟩⟩
          apply RegW.num 18 rfl
          · intro a w' hF hB hd; have v16 : a.tmps[124]?.getD undef = _ := hd 16 (of_decide_eq_true (by kernel_rfl)) 1 _ _ rfl rfl; have gd := tmp_bool v16; have e10 := hF.2.2 10 (by decide); simp at e10; clear hd hF; obtain ⟨sv, hk, hi⟩ := (HT.out.1).keep hB; have c0 := hk.cell 0; simp at c0; refine wpOp_step rfl (fun K' hK => ?_); go_simp; exact hK _ _ ⟨_, rfl, Below.refl _ _, ⟨_, rfl, hi⟩⟩
          apply RegW.val 19 rfl
          · intro a w' hF hB hd; have v16 : a.tmps[124]?.getD undef = _ := hd 16 (of_decide_eq_true (by kernel_rfl)) 2 _ _ rfl rfl; have u17 := hd 17 (of_decide_eq_true (by kernel_rfl)) 1 _ _ rfl rfl; obtain ⟨x17, p17, q17⟩ := u17; have u18 := hd 18 (of_decide_eq_true (by kernel_rfl)) 0 _ _ rfl rfl; obtain ⟨x18, p18, q18⟩ := u18; have gd := tmp_bool v16; clear hd hF; refine wpOp_step rfl (fun K' hK => ?_); go_simp; refine (cmp_w q17 q18 (fits_le hX (by decide)) (fits_le hX (by decide)) (cmp0 rfl)).mono ?_; rintro e w1 ⟨rfl, hb⟩; exact hK _ _ ⟨_, rfl, hb, cst_ok⟩
          apply RegW.val 20 rfl
          · intro a w' hF hB hd; have v16 : a.tmps[124]?.getD undef = _ := hd 16 (of_decide_eq_true (by kernel_rfl)) 3 _ _ rfl rfl; have v19 : a.tmps[127]?.getD undef = _ := hd 19 (of_decide_eq_true (by kernel_rfl)) 0 _ _ rfl rfl; have gd := tmp_bool v16; clear hd hF; refine wpOp_step rfl (fun K' hK => ?_); go_simp; exact hK _ _ ⟨_, rfl, Below.refl _ _, cst_ok⟩
          apply RegW.val 21 rfl
          · intro a w' hF hB hd; have v16 : a.tmps[124]?.getD undef = _ := hd 16 (of_decide_eq_true (by kernel_rfl)) 4 _ _ rfl rfl; have v20 : a.tmps[128]?.getD undef = _ := hd 20 (of_decide_eq_true (by kernel_rfl)) 0 _ _ rfl rfl; clear hd hF; refine wpOp_step rfl (fun K' hK => ?_); go_simp; exact hK _ _ ⟨_, rfl, Below.refl _ _, cst_ok⟩
          apply RegW.val 22 rfl
          · intro a w' hF hB hd; have v21 : a.tmps[129]?.getD undef = _ := hd 21 (of_decide_eq_true (by kernel_rfl)) 0 _ _ rfl rfl; clear hd hF; refine wpOp_step rfl (fun K' hK => ?_); go_simp; exact hK _ _ ⟨_, rfl, Below.refl _ _, cst_ok⟩
          apply RegW.num 23 rfl
          · intro a w' hF hB hd; have v22 : a.tmps[130]?.getD undef = _ := hd 22 (of_decide_eq_true (by kernel_rfl)) 0 _ _ rfl rfl; have gd := tmp_bool v22; have e10 := hF.2.2 10 (by decide); simp at e10; clear hd hF; obtain ⟨sv, hk, hi⟩ := (HT.out.1).keep hB; have c0 := hk.cell 0; simp at c0; refine wpOp_step rfl (fun K' hK => ?_); go_simp; exact hK _ _ ⟨_, rfl, Below.refl _ _, ⟨_, rfl, hi⟩⟩
          apply RegW.num 24 rfl
          · intro a w' hF hB hd; have v22 : a.tmps[130]?.getD undef = _ := hd 22 (of_decide_eq_true (by kernel_rfl)) 1 _ _ rfl rfl; have gd := tmp_bool v22; have e11 := hF.2.2 11 (by decide); simp at e11; clear hd hF; obtain ⟨sv, hk, hi⟩ := (HT.out.2.1).keep hB; have c0 := hk.cell 0; simp at c0; refine wpOp_step rfl (fun K' hK => ?_); go_simp; exact hK _ _ ⟨_, rfl, Below.refl _ _, ⟨_, rfl, hi⟩⟩
          refine RegW.op 25 rfl (natsR 2 [X, Y]) ?_ ?_
          · intro a w' hF hB hd; have v22 : a.tmps[130]?.getD undef = _ := hd 22 (of_decide_eq_true (by kernel_rfl)) 2 _ _ rfl rfl; have u23 := hd 23 (of_decide_eq_true (by kernel_rfl)) 1 _ _ rfl rfl; obtain ⟨x23, p23, q23⟩ := u23; have u24 := hd 24 (of_decide_eq_true (by kernel_rfl)) 0 _ _ rfl rfl; obtain ⟨x24, p24, q24⟩ := u24; have gd := tmp_bool v22; clear hd hF; obtain ⟨A23, n23, d23, l23, rfl, _⟩ := id q23; obtain ⟨A24, n24, d24, l24, rfl, _⟩ := id q24; refine wpOp_step rfl (fun K' hK => ?_); go_simp; exact hK _ _ ⟨_, rfl, (Below.refl _ _).alloc (Nat.le_refl _) _, ⟨_, _, rfl, natsM2_new q23 q24 hX hY⟩⟩
          apply RegW.num 26 rfl
          · intro a w' hF hB hd; have v22 : a.tmps[130]?.getD undef = _ := hd 22 (of_decide_eq_true (by kernel_rfl)) 3 _ _ rfl rfl; have u25 := hd 25 (of_decide_eq_true (by kernel_rfl)) 0 _ _ rfl rfl; obtain ⟨A25, c25, p25, q25⟩ := u25; have gd := tmp_bool v22; clear hd hF; refine wpOp_step rfl (fun K' hK => ?_); go_simp; refine (max_c 41 _ 2 _ [X, Y] _ q25 (by decide) (by decide)).mono ?_; rintro e w1 ⟨x, rfl, hx, hb⟩; exact hK _ _ ⟨_, rfl, hb, ⟨_, rfl, hx.mono (Nat.zero_le _)⟩⟩
          apply RegW.val 27 rfl
          · intro a w' hF hB hd; have v22 : a.tmps[130]?.getD undef = _ := hd 22 (of_decide_eq_true (by kernel_rfl)) 4 _ _ rfl rfl; have gd := tmp_bool v22; have e19 := hF.2.2 19 (by decide); simp at e19; clear hd hF; refine wpOp_step rfl (fun K' hK => ?_); go_simp; exact hK _ _ ⟨_, rfl, Below.refl _ _, cst_ok⟩
          apply RegW.val 28 rfl
          · intro a w' hF hB hd; have v22 : a.tmps[130]?.getD undef = _ := hd 22 (of_decide_eq_true (by kernel_rfl)) 5 _ _ rfl rfl; have u26 := hd 26 (of_decide_eq_true (by kernel_rfl)) 1 _ _ rfl rfl; obtain ⟨x26, p26, q26⟩ := u26; have v27 : a.tmps[135]?.getD undef = _ := hd 27 (of_decide_eq_true (by kernel_rfl)) 0 _ _ rfl rfl; have gd := tmp_bool v22; clear hd hF; refine wpOp_step rfl (fun K' hK => ?_); go_simp; refine (is_w q26 (HM.out.keep hB) (fits_le (fits_max hX hY) (by decide))).mono ?_; rintro e w1 ⟨rfl, hb⟩; exact hK _ _ ⟨_, rfl, hb, cst_ok⟩
          apply RegW.val 29 rfl
          · intro a w' hF hB hd; have v22 : a.tmps[130]?.getD undef = _ := hd 22 (of_decide_eq_true (by kernel_rfl)) 6 _ _ rfl rfl; have v28 : a.tmps[136]?.getD undef = _ := hd 28 (of_decide_eq_true (by kernel_rfl)) 0 _ _ rfl rfl; clear hd hF; refine wpOp_step rfl (fun K' hK => ?_); go_simp; exact hK _ _ ⟨_, rfl, Below.refl _ _, cst_ok⟩
          apply RegW.val 30 rfl
          · intro a w' hF hB hd; have v29 : a.tmps[137]?.getD undef = _ := hd 29 (of_decide_eq_true (by kernel_rfl)) 0 _ _ rfl rfl; clear hd hF; refine wpOp_step rfl (fun K' hK => ?_); go_simp; exact hK _ _ ⟨_, rfl, Below.refl _ _, cst_ok⟩
          apply RegW.num 31 rfl
          · intro a w' hF hB hd; have v30 : a.tmps[138]?.getD undef = _ := hd 30 (of_decide_eq_true (by kernel_rfl)) 0 _ _ rfl rfl; have gd := tmp_bool v30; clear hd hF; refine wpOp_step rfl (fun K' hK => ?_); go_simp; refine (max0_w _).mono ?_; rintro e w1 ⟨x, rfl, hx, hb⟩; exact hK _ _ ⟨_, rfl, hb, ⟨_, rfl, hx⟩⟩
          apply RegW.val 32 rfl
          · intro a w' hF hB hd; have v30 : a.tmps[138]?.getD undef = _ := hd 30 (of_decide_eq_true (by kernel_rfl)) 1 _ _ rfl rfl; have u31 := hd 31 (of_decide_eq_true (by kernel_rfl)) 0 _ _ rfl rfl; obtain ⟨x31, p31, q31⟩ := u31; have gd := tmp_bool v30; clear hd hF; refine wpOp_step rfl (fun K' hK => ?_); go_simp; refine (is_nil q31 rfl).mono ?_; rintro e w1 ⟨rfl, hb⟩; exact hK _ _ ⟨_, rfl, hb, cst_ok⟩
          apply RegW.val 33 rfl
          · intro a w' hF hB hd; have v30 : a.tmps[138]?.getD undef = _ := hd 30 (of_decide_eq_true (by kernel_rfl)) 2 _ _ rfl rfl; have v32 : a.tmps[140]?.getD undef = _ := hd 32 (of_decide_eq_true (by kernel_rfl)) 0 _ _ rfl rfl; clear hd hF; refine wpOp_step rfl (fun K' hK => ?_); go_simp; exact hK _ _ ⟨_, rfl, Below.refl _ _, cst_ok⟩
          apply RegW.val 34 rfl
          · intro a w' hF hB hd; have v33 : a.tmps[141]?.getD undef = _ := hd 33 (of_decide_eq_true (by kernel_rfl)) 0 _ _ rfl rfl; clear hd hF; refine wpOp_step rfl (fun K' hK => ?_); go_simp; exact hK _ _ ⟨_, rfl, Below.refl _ _, cst_ok⟩
          apply RegW.num 35 rfl
          · intro a w' hF hB hd; have v34 : a.tmps[142]?.getD undef = _ := hd 34 (of_decide_eq_true (by kernel_rfl)) 0 _ _ rfl rfl; have gd := tmp_bool v34; have e13 := hF.2.2 13 (by decide); simp at e13; clear hd hF; obtain ⟨sv, hk, hi⟩ := (HT.out.2.2.1).keep hB; have c0 := hk.cell 0; simp at c0; refine wpOp_step rfl (fun K' hK => ?_); go_simp; exact hK _ _ ⟨_, rfl, Below.refl _ _, ⟨_, rfl, hi⟩⟩
          apply RegW.num 36 rfl
          · intro a w' hF hB hd; have v34 : a.tmps[142]?.getD undef = _ := hd 34 (of_decide_eq_true (by kernel_rfl)) 1 _ _ rfl rfl; have gd := tmp_bool v34; have e11 := hF.2.2 11 (by decide); simp at e11; clear hd hF; obtain ⟨sv, hk, hi⟩ := (HT.out.2.1).keep hB; have c0 := hk.cell 0; simp at c0; refine wpOp_step rfl (fun K' hK => ?_); go_simp; exact hK _ _ ⟨_, rfl, Below.refl _ _, ⟨_, rfl, hi⟩⟩
          apply RegW.num 37 rfl
          · intro a w' hF hB hd; have v34 : a.tmps[142]?.getD undef = _ := hd 34 (of_decide_eq_true (by kernel_rfl)) 2 _ _ rfl rfl; have gd := tmp_bool v34; have e13 := hF.2.2 13 (by decide); simp at e13; clear hd hF; obtain ⟨sv, hk, hi⟩ := (HT.out.2.2.1).keep hB; have c0 := hk.cell 0; simp at c0; refine wpOp_step rfl (fun K' hK => ?_); go_simp; exact hK _ _ ⟨_, rfl, Below.refl _ _, ⟨_, rfl, hi⟩⟩
          refine RegW.op 38 rfl (natsR 3 [0, Y, 0]) ?_ ?_
          · intro a w' hF hB hd; have v34 : a.tmps[142]?.getD undef = _ := hd 34 (of_decide_eq_true (by kernel_rfl)) 3 _ _ rfl rfl; have u35 := hd 35 (of_decide_eq_true (by kernel_rfl)) 2 _ _ rfl rfl; obtain ⟨x35, p35, q35⟩ := u35; have u36 := hd 36 (of_decide_eq_true (by kernel_rfl)) 1 _ _ rfl rfl; obtain ⟨x36, p36, q36⟩ := u36; have u37 := hd 37 (of_decide_eq_true (by kernel_rfl)) 0 _ _ rfl rfl; obtain ⟨x37, p37, q37⟩ := u37; have gd := tmp_bool v34; clear hd hF; obtain ⟨A35, n35, d35, l35, rfl, _⟩ := id q35; obtain ⟨A36, n36, d36, l36, rfl, _⟩ := id q36; obtain ⟨A37, n37, d37, l37, rfl, _⟩ := id q37; refine wpOp_step rfl (fun K' hK => ?_); go_simp; exact hK _ _ ⟨_, rfl, (Below.refl _ _).alloc (Nat.le_refl _) _, ⟨_, _, rfl, natsM_new q35 q36 q37 hY⟩⟩
          apply RegW.num 39 rfl
          · intro a w' hF hB hd; have v34 : a.tmps[142]?.getD undef = _ := hd 34 (of_decide_eq_true (by kernel_rfl)) 4 _ _ rfl rfl; have u38 := hd 38 (of_decide_eq_true (by kernel_rfl)) 0 _ _ rfl rfl; obtain ⟨A38, c38, p38, q38⟩ := u38; have gd := tmp_bool v34; clear hd hF; refine wpOp_step rfl (fun K' hK => ?_); go_simp; refine (max_c 41 _ 3 _ [0, Y, 0] _ q38 (by decide) (by decide)).mono ?_; rintro e w1 ⟨x, rfl, hx, hb⟩; exact hK _ _ ⟨_, rfl, hb, ⟨_, rfl, max3 hx⟩⟩
          apply RegW.val 40 rfl
          · intro a w' hF hB hd; have v34 : a.tmps[142]?.getD undef = _ := hd 34 (of_decide_eq_true (by kernel_rfl)) 5 _ _ rfl rfl; have gd := tmp_bool v34; have e8 := hF.2.2 8 (by decide); simp at e8; clear hd hF; refine wpOp_step rfl (fun K' hK => ?_); go_simp; exact hK _ _ ⟨_, rfl, Below.refl _ _, cst_ok⟩
          apply RegW.val 41 rfl
          · intro a w' hF hB hd; have v34 : a.tmps[142]?.getD undef = _ := hd 34 (of_decide_eq_true (by kernel_rfl)) 6 _ _ rfl rfl; have u39 := hd 39 (of_decide_eq_true (by kernel_rfl)) 1 _ _ rfl rfl; obtain ⟨x39, p39, q39⟩ := u39; have v40 : a.tmps[148]?.getD undef = _ := hd 40 (of_decide_eq_true (by kernel_rfl)) 0 _ _ rfl rfl; have gd := tmp_bool v34; clear hd hF; refine wpOp_step rfl (fun K' hK => ?_); go_simp; refine (is_w q39 (HT.out.2.2.2.2.1.keep hB) (fits_le hY (by decide))).mono ?_; rintro e w1 ⟨rfl, hb⟩; exact hK _ _ ⟨_, rfl, hb, cst_ok⟩
          apply RegW.val 42 rfl
          · intro a w' hF hB hd; have v34 : a.tmps[142]?.getD undef = _ := hd 34 (of_decide_eq_true (by kernel_rfl)) 7 _ _ rfl rfl; have v41 : a.tmps[149]?.getD undef = _ := hd 41 (of_decide_eq_true (by kernel_rfl)) 0 _ _ rfl rfl; clear hd hF; refine wpOp_step rfl (fun K' hK => ?_); go_simp; exact hK _ _ ⟨_, rfl, Below.refl _ _, cst_ok⟩
          apply RegW.val 43 rfl
          · intro a w' hF hB hd; have v42 : a.tmps[150]?.getD undef = _ := hd 42 (of_decide_eq_true (by kernel_rfl)) 0 _ _ rfl rfl; clear hd hF; refine wpOp_step rfl (fun K' hK => ?_); go_simp; exact hK _ _ ⟨_, rfl, Below.refl _ _, cst_ok⟩
          apply RegW.val 44 rfl
          · intro a w' hF hB hd; have v43 : a.tmps[151]?.getD undef = _ := hd 43 (of_decide_eq_true (by kernel_rfl)) 0 _ _ rfl rfl; have gd := tmp_bool v43; clear hd hF; refine wpOp_step rfl (fun K' hK => ?_); go_simp; refine (works_c _).mono ?_; rintro e w1 ⟨rfl, hb⟩; exact hK _ _ ⟨_, rfl, hb, cst_ok⟩
          apply RegW.val 45 rfl
          · intro a w' hF hB hd; have v43 : a.tmps[151]?.getD undef = _ := hd 43 (of_decide_eq_true (by kernel_rfl)) 1 _ _ rfl rfl; have v44 : a.tmps[152]?.getD undef = _ := hd 44 (of_decide_eq_true (by kernel_rfl)) 0 _ _ rfl rfl; clear hd hF; refine wpOp_step rfl (fun K' hK => ?_); go_simp; exact hK _ _ ⟨_, rfl, Below.refl _ _, cst_ok⟩
          apply RegW.val 46 rfl
          · intro a w' hF hB hd; have v45 : a.tmps[153]?.getD undef = _ := hd 45 (of_decide_eq_true (by kernel_rfl)) 0 _ _ rfl rfl; clear hd hF; refine wpOp_step rfl (fun K' hK => ?_); go_simp; exact hK _ _ ⟨_, rfl, Below.refl _ _, cst_ok⟩
          refine RegW.done (fun a w' hF hB hv => ?_)
          have u0 := hv 46 _ _ rfl
          obtain ⟨x0, p0, q0⟩ := u0
          have u1 := hv 45 _ _ rfl
          obtain ⟨x1, p1, q1⟩ := u1
          have v2 : a.tmps[110]?.getD undef = _ := hv 44 _ _ rfl
          have v3 : a.tmps[111]?.getD undef = _ := hv 43 _ _ rfl
          have v4 : a.tmps[112]?.getD undef = _ := hv 42 _ _ rfl
          have v5 : a.tmps[113]?.getD undef = _ := hv 41 _ _ rfl
          have v6 : a.tmps[114]?.getD undef = _ := hv 40 _ _ rfl
          have v7 : a.tmps[115]?.getD undef = _ := hv 39 _ _ rfl
          have u8 := hv 38 _ _ rfl
          obtain ⟨x8, p8, q8⟩ := u8
          have u9 := hv 37 _ _ rfl
          obtain ⟨x9, p9, q9⟩ := u9
          have v10 : a.tmps[118]?.getD undef = _ := hv 36 _ _ rfl
          have v11 : a.tmps[119]?.getD undef = _ := hv 35 _ _ rfl
          have v12 : a.tmps[120]?.getD undef = _ := hv 34 _ _ rfl
          have v13 : a.tmps[121]?.getD undef = _ := hv 33 _ _ rfl
          have v14 : a.tmps[122]?.getD undef = _ := hv 32 _ _ rfl
          have v15 : a.tmps[123]?.getD undef = _ := hv 31 _ _ rfl
          have v16 : a.tmps[124]?.getD undef = _ := hv 30 _ _ rfl
          have u17 := hv 29 _ _ rfl
          obtain ⟨x17, p17, q17⟩ := u17
          have u18 := hv 28 _ _ rfl
          obtain ⟨x18, p18, q18⟩ := u18
          have v19 : a.tmps[127]?.getD undef = _ := hv 27 _ _ rfl
          have v20 : a.tmps[128]?.getD undef = _ := hv 26 _ _ rfl
          have v21 : a.tmps[129]?.getD undef = _ := hv 25 _ _ rfl
          have v22 : a.tmps[130]?.getD undef = _ := hv 24 _ _ rfl
          have u23 := hv 23 _ _ rfl
          obtain ⟨x23, p23, q23⟩ := u23
          have u24 := hv 22 _ _ rfl
          obtain ⟨x24, p24, q24⟩ := u24
          have u25 := hv 21 _ _ rfl
          obtain ⟨A25, c25, p25, q25⟩ := u25
          have u26 := hv 20 _ _ rfl
          obtain ⟨x26, p26, q26⟩ := u26
          have v27 : a.tmps[135]?.getD undef = _ := hv 19 _ _ rfl
          have v28 : a.tmps[136]?.getD undef = _ := hv 18 _ _ rfl
          have v29 : a.tmps[137]?.getD undef = _ := hv 17 _ _ rfl
          have v30 : a.tmps[138]?.getD undef = _ := hv 16 _ _ rfl
          have u31 := hv 15 _ _ rfl
          obtain ⟨x31, p31, q31⟩ := u31
          have v32 : a.tmps[140]?.getD undef = _ := hv 14 _ _ rfl
          have v33 : a.tmps[141]?.getD undef = _ := hv 13 _ _ rfl
          have v34 : a.tmps[142]?.getD undef = _ := hv 12 _ _ rfl
          have u35 := hv 11 _ _ rfl
          obtain ⟨x35, p35, q35⟩ := u35
          have u36 := hv 10 _ _ rfl
          obtain ⟨x36, p36, q36⟩ := u36
          have u37 := hv 9 _ _ rfl
          obtain ⟨x37, p37, q37⟩ := u37
          have u38 := hv 8 _ _ rfl
          obtain ⟨A38, c38, p38, q38⟩ := u38
          have u39 := hv 7 _ _ rfl
          obtain ⟨x39, p39, q39⟩ := u39
          have v40 : a.tmps[148]?.getD undef = _ := hv 6 _ _ rfl
          have v41 : a.tmps[149]?.getD undef = _ := hv 5 _ _ rfl
          have v42 : a.tmps[150]?.getD undef = _ := hv 4 _ _ rfl
          have v43 : a.tmps[151]?.getD undef = _ := hv 3 _ _ rfl
          have v44 : a.tmps[152]?.getD undef = _ := hv 2 _ _ rfl
          have v45 : a.tmps[153]?.getD undef = _ := hv 1 _ _ rfl
          have v46 : a.tmps[6]?.getD undef = _ := hv 0 _ _ rfl
          have hE := hF.out
          rw [hE]
          clear hE hF hv
          simp only [List.foldl_cons, List.foldl_nil, Act.put, List.setIfInBounds_toArray, List.set_cons_zero, List.set_cons_succ, Array.getD_eq_getD_getElem?, p0, p1, v2, v3, v4, v5, v6, v7, p8, p9, v10, v11, v12, v13, v14, v15, v16, p17, p18, v19, v20, v21, v22, p23, p24, p25, p26, v27, v28, v29, v30, p31, v32, v33, v34, p35, p36, p37, p38, p39, v40, v41, v42, v43, v44, v45, v46]
          clear p0 p1 v2 v3 v4 v5 v6 v7 p8 p9 v10 v11 v12 v13 v14 v15 v16 p17 p18 v19 v20 v21 v22 p23 p24 p25 p26 v27 v28 v29 v30 p31 v32 v33 v34 p35 p36 p37 p38 p39 v40 v41 v42 v43 v44 v45 v46
          have hE0 := hB
          clear hB
          go_wp2_with fail
          go_ret
          exact ⟨rfl, HT.out.2.2.2.2.2.trans (hE0.mono HT.out.2.2.2.2.2.size)⟩
end Go.Proofs.Ytdocpljgollcaaa
