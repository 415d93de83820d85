/- Read and ReadFault, and the document's, walked. -/
import Derived.Test.YtjocobfabdkadaaPread
import Derived.Deep.QuietTactic
import Derived.BigQuiet
namespace Go.Proofs.Ytjocobfabdkadaa
open Go.RowKit
attribute [local go_sem] alloc_drewN setCell_drewN
theorem ext_le {s : ByteArray} {a b n : Nat} (h : s.size ≤ n) : (s.extract a b).size ≤ n := by
  rw [ByteArray.size_extract]
  omega
theorem whole_w2 {s : ByteArray} {v : Int} {b : Bool} {w : World} (hs : s.size ≤ 1000) (hv : pwv (bys s) = v) (hb : decide (pwe (bys s) = 0) = b) :
    Calls Try.prog 35 #[.string s] w fun e w' => e = .returned (.tuple #[.int .i64 v, .bool b]) ∧ Below w.heap.size w w' := by
  subst hv hb
  exact whole_b s w hs
theorem rWhole_w2 {s : ByteArray} {v g : Int} {w : World} (hs : s.size ≤ 60) (hv : pwv (bys s) = v) (hg : pwe (bys s) = g) :
    Calls Try.prog 37 #[.string s] w fun e w' => e = .returned (.tuple #[.int .i64 v, .int .i64 g]) ∧ Below w.heap.size w w' := by
  subst hv hg
  exact refParseWhole_c s w hs
set_option maxRecDepth 100000 in
set_option maxHeartbeats 4000000 in
theorem rCut_some (s : ByteArray) (c o : Nat) (w : World) (hs : s.size ≤ 1000) (ho : (bys s)[o]? = some c) (hn : ∀ k : Nat, k < o → (bys s)[k]? ≠ some c) :
    Calls Try.prog 36 #[.string s, .int .u8 c] w fun e w' => e = .returned (.tuple #[.string (s.extract 0 o), .string (s.extract (o + 1) s.size), .bool true]) ∧ Below w.heap.size w w' := by
  have hos : o < s.size := by have := (List.getElem?_eq_some_iff.1 ho).1; rwa [bys_len] at this
  have HN := Lib.hid (And.intro ho hn)
  clear ho hn
  go_enter Try.func36, Try.ntmps36
  go_wp2_with fail
  go_loop [7] (fun v => ∃ i : Nat, v = .int .i64 i ∧ i ≤ o) (fun v => s.size - (intOf v).toNat)
  case atStart => exact ⟨0, rfl, Nat.zero_le _⟩
  case round =>
    obtain ⟨i, rfl, hi⟩ := hrel
    have his : i < s.size := by omega
    have g1 : decide ((i : Int) < (s.size : Int)) = true := by simp; omega
    have hx := bys_at his
    by_cases hio : i = o
    · subst hio
      rw [HN.out.1] at hx
      have g2 : (((s[i]'his).toNat : Int) == (c : Int)) = true := by have := Option.some.inj hx; simp; omega
      have g3 : ((s[i]'his).toNat == c) = true := by have := Option.some.inj hx; simp; omega
      clear hx
      go_upto_region 5 with fail
      have e1 : IntKind.i64.wrap ((i : Int) + 1) = (i : Int) + 1 := IntWalk.i64_in _ (by omega)
      have e2 : (0 : Int) ≤ (i : Int) + 1 := by omega
      have e3 : ((i : Int) + 1).toNat = i + 1 := by omega
      have e4 : (i : Int) + 1 ≤ (s.size : Int) := by omega
      have e5 : (i : Int) ≤ (s.size : Int) := by omega
      clear g2 g3 hi
      go_quiet (fail)
      clear e1 e2 e3 e4 e5
      go_wp2_with fail
      go_ret3
      exact ⟨rfl, below_drewN (Below.refl _ _) _⟩
    · have hne : (s[i]'his).toNat ≠ c := fun e => HN.out.2 i (by omega) (by rw [hx, e])
      have g2 : (((s[i]'his).toNat : Int) == (c : Int)) = false := beq_false_of_ne (by omega)
      have g3 : ((s[i]'his).toNat == c) = false := beq_false_of_ne hne
      have HX := Lib.hid hne
      clear hx hne
      go_wp2_with fail
      go_round
      case rel => exact ⟨i + 1, by go_num, by omega⟩
      case measure => simp [intOf]; omega
set_option maxRecDepth 100000 in
set_option maxHeartbeats 4000000 in
theorem rCut_none (s : ByteArray) (c : Nat) (w : World) (hs : s.size ≤ 1000) (hn : ∀ k : Nat, (bys s)[k]? ≠ some c) :
    Calls Try.prog 36 #[.string s, .int .u8 c] w fun e w' => e = .returned (.tuple #[.string ⟨#[]⟩, .string ⟨#[]⟩, .bool false]) ∧ w = w' := by
  have HN := Lib.hid hn
  clear hn
  go_enter Try.func36, Try.ntmps36
  go_wp2_with fail
  go_loop [7] (fun v => ∃ i : Nat, v = .int .i64 i ∧ i ≤ s.size) (fun v => s.size - (intOf v).toNat)
  case atStart => exact ⟨0, rfl, Nat.zero_le _⟩
  case round =>
    obtain ⟨i, rfl, hi⟩ := hrel
    by_cases his : i < s.size
    · have g1 : decide ((i : Int) < (s.size : Int)) = true := by simp; omega
      have hx := bys_at his
      have hne : (s[i]'his).toNat ≠ c := fun e => HN.out i (by rw [hx, e])
      have g2 : (((s[i]'his).toNat : Int) == (c : Int)) = false := beq_false_of_ne (by omega)
      have g3 : ((s[i]'his).toNat == c) = false := beq_false_of_ne hne
      clear hx hne
      go_wp2_with fail
      go_round
      case rel => exact ⟨i + 1, by go_num, by omega⟩
      case measure => simp [intOf]; omega
    · have g1 : decide ((i : Int) < (s.size : Int)) = false := by simp; omega
      go_wp2_with fail
      go_ret3
      exact ⟨rfl, rfl⟩
set_option maxRecDepth 100000 in
set_option maxHeartbeats 8000000 in
theorem read_c (s : ByteArray) (w : World) (hs : s.size ≤ 1000) : Calls Try.prog 21 #[.string s] w (RdOk (bys s) w) := by
  have hlen := Lib.hid (bys_len s)
  have HR := Lib.hid (And.intro (Bk.new w 23 #[.int .i64 0, .int .i64 0]) (below_box w (.cells #[.int .i64 0, .int .i64 0] 23)))
  rcases fstAt_byte s 58 with ⟨h1, h2⟩ | ⟨o, h1, h2, h3⟩
  · have HV := Lib.hid (And.intro h1 (And.intro h2 (rdP_none (cutB_none h2))))
    clear h1 h2
    go_enter Try.func21, Try.ntmps21
    go_wp2_with (go_at_call 34; refine (cut_none s 58 _ HV.out.1).mono ?_; rintro e w1 ⟨rfl, hb⟩; have hk := HR.out.1.keep hb; have HR := Lib.hid (And.intro hk (HR.out.2.trans (hb.mono HR.out.2.size))); clear hb hk; have z0 := HR.out.1.lt; have c0 := HR.out.1.cell 0; have f0 := HR.out.1.frozen 0; have c1 := HR.out.1.cell 1; have f1 := HR.out.1.frozen 1; simp at c0 c1)
    refine bodyPost_ret (v := .tuple #[.agg #[.int .i64 0, .int .i64 0], .bool false]) (by simp [results, Try.results21, go_sem, z0, c0, f0, c1, f1]) rfl ?_
    exact RdOk.no HV.out.2.2 ((HR.out.2.setCell (by simp) _).setCell (by simp) _)
  · have hos : o < s.size := by have := (List.getElem?_eq_some_iff.1 h2).1; rwa [hlen.out] at this
    have hc := cutB_some h2 h3
    obtain ⟨a, ha⟩ : ∃ a, pwv (bys (s.extract 0 o)) = a := ⟨_, rfl⟩
    obtain ⟨b, hb⟩ : ∃ b, pwv (bys (s.extract (o + 1) s.size)) = b := ⟨_, rfl⟩
    obtain ⟨fa, hfa⟩ : ∃ fa, pwe (bys (s.extract 0 o)) = fa := ⟨_, rfl⟩
    obtain ⟨fb, hfb⟩ : ∃ fb, pwe (bys (s.extract (o + 1) s.size)) = fb := ⟨_, rfl⟩
    have hr : rdP (bys s) = if fa = 0 ∧ fb = 0 then some (a, b) else none := by rw [rdP_some hc, ← bys_to, ← bys_on, ha, hb, hfa, hfb]
    have HV := Lib.hid (And.intro h1 (And.intro h2 (And.intro h3 (And.intro ha (And.intro hb (And.intro hfa (And.intro hfb hr)))))))
    clear h1 h2 h3 hc ha hb hfb hr hfa
    by_cases hx : fa = 0
    · subst hx
      by_cases hy : fb = 0
      · subst hy
        go_enter Try.func21, Try.ntmps21
        go_upto_region 6 with (first
          | (go_at_call 34; refine (cut_some s 58 o _ (by omega) hos HV.out.1).mono ?_; rintro e w1 ⟨rfl, hb⟩; have hk := HR.out.1.keep hb; have HR := Lib.hid (And.intro hk (HR.out.2.trans (hb.mono HR.out.2.size))); clear hb hk)
          | (go_at_call_of 35 (Value.string (s.extract 0 o)); refine (whole_w2 (ext_le (by omega)) HV.out.2.2.2.1 (show _ = true by rw [HV.out.2.2.2.2.2.1]; rfl)).mono ?_; rintro e w2 ⟨rfl, hb⟩; have hk := HR.out.1.keep hb; have HR := Lib.hid (And.intro hk (HR.out.2.trans (hb.mono HR.out.2.size))); clear hb hk)
          | (go_at_call 35; refine (whole_w2 (ext_le (by omega)) HV.out.2.2.2.2.1 (show _ = true by rw [HV.out.2.2.2.2.2.2.1]; rfl)).mono ?_; rintro e w2 ⟨rfl, hb⟩; have hk := HR.out.1.keep hb; have HR := Lib.hid (And.intro hk (HR.out.2.trans (hb.mono HR.out.2.size))); clear hb hk))
        have z0 := HR.out.1.lt
        have c0 := HR.out.1.cell 0
        have f0 := HR.out.1.frozen 0
        have c1 := HR.out.1.cell 1
        have f1 := HR.out.1.frozen 1
        simp at c0 c1
        go_wp2_with fail
        refine bodyPost_ret (v := .tuple #[.agg #[.int .i64 a, .int .i64 b], .bool true]) (by simp [results, Try.results21, go_sem, z0, c0, f0, c1, f1]) rfl ?_
        exact RdOk.yes (by rw [HV.out.2.2.2.2.2.2.2]; simp) ((HR.out.2.setCell (by simp) _).setCell (by simp) _)
      · have hy1 : (fb != 0) = true := by simpa using hy
        have HY := Lib.hid hy
        clear hy
        go_enter Try.func21, Try.ntmps21
        go_upto_region 6 with (first
          | (go_at_call 34; refine (cut_some s 58 o _ (by omega) hos HV.out.1).mono ?_; rintro e w1 ⟨rfl, hb⟩; have hk := HR.out.1.keep hb; have HR := Lib.hid (And.intro hk (HR.out.2.trans (hb.mono HR.out.2.size))); clear hb hk)
          | (go_at_call_of 35 (Value.string (s.extract 0 o)); refine (whole_w2 (ext_le (by omega)) HV.out.2.2.2.1 (show _ = true by rw [HV.out.2.2.2.2.2.1]; rfl)).mono ?_; rintro e w2 ⟨rfl, hb⟩; have hk := HR.out.1.keep hb; have HR := Lib.hid (And.intro hk (HR.out.2.trans (hb.mono HR.out.2.size))); clear hb hk)
          | (go_at_call 35; refine (whole_w2 (ext_le (by omega)) HV.out.2.2.2.2.1 (show _ = false by rw [HV.out.2.2.2.2.2.2.1]; exact decide_eq_false HY.out)).mono ?_; rintro e w2 ⟨rfl, hb⟩; have hk := HR.out.1.keep hb; have HR := Lib.hid (And.intro hk (HR.out.2.trans (hb.mono HR.out.2.size))); clear hb hk))
        have z0 := HR.out.1.lt
        have c0 := HR.out.1.cell 0
        have f0 := HR.out.1.frozen 0
        have c1 := HR.out.1.cell 1
        have f1 := HR.out.1.frozen 1
        simp at c0 c1
        go_wp2_with fail
        refine bodyPost_ret (v := .tuple #[.agg #[.int .i64 0, .int .i64 0], .bool false]) (by simp [results, Try.results21, go_sem, z0, c0, f0, c1, f1]) rfl ?_
        exact RdOk.no (by rw [HV.out.2.2.2.2.2.2.2]; simp [HY.out]) ((HR.out.2.setCell (by simp) _).setCell (by simp) _)
    · have hx1 : (fa != 0) = true := by simpa using hx
      have HX := Lib.hid hx
      clear hx
      by_cases hy : fb = 0
      · subst hy
        go_enter Try.func21, Try.ntmps21
        go_upto_region 6 with (first
          | (go_at_call 34; refine (cut_some s 58 o _ (by omega) hos HV.out.1).mono ?_; rintro e w1 ⟨rfl, hb⟩; have hk := HR.out.1.keep hb; have HR := Lib.hid (And.intro hk (HR.out.2.trans (hb.mono HR.out.2.size))); clear hb hk)
          | (go_at_call_of 35 (Value.string (s.extract 0 o)); refine (whole_w2 (ext_le (by omega)) HV.out.2.2.2.1 (show _ = false by rw [HV.out.2.2.2.2.2.1]; exact decide_eq_false HX.out)).mono ?_; rintro e w2 ⟨rfl, hb⟩; have hk := HR.out.1.keep hb; have HR := Lib.hid (And.intro hk (HR.out.2.trans (hb.mono HR.out.2.size))); clear hb hk)
          | (go_at_call 35; refine (whole_w2 (ext_le (by omega)) HV.out.2.2.2.2.1 (show _ = true by rw [HV.out.2.2.2.2.2.2.1]; rfl)).mono ?_; rintro e w2 ⟨rfl, hb⟩; have hk := HR.out.1.keep hb; have HR := Lib.hid (And.intro hk (HR.out.2.trans (hb.mono HR.out.2.size))); clear hb hk))
        have z0 := HR.out.1.lt
        have c0 := HR.out.1.cell 0
        have f0 := HR.out.1.frozen 0
        have c1 := HR.out.1.cell 1
        have f1 := HR.out.1.frozen 1
        simp at c0 c1
        go_wp2_with fail
        refine bodyPost_ret (v := .tuple #[.agg #[.int .i64 0, .int .i64 0], .bool false]) (by simp [results, Try.results21, go_sem, z0, c0, f0, c1, f1]) rfl ?_
        exact RdOk.no (by rw [HV.out.2.2.2.2.2.2.2]; simp [HX.out]) ((HR.out.2.setCell (by simp) _).setCell (by simp) _)
      · have hy1 : (fb != 0) = true := by simpa using hy
        have HY := Lib.hid hy
        clear hy
        go_enter Try.func21, Try.ntmps21
        go_upto_region 6 with (first
          | (go_at_call 34; refine (cut_some s 58 o _ (by omega) hos HV.out.1).mono ?_; rintro e w1 ⟨rfl, hb⟩; have hk := HR.out.1.keep hb; have HR := Lib.hid (And.intro hk (HR.out.2.trans (hb.mono HR.out.2.size))); clear hb hk)
          | (go_at_call_of 35 (Value.string (s.extract 0 o)); refine (whole_w2 (ext_le (by omega)) HV.out.2.2.2.1 (show _ = false by rw [HV.out.2.2.2.2.2.1]; exact decide_eq_false HX.out)).mono ?_; rintro e w2 ⟨rfl, hb⟩; have hk := HR.out.1.keep hb; have HR := Lib.hid (And.intro hk (HR.out.2.trans (hb.mono HR.out.2.size))); clear hb hk)
          | (go_at_call 35; refine (whole_w2 (ext_le (by omega)) HV.out.2.2.2.2.1 (show _ = false by rw [HV.out.2.2.2.2.2.2.1]; exact decide_eq_false HY.out)).mono ?_; rintro e w2 ⟨rfl, hb⟩; have hk := HR.out.1.keep hb; have HR := Lib.hid (And.intro hk (HR.out.2.trans (hb.mono HR.out.2.size))); clear hb hk))
        have z0 := HR.out.1.lt
        have c0 := HR.out.1.cell 0
        have f0 := HR.out.1.frozen 0
        have c1 := HR.out.1.cell 1
        have f1 := HR.out.1.frozen 1
        simp at c0 c1
        go_wp2_with fail
        refine bodyPost_ret (v := .tuple #[.agg #[.int .i64 0, .int .i64 0], .bool false]) (by simp [results, Try.results21, go_sem, z0, c0, f0, c1, f1]) rfl ?_
        exact RdOk.no (by rw [HV.out.2.2.2.2.2.2.2]; simp [HX.out]) ((HR.out.2.setCell (by simp) _).setCell (by simp) _)
set_option maxRecDepth 100000 in
set_option maxHeartbeats 8000000 in
theorem rRead_c (s : ByteArray) (w : World) (hs : s.size ≤ 60) : Calls Try.prog 22 #[.string s] w (RdOk (bys s) w) := by
  have hlen := Lib.hid (bys_len s)
  have HR := Lib.hid (And.intro (Bk.new w 27 #[.int .i64 0, .int .i64 0]) (below_box w (.cells #[.int .i64 0, .int .i64 0] 27)))
  rcases fstAt_byte s 58 with ⟨h1, h2⟩ | ⟨o, h1, h2, h3⟩
  · have HV := Lib.hid (And.intro h1 (And.intro h2 (rdP_none (cutB_none h2))))
    clear h1 h2
    go_enter Try.func22, Try.ntmps22
    go_upto_region 4 with (first
      | (go_at_call 36; refine (rCut_none s 58 _ (by omega) HV.out.2.1).mono ?_; rintro e w1 ⟨rfl, rfl⟩)
      | (go_at_call 37; refine (rWhole_w2 (by decide) (show pwv (bys ⟨#[]⟩) = 0 by decide) (show pwe (bys ⟨#[]⟩) = 20 by decide)).mono ?_; rintro e w2 ⟨rfl, hb⟩; have hk := HR.out.1.keep hb; have HR := Lib.hid (And.intro hk (HR.out.2.trans (hb.mono HR.out.2.size))); clear hb hk))
    have z0 := HR.out.1.lt
    have c0 := HR.out.1.cell 0
    have f0 := HR.out.1.frozen 0
    have c1 := HR.out.1.cell 1
    have f1 := HR.out.1.frozen 1
    simp at c0 c1
    go_wp2_with fail
    refine bodyPost_ret (v := .tuple #[.agg #[.int .i64 0, .int .i64 0], .bool false]) (by simp [results, Try.results22, go_sem, z0, c0, f0, c1, f1]) rfl ?_
    exact RdOk.no HV.out.2.2 ((HR.out.2.setCell (by simp) _).setCell (by simp) _)
  · have hos : o < s.size := by have := (List.getElem?_eq_some_iff.1 h2).1; rwa [hlen.out] at this
    have hc := cutB_some h2 h3
    obtain ⟨a, ha⟩ : ∃ a, pwv (bys (s.extract 0 o)) = a := ⟨_, rfl⟩
    obtain ⟨b, hb⟩ : ∃ b, pwv (bys (s.extract (o + 1) s.size)) = b := ⟨_, rfl⟩
    obtain ⟨fa, hfa⟩ : ∃ fa, pwe (bys (s.extract 0 o)) = fa := ⟨_, rfl⟩
    obtain ⟨fb, hfb⟩ : ∃ fb, pwe (bys (s.extract (o + 1) s.size)) = fb := ⟨_, rfl⟩
    have hr : rdP (bys s) = if fa = 0 ∧ fb = 0 then some (a, b) else none := by rw [rdP_some hc, ← bys_to, ← bys_on, ha, hb, hfa, hfb]
    have HV := Lib.hid (And.intro h1 (And.intro h2 (And.intro h3 (And.intro ha (And.intro hb (And.intro hfa (And.intro hfb hr)))))))
    clear h1 h2 h3 hc ha hb hfb hr hfa
    by_cases hx : fa = 0
    · subst hx
      by_cases hy : fb = 0
      · subst hy
        go_enter Try.func22, Try.ntmps22
        go_upto_region 4 with (first
          | (go_at_call 36; refine (rCut_some s 58 o _ (by omega) HV.out.2.1 HV.out.2.2.1).mono ?_; rintro e w1 ⟨rfl, hb⟩; have hk := HR.out.1.keep hb; have HR := Lib.hid (And.intro hk (HR.out.2.trans (hb.mono HR.out.2.size))); clear hb hk)
          | (go_at_call_of 37 (Value.string (s.extract 0 o)); refine (rWhole_w2 (ext_le (by omega)) HV.out.2.2.2.1 HV.out.2.2.2.2.2.1).mono ?_; rintro e w2 ⟨rfl, hb⟩; have hk := HR.out.1.keep hb; have HR := Lib.hid (And.intro hk (HR.out.2.trans (hb.mono HR.out.2.size))); clear hb hk)
          | (go_at_call 37; refine (rWhole_w2 (ext_le (by omega)) HV.out.2.2.2.2.1 HV.out.2.2.2.2.2.2.1).mono ?_; rintro e w2 ⟨rfl, hb⟩; have hk := HR.out.1.keep hb; have HR := Lib.hid (And.intro hk (HR.out.2.trans (hb.mono HR.out.2.size))); clear hb hk))
        have z0 := HR.out.1.lt
        have c0 := HR.out.1.cell 0
        have f0 := HR.out.1.frozen 0
        have c1 := HR.out.1.cell 1
        have f1 := HR.out.1.frozen 1
        simp at c0 c1
        go_wp2_with fail
        refine bodyPost_ret (v := .tuple #[.agg #[.int .i64 a, .int .i64 b], .bool true]) (by simp [results, Try.results22, go_sem, z0, c0, f0, c1, f1]) rfl ?_
        exact RdOk.yes (by rw [HV.out.2.2.2.2.2.2.2]; simp) ((HR.out.2.setCell (by simp) _).setCell (by simp) _)
      · have hy1 : (fb != 0) = true := by simpa using hy
        have HY := Lib.hid hy
        clear hy
        go_enter Try.func22, Try.ntmps22
        go_upto_region 4 with (first
          | (go_at_call 36; refine (rCut_some s 58 o _ (by omega) HV.out.2.1 HV.out.2.2.1).mono ?_; rintro e w1 ⟨rfl, hb⟩; have hk := HR.out.1.keep hb; have HR := Lib.hid (And.intro hk (HR.out.2.trans (hb.mono HR.out.2.size))); clear hb hk)
          | (go_at_call_of 37 (Value.string (s.extract 0 o)); refine (rWhole_w2 (ext_le (by omega)) HV.out.2.2.2.1 HV.out.2.2.2.2.2.1).mono ?_; rintro e w2 ⟨rfl, hb⟩; have hk := HR.out.1.keep hb; have HR := Lib.hid (And.intro hk (HR.out.2.trans (hb.mono HR.out.2.size))); clear hb hk)
          | (go_at_call 37; refine (rWhole_w2 (ext_le (by omega)) HV.out.2.2.2.2.1 HV.out.2.2.2.2.2.2.1).mono ?_; rintro e w2 ⟨rfl, hb⟩; have hk := HR.out.1.keep hb; have HR := Lib.hid (And.intro hk (HR.out.2.trans (hb.mono HR.out.2.size))); clear hb hk))
        have z0 := HR.out.1.lt
        have c0 := HR.out.1.cell 0
        have f0 := HR.out.1.frozen 0
        have c1 := HR.out.1.cell 1
        have f1 := HR.out.1.frozen 1
        simp at c0 c1
        go_wp2_with fail
        refine bodyPost_ret (v := .tuple #[.agg #[.int .i64 0, .int .i64 0], .bool false]) (by simp [results, Try.results22, go_sem, z0, c0, f0, c1, f1]) rfl ?_
        exact RdOk.no (by rw [HV.out.2.2.2.2.2.2.2]; simp [HY.out]) ((HR.out.2.setCell (by simp) _).setCell (by simp) _)
    · have hx1 : (fa != 0) = true := by simpa using hx
      have HX := Lib.hid hx
      clear hx
      by_cases hy : fb = 0
      · subst hy
        go_enter Try.func22, Try.ntmps22
        go_upto_region 4 with (first
          | (go_at_call 36; refine (rCut_some s 58 o _ (by omega) HV.out.2.1 HV.out.2.2.1).mono ?_; rintro e w1 ⟨rfl, hb⟩; have hk := HR.out.1.keep hb; have HR := Lib.hid (And.intro hk (HR.out.2.trans (hb.mono HR.out.2.size))); clear hb hk)
          | (go_at_call_of 37 (Value.string (s.extract 0 o)); refine (rWhole_w2 (ext_le (by omega)) HV.out.2.2.2.1 HV.out.2.2.2.2.2.1).mono ?_; rintro e w2 ⟨rfl, hb⟩; have hk := HR.out.1.keep hb; have HR := Lib.hid (And.intro hk (HR.out.2.trans (hb.mono HR.out.2.size))); clear hb hk)
          | (go_at_call 37; refine (rWhole_w2 (ext_le (by omega)) HV.out.2.2.2.2.1 HV.out.2.2.2.2.2.2.1).mono ?_; rintro e w2 ⟨rfl, hb⟩; have hk := HR.out.1.keep hb; have HR := Lib.hid (And.intro hk (HR.out.2.trans (hb.mono HR.out.2.size))); clear hb hk))
        have z0 := HR.out.1.lt
        have c0 := HR.out.1.cell 0
        have f0 := HR.out.1.frozen 0
        have c1 := HR.out.1.cell 1
        have f1 := HR.out.1.frozen 1
        simp at c0 c1
        go_wp2_with fail
        refine bodyPost_ret (v := .tuple #[.agg #[.int .i64 0, .int .i64 0], .bool false]) (by simp [results, Try.results22, go_sem, z0, c0, f0, c1, f1]) rfl ?_
        exact RdOk.no (by rw [HV.out.2.2.2.2.2.2.2]; simp [HX.out]) ((HR.out.2.setCell (by simp) _).setCell (by simp) _)
      · have hy1 : (fb != 0) = true := by simpa using hy
        have HY := Lib.hid hy
        clear hy
        go_enter Try.func22, Try.ntmps22
        go_upto_region 4 with (first
          | (go_at_call 36; refine (rCut_some s 58 o _ (by omega) HV.out.2.1 HV.out.2.2.1).mono ?_; rintro e w1 ⟨rfl, hb⟩; have hk := HR.out.1.keep hb; have HR := Lib.hid (And.intro hk (HR.out.2.trans (hb.mono HR.out.2.size))); clear hb hk)
          | (go_at_call_of 37 (Value.string (s.extract 0 o)); refine (rWhole_w2 (ext_le (by omega)) HV.out.2.2.2.1 HV.out.2.2.2.2.2.1).mono ?_; rintro e w2 ⟨rfl, hb⟩; have hk := HR.out.1.keep hb; have HR := Lib.hid (And.intro hk (HR.out.2.trans (hb.mono HR.out.2.size))); clear hb hk)
          | (go_at_call 37; refine (rWhole_w2 (ext_le (by omega)) HV.out.2.2.2.2.1 HV.out.2.2.2.2.2.2.1).mono ?_; rintro e w2 ⟨rfl, hb⟩; have hk := HR.out.1.keep hb; have HR := Lib.hid (And.intro hk (HR.out.2.trans (hb.mono HR.out.2.size))); clear hb hk))
        have z0 := HR.out.1.lt
        have c0 := HR.out.1.cell 0
        have f0 := HR.out.1.frozen 0
        have c1 := HR.out.1.cell 1
        have f1 := HR.out.1.frozen 1
        simp at c0 c1
        go_wp2_with fail
        refine bodyPost_ret (v := .tuple #[.agg #[.int .i64 0, .int .i64 0], .bool false]) (by simp [results, Try.results22, go_sem, z0, c0, f0, c1, f1]) rfl ?_
        exact RdOk.no (by rw [HV.out.2.2.2.2.2.2.2]; simp [HX.out]) ((HR.out.2.setCell (by simp) _).setCell (by simp) _)
set_option maxRecDepth 100000 in
set_option maxHeartbeats 8000000 in
theorem readFault_c (s : ByteArray) (w : World) (hs : s.size ≤ 1000) : Calls Try.prog 23 #[.string s] w (RfOk (bys s) w) := by
  have hlen := Lib.hid (bys_len s)
  have HR := Lib.hid (And.intro (Bk.new w 45 #[.int .i64 0, .int .i64 0, .int .i64 0]) (below_box w (.cells #[.int .i64 0, .int .i64 0, .int .i64 0] 45)))
  rcases fstAt_byte s 32 with ⟨h1, h2⟩ | ⟨o, h1, h2, h3⟩
  · have HV := Lib.hid (And.intro h1 (And.intro h2 (rdF_none (cutB_none h2))))
    clear h1 h2
    go_enter Try.func23, Try.ntmps23
    go_wp2_with (go_at_call 34; refine (cut_none s 32 _ HV.out.1).mono ?_; rintro e w1 ⟨rfl, hb⟩; have hk := HR.out.1.keep hb; have HR := Lib.hid (And.intro hk (HR.out.2.trans (hb.mono HR.out.2.size))); clear hb hk; have z0 := HR.out.1.lt; have c0 := HR.out.1.cell 0; have f0 := HR.out.1.frozen 0; have c1 := HR.out.1.cell 1; have f1 := HR.out.1.frozen 1; have c2 := HR.out.1.cell 2; have f2 := HR.out.1.frozen 2; simp at c0 c1 c2)
    refine bodyPost_ret (v := .tuple #[.agg #[.int .i64 0, .int .i64 0, .int .i64 0], .bool false]) (by simp [results, Try.results23, go_sem, z0, c0, f0, c1, f1, c2, f2]) rfl ?_
    exact RfOk.no HV.out.2.2 (((HR.out.2.setCell (by simp) _).setCell (by simp) _).setCell (by simp) _)
  · have hos : o < s.size := by have := (List.getElem?_eq_some_iff.1 h2).1; rwa [hlen.out] at this
    have hc := cutB_some h2 h3
    obtain ⟨a, ha⟩ : ∃ a, rdP (bys (s.extract 0 o)) = a := ⟨_, rfl⟩
    obtain ⟨b, hb⟩ : ∃ b, pwv (bys (s.extract (o + 1) s.size)) = b := ⟨_, rfl⟩
    obtain ⟨fb, hfb⟩ : ∃ fb, pwe (bys (s.extract (o + 1) s.size)) = fb := ⟨_, rfl⟩
    have hr : rdF (bys s) = rfOf a fb b := by rw [rdF_some hc, ← bys_to, ← bys_on, ha, hb, hfb]
    have HV := Lib.hid (And.intro h1 (And.intro h2 (And.intro h3 (And.intro ha (And.intro hb (And.intro trivial (And.intro hfb hr)))))))
    clear h1 h2 h3 hc ha hb hfb hr
    cases a with
    | some q =>
      obtain ⟨L, C⟩ := q
      by_cases hy : fb = 0
      · subst hy
        go_enter Try.func23, Try.ntmps23
        go_upto_region 5 with (first
          | (go_at_call 34; refine (cut_some s 32 o _ (by omega) hos HV.out.1).mono ?_; rintro e w1 ⟨rfl, hb⟩; have hk := HR.out.1.keep hb; have HR := Lib.hid (And.intro hk (HR.out.2.trans (hb.mono HR.out.2.size))); clear hb hk)
          | (go_at_call 21; refine (read_c _ _ (ext_le (by omega))).mono ?_; intro e w2 hx; obtain ⟨rfl, hb⟩ := RdOk.get_yes HV.out.2.2.2.1 hx; have hb := hb.trans ((below_box w2 (.cells #[.int .i64 L, .int .i64 C] 23)).mono hb.size); have HP := Lib.hid (Bk.new w2 23 #[.int .i64 L, .int .i64 C]); have hk := HR.out.1.keep hb; have HR := Lib.hid (And.intro hk (HR.out.2.trans (hb.mono HR.out.2.size))); clear hb hk hx))
        generalize hg : w2.heap.size = g7 at *
        generalize hw : w2.alloc (.cells #[.int .i64 L, .int .i64 C] 23) = z2 at *
        clear hg hw
        go_upto_region 6 with (go_at_call 35; refine (whole_w2 (ext_le (by omega)) HV.out.2.2.2.2.1 (show _ = true by rw [HV.out.2.2.2.2.2.2.1]; rfl)).mono ?_; rintro e w2 ⟨rfl, hb⟩; have HP := Lib.hid (HP.out.keep hb); have hk := HR.out.1.keep hb; have HR := Lib.hid (And.intro hk (HR.out.2.trans (hb.mono HR.out.2.size))); clear hb hk)
        have d0 := HP.out.cell 0
        have d1 := HP.out.cell 1
        have dz := HP.out.lt
        simp at d0 d1
        have z0 := HR.out.1.lt
        have c0 := HR.out.1.cell 0
        have f0 := HR.out.1.frozen 0
        have c1 := HR.out.1.cell 1
        have f1 := HR.out.1.frozen 1
        have c2 := HR.out.1.cell 2
        have f2 := HR.out.1.frozen 2
        simp at c0 c1 c2
        go_wp2_with fail
        refine bodyPost_ret (v := .tuple #[.agg #[.int .i64 L, .int .i64 C, .int .i64 b], .bool true]) (by simp [results, Try.results23, go_sem, z0, c0, f0, c1, f1, c2, f2]) rfl ?_
        exact RfOk.yes (by rw [HV.out.2.2.2.2.2.2.2]; simp [rfOf]) (((HR.out.2.setCell (by simp) _).setCell (by simp) _).setCell (by simp) _)
      · have hy1 : (fb != 0) = true := by simpa using hy
        have HY := Lib.hid hy
        clear hy
        go_enter Try.func23, Try.ntmps23
        go_upto_region 5 with (first
          | (go_at_call 34; refine (cut_some s 32 o _ (by omega) hos HV.out.1).mono ?_; rintro e w1 ⟨rfl, hb⟩; have hk := HR.out.1.keep hb; have HR := Lib.hid (And.intro hk (HR.out.2.trans (hb.mono HR.out.2.size))); clear hb hk)
          | (go_at_call 21; refine (read_c _ _ (ext_le (by omega))).mono ?_; intro e w2 hx; obtain ⟨rfl, hb⟩ := RdOk.get_yes HV.out.2.2.2.1 hx; have hb := hb.trans ((below_box w2 (.cells #[.int .i64 L, .int .i64 C] 23)).mono hb.size); have HP := Lib.hid (Bk.new w2 23 #[.int .i64 L, .int .i64 C]); have hk := HR.out.1.keep hb; have HR := Lib.hid (And.intro hk (HR.out.2.trans (hb.mono HR.out.2.size))); clear hb hk hx))
        generalize hg : w2.heap.size = g7 at *
        generalize hw : w2.alloc (.cells #[.int .i64 L, .int .i64 C] 23) = z2 at *
        clear hg hw
        go_upto_region 6 with (go_at_call 35; refine (whole_w2 (ext_le (by omega)) HV.out.2.2.2.2.1 (show _ = false by rw [HV.out.2.2.2.2.2.2.1]; exact decide_eq_false HY.out)).mono ?_; rintro e w2 ⟨rfl, hb⟩; have HP := Lib.hid (HP.out.keep hb); have hk := HR.out.1.keep hb; have HR := Lib.hid (And.intro hk (HR.out.2.trans (hb.mono HR.out.2.size))); clear hb hk)
        have d0 := HP.out.cell 0
        have d1 := HP.out.cell 1
        have dz := HP.out.lt
        simp at d0 d1
        have z0 := HR.out.1.lt
        have c0 := HR.out.1.cell 0
        have f0 := HR.out.1.frozen 0
        have c1 := HR.out.1.cell 1
        have f1 := HR.out.1.frozen 1
        have c2 := HR.out.1.cell 2
        have f2 := HR.out.1.frozen 2
        simp at c0 c1 c2
        go_wp2_with fail
        refine bodyPost_ret (v := .tuple #[.agg #[.int .i64 0, .int .i64 0, .int .i64 0], .bool false]) (by simp [results, Try.results23, go_sem, z0, c0, f0, c1, f1, c2, f2]) rfl ?_
        exact RfOk.no (by rw [HV.out.2.2.2.2.2.2.2]; simp [rfOf, HY.out]) (((HR.out.2.setCell (by simp) _).setCell (by simp) _).setCell (by simp) _)
    | none =>
      by_cases hy : fb = 0
      · subst hy
        go_enter Try.func23, Try.ntmps23
        go_upto_region 5 with (first
          | (go_at_call 34; refine (cut_some s 32 o _ (by omega) hos HV.out.1).mono ?_; rintro e w1 ⟨rfl, hb⟩; have hk := HR.out.1.keep hb; have HR := Lib.hid (And.intro hk (HR.out.2.trans (hb.mono HR.out.2.size))); clear hb hk)
          | (go_at_call 21; refine (read_c _ _ (ext_le (by omega))).mono ?_; intro e w2 hx; obtain ⟨rfl, hb⟩ := RdOk.get_no HV.out.2.2.2.1 hx; have hb := hb.trans ((below_box w2 (.cells #[.int .i64 0, .int .i64 0] 23)).mono hb.size); have HP := Lib.hid (Bk.new w2 23 #[.int .i64 0, .int .i64 0]); have hk := HR.out.1.keep hb; have HR := Lib.hid (And.intro hk (HR.out.2.trans (hb.mono HR.out.2.size))); clear hb hk hx))
        generalize hg : w2.heap.size = g7 at *
        generalize hw : w2.alloc (.cells #[.int .i64 0, .int .i64 0] 23) = z2 at *
        clear hg hw
        go_upto_region 6 with (go_at_call 35; refine (whole_w2 (ext_le (by omega)) HV.out.2.2.2.2.1 (show _ = true by rw [HV.out.2.2.2.2.2.2.1]; rfl)).mono ?_; rintro e w2 ⟨rfl, hb⟩; have HP := Lib.hid (HP.out.keep hb); have hk := HR.out.1.keep hb; have HR := Lib.hid (And.intro hk (HR.out.2.trans (hb.mono HR.out.2.size))); clear hb hk)
        have d0 := HP.out.cell 0
        have d1 := HP.out.cell 1
        have dz := HP.out.lt
        simp at d0 d1
        have z0 := HR.out.1.lt
        have c0 := HR.out.1.cell 0
        have f0 := HR.out.1.frozen 0
        have c1 := HR.out.1.cell 1
        have f1 := HR.out.1.frozen 1
        have c2 := HR.out.1.cell 2
        have f2 := HR.out.1.frozen 2
        simp at c0 c1 c2
        go_wp2_with fail
        refine bodyPost_ret (v := .tuple #[.agg #[.int .i64 0, .int .i64 0, .int .i64 0], .bool false]) (by simp [results, Try.results23, go_sem, z0, c0, f0, c1, f1, c2, f2]) rfl ?_
        exact RfOk.no (by rw [HV.out.2.2.2.2.2.2.2]; rfl) (((HR.out.2.setCell (by simp) _).setCell (by simp) _).setCell (by simp) _)
      · have hy1 : (fb != 0) = true := by simpa using hy
        have HY := Lib.hid hy
        clear hy
        go_enter Try.func23, Try.ntmps23
        go_upto_region 5 with (first
          | (go_at_call 34; refine (cut_some s 32 o _ (by omega) hos HV.out.1).mono ?_; rintro e w1 ⟨rfl, hb⟩; have hk := HR.out.1.keep hb; have HR := Lib.hid (And.intro hk (HR.out.2.trans (hb.mono HR.out.2.size))); clear hb hk)
          | (go_at_call 21; refine (read_c _ _ (ext_le (by omega))).mono ?_; intro e w2 hx; obtain ⟨rfl, hb⟩ := RdOk.get_no HV.out.2.2.2.1 hx; have hb := hb.trans ((below_box w2 (.cells #[.int .i64 0, .int .i64 0] 23)).mono hb.size); have HP := Lib.hid (Bk.new w2 23 #[.int .i64 0, .int .i64 0]); have hk := HR.out.1.keep hb; have HR := Lib.hid (And.intro hk (HR.out.2.trans (hb.mono HR.out.2.size))); clear hb hk hx))
        generalize hg : w2.heap.size = g7 at *
        generalize hw : w2.alloc (.cells #[.int .i64 0, .int .i64 0] 23) = z2 at *
        clear hg hw
        go_upto_region 6 with (go_at_call 35; refine (whole_w2 (ext_le (by omega)) HV.out.2.2.2.2.1 (show _ = false by rw [HV.out.2.2.2.2.2.2.1]; exact decide_eq_false HY.out)).mono ?_; rintro e w2 ⟨rfl, hb⟩; have HP := Lib.hid (HP.out.keep hb); have hk := HR.out.1.keep hb; have HR := Lib.hid (And.intro hk (HR.out.2.trans (hb.mono HR.out.2.size))); clear hb hk)
        have d0 := HP.out.cell 0
        have d1 := HP.out.cell 1
        have dz := HP.out.lt
        simp at d0 d1
        have z0 := HR.out.1.lt
        have c0 := HR.out.1.cell 0
        have f0 := HR.out.1.frozen 0
        have c1 := HR.out.1.cell 1
        have f1 := HR.out.1.frozen 1
        have c2 := HR.out.1.cell 2
        have f2 := HR.out.1.frozen 2
        simp at c0 c1 c2
        go_wp2_with fail
        refine bodyPost_ret (v := .tuple #[.agg #[.int .i64 0, .int .i64 0, .int .i64 0], .bool false]) (by simp [results, Try.results23, go_sem, z0, c0, f0, c1, f1, c2, f2]) rfl ?_
        exact RfOk.no (by rw [HV.out.2.2.2.2.2.2.2]; rfl) (((HR.out.2.setCell (by simp) _).setCell (by simp) _).setCell (by simp) _)
set_option maxRecDepth 100000 in
set_option maxHeartbeats 8000000 in
theorem rReadFault_c (s : ByteArray) (w : World) (hs : s.size ≤ 60) : Calls Try.prog 24 #[.string s] w (RfOk (bys s) w) := by
  have hlen := Lib.hid (bys_len s)
  have HR := Lib.hid (And.intro (Bk.new w 42 #[.int .i64 0, .int .i64 0, .int .i64 0]) (below_box w (.cells #[.int .i64 0, .int .i64 0, .int .i64 0] 42)))
  rcases fstAt_byte s 32 with ⟨h1, h2⟩ | ⟨o, h1, h2, h3⟩
  · have HV := Lib.hid (And.intro h1 (And.intro h2 (rdF_none (cutB_none h2))))
    clear h1 h2
    go_enter Try.func24, Try.ntmps24
    go_upto_region 3 with (first
      | (go_at_call 36; refine (rCut_none s 32 _ (by omega) HV.out.2.1).mono ?_; rintro e w1 ⟨rfl, rfl⟩)
      | (go_at_call 22; refine (rRead_c ⟨#[]⟩ _ (by decide)).mono ?_; intro e w2 hx; obtain ⟨rfl, hb⟩ := RdOk.get_no (show rdP (bys ⟨#[]⟩) = none from rfl) hx; clear hx; have hb := hb.trans ((below_box w2 (.cells #[.int .i64 0, .int .i64 0] 27)).mono hb.size); have hk := HR.out.1.keep hb; have HR := Lib.hid (And.intro hk (HR.out.2.trans (hb.mono HR.out.2.size))); clear hb hk))
    go_upto_region 4 with (go_at_call 37; refine (rWhole_w2 (by decide) (show pwv (bys ⟨#[]⟩) = 0 by decide) (show pwe (bys ⟨#[]⟩) = 20 by decide)).mono ?_; rintro e w2 ⟨rfl, hb⟩; have hk := HR.out.1.keep hb; have HR := Lib.hid (And.intro hk (HR.out.2.trans (hb.mono HR.out.2.size))); clear hb hk)
    have z0 := HR.out.1.lt
    have c0 := HR.out.1.cell 0
    have f0 := HR.out.1.frozen 0
    have c1 := HR.out.1.cell 1
    have f1 := HR.out.1.frozen 1
    have c2 := HR.out.1.cell 2
    have f2 := HR.out.1.frozen 2
    simp at c0 c1 c2
    go_wp2_with fail
    refine bodyPost_ret (v := .tuple #[.agg #[.int .i64 0, .int .i64 0, .int .i64 0], .bool false]) (by simp [results, Try.results24, go_sem, z0, c0, f0, c1, f1, c2, f2]) rfl ?_
    exact RfOk.no HV.out.2.2 (((HR.out.2.setCell (by simp) _).setCell (by simp) _).setCell (by simp) _)
  · have hos : o < s.size := by have := (List.getElem?_eq_some_iff.1 h2).1; rwa [hlen.out] at this
    have hc := cutB_some h2 h3
    obtain ⟨a, ha⟩ : ∃ a, rdP (bys (s.extract 0 o)) = a := ⟨_, rfl⟩
    obtain ⟨b, hb⟩ : ∃ b, pwv (bys (s.extract (o + 1) s.size)) = b := ⟨_, rfl⟩
    obtain ⟨fb, hfb⟩ : ∃ fb, pwe (bys (s.extract (o + 1) s.size)) = fb := ⟨_, rfl⟩
    have hr : rdF (bys s) = rfOf a fb b := by rw [rdF_some hc, ← bys_to, ← bys_on, ha, hb, hfb]
    have HV := Lib.hid (And.intro h1 (And.intro h2 (And.intro h3 (And.intro ha (And.intro hb (And.intro trivial (And.intro hfb hr)))))))
    clear h1 h2 h3 hc ha hb hfb hr
    cases a with
    | some q =>
      obtain ⟨L, C⟩ := q
      by_cases hy : fb = 0
      · subst hy
        go_enter Try.func24, Try.ntmps24
        go_upto_region 3 with (first
          | (go_at_call 36; refine (rCut_some s 32 o _ (by omega) HV.out.2.1 HV.out.2.2.1).mono ?_; rintro e w1 ⟨rfl, hb⟩; have hk := HR.out.1.keep hb; have HR := Lib.hid (And.intro hk (HR.out.2.trans (hb.mono HR.out.2.size))); clear hb hk)
          | (go_at_call 22; refine (rRead_c _ _ (ext_le (by omega))).mono ?_; intro e w2 hx; obtain ⟨rfl, hb⟩ := RdOk.get_yes HV.out.2.2.2.1 hx; have hb := hb.trans ((below_box w2 (.cells #[.int .i64 L, .int .i64 C] 27)).mono hb.size); have HP := Lib.hid (Bk.new w2 27 #[.int .i64 L, .int .i64 C]); have hk := HR.out.1.keep hb; have HR := Lib.hid (And.intro hk (HR.out.2.trans (hb.mono HR.out.2.size))); clear hb hk hx))
        generalize hg : w2.heap.size = g7 at *
        generalize hw : w2.alloc (.cells #[.int .i64 L, .int .i64 C] 27) = z2 at *
        clear hg hw
        go_upto_region 4 with (go_at_call 37; refine (rWhole_w2 (ext_le (by omega)) HV.out.2.2.2.2.1 HV.out.2.2.2.2.2.2.1).mono ?_; rintro e w2 ⟨rfl, hb⟩; have HP := Lib.hid (HP.out.keep hb); have hk := HR.out.1.keep hb; have HR := Lib.hid (And.intro hk (HR.out.2.trans (hb.mono HR.out.2.size))); clear hb hk)
        have d0 := HP.out.cell 0
        have d1 := HP.out.cell 1
        have dz := HP.out.lt
        simp at d0 d1
        have z0 := HR.out.1.lt
        have c0 := HR.out.1.cell 0
        have f0 := HR.out.1.frozen 0
        have c1 := HR.out.1.cell 1
        have f1 := HR.out.1.frozen 1
        have c2 := HR.out.1.cell 2
        have f2 := HR.out.1.frozen 2
        simp at c0 c1 c2
        go_wp2_with fail
        refine bodyPost_ret (v := .tuple #[.agg #[.int .i64 L, .int .i64 C, .int .i64 b], .bool true]) (by simp [results, Try.results24, go_sem, z0, c0, f0, c1, f1, c2, f2]) rfl ?_
        exact RfOk.yes (by rw [HV.out.2.2.2.2.2.2.2]; simp [rfOf]) (((HR.out.2.setCell (by simp) _).setCell (by simp) _).setCell (by simp) _)
      · have hy1 : (fb != 0) = true := by simpa using hy
        have HY := Lib.hid hy
        clear hy
        go_enter Try.func24, Try.ntmps24
        go_upto_region 3 with (first
          | (go_at_call 36; refine (rCut_some s 32 o _ (by omega) HV.out.2.1 HV.out.2.2.1).mono ?_; rintro e w1 ⟨rfl, hb⟩; have hk := HR.out.1.keep hb; have HR := Lib.hid (And.intro hk (HR.out.2.trans (hb.mono HR.out.2.size))); clear hb hk)
          | (go_at_call 22; refine (rRead_c _ _ (ext_le (by omega))).mono ?_; intro e w2 hx; obtain ⟨rfl, hb⟩ := RdOk.get_yes HV.out.2.2.2.1 hx; have hb := hb.trans ((below_box w2 (.cells #[.int .i64 L, .int .i64 C] 27)).mono hb.size); have HP := Lib.hid (Bk.new w2 27 #[.int .i64 L, .int .i64 C]); have hk := HR.out.1.keep hb; have HR := Lib.hid (And.intro hk (HR.out.2.trans (hb.mono HR.out.2.size))); clear hb hk hx))
        generalize hg : w2.heap.size = g7 at *
        generalize hw : w2.alloc (.cells #[.int .i64 L, .int .i64 C] 27) = z2 at *
        clear hg hw
        go_upto_region 4 with (go_at_call 37; refine (rWhole_w2 (ext_le (by omega)) HV.out.2.2.2.2.1 HV.out.2.2.2.2.2.2.1).mono ?_; rintro e w2 ⟨rfl, hb⟩; have HP := Lib.hid (HP.out.keep hb); have hk := HR.out.1.keep hb; have HR := Lib.hid (And.intro hk (HR.out.2.trans (hb.mono HR.out.2.size))); clear hb hk)
        have d0 := HP.out.cell 0
        have d1 := HP.out.cell 1
        have dz := HP.out.lt
        simp at d0 d1
        have z0 := HR.out.1.lt
        have c0 := HR.out.1.cell 0
        have f0 := HR.out.1.frozen 0
        have c1 := HR.out.1.cell 1
        have f1 := HR.out.1.frozen 1
        have c2 := HR.out.1.cell 2
        have f2 := HR.out.1.frozen 2
        simp at c0 c1 c2
        go_wp2_with fail
        refine bodyPost_ret (v := .tuple #[.agg #[.int .i64 0, .int .i64 0, .int .i64 0], .bool false]) (by simp [results, Try.results24, go_sem, z0, c0, f0, c1, f1, c2, f2]) rfl ?_
        exact RfOk.no (by rw [HV.out.2.2.2.2.2.2.2]; simp [rfOf, HY.out]) (((HR.out.2.setCell (by simp) _).setCell (by simp) _).setCell (by simp) _)
    | none =>
      by_cases hy : fb = 0
      · subst hy
        go_enter Try.func24, Try.ntmps24
        go_upto_region 3 with (first
          | (go_at_call 36; refine (rCut_some s 32 o _ (by omega) HV.out.2.1 HV.out.2.2.1).mono ?_; rintro e w1 ⟨rfl, hb⟩; have hk := HR.out.1.keep hb; have HR := Lib.hid (And.intro hk (HR.out.2.trans (hb.mono HR.out.2.size))); clear hb hk)
          | (go_at_call 22; refine (rRead_c _ _ (ext_le (by omega))).mono ?_; intro e w2 hx; obtain ⟨rfl, hb⟩ := RdOk.get_no HV.out.2.2.2.1 hx; have hb := hb.trans ((below_box w2 (.cells #[.int .i64 0, .int .i64 0] 27)).mono hb.size); have HP := Lib.hid (Bk.new w2 27 #[.int .i64 0, .int .i64 0]); have hk := HR.out.1.keep hb; have HR := Lib.hid (And.intro hk (HR.out.2.trans (hb.mono HR.out.2.size))); clear hb hk hx))
        generalize hg : w2.heap.size = g7 at *
        generalize hw : w2.alloc (.cells #[.int .i64 0, .int .i64 0] 27) = z2 at *
        clear hg hw
        go_upto_region 4 with (go_at_call 37; refine (rWhole_w2 (ext_le (by omega)) HV.out.2.2.2.2.1 HV.out.2.2.2.2.2.2.1).mono ?_; rintro e w2 ⟨rfl, hb⟩; have HP := Lib.hid (HP.out.keep hb); have hk := HR.out.1.keep hb; have HR := Lib.hid (And.intro hk (HR.out.2.trans (hb.mono HR.out.2.size))); clear hb hk)
        have d0 := HP.out.cell 0
        have d1 := HP.out.cell 1
        have dz := HP.out.lt
        simp at d0 d1
        have z0 := HR.out.1.lt
        have c0 := HR.out.1.cell 0
        have f0 := HR.out.1.frozen 0
        have c1 := HR.out.1.cell 1
        have f1 := HR.out.1.frozen 1
        have c2 := HR.out.1.cell 2
        have f2 := HR.out.1.frozen 2
        simp at c0 c1 c2
        go_wp2_with fail
        refine bodyPost_ret (v := .tuple #[.agg #[.int .i64 0, .int .i64 0, .int .i64 0], .bool false]) (by simp [results, Try.results24, go_sem, z0, c0, f0, c1, f1, c2, f2]) rfl ?_
        exact RfOk.no (by rw [HV.out.2.2.2.2.2.2.2]; rfl) (((HR.out.2.setCell (by simp) _).setCell (by simp) _).setCell (by simp) _)
      · have hy1 : (fb != 0) = true := by simpa using hy
        have HY := Lib.hid hy
        clear hy
        go_enter Try.func24, Try.ntmps24
        go_upto_region 3 with (first
          | (go_at_call 36; refine (rCut_some s 32 o _ (by omega) HV.out.2.1 HV.out.2.2.1).mono ?_; rintro e w1 ⟨rfl, hb⟩; have hk := HR.out.1.keep hb; have HR := Lib.hid (And.intro hk (HR.out.2.trans (hb.mono HR.out.2.size))); clear hb hk)
          | (go_at_call 22; refine (rRead_c _ _ (ext_le (by omega))).mono ?_; intro e w2 hx; obtain ⟨rfl, hb⟩ := RdOk.get_no HV.out.2.2.2.1 hx; have hb := hb.trans ((below_box w2 (.cells #[.int .i64 0, .int .i64 0] 27)).mono hb.size); have HP := Lib.hid (Bk.new w2 27 #[.int .i64 0, .int .i64 0]); have hk := HR.out.1.keep hb; have HR := Lib.hid (And.intro hk (HR.out.2.trans (hb.mono HR.out.2.size))); clear hb hk hx))
        generalize hg : w2.heap.size = g7 at *
        generalize hw : w2.alloc (.cells #[.int .i64 0, .int .i64 0] 27) = z2 at *
        clear hg hw
        go_upto_region 4 with (go_at_call 37; refine (rWhole_w2 (ext_le (by omega)) HV.out.2.2.2.2.1 HV.out.2.2.2.2.2.2.1).mono ?_; rintro e w2 ⟨rfl, hb⟩; have HP := Lib.hid (HP.out.keep hb); have hk := HR.out.1.keep hb; have HR := Lib.hid (And.intro hk (HR.out.2.trans (hb.mono HR.out.2.size))); clear hb hk)
        have d0 := HP.out.cell 0
        have d1 := HP.out.cell 1
        have dz := HP.out.lt
        simp at d0 d1
        have z0 := HR.out.1.lt
        have c0 := HR.out.1.cell 0
        have f0 := HR.out.1.frozen 0
        have c1 := HR.out.1.cell 1
        have f1 := HR.out.1.frozen 1
        have c2 := HR.out.1.cell 2
        have f2 := HR.out.1.frozen 2
        simp at c0 c1 c2
        go_wp2_with fail
        refine bodyPost_ret (v := .tuple #[.agg #[.int .i64 0, .int .i64 0, .int .i64 0], .bool false]) (by simp [results, Try.results24, go_sem, z0, c0, f0, c1, f1, c2, f2]) rfl ?_
        exact RfOk.no (by rw [HV.out.2.2.2.2.2.2.2]; rfl) (((HR.out.2.setCell (by simp) _).setCell (by simp) _).setCell (by simp) _)
end Go.Proofs.Ytjocobfabdkadaa
