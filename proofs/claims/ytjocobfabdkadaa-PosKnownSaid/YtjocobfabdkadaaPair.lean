/- A statement that makes two blocks and stores into each, whose order of evaluation is open: one rule. Plain theorems on the model's regions; no condition. -/
import Derived.Test.YtjocobfabdkadaaRegion
namespace Go.Proofs.Ytjocobfabdkadaa
open Go.RowKit
section
variable {P : Program} {ops : Array Oper} {Q : Exit → Act → World → Prop}
theorem wp_region_pair {id : Nat} {a0 : Act} {w0 : World} (ord : List Nat) (spec : List (Nat × StP)) (pa pb ta tb : Nat) (ty : TypeId) (x y : Value) (hm : P.follows .mixedOrders = true) (hok : (ordOk ops [] ord && (List.range ops.size).all fun i => ord.contains i) = true) (hsl : slotsOk spec [] = true)
    (hsz : spec.length + 2 = ops.size) (hlt : (spec.all fun z => decide (z.1 < a0.tmps.size)) = true) (hst : ∀ (k t : Nat) (V : StP), spec[k]? = some (t, V) → V.Stable)
    (hpa : spec[pa]? = some (ta, ptr w0.heap.size ty 2)) (hpb : spec[pb]? = some (tb, ptr w0.heap.size ty 2)) (hne : pa ≠ pb)
    (hda : pa ∈ depsOf ops spec.length) (hdb : pb ∈ depsOf ops spec.length)
    (htl : ((List.range (spec.length + 1)).all fun k => (depsOf ops (spec.length + 1)).contains k) = true)
    (hs : ∀ (i t : Nat) (V : StP) (a : Act) (w : World), spec[i]? = some (t, V) → i ≠ pa → i ≠ pb → Fr a0 (spec.map (·.1)) a → Below w0.heap.size w0 w → (∀ k ∈ depsOf ops i, ∀ (s : Nat) (U : StP), spec[k]? = some (s, U) → U.p (a.tmps[s]?.getD undef) w) →
      wpOp P ops Q i (fun a' w' => ∃ v, a' = a.put (some t) v ∧ Below w.heap.size w w' ∧ V.p v w') a w)
    (hal : ∀ (i t : Nat) (a : Act) (w : World), (i = pa ∧ t = ta ∨ i = pb ∧ t = tb) → wpOp P ops Q i (fun a' w' => a' = a.put (some t) (.pointer (some ⟨w.heap.size, 0, none⟩)) ∧ Below w.heap.size w w' ∧ w.heap.size < w'.heap.size ∧ ∃ cs : Array Value, cs.size = 2 ∧ Bk w' w.heap.size ty cs) a w)
    (hA : ∀ (a : Act) (w : World) (g : Nat) (cs : Array Value), Fr a0 (spec.map (·.1)) a → Below w0.heap.size w0 w → (∀ k ∈ depsOf ops spec.length, ∀ (s : Nat) (U : StP), spec[k]? = some (s, U) → U.p (a.tmps[s]?.getD undef) w) → a.tmps[ta]?.getD undef = .pointer (some ⟨g, 0, none⟩) → cs.size = 2 → Bk w g ty cs →
      wpOp P ops Q spec.length (fun a' w' => a' = a ∧ w' = (w.setCell ⟨g, 0, none⟩ x).setCell ⟨g, 1, none⟩ y) a w)
    (he : ∀ (a : Act) (w : World) (g h : Nat) (cs : Array Value), Fr a0 (spec.map (·.1)) a → Below w0.heap.size w0 w → (∀ (k t : Nat) (V : StP), spec[k]? = some (t, V) → V.p (a.tmps[t]?.getD undef) w) → a.tmps[ta]?.getD undef = .pointer (some ⟨g, 0, none⟩) → a.tmps[tb]?.getD undef = .pointer (some ⟨h, 0, none⟩) → g ≠ h → w0.heap.size ≤ g → w0.heap.size ≤ h → Bk w g ty #[x, y] → cs.size = 2 → Bk w h ty cs →
      wpOp P ops Q (spec.length + 1) (fun a w => Q .normal a w) a w) : (Code.region id ops true).wp P Q a0 w0 := by
  have hlt' : ∀ (k t : Nat) (V : StP), spec[k]? = some (t, V) → t < a0.tmps.size := fun k t V h => by
    have := List.all_eq_true.1 hlt (t, V) (List.mem_iff_getElem?.2 ⟨k, h⟩)
    simpa using this
  have htl' : ∀ k, k < spec.length + 1 → k ∈ depsOf ops (spec.length + 1) := fun k hk => by
    have := List.all_eq_true.1 htl k (List.mem_range.2 hk)
    simpa using this
  have hal1 := (List.getElem?_eq_some_iff.1 hpa).1
  have hbl1 := (List.getElem?_eq_some_iff.1 hpb).1
  have htab : ta ≠ tb := slotsOk_ne hsl pa pb ta tb _ _ hpa hpb hne
  refine wp_region_inv ord hm hok (fun L a w => (L (spec.length + 1) = false ∧ Fr a0 (spec.map (·.1)) a ∧ Below w0.heap.size w0 w ∧ (∀ (k t : Nat) (V : StP), spec[k]? = some (t, V) → L k = true → V.p (a.tmps[t]?.getD undef) w) ∧
    (L pa = true → L pb = true → NeF ta tb a w) ∧ (L spec.length = true → L pa = true ∧ L pb = true ∧ BkF ta w0.heap.size ty #[x, y] a w)) ∨ (L (spec.length + 1) = true ∧ (∀ k, k < spec.length + 1 → L k = true) ∧ Q .normal a w)) ?_ ?_ ?_
  · exact .inl ⟨rfl, Fr.refl _ _, (Below.refl _ _).drew, fun _ _ _ _ h => (by cases h), fun h => (by cases h), fun h => (by cases h)⟩
  · intro i L a w hi hL hd hI
    rcases hI with ⟨h0, hF, hB, hv, hN, hG⟩ | ⟨h1, h2, h3⟩
    · have hfd : ∀ k ∈ depsOf ops i, ∀ (s : Nat) (U : StP), spec[k]? = some (s, U) → U.p (a.tmps[s]?.getD undef) w := fun k hk s U hU => hv k s U hU (hd k hk)
      by_cases him : i < spec.length
      · have hsp : spec[i]? = some (spec[i].1, spec[i].2) := by rw [List.getElem?_eq_getElem him]
        have key : ∀ (t : Nat) (V : StP) (v : Value) (w' : World), spec[i]? = some (t, V) → Below w.heap.size w w' → V.p v w' → (upd L i pa = true → upd L i pb = true → NeF ta tb (a.put (some t) v) w') →
            (upd L i (spec.length + 1) = false ∧ Fr a0 (spec.map (·.1)) (a.put (some t) v) ∧ Below w0.heap.size w0 w' ∧ (∀ (k s : Nat) (U : StP), spec[k]? = some (s, U) → upd L i k = true → U.p ((a.put (some t) v).tmps[s]?.getD undef) w') ∧
              (upd L i pa = true → upd L i pb = true → NeF ta tb (a.put (some t) v) w') ∧ (upd L i spec.length = true → upd L i pa = true ∧ upd L i pb = true ∧ BkF ta w0.heap.size ty #[x, y] (a.put (some t) v) w')) := by
          intro t V v w' ht hb hV hNe
          refine ⟨?_, hF.put (List.mem_map.2 ⟨(t, V), List.mem_iff_getElem?.2 ⟨i, ht⟩, rfl⟩) v, hB.trans (hb.mono hB.size), fun k s U hk hLk => ?_, hNe, fun hn => ?_⟩
          · unfold upd; rw [if_neg (by omega)]; exact h0
          · by_cases hki : k = i
            · subst hki
              rw [ht] at hk
              obtain ⟨rfl, rfl⟩ := Prod.mk.inj (Option.some.inj hk)
              have hsz' : t < a.tmps.size := by rw [hF.2.1]; exact hlt' k _ _ ht
              have : (a.put (some t) v).tmps[t]?.getD undef = v := by simp [Act.put, hsz']
              rw [this]; exact hV
            · have hne := slotsOk_ne hsl i k t s V U ht hk (Ne.symm hki)
              rw [put_other' hne]
              refine U.mono _ _ _ hb (hv k s U hk ?_)
              have hLk' : (if k = i then true else L k) = true := hLk
              rwa [if_neg hki] at hLk'
          · have hn' : L spec.length = true := by
              have hn2 : (if spec.length = i then true else L spec.length) = true := hn
              rwa [if_neg (by omega)] at hn2
            obtain ⟨g1, g2, g3⟩ := hG hn'
            have hia : i ≠ pa := fun e => by rw [e] at hL; rw [hL] at g1; cases g1
            have hib : i ≠ pb := fun e => by rw [e] at hL; rw [hL] at g2; cases g2
            refine ⟨by unfold upd; split <;> first | rfl | exact g1, by unfold upd; split <;> first | rfl | exact g2, g3.put (slotsOk_ne hsl i pa t ta V _ ht hpa hia) hb⟩
        by_cases hia : i = pa
        · subst hia
          refine wpOp_mono ?_ (hal i ta a w (.inl ⟨rfl, rfl⟩))
          rintro a' w' ⟨rfl, hb, hlt2, cs, hcs, hk⟩
          refine .inl (key ta _ _ w' hpa hb ⟨_, rfl, hB.size, cs, hcs, hk⟩ fun _ hLb g h e1 e2 => ?_)
          have hLb' : L pb = true := by
            have h2 : (if pb = i then true else L pb) = true := hLb
            rwa [if_neg (Ne.symm hne)] at h2
          obtain ⟨g', e3, _, cs', _, hk'⟩ := hv pb tb _ hpb hLb'
          rw [put_same' (by rw [hF.2.1]; exact hlt' _ _ _ hpa)] at e1
          rw [put_other' htab, e3] at e2
          simp at e1 e2
          have := hk'.lt
          omega
        · by_cases hib : i = pb
          · subst hib
            refine wpOp_mono ?_ (hal i tb a w (.inr ⟨rfl, rfl⟩))
            rintro a' w' ⟨rfl, hb, hlt2, cs, hcs, hk⟩
            refine .inl (key tb _ _ w' hpb hb ⟨_, rfl, hB.size, cs, hcs, hk⟩ fun hLa _ g h e1 e2 => ?_)
            have hLa' : L pa = true := by
              have h2 : (if pa = i then true else L pa) = true := hLa
              rwa [if_neg hne] at h2
            obtain ⟨g', e3, _, cs', _, hk'⟩ := hv pa ta _ hpa hLa'
            rw [put_same' (by rw [hF.2.1]; exact hlt' _ _ _ hpb)] at e2
            rw [put_other' (Ne.symm htab), e3] at e1
            simp at e1 e2
            have := hk'.lt
            omega
          · refine wpOp_mono ?_ (hs i _ _ a w hsp hia hib hF hB hfd)
            rintro a' w' ⟨v, rfl, hb, hV⟩
            refine .inl (key _ _ v w' hsp hb hV fun hLa hLb => ?_)
            have hLa' : L pa = true := by
              have h2 : (if pa = i then true else L pa) = true := hLa
              rwa [if_neg (Ne.symm hia)] at h2
            have hLb' : L pb = true := by
              have h2 : (if pb = i then true else L pb) = true := hLb
              rwa [if_neg (Ne.symm hib)] at h2
            exact (hN hLa' hLb').put (slotsOk_ne hsl i pa _ ta _ _ hsp hpa hia) (slotsOk_ne hsl i pb _ tb _ _ hsp hpb hib)
      · by_cases hin : i = spec.length
        · subst hin
          have hLa := hd _ hda
          have hLb := hd _ hdb
          obtain ⟨g, e1, hg, cs, hcs, hk⟩ := hv pa ta _ hpa hLa
          refine wpOp_mono ?_ (hA a w g cs hF hB hfd e1 hcs hk)
          rintro a' w' ⟨rfl, rfl⟩
          have hu : ∀ k, k < spec.length → upd L spec.length k = L k := fun k hk => by unfold upd; rw [if_neg (by omega)]
          refine .inl ⟨by unfold upd; rw [if_neg (by omega)]; exact h0, hF, (hB.setCell hg _).setCell hg _, fun k t V hk' hLk => ?_, fun _ _ => ?_, fun _ => ⟨by rw [hu _ hal1]; exact hLa, by rw [hu _ hbl1]; exact hLb, g, e1, hg, hk.stored2 hcs x y⟩⟩
          · rw [hu _ (List.getElem?_eq_some_iff.1 hk').1] at hLk
            exact hst k t V hk' _ _ _ _ _ (hst k t V hk' _ _ _ _ _ (hv k t V hk' hLk))
          · exact hN hLa hLb
        · have hil : i = spec.length + 1 := by omega
          subst hil
          have hall : ∀ k, k < spec.length + 1 → L k = true := fun k hk => hd k (htl' k hk)
          obtain ⟨_, _, g, e1, hg, hk⟩ := hG (hall _ (by omega))
          obtain ⟨h, e2, hh, cs, hcs, hk2⟩ := hv pb tb _ hpb (hall _ (by omega))
          refine wpOp_mono ?_ (he a w g h cs hF hB (fun k t V hk' => hv k t V hk' (hall _ (by have := (List.getElem?_eq_some_iff.1 hk').1; omega))) e1 e2 (hN (hall _ (by omega)) (hall _ (by omega)) g h e1 e2) hg hh hk hcs hk2)
          intro a' w' hq
          exact .inr ⟨by unfold upd; rw [if_pos rfl], fun k hk => by unfold upd; split <;> first | rfl | exact hall k hk, hq⟩
    · have : i < spec.length + 1 ∨ i = spec.length + 1 := by omega
      rcases this with h | h
      · rw [h2 i h] at hL; cases hL
      · subst h; rw [h1] at hL; cases hL
  · intro L a w hall hI
    rcases hI with ⟨h0, _⟩ | ⟨_, _, h3⟩
    · rw [hall (spec.length + 1) (by omega)] at h0; cases h0
    · exact h3
end
end Go.Proofs.Ytjocobfabdkadaa
