/- more of package power, by contract: a sum of powers and one power more, if it fits under the cap. -/
import Derived.Test.YtfpjhohkaoodmaaPowb
import Derived.Deep.RegionHeld3
import Derived.Deep.RegionLaw
namespace Go.Proofs.Ytfpjhohkaoodmaa
open Go.RowKit
attribute [local go_sem] alloc_drewN setCell_drewN
/-- As NatOk, the limbs in new memory. -/
def NatNew (w : World) (c : Int) (M : Nat) (e : Ending) (w' : World) : Prop :=
  ∃ A k d, e = .returned (.tuple #[.agg #[.slice A k d], .bool (fitB c M)]) ∧ IsNat w.heap.size w' (.agg #[.slice A k d]) (if fitB c M then M else 0) ∧ Below w.heap.size w w'
theorem NatNew.mk {w w' : World} {c : Int} {M : Nat} {A : Option Addr} {k d : Nat} {b : Bool} {K : Nat} (hb : fitB c M = b) (hK : K = if b then M else 0) (h : IsNat w.heap.size w' (.agg #[.slice A k d]) K) (hB : Below w.heap.size w w') : NatNew w c M (.returned (.tuple #[.agg #[.slice A k d], .bool b])) w' := by
  subst hb hK
  exact ⟨A, k, d, rfl, h, hB⟩
theorem isNat_drew {g : Nat} {w : World} {v : Value} {N : Nat} (h : IsNat g w v N) : IsNat g w.drew v N := h
theorem cell_off {w : World} {g h : Nat} {u v : Value} (hk : w.cell? ⟨g, 0, none⟩ = some v) (hne : h ≠ g) : (w.setCell ⟨h, 0, none⟩ u).cell? ⟨g, 0, none⟩ = some v := by
  rw [World.cell?_setCell_other w _ _ u (fun e => hne (by injection e))]
  exact hk
set_option maxRecDepth 100000 in
set_option maxHeartbeats 8000000 in
theorem more_c (c : Int) (A1 A2 : Option Addr) (n1 d1 n2 d2 : Nat) (S N : Nat) (w : World) (hs : IsNat 0 w (.agg #[.slice A1 n1 d1]) S) (hv : IsNat 0 w (.agg #[.slice A2 n2 d2]) N) (hS : Fits S 400) (hN : Fits N 400) :
    Calls Try.prog 38 #[.int .i64 c, .agg #[.slice A1 n1 d1], .agg #[.slice A2 n2 d2]] w fun e w' => NatNew w c (S * N + 1) e w' := by
  have h1 : Below w.heap.size w (((w.alloc (.cells #[.slice A1 n1 d1] 29)).alloc (.cells #[.slice A2 n2 d2] 29)).alloc (.cells #[.slice none 0 0] 29)) := (((Below.refl _ _).alloc (Nat.le_refl _) _).alloc (by simp) _).alloc (by simp <;> omega) _
  have k6 := Bk.new ((w.alloc (.cells #[.slice A1 n1 d1] 29)).alloc (.cells #[.slice A2 n2 d2] 29)) 29 #[.slice none 0 0]
  simp at k6
  have HP := Lib.hid (And.intro h1 (And.intro k6 (And.intro (hs.keep h1) (hv.keep h1))))
  clear h1 k6 hs hv
  go_enter Try.func38, Try.ntmps38
  obtain ⟨b, hb0⟩ : ∃ b, fitB c (S * N) = b := ⟨_, rfl⟩
  have HB := Lib.hid hb0
  clear hb0
  cases b
  · go_wp2_with (go_at_call 32; refine (capMul_c 0 0 c _ _ S N _ HP.out.2.2.1 HP.out.2.2.2 (hS.mono (by decide)) (hN.mono (by decide))).mono ?_; rintro e w1 ⟨x, rfl, hx, hb⟩; rw [HB.out] at hx ⊢; obtain ⟨A3, n3, d3, l3, rfl, -⟩ := hx; have hk6 := HP.out.2.1.keep hb; have c6 := hk6.cell 0; have f6 := hk6.frozen 0; have z6 := hk6.lt; have z1 := hb.size; simp at z1; simp only [List.getElem?_toArray, List.getElem?_cons_zero] at c6; have HX := Lib.hid (And.intro hk6 (HP.out.1.trans (hb.mono HP.out.1.size))); clear hk6 hb)
    have hr := ((HX.out.1.put 0 (.slice none 0 0)).alloc (.cells #[.slice A3 n3 d3] 29)).cell 0
    simp only [List.setIfInBounds_toArray, List.set_cons_zero, List.getElem?_toArray, List.getElem?_cons_zero] at hr
    exact bodyPost_ret (v := .tuple #[.agg #[.slice none 0 0], .bool false]) (by simp [results, Try.results38, go_sem, hr]) rfl (NatNew.mk (fitB_false HB.out (by omega)) rfl (isNat_zero _ _) ((HX.out.2.setCell (by simp; omega) _).alloc (by simp; omega) _))
  · obtain ⟨b2, hb2⟩ : ∃ b2, fitB c (S * N + 1) = b2 := ⟨_, rfl⟩
    have HB2 := Lib.hid hb2
    clear hb2
    go_upto_region 4 with (go_at_call 32; refine (capMul_c 0 0 c _ _ S N _ HP.out.2.2.1 HP.out.2.2.2 (hS.mono (by decide)) (hN.mono (by decide))).mono ?_; rintro e w1 ⟨x, rfl, hx, hb⟩; rw [HB.out] at hx ⊢; have hx : IsNat _ w1 x (S * N) := hx; obtain ⟨A3, n3, d3, l3, rfl, hy⟩ := hx; have hk6 := HP.out.2.1.keep hb; have c6 := hk6.cell 0; have f6 := hk6.frozen 0; have z6 := hk6.lt; have z1 := hb.size; simp at z1; simp only [List.getElem?_toArray, List.getElem?_cons_zero] at c6; have HX := Lib.hid (And.intro hk6 (And.intro (HP.out.1.trans (hb.mono HP.out.1.size)) hy)); clear hk6 hb hy)
    have i3 : IsNat 0 w1 (.agg #[.slice A3 n3 d3]) (S * N) := IsNat.mono ⟨A3, n3, d3, l3, rfl, HX.out.2.2⟩ (Nat.zero_le _)
    have b8 : Below w1.heap.size w1 (w1.alloc (.cells #[.slice A3 n3 d3] 29)) := (Below.refl _ _).alloc (Nat.le_refl _) _
    have hk8 := Bk.new w1 29 #[.slice A3 n3 d3]
    have c8 := hk8.cell 0
    simp only [List.getElem?_toArray, List.getElem?_cons_zero] at c8
    have zz : (w1.alloc (.cells #[.slice A3 n3 d3] 29)).heap.size = w1.heap.size + 1 := by simp
    have HY := Lib.hid (And.intro (HX.out.1.keep b8) (And.intro (HX.out.2.1.trans (b8.mono (by omega))) (And.intro (i3.keep b8) hk8)))
    clear i3 b8 hk8 HX HP c6 f6
    generalize w1.alloc (.cells #[.slice A3 n3 d3] 29) = wz at *
    generalize w1.heap.size = g8 at *
    cases b2
    · go_region_held3 (fun w' => w'.cell? ⟨g8, 0, none⟩ = some (.slice A3 n3 d3)) (first | go_keep | exact k8 | exact cell_off k8 (by omega))
        (first
          | (go_at_call 20; refine (of_w 1 _ (by decide)).mono ?_; rintro e w2 ⟨v1, rfl, hv1, hb⟩; have hb := below_undrew hb; have k8 := (HY.out.2.2.2.keep hb).cell 0; have HO := Lib.hid (And.intro hv1 hb); clear hv1 hb)
          | (go_at_call 50; refine (capAdd_c 0 0 c _ _ (S * N) 1 _ (HY.out.2.2.1.keep HO.out.2) HO.out.1 ((hS.mul hN).mono (by decide)) (fits1.mono (by decide))).mono ?_; rintro e w3 ⟨x, rfl, hx, hb⟩; rw [HB2.out] at hx ⊢; have hx : IsNat w2.heap.size w3 x (0) := hx; have z2 := HO.out.2.size; have hb3 := HO.out.2.trans (hb.mono z2); have k8 := (HY.out.2.2.2.keep hb3).cell 0; have hk6 := HY.out.1.keep hb3; have c6 := hk6.cell 0; have f6 := hk6.frozen 0; have z6 := hk6.lt; simp only [List.getElem?_toArray, List.getElem?_cons_zero] at c6; obtain ⟨A4, n4, d4, l4, rfl, hy⟩ := hx; have HX := Lib.hid (And.intro hk6 (And.intro (HY.out.2.1.trans (hb3.mono HY.out.2.1.size)) hy)); clear hb hb3 hk6 hy))
      all_goals
        go_wp2_with fail
        exact bodyPost_ret (v := .tuple #[.agg #[.slice A4 n4 d4], .bool false]) (by simp [results, Try.results38, go_sem, HX.out.1.res1]) rfl (NatNew.mk HB2.out rfl (IsNat.mono (IsNat.far (⟨A4, n4, d4, l4, rfl, HX.out.2.2⟩ : IsNat w2.heap.size w3 _ _) (by simp; omega)) (by omega)) (HX.out.2.1.setCell (by simp; omega) _))
    · go_region_held3 (fun w' => w'.cell? ⟨g8, 0, none⟩ = some (.slice A3 n3 d3)) (first | go_keep | exact k8 | exact cell_off k8 (by omega))
        (first
          | (go_at_call 20; refine (of_w 1 _ (by decide)).mono ?_; rintro e w2 ⟨v1, rfl, hv1, hb⟩; have hb := below_undrew hb; have k8 := (HY.out.2.2.2.keep hb).cell 0; have HO := Lib.hid (And.intro hv1 hb); clear hv1 hb)
          | (go_at_call 50; refine (capAdd_c 0 0 c _ _ (S * N) 1 _ (HY.out.2.2.1.keep HO.out.2) HO.out.1 ((hS.mul hN).mono (by decide)) (fits1.mono (by decide))).mono ?_; rintro e w3 ⟨x, rfl, hx, hb⟩; rw [HB2.out] at hx ⊢; have hx : IsNat w2.heap.size w3 x (S * N + 1) := hx; have z2 := HO.out.2.size; have hb3 := HO.out.2.trans (hb.mono z2); have k8 := (HY.out.2.2.2.keep hb3).cell 0; have hk6 := HY.out.1.keep hb3; have c6 := hk6.cell 0; have f6 := hk6.frozen 0; have z6 := hk6.lt; simp only [List.getElem?_toArray, List.getElem?_cons_zero] at c6; obtain ⟨A4, n4, d4, l4, rfl, hy⟩ := hx; have HX := Lib.hid (And.intro hk6 (And.intro (HY.out.2.1.trans (hb3.mono HY.out.2.1.size)) hy)); clear hb hb3 hk6 hy))
      all_goals
        go_wp2_with fail
        exact bodyPost_ret (v := .tuple #[.agg #[.slice A4 n4 d4], .bool true]) (by simp [results, Try.results38, go_sem, HX.out.1.res1]) rfl (NatNew.mk HB2.out rfl (IsNat.mono (IsNat.far (⟨A4, n4, d4, l4, rfl, HX.out.2.2⟩ : IsNat w2.heap.size w3 _ _) (by simp; omega)) (by omega)) (HX.out.2.1.setCell (by simp; omega) _))
end Go.Proofs.Ytfpjhohkaoodmaa
