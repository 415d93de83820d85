/- A statement whose order of evaluation is open, by one invariant: each operation is walked once, whatever has come up before it. Plain theorems on the model's regions; no condition. -/
import Derived.Test.YtjocobfabdkadaaBase
namespace Go.Proofs.Ytjocobfabdkadaa
open Go.RowKit

/-- What operation i waits for. -/
def depsOf (ops : Array Oper) (i : Nat) : List Nat := ((ops[i]?).map fun o => (o.after.toList.filter fun e => Region.binds .any e).map (·.on)).getD []
/-- In the order 'ord' each operation stands behind what it waits for. -/
def ordOk (ops : Array Oper) : List Nat → List Nat → Bool
  | _, [] => true
  | done, i :: rest => decide (i < ops.size) && (depsOf ops i).all (fun k => done.contains k) && ordOk ops (i :: done) rest
def upd (L : Nat → Bool) (i : Nat) : Nat → Bool := fun k => if k = i then true else L k

section
variable {P : Program} {ops : Array Oper} {Q : Exit → Act → World → Prop}

theorem mem_ready {listed : Array Bool} {i : Nat} (h : i ∈ Region.ready .any ops listed) : i < ops.size ∧ listed.getD i true = false ∧ ∀ k ∈ depsOf ops i, listed.getD k false = true := by
  unfold Region.ready at h
  rw [List.mem_filter] at h
  obtain ⟨hr, hb⟩ := h
  have hi : i < ops.size := List.mem_range.1 hr
  simp only [Bool.and_eq_true, Bool.not_eq_true'] at hb
  refine ⟨hi, hb.1, fun k hk => ?_⟩
  have ho : ops[i]? = some ops[i] := Array.getElem?_eq_getElem hi
  have h2 := hb.2
  unfold depsOf at hk
  rw [ho] at h2 hk
  simp only [Option.map_some, Option.getD_some] at h2 hk
  obtain ⟨e, he, rfl⟩ := List.mem_map.1 hk
  obtain ⟨he1, he2⟩ := List.mem_filter.1 he
  rw [Array.all_eq_true'] at h2
  have h3 := h2 e (by simpa using he1)
  rw [he2] at h3
  simpa using h3

theorem ready_of {listed : Array Bool} {i : Nat} (hi : i < ops.size) (hl : listed.getD i true = false) (hd : ∀ k ∈ depsOf ops i, listed.getD k false = true) : i ∈ Region.ready .any ops listed := by
  unfold Region.ready
  rw [List.mem_filter]
  refine ⟨List.mem_range.2 hi, ?_⟩
  have ho : ops[i]? = some ops[i] := Array.getElem?_eq_getElem hi
  simp only [Bool.and_eq_true, Bool.not_eq_true']
  refine ⟨hl, ?_⟩
  rw [ho]
  simp only [Option.map_some, Option.getD_some]
  rw [Array.all_eq_true']
  intro e he
  cases hb : Region.binds .any e with
  | false => rfl
  | true =>
    have : e.on ∈ depsOf ops i := by
      unfold depsOf
      rw [ho]
      simp only [Option.map_some, Option.getD_some]
      exact List.mem_map.2 ⟨e, List.mem_filter.2 ⟨by simpa using he, hb⟩, rfl⟩
    simpa using hd _ this

theorem all_listed {listed : Array Bool} (hsz : listed.size = ops.size) (h0 : Region.ready .any ops listed = []) : ∀ (ord done : List Nat), ordOk ops done ord = true → (∀ k ∈ done, listed.getD k false = true) → ∀ i ∈ ord, i < ops.size → listed.getD i false = true
  | [], _, _, _, i, hi, _ => by cases hi
  | j :: rest, done, hk, hd, i, hi, hlt => by
    simp only [ordOk, Bool.and_eq_true] at hk
    have hjs : j < ops.size := of_decide_eq_true hk.1.1
    have hj : listed.getD j false = true := by
      cases hc : listed.getD j false with
      | true => rfl
      | false =>
        have hjl : j < listed.size := by omega
        have ht : listed.getD j true = false := by
          rw [Array.getD_eq_getD_getElem?, Array.getElem?_eq_getElem hjl] at hc ⊢
          simpa using hc
        have := ready_of hjs ht (fun k hk' => hd k (by simpa using List.all_eq_true.1 hk.1.2 k hk'))
        rw [h0] at this
        cases this
    rcases List.mem_cons.1 hi with rfl | hi'
    · exact hj
    · exact all_listed hsz h0 rest (j :: done) hk.2 (fun k hk' => by
        rcases List.mem_cons.1 hk' with rfl | h
        · exact hj
        · exact hd k h) i hi' hlt

theorem countP_lt {p q : Nat → Bool} : ∀ l : List Nat, (∀ k ∈ l, q k = true → p k = true) → ∀ i ∈ l, p i = true → q i = false → l.countP q < l.countP p
  | [], _, i, hi, _, _ => by cases hi
  | k :: l, h, i, hi, hp, hq => by
    have hle : l.countP q ≤ l.countP p := List.countP_mono_left fun x hx => h x (List.mem_cons_of_mem _ hx)
    by_cases he : i = k
    · subst he
      rw [List.countP_cons_of_pos hp, List.countP_cons_of_neg (by simp [hq])]
      omega
    · have hil : i ∈ l := by
        rcases List.mem_cons.1 hi with rfl | h
        · exact absurd rfl he
        · exact h
      have := countP_lt l (fun x hx => h x (List.mem_cons_of_mem _ hx)) i hil hp hq
      have hk := h k (List.mem_cons_self ..)
      rw [List.countP_cons, List.countP_cons]
      by_cases hqk : q k = true
      · rw [if_pos hqk, if_pos (hk hqk)]; omega
      · rw [if_neg hqk]; split <;> omega

/-- THE RULE: I speaks of what has come up so far (L), of the frame and of the world. Each operation, whenever all that it waits for has come up, keeps it; at the end all have come up. -/
theorem wp_region_inv {id : Nat} {a0 : Act} {w0 : World} (ord : List Nat) (hm : P.follows .mixedOrders = true) (hok : (ordOk ops [] ord && (List.range ops.size).all fun i => ord.contains i) = true) (I : (Nat → Bool) → Act → World → Prop)
    (h0 : I (fun _ => false) a0 w0.drew)
    (hs : ∀ (i : Nat) (L : Nat → Bool) (a : Act) (w : World), i < ops.size → L i = false → (∀ k ∈ depsOf ops i, L k = true) → I L a w → wpOp P ops Q i (fun a' w' => I (upd L i) a' w') a w)
    (he : ∀ (L : Nat → Bool) (a : Act) (w : World), (∀ k, k < ops.size → L k = true) → I L a w → Q .normal a w) : (Code.region id ops true).wp P Q a0 w0 := by
  simp only [Bool.and_eq_true] at hok
  refine wp_region_any hm ?_
  have main : ∀ (fuel : Nat) (listed : Array Bool) (a : Act) (w : World), listed.size = ops.size → I (fun k => listed.getD k false) a w → (List.range ops.size).countP (fun k => !listed.getD k false) ≤ fuel → wpAny P .any ops Q fuel listed a w := by
    have fin : ∀ (listed : Array Bool) (a : Act) (w : World), listed.size = ops.size → I (fun k => listed.getD k false) a w → Region.ready .any ops listed = [] → Q .normal a w := fun listed a w hsz hI hr =>
      he _ a w (fun k hk => all_listed hsz hr ord [] hok.1 (fun k hk => by cases hk) k (by simpa using List.all_eq_true.1 hok.2 k (List.mem_range.2 hk)) hk) hI
    intro fuel
    induction fuel with
    | zero =>
      intro listed a w hsz hI hc
      have hall : Region.ready .any ops listed = [] := by
        cases hr : Region.ready .any ops listed with
        | nil => rfl
        | cons i rest =>
          obtain ⟨hi, hl, _⟩ := mem_ready (show i ∈ Region.ready .any ops listed by rw [hr]; exact List.mem_cons_self ..)
          have hz : (List.range ops.size).countP (fun k => !listed.getD k false) = 0 := by omega
          rw [List.countP_eq_zero] at hz
          have := hz i (List.mem_range.2 hi)
          have hil : i < listed.size := by omega
          rw [Array.getD_eq_getD_getElem?, Array.getElem?_eq_getElem hil] at hl this
          simp at hl this
          rw [hl] at this; cases this
      exact ⟨hall, fin listed a w hsz hI hall⟩
    | succ fuel ih =>
      intro listed a w hsz hI hc
      refine ⟨fin listed a w hsz hI, fun i hi => ?_⟩
      obtain ⟨hlt, hl, hd⟩ := mem_ready hi
      have hil : i < listed.size := by omega
      have hlf : listed.getD i false = false := by
        rw [Array.getD_eq_getD_getElem?, Array.getElem?_eq_getElem hil] at hl ⊢
        simpa using hl
      refine wpOp_mono (fun a' w' hI' => ?_) (hs i (fun k => listed.getD k false) a w hlt hlf hd hI)
      have hfun : (fun k => (listed.setIfInBounds i true).getD k false) = upd (fun k => listed.getD k false) i := by
        funext k
        unfold upd
        simp only [Array.getD_eq_getD_getElem?, Array.getElem?_setIfInBounds]
        by_cases hk : i = k
        · subst hk; simp [hil]
        · simp [hk, Ne.symm hk]
      refine ih _ a' w' (by simpa using hsz) (by rw [hfun]; exact hI') ?_
      have hlt2 : (List.range ops.size).countP (fun k => !(listed.setIfInBounds i true).getD k false) < (List.range ops.size).countP (fun k => !listed.getD k false) := by
        refine countP_lt _ (fun k _ hk => ?_) i (List.mem_range.2 hlt) (by simp [hlf]) ?_
        · have h1 := congrFun hfun k
          simp only [h1, upd] at hk
          by_cases he : k = i
          · simp [he] at hk
          · simpa [he] using hk
        · have h1 := congrFun hfun i
          simp [h1, upd]
      omega
  refine main _ _ _ _ (by simp) ?_ ?_
  · have : (fun k => (Array.replicate ops.size false).getD k false) = fun _ => false := by
      funext k
      simp only [Array.getD_eq_getD_getElem?]
      by_cases hk : k < ops.size <;> simp [hk]
    rw [this]; exact h0
  · exact Nat.le_trans List.countP_le_length (by simp)
/-- The same, the invariant being told of the frame and the world at the region's beginning. -/
theorem wp_region_facts {id : Nat} {a0 : Act} {w0 : World} (ord : List Nat) (J : Act → World → (Nat → Bool) → Act → World → Prop) (hm : P.follows .mixedOrders = true) (hok : (ordOk ops [] ord && (List.range ops.size).all fun i => ord.contains i) = true)
    (h0 : J a0 w0 (fun _ => false) a0 w0.drew)
    (hs : ∀ (i : Nat) (L : Nat → Bool) (a : Act) (w : World), i < ops.size → L i = false → (∀ k ∈ depsOf ops i, L k = true) → J a0 w0 L a w → wpOp P ops Q i (fun a' w' => J a0 w0 (upd L i) a' w') a w)
    (he : ∀ (L : Nat → Bool) (a : Act) (w : World), (∀ k, k < ops.size → L k = true) → J a0 w0 L a w → Q .normal a w) : (Code.region id ops true).wp P Q a0 w0 :=
  wp_region_inv ord hm hok (J a0 w0) h0 hs he
end

/-- The frame is that of the region's beginning, but for the slots 'ds'. -/
def Fr (a0 : Act) (ds : List Nat) (a : Act) : Prop := a.defers = a0.defers ∧ a.tmps.size = a0.tmps.size ∧ ∀ t, t ∉ ds → a.tmps.getD t undef = a0.tmps.getD t undef
theorem Fr.refl (a0 : Act) (ds : List Nat) : Fr a0 ds a0 := ⟨rfl, rfl, fun _ _ => rfl⟩
theorem put_same {a : Act} {t : Nat} {v : Value} (h : t < a.tmps.size) : (a.put (some t) v).tmps.getD t undef = v := by
  simp [Act.put, Array.getD_eq_getD_getElem?, h]
theorem put_other {a : Act} {s t : Nat} {v : Value} (h : s ≠ t) : (a.put (some s) v).tmps.getD t undef = a.tmps.getD t undef := by
  simp [Act.put, Array.getD_eq_getD_getElem?, h]
theorem put_size {a : Act} {s : Nat} {v : Value} : (a.put (some s) v).tmps.size = a.tmps.size := by simp [Act.put]
theorem put_defers {a : Act} {s : Nat} {v : Value} : (a.put (some s) v).defers = a.defers := rfl
theorem Fr.put {a0 a : Act} {ds : List Nat} (h : Fr a0 ds a) {t : Nat} (ht : t ∈ ds) (v : Value) : Fr a0 ds (a.put (some t) v) :=
  ⟨h.1, put_size.trans h.2.1, fun s hs => (put_other (fun e : t = s => hs (by rw [← e]; exact ht))).trans (h.2.2 s hs)⟩
theorem puts_get (a : Act) : ∀ (ds : List Nat) (acc : Act) (t : Nat), t < acc.tmps.size → (ds.foldl (fun acc t => acc.put (some t) (a.tmps.getD t undef)) acc).tmps.getD t undef = if t ∈ ds then a.tmps.getD t undef else acc.tmps.getD t undef
  | [], acc, t, _ => by simp
  | d :: ds, acc, t, ht => by
    rw [List.foldl_cons, puts_get a ds _ t (by rw [put_size]; exact ht)]
    by_cases h1 : t ∈ ds
    · simp [h1]
    · by_cases h2 : d = t
      · subst h2; rw [if_neg h1, if_pos (List.mem_cons_self ..), put_same ht]
      · rw [if_neg h1, put_other h2, if_neg (by simp [h1, Ne.symm h2])]
theorem puts_rest (a : Act) : ∀ (ds : List Nat) (acc : Act), (ds.foldl (fun acc t => acc.put (some t) (a.tmps.getD t undef)) acc).tmps.size = acc.tmps.size ∧ (ds.foldl (fun acc t => acc.put (some t) (a.tmps.getD t undef)) acc).defers = acc.defers
  | [], acc => ⟨rfl, rfl⟩
  | d :: ds, acc => by
    obtain ⟨h1, h2⟩ := puts_rest a ds (acc.put (some d) (a.tmps.getD d undef))
    exact ⟨h1.trans put_size, h2⟩
theorem Fr.out {a0 a : Act} {ds : List Nat} (h : Fr a0 ds a) : a = ds.foldl (fun acc t => acc.put (some t) (a.tmps.getD t undef)) a0 := by
  obtain ⟨h1, h2, h3⟩ := h
  obtain ⟨r1, r2⟩ := puts_rest a ds a0
  have ht : a.tmps = (ds.foldl (fun acc t => acc.put (some t) (a.tmps.getD t undef)) a0).tmps := by
    apply Array.ext
    · rw [r1, h2]
    · intro i hi hi'
      have h := puts_get a ds a0 i (by omega)
      have e1 : a.tmps.getD i undef = a.tmps[i] := by simp [Array.getD_eq_getD_getElem?, hi]
      have e2 : ∀ (xs : Array Value) (hx : i < xs.size), xs.getD i undef = xs[i] := fun xs hx => by simp [Array.getD_eq_getD_getElem?, hx]
      rw [← e1, ← e2 _ hi', h]
      by_cases hm : i ∈ ds
      · rw [if_pos hm]
      · rw [if_neg hm, h3 i hm]
  cases a with
  | mk t d =>
    cases hb : (ds.foldl (fun acc t' => acc.put (some t') (({ tmps := t, defers := d } : Act).tmps.getD t' undef)) a0) with
    | mk t' d' =>
      rw [hb] at ht r2
      simp only at ht r2 h1
      rw [ht, h1, ← r2]
/-- FACTS that an invariant of a region is made of: of a slot, and of the world. They stand while other slots are written and new memory is made. -/
def SlF (t : Nat) (v : Value) : Act → World → Prop := fun a _ => a.tmps[t]?.getD undef = v
/-- Slot t points to a block of the region's own, of n cells. -/
def PtF (t : Nat) (B : Nat) (ty : TypeId) (n : Nat) : Act → World → Prop := fun a w => ∃ g, a.tmps[t]?.getD undef = .pointer (some ⟨g, 0, none⟩) ∧ B ≤ g ∧ ∃ cs : Array Value, cs.size = n ∧ Bk w g ty cs
def BkF (t : Nat) (B : Nat) (ty : TypeId) (cs : Array Value) : Act → World → Prop := fun a w => ∃ g, a.tmps[t]?.getD undef = .pointer (some ⟨g, 0, none⟩) ∧ B ≤ g ∧ Bk w g ty cs
theorem put_other' {a : Act} {s t : Nat} {v : Value} (h : s ≠ t) : (a.put (some s) v).tmps[t]?.getD undef = a.tmps[t]?.getD undef := by
  simp [Act.put, h]
theorem put_same' {a : Act} {t : Nat} {v : Value} (h : t < a.tmps.size) : (a.put (some t) v).tmps[t]?.getD undef = v := by
  simp [Act.put, h]
theorem SlF.put {t s : Nat} {v u : Value} {a : Act} {w w' : World} (h : SlF t v a w) (hs : s ≠ t) : SlF t v (a.put (some s) u) w' := (put_other' hs).trans h
theorem SlF.keep {t : Nat} {v : Value} {a : Act} {w w' : World} (h : SlF t v a w) : SlF t v a w' := h
theorem SlF.new {a : Act} {N : Nat} (hN : a.tmps.size = N) {t : Nat} (ht : t < N) {v : Value} {w : World} : SlF t v (a.put (some t) v) w := put_same' (by rw [hN]; exact ht)
theorem PtF.put {t s B n : Nat} {ty : TypeId} {u : Value} {a : Act} {w w' : World} (h : PtF t B ty n a w) (hs : s ≠ t) (hb : Below w.heap.size w w') : PtF t B ty n (a.put (some s) u) w' := by
  obtain ⟨g, h1, h2, cs, h3, h4⟩ := h
  exact ⟨g, (put_other' hs).trans h1, h2, cs, h3, h4.keep hb⟩
theorem PtF.keep {t B n : Nat} {ty : TypeId} {a : Act} {w w' : World} (h : PtF t B ty n a w) (hb : Below w.heap.size w w') : PtF t B ty n a w' := by
  obtain ⟨g, h1, h2, cs, h3, h4⟩ := h
  exact ⟨g, h1, h2, cs, h3, h4.keep hb⟩
theorem BkF.put {t s B : Nat} {ty : TypeId} {cs : Array Value} {u : Value} {a : Act} {w w' : World} (h : BkF t B ty cs a w) (hs : s ≠ t) (hb : Below w.heap.size w w') : BkF t B ty cs (a.put (some s) u) w' := by
  obtain ⟨g, h1, h2, h3⟩ := h
  exact ⟨g, (put_other' hs).trans h1, h2, h3.keep hb⟩
/-- A store of one cell, of two, into a block of the region's own. -/
theorem Bk.any_put {w : World} {g h i : Nat} {ty : TypeId} {cs : Array Value} {u : Value} (hk : Bk w g ty cs) : ∃ cs', cs'.size = cs.size ∧ Bk (w.setCell ⟨h, i, none⟩ u) g ty cs' := by
  by_cases e : g = h
  · subst e; exact ⟨_, by simp, hk.put i u⟩
  · exact ⟨cs, rfl, hk.far e u⟩
theorem PtF.stored {t B n h i : Nat} {ty : TypeId} {a : Act} {w : World} {u : Value} (hp : PtF t B ty n a w) : PtF t B ty n a (w.setCell ⟨h, i, none⟩ u) := by
  obtain ⟨g, h1, h2, cs, h3, h4⟩ := hp
  obtain ⟨cs', h5, h6⟩ := h4.any_put (h := h) (i := i) (u := u)
  exact ⟨g, h1, h2, cs', h5.trans h3, h6⟩
/-- Two slots do not point to one block. -/
def NeF (t s : Nat) : Act → World → Prop := fun a _ => ∀ g h : Nat, a.tmps[t]?.getD undef = .pointer (some ⟨g, 0, none⟩) → a.tmps[s]?.getD undef = .pointer (some ⟨h, 0, none⟩) → g ≠ h
theorem NeF.put {t s r : Nat} {u : Value} {a : Act} {w w' : World} (h : NeF t s a w) (h1 : r ≠ t) (h2 : r ≠ s) : NeF t s (a.put (some r) u) w' := fun g g' e e' => h g g' ((put_other' h1).symm.trans e) ((put_other' h2).symm.trans e')
theorem Bk.cells1 {w : World} {g : Nat} {ty : TypeId} {cs : Array Value} (h : Bk w g ty cs) (hs : cs.size = 1) : ∃ z0, w.cell? ⟨g, 0, none⟩ = some z0 :=
  ⟨cs[0], by rw [h.cell, Array.getElem?_eq_getElem]⟩
theorem Bk.cells2 {w : World} {g : Nat} {ty : TypeId} {cs : Array Value} (h : Bk w g ty cs) (hs : cs.size = 2) : ∃ z0 z1, w.cell? ⟨g, 0, none⟩ = some z0 ∧ w.cell? ⟨g, 1, none⟩ = some z1 :=
  ⟨cs[0], cs[1], by rw [h.cell, Array.getElem?_eq_getElem], by rw [h.cell, Array.getElem?_eq_getElem]⟩
theorem Bk.stored1 {w : World} {g : Nat} {ty : TypeId} {cs : Array Value} (h : Bk w g ty cs) (hs : cs.size = 1) (u : Value) : Bk (w.setCell ⟨g, 0, none⟩ u) g ty #[u] := by
  have := h.put 0 u
  have e : cs.setIfInBounds 0 u = #[u] := by
    apply Array.ext
    · simp [hs]
    · intro i hi hi'
      have h0 : i = 0 := by simp at hi'; omega
      subst h0; simp
  rwa [e] at this
theorem Bk.stored2 {w : World} {g : Nat} {ty : TypeId} {cs : Array Value} (h : Bk w g ty cs) (hs : cs.size = 2) (u v : Value) : Bk ((w.setCell ⟨g, 0, none⟩ u).setCell ⟨g, 1, none⟩ v) g ty #[u, v] := by
  have := (h.put 0 u).put 1 v
  have e : (cs.setIfInBounds 0 u).setIfInBounds 1 v = #[u, v] := by
    obtain ⟨l⟩ := cs
    match l, hs with
    | [x, y], _ => rfl
  rwa [e] at this
/-- A fact on what a slot holds, which stands while new memory is made. -/
structure StP where
  p : Value → World → Prop
  mono : ∀ (v : Value) (w w' : World), Below w.heap.size w w' → p v w → p v w'
/-- It holds v. -/
def cst (v : Value) : StP := ⟨fun u _ => u = v, fun _ _ _ _ h => h⟩
/-- It points to a block from B on, of n cells. -/
def ptr (B : Nat) (ty : TypeId) (n : Nat) : StP := ⟨fun u w => ∃ g, u = .pointer (some ⟨g, 0, none⟩) ∧ B ≤ g ∧ ∃ cs : Array Value, cs.size = n ∧ Bk w g ty cs, fun _ _ _ hb h => by
  obtain ⟨g, h1, h2, cs, h3, h4⟩ := h
  exact ⟨g, h1, h2, cs, h3, h4.keep hb⟩⟩
def slotsOk : List (Nat × StP) → List Nat → Bool
  | [], _ => true
  | (t, _) :: rest, seen => !seen.contains t && slotsOk rest (t :: seen)
theorem slotsOk_seen : ∀ {spec : List (Nat × StP)} {seen : List Nat}, slotsOk spec seen = true → ∀ (k t : Nat) (V : StP), spec[k]? = some (t, V) → t ∉ seen
  | [], _, _, k, t, V, h => by simp at h
  | (t0, V0) :: rest, seen, hk, k, t, V, h => by
    simp only [slotsOk, Bool.and_eq_true, Bool.not_eq_true'] at hk
    cases k with
    | zero => simp at h; obtain ⟨rfl, rfl⟩ := h; simpa using hk.1
    | succ k =>
      have := slotsOk_seen hk.2 k t V (by simpa using h)
      exact fun hm => this (List.mem_cons_of_mem _ hm)
theorem slotsOk_ne : ∀ {spec : List (Nat × StP)} {seen : List Nat}, slotsOk spec seen = true → ∀ (k j t s : Nat) (V U : StP), spec[k]? = some (t, V) → spec[j]? = some (s, U) → k ≠ j → t ≠ s
  | [], _, _, k, j, t, s, V, U, h, _, _ => by simp at h
  | (t0, V0) :: rest, seen, hk, k, j, t, s, V, U, h1, h2, hne => by
    simp only [slotsOk, Bool.and_eq_true, Bool.not_eq_true'] at hk
    cases k with
    | zero =>
      cases j with
      | zero => exact absurd rfl hne
      | succ j =>
        simp at h1; obtain ⟨rfl, rfl⟩ := h1
        have := slotsOk_seen hk.2 j s U (by simpa using h2)
        exact fun e => this (e ▸ List.mem_cons_self ..)
    | succ k =>
      cases j with
      | zero =>
        simp at h2; obtain ⟨rfl, rfl⟩ := h2
        have := slotsOk_seen hk.2 k t V (by simpa using h1)
        exact fun e => this (e ▸ List.mem_cons_self ..)
      | succ j => exact slotsOk_ne hk.2 k j t s V U (by simpa using h1) (by simpa using h2) (fun e => hne (by rw [e]))

section
variable {P : Program} {ops : Array Oper} {Q : Exit → Act → World → Prop}
/-- What holds when the operations of L have come up. -/
def Facts (a0 : Act) (w0 : World) (spec : List (Nat × StP)) (L : Nat → Bool) (a : Act) (w : World) : Prop :=
  Fr a0 (spec.map (·.1)) a ∧ Below w0.heap.size w0 w ∧ ∀ (k t : Nat) (V : StP), spec[k]? = some (t, V) → L k = true → V.p (a.tmps[t]?.getD undef) w
/-- What is left to be done of the tail, which goes in its order. -/
def wpTail (P : Program) (ops : Array Oper) (Q : Exit → Act → World → Prop) : Nat → Nat → Act → World → Prop
  | 0, _, a, w => Q .normal a w
  | n + 1, i, a, w => wpOp P ops Q i (wpTail P ops Q n (i + 1)) a w

/-- THE RULE, for operations that leave in a slot of their own what is known ahead; behind them a tail (stores), each of which waits for all that stands ahead of it. -/
theorem wp_region_vals {id : Nat} {a0 : Act} {w0 : World} (ord : List Nat) (spec : List (Nat × StP)) (nt : Nat) (hm : P.follows .mixedOrders = true) (hok : (ordOk ops [] ord && (List.range ops.size).all fun i => ord.contains i) = true) (hsl : slotsOk spec [] = true)
    (hsz : spec.length + nt = ops.size) (hlt : (spec.all fun x => decide (x.1 < a0.tmps.size)) = true)
    (htl : ((List.range nt).all fun j => (List.range (spec.length + j)).all fun k => (depsOf ops (spec.length + j)).contains k) = true)
    (hs : ∀ (i : Nat) (t : Nat) (V : StP) (a : Act) (w : World), spec[i]? = some (t, V) → Fr a0 (spec.map (·.1)) a → Below w0.heap.size w0 w → (∀ k ∈ depsOf ops i, ∀ (s : Nat) (U : StP), spec[k]? = some (s, U) → U.p (a.tmps[s]?.getD undef) w) →
      wpOp P ops Q i (fun a' w' => ∃ v, a' = a.put (some t) v ∧ Below w.heap.size w w' ∧ V.p v w') a w)
    (he : ∀ (a : Act) (w : World), Fr a0 (spec.map (·.1)) a → Below w0.heap.size w0 w → (∀ (k t : Nat) (V : StP), spec[k]? = some (t, V) → V.p (a.tmps[t]?.getD undef) w) → wpTail P ops Q nt spec.length a w) : (Code.region id ops true).wp P Q a0 w0 := by
  have htl' : ∀ j, j < nt → ∀ k, k < spec.length + j → k ∈ depsOf ops (spec.length + j) := fun j hj k hk => by
    have := List.all_eq_true.1 (List.all_eq_true.1 htl j (List.mem_range.2 hj)) k (List.mem_range.2 hk)
    simpa using this
  have hlt' : ∀ (k t : Nat) (V : StP), spec[k]? = some (t, V) → t < a0.tmps.size := fun k t V h => by
    have := List.all_eq_true.1 hlt (t, V) (List.mem_iff_getElem?.2 ⟨k, h⟩)
    simpa using this
  refine wp_region_inv ord hm hok (fun L a w => ((∀ j, j < nt → L (spec.length + j) = false) ∧ Facts a0 w0 spec L a w) ∨ (∃ j, 0 < j ∧ j ≤ nt ∧ (∀ k, k < spec.length → L k = true) ∧ (∀ s, s < nt → (L (spec.length + s) = true ↔ s < j)) ∧ wpTail P ops Q (nt - j) (spec.length + j) a w)) ?_ ?_ ?_
  · exact .inl ⟨fun _ _ => rfl, Fr.refl _ _, (Below.refl _ _).drew, fun _ _ _ _ h => by cases h⟩
  · intro i L a w hi hL hd hI
    rcases hI with ⟨ht, hF, hB, hv⟩ | ⟨j, hj0, hj, hLa, hLt, hw⟩
    · by_cases him : i < spec.length
      · have hsp : spec[i]? = some (spec[i].1, spec[i].2) := by rw [List.getElem?_eq_getElem him]
        refine wpOp_mono ?_ (hs i _ _ a w hsp hF hB (fun k hk s U hU => hv k s U hU (hd k hk)))
        rintro a' w' ⟨v, rfl, hb, hV⟩
        refine .inl ⟨fun j hj => ?_, hF.put (List.mem_map.2 ⟨spec[i], List.getElem_mem him, rfl⟩) v, hB.trans (hb.mono hB.size), fun k t V hk hLk => ?_⟩
        · show upd L i (spec.length + j) = false
          unfold upd
          rw [if_neg (by omega)]
          exact ht j hj
        · by_cases hki : k = i
          · subst hki
            rw [hsp] at hk
            obtain ⟨rfl, rfl⟩ := Prod.mk.inj (Option.some.inj hk)
            have hsz' : spec[k].1 < a.tmps.size := by rw [hF.2.1]; exact hlt' k _ _ hsp
            have : (a.put (some spec[k].1) v).tmps[spec[k].1]?.getD undef = v := by simp [Act.put, hsz']
            rw [this]; exact hV
          · have hne := slotsOk_ne hsl i k spec[i].1 t spec[i].2 V hsp hk (Ne.symm hki)
            have : (a.put (some spec[i].1) v).tmps[t]?.getD undef = a.tmps[t]?.getD undef := by simp [Act.put, hne]
            rw [this]
            refine V.mono _ _ _ hb (hv k t V hk ?_)
            have hLk' : (if k = i then true else L k) = true := hLk
            rwa [if_neg hki] at hLk'
      · have hi0 : i = spec.length := by
          have h1 : spec.length ∉ depsOf ops i ∨ spec.length = i ∨ ¬ spec.length < i := by
            by_cases h : spec.length < i
            · left
              intro hmem
              have h2 := hd _ hmem
              have h3 := ht 0 (by omega)
              rw [Nat.add_zero] at h3
              rw [h3] at h2; cases h2
            · right; right; exact h
          rcases h1 with h1 | h1 | h1
          · by_cases h : spec.length < i
            · have := htl' (i - spec.length) (by omega) spec.length (by omega)
              rw [show spec.length + (i - spec.length) = i from by omega] at this
              exact absurd this h1
            · omega
          · exact h1.symm
          · omega
        subst hi0
        have hnt : 0 < nt := by omega
        have hall : ∀ (k t : Nat) (V : StP), spec[k]? = some (t, V) → V.p (a.tmps[t]?.getD undef) w := fun k t V hk => by
          have hkl : k < spec.length := (List.getElem?_eq_some_iff.1 hk).1
          have hmem := htl' 0 hnt k (by omega)
          rw [Nat.add_zero] at hmem
          exact hv k t V hk (hd k hmem)
        have hT := he a w hF hB hall
        obtain ⟨n, rfl⟩ : ∃ n, nt = n + 1 := ⟨nt - 1, by omega⟩
        refine wpOp_mono (fun a' w' h => ?_) hT
        refine .inr ⟨1, by omega, by omega, fun k hk => ?_, fun s hs' => ?_, by simpa using h⟩
        · show upd L _ _ = true
          unfold upd
          rw [if_neg (by omega)]
          have hmem := htl' 0 hnt k (by omega)
          rw [Nat.add_zero] at hmem
          exact hd k hmem
        · show upd L _ _ = true ↔ s < 1
          unfold upd
          by_cases h0 : s = 0
          · subst h0; simp
          · rw [if_neg (by omega), ht s hs']; simp; omega
    · have hil : i = spec.length + j := by
        have hge : spec.length + j ≤ i := by
          by_cases hlt : i < spec.length
          · rw [hLa i hlt] at hL; cases hL
          · by_cases h2 : i < spec.length + j
            · have := (hLt (i - spec.length) (by omega)).2 (by omega)
              rw [show spec.length + (i - spec.length) = i from by omega] at this
              rw [this] at hL; cases hL
            · omega
        by_cases h2 : i = spec.length + j
        · exact h2
        · have h3 : spec.length + j ∈ depsOf ops i := by
            have := htl' (i - spec.length) (by omega) (spec.length + j) (by omega)
            rwa [show spec.length + (i - spec.length) = i from by omega] at this
          have h4 := (hLt j (by omega)).1 (hd _ h3)
          omega
      subst hil
      have hjn : j < nt := by omega
      obtain ⟨n, hn⟩ : ∃ n, nt - j = n + 1 := ⟨nt - j - 1, by omega⟩
      rw [hn] at hw
      refine wpOp_mono (fun a' w' h => ?_) hw
      refine .inr ⟨j + 1, by omega, by omega, fun k hk => ?_, fun s hs' => ?_, ?_⟩
      · show upd L _ _ = true
        unfold upd
        rw [if_neg (by omega)]
        exact hLa k hk
      · show upd L _ _ = true ↔ s < j + 1
        unfold upd
        by_cases h0 : s = j
        · subst h0; simp
        · rw [if_neg (by omega), hLt s hs']; omega
      · rw [show nt - (j + 1) = n from by omega, show spec.length + (j + 1) = spec.length + j + 1 from by omega]
        exact h
  · intro L a w hall hI
    rcases hI with ⟨ht, hF, hB, hv⟩ | ⟨j, hj0, hj, hLa, hLt, hw⟩
    · cases nt with
      | zero => exact he a w hF hB (fun k t V hk => hv k t V hk (hall k (by have := (List.getElem?_eq_some_iff.1 hk).1; omega)))
      | succ n =>
        have h1 := ht 0 (by omega)
        rw [hall _ (by omega)] at h1; cases h1
    · have hjn : j = nt := by
        by_cases h : j < nt
        · have := (hLt j h).1 (hall _ (by omega)); omega
        · omega
      subst hjn
      rw [Nat.sub_self] at hw
      exact hw
/-- What is to be shown of each operation, one after the other. -/
def AllOps (P : Program) (ops : Array Oper) (Q : Exit → Act → World → Prop) (a0 : Act) (w0 : World) (spec : List (Nat × StP)) : List (Nat × StP) → Nat → Prop
  | [], _ => True
  | (t, V) :: rest, i => (∀ (a : Act) (w : World), Fr a0 (spec.map (·.1)) a → Below w0.heap.size w0 w → (∀ k ∈ depsOf ops i, ∀ (s : Nat) (U : StP), spec[k]? = some (s, U) → U.p (a.tmps[s]?.getD undef) w) →
      wpOp P ops Q i (fun a' w' => ∃ v, a' = a.put (some t) v ∧ Below w.heap.size w w' ∧ V.p v w') a w) ∧ AllOps P ops Q a0 w0 spec rest (i + 1)
theorem AllOps.at_ {a0 : Act} {w0 : World} {spec : List (Nat × StP)} : ∀ {rest : List (Nat × StP)} {j : Nat}, AllOps P ops Q a0 w0 spec rest j → ∀ (i t : Nat) (V : StP) (a : Act) (w : World), rest[i]? = some (t, V) → Fr a0 (spec.map (·.1)) a → Below w0.heap.size w0 w → (∀ k ∈ depsOf ops (j + i), ∀ (s : Nat) (U : StP), spec[k]? = some (s, U) → U.p (a.tmps[s]?.getD undef) w) →
      wpOp P ops Q (j + i) (fun a' w' => ∃ v, a' = a.put (some t) v ∧ Below w.heap.size w w' ∧ V.p v w') a w
  | [], _, _, i, t, V, _, _, h, _, _, _ => by simp at h
  | (t0, V0) :: rest, j, hA, i, t, V, a, w, h, hF, hB, hd => by
    obtain ⟨h0, hr⟩ := hA
    cases i with
    | zero =>
      simp at h
      obtain ⟨rfl, rfl⟩ := h
      exact h0 a w hF hB hd
    | succ i =>
      have := AllOps.at_ hr i t V a w (by simpa using h) hF hB (by rw [show j + 1 + i = j + (i + 1) from by omega]; exact hd)
      rw [show j + 1 + i = j + (i + 1) from by omega] at this
      exact this
theorem wp_region_spec {id : Nat} {a0 : Act} {w0 : World} (ord : List Nat) (spec : List (Nat × StP)) (nt : Nat) (hm : P.follows .mixedOrders = true) (hok : (ordOk ops [] ord && (List.range ops.size).all fun i => ord.contains i) = true) (hsl : slotsOk spec [] = true)
    (hsz : spec.length + nt = ops.size) (hlt : (spec.all fun x => decide (x.1 < a0.tmps.size)) = true)
    (htl : ((List.range nt).all fun j => (List.range (spec.length + j)).all fun k => (depsOf ops (spec.length + j)).contains k) = true)
    (hs : AllOps P ops Q a0 w0 spec spec 0)
    (he : ∀ (a : Act) (w : World), Fr a0 (spec.map (·.1)) a → Below w0.heap.size w0 w → (∀ (k t : Nat) (V : StP), spec[k]? = some (t, V) → V.p (a.tmps[t]?.getD undef) w) → wpTail P ops Q nt spec.length a w) : (Code.region id ops true).wp P Q a0 w0 :=
  wp_region_vals ord spec nt hm hok hsl hsz hlt htl (fun i t V a w h hF hB hd => by
    have := hs.at_ i t V a w h hF hB (by rw [Nat.zero_add]; exact hd)
    rwa [Nat.zero_add] at this) he
end
/-! THE SAME, one operation after the other: what it leaves is found on the way. -/
theorem tmp_bool {a : Act} {t : Nat} {b : Bool} (h : a.tmps[t]?.getD undef = .bool b) : a.tmps[t]? = some (.bool b) := by
  cases hx : a.tmps[t]? with
  | none => rw [hx] at h; cases h
  | some v => rw [hx] at h; rw [← h]; rfl
theorem cst_ok {v : Value} {w : World} : (cst v).p v w := rfl
section
variable {P : Program} {ops : Array Oper} {Q : Exit → Act → World → Prop}
/-- Operation i leaves V in slot t, whenever what it waits for has left what sp says (the last one first). -/
def OpH (P : Program) (ops : Array Oper) (Q : Exit → Act → World → Prop) (a0 : Act) (w0 : World) (ds : List Nat) (sp : List (Nat × StP)) (i t : Nat) (V : StP) : Prop :=
  ∀ (a : Act) (w : World), Fr a0 ds a → Below w0.heap.size w0 w → (∀ k ∈ depsOf ops i, ∀ (j s : Nat) (U : StP), j + k + 1 = sp.length → sp[j]? = some (s, U) → U.p (a.tmps[s]?.getD undef) w) →
    wpOp P ops Q i (fun a' w' => ∃ v, a' = a.put (some t) v ∧ Below w.heap.size w w' ∧ V.p v w') a w
def RegW (P : Program) (ops : Array Oper) (Q : Exit → Act → World → Prop) (a0 : Act) (w0 : World) (ds : List Nat) (nt : Nat) : List (Nat × StP) → List Nat → Prop
  | sp, [] => ∀ (a : Act) (w : World), Fr a0 ds a → Below w0.heap.size w0 w → (∀ (j t : Nat) (V : StP), sp[j]? = some (t, V) → V.p (a.tmps[t]?.getD undef) w) → wpTail P ops Q nt sp.length a w
  | sp, t :: todo => ∃ V, OpH P ops Q a0 w0 ds sp sp.length t V ∧ RegW P ops Q a0 w0 ds nt ((t, V) :: sp) todo
theorem RegW.op {a0 : Act} {w0 : World} {ds : List Nat} {nt : Nat} {sp : List (Nat × StP)} {t : Nat} {todo : List Nat} (i : Nat) (hi : sp.length = i) (V : StP) (h : OpH P ops Q a0 w0 ds sp i t V) (r : RegW P ops Q a0 w0 ds nt ((t, V) :: sp) todo) : RegW P ops Q a0 w0 ds nt sp (t :: todo) := by
  subst hi; exact ⟨V, h, r⟩
theorem RegW.val {a0 : Act} {w0 : World} {ds : List Nat} {nt : Nat} {sp : List (Nat × StP)} {t : Nat} {todo : List Nat} {v : Value} (i : Nat) (hi : sp.length = i) (h : OpH P ops Q a0 w0 ds sp i t (cst v)) (r : RegW P ops Q a0 w0 ds nt ((t, cst v) :: sp) todo) : RegW P ops Q a0 w0 ds nt sp (t :: todo) := RegW.op i hi (cst v) h r
theorem RegW.all {a0 : Act} {w0 : World} {ds : List Nat} {nt : Nat} : ∀ {todo : List Nat} {sp : List (Nat × StP)}, RegW P ops Q a0 w0 ds nt sp todo → ∃ pre : List (Nat × StP), (pre ++ sp).reverse.map (·.1) = sp.reverse.map (·.1) ++ todo ∧
      (∀ (i t : Nat) (V : StP), sp.length ≤ i → (pre ++ sp).reverse[i]? = some (t, V) → OpH P ops Q a0 w0 ds ((pre ++ sp).drop ((pre ++ sp).length - i)) i t V) ∧
      (∀ (a : Act) (w : World), Fr a0 ds a → Below w0.heap.size w0 w → (∀ (k t : Nat) (V : StP), (pre ++ sp)[k]? = some (t, V) → V.p (a.tmps[t]?.getD undef) w) → wpTail P ops Q nt (pre ++ sp).length a w)
  | [], sp, h => ⟨[], by simp, (fun i t V hi he => by
      rw [List.getElem?_eq_none (by simpa using hi)] at he
      cases he), h⟩
  | t :: todo, sp, h => by
    obtain ⟨V, ho, hr⟩ := h
    obtain ⟨pre, h1, h2, h3⟩ := RegW.all hr
    refine ⟨pre ++ [(t, V)], by simpa using h1, fun i t' V' hi he => ?_, by simpa using h3⟩
    have hap : pre ++ [(t, V)] ++ sp = pre ++ (t, V) :: sp := by simp
    rw [hap] at he ⊢
    by_cases hie : i = sp.length
    · subst hie
      have h5 : (pre ++ (t, V) :: sp).length - sp.length = pre.length + 1 := by simp; omega
      have h6 : (pre ++ (t, V) :: sp).drop (pre.length + 1) = sp := by
        rw [List.drop_append]; simp
      have h7 : (pre ++ (t, V) :: sp).reverse[sp.length]? = some (t, V) := by
        rw [List.reverse_append, List.getElem?_append_left (by simp), List.reverse_cons, List.getElem?_append_right (by simp)]
        simp
      rw [h7] at he
      obtain ⟨rfl, rfl⟩ := Prod.mk.inj (Option.some.inj he)
      rw [h5, h6]; exact ho
    · exact h2 i t' V' (by simp; omega) he
theorem seen_of : ∀ {spec : List (Nat × StP)} {seen : List Nat}, (slotsOk ((spec.map (·.1)).map fun t => (t, cst undef)) seen = true) → slotsOk spec seen = true
  | [], _, _ => rfl
  | (t, V) :: rest, seen, h => by
    simp only [List.map_cons, slotsOk, Bool.and_eq_true] at h ⊢
    exact ⟨h.1, seen_of h.2⟩
/-- THE RULE: 'ds' are the slots that the operations leave something in, in their order; nt operations stand behind them, and wait for all. -/
theorem wp_region_walk {id : Nat} {a0 : Act} {w0 : World} (ord ds : List Nat) (nt : Nat) (hm : P.follows .mixedOrders = true) (hok : (ordOk ops [] ord && (List.range ops.size).all fun i => ord.contains i) = true) (hsl : slotsOk (ds.map fun t => (t, cst undef)) [] = true)
    (hsz : ds.length + nt = ops.size) (hlt : (ds.all fun t => decide (t < a0.tmps.size)) = true)
    (htl : ((List.range nt).all fun j => (List.range (ds.length + j)).all fun k => (depsOf ops (ds.length + j)).contains k) = true)
    (hdp : ((List.range ops.size).all fun i => (depsOf ops i).all fun k => decide (k < i)) = true)
    (h : RegW P ops Q a0 w0 ds nt [] ds) : (Code.region id ops true).wp P Q a0 w0 := by
  obtain ⟨pre, h1, h3, h4⟩ := h.all
  simp only [List.append_nil, List.reverse_nil, List.map_nil, List.nil_append] at h1 h3 h4
  have hlen : pre.length = ds.length := by rw [← h1]; simp
  have hmap : pre.reverse.map (·.1) = ds := h1
  refine wp_region_vals ord pre.reverse nt hm hok (seen_of (by rw [hmap]; exact hsl)) (by rw [List.length_reverse, hlen]; exact hsz) (by
    rw [← hmap, List.all_map] at hlt; exact hlt) (by rw [List.length_reverse, hlen]; exact htl) (fun i t V a w hs hF hB hd => ?_) (fun a w hF hB hv => ?_)
  · rw [hmap] at hF
    have hi : i < pre.length := by simpa using (List.getElem?_eq_some_iff.1 hs).1
    refine h3 i t V (Nat.zero_le _) hs a w hF hB (fun k hk j s U hj hsU => hd k hk s U ?_)
    have hiops : i < ops.size := by omega
    have hki : k < i := by
      have := List.all_eq_true.1 (List.all_eq_true.1 hdp i (List.mem_range.2 hiops)) k hk
      simpa using this
    rw [List.length_drop] at hj
    rw [List.getElem?_drop] at hsU
    rw [List.getElem?_reverse (by omega)]
    rw [← hsU]
    congr 1
    omega
  · rw [hmap] at hF
    rw [List.length_reverse]
    refine h4 a w hF hB (fun k t V hk => hv (pre.length - 1 - k) t V ?_)
    have hkl : k < pre.length := (List.getElem?_eq_some_iff.1 hk).1
    rw [List.getElem?_reverse (by omega)]
    rw [← hk]
    congr 1
    omega
/-- Is this what lets the operation out, whose guard wants 'want'? -/
def guardOff (v : Value) (want : Bool) : Bool := match v with | .bool b => b != want | _ => true
theorem yielded_off {ops : Array Oper} {tmps : Array Value} {j tj : Nat} {oj : Oper} {v : Value} {want : Bool} (ho : ops[j]? = some oj) (hd : oj.dst = some tj) (h : tmps[tj]?.getD undef = v) (hv : guardOff v want = true) : (yielded ops tmps j == some want) = false := by
  unfold yielded
  simp [ho, hd]
  cases hx : tmps[tj]? with
  | none => exact nofun
  | some u =>
    rw [hx] at h
    simp at h
    subst h
    intro hh
    cases u with
    | bool b =>
      have hb : b = want := Option.some.inj hh
      subst hb
      simp [guardOff] at hv
    | _ => cases hh
/-- An operation that its guard lets out. -/
theorem RegW.skip {a0 : Act} {w0 : World} {ds : List Nat} {nt : Nat} {sp : List (Nat × StP)} {t : Nat} {todo : List Nat} (i j tj : Nat) (v : Value) (oi oj : Oper) (want : Bool) (hi : sp.length = i) (hoi : ops[i]? = some oi) (hgd : oi.guard = some (j, want)) (hdst : oi.dst = some t) (hoj : ops[j]? = some oj) (hdj : oj.dst = some tj)
    (hdep : (depsOf ops i).contains j = true) (q : Nat) (hq : q + j + 1 = sp.length) (hsp : sp[q]? = some (tj, cst v)) (hne : guardOff v want = true) (r : RegW P ops Q a0 w0 ds nt ((t, cst undef) :: sp) todo) : RegW P ops Q a0 w0 ds nt sp (t :: todo) := by
  refine RegW.op i hi (cst undef) (fun a w hF hB hd => ?_) r
  have hv : a.tmps[tj]?.getD undef = v := hd j (by simpa using hdep) q tj (cst v) hq hsp
  refine wpOp_step hoi (fun K' hK => ?_)
  have hw : Region.wanted oi (yielded ops a.tmps) = false := by
    unfold Region.wanted
    rw [hgd]
    exact yielded_off hoj hdj hv hne
  rw [if_neg (by rw [hw]; exact Bool.false_ne_true), hdst]
  exact hK _ _ ⟨_, rfl, Below.refl _ _, cst_ok⟩
theorem RegW.done {a0 : Act} {w0 : World} {ds : List Nat} {sp : List (Nat × StP)}
    (h : ∀ (a : Act) (w : World), Fr a0 ds a → Below w0.heap.size w0 w → (∀ (j t : Nat) (V : StP), sp[j]? = some (t, V) → V.p (a.tmps[t]?.getD undef) w) → Q .normal a w) : RegW P ops Q a0 w0 ds 0 sp [] := h
theorem RegW.tail1 {a0 : Act} {w0 : World} {ds : List Nat} {sp : List (Nat × StP)} (n : Nat) (hn : sp.length = n)
    (h : ∀ (a : Act) (w : World), Fr a0 ds a → Below w0.heap.size w0 w → (∀ (j t : Nat) (V : StP), sp[j]? = some (t, V) → V.p (a.tmps[t]?.getD undef) w) → wpOp P ops Q n (fun a w => Q .normal a w) a w) : RegW P ops Q a0 w0 ds 1 sp [] := by
  subst hn; exact h
theorem RegW.tail2 {a0 : Act} {w0 : World} {ds : List Nat} {sp : List (Nat × StP)} (n : Nat) (hn : sp.length = n)
    (h : ∀ (a : Act) (w : World), Fr a0 ds a → Below w0.heap.size w0 w → (∀ (j t : Nat) (V : StP), sp[j]? = some (t, V) → V.p (a.tmps[t]?.getD undef) w) → wpOp P ops Q n (fun a w => wpOp P ops Q (n + 1) (fun a w => Q .normal a w) a w) a w) : RegW P ops Q a0 w0 ds 2 sp [] := by
  subst hn; exact h
end

/-! A region that does not draw, by the same walk: its operations in their order. -/
section
variable {P : Program} {ops : Array Oper} {Q : Exit → Act → World → Prop}
theorem wp_region_seq {id : Nat} {a0 : Act} {w0 : World} (ds : List Nat) (hsl : slotsOk (ds.map fun t => (t, cst undef)) [] = true)
    (hsz : ds.length = ops.size) (hlt : (ds.all fun t => decide (t < a0.tmps.size)) = true)
    (hdp : ((List.range ops.size).all fun i => (depsOf ops i).all fun k => decide (k < i)) = true)
    (h : RegW P ops Q a0 w0 ds 0 [] ds) : (Code.region id ops false).wp P Q a0 w0 := by
  obtain ⟨pre, h1, h3, h4⟩ := h.all
  simp only [List.append_nil, List.reverse_nil, List.map_nil, List.nil_append] at h1 h3 h4
  have hlen : pre.length = ds.length := by rw [← h1]; simp
  have hmap : pre.reverse.map (·.1) = ds := h1
  have hok : slotsOk pre.reverse [] = true := seen_of (by rw [hmap]; exact hsl)
  have hlt' : ∀ (k t : Nat) (V : StP), pre.reverse[k]? = some (t, V) → t < a0.tmps.size := fun k t V hk => by
    have hm : t ∈ ds := by rw [← hmap]; exact List.mem_map.2 ⟨(t, V), List.mem_of_getElem? hk, rfl⟩
    have := List.all_eq_true.1 hlt t hm
    simpa using this
  have main : ∀ (m i : Nat) (a : Act) (w : World), i + m = ops.size → Fr a0 ds a → Below w0.heap.size w0 w → (∀ (k t : Nat) (V : StP), k < i → pre.reverse[k]? = some (t, V) → V.p (a.tmps[t]?.getD undef) w) → wpOps P ops Q (List.range' i m) a w := by
    intro m
    induction m with
    | zero =>
      intro i a w him hF hB hv
      show Q .normal a w
      refine h4 a w hF hB (fun k t V hk => ?_)
      have hkl : k < pre.length := (List.getElem?_eq_some_iff.1 hk).1
      refine hv (pre.length - 1 - k) t V (by omega) ?_
      rw [List.getElem?_reverse (by omega), ← hk]
      congr 1
      omega
    | succ m ih =>
      intro i a w him hF hB hv
      rw [List.range'_succ, wpOps_cons]
      have hil : i < pre.reverse.length := by rw [List.length_reverse]; omega
      obtain ⟨t, V, hi⟩ : ∃ t V, pre.reverse[i]? = some (t, V) := ⟨_, _, List.getElem?_eq_getElem hil⟩
      refine wpOp_mono ?_ (h3 i t V (Nat.zero_le _) hi a w hF hB (fun k hk j s U hj hsU => ?_))
      · rintro a' w' ⟨v, rfl, hb, hV⟩
        have htm : t ∈ ds := by rw [← hmap]; exact List.mem_map.2 ⟨(t, V), List.mem_of_getElem? hi, rfl⟩
        refine ih (i + 1) _ w' (by omega) (hF.put htm v) (hB.trans (hb.mono hB.size)) (fun k s U hk hs => ?_)
        by_cases hki : k = i
        · subst hki
          rw [hi] at hs
          obtain ⟨rfl, rfl⟩ := Prod.mk.inj (Option.some.inj hs)
          rw [put_same' (by rw [hF.2.1]; exact hlt' k _ _ hi)]
          exact hV
        · rw [put_other' (slotsOk_ne hok i k t s V U hi hs (Ne.symm hki))]
          exact U.mono _ _ _ hb (hv k s U (by omega) hs)
      · have hki : k < i := by
          have := List.all_eq_true.1 (List.all_eq_true.1 hdp i (List.mem_range.2 (by omega))) k hk
          simpa using this
        refine hv k s U hki ?_
        rw [List.length_drop] at hj
        rw [List.getElem?_drop] at hsU
        rw [List.getElem?_reverse (by omega), ← hsU]
        congr 1
        omega
  refine wp_region ?_
  rw [List.range_eq_range']
  exact main ops.size 0 a0 w0 (by omega) (Fr.refl _ _) (Below.refl _ _) (fun k _ _ hk => absurd hk (by omega))
end

/-! A STORE AMONG THEM: one operation that stores into memory of the region's own; what is said of memory that it could turn is wanted no longer when it comes up. -/
def Set1 (B : Nat) (w w' : World) : Prop := ∃ g i u, B ≤ g ∧ w' = w.setCell ⟨g, i, none⟩ u
def Sets (B : Nat) (w w' : World) : Prop := Set1 B w w' ∨ ∃ wm, Set1 B w wm ∧ Set1 B wm w'
theorem Below.set1 {B : Nat} {w0 w w' : World} (h : Below B w0 w) (hs : Set1 B w w') : Below B w0 w' := by
  obtain ⟨g, i, u, hg, rfl⟩ := hs
  exact h.setCell hg u
theorem Below.sets {B : Nat} {w0 w w' : World} (h : Below B w0 w) (hs : Sets B w w') : Below B w0 w' := by
  rcases hs with hs | ⟨wm, h1, h2⟩
  · exact Below.set1 h hs
  · exact Below.set1 (Below.set1 h h1) h2
/-- It stands whatever is stored. -/
def StP.Stable (V : StP) : Prop := ∀ (v : Value) (w : World) (g i : Nat) (u : Value), V.p v w → V.p v (w.setCell ⟨g, i, none⟩ u)
theorem StP.Stable.sets {V : StP} (h : V.Stable) {B : Nat} {v : Value} {w w' : World} (hp : V.p v w) (hs : Sets B w w') : V.p v w' := by
  rcases hs with ⟨g, i, u, _, rfl⟩ | ⟨wm, ⟨g, i, u, _, rfl⟩, ⟨g', i', u', _, rfl⟩⟩
  · exact h v w g i u hp
  · exact h _ _ _ _ _ (h v w g i u hp)
theorem cst_stable (v : Value) : (cst v).Stable := fun _ _ _ _ _ h => h
theorem ptr_stable (B : Nat) (ty : TypeId) (n : Nat) : (ptr B ty n).Stable := fun v w g i u h => by
  obtain ⟨q, h1, h2, cs, h3, h4⟩ := h
  obtain ⟨cs', h5, h6⟩ := h4.any_put (h := g) (i := i) (u := u)
  exact ⟨q, h1, h2, cs', h5.trans h3, h6⟩
abbrev En := Option (Nat × StP × Option Nat)
def slotsOf : List En → List Nat
  | [] => []
  | none :: r => slotsOf r
  | some (t, _, _) :: r => t :: slotsOf r
theorem slotsOf_mem {t : Nat} {V : StP} {o : Option Nat} : ∀ {spec : List En} {k : Nat}, spec[k]? = some (some (t, V, o)) → t ∈ slotsOf spec
  | [], k, h => by simp at h
  | none :: r, 0, h => by simp at h
  | some (t0, V0, o0) :: r, 0, h => by
    simp at h
    obtain ⟨rfl, rfl, rfl⟩ := h
    exact List.mem_cons_self ..
  | none :: r, k + 1, h => slotsOf_mem (spec := r) (k := k) (by simpa using h)
  | some (t0, V0, o0) :: r, k + 1, h => List.mem_cons_of_mem _ (slotsOf_mem (spec := r) (k := k) (by simpa using h))
def nodupB : List Nat → Bool
  | [] => true
  | x :: l => !l.contains x && nodupB l
theorem slotsOf_ne {t s : Nat} {V U : StP} {o q : Option Nat} : ∀ {spec : List En} {k j : Nat}, nodupB (slotsOf spec) = true → spec[k]? = some (some (t, V, o)) → spec[j]? = some (some (s, U, q)) → k ≠ j → t ≠ s
  | [], k, j, _, h, _, _ => by simp at h
  | none :: r, 0, j, _, h, _, _ => by simp at h
  | none :: r, k + 1, 0, _, _, h, _ => by simp at h
  | none :: r, k + 1, j + 1, hn, h1, h2, hne => slotsOf_ne (spec := r) hn (by simpa using h1) (by simpa using h2) (fun e => hne (by rw [e]))
  | some (t0, V0, o0) :: r, 0, 0, _, _, _, hne => absurd rfl hne
  | some (t0, V0, o0) :: r, 0, j + 1, hn, h1, h2, _ => by
    simp at h1
    obtain ⟨rfl, rfl, rfl⟩ := h1
    simp only [slotsOf, nodupB, Bool.and_eq_true, Bool.not_eq_true'] at hn
    have := slotsOf_mem (spec := r) (k := j) (by simpa using h2)
    rintro rfl
    have h3 := hn.1
    simp [this] at h3
  | some (t0, V0, o0) :: r, k + 1, 0, hn, h1, h2, _ => by
    simp at h2
    obtain ⟨rfl, rfl, rfl⟩ := h2
    simp only [slotsOf, nodupB, Bool.and_eq_true, Bool.not_eq_true'] at hn
    have := slotsOf_mem (spec := r) (k := k) (by simpa using h1)
    rintro rfl
    have h3 := hn.1
    simp [this] at h3
  | some (t0, V0, o0) :: r, k + 1, j + 1, hn, h1, h2, hne => by
    simp only [slotsOf, nodupB, Bool.and_eq_true] at hn
    exact slotsOf_ne (spec := r) hn.2 (by simpa using h1) (by simpa using h2) (fun e => hne (by rw [e]))
section
variable {P : Program} {ops : Array Oper} {Q : Exit → Act → World → Prop}
/-- What operation i may lean on. -/
def FactsD (ops : Array Oper) (spec : List En) (i : Nat) (a : Act) (w : World) : Prop :=
  ∀ k ∈ depsOf ops i, ∀ (s : Nat) (U : StP) (o : Option Nat), spec[k]? = some (some (s, U, o)) → (match o with | none => True | some u => u = i ∨ i ∈ depsOf ops u) → U.p (a.tmps[s]?.getD undef) w
def AllS (P : Program) (ops : Array Oper) (Q : Exit → Act → World → Prop) (a0 : Act) (w0 : World) (spec : List En) : List En → Nat → Prop
  | [], _ => True
  | none :: rest, i => (∀ (a : Act) (w : World), Fr a0 (slotsOf spec) a → Below w0.heap.size w0 w → FactsD ops spec i a w → wpOp P ops Q i (fun a' w' => a' = a ∧ Sets w0.heap.size w w') a w) ∧ AllS P ops Q a0 w0 spec rest (i + 1)
  | some (t, V, _) :: rest, i => (∀ (a : Act) (w : World), Fr a0 (slotsOf spec) a → Below w0.heap.size w0 w → FactsD ops spec i a w → wpOp P ops Q i (fun a' w' => ∃ v, a' = a.put (some t) v ∧ Below w.heap.size w w' ∧ V.p v w') a w) ∧ AllS P ops Q a0 w0 spec rest (i + 1)
theorem AllS.at_ {a0 : Act} {w0 : World} {spec : List En} : ∀ {rest : List En} {j : Nat}, AllS P ops Q a0 w0 spec rest j → ∀ (i : Nat) (e : En), rest[i]? = some e → ∀ (a : Act) (w : World), Fr a0 (slotsOf spec) a → Below w0.heap.size w0 w → FactsD ops spec (j + i) a w →
      (match e with
        | none => wpOp P ops Q (j + i) (fun a' w' => a' = a ∧ Sets w0.heap.size w w') a w
        | some (t, V, _) => wpOp P ops Q (j + i) (fun a' w' => ∃ v, a' = a.put (some t) v ∧ Below w.heap.size w w' ∧ V.p v w') a w)
  | [], _, _, i, e, h, _, _, _, _, _ => by simp at h
  | none :: rest, j, hA, 0, e, h, a, w, hF, hB, hd => by
    simp at h; subst h; exact hA.1 a w hF hB hd
  | some (t, V, o) :: rest, j, hA, 0, e, h, a, w, hF, hB, hd => by
    simp at h; subst h; exact hA.1 a w hF hB hd
  | none :: rest, j, hA, i + 1, e, h, a, w, hF, hB, hd => by
    have := AllS.at_ hA.2 i e (by simpa using h) a w hF hB (by rw [show j + 1 + i = j + (i + 1) from by omega]; exact hd)
    rw [show j + 1 + i = j + (i + 1) from by omega] at this
    exact this
  | some (t, V, o) :: rest, j, hA, i + 1, e, h, a, w, hF, hB, hd => by
    have := AllS.at_ hA.2 i e (by simpa using h) a w hF hB (by rw [show j + 1 + i = j + (i + 1) from by omega]; exact hd)
    rw [show j + 1 + i = j + (i + 1) from by omega] at this
    exact this
/-- Whoever is said to last is stable; whoever is not is used up ahead of each store. -/
def LastOk : List En → Prop
  | [] => True
  | some (_, V, none) :: r => V.Stable ∧ LastOk r
  | _ :: r => LastOk r
theorem LastOk.at_ {t : Nat} {V : StP} : ∀ {spec : List En} {k : Nat}, LastOk spec → spec[k]? = some (some (t, V, none)) → V.Stable
  | [], k, _, h => by simp at h
  | some (t0, V0, none) :: r, 0, hl, h => by
    simp at h
    obtain ⟨rfl, rfl⟩ := h
    exact hl.1
  | none :: r, 0, _, h => by simp at h
  | some (t0, V0, some q) :: r, 0, _, h => by simp at h
  | some (t0, V0, none) :: r, k + 1, hl, h => LastOk.at_ (spec := r) (k := k) hl.2 (by simpa using h)
  | none :: r, k + 1, hl, h => LastOk.at_ (spec := r) (k := k) hl (by simpa using h)
  | some (t0, V0, some q) :: r, k + 1, hl, h => LastOk.at_ (spec := r) (k := k) hl (by simpa using h)
def usedB (ops : Array Oper) (spec : List En) : Bool :=
  (List.range spec.length).all fun i => match spec[i]? with
    | some none => spec.all fun e => match e with | some (_, _, some u) => (depsOf ops i).contains u | _ => true
    | _ => true
theorem used_of {spec : List En} (h : usedB ops spec = true) (i : Nat) (t : Nat) (V : StP) (k u : Nat) (hi : spec[i]? = some none) (hk : spec[k]? = some (some (t, V, some u))) : u ∈ depsOf ops i := by
  have h1 := List.all_eq_true.1 h i (List.mem_range.2 (List.getElem?_eq_some_iff.1 hi).1)
  rw [hi] at h1
  simp only at h1
  have h2 := List.all_eq_true.1 h1 _ (List.mem_of_getElem? hk)
  simpa using h2
theorem wp_region_sil {id : Nat} {a0 : Act} {w0 : World} (ord : List Nat) (spec : List En) (hm : P.follows .mixedOrders = true) (hok : (ordOk ops [] ord && (List.range ops.size).all fun i => ord.contains i) = true) (hlen : spec.length = ops.size)
    (hnd : nodupB (slotsOf spec) = true) (hlt : ∀ t ∈ slotsOf spec, t < a0.tmps.size) (hst : LastOk spec) (hus : ∀ (i : Nat) (t : Nat) (V : StP) (k u : Nat), spec[i]? = some none → spec[k]? = some (some (t, V, some u)) → u ∈ depsOf ops i)
    (hs : AllS P ops Q a0 w0 spec spec 0)
    (he : ∀ (a : Act) (w : World), Fr a0 (slotsOf spec) a → Below w0.heap.size w0 w → (∀ (k t : Nat) (V : StP), spec[k]? = some (some (t, V, none)) → V.p (a.tmps[t]?.getD undef) w) → Q .normal a w) : (Code.region id ops true).wp P Q a0 w0 := by
  refine wp_region_inv ord hm hok (fun L a w => Fr a0 (slotsOf spec) a ∧ Below w0.heap.size w0 w ∧ (∀ u k, L u = true → k ∈ depsOf ops u → L k = true) ∧ ∀ (k t : Nat) (V : StP) (o : Option Nat), spec[k]? = some (some (t, V, o)) → L k = true → (∀ u, o = some u → L u = false) → V.p (a.tmps[t]?.getD undef) w) ?_ ?_ ?_
  · exact ⟨Fr.refl _ _, (Below.refl _ _).drew, (fun _ _ h => by cases h), (fun _ _ _ _ _ h => by cases h)⟩
  · rintro i L a w hi hL hd ⟨hF, hB, hC, hv⟩
    obtain ⟨e, he'⟩ : ∃ e, spec[i]? = some e := ⟨_, List.getElem?_eq_getElem (by omega)⟩
    have hfd : FactsD ops spec i a w := fun k hk s U o hs' ho => by
      refine hv k s U o hs' (hd k hk) (fun u hu => ?_)
      subst hu
      rcases ho with rfl | ho
      · exact hL
      · cases hc : L u with
        | false => rfl
        | true => rw [hC u i hc ho] at hL; cases hL
    have hcl : ∀ u k, upd L i u = true → k ∈ depsOf ops u → upd L i k = true := fun u k hu hk => by
      unfold upd at hu ⊢
      by_cases hki : k = i
      · rw [if_pos hki]
      · rw [if_neg hki]
        by_cases hui : u = i
        · subst hui; exact hd k hk
        · rw [if_neg hui] at hu; exact hC u k hu hk
    have hold : ∀ (k : Nat) (o : Option Nat), k ≠ i → upd L i k = true → (∀ u, o = some u → upd L i u = false) → L k = true ∧ ∀ u, o = some u → L u = false := fun k o hki hk ho => by
      refine ⟨by unfold upd at hk; rwa [if_neg hki] at hk, fun u hu => ?_⟩
      have := ho u hu
      unfold upd at this
      by_cases hui : u = i
      · rw [if_pos hui] at this; cases this
      · rwa [if_neg hui] at this
    have hop := hs.at_ i e he' a w hF hB (by rw [Nat.zero_add]; exact hfd)
    rw [Nat.zero_add] at hop
    cases e with
    | none =>
      refine wpOp_mono ?_ hop
      rintro a' w' ⟨rfl, hset⟩
      refine ⟨hF, Below.sets hB hset, hcl, fun k t V o hk hLk ho => ?_⟩
      have hki : k ≠ i := by rintro rfl; rw [he'] at hk; cases hk
      obtain ⟨h1, h2⟩ := hold k o hki hLk ho
      cases o with
      | none => exact (LastOk.at_ hst hk).sets (hv k t V none hk h1 (fun _ h => by cases h)) hset
      | some u =>
        have := hd u (hus i t V k u he' hk)
        rw [h2 u rfl] at this; cases this
    | some e =>
      obtain ⟨t, V, o⟩ := e
      refine wpOp_mono ?_ hop
      rintro a' w' ⟨v, rfl, hb, hV⟩
      refine ⟨hF.put (slotsOf_mem he') v, hB.trans (hb.mono hB.size), hcl, fun k t' V' o' hk hLk ho => ?_⟩
      by_cases hki : k = i
      · subst hki
        rw [he'] at hk
        injection hk with hk
        injection hk with hk
        injection hk with e1 e2
        injection e2 with e2 e3
        subst e1 e2
        have hsz' : t < a.tmps.size := by rw [hF.2.1]; exact hlt t (slotsOf_mem he')
        rw [put_same' hsz']; exact hV
      · obtain ⟨h1, h2⟩ := hold k o' hki hLk ho
        rw [put_other' (slotsOf_ne hnd he' hk (Ne.symm hki))]
        exact V'.mono _ _ _ hb (hv k t' V' o' hk h1 h2)
  · rintro L a w hall ⟨hF, hB, _, hv⟩
    exact he a w hF hB (fun k t V hk => hv k t V none hk (hall k (by have := (List.getElem?_eq_some_iff.1 hk).1; omega)) (fun _ h => by cases h))
end
end Go.Proofs.Ytjocobfabdkadaa
