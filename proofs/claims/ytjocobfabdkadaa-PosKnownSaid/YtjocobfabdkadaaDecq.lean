/- Decimal digits, read back and compared: plain laws. -/
import Derived.Test.YtjocobfabdkadaaParsep
namespace Go.Proofs.Ytjocobfabdkadaa
theorem dec_one {N : Nat} (h : N < 10) : dec N = [48 + N] := by
  unfold dec
  by_cases h0 : N = 0
  · subst h0; rfl
  · rw [if_neg h0]
    obtain ⟨f, rfl⟩ : ∃ f, N = f + 1 := ⟨N - 1, by omega⟩
    rw [low_more (by omega), show (f + 1) / 10 = 0 by omega, Nat.zero_sub, low_zero, Nat.mod_eq_of_lt h]
    rfl
theorem dec_step {N : Nat} (h : 10 ≤ N) : dec N = dec (N / 10) ++ [48 + N % 10] := by
  have h1 : N / 10 ≠ 0 := by omega
  unfold dec
  rw [if_neg (by omega), if_neg h1]
  obtain ⟨f, rfl⟩ : ∃ f, N = f + 1 := ⟨N - 1, by omega⟩
  rw [low_more (by omega), Nat.zero_sub, List.reverse_cons]
  have hf : (f + 1) / 10 < 10 ^ f := Nat.lt_of_lt_of_le (show (f + 1) / 10 < f + 1 by omega) (Nat.lt_pow_self (by omega))
  rw [low_fuel f ((f + 1) / 10) _ hf (Nat.lt_pow_self (by omega))]
/-- By the last digit. -/
theorem dec_ind {P : Nat → Prop} (h1 : ∀ N, N < 10 → P N) (h2 : ∀ N, 10 ≤ N → P (N / 10) → P N) (N : Nat) : P N := by
  induction N using Nat.strongRecOn with
  | _ N ih =>
    by_cases h : N < 10
    · exact h1 N h
    · exact h2 N (by omega) (ih (N / 10) (by omega))
theorem decv_dec (N : Nat) : decv (dec N) = N := by
  induction N using dec_ind with
  | h1 N h => rw [dec_one h]; simp [decv]
  | h2 N h ih => rw [dec_step h, decv_snoc, ih]; omega
theorem dig_dec (N : Nat) : ∀ x ∈ dec N, Dig x := by
  induction N using dec_ind with
  | h1 N h =>
    rw [dec_one h]
    intro x hx
    rw [List.mem_singleton.1 hx]
    exact ⟨by omega, by omega⟩
  | h2 N h ih =>
    rw [dec_step h]
    intro x hx
    rcases List.mem_append.1 hx with hx | hx
    · exact ih x hx
    · rw [List.mem_singleton.1 hx]
      exact ⟨by omega, by omega⟩
theorem dec_ne (N : Nat) : dec N ≠ [] := by
  induction N using dec_ind with
  | h1 N h => rw [dec_one h]; simp
  | h2 N h ih => rw [dec_step h]; simp
theorem dec_head (N : Nat) : N ≠ 0 → (dec N)[0]? ≠ some 48 := by
  induction N using dec_ind with
  | h1 N h => intro h0; rw [dec_one h]; simp; omega
  | h2 N h ih =>
    intro _
    rw [dec_step h, List.getElem?_append_left (by have := dec_ne (N / 10); cases hd : dec (N / 10) <;> simp_all)]
    exact ih (by omega)
theorem isDec_dec (N : Nat) : isDec (dec N) := by
  refine ⟨dec_ne N, ?_, dig_dec N⟩
  rintro ⟨h1, h2⟩
  by_cases h0 : N = 0
  · subst h0; simp [dec] at h2
  · exact dec_head N h0 h1
theorem dec_inj {N M : Nat} (h : dec N = dec M) : N = M := by rw [← decv_dec N, h, decv_dec]
theorem dec_decv_n : ∀ (n : Nat) (l : List Nat), l.length = n → isDec l → dec (decv l) = l
  | 0, l, hn, h => absurd (List.eq_nil_of_length_eq_zero hn) h.1
  | n + 1, l, hn, h => by
    rcases List.eq_nil_or_concat l with rfl | ⟨m, x, rfl⟩
    · exact absurd rfl h.1
    · rw [List.concat_eq_append] at h hn ⊢
      obtain ⟨h1, h2, h3⟩ := h
      have hx := h3 x (by simp)
      have hx1 := hx.1
      have hx2 := hx.2
      rw [decv_snoc]
      by_cases hm : m = []
      · subst hm
        simp only [decv, List.foldl_nil, List.nil_append]
        rw [dec_one (by omega)]
        congr 1
        omega
      · have hml : 0 < m.length := by cases m with | nil => exact absurd rfl hm | cons _ _ => simp
        have h0 : m[0]? ≠ some 48 := by
          intro e
          refine h2 ⟨?_, by simp; omega⟩
          rw [List.getElem?_append_left hml]
          exact e
        have hd : isDec m := ⟨hm, fun e => h0 e.1, fun y hy => h3 y (by simp [hy])⟩
        have ih := dec_decv_n n m (by simp at hn; omega) hd
        have hv : decv m ≠ 0 := by
          intro e
          rw [e] at ih
          rw [← ih] at h0
          exact h0 rfl
        rw [dec_step (by omega), show (decv m * 10 + (x - 48)) / 10 = decv m by omega, ih]
        congr 2
        omega
theorem dec_decv {l : List Nat} (h : isDec l) : dec (decv l) = l := dec_decv_n _ l rfl h
theorem isDec_iff {l : List Nat} : isDec l ↔ dec (decv l) = l := ⟨dec_decv, fun h => h ▸ isDec_dec _⟩

/-! ### Compared -/
theorem dec_lt (N : Nat) : N < 10 ^ (dec N).length := by
  have := decv_lt (dig_dec N) (dec N).length (Nat.le_refl _)
  rwa [List.take_length, decv_dec] at this
theorem dec_ge (N : Nat) : N ≠ 0 → 10 ^ ((dec N).length - 1) ≤ N := by
  induction N using dec_ind with
  | h1 N h => intro h0; rw [dec_one h]; simp; omega
  | h2 N h ih =>
    intro _
    have h1 := ih (by omega)
    have h2 : 0 < (dec (N / 10)).length := by have := dec_ne (N / 10); cases hd : dec (N / 10) <;> simp_all
    rw [dec_step h]
    simp only [List.length_append, List.length_singleton, Nat.add_sub_cancel]
    rw [show (dec (N / 10)).length = (dec (N / 10)).length - 1 + 1 by omega, Nat.pow_succ]
    omega
theorem dec_len {N M : Nat} (h : (dec N).length < (dec M).length) : N < M := by
  have h1 := dec_lt N
  have h0 : M ≠ 0 := by
    rintro rfl
    have : 0 < (dec N).length := by have := dec_ne N; cases hd : dec N <;> simp_all
    have e : (dec 0).length = 1 := rfl
    rw [e] at h
    omega
  have h2 := dec_ge M h0
  have h3 : 10 ^ (dec N).length ≤ 10 ^ ((dec M).length - 1) := Nat.pow_le_pow_right (by omega) (by omega)
  omega
theorem decv_cons (x : Nat) (l : List Nat) : decv (x :: l) = (x - 48) * 10 ^ l.length + decv l := by
  have := decv_append [x] l
  simpa [decv] using this
/-- One row of bytes ahead of another, as texts are compared. -/
def lexLt : List Nat → List Nat → Bool
  | _, [] => false
  | [], _ :: _ => true
  | a :: x, b :: y => decide (a < b) || (decide (a = b) && lexLt x y)
theorem lex_decv : ∀ {l m : List Nat}, l.length = m.length → (∀ x ∈ l, Dig x) → (∀ x ∈ m, Dig x) → (lexLt l m = true ↔ decv l < decv m)
  | [], [], _, _, _ => by simp [lexLt]
  | [], _ :: _, h, _, _ => by simp at h
  | _ :: _, [], h, _, _ => by simp at h
  | a :: x, b :: y, h, hl, hm => by
    have hn : x.length = y.length := by simpa using h
    have ih := lex_decv hn (fun z hz => hl z (List.mem_cons_of_mem _ hz)) (fun z hz => hm z (List.mem_cons_of_mem _ hz))
    have h1 := decv_lt (fun z hz => hl z (List.mem_cons_of_mem _ hz)) x.length (Nat.le_refl _)
    have h2 := decv_lt (fun z hz => hm z (List.mem_cons_of_mem _ hz)) y.length (Nat.le_refl _)
    rw [List.take_length] at h1 h2
    have ha := hl a (List.mem_cons_self ..)
    have hb := hm b (List.mem_cons_self ..)
    have ha1 := ha.1; have ha2 := ha.2; have hb1 := hb.1; have hb2 := hb.2
    rw [decv_cons, decv_cons, hn]
    rw [hn] at h1
    simp only [lexLt, Bool.or_eq_true, Bool.and_eq_true, decide_eq_true_eq, ih]
    generalize hp : 10 ^ y.length = p at *
    rcases Nat.lt_trichotomy a b with hab | hab | hab
    · have : (a - 48 + 1) * p ≤ (b - 48) * p := Nat.mul_le_mul_right p (by omega)
      rw [Nat.add_mul] at this
      constructor
      · intro; omega
      · intro; exact .inl hab
    · subst hab
      constructor
      · rintro (h | ⟨_, h⟩) <;> omega
      · intro h; exact .inr ⟨rfl, by omega⟩
    · have : (b - 48 + 1) * p ≤ (a - 48) * p := Nat.mul_le_mul_right p (by omega)
      rw [Nat.add_mul] at this
      constructor
      · rintro (h | ⟨h, _⟩) <;> omega
      · intro; omega
theorem dec_less (N M : Nat) : ((dec N).length < (dec M).length ∨ ((dec N).length = (dec M).length ∧ lexLt (dec N) (dec M) = true)) ↔ N < M := by
  rcases Nat.lt_trichotomy (dec N).length (dec M).length with h | h | h
  · have := dec_len h
    constructor
    · intro; exact this
    · intro; exact .inl h
  · have h1 := lex_decv h (dig_dec N) (dig_dec M)
    rw [decv_dec, decv_dec] at h1
    rw [h1]
    constructor
    · rintro (h2 | ⟨_, h2⟩)
      · omega
      · exact h2
    · intro h2; exact .inr ⟨h, h2⟩
  · have := dec_len h
    constructor
    · rintro (h2 | ⟨h2, _⟩) <;> omega
    · intro; omega
end Go.Proofs.Ytjocobfabdkadaa
