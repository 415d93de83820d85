/- The document's numbers beside those of package nat, as the laws' walks want them. -/
import Derived.Test.YtehdbogiacmabaaReff
namespace Go.Proofs.Ytehdbogiacmabaa
open Go.RowKit
/-- A slot holds the document's number N. -/
def byt (N : Nat) : StP := ⟨fun u w => ∃ x, u = x ∧ IsByt w x N, fun _ _ _ hb ⟨x, h1, h2⟩ => ⟨x, h1, h2.keep hb⟩⟩
section
variable {P : Program} {ops : Array Oper} {Q : Exit → Act → World → Prop} {a0 : Act} {w0 : World} {ds : List Nat} {nt : Nat} {sp : List (Nat × StP)} {t : Nat} {todo : List Nat}
theorem RegW.byt {N : Nat} (i : Nat) (hi : sp.length = i) (h : OpH P ops Q a0 w0 ds sp i t (byt N)) (r : RegW P ops Q a0 w0 ds nt ((t, byt N) :: sp) todo) : RegW P ops Q a0 w0 ds nt sp (t :: todo) := RegW.op i hi _ h r
end
theorem isByt_nil (w : World) : IsByt w (.slice none 0 0) 0 := ⟨none, 0, 0, [], rfl, Rw.nil _ _ _, Lim.nil _, Nat.le_refl _⟩
section
variable {u v : Value} {N M : Nat} {c : Int} {b : Bool} {w : World}
theorem rAdd_w (hu : IsByt w u N) (hv : IsByt w v M) (hN : Fits N 200) (hM : Fits M 200) : Calls Try.prog 51 #[u, v] w fun e w' => ∃ x, e = .returned x ∧ IsByt w' x (N + M) ∧ Below w.heap.size w w' :=
  refAdd_c u v N M w hu hv (hN.bytes.mono (by decide)) (hM.bytes.mono (by decide))
theorem rMul_w (hu : IsByt w u N) (hv : IsByt w v M) (hN : Fits N 80) (hM : Fits M 80) : Calls Try.prog 52 #[u, v] w fun e w' => ∃ x, e = .returned x ∧ IsByt w' x (N * M) ∧ Below w.heap.size w w' :=
  refMul_c u v N M w hu hv (hN.bytes.mono (by decide)) (hM.bytes.mono (by decide))
theorem rCmp_w {q : Int} (hu : IsByt w u N) (hv : IsByt w v M) (hN : Fits N 200) (hM : Fits M 200) (hq : cmpI N M = q) : Calls Try.prog 36 #[u, v] w fun e w' => e = .returned (.int .i64 q) ∧ Below w.heap.size w w' :=
  hq ▸ refCmp_c u v N M w hu hv (hN.bytes.mono (by decide)) (hM.bytes.mono (by decide))
theorem rFits_w (hv : IsByt w v N) (hN : Fits N 200) (hb : fitB c N = b) : Calls Try.prog 44 #[v, .int .i64 c] w fun e w' => e = .returned (.bool b) ∧ Below w.heap.size w w' :=
  hb ▸ refFits_c v N c w hv (hN.bytes.mono (by decide))
theorem cFits_w (hv : IsNat 0 w v N) (hb : fitB c N = b) : Calls Try.prog 42 #[.int .i64 c, v] w fun e w' => e = .returned (.bool b) ∧ Below w.heap.size w w' :=
  hb ▸ fits_c 0 c v N w hv
theorem sum0_w (w : World) : Calls Try.prog 45 #[.slice none 0 0] w fun e w' => ∃ x, e = .returned x ∧ IsNat 0 w' x 0 ∧ Below w.heap.size w w' :=
  (sum_c 0 none 0 0 [] w ⟨rfl, (fun _ h => by cases h), fun h => absurd h (by omega)⟩ (by decide) (by decide)).mono fun _ _ ⟨x, h1, h2, h3⟩ => ⟨x, h1, h2.mono (Nat.zero_le _), h3⟩
end
end Go.Proofs.Ytehdbogiacmabaa
