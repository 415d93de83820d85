/- The document's numbers beside those of package nat, as the laws' walks want them. -/
import Derived.Test.YtjocobfabdkadaaReff
namespace Go.Proofs.Ytjocobfabdkadaa
open Go.RowKit
/-- A slot holds the document's number N. -/
def byt (N : Nat) : StP := ⟨fun u w => ∃ x, u = x ∧ IsByt w x N, fun _ _ _ hb ⟨x, h1, h2⟩ => ⟨x, h1, h2.keep hb⟩⟩
section
variable {P : Program} {ops : Array Oper} {Q : Exit → Act → World → Prop} {a0 : Act} {w0 : World} {ds : List Nat} {nt : Nat} {sp : List (Nat × StP)} {t : Nat} {todo : List Nat}
theorem RegW.byt {N : Nat} (i : Nat) (hi : sp.length = i) (h : OpH P ops Q a0 w0 ds sp i t (byt N)) (r : RegW P ops Q a0 w0 ds nt ((t, byt N) :: sp) todo) : RegW P ops Q a0 w0 ds nt sp (t :: todo) := RegW.op i hi _ h r
end
theorem isByt_nil (w : World) : IsByt w (.slice none 0 0) 0 := ⟨none, 0, 0, [], rfl, Rw.nil _ _ _, Lim.nil _, Nat.le_refl _⟩
section
variable {u v : Value} {N M : Nat} {c : Int} {b : Bool} {w : World}
theorem rAdd_w (hu : IsByt w u N) (hv : IsByt w v M) (hN : Fits N 200) (hM : Fits M 200) : Calls Try.prog 63 #[u, v] w fun e w' => ∃ x, e = .returned x ∧ IsByt w' x (N + M) ∧ Below w.heap.size w w' :=
  refAdd_c u v N M w hu hv (hN.bytes.mono (by decide)) (hM.bytes.mono (by decide))
theorem rMul_w (hu : IsByt w u N) (hv : IsByt w v M) (hN : Fits N 80) (hM : Fits M 80) : Calls Try.prog 64 #[u, v] w fun e w' => ∃ x, e = .returned x ∧ IsByt w' x (N * M) ∧ Below w.heap.size w w' :=
  refMul_c u v N M w hu hv (hN.bytes.mono (by decide)) (hM.bytes.mono (by decide))
theorem cFits_w (hv : IsNat 0 w v N) (hb : fitB c N = b) : Calls Try.prog 76 #[.int .i64 c, v] w fun e w' => e = .returned (.bool b) ∧ Below w.heap.size w w' :=
  hb ▸ fits_c 0 c v N w hv
end
end Go.Proofs.Ytjocobfabdkadaa
