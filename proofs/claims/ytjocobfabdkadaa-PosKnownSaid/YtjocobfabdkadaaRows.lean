/-
  No cell of these rows narrows 'for every input' (looked for: loops, veiled, ifaces, maps, wideKeys, modest, calm, conditions, laid).
  DERIVED. THE GIVEN ROWS OF THIS SEAT. 4 by the template 'for every input the law returns true; each argument reads behind the call as it read before'; 0 by the template 'total and deterministic' (their statements: YtjocobfabdkadaaTotals.lean).
  GIVEN WITH THE SEED: the statements are not yours to turn. If you find one false, say at which input.
  Laid BY PROGRAM, IN A SANDBOX (cutbox-rows.mjs): the forced cells as the released guide's own fill.sh prints them over the translation 799ab7dd8c2c32b2… (all of the seat's roots in one cut). By AI agents, Wed Nov 11 2026. No macro, syntax, notation, axiom, sorry.
-/
import Derived.Test.YtjocobfabdkadaaChecked
import GoSem.Claim
import GoSem.ClaimJoined
import GoSem.ClaimMapViews
import Derived.JoinedTies
import Derived.KernelRfl
namespace Go.Proofs.Ytjocobfabdkadaa
/- THE CELL 'sum', in the pinned program and in every row, IS THE sha256 OF THE DUMP (.gsa) THAT YtjocobfabdkadaaProg.lean LOADS. Nothing in Lean hashes anything: it is a label: what it is worth is what the hold of that sum in a sandbox is worth. -/
noncomputable def Try.pinned : Pinned := { name := "ytjocobfabdkadaa", sum := "799ab7dd8c2c32b215107aacd40fd6e475dc86c0f49a8c6241d671969204e80c", checked := Try.checked }
namespace Rows
def none {H : Type} : Left H := { results := [], args := [] }

/-- 'sieveholeslaw04.PosPlaces': WHATEVER THE INPUT: true; the input reads as it did. -/
def posPlacesSpec : ChangeSpec := { name := "posPlaces", fn := fun _ => fun
  | [d1, d2, d3] => { results := [.lit (.bool true)], args := [d1, d2, d3] }
  | _ => none }
def posPlacesRow : OpenClaim := { program := "ytjocobfabdkadaa", sum := "799ab7dd8c2c32b215107aacd40fd6e475dc86c0f49a8c6241d671969204e80c", func := "sieveholes/sieveholeslaw04.PosPlaces", spec := "posPlaces", inPlace := ["internal/bytealg.CountString", "internal/bytealg.IndexByteString", "internal/bytealg.IndexString"], unfollowed := true, recurses := true, named := ["internal/bytealg.MaxLen", "math/bits.divideError", "math/bits.overflowError"], apart := false }
def PosPlacesSaid : Prop := posPlacesRow.holds Try.pinned (OpenSpec.ofChange posPlacesSpec)

/-- ITS FALSE NEIGHBOUR: 'it returns false'. Refute it at one input. -/
def posPlacesWrong : ChangeSpec := { name := "posPlaces", fn := fun _ => fun
  | [d1, d2, d3] => { results := [.lit (.bool false)], args := [d1, d2, d3] }
  | _ => none }
def PosPlacesWrongFalsely : Prop := posPlacesRow.holds Try.pinned (OpenSpec.ofChange posPlacesWrong)

/-- 'sieveholeslaw04.PosTells': WHATEVER THE INPUT: true; the input reads as it did. -/
def posTellsSpec : ChangeSpec := { name := "posTells", fn := fun _ => fun
  | [d1, d2, d3, d4] => { results := [.lit (.bool true)], args := [d1, d2, d3, d4] }
  | _ => none }
def posTellsRow : OpenClaim := { program := "ytjocobfabdkadaa", sum := "799ab7dd8c2c32b215107aacd40fd6e475dc86c0f49a8c6241d671969204e80c", func := "sieveholes/sieveholeslaw04.PosTells", spec := "posTells", inPlace := ["internal/bytealg.CountString", "internal/bytealg.IndexByteString", "internal/bytealg.IndexString", "math/bits.Add64"], unfollowed := true, recurses := true, named := ["internal/bytealg.MaxLen", "math/bits.divideError", "math/bits.overflowError"], apart := false }
def PosTellsSaid : Prop := posTellsRow.holds Try.pinned (OpenSpec.ofChange posTellsSpec)

/-- ITS FALSE NEIGHBOUR: 'it returns false'. Refute it at one input. -/
def posTellsWrong : ChangeSpec := { name := "posTells", fn := fun _ => fun
  | [d1, d2, d3, d4] => { results := [.lit (.bool false)], args := [d1, d2, d3, d4] }
  | _ => none }
def PosTellsWrongFalsely : Prop := posTellsRow.holds Try.pinned (OpenSpec.ofChange posTellsWrong)

/-- 'sieveholeslaw04.PosBack': WHATEVER THE INPUT: true; the input reads as it did. -/
def posBackSpec : ChangeSpec := { name := "posBack", fn := fun _ => fun
  | [d1, d2] => { results := [.lit (.bool true)], args := [d1, d2] }
  | _ => none }
def posBackRow : OpenClaim := { program := "ytjocobfabdkadaa", sum := "799ab7dd8c2c32b215107aacd40fd6e475dc86c0f49a8c6241d671969204e80c", func := "sieveholes/sieveholeslaw04.PosBack", spec := "posBack", inPlace := ["internal/bytealg.CountString", "internal/bytealg.IndexByteString", "internal/bytealg.IndexString", "math/bits.Add64"], unfollowed := true, recurses := true, named := ["internal/bytealg.MaxLen", "math/bits.divideError", "math/bits.overflowError"], apart := false }
def PosBackSaid : Prop := posBackRow.holds Try.pinned (OpenSpec.ofChange posBackSpec)

/-- ITS FALSE NEIGHBOUR: 'it returns false'. Refute it at one input. -/
def posBackWrong : ChangeSpec := { name := "posBack", fn := fun _ => fun
  | [d1, d2] => { results := [.lit (.bool false)], args := [d1, d2] }
  | _ => none }
def PosBackWrongFalsely : Prop := posBackRow.holds Try.pinned (OpenSpec.ofChange posBackWrong)

/-- 'sieveholeslaw04.PosKnown': WHATEVER THE INPUT: true; the input reads as it did. -/
def posKnownSpec : ChangeSpec := { name := "posKnown", fn := fun _ => fun
  | [] => { results := [.lit (.bool true)], args := [] }
  | _ => none }
def posKnownRow : OpenClaim := { program := "ytjocobfabdkadaa", sum := "799ab7dd8c2c32b215107aacd40fd6e475dc86c0f49a8c6241d671969204e80c", func := "sieveholes/sieveholeslaw04.PosKnown", spec := "posKnown", inPlace := ["internal/bytealg.CountString", "internal/bytealg.IndexByteString", "internal/bytealg.IndexString", "math/bits.Add64"], unfollowed := true, recurses := true, named := ["internal/bytealg.MaxLen", "math/bits.divideError", "math/bits.overflowError"], apart := false }
def PosKnownSaid : Prop := posKnownRow.holds Try.pinned (OpenSpec.ofChange posKnownSpec)

/-- ITS FALSE NEIGHBOUR: 'it returns false'. Refute it at one input. -/
def posKnownWrong : ChangeSpec := { name := "posKnown", fn := fun _ => fun
  | [] => { results := [.lit (.bool false)], args := [] }
  | _ => none }
def PosKnownWrongFalsely : Prop := posKnownRow.holds Try.pinned (OpenSpec.ofChange posKnownWrong)

/- THE SECOND FORM. 'bulk': how many values and letters a reading holds, each counted each time it is reached (what is shared counts as often as it is met; a slice's spare places count too). A statement '..UptoSaid' is the law's where the arguments, and the package variables that the reading takes, are together of bulk at most 1048576: NARROWER than '..Said'. Prove '..Said' where nothing that the law and all that it calls make is longer than what came in: it says more and counts as full. Else prove '..UptoSaid'. A law counts once. -/
mutual
def uptoBulk {H : Type} : DataW H → Nat
  | .lit (.string bytes) => bytes.length + 1
  | .lit _ => 1
  | .nil => 1
  | .ptr d => uptoBulk d + 1
  | .slice elems spare => uptoBulkAll elems + uptoBulkAll spare + 1
  | .agg parts => uptoBulkAll parts + 1
  | .iface _ d => uptoBulk d + 1
  | .map entries => uptoBulkEntries entries + 1
  | .held _ => 1
def uptoBulkAll {H : Type} : List (DataW H) → Nat
  | [] => 0
  | d :: r => uptoBulk d + uptoBulkAll r
def uptoBulkEntries {H : Type} : List (Lit × DataW H) → Nat
  | [] => 0
  | x :: r => uptoBulkEntry x + uptoBulkEntries r
def uptoBulkEntry {H : Type} : Lit × DataW H → Nat
  | (.string bytes, d) => bytes.length + uptoBulk d + 1
  | (_, d) => uptoBulk d + 1
 end
def uptoSmall : (H : Type) → List (DataW H) → Bool := fun _ ds => decide (uptoBulkAll ds ≤ 1048576)
def OpenSpec.upto (s : _root_.Go.ChangeSpec) : _root_.Go.OpenSpec := { _root_.Go.OpenSpec.ofChange s with cond := some uptoSmall }

/-- 'sieveholeslaw04.PosPlaces', WHERE WHAT IT READS IS OF BULK AT MOST 1048576: true; the input reads as it did. -/
def posPlacesUptoRow : OpenClaim := { program := "ytjocobfabdkadaa", sum := "799ab7dd8c2c32b215107aacd40fd6e475dc86c0f49a8c6241d671969204e80c", func := "sieveholes/sieveholeslaw04.PosPlaces", spec := "posPlaces", inPlace := ["internal/bytealg.CountString", "internal/bytealg.IndexByteString", "internal/bytealg.IndexString"], unfollowed := true, recurses := true, named := ["internal/bytealg.MaxLen", "math/bits.divideError", "math/bits.overflowError"], apart := false, narrowed := true }
def PosPlacesUptoSaid : Prop := posPlacesUptoRow.holds Try.pinned (OpenSpec.upto posPlacesSpec)

/-- 'sieveholeslaw04.PosTells', WHERE WHAT IT READS IS OF BULK AT MOST 1048576: true; the input reads as it did. -/
def posTellsUptoRow : OpenClaim := { program := "ytjocobfabdkadaa", sum := "799ab7dd8c2c32b215107aacd40fd6e475dc86c0f49a8c6241d671969204e80c", func := "sieveholes/sieveholeslaw04.PosTells", spec := "posTells", inPlace := ["internal/bytealg.CountString", "internal/bytealg.IndexByteString", "internal/bytealg.IndexString", "math/bits.Add64"], unfollowed := true, recurses := true, named := ["internal/bytealg.MaxLen", "math/bits.divideError", "math/bits.overflowError"], apart := false, narrowed := true }
def PosTellsUptoSaid : Prop := posTellsUptoRow.holds Try.pinned (OpenSpec.upto posTellsSpec)

/-- 'sieveholeslaw04.PosBack', WHERE WHAT IT READS IS OF BULK AT MOST 1048576: true; the input reads as it did. -/
def posBackUptoRow : OpenClaim := { program := "ytjocobfabdkadaa", sum := "799ab7dd8c2c32b215107aacd40fd6e475dc86c0f49a8c6241d671969204e80c", func := "sieveholes/sieveholeslaw04.PosBack", spec := "posBack", inPlace := ["internal/bytealg.CountString", "internal/bytealg.IndexByteString", "internal/bytealg.IndexString", "math/bits.Add64"], unfollowed := true, recurses := true, named := ["internal/bytealg.MaxLen", "math/bits.divideError", "math/bits.overflowError"], apart := false, narrowed := true }
def PosBackUptoSaid : Prop := posBackUptoRow.holds Try.pinned (OpenSpec.upto posBackSpec)

/-- 'sieveholeslaw04.PosKnown', WHERE WHAT IT READS IS OF BULK AT MOST 1048576: true; the input reads as it did. -/
def posKnownUptoRow : OpenClaim := { program := "ytjocobfabdkadaa", sum := "799ab7dd8c2c32b215107aacd40fd6e475dc86c0f49a8c6241d671969204e80c", func := "sieveholes/sieveholeslaw04.PosKnown", spec := "posKnown", inPlace := ["internal/bytealg.CountString", "internal/bytealg.IndexByteString", "internal/bytealg.IndexString", "math/bits.Add64"], unfollowed := true, recurses := true, named := ["internal/bytealg.MaxLen", "math/bits.divideError", "math/bits.overflowError"], apart := false, narrowed := true }
def PosKnownUptoSaid : Prop := posKnownUptoRow.holds Try.pinned (OpenSpec.upto posKnownSpec)

end Rows
end Go.Proofs.Ytjocobfabdkadaa
