/-
  No cell of these rows narrows 'for every input' (looked for: loops, veiled, ifaces, maps, wideKeys, modest, calm, conditions, laid).
  DERIVED. THE GIVEN ROWS OF THIS SEAT. 4 by the template 'for every input the law returns true; each argument reads behind the call as it read before'; 0 by the template 'total and deterministic' (their statements: YtfepaalplceaaaaTotals.lean).
  GIVEN WITH THE SEED: the statements are not yours to turn. If you find one false, say at which input.
  Laid BY PROGRAM, IN A SANDBOX (cutbox-rows.mjs): the forced cells as the released guide's own fill.sh prints them over the translation 586ed88cec61c98b… (all of the seat's roots in one cut). By AI agents, Wed Nov 11 2026. No macro, syntax, notation, axiom, sorry.
-/
import Derived.Test.YtfepaalplceaaaaChecked
import GoSem.Claim
import GoSem.ClaimJoined
import GoSem.ClaimMapViews
import Derived.JoinedTies
import Derived.KernelRfl
namespace Go.Proofs.Ytfepaalplceaaaa
/- THE CELL 'sum', in the pinned program and in every row, IS THE sha256 OF THE DUMP (.gsa) THAT YtfepaalplceaaaaProg.lean LOADS. Nothing in Lean hashes anything: it is a label: what it is worth is what the hold of that sum in a sandbox is worth. -/
noncomputable def Try.pinned : Pinned := { name := "ytfepaalplceaaaa", sum := "586ed88cec61c98b81a979f9be1b069916dcf9f1b7c58e5ed1b8d15c501e206d", checked := Try.checked }
namespace Rows
def none {H : Type} : Left H := { results := [], args := [] }

/-- 'sieveholeslaw19.InterJoins': WHATEVER THE INPUT: true; the input reads as it did. -/
def interJoinsSpec : ChangeSpec := { name := "interJoins", fn := fun _ => fun
  | [d1, d2, d3] => { results := [.lit (.bool true)], args := [d1, d2, d3] }
  | _ => none }
def interJoinsRow : OpenClaim := { program := "ytfepaalplceaaaa", sum := "586ed88cec61c98b81a979f9be1b069916dcf9f1b7c58e5ed1b8d15c501e206d", func := "sieveholes/sieveholeslaw19.InterJoins", spec := "interJoins", unfollowed := true, recurses := true, apart := false }
def InterJoinsSaid : Prop := interJoinsRow.holds Try.pinned (OpenSpec.ofChange interJoinsSpec)

/-- ITS FALSE NEIGHBOUR: 'it returns false'. Refute it at one input. -/
def interJoinsWrong : ChangeSpec := { name := "interJoins", fn := fun _ => fun
  | [d1, d2, d3] => { results := [.lit (.bool false)], args := [d1, d2, d3] }
  | _ => none }
def InterJoinsWrongFalsely : Prop := interJoinsRow.holds Try.pinned (OpenSpec.ofChange interJoinsWrong)

/-- 'sieveholeslaw19.InterLattice': WHATEVER THE INPUT: true; the input reads as it did. -/
def interLatticeSpec : ChangeSpec := { name := "interLattice", fn := fun _ => fun
  | [d1, d2, d3, d4, d5] => { results := [.lit (.bool true)], args := [d1, d2, d3, d4, d5] }
  | _ => none }
def interLatticeRow : OpenClaim := { program := "ytfepaalplceaaaa", sum := "586ed88cec61c98b81a979f9be1b069916dcf9f1b7c58e5ed1b8d15c501e206d", func := "sieveholes/sieveholeslaw19.InterLattice", spec := "interLattice", unfollowed := true, recurses := true, apart := false }
def InterLatticeSaid : Prop := interLatticeRow.holds Try.pinned (OpenSpec.ofChange interLatticeSpec)

/-- ITS FALSE NEIGHBOUR: 'it returns false'. Refute it at one input. -/
def interLatticeWrong : ChangeSpec := { name := "interLattice", fn := fun _ => fun
  | [d1, d2, d3, d4, d5] => { results := [.lit (.bool false)], args := [d1, d2, d3, d4, d5] }
  | _ => none }
def InterLatticeWrongFalsely : Prop := interLatticeRow.holds Try.pinned (OpenSpec.ofChange interLatticeWrong)

/-- 'sieveholeslaw19.InterTells': WHATEVER THE INPUT: true; the input reads as it did. -/
def interTellsSpec : ChangeSpec := { name := "interTells", fn := fun _ => fun
  | [d1, d2, d3] => { results := [.lit (.bool true)], args := [d1, d2, d3] }
  | _ => none }
def interTellsRow : OpenClaim := { program := "ytfepaalplceaaaa", sum := "586ed88cec61c98b81a979f9be1b069916dcf9f1b7c58e5ed1b8d15c501e206d", func := "sieveholes/sieveholeslaw19.InterTells", spec := "interTells", unfollowed := true, recurses := true, apart := false }
def InterTellsSaid : Prop := interTellsRow.holds Try.pinned (OpenSpec.ofChange interTellsSpec)

/-- ITS FALSE NEIGHBOUR: 'it returns false'. Refute it at one input. -/
def interTellsWrong : ChangeSpec := { name := "interTells", fn := fun _ => fun
  | [d1, d2, d3] => { results := [.lit (.bool false)], args := [d1, d2, d3] }
  | _ => none }
def InterTellsWrongFalsely : Prop := interTellsRow.holds Try.pinned (OpenSpec.ofChange interTellsWrong)

/-- 'sieveholeslaw19.InterKnown': WHATEVER THE INPUT: true; the input reads as it did. -/
def interKnownSpec : ChangeSpec := { name := "interKnown", fn := fun _ => fun
  | [] => { results := [.lit (.bool true)], args := [] }
  | _ => none }
def interKnownRow : OpenClaim := { program := "ytfepaalplceaaaa", sum := "586ed88cec61c98b81a979f9be1b069916dcf9f1b7c58e5ed1b8d15c501e206d", func := "sieveholes/sieveholeslaw19.InterKnown", spec := "interKnown", unfollowed := true, recurses := true, apart := false }
def InterKnownSaid : Prop := interKnownRow.holds Try.pinned (OpenSpec.ofChange interKnownSpec)

/-- ITS FALSE NEIGHBOUR: 'it returns false'. Refute it at one input. -/
def interKnownWrong : ChangeSpec := { name := "interKnown", fn := fun _ => fun
  | [] => { results := [.lit (.bool false)], args := [] }
  | _ => none }
def InterKnownWrongFalsely : Prop := interKnownRow.holds Try.pinned (OpenSpec.ofChange interKnownWrong)

/- THE SECOND FORM. 'bulk': how many values and letters a reading holds, each counted each time it is reached (what is shared counts as often as it is met; a slice's spare places count too). A statement '..UptoSaid' is the law's where the arguments, and the package variables that the reading takes, are together of bulk at most 1048576: NARROWER than '..Said'. Prove '..Said' where nothing that the law and all that it calls make is longer than what came in: it says more and counts as full. Else prove '..UptoSaid'. A law counts once. -/
mutual
def uptoBulk {H : Type} : DataW H → Nat
  | .lit (.string bytes) => bytes.length + 1
  | .lit _ => 1
  | .nil => 1
  | .ptr d => uptoBulk d + 1
  | .slice elems spare => uptoBulkAll elems + uptoBulkAll spare + 1
  | .agg parts => uptoBulkAll parts + 1
  | .iface _ d => uptoBulk d + 1
  | .map entries => uptoBulkEntries entries + 1
  | .held _ => 1
def uptoBulkAll {H : Type} : List (DataW H) → Nat
  | [] => 0
  | d :: r => uptoBulk d + uptoBulkAll r
def uptoBulkEntries {H : Type} : List (Lit × DataW H) → Nat
  | [] => 0
  | x :: r => uptoBulkEntry x + uptoBulkEntries r
def uptoBulkEntry {H : Type} : Lit × DataW H → Nat
  | (.string bytes, d) => bytes.length + uptoBulk d + 1
  | (_, d) => uptoBulk d + 1
 end
def uptoSmall : (H : Type) → List (DataW H) → Bool := fun _ ds => decide (uptoBulkAll ds ≤ 1048576)
def OpenSpec.upto (s : _root_.Go.ChangeSpec) : _root_.Go.OpenSpec := { _root_.Go.OpenSpec.ofChange s with cond := some uptoSmall }

/-- 'sieveholeslaw19.InterJoins', WHERE WHAT IT READS IS OF BULK AT MOST 1048576: true; the input reads as it did. -/
def interJoinsUptoRow : OpenClaim := { program := "ytfepaalplceaaaa", sum := "586ed88cec61c98b81a979f9be1b069916dcf9f1b7c58e5ed1b8d15c501e206d", func := "sieveholes/sieveholeslaw19.InterJoins", spec := "interJoins", unfollowed := true, recurses := true, apart := false, narrowed := true }
def InterJoinsUptoSaid : Prop := interJoinsUptoRow.holds Try.pinned (OpenSpec.upto interJoinsSpec)

/-- 'sieveholeslaw19.InterLattice', WHERE WHAT IT READS IS OF BULK AT MOST 1048576: true; the input reads as it did. -/
def interLatticeUptoRow : OpenClaim := { program := "ytfepaalplceaaaa", sum := "586ed88cec61c98b81a979f9be1b069916dcf9f1b7c58e5ed1b8d15c501e206d", func := "sieveholes/sieveholeslaw19.InterLattice", spec := "interLattice", unfollowed := true, recurses := true, apart := false, narrowed := true }
def InterLatticeUptoSaid : Prop := interLatticeUptoRow.holds Try.pinned (OpenSpec.upto interLatticeSpec)

/-- 'sieveholeslaw19.InterTells', WHERE WHAT IT READS IS OF BULK AT MOST 1048576: true; the input reads as it did. -/
def interTellsUptoRow : OpenClaim := { program := "ytfepaalplceaaaa", sum := "586ed88cec61c98b81a979f9be1b069916dcf9f1b7c58e5ed1b8d15c501e206d", func := "sieveholes/sieveholeslaw19.InterTells", spec := "interTells", unfollowed := true, recurses := true, apart := false, narrowed := true }
def InterTellsUptoSaid : Prop := interTellsUptoRow.holds Try.pinned (OpenSpec.upto interTellsSpec)

/-- 'sieveholeslaw19.InterKnown', WHERE WHAT IT READS IS OF BULK AT MOST 1048576: true; the input reads as it did. -/
def interKnownUptoRow : OpenClaim := { program := "ytfepaalplceaaaa", sum := "586ed88cec61c98b81a979f9be1b069916dcf9f1b7c58e5ed1b8d15c501e206d", func := "sieveholes/sieveholeslaw19.InterKnown", spec := "interKnown", unfollowed := true, recurses := true, apart := false, narrowed := true }
def InterKnownUptoSaid : Prop := interKnownUptoRow.holds Try.pinned (OpenSpec.upto interKnownSpec)

end Rows
end Go.Proofs.Ytfepaalplceaaaa
