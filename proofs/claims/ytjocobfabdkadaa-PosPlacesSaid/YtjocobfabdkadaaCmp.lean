/- Cmp of package nat, by contract: how the two numbers compare. Numbers of at most 10000 limbs. -/
import Derived.Test.YtjocobfabdkadaaLimb
namespace Go.Proofs.Ytjocobfabdkadaa
open Go.RowKit
attribute [local go_sem] alloc_drewN setCell_drewN
end Go.Proofs.Ytjocobfabdkadaa
