/- A number that is used once, plain. -/
import Derived.Test.YtlbogmpfjkendaaOps
namespace Go.Proofs.Ytlbogmpfjkendaa
open Go

/-- a number that is used once -/
structure Nn where
  epoch : BitVec 32
  slot : BitVec 32
  version : BitVec 64
deriving DecidableEq
def Nn.val (n : Nn) : Value := .agg #[W n.epoch, W n.slot, U n.version]
end Go.Proofs.Ytlbogmpfjkendaa
