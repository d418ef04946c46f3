/- What bytes.Clone computes. -/
import Derived.Test.YtndeadicegeblaaStr
import Derived.Test.YtndeadicegeblaaRowz
import Derived.Test.YtndeadicegeblaaWireW
namespace Go.Proofs.Ytndeadicegeblaa
open Go Go.RowKit
end Go.Proofs.Ytndeadicegeblaa
