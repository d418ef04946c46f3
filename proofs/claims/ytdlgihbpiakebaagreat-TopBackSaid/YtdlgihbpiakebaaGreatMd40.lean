import Derived.Test.YtdlgihbpiakebaaGreatMd01
import Derived.Test.YtdlgihbpiakebaaGreatMd07
import Derived.Test.YtdlgihbpiakebaaGreatMd12
import Derived.Test.YtdlgihbpiakebaaGreatMd15
set_option maxRecDepth 100000
set_option maxHeartbeats 4000000
namespace Go.Proofs.YtdlgihbpiakebaaGreat
open Go Go.RowKit
section
open Go.ChangeShapes Go.WideShapes Go.ChangeAt
variable {H : Type} {enc : TypeId × Value → H} {w : World} {base : Nat} {spare : Nat → Bool} {held : Bool} {r : Reach} {b0 : Nat}
end
end Go.Proofs.YtdlgihbpiakebaaGreat
