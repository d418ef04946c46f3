import Derived.Test.YtldmebjnklmpfaaGreatMh01
import Derived.Test.YtldmebjnklmpfaaGreatMh07
import Derived.Test.YtldmebjnklmpfaaGreatMh12
import Derived.Test.YtldmebjnklmpfaaGreatMh15
set_option maxRecDepth 100000
set_option maxHeartbeats 4000000
namespace Go.Proofs.YtldmebjnklmpfaaGreat
open Go Go.RowKit
section
open Go.ChangeShapes Go.WideShapes Go.ChangeAt
variable {H : Type} {enc : TypeId × Value → H} {w : World} {base : Nat} {spare : Nat → Bool} {held : Bool} {r : Reach} {b0 : Nat}
end
end Go.Proofs.YtldmebjnklmpfaaGreat
