import Derived.Test.YtdlgihbpiakebaaGreatMb15
import Derived.Deep.Slices
import Derived.Deep.Fields
import Derived.ChangeSame
set_option maxRecDepth 100000
set_option maxHeartbeats 4000000
namespace Go.Proofs.YtdlgihbpiakebaaGreat
open Go Go.RowKit Go.ChangeShapes Go.WideShapes Go.ChangeAt Go.Deep
section
variable {H : Type} {enc : TypeId × Value → H} {P : Program} {w : World} {base : Nat} {spare : Nat → Bool} {held : Bool} {r : Reach} {b0 : Nat}
theorem qMn {e : TypeId} {fuel : Nat} {v : Value} {y : DataW H × List MemPlace} (he : P.underlying e = some .bool) (h : DataW.trod enc P w base spare held fuel e [v] = some y) :
 ∃ m,v = .bool m:=by
 obtain ⟨m,hm,_⟩:=DataW.trod_bool he h
 exact ⟨m,by simpa using hm⟩
end
end Go.Proofs.YtdlgihbpiakebaaGreat
