/- More kinds of fields in a slice of structs that is handed in. No function of the program is named here. -/
import Derived.Test.YtdcejhplkhoboaaActs
import Derived.Test.YtdcejhplkhoboaaFrame
namespace Go.Proofs.Ytdcejhplkhoboaa
open Go Go.RowKit Go.ChangeShapes Go.WideShapes Go.ChangeAt Go.Deep
abbrev IsW (v : Value) : Prop := ∃ x, v = W x
abbrev IsU (v : Value) : Prop := ∃ x, v = U x
section
variable {H : Type} {enc : TypeId × Value → H} {P : Program} {w : World} {base : Nat} {spare : Nat → Bool} {held : Bool}
theorem acts_W {fuel : Nat} {fl : Field} {v : Value} {y : DataW H × List MemPlace} (he : P.underlying fl.type = some (.int .u32)) (h : DataW.trod enc P w base spare held fuel fl.type [v] = some y) : ∃ x, v = W x := by
  obtain ⟨m, hm, _, hw⟩ := DataW.trod_int he h
  obtain rfl : v = .int .u32 m := by simpa using hm
  exact wf_W hw
theorem acts_U {fuel : Nat} {fl : Field} {v : Value} {y : DataW H × List MemPlace} (he : P.underlying fl.type = some (.int .u64)) (h : DataW.trod enc P w base spare held fuel fl.type [v] = some y) : ∃ x, v = U x := by
  obtain ⟨m, hm, _, hw⟩ := DataW.trod_int he h
  obtain rfl : v = .int .u64 m := by simpa using hm
  exact wf_U hw
end
end Go.Proofs.Ytdcejhplkhoboaa
