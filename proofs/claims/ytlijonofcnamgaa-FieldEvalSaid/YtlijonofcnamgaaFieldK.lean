/- '==' of Pairs in this translation; the example that each law of chapter 3 holds beside. -/
import Derived.Test.YtlijonofcnamgaaFieldW
import Derived.Test.YtlijonofcnamgaaFrame
namespace Go.Proofs.Ytlijonofcnamgaa
open Go Go.RowKit

theorem cells_u64 : Try.prog.cellsOf 22 = 1 := by kernel_rfl
@[go_sem] theorem eql_pair (a b c f : BitVec 64) (w : World) : (Op.equalIn 10000 24 (.agg #[U a, U b]) (.agg #[U c, U f])).run Try.prog w = .ok ((a, b) == (c, f)) w :=
  equalIn_pair w 9998 24 22 Try.underlying24 Try.underlying22 cells_u64 a b c f

theorem known_is : (mul2 (9223372036854775808#64, 0#64) (0#64, 2#64) == (0#64, 135#64)) = true := by decide +kernel

set_option maxRecDepth 100000 in
set_option maxHeartbeats 1000000 in
theorem known_any (w : World) : Calls Try.prog 12 #[] w fun e w' => e = .returned (.bool true) ∧ Kept w w' := by
  have hk := known_is
  go_enter Try.func12, Try.ntmps12
  go_wp2_with (go_at_call 8; refine (mul_any _ _ _ _ _).mono ?_; rintro e w1 ⟨rfl, hb1⟩)
  go_ret
  exact ⟨rfl, hb1⟩

end Go.Proofs.Ytlijonofcnamgaa
