/- The example that each law of chapter 2 holds beside. -/
import Derived.Test.YtjmepkalomjloaaSpeckE
import Derived.Test.YtjmepkalomjloaaFrame
namespace Go.Proofs.Ytjmepkalomjloaa
open Go Go.RowKit

theorem cells_u64 : Try.prog.cellsOf 22 = 1 := by kernel_rfl
@[go_sem] theorem eql_pair (a b c f : BitVec 64) (w : World) : (Op.equalIn 10000 24 (.agg #[U a, U b]) (.agg #[U c, U f])).run Try.prog w = .ok ((a, b) == (c, f)) w :=
  equalIn_pair w 9998 24 22 Try.underlying24 Try.underlying22 cells_u64 a b c f

set_option maxRecDepth 100000 in
set_option maxHeartbeats 2000000 in
theorem known_any (w : World) : Calls Try.prog 9 #[] w fun e w' => e = .returned (.bool true) ∧ Kept w w' := by
  have hk := known_enc
  have HK := Lib.hid hk
  clear hk
  go_enter Try.func9, Try.ntmps9
  go_wp2_with fail
  have hX := Blk.new w #[U 1084818905618843912#64, U 506097522914230528#64] 24
  refine (enc_any _ _ _ _ _).mono ?_
  rintro e w1 ⟨rfl, hk1⟩
  rw [HK.out]
  go_wp2
  go_ret
  exact ⟨by rfl, ((Below.refl _ _).alloc (Nat.le_refl _) _).trans (hk1.mono (by simp))⟩

end Go.Proofs.Ytjmepkalomjloaa
