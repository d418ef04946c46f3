/- The example that each law of chapter 1 holds beside. -/
import Derived.Test.YtmdggbniicobdaaWireW
import Derived.Test.YtmdggbniicobdaaFrame
namespace Go.Proofs.Ytmdggbniicobdaa
open Go Go.RowKit

set_option maxRecDepth 100000 in
set_option maxHeartbeats 2000000 in
theorem known_any (w : World) : Calls Try.prog 12 #[] w fun e w' => e = .returned (.bool true) ∧ Kept w w' := by
  have g1 : getB [1, 2] = 258#64 := by decide
  have g2 : putB 258#64 3 = [0, 1, 2] := by decide
  go_enter Try.func12, Try.ntmps12
  go_wp2_with fail
  have hs := Sl.lit w #[V8 1, V8 2] 5 2 (by decide)
  refine (get_some _ [1, 2] _ hs (by decide) (by decide)).mono ?_
  rintro e w1 ⟨rfl, rfl⟩
  clear hs
  go_wp2_with fail
  refine (put_some _ 3 (by omega) (by omega) _).mono ?_
  rintro e w1 ⟨r, rfl, hown, hk⟩
  have hcv := conv_bytes (P := Try.prog) w1 (src := 23) (dst := 9) Try.underlying23 Try.underlying5 Try.underlying9 (bs := putB 258#64 3) (by rw [putB_length]; exact Sl.of_own hown)
  rw [g2] at hcv
  clear hown
  go_wp2
  go_ret
  exact ⟨rfl, (((Below.refl _ _).alloc (Nat.le_refl _) _).trans (hk.mono (by simp)))⟩

end Go.Proofs.Ytmdggbniicobdaa
