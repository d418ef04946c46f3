/- The example that each law of chapter 10 holds beside. -/
import Derived.Test.YtoogkjbfemdemaaPower
import Derived.Test.YtoogkjbfemdemaaFrame
namespace Go.Proofs.Ytoogkjbfemdemaa
open Go Go.RowKit

set_option maxRecDepth 100000 in
set_option maxHeartbeats 2000000 in
theorem known_any (w : World) : Calls Try.prog 11 #[] w fun e w' => e = .returned (.bool true) ∧ Kept w w' := by
  go_enter Try.func11, Try.ntmps11
  go_wp2_with fail
  refine (power_new _).mono ?_
  rintro e w1 ⟨rfl, h1, hk, _⟩
  go_wp2_with fail
  refine (power_fuse _ _ _ _ h1).mono ?_
  rintro e w2 ⟨rfl, h2, g2⟩
  go_wp2_with fail
  refine (power_spend_to _ _ ⟨false, true, 0, 1⟩ true _ h2 ⟨by decide, by decide, fun _ => ⟨by decide, by decide⟩⟩ rfl).mono ?_
  rintro e w3 ⟨rfl, h3, g3⟩
  go_wp2_with fail
  refine (power_spend_to _ _ ⟨true, true, 0, 1⟩ false _ h3 ⟨by decide, by decide, fun _ => ⟨by decide, by decide⟩⟩ rfl).mono ?_
  rintro e w4 ⟨rfl, h4, g4⟩
  go_wp2_with fail
  refine (power_on _ _ _ h4).mono ?_
  rintro e w5 ⟨rfl, rfl⟩
  go_wp2_with fail
  refine (power_steps _ _ _ h4).mono ?_
  rintro e w5 ⟨rfl, rfl⟩
  go_wp2
  go_ret
  have hs : w.heap.size ≤ w1.heap.size := hk.size
  exact ⟨rfl, hk.trans (((only_below g2 (Nat.le_refl _) hs).trans (only_below g3 (Nat.le_refl _) (Nat.le_trans hs g2.size))).trans (only_below g4 (Nat.le_refl _) (Nat.le_trans hs (Nat.le_trans g2.size g3.size))))⟩

end Go.Proofs.Ytoogkjbfemdemaa
