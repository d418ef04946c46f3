/- The example that each law of chapter 13 holds beside. -/
import Derived.Test.YtbgjelgglbcmeaaCountW
import Derived.Test.YtbgjelgglbcmeaaFrame
namespace Go.Proofs.Ytbgjelgglbcmeaa
open Go Go.RowKit

theorem new_spend (k : Int) : Pw.spend ⟨false, false, 0, k⟩ = (true, ⟨false, false, 0, k + 1⟩) := by simp [Pw.spend]
theorem new_okk (k : Int) (h0 : 0 ≤ k) (h1 : k ≤ 1000000) : Pw.ok ⟨false, false, 0, k⟩ 9223372036854775806 := ⟨by simp; try omega, by simp; try omega, fun h => by cases h⟩

set_option maxRecDepth 100000 in
set_option maxHeartbeats 2000000 in
theorem known_any (w : World) : Calls Try.prog 11 #[] w fun e w' => e = .returned (.bool true) ∧ Kept w w' := by
  go_enter Try.func11, Try.ntmps11
  go_wp2_with fail
  refine (power_new _).mono ?_
  rintro e w1 ⟨rfl, p1, hk1, hz1⟩
  go_wp2_with fail
  refine (count_new _ _).mono ?_
  rintro e w2 ⟨rfl, c2, hk2, hz2⟩
  have p2 : PwAt w2 w.heap.size Pw.new := Blk.kept p1 hk2
  rw [hz1] at c2 hz2
  have hb2 : Below w.heap.size w w2 := hk1.trans (hk2.mono (by omega))
  have hs2 : w.heap.size ≤ w2.heap.size := by omega
  clear hk1 hk2 hz2 p1
  obtain ⟨B, hB⟩ : ∃ B, B = w.heap.size := ⟨_, rfl⟩
  simp only [← hB] at p2 c2 hb2 hs2
  simp only [hz1, ← hB]
  have HB := Lib.hid hB
  clear hB hz1
  go_wp2_with fail
  refine (count_boot _ _ _ _ _ _ _ c2 p2 (by omega) (new_okk 0 (by omega) (by omega)) (new_spend 0)).mono ?_
  rintro e w3 ⟨rfl, c3, p3, g3⟩
  go_wp2_with fail
  refine (count_bump _ _ _ _ _ _ _ c3 p3 (by omega) (new_okk 1 (by omega) (by omega)) (new_spend 1)).mono ?_
  rintro e w4 ⟨rfl, c4, p4, g4⟩
  go_wp2_with fail
  refine (count_bump _ _ _ _ _ _ _ c4 p4 (by omega) (new_okk 2 (by omega) (by omega)) (new_spend 2)).mono ?_
  rintro e w5 ⟨rfl, c5, p5, g5⟩
  go_wp2_with fail
  refine (count_value _ _ _ _ c5).mono ?_
  rintro e w6 ⟨rfl, rfl⟩
  go_wp2_with fail
  refine (count_boots _ _ _ _ c5).mono ?_
  rintro e w6 ⟨rfl, rfl⟩
  go_wp2_with fail
  refine (count_at _ _ _ _ c5).mono ?_
  rintro e w6 ⟨rfl, rfl⟩
  go_wp2
  go_ret
  exact ⟨rfl, by show Below w.heap.size w _; rw [← HB.out]; exact hb2.trans (((g3.trans g4).trans g5).below (by simp) hs2)⟩

end Go.Proofs.Ytbgjelgglbcmeaa
