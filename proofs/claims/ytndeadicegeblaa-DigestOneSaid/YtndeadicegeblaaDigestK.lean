/- The example that each law of chapter 6 holds beside. -/
import Derived.Test.YtndeadicegeblaaDigestR
import Derived.Test.YtndeadicegeblaaPairEq
import Derived.Lib.SlBytesConst
namespace Go.Proofs.Ytndeadicegeblaa
open Go Go.RowKit

theorem sl_mark (w : World) (bs : List UInt8) (n : Nat) (hn : bs.length = n) (hm : n ≤ maxLen) (t : TypeId) (fr : Nat × Nat) : Sl (w.alloc (.cells (bcells bs).toArray t fr)) (.slice (some ⟨w.heap.size, 0, none⟩) n n) bs.length (bcells bs) := by
  subst hn
  refine Sl.mk (Nat.le_refl _) hm fun j u hj => ?_
  rw [Nat.zero_add, World.cell?_alloc_mark]
  simpa using hj
set_option maxRecDepth 100000 in
set_option maxHeartbeats 4000000 in
theorem known_any (w : World) : Calls Try.prog 11 #[] w fun e w' => e = .returned (.bool true) ∧ Kept w w' := by
  have kc := fun (w : World) (C : Array Value) (n c : Nat) => Lib.run_convert_bytes_const (P := Try.prog) w 22 5 C n c Try.underlying22 Try.underlying5
  have kc2 := kc (w.alloc (.cells #[V8 97, V8 98] 5 (2, 3))) #[V8 99] 1 1
  rw [show (w.alloc (.cells #[V8 97, V8 98] 5 (2, 3))).heap.size = w.heap.size + 1 by simp] at kc2
  have s1 : Sl (w.alloc (.cells #[V8 97, V8 98] 5 (2, 3))) (.slice (some ⟨w.heap.size, 0, none⟩) 2 2) ([97, 98] : List UInt8).length (bcells [97, 98]) := sl_mark w [97, 98] 2 rfl (by decide) _ _
  have s2 : Sl ((w.alloc (.cells #[V8 97, V8 98] 5 (2, 3))).alloc (.cells #[V8 99] 5 (1, 2))) (.slice (some ⟨w.heap.size + 1, 0, none⟩) 1 1) ([99] : List UInt8).length (bcells [99]) := by
    have := sl_mark (w.alloc (.cells #[V8 97, V8 98] 5 (2, 3))) [99] 1 rfl (by decide) 5 (1, 2)
    rw [show (w.alloc (.cells #[V8 97, V8 98] 5 (2, 3))).heap.size = w.heap.size + 1 by simp] at this
    exact this
  replace s1 := s1.kept (show Kept _ ((w.alloc (.cells #[V8 97, V8 98] 5 (2, 3))).alloc (.cells #[V8 99] 5 (1, 2))) from (Below.refl _ _).alloc (Nat.le_refl _) _)
  have hk0 : Kept w (((w.alloc (.cells #[V8 97, V8 98] 5 (2, 3))).alloc (.cells #[V8 99] 5 (1, 2))).alloc (.cells #[.slice (some ⟨w.heap.size, 0, none⟩) 2 2, .slice (some ⟨w.heap.size + 1, 0, none⟩) 1 1] 22)) := (((Below.refl _ _).alloc (Nat.le_refl _) _).alloc (by simp) _).alloc (by simp; omega) _
  have hr := RowsSl.lit (us := [.slice (some ⟨w.heap.size, 0, none⟩) 2 2, .slice (some ⟨w.heap.size + 1, 0, none⟩) 1 1]) (.cons s1 (.cons s2 .nil)) 22 2 rfl (by decide)
  clear s1 s2
  go_enter Try.func11, Try.ntmps11
  go_wp2_with fail
  refine (sum_any _ [[97, 98], [99]] (by simp) (by simp) _ (by simpa using hr)).mono ?_
  rintro e w1 ⟨rfl, hk1⟩
  rw [show ([[97, 98], [99]] : List (List UInt8)).flatten = [97, 98, 99] from rfl]
  replace hk0 := Kept.of hk0 hk1
  clear hk1 hr
  have s1 : Sl (w1.alloc (.cells #[V8 97, V8 98, V8 99] 5 (3, 4))) (.slice (some ⟨w1.heap.size, 0, none⟩) 3 3) ([97, 98, 99] : List UInt8).length (bcells [97, 98, 99]) := sl_mark w1 [97, 98, 99] 3 rfl (by decide) _ _
  have hr := RowsSl.lit (us := [.slice (some ⟨w1.heap.size, 0, none⟩) 3 3]) (.cons s1 .nil) 22 1 rfl (by decide)
  have hk1 : Kept w1 ((w1.alloc (.cells #[V8 97, V8 98, V8 99] 5 (3, 4))).alloc (.cells #[.slice (some ⟨w1.heap.size, 0, none⟩) 3 3] 22)) := ((Below.refl _ _).alloc (Nat.le_refl _) _).alloc (by simp) _
  replace hk0 := Kept.of hk0 hk1
  clear s1 hk1
  go_wp2_with fail
  refine (sum_any _ [[97, 98, 99]] (by simp) (by simp) _ (by simpa using hr)).mono ?_
  rintro e w2 ⟨rfl, hk2⟩
  replace hk0 := Kept.of hk0 hk2
  clear hk2 hr
  rw [show ([[97, 98, 99]] : List (List UInt8)).flatten = [97, 98, 99] from rfl]
  obtain ⟨X, hX⟩ : ∃ X, X = sumB [97, 98, 99] := ⟨_, rfl⟩
  rw [← hX]
  clear hX
  go_wp2_with fail
  refine (sum_any _ [] (by simp) (by simp) _ (RowsSl.nil _)).mono ?_
  rintro e w3 ⟨rfl, hk3⟩
  go_wp2_with fail
  refine (rsum_any _ [] (by simp) _ (Sl.nil _)).mono ?_
  rintro e w4 ⟨rfl, hk4⟩
  obtain ⟨Y, hY⟩ : ∃ Y, Y = sumB [] := ⟨_, rfl⟩
  rw [← hY]
  clear hY
  go_wp2
  go_ret
  exact ⟨rfl, (hk0.of hk3).of hk4⟩

end Go.Proofs.Ytndeadicegeblaa
