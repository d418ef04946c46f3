/- What digest.Step, and its reference, compute. -/
import Derived.Test.YtndeadicegeblaaDigestD
import Derived.Test.YtndeadicegeblaaSpeckE
namespace Go.Proofs.Ytndeadicegeblaa
open Go Go.RowKit

set_option maxRecDepth 100000 in
set_option maxHeartbeats 4000000 in
theorem step_any (s1 s2 m1 m2 : BitVec 64) (w : World) : Calls Try.prog 9 #[.agg #[U s1, U s2], .agg #[U m1, U m2]] w fun e w' => e = .returned (Pr (step2 (s1, s2) (m1, m2))) ∧ Kept w w' := by
  have hS : Blk (((w.alloc (.cells #[U s1, U s2] 25)).alloc (.cells #[U m1, U m2] 25)).alloc (.cells #[U 0#64, U 0#64] 25)) w.heap.size #[U s1, U s2] 25 := ((Blk.new _ _ _).alloc _).alloc _
  have hM : Blk (((w.alloc (.cells #[U s1, U s2] 25)).alloc (.cells #[U m1, U m2] 25)).alloc (.cells #[U 0#64, U 0#64] 25)) (w.heap.size + 1) #[U m1, U m2] 25 := Blk.alloc (by simpa using Blk.new (w.alloc (.cells #[U s1, U s2] 25)) #[U m1, U m2] 25) _
  have hR : Blk (((w.alloc (.cells #[U s1, U s2] 25)).alloc (.cells #[U m1, U m2] 25)).alloc (.cells #[U 0#64, U 0#64] 25)) (w.heap.size + 2) #[U 0#64, U 0#64] 25 := by simpa using Blk.new ((w.alloc (.cells #[U s1, U s2] 25)).alloc (.cells #[U m1, U m2] 25)) #[U 0#64, U 0#64] 25
  have hk : Kept w (((w.alloc (.cells #[U s1, U s2] 25)).alloc (.cells #[U m1, U m2] 25)).alloc (.cells #[U 0#64, U 0#64] 25)) := (((Below.refl _ _).alloc (Nat.le_refl _) _).alloc (by simp) _).alloc (by simp; omega) _
  have s0 := hS.cell 0
  have s1' := hS.cell 1
  have m0 := hM.cell 0
  have m1' := hM.cell 1
  go_enter Try.func9, Try.ntmps9
  go_wp2_with fail
  refine (enc_any _ _ _ _ _).mono ?_
  rintro e w4 ⟨rfl, hk4⟩
  replace hS := hS.kept hk4
  replace hR := hR.kept hk4
  replace hk := Kept.of hk hk4
  clear s0 s1' m0 m1' hM hk4
  obtain ⟨E, hE⟩ : ∃ E, E = enc2 (m1, m2) (s1, s2) := ⟨_, rfl⟩
  rw [← hE]
  have hX := Blk.new w4 #[U E.1, U E.2] 25
  replace hS := hS.alloc (.cells #[U E.1, U E.2] 25)
  replace hR := hR.alloc (.cells #[U E.1, U E.2] 25)
  replace hk := Kept.of hk (show Kept w4 (w4.alloc (.cells #[U E.1, U E.2] 25)) from (Below.refl _ _).alloc (Nat.le_refl _) _)
  have s0 := hS.cell 0
  have s1' := hS.cell 1
  have r0 := hR.cell 0
  have r1 := hR.cell 1
  have rf0 := hR.free 0
  have rf1 := hR.free 1
  have x0 := hX.cell 0
  have x1 := hX.cell 1
  have HE := Lib.hid hE
  clear hE hX hR hS
  go_wp2
  refine bodyPost_ret (v := Pr (step2 (s1, s2) (m1, m2))) (by simp [results, Try.results9, go_sem, step2, ← HE.out, r0, r1]; done) rfl ⟨rfl, ?_⟩
  exact (hk.setCell (by show _ ≤ w.heap.size + 2; omega) _).setCell (by show _ ≤ w.heap.size + 2; omega) _

set_option maxRecDepth 100000 in
set_option maxHeartbeats 4000000 in
theorem rstep_any (s1 s2 m1 m2 : BitVec 64) (w : World) : Calls Try.prog 10 #[.agg #[U s1, U s2], .agg #[U m1, U m2]] w fun e w' => e = .returned (Pr (step2 (s1, s2) (m1, m2))) ∧ Kept w w' := by
  have hS : Blk (((w.alloc (.cells #[U s1, U s2] 25)).alloc (.cells #[U m1, U m2] 25)).alloc (.cells #[U 0#64, U 0#64] 25)) w.heap.size #[U s1, U s2] 25 := ((Blk.new _ _ _).alloc _).alloc _
  have hM : Blk (((w.alloc (.cells #[U s1, U s2] 25)).alloc (.cells #[U m1, U m2] 25)).alloc (.cells #[U 0#64, U 0#64] 25)) (w.heap.size + 1) #[U m1, U m2] 25 := Blk.alloc (by simpa using Blk.new (w.alloc (.cells #[U s1, U s2] 25)) #[U m1, U m2] 25) _
  have hR : Blk (((w.alloc (.cells #[U s1, U s2] 25)).alloc (.cells #[U m1, U m2] 25)).alloc (.cells #[U 0#64, U 0#64] 25)) (w.heap.size + 2) #[U 0#64, U 0#64] 25 := by simpa using Blk.new ((w.alloc (.cells #[U s1, U s2] 25)).alloc (.cells #[U m1, U m2] 25)) #[U 0#64, U 0#64] 25
  have hk : Kept w (((w.alloc (.cells #[U s1, U s2] 25)).alloc (.cells #[U m1, U m2] 25)).alloc (.cells #[U 0#64, U 0#64] 25)) := (((Below.refl _ _).alloc (Nat.le_refl _) _).alloc (by simp) _).alloc (by simp; omega) _
  have s0 := hS.cell 0
  have s1' := hS.cell 1
  have m0 := hM.cell 0
  have m1' := hM.cell 1
  go_enter Try.func10, Try.ntmps10
  go_wp2_with fail
  refine (renc_any _ _ _ _ _).mono ?_
  rintro e w4 ⟨rfl, hk4⟩
  replace hS := hS.kept hk4
  replace hR := hR.kept hk4
  replace hk := Kept.of hk hk4
  clear s0 s1' m0 m1' hM hk4
  obtain ⟨E, hE⟩ : ∃ E, E = enc2 (m1, m2) (s1, s2) := ⟨_, rfl⟩
  rw [← hE]
  have hX := Blk.new w4 #[U E.1, U E.2] 25
  replace hS := hS.alloc (.cells #[U E.1, U E.2] 25)
  replace hR := hR.alloc (.cells #[U E.1, U E.2] 25)
  replace hk := Kept.of hk (show Kept w4 (w4.alloc (.cells #[U E.1, U E.2] 25)) from (Below.refl _ _).alloc (Nat.le_refl _) _)
  have s0 := hS.cell 0
  have s1' := hS.cell 1
  have r0 := hR.cell 0
  have r1 := hR.cell 1
  have rf0 := hR.free 0
  have rf1 := hR.free 1
  have x0 := hX.cell 0
  have x1 := hX.cell 1
  have HE := Lib.hid hE
  clear hE hX hR hS
  go_wp2
  refine bodyPost_ret (v := Pr (step2 (s1, s2) (m1, m2))) (by simp [results, Try.results10, go_sem, step2, ← HE.out, r0, r1]; done) rfl ⟨rfl, ?_⟩
  exact (hk.setCell (by show _ ≤ w.heap.size + 2; omega) _).setCell (by show _ ≤ w.heap.size + 2; omega) _


end Go.Proofs.Ytndeadicegeblaa
