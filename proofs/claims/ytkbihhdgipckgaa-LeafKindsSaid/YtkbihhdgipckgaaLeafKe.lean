/- LeafKinds: what each kind may have, and may not. -/
import Derived.Test.YtkbihhdgipckgaaLeafL
namespace Go.Proofs.Ytkbihhdgipckgaa
open Go Go.RowKit

set_option maxRecDepth 100000 in
set_option maxHeartbeats 4000000 in
theorem kinds_11 (s : Int) (g0 : 0 ≤ s) (g1 : s ≤ 15) (w : World) : Calls Try.prog 3 #[.int .i64 11, .int .i64 s] w fun e w' => e = .returned (.bool true) ∧ Kept w w' := by
  have hi0 : isLeaf (⟨1, false, 0, 0#32, (BitVec.ofInt 32 s), 0#64, (0#64, 0#64)⟩ : Lf) s = false := by
    have g2 : s < 16 := by omega
    unfold isLeaf
    rw [decide_eq_true g0, decide_eq_true g2]
    first
      | rfl
      | (rw [beq_self_eq_true]; first | done | rfl)
  have hcv : ∀ (n : Int) (wx : World), (convert 3 22 (.int .i64 n)).run Try.prog wx = .ok (W (BitVec.ofInt 32 n)) wx := fun n wx => by
    rw [conv_int wx 3 22 _ .u32 _ (by kernel_rfl) Try.underlying22, W_ofInt]
  have hwr : IntKind.i64.wrap (s + 1) = s + 1 := IntWalk.i64_in _ (by omega)
  have hi := Lib.hid hi0
  clear hi0
  go_enter Try.func3, Try.ntmps3
  go_wp2_with fail
  obtain ⟨W2, hW2⟩ : ∃ W2, W2 = ((w.alloc (.cells #[W 1#32, W (BitVec.ofInt 32 s), U 9#64] 25)).alloc (.cells #[.int .i64 0, .bool false, .int .i64 0, W 0#32, W 0#32, U 0#64, U 0#64, U 0#64, .int .i64 2, .bool true, .int .i64 31, W 0#32, W 0#32, U 0#64, U 0#64, U 0#64, .int .i64 1, .bool false, .int .i64 31, W 1#32, W (BitVec.ofInt 32 s), U 9#64, U 0#64, U 0#64, .int .i64 1, .bool true, .int .i64 0, W 1#32, W (BitVec.ofInt 32 s), U 9#64, U 1#64, U 2#64, .int .i64 0, .bool true, .int .i64 0, W 0#32, W 0#32, U 0#64, U 0#64, U 0#64, .int .i64 0, .bool false, .int .i64 1, W 0#32, W 0#32, U 0#64, U 0#64, U 0#64, .int .i64 2, .bool false, .int .i64 3, W 0#32, W 0#32, U 0#64, U 0#64, U 0#64, .int .i64 2, .bool true, .int .i64 32, W 0#32, W 0#32, U 0#64, U 0#64, U 0#64, .int .i64 2, .bool true, .int .i64 0, W 0#32, W 0#32, U 0#64, U 1#64, U 0#64, .int .i64 1, .bool false, .int .i64 (-1), W 1#32, W (BitVec.ofInt 32 s), U 9#64, U 0#64, U 0#64, .int .i64 1, .bool false, .int .i64 0, W 1#32, W (BitVec.ofInt 32 (s + 1)), U 0#64, U 0#64, U 0#64, .int .i64 1, .bool false, .int .i64 0, W 0#32, W (BitVec.ofInt 32 s), U 0#64, U 0#64, U 0#64, .int .i64 3, .bool false, .int .i64 0, W 1#32, W (BitVec.ofInt 32 s), U 9#64, U 0#64, U 0#64] 29)) := ⟨_, rfl⟩
  have hB : Blk W2 (w.heap.size + 1) #[.int .i64 0, .bool false, .int .i64 0, W 0#32, W 0#32, U 0#64, U 0#64, U 0#64, .int .i64 2, .bool true, .int .i64 31, W 0#32, W 0#32, U 0#64, U 0#64, U 0#64, .int .i64 1, .bool false, .int .i64 31, W 1#32, W (BitVec.ofInt 32 s), U 9#64, U 0#64, U 0#64, .int .i64 1, .bool true, .int .i64 0, W 1#32, W (BitVec.ofInt 32 s), U 9#64, U 1#64, U 2#64, .int .i64 0, .bool true, .int .i64 0, W 0#32, W 0#32, U 0#64, U 0#64, U 0#64, .int .i64 0, .bool false, .int .i64 1, W 0#32, W 0#32, U 0#64, U 0#64, U 0#64, .int .i64 2, .bool false, .int .i64 3, W 0#32, W 0#32, U 0#64, U 0#64, U 0#64, .int .i64 2, .bool true, .int .i64 32, W 0#32, W 0#32, U 0#64, U 0#64, U 0#64, .int .i64 2, .bool true, .int .i64 0, W 0#32, W 0#32, U 0#64, U 1#64, U 0#64, .int .i64 1, .bool false, .int .i64 (-1), W 1#32, W (BitVec.ofInt 32 s), U 9#64, U 0#64, U 0#64, .int .i64 1, .bool false, .int .i64 0, W 1#32, W (BitVec.ofInt 32 (s + 1)), U 0#64, U 0#64, U 0#64, .int .i64 1, .bool false, .int .i64 0, W 0#32, W (BitVec.ofInt 32 s), U 0#64, U 0#64, U 0#64, .int .i64 3, .bool false, .int .i64 0, W 1#32, W (BitVec.ofInt 32 s), U 9#64, U 0#64, U 0#64] 29 := by
    rw [hW2, show w.heap.size + 1 = (w.alloc (.cells #[W 1#32, W (BitVec.ofInt 32 s), U 9#64] 25)).heap.size by simp]
    exact Blk.new _ _ _
  have hk : Kept w W2 := by rw [hW2]; exact ((Below.refl _ _).alloc (Nat.le_refl _) _).alloc (by simp) _
  rw [← hW2]
  clear hW2
  refine (put_leaf_none _ _ _ _ _ _ _ _ _ (by omega) (by omega) hi.out _).mono ?_
  rintro e w3 ⟨rfl, hk3⟩
  replace hk := Kept.of hk hk3
  replace hB := hB.kept hk3
  have c0 : w3.cell? ⟨w.heap.size + 1, 88, none⟩ = some (.int .i64 1) := hB.cell 88
  have c1 : w3.cell? ⟨w.heap.size + 1, 89, none⟩ = some (.bool false) := hB.cell 89
  have c2 : w3.cell? ⟨w.heap.size + 1, 90, none⟩ = some (.int .i64 0) := hB.cell 90
  have c3 : w3.cell? ⟨w.heap.size + 1, 91, none⟩ = some (W 0#32) := hB.cell 91
  have c4 : w3.cell? ⟨w.heap.size + 1, 92, none⟩ = some (W (BitVec.ofInt 32 s)) := hB.cell 92
  have c5 : w3.cell? ⟨w.heap.size + 1, 93, none⟩ = some (U 0#64) := hB.cell 93
  have c6 : w3.cell? ⟨w.heap.size + 1, 94, none⟩ = some (U 0#64) := hB.cell 94
  have c7 : w3.cell? ⟨w.heap.size + 1, 95, none⟩ = some (U 0#64) := hB.cell 95
  clear hB hk3
  go_wp2_with fail
  refine (is_any _ _ _ _ _ _ _ _ _ (by omega) (by omega) _).mono ?_
  rintro e w4 ⟨rfl, hk4⟩
  rw [hi.out]
  clear c0 c1 c2 c3 c4 c5 c6 c7
  go_wp2_with fail
  refine (known_any _).mono ?_
  rintro e w5 ⟨rfl, hk5⟩
  go_wp2
  go_ret
  exact ⟨rfl, Kept.of (Kept.of hk hk4) hk5⟩

set_option maxRecDepth 100000 in
set_option maxHeartbeats 4000000 in
theorem kinds_12 (s : Int) (g0 : 0 ≤ s) (g1 : s ≤ 15) (w : World) : Calls Try.prog 3 #[.int .i64 12, .int .i64 s] w fun e w' => e = .returned (.bool true) ∧ Kept w w' := by
  have hi0 : isLeaf (⟨3, false, 0, 1#32, (BitVec.ofInt 32 s), 9#64, (0#64, 0#64)⟩ : Lf) s = false := by
    have g2 : s < 16 := by omega
    unfold isLeaf
    rw [decide_eq_true g0, decide_eq_true g2]
    first
      | rfl
      | (rw [beq_self_eq_true]; first | done | rfl)
  have hcv : ∀ (n : Int) (wx : World), (convert 3 22 (.int .i64 n)).run Try.prog wx = .ok (W (BitVec.ofInt 32 n)) wx := fun n wx => by
    rw [conv_int wx 3 22 _ .u32 _ (by kernel_rfl) Try.underlying22, W_ofInt]
  have hwr : IntKind.i64.wrap (s + 1) = s + 1 := IntWalk.i64_in _ (by omega)
  have hi := Lib.hid hi0
  clear hi0
  go_enter Try.func3, Try.ntmps3
  go_wp2_with fail
  obtain ⟨W2, hW2⟩ : ∃ W2, W2 = ((w.alloc (.cells #[W 1#32, W (BitVec.ofInt 32 s), U 9#64] 25)).alloc (.cells #[.int .i64 0, .bool false, .int .i64 0, W 0#32, W 0#32, U 0#64, U 0#64, U 0#64, .int .i64 2, .bool true, .int .i64 31, W 0#32, W 0#32, U 0#64, U 0#64, U 0#64, .int .i64 1, .bool false, .int .i64 31, W 1#32, W (BitVec.ofInt 32 s), U 9#64, U 0#64, U 0#64, .int .i64 1, .bool true, .int .i64 0, W 1#32, W (BitVec.ofInt 32 s), U 9#64, U 1#64, U 2#64, .int .i64 0, .bool true, .int .i64 0, W 0#32, W 0#32, U 0#64, U 0#64, U 0#64, .int .i64 0, .bool false, .int .i64 1, W 0#32, W 0#32, U 0#64, U 0#64, U 0#64, .int .i64 2, .bool false, .int .i64 3, W 0#32, W 0#32, U 0#64, U 0#64, U 0#64, .int .i64 2, .bool true, .int .i64 32, W 0#32, W 0#32, U 0#64, U 0#64, U 0#64, .int .i64 2, .bool true, .int .i64 0, W 0#32, W 0#32, U 0#64, U 1#64, U 0#64, .int .i64 1, .bool false, .int .i64 (-1), W 1#32, W (BitVec.ofInt 32 s), U 9#64, U 0#64, U 0#64, .int .i64 1, .bool false, .int .i64 0, W 1#32, W (BitVec.ofInt 32 (s + 1)), U 0#64, U 0#64, U 0#64, .int .i64 1, .bool false, .int .i64 0, W 0#32, W (BitVec.ofInt 32 s), U 0#64, U 0#64, U 0#64, .int .i64 3, .bool false, .int .i64 0, W 1#32, W (BitVec.ofInt 32 s), U 9#64, U 0#64, U 0#64] 29)) := ⟨_, rfl⟩
  have hB : Blk W2 (w.heap.size + 1) #[.int .i64 0, .bool false, .int .i64 0, W 0#32, W 0#32, U 0#64, U 0#64, U 0#64, .int .i64 2, .bool true, .int .i64 31, W 0#32, W 0#32, U 0#64, U 0#64, U 0#64, .int .i64 1, .bool false, .int .i64 31, W 1#32, W (BitVec.ofInt 32 s), U 9#64, U 0#64, U 0#64, .int .i64 1, .bool true, .int .i64 0, W 1#32, W (BitVec.ofInt 32 s), U 9#64, U 1#64, U 2#64, .int .i64 0, .bool true, .int .i64 0, W 0#32, W 0#32, U 0#64, U 0#64, U 0#64, .int .i64 0, .bool false, .int .i64 1, W 0#32, W 0#32, U 0#64, U 0#64, U 0#64, .int .i64 2, .bool false, .int .i64 3, W 0#32, W 0#32, U 0#64, U 0#64, U 0#64, .int .i64 2, .bool true, .int .i64 32, W 0#32, W 0#32, U 0#64, U 0#64, U 0#64, .int .i64 2, .bool true, .int .i64 0, W 0#32, W 0#32, U 0#64, U 1#64, U 0#64, .int .i64 1, .bool false, .int .i64 (-1), W 1#32, W (BitVec.ofInt 32 s), U 9#64, U 0#64, U 0#64, .int .i64 1, .bool false, .int .i64 0, W 1#32, W (BitVec.ofInt 32 (s + 1)), U 0#64, U 0#64, U 0#64, .int .i64 1, .bool false, .int .i64 0, W 0#32, W (BitVec.ofInt 32 s), U 0#64, U 0#64, U 0#64, .int .i64 3, .bool false, .int .i64 0, W 1#32, W (BitVec.ofInt 32 s), U 9#64, U 0#64, U 0#64] 29 := by
    rw [hW2, show w.heap.size + 1 = (w.alloc (.cells #[W 1#32, W (BitVec.ofInt 32 s), U 9#64] 25)).heap.size by simp]
    exact Blk.new _ _ _
  have hk : Kept w W2 := by rw [hW2]; exact ((Below.refl _ _).alloc (Nat.le_refl _) _).alloc (by simp) _
  rw [← hW2]
  clear hW2
  refine (put_leaf_none _ _ _ _ _ _ _ _ _ (by omega) (by omega) hi.out _).mono ?_
  rintro e w3 ⟨rfl, hk3⟩
  replace hk := Kept.of hk hk3
  replace hB := hB.kept hk3
  have c0 : w3.cell? ⟨w.heap.size + 1, 96, none⟩ = some (.int .i64 3) := hB.cell 96
  have c1 : w3.cell? ⟨w.heap.size + 1, 97, none⟩ = some (.bool false) := hB.cell 97
  have c2 : w3.cell? ⟨w.heap.size + 1, 98, none⟩ = some (.int .i64 0) := hB.cell 98
  have c3 : w3.cell? ⟨w.heap.size + 1, 99, none⟩ = some (W 1#32) := hB.cell 99
  have c4 : w3.cell? ⟨w.heap.size + 1, 100, none⟩ = some (W (BitVec.ofInt 32 s)) := hB.cell 100
  have c5 : w3.cell? ⟨w.heap.size + 1, 101, none⟩ = some (U 9#64) := hB.cell 101
  have c6 : w3.cell? ⟨w.heap.size + 1, 102, none⟩ = some (U 0#64) := hB.cell 102
  have c7 : w3.cell? ⟨w.heap.size + 1, 103, none⟩ = some (U 0#64) := hB.cell 103
  clear hB hk3
  go_wp2_with fail
  refine (is_any _ _ _ _ _ _ _ _ _ (by omega) (by omega) _).mono ?_
  rintro e w4 ⟨rfl, hk4⟩
  rw [hi.out]
  clear c0 c1 c2 c3 c4 c5 c6 c7
  go_wp2_with fail
  refine (known_any _).mono ?_
  rintro e w5 ⟨rfl, hk5⟩
  go_wp2
  go_ret
  exact ⟨rfl, Kept.of (Kept.of hk hk4) hk5⟩


end Go.Proofs.Ytkbihhdgipckgaa
