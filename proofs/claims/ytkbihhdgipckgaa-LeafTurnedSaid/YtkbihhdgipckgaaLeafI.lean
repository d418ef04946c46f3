/- May a slot have a leaf? What leaf.Is and its reference answer. -/
import Derived.IntWalk
import Derived.Test.YtkbihhdgipckgaaLeafEq
namespace Go.Proofs.Ytkbihhdgipckgaa
open Go Go.RowKit

theorem isLeaf_out {l : Lf} {s : Int} (h : s < 0 ∨ 16 ≤ s) : isLeaf l s = false := by
  unfold isLeaf
  rcases h with h | h
  · have : decide (0 ≤ s) = false := by simp; omega
    rw [this]; rfl
  · have : decide (s < 16) = false := by simp; omega
    rw [this]; simp
theorem isLeaf_0 {l : Lf} {s : Int} (h0 : 0 ≤ s) (h1 : s < 16) (hk : l.kind = 0) : isLeaf l s = lfEq l ⟨0, false, 0, 0#32, 0#32, 0#64, (0#64, 0#64)⟩ := by
  unfold isLeaf; rw [if_pos hk, decide_eq_true h0, decide_eq_true h1]; rfl
theorem isLeaf_2 {l : Lf} {s : Int} (h0 : 0 ≤ s) (h1 : s < 16) (hk : l.kind = 2) : isLeaf l s = (isLbaB l.lba && lfEq l ⟨2, true, l.lba, 0#32, 0#32, 0#64, (0#64, 0#64)⟩) := by
  unfold isLeaf; rw [if_neg (by omega), if_pos hk, decide_eq_true h0, decide_eq_true h1]; rfl
theorem isLeaf_1 {l : Lf} {s : Int} (h0 : 0 ≤ s) (h1 : s < 16) (hk : l.kind = 1) : isLeaf l s = (isLbaB l.lba && (l.sl == BitVec.ofInt 32 s) && decide (0#32 < l.ep)) := by
  unfold isLeaf; rw [if_neg (by omega), if_neg (by omega), if_pos hk, decide_eq_true h0, decide_eq_true h1]; rfl
theorem isLeaf_x {l : Lf} {s : Int} (h0 : l.kind ≠ 0) (h2 : l.kind ≠ 2) (h1 : l.kind ≠ 1) : isLeaf l s = false := by
  unfold isLeaf; rw [if_neg h0, if_neg h2, if_neg h1]; simp

set_option maxRecDepth 100000 in
set_option maxHeartbeats 4000000 in
theorem isLba_any (n : Int) (w : World) : Calls Try.prog 16 #[.int .i64 n] w fun e w' => e = .returned (.bool (isLbaB n)) ∧ w = w' := by
  unfold isLbaB
  by_cases h0 : 0 ≤ n
  · rw [decide_eq_true h0]
    by_cases h1 : n < 32
    · rw [decide_eq_true h1]
      go_enter Try.func16, Try.ntmps16
      go_wp2
      go_ret
      exact ⟨rfl, rfl⟩
    · rw [decide_eq_false h1]
      have h2 : 32 ≤ n := by omega
      go_enter Try.func16, Try.ntmps16
      go_wp2
      go_ret
      exact ⟨rfl, rfl⟩
  · rw [decide_eq_false h0]
    have h2 : n < 0 := by omega
    go_enter Try.func16, Try.ntmps16
    go_wp2
    go_ret
    exact ⟨rfl, rfl⟩

set_option maxRecDepth 100000 in
set_option maxHeartbeats 4000000 in
theorem is_any (k : Int) (b : Bool) (z : Int) (e q : BitVec 32) (v t1 t2 : BitVec 64) (s : Int) (lo : -9223372036854775808 ≤ s) (hi : s ≤ 9223372036854775807) (w : World) : Calls Try.prog 8 #[.agg #[.int .i64 k, .bool b, .int .i64 z, W e, W q, U v, U t1, U t2], .int .i64 s] w fun e' w' => e' = .returned (.bool (isLeaf (⟨k, b, z, e, q, v, (t1, t2)⟩ : Lf) s)) ∧ Kept w w' := by
  have hk0 : Kept w (w.alloc (.cells #[.int .i64 k, .bool b, .int .i64 z, W e, W q, U v, U t1, U t2] 29)) := (Below.refl _ _).alloc (Nat.le_refl _) _
  have hR : Blk (w.alloc (.cells #[.int .i64 k, .bool b, .int .i64 z, W e, W q, U v, U t1, U t2] 29)) w.heap.size #[.int .i64 k, .bool b, .int .i64 z, W e, W q, U v, U t1, U t2] 29 := Blk.new _ _ _
  have r0 := hR.cell 0
  have r1 := hR.cell 1
  have r2 := hR.cell 2
  have r3 := hR.cell 3
  have r4 := hR.cell 4
  have r5 := hR.cell 5
  have r6 := hR.cell 6
  have r7 := hR.cell 7
  clear hR
  by_cases hs0 : s < 0
  · rw [isLeaf_out (.inl hs0)]
    go_enter Try.func8, Try.ntmps8
    go_wp2
    go_ret
    exact ⟨rfl, hk0⟩
  by_cases hs1 : 16 ≤ s
  · rw [isLeaf_out (.inr hs1)]
    have hs2 : 0 ≤ s := by omega
    go_enter Try.func8, Try.ntmps8
    go_wp2
    go_ret
    exact ⟨rfl, hk0⟩
  have g0 : 0 ≤ s := by omega
  have g1 : s < 16 := by omega
  clear hs0 hs1
  by_cases k0 : k = 0
  · subst k0
    rw [isLeaf_0 g0 g1 rfl]
    go_enter Try.func8, Try.ntmps8
    go_wp2
    go_ret
    exact ⟨rfl, hk0⟩
  have k0' : (k == 0) = false := by simpa using k0
  by_cases k2 : k = 2
  · subst k2
    rw [isLeaf_2 g0 g1 rfl]
    simp only []
    cases hz : isLbaB z
    · have hz0 : z < 0 ∨ 32 ≤ z := by simp [isLbaB] at hz; omega
      rw [Bool.false_and]
      go_enter Try.func8, Try.ntmps8
      go_wp2_with fail
      refine (isLba_any _ _).mono ?_
      rintro e' w1 ⟨rfl, rfl⟩
      rw [hz]
      go_wp2
      go_ret
      exact ⟨rfl, hk0⟩
    · have hz0 : 0 ≤ z ∧ z < 32 := by simpa [isLbaB] using hz
      obtain ⟨hz1, hz2⟩ := hz0
      rw [Bool.true_and]
      go_enter Try.func8, Try.ntmps8
      go_wp2_with fail
      refine (isLba_any _ _).mono ?_
      rintro e' w1 ⟨rfl, rfl⟩
      rw [hz]
      go_wp2
      go_ret
      exact ⟨rfl, hk0⟩
  have k2' : (k == 2) = false := by simpa using k2
  by_cases k1 : k = 1
  · subst k1
    rw [isLeaf_1 g0 g1 rfl]
    simp only []
    cases hz : isLbaB z
    · have hz0 : z < 0 ∨ 32 ≤ z := by simp [isLbaB] at hz; omega
      rw [Bool.false_and, Bool.false_and]
      go_enter Try.func8, Try.ntmps8
      go_wp2_with fail
      refine (isLba_any _ _).mono ?_
      rintro e' w1 ⟨rfl, rfl⟩
      rw [hz]
      go_wp2
      go_ret
      exact ⟨rfl, hk0⟩
    · have hz0 : 0 ≤ z ∧ z < 32 := by simpa [isLbaB] using hz
      obtain ⟨hz1, hz2⟩ := hz0
      rw [Bool.true_and]
      have hcv : ∀ wx : World, (convert 3 22 (.int .i64 s)).run Try.prog wx = .ok (W (BitVec.ofInt 32 s)) wx := fun wx => by
        rw [conv_int wx 3 22 _ .u32 _ (by kernel_rfl) Try.underlying22, W_ofInt]
      cases hq : q == BitVec.ofInt 32 s
      · rw [Bool.false_and]
        go_enter Try.func8, Try.ntmps8
        go_wp2_with fail
        refine (isLba_any _ _).mono ?_
        rintro e' w1 ⟨rfl, rfl⟩
        rw [hz]
        go_wp2
        go_ret
        exact ⟨rfl, hk0⟩
      · rw [Bool.true_and]
        go_enter Try.func8, Try.ntmps8
        go_wp2_with fail
        refine (isLba_any _ _).mono ?_
        rintro e' w1 ⟨rfl, rfl⟩
        rw [hz]
        go_wp2
        go_ret
        exact ⟨by rfl, hk0⟩
  have k1' : (k == 1) = false := by simpa using k1
  rw [isLeaf_x k0 k2 k1]
  go_enter Try.func8, Try.ntmps8
  go_wp2
  go_ret
  exact ⟨rfl, hk0⟩

set_option maxRecDepth 100000 in
set_option maxHeartbeats 4000000 in
theorem ris_any (k : Int) (b : Bool) (z : Int) (e q : BitVec 32) (v t1 t2 : BitVec 64) (s : Int) (lo : -9223372036854775808 ≤ s) (hi : s ≤ 9223372036854775807) (w : World) : Calls Try.prog 17 #[.agg #[.int .i64 k, .bool b, .int .i64 z, W e, W q, U v, U t1, U t2], .int .i64 s] w fun e' w' => e' = .returned (.bool (isLeaf (⟨k, b, z, e, q, v, (t1, t2)⟩ : Lf) s)) ∧ Kept w w' := by
  have hk0 : Kept w (w.alloc (.cells #[.int .i64 k, .bool b, .int .i64 z, W e, W q, U v, U t1, U t2] 29)) := (Below.refl _ _).alloc (Nat.le_refl _) _
  have hR : Blk (w.alloc (.cells #[.int .i64 k, .bool b, .int .i64 z, W e, W q, U v, U t1, U t2] 29)) w.heap.size #[.int .i64 k, .bool b, .int .i64 z, W e, W q, U v, U t1, U t2] 29 := Blk.new _ _ _
  have r0 := hR.cell 0
  have r1 := hR.cell 1
  have r2 := hR.cell 2
  have r3 := hR.cell 3
  have r4 := hR.cell 4
  have r5 := hR.cell 5
  have r6 := hR.cell 6
  have r7 := hR.cell 7
  clear hR
  by_cases hs0 : s < 0
  · rw [isLeaf_out (.inl hs0)]
    go_enter Try.func17, Try.ntmps17
    go_wp2
    go_ret
    exact ⟨rfl, hk0⟩
  by_cases hs1 : 16 ≤ s
  · rw [isLeaf_out (.inr hs1)]
    have hs2 : 0 ≤ s := by omega
    go_enter Try.func17, Try.ntmps17
    go_wp2
    go_ret
    exact ⟨rfl, hk0⟩
  have g0 : 0 ≤ s := by omega
  have g1 : s < 16 := by omega
  clear hs0 hs1
  by_cases k0 : k = 0
  · subst k0
    rw [isLeaf_0 g0 g1 rfl]
    go_enter Try.func17, Try.ntmps17
    go_wp2
    go_ret
    exact ⟨rfl, hk0⟩
  have k0' : (k == 0) = false := by simpa using k0
  by_cases k2 : k = 2
  · subst k2
    rw [isLeaf_2 g0 g1 rfl]
    simp only []
    cases hz : isLbaB z
    · have hz0 : z < 0 ∨ 32 ≤ z := by simp [isLbaB] at hz; omega
      rw [Bool.false_and]
      rcases hz0 with hz0 | hz0
      · go_enter Try.func17, Try.ntmps17
        go_wp2
        go_ret
        exact ⟨rfl, hk0⟩
      · have hz3 : 0 ≤ z := by omega
        go_enter Try.func17, Try.ntmps17
        go_wp2
        go_ret
        exact ⟨rfl, hk0⟩
    · have hz0 : 0 ≤ z ∧ z < 32 := by simpa [isLbaB] using hz
      obtain ⟨hz1, hz2⟩ := hz0
      rw [Bool.true_and]
      go_enter Try.func17, Try.ntmps17
      go_wp2
      go_ret
      exact ⟨rfl, hk0⟩
  have k2' : (k == 2) = false := by simpa using k2
  by_cases k1 : k = 1
  · subst k1
    rw [isLeaf_1 g0 g1 rfl]
    simp only []
    cases hz : isLbaB z
    · have hz0 : z < 0 ∨ 32 ≤ z := by simp [isLbaB] at hz; omega
      rw [Bool.false_and, Bool.false_and]
      rcases hz0 with hz0 | hz0
      · go_enter Try.func17, Try.ntmps17
        go_wp2
        go_ret
        exact ⟨rfl, hk0⟩
      · have hz3 : 0 ≤ z := by omega
        go_enter Try.func17, Try.ntmps17
        go_wp2
        go_ret
        exact ⟨rfl, hk0⟩
    · have hz0 : 0 ≤ z ∧ z < 32 := by simpa [isLbaB] using hz
      obtain ⟨hz1, hz2⟩ := hz0
      rw [Bool.true_and]
      have hcv : ∀ wx : World, (convert 22 3 (W q)).run Try.prog wx = .ok (.int .i64 (q.toNat : Int)) wx := fun wx => by
        rw [W, conv_int wx 22 3 _ .i64 _ (by kernel_rfl) Try.underlying3, IntWalk.i64_in _ (by have := q.isLt; omega)]
      have hqe : (q == BitVec.ofInt 32 s) = ((q.toNat : Int) == s) := by
        rw [Bool.eq_iff_iff, beq_iff_eq, beq_iff_eq]
        constructor
        · rintro rfl; rw [BitVec.toNat_ofInt]; omega
        · intro h; apply BitVec.eq_of_toNat_eq; rw [BitVec.toNat_ofInt]; omega
      have hep : decide (0#32 < e) = (e != 0#32) := by
        rw [Bool.eq_iff_iff, decide_eq_true_eq, bne_iff_ne, BitVec.lt_def]
        constructor
        · rintro h rfl; simp at h
        · intro h; have : e.toNat ≠ 0 := fun e0 => h (BitVec.eq_of_toNat_eq (by simpa using e0)); simp; omega
      cases hq : q == BitVec.ofInt 32 s
      · rw [Bool.false_and]
        rw [hqe] at hq
        go_enter Try.func17, Try.ntmps17
        go_wp2
        go_ret
        exact ⟨rfl, hk0⟩
      · rw [Bool.true_and]
        rw [hqe] at hq
        rw [hep]
        go_enter Try.func17, Try.ntmps17
        go_wp2
        go_ret
        exact ⟨by rfl, hk0⟩
  have k1' : (k == 1) = false := by simpa using k1
  rw [isLeaf_x k0 k2 k1]
  by_cases hz0 : z < 0
  · go_enter Try.func17, Try.ntmps17
    go_wp2
    go_ret
    exact ⟨rfl, hk0⟩
  have hz1 : 0 ≤ z := by omega
  by_cases hz2 : 32 ≤ z
  · go_enter Try.func17, Try.ntmps17
    go_wp2
    go_ret
    exact ⟨rfl, hk0⟩
  have hz3 : z < 32 := by omega
  clear hz0 hz2
  go_enter Try.func17, Try.ntmps17
  go_wp2
  go_ret
  exact ⟨rfl, hk0⟩


end Go.Proofs.Ytkbihhdgipckgaa
