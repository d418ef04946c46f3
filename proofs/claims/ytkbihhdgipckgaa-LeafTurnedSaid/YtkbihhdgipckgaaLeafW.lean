/- What leaf.Put and its reference answer. -/
import Derived.IntWalk
import Derived.Test.YtkbihhdgipckgaaLeafI
import Derived.Test.YtkbihhdgipckgaaConcat
import Derived.Test.YtkbihhdgipckgaaCut
import Derived.Test.YtkbihhdgipckgaaStr
namespace Go.Proofs.Ytkbihhdgipckgaa
open Go Go.RowKit

set_option maxRecDepth 100000 in
set_option maxHeartbeats 4000000 in
theorem put_leaf_false (k : Int) (z : Int) (e q : BitVec 32) (v t1 t2 : BitVec 64) (s : Int) (lo : -9223372036854775808 ≤ s) (hi : s ≤ 9223372036854775807) (h : isLeaf (⟨k, false, z, e, q, v, (t1, t2)⟩ : Lf) s = true) (w : World) : Calls Try.prog 7 #[.agg #[.int .i64 k, .bool false, .int .i64 z, W e, W q, U v, U t1, U t2], .int .i64 s] w fun e' w' => ∃ x, e' = .returned (.tuple #[x, .bool true]) ∧ w'.ownsRow w.heap.size 5 1 x 32 (bcells (leafB (⟨k, false, z, e, q, v, (t1, t2)⟩ : Lf))) ∧ Kept w w' := by
  have hk0 : Kept w (w.alloc (.cells #[.int .i64 k, .bool false, .int .i64 z, W e, W q, U v, U t1, U t2] 29)) := (Below.refl _ _).alloc (Nat.le_refl _) _
  have hR : Blk (w.alloc (.cells #[.int .i64 k, .bool false, .int .i64 z, W e, W q, U v, U t1, U t2] 29)) w.heap.size #[.int .i64 k, .bool false, .int .i64 z, W e, W q, U v, U t1, U t2] 29 := Blk.new _ _ _
  have hu : ∀ (n : Int) (wx : World), (convert 3 23 (.int .i64 n)).run Try.prog wx = .ok (U (BitVec.ofInt 64 n)) wx := fun n wx => by
    rw [conv_int wx 3 23 _ .u64 _ (by kernel_rfl) Try.underlying23, U_ofInt]
  have q0 := hR.cell 0
  have q1 := hR.cell 1
  have q2 := hR.cell 2
  have q3 := hR.cell 3
  have q4 := hR.cell 4
  have q5 := hR.cell 5
  have q6 := hR.cell 6
  have q7 := hR.cell 7
  go_enter Try.func7, Try.ntmps7
  go_wp2_with fail
  refine (is_any _ _ _ _ _ _ _ _ _ lo hi _).mono ?_
  rintro e' w0 ⟨rfl, hk1⟩
  rw [h]
  replace hk0 := hk0.of hk1
  replace hR := hR.kept hk1
  clear q0 q1 q2 q3 q4 q5 q6 q7
  have q0 := hR.cell 0
  have q1 := hR.cell 1
  clear h hk1
  go_wp2_with fail
  refine wp_region_chainK [(0, 0), (1, 0), (2, 0), (4, 0), (6, 0), (7, 0), (8, 0), (10, 0), (11, 0), (12, 0), (13, 0), (15, 0), (16, 0), (17, 0), (19, 0), (20, 0), (3, 1), (5, 1), (9, 1), (14, 1), (18, 1), (21, 1), (22, 1), (23, 1), (24, 0), (25, 0)] (by kernel_rfl) (by kernel_rfl) ?_
  intro w1 hw1
  replace hR := hR.kept hw1
  repeat
    refine chain_light _ rfl (fun K hK => ?_)
    first
      | (refine (if_pos (by rfl)).mpr ?_; apply Exists.intro; refine ⟨fun w' hw' => ?_, hK _ ?_⟩; (have c := hR.kept hw'; have r0 := c.cell 0; have r1 := c.cell 1; have r2 := c.cell 2; have r3 := c.cell 3; have r4 := c.cell 4; have r5 := c.cell 5; have r6 := c.cell 6; have r7 := c.cell 7; clear c; go_simp; done); (clear hK K; simp only [Act.put, List.setIfInBounds_toArray, List.set_cons_zero, List.set_cons_succ]))
      | (refine (if_pos (by rfl)).mpr ?_; apply Exists.intro; refine ⟨fun w' hw' => ?_, hK _ ?_⟩; (have c := hR.kept hw'; have r0 := c.cell 0; have r1 := c.cell 1; have r2 := c.cell 2; have r3 := c.cell 3; have r4 := c.cell 4; have r5 := c.cell 5; have r6 := c.cell 6; have r7 := c.cell 7; clear c; go_simp; rfl); (clear hK K; simp only [Act.put, List.setIfInBounds_toArray, List.set_cons_zero, List.set_cons_succ]))
      | (refine (if_neg (by rw [Bool.not_eq_true]; rfl)).mpr ?_; refine hK _ ?_; (clear hK K; simp only [Act.put, List.setIfInBounds_toArray, List.set_cons_zero, List.set_cons_succ]))
  refine chain_heavy _ rfl (fun K hK => ?_)
  refine (if_pos (by rfl)).mpr ?_
  go_wp2_with fail
  refine (put_some _ 1 (by omega) (by omega) _).mono ?_
  rintro e w2 ⟨x2, rfl, hown2, hk2⟩
  obtain ⟨a2, c2, he2⟩ := (Sl.of_own hown2).len
  subst he2
  have s2 := Sl.of_own hown2
  clear hown2
  replace hR := hR.kept hk2
  go_wp2
  refine hK _ _ (hk2) ?_
  clear hK K
  try simp only [Act.put, List.setIfInBounds_toArray, List.set_cons_zero, List.set_cons_succ]
  refine chain_heavy _ rfl (fun K hK => ?_)
  refine (if_pos (by rfl)).mpr ?_
  go_wp2_with fail
  refine (put_some _ 1 (by omega) (by omega) _).mono ?_
  rintro e w3 ⟨x3, rfl, hown3, hk3⟩
  obtain ⟨a3, c3, he3⟩ := (Sl.of_own hown3).len
  subst he3
  have s3 := Sl.of_own hown3
  clear hown3
  replace hR := hR.kept hk3
  replace s2 := s2.kept hk3
  go_wp2
  refine hK _ _ (hk3) ?_
  clear hK K
  try simp only [Act.put, List.setIfInBounds_toArray, List.set_cons_zero, List.set_cons_succ]
  refine chain_heavy _ rfl (fun K hK => ?_)
  refine (if_pos (by rfl)).mpr ?_
  go_wp2_with fail
  refine (put_some _ 2 (by omega) (by omega) _).mono ?_
  rintro e w4 ⟨x4, rfl, hown4, hk4⟩
  obtain ⟨a4, c4, he4⟩ := (Sl.of_own hown4).len
  subst he4
  have s4 := Sl.of_own hown4
  clear hown4
  replace hR := hR.kept hk4
  replace s2 := s2.kept hk4
  replace s3 := s3.kept hk4
  go_wp2
  refine hK _ _ (hk4) ?_
  clear hK K
  try simp only [Act.put, List.setIfInBounds_toArray, List.set_cons_zero, List.set_cons_succ]
  refine chain_heavy _ rfl (fun K hK => ?_)
  refine (if_pos (by rfl)).mpr ?_
  go_wp2_with fail
  refine (put_some _ 4 (by omega) (by omega) _).mono ?_
  rintro e w5 ⟨x5, rfl, hown5, hk5⟩
  obtain ⟨a5, c5, he5⟩ := (Sl.of_own hown5).len
  subst he5
  have s5 := Sl.of_own hown5
  clear hown5
  replace hR := hR.kept hk5
  replace s2 := s2.kept hk5
  replace s3 := s3.kept hk5
  replace s4 := s4.kept hk5
  go_wp2
  refine hK _ _ (hk5) ?_
  clear hK K
  try simp only [Act.put, List.setIfInBounds_toArray, List.set_cons_zero, List.set_cons_succ]
  refine chain_heavy _ rfl (fun K hK => ?_)
  refine (if_pos (by rfl)).mpr ?_
  go_wp2_with fail
  refine (put_some _ 8 (by omega) (by omega) _).mono ?_
  rintro e w6 ⟨x6, rfl, hown6, hk6⟩
  obtain ⟨a6, c6, he6⟩ := (Sl.of_own hown6).len
  subst he6
  have s6 := Sl.of_own hown6
  clear hown6
  replace hR := hR.kept hk6
  replace s2 := s2.kept hk6
  replace s3 := s3.kept hk6
  replace s4 := s4.kept hk6
  replace s5 := s5.kept hk6
  go_wp2
  refine hK _ _ (hk6) ?_
  clear hK K
  try simp only [Act.put, List.setIfInBounds_toArray, List.set_cons_zero, List.set_cons_succ]
  refine chain_heavy _ rfl (fun K hK => ?_)
  refine (if_pos (by rfl)).mpr ?_
  go_wp2_with fail
  refine (bytes_any _ _ _).mono ?_
  rintro e w7 ⟨x7, rfl, hown7, hk7⟩
  obtain ⟨a7, c7, he7⟩ := (Sl.of_own hown7).len
  subst he7
  have s7 := Sl.of_own hown7
  clear hown7
  replace hR := hR.kept hk7
  replace s2 := s2.kept hk7
  replace s3 := s3.kept hk7
  replace s4 := s4.kept hk7
  replace s5 := s5.kept hk7
  replace s6 := s6.kept hk7
  go_wp2
  refine hK _ _ (hk7) ?_
  clear hK K
  try simp only [Act.put, List.setIfInBounds_toArray, List.set_cons_zero, List.set_cons_succ]
  refine chain_heavy _ rfl (fun K hK => ?_)
  refine (if_pos (by rfl)).mpr ?_
  go_wp2
  refine hK _ _ ((Below.refl _ _).alloc (Nat.le_refl _) _) ?_
  clear hK K
  try simp only [Act.put, List.setIfInBounds_toArray, List.set_cons_zero, List.set_cons_succ]
  refine chain_heavy _ rfl (fun K hK => ?_)
  refine (if_pos (by rfl)).mpr ?_
  go_wp2_with fail
  refine (concat_any _ [putB (BitVec.ofInt 64 k) 1, putB (0#64) 1, putB (BitVec.ofInt 64 z) 2, putB (e.setWidth 64) 4, putB v 8, pairB (t1, t2)] (by simp) (by simp [putB_length, pairB_length]) _ (RowsSl.lit (us := [.slice a2 1 c2, .slice a3 1 c3, .slice a4 2 c4, .slice a5 4 c5, .slice a6 8 c6, .slice a7 16 c7]) (.cons (by rw [putB_length]; exact s2) (.cons (by rw [putB_length]; exact s3) (.cons (by rw [putB_length]; exact s4) (.cons (by rw [putB_length]; exact s5) (.cons (by rw [putB_length]; exact s6) (.cons (by rw [pairB_length]; exact s7) .nil)))))) 31 6 rfl (by decide))).mono ?_
  rintro e w8 ⟨x8, rfl, hown8, hk8⟩
  go_wp2
  refine hK _ _ (hk8) ?_
  clear hK K
  try simp only [Act.put, List.setIfInBounds_toArray, List.set_cons_zero, List.set_cons_succ]
  repeat
    refine chain_light _ rfl (fun K hK => ?_)
    first
      | (refine (if_pos (by rfl)).mpr ?_; apply Exists.intro; refine ⟨fun w' hw' => ?_, hK _ ?_⟩; (go_simp; done); (clear hK K; simp only [Act.put, List.setIfInBounds_toArray, List.set_cons_zero, List.set_cons_succ]))
      | (refine (if_pos (by rfl)).mpr ?_; apply Exists.intro; refine ⟨fun w' hw' => ?_, hK _ ?_⟩; (go_simp; rfl); (clear hK K; simp only [Act.put, List.setIfInBounds_toArray, List.set_cons_zero, List.set_cons_succ]))
      | (refine (if_neg (by rw [Bool.not_eq_true]; rfl)).mpr ?_; refine hK _ ?_; (clear hK K; simp only [Act.put, List.setIfInBounds_toArray, List.set_cons_zero, List.set_cons_succ]))
  refine chain_nil ?_
  go_wp2
  go_ret2
  have hfl : [putB (BitVec.ofInt 64 k) 1, putB (0#64) 1, putB (BitVec.ofInt 64 z) 2, putB (e.setWidth 64) 4, putB v 8, pairB (t1, t2)].flatten = leafB ⟨k, false, z, e, q, v, (t1, t2)⟩ := by simp [leafB, dirtyU]
  rw [hfl, leafB_length] at hown8
  have hk9 := ((((((hk0.of hw1).of hk2).of hk3).of hk4).of hk5).of hk6).of hk7
  refine ⟨x8, rfl, own_base hown8 ?_, (hk9.of ((Below.refl _ _).alloc (Nat.le_refl _) _)).of hk8⟩
  have := hk9.size
  simp
  omega

set_option maxRecDepth 100000 in
set_option maxHeartbeats 4000000 in
theorem put_leaf_true (k : Int) (z : Int) (e q : BitVec 32) (v t1 t2 : BitVec 64) (s : Int) (lo : -9223372036854775808 ≤ s) (hi : s ≤ 9223372036854775807) (h : isLeaf (⟨k, true, z, e, q, v, (t1, t2)⟩ : Lf) s = true) (w : World) : Calls Try.prog 7 #[.agg #[.int .i64 k, .bool true, .int .i64 z, W e, W q, U v, U t1, U t2], .int .i64 s] w fun e' w' => ∃ x, e' = .returned (.tuple #[x, .bool true]) ∧ w'.ownsRow w.heap.size 5 1 x 32 (bcells (leafB (⟨k, true, z, e, q, v, (t1, t2)⟩ : Lf))) ∧ Kept w w' := by
  have hk0 : Kept w (w.alloc (.cells #[.int .i64 k, .bool true, .int .i64 z, W e, W q, U v, U t1, U t2] 29)) := (Below.refl _ _).alloc (Nat.le_refl _) _
  have hR : Blk (w.alloc (.cells #[.int .i64 k, .bool true, .int .i64 z, W e, W q, U v, U t1, U t2] 29)) w.heap.size #[.int .i64 k, .bool true, .int .i64 z, W e, W q, U v, U t1, U t2] 29 := Blk.new _ _ _
  have hu : ∀ (n : Int) (wx : World), (convert 3 23 (.int .i64 n)).run Try.prog wx = .ok (U (BitVec.ofInt 64 n)) wx := fun n wx => by
    rw [conv_int wx 3 23 _ .u64 _ (by kernel_rfl) Try.underlying23, U_ofInt]
  have q0 := hR.cell 0
  have q1 := hR.cell 1
  have q2 := hR.cell 2
  have q3 := hR.cell 3
  have q4 := hR.cell 4
  have q5 := hR.cell 5
  have q6 := hR.cell 6
  have q7 := hR.cell 7
  go_enter Try.func7, Try.ntmps7
  go_wp2_with fail
  refine (is_any _ _ _ _ _ _ _ _ _ lo hi _).mono ?_
  rintro e' w0 ⟨rfl, hk1⟩
  rw [h]
  replace hk0 := hk0.of hk1
  replace hR := hR.kept hk1
  clear q0 q1 q2 q3 q4 q5 q6 q7
  have q0 := hR.cell 0
  have q1 := hR.cell 1
  clear h hk1
  go_wp2_with fail
  refine wp_region_chainK [(0, 0), (1, 0), (2, 0), (4, 0), (6, 0), (7, 0), (8, 0), (10, 0), (11, 0), (12, 0), (13, 0), (15, 0), (16, 0), (17, 0), (19, 0), (20, 0), (3, 1), (5, 1), (9, 1), (14, 1), (18, 1), (21, 1), (22, 1), (23, 1), (24, 0), (25, 0)] (by kernel_rfl) (by kernel_rfl) ?_
  intro w1 hw1
  replace hR := hR.kept hw1
  repeat
    refine chain_light _ rfl (fun K hK => ?_)
    first
      | (refine (if_pos (by rfl)).mpr ?_; apply Exists.intro; refine ⟨fun w' hw' => ?_, hK _ ?_⟩; (have c := hR.kept hw'; have r0 := c.cell 0; have r1 := c.cell 1; have r2 := c.cell 2; have r3 := c.cell 3; have r4 := c.cell 4; have r5 := c.cell 5; have r6 := c.cell 6; have r7 := c.cell 7; clear c; go_simp; done); (clear hK K; simp only [Act.put, List.setIfInBounds_toArray, List.set_cons_zero, List.set_cons_succ]))
      | (refine (if_pos (by rfl)).mpr ?_; apply Exists.intro; refine ⟨fun w' hw' => ?_, hK _ ?_⟩; (have c := hR.kept hw'; have r0 := c.cell 0; have r1 := c.cell 1; have r2 := c.cell 2; have r3 := c.cell 3; have r4 := c.cell 4; have r5 := c.cell 5; have r6 := c.cell 6; have r7 := c.cell 7; clear c; go_simp; rfl); (clear hK K; simp only [Act.put, List.setIfInBounds_toArray, List.set_cons_zero, List.set_cons_succ]))
      | (refine (if_neg (by rw [Bool.not_eq_true]; rfl)).mpr ?_; refine hK _ ?_; (clear hK K; simp only [Act.put, List.setIfInBounds_toArray, List.set_cons_zero, List.set_cons_succ]))
  refine chain_heavy _ rfl (fun K hK => ?_)
  refine (if_pos (by rfl)).mpr ?_
  go_wp2_with fail
  refine (put_some _ 1 (by omega) (by omega) _).mono ?_
  rintro e w2 ⟨x2, rfl, hown2, hk2⟩
  obtain ⟨a2, c2, he2⟩ := (Sl.of_own hown2).len
  subst he2
  have s2 := Sl.of_own hown2
  clear hown2
  replace hR := hR.kept hk2
  go_wp2
  refine hK _ _ (hk2) ?_
  clear hK K
  try simp only [Act.put, List.setIfInBounds_toArray, List.set_cons_zero, List.set_cons_succ]
  refine chain_heavy _ rfl (fun K hK => ?_)
  refine (if_pos (by rfl)).mpr ?_
  go_wp2_with fail
  refine (put_some _ 1 (by omega) (by omega) _).mono ?_
  rintro e w3 ⟨x3, rfl, hown3, hk3⟩
  obtain ⟨a3, c3, he3⟩ := (Sl.of_own hown3).len
  subst he3
  have s3 := Sl.of_own hown3
  clear hown3
  replace hR := hR.kept hk3
  replace s2 := s2.kept hk3
  go_wp2
  refine hK _ _ (hk3) ?_
  clear hK K
  try simp only [Act.put, List.setIfInBounds_toArray, List.set_cons_zero, List.set_cons_succ]
  refine chain_heavy _ rfl (fun K hK => ?_)
  refine (if_pos (by rfl)).mpr ?_
  go_wp2_with fail
  refine (put_some _ 2 (by omega) (by omega) _).mono ?_
  rintro e w4 ⟨x4, rfl, hown4, hk4⟩
  obtain ⟨a4, c4, he4⟩ := (Sl.of_own hown4).len
  subst he4
  have s4 := Sl.of_own hown4
  clear hown4
  replace hR := hR.kept hk4
  replace s2 := s2.kept hk4
  replace s3 := s3.kept hk4
  go_wp2
  refine hK _ _ (hk4) ?_
  clear hK K
  try simp only [Act.put, List.setIfInBounds_toArray, List.set_cons_zero, List.set_cons_succ]
  refine chain_heavy _ rfl (fun K hK => ?_)
  refine (if_pos (by rfl)).mpr ?_
  go_wp2_with fail
  refine (put_some _ 4 (by omega) (by omega) _).mono ?_
  rintro e w5 ⟨x5, rfl, hown5, hk5⟩
  obtain ⟨a5, c5, he5⟩ := (Sl.of_own hown5).len
  subst he5
  have s5 := Sl.of_own hown5
  clear hown5
  replace hR := hR.kept hk5
  replace s2 := s2.kept hk5
  replace s3 := s3.kept hk5
  replace s4 := s4.kept hk5
  go_wp2
  refine hK _ _ (hk5) ?_
  clear hK K
  try simp only [Act.put, List.setIfInBounds_toArray, List.set_cons_zero, List.set_cons_succ]
  refine chain_heavy _ rfl (fun K hK => ?_)
  refine (if_pos (by rfl)).mpr ?_
  go_wp2_with fail
  refine (put_some _ 8 (by omega) (by omega) _).mono ?_
  rintro e w6 ⟨x6, rfl, hown6, hk6⟩
  obtain ⟨a6, c6, he6⟩ := (Sl.of_own hown6).len
  subst he6
  have s6 := Sl.of_own hown6
  clear hown6
  replace hR := hR.kept hk6
  replace s2 := s2.kept hk6
  replace s3 := s3.kept hk6
  replace s4 := s4.kept hk6
  replace s5 := s5.kept hk6
  go_wp2
  refine hK _ _ (hk6) ?_
  clear hK K
  try simp only [Act.put, List.setIfInBounds_toArray, List.set_cons_zero, List.set_cons_succ]
  refine chain_heavy _ rfl (fun K hK => ?_)
  refine (if_pos (by rfl)).mpr ?_
  go_wp2_with fail
  refine (bytes_any _ _ _).mono ?_
  rintro e w7 ⟨x7, rfl, hown7, hk7⟩
  obtain ⟨a7, c7, he7⟩ := (Sl.of_own hown7).len
  subst he7
  have s7 := Sl.of_own hown7
  clear hown7
  replace hR := hR.kept hk7
  replace s2 := s2.kept hk7
  replace s3 := s3.kept hk7
  replace s4 := s4.kept hk7
  replace s5 := s5.kept hk7
  replace s6 := s6.kept hk7
  go_wp2
  refine hK _ _ (hk7) ?_
  clear hK K
  try simp only [Act.put, List.setIfInBounds_toArray, List.set_cons_zero, List.set_cons_succ]
  refine chain_heavy _ rfl (fun K hK => ?_)
  refine (if_pos (by rfl)).mpr ?_
  go_wp2
  refine hK _ _ ((Below.refl _ _).alloc (Nat.le_refl _) _) ?_
  clear hK K
  try simp only [Act.put, List.setIfInBounds_toArray, List.set_cons_zero, List.set_cons_succ]
  refine chain_heavy _ rfl (fun K hK => ?_)
  refine (if_pos (by rfl)).mpr ?_
  go_wp2_with fail
  refine (concat_any _ [putB (BitVec.ofInt 64 k) 1, putB (1#64) 1, putB (BitVec.ofInt 64 z) 2, putB (e.setWidth 64) 4, putB v 8, pairB (t1, t2)] (by simp) (by simp [putB_length, pairB_length]) _ (RowsSl.lit (us := [.slice a2 1 c2, .slice a3 1 c3, .slice a4 2 c4, .slice a5 4 c5, .slice a6 8 c6, .slice a7 16 c7]) (.cons (by rw [putB_length]; exact s2) (.cons (by rw [putB_length]; exact s3) (.cons (by rw [putB_length]; exact s4) (.cons (by rw [putB_length]; exact s5) (.cons (by rw [putB_length]; exact s6) (.cons (by rw [pairB_length]; exact s7) .nil)))))) 31 6 rfl (by decide))).mono ?_
  rintro e w8 ⟨x8, rfl, hown8, hk8⟩
  go_wp2
  refine hK _ _ (hk8) ?_
  clear hK K
  try simp only [Act.put, List.setIfInBounds_toArray, List.set_cons_zero, List.set_cons_succ]
  repeat
    refine chain_light _ rfl (fun K hK => ?_)
    first
      | (refine (if_pos (by rfl)).mpr ?_; apply Exists.intro; refine ⟨fun w' hw' => ?_, hK _ ?_⟩; (go_simp; done); (clear hK K; simp only [Act.put, List.setIfInBounds_toArray, List.set_cons_zero, List.set_cons_succ]))
      | (refine (if_pos (by rfl)).mpr ?_; apply Exists.intro; refine ⟨fun w' hw' => ?_, hK _ ?_⟩; (go_simp; rfl); (clear hK K; simp only [Act.put, List.setIfInBounds_toArray, List.set_cons_zero, List.set_cons_succ]))
      | (refine (if_neg (by rw [Bool.not_eq_true]; rfl)).mpr ?_; refine hK _ ?_; (clear hK K; simp only [Act.put, List.setIfInBounds_toArray, List.set_cons_zero, List.set_cons_succ]))
  refine chain_nil ?_
  go_wp2
  go_ret2
  have hfl : [putB (BitVec.ofInt 64 k) 1, putB (1#64) 1, putB (BitVec.ofInt 64 z) 2, putB (e.setWidth 64) 4, putB v 8, pairB (t1, t2)].flatten = leafB ⟨k, true, z, e, q, v, (t1, t2)⟩ := by simp [leafB, dirtyU]
  rw [hfl, leafB_length] at hown8
  have hk9 := ((((((hk0.of hw1).of hk2).of hk3).of hk4).of hk5).of hk6).of hk7
  refine ⟨x8, rfl, own_base hown8 ?_, (hk9.of ((Below.refl _ _).alloc (Nat.le_refl _) _)).of hk8⟩
  have := hk9.size
  simp
  omega

set_option maxRecDepth 100000 in
set_option maxHeartbeats 4000000 in
theorem put_leaf_none (k : Int) (b : Bool) (z : Int) (e q : BitVec 32) (v t1 t2 : BitVec 64) (s : Int) (lo : -9223372036854775808 ≤ s) (hi : s ≤ 9223372036854775807) (h : isLeaf (⟨k, b, z, e, q, v, (t1, t2)⟩ : Lf) s = false) (w : World) : Calls Try.prog 7 #[.agg #[.int .i64 k, .bool b, .int .i64 z, W e, W q, U v, U t1, U t2], .int .i64 s] w fun e' w' => e' = .returned (.tuple #[.slice none 0 0, .bool false]) ∧ Kept w w' := by
  have hk0 : Kept w (w.alloc (.cells #[.int .i64 k, .bool b, .int .i64 z, W e, W q, U v, U t1, U t2] 29)) := (Below.refl _ _).alloc (Nat.le_refl _) _
  have hR : Blk (w.alloc (.cells #[.int .i64 k, .bool b, .int .i64 z, W e, W q, U v, U t1, U t2] 29)) w.heap.size #[.int .i64 k, .bool b, .int .i64 z, W e, W q, U v, U t1, U t2] 29 := Blk.new _ _ _
  have q0 := hR.cell 0
  have q1 := hR.cell 1
  have q2 := hR.cell 2
  have q3 := hR.cell 3
  have q4 := hR.cell 4
  have q5 := hR.cell 5
  have q6 := hR.cell 6
  have q7 := hR.cell 7
  clear hR
  go_enter Try.func7, Try.ntmps7
  go_wp2_with fail
  refine (is_any _ _ _ _ _ _ _ _ _ lo hi _).mono ?_
  rintro e' w0 ⟨rfl, hk1⟩
  rw [h]
  replace hk0 := hk0.of hk1
  clear h hk1
  go_wp2
  go_ret2
  exact ⟨rfl, hk0⟩

set_option maxRecDepth 100000 in
set_option maxHeartbeats 4000000 in
theorem rput_leaf_none (k : Int) (b : Bool) (z : Int) (e q : BitVec 32) (v t1 t2 : BitVec 64) (s : Int) (lo : -9223372036854775808 ≤ s) (hi : s ≤ 9223372036854775807) (h : isLeaf (⟨k, b, z, e, q, v, (t1, t2)⟩ : Lf) s = false) (w : World) : Calls Try.prog 10 #[.agg #[.int .i64 k, .bool b, .int .i64 z, W e, W q, U v, U t1, U t2], .int .i64 s] w fun e' w' => e' = .returned (.tuple #[.slice none 0 0, .bool false]) ∧ Kept w w' := by
  have hk0 : Kept w (w.alloc (.cells #[.int .i64 k, .bool b, .int .i64 z, W e, W q, U v, U t1, U t2] 29)) := (Below.refl _ _).alloc (Nat.le_refl _) _
  have hR : Blk (w.alloc (.cells #[.int .i64 k, .bool b, .int .i64 z, W e, W q, U v, U t1, U t2] 29)) w.heap.size #[.int .i64 k, .bool b, .int .i64 z, W e, W q, U v, U t1, U t2] 29 := Blk.new _ _ _
  have q0 := hR.cell 0
  have q1 := hR.cell 1
  have q2 := hR.cell 2
  have q3 := hR.cell 3
  have q4 := hR.cell 4
  have q5 := hR.cell 5
  have q6 := hR.cell 6
  have q7 := hR.cell 7
  clear hR
  go_enter Try.func10, Try.ntmps10
  go_wp2_with fail
  refine (ris_any _ _ _ _ _ _ _ _ _ lo hi _).mono ?_
  rintro e' w0 ⟨rfl, hk1⟩
  rw [h]
  replace hk0 := hk0.of hk1
  clear h hk1
  go_wp2
  go_ret2
  exact ⟨rfl, hk0⟩


end Go.Proofs.Ytkbihhdgipckgaa
