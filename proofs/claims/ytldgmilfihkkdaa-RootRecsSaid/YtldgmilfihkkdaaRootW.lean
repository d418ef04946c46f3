/- What root.Put, root.Get and their references compute. -/
import Derived.IntWalk
import Derived.Test.YtldgmilfihkkdaaRootD
import Derived.Test.YtldgmilfihkkdaaConcat
import Derived.Test.YtldgmilfihkkdaaCut
import Derived.Test.YtldgmilfihkkdaaStr
namespace Go.Proofs.Ytldgmilfihkkdaa
open Go Go.RowKit

set_option maxRecDepth 100000 in
set_option maxHeartbeats 2000000 in
theorem isSlots_any (n : Int) (w : World) : Calls Try.prog 17 #[.int .i64 n] w fun e w' => e = .returned (.bool (isSl n)) ∧ w = w' := by
  by_cases h4 : n = 4
  · subst h4; go_enter Try.func17, Try.ntmps17; go_wp2; go_ret; exact ⟨rfl, rfl⟩
  by_cases h8 : n = 8
  · subst h8; go_enter Try.func17, Try.ntmps17; go_wp2; go_ret; exact ⟨rfl, rfl⟩
  by_cases h16 : n = 16
  · subst h16; go_enter Try.func17, Try.ntmps17; go_wp2; go_ret; exact ⟨rfl, rfl⟩
  have e : isSl n = false := by simp [isSl, h4, h8, h16]
  rw [e]
  have a4 : (n == 4) = false := by simpa using h4
  have a8 : (n == 8) = false := by simpa using h8
  have a16 : (n == 16) = false := by simpa using h16
  clear e h4 h8 h16
  go_enter Try.func17, Try.ntmps17
  go_wp2
  go_ret
  exact ⟨rfl, rfl⟩

set_option maxRecDepth 100000 in
set_option maxHeartbeats 4000000 in
theorem put_root_lit (n : Int) (hn : n = 4 ∨ n = 8 ∨ n = 16) (c : BitVec 64) (e : BitVec 32) (h1 h2 : BitVec 64) (w : World) : Calls Try.prog 7 #[.agg #[U c, W e, .int .i64 n, U h1, U h2]] w fun e' w' => ∃ b, e' = .returned (.tuple #[b, .bool true]) ∧ w'.ownsRow w.heap.size 5 1 b 32 (bcells (rootB ⟨c, e, n, (h1, h2)⟩)) ∧ Kept w w' := by
  have hR : Blk (w.alloc (.cells #[U c, W e, .int .i64 n, U h1, U h2] 27)) w.heap.size #[U c, W e, .int .i64 n, U h1, U h2] 27 := Blk.new _ _ _
  have hk0 : Kept w (w.alloc (.cells #[U c, W e, .int .i64 n, U h1, U h2] 27)) := (Below.refl _ _).alloc (Nat.le_refl _) _
  have hsl : isSl n = true := by rcases hn with rfl | rfl | rfl <;> rfl
  have hu : ∀ wx : World, (convert 3 22 (.int .i64 n)).run Try.prog wx = .ok (U (BitVec.ofInt 64 n)) wx := fun wx => by
    rw [conv_int wx 3 22 _ .u64 _ (by kernel_rfl) Try.underlying22, U_ofInt]
  have q2 := hR.cell 2
  clear hn
  go_enter Try.func7, Try.ntmps7
  go_wp2_with fail
  refine (isSlots_any _ _).mono ?_
  rintro e' w0 ⟨rfl, rfl⟩
  rw [hsl]
  clear q2
  go_wp2_with fail
  refine wp_region_chainK [(0, 0), (1, 0), (3, 0), (4, 0), (5, 0), (7, 0), (8, 0), (9, 0), (11, 0), (12, 0), (2, 1), (6, 1), (10, 1), (13, 1), (14, 1), (15, 1), (16, 0), (17, 0)] (by kernel_rfl) (by kernel_rfl) ?_
  intro w1 hw1
  replace hR := hR.kept hw1
  repeat
    refine chain_light _ rfl (fun K hK => ?_)
    first
      | (refine (if_pos (by rfl)).mpr ?_; apply Exists.intro; refine ⟨fun w' hw' => ?_, hK _ ?_⟩; (have c := hR.kept hw'; have r0 := c.cell 0; have r1 := c.cell 1; have r2 := c.cell 2; have r3 := c.cell 3; have r4 := c.cell 4; clear c; go_simp; done); (clear hK K; simp only [Act.put, List.setIfInBounds_toArray, List.set_cons_zero, List.set_cons_succ]))
      | (refine (if_pos (by rfl)).mpr ?_; apply Exists.intro; refine ⟨fun w' hw' => ?_, hK _ ?_⟩; (have c := hR.kept hw'; have r0 := c.cell 0; have r1 := c.cell 1; have r2 := c.cell 2; have r3 := c.cell 3; have r4 := c.cell 4; clear c; go_simp; rfl); (clear hK K; simp only [Act.put, List.setIfInBounds_toArray, List.set_cons_zero, List.set_cons_succ]))
      | (refine (if_neg (by rw [Bool.not_eq_true]; rfl)).mpr ?_; refine hK _ ?_; (clear hK K; simp only [Act.put, List.setIfInBounds_toArray, List.set_cons_zero, List.set_cons_succ]))
  refine chain_heavy _ rfl (fun K hK => ?_)
  refine (if_pos (by rfl)).mpr ?_
  go_wp2_with fail
  refine (put_some _ 8 (by omega) (by omega) _).mono ?_
  rintro e w2 ⟨x2, rfl, hown2, hk2⟩
  obtain ⟨a2, c2, he2⟩ := (Sl.of_own hown2).len
  subst he2
  have s2 := Sl.of_own hown2
  clear hown2
  replace hR := hR.kept hk2
  go_wp2
  refine hK _ _ (hk2) ?_
  clear hK K
  try simp only [Act.put, List.setIfInBounds_toArray, List.set_cons_zero, List.set_cons_succ]
  refine chain_heavy _ rfl (fun K hK => ?_)
  refine (if_pos (by rfl)).mpr ?_
  go_wp2_with fail
  refine (put_some _ 4 (by omega) (by omega) _).mono ?_
  rintro e w3 ⟨x3, rfl, hown3, hk3⟩
  obtain ⟨a3, c3, he3⟩ := (Sl.of_own hown3).len
  subst he3
  have s3 := Sl.of_own hown3
  clear hown3
  replace hR := hR.kept hk3
  replace s2 := s2.kept hk3
  go_wp2
  refine hK _ _ (hk3) ?_
  clear hK K
  try simp only [Act.put, List.setIfInBounds_toArray, List.set_cons_zero, List.set_cons_succ]
  refine chain_heavy _ rfl (fun K hK => ?_)
  refine (if_pos (by rfl)).mpr ?_
  go_wp2_with fail
  refine (put_some _ 4 (by omega) (by omega) _).mono ?_
  rintro e w4 ⟨x4, rfl, hown4, hk4⟩
  obtain ⟨a4, c4, he4⟩ := (Sl.of_own hown4).len
  subst he4
  have s4 := Sl.of_own hown4
  clear hown4
  replace hR := hR.kept hk4
  replace s2 := s2.kept hk4
  replace s3 := s3.kept hk4
  go_wp2
  refine hK _ _ (hk4) ?_
  clear hK K
  try simp only [Act.put, List.setIfInBounds_toArray, List.set_cons_zero, List.set_cons_succ]
  refine chain_heavy _ rfl (fun K hK => ?_)
  refine (if_pos (by rfl)).mpr ?_
  go_wp2_with fail
  refine (bytes_any _ _ _).mono ?_
  rintro e w5 ⟨x5, rfl, hown5, hk5⟩
  obtain ⟨a5, c5, he5⟩ := (Sl.of_own hown5).len
  subst he5
  have s5 := Sl.of_own hown5
  clear hown5
  replace hR := hR.kept hk5
  replace s2 := s2.kept hk5
  replace s3 := s3.kept hk5
  replace s4 := s4.kept hk5
  go_wp2
  refine hK _ _ (hk5) ?_
  clear hK K
  try simp only [Act.put, List.setIfInBounds_toArray, List.set_cons_zero, List.set_cons_succ]
  refine chain_heavy _ rfl (fun K hK => ?_)
  refine (if_pos (by rfl)).mpr ?_
  go_wp2
  refine hK _ _ ((Below.refl _ _).alloc (Nat.le_refl _) _) ?_
  clear hK K
  try simp only [Act.put, List.setIfInBounds_toArray, List.set_cons_zero, List.set_cons_succ]
  refine chain_heavy _ rfl (fun K hK => ?_)
  refine (if_pos (by rfl)).mpr ?_
  go_wp2_with fail
  refine (concat_any _ [putB c 8, putB (e.setWidth 64) 4, putB (BitVec.ofInt 64 n) 4, pairB (h1, h2)] (by simp) (by simp [putB_length, pairB_length]) _ (RowsSl.lit (us := [.slice a2 8 c2, .slice a3 4 c3, .slice a4 4 c4, .slice a5 16 c5]) (.cons (by rw [putB_length]; exact s2) (.cons (by rw [putB_length]; exact s3) (.cons (by rw [putB_length]; exact s4) (.cons (by rw [pairB_length]; exact s5) .nil)))) 28 4 rfl (by decide))).mono ?_
  rintro e w6 ⟨x6, rfl, hown6, hk6⟩
  go_wp2
  refine hK _ _ (hk6) ?_
  clear hK K
  try simp only [Act.put, List.setIfInBounds_toArray, List.set_cons_zero, List.set_cons_succ]
  repeat
    refine chain_light _ rfl (fun K hK => ?_)
    first
      | (refine (if_pos (by rfl)).mpr ?_; apply Exists.intro; refine ⟨fun w' hw' => ?_, hK _ ?_⟩; (go_simp; done); (clear hK K; simp only [Act.put, List.setIfInBounds_toArray, List.set_cons_zero, List.set_cons_succ]))
      | (refine (if_pos (by rfl)).mpr ?_; apply Exists.intro; refine ⟨fun w' hw' => ?_, hK _ ?_⟩; (go_simp; rfl); (clear hK K; simp only [Act.put, List.setIfInBounds_toArray, List.set_cons_zero, List.set_cons_succ]))
      | (refine (if_neg (by rw [Bool.not_eq_true]; rfl)).mpr ?_; refine hK _ ?_; (clear hK K; simp only [Act.put, List.setIfInBounds_toArray, List.set_cons_zero, List.set_cons_succ]))
  refine chain_nil ?_
  go_wp2
  go_ret2
  have hfl : [putB c 8, putB (e.setWidth 64) 4, putB (BitVec.ofInt 64 n) 4, pairB (h1, h2)].flatten = rootB ⟨c, e, n, (h1, h2)⟩ := by simp [rootB]
  rw [hfl, rootB_length] at hown6
  have hk9 := ((((hk0.of hw1).of hk2).of hk3).of hk4).of hk5
  refine ⟨x6, rfl, own_base hown6 ?_, (hk9.of ((Below.refl _ _).alloc (Nat.le_refl _) _)).of hk6⟩
  have := hk9.size
  simp
  omega
set_option maxRecDepth 100000 in
set_option maxHeartbeats 4000000 in
theorem rput_root4 (c : BitVec 64) (e : BitVec 32) (h1 h2 : BitVec 64) (w : World) : Calls Try.prog 8 #[.agg #[U c, W e, .int .i64 4, U h1, U h2]] w fun e' w' => ∃ b, e' = .returned (.tuple #[b, .bool true]) ∧ w'.ownsRow w.heap.size 5 1 b 32 (bcells (rootB ⟨c, e, 4, (h1, h2)⟩)) ∧ Kept w w' := by
  have hR : Blk (w.alloc (.cells #[U c, W e, .int .i64 4, U h1, U h2] 27)) w.heap.size #[U c, W e, .int .i64 4, U h1, U h2] 27 := Blk.new _ _ _
  have hk0 : Kept w (w.alloc (.cells #[U c, W e, .int .i64 4, U h1, U h2] 27)) := (Below.refl _ _).alloc (Nat.le_refl _) _
  have hu : ∀ wx : World, (convert 3 22 (.int .i64 4)).run Try.prog wx = .ok (U (BitVec.ofInt 64 4)) wx := fun wx => by
    rw [conv_int wx 3 22 _ .u64 _ (by kernel_rfl) Try.underlying22, U_ofInt]
  have q2 := hR.cell 2
  go_enter Try.func8, Try.ntmps8
  go_wp2_with fail
  refine wp_region_chainBelow (w.heap.size + 1) [(0, 0), (1, 0), (3, 0), (4, 0), (5, 0), (2, 1), (6, 1), (7, 1), (8, 0)] (by kernel_rfl) (by kernel_rfl) ?_
  intro w1 hw1
  replace hR := hR.kept hw1
  have z1 : w.heap.size + 1 ≤ w1.heap.size := by have := hw1.size; simpa using this
  repeat
    refine chain_light _ rfl (fun K hK => ?_)
    first
      | (refine (if_pos (by rfl)).mpr ?_; apply Exists.intro; refine ⟨fun w' hw' => ?_, hK _ ?_⟩; (have c := hR.below hw' (by omega); have r0 := c.cell 0; have r1 := c.cell 1; have r2 := c.cell 2; have r3 := c.cell 3; have r4 := c.cell 4; clear c; go_simp; done); (clear hK K; simp only [Act.put, List.setIfInBounds_toArray, List.set_cons_zero, List.set_cons_succ]))
      | (refine (if_pos (by rfl)).mpr ?_; apply Exists.intro; refine ⟨fun w' hw' => ?_, hK _ ?_⟩; (have c := hR.below hw' (by omega); have r0 := c.cell 0; have r1 := c.cell 1; have r2 := c.cell 2; have r3 := c.cell 3; have r4 := c.cell 4; clear c; go_simp; rfl); (clear hK K; simp only [Act.put, List.setIfInBounds_toArray, List.set_cons_zero, List.set_cons_succ]))
      | (refine (if_neg (by rw [Bool.not_eq_true]; rfl)).mpr ?_; refine hK _ ?_; (clear hK K; simp only [Act.put, List.setIfInBounds_toArray, List.set_cons_zero, List.set_cons_succ]))
  refine chain_heavy _ rfl (fun K hK => ?_)
  refine (if_pos (by rfl)).mpr ?_
  go_wp2_with fail
  refine (rput_some _ 8 (by omega) (by omega) _).mono ?_
  rintro e w2 ⟨x2, rfl, hown2, hk2⟩
  have z2 := hk2.size
  go_wp2
  refine hK _ _ (hk2.mono (by omega)) ?_
  clear hK K
  try simp only [Act.put, List.setIfInBounds_toArray, List.set_cons_zero, List.set_cons_succ]
  refine chain_heavy _ rfl (fun K hK => ?_)
  refine (if_pos (by rfl)).mpr ?_
  go_wp2_with fail
  refine (rput_some _ 4 (by omega) (by omega) _).mono ?_
  rintro e w3 ⟨x3, rfl, hown3, hk3⟩
  have z3 := hk3.size
  have s3 := Sl.of_own hown3
  replace hown2 := own_base (own_kept hown2 hk3) (show w.heap.size + 1 ≤ _ by omega)
  go_wp2
  refine hK _ _ (hk3.mono (by omega)) ?_
  clear hK K
  try simp only [Act.put, List.setIfInBounds_toArray, List.set_cons_zero, List.set_cons_succ]
  refine chain_heavy _ rfl (fun K hK => ?_)
  refine (if_pos (by rfl)).mpr ?_
  refine wp_append sl_bytes (by rfl) (by rfl) (by rfl) hown2 s3 (by simp [bcells, putB_length]) (oneCell_V8 _) (by decide) (by omega) (by omega) ?_
  intro v4 w4 hown4 hg4 hat4
  rw [← bcells_append] at hown4
  refine hK _ _ (below_append (Below.refl _ _) hown2 hg4 (by omega)) ?_
  clear hK K
  try simp only [Act.put, List.setIfInBounds_toArray, List.set_cons_zero, List.set_cons_succ]
  repeat
    refine chain_light _ rfl (fun K hK => ?_)
    first
      | (refine (if_pos (by rfl)).mpr ?_; apply Exists.intro; refine ⟨fun w' hw' => ?_, hK _ ?_⟩; (go_simp; done); (clear hK K; simp only [Act.put, List.setIfInBounds_toArray, List.set_cons_zero, List.set_cons_succ]))
      | (refine (if_pos (by rfl)).mpr ?_; apply Exists.intro; refine ⟨fun w' hw' => ?_, hK _ ?_⟩; (go_simp; rfl); (clear hK K; simp only [Act.put, List.setIfInBounds_toArray, List.set_cons_zero, List.set_cons_succ]))
      | (refine (if_neg (by rw [Bool.not_eq_true]; rfl)).mpr ?_; refine hK _ ?_; (clear hK K; simp only [Act.put, List.setIfInBounds_toArray, List.set_cons_zero, List.set_cons_succ]))
  refine chain_nil ?_
  have hk4 : Below (w.heap.size + 1) w1 w4 := below_append ((hk2.mono (by omega)).trans (hk3.mono (by omega))) hown2 hg4 (by omega)
  have hb4 : Below (w.heap.size + 1) (w.alloc (.cells #[U c, W e, .int .i64 4, U h1, U h2] 27)) w4 := (hw1.mono (by simp)).trans hk4
  have hR4 := (hR.below hk4 (by omega))
  have z4 := hk4.size
  clear hk4 hown2 hg4 hat4 s3 hown3 hR hk2 hk3 hw1
  have q2 := hR4.cell 2
  have q3 := hR4.cell 3
  have q4 := hR4.cell 4
  go_wp2_with fail
  refine (rput_some _ 4 (by omega) (by omega) _).mono ?_
  rintro e' w5 ⟨x5, rfl, hown5, hk5⟩
  have s5 := Sl.of_own hown5
  have z5 := hk5.size
  have hR5 := hR4.kept hk5
  have o5 := own_kept hown4 hk5
  have hb5 := hb4.trans (hk5.mono (by omega))
  clear q2 q3 q4 hown4 hown5
  go_wp2_with (at_builtin; refine wpList_append sl_bytes rfl (by rfl) (by rfl) (by rfl) o5 s5 (by simp [bcells, putB_length]) (oneCell_V8 _) (by decide) (by omega) (by omega) ?_; intro v6 w6 hown6 hg6 hat6; have hb6 := below_append hb5 o5 hg6 (by omega); have z6 := hg6.size; have hR6 := hR5.below (below_append (Below.refl _ _) o5 hg6 (by omega)) (by omega); have g3 := hR6.cell 3; have g4 := hR6.cell 4; rw [← bcells_append] at hown6)
  refine (rbytes_any _ _ _).mono ?_
  rintro e' w7 ⟨x7, rfl, hown7, hk7⟩
  have s7 := Sl.of_own hown7
  have z7 := hk7.size
  have o7 := own_kept hown6 hk7
  have hb7 := hb6.trans (hk7.mono (by omega))
  clear g3 g4 hown6 hown7 hR5 hR6 o5 hg6
  go_wp2_with (at_builtin; refine wpList_append sl_bytes rfl (by rfl) (by rfl) (by rfl) o7 s7 (by simp [bcells, pairB_length]) (oneCell_V8 _) (by decide) (by omega) (by omega) ?_; intro v8 w8 hown8 hg8 hat8)
  go_ret2
  have hb8 := below_append hb7 o7 hg8 (by omega)
  rw [← bcells_append] at hown8
  have hfl : (putB c 8 ++ putB (e.setWidth 64) 4 ++ putB (4#64) 4) ++ pairB (h1, h2) = rootB ⟨c, e, 4, (h1, h2)⟩ := by simp [rootB]
  rw [hfl] at hown8
  exact ⟨v8, rfl, own_base hown8 (by omega), hk0.trans (hb8.mono (by simp))⟩

set_option maxRecDepth 100000 in
set_option maxHeartbeats 4000000 in
theorem rput_root8 (c : BitVec 64) (e : BitVec 32) (h1 h2 : BitVec 64) (w : World) : Calls Try.prog 8 #[.agg #[U c, W e, .int .i64 8, U h1, U h2]] w fun e' w' => ∃ b, e' = .returned (.tuple #[b, .bool true]) ∧ w'.ownsRow w.heap.size 5 1 b 32 (bcells (rootB ⟨c, e, 8, (h1, h2)⟩)) ∧ Kept w w' := by
  have hR : Blk (w.alloc (.cells #[U c, W e, .int .i64 8, U h1, U h2] 27)) w.heap.size #[U c, W e, .int .i64 8, U h1, U h2] 27 := Blk.new _ _ _
  have hk0 : Kept w (w.alloc (.cells #[U c, W e, .int .i64 8, U h1, U h2] 27)) := (Below.refl _ _).alloc (Nat.le_refl _) _
  have hu : ∀ wx : World, (convert 3 22 (.int .i64 8)).run Try.prog wx = .ok (U (BitVec.ofInt 64 8)) wx := fun wx => by
    rw [conv_int wx 3 22 _ .u64 _ (by kernel_rfl) Try.underlying22, U_ofInt]
  have q2 := hR.cell 2
  go_enter Try.func8, Try.ntmps8
  go_wp2_with fail
  refine wp_region_chainBelow (w.heap.size + 1) [(0, 0), (1, 0), (3, 0), (4, 0), (5, 0), (2, 1), (6, 1), (7, 1), (8, 0)] (by kernel_rfl) (by kernel_rfl) ?_
  intro w1 hw1
  replace hR := hR.kept hw1
  have z1 : w.heap.size + 1 ≤ w1.heap.size := by have := hw1.size; simpa using this
  repeat
    refine chain_light _ rfl (fun K hK => ?_)
    first
      | (refine (if_pos (by rfl)).mpr ?_; apply Exists.intro; refine ⟨fun w' hw' => ?_, hK _ ?_⟩; (have c := hR.below hw' (by omega); have r0 := c.cell 0; have r1 := c.cell 1; have r2 := c.cell 2; have r3 := c.cell 3; have r4 := c.cell 4; clear c; go_simp; done); (clear hK K; simp only [Act.put, List.setIfInBounds_toArray, List.set_cons_zero, List.set_cons_succ]))
      | (refine (if_pos (by rfl)).mpr ?_; apply Exists.intro; refine ⟨fun w' hw' => ?_, hK _ ?_⟩; (have c := hR.below hw' (by omega); have r0 := c.cell 0; have r1 := c.cell 1; have r2 := c.cell 2; have r3 := c.cell 3; have r4 := c.cell 4; clear c; go_simp; rfl); (clear hK K; simp only [Act.put, List.setIfInBounds_toArray, List.set_cons_zero, List.set_cons_succ]))
      | (refine (if_neg (by rw [Bool.not_eq_true]; rfl)).mpr ?_; refine hK _ ?_; (clear hK K; simp only [Act.put, List.setIfInBounds_toArray, List.set_cons_zero, List.set_cons_succ]))
  refine chain_heavy _ rfl (fun K hK => ?_)
  refine (if_pos (by rfl)).mpr ?_
  go_wp2_with fail
  refine (rput_some _ 8 (by omega) (by omega) _).mono ?_
  rintro e w2 ⟨x2, rfl, hown2, hk2⟩
  have z2 := hk2.size
  go_wp2
  refine hK _ _ (hk2.mono (by omega)) ?_
  clear hK K
  try simp only [Act.put, List.setIfInBounds_toArray, List.set_cons_zero, List.set_cons_succ]
  refine chain_heavy _ rfl (fun K hK => ?_)
  refine (if_pos (by rfl)).mpr ?_
  go_wp2_with fail
  refine (rput_some _ 4 (by omega) (by omega) _).mono ?_
  rintro e w3 ⟨x3, rfl, hown3, hk3⟩
  have z3 := hk3.size
  have s3 := Sl.of_own hown3
  replace hown2 := own_base (own_kept hown2 hk3) (show w.heap.size + 1 ≤ _ by omega)
  go_wp2
  refine hK _ _ (hk3.mono (by omega)) ?_
  clear hK K
  try simp only [Act.put, List.setIfInBounds_toArray, List.set_cons_zero, List.set_cons_succ]
  refine chain_heavy _ rfl (fun K hK => ?_)
  refine (if_pos (by rfl)).mpr ?_
  refine wp_append sl_bytes (by rfl) (by rfl) (by rfl) hown2 s3 (by simp [bcells, putB_length]) (oneCell_V8 _) (by decide) (by omega) (by omega) ?_
  intro v4 w4 hown4 hg4 hat4
  rw [← bcells_append] at hown4
  refine hK _ _ (below_append (Below.refl _ _) hown2 hg4 (by omega)) ?_
  clear hK K
  try simp only [Act.put, List.setIfInBounds_toArray, List.set_cons_zero, List.set_cons_succ]
  repeat
    refine chain_light _ rfl (fun K hK => ?_)
    first
      | (refine (if_pos (by rfl)).mpr ?_; apply Exists.intro; refine ⟨fun w' hw' => ?_, hK _ ?_⟩; (go_simp; done); (clear hK K; simp only [Act.put, List.setIfInBounds_toArray, List.set_cons_zero, List.set_cons_succ]))
      | (refine (if_pos (by rfl)).mpr ?_; apply Exists.intro; refine ⟨fun w' hw' => ?_, hK _ ?_⟩; (go_simp; rfl); (clear hK K; simp only [Act.put, List.setIfInBounds_toArray, List.set_cons_zero, List.set_cons_succ]))
      | (refine (if_neg (by rw [Bool.not_eq_true]; rfl)).mpr ?_; refine hK _ ?_; (clear hK K; simp only [Act.put, List.setIfInBounds_toArray, List.set_cons_zero, List.set_cons_succ]))
  refine chain_nil ?_
  have hk4 : Below (w.heap.size + 1) w1 w4 := below_append ((hk2.mono (by omega)).trans (hk3.mono (by omega))) hown2 hg4 (by omega)
  have hb4 : Below (w.heap.size + 1) (w.alloc (.cells #[U c, W e, .int .i64 8, U h1, U h2] 27)) w4 := (hw1.mono (by simp)).trans hk4
  have hR4 := (hR.below hk4 (by omega))
  have z4 := hk4.size
  clear hk4 hown2 hg4 hat4 s3 hown3 hR hk2 hk3 hw1
  have q2 := hR4.cell 2
  have q3 := hR4.cell 3
  have q4 := hR4.cell 4
  go_wp2_with fail
  refine (rput_some _ 4 (by omega) (by omega) _).mono ?_
  rintro e' w5 ⟨x5, rfl, hown5, hk5⟩
  have s5 := Sl.of_own hown5
  have z5 := hk5.size
  have hR5 := hR4.kept hk5
  have o5 := own_kept hown4 hk5
  have hb5 := hb4.trans (hk5.mono (by omega))
  clear q2 q3 q4 hown4 hown5
  go_wp2_with (at_builtin; refine wpList_append sl_bytes rfl (by rfl) (by rfl) (by rfl) o5 s5 (by simp [bcells, putB_length]) (oneCell_V8 _) (by decide) (by omega) (by omega) ?_; intro v6 w6 hown6 hg6 hat6; have hb6 := below_append hb5 o5 hg6 (by omega); have z6 := hg6.size; have hR6 := hR5.below (below_append (Below.refl _ _) o5 hg6 (by omega)) (by omega); have g3 := hR6.cell 3; have g4 := hR6.cell 4; rw [← bcells_append] at hown6)
  refine (rbytes_any _ _ _).mono ?_
  rintro e' w7 ⟨x7, rfl, hown7, hk7⟩
  have s7 := Sl.of_own hown7
  have z7 := hk7.size
  have o7 := own_kept hown6 hk7
  have hb7 := hb6.trans (hk7.mono (by omega))
  clear g3 g4 hown6 hown7 hR5 hR6 o5 hg6
  go_wp2_with (at_builtin; refine wpList_append sl_bytes rfl (by rfl) (by rfl) (by rfl) o7 s7 (by simp [bcells, pairB_length]) (oneCell_V8 _) (by decide) (by omega) (by omega) ?_; intro v8 w8 hown8 hg8 hat8)
  go_ret2
  have hb8 := below_append hb7 o7 hg8 (by omega)
  rw [← bcells_append] at hown8
  have hfl : (putB c 8 ++ putB (e.setWidth 64) 4 ++ putB (8#64) 4) ++ pairB (h1, h2) = rootB ⟨c, e, 8, (h1, h2)⟩ := by simp [rootB]
  rw [hfl] at hown8
  exact ⟨v8, rfl, own_base hown8 (by omega), hk0.trans (hb8.mono (by simp))⟩

set_option maxRecDepth 100000 in
set_option maxHeartbeats 4000000 in
theorem rput_root16 (c : BitVec 64) (e : BitVec 32) (h1 h2 : BitVec 64) (w : World) : Calls Try.prog 8 #[.agg #[U c, W e, .int .i64 16, U h1, U h2]] w fun e' w' => ∃ b, e' = .returned (.tuple #[b, .bool true]) ∧ w'.ownsRow w.heap.size 5 1 b 32 (bcells (rootB ⟨c, e, 16, (h1, h2)⟩)) ∧ Kept w w' := by
  have hR : Blk (w.alloc (.cells #[U c, W e, .int .i64 16, U h1, U h2] 27)) w.heap.size #[U c, W e, .int .i64 16, U h1, U h2] 27 := Blk.new _ _ _
  have hk0 : Kept w (w.alloc (.cells #[U c, W e, .int .i64 16, U h1, U h2] 27)) := (Below.refl _ _).alloc (Nat.le_refl _) _
  have hu : ∀ wx : World, (convert 3 22 (.int .i64 16)).run Try.prog wx = .ok (U (BitVec.ofInt 64 16)) wx := fun wx => by
    rw [conv_int wx 3 22 _ .u64 _ (by kernel_rfl) Try.underlying22, U_ofInt]
  have q2 := hR.cell 2
  go_enter Try.func8, Try.ntmps8
  go_wp2_with fail
  refine wp_region_chainBelow (w.heap.size + 1) [(0, 0), (1, 0), (3, 0), (4, 0), (5, 0), (2, 1), (6, 1), (7, 1), (8, 0)] (by kernel_rfl) (by kernel_rfl) ?_
  intro w1 hw1
  replace hR := hR.kept hw1
  have z1 : w.heap.size + 1 ≤ w1.heap.size := by have := hw1.size; simpa using this
  repeat
    refine chain_light _ rfl (fun K hK => ?_)
    first
      | (refine (if_pos (by rfl)).mpr ?_; apply Exists.intro; refine ⟨fun w' hw' => ?_, hK _ ?_⟩; (have c := hR.below hw' (by omega); have r0 := c.cell 0; have r1 := c.cell 1; have r2 := c.cell 2; have r3 := c.cell 3; have r4 := c.cell 4; clear c; go_simp; done); (clear hK K; simp only [Act.put, List.setIfInBounds_toArray, List.set_cons_zero, List.set_cons_succ]))
      | (refine (if_pos (by rfl)).mpr ?_; apply Exists.intro; refine ⟨fun w' hw' => ?_, hK _ ?_⟩; (have c := hR.below hw' (by omega); have r0 := c.cell 0; have r1 := c.cell 1; have r2 := c.cell 2; have r3 := c.cell 3; have r4 := c.cell 4; clear c; go_simp; rfl); (clear hK K; simp only [Act.put, List.setIfInBounds_toArray, List.set_cons_zero, List.set_cons_succ]))
      | (refine (if_neg (by rw [Bool.not_eq_true]; rfl)).mpr ?_; refine hK _ ?_; (clear hK K; simp only [Act.put, List.setIfInBounds_toArray, List.set_cons_zero, List.set_cons_succ]))
  refine chain_heavy _ rfl (fun K hK => ?_)
  refine (if_pos (by rfl)).mpr ?_
  go_wp2_with fail
  refine (rput_some _ 8 (by omega) (by omega) _).mono ?_
  rintro e w2 ⟨x2, rfl, hown2, hk2⟩
  have z2 := hk2.size
  go_wp2
  refine hK _ _ (hk2.mono (by omega)) ?_
  clear hK K
  try simp only [Act.put, List.setIfInBounds_toArray, List.set_cons_zero, List.set_cons_succ]
  refine chain_heavy _ rfl (fun K hK => ?_)
  refine (if_pos (by rfl)).mpr ?_
  go_wp2_with fail
  refine (rput_some _ 4 (by omega) (by omega) _).mono ?_
  rintro e w3 ⟨x3, rfl, hown3, hk3⟩
  have z3 := hk3.size
  have s3 := Sl.of_own hown3
  replace hown2 := own_base (own_kept hown2 hk3) (show w.heap.size + 1 ≤ _ by omega)
  go_wp2
  refine hK _ _ (hk3.mono (by omega)) ?_
  clear hK K
  try simp only [Act.put, List.setIfInBounds_toArray, List.set_cons_zero, List.set_cons_succ]
  refine chain_heavy _ rfl (fun K hK => ?_)
  refine (if_pos (by rfl)).mpr ?_
  refine wp_append sl_bytes (by rfl) (by rfl) (by rfl) hown2 s3 (by simp [bcells, putB_length]) (oneCell_V8 _) (by decide) (by omega) (by omega) ?_
  intro v4 w4 hown4 hg4 hat4
  rw [← bcells_append] at hown4
  refine hK _ _ (below_append (Below.refl _ _) hown2 hg4 (by omega)) ?_
  clear hK K
  try simp only [Act.put, List.setIfInBounds_toArray, List.set_cons_zero, List.set_cons_succ]
  repeat
    refine chain_light _ rfl (fun K hK => ?_)
    first
      | (refine (if_pos (by rfl)).mpr ?_; apply Exists.intro; refine ⟨fun w' hw' => ?_, hK _ ?_⟩; (go_simp; done); (clear hK K; simp only [Act.put, List.setIfInBounds_toArray, List.set_cons_zero, List.set_cons_succ]))
      | (refine (if_pos (by rfl)).mpr ?_; apply Exists.intro; refine ⟨fun w' hw' => ?_, hK _ ?_⟩; (go_simp; rfl); (clear hK K; simp only [Act.put, List.setIfInBounds_toArray, List.set_cons_zero, List.set_cons_succ]))
      | (refine (if_neg (by rw [Bool.not_eq_true]; rfl)).mpr ?_; refine hK _ ?_; (clear hK K; simp only [Act.put, List.setIfInBounds_toArray, List.set_cons_zero, List.set_cons_succ]))
  refine chain_nil ?_
  have hk4 : Below (w.heap.size + 1) w1 w4 := below_append ((hk2.mono (by omega)).trans (hk3.mono (by omega))) hown2 hg4 (by omega)
  have hb4 : Below (w.heap.size + 1) (w.alloc (.cells #[U c, W e, .int .i64 16, U h1, U h2] 27)) w4 := (hw1.mono (by simp)).trans hk4
  have hR4 := (hR.below hk4 (by omega))
  have z4 := hk4.size
  clear hk4 hown2 hg4 hat4 s3 hown3 hR hk2 hk3 hw1
  have q2 := hR4.cell 2
  have q3 := hR4.cell 3
  have q4 := hR4.cell 4
  go_wp2_with fail
  refine (rput_some _ 4 (by omega) (by omega) _).mono ?_
  rintro e' w5 ⟨x5, rfl, hown5, hk5⟩
  have s5 := Sl.of_own hown5
  have z5 := hk5.size
  have hR5 := hR4.kept hk5
  have o5 := own_kept hown4 hk5
  have hb5 := hb4.trans (hk5.mono (by omega))
  clear q2 q3 q4 hown4 hown5
  go_wp2_with (at_builtin; refine wpList_append sl_bytes rfl (by rfl) (by rfl) (by rfl) o5 s5 (by simp [bcells, putB_length]) (oneCell_V8 _) (by decide) (by omega) (by omega) ?_; intro v6 w6 hown6 hg6 hat6; have hb6 := below_append hb5 o5 hg6 (by omega); have z6 := hg6.size; have hR6 := hR5.below (below_append (Below.refl _ _) o5 hg6 (by omega)) (by omega); have g3 := hR6.cell 3; have g4 := hR6.cell 4; rw [← bcells_append] at hown6)
  refine (rbytes_any _ _ _).mono ?_
  rintro e' w7 ⟨x7, rfl, hown7, hk7⟩
  have s7 := Sl.of_own hown7
  have z7 := hk7.size
  have o7 := own_kept hown6 hk7
  have hb7 := hb6.trans (hk7.mono (by omega))
  clear g3 g4 hown6 hown7 hR5 hR6 o5 hg6
  go_wp2_with (at_builtin; refine wpList_append sl_bytes rfl (by rfl) (by rfl) (by rfl) o7 s7 (by simp [bcells, pairB_length]) (oneCell_V8 _) (by decide) (by omega) (by omega) ?_; intro v8 w8 hown8 hg8 hat8)
  go_ret2
  have hb8 := below_append hb7 o7 hg8 (by omega)
  rw [← bcells_append] at hown8
  have hfl : (putB c 8 ++ putB (e.setWidth 64) 4 ++ putB (16#64) 4) ++ pairB (h1, h2) = rootB ⟨c, e, 16, (h1, h2)⟩ := by simp [rootB]
  rw [hfl] at hown8
  exact ⟨v8, rfl, own_base hown8 (by omega), hk0.trans (hb8.mono (by simp))⟩

theorem rput_root_lit (n : Int) (hn : n = 4 ∨ n = 8 ∨ n = 16) (c : BitVec 64) (e : BitVec 32) (h1 h2 : BitVec 64) (w : World) : Calls Try.prog 8 #[.agg #[U c, W e, .int .i64 n, U h1, U h2]] w fun e' w' => ∃ b, e' = .returned (.tuple #[b, .bool true]) ∧ w'.ownsRow w.heap.size 5 1 b 32 (bcells (rootB ⟨c, e, n, (h1, h2)⟩)) ∧ Kept w w' := by
  rcases hn with rfl | rfl | rfl
  · exact rput_root4 c e h1 h2 w
  · exact rput_root8 c e h1 h2 w
  · exact rput_root16 c e h1 h2 w


end Go.Proofs.Ytldgmilfihkkdaa
