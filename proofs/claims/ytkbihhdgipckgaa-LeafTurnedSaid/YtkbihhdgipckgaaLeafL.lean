/- The example that each law of chapter 15 holds beside; what a leaf that is handed in reads as. -/
import Derived.Test.YtkbihhdgipckgaaLeafR
import Derived.Test.YtkbihhdgipckgaaPart
namespace Go.Proofs.Ytkbihhdgipckgaa
open Go Go.RowKit

theorem put_leaf_lit (k : Int) (b : Bool) (z : Int) (e q : BitVec 32) (v t1 t2 : BitVec 64) (s : Int) (lo : -9223372036854775808 ≤ s) (hi : s ≤ 9223372036854775807) (h : isLeaf (⟨k, b, z, e, q, v, (t1, t2)⟩ : Lf) s = true) (w : World) : Calls Try.prog 7 #[.agg #[.int .i64 k, .bool b, .int .i64 z, W e, W q, U v, U t1, U t2], .int .i64 s] w fun e' w' => ∃ x, e' = .returned (.tuple #[x, .bool true]) ∧ w'.ownsRow w.heap.size 5 1 x 32 (bcells (leafB (⟨k, b, z, e, q, v, (t1, t2)⟩ : Lf))) ∧ Kept w w' := by
  cases b
  · exact put_leaf_false k z e q v t1 t2 s lo hi h w
  · exact put_leaf_true k z e q v t1 t2 s lo hi h w
theorem rput_leaf_lit (k : Int) (b : Bool) (z : Int) (e q : BitVec 32) (v t1 t2 : BitVec 64) (s : Int) (lo : -9223372036854775808 ≤ s) (hi : s ≤ 9223372036854775807) (h : isLeaf (⟨k, b, z, e, q, v, (t1, t2)⟩ : Lf) s = true) (w : World) : Calls Try.prog 10 #[.agg #[.int .i64 k, .bool b, .int .i64 z, W e, W q, U v, U t1, U t2], .int .i64 s] w fun e' w' => ∃ x, e' = .returned (.tuple #[x, .bool true]) ∧ w'.ownsRow w.heap.size 5 1 x 32 (bcells (leafB (⟨k, b, z, e, q, v, (t1, t2)⟩ : Lf))) ∧ Kept w w' := by
  cases b
  · exact rput_leaf_false k z e q v t1 t2 s lo hi h w
  · exact rput_leaf_true k z e q v t1 t2 s lo hi h w

theorem leafB_zero : leafB (⟨0, false, 0, 0#32, 0#32, 0#64, (0#64, 0#64)⟩ : Lf) = List.replicate 32 0 := by decide +kernel

set_option maxRecDepth 100000 in
set_option maxHeartbeats 4000000 in
theorem known_any (w : World) : Calls Try.prog 9 #[] w fun e w' => e = .returned (.bool true) ∧ Kept w w' := by
  have K0 : isLeaf (⟨0, false, 0, 0#32, 0#32, 0#64, (0#64, 0#64)⟩ : Lf) 0 = true := by decide
  have K1 : isLeaf (⟨0, false, 0, 0#32, 0#32, 0#64, (0#64, 0#64)⟩ : Lf) 16 = false := by decide
  have hzl0 : (List.replicate 32 (0 : UInt8)).length = 32 := by simp
  obtain ⟨Z, hZ0⟩ : ∃ Z, Z = List.replicate 32 (0 : UInt8) := ⟨_, rfl⟩
  rw [← hZ0] at hzl0
  have hzl := Lib.hid hzl0
  have hZ := Lib.hid hZ0
  clear hzl0 hZ0
  go_enter Try.func9, Try.ntmps9
  go_wp2_with fail
  refine (put_leaf_lit 0 false 0 0#32 0#32 0#64 0#64 0#64 3 (by omega) (by omega) (by decide) _).mono ?_
  rintro e w0 ⟨x, rfl, hown, hk⟩
  have s1 := Sl.of_own hown
  rw [leafB_zero, ← hZ.out, ← hzl.out] at s1
  clear hown
  go_wp2_with fail
  refine wp_region_chainK [(0, 0), (1, 0), (2, 0), (3, 0), (4, 1), (5, 0), (6, 0), (7, 0), (8, 0), (9, 0), (10, 1), (11, 0), (12, 0), (13, 0), (14, 1), (15, 0), (16, 0), (17, 0)] (by kernel_rfl) (by kernel_rfl) ?_
  intro w1 hw1
  replace s1 := s1.kept hw1
  repeat
    refine chain_light _ rfl (fun K hK => ?_)
    first
      | (refine (if_pos (by rfl)).mpr ?_; apply Exists.intro; refine ⟨fun w' hw' => ?_, hK _ ?_⟩; (have c1 := str_of (s1.kept hw'); go_simp; done); (clear hK K; simp only [Act.put, List.setIfInBounds_toArray, List.set_cons_zero, List.set_cons_succ]))
      | (refine (if_pos (by rfl)).mpr ?_; apply Exists.intro; refine ⟨fun w' hw' => ?_, hK _ ?_⟩; (have c1 := str_of (s1.kept hw'); go_simp; rfl); (clear hK K; simp only [Act.put, List.setIfInBounds_toArray, List.set_cons_zero, List.set_cons_succ]))
      | (refine (if_neg (by rw [Bool.not_eq_true]; rfl)).mpr ?_; refine hK _ ?_; (clear hK K; simp only [Act.put, List.setIfInBounds_toArray, List.set_cons_zero, List.set_cons_succ]))
  refine chain_heavy _ rfl (fun K hK => ?_)
  refine (if_pos (by rfl)).mpr ?_
  have hmk : (Instr.makeSlice 31 (.int .i64 32) (.int .i64 32)).run Try.prog w1 = .ok (.slice (some ⟨w1.heap.size, 0, none⟩) 32 32) (w1.alloc (.cells (bcells Z).toArray 5)) := by rw [hZ.out]; exact run_make_b (P := Try.prog) w1 sl_bytes .i64 .i64 32 (by omega)
  go_wp2
  have s2 : Sl (w1.alloc (.cells (bcells Z).toArray 5)) (.slice (some ⟨w1.heap.size, 0, none⟩) 32 32) Z.length (bcells Z) := by rw [hzl.out]; exact Sl.of_own (own_made 32 (by decide) 5 Z hzl.out (Blk.new w1 _ _) (Nat.le_refl _))
  replace s1 := s1.kept (show Kept w1 (w1.alloc (.cells (bcells Z).toArray 5)) from (Below.refl _ _).alloc (Nat.le_refl _) _)
  have hk2 := (hk.of hw1).alloc (by have := (hk.of hw1).size; omega) (.cells (bcells Z).toArray 5)
  clear hmk
  refine hK _ _ ((Below.refl _ _).alloc (Nat.le_refl _) _) ?_
  clear hK K
  try simp only [Act.put, List.setIfInBounds_toArray, List.set_cons_zero, List.set_cons_succ]
  repeat
    refine chain_light _ rfl (fun K hK => ?_)
    first
      | (refine (if_pos (by rfl)).mpr ?_; apply Exists.intro; refine ⟨fun w' hw' => ?_, hK _ ?_⟩; (have c1 := str_of (s1.kept hw'); have c2 := str_of (s2.kept hw'); go_simp; done); (clear hK K; simp only [Act.put, List.setIfInBounds_toArray, List.set_cons_zero, List.set_cons_succ]))
      | (refine (if_pos (by rfl)).mpr ?_; apply Exists.intro; refine ⟨fun w' hw' => ?_, hK _ ?_⟩; (have c1 := str_of (s1.kept hw'); have c2 := str_of (s2.kept hw'); go_simp; rfl); (clear hK K; simp only [Act.put, List.setIfInBounds_toArray, List.set_cons_zero, List.set_cons_succ]))
      | (refine (if_neg (by rw [Bool.not_eq_true]; rfl)).mpr ?_; refine hK _ ?_; (clear hK K; simp only [Act.put, List.setIfInBounds_toArray, List.set_cons_zero, List.set_cons_succ]))
  refine chain_heavy _ rfl (fun K hK => ?_)
  refine (if_pos (by rfl)).mpr ?_
  go_wp2_with fail
  refine (is_any _ _ _ _ _ _ _ _ _ (by omega) (by omega) _).mono ?_
  rintro e w3 ⟨rfl, hk3⟩
  replace s1 := s1.kept hk3
  replace s2 := s2.kept hk3
  rw [K0]
  go_wp2
  refine hK _ _ (hk3) ?_
  clear hK K
  try simp only [Act.put, List.setIfInBounds_toArray, List.set_cons_zero, List.set_cons_succ]
  repeat
    refine chain_light _ rfl (fun K hK => ?_)
    first
      | (refine (if_pos (by rfl)).mpr ?_; apply Exists.intro; refine ⟨fun w' hw' => ?_, hK _ ?_⟩; (go_simp; done); (clear hK K; simp only [Act.put, List.setIfInBounds_toArray, List.set_cons_zero, List.set_cons_succ]))
      | (refine (if_pos (by rfl)).mpr ?_; apply Exists.intro; refine ⟨fun w' hw' => ?_, hK _ ?_⟩; (go_simp; rfl); (clear hK K; simp only [Act.put, List.setIfInBounds_toArray, List.set_cons_zero, List.set_cons_succ]))
      | (refine (if_neg (by rw [Bool.not_eq_true]; rfl)).mpr ?_; refine hK _ ?_; (clear hK K; simp only [Act.put, List.setIfInBounds_toArray, List.set_cons_zero, List.set_cons_succ]))
  refine chain_heavy _ rfl (fun K hK => ?_)
  refine (if_pos (by rfl)).mpr ?_
  go_wp2_with fail
  refine (is_any _ _ _ _ _ _ _ _ _ (by omega) (by omega) _).mono ?_
  rintro e w4 ⟨rfl, hk4⟩
  rw [K1]
  go_wp2
  refine hK _ _ (hk4) ?_
  clear hK K
  try simp only [Act.put, List.setIfInBounds_toArray, List.set_cons_zero, List.set_cons_succ]
  repeat
    refine chain_light _ rfl (fun K hK => ?_)
    first
      | (refine (if_pos (by rfl)).mpr ?_; apply Exists.intro; refine ⟨fun w' hw' => ?_, hK _ ?_⟩; (go_simp; done); (clear hK K; simp only [Act.put, List.setIfInBounds_toArray, List.set_cons_zero, List.set_cons_succ]))
      | (refine (if_pos (by rfl)).mpr ?_; apply Exists.intro; refine ⟨fun w' hw' => ?_, hK _ ?_⟩; (go_simp; rfl); (clear hK K; simp only [Act.put, List.setIfInBounds_toArray, List.set_cons_zero, List.set_cons_succ]))
      | (refine (if_neg (by rw [Bool.not_eq_true]; rfl)).mpr ?_; refine hK _ ?_; (clear hK K; simp only [Act.put, List.setIfInBounds_toArray, List.set_cons_zero, List.set_cons_succ]))
  refine chain_nil ?_
  go_wp2
  go_ret
  exact ⟨rfl, Kept.of (Kept.of hk2 hk3) hk4⟩

section
open Go.ChangeShapes Go.WideShapes Go.ChangeAt
variable {H : Type} {enc : TypeId × Value → H} {w : World} {base : Nat} {spare : Nat → Bool} {held : Bool} {r : Reach} {b0 : Nat}
theorem cells_leaf : Try.prog.cellsOf 29 = 8 := by kernel_rfl
theorem open_leaf {v : Value} {d : DataW H} {p : List MemPlace} (hval : Value.okWide Try.prog w r b0 29 v) (hd : DataW.Trod enc Try.prog w base spare held 29 v d p) : ∃ x : Lf, v = x.val := by
  have hu := Try.underlying29
  have hp := Try.underlying27
  have hn := Try.underlying25
  obtain ⟨cs, rfl, hsz⟩ := agg_cells hu hval
  rw [cells_leaf] at hsz
  obtain ⟨l⟩ := cs
  match l, hsz with
  | [c0, c1, c2, c3, c4, c5, c6, c7], _ =>
    obtain ⟨fuel, hf⟩ := hd
    have len : ([c0, c1, c2, c3, c4, c5, c6, c7] : List Value).length ≤ Try.prog.cellsOf 29 := by rw [cells_leaf]; simp
    have k0 : Part Try.prog 29 0 3 := Part.field (j := 0) hu rfl .here (by kernel_rfl)
    have k1 : Part Try.prog 29 1 4 := Part.field (j := 1) hu rfl .here (by kernel_rfl)
    have k2 : Part Try.prog 29 2 3 := Part.field (j := 2) hu rfl .here (by kernel_rfl)
    have k3 : Part Try.prog 29 3 22 := Part.field (j := 3) (i := 0) hu rfl (Part.field (j := 0) (i := 0) hn rfl .here (by kernel_rfl)) (by kernel_rfl)
    have k4 : Part Try.prog 29 4 22 := Part.field (j := 3) (i := 1) hu rfl (Part.field (j := 1) (i := 0) hn rfl .here (by kernel_rfl)) (by kernel_rfl)
    have k5 : Part Try.prog 29 5 23 := Part.field (j := 3) (i := 2) hu rfl (Part.field (j := 2) (i := 0) hn rfl .here (by kernel_rfl)) (by kernel_rfl)
    have k6 : Part Try.prog 29 6 23 := Part.field (j := 4) (i := 0) hu rfl (Part.elem (j := 0) (i := 0) hp (by omega) .here (by kernel_rfl)) (by kernel_rfl)
    have k7 : Part Try.prog 29 7 23 := Part.field (j := 4) (i := 1) hu rfl (Part.elem (j := 1) (i := 0) hp (by omega) .here (by kernel_rfl)) (by kernel_rfl)
    obtain ⟨m0, y0, g0⟩ := k0.get fuel [c0, c1, c2, c3, c4, c5, c6, c7] _ len hf
    obtain ⟨m1, y1, g1⟩ := k1.get fuel [c0, c1, c2, c3, c4, c5, c6, c7] _ len hf
    obtain ⟨m2, y2, g2⟩ := k2.get fuel [c0, c1, c2, c3, c4, c5, c6, c7] _ len hf
    obtain ⟨m3, y3, g3⟩ := k3.get fuel [c0, c1, c2, c3, c4, c5, c6, c7] _ len hf
    obtain ⟨m4, y4, g4⟩ := k4.get fuel [c0, c1, c2, c3, c4, c5, c6, c7] _ len hf
    obtain ⟨m5, y5, g5⟩ := k5.get fuel [c0, c1, c2, c3, c4, c5, c6, c7] _ len hf
    obtain ⟨m6, y6, g6⟩ := k6.get fuel [c0, c1, c2, c3, c4, c5, c6, c7] _ len hf
    obtain ⟨m7, y7, g7⟩ := k7.get fuel [c0, c1, c2, c3, c4, c5, c6, c7] _ len hf
    have s64 : Try.prog.cellsOf 23 = 1 := by kernel_rfl
    have s32 : Try.prog.cellsOf 22 = 1 := by kernel_rfl
    have si : Try.prog.cellsOf 3 = 1 := by kernel_rfl
    have sb : Try.prog.cellsOf 4 = 1 := by kernel_rfl
    rw [s64] at g5 g6 g7
    rw [s32] at g3 g4
    rw [si] at g0 g2
    rw [sb] at g1
    obtain ⟨x0, rfl, _⟩ := part_I' Try.underlying3 g0
    obtain ⟨x1, rfl⟩ := part_B' Try.underlying4 g1
    obtain ⟨x2, rfl, _⟩ := part_I' Try.underlying3 g2
    obtain ⟨x3, rfl⟩ := part_W' Try.underlying22 g3
    obtain ⟨x4, rfl⟩ := part_W' Try.underlying22 g4
    obtain ⟨x5, rfl⟩ := part_U' Try.underlying23 g5
    obtain ⟨x6, rfl⟩ := part_U' Try.underlying23 g6
    obtain ⟨x7, rfl⟩ := part_U' Try.underlying23 g7
    exact ⟨⟨x0, x1, x2, x3, x4, x5, (x6, x7)⟩, rfl⟩
end

end Go.Proofs.Ytkbihhdgipckgaa
