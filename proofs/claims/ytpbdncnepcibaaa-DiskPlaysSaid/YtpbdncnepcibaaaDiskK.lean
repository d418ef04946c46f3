/- What the laws of chapter 12 share. -/
import Derived.Test.YtpbdncnepcibaaaDiskR
namespace Go.Proofs.Ytpbdncnepcibaaa
open Go Go.RowKit

/-- bytes as a block -/
def padB (a : List UInt8) : List UInt8 := a.take (min a.length 32) ++ List.replicate (32 - min a.length 32) 0
theorem padB_length (a : List UInt8) : (padB a).length = 32 := by simp [padB]; omega
theorem padB_cells (a Z : List UInt8) (hZ : Z = List.replicate 32 0) : (bcells Z).take 0 ++ (bcells a).take (min a.length 32) ++ (bcells Z).drop (0 + min a.length 32) = bcells (padB a) := by
  subst hZ
  simp [padB, bcells, List.map_take, -List.reduceReplicate, List.drop_replicate]
set_option maxRecDepth 100000 in
set_option maxHeartbeats 4000000 in
theorem block_even (v : Value) (a : List UInt8) (w : World) (hs : Sl w v a.length (bcells a)) : Calls Try.prog 10 #[v, .bool false] w fun e w' => ∃ g, e = .returned (.slice (some ⟨g, 0, none⟩) 32 32) ∧ w'.ownsRow w.heap.size 5 1 (.slice (some ⟨g, 0, none⟩) 32 32) 32 (bcells (padB a)) ∧ Kept w w' := by
  obtain ⟨Z, hZ⟩ : ∃ Z, Z = List.replicate 32 (0 : UInt8) := ⟨_, rfl⟩
  have hmk : ∀ w : World, (Instr.makeSlice 22 (.int .i64 32) (.int .i64 32)).run Try.prog w = .ok (.slice (some ⟨w.heap.size, 0, none⟩) 32 32) (w.alloc (.cells (bcells Z).toArray 5)) := fun w => by rw [hZ]; exact run_make_b (P := Try.prog) w sl_bytes .i64 .i64 32 (by omega)
  have hzl : Z.length = 32 := by rw [hZ]; simp
  have hB := Blk.new w (bcells Z).toArray 5
  have hk : Kept w (w.alloc (.cells (bcells Z).toArray 5)) := (Below.refl _ _).alloc (Nat.le_refl _) _
  obtain ⟨sa, sc, hve⟩ := hs.len
  subst hve
  have hs2 := hs.kept hk
  have HZ := Lib.hid hZ
  have HZL := Lib.hid hzl
  clear hZ hzl
  obtain ⟨w2, hr, hB2, hc2⟩ := run_copyB (P := Try.prog) (dl := 32) (dc := 32) (off := 0) sl_bytes 3 hB hs2 (bcells_length _) (oneCell_V8 _) (by rw [bcells_length, HZL.out]; omega)
  go_enter Try.func10, Try.ntmps10
  go_wp2
  go_ret
  rw [padB_cells a Z HZ.out] at hB2
  exact ⟨w.heap.size, rfl, own_made 32 (by decide) _ _ (padB_length a) hB2 (Nat.le_refl _), hk.trans (hc2.below (by simp) (by simp))⟩

set_option maxRecDepth 100000 in
set_option maxHeartbeats 4000000 in
theorem block_odd (v : Value) (a : List UInt8) (w : World) (hs : Sl w v a.length (bcells a)) : Calls Try.prog 10 #[v, .bool true] w fun e w' => ∃ g, e = .returned (.slice (some ⟨g, 1, none⟩) 31 31) ∧ w'.ownsRow w.heap.size 5 1 (.slice (some ⟨g, 0, none⟩) 32 32) 32 (bcells (padB a)) ∧ Kept w w' := by
  obtain ⟨Z, hZ⟩ : ∃ Z, Z = List.replicate 32 (0 : UInt8) := ⟨_, rfl⟩
  have hmk : ∀ w : World, (Instr.makeSlice 22 (.int .i64 32) (.int .i64 32)).run Try.prog w = .ok (.slice (some ⟨w.heap.size, 0, none⟩) 32 32) (w.alloc (.cells (bcells Z).toArray 5)) := fun w => by rw [hZ]; exact run_make_b (P := Try.prog) w sl_bytes .i64 .i64 32 (by omega)
  have hzl : Z.length = 32 := by rw [hZ]; simp
  have hB := Blk.new w (bcells Z).toArray 5
  have hk : Kept w (w.alloc (.cells (bcells Z).toArray 5)) := (Below.refl _ _).alloc (Nat.le_refl _) _
  obtain ⟨sa, sc, hve⟩ := hs.len
  subst hve
  have hs2 := hs.kept hk
  have HZ := Lib.hid hZ
  have HZL := Lib.hid hzl
  clear hZ hzl
  obtain ⟨w2, hr, hB2, hc2⟩ := run_copyB (P := Try.prog) (dl := 32) (dc := 32) (off := 0) sl_bytes 3 hB hs2 (bcells_length _) (oneCell_V8 _) (by rw [bcells_length, HZL.out]; omega)
  go_enter Try.func10, Try.ntmps10
  go_wp2
  go_ret
  rw [padB_cells a Z HZ.out] at hB2
  exact ⟨w.heap.size, rfl, own_made 32 (by decide) _ _ (padB_length a) hB2 (Nat.le_refl _), hk.trans (hc2.below (by simp) (by simp))⟩

def Dk.fresh : Dk := ⟨Pw.new, List.replicate 32 (List.replicate 32 0), [], [], false⟩
theorem new_pok (m : Int) (h : 0 ≤ m) : Pw.new.ok m := ⟨by simp [Pw.new], by simp [Pw.new]; omega, fun h => by cases h⟩
theorem Dk.fresh_ok : Dk.fresh.ok 0 := ⟨by simp [Dk.fresh], by simp [Dk.fresh], by simp [Dk.fresh], by simp [Dk.fresh], by simp [Dk.fresh], by simp [Dk.fresh], new_pok _ (by simp)⟩
theorem Dk.fresh_read (o : Nat) (ho : o < 32) : Dk.fresh.read o = List.replicate 32 0 := by
  simp [Dk.read, Dk.fresh, readD, ho, -List.reduceReplicate]
theorem isD_nat (o : Nat) (ho : o < 32) : isD (o : Int) = true := by simp [isD]; omega
set_option maxRecDepth 100000 in
set_option maxHeartbeats 4000000 in
theorem disk_known (w : World) : Calls Try.prog 12 #[] w fun e w' => e = .returned (.bool true) ∧ Kept w w' := by
  obtain ⟨Z, hZ⟩ : ∃ Z, Z = List.replicate 32 (0 : UInt8) := ⟨_, rfl⟩
  have hmk : ∀ w : World, (Instr.makeSlice 22 (.int .i64 32) (.int .i64 32)).run Try.prog w = .ok (.slice (some ⟨w.heap.size, 0, none⟩) 32 32) (w.alloc (.cells (bcells Z).toArray 5)) := fun w => by rw [hZ]; exact run_make_b (P := Try.prog) w sl_bytes .i64 .i64 32 (by omega)
  have hzl : Z.length = 32 := by rw [hZ]; simp
  have HZ := Lib.hid hZ
  have HZL := Lib.hid hzl
  clear hZ hzl
  go_enter Try.func12, Try.ntmps12
  go_wp2_with fail
  refine (power_new _).mono ?_
  rintro e w1 ⟨rfl, p1, hk1, hz1⟩
  go_wp2_with fail
  refine (disk_new w.heap.size Pw.new (fun k => k < w.heap.size) _ (fun k hk => by omega) (by simp) p1).mono ?_
  rintro e w2 ⟨J, rfl, S2, hk2⟩
  have S2 : DkAt _ w2 J w.heap.size Dk.fresh := S2
  go_wp2_with fail
  refine (disk_read _ J _ _ 0 (by omega) _ S2 Dk.fresh_ok 3 (by omega) rfl).mono ?_
  rintro e w3 ⟨v3, rfl, ho3, hk3⟩
  rw [Dk.fresh_read 3 (by omega), ← HZ.out] at ho3
  go_wp2_with fail
  refine (disk_read_no _ J _ _ _ (S2.kept hk3) 32 rfl).mono ?_
  rintro e w4 ⟨rfl, rfl⟩
  have hsl : Sl w3 v3 Z.length (bcells Z) := by rw [HZL.out]; exact Sl.of_own ho3
  have kk := Kept.of (Kept.of hk1 hk2) hk3
  clear ho3 S2
  go_wp2_with fail
  refine wp_region_chainK [(0, 0), (1, 0), (2, 0), (3, 0), (4, 1), (5, 0), (6, 0), (7, 0), (8, 0), (9, 0), (10, 0), (11, 0), (12, 0)] (by kernel_rfl) (by kernel_rfl) ?_
  intro wq hwq
  replace hsl := hsl.kept hwq
  repeat
    refine chain_light _ rfl (fun K hK => ?_)
    first
      | (refine (if_pos (by rfl)).mpr ?_; apply Exists.intro; refine ⟨fun w' hw' => ?_, hK _ ?_⟩; (have q0 := str_of (bs := Z) (hsl.kept hw'); go_simp; done); (clear hK K; simp only [Act.put, List.setIfInBounds_toArray, List.set_cons_zero, List.set_cons_succ]))
      | (refine (if_pos (by rfl)).mpr ?_; apply Exists.intro; refine ⟨fun w' hw' => ?_, hK _ ?_⟩; (have q0 := str_of (bs := Z) (hsl.kept hw'); go_simp; rfl); (clear hK K; simp only [Act.put, List.setIfInBounds_toArray, List.set_cons_zero, List.set_cons_succ]))
      | (refine (if_neg (by rw [Bool.not_eq_true]; rfl)).mpr ?_; refine hK _ ?_; (clear hK K; simp only [Act.put, List.setIfInBounds_toArray, List.set_cons_zero, List.set_cons_succ]))
  refine chain_heavy _ rfl (fun K hK => ?_)
  refine (if_pos (by rfl)).mpr ?_
  go_wp2
  refine hK _ _ ((Below.refl _ _).alloc (Nat.le_refl _) _) ?_
  clear hK K
  try simp only [Act.put, List.setIfInBounds_toArray, List.set_cons_zero, List.set_cons_succ]
  repeat
    refine chain_light _ rfl (fun K hK => ?_)
    first
      | (refine (if_pos (by rfl)).mpr ?_; apply Exists.intro; refine ⟨fun w' hw' => ?_, hK _ ?_⟩; (have q0 := str_of (bs := Z) ((hsl.kept ((Below.refl _ wq).alloc (Nat.le_refl _) (.cells (bcells Z).toArray 5))).kept hw'); have q1 := str_of (bs := Z) (show Sl w' (.slice (some ⟨wq.heap.size, 0, none⟩) 32 32) Z.length (bcells Z) from by rw [HZL.out]; exact (Sl.of_own (own_made 32 (by decide) 5 Z HZL.out (Blk.new wq _ _) (Nat.zero_le _))).kept hw'); go_simp; done); (clear hK K; simp only [Act.put, List.setIfInBounds_toArray, List.set_cons_zero, List.set_cons_succ]))
      | (refine (if_pos (by rfl)).mpr ?_; apply Exists.intro; refine ⟨fun w' hw' => ?_, hK _ ?_⟩; (have q0 := str_of (bs := Z) ((hsl.kept ((Below.refl _ wq).alloc (Nat.le_refl _) (.cells (bcells Z).toArray 5))).kept hw'); have q1 := str_of (bs := Z) (show Sl w' (.slice (some ⟨wq.heap.size, 0, none⟩) 32 32) Z.length (bcells Z) from by rw [HZL.out]; exact (Sl.of_own (own_made 32 (by decide) 5 Z HZL.out (Blk.new wq _ _) (Nat.zero_le _))).kept hw'); go_simp; rfl); (clear hK K; simp only [Act.put, List.setIfInBounds_toArray, List.set_cons_zero, List.set_cons_succ]))
      | (refine (if_neg (by rw [Bool.not_eq_true]; rfl)).mpr ?_; refine hK _ ?_; (clear hK K; simp only [Act.put, List.setIfInBounds_toArray, List.set_cons_zero, List.set_cons_succ]))
  refine chain_nil ?_
  go_wp2
  go_ret
  exact ⟨rfl, Kept.of (Kept.of kk hwq) ((Below.refl _ _).alloc (Nat.le_refl _) _)⟩


end Go.Proofs.Ytpbdncnepcibaaa
