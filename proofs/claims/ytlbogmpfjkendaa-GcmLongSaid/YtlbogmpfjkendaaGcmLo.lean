/- GcmLong: so many bytes may be sealed, no more. -/
import Derived.Test.YtlbogmpfjkendaaGcmK
import Derived.Test.YtlbogmpfjkendaaRows
namespace Go.Proofs.Ytlbogmpfjkendaa
open Go Go.RowKit

set_option maxRecDepth 100000 in
set_option maxHeartbeats 8000000 in
theorem seal_long (k1 k2 : BitVec 64) (n : Nn) (vh vd : Value) (H D : Nat) (ch cd : List Value) (hl : (decide (H ≤ 4000) && decide (D ≤ 4000)) = false) (w : World) (hh : Sl w vh H ch) (hd : Sl w vd D cd) :
    Calls Try.prog 9 #[.agg #[U k1, U k2], n.val, vh, vd] w fun e w' => e = .returned (.tuple #[.agg #[.slice none 0 0, U 0#64, U 0#64], .bool false]) ∧ Kept w w' := by
  unfold Nn.val
  have HL := Lib.hid hl
  clear hl
  have hk0 : Kept w (((w.alloc (.cells #[U k1, U k2] 24)).alloc (.cells #[W n.epoch, W n.slot, U n.version] 27)).alloc (.cells #[.slice none 0 0, U 0#64, U 0#64] 30)) := (((Below.refl _ _).alloc (Nat.le_refl _) _).alloc (by simp) _).alloc (by simp; omega) _
  have hR : Blk (((w.alloc (.cells #[U k1, U k2] 24)).alloc (.cells #[W n.epoch, W n.slot, U n.version] 27)).alloc (.cells #[.slice none 0 0, U 0#64, U 0#64] 30)) (w.heap.size + 2) #[.slice none 0 0, U 0#64, U 0#64] 30 := by simpa using Blk.new ((w.alloc (.cells #[U k1, U k2] 24)).alloc (.cells #[W n.epoch, W n.slot, U n.version] 27)) #[.slice none 0 0, U 0#64, U 0#64] 30
  replace hh := hh.kept hk0
  replace hd := hd.kept hk0
  go_enter Try.func9, Try.ntmps9
  go_wp2_with fail
  generalize (((w.alloc (.cells #[U k1, U k2] 24)).alloc (.cells #[W n.epoch, W n.slot, U n.version] 27)).alloc (.cells #[.slice none 0 0, U 0#64, U 0#64] 30)) = w0 at *
  refine (may_any _ _ H D _ _ _ hh hd).mono ?_
  rintro e w1 ⟨rfl, rfl⟩
  rw [HL.out]
  have r0 := hR.cell 0
  have r1 := hR.cell 1
  have r2 := hR.cell 2
  have rf0 := hR.free 0
  have rf1 := hR.free 1
  have rf2 := hR.free 2
  clear hh hd hR
  go_wp2
  refine bodyPost_ret (v := .tuple #[.agg #[.slice none 0 0, U 0#64, U 0#64], .bool false]) (by simp [results, Try.results9, go_sem, r0, r1, r2]; done) rfl ⟨rfl, ?_⟩
  exact ((hk0.setCell (by show _ ≤ w.heap.size + 2; omega) _).setCell (by show _ ≤ w.heap.size + 2; omega) _).setCell (by show _ ≤ w.heap.size + 2; omega) _

set_option maxRecDepth 100000 in
set_option maxHeartbeats 8000000 in
theorem open_long (k1 k2 : BitVec 64) (n : Nn) (vh vd : Value) (H D : Nat) (ch cd : List Value) (t1 t2 : BitVec 64) (hl : (decide (H ≤ 4000) && decide (D ≤ 4000)) = false) (w : World) (hh : Sl w vh H ch) (hd : Sl w vd D cd) :
    Calls Try.prog 15 #[.agg #[U k1, U k2], n.val, vh, .agg #[vd, U t1, U t2]] w fun e w' => e = .returned (.tuple #[.slice none 0 0, .bool false]) ∧ Kept w w' := by
  unfold Nn.val
  have HL := Lib.hid hl
  clear hl
  obtain ⟨da, dc, hv⟩ := hd.len
  subst hv
  have hk0 : Kept w (((w.alloc (.cells #[U k1, U k2] 24)).alloc (.cells #[W n.epoch, W n.slot, U n.version] 27)).alloc (.cells #[.slice da D dc, U t1, U t2] 30)) := (((Below.refl _ _).alloc (Nat.le_refl _) _).alloc (by simp) _).alloc (by simp; omega) _
  have hK : Blk (((w.alloc (.cells #[U k1, U k2] 24)).alloc (.cells #[W n.epoch, W n.slot, U n.version] 27)).alloc (.cells #[.slice da D dc, U t1, U t2] 30)) w.heap.size #[U k1, U k2] 24 := ((Blk.new _ _ _).alloc _).alloc _
  have hN : Blk (((w.alloc (.cells #[U k1, U k2] 24)).alloc (.cells #[W n.epoch, W n.slot, U n.version] 27)).alloc (.cells #[.slice da D dc, U t1, U t2] 30)) (w.heap.size + 1) #[W n.epoch, W n.slot, U n.version] 27 := Blk.alloc (by simpa using Blk.new (w.alloc (.cells #[U k1, U k2] 24)) #[W n.epoch, W n.slot, U n.version] 27) _
  have hX : Blk (((w.alloc (.cells #[U k1, U k2] 24)).alloc (.cells #[W n.epoch, W n.slot, U n.version] 27)).alloc (.cells #[.slice da D dc, U t1, U t2] 30)) (w.heap.size + 2) #[.slice da D dc, U t1, U t2] 30 := by simpa using Blk.new ((w.alloc (.cells #[U k1, U k2] 24)).alloc (.cells #[W n.epoch, W n.slot, U n.version] 27)) #[.slice da D dc, U t1, U t2] 30
  have q0 := hK.cell 0
  have q1 := hK.cell 1
  have n0 := hN.cell 0
  have n1 := hN.cell 1
  have n2 := hN.cell 2
  replace hh := hh.kept hk0
  replace hd := hd.kept hk0
  go_enter Try.func15, Try.ntmps15
  go_wp2_with fail
  generalize (((w.alloc (.cells #[U k1, U k2] 24)).alloc (.cells #[W n.epoch, W n.slot, U n.version] 27)).alloc (.cells #[.slice da D dc, U t1, U t2] 30)) = w0 at *
  refine (sub_any _ _ n _).mono ?_
  rintro e w2 ⟨rfl, hk2⟩
  obtain ⟨s, hs⟩ : ∃ s, s = sub2 (k1, k2) n := ⟨_, rfl⟩
  rw [← hs]
  have hk3 : Kept w0 (w2.alloc (.cells #[U s.1, U s.2] 24)) := Kept.of hk2 ((Below.refl _ _).alloc (Nat.le_refl _) _)
  replace hX := hX.kept hk3
  replace hh := hh.kept hk3
  replace hd := hd.kept hk3
  replace hk0 := Kept.of hk0 hk3
  clear q0 q1 n0 n1 n2 hs hk2 hk3 hK hN
  go_wp2_with fail
  generalize w2.alloc (.cells #[U s.1, U s.2] 24) = w3 at *
  refine wp_region_chainK [(0, 0), (1, 0), (2, 0), (3, 1), (4, 0), (5, 0), (6, 0), (7, 0), (8, 0), (9, 0), (11, 0), (12, 0), (10, 1), (13, 0), (14, 0)] (by kernel_rfl) (by kernel_rfl) ?_
  intro w4 hw4
  replace hX := hX.kept hw4
  repeat
    refine chain_light _ rfl (fun K hK => ?_)
    first
      | (refine (if_pos (by rfl)).mpr ?_; apply Exists.intro; refine ⟨fun w' hw' => ?_, hK _ ?_⟩; (have c := hX.kept hw'; have c0 := c.cell 0; clear c; go_simp; done); (clear hK K; simp only [Act.put, List.setIfInBounds_toArray, List.set_cons_zero, List.set_cons_succ]))
      | (refine (if_pos (by rfl)).mpr ?_; apply Exists.intro; refine ⟨fun w' hw' => ?_, hK _ ?_⟩; (have c := hX.kept hw'; have c0 := c.cell 0; clear c; go_simp; rfl); (clear hK K; simp only [Act.put, List.setIfInBounds_toArray, List.set_cons_zero, List.set_cons_succ]))
      | (refine (if_neg (by rw [Bool.not_eq_true]; rfl)).mpr ?_; refine hK _ ?_; (clear hK K; simp only [Act.put, List.setIfInBounds_toArray, List.set_cons_zero, List.set_cons_succ]))
  refine chain_heavy _ rfl (fun K hK => ?_)
  refine (if_pos (by rfl)).mpr ?_
  go_wp2_with fail
  refine (may_any _ _ H D _ _ _ (hh.kept hw4) (hd.kept hw4)).mono ?_
  rintro e w5 ⟨rfl, rfl⟩
  rw [HL.out]
  have hk9 := Kept.of hk0 hw4
  go_wp2
  refine hK _ _ (Below.refl _ _) ?_
  clear hK K
  try simp only [Act.put, List.setIfInBounds_toArray, List.set_cons_zero, List.set_cons_succ]
  repeat
    refine chain_light _ rfl (fun K hK => ?_)
    first
      | (refine (if_pos (by rfl)).mpr ?_; apply Exists.intro; refine ⟨fun w' hw' => ?_, hK _ ?_⟩; (go_simp; done); (clear hK K; simp only [Act.put, List.setIfInBounds_toArray, List.set_cons_zero, List.set_cons_succ]))
      | (refine (if_pos (by rfl)).mpr ?_; apply Exists.intro; refine ⟨fun w' hw' => ?_, hK _ ?_⟩; (go_simp; rfl); (clear hK K; simp only [Act.put, List.setIfInBounds_toArray, List.set_cons_zero, List.set_cons_succ]))
      | (refine (if_neg (by rw [Bool.not_eq_true]; rfl)).mpr ?_; refine hK _ ?_; (clear hK K; simp only [Act.put, List.setIfInBounds_toArray, List.set_cons_zero, List.set_cons_succ]))
  refine chain_heavy _ rfl (fun K hK => ?_)
  refine (if_neg (by rw [Bool.not_eq_true]; rfl)).mpr ?_
  intro hK'
  refine hK' _ _ ?_
  clear hK hK' K
  simp only [Act.put, List.setIfInBounds_toArray, List.set_cons_zero, List.set_cons_succ]
  repeat
    refine chain_light _ rfl (fun K hK => ?_)
    first
      | (refine (if_pos (by rfl)).mpr ?_; apply Exists.intro; refine ⟨fun w' hw' => ?_, hK _ ?_⟩; (go_simp; done); (clear hK K; simp only [Act.put, List.setIfInBounds_toArray, List.set_cons_zero, List.set_cons_succ]))
      | (refine (if_pos (by rfl)).mpr ?_; apply Exists.intro; refine ⟨fun w' hw' => ?_, hK _ ?_⟩; (go_simp; rfl); (clear hK K; simp only [Act.put, List.setIfInBounds_toArray, List.set_cons_zero, List.set_cons_succ]))
      | (refine (if_neg (by rw [Bool.not_eq_true]; rfl)).mpr ?_; refine hK _ ?_; (clear hK K; simp only [Act.put, List.setIfInBounds_toArray, List.set_cons_zero, List.set_cons_succ]))
  refine chain_nil ?_
  go_wp2
  go_ret2
  exact ⟨rfl, hk9⟩

set_option maxRecDepth 100000 in
set_option maxHeartbeats 8000000 in
theorem long_hx (N : Nat) (hN : N ≤ 4100) (hb : 4000 < N) (w : World) : Calls Try.prog 7 #[.int .i64 N, .bool true] w fun e w' => e = .returned (.bool true) ∧ Kept w w' := by
  have i0 : (N : Int) ≤ 4100 := by omega
  have i1 : (0 : Int) ≤ (N : Int) := by omega
  have i2 : decide ((N : Int) ≤ 4000) = false := decide_eq_false (by omega)
  obtain ⟨Z, hZ⟩ : ∃ Z, Z = List.replicate N (0 : UInt8) := ⟨_, rfl⟩
  have hzl : Z.length = N := by rw [hZ]; simp
  have hmk : (Instr.makeSlice 28 (.int .i64 (N : Int)) (.int .i64 (N : Int))).run Try.prog w = .ok (.slice (some ⟨w.heap.size, 0, none⟩) N N) (w.alloc (.cells (bcells Z).toArray 5)) := by rw [hZ]; exact run_make_b (P := Try.prog) w sl_bytes .i64 .i64 N (by omega)
  have sz : Sl (w.alloc (.cells (bcells Z).toArray 5)) (.slice (some ⟨w.heap.size, 0, none⟩) N N) N (bcells Z) := Sl.of_own (own_made N (by unfold maxLen; omega) 5 Z hzl (Blk.new _ _ _) (Nat.le_refl _))
  have hk0 : Kept w (w.alloc (.cells (bcells Z).toArray 5)) := (Below.refl _ _).alloc (Nat.le_refl _) _
  have HZL := Lib.hid hzl
  clear hZ hzl
  go_enter Try.func7, Try.ntmps7
  go_wp2_with fail
  generalize (w.alloc (.cells (bcells Z).toArray 5)) = w0 at *
  clear hmk
  refine (seal_long 0#64 0#64 ⟨0#32, 0#32, 0#64⟩ _ _ N 0 (bcells Z) [] (by simp; omega) _ sz (Sl.nil _)).mono ?_
  rintro e w1 ⟨rfl, hk1⟩
  have hX := Blk.new w1 #[.slice none 0 0, U 0#64, U 0#64] 30
  have hka : Kept w0 (w1.alloc (.cells #[.slice none 0 0, U 0#64, U 0#64] 30)) := Kept.of hk1 ((Below.refl _ _).alloc (Nat.le_refl _) _)
  have x0 := hX.cell 0
  have x1 := hX.cell 1
  have x2 := hX.cell 2
  clear hk1
  go_wp2_with fail
  refine (open_long 0#64 0#64 ⟨0#32, 0#32, 0#64⟩ _ _ N 0 (bcells Z) [] _ _ (by simp; omega) _ (sz.kept hka) (Sl.nil _)).mono ?_
  rintro e w3 ⟨rfl, hk3⟩
  clear x0 x1 x2
  go_wp2_with fail
  refine (known_any _).mono ?_
  rintro e w9 ⟨rfl, hk9⟩
  go_wp2
  go_ret
  exact ⟨rfl, ((hk0.of hka).of hk3).of hk9⟩

set_option maxRecDepth 100000 in
set_option maxHeartbeats 8000000 in
theorem long_hy (N : Nat) (hN : N ≤ 4100) (hb : N ≤ 4000) (w : World) : Calls Try.prog 7 #[.int .i64 N, .bool true] w fun e w' => e = .returned (.bool true) ∧ Kept w w' := by
  have i0 : (N : Int) ≤ 4100 := by omega
  have i1 : (0 : Int) ≤ (N : Int) := by omega
  have i2 : decide ((N : Int) ≤ 4000) = true := decide_eq_true (by omega)
  obtain ⟨Z, hZ⟩ : ∃ Z, Z = List.replicate N (0 : UInt8) := ⟨_, rfl⟩
  have hzl : Z.length = N := by rw [hZ]; simp
  have hmk : (Instr.makeSlice 28 (.int .i64 (N : Int)) (.int .i64 (N : Int))).run Try.prog w = .ok (.slice (some ⟨w.heap.size, 0, none⟩) N N) (w.alloc (.cells (bcells Z).toArray 5)) := by rw [hZ]; exact run_make_b (P := Try.prog) w sl_bytes .i64 .i64 N (by omega)
  have sz : Sl (w.alloc (.cells (bcells Z).toArray 5)) (.slice (some ⟨w.heap.size, 0, none⟩) N N) N (bcells Z) := Sl.of_own (own_made N (by unfold maxLen; omega) 5 Z hzl (Blk.new _ _ _) (Nat.le_refl _))
  have hk0 : Kept w (w.alloc (.cells (bcells Z).toArray 5)) := (Below.refl _ _).alloc (Nat.le_refl _) _
  have HZL := Lib.hid hzl
  clear hZ hzl
  go_enter Try.func7, Try.ntmps7
  go_wp2_with fail
  generalize (w.alloc (.cells (bcells Z).toArray 5)) = w0 at *
  clear hmk
  refine (seal_any 0#64 0#64 ⟨0#32, 0#32, 0#64⟩ _ _ Z [] (by rw [HZL.out]; omega) (by simp) _ (by rw [HZL.out]; exact sz) (Sl.nil _)).mono ?_
  rintro e w1 ⟨u, rfl, o1, hk1⟩
  have s1 := Sl.of_own o1
  obtain ⟨n, hn⟩ : ∃ n, n = ([] : List UInt8).length := ⟨_, rfl⟩
  rw [← hn] at s1
  have hn2 : n ≤ 4000 := by rw [hn]; simp
  obtain ⟨ua, uc, he⟩ := s1.len
  subst he
  obtain ⟨T, hT⟩ : ∃ T, T = sealT (0#64, 0#64) ⟨0#32, 0#32, 0#64⟩ Z [] := ⟨_, rfl⟩
  have ht : openK (0#64, 0#64) ⟨0#32, 0#32, 0#64⟩ Z (ciph (0#64, 0#64) ⟨0#32, 0#32, 0#64⟩ []) (T.1, T.2) = true := by rw [hT]; exact openK_seal _ _ _ _
  rw [← hT]
  have HT := Lib.hid ht
  have hX := Blk.new w1 #[.slice ua n uc, U T.1, U T.2] 30
  have hka : Kept w0 (w1.alloc (.cells #[.slice ua n uc, U T.1, U T.2] 30)) := Kept.of hk1 ((Below.refl _ _).alloc (Nat.le_refl _) _)
  have s2 := s1.kept (show Kept w1 (w1.alloc (.cells #[.slice ua n uc, U T.1, U T.2] 30)) from (Below.refl _ _).alloc (Nat.le_refl _) _)
  have HN := Lib.hid hn
  have x0 := hX.cell 0
  have x1 := hX.cell 1
  have x2 := hX.cell 2
  clear hT ht o1 s1 hk1 hn
  go_wp2_with fail
  refine (open_any 0#64 0#64 ⟨0#32, 0#32, 0#64⟩ _ _ Z (ciph (0#64, 0#64) ⟨0#32, 0#32, 0#64⟩ []) _ _ (by rw [HZL.out]; omega) (by rw [ciph_length, ← HN.out]; exact hn2) _ (by rw [HZL.out]; exact sz.kept hka) (by rw [ciph_length, ← HN.out]; exact s2)).mono ?_
  rintro e w3 ⟨x, rfl, s3, hk3⟩
  rw [HT.out]
  clear x0 x1 x2 s3 s2
  go_wp2_with fail
  refine (known_any _).mono ?_
  rintro e w9 ⟨rfl, hk9⟩
  go_wp2
  go_ret
  exact ⟨rfl, ((hk0.of hka).of hk3).of hk9⟩

set_option maxRecDepth 100000 in
set_option maxHeartbeats 8000000 in
theorem long_dx (N : Nat) (hN : N ≤ 4100) (hb : 4000 < N) (w : World) : Calls Try.prog 7 #[.int .i64 N, .bool false] w fun e w' => e = .returned (.bool true) ∧ Kept w w' := by
  have i0 : (N : Int) ≤ 4100 := by omega
  have i1 : (0 : Int) ≤ (N : Int) := by omega
  have i2 : decide ((N : Int) ≤ 4000) = false := decide_eq_false (by omega)
  obtain ⟨Z, hZ⟩ : ∃ Z, Z = List.replicate N (0 : UInt8) := ⟨_, rfl⟩
  have hzl : Z.length = N := by rw [hZ]; simp
  have hmk : (Instr.makeSlice 28 (.int .i64 (N : Int)) (.int .i64 (N : Int))).run Try.prog w = .ok (.slice (some ⟨w.heap.size, 0, none⟩) N N) (w.alloc (.cells (bcells Z).toArray 5)) := by rw [hZ]; exact run_make_b (P := Try.prog) w sl_bytes .i64 .i64 N (by omega)
  have sz : Sl (w.alloc (.cells (bcells Z).toArray 5)) (.slice (some ⟨w.heap.size, 0, none⟩) N N) N (bcells Z) := Sl.of_own (own_made N (by unfold maxLen; omega) 5 Z hzl (Blk.new _ _ _) (Nat.le_refl _))
  have hk0 : Kept w (w.alloc (.cells (bcells Z).toArray 5)) := (Below.refl _ _).alloc (Nat.le_refl _) _
  have HZL := Lib.hid hzl
  clear hZ hzl
  go_enter Try.func7, Try.ntmps7
  go_wp2_with fail
  generalize (w.alloc (.cells (bcells Z).toArray 5)) = w0 at *
  clear hmk
  refine (seal_long 0#64 0#64 ⟨0#32, 0#32, 0#64⟩ _ _ 0 N [] (bcells Z) (by simp; omega) _ (Sl.nil _) sz).mono ?_
  rintro e w1 ⟨rfl, hk1⟩
  have hX := Blk.new w1 #[.slice none 0 0, U 0#64, U 0#64] 30
  have hka : Kept w0 (w1.alloc (.cells #[.slice none 0 0, U 0#64, U 0#64] 30)) := Kept.of hk1 ((Below.refl _ _).alloc (Nat.le_refl _) _)
  have x0 := hX.cell 0
  have x1 := hX.cell 1
  have x2 := hX.cell 2
  clear hk1
  go_wp2_with fail
  refine (open_any 0#64 0#64 ⟨0#32, 0#32, 0#64⟩ _ _ [] [] _ _ (by simp) (by simp) _ (Sl.nil _) (Sl.nil _)).mono ?_
  rintro e w3 ⟨x, rfl, s3, hk3⟩
  clear s3
  clear x0 x1 x2
  go_wp2_with fail
  refine (known_any _).mono ?_
  rintro e w9 ⟨rfl, hk9⟩
  go_wp2
  go_ret
  exact ⟨rfl, ((hk0.of hka).of hk3).of hk9⟩

set_option maxRecDepth 100000 in
set_option maxHeartbeats 8000000 in
theorem long_dy (N : Nat) (hN : N ≤ 4100) (hb : N ≤ 4000) (w : World) : Calls Try.prog 7 #[.int .i64 N, .bool false] w fun e w' => e = .returned (.bool true) ∧ Kept w w' := by
  have i0 : (N : Int) ≤ 4100 := by omega
  have i1 : (0 : Int) ≤ (N : Int) := by omega
  have i2 : decide ((N : Int) ≤ 4000) = true := decide_eq_true (by omega)
  obtain ⟨Z, hZ⟩ : ∃ Z, Z = List.replicate N (0 : UInt8) := ⟨_, rfl⟩
  have hzl : Z.length = N := by rw [hZ]; simp
  have hmk : (Instr.makeSlice 28 (.int .i64 (N : Int)) (.int .i64 (N : Int))).run Try.prog w = .ok (.slice (some ⟨w.heap.size, 0, none⟩) N N) (w.alloc (.cells (bcells Z).toArray 5)) := by rw [hZ]; exact run_make_b (P := Try.prog) w sl_bytes .i64 .i64 N (by omega)
  have sz : Sl (w.alloc (.cells (bcells Z).toArray 5)) (.slice (some ⟨w.heap.size, 0, none⟩) N N) N (bcells Z) := Sl.of_own (own_made N (by unfold maxLen; omega) 5 Z hzl (Blk.new _ _ _) (Nat.le_refl _))
  have hk0 : Kept w (w.alloc (.cells (bcells Z).toArray 5)) := (Below.refl _ _).alloc (Nat.le_refl _) _
  have HZL := Lib.hid hzl
  clear hZ hzl
  go_enter Try.func7, Try.ntmps7
  go_wp2_with fail
  generalize (w.alloc (.cells (bcells Z).toArray 5)) = w0 at *
  clear hmk
  refine (seal_any 0#64 0#64 ⟨0#32, 0#32, 0#64⟩ _ _ [] Z (by simp) (by rw [HZL.out]; omega) _ (Sl.nil _) (by rw [HZL.out]; exact sz)).mono ?_
  rintro e w1 ⟨u, rfl, o1, hk1⟩
  have s1 := Sl.of_own o1
  obtain ⟨n, hn⟩ : ∃ n, n = (Z : List UInt8).length := ⟨_, rfl⟩
  rw [← hn] at s1
  have hn2 : n ≤ 4000 := by rw [hn]; rw [HZL.out]; omega
  obtain ⟨ua, uc, he⟩ := s1.len
  subst he
  obtain ⟨T, hT⟩ : ∃ T, T = sealT (0#64, 0#64) ⟨0#32, 0#32, 0#64⟩ [] Z := ⟨_, rfl⟩
  have ht : openK (0#64, 0#64) ⟨0#32, 0#32, 0#64⟩ [] (ciph (0#64, 0#64) ⟨0#32, 0#32, 0#64⟩ Z) (T.1, T.2) = true := by rw [hT]; exact openK_seal _ _ _ _
  rw [← hT]
  have HT := Lib.hid ht
  have hX := Blk.new w1 #[.slice ua n uc, U T.1, U T.2] 30
  have hka : Kept w0 (w1.alloc (.cells #[.slice ua n uc, U T.1, U T.2] 30)) := Kept.of hk1 ((Below.refl _ _).alloc (Nat.le_refl _) _)
  have s2 := s1.kept (show Kept w1 (w1.alloc (.cells #[.slice ua n uc, U T.1, U T.2] 30)) from (Below.refl _ _).alloc (Nat.le_refl _) _)
  have HN := Lib.hid hn
  have x0 := hX.cell 0
  have x1 := hX.cell 1
  have x2 := hX.cell 2
  clear hT ht o1 s1 hk1 hn
  go_wp2_with fail
  refine (open_any 0#64 0#64 ⟨0#32, 0#32, 0#64⟩ _ _ [] (ciph (0#64, 0#64) ⟨0#32, 0#32, 0#64⟩ Z) _ _ (by simp) (by rw [ciph_length, ← HN.out]; exact hn2) _ (Sl.nil _) (by rw [ciph_length, ← HN.out]; exact s2)).mono ?_
  rintro e w3 ⟨x, rfl, s3, hk3⟩
  rw [HT.out]
  clear x0 x1 x2 s3 s2
  go_wp2_with fail
  refine (known_any _).mono ?_
  rintro e w9 ⟨rfl, hk9⟩
  go_wp2
  go_ret
  exact ⟨rfl, ((hk0.of hka).of hk3).of hk9⟩

set_option maxRecDepth 100000 in
set_option maxHeartbeats 8000000 in
theorem long_walk (n : Int) (b : Bool) (w : World) (lo : -9223372036854775808 ≤ n) (hi : n ≤ 9223372036854775807) : Calls Try.prog 7 #[.int .i64 n, .bool b] w fun e w' => e = .returned (.bool true) ∧ Kept w w' := by
  by_cases h0 : n < 0
  · go_enter Try.func7, Try.ntmps7
    go_wp2
    go_ret
    exact ⟨rfl, Below.refl _ _⟩
  by_cases h1 : 4100 < n
  · have d0 : decide (n < 0) = false := by simpa using h0
    go_enter Try.func7, Try.ntmps7
    go_wp2
    go_ret
    exact ⟨rfl, Below.refl _ _⟩
  obtain ⟨m, hm⟩ : ∃ m : Nat, n = (m : Int) := ⟨n.toNat, by omega⟩
  subst hm
  by_cases h2 : 4000 < m
  · cases b
    · exact long_dx m (by omega) h2 w
    · exact long_hx m (by omega) h2 w
  · cases b
    · exact long_dy m (by omega) (by omega) w
    · exact long_hy m (by omega) (by omega) w

namespace gcmLongRow
open Go.ChangeShapes Go.WideShapes Go.ChangeAt Go.RowKit
theorem own : ownKnob Try.prog.godebug = none := by kernel_rfl
theorem laidOut : laidOutB Try.prog = true := by kernel_rfl

set_option maxRecDepth 100000 in
theorem lifted (os : Os) (started : os.Started) (H : Type) (enc : TypeId × Value → H) :
    ReturnsInHanded {} Try.checked os 7 .any (Rows.gcmLongSpec.pre6 enc Try.prog Try.f7 Rows.gcmLongRow.domain false) (Rows.gcmLongSpec.post enc Try.prog Try.f7 false true false false) := by
  refine returnsInHanded_of_change (C := Try.checked) own started (by kernel_rfl) Try.func7
    (ChangeSpec.witness6 (enc := enc) (C := Try.checked) false ⟨#[], #[.int .i64 0, .bool false], []⟩ 8 (by kernel_rfl) (by kernel_rfl) (by kernel_rfl) (by kernel_rfl)) ?_
  intro W base args ds gs before hval0 hW _ hsz
  have hval : ∀ (j : Nat) t v, Try.f7.params[j]? = some t → args[j]? = some v → Value.okWide Try.prog W .any base t v := hval0
  have hW' := hW
  obtain ⟨p, q, hA0, hV, rfl, hfz, hnd⟩ := hW
  have hA : DataW.TrodAll enc Try.prog W 0 (fun _ => true) true Try.f7.params.toList args.toList ds p := hA0
  rw [Try.params7] at hA hval
  obtain ⟨v0, vs0, d0, ds0, p0, q0, hargs, rfl, rfl, h0, r0⟩ := trodAll_cons hA
  obtain ⟨v1, vs1, d1, ds1, p1, q1, rfl, rfl, rfl, h1, r1⟩ := trodAll_cons r0
  obtain ⟨rfl, rfl, rfl⟩ := trodAll_nil r1
  obtain rfl : args = #[v0, v1] := by cases args; simp_all
  obtain ⟨a0, rfl, lo0, hi0⟩ := open_I Try.underlying3 (hval 0 3 v0 rfl rfl) h0
  obtain ⟨a1, rfl, _, _⟩ := open_bool Try.underlying4 (hval 1 4 v1 rfl rfl) h1
  refine (long_walk a0 a1 W lo0 hi0).mono fun e W' ⟨he, bel⟩ => ?_
  subst he
  exact ⟨_, rfl, law_post (tb := 4) laidOut (by kernel_rfl) Try.underlying4 (by rfl) rfl (by intro xs hxs; match xs, hxs with | [x0, x1], _ => rfl) hW' bel⟩

theorem over : Rows.gcmLongRow.holds Try.pinned (OpenSpec.ofChange Rows.gcmLongSpec) :=
  OpenClaim.holds_of_wide 7 Try.f7 rfl rfl rfl rfl rfl rfl rfl ⟨rfl, rfl, rfl, rfl, rfl⟩ rfl rfl rfl rfl rfl (by kernel_rfl) Try.func7 (by kernel_rfl)
    (of_decide_eq_true (by kernel_rfl)) (by unfold Func.isWrapper; rw [if_neg (of_decide_eq_false (by kernel_rfl))]; exact ⟨rfl, rfl⟩)
    (fun os started H enc _ => lifted os started H enc)
end gcmLongRow

theorem gcmLong_holds : Rows.GcmLongSaid := gcmLongRow.over
#print axioms gcmLong_holds

end Go.Proofs.Ytlbogmpfjkendaa
