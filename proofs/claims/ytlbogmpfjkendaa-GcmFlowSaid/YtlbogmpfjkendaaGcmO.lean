/- What gcm.Open, and its reference, compute; what is too long. -/
import Derived.Test.YtlbogmpfjkendaaGcmS
namespace Go.Proofs.Ytlbogmpfjkendaa
open Go Go.RowKit

set_option maxRecDepth 100000 in
set_option maxHeartbeats 4000000 in
theorem open_yes (k1 k2 : BitVec 64) (n : Nn) (vh vd : Value) (head data : List UInt8) (t1 t2 : BitVec 64) (hl : head.length ≤ 4000) (dl : data.length ≤ 4000) (ht : (tag2 (sub2 (k1, k2) n) head data == (t1, t2)) = true) (w : World) (hh : Sl w vh head.length (bcells head)) (hd : Sl w vd data.length (bcells data)) :
    Calls Try.prog 15 #[.agg #[U k1, U k2], n.val, vh, .agg #[vd, U t1, U t2]] w fun e w' => ∃ u, e = .returned (.tuple #[u, .bool true]) ∧ Sl w' u data.length (bcells (ciph (k1, k2) n data)) ∧ Kept w w' := by
  obtain ⟨ha, hc, hv⟩ := hh.len
  subst hv
  obtain ⟨da, dc, hv⟩ := hd.len
  subst hv
  obtain ⟨H, hH⟩ : ∃ H, H = head.length := ⟨_, rfl⟩
  obtain ⟨D, hD⟩ : ∃ D, D = data.length := ⟨_, rfl⟩
  have hh1 : Sl w (.slice ha H hc) head.length (bcells head) := by rw [hH]; exact hh
  have hd1 : Sl w (.slice da D dc) data.length (bcells data) := by rw [hD]; exact hd
  rw [← hH] at hl ⊢
  rw [← hD] at dl ⊢
  have HH := Lib.hid hH
  have HD := Lib.hid hD
  clear hh hd hH hD
  have i0 : (H : Int) ≤ 4000 := by omega
  have i1 : (D : Int) ≤ 4000 := by omega
  unfold Nn.val
  have HT := Lib.hid ht
  clear ht
  have hk0 : Kept w (((w.alloc (.cells #[U k1, U k2] 24)).alloc (.cells #[W n.epoch, W n.slot, U n.version] 27)).alloc (.cells #[.slice da D dc, U t1, U t2] 30)) := (((Below.refl _ _).alloc (Nat.le_refl _) _).alloc (by simp) _).alloc (by simp; omega) _
  have hK : Blk (((w.alloc (.cells #[U k1, U k2] 24)).alloc (.cells #[W n.epoch, W n.slot, U n.version] 27)).alloc (.cells #[.slice da D dc, U t1, U t2] 30)) w.heap.size #[U k1, U k2] 24 := ((Blk.new _ _ _).alloc _).alloc _
  have hN : Blk (((w.alloc (.cells #[U k1, U k2] 24)).alloc (.cells #[W n.epoch, W n.slot, U n.version] 27)).alloc (.cells #[.slice da D dc, U t1, U t2] 30)) (w.heap.size + 1) #[W n.epoch, W n.slot, U n.version] 27 := Blk.alloc (by simpa using Blk.new (w.alloc (.cells #[U k1, U k2] 24)) #[W n.epoch, W n.slot, U n.version] 27) _
  have hX : Blk (((w.alloc (.cells #[U k1, U k2] 24)).alloc (.cells #[W n.epoch, W n.slot, U n.version] 27)).alloc (.cells #[.slice da D dc, U t1, U t2] 30)) (w.heap.size + 2) #[.slice da D dc, U t1, U t2] 30 := by simpa using Blk.new ((w.alloc (.cells #[U k1, U k2] 24)).alloc (.cells #[W n.epoch, W n.slot, U n.version] 27)) #[.slice da D dc, U t1, U t2] 30
  have q0 := hK.cell 0
  have q1 := hK.cell 1
  have n0 := hN.cell 0
  have n1 := hN.cell 1
  have n2 := hN.cell 2
  have x0 := hX.cell 0
  go_enter Try.func15, Try.ntmps15
  go_wp2_with fail
  generalize (((w.alloc (.cells #[U k1, U k2] 24)).alloc (.cells #[W n.epoch, W n.slot, U n.version] 27)).alloc (.cells #[.slice da D dc, U t1, U t2] 30)) = w0 at *
  refine (sub_any _ _ n _).mono ?_
  rintro e w2 ⟨rfl, hk2⟩
  obtain ⟨s, hs⟩ : ∃ s, s = sub2 (k1, k2) n := ⟨_, rfl⟩
  rw [← hs]
  have hnt : (tag2 (s.1, s.2) head data == (t1, t2)) = true := by rw [hs]; exact HT.out
  have HS := Lib.hid hs
  have HNT := Lib.hid hnt
  have hS := Blk.new w2 #[U s.1, U s.2] 24
  have hk3 : Kept w0 (w2.alloc (.cells #[U s.1, U s.2] 24)) := Kept.of hk2 ((Below.refl _ _).alloc (Nat.le_refl _) _)
  replace hX := hX.kept hk3
  replace hk0 := Kept.of hk0 hk3
  clear q0 q1 n0 n1 n2 hs hnt hk2 hk3 hK hN x0
  go_wp2_with fail
  generalize w2.alloc (.cells #[U s.1, U s.2] 24) = w3 at *
  refine wp_region_chainK [(0, 0), (1, 0), (2, 0), (3, 1), (4, 0), (5, 0), (6, 0), (7, 0), (8, 0), (9, 0), (11, 0), (12, 0), (10, 1), (13, 0), (14, 0)] (by kernel_rfl) (by kernel_rfl) ?_
  intro w4 hw4
  replace hX := hX.kept hw4
  replace hS := hS.kept hw4
  replace hk0 := Kept.of hk0 hw4
  clear hw4
  repeat
    refine chain_light _ rfl (fun K hK => ?_)
    first
      | (refine (if_pos (by rfl)).mpr ?_; apply Exists.intro; refine ⟨fun w' hw' => ?_, hK _ ?_⟩; (have c := hX.kept hw'; have c0 := c.cell 0; have c1 := c.cell 1; have c2 := c.cell 2; have d := hS.kept hw'; have d0 := d.cell 0; have d1 := d.cell 1; clear c d; go_simp; done); (clear hK K; simp only [Act.put, List.setIfInBounds_toArray, List.set_cons_zero, List.set_cons_succ]))
      | (refine (if_pos (by rfl)).mpr ?_; apply Exists.intro; refine ⟨fun w' hw' => ?_, hK _ ?_⟩; (have c := hX.kept hw'; have c0 := c.cell 0; have c1 := c.cell 1; have c2 := c.cell 2; have d := hS.kept hw'; have d0 := d.cell 0; have d1 := d.cell 1; clear c d; go_simp; rfl); (clear hK K; simp only [Act.put, List.setIfInBounds_toArray, List.set_cons_zero, List.set_cons_succ]))
      | (refine (if_neg (by rw [Bool.not_eq_true]; rfl)).mpr ?_; refine hK _ ?_; (clear hK K; simp only [Act.put, List.setIfInBounds_toArray, List.set_cons_zero, List.set_cons_succ]))
  refine chain_heavy _ rfl (fun K hK => ?_)
  refine (if_pos (by rfl)).mpr ?_
  go_wp2_with fail
  refine (may_any _ _ H D _ _ _ (by rw [HH.out]; rw [HH.out] at hh1; exact hh1.kept hk0) (by rw [HD.out]; rw [HD.out] at hd1; exact hd1.kept hk0)).mono ?_
  rintro e w5 ⟨rfl, rfl⟩
  rw [decide_eq_true hl, decide_eq_true dl]
  go_wp2
  refine hK _ _ (Below.refl _ _) ?_
  clear hK K
  try simp only [Act.put, List.setIfInBounds_toArray, List.set_cons_zero, List.set_cons_succ]
  repeat
    refine chain_light _ rfl (fun K hK => ?_)
    first
      | (refine (if_pos (by rfl)).mpr ?_; apply Exists.intro; refine ⟨fun w' hw' => ?_, hK _ ?_⟩; (have c := hX.kept hw'; have c0 := c.cell 0; have c1 := c.cell 1; have c2 := c.cell 2; have d := hS.kept hw'; have d0 := d.cell 0; have d1 := d.cell 1; clear c d; go_simp; done); (clear hK K; simp only [Act.put, List.setIfInBounds_toArray, List.set_cons_zero, List.set_cons_succ]))
      | (refine (if_pos (by rfl)).mpr ?_; apply Exists.intro; refine ⟨fun w' hw' => ?_, hK _ ?_⟩; (have c := hX.kept hw'; have c0 := c.cell 0; have c1 := c.cell 1; have c2 := c.cell 2; have d := hS.kept hw'; have d0 := d.cell 0; have d1 := d.cell 1; clear c d; go_simp; rfl); (clear hK K; simp only [Act.put, List.setIfInBounds_toArray, List.set_cons_zero, List.set_cons_succ]))
      | (refine (if_neg (by rw [Bool.not_eq_true]; rfl)).mpr ?_; refine hK _ ?_; (clear hK K; simp only [Act.put, List.setIfInBounds_toArray, List.set_cons_zero, List.set_cons_succ]))
  refine chain_heavy _ rfl (fun K hK => ?_)
  refine (if_pos (by rfl)).mpr ?_
  go_wp2_with fail
  refine (tag_any _ _ _ _ head data (by rw [← HH.out]; exact hl) (by rw [← HD.out]; exact dl) _ (hh1.kept hk0) (hd1.kept hk0)).mono ?_
  rintro e w5 ⟨rfl, hk5⟩
  obtain ⟨T, hT⟩ : ∃ T, T = tag2 (s.1, s.2) head data := ⟨_, rfl⟩
  rw [← hT]
  have hTT : ((T.1, T.2) == (t1, t2)) = true := by rw [hT]; exact HNT.out
  have hTN : ((T.1, T.2) != (t1, t2)) = false := by rw [bne, hTT]; rfl
  clear hT
  replace hX := hX.kept hk5
  replace hS := hS.kept hk5
  have hk9 := Kept.of hk0 hk5
  go_wp2
  refine hK _ _ (hk5) ?_
  clear hK K
  try simp only [Act.put, List.setIfInBounds_toArray, List.set_cons_zero, List.set_cons_succ]
  repeat
    refine chain_light _ rfl (fun K hK => ?_)
    first
      | (refine (if_pos (by rfl)).mpr ?_; apply Exists.intro; refine ⟨fun w' hw' => ?_, hK _ ?_⟩; (go_simp; done); (clear hK K; simp only [Act.put, List.setIfInBounds_toArray, List.set_cons_zero, List.set_cons_succ]))
      | (refine (if_pos (by rfl)).mpr ?_; apply Exists.intro; refine ⟨fun w' hw' => ?_, hK _ ?_⟩; (go_simp; rfl); (clear hK K; simp only [Act.put, List.setIfInBounds_toArray, List.set_cons_zero, List.set_cons_succ]))
      | (refine (if_neg (by rw [Bool.not_eq_true]; rfl)).mpr ?_; refine hK _ ?_; (clear hK K; simp only [Act.put, List.setIfInBounds_toArray, List.set_cons_zero, List.set_cons_succ]))
  refine chain_nil ?_
  go_wp2_with fail
  refine wp_region_chainK [(0, 0), (1, 0), (2, 0), (3, 0), (4, 0), (5, 0), (6, 1), (7, 1), (8, 0), (9, 0)] (by kernel_rfl) (by kernel_rfl) ?_
  intro w6 hw6
  replace hX := hX.kept hw6
  replace hS := hS.kept hw6
  repeat
    refine chain_light _ rfl (fun K hK => ?_)
    first
      | (refine (if_pos (by rfl)).mpr ?_; apply Exists.intro; refine ⟨fun w' hw' => ?_, hK _ ?_⟩; (have c := hX.kept hw'; have c0 := c.cell 0; have c1 := c.cell 1; have c2 := c.cell 2; have d := hS.kept hw'; have d0 := d.cell 0; have d1 := d.cell 1; clear c d; go_simp; done); (clear hK K; simp only [Act.put, List.setIfInBounds_toArray, List.set_cons_zero, List.set_cons_succ]))
      | (refine (if_pos (by rfl)).mpr ?_; apply Exists.intro; refine ⟨fun w' hw' => ?_, hK _ ?_⟩; (have c := hX.kept hw'; have c0 := c.cell 0; have c1 := c.cell 1; have c2 := c.cell 2; have d := hS.kept hw'; have d0 := d.cell 0; have d1 := d.cell 1; clear c d; go_simp; rfl); (clear hK K; simp only [Act.put, List.setIfInBounds_toArray, List.set_cons_zero, List.set_cons_succ]))
      | (refine (if_neg (by rw [Bool.not_eq_true]; rfl)).mpr ?_; refine hK _ ?_; (clear hK K; simp only [Act.put, List.setIfInBounds_toArray, List.set_cons_zero, List.set_cons_succ]))
  refine chain_heavy _ rfl (fun K hK => ?_)
  refine (if_pos (by rfl)).mpr ?_
  go_wp2_with fail
  refine (fbytes_some _ _ D dl _).mono ?_
  rintro e w7 ⟨r7, rfl, o7, hk7⟩
  have sl7 : Sl w7 r7 (flowB (s.1, s.2) D).length (bcells (flowB (s.1, s.2) D)) := by rw [flowB_length]; exact Sl.of_own o7
  clear o7
  replace hX := hX.kept hk7
  replace hS := hS.kept hk7
  go_wp2
  refine hK _ _ (hk7) ?_
  clear hK K
  try simp only [Act.put, List.setIfInBounds_toArray, List.set_cons_zero, List.set_cons_succ]
  refine chain_heavy _ rfl (fun K hK => ?_)
  refine (if_pos (by rfl)).mpr ?_
  go_wp2_with fail
  refine (xor_any _ _ data (flowB (s.1, s.2) D) (by rw [← HD.out]; exact dl) (by rw [flowB_length]; exact dl) _ (hd1.kept ((hk9.of hw6).of hk7)) sl7).mono ?_
  rintro e w8 ⟨r8, rfl, o8, hk8⟩
  go_wp2
  refine hK _ _ (hk8) ?_
  clear hK K
  try simp only [Act.put, List.setIfInBounds_toArray, List.set_cons_zero, List.set_cons_succ]
  repeat
    refine chain_light _ rfl (fun K hK => ?_)
    first
      | (refine (if_pos (by rfl)).mpr ?_; apply Exists.intro; refine ⟨fun w' hw' => ?_, hK _ ?_⟩; (go_simp; done); (clear hK K; simp only [Act.put, List.setIfInBounds_toArray, List.set_cons_zero, List.set_cons_succ]))
      | (refine (if_pos (by rfl)).mpr ?_; apply Exists.intro; refine ⟨fun w' hw' => ?_, hK _ ?_⟩; (go_simp; rfl); (clear hK K; simp only [Act.put, List.setIfInBounds_toArray, List.set_cons_zero, List.set_cons_succ]))
      | (refine (if_neg (by rw [Bool.not_eq_true]; rfl)).mpr ?_; refine hK _ ?_; (clear hK K; simp only [Act.put, List.setIfInBounds_toArray, List.set_cons_zero, List.set_cons_succ]))
  refine chain_nil ?_
  have hcl : (xorB data (flowB (s.1, s.2) D)) = ciph (k1, k2) n data := by
    unfold ciph; rw [← HS.out, HD.out]
  have hln : (xorB data (flowB (s.1, s.2) D)).length = D := by rw [hcl, ciph_length, HD.out]
  rw [hcl] at hln
  rw [hcl] at o8
  have o9 := Sl.of_own o8
  rw [hln] at o9
  have HCL := Lib.hid hcl
  clear hcl hln o8
  go_wp2
  go_ret2
  exact ⟨_, rfl, o9, ((hk9.of hw6).of hk7).of hk8⟩

set_option maxRecDepth 100000 in
set_option maxHeartbeats 4000000 in
theorem ropen_yes (k1 k2 : BitVec 64) (n : Nn) (vh vd : Value) (head data : List UInt8) (t1 t2 : BitVec 64) (hl : head.length ≤ 4000) (dl : data.length ≤ 4000) (ht : (tag2 (sub2 (k1, k2) n) head data == (t1, t2)) = true) (w : World) (hh : Sl w vh head.length (bcells head)) (hd : Sl w vd data.length (bcells data)) :
    Calls Try.prog 16 #[.agg #[U k1, U k2], n.val, vh, .agg #[vd, U t1, U t2]] w fun e w' => ∃ u, e = .returned (.tuple #[u, .bool true]) ∧ Sl w' u data.length (bcells (ciph (k1, k2) n data)) ∧ Kept w w' := by
  obtain ⟨ha, hc, hv⟩ := hh.len
  subst hv
  obtain ⟨da, dc, hv⟩ := hd.len
  subst hv
  obtain ⟨H, hH⟩ : ∃ H, H = head.length := ⟨_, rfl⟩
  obtain ⟨D, hD⟩ : ∃ D, D = data.length := ⟨_, rfl⟩
  have hh1 : Sl w (.slice ha H hc) head.length (bcells head) := by rw [hH]; exact hh
  have hd1 : Sl w (.slice da D dc) data.length (bcells data) := by rw [hD]; exact hd
  rw [← hH] at hl ⊢
  rw [← hD] at dl ⊢
  have HH := Lib.hid hH
  have HD := Lib.hid hD
  clear hh hd hH hD
  have i0 : (H : Int) ≤ 4000 := by omega
  have i1 : (D : Int) ≤ 4000 := by omega
  unfold Nn.val
  have HT := Lib.hid ht
  clear ht
  have hk0 : Kept w (((w.alloc (.cells #[U k1, U k2] 24)).alloc (.cells #[W n.epoch, W n.slot, U n.version] 27)).alloc (.cells #[.slice da D dc, U t1, U t2] 30)) := (((Below.refl _ _).alloc (Nat.le_refl _) _).alloc (by simp) _).alloc (by simp; omega) _
  have hK : Blk (((w.alloc (.cells #[U k1, U k2] 24)).alloc (.cells #[W n.epoch, W n.slot, U n.version] 27)).alloc (.cells #[.slice da D dc, U t1, U t2] 30)) w.heap.size #[U k1, U k2] 24 := ((Blk.new _ _ _).alloc _).alloc _
  have hN : Blk (((w.alloc (.cells #[U k1, U k2] 24)).alloc (.cells #[W n.epoch, W n.slot, U n.version] 27)).alloc (.cells #[.slice da D dc, U t1, U t2] 30)) (w.heap.size + 1) #[W n.epoch, W n.slot, U n.version] 27 := Blk.alloc (by simpa using Blk.new (w.alloc (.cells #[U k1, U k2] 24)) #[W n.epoch, W n.slot, U n.version] 27) _
  have hX : Blk (((w.alloc (.cells #[U k1, U k2] 24)).alloc (.cells #[W n.epoch, W n.slot, U n.version] 27)).alloc (.cells #[.slice da D dc, U t1, U t2] 30)) (w.heap.size + 2) #[.slice da D dc, U t1, U t2] 30 := by simpa using Blk.new ((w.alloc (.cells #[U k1, U k2] 24)).alloc (.cells #[W n.epoch, W n.slot, U n.version] 27)) #[.slice da D dc, U t1, U t2] 30
  have q0 := hK.cell 0
  have q1 := hK.cell 1
  have n0 := hN.cell 0
  have n1 := hN.cell 1
  have n2 := hN.cell 2
  have x0 := hX.cell 0
  go_enter Try.func16, Try.ntmps16
  go_wp2_with fail
  generalize (((w.alloc (.cells #[U k1, U k2] 24)).alloc (.cells #[W n.epoch, W n.slot, U n.version] 27)).alloc (.cells #[.slice da D dc, U t1, U t2] 30)) = w0 at *
  refine (rsub_any _ _ n _).mono ?_
  rintro e w2 ⟨rfl, hk2⟩
  obtain ⟨s, hs⟩ : ∃ s, s = sub2 (k1, k2) n := ⟨_, rfl⟩
  rw [← hs]
  have hnt : (tag2 (s.1, s.2) head data == (t1, t2)) = true := by rw [hs]; exact HT.out
  have HS := Lib.hid hs
  have HNT := Lib.hid hnt
  have hS := Blk.new w2 #[U s.1, U s.2] 24
  have hk3 : Kept w0 (w2.alloc (.cells #[U s.1, U s.2] 24)) := Kept.of hk2 ((Below.refl _ _).alloc (Nat.le_refl _) _)
  replace hX := hX.kept hk3
  replace hk0 := Kept.of hk0 hk3
  clear q0 q1 n0 n1 n2 hs hnt hk2 hk3 hK hN x0
  go_wp2_with fail
  generalize w2.alloc (.cells #[U s.1, U s.2] 24) = w3 at *
  refine wp_region_chainK [(0, 0), (1, 0), (2, 0), (3, 0), (5, 0), (6, 0), (4, 1), (7, 0)] (by kernel_rfl) (by kernel_rfl) ?_
  intro w4 hw4
  replace hX := hX.kept hw4
  replace hS := hS.kept hw4
  replace hk0 := Kept.of hk0 hw4
  clear hw4
  repeat
    refine chain_light _ rfl (fun K hK => ?_)
    first
      | (refine (if_pos (by rfl)).mpr ?_; apply Exists.intro; refine ⟨fun w' hw' => ?_, hK _ ?_⟩; (have c := hX.kept hw'; have c0 := c.cell 0; have c1 := c.cell 1; have c2 := c.cell 2; have d := hS.kept hw'; have d0 := d.cell 0; have d1 := d.cell 1; clear c d; go_simp; done); (clear hK K; simp only [Act.put, List.setIfInBounds_toArray, List.set_cons_zero, List.set_cons_succ]))
      | (refine (if_pos (by rfl)).mpr ?_; apply Exists.intro; refine ⟨fun w' hw' => ?_, hK _ ?_⟩; (have c := hX.kept hw'; have c0 := c.cell 0; have c1 := c.cell 1; have c2 := c.cell 2; have d := hS.kept hw'; have d0 := d.cell 0; have d1 := d.cell 1; clear c d; go_simp; rfl); (clear hK K; simp only [Act.put, List.setIfInBounds_toArray, List.set_cons_zero, List.set_cons_succ]))
      | (refine (if_neg (by rw [Bool.not_eq_true]; rfl)).mpr ?_; refine hK _ ?_; (clear hK K; simp only [Act.put, List.setIfInBounds_toArray, List.set_cons_zero, List.set_cons_succ]))
  refine chain_heavy _ rfl (fun K hK => ?_)
  refine (if_pos (by rfl)).mpr ?_
  go_wp2_with fail
  refine (rtag_any _ _ _ _ head data (by rw [← HH.out]; exact hl) (by rw [← HD.out]; exact dl) _ (hh1.kept hk0) (hd1.kept hk0)).mono ?_
  rintro e w5 ⟨rfl, hk5⟩
  obtain ⟨T, hT⟩ : ∃ T, T = tag2 (s.1, s.2) head data := ⟨_, rfl⟩
  rw [← hT]
  have hTT : ((T.1, T.2) == (t1, t2)) = true := by rw [hT]; exact HNT.out
  have hTN : ((T.1, T.2) != (t1, t2)) = false := by rw [bne, hTT]; rfl
  clear hT
  replace hX := hX.kept hk5
  replace hS := hS.kept hk5
  have hk9 := Kept.of hk0 hk5
  go_wp2
  refine hK _ _ (hk5) ?_
  clear hK K
  try simp only [Act.put, List.setIfInBounds_toArray, List.set_cons_zero, List.set_cons_succ]
  repeat
    refine chain_light _ rfl (fun K hK => ?_)
    first
      | (refine (if_pos (by rfl)).mpr ?_; apply Exists.intro; refine ⟨fun w' hw' => ?_, hK _ ?_⟩; (go_simp; done); (clear hK K; simp only [Act.put, List.setIfInBounds_toArray, List.set_cons_zero, List.set_cons_succ]))
      | (refine (if_pos (by rfl)).mpr ?_; apply Exists.intro; refine ⟨fun w' hw' => ?_, hK _ ?_⟩; (go_simp; rfl); (clear hK K; simp only [Act.put, List.setIfInBounds_toArray, List.set_cons_zero, List.set_cons_succ]))
      | (refine (if_neg (by rw [Bool.not_eq_true]; rfl)).mpr ?_; refine hK _ ?_; (clear hK K; simp only [Act.put, List.setIfInBounds_toArray, List.set_cons_zero, List.set_cons_succ]))
  refine chain_nil ?_
  go_wp2_with fail
  refine wp_region_chainK [(0, 0), (1, 0), (2, 0), (3, 0), (4, 0), (5, 0), (6, 1), (7, 1), (8, 0), (9, 0)] (by kernel_rfl) (by kernel_rfl) ?_
  intro w6 hw6
  replace hX := hX.kept hw6
  replace hS := hS.kept hw6
  repeat
    refine chain_light _ rfl (fun K hK => ?_)
    first
      | (refine (if_pos (by rfl)).mpr ?_; apply Exists.intro; refine ⟨fun w' hw' => ?_, hK _ ?_⟩; (have c := hX.kept hw'; have c0 := c.cell 0; have c1 := c.cell 1; have c2 := c.cell 2; have d := hS.kept hw'; have d0 := d.cell 0; have d1 := d.cell 1; clear c d; go_simp; done); (clear hK K; simp only [Act.put, List.setIfInBounds_toArray, List.set_cons_zero, List.set_cons_succ]))
      | (refine (if_pos (by rfl)).mpr ?_; apply Exists.intro; refine ⟨fun w' hw' => ?_, hK _ ?_⟩; (have c := hX.kept hw'; have c0 := c.cell 0; have c1 := c.cell 1; have c2 := c.cell 2; have d := hS.kept hw'; have d0 := d.cell 0; have d1 := d.cell 1; clear c d; go_simp; rfl); (clear hK K; simp only [Act.put, List.setIfInBounds_toArray, List.set_cons_zero, List.set_cons_succ]))
      | (refine (if_neg (by rw [Bool.not_eq_true]; rfl)).mpr ?_; refine hK _ ?_; (clear hK K; simp only [Act.put, List.setIfInBounds_toArray, List.set_cons_zero, List.set_cons_succ]))
  refine chain_heavy _ rfl (fun K hK => ?_)
  refine (if_pos (by rfl)).mpr ?_
  go_wp2_with fail
  refine (rfbytes_some _ _ D dl _).mono ?_
  rintro e w7 ⟨r7, rfl, o7, hk7⟩
  have sl7 : Sl w7 r7 (flowB (s.1, s.2) D).length (bcells (flowB (s.1, s.2) D)) := by rw [flowB_length]; exact Sl.of_own o7
  clear o7
  replace hX := hX.kept hk7
  replace hS := hS.kept hk7
  go_wp2
  refine hK _ _ (hk7) ?_
  clear hK K
  try simp only [Act.put, List.setIfInBounds_toArray, List.set_cons_zero, List.set_cons_succ]
  refine chain_heavy _ rfl (fun K hK => ?_)
  refine (if_pos (by rfl)).mpr ?_
  go_wp2_with fail
  refine (rxor_any _ _ data (flowB (s.1, s.2) D) (by rw [← HD.out]; exact dl) (by rw [flowB_length]; exact dl) _ (hd1.kept ((hk9.of hw6).of hk7)) sl7).mono ?_
  rintro e w8 ⟨r8, rfl, o8, hk8⟩
  go_wp2
  refine hK _ _ (hk8) ?_
  clear hK K
  try simp only [Act.put, List.setIfInBounds_toArray, List.set_cons_zero, List.set_cons_succ]
  repeat
    refine chain_light _ rfl (fun K hK => ?_)
    first
      | (refine (if_pos (by rfl)).mpr ?_; apply Exists.intro; refine ⟨fun w' hw' => ?_, hK _ ?_⟩; (go_simp; done); (clear hK K; simp only [Act.put, List.setIfInBounds_toArray, List.set_cons_zero, List.set_cons_succ]))
      | (refine (if_pos (by rfl)).mpr ?_; apply Exists.intro; refine ⟨fun w' hw' => ?_, hK _ ?_⟩; (go_simp; rfl); (clear hK K; simp only [Act.put, List.setIfInBounds_toArray, List.set_cons_zero, List.set_cons_succ]))
      | (refine (if_neg (by rw [Bool.not_eq_true]; rfl)).mpr ?_; refine hK _ ?_; (clear hK K; simp only [Act.put, List.setIfInBounds_toArray, List.set_cons_zero, List.set_cons_succ]))
  refine chain_nil ?_
  have hcl : (xorB data (flowB (s.1, s.2) D)) = ciph (k1, k2) n data := by
    unfold ciph; rw [← HS.out, HD.out]
  have hln : (xorB data (flowB (s.1, s.2) D)).length = D := by rw [hcl, ciph_length, HD.out]
  rw [hcl] at hln
  rw [hcl] at o8
  have o9 := Sl.of_own o8
  rw [hln] at o9
  have HCL := Lib.hid hcl
  clear hcl hln o8
  go_wp2
  go_ret2
  exact ⟨_, rfl, o9, ((hk9.of hw6).of hk7).of hk8⟩

set_option maxRecDepth 100000 in
set_option maxHeartbeats 4000000 in
theorem open_no (k1 k2 : BitVec 64) (n : Nn) (vh vd : Value) (head data : List UInt8) (t1 t2 : BitVec 64) (hl : head.length ≤ 4000) (dl : data.length ≤ 4000) (ht : (tag2 (sub2 (k1, k2) n) head data == (t1, t2)) = false) (w : World) (hh : Sl w vh head.length (bcells head)) (hd : Sl w vd data.length (bcells data)) :
    Calls Try.prog 15 #[.agg #[U k1, U k2], n.val, vh, .agg #[vd, U t1, U t2]] w fun e w' => e = .returned (.tuple #[.slice none 0 0, .bool false]) ∧ Kept w w' := by
  obtain ⟨ha, hc, hv⟩ := hh.len
  subst hv
  obtain ⟨da, dc, hv⟩ := hd.len
  subst hv
  obtain ⟨H, hH⟩ : ∃ H, H = head.length := ⟨_, rfl⟩
  obtain ⟨D, hD⟩ : ∃ D, D = data.length := ⟨_, rfl⟩
  have hh1 : Sl w (.slice ha H hc) head.length (bcells head) := by rw [hH]; exact hh
  have hd1 : Sl w (.slice da D dc) data.length (bcells data) := by rw [hD]; exact hd
  rw [← hH] at hl ⊢
  rw [← hD] at dl ⊢
  have HH := Lib.hid hH
  have HD := Lib.hid hD
  clear hh hd hH hD
  have i0 : (H : Int) ≤ 4000 := by omega
  have i1 : (D : Int) ≤ 4000 := by omega
  unfold Nn.val
  have HT := Lib.hid ht
  clear ht
  have hk0 : Kept w (((w.alloc (.cells #[U k1, U k2] 24)).alloc (.cells #[W n.epoch, W n.slot, U n.version] 27)).alloc (.cells #[.slice da D dc, U t1, U t2] 30)) := (((Below.refl _ _).alloc (Nat.le_refl _) _).alloc (by simp) _).alloc (by simp; omega) _
  have hK : Blk (((w.alloc (.cells #[U k1, U k2] 24)).alloc (.cells #[W n.epoch, W n.slot, U n.version] 27)).alloc (.cells #[.slice da D dc, U t1, U t2] 30)) w.heap.size #[U k1, U k2] 24 := ((Blk.new _ _ _).alloc _).alloc _
  have hN : Blk (((w.alloc (.cells #[U k1, U k2] 24)).alloc (.cells #[W n.epoch, W n.slot, U n.version] 27)).alloc (.cells #[.slice da D dc, U t1, U t2] 30)) (w.heap.size + 1) #[W n.epoch, W n.slot, U n.version] 27 := Blk.alloc (by simpa using Blk.new (w.alloc (.cells #[U k1, U k2] 24)) #[W n.epoch, W n.slot, U n.version] 27) _
  have hX : Blk (((w.alloc (.cells #[U k1, U k2] 24)).alloc (.cells #[W n.epoch, W n.slot, U n.version] 27)).alloc (.cells #[.slice da D dc, U t1, U t2] 30)) (w.heap.size + 2) #[.slice da D dc, U t1, U t2] 30 := by simpa using Blk.new ((w.alloc (.cells #[U k1, U k2] 24)).alloc (.cells #[W n.epoch, W n.slot, U n.version] 27)) #[.slice da D dc, U t1, U t2] 30
  have q0 := hK.cell 0
  have q1 := hK.cell 1
  have n0 := hN.cell 0
  have n1 := hN.cell 1
  have n2 := hN.cell 2
  have x0 := hX.cell 0
  go_enter Try.func15, Try.ntmps15
  go_wp2_with fail
  generalize (((w.alloc (.cells #[U k1, U k2] 24)).alloc (.cells #[W n.epoch, W n.slot, U n.version] 27)).alloc (.cells #[.slice da D dc, U t1, U t2] 30)) = w0 at *
  refine (sub_any _ _ n _).mono ?_
  rintro e w2 ⟨rfl, hk2⟩
  obtain ⟨s, hs⟩ : ∃ s, s = sub2 (k1, k2) n := ⟨_, rfl⟩
  rw [← hs]
  have hnt : (tag2 (s.1, s.2) head data == (t1, t2)) = false := by rw [hs]; exact HT.out
  have HS := Lib.hid hs
  have HNT := Lib.hid hnt
  have hS := Blk.new w2 #[U s.1, U s.2] 24
  have hk3 : Kept w0 (w2.alloc (.cells #[U s.1, U s.2] 24)) := Kept.of hk2 ((Below.refl _ _).alloc (Nat.le_refl _) _)
  replace hX := hX.kept hk3
  replace hk0 := Kept.of hk0 hk3
  clear q0 q1 n0 n1 n2 hs hnt hk2 hk3 hK hN x0
  go_wp2_with fail
  generalize w2.alloc (.cells #[U s.1, U s.2] 24) = w3 at *
  refine wp_region_chainK [(0, 0), (1, 0), (2, 0), (3, 1), (4, 0), (5, 0), (6, 0), (7, 0), (8, 0), (9, 0), (11, 0), (12, 0), (10, 1), (13, 0), (14, 0)] (by kernel_rfl) (by kernel_rfl) ?_
  intro w4 hw4
  replace hX := hX.kept hw4
  replace hS := hS.kept hw4
  replace hk0 := Kept.of hk0 hw4
  clear hw4
  repeat
    refine chain_light _ rfl (fun K hK => ?_)
    first
      | (refine (if_pos (by rfl)).mpr ?_; apply Exists.intro; refine ⟨fun w' hw' => ?_, hK _ ?_⟩; (have c := hX.kept hw'; have c0 := c.cell 0; have c1 := c.cell 1; have c2 := c.cell 2; have d := hS.kept hw'; have d0 := d.cell 0; have d1 := d.cell 1; clear c d; go_simp; done); (clear hK K; simp only [Act.put, List.setIfInBounds_toArray, List.set_cons_zero, List.set_cons_succ]))
      | (refine (if_pos (by rfl)).mpr ?_; apply Exists.intro; refine ⟨fun w' hw' => ?_, hK _ ?_⟩; (have c := hX.kept hw'; have c0 := c.cell 0; have c1 := c.cell 1; have c2 := c.cell 2; have d := hS.kept hw'; have d0 := d.cell 0; have d1 := d.cell 1; clear c d; go_simp; rfl); (clear hK K; simp only [Act.put, List.setIfInBounds_toArray, List.set_cons_zero, List.set_cons_succ]))
      | (refine (if_neg (by rw [Bool.not_eq_true]; rfl)).mpr ?_; refine hK _ ?_; (clear hK K; simp only [Act.put, List.setIfInBounds_toArray, List.set_cons_zero, List.set_cons_succ]))
  refine chain_heavy _ rfl (fun K hK => ?_)
  refine (if_pos (by rfl)).mpr ?_
  go_wp2_with fail
  refine (may_any _ _ H D _ _ _ (by rw [HH.out]; rw [HH.out] at hh1; exact hh1.kept hk0) (by rw [HD.out]; rw [HD.out] at hd1; exact hd1.kept hk0)).mono ?_
  rintro e w5 ⟨rfl, rfl⟩
  rw [decide_eq_true hl, decide_eq_true dl]
  go_wp2
  refine hK _ _ (Below.refl _ _) ?_
  clear hK K
  try simp only [Act.put, List.setIfInBounds_toArray, List.set_cons_zero, List.set_cons_succ]
  repeat
    refine chain_light _ rfl (fun K hK => ?_)
    first
      | (refine (if_pos (by rfl)).mpr ?_; apply Exists.intro; refine ⟨fun w' hw' => ?_, hK _ ?_⟩; (have c := hX.kept hw'; have c0 := c.cell 0; have c1 := c.cell 1; have c2 := c.cell 2; have d := hS.kept hw'; have d0 := d.cell 0; have d1 := d.cell 1; clear c d; go_simp; done); (clear hK K; simp only [Act.put, List.setIfInBounds_toArray, List.set_cons_zero, List.set_cons_succ]))
      | (refine (if_pos (by rfl)).mpr ?_; apply Exists.intro; refine ⟨fun w' hw' => ?_, hK _ ?_⟩; (have c := hX.kept hw'; have c0 := c.cell 0; have c1 := c.cell 1; have c2 := c.cell 2; have d := hS.kept hw'; have d0 := d.cell 0; have d1 := d.cell 1; clear c d; go_simp; rfl); (clear hK K; simp only [Act.put, List.setIfInBounds_toArray, List.set_cons_zero, List.set_cons_succ]))
      | (refine (if_neg (by rw [Bool.not_eq_true]; rfl)).mpr ?_; refine hK _ ?_; (clear hK K; simp only [Act.put, List.setIfInBounds_toArray, List.set_cons_zero, List.set_cons_succ]))
  refine chain_heavy _ rfl (fun K hK => ?_)
  refine (if_pos (by rfl)).mpr ?_
  go_wp2_with fail
  refine (tag_any _ _ _ _ head data (by rw [← HH.out]; exact hl) (by rw [← HD.out]; exact dl) _ (hh1.kept hk0) (hd1.kept hk0)).mono ?_
  rintro e w5 ⟨rfl, hk5⟩
  obtain ⟨T, hT⟩ : ∃ T, T = tag2 (s.1, s.2) head data := ⟨_, rfl⟩
  rw [← hT]
  have hTT : ((T.1, T.2) == (t1, t2)) = false := by rw [hT]; exact HNT.out
  have hTN : ((T.1, T.2) != (t1, t2)) = true := by rw [bne, hTT]; rfl
  clear hT
  replace hX := hX.kept hk5
  replace hS := hS.kept hk5
  have hk9 := Kept.of hk0 hk5
  go_wp2
  refine hK _ _ (hk5) ?_
  clear hK K
  try simp only [Act.put, List.setIfInBounds_toArray, List.set_cons_zero, List.set_cons_succ]
  repeat
    refine chain_light _ rfl (fun K hK => ?_)
    first
      | (refine (if_pos (by rfl)).mpr ?_; apply Exists.intro; refine ⟨fun w' hw' => ?_, hK _ ?_⟩; (go_simp; done); (clear hK K; simp only [Act.put, List.setIfInBounds_toArray, List.set_cons_zero, List.set_cons_succ]))
      | (refine (if_pos (by rfl)).mpr ?_; apply Exists.intro; refine ⟨fun w' hw' => ?_, hK _ ?_⟩; (go_simp; rfl); (clear hK K; simp only [Act.put, List.setIfInBounds_toArray, List.set_cons_zero, List.set_cons_succ]))
      | (refine (if_neg (by rw [Bool.not_eq_true]; rfl)).mpr ?_; refine hK _ ?_; (clear hK K; simp only [Act.put, List.setIfInBounds_toArray, List.set_cons_zero, List.set_cons_succ]))
  refine chain_nil ?_
  go_wp2
  go_ret2
  exact ⟨rfl, hk9⟩

set_option maxRecDepth 100000 in
set_option maxHeartbeats 4000000 in
theorem ropen_no (k1 k2 : BitVec 64) (n : Nn) (vh vd : Value) (head data : List UInt8) (t1 t2 : BitVec 64) (hl : head.length ≤ 4000) (dl : data.length ≤ 4000) (ht : (tag2 (sub2 (k1, k2) n) head data == (t1, t2)) = false) (w : World) (hh : Sl w vh head.length (bcells head)) (hd : Sl w vd data.length (bcells data)) :
    Calls Try.prog 16 #[.agg #[U k1, U k2], n.val, vh, .agg #[vd, U t1, U t2]] w fun e w' => e = .returned (.tuple #[.slice none 0 0, .bool false]) ∧ Kept w w' := by
  obtain ⟨ha, hc, hv⟩ := hh.len
  subst hv
  obtain ⟨da, dc, hv⟩ := hd.len
  subst hv
  obtain ⟨H, hH⟩ : ∃ H, H = head.length := ⟨_, rfl⟩
  obtain ⟨D, hD⟩ : ∃ D, D = data.length := ⟨_, rfl⟩
  have hh1 : Sl w (.slice ha H hc) head.length (bcells head) := by rw [hH]; exact hh
  have hd1 : Sl w (.slice da D dc) data.length (bcells data) := by rw [hD]; exact hd
  rw [← hH] at hl ⊢
  rw [← hD] at dl ⊢
  have HH := Lib.hid hH
  have HD := Lib.hid hD
  clear hh hd hH hD
  have i0 : (H : Int) ≤ 4000 := by omega
  have i1 : (D : Int) ≤ 4000 := by omega
  unfold Nn.val
  have HT := Lib.hid ht
  clear ht
  have hk0 : Kept w (((w.alloc (.cells #[U k1, U k2] 24)).alloc (.cells #[W n.epoch, W n.slot, U n.version] 27)).alloc (.cells #[.slice da D dc, U t1, U t2] 30)) := (((Below.refl _ _).alloc (Nat.le_refl _) _).alloc (by simp) _).alloc (by simp; omega) _
  have hK : Blk (((w.alloc (.cells #[U k1, U k2] 24)).alloc (.cells #[W n.epoch, W n.slot, U n.version] 27)).alloc (.cells #[.slice da D dc, U t1, U t2] 30)) w.heap.size #[U k1, U k2] 24 := ((Blk.new _ _ _).alloc _).alloc _
  have hN : Blk (((w.alloc (.cells #[U k1, U k2] 24)).alloc (.cells #[W n.epoch, W n.slot, U n.version] 27)).alloc (.cells #[.slice da D dc, U t1, U t2] 30)) (w.heap.size + 1) #[W n.epoch, W n.slot, U n.version] 27 := Blk.alloc (by simpa using Blk.new (w.alloc (.cells #[U k1, U k2] 24)) #[W n.epoch, W n.slot, U n.version] 27) _
  have hX : Blk (((w.alloc (.cells #[U k1, U k2] 24)).alloc (.cells #[W n.epoch, W n.slot, U n.version] 27)).alloc (.cells #[.slice da D dc, U t1, U t2] 30)) (w.heap.size + 2) #[.slice da D dc, U t1, U t2] 30 := by simpa using Blk.new ((w.alloc (.cells #[U k1, U k2] 24)).alloc (.cells #[W n.epoch, W n.slot, U n.version] 27)) #[.slice da D dc, U t1, U t2] 30
  have q0 := hK.cell 0
  have q1 := hK.cell 1
  have n0 := hN.cell 0
  have n1 := hN.cell 1
  have n2 := hN.cell 2
  have x0 := hX.cell 0
  go_enter Try.func16, Try.ntmps16
  go_wp2_with fail
  generalize (((w.alloc (.cells #[U k1, U k2] 24)).alloc (.cells #[W n.epoch, W n.slot, U n.version] 27)).alloc (.cells #[.slice da D dc, U t1, U t2] 30)) = w0 at *
  refine (rsub_any _ _ n _).mono ?_
  rintro e w2 ⟨rfl, hk2⟩
  obtain ⟨s, hs⟩ : ∃ s, s = sub2 (k1, k2) n := ⟨_, rfl⟩
  rw [← hs]
  have hnt : (tag2 (s.1, s.2) head data == (t1, t2)) = false := by rw [hs]; exact HT.out
  have HS := Lib.hid hs
  have HNT := Lib.hid hnt
  have hS := Blk.new w2 #[U s.1, U s.2] 24
  have hk3 : Kept w0 (w2.alloc (.cells #[U s.1, U s.2] 24)) := Kept.of hk2 ((Below.refl _ _).alloc (Nat.le_refl _) _)
  replace hX := hX.kept hk3
  replace hk0 := Kept.of hk0 hk3
  clear q0 q1 n0 n1 n2 hs hnt hk2 hk3 hK hN x0
  go_wp2_with fail
  generalize w2.alloc (.cells #[U s.1, U s.2] 24) = w3 at *
  refine wp_region_chainK [(0, 0), (1, 0), (2, 0), (3, 0), (5, 0), (6, 0), (4, 1), (7, 0)] (by kernel_rfl) (by kernel_rfl) ?_
  intro w4 hw4
  replace hX := hX.kept hw4
  replace hS := hS.kept hw4
  replace hk0 := Kept.of hk0 hw4
  clear hw4
  repeat
    refine chain_light _ rfl (fun K hK => ?_)
    first
      | (refine (if_pos (by rfl)).mpr ?_; apply Exists.intro; refine ⟨fun w' hw' => ?_, hK _ ?_⟩; (have c := hX.kept hw'; have c0 := c.cell 0; have c1 := c.cell 1; have c2 := c.cell 2; have d := hS.kept hw'; have d0 := d.cell 0; have d1 := d.cell 1; clear c d; go_simp; done); (clear hK K; simp only [Act.put, List.setIfInBounds_toArray, List.set_cons_zero, List.set_cons_succ]))
      | (refine (if_pos (by rfl)).mpr ?_; apply Exists.intro; refine ⟨fun w' hw' => ?_, hK _ ?_⟩; (have c := hX.kept hw'; have c0 := c.cell 0; have c1 := c.cell 1; have c2 := c.cell 2; have d := hS.kept hw'; have d0 := d.cell 0; have d1 := d.cell 1; clear c d; go_simp; rfl); (clear hK K; simp only [Act.put, List.setIfInBounds_toArray, List.set_cons_zero, List.set_cons_succ]))
      | (refine (if_neg (by rw [Bool.not_eq_true]; rfl)).mpr ?_; refine hK _ ?_; (clear hK K; simp only [Act.put, List.setIfInBounds_toArray, List.set_cons_zero, List.set_cons_succ]))
  refine chain_heavy _ rfl (fun K hK => ?_)
  refine (if_pos (by rfl)).mpr ?_
  go_wp2_with fail
  refine (rtag_any _ _ _ _ head data (by rw [← HH.out]; exact hl) (by rw [← HD.out]; exact dl) _ (hh1.kept hk0) (hd1.kept hk0)).mono ?_
  rintro e w5 ⟨rfl, hk5⟩
  obtain ⟨T, hT⟩ : ∃ T, T = tag2 (s.1, s.2) head data := ⟨_, rfl⟩
  rw [← hT]
  have hTT : ((T.1, T.2) == (t1, t2)) = false := by rw [hT]; exact HNT.out
  have hTN : ((T.1, T.2) != (t1, t2)) = true := by rw [bne, hTT]; rfl
  clear hT
  replace hX := hX.kept hk5
  replace hS := hS.kept hk5
  have hk9 := Kept.of hk0 hk5
  go_wp2
  refine hK _ _ (hk5) ?_
  clear hK K
  try simp only [Act.put, List.setIfInBounds_toArray, List.set_cons_zero, List.set_cons_succ]
  repeat
    refine chain_light _ rfl (fun K hK => ?_)
    first
      | (refine (if_pos (by rfl)).mpr ?_; apply Exists.intro; refine ⟨fun w' hw' => ?_, hK _ ?_⟩; (go_simp; done); (clear hK K; simp only [Act.put, List.setIfInBounds_toArray, List.set_cons_zero, List.set_cons_succ]))
      | (refine (if_pos (by rfl)).mpr ?_; apply Exists.intro; refine ⟨fun w' hw' => ?_, hK _ ?_⟩; (go_simp; rfl); (clear hK K; simp only [Act.put, List.setIfInBounds_toArray, List.set_cons_zero, List.set_cons_succ]))
      | (refine (if_neg (by rw [Bool.not_eq_true]; rfl)).mpr ?_; refine hK _ ?_; (clear hK K; simp only [Act.put, List.setIfInBounds_toArray, List.set_cons_zero, List.set_cons_succ]))
  refine chain_nil ?_
  go_wp2
  go_ret2
  exact ⟨rfl, hk9⟩


end Go.Proofs.Ytlbogmpfjkendaa
