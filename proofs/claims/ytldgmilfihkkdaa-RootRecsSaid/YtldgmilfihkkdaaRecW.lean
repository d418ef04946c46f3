/- What root.PutRec and its reference compute. -/
import Derived.Test.YtldgmilfihkkdaaRecD
import Derived.Test.YtldgmilfihkkdaaRootEq
namespace Go.Proofs.Ytldgmilfihkkdaa
open Go Go.RowKit

@[go_sem] theorem recW_neq (t : TypeId) (x y : BitVec 32) : binOp .neq t (W x) (W y) = pure (.bool (x != y)) := (binOp_neq ..).trans (by
  have : ((x.toNat : Int) == (y.toNat : Int)) = (x == y) := by
    rw [Bool.eq_iff_iff, beq_iff_eq, beq_iff_eq]
    exact ⟨fun h => BitVec.eq_of_toNat_eq (by omega), fun h => by rw [h]⟩
  rw [bne, this]; rfl)
set_option maxRecDepth 100000 in
set_option maxHeartbeats 4000000 in
theorem putrec_some (n : Nn) (t1 t2 : BitVec 64) (vb : Value) (bs : List UInt8) (hl : bs.length = 32) (hs : n.slot = 65535#32) (w : World) (h : Sl w vb bs.length (bcells bs)) : Calls Try.prog 12 #[n.val, .agg #[vb, U t1, U t2]] w fun e' w' => ∃ b, e' = .returned (.tuple #[b, .bool true]) ∧ w'.ownsRow w.heap.size 5 1 b 60 (bcells (recB n bs (t1, t2))) ∧ Kept w w' := by
  obtain ⟨sa, sc, hvb⟩ := h.len
  subst hvb
  rw [hl] at h ⊢
  unfold Nn.val
  have hk0 : Kept w ((w.alloc (.cells #[W n.epoch, W n.slot, U n.version] 38)).alloc (.cells #[.slice sa 32 sc, U t1, U t2] 40)) := ((Below.refl _ _).alloc (Nat.le_refl _) _).alloc (by simp) _
  have hN : Blk ((w.alloc (.cells #[W n.epoch, W n.slot, U n.version] 38)).alloc (.cells #[.slice sa 32 sc, U t1, U t2] 40)) w.heap.size #[W n.epoch, W n.slot, U n.version] 38 := (Blk.new _ _ _).alloc _
  have hS : Blk ((w.alloc (.cells #[W n.epoch, W n.slot, U n.version] 38)).alloc (.cells #[.slice sa 32 sc, U t1, U t2] 40)) (w.heap.size + 1) #[.slice sa 32 sc, U t1, U t2] 40 := by simpa using Blk.new (w.alloc (.cells #[W n.epoch, W n.slot, U n.version] 38)) #[.slice sa 32 sc, U t1, U t2] 40
  have sb := h.kept hk0
  have hss : (n.slot != 65535#32) = false := by rw [hs]; rfl
  have n0 := hN.cell 0
  have n1 := hN.cell 1
  have n2 := hN.cell 2
  have q0 := hS.cell 0
  have q1 := hS.cell 1
  have q2 := hS.cell 2
  have HL := Lib.hid hl
  have HS := Lib.hid hs
  clear hl hs h
  go_enter Try.func12, Try.ntmps12
  go_wp2_with fail
  clear n0 n1 n2 q0 q1 q2
  refine wp_region_chainK [(0, 0), (1, 0), (2, 0), (4, 0), (5, 0), (7, 0), (8, 0), (9, 0), (10, 0), (3, 1), (6, 1), (11, 1), (12, 1), (13, 1), (14, 0), (15, 0)] (by kernel_rfl) (by kernel_rfl) ?_
  intro w1 hw1
  replace hN := hN.kept hw1
  replace hS := hS.kept hw1
  replace sb := sb.kept hw1
  repeat
    refine chain_light _ rfl (fun K hK => ?_)
    first
      | (refine (if_pos (by rfl)).mpr ?_; apply Exists.intro; refine ⟨fun w' hw' => ?_, hK _ ?_⟩; (have c := hN.kept hw'; have n0 := c.cell 0; have n1 := c.cell 1; have n2 := c.cell 2; clear c; have d := hS.kept hw'; have q0 := d.cell 0; have q1 := d.cell 1; have q2 := d.cell 2; clear d; go_simp; done); (clear hK K; simp only [Act.put, List.setIfInBounds_toArray, List.set_cons_zero, List.set_cons_succ]))
      | (refine (if_pos (by rfl)).mpr ?_; apply Exists.intro; refine ⟨fun w' hw' => ?_, hK _ ?_⟩; (have c := hN.kept hw'; have n0 := c.cell 0; have n1 := c.cell 1; have n2 := c.cell 2; clear c; have d := hS.kept hw'; have q0 := d.cell 0; have q1 := d.cell 1; have q2 := d.cell 2; clear d; go_simp; rfl); (clear hK K; simp only [Act.put, List.setIfInBounds_toArray, List.set_cons_zero, List.set_cons_succ]))
      | (refine (if_neg (by rw [Bool.not_eq_true]; rfl)).mpr ?_; refine hK _ ?_; (clear hK K; simp only [Act.put, List.setIfInBounds_toArray, List.set_cons_zero, List.set_cons_succ]))
  refine chain_heavy _ rfl (fun K hK => ?_)
  refine (if_pos (by rfl)).mpr ?_
  go_wp2_with fail
  refine (put_some _ 4 (by omega) (by omega) _).mono ?_
  rintro e w2 ⟨x2, rfl, hown2, hk2⟩
  obtain ⟨a2, c2, he2⟩ := (Sl.of_own hown2).len
  subst he2
  have s2 := Sl.of_own hown2
  clear hown2
  replace hN := hN.kept hk2
  replace hS := hS.kept hk2
  replace sb := sb.kept hk2
  go_wp2
  refine hK _ _ (hk2) ?_
  clear hK K
  try simp only [Act.put, List.setIfInBounds_toArray, List.set_cons_zero, List.set_cons_succ]
  refine chain_heavy _ rfl (fun K hK => ?_)
  refine (if_pos (by rfl)).mpr ?_
  go_wp2_with fail
  refine (put_some _ 8 (by omega) (by omega) _).mono ?_
  rintro e w3 ⟨x3, rfl, hown3, hk3⟩
  obtain ⟨a3, c3, he3⟩ := (Sl.of_own hown3).len
  subst he3
  have s3 := Sl.of_own hown3
  clear hown3
  replace hN := hN.kept hk3
  replace hS := hS.kept hk3
  replace sb := sb.kept hk3
  replace s2 := s2.kept hk3
  go_wp2
  refine hK _ _ (hk3) ?_
  clear hK K
  try simp only [Act.put, List.setIfInBounds_toArray, List.set_cons_zero, List.set_cons_succ]
  refine chain_heavy _ rfl (fun K hK => ?_)
  refine (if_pos (by rfl)).mpr ?_
  go_wp2_with fail
  refine (bytes_any _ _ _).mono ?_
  rintro e w4 ⟨x4, rfl, hown4, hk4⟩
  obtain ⟨a4, c4, he4⟩ := (Sl.of_own hown4).len
  subst he4
  have s4 := Sl.of_own hown4
  clear hown4
  replace hN := hN.kept hk4
  replace hS := hS.kept hk4
  replace sb := sb.kept hk4
  replace s2 := s2.kept hk4
  replace s3 := s3.kept hk4
  go_wp2
  refine hK _ _ (hk4) ?_
  clear hK K
  try simp only [Act.put, List.setIfInBounds_toArray, List.set_cons_zero, List.set_cons_succ]
  refine chain_heavy _ rfl (fun K hK => ?_)
  refine (if_pos (by rfl)).mpr ?_
  go_wp2
  refine hK _ _ ((Below.refl _ _).alloc (Nat.le_refl _) _) ?_
  clear hK K
  try simp only [Act.put, List.setIfInBounds_toArray, List.set_cons_zero, List.set_cons_succ]
  refine chain_heavy _ rfl (fun K hK => ?_)
  refine (if_pos (by rfl)).mpr ?_
  go_wp2_with fail
  refine (concat_any _ [putB (n.epoch.setWidth 64) 4, putB n.version 8, bs, pairB (t1, t2)] (by simp) (by simp [putB_length, pairB_length, HL.out]) _ (RowsSl.lit (us := [.slice a2 4 c2, .slice a3 8 c3, .slice sa 32 sc, .slice a4 16 c4]) (.cons (by rw [putB_length]; exact s2) (.cons (by rw [putB_length]; exact s3) (.cons (by rw [HL.out]; exact sb) (.cons (by rw [pairB_length]; exact s4) .nil)))) 28 4 rfl (by decide))).mono ?_
  rintro e w6 ⟨x6, rfl, hown6, hk6⟩
  go_wp2
  refine hK _ _ (hk6) ?_
  clear hK K
  try simp only [Act.put, List.setIfInBounds_toArray, List.set_cons_zero, List.set_cons_succ]
  repeat
    refine chain_light _ rfl (fun K hK => ?_)
    first
      | (refine (if_pos (by rfl)).mpr ?_; apply Exists.intro; refine ⟨fun w' hw' => ?_, hK _ ?_⟩; (go_simp; done); (clear hK K; simp only [Act.put, List.setIfInBounds_toArray, List.set_cons_zero, List.set_cons_succ]))
      | (refine (if_pos (by rfl)).mpr ?_; apply Exists.intro; refine ⟨fun w' hw' => ?_, hK _ ?_⟩; (go_simp; rfl); (clear hK K; simp only [Act.put, List.setIfInBounds_toArray, List.set_cons_zero, List.set_cons_succ]))
      | (refine (if_neg (by rw [Bool.not_eq_true]; rfl)).mpr ?_; refine hK _ ?_; (clear hK K; simp only [Act.put, List.setIfInBounds_toArray, List.set_cons_zero, List.set_cons_succ]))
  refine chain_nil ?_
  go_wp2
  go_ret2
  have hfl : [putB (n.epoch.setWidth 64) 4, putB n.version 8, bs, pairB (t1, t2)].flatten = recB n bs (t1, t2) := by simp [recB]
  rw [hfl, recB_length n bs _ HL.out] at hown6
  have hk9 := (((hk0.of hw1).of hk2).of hk3).of hk4
  refine ⟨x6, rfl, own_base hown6 ?_, (hk9.of ((Below.refl _ _).alloc (Nat.le_refl _) _)).of hk6⟩
  have := hk9.size
  simp
  omega

set_option maxRecDepth 100000 in
set_option maxHeartbeats 4000000 in
theorem rputrec_some (n : Nn) (t1 t2 : BitVec 64) (vb : Value) (bs : List UInt8) (hl : bs.length = 32) (hs : n.slot = 65535#32) (w : World) (h : Sl w vb bs.length (bcells bs)) : Calls Try.prog 13 #[n.val, .agg #[vb, U t1, U t2]] w fun e' w' => ∃ b, e' = .returned (.tuple #[b, .bool true]) ∧ w'.ownsRow w.heap.size 5 1 b 60 (bcells (recB n bs (t1, t2))) ∧ Kept w w' := by
  obtain ⟨sa, sc, hvb⟩ := h.len
  subst hvb
  rw [hl] at h ⊢
  unfold Nn.val
  have hk0 : Kept w ((w.alloc (.cells #[W n.epoch, W n.slot, U n.version] 38)).alloc (.cells #[.slice sa 32 sc, U t1, U t2] 40)) := ((Below.refl _ _).alloc (Nat.le_refl _) _).alloc (by simp) _
  have hN : Blk ((w.alloc (.cells #[W n.epoch, W n.slot, U n.version] 38)).alloc (.cells #[.slice sa 32 sc, U t1, U t2] 40)) w.heap.size #[W n.epoch, W n.slot, U n.version] 38 := (Blk.new _ _ _).alloc _
  have hS : Blk ((w.alloc (.cells #[W n.epoch, W n.slot, U n.version] 38)).alloc (.cells #[.slice sa 32 sc, U t1, U t2] 40)) (w.heap.size + 1) #[.slice sa 32 sc, U t1, U t2] 40 := by simpa using Blk.new (w.alloc (.cells #[W n.epoch, W n.slot, U n.version] 38)) #[.slice sa 32 sc, U t1, U t2] 40
  have sb := h.kept hk0
  have sbb : ∀ a c, (Value.slice sa 32 sc) = .slice (some a) 32 c → 0 < (bcells bs).length → a.block < w.heap.size + 2 := fun a c e hlt => by
    obtain ⟨b', o', c', e', _, _, hb', _⟩ := h.at hlt
    rw [e] at e'; cases e'; show b' < _; omega
  have hss : (n.slot != 65535#32) = false := by rw [hs]; rfl
  have n0 := hN.cell 0
  have n1 := hN.cell 1
  have n2 := hN.cell 2
  have q0 := hS.cell 0
  have q1 := hS.cell 1
  have q2 := hS.cell 2
  have HL := Lib.hid hl
  have HS := Lib.hid hs
  clear hl hs h
  go_enter Try.func13, Try.ntmps13
  go_wp2_with fail
  clear n0 n1 n2 q0 q1 q2
  refine wp_region_chainBelow (w.heap.size + 2) [(0, 0), (1, 0), (2, 0), (4, 0), (5, 0), (3, 1), (6, 1), (7, 1), (8, 0)] (by kernel_rfl) (by kernel_rfl) ?_
  intro w1 hw1
  replace hN := hN.kept hw1
  replace hS := hS.kept hw1
  replace sb := sb.kept hw1
  have z1 : w.heap.size + 2 ≤ w1.heap.size := by have := hw1.size; simpa using this
  repeat
    refine chain_light _ rfl (fun K hK => ?_)
    first
      | (refine (if_pos (by rfl)).mpr ?_; apply Exists.intro; refine ⟨fun w' hw' => ?_, hK _ ?_⟩; (have c := hN.below hw' (by omega); have n0 := c.cell 0; have n1 := c.cell 1; have n2 := c.cell 2; clear c; have d := hS.below hw' (by omega); have q0 := d.cell 0; have q1 := d.cell 1; have q2 := d.cell 2; clear d; go_simp; done); (clear hK K; simp only [Act.put, List.setIfInBounds_toArray, List.set_cons_zero, List.set_cons_succ]))
      | (refine (if_pos (by rfl)).mpr ?_; apply Exists.intro; refine ⟨fun w' hw' => ?_, hK _ ?_⟩; (have c := hN.below hw' (by omega); have n0 := c.cell 0; have n1 := c.cell 1; have n2 := c.cell 2; clear c; have d := hS.below hw' (by omega); have q0 := d.cell 0; have q1 := d.cell 1; have q2 := d.cell 2; clear d; go_simp; rfl); (clear hK K; simp only [Act.put, List.setIfInBounds_toArray, List.set_cons_zero, List.set_cons_succ]))
      | (refine (if_neg (by rw [Bool.not_eq_true]; rfl)).mpr ?_; refine hK _ ?_; (clear hK K; simp only [Act.put, List.setIfInBounds_toArray, List.set_cons_zero, List.set_cons_succ]))
  refine chain_heavy _ rfl (fun K hK => ?_)
  refine (if_pos (by rfl)).mpr ?_
  go_wp2_with fail
  refine (rput_some _ 4 (by omega) (by omega) _).mono ?_
  rintro e w2 ⟨x2, rfl, hown2, hk2⟩
  have z2 := hk2.size
  go_wp2
  refine hK _ _ (hk2.mono (by omega)) ?_
  clear hK K
  try simp only [Act.put, List.setIfInBounds_toArray, List.set_cons_zero, List.set_cons_succ]
  refine chain_heavy _ rfl (fun K hK => ?_)
  refine (if_pos (by rfl)).mpr ?_
  go_wp2_with fail
  refine (rput_some _ 8 (by omega) (by omega) _).mono ?_
  rintro e w3 ⟨x3, rfl, hown3, hk3⟩
  have z3 := hk3.size
  have s3 := Sl.of_own hown3
  replace hown2 := own_base (own_kept hown2 hk3) (show w.heap.size + 2 ≤ _ by omega)
  go_wp2
  refine hK _ _ (hk3.mono (by omega)) ?_
  clear hK K
  try simp only [Act.put, List.setIfInBounds_toArray, List.set_cons_zero, List.set_cons_succ]
  refine chain_heavy _ rfl (fun K hK => ?_)
  refine (if_pos (by rfl)).mpr ?_
  refine wp_append sl_bytes (by rfl) (by rfl) (by rfl) hown2 s3 (by simp [bcells, putB_length]) (oneCell_V8 _) (by decide) (by omega) (by omega) ?_
  intro v4 w4 hown4 hg4 hat4
  rw [← bcells_append] at hown4
  refine hK _ _ (below_append (Below.refl _ _) hown2 hg4 (by omega)) ?_
  clear hK K
  try simp only [Act.put, List.setIfInBounds_toArray, List.set_cons_zero, List.set_cons_succ]
  repeat
    refine chain_light _ rfl (fun K hK => ?_)
    first
      | (refine (if_pos (by rfl)).mpr ?_; apply Exists.intro; refine ⟨fun w' hw' => ?_, hK _ ?_⟩; (go_simp; done); (clear hK K; simp only [Act.put, List.setIfInBounds_toArray, List.set_cons_zero, List.set_cons_succ]))
      | (refine (if_pos (by rfl)).mpr ?_; apply Exists.intro; refine ⟨fun w' hw' => ?_, hK _ ?_⟩; (go_simp; rfl); (clear hK K; simp only [Act.put, List.setIfInBounds_toArray, List.set_cons_zero, List.set_cons_succ]))
      | (refine (if_neg (by rw [Bool.not_eq_true]; rfl)).mpr ?_; refine hK _ ?_; (clear hK K; simp only [Act.put, List.setIfInBounds_toArray, List.set_cons_zero, List.set_cons_succ]))
  refine chain_nil ?_
  have hk4 : Below (w.heap.size + 2) w1 w4 := below_append ((hk2.mono (by omega)).trans (hk3.mono (by omega))) hown2 hg4 (by omega)
  have hb4 : Below (w.heap.size + 2) ((w.alloc (.cells #[W n.epoch, W n.slot, U n.version] 38)).alloc (.cells #[.slice sa 32 sc, U t1, U t2] 40)) w4 := (hw1.mono (by simp)).trans hk4
  replace hN := hN.below hk4 (by omega)
  replace hS := hS.below hk4 (by omega)
  replace sb := sb.below hk4 sbb
  have z4 := hk4.size
  clear hk4 hown2 hg4 hat4 s3 hown3 hk2 hk3 hw1
  go_wp2_with fail
  refine wp_region_chainBelow (w.heap.size + 2) [(0, 0), (1, 0), (2, 0), (4, 0), (5, 0), (3, 1), (6, 1), (7, 1), (8, 0), (9, 0)] (by kernel_rfl) (by kernel_rfl) ?_
  intro w5 hw5
  replace hN := hN.kept hw5
  replace hS := hS.kept hw5
  replace sb := sb.kept hw5
  replace hown4 := own_kept hown4 hw5
  have z5 := hw5.size
  repeat
    refine chain_light _ rfl (fun K hK => ?_)
    first
      | (refine (if_pos (by rfl)).mpr ?_; apply Exists.intro; refine ⟨fun w' hw' => ?_, hK _ ?_⟩; (have c := hN.below hw' (by omega); have n0 := c.cell 0; have n1 := c.cell 1; have n2 := c.cell 2; clear c; have d := hS.below hw' (by omega); have q0 := d.cell 0; have q1 := d.cell 1; have q2 := d.cell 2; clear d; go_simp; done); (clear hK K; simp only [Act.put, List.setIfInBounds_toArray, List.set_cons_zero, List.set_cons_succ]))
      | (refine (if_pos (by rfl)).mpr ?_; apply Exists.intro; refine ⟨fun w' hw' => ?_, hK _ ?_⟩; (have c := hN.below hw' (by omega); have n0 := c.cell 0; have n1 := c.cell 1; have n2 := c.cell 2; clear c; have d := hS.below hw' (by omega); have q0 := d.cell 0; have q1 := d.cell 1; have q2 := d.cell 2; clear d; go_simp; rfl); (clear hK K; simp only [Act.put, List.setIfInBounds_toArray, List.set_cons_zero, List.set_cons_succ]))
      | (refine (if_neg (by rw [Bool.not_eq_true]; rfl)).mpr ?_; refine hK _ ?_; (clear hK K; simp only [Act.put, List.setIfInBounds_toArray, List.set_cons_zero, List.set_cons_succ]))
  refine chain_heavy _ rfl (fun K hK => ?_)
  refine (if_pos (by rfl)).mpr ?_
  refine wp_append sl_bytes (by rfl) (by rfl) (by rfl) hown4 sb (by simp [bcells, HL.out]) (oneCell_V8 _) (by decide) (by omega) (by omega) ?_
  intro v6 w6 hown6 hg6 hat6
  rw [← bcells_append] at hown6
  have z6 := hg6.size
  refine hK _ _ (below_append (Below.refl _ _) hown4 hg6 (by omega)) ?_
  clear hK K
  try simp only [Act.put, List.setIfInBounds_toArray, List.set_cons_zero, List.set_cons_succ]
  refine chain_heavy _ rfl (fun K hK => ?_)
  refine (if_pos (by rfl)).mpr ?_
  go_wp2_with fail
  refine (rbytes_any _ _ _).mono ?_
  rintro e w7 ⟨x7, rfl, hown7, hk7⟩
  have z7 := hk7.size
  have s7 := Sl.of_own hown7
  replace hown6 := own_kept hown6 hk7
  go_wp2
  refine hK _ _ (hk7.mono (by omega)) ?_
  clear hK K
  try simp only [Act.put, List.setIfInBounds_toArray, List.set_cons_zero, List.set_cons_succ]
  refine chain_heavy _ rfl (fun K hK => ?_)
  refine (if_pos (by rfl)).mpr ?_
  refine wp_append sl_bytes (by rfl) (by rfl) (by rfl) hown6 s7 (by simp [bcells, pairB_length]) (oneCell_V8 _) (by decide) (by omega) (by omega) ?_
  intro v8 w8 hown8 hg8 hat8
  rw [← bcells_append] at hown8
  refine hK _ _ (below_append (Below.refl _ _) hown6 hg8 (by omega)) ?_
  clear hK K
  try simp only [Act.put, List.setIfInBounds_toArray, List.set_cons_zero, List.set_cons_succ]
  repeat
    refine chain_light _ rfl (fun K hK => ?_)
    first
      | (refine (if_pos (by rfl)).mpr ?_; apply Exists.intro; refine ⟨fun w' hw' => ?_, hK _ ?_⟩; (go_simp; done); (clear hK K; simp only [Act.put, List.setIfInBounds_toArray, List.set_cons_zero, List.set_cons_succ]))
      | (refine (if_pos (by rfl)).mpr ?_; apply Exists.intro; refine ⟨fun w' hw' => ?_, hK _ ?_⟩; (go_simp; rfl); (clear hK K; simp only [Act.put, List.setIfInBounds_toArray, List.set_cons_zero, List.set_cons_succ]))
      | (refine (if_neg (by rw [Bool.not_eq_true]; rfl)).mpr ?_; refine hK _ ?_; (clear hK K; simp only [Act.put, List.setIfInBounds_toArray, List.set_cons_zero, List.set_cons_succ]))
  refine chain_nil ?_
  go_wp2
  go_ret2
  have hb6 := below_append (hb4.trans (hw5.mono (by omega))) hown4 hg6 (by omega)
  have hb8 := below_append (hb6.trans (hk7.mono (by omega))) hown6 hg8 (by omega)
  have hfl : putB (n.epoch.setWidth 64) 4 ++ putB n.version 8 ++ bs ++ pairB (t1, t2) = recB n bs (t1, t2) := rfl
  rw [hfl] at hown8
  exact ⟨v8, rfl, own_base hown8 (by omega), hk0.trans (hb8.mono (by simp))⟩

set_option maxRecDepth 100000 in
set_option maxHeartbeats 4000000 in
theorem putrec_none (n : Nn) (t1 t2 : BitVec 64) (vb : Value) (bs : List UInt8) (hm : bs.length ≤ 4000) (hl : bs.length ≠ 32 ∨ n.slot ≠ 65535#32) (w : World) (h : Sl w vb bs.length (bcells bs)) : Calls Try.prog 12 #[n.val, .agg #[vb, U t1, U t2]] w fun e' w' => e' = .returned (.tuple #[.slice none 0 0, .bool false]) ∧ Kept w w' := by
  obtain ⟨sa, sc, hvb⟩ := h.len
  subst hvb
  have i0 : (bs.length : Int) ≤ 4000 := by omega
  unfold Nn.val
  have hk0 : Kept w ((w.alloc (.cells #[W n.epoch, W n.slot, U n.version] 38)).alloc (.cells #[.slice sa bs.length sc, U t1, U t2] 40)) := ((Below.refl _ _).alloc (Nat.le_refl _) _).alloc (by simp) _
  have hN : Blk ((w.alloc (.cells #[W n.epoch, W n.slot, U n.version] 38)).alloc (.cells #[.slice sa bs.length sc, U t1, U t2] 40)) w.heap.size #[W n.epoch, W n.slot, U n.version] 38 := (Blk.new _ _ _).alloc _
  have hS : Blk ((w.alloc (.cells #[W n.epoch, W n.slot, U n.version] 38)).alloc (.cells #[.slice sa bs.length sc, U t1, U t2] 40)) (w.heap.size + 1) #[.slice sa bs.length sc, U t1, U t2] 40 := by simpa using Blk.new (w.alloc (.cells #[W n.epoch, W n.slot, U n.version] 38)) #[.slice sa bs.length sc, U t1, U t2] 40
  have n0 := hN.cell 0
  have n1 := hN.cell 1
  have n2 := hN.cell 2
  have q0 := hS.cell 0
  have q1 := hS.cell 1
  have q2 := hS.cell 2
  by_cases h32 : bs.length = 32
  · have hss : (n.slot != 65535#32) = true := by
      rcases hl with hl | hl
      · exact absurd h32 hl
      · simpa using hl
    have l0 : ((bs.length : Int) != 32) = false := by simp [h32]
    have l1 : (bs.length : Int) = 32 := by omega
    clear hl hN hS h
    go_enter Try.func12, Try.ntmps12
    go_wp2
    go_ret2
    exact ⟨rfl, by rw [h32] at hk0; exact hk0⟩
  · have l0 : ((bs.length : Int) != 32) = true := by simp; omega
    clear hl hN hS h
    go_enter Try.func12, Try.ntmps12
    go_wp2
    go_ret2
    exact ⟨rfl, hk0⟩

set_option maxRecDepth 100000 in
set_option maxHeartbeats 4000000 in
theorem rputrec_none (n : Nn) (t1 t2 : BitVec 64) (vb : Value) (bs : List UInt8) (hm : bs.length ≤ 4000) (hl : bs.length ≠ 32 ∨ n.slot ≠ 65535#32) (w : World) (h : Sl w vb bs.length (bcells bs)) : Calls Try.prog 13 #[n.val, .agg #[vb, U t1, U t2]] w fun e' w' => e' = .returned (.tuple #[.slice none 0 0, .bool false]) ∧ Kept w w' := by
  obtain ⟨sa, sc, hvb⟩ := h.len
  subst hvb
  have i0 : (bs.length : Int) ≤ 4000 := by omega
  unfold Nn.val
  have hk0 : Kept w ((w.alloc (.cells #[W n.epoch, W n.slot, U n.version] 38)).alloc (.cells #[.slice sa bs.length sc, U t1, U t2] 40)) := ((Below.refl _ _).alloc (Nat.le_refl _) _).alloc (by simp) _
  have hN : Blk ((w.alloc (.cells #[W n.epoch, W n.slot, U n.version] 38)).alloc (.cells #[.slice sa bs.length sc, U t1, U t2] 40)) w.heap.size #[W n.epoch, W n.slot, U n.version] 38 := (Blk.new _ _ _).alloc _
  have hS : Blk ((w.alloc (.cells #[W n.epoch, W n.slot, U n.version] 38)).alloc (.cells #[.slice sa bs.length sc, U t1, U t2] 40)) (w.heap.size + 1) #[.slice sa bs.length sc, U t1, U t2] 40 := by simpa using Blk.new (w.alloc (.cells #[W n.epoch, W n.slot, U n.version] 38)) #[.slice sa bs.length sc, U t1, U t2] 40
  have n0 := hN.cell 0
  have n1 := hN.cell 1
  have n2 := hN.cell 2
  have q0 := hS.cell 0
  have q1 := hS.cell 1
  have q2 := hS.cell 2
  by_cases h32 : bs.length = 32
  · have hss : (n.slot != 65535#32) = true := by
      rcases hl with hl | hl
      · exact absurd h32 hl
      · simpa using hl
    have l0 : ((bs.length : Int) != 32) = false := by simp [h32]
    have l1 : (bs.length : Int) = 32 := by omega
    clear hl hN hS h
    go_enter Try.func13, Try.ntmps13
    go_wp2
    go_ret2
    exact ⟨rfl, by rw [h32] at hk0; exact hk0⟩
  · have l0 : ((bs.length : Int) != 32) = true := by simp; omega
    clear hl hN hS h
    go_enter Try.func13, Try.ntmps13
    go_wp2
    go_ret2
    exact ⟨rfl, hk0⟩


end Go.Proofs.Ytldgmilfihkkdaa
