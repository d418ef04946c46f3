/- What the reference of root.GetRec computes. -/
import Derived.Test.YtldgmilfihkkdaaRecG
namespace Go.Proofs.Ytldgmilfihkkdaa
open Go Go.RowKit

set_option maxRecDepth 100000 in
set_option maxHeartbeats 4000000 in
theorem rgetrec_none (vb : Value) (bs : List UInt8) (hl : bs.length ≤ 4000) (w : World) (hb : Sl w vb bs.length (bcells bs)) (h : bs.length ≠ 60) : Calls Try.prog 15 #[vb] w fun e w' => e = .returned (.tuple #[.agg #[W 0#32, W 0#32, U 0#64], .agg #[.slice none 0 0, U 0#64, U 0#64], .bool false]) ∧ Kept w w' := by
  have hk : Kept w ((w.alloc (.cells #[W 0#32, W 0#32, U 0#64] 38)).alloc (.cells #[.slice none 0 0, U 0#64, U 0#64] 40)) := ((Below.refl _ _).alloc (Nat.le_refl _) _).alloc (by simp) _
  have hZ : Blk ((w.alloc (.cells #[W 0#32, W 0#32, U 0#64] 38)).alloc (.cells #[.slice none 0 0, U 0#64, U 0#64] 40)) w.heap.size #[W 0#32, W 0#32, U 0#64] 38 := (Blk.new _ _ _).alloc _
  have hY : Blk ((w.alloc (.cells #[W 0#32, W 0#32, U 0#64] 38)).alloc (.cells #[.slice none 0 0, U 0#64, U 0#64] 40)) (w.heap.size + 1) #[.slice none 0 0, U 0#64, U 0#64] 40 := by simpa using Blk.new (w.alloc (.cells #[W 0#32, W 0#32, U 0#64] 38)) #[.slice none 0 0, U 0#64, U 0#64] 40
  obtain ⟨a, c, hvb⟩ := hb.len
  subst hvb
  have n0 : (bs.length : Int) ≤ 4000 := by omega
  have n1 : ((bs.length : Int) != 60) = true := by simp; omega
  have n2 : ¬ bs.length = 60 := h
  have z0 := hZ.cell 0
  have zf0 := hZ.free 0
  have z1 := hZ.cell 1
  have zf1 := hZ.free 1
  have z2 := hZ.cell 2
  have zf2 := hZ.free 2
  have y0 := hY.cell 0
  have yf0 := hY.free 0
  have y1 := hY.cell 1
  have yf1 := hY.free 1
  have y2 := hY.cell 2
  have yf2 := hY.free 2
  clear hZ hY hb h
  go_enter Try.func15, Try.ntmps15
  go_wp2
  refine bodyPost_ret (v := .tuple #[.agg #[W 0#32, W 0#32, U 0#64], .agg #[.slice none 0 0, U 0#64, U 0#64], .bool false]) (by simp [results, Try.results15, go_sem, z0, z1, z2, y0, y1, y2]; done) rfl ⟨rfl, ?_⟩
  exact hk

set_option maxRecDepth 100000 in
set_option maxHeartbeats 4000000 in
theorem rgetrec_some (vb : Value) (bs : List UInt8) (w : World) (hb : Sl w vb bs.length (bcells bs)) (h : bs.length = 60) : Calls Try.prog 15 #[vb] w fun e w' => ∃ u, e = .returned (.tuple #[(recN bs).val, .agg #[u, U (recT bs).1, U (recT bs).2], .bool true]) ∧ Sl w' u (recS bs).length (bcells (recS bs)) ∧ Kept w w' := by
  have hk1 : Kept w ((w.alloc (.cells #[W 0#32, W 0#32, U 0#64] 38)).alloc (.cells #[.slice none 0 0, U 0#64, U 0#64] 40)) := ((Below.refl _ _).alloc (Nat.le_refl _) _).alloc (by simp) _
  have hZ : Blk ((w.alloc (.cells #[W 0#32, W 0#32, U 0#64] 38)).alloc (.cells #[.slice none 0 0, U 0#64, U 0#64] 40)) w.heap.size #[W 0#32, W 0#32, U 0#64] 38 := (Blk.new _ _ _).alloc _
  have hY : Blk ((w.alloc (.cells #[W 0#32, W 0#32, U 0#64] 38)).alloc (.cells #[.slice none 0 0, U 0#64, U 0#64] 40)) (w.heap.size + 1) #[.slice none 0 0, U 0#64, U 0#64] 40 := by simpa using Blk.new (w.alloc (.cells #[W 0#32, W 0#32, U 0#64] 38)) #[.slice none 0 0, U 0#64, U 0#64] 40
  have hz2 : ((w.alloc (.cells #[W 0#32, W 0#32, U 0#64] 38)).alloc (.cells #[.slice none 0 0, U 0#64, U 0#64] 40)).heap.size = w.heap.size + 2 := by simp
  obtain ⟨b, off, cap, hvb, hc1, hc2, hc3, hc4⟩ := hb.at (by rw [bcells_length]; omega)
  subst hvb
  have hs : Sl w (.slice (some ⟨b, off, none⟩) bs.length cap) bs.length (bcells bs) := hb
  rw [h] at hc1
  have s0 : Sl ((w.alloc (.cells #[W 0#32, W 0#32, U 0#64] 38)).alloc (.cells #[.slice none 0 0, U 0#64, U 0#64] 40)) (.slice (some ⟨b, off, none⟩) 4 (cap)) (bs.take 4).length (bcells (bs.take 4)) := by
    have := (hs.sub 0 4 (cap) (by omega) (by omega)).kept hk1
    rw [show ((bcells bs).drop 0).take 4 = bcells (bs.take 4) by simp [bcells]] at this
    rw [show (bs.take 4).length = 4 by simp; omega]
    exact this
  have s1 : Sl ((w.alloc (.cells #[W 0#32, W 0#32, U 0#64] 38)).alloc (.cells #[.slice none 0 0, U 0#64, U 0#64] 40)) (.slice (some ⟨b, off + 4, none⟩) 8 (cap - 4)) ((bs.drop 4).take 8).length (bcells ((bs.drop 4).take 8)) := by
    have := (hs.sub 4 8 (cap - 4) (by omega) (by omega)).kept hk1
    rw [show ((bcells bs).drop 4).take 8 = bcells ((bs.drop 4).take 8) by simp [bcells]] at this
    rw [show ((bs.drop 4).take 8).length = 8 by simp; omega]
    exact this
  have s2 : Sl ((w.alloc (.cells #[W 0#32, W 0#32, U 0#64] 38)).alloc (.cells #[.slice none 0 0, U 0#64, U 0#64] 40)) (.slice (some ⟨b, off + 12, none⟩) 32 (cap - 12)) (recS bs).length (bcells (recS bs)) := by
    have := (hs.sub 12 32 (cap - 12) (by omega) (by omega)).kept hk1
    rw [show ((bcells bs).drop 12).take 32 = bcells (recS bs) by simp [bcells, recS]] at this
    rw [show (recS bs).length = 32 by simp [recS]; omega]
    exact this
  have s3 : Sl ((w.alloc (.cells #[W 0#32, W 0#32, U 0#64] 38)).alloc (.cells #[.slice none 0 0, U 0#64, U 0#64] 40)) (.slice (some ⟨b, off + 44, none⟩) 16 (cap - 44)) (bs.drop 44).length (bcells (bs.drop 44)) := by
    have := (hs.sub 44 16 (cap - 44) (by omega) (by omega)).kept hk1
    rw [show ((bcells bs).drop 44).take 16 = bcells (bs.drop 44) by simp [bcells, List.take_of_length_le, h]] at this
    rw [show (bs.drop 44).length = 16 by simp; omega]
    exact this
  have n0 : (bs.take 4).length = 4 := by rw [List.length_take]; omega
  have n1 : ((bs.drop 4).take 8).length = 8 := by rw [List.length_take, List.length_drop]; omega
  have n2 : (recS bs).length = 32 := by unfold recS; rw [List.length_take, List.length_drop]; omega
  have n3 : (bs.drop 44).length = 16 := by rw [List.length_drop]; omega
  rw [n2] at s2
  have m0 : (60 : Int) ≤ (cap : Int) := by omega
  have m1 : (cap : Int) ≤ 9223372036854775807 := by unfold maxLen at hc2; omega
  rw [h]
  have S0 := Lib.hid s0
  have S1 := Lib.hid s1
  have S3 := Lib.hid s3
  have N0 := Lib.hid n0
  have N1 := Lib.hid n1
  have N2 := Lib.hid n2
  have N3 := Lib.hid n3
  have H := Lib.hid h
  clear s0 s1 s3 n0 n1 n2 n3 h hb hs hc4 hc1 hc2
  go_enter Try.func15, Try.ntmps15
  go_wp2_with fail
  refine (rget_some _ _ _ S0.out (by rw [N0.out]; omega) (by rw [N0.out]; omega)).mono ?_
  rintro e w4 ⟨rfl, rfl⟩
  go_wp2_with fail
  refine (rget_some _ _ _ S1.out (by rw [N1.out]; omega) (by rw [N1.out]; omega)).mono ?_
  rintro e w4 ⟨rfl, rfl⟩
  go_wp2_with fail
  refine (rpair_some _ _ _ S3.out N3.out).mono ?_
  rintro e w4 ⟨rfl, hk4⟩
  replace hZ := hZ.kept hk4
  replace hY := hY.kept hk4
  replace s2 := s2.kept hk4
  have hk := Kept.of hk1 hk4
  have z4 := hk4.size
  clear hk4 hk1 S0 S1 S3
  go_wp2_with fail
  have hP := Blk.new w4 #[U (pairG (bs.drop 44)).1, U (pairG (bs.drop 44)).2] 25
  replace hZ := hZ.alloc (.cells #[U (pairG (bs.drop 44)).1, U (pairG (bs.drop 44)).2] 25)
  replace hY := hY.alloc (.cells #[U (pairG (bs.drop 44)).1, U (pairG (bs.drop 44)).2] 25)
  have hka : Kept w4 (w4.alloc (.cells #[U (pairG (bs.drop 44)).1, U (pairG (bs.drop 44)).2] 25)) := (Below.refl _ _).alloc (Nat.le_refl _) _
  replace s2 := s2.kept hka
  replace hk := Kept.of hk hka
  have hPb : w.heap.size + 2 ≤ w4.heap.size := by omega
  have hPc := hP.lt
  have m2 : (44 : Int) ≤ (cap : Int) := by omega
  have m3 : ¬ cap = 12 := by omega
  clear hka
  generalize w4.alloc (.cells #[U (pairG (bs.drop 44)).1, U (pairG (bs.drop 44)).2] 25) = W5 at *
  refine wp_region_chainSpan (w.heap.size + 2) (W5.heap.size) [(0, 0), (1, 0), (2, 0), (3, 0), (5, 0), (6, 0), (8, 0), (4, 1), (7, 1), (9, 0), (10, 1), (11, 1), (12, 0)] (by kernel_rfl) (by kernel_rfl) ?_
  intro w6 hw6
  replace hP := hP.kept hw6
  replace hZ := hZ.kept hw6
  replace hY := hY.kept hw6
  repeat
    refine chain_light _ rfl (fun K hK => ?_)
    first
      | (refine (if_pos (by rfl)).mpr ?_; apply Exists.intro; refine ⟨fun w' hw' => ?_, hK _ ?_⟩; (have k0 := (hP.span hw' hPb hPc).cell 0; have k1 := (hP.span hw' hPb hPc).cell 1; go_simp; done); (clear hK K; simp only [Act.put, List.setIfInBounds_toArray, List.set_cons_zero, List.set_cons_succ]))
      | (refine (if_pos (by rfl)).mpr ?_; apply Exists.intro; refine ⟨fun w' hw' => ?_, hK _ ?_⟩; (have k0 := (hP.span hw' hPb hPc).cell 0; have k1 := (hP.span hw' hPb hPc).cell 1; go_simp; rfl); (clear hK K; simp only [Act.put, List.setIfInBounds_toArray, List.set_cons_zero, List.set_cons_succ]))
      | (refine (if_neg (by rw [Bool.not_eq_true]; rfl)).mpr ?_; refine hK _ ?_; (clear hK K; simp only [Act.put, List.setIfInBounds_toArray, List.set_cons_zero, List.set_cons_succ]))
  refine chain_heavy _ rfl (fun K hK => ?_)
  refine (if_pos (by rfl)).mpr ?_
  go_wp2
  refine hK _ _ (Span.of_kept ((Below.refl _ _).alloc (Nat.le_refl _) (.cells #[] 5))) ?_
  clear hK K
  try simp only [Act.put, List.setIfInBounds_toArray, List.set_cons_zero, List.set_cons_succ]
  refine chain_heavy _ rfl (fun K hK => ?_)
  refine (if_pos (by rfl)).mpr ?_
  have ho : (w6.alloc (.cells #[] 5)).ownsRow w6.heap.size 5 1 (.slice (some ⟨w6.heap.size, 0, none⟩) 0 0) 0 (bcells []) := own_made 0 (by decide) 5 [] rfl (Blk.new _ _ _) (Nat.le_refl _)
  have sx := (s2.kept hw6).kept (show Kept w6 (w6.alloc (.cells #[] 5)) from (Below.refl _ _).alloc (Nat.le_refl _) _)
  refine wp_append sl_bytes (by rfl) (by rfl) (by rfl) ho sx (by simp [bcells, N2.out]) (oneCell_V8 _) (by decide) (by omega) (by simp) ?_
  intro v7 w7 hown7 hg7 hat7
  have hb7 := below_append (Below.refl _ _) ho hg7 (by simp)
  replace hZ := (hZ.alloc (.cells #[] 5)).below hb7 hZ.lt
  replace hY := (hY.alloc (.cells #[] 5)).below hb7 hY.lt
  rw [← bcells_append, List.nil_append] at hown7
  obtain ⟨va, vc, hv7⟩ := (Sl.of_own hown7).len
  subst hv7
  
  refine hK _ _ (Span.of_below (hb7.mono hw6.size)) ?_
  clear hK K
  try simp only [Act.put, List.setIfInBounds_toArray, List.set_cons_zero, List.set_cons_succ]
  repeat
    refine chain_light _ rfl (fun K hK => ?_)
    first
      | (refine (if_pos (by rfl)).mpr ?_; apply Exists.intro; refine ⟨fun w' hw' => ?_, hK _ ?_⟩; (go_simp; done); (clear hK K; simp only [Act.put, List.setIfInBounds_toArray, List.set_cons_zero, List.set_cons_succ]))
      | (refine (if_pos (by rfl)).mpr ?_; apply Exists.intro; refine ⟨fun w' hw' => ?_, hK _ ?_⟩; (go_simp; rfl); (clear hK K; simp only [Act.put, List.setIfInBounds_toArray, List.set_cons_zero, List.set_cons_succ]))
      | (refine (if_neg (by rw [Bool.not_eq_true]; rfl)).mpr ?_; refine hK _ ?_; (clear hK K; simp only [Act.put, List.setIfInBounds_toArray, List.set_cons_zero, List.set_cons_succ]))
  refine chain_heavy _ rfl (fun K hK => ?_)
  refine (if_pos (by rfl)).mpr ?_
  have z0 := hZ.cell 0
  have zf0 := hZ.free 0
  have z1 := hZ.cell 1
  have zf1 := hZ.free 1
  have z2 := hZ.cell 2
  have zf2 := hZ.free 2
  have y0 := hY.cell 0
  have yf0 := hY.free 0
  have y1 := hY.cell 1
  have yf1 := hY.free 1
  have y2 := hY.cell 2
  have yf2 := hY.free 2
  go_wp2
  refine hK _ _ ((((Span.refl _ _ _).trans (Span.setCell (a := ⟨w.heap.size, 0, none⟩) (show w.heap.size < w.heap.size + 2 by omega) _)).trans (Span.setCell (a := ⟨w.heap.size, 1, none⟩) (show w.heap.size < w.heap.size + 2 by omega) _)).trans (Span.setCell (a := ⟨w.heap.size, 2, none⟩) (show w.heap.size < w.heap.size + 2 by omega) _)) ?_
  clear hK K
  try simp only [Act.put, List.setIfInBounds_toArray, List.set_cons_zero, List.set_cons_succ]
  refine chain_heavy _ rfl (fun K hK => ?_)
  refine (if_pos (by rfl)).mpr ?_
  go_wp2
  refine hK _ _ ((((Span.refl _ _ _).trans (Span.setCell (a := ⟨w.heap.size + 1, 0, none⟩) (show w.heap.size + 1 < w.heap.size + 2 by omega) _)).trans (Span.setCell (a := ⟨w.heap.size + 1, 1, none⟩) (show w.heap.size + 1 < w.heap.size + 2 by omega) _)).trans (Span.setCell (a := ⟨w.heap.size + 1, 2, none⟩) (show w.heap.size + 1 < w.heap.size + 2 by omega) _)) ?_
  clear hK K
  try simp only [Act.put, List.setIfInBounds_toArray, List.set_cons_zero, List.set_cons_succ]
  repeat
    refine chain_light _ rfl (fun K hK => ?_)
    first
      | (refine (if_pos (by rfl)).mpr ?_; apply Exists.intro; refine ⟨fun w' hw' => ?_, hK _ ?_⟩; (go_simp; done); (clear hK K; simp only [Act.put, List.setIfInBounds_toArray, List.set_cons_zero, List.set_cons_succ]))
      | (refine (if_pos (by rfl)).mpr ?_; apply Exists.intro; refine ⟨fun w' hw' => ?_, hK _ ?_⟩; (go_simp; rfl); (clear hK K; simp only [Act.put, List.setIfInBounds_toArray, List.set_cons_zero, List.set_cons_succ]))
      | (refine (if_neg (by rw [Bool.not_eq_true]; rfl)).mpr ?_; refine hK _ ?_; (clear hK K; simp only [Act.put, List.setIfInBounds_toArray, List.set_cons_zero, List.set_cons_succ]))
  refine chain_nil ?_
  go_wp2
  have hk8 : Kept w w7 := (Kept.of hk hw6).trans ((((Below.refl _ _).alloc (Nat.le_refl _) _).trans (hb7.mono (Nat.le_refl _))).mono (Kept.of hk hw6).size)
  refine bodyPost_ret (v := .tuple #[(recN bs).val, .agg #[.slice va (0 + 32) vc, U (recT bs).1, U (recT bs).2], .bool true]) (by simp [results, Try.results15, go_sem, Nn.val, recN, recT, z0, z1, z2, y0, y1, y2]; done) rfl ⟨_, rfl, ?_, ?_⟩
  · rw [N2.out]
    exact Sl.of_own (own_above (own_base (B' := w.heap.size + 2) (n := 0 + 32) hown7 (by have := (Kept.of hk hw6).size; have := hw6.size; omega)) (Above.trans ((((Above.refl _ _).trans (Above.setCell (a := ⟨w.heap.size, 0, none⟩) (show w.heap.size < w.heap.size + 2 by omega) _)).trans (Above.setCell (a := ⟨w.heap.size, 1, none⟩) (show w.heap.size < w.heap.size + 2 by omega) _)).trans (Above.setCell (a := ⟨w.heap.size, 2, none⟩) (show w.heap.size < w.heap.size + 2 by omega) _)) ((((Above.refl _ _).trans (Above.setCell (a := ⟨w.heap.size + 1, 0, none⟩) (show w.heap.size + 1 < w.heap.size + 2 by omega) _)).trans (Above.setCell (a := ⟨w.heap.size + 1, 1, none⟩) (show w.heap.size + 1 < w.heap.size + 2 by omega) _)).trans (Above.setCell (a := ⟨w.heap.size + 1, 2, none⟩) (show w.heap.size + 1 < w.heap.size + 2 by omega) _))))
  · exact ((((((hk8.setCell (Nat.le_refl _) _).setCell (Nat.le_refl _) _).setCell (Nat.le_refl _) _).setCell (Nat.le_succ _) _).setCell (Nat.le_succ _) _).setCell (Nat.le_succ _) _)

end Go.Proofs.Ytldgmilfihkkdaa
