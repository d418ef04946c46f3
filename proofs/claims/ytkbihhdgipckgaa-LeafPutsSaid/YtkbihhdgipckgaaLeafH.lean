/- What the reference of leaf.Get computes. -/
import Derived.Test.YtkbihhdgipckgaaLeafG
namespace Go.Proofs.Ytkbihhdgipckgaa
open Go Go.RowKit

theorem getB_one (c : UInt8) : ((getB [c]).toNat : Int) = (c.toNat : Int) := by
  rw [getB_toNat [c] (by simp)]
  simp [natB]
theorem getB_is_one (c : UInt8) : (getB [c] == 1#64) = (c == 1) := by
  rw [Bool.eq_iff_iff, beq_iff_eq, beq_iff_eq]
  have h := getB_one c
  constructor
  · intro e
    rw [e] at h
    apply UInt8.toNat_inj.1
    have : (1#64).toNat = 1 := rfl
    rw [this] at h
    have : (1 : UInt8).toNat = 1 := rfl
    omega
  · intro e
    subst e
    rfl
theorem conv_byte_int (c : UInt8) (w : World) : (convert 5 3 (V8 c)).run Try.prog w = .ok (.int .i64 (c.toNat : Int)) w := by
  have := c.toNat_lt
  rw [V8, conv_int w 5 3 _ .i64 _ (by kernel_rfl) Try.underlying3, IntWalk.i64_in _ (by omega)]

set_option maxRecDepth 100000 in
set_option maxHeartbeats 4000000 in
theorem rget_leaf_short (vb : Value) (bs : List UInt8) (s : Int) (lo : -9223372036854775808 ≤ s) (hi : s ≤ 9223372036854775807) (hl : bs.length ≤ 4000) (w : World) (hb : Sl w vb bs.length (bcells bs)) (h : bs.length ≠ 32) : Calls Try.prog 12 #[vb, .int .i64 s] w fun e w' => e = .returned (.tuple #[Lf.zero.val, .bool false]) ∧ Kept w w' := by
  have hk : Kept w (w.alloc (.cells #[.int .i64 0, .bool false, .int .i64 0, W 0#32, W 0#32, U 0#64, U 0#64, U 0#64] 29)) := (Below.refl _ _).alloc (Nat.le_refl _) _
  have hZ : Blk (w.alloc (.cells #[.int .i64 0, .bool false, .int .i64 0, W 0#32, W 0#32, U 0#64, U 0#64, U 0#64] 29)) w.heap.size #[.int .i64 0, .bool false, .int .i64 0, W 0#32, W 0#32, U 0#64, U 0#64, U 0#64] 29 := Blk.new _ _ _
  obtain ⟨a, c, hvb⟩ := hb.len
  subst hvb
  have n1 : ((bs.length : Int) != 32) = true := by simp; omega
  clear h
  have z0 := hZ.cell 0
  have y0 := hZ.free 0
  have z1 := hZ.cell 1
  have y1 := hZ.free 1
  have z2 := hZ.cell 2
  have y2 := hZ.free 2
  have z3 := hZ.cell 3
  have y3 := hZ.free 3
  have z4 := hZ.cell 4
  have y4 := hZ.free 4
  have z5 := hZ.cell 5
  have y5 := hZ.free 5
  have z6 := hZ.cell 6
  have y6 := hZ.free 6
  have z7 := hZ.cell 7
  have y7 := hZ.free 7
  clear hZ hb
  go_enter Try.func12, Try.ntmps12
  go_wp2
  refine bodyPost_ret (v := .tuple #[.agg #[.int .i64 0, .bool false, .int .i64 0, W 0#32, W 0#32, U 0#64, U 0#64, U 0#64], .bool false]) (by simp [results, Try.results12, go_sem, z0, z1, z2, z3, z4, z5, z6, z7]; done) rfl ⟨rfl, ?_⟩
  exact hk

set_option maxRecDepth 100000 in
set_option maxHeartbeats 4000000 in
theorem rget_leaf_low (vb : Value) (bs : List UInt8) (s : Int) (lo : -9223372036854775808 ≤ s) (hi : s ≤ 9223372036854775807) (hl : bs.length ≤ 4000) (w : World) (hb : Sl w vb bs.length (bcells bs)) (h : bs.length = 32) (hs : s < 0) : Calls Try.prog 12 #[vb, .int .i64 s] w fun e w' => e = .returned (.tuple #[Lf.zero.val, .bool false]) ∧ Kept w w' := by
  have hk : Kept w (w.alloc (.cells #[.int .i64 0, .bool false, .int .i64 0, W 0#32, W 0#32, U 0#64, U 0#64, U 0#64] 29)) := (Below.refl _ _).alloc (Nat.le_refl _) _
  have hZ : Blk (w.alloc (.cells #[.int .i64 0, .bool false, .int .i64 0, W 0#32, W 0#32, U 0#64, U 0#64, U 0#64] 29)) w.heap.size #[.int .i64 0, .bool false, .int .i64 0, W 0#32, W 0#32, U 0#64, U 0#64, U 0#64] 29 := Blk.new _ _ _
  obtain ⟨a, c, hvb⟩ := hb.len
  subst hvb
  have n1 : ((bs.length : Int) != 32) = false := by simp; omega
  clear h
  have z0 := hZ.cell 0
  have y0 := hZ.free 0
  have z1 := hZ.cell 1
  have y1 := hZ.free 1
  have z2 := hZ.cell 2
  have y2 := hZ.free 2
  have z3 := hZ.cell 3
  have y3 := hZ.free 3
  have z4 := hZ.cell 4
  have y4 := hZ.free 4
  have z5 := hZ.cell 5
  have y5 := hZ.free 5
  have z6 := hZ.cell 6
  have y6 := hZ.free 6
  have z7 := hZ.cell 7
  have y7 := hZ.free 7
  clear hZ hb
  go_enter Try.func12, Try.ntmps12
  go_wp2
  refine bodyPost_ret (v := .tuple #[.agg #[.int .i64 0, .bool false, .int .i64 0, W 0#32, W 0#32, U 0#64, U 0#64, U 0#64], .bool false]) (by simp [results, Try.results12, go_sem, z0, z1, z2, z3, z4, z5, z6, z7]; done) rfl ⟨rfl, ?_⟩
  exact hk

set_option maxRecDepth 100000 in
set_option maxHeartbeats 4000000 in
theorem rget_leaf_high (vb : Value) (bs : List UInt8) (s : Int) (lo : -9223372036854775808 ≤ s) (hi : s ≤ 9223372036854775807) (hl : bs.length ≤ 4000) (w : World) (hb : Sl w vb bs.length (bcells bs)) (h : bs.length = 32) (hs : 16 ≤ s) : Calls Try.prog 12 #[vb, .int .i64 s] w fun e w' => e = .returned (.tuple #[Lf.zero.val, .bool false]) ∧ Kept w w' := by
  have hk : Kept w (w.alloc (.cells #[.int .i64 0, .bool false, .int .i64 0, W 0#32, W 0#32, U 0#64, U 0#64, U 0#64] 29)) := (Below.refl _ _).alloc (Nat.le_refl _) _
  have hZ : Blk (w.alloc (.cells #[.int .i64 0, .bool false, .int .i64 0, W 0#32, W 0#32, U 0#64, U 0#64, U 0#64] 29)) w.heap.size #[.int .i64 0, .bool false, .int .i64 0, W 0#32, W 0#32, U 0#64, U 0#64, U 0#64] 29 := Blk.new _ _ _
  obtain ⟨a, c, hvb⟩ := hb.len
  subst hvb
  have n1 : ((bs.length : Int) != 32) = false := by simp; omega
  clear h
  have z0 := hZ.cell 0
  have y0 := hZ.free 0
  have z1 := hZ.cell 1
  have y1 := hZ.free 1
  have z2 := hZ.cell 2
  have y2 := hZ.free 2
  have z3 := hZ.cell 3
  have y3 := hZ.free 3
  have z4 := hZ.cell 4
  have y4 := hZ.free 4
  have z5 := hZ.cell 5
  have y5 := hZ.free 5
  have z6 := hZ.cell 6
  have y6 := hZ.free 6
  have z7 := hZ.cell 7
  have y7 := hZ.free 7
  clear hZ hb
  go_enter Try.func12, Try.ntmps12
  go_wp2
  refine bodyPost_ret (v := .tuple #[.agg #[.int .i64 0, .bool false, .int .i64 0, W 0#32, W 0#32, U 0#64, U 0#64, U 0#64], .bool false]) (by simp [results, Try.results12, go_sem, z0, z1, z2, z3, z4, z5, z6, z7]; done) rfl ⟨rfl, ?_⟩
  exact hk

set_option maxRecDepth 100000 in
set_option maxHeartbeats 16000000 in
theorem rget_leaf_full (vb : Value) (bs : List UInt8) (s : Int) (lo : 0 ≤ s) (hi : s < 16) (w : World) (hb : Sl w vb bs.length (bcells bs)) (h : bs.length = 32) (hq : decide (((getB (bs.take 1)).toNat : Int) = 1) = true) : Calls Try.prog 12 #[vb, .int .i64 s] w fun e w' => e = .returned (.tuple #[((leafG bs s).getD Lf.zero).val, .bool (leafG bs s).isSome]) ∧ Kept w w' := by
  have hk : Kept w (w.alloc (.cells #[.int .i64 0, .bool false, .int .i64 0, W 0#32, W 0#32, U 0#64, U 0#64, U 0#64] 29)) := (Below.refl _ _).alloc (Nat.le_refl _) _
  have hZ : Blk (w.alloc (.cells #[.int .i64 0, .bool false, .int .i64 0, W 0#32, W 0#32, U 0#64, U 0#64, U 0#64] 29)) w.heap.size #[.int .i64 0, .bool false, .int .i64 0, W 0#32, W 0#32, U 0#64, U 0#64, U 0#64] 29 := Blk.new _ _ _
  obtain ⟨b, off, cap, hvb, hc1, hc2, hc3, hc4⟩ := hb.at (by rw [bcells_length]; omega)
  subst hvb
  have hs : Sl w (.slice (some ⟨b, off, none⟩) bs.length cap) bs.length (bcells bs) := hb
  rw [h] at hc1
  have sr2 : Sl (w.alloc (.cells #[.int .i64 0, .bool false, .int .i64 0, W 0#32, W 0#32, U 0#64, U 0#64, U 0#64] 29)) (.slice (some ⟨b, off + 2, none⟩) 2 (cap - 2)) ((bs.drop 2).take 2).length (bcells ((bs.drop 2).take 2)) := by
    have := (hs.sub 2 2 (cap - 2) (by omega) (by omega)).kept hk
    rw [show ((bcells bs).drop 2).take 2 = bcells ((bs.drop 2).take 2) by simp [bcells]] at this
    rw [show ((bs.drop 2).take 2).length = 2 by simp; omega]
    exact this
  have mr2 : ((bs.drop 2).take 2).length = 2 := by simp; omega
  have sr3 : Sl (w.alloc (.cells #[.int .i64 0, .bool false, .int .i64 0, W 0#32, W 0#32, U 0#64, U 0#64, U 0#64] 29)) (.slice (some ⟨b, off + 4, none⟩) 4 (cap - 4)) ((bs.drop 4).take 4).length (bcells ((bs.drop 4).take 4)) := by
    have := (hs.sub 4 4 (cap - 4) (by omega) (by omega)).kept hk
    rw [show ((bcells bs).drop 4).take 4 = bcells ((bs.drop 4).take 4) by simp [bcells]] at this
    rw [show ((bs.drop 4).take 4).length = 4 by simp; omega]
    exact this
  have mr3 : ((bs.drop 4).take 4).length = 4 := by simp; omega
  have sr4 : Sl (w.alloc (.cells #[.int .i64 0, .bool false, .int .i64 0, W 0#32, W 0#32, U 0#64, U 0#64, U 0#64] 29)) (.slice (some ⟨b, off + 8, none⟩) 8 (cap - 8)) ((bs.drop 8).take 8).length (bcells ((bs.drop 8).take 8)) := by
    have := (hs.sub 8 8 (cap - 8) (by omega) (by omega)).kept hk
    rw [show ((bcells bs).drop 8).take 8 = bcells ((bs.drop 8).take 8) by simp [bcells]] at this
    rw [show ((bs.drop 8).take 8).length = 8 by simp; omega]
    exact this
  have mr4 : ((bs.drop 8).take 8).length = 8 := by simp; omega
  have sr5 : Sl (w.alloc (.cells #[.int .i64 0, .bool false, .int .i64 0, W 0#32, W 0#32, U 0#64, U 0#64, U 0#64] 29)) (.slice (some ⟨b, off + 16, none⟩) 16 (cap - 16)) (bs.drop 16).length (bcells (bs.drop 16)) := by
    have := (hs.sub 16 16 (cap - 16) (by omega) (by omega)).kept hk
    rw [show ((bcells bs).drop 16).take 16 = bcells (bs.drop 16) by simp [bcells, List.take_of_length_le, h]] at this
    rw [show (bs.drop 16).length = 16 by simp; omega]
    exact this
  have mr5 : (bs.drop 16).length = 16 := by simp; omega
  have c0 := hk.at (hc4 0 (V8 (bs[0]'(by omega))) (bcells_get bs 0 (by omega)))
  have c1 := hk.at (hc4 1 (V8 (bs[1]'(by omega))) (bcells_get bs 1 (by omega)))
  rw [Nat.add_zero] at c0
  have g0 : bs.take 1 = [bs[0]'(by omega)] := by
    match bs, h with
    | a :: l, _ => rfl
  have g1 : (bs.drop 1).take 1 = [bs[1]'(by omega)] := by
    match bs, h with
    | a :: a' :: l, _ => rfl
  have hof : leafOf bs s = ⟨((bs[0]'(by omega)).toNat : Int), bs[1]'(by omega) == 1, ((getB ((bs.drop 2).take 2)).toNat : Int), (getB ((bs.drop 4).take 4)).setWidth 32, BitVec.ofInt 32 s, getB ((bs.drop 8).take 8), pairG (bs.drop 16)⟩ := by
    unfold leafOf
    rw [if_pos (by simpa using hq), g0, g1, getB_one, getB_is_one]
  rw [g0, getB_one] at hq
  clear g0 g1
  obtain ⟨v0, hv0⟩ : ∃ v, v = bs[0]'(by omega) := ⟨_, rfl⟩
  obtain ⟨v1, hv1⟩ : ∃ v, v = bs[1]'(by omega) := ⟨_, rfl⟩
  rw [← hv0] at c0 hof hq
  rw [← hv1] at c1 hof
  obtain ⟨r2, er2⟩ : ∃ r, r = (bs.drop 2).take 2 := ⟨_, rfl⟩
  rw [← er2] at sr2 mr2 hof
  obtain ⟨r3, er3⟩ : ∃ r, r = (bs.drop 4).take 4 := ⟨_, rfl⟩
  rw [← er3] at sr3 mr3 hof
  obtain ⟨r4, er4⟩ : ∃ r, r = (bs.drop 8).take 8 := ⟨_, rfl⟩
  rw [← er4] at sr4 mr4 hof
  obtain ⟨r5, er5⟩ : ∃ r, r = bs.drop 16 := ⟨_, rfl⟩
  rw [← er5] at sr5 mr5 hof
  have L2 := getn_lt r2 2 mr2 (by omega)
  have cv0 := conv_byte_int v0
  have cv2 : ∀ wx : World, (convert 23 3 (U (getB r2))).run Try.prog wx = .ok (.int .i64 ((getB r2).toNat : Int)) wx := fun wx => by
    rw [U, conv_int wx 23 3 _ .i64 _ (by kernel_rfl) Try.underlying3, IntWalk.i64_in _ (by omega)]
  obtain ⟨k0, ek⟩ : ∃ k : Int, k = (v0.toNat : Int) := ⟨_, rfl⟩
  obtain ⟨z0', ez⟩ : ∃ k : Int, k = ((getB r2).toNat : Int) := ⟨_, rfl⟩
  obtain ⟨d0, ed⟩ : ∃ d : Bool, d = (v1 == 1) := ⟨_, rfl⟩
  have cd : ∀ t, binOp .eql t (V8 v1) (.int .u8 1) = pure (.bool d0) := fun t => by
    rw [ed]; exact binV8_eql t v1 1
  have cd' : ∀ t, binOp .eql t (V8 v1) (V8 1) = pure (.bool d0) := fun t => by
    rw [ed]; exact binV8_eql t v1 1
  rw [← ek] at hof hq cv0
  rw [← ez] at hof cv2
  rw [← ed] at hof
  have m0 : (32 : Int) ≤ (cap : Int) := by omega
  have m1 : (cap : Int) ≤ 9223372036854775807 := by unfold maxLen at hc2; omega
  have m2 : ¬ cap = 16 := by omega
  have m3 : ¬ cap = 8 := by omega
  have m4 : ¬ cap = 4 := by omega
  have m5 : ¬ cap = 2 := by omega
  have n1 : ((bs.length : Int) != 32) = false := by simp; omega
  have hb1 := hb.kept hk
  rw [h]
  rw [h] at hb1 n1
  have Mr2 := Lib.hid mr2
  have Mr3 := Lib.hid mr3
  have Mr4 := Lib.hid mr4
  have Mr5 := Lib.hid mr5
  have H := Lib.hid h
  have HOF := Lib.hid hof
  have HQ := Lib.hid hq
  have CV0 := Lib.hid cv0
  have CV2 := Lib.hid cv2
  have CD := Lib.hid cd
  have CD' := Lib.hid cd'
  have lo' : -9223372036854775808 ≤ s := by omega
  have hi' : s ≤ 9223372036854775807 := by omega
  clear hs hc4 hb h hof hq cv0 cv2 cd cd' ek ez ed L2 mr2 mr3 mr4 mr5 er2 er3 er4 er5 hv0 hv1
  go_enter Try.func12, Try.ntmps12
  go_wp2_with fail
  refine (rget_some _ r2 _ sr2 (by rw [Mr2.out]; omega) (by rw [Mr2.out]; omega)).mono ?_
  rintro e w4 ⟨rfl, rfl⟩
  go_wp2_with fail
  refine (rget_some _ r3 _ sr3 (by rw [Mr3.out]; omega) (by rw [Mr3.out]; omega)).mono ?_
  rintro e w4 ⟨rfl, rfl⟩
  go_wp2_with fail
  refine (rget_some _ r4 _ sr4 (by rw [Mr4.out]; omega) (by rw [Mr4.out]; omega)).mono ?_
  rintro e w4 ⟨rfl, rfl⟩
  go_wp2_with fail
  refine (rpair_some _ r5 _ sr5 Mr5.out).mono ?_
  rintro e w4 ⟨rfl, hk4⟩
  go_wp2_with fail
  have hP := Blk.new w4 #[U (pairG r5).1, U (pairG r5).2] 27
  have hka : Kept w4 (w4.alloc (.cells #[U (pairG r5).1, U (pairG r5).2] 27)) := (Below.refl _ _).alloc (Nat.le_refl _) _
  replace hZ := (hZ.kept hk4).kept hka
  replace c0 := hka.at (hk4.at c0)
  replace c1 := hka.at (hk4.at c1)
  replace hb1 := (hb1.kept hk4).kept hka
  replace hk := Kept.of (Kept.of hk hk4) hka
  clear hka hk4 sr2 sr3 sr4 sr5
  generalize w4.alloc (.cells #[U (pairG r5).1, U (pairG r5).2] 27) = W5 at *
  refine wp_region_chainK [(0, 0), (1, 0), (2, 0), (3, 0), (4, 0), (5, 0), (6, 0), (7, 0), (8, 0), (9, 0), (10, 0), (11, 0), (12, 0), (13, 0), (14, 0), (15, 0), (16, 1), (17, 2)] (by kernel_rfl) (by kernel_rfl) ?_
  intro w6 hw6
  replace hP := hP.kept hw6
  replace hZ := hZ.kept hw6
  replace hb1 := hb1.kept hw6
  replace c0 := hw6.at c0
  replace c1 := hw6.at c1
  replace hk := Kept.of hk hw6
  clear hw6
  repeat
    refine chain_light _ rfl (fun K hK => ?_)
    first
      | (refine (if_pos (by rfl)).mpr ?_; apply Exists.intro; refine ⟨fun w' hw' => ?_, hK _ ?_⟩; (have a0 := hw'.at c0; have a1 := hw'.at c1; have p := hP.kept hw'; have p0 := p.cell 0; have p1 := p.cell 1; clear p; have f0 := CV0.out; have f2 := CV2.out; have d1 := CD.out; have d2 := CD'.out; go_simp; done); (clear hK K; simp only [Act.put, List.setIfInBounds_toArray, List.set_cons_zero, List.set_cons_succ]))
      | (refine (if_pos (by rfl)).mpr ?_; apply Exists.intro; refine ⟨fun w' hw' => ?_, hK _ ?_⟩; (have a0 := hw'.at c0; have a1 := hw'.at c1; have p := hP.kept hw'; have p0 := p.cell 0; have p1 := p.cell 1; clear p; have f0 := CV0.out; have f2 := CV2.out; have d1 := CD.out; have d2 := CD'.out; go_simp; rfl); (clear hK K; simp only [Act.put, List.setIfInBounds_toArray, List.set_cons_zero, List.set_cons_succ]))
      | (refine (if_neg (by rw [Bool.not_eq_true]; rfl)).mpr ?_; refine hK _ ?_; (clear hK K; simp only [Act.put, List.setIfInBounds_toArray, List.set_cons_zero, List.set_cons_succ]))
  refine chain_heavy _ rfl (fun K hK => ?_)
  refine (if_pos (by rfl)).mpr ?_
  go_wp2
  refine hK _ _ ((Below.refl _ _).alloc (Nat.le_refl _) _) ?_
  clear hK K
  try simp only [Act.put, List.setIfInBounds_toArray, List.set_cons_zero, List.set_cons_succ]
  refine chain_last _ rfl (fun K hK => ?_)
  refine (if_pos (by rfl)).mpr ?_
  go_wp2
  refine chain_nil ?_
  have hL := Blk.new w6 #[.int .i64 k0, .bool d0, .int .i64 z0', W (BitVec.setWidth 32 (getB r3)), W (0#32), U (getB r4), U (pairG r5).1, U (pairG r5).2] 29
  have hka : Kept w6 (w6.alloc (.cells #[.int .i64 k0, .bool d0, .int .i64 z0', W (BitVec.setWidth 32 (getB r3)), W (0#32), U (getB r4), U (pairG r5).1, U (pairG r5).2] 29)) := (Below.refl _ _).alloc (Nat.le_refl _) _
  obtain ⟨Z8, h8⟩ : ∃ Z, Z = w6.heap.size := ⟨_, rfl⟩
  have hz8 : w.heap.size < Z8 := by rw [h8]; exact hZ.lt
  replace hZ := hZ.kept hka
  replace hb1 := hb1.kept hka
  replace hk := Kept.of hk hka
  have hbb0 : b < Z8 := by omega
  generalize w6.alloc (.cells #[.int .i64 k0, .bool d0, .int .i64 z0', W (BitVec.setWidth 32 (getB r3)), W (0#32), U (getB r4), U (pairG r5).1, U (pairG r5).2] 29) = W7 at *
  rw [← h8] at hL
  simp only [← h8]
  clear h8 hka hP c0 c1
  have q1 : (k0 == 1) = true := by have := HQ.out; simpa using this
  have l0 := hL.cell 0
  have l1 := hL.cell 1
  have l2 := hL.cell 2
  have l3 := hL.cell 3
  have l4 := hL.cell 4
  have l5 := hL.cell 5
  have l6 := hL.cell 6
  have l7 := hL.cell 7
  have lf4 := hL.free 4
  have cvs := fun wx => conv_i64_u32 (P := Try.prog) wx 3 22 s (by kernel_rfl) Try.underlying22
  go_wp2_with fail
  clear l0 l1 l2 l3 l4 l5 l6 l7 q1 lf4 cvs
  have hbl : Below Z8 W7 (W7.setCell ⟨Z8, 4, none⟩ (W (BitVec.ofInt 32 s))) := below_set (Below.refl _ _) 4 _
  have hL7 : Blk (W7.setCell ⟨Z8, 4, none⟩ (W (BitVec.ofInt 32 s))) Z8 #[.int .i64 k0, .bool d0, .int .i64 z0', W (BitVec.setWidth 32 (getB r3)), W (BitVec.ofInt 32 s), U (getB r4), U (pairG r5).1, U (pairG r5).2] 29 := by
    have := hL.set 4 (W (BitVec.ofInt 32 s))
    simpa using this
  replace hZ := hZ.below hbl hz8
  replace hb1 := hb1.below hbl (fun a c h1 h2 => by cases h1; exact hbb0)
  replace hk := hk.trans (hbl.mono (by omega))
  clear hL hbl
  generalize W7.setCell ⟨Z8, 4, none⟩ (W (BitVec.ofInt 32 s)) = W8 at *
  have hL := hL7
  clear hL7
  obtain ⟨lf, hlf⟩ : ∃ l, l = leafB (⟨k0, d0, z0', BitVec.setWidth 32 (getB r3), BitVec.ofInt 32 s, getB r4, ((pairG r5).1, (pairG r5).2)⟩ : Lf) := ⟨_, rfl⟩
  cases hI : isLeaf (⟨k0, d0, z0', BitVec.setWidth 32 (getB r3), BitVec.ofInt 32 s, getB r4, ((pairG r5).1, (pairG r5).2)⟩ : Lf) s
  · have hG : leafG bs s = none := by
      unfold leafG
      rw [if_neg (fun hh => by have := hh.2.1; rw [HOF.out] at this; rw [hI] at this; cases this)]
    refine (rput_leaf_none _ _ _ _ _ _ _ _ s lo' hi' hI _).mono ?_
    rintro e w7 ⟨rfl, hk7⟩
    replace hZ := hZ.kept hk7
    replace hk := Kept.of hk hk7
    have HG := Lib.hid hG
    clear hk7 hL hb1 hlf hI hG
    have z0 := hZ.cell 0
    have y0 := hZ.free 0
    have z1 := hZ.cell 1
    have y1 := hZ.free 1
    have z2 := hZ.cell 2
    have y2 := hZ.free 2
    have z3 := hZ.cell 3
    have y3 := hZ.free 3
    have z4 := hZ.cell 4
    have y4 := hZ.free 4
    have z5 := hZ.cell 5
    have y5 := hZ.free 5
    have z6 := hZ.cell 6
    have y6 := hZ.free 6
    have z7 := hZ.cell 7
    have y7 := hZ.free 7
    go_wp2
    refine bodyPost_ret (v := .tuple #[.agg #[.int .i64 0, .bool false, .int .i64 0, W 0#32, W 0#32, U 0#64, U 0#64, U 0#64], .bool false]) (by simp [results, Try.results12, go_sem, z0, z1, z2, z3, z4, z5, z6, z7]; done) rfl ⟨by rw [HG.out]; rfl, ?_⟩
    exact ((((((((hk.setCell (Nat.le_refl _) _).setCell (Nat.le_refl _) _).setCell (Nat.le_refl _) _).setCell (Nat.le_refl _) _).setCell (Nat.le_refl _) _).setCell (Nat.le_refl _) _).setCell (Nat.le_refl _) _).setCell (Nat.le_refl _) _)
  · refine (rput_leaf_lit _ _ _ _ _ _ _ _ s lo' hi' hI _).mono ?_
    rintro e w7 ⟨x7, rfl, hown7, hk7⟩
    have sx := Sl.of_own hown7
    rw [← hlf] at sx
    have sxl : lf.length = 32 := by rw [hlf]; exact leafB_length _
    rw [← sxl] at sx
    clear sxl
    replace hL := hL.kept hk7
    replace hZ := hZ.kept hk7
    replace hb1 := hb1.kept hk7
    replace hk := Kept.of hk hk7
    have HI := Lib.hid hI
    have HLF := Lib.hid hlf
    have c1 := str_of sx
    have c2 := str_of (bs := bs) (by rw [H.out]; exact hb1)
    clear hown7 hk7 hI hlf sx hb1
    cases hE : (lf == bs)
    · have hG : leafG bs s = none := by
        unfold leafG
        rw [if_neg (fun hh => by
          have := hh.2.2
          rw [HOF.out] at this
          rw [HLF.out, this] at hE
          simp at hE)]
      have HG := Lib.hid hG
      clear hG hL
      have z0 := hZ.cell 0
      have y0 := hZ.free 0
      have z1 := hZ.cell 1
      have y1 := hZ.free 1
      have z2 := hZ.cell 2
      have y2 := hZ.free 2
      have z3 := hZ.cell 3
      have y3 := hZ.free 3
      have z4 := hZ.cell 4
      have y4 := hZ.free 4
      have z5 := hZ.cell 5
      have y5 := hZ.free 5
      have z6 := hZ.cell 6
      have y6 := hZ.free 6
      have z7 := hZ.cell 7
      have y7 := hZ.free 7
      go_wp2
      refine bodyPost_ret (v := .tuple #[.agg #[.int .i64 0, .bool false, .int .i64 0, W 0#32, W 0#32, U 0#64, U 0#64, U 0#64], .bool false]) (by simp [results, Try.results12, go_sem, z0, z1, z2, z3, z4, z5, z6, z7]; done) rfl ⟨by rw [HG.out]; rfl, ?_⟩
      exact ((((((((hk.setCell (Nat.le_refl _) _).setCell (Nat.le_refl _) _).setCell (Nat.le_refl _) _).setCell (Nat.le_refl _) _).setCell (Nat.le_refl _) _).setCell (Nat.le_refl _) _).setCell (Nat.le_refl _) _).setCell (Nat.le_refl _) _)
    · have hG : leafG bs s = some (⟨k0, d0, z0', BitVec.setWidth 32 (getB r3), BitVec.ofInt 32 s, getB r4, ((pairG r5).1, (pairG r5).2)⟩ : Lf) := by
        unfold leafG
        have e1 : leafB (⟨k0, d0, z0', BitVec.setWidth 32 (getB r3), BitVec.ofInt 32 s, getB r4, ((pairG r5).1, (pairG r5).2)⟩ : Lf) = bs := by rw [← HLF.out]; simpa using hE
        rw [if_pos ⟨H.out, by rw [HOF.out]; exact HI.out, by rw [HOF.out]; exact e1⟩, HOF.out]
      have HG := Lib.hid hG
      clear hG
      have z0 := hZ.cell 0
      have y0 := hZ.free 0
      have z1 := hZ.cell 1
      have y1 := hZ.free 1
      have z2 := hZ.cell 2
      have y2 := hZ.free 2
      have z3 := hZ.cell 3
      have y3 := hZ.free 3
      have z4 := hZ.cell 4
      have y4 := hZ.free 4
      have z5 := hZ.cell 5
      have y5 := hZ.free 5
      have z6 := hZ.cell 6
      have y6 := hZ.free 6
      have z7 := hZ.cell 7
      have y7 := hZ.free 7
      have l0 := hL.cell 0
      have l1 := hL.cell 1
      have l2 := hL.cell 2
      have l3 := hL.cell 3
      have l4 := hL.cell 4
      have l5 := hL.cell 5
      have l6 := hL.cell 6
      have l7 := hL.cell 7
      go_wp2
      refine bodyPost_ret (v := .tuple #[.agg #[.int .i64 k0, .bool d0, .int .i64 z0', W (BitVec.setWidth 32 (getB r3)), W (BitVec.ofInt 32 s), U (getB r4), U (pairG r5).1, U (pairG r5).2], .bool true]) (by simp [results, Try.results12, go_sem, z0, z1, z2, z3, z4, z5, z6, z7]; done) rfl ⟨by rw [HG.out]; rfl, ?_⟩
      exact ((((((((hk.setCell (Nat.le_refl _) _).setCell (Nat.le_refl _) _).setCell (Nat.le_refl _) _).setCell (Nat.le_refl _) _).setCell (Nat.le_refl _) _).setCell (Nat.le_refl _) _).setCell (Nat.le_refl _) _).setCell (Nat.le_refl _) _)

set_option maxRecDepth 100000 in
set_option maxHeartbeats 16000000 in
theorem rget_leaf_other (vb : Value) (bs : List UInt8) (s : Int) (lo : 0 ≤ s) (hi : s < 16) (w : World) (hb : Sl w vb bs.length (bcells bs)) (h : bs.length = 32) (hq : decide (((getB (bs.take 1)).toNat : Int) = 1) = false) : Calls Try.prog 12 #[vb, .int .i64 s] w fun e w' => e = .returned (.tuple #[((leafG bs s).getD Lf.zero).val, .bool (leafG bs s).isSome]) ∧ Kept w w' := by
  have hk : Kept w (w.alloc (.cells #[.int .i64 0, .bool false, .int .i64 0, W 0#32, W 0#32, U 0#64, U 0#64, U 0#64] 29)) := (Below.refl _ _).alloc (Nat.le_refl _) _
  have hZ : Blk (w.alloc (.cells #[.int .i64 0, .bool false, .int .i64 0, W 0#32, W 0#32, U 0#64, U 0#64, U 0#64] 29)) w.heap.size #[.int .i64 0, .bool false, .int .i64 0, W 0#32, W 0#32, U 0#64, U 0#64, U 0#64] 29 := Blk.new _ _ _
  obtain ⟨b, off, cap, hvb, hc1, hc2, hc3, hc4⟩ := hb.at (by rw [bcells_length]; omega)
  subst hvb
  have hs : Sl w (.slice (some ⟨b, off, none⟩) bs.length cap) bs.length (bcells bs) := hb
  rw [h] at hc1
  have sr2 : Sl (w.alloc (.cells #[.int .i64 0, .bool false, .int .i64 0, W 0#32, W 0#32, U 0#64, U 0#64, U 0#64] 29)) (.slice (some ⟨b, off + 2, none⟩) 2 (cap - 2)) ((bs.drop 2).take 2).length (bcells ((bs.drop 2).take 2)) := by
    have := (hs.sub 2 2 (cap - 2) (by omega) (by omega)).kept hk
    rw [show ((bcells bs).drop 2).take 2 = bcells ((bs.drop 2).take 2) by simp [bcells]] at this
    rw [show ((bs.drop 2).take 2).length = 2 by simp; omega]
    exact this
  have mr2 : ((bs.drop 2).take 2).length = 2 := by simp; omega
  have sr3 : Sl (w.alloc (.cells #[.int .i64 0, .bool false, .int .i64 0, W 0#32, W 0#32, U 0#64, U 0#64, U 0#64] 29)) (.slice (some ⟨b, off + 4, none⟩) 4 (cap - 4)) ((bs.drop 4).take 4).length (bcells ((bs.drop 4).take 4)) := by
    have := (hs.sub 4 4 (cap - 4) (by omega) (by omega)).kept hk
    rw [show ((bcells bs).drop 4).take 4 = bcells ((bs.drop 4).take 4) by simp [bcells]] at this
    rw [show ((bs.drop 4).take 4).length = 4 by simp; omega]
    exact this
  have mr3 : ((bs.drop 4).take 4).length = 4 := by simp; omega
  have sr4 : Sl (w.alloc (.cells #[.int .i64 0, .bool false, .int .i64 0, W 0#32, W 0#32, U 0#64, U 0#64, U 0#64] 29)) (.slice (some ⟨b, off + 8, none⟩) 8 (cap - 8)) ((bs.drop 8).take 8).length (bcells ((bs.drop 8).take 8)) := by
    have := (hs.sub 8 8 (cap - 8) (by omega) (by omega)).kept hk
    rw [show ((bcells bs).drop 8).take 8 = bcells ((bs.drop 8).take 8) by simp [bcells]] at this
    rw [show ((bs.drop 8).take 8).length = 8 by simp; omega]
    exact this
  have mr4 : ((bs.drop 8).take 8).length = 8 := by simp; omega
  have sr5 : Sl (w.alloc (.cells #[.int .i64 0, .bool false, .int .i64 0, W 0#32, W 0#32, U 0#64, U 0#64, U 0#64] 29)) (.slice (some ⟨b, off + 16, none⟩) 16 (cap - 16)) (bs.drop 16).length (bcells (bs.drop 16)) := by
    have := (hs.sub 16 16 (cap - 16) (by omega) (by omega)).kept hk
    rw [show ((bcells bs).drop 16).take 16 = bcells (bs.drop 16) by simp [bcells, List.take_of_length_le, h]] at this
    rw [show (bs.drop 16).length = 16 by simp; omega]
    exact this
  have mr5 : (bs.drop 16).length = 16 := by simp; omega
  have c0 := hk.at (hc4 0 (V8 (bs[0]'(by omega))) (bcells_get bs 0 (by omega)))
  have c1 := hk.at (hc4 1 (V8 (bs[1]'(by omega))) (bcells_get bs 1 (by omega)))
  rw [Nat.add_zero] at c0
  have g0 : bs.take 1 = [bs[0]'(by omega)] := by
    match bs, h with
    | a :: l, _ => rfl
  have g1 : (bs.drop 1).take 1 = [bs[1]'(by omega)] := by
    match bs, h with
    | a :: a' :: l, _ => rfl
  have hof : leafOf bs s = ⟨((bs[0]'(by omega)).toNat : Int), bs[1]'(by omega) == 1, ((getB ((bs.drop 2).take 2)).toNat : Int), (getB ((bs.drop 4).take 4)).setWidth 32, 0#32, getB ((bs.drop 8).take 8), pairG (bs.drop 16)⟩ := by
    unfold leafOf
    rw [if_neg (by simpa using hq), g0, g1, getB_one, getB_is_one]
  rw [g0, getB_one] at hq
  clear g0 g1
  obtain ⟨v0, hv0⟩ : ∃ v, v = bs[0]'(by omega) := ⟨_, rfl⟩
  obtain ⟨v1, hv1⟩ : ∃ v, v = bs[1]'(by omega) := ⟨_, rfl⟩
  rw [← hv0] at c0 hof hq
  rw [← hv1] at c1 hof
  obtain ⟨r2, er2⟩ : ∃ r, r = (bs.drop 2).take 2 := ⟨_, rfl⟩
  rw [← er2] at sr2 mr2 hof
  obtain ⟨r3, er3⟩ : ∃ r, r = (bs.drop 4).take 4 := ⟨_, rfl⟩
  rw [← er3] at sr3 mr3 hof
  obtain ⟨r4, er4⟩ : ∃ r, r = (bs.drop 8).take 8 := ⟨_, rfl⟩
  rw [← er4] at sr4 mr4 hof
  obtain ⟨r5, er5⟩ : ∃ r, r = bs.drop 16 := ⟨_, rfl⟩
  rw [← er5] at sr5 mr5 hof
  have L2 := getn_lt r2 2 mr2 (by omega)
  have cv0 := conv_byte_int v0
  have cv2 : ∀ wx : World, (convert 23 3 (U (getB r2))).run Try.prog wx = .ok (.int .i64 ((getB r2).toNat : Int)) wx := fun wx => by
    rw [U, conv_int wx 23 3 _ .i64 _ (by kernel_rfl) Try.underlying3, IntWalk.i64_in _ (by omega)]
  obtain ⟨k0, ek⟩ : ∃ k : Int, k = (v0.toNat : Int) := ⟨_, rfl⟩
  obtain ⟨z0', ez⟩ : ∃ k : Int, k = ((getB r2).toNat : Int) := ⟨_, rfl⟩
  obtain ⟨d0, ed⟩ : ∃ d : Bool, d = (v1 == 1) := ⟨_, rfl⟩
  have cd : ∀ t, binOp .eql t (V8 v1) (.int .u8 1) = pure (.bool d0) := fun t => by
    rw [ed]; exact binV8_eql t v1 1
  have cd' : ∀ t, binOp .eql t (V8 v1) (V8 1) = pure (.bool d0) := fun t => by
    rw [ed]; exact binV8_eql t v1 1
  rw [← ek] at hof hq cv0
  rw [← ez] at hof cv2
  rw [← ed] at hof
  have m0 : (32 : Int) ≤ (cap : Int) := by omega
  have m1 : (cap : Int) ≤ 9223372036854775807 := by unfold maxLen at hc2; omega
  have m2 : ¬ cap = 16 := by omega
  have m3 : ¬ cap = 8 := by omega
  have m4 : ¬ cap = 4 := by omega
  have m5 : ¬ cap = 2 := by omega
  have n1 : ((bs.length : Int) != 32) = false := by simp; omega
  have hb1 := hb.kept hk
  rw [h]
  rw [h] at hb1 n1
  have Mr2 := Lib.hid mr2
  have Mr3 := Lib.hid mr3
  have Mr4 := Lib.hid mr4
  have Mr5 := Lib.hid mr5
  have H := Lib.hid h
  have HOF := Lib.hid hof
  have HQ := Lib.hid hq
  have CV0 := Lib.hid cv0
  have CV2 := Lib.hid cv2
  have CD := Lib.hid cd
  have CD' := Lib.hid cd'
  have lo' : -9223372036854775808 ≤ s := by omega
  have hi' : s ≤ 9223372036854775807 := by omega
  clear hs hc4 hb h hof hq cv0 cv2 cd cd' ek ez ed L2 mr2 mr3 mr4 mr5 er2 er3 er4 er5 hv0 hv1
  go_enter Try.func12, Try.ntmps12
  go_wp2_with fail
  refine (rget_some _ r2 _ sr2 (by rw [Mr2.out]; omega) (by rw [Mr2.out]; omega)).mono ?_
  rintro e w4 ⟨rfl, rfl⟩
  go_wp2_with fail
  refine (rget_some _ r3 _ sr3 (by rw [Mr3.out]; omega) (by rw [Mr3.out]; omega)).mono ?_
  rintro e w4 ⟨rfl, rfl⟩
  go_wp2_with fail
  refine (rget_some _ r4 _ sr4 (by rw [Mr4.out]; omega) (by rw [Mr4.out]; omega)).mono ?_
  rintro e w4 ⟨rfl, rfl⟩
  go_wp2_with fail
  refine (rpair_some _ r5 _ sr5 Mr5.out).mono ?_
  rintro e w4 ⟨rfl, hk4⟩
  go_wp2_with fail
  have hP := Blk.new w4 #[U (pairG r5).1, U (pairG r5).2] 27
  have hka : Kept w4 (w4.alloc (.cells #[U (pairG r5).1, U (pairG r5).2] 27)) := (Below.refl _ _).alloc (Nat.le_refl _) _
  replace hZ := (hZ.kept hk4).kept hka
  replace c0 := hka.at (hk4.at c0)
  replace c1 := hka.at (hk4.at c1)
  replace hb1 := (hb1.kept hk4).kept hka
  replace hk := Kept.of (Kept.of hk hk4) hka
  clear hka hk4 sr2 sr3 sr4 sr5
  generalize w4.alloc (.cells #[U (pairG r5).1, U (pairG r5).2] 27) = W5 at *
  refine wp_region_chainK [(0, 0), (1, 0), (2, 0), (3, 0), (4, 0), (5, 0), (6, 0), (7, 0), (8, 0), (9, 0), (10, 0), (11, 0), (12, 0), (13, 0), (14, 0), (15, 0), (16, 1), (17, 2)] (by kernel_rfl) (by kernel_rfl) ?_
  intro w6 hw6
  replace hP := hP.kept hw6
  replace hZ := hZ.kept hw6
  replace hb1 := hb1.kept hw6
  replace c0 := hw6.at c0
  replace c1 := hw6.at c1
  replace hk := Kept.of hk hw6
  clear hw6
  repeat
    refine chain_light _ rfl (fun K hK => ?_)
    first
      | (refine (if_pos (by rfl)).mpr ?_; apply Exists.intro; refine ⟨fun w' hw' => ?_, hK _ ?_⟩; (have a0 := hw'.at c0; have a1 := hw'.at c1; have p := hP.kept hw'; have p0 := p.cell 0; have p1 := p.cell 1; clear p; have f0 := CV0.out; have f2 := CV2.out; have d1 := CD.out; have d2 := CD'.out; go_simp; done); (clear hK K; simp only [Act.put, List.setIfInBounds_toArray, List.set_cons_zero, List.set_cons_succ]))
      | (refine (if_pos (by rfl)).mpr ?_; apply Exists.intro; refine ⟨fun w' hw' => ?_, hK _ ?_⟩; (have a0 := hw'.at c0; have a1 := hw'.at c1; have p := hP.kept hw'; have p0 := p.cell 0; have p1 := p.cell 1; clear p; have f0 := CV0.out; have f2 := CV2.out; have d1 := CD.out; have d2 := CD'.out; go_simp; rfl); (clear hK K; simp only [Act.put, List.setIfInBounds_toArray, List.set_cons_zero, List.set_cons_succ]))
      | (refine (if_neg (by rw [Bool.not_eq_true]; rfl)).mpr ?_; refine hK _ ?_; (clear hK K; simp only [Act.put, List.setIfInBounds_toArray, List.set_cons_zero, List.set_cons_succ]))
  refine chain_heavy _ rfl (fun K hK => ?_)
  refine (if_pos (by rfl)).mpr ?_
  go_wp2
  refine hK _ _ ((Below.refl _ _).alloc (Nat.le_refl _) _) ?_
  clear hK K
  try simp only [Act.put, List.setIfInBounds_toArray, List.set_cons_zero, List.set_cons_succ]
  refine chain_last _ rfl (fun K hK => ?_)
  refine (if_pos (by rfl)).mpr ?_
  go_wp2
  refine chain_nil ?_
  have hL := Blk.new w6 #[.int .i64 k0, .bool d0, .int .i64 z0', W (BitVec.setWidth 32 (getB r3)), W (0#32), U (getB r4), U (pairG r5).1, U (pairG r5).2] 29
  have hka : Kept w6 (w6.alloc (.cells #[.int .i64 k0, .bool d0, .int .i64 z0', W (BitVec.setWidth 32 (getB r3)), W (0#32), U (getB r4), U (pairG r5).1, U (pairG r5).2] 29)) := (Below.refl _ _).alloc (Nat.le_refl _) _
  obtain ⟨Z8, h8⟩ : ∃ Z, Z = w6.heap.size := ⟨_, rfl⟩
  have hz8 : w.heap.size < Z8 := by rw [h8]; exact hZ.lt
  replace hZ := hZ.kept hka
  replace hb1 := hb1.kept hka
  replace hk := Kept.of hk hka
  have hbb0 : b < Z8 := by omega
  generalize w6.alloc (.cells #[.int .i64 k0, .bool d0, .int .i64 z0', W (BitVec.setWidth 32 (getB r3)), W (0#32), U (getB r4), U (pairG r5).1, U (pairG r5).2] 29) = W7 at *
  rw [← h8] at hL
  simp only [← h8]
  clear h8 hka hP c0 c1
  have q1 : (k0 == 1) = false := by have := HQ.out; simpa using this
  have l0 := hL.cell 0
  have l1 := hL.cell 1
  have l2 := hL.cell 2
  have l3 := hL.cell 3
  have l4 := hL.cell 4
  have l5 := hL.cell 5
  have l6 := hL.cell 6
  have l7 := hL.cell 7
  have lf4 := hL.free 4
  have cvs := fun wx => conv_i64_u32 (P := Try.prog) wx 3 22 s (by kernel_rfl) Try.underlying22
  go_wp2_with fail
  clear l0 l1 l2 l3 l4 l5 l6 l7 q1 lf4 cvs
  obtain ⟨lf, hlf⟩ : ∃ l, l = leafB (⟨k0, d0, z0', BitVec.setWidth 32 (getB r3), 0#32, getB r4, ((pairG r5).1, (pairG r5).2)⟩ : Lf) := ⟨_, rfl⟩
  cases hI : isLeaf (⟨k0, d0, z0', BitVec.setWidth 32 (getB r3), 0#32, getB r4, ((pairG r5).1, (pairG r5).2)⟩ : Lf) s
  · have hG : leafG bs s = none := by
      unfold leafG
      rw [if_neg (fun hh => by have := hh.2.1; rw [HOF.out] at this; rw [hI] at this; cases this)]
    refine (rput_leaf_none _ _ _ _ _ _ _ _ s lo' hi' hI _).mono ?_
    rintro e w7 ⟨rfl, hk7⟩
    replace hZ := hZ.kept hk7
    replace hk := Kept.of hk hk7
    have HG := Lib.hid hG
    clear hk7 hL hb1 hlf hI hG
    have z0 := hZ.cell 0
    have y0 := hZ.free 0
    have z1 := hZ.cell 1
    have y1 := hZ.free 1
    have z2 := hZ.cell 2
    have y2 := hZ.free 2
    have z3 := hZ.cell 3
    have y3 := hZ.free 3
    have z4 := hZ.cell 4
    have y4 := hZ.free 4
    have z5 := hZ.cell 5
    have y5 := hZ.free 5
    have z6 := hZ.cell 6
    have y6 := hZ.free 6
    have z7 := hZ.cell 7
    have y7 := hZ.free 7
    go_wp2
    refine bodyPost_ret (v := .tuple #[.agg #[.int .i64 0, .bool false, .int .i64 0, W 0#32, W 0#32, U 0#64, U 0#64, U 0#64], .bool false]) (by simp [results, Try.results12, go_sem, z0, z1, z2, z3, z4, z5, z6, z7]; done) rfl ⟨by rw [HG.out]; rfl, ?_⟩
    exact ((((((((hk.setCell (Nat.le_refl _) _).setCell (Nat.le_refl _) _).setCell (Nat.le_refl _) _).setCell (Nat.le_refl _) _).setCell (Nat.le_refl _) _).setCell (Nat.le_refl _) _).setCell (Nat.le_refl _) _).setCell (Nat.le_refl _) _)
  · refine (rput_leaf_lit _ _ _ _ _ _ _ _ s lo' hi' hI _).mono ?_
    rintro e w7 ⟨x7, rfl, hown7, hk7⟩
    have sx := Sl.of_own hown7
    rw [← hlf] at sx
    have sxl : lf.length = 32 := by rw [hlf]; exact leafB_length _
    rw [← sxl] at sx
    clear sxl
    replace hL := hL.kept hk7
    replace hZ := hZ.kept hk7
    replace hb1 := hb1.kept hk7
    replace hk := Kept.of hk hk7
    have HI := Lib.hid hI
    have HLF := Lib.hid hlf
    have c1 := str_of sx
    have c2 := str_of (bs := bs) (by rw [H.out]; exact hb1)
    clear hown7 hk7 hI hlf sx hb1
    cases hE : (lf == bs)
    · have hG : leafG bs s = none := by
        unfold leafG
        rw [if_neg (fun hh => by
          have := hh.2.2
          rw [HOF.out] at this
          rw [HLF.out, this] at hE
          simp at hE)]
      have HG := Lib.hid hG
      clear hG hL
      have z0 := hZ.cell 0
      have y0 := hZ.free 0
      have z1 := hZ.cell 1
      have y1 := hZ.free 1
      have z2 := hZ.cell 2
      have y2 := hZ.free 2
      have z3 := hZ.cell 3
      have y3 := hZ.free 3
      have z4 := hZ.cell 4
      have y4 := hZ.free 4
      have z5 := hZ.cell 5
      have y5 := hZ.free 5
      have z6 := hZ.cell 6
      have y6 := hZ.free 6
      have z7 := hZ.cell 7
      have y7 := hZ.free 7
      go_wp2
      refine bodyPost_ret (v := .tuple #[.agg #[.int .i64 0, .bool false, .int .i64 0, W 0#32, W 0#32, U 0#64, U 0#64, U 0#64], .bool false]) (by simp [results, Try.results12, go_sem, z0, z1, z2, z3, z4, z5, z6, z7]; done) rfl ⟨by rw [HG.out]; rfl, ?_⟩
      exact ((((((((hk.setCell (Nat.le_refl _) _).setCell (Nat.le_refl _) _).setCell (Nat.le_refl _) _).setCell (Nat.le_refl _) _).setCell (Nat.le_refl _) _).setCell (Nat.le_refl _) _).setCell (Nat.le_refl _) _).setCell (Nat.le_refl _) _)
    · have hG : leafG bs s = some (⟨k0, d0, z0', BitVec.setWidth 32 (getB r3), 0#32, getB r4, ((pairG r5).1, (pairG r5).2)⟩ : Lf) := by
        unfold leafG
        have e1 : leafB (⟨k0, d0, z0', BitVec.setWidth 32 (getB r3), 0#32, getB r4, ((pairG r5).1, (pairG r5).2)⟩ : Lf) = bs := by rw [← HLF.out]; simpa using hE
        rw [if_pos ⟨H.out, by rw [HOF.out]; exact HI.out, by rw [HOF.out]; exact e1⟩, HOF.out]
      have HG := Lib.hid hG
      clear hG
      have z0 := hZ.cell 0
      have y0 := hZ.free 0
      have z1 := hZ.cell 1
      have y1 := hZ.free 1
      have z2 := hZ.cell 2
      have y2 := hZ.free 2
      have z3 := hZ.cell 3
      have y3 := hZ.free 3
      have z4 := hZ.cell 4
      have y4 := hZ.free 4
      have z5 := hZ.cell 5
      have y5 := hZ.free 5
      have z6 := hZ.cell 6
      have y6 := hZ.free 6
      have z7 := hZ.cell 7
      have y7 := hZ.free 7
      have l0 := hL.cell 0
      have l1 := hL.cell 1
      have l2 := hL.cell 2
      have l3 := hL.cell 3
      have l4 := hL.cell 4
      have l5 := hL.cell 5
      have l6 := hL.cell 6
      have l7 := hL.cell 7
      go_wp2
      refine bodyPost_ret (v := .tuple #[.agg #[.int .i64 k0, .bool d0, .int .i64 z0', W (BitVec.setWidth 32 (getB r3)), W (0#32), U (getB r4), U (pairG r5).1, U (pairG r5).2], .bool true]) (by simp [results, Try.results12, go_sem, z0, z1, z2, z3, z4, z5, z6, z7]; done) rfl ⟨by rw [HG.out]; rfl, ?_⟩
      exact ((((((((hk.setCell (Nat.le_refl _) _).setCell (Nat.le_refl _) _).setCell (Nat.le_refl _) _).setCell (Nat.le_refl _) _).setCell (Nat.le_refl _) _).setCell (Nat.le_refl _) _).setCell (Nat.le_refl _) _).setCell (Nat.le_refl _) _)

theorem get_leaf_any (vb : Value) (bs : List UInt8) (s : Int) (lo : -9223372036854775808 ≤ s) (hi : s ≤ 9223372036854775807) (hl : bs.length ≤ 4000) (w : World) (hb : Sl w vb bs.length (bcells bs)) : Calls Try.prog 11 #[vb, .int .i64 s] w fun e w' => e = .returned (.tuple #[((leafG bs s).getD Lf.zero).val, .bool (leafG bs s).isSome]) ∧ Kept w w' := by
  by_cases h : bs.length = 32
  · cases hq : decide (((getB (bs.take 1)).toNat : Int) = 1)
    · exact get_leaf_other vb bs s lo hi hl w hb h hq
    · exact get_leaf_full vb bs s lo hi hl w hb h hq
  · have hG : leafG bs s = none := by unfold leafG; rw [if_neg (fun hh => h hh.1)]
    rw [hG]
    exact get_leaf_none vb bs s hl w hb h
theorem rget_leaf_any (vb : Value) (bs : List UInt8) (s : Int) (lo : -9223372036854775808 ≤ s) (hi : s ≤ 9223372036854775807) (hl : bs.length ≤ 4000) (w : World) (hb : Sl w vb bs.length (bcells bs)) : Calls Try.prog 12 #[vb, .int .i64 s] w fun e w' => e = .returned (.tuple #[((leafG bs s).getD Lf.zero).val, .bool (leafG bs s).isSome]) ∧ Kept w w' := by
  by_cases h : bs.length = 32
  · by_cases h1 : s < 0
    · have hG : leafG bs s = none := by unfold leafG; rw [if_neg (fun hh => by rw [isLeaf_out (.inl h1)] at hh; exact absurd hh.2.1 (by simp))]
      rw [hG]
      exact rget_leaf_low vb bs s lo hi hl w hb h h1
    by_cases h2 : 16 ≤ s
    · have hG : leafG bs s = none := by unfold leafG; rw [if_neg (fun hh => by rw [isLeaf_out (.inr h2)] at hh; exact absurd hh.2.1 (by simp))]
      rw [hG]
      exact rget_leaf_high vb bs s lo hi hl w hb h h2
    cases hq : decide (((getB (bs.take 1)).toNat : Int) = 1)
    · exact rget_leaf_other vb bs s (by omega) (by omega) w hb h hq
    · exact rget_leaf_full vb bs s (by omega) (by omega) w hb h hq
  · have hG : leafG bs s = none := by unfold leafG; rw [if_neg (fun hh => h hh.1)]
    rw [hG]
    exact rget_leaf_short vb bs s lo hi hl w hb h

end Go.Proofs.Ytkbihhdgipckgaa
