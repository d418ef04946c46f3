/- What the reference of root.Get computes. -/
import Derived.Test.YtldgmilfihkkdaaRootG
namespace Go.Proofs.Ytldgmilfihkkdaa
open Go Go.RowKit

set_option maxRecDepth 100000 in
set_option maxHeartbeats 2000000 in
theorem put_root_none (n : Int) (hn : isSl n = false) (c : BitVec 64) (e : BitVec 32) (h1 h2 : BitVec 64) (w : World) : Calls Try.prog 7 #[.agg #[U c, W e, .int .i64 n, U h1, U h2]] w fun e' w' => e' = .returned (.tuple #[.slice none 0 0, .bool false]) ∧ Kept w w' := by
  have hR : Blk (w.alloc (.cells #[U c, W e, .int .i64 n, U h1, U h2] 27)) w.heap.size #[U c, W e, .int .i64 n, U h1, U h2] 27 := Blk.new _ _ _
  have q2 := hR.cell 2
  obtain ⟨n4, n8, n16⟩ := isSl_false hn
  have a4 : (n == 4) = false := by simpa using n4
  have a8 : (n == 8) = false := by simpa using n8
  have a16 : (n == 16) = false := by simpa using n16
  have b4 : (n != 4) = true := by simpa using n4
  have b8 : (n != 8) = true := by simpa using n8
  have b16 : (n != 16) = true := by simpa using n16
  have HN := Lib.hid hn
  clear hn n4 n8 n16
  go_enter Try.func7, Try.ntmps7
  go_wp2_with fail
  refine (isSlots_any _ _).mono ?_
  rintro e' w0 ⟨rfl, rfl⟩
  rw [HN.out]
  go_wp2
  go_ret2
  exact ⟨rfl, (Below.refl _ _).alloc (Nat.le_refl _) _⟩

set_option maxRecDepth 100000 in
set_option maxHeartbeats 2000000 in
theorem rput_root_none (n : Int) (hn : isSl n = false) (c : BitVec 64) (e : BitVec 32) (h1 h2 : BitVec 64) (w : World) : Calls Try.prog 8 #[.agg #[U c, W e, .int .i64 n, U h1, U h2]] w fun e' w' => e' = .returned (.tuple #[.slice none 0 0, .bool false]) ∧ Kept w w' := by
  have hR : Blk (w.alloc (.cells #[U c, W e, .int .i64 n, U h1, U h2] 27)) w.heap.size #[U c, W e, .int .i64 n, U h1, U h2] 27 := Blk.new _ _ _
  have q2 := hR.cell 2
  obtain ⟨n4, n8, n16⟩ := isSl_false hn
  have a4 : (n == 4) = false := by simpa using n4
  have a8 : (n == 8) = false := by simpa using n8
  have a16 : (n == 16) = false := by simpa using n16
  have b4 : (n != 4) = true := by simpa using n4
  have b8 : (n != 8) = true := by simpa using n8
  have b16 : (n != 16) = true := by simpa using n16
  have HN := Lib.hid hn
  clear hn n4 n8 n16
  go_enter Try.func8, Try.ntmps8
  go_wp2
  go_ret2
  exact ⟨rfl, (Below.refl _ _).alloc (Nat.le_refl _) _⟩

set_option maxRecDepth 100000 in
set_option maxHeartbeats 4000000 in
theorem rget_root_some (vb : Value) (bs : List UInt8) (w : World) (hb : Sl w vb bs.length (bcells bs)) (h : bs.length = 32) (hsl : isSl (rootOf bs).slots = true) : Calls Try.prog 11 #[vb] w fun e w' => e = .returned (.tuple #[(rootOf bs).val, .bool true]) ∧ Kept w w' := by
  have hk1 : Kept w (w.alloc (.cells #[U 0#64, W 0#32, .int .i64 0, U 0#64, U 0#64] 27)) := (Below.refl _ _).alloc (Nat.le_refl _) _
  have hZ := Blk.new w #[U 0#64, W 0#32, .int .i64 0, U 0#64, U 0#64] 27
  obtain ⟨b, off, cap, hvb, hc1, hc2, hc3, hc4⟩ := hb.at (by rw [bcells_length]; omega)
  subst hvb
  have hs : Sl w (.slice (some ⟨b, off, none⟩) bs.length cap) bs.length (bcells bs) := hb
  rw [h] at hc1
  have s0 : Sl (w.alloc (.cells #[U 0#64, W 0#32, .int .i64 0, U 0#64, U 0#64] 27)) (.slice (some ⟨b, off, none⟩) 8 (cap)) (bs.take 8).length (bcells (bs.take 8)) := by
    have := (hs.sub 0 8 (cap) (by omega) (by omega)).kept hk1
    rw [show ((bcells bs).drop 0).take 8 = bcells (bs.take 8) by simp [bcells]] at this
    rw [show (bs.take 8).length = 8 by simp; omega]
    exact this
  have s1 : Sl (w.alloc (.cells #[U 0#64, W 0#32, .int .i64 0, U 0#64, U 0#64] 27)) (.slice (some ⟨b, off + 8, none⟩) 4 (cap - 8)) ((bs.drop 8).take 4).length (bcells ((bs.drop 8).take 4)) := by
    have := (hs.sub 8 4 (cap - 8) (by omega) (by omega)).kept hk1
    rw [show ((bcells bs).drop 8).take 4 = bcells ((bs.drop 8).take 4) by simp [bcells]] at this
    rw [show ((bs.drop 8).take 4).length = 4 by simp; omega]
    exact this
  have s2 : Sl (w.alloc (.cells #[U 0#64, W 0#32, .int .i64 0, U 0#64, U 0#64] 27)) (.slice (some ⟨b, off + 12, none⟩) 4 (cap - 12)) ((bs.drop 12).take 4).length (bcells ((bs.drop 12).take 4)) := by
    have := (hs.sub 12 4 (cap - 12) (by omega) (by omega)).kept hk1
    rw [show ((bcells bs).drop 12).take 4 = bcells ((bs.drop 12).take 4) by simp [bcells]] at this
    rw [show ((bs.drop 12).take 4).length = 4 by simp; omega]
    exact this
  have s3 : Sl (w.alloc (.cells #[U 0#64, W 0#32, .int .i64 0, U 0#64, U 0#64] 27)) (.slice (some ⟨b, off + 16, none⟩) 16 (cap - 16)) (bs.drop 16).length (bcells (bs.drop 16)) := by
    have := (hs.sub 16 16 (cap - 16) (by omega) (by omega)).kept hk1
    rw [show ((bcells bs).drop 16).take 16 = bcells (bs.drop 16) by simp [bcells, List.take_of_length_le, h]] at this
    rw [show (bs.drop 16).length = 16 by simp; omega]
    exact this
  have n0 : (bs.take 8).length = 8 := by rw [List.length_take]; omega
  have n1 : ((bs.drop 8).take 4).length = 4 := by rw [List.length_take, List.length_drop]; omega
  have n2 : ((bs.drop 12).take 4).length = 4 := by rw [List.length_take, List.length_drop]; omega
  have n3 : (bs.drop 16).length = 16 := by rw [List.length_drop]; omega
  obtain ⟨row2, hrow2⟩ : ∃ row2, row2 = (bs.drop 12).take 4 := ⟨_, rfl⟩
  have hlt := get4_lt ((bs.drop 12).take 4) n2
  have hci : ∀ wx : World, (convert 22 3 (U (getB row2))).run Try.prog wx = .ok (.int .i64 (rootOf bs).slots) wx := fun wx => by
    rw [hrow2, U, conv_int wx 22 3 _ .i64 _ (by kernel_rfl) Try.underlying3, IntWalk.i64_in _ (by omega)]
    rfl
  rw [← hrow2] at s2 n2
  have m0 : (32 : Int) ≤ (cap : Int) := by omega
  have m1 : (cap : Int) ≤ 9223372036854775807 := by unfold maxLen at hc2; omega
  rw [h]
  have S0 := Lib.hid s0
  have S1 := Lib.hid s1
  have S2 := Lib.hid s2
  have S3 := Lib.hid s3
  have N0 := Lib.hid n0
  have N1 := Lib.hid n1
  have N2 := Lib.hid n2
  have N3 := Lib.hid n3
  have H := Lib.hid h
  have HS := Lib.hid hsl
  have HR := Lib.hid hrow2
  clear s0 s1 s2 s3 n0 n1 n2 n3 h hsl hrow2 hlt hb hs hc4 hc1 hc2
  go_enter Try.func11, Try.ntmps11
  go_wp2_with fail
  refine (rget_some _ _ _ S0.out (by rw [N0.out]; omega) (by rw [N0.out]; omega)).mono ?_
  rintro e w4 ⟨rfl, rfl⟩
  go_wp2_with fail
  refine (rget_some _ _ _ S1.out (by rw [N1.out]; omega) (by rw [N1.out]; omega)).mono ?_
  rintro e w4 ⟨rfl, rfl⟩
  go_wp2_with fail
  refine (rget_some _ row2 _ S2.out (by rw [N2.out]; omega) (by rw [N2.out]; omega)).mono ?_
  rintro e w4 ⟨rfl, rfl⟩
  go_wp2_with fail
  refine (rpair_some _ _ _ S3.out N3.out).mono ?_
  rintro e w4 ⟨rfl, hk4⟩
  replace hZ := hZ.kept hk4
  have hk := Kept.of hk1 hk4
  clear hk4 hk1
  obtain ⟨W5, hW5⟩ : ∃ W5, W5 = (w4.alloc (.cells #[U (pairG (bs.drop 16)).1, U (pairG (bs.drop 16)).2] 25)) := ⟨_, rfl⟩
  have hP : Blk W5 w4.heap.size #[U (pairG (bs.drop 16)).1, U (pairG (bs.drop 16)).2] 25 := by rw [hW5]; exact Blk.new _ _ _
  have hz5 : W5.heap.size = w4.heap.size + 1 := by rw [hW5]; simp
  replace hZ : Blk W5 w.heap.size #[U 0#64, W 0#32, .int .i64 0, U 0#64, U 0#64] 27 := by rw [hW5]; exact hZ.alloc _
  replace hk : Below w.heap.size w W5 := by rw [hW5]; exact hk.alloc (by have := hk.size; omega) _
  obtain ⟨X, hX⟩ : ∃ X, X = #[U (getB (bs.take 8)), W ((getB ((bs.drop 8).take 4)).setWidth 32), .int .i64 (rootOf bs).slots, U (pairG (bs.drop 16)).1, U (pairG (bs.drop 16)).2] := ⟨_, rfl⟩
  have hQ : Blk (W5.alloc (.cells X 27)) (w4.heap.size + 1) X 27 := by rw [← hz5]; exact Blk.new W5 X 27
  have hQZ := hZ.alloc (.cells X 27)
  have hQk := hk.alloc (by have := hk.size; omega) (.cells X 27)
  have p0 := hP.cell 0
  have p1 := hP.cell 1
  rw [hW5] at p0 p1
  clear hP hZ
  go_wp2_with fail
  subst hX
  subst hW5
  refine (rput_root_lit _ (isSl_cases HS.out) _ _ _ _ _).mono ?_
  rintro e w6 ⟨x6, rfl, hown6, hk6⟩
  replace hQ := hQ.kept hk6
  have hZ := hQZ.kept hk6
  have hk := Kept.of hQk hk6
  have x0 := hQ.cell 0
  have x1 := hQ.cell 1
  have x2 := hQ.cell 2
  have x3 := hQ.cell 3
  have x4 := hQ.cell 4
  have z0 := hZ.cell 0
  have y0 := hZ.free 0
  have z1 := hZ.cell 1
  have y1 := hZ.free 1
  have z2 := hZ.cell 2
  have y2 := hZ.free 2
  have z3 := hZ.cell 3
  have y3 := hZ.free 3
  have z4 := hZ.cell 4
  have y4 := hZ.free 4
  clear hQ hQZ hQk hk6 p0 p1
  go_wp2
  refine bodyPost_ret (v := .tuple #[.agg #[U (rootOf bs).count, W (rootOf bs).epoch, .int .i64 ((rootOf bs).slots), U (rootOf bs).hash.1, U (rootOf bs).hash.2], .bool true]) (by simp [rootOf, HR.out, results, Try.results11, go_sem, z0, z1, z2, z3, z4]; done) rfl ⟨rfl, ?_⟩
  exact ((((hk.setCell (Nat.le_refl _) _).setCell (Nat.le_refl _) _).setCell (Nat.le_refl _) _).setCell (Nat.le_refl _) _).setCell (Nat.le_refl _) _

set_option maxRecDepth 100000 in
set_option maxHeartbeats 4000000 in
theorem rget_root_slots (vb : Value) (bs : List UInt8) (w : World) (hb : Sl w vb bs.length (bcells bs)) (h : bs.length = 32) (hsl : isSl (rootOf bs).slots = false) : Calls Try.prog 11 #[vb] w fun e w' => e = .returned (.tuple #[Rt.zero.val, .bool false]) ∧ Kept w w' := by
  have hk1 : Kept w (w.alloc (.cells #[U 0#64, W 0#32, .int .i64 0, U 0#64, U 0#64] 27)) := (Below.refl _ _).alloc (Nat.le_refl _) _
  have hZ := Blk.new w #[U 0#64, W 0#32, .int .i64 0, U 0#64, U 0#64] 27
  obtain ⟨b, off, cap, hvb, hc1, hc2, hc3, hc4⟩ := hb.at (by rw [bcells_length]; omega)
  subst hvb
  have hs : Sl w (.slice (some ⟨b, off, none⟩) bs.length cap) bs.length (bcells bs) := hb
  rw [h] at hc1
  have s0 : Sl (w.alloc (.cells #[U 0#64, W 0#32, .int .i64 0, U 0#64, U 0#64] 27)) (.slice (some ⟨b, off, none⟩) 8 (cap)) (bs.take 8).length (bcells (bs.take 8)) := by
    have := (hs.sub 0 8 (cap) (by omega) (by omega)).kept hk1
    rw [show ((bcells bs).drop 0).take 8 = bcells (bs.take 8) by simp [bcells]] at this
    rw [show (bs.take 8).length = 8 by simp; omega]
    exact this
  have s1 : Sl (w.alloc (.cells #[U 0#64, W 0#32, .int .i64 0, U 0#64, U 0#64] 27)) (.slice (some ⟨b, off + 8, none⟩) 4 (cap - 8)) ((bs.drop 8).take 4).length (bcells ((bs.drop 8).take 4)) := by
    have := (hs.sub 8 4 (cap - 8) (by omega) (by omega)).kept hk1
    rw [show ((bcells bs).drop 8).take 4 = bcells ((bs.drop 8).take 4) by simp [bcells]] at this
    rw [show ((bs.drop 8).take 4).length = 4 by simp; omega]
    exact this
  have s2 : Sl (w.alloc (.cells #[U 0#64, W 0#32, .int .i64 0, U 0#64, U 0#64] 27)) (.slice (some ⟨b, off + 12, none⟩) 4 (cap - 12)) ((bs.drop 12).take 4).length (bcells ((bs.drop 12).take 4)) := by
    have := (hs.sub 12 4 (cap - 12) (by omega) (by omega)).kept hk1
    rw [show ((bcells bs).drop 12).take 4 = bcells ((bs.drop 12).take 4) by simp [bcells]] at this
    rw [show ((bs.drop 12).take 4).length = 4 by simp; omega]
    exact this
  have s3 : Sl (w.alloc (.cells #[U 0#64, W 0#32, .int .i64 0, U 0#64, U 0#64] 27)) (.slice (some ⟨b, off + 16, none⟩) 16 (cap - 16)) (bs.drop 16).length (bcells (bs.drop 16)) := by
    have := (hs.sub 16 16 (cap - 16) (by omega) (by omega)).kept hk1
    rw [show ((bcells bs).drop 16).take 16 = bcells (bs.drop 16) by simp [bcells, List.take_of_length_le, h]] at this
    rw [show (bs.drop 16).length = 16 by simp; omega]
    exact this
  have n0 : (bs.take 8).length = 8 := by rw [List.length_take]; omega
  have n1 : ((bs.drop 8).take 4).length = 4 := by rw [List.length_take, List.length_drop]; omega
  have n2 : ((bs.drop 12).take 4).length = 4 := by rw [List.length_take, List.length_drop]; omega
  have n3 : (bs.drop 16).length = 16 := by rw [List.length_drop]; omega
  obtain ⟨row2, hrow2⟩ : ∃ row2, row2 = (bs.drop 12).take 4 := ⟨_, rfl⟩
  have hlt := get4_lt ((bs.drop 12).take 4) n2
  have hci : ∀ wx : World, (convert 22 3 (U (getB row2))).run Try.prog wx = .ok (.int .i64 (rootOf bs).slots) wx := fun wx => by
    rw [hrow2, U, conv_int wx 22 3 _ .i64 _ (by kernel_rfl) Try.underlying3, IntWalk.i64_in _ (by omega)]
    rfl
  rw [← hrow2] at s2 n2
  have m0 : (32 : Int) ≤ (cap : Int) := by omega
  have m1 : (cap : Int) ≤ 9223372036854775807 := by unfold maxLen at hc2; omega
  rw [h]
  have S0 := Lib.hid s0
  have S1 := Lib.hid s1
  have S2 := Lib.hid s2
  have S3 := Lib.hid s3
  have N0 := Lib.hid n0
  have N1 := Lib.hid n1
  have N2 := Lib.hid n2
  have N3 := Lib.hid n3
  have H := Lib.hid h
  have HS := Lib.hid hsl
  have HR := Lib.hid hrow2
  clear s0 s1 s2 s3 n0 n1 n2 n3 h hsl hrow2 hlt hb hs hc4 hc1 hc2
  go_enter Try.func11, Try.ntmps11
  go_wp2_with fail
  refine (rget_some _ _ _ S0.out (by rw [N0.out]; omega) (by rw [N0.out]; omega)).mono ?_
  rintro e w4 ⟨rfl, rfl⟩
  go_wp2_with fail
  refine (rget_some _ _ _ S1.out (by rw [N1.out]; omega) (by rw [N1.out]; omega)).mono ?_
  rintro e w4 ⟨rfl, rfl⟩
  go_wp2_with fail
  refine (rget_some _ row2 _ S2.out (by rw [N2.out]; omega) (by rw [N2.out]; omega)).mono ?_
  rintro e w4 ⟨rfl, rfl⟩
  go_wp2_with fail
  refine (rpair_some _ _ _ S3.out N3.out).mono ?_
  rintro e w4 ⟨rfl, hk4⟩
  replace hZ := hZ.kept hk4
  have hk := Kept.of hk1 hk4
  clear hk4 hk1
  obtain ⟨W5, hW5⟩ : ∃ W5, W5 = (w4.alloc (.cells #[U (pairG (bs.drop 16)).1, U (pairG (bs.drop 16)).2] 25)) := ⟨_, rfl⟩
  have hP : Blk W5 w4.heap.size #[U (pairG (bs.drop 16)).1, U (pairG (bs.drop 16)).2] 25 := by rw [hW5]; exact Blk.new _ _ _
  have hz5 : W5.heap.size = w4.heap.size + 1 := by rw [hW5]; simp
  replace hZ : Blk W5 w.heap.size #[U 0#64, W 0#32, .int .i64 0, U 0#64, U 0#64] 27 := by rw [hW5]; exact hZ.alloc _
  replace hk : Below w.heap.size w W5 := by rw [hW5]; exact hk.alloc (by have := hk.size; omega) _
  obtain ⟨X, hX⟩ : ∃ X, X = #[U (getB (bs.take 8)), W ((getB ((bs.drop 8).take 4)).setWidth 32), .int .i64 (rootOf bs).slots, U (pairG (bs.drop 16)).1, U (pairG (bs.drop 16)).2] := ⟨_, rfl⟩
  have hQ : Blk (W5.alloc (.cells X 27)) (w4.heap.size + 1) X 27 := by rw [← hz5]; exact Blk.new W5 X 27
  have hQZ := hZ.alloc (.cells X 27)
  have hQk := hk.alloc (by have := hk.size; omega) (.cells X 27)
  have p0 := hP.cell 0
  have p1 := hP.cell 1
  rw [hW5] at p0 p1
  clear hP hZ
  go_wp2_with fail
  subst hX
  subst hW5
  refine (rput_root_none _ HS.out _ _ _ _ _).mono ?_
  rintro e w6 ⟨rfl, hk6⟩
  replace hQ := hQ.kept hk6
  have hZ := hQZ.kept hk6
  have hk := Kept.of hQk hk6
  have x0 := hQ.cell 0
  have x1 := hQ.cell 1
  have x2 := hQ.cell 2
  have x3 := hQ.cell 3
  have x4 := hQ.cell 4
  have z0 := hZ.cell 0
  have y0 := hZ.free 0
  have z1 := hZ.cell 1
  have y1 := hZ.free 1
  have z2 := hZ.cell 2
  have y2 := hZ.free 2
  have z3 := hZ.cell 3
  have y3 := hZ.free 3
  have z4 := hZ.cell 4
  have y4 := hZ.free 4
  clear hQ hQZ hQk hk6 p0 p1
  go_wp2
  refine bodyPost_ret (v := .tuple #[.agg #[U 0#64, W 0#32, .int .i64 0, U 0#64, U 0#64], .bool false]) (by simp [results, Try.results11, go_sem, z0, z1, z2, z3, z4]; done) rfl ⟨rfl, ?_⟩
  exact ((((hk.setCell (Nat.le_refl _) _).setCell (Nat.le_refl _) _).setCell (Nat.le_refl _) _).setCell (Nat.le_refl _) _).setCell (Nat.le_refl _) _

set_option maxRecDepth 100000 in
set_option maxHeartbeats 2000000 in
theorem rget_root_none (vb : Value) (bs : List UInt8) (hl : bs.length ≤ 4000) (w : World) (hb : Sl w vb bs.length (bcells bs)) (h : bs.length ≠ 32) : Calls Try.prog 11 #[vb] w fun e w' => e = .returned (.tuple #[Rt.zero.val, .bool false]) ∧ Kept w w' := by
  have hk : Kept w (w.alloc (.cells #[U 0#64, W 0#32, .int .i64 0, U 0#64, U 0#64] 27)) := (Below.refl _ _).alloc (Nat.le_refl _) _
  have hZ := Blk.new w #[U 0#64, W 0#32, .int .i64 0, U 0#64, U 0#64] 27
  obtain ⟨a, c, hvb⟩ := hb.len
  subst hvb
  have n0 : (bs.length : Int) ≤ 4000 := by omega
  have n1 : ((bs.length : Int) != 32) = true := by simp; omega
  have n2 : ¬ bs.length = 32 := h
  have z0 := hZ.cell 0
  have y0 := hZ.free 0
  have z1 := hZ.cell 1
  have y1 := hZ.free 1
  have z2 := hZ.cell 2
  have y2 := hZ.free 2
  have z3 := hZ.cell 3
  have y3 := hZ.free 3
  have z4 := hZ.cell 4
  have y4 := hZ.free 4
  clear hZ hb h
  go_enter Try.func11, Try.ntmps11
  go_wp2
  refine bodyPost_ret (v := .tuple #[.agg #[U 0#64, W 0#32, .int .i64 0, U 0#64, U 0#64], .bool false]) (by simp [results, Try.results11, go_sem, z0, z1, z2, z3, z4]; done) rfl ⟨rfl, ?_⟩
  exact (Below.refl _ _).alloc (Nat.le_refl _) _

end Go.Proofs.Ytldgmilfihkkdaa
