/- What root.Get and its reference compute. -/
import Derived.Test.YtldgmilfihkkdaaRootW
namespace Go.Proofs.Ytldgmilfihkkdaa
open Go Go.RowKit

set_option maxRecDepth 100000 in
set_option maxHeartbeats 2000000 in
theorem get_root_none (vb : Value) (bs : List UInt8) (hl : bs.length ≤ 4000) (w : World) (hb : Sl w vb bs.length (bcells bs)) (h : bs.length ≠ 32) : Calls Try.prog 9 #[vb] w fun e w' => e = .returned (.tuple #[Rt.zero.val, .bool false]) ∧ Kept w w' := by
  have hk1 : Kept w (w.alloc (.cells #[U 0#64, W 0#32, .int .i64 0, U 0#64, U 0#64] 27)) := (Below.refl _ _).alloc (Nat.le_refl _) _
  have hk2 : Kept w ((w.alloc (.cells #[U 0#64, W 0#32, .int .i64 0, U 0#64, U 0#64] 27)).alloc (.cells #[.int .i64 8, .int .i64 4, .int .i64 4, .int .i64 16] 3)) := hk1.alloc (by simp) _
  have hZ1 : Blk (w.alloc (.cells #[U 0#64, W 0#32, .int .i64 0, U 0#64, U 0#64] 27)) w.heap.size #[U 0#64, W 0#32, .int .i64 0, U 0#64, U 0#64] 27 := Blk.new _ _ _
  have hZ2 : Blk ((w.alloc (.cells #[U 0#64, W 0#32, .int .i64 0, U 0#64, U 0#64] 27)).alloc (.cells #[.int .i64 8, .int .i64 4, .int .i64 4, .int .i64 16] 3)) w.heap.size #[U 0#64, W 0#32, .int .i64 0, U 0#64, U 0#64] 27 := hZ1.alloc _
  have hb2 := hb.kept hk2
  have hsz : Sl ((w.alloc (.cells #[U 0#64, W 0#32, .int .i64 0, U 0#64, U 0#64] 27)).alloc (.cells #[.int .i64 8, .int .i64 4, .int .i64 4, .int .i64 16] 3)) (.slice (some ⟨w.heap.size + 1, 0, none⟩) 4 4) ([8, 4, 4, 16] : List Int).length (icells [8, 4, 4, 16]) := by simpa [icells] using Sl.lit (w.alloc (.cells #[U 0#64, W 0#32, .int .i64 0, U 0#64, U 0#64] 27)) #[.int .i64 8, .int .i64 4, .int .i64 4, .int .i64 16] 3 4 (by decide)
  go_enter Try.func9, Try.ntmps9
  go_wp2_with fail
  refine (cut_any _ _ bs [8, 4, 4, 16] hl (by simp) _ hb2 hsz).mono ?_
  rintro e w3 ⟨hk3, v, rfl, hr⟩
  have hZ := hZ2.kept hk3
  have hk := hk2.of hk3
  rw [cut_root, if_neg h]
  unfold cutV
  have z0 := hZ.cell 0
  have y0 := hZ.free 0
  have z1 := hZ.cell 1
  have y1 := hZ.free 1
  have z2 := hZ.cell 2
  have y2 := hZ.free 2
  have z3 := hZ.cell 3
  have y3 := hZ.free 3
  have z4 := hZ.cell 4
  have y4 := hZ.free 4
  clear hr hk1 hk2 hk3 hZ1 hZ2 hb2 hb hsz h
  go_wp2
  refine bodyPost_ret (v := .tuple #[.agg #[U 0#64, W 0#32, .int .i64 0, U 0#64, U 0#64], .bool false]) (by simp [results, Try.results9, go_sem, z0, z1, z2, z3, z4]; done) rfl ⟨rfl, ?_⟩
  exact ((((hk.setCell (Nat.le_refl _) _).setCell (Nat.le_refl _) _).setCell (Nat.le_refl _) _).setCell (Nat.le_refl _) _).setCell (Nat.le_refl _) _


set_option maxRecDepth 100000 in
set_option maxHeartbeats 4000000 in
theorem get_root_slots (vb : Value) (bs : List UInt8) (hl : bs.length ≤ 4000) (w : World) (hb : Sl w vb bs.length (bcells bs)) (h : bs.length = 32) (hs : isSl (rootOf bs).slots = false) : Calls Try.prog 9 #[vb] w fun e w' => e = .returned (.tuple #[Rt.zero.val, .bool false]) ∧ Kept w w' := by
  have hk1 : Kept w (w.alloc (.cells #[U 0#64, W 0#32, .int .i64 0, U 0#64, U 0#64] 27)) := (Below.refl _ _).alloc (Nat.le_refl _) _
  have hk2 : Kept w ((w.alloc (.cells #[U 0#64, W 0#32, .int .i64 0, U 0#64, U 0#64] 27)).alloc (.cells #[.int .i64 8, .int .i64 4, .int .i64 4, .int .i64 16] 3)) := hk1.alloc (by simp) _
  have hZ1 : Blk (w.alloc (.cells #[U 0#64, W 0#32, .int .i64 0, U 0#64, U 0#64] 27)) w.heap.size #[U 0#64, W 0#32, .int .i64 0, U 0#64, U 0#64] 27 := Blk.new _ _ _
  have hZ2 : Blk ((w.alloc (.cells #[U 0#64, W 0#32, .int .i64 0, U 0#64, U 0#64] 27)).alloc (.cells #[.int .i64 8, .int .i64 4, .int .i64 4, .int .i64 16] 3)) w.heap.size #[U 0#64, W 0#32, .int .i64 0, U 0#64, U 0#64] 27 := hZ1.alloc _
  have hb2 := hb.kept hk2
  have hsz : Sl ((w.alloc (.cells #[U 0#64, W 0#32, .int .i64 0, U 0#64, U 0#64] 27)).alloc (.cells #[.int .i64 8, .int .i64 4, .int .i64 4, .int .i64 16] 3)) (.slice (some ⟨w.heap.size + 1, 0, none⟩) 4 4) ([8, 4, 4, 16] : List Int).length (icells [8, 4, 4, 16]) := by simpa [icells] using Sl.lit (w.alloc (.cells #[U 0#64, W 0#32, .int .i64 0, U 0#64, U 0#64] 27)) #[.int .i64 8, .int .i64 4, .int .i64 4, .int .i64 16] 3 4 (by decide)
  go_enter Try.func9, Try.ntmps9
  go_wp2_with fail
  refine (cut_any _ _ bs [8, 4, 4, 16] hl (by simp) _ hb2 hsz).mono ?_
  rintro e w3 ⟨hk3, v, rfl, hr⟩
  have hZ := hZ2.kept hk3
  have hk := hk2.of hk3
  rw [cut_root, if_pos h]
  unfold cutV
  have hrs := (hr _ (by rw [cut_root, if_pos h])).sl
  have n0 : (bs.take 8).length = 8 := by rw [List.length_take]; omega
  have n1 : ((bs.drop 8).take 4).length = 4 := by rw [List.length_take, List.length_drop]; omega
  have n2 : ((bs.drop 12).take 4).length = 4 := by rw [List.length_take, List.length_drop]; omega
  have n3 : (bs.drop 16).length = 16 := by rw [List.length_drop]; omega
  obtain ⟨us, hv, hall⟩ := hrs.all
  obtain ⟨u0, u1, u2, u3, rfl⟩ : ∃ a b c d, us = [a, b, c, d] := by
    match us, hall.len with
    | [a, b, c, d], _ => exact ⟨a, b, c, d, rfl⟩
  obtain ⟨s0, s1, s2, s3, _⟩ := hall
  obtain ⟨q, qo, qc, rfl, hq1, hq2, _, hqx⟩ := hv.at (by simp)
  have x0 := hqx 0 u0 rfl
  have x1 := hqx 1 u1 rfl
  have x2 := hqx 2 u2 rfl
  have x3 := hqx 3 u3 rfl
  rw [Nat.add_zero] at x0
  obtain ⟨row2, hrow2⟩ : ∃ row2, row2 = (bs.drop 12).take 4 := ⟨_, rfl⟩
  have hlt := get4_lt ((bs.drop 12).take 4) n2
  have hci : ∀ wx : World, (convert 22 3 (U (getB row2))).run Try.prog wx = .ok (.int .i64 (rootOf bs).slots) wx := fun wx => by
    rw [hrow2, U, conv_int wx 22 3 _ .i64 _ (by kernel_rfl) Try.underlying3, IntWalk.i64_in _ (by omega)]
    rfl
  rw [← hrow2] at s2 n2
  have hqm : (4 : Int) ≤ (qc : Int) := by simp at hq1; omega
  have z0 := hZ.cell 0
  have y0 := hZ.free 0
  have z1 := hZ.cell 1
  have y1 := hZ.free 1
  have z2 := hZ.cell 2
  have y2 := hZ.free 2
  have z3 := hZ.cell 3
  have y3 := hZ.free 3
  have z4 := hZ.cell 4
  have y4 := hZ.free 4
  have HS := Lib.hid hs
  have N0 := Lib.hid n0
  have N1 := Lib.hid n1
  have N2 := Lib.hid n2
  have N3 := Lib.hid n3
  have H := Lib.hid h
  have HR := Lib.hid hrow2
  clear hr hk1 hk2 hk3 hZ1 hZ2 hb2 hb hsz h hs n0 n1 n2 n3 hrs hv hq1 hq2 hqx hlt hrow2
  go_wp2_with fail
  refine (get_some _ _ _ s0 (by rw [N0.out]; omega) (by rw [N0.out]; omega)).mono ?_
  rintro e w4 ⟨rfl, rfl⟩
  go_wp2_with fail
  refine (get_some _ _ _ s1 (by rw [N1.out]; omega) (by rw [N1.out]; omega)).mono ?_
  rintro e w4 ⟨rfl, rfl⟩
  go_wp2_with fail
  refine (get_some _ row2 _ s2 (by rw [N2.out]; omega) (by rw [N2.out]; omega)).mono ?_
  rintro e w4 ⟨rfl, rfl⟩
  go_wp2_with fail
  refine (pair_some _ _ _ s3 N3.out).mono ?_
  rintro e w4 ⟨rfl, hk4⟩
  replace hZ := hZ.kept hk4
  replace hk := Kept.of hk hk4
  clear x0 x1 x2 x3 s0 s1 s2 s3 hk4 z0 z1 z2 z3 z4 y0 y1 y2 y3 y4
  go_wp2_with fail
  have hP := Blk.new w4 #[U (pairG (bs.drop 16)).1, U (pairG (bs.drop 16)).2] 25
  replace hZ := hZ.alloc (.cells #[U (pairG (bs.drop 16)).1, U (pairG (bs.drop 16)).2] 25)
  replace hk := hk.alloc (by have := hk.size; omega) (.cells #[U (pairG (bs.drop 16)).1, U (pairG (bs.drop 16)).2] 25)
  generalize w4.alloc (.cells #[U (pairG (bs.drop 16)).1, U (pairG (bs.drop 16)).2] 25) = W5 at *
  have p0 := hP.cell 0
  have p1 := hP.cell 1
  have z0 := hZ.cell 0
  have y0 := hZ.free 0
  have z1 := hZ.cell 1
  have y1 := hZ.free 1
  have z2 := hZ.cell 2
  have y2 := hZ.free 2
  have z3 := hZ.cell 3
  have y3 := hZ.free 3
  have z4 := hZ.cell 4
  have y4 := hZ.free 4
  refine (isSlots_any _ _).mono ?_
  rintro e w5 ⟨rfl, rfl⟩
  rw [HS.out]
  go_wp2
  refine bodyPost_ret (v := .tuple #[.agg #[U 0#64, W 0#32, .int .i64 0, U 0#64, U 0#64], .bool false]) (by simp [results, Try.results9, go_sem, z0, z1, z2, z3, z4]; done) rfl ⟨rfl, ?_⟩
  exact ((((hk.setCell (Nat.le_refl _) _).setCell (Nat.le_refl _) _).setCell (Nat.le_refl _) _).setCell (Nat.le_refl _) _).setCell (Nat.le_refl _) _

set_option maxRecDepth 100000 in
set_option maxHeartbeats 4000000 in
theorem get_root_some (vb : Value) (bs : List UInt8) (hl : bs.length ≤ 4000) (w : World) (hb : Sl w vb bs.length (bcells bs)) (h : bs.length = 32) (hs : isSl (rootOf bs).slots = true) : Calls Try.prog 9 #[vb] w fun e w' => e = .returned (.tuple #[(rootOf bs).val, .bool true]) ∧ Kept w w' := by
  have hk1 : Kept w (w.alloc (.cells #[U 0#64, W 0#32, .int .i64 0, U 0#64, U 0#64] 27)) := (Below.refl _ _).alloc (Nat.le_refl _) _
  have hk2 : Kept w ((w.alloc (.cells #[U 0#64, W 0#32, .int .i64 0, U 0#64, U 0#64] 27)).alloc (.cells #[.int .i64 8, .int .i64 4, .int .i64 4, .int .i64 16] 3)) := hk1.alloc (by simp) _
  have hZ1 : Blk (w.alloc (.cells #[U 0#64, W 0#32, .int .i64 0, U 0#64, U 0#64] 27)) w.heap.size #[U 0#64, W 0#32, .int .i64 0, U 0#64, U 0#64] 27 := Blk.new _ _ _
  have hZ2 : Blk ((w.alloc (.cells #[U 0#64, W 0#32, .int .i64 0, U 0#64, U 0#64] 27)).alloc (.cells #[.int .i64 8, .int .i64 4, .int .i64 4, .int .i64 16] 3)) w.heap.size #[U 0#64, W 0#32, .int .i64 0, U 0#64, U 0#64] 27 := hZ1.alloc _
  have hb2 := hb.kept hk2
  have hsz : Sl ((w.alloc (.cells #[U 0#64, W 0#32, .int .i64 0, U 0#64, U 0#64] 27)).alloc (.cells #[.int .i64 8, .int .i64 4, .int .i64 4, .int .i64 16] 3)) (.slice (some ⟨w.heap.size + 1, 0, none⟩) 4 4) ([8, 4, 4, 16] : List Int).length (icells [8, 4, 4, 16]) := by simpa [icells] using Sl.lit (w.alloc (.cells #[U 0#64, W 0#32, .int .i64 0, U 0#64, U 0#64] 27)) #[.int .i64 8, .int .i64 4, .int .i64 4, .int .i64 16] 3 4 (by decide)
  go_enter Try.func9, Try.ntmps9
  go_wp2_with fail
  refine (cut_any _ _ bs [8, 4, 4, 16] hl (by simp) _ hb2 hsz).mono ?_
  rintro e w3 ⟨hk3, v, rfl, hr⟩
  have hZ := hZ2.kept hk3
  have hk := hk2.of hk3
  rw [cut_root, if_pos h]
  unfold cutV
  have hrs := (hr _ (by rw [cut_root, if_pos h])).sl
  have n0 : (bs.take 8).length = 8 := by rw [List.length_take]; omega
  have n1 : ((bs.drop 8).take 4).length = 4 := by rw [List.length_take, List.length_drop]; omega
  have n2 : ((bs.drop 12).take 4).length = 4 := by rw [List.length_take, List.length_drop]; omega
  have n3 : (bs.drop 16).length = 16 := by rw [List.length_drop]; omega
  obtain ⟨us, hv, hall⟩ := hrs.all
  obtain ⟨u0, u1, u2, u3, rfl⟩ : ∃ a b c d, us = [a, b, c, d] := by
    match us, hall.len with
    | [a, b, c, d], _ => exact ⟨a, b, c, d, rfl⟩
  obtain ⟨s0, s1, s2, s3, _⟩ := hall
  obtain ⟨q, qo, qc, rfl, hq1, hq2, _, hqx⟩ := hv.at (by simp)
  have x0 := hqx 0 u0 rfl
  have x1 := hqx 1 u1 rfl
  have x2 := hqx 2 u2 rfl
  have x3 := hqx 3 u3 rfl
  rw [Nat.add_zero] at x0
  obtain ⟨row2, hrow2⟩ : ∃ row2, row2 = (bs.drop 12).take 4 := ⟨_, rfl⟩
  have hlt := get4_lt ((bs.drop 12).take 4) n2
  have hci : ∀ wx : World, (convert 22 3 (U (getB row2))).run Try.prog wx = .ok (.int .i64 (rootOf bs).slots) wx := fun wx => by
    rw [hrow2, U, conv_int wx 22 3 _ .i64 _ (by kernel_rfl) Try.underlying3, IntWalk.i64_in _ (by omega)]
    rfl
  rw [← hrow2] at s2 n2
  have hqm : (4 : Int) ≤ (qc : Int) := by simp at hq1; omega
  have z0 := hZ.cell 0
  have y0 := hZ.free 0
  have z1 := hZ.cell 1
  have y1 := hZ.free 1
  have z2 := hZ.cell 2
  have y2 := hZ.free 2
  have z3 := hZ.cell 3
  have y3 := hZ.free 3
  have z4 := hZ.cell 4
  have y4 := hZ.free 4
  have HS := Lib.hid hs
  have N0 := Lib.hid n0
  have N1 := Lib.hid n1
  have N2 := Lib.hid n2
  have N3 := Lib.hid n3
  have H := Lib.hid h
  have HR := Lib.hid hrow2
  clear hr hk1 hk2 hk3 hZ1 hZ2 hb2 hb hsz h hs n0 n1 n2 n3 hrs hv hq1 hq2 hqx hlt hrow2
  go_wp2_with fail
  refine (get_some _ _ _ s0 (by rw [N0.out]; omega) (by rw [N0.out]; omega)).mono ?_
  rintro e w4 ⟨rfl, rfl⟩
  go_wp2_with fail
  refine (get_some _ _ _ s1 (by rw [N1.out]; omega) (by rw [N1.out]; omega)).mono ?_
  rintro e w4 ⟨rfl, rfl⟩
  go_wp2_with fail
  refine (get_some _ row2 _ s2 (by rw [N2.out]; omega) (by rw [N2.out]; omega)).mono ?_
  rintro e w4 ⟨rfl, rfl⟩
  go_wp2_with fail
  refine (pair_some _ _ _ s3 N3.out).mono ?_
  rintro e w4 ⟨rfl, hk4⟩
  replace hZ := hZ.kept hk4
  replace hk := Kept.of hk hk4
  clear x0 x1 x2 x3 s0 s1 s2 s3 hk4 z0 z1 z2 z3 z4 y0 y1 y2 y3 y4
  go_wp2_with fail
  have hP := Blk.new w4 #[U (pairG (bs.drop 16)).1, U (pairG (bs.drop 16)).2] 25
  replace hZ := hZ.alloc (.cells #[U (pairG (bs.drop 16)).1, U (pairG (bs.drop 16)).2] 25)
  replace hk := hk.alloc (by have := hk.size; omega) (.cells #[U (pairG (bs.drop 16)).1, U (pairG (bs.drop 16)).2] 25)
  generalize w4.alloc (.cells #[U (pairG (bs.drop 16)).1, U (pairG (bs.drop 16)).2] 25) = W5 at *
  have p0 := hP.cell 0
  have p1 := hP.cell 1
  have z0 := hZ.cell 0
  have y0 := hZ.free 0
  have z1 := hZ.cell 1
  have y1 := hZ.free 1
  have z2 := hZ.cell 2
  have y2 := hZ.free 2
  have z3 := hZ.cell 3
  have y3 := hZ.free 3
  have z4 := hZ.cell 4
  have y4 := hZ.free 4
  refine (isSlots_any _ _).mono ?_
  rintro e w5 ⟨rfl, rfl⟩
  rw [HS.out]
  go_wp2
  refine bodyPost_ret (v := .tuple #[.agg #[U (rootOf bs).count, W (rootOf bs).epoch, .int .i64 ((rootOf bs).slots), U (rootOf bs).hash.1, U (rootOf bs).hash.2], .bool true]) (by simp [rootOf, HR.out, results, Try.results9, go_sem, z0, z1, z2, z3, z4]; done) rfl ⟨rfl, ?_⟩
  exact ((((hk.setCell (Nat.le_refl _) _).setCell (Nat.le_refl _) _).setCell (Nat.le_refl _) _).setCell (Nat.le_refl _) _).setCell (Nat.le_refl _) _

end Go.Proofs.Ytldgmilfihkkdaa
