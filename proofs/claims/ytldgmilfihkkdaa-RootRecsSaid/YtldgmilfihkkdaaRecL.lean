/- RootRecs: any record as bytes, or none; any bytes as a record, or none; and back. -/
import Derived.Test.YtldgmilfihkkdaaRecA
import Derived.Test.YtldgmilfihkkdaaRootL
import Derived.Test.YtldgmilfihkkdaaRows
namespace Go.Proofs.Ytldgmilfihkkdaa
open Go Go.RowKit

theorem nnEq_self (a b : BitVec 32) (x : BitVec 64) : nnEq ⟨a, b, x⟩ ⟨a, b, x⟩ = true := by unfold nnEq; simp
set_option maxRecDepth 100000 in
set_option maxHeartbeats 4000000 in
theorem recs_ok (n : Nn) (su : Value) (bs : List UInt8) (t1 t2 : BitVec 64) (vb : Value) (b : List UInt8) (hl : bs.length ≤ 100) (hm : b.length ≤ 100) (hc : bs.length = 32 ∧ n.slot = 65535#32) (w : World) (hs : Sl w su bs.length (bcells bs)) (hb : Sl w vb b.length (bcells b)) : Calls Try.prog 6 #[n.val, .agg #[su, U t1, U t2], vb] w fun e w' => e = .returned (.bool true) ∧ Kept w w' := by
  obtain ⟨sa, sc, hsu⟩ := hs.len
  subst hsu
  obtain ⟨ba, bc, hvb⟩ := hb.len
  subst hvb
  have i0 : (bs.length : Int) ≤ 100 := by omega
  have i1 : (b.length : Int) ≤ 100 := by omega
  have HC := Lib.hid hc
  have HL := Lib.hid hl
  have HM := Lib.hid hm
  rw [hc.1] at hs
  clear hc hl hm
  have hk0 : Kept w ((w.alloc (.cells #[W n.epoch, W n.slot, U n.version] 38)).alloc (.cells #[.slice sa 32 sc, U t1, U t2] 40)) := ((Below.refl _ _).alloc (Nat.le_refl _) _).alloc (by simp) _
  have hN : Blk ((w.alloc (.cells #[W n.epoch, W n.slot, U n.version] 38)).alloc (.cells #[.slice sa 32 sc, U t1, U t2] 40)) w.heap.size #[W n.epoch, W n.slot, U n.version] 38 := (Blk.new _ _ _).alloc _
  have hS : Blk ((w.alloc (.cells #[W n.epoch, W n.slot, U n.version] 38)).alloc (.cells #[.slice sa 32 sc, U t1, U t2] 40)) (w.heap.size + 1) #[.slice sa 32 sc, U t1, U t2] 40 := by simpa using Blk.new (w.alloc (.cells #[W n.epoch, W n.slot, U n.version] 38)) #[.slice sa 32 sc, U t1, U t2] 40
  replace hs := hs.kept hk0
  replace hb := hb.kept hk0
  have n0 := hN.cell 0
  have n1 := hN.cell 1
  have n2 := hN.cell 2
  have q0 := hS.cell 0
  have q1 := hS.cell 1
  have q2 := hS.cell 2
  rw [HC.out.1]
  unfold Nn.val
  go_enter Try.func6, Try.ntmps6
  go_wp2_with fail
  refine (putrec_some n t1 t2 _ bs HC.out.1 HC.out.2 _ (by rw [HC.out.1]; exact hs)).mono ?_
  rintro e w1 ⟨p1, rfl, hown1, hk1⟩
  have s1 := Sl.of_own hown1
  rw [← recB_length n bs (t1, t2) HC.out.1] at s1
  clear hown1
  obtain ⟨pa1, pc1, hp1⟩ := s1.len
  subst hp1
  replace hk0 := Kept.of hk0 hk1
  replace hN := hN.kept hk1
  replace hS := hS.kept hk1
  replace hs := hs.kept hk1
  replace hb := hb.kept hk1
  clear hk1
  clear n0 n1 n2 q0 q1 q2
  have n0 := hN.cell 0
  have n1 := hN.cell 1
  have n2 := hN.cell 2
  have q0 := hS.cell 0
  have q1 := hS.cell 1
  have q2 := hS.cell 2
  go_wp2_with fail
  refine (rputrec_some n t1 t2 _ bs HC.out.1 HC.out.2 _ (by rw [HC.out.1]; exact hs)).mono ?_
  rintro e w2 ⟨p2, rfl, hown2, hk2⟩
  have s2 := Sl.of_own hown2
  rw [← recB_length n bs (t1, t2) HC.out.1] at s2
  clear hown2
  obtain ⟨pa2, pc2, hp2⟩ := s2.len
  subst hp2
  replace hk0 := Kept.of hk0 hk2
  replace hN := hN.kept hk2
  replace hS := hS.kept hk2
  replace hs := hs.kept hk2
  replace hb := hb.kept hk2
  replace s1 := s1.kept hk2
  clear hk2
  clear n0 n1 n2 q0 q1 q2
  have n0 := hN.cell 0
  have n1 := hN.cell 1
  have n2 := hN.cell 2
  have q0 := hS.cell 0
  have q1 := hS.cell 1
  have q2 := hS.cell 2
  have c1 := str_of s1
  have c2 := str_of s2
  go_wp2_with fail
  refine (getrec_any _ (recB n bs (t1, t2)) (by rw [recB_length _ _ _ HC.out.1]; omega) _ s1).mono ?_
  rintro e w3 ⟨u3, rfl, s3, hk3⟩
  obtain ⟨g1, g2, g3, g4⟩ := g_recB n bs (t1, t2) HC.out.2 HC.out.1
  rw [g1, g3, g4]
  rw [g2] at s3
  clear g1 g2 g3 g4 c1 c2 s1 s2
  replace hN := hN.kept hk3
  replace hS := hS.kept hk3
  replace hs := hs.kept hk3
  replace hb := hb.kept hk3
  replace hk0 := Kept.of hk0 hk3
  clear hk3
  obtain ⟨u3a, u3c, hu3⟩ := s3.len
  subst hu3
  unfold Nn.val
  have hM3 : Blk ((w3.alloc (.cells #[W n.epoch, W n.slot, U n.version] 38)).alloc (.cells #[.slice u3a bs.length u3c, U t1, U t2] 40)) w3.heap.size #[W n.epoch, W n.slot, U n.version] 38 := (Blk.new _ _ _).alloc _
  have hT3 : Blk ((w3.alloc (.cells #[W n.epoch, W n.slot, U n.version] 38)).alloc (.cells #[.slice u3a bs.length u3c, U t1, U t2] 40)) (w3.heap.size + 1) #[.slice u3a bs.length u3c, U t1, U t2] 40 := by simpa using Blk.new (w3.alloc (.cells #[W n.epoch, W n.slot, U n.version] 38)) #[.slice u3a bs.length u3c, U t1, U t2] 40
  have hkb : Kept w3 ((w3.alloc (.cells #[W n.epoch, W n.slot, U n.version] 38)).alloc (.cells #[.slice u3a bs.length u3c, U t1, U t2] 40)) := ((Below.refl _ _).alloc (Nat.le_refl _) _).alloc (by simp) _
  replace s3 := s3.kept hkb
  replace hN := hN.kept hkb
  replace hS := hS.kept hkb
  replace hs := hs.kept hkb
  replace hb := hb.kept hkb
  replace hk0 := Kept.of hk0 hkb
  clear hkb
  clear n0 n1 n2 q0 q1 q2
  go_wp2_with fail
  refine (getrec_any _ b (by have := HM.out; omega) _ hb).mono ?_
  rintro e w4 ⟨u4, rfl, s4, hk4⟩
  replace hN := hN.kept hk4
  replace hS := hS.kept hk4
  replace hs := hs.kept hk4
  replace hb := hb.kept hk4
  replace hM3 := hM3.kept hk4
  replace hT3 := hT3.kept hk4
  replace s3 := s3.kept hk4
  replace hk0 := Kept.of hk0 hk4
  clear hk4
  obtain ⟨gn, hgn⟩ : ∃ x, x = gN b := ⟨_, rfl⟩
  obtain ⟨gs, hgs⟩ : ∃ x, x = gS b := ⟨_, rfl⟩
  obtain ⟨gt, hgt⟩ : ∃ x, x = gT b := ⟨_, rfl⟩
  obtain ⟨gk, hgk⟩ : ∃ x, x = gK b := ⟨_, rfl⟩
  have HGN := Lib.hid hgn
  have HGS := Lib.hid hgs
  have HGT := Lib.hid hgt
  have HGK := Lib.hid hgk
  clear hgn hgs hgt hgk
  rw [← HGN.out, ← HGT.out, ← HGK.out]
  rw [← HGS.out] at s4
  obtain ⟨u4a, u4c, hu4⟩ := s4.len
  subst hu4
  unfold Nn.val
  have hM4 : Blk ((w4.alloc (.cells #[W gn.epoch, W gn.slot, U gn.version] 38)).alloc (.cells #[.slice u4a gs.length u4c, U gt.1, U gt.2] 40)) w4.heap.size #[W gn.epoch, W gn.slot, U gn.version] 38 := (Blk.new _ _ _).alloc _
  have hT4 : Blk ((w4.alloc (.cells #[W gn.epoch, W gn.slot, U gn.version] 38)).alloc (.cells #[.slice u4a gs.length u4c, U gt.1, U gt.2] 40)) (w4.heap.size + 1) #[.slice u4a gs.length u4c, U gt.1, U gt.2] 40 := by simpa using Blk.new (w4.alloc (.cells #[W gn.epoch, W gn.slot, U gn.version] 38)) #[.slice u4a gs.length u4c, U gt.1, U gt.2] 40
  have hkb : Kept w4 ((w4.alloc (.cells #[W gn.epoch, W gn.slot, U gn.version] 38)).alloc (.cells #[.slice u4a gs.length u4c, U gt.1, U gt.2] 40)) := ((Below.refl _ _).alloc (Nat.le_refl _) _).alloc (by simp) _
  replace s4 := s4.kept hkb
  replace hN := hN.kept hkb
  replace hS := hS.kept hkb
  replace hs := hs.kept hkb
  replace hb := hb.kept hkb
  replace hM3 := hM3.kept hkb
  replace hT3 := hT3.kept hkb
  replace s3 := s3.kept hkb
  replace hk0 := Kept.of hk0 hkb
  clear hkb
  go_wp2_with fail
  refine (rgetrec_any _ b (by have := HM.out; omega) _ hb).mono ?_
  rintro e w5 ⟨u5, rfl, s5, hk5⟩
  replace hN := hN.kept hk5
  replace hS := hS.kept hk5
  replace hs := hs.kept hk5
  replace hb := hb.kept hk5
  replace hM3 := hM3.kept hk5
  replace hT3 := hT3.kept hk5
  replace s3 := s3.kept hk5
  replace hM4 := hM4.kept hk5
  replace hT4 := hT4.kept hk5
  replace s4 := s4.kept hk5
  replace hk0 := Kept.of hk0 hk5
  clear hk5
  rw [← HGN.out, ← HGT.out, ← HGK.out]
  rw [← HGS.out] at s5
  obtain ⟨u5a, u5c, hu5⟩ := s5.len
  subst hu5
  unfold Nn.val
  have hM5 : Blk ((w5.alloc (.cells #[W gn.epoch, W gn.slot, U gn.version] 38)).alloc (.cells #[.slice u5a gs.length u5c, U gt.1, U gt.2] 40)) w5.heap.size #[W gn.epoch, W gn.slot, U gn.version] 38 := (Blk.new _ _ _).alloc _
  have hT5 : Blk ((w5.alloc (.cells #[W gn.epoch, W gn.slot, U gn.version] 38)).alloc (.cells #[.slice u5a gs.length u5c, U gt.1, U gt.2] 40)) (w5.heap.size + 1) #[.slice u5a gs.length u5c, U gt.1, U gt.2] 40 := by simpa using Blk.new (w5.alloc (.cells #[W gn.epoch, W gn.slot, U gn.version] 38)) #[.slice u5a gs.length u5c, U gt.1, U gt.2] 40
  have hkb : Kept w5 ((w5.alloc (.cells #[W gn.epoch, W gn.slot, U gn.version] 38)).alloc (.cells #[.slice u5a gs.length u5c, U gt.1, U gt.2] 40)) := ((Below.refl _ _).alloc (Nat.le_refl _) _).alloc (by simp) _
  replace s5 := s5.kept hkb
  replace hN := hN.kept hkb
  replace hS := hS.kept hkb
  replace hs := hs.kept hkb
  replace hb := hb.kept hkb
  replace hM3 := hM3.kept hkb
  replace hT3 := hT3.kept hkb
  replace s3 := s3.kept hkb
  replace hM4 := hM4.kept hkb
  replace hT4 := hT4.kept hkb
  replace s4 := s4.kept hkb
  replace hk0 := Kept.of hk0 hkb
  clear hkb
  have yhN0 := hN.cell 0
  have yhN1 := hN.cell 1
  have yhN2 := hN.cell 2
  have yhS0 := hS.cell 0
  have yhS1 := hS.cell 1
  have yhS2 := hS.cell 2
  have yhM30 := hM3.cell 0
  have yhM31 := hM3.cell 1
  have yhM32 := hM3.cell 2
  have yhT30 := hT3.cell 0
  have yhT31 := hT3.cell 1
  have yhT32 := hT3.cell 2
  have yhM40 := hM4.cell 0
  have yhM41 := hM4.cell 1
  have yhM42 := hM4.cell 2
  have yhT40 := hT4.cell 0
  have yhT41 := hT4.cell 1
  have yhT42 := hT4.cell 2
  have yhM50 := hM5.cell 0
  have yhM51 := hM5.cell 1
  have yhM52 := hM5.cell 2
  have yhT50 := hT5.cell 0
  have yhT51 := hT5.cell 1
  have yhT52 := hT5.cell 2
  have e1 := nnEq_self n.epoch n.slot n.version
  have e2 := nnEq_self gn.epoch gn.slot gn.version
  go_wp2_with fail
  refine (sealed_same _ _ bs bs t1 t2 t1 t2 _ s3 (by rw [HC.out.1]; exact hs)).mono ?_
  rintro e w6 ⟨rfl, hk6⟩
  clear yhN0 yhN1 yhN2 yhS0 yhS1 yhS2 yhM30 yhM31 yhM32 yhT30 yhT31 yhT32 yhM40 yhM41 yhM42 yhT40 yhT41 yhT42 yhM50 yhM51 yhM52 yhT50 yhT51 yhT52
  replace hN := hN.kept hk6
  replace hS := hS.kept hk6
  replace hs := hs.kept hk6
  replace hb := hb.kept hk6
  replace hM3 := hM3.kept hk6
  replace hT3 := hT3.kept hk6
  replace s3 := s3.kept hk6
  replace hM4 := hM4.kept hk6
  replace hT4 := hT4.kept hk6
  replace s4 := s4.kept hk6
  replace hM5 := hM5.kept hk6
  replace hT5 := hT5.kept hk6
  replace s5 := s5.kept hk6
  replace hk0 := Kept.of hk0 hk6
  clear hk6
  have yhN0 := hN.cell 0
  have yhN1 := hN.cell 1
  have yhN2 := hN.cell 2
  have yhS0 := hS.cell 0
  have yhS1 := hS.cell 1
  have yhS2 := hS.cell 2
  have yhM30 := hM3.cell 0
  have yhM31 := hM3.cell 1
  have yhM32 := hM3.cell 2
  have yhT30 := hT3.cell 0
  have yhT31 := hT3.cell 1
  have yhT32 := hT3.cell 2
  have yhM40 := hM4.cell 0
  have yhM41 := hM4.cell 1
  have yhM42 := hM4.cell 2
  have yhT40 := hT4.cell 0
  have yhT41 := hT4.cell 1
  have yhT42 := hT4.cell 2
  have yhM50 := hM5.cell 0
  have yhM51 := hM5.cell 1
  have yhM52 := hM5.cell 2
  have yhT50 := hT5.cell 0
  have yhT51 := hT5.cell 1
  have yhT52 := hT5.cell 2
  go_wp2_with fail
  refine (sealed_same _ _ gs gs gt.1 gt.2 gt.1 gt.2 _ s4 s5).mono ?_
  rintro e w7 ⟨rfl, hk7⟩
  clear yhN0 yhN1 yhN2 yhS0 yhS1 yhS2 yhM30 yhM31 yhM32 yhT30 yhT31 yhT32 yhM40 yhM41 yhM42 yhT40 yhT41 yhT42 yhM50 yhM51 yhM52 yhT50 yhT51 yhT52
  replace hk0 := Kept.of hk0 hk7
  go_wp2_with fail
  refine (known_any _).mono ?_
  rintro e w8 ⟨rfl, hk8⟩
  go_wp2
  go_ret
  exact ⟨rfl, hk0.of hk8⟩

set_option maxRecDepth 100000 in
set_option maxHeartbeats 4000000 in
theorem recs_no (n : Nn) (su : Value) (bs : List UInt8) (t1 t2 : BitVec 64) (vb : Value) (b : List UInt8) (hl : bs.length ≤ 100) (hm : b.length ≤ 100) (hc : bs.length ≠ 32 ∨ n.slot ≠ 65535#32) (w : World) (hs : Sl w su bs.length (bcells bs)) (hb : Sl w vb b.length (bcells b)) : Calls Try.prog 6 #[n.val, .agg #[su, U t1, U t2], vb] w fun e w' => e = .returned (.bool true) ∧ Kept w w' := by
  obtain ⟨sa, sc, hsu⟩ := hs.len
  subst hsu
  obtain ⟨ba, bc, hvb⟩ := hb.len
  subst hvb
  have i0 : (bs.length : Int) ≤ 100 := by omega
  have i1 : (b.length : Int) ≤ 100 := by omega
  have HC := Lib.hid hc
  have HL := Lib.hid hl
  have HM := Lib.hid hm
  clear hc hl hm
  have hk0 : Kept w ((w.alloc (.cells #[W n.epoch, W n.slot, U n.version] 38)).alloc (.cells #[.slice sa bs.length sc, U t1, U t2] 40)) := ((Below.refl _ _).alloc (Nat.le_refl _) _).alloc (by simp) _
  have hN : Blk ((w.alloc (.cells #[W n.epoch, W n.slot, U n.version] 38)).alloc (.cells #[.slice sa bs.length sc, U t1, U t2] 40)) w.heap.size #[W n.epoch, W n.slot, U n.version] 38 := (Blk.new _ _ _).alloc _
  have hS : Blk ((w.alloc (.cells #[W n.epoch, W n.slot, U n.version] 38)).alloc (.cells #[.slice sa bs.length sc, U t1, U t2] 40)) (w.heap.size + 1) #[.slice sa bs.length sc, U t1, U t2] 40 := by simpa using Blk.new (w.alloc (.cells #[W n.epoch, W n.slot, U n.version] 38)) #[.slice sa bs.length sc, U t1, U t2] 40
  replace hs := hs.kept hk0
  replace hb := hb.kept hk0
  have n0 := hN.cell 0
  have n1 := hN.cell 1
  have n2 := hN.cell 2
  have q0 := hS.cell 0
  have q1 := hS.cell 1
  have q2 := hS.cell 2
  unfold Nn.val
  go_enter Try.func6, Try.ntmps6
  go_wp2_with fail
  refine (putrec_none n t1 t2 _ bs (by have := HL.out; omega) HC.out _ hs).mono ?_
  rintro e w1 ⟨rfl, hk1⟩
  replace hk0 := Kept.of hk0 hk1
  replace hN := hN.kept hk1
  replace hS := hS.kept hk1
  replace hs := hs.kept hk1
  replace hb := hb.kept hk1
  clear hk1
  clear n0 n1 n2 q0 q1 q2
  have n0 := hN.cell 0
  have n1 := hN.cell 1
  have n2 := hN.cell 2
  have q0 := hS.cell 0
  have q1 := hS.cell 1
  have q2 := hS.cell 2
  go_wp2_with fail
  refine (rputrec_none n t1 t2 _ bs (by have := HL.out; omega) HC.out _ hs).mono ?_
  rintro e w2 ⟨rfl, hk2⟩
  replace hk0 := Kept.of hk0 hk2
  replace hN := hN.kept hk2
  replace hS := hS.kept hk2
  replace hs := hs.kept hk2
  replace hb := hb.kept hk2
  clear hk2
  clear n0 n1 n2 q0 q1 q2
  have n0 := hN.cell 0
  have n1 := hN.cell 1
  have n2 := hN.cell 2
  have q0 := hS.cell 0
  have q1 := hS.cell 1
  have q2 := hS.cell 2
  have c1 := str_of (bs := []) (Sl.nil w2)
  go_wp2_with fail
  refine (getrec_any _ [] (by simp) _ (Sl.nil _)).mono ?_
  rintro e w3 ⟨u3, rfl, s3, hk3⟩
  rw [show gK [] = false from rfl, show gN [] = ⟨0#32, 0#32, 0#64⟩ from rfl, show gT [] = (0#64, 0#64) from rfl]
  clear c1
  replace hN := hN.kept hk3
  replace hS := hS.kept hk3
  replace hs := hs.kept hk3
  replace hb := hb.kept hk3
  replace hk0 := Kept.of hk0 hk3
  clear hk3
  obtain ⟨u3a, u3c, hu3⟩ := s3.len
  subst hu3
  unfold Nn.val
  have hM3 : Blk ((w3.alloc (.cells #[W 0#32, W 0#32, U 0#64] 38)).alloc (.cells #[.slice u3a 0 u3c, U 0#64, U 0#64] 40)) w3.heap.size #[W 0#32, W 0#32, U 0#64] 38 := (Blk.new _ _ _).alloc _
  have hT3 : Blk ((w3.alloc (.cells #[W 0#32, W 0#32, U 0#64] 38)).alloc (.cells #[.slice u3a 0 u3c, U 0#64, U 0#64] 40)) (w3.heap.size + 1) #[.slice u3a 0 u3c, U 0#64, U 0#64] 40 := by simpa using Blk.new (w3.alloc (.cells #[W 0#32, W 0#32, U 0#64] 38)) #[.slice u3a 0 u3c, U 0#64, U 0#64] 40
  have hkb : Kept w3 ((w3.alloc (.cells #[W 0#32, W 0#32, U 0#64] 38)).alloc (.cells #[.slice u3a 0 u3c, U 0#64, U 0#64] 40)) := ((Below.refl _ _).alloc (Nat.le_refl _) _).alloc (by simp) _
  replace s3 := s3.kept hkb
  replace hN := hN.kept hkb
  replace hS := hS.kept hkb
  replace hs := hs.kept hkb
  replace hb := hb.kept hkb
  replace hk0 := Kept.of hk0 hkb
  clear hkb
  clear n0 n1 n2 q0 q1 q2
  go_wp2_with fail
  refine (getrec_any _ b (by have := HM.out; omega) _ hb).mono ?_
  rintro e w4 ⟨u4, rfl, s4, hk4⟩
  replace hN := hN.kept hk4
  replace hS := hS.kept hk4
  replace hs := hs.kept hk4
  replace hb := hb.kept hk4
  replace hM3 := hM3.kept hk4
  replace hT3 := hT3.kept hk4
  replace s3 := s3.kept hk4
  replace hk0 := Kept.of hk0 hk4
  clear hk4
  obtain ⟨gn, hgn⟩ : ∃ x, x = gN b := ⟨_, rfl⟩
  obtain ⟨gs, hgs⟩ : ∃ x, x = gS b := ⟨_, rfl⟩
  obtain ⟨gt, hgt⟩ : ∃ x, x = gT b := ⟨_, rfl⟩
  obtain ⟨gk, hgk⟩ : ∃ x, x = gK b := ⟨_, rfl⟩
  have HGN := Lib.hid hgn
  have HGS := Lib.hid hgs
  have HGT := Lib.hid hgt
  have HGK := Lib.hid hgk
  clear hgn hgs hgt hgk
  rw [← HGN.out, ← HGT.out, ← HGK.out]
  rw [← HGS.out] at s4
  obtain ⟨u4a, u4c, hu4⟩ := s4.len
  subst hu4
  unfold Nn.val
  have hM4 : Blk ((w4.alloc (.cells #[W gn.epoch, W gn.slot, U gn.version] 38)).alloc (.cells #[.slice u4a gs.length u4c, U gt.1, U gt.2] 40)) w4.heap.size #[W gn.epoch, W gn.slot, U gn.version] 38 := (Blk.new _ _ _).alloc _
  have hT4 : Blk ((w4.alloc (.cells #[W gn.epoch, W gn.slot, U gn.version] 38)).alloc (.cells #[.slice u4a gs.length u4c, U gt.1, U gt.2] 40)) (w4.heap.size + 1) #[.slice u4a gs.length u4c, U gt.1, U gt.2] 40 := by simpa using Blk.new (w4.alloc (.cells #[W gn.epoch, W gn.slot, U gn.version] 38)) #[.slice u4a gs.length u4c, U gt.1, U gt.2] 40
  have hkb : Kept w4 ((w4.alloc (.cells #[W gn.epoch, W gn.slot, U gn.version] 38)).alloc (.cells #[.slice u4a gs.length u4c, U gt.1, U gt.2] 40)) := ((Below.refl _ _).alloc (Nat.le_refl _) _).alloc (by simp) _
  replace s4 := s4.kept hkb
  replace hN := hN.kept hkb
  replace hS := hS.kept hkb
  replace hs := hs.kept hkb
  replace hb := hb.kept hkb
  replace hM3 := hM3.kept hkb
  replace hT3 := hT3.kept hkb
  replace s3 := s3.kept hkb
  replace hk0 := Kept.of hk0 hkb
  clear hkb
  go_wp2_with fail
  refine (rgetrec_any _ b (by have := HM.out; omega) _ hb).mono ?_
  rintro e w5 ⟨u5, rfl, s5, hk5⟩
  replace hN := hN.kept hk5
  replace hS := hS.kept hk5
  replace hs := hs.kept hk5
  replace hb := hb.kept hk5
  replace hM3 := hM3.kept hk5
  replace hT3 := hT3.kept hk5
  replace s3 := s3.kept hk5
  replace hM4 := hM4.kept hk5
  replace hT4 := hT4.kept hk5
  replace s4 := s4.kept hk5
  replace hk0 := Kept.of hk0 hk5
  clear hk5
  rw [← HGN.out, ← HGT.out, ← HGK.out]
  rw [← HGS.out] at s5
  obtain ⟨u5a, u5c, hu5⟩ := s5.len
  subst hu5
  unfold Nn.val
  have hM5 : Blk ((w5.alloc (.cells #[W gn.epoch, W gn.slot, U gn.version] 38)).alloc (.cells #[.slice u5a gs.length u5c, U gt.1, U gt.2] 40)) w5.heap.size #[W gn.epoch, W gn.slot, U gn.version] 38 := (Blk.new _ _ _).alloc _
  have hT5 : Blk ((w5.alloc (.cells #[W gn.epoch, W gn.slot, U gn.version] 38)).alloc (.cells #[.slice u5a gs.length u5c, U gt.1, U gt.2] 40)) (w5.heap.size + 1) #[.slice u5a gs.length u5c, U gt.1, U gt.2] 40 := by simpa using Blk.new (w5.alloc (.cells #[W gn.epoch, W gn.slot, U gn.version] 38)) #[.slice u5a gs.length u5c, U gt.1, U gt.2] 40
  have hkb : Kept w5 ((w5.alloc (.cells #[W gn.epoch, W gn.slot, U gn.version] 38)).alloc (.cells #[.slice u5a gs.length u5c, U gt.1, U gt.2] 40)) := ((Below.refl _ _).alloc (Nat.le_refl _) _).alloc (by simp) _
  replace s5 := s5.kept hkb
  replace hN := hN.kept hkb
  replace hS := hS.kept hkb
  replace hs := hs.kept hkb
  replace hb := hb.kept hkb
  replace hM3 := hM3.kept hkb
  replace hT3 := hT3.kept hkb
  replace s3 := s3.kept hkb
  replace hM4 := hM4.kept hkb
  replace hT4 := hT4.kept hkb
  replace s4 := s4.kept hkb
  replace hk0 := Kept.of hk0 hkb
  clear hkb
  have yhN0 := hN.cell 0
  have yhN1 := hN.cell 1
  have yhN2 := hN.cell 2
  have yhS0 := hS.cell 0
  have yhS1 := hS.cell 1
  have yhS2 := hS.cell 2
  have yhM30 := hM3.cell 0
  have yhM31 := hM3.cell 1
  have yhM32 := hM3.cell 2
  have yhT30 := hT3.cell 0
  have yhT31 := hT3.cell 1
  have yhT32 := hT3.cell 2
  have yhM40 := hM4.cell 0
  have yhM41 := hM4.cell 1
  have yhM42 := hM4.cell 2
  have yhT40 := hT4.cell 0
  have yhT41 := hT4.cell 1
  have yhT42 := hT4.cell 2
  have yhM50 := hM5.cell 0
  have yhM51 := hM5.cell 1
  have yhM52 := hM5.cell 2
  have yhT50 := hT5.cell 0
  have yhT51 := hT5.cell 1
  have yhT52 := hT5.cell 2
  have e2 := nnEq_self gn.epoch gn.slot gn.version
  go_wp2_with fail
  refine (sealed_same _ _ gs gs gt.1 gt.2 gt.1 gt.2 _ s4 s5).mono ?_
  rintro e w7 ⟨rfl, hk7⟩
  clear yhN0 yhN1 yhN2 yhS0 yhS1 yhS2 yhM30 yhM31 yhM32 yhT30 yhT31 yhT32 yhM40 yhM41 yhM42 yhT40 yhT41 yhT42 yhM50 yhM51 yhM52 yhT50 yhT51 yhT52
  replace hk0 := Kept.of hk0 hk7
  go_wp2_with fail
  refine (known_any _).mono ?_
  rintro e w8 ⟨rfl, hk8⟩
  go_wp2
  go_ret
  exact ⟨rfl, hk0.of hk8⟩

set_option maxRecDepth 100000 in
set_option maxHeartbeats 4000000 in
theorem recs_long (n : Nn) (su : Value) (bs : List UInt8) (t1 t2 : BitVec 64) (vb : Value) (b : List UInt8) (hl : 100 < bs.length) (w : World) (hs : Sl w su bs.length (bcells bs)) (hb : Sl w vb b.length (bcells b)) : Calls Try.prog 6 #[n.val, .agg #[su, U t1, U t2], vb] w fun e w' => e = .returned (.bool true) ∧ Kept w w' := by
  obtain ⟨sa, sc, hsu⟩ := hs.len
  subst hsu
  obtain ⟨ba, bc, hvb⟩ := hb.len
  subst hvb
  have i0 : (100 : Int) < (bs.length : Int) := by omega
  clear hl
  clear hs hb
  unfold Nn.val
  go_enter Try.func6, Try.ntmps6
  go_wp2
  go_ret
  exact ⟨rfl, ((Below.refl _ _).alloc (Nat.le_refl _) _).alloc (by simp) _⟩

set_option maxRecDepth 100000 in
set_option maxHeartbeats 4000000 in
theorem recs_long2 (n : Nn) (su : Value) (bs : List UInt8) (t1 t2 : BitVec 64) (vb : Value) (b : List UInt8) (hl : bs.length ≤ 100) (hm : 100 < b.length) (w : World) (hs : Sl w su bs.length (bcells bs)) (hb : Sl w vb b.length (bcells b)) : Calls Try.prog 6 #[n.val, .agg #[su, U t1, U t2], vb] w fun e w' => e = .returned (.bool true) ∧ Kept w w' := by
  obtain ⟨sa, sc, hsu⟩ := hs.len
  subst hsu
  obtain ⟨ba, bc, hvb⟩ := hb.len
  subst hvb
  have i0 : (bs.length : Int) ≤ 100 := by omega
  have i1 : (100 : Int) < (b.length : Int) := by omega
  clear hl hm
  clear hs hb
  unfold Nn.val
  go_enter Try.func6, Try.ntmps6
  go_wp2
  go_ret
  exact ⟨rfl, ((Below.refl _ _).alloc (Nat.le_refl _) _).alloc (by simp) _⟩

theorem recs_walk (n : Nn) (su : Value) (bs : List UInt8) (t : Pair) (vb : Value) (b : List UInt8) (w : World) (hs : Sl w su bs.length (bcells bs)) (hb : Sl w vb b.length (bcells b)) : Calls Try.prog 6 #[n.val, .agg #[su, U t.1, U t.2], vb] w fun e w' => e = .returned (.bool true) ∧ Kept w w' := by
  by_cases h1 : 100 < bs.length
  · exact recs_long n su bs t.1 t.2 vb b h1 w hs hb
  by_cases h2 : 100 < b.length
  · exact recs_long2 n su bs t.1 t.2 vb b (by omega) h2 w hs hb
  by_cases h3 : bs.length = 32 ∧ n.slot = 65535#32
  · exact recs_ok n su bs t.1 t.2 vb b (by omega) (by omega) h3 w hs hb
  · exact recs_no n su bs t.1 t.2 vb b (by omega) (by omega) (by by_cases h4 : bs.length = 32; exact .inr (fun h5 => h3 ⟨h4, h5⟩); exact .inl h4) w hs hb

namespace rootRecsRow
open Go.ChangeShapes Go.WideShapes Go.ChangeAt Go.RowKit
theorem own : ownKnob Try.prog.godebug = none := by kernel_rfl
theorem laidOut : laidOutB Try.prog = true := by kernel_rfl

set_option maxRecDepth 100000 in
theorem lifted (os : Os) (started : os.Started) (H : Type) (enc : TypeId × Value → H) :
    ReturnsInHanded {} Try.checked os 6 .any (Rows.rootRecsSpec.pre6 enc Try.prog Try.f6 Rows.rootRecsRow.domain false) (Rows.rootRecsSpec.post enc Try.prog Try.f6 false true false false) := by
  refine returnsInHanded_of_change (C := Try.checked) own started (by kernel_rfl) Try.func6
    (ChangeSpec.witness6 (enc := enc) (C := Try.checked) false ⟨#[], #[.agg #[.int .u32 0, .int .u32 0, .int .u64 0], .agg #[.slice none 0 0, .int .u64 0, .int .u64 0], .slice none 0 0], []⟩ 8 (by kernel_rfl) (by kernel_rfl) (by kernel_rfl) (by kernel_rfl)) ?_
  intro W base args ds gs before hval0 hW _ hsz
  have hval : ∀ (j : Nat) t v, Try.f6.params[j]? = some t → args[j]? = some v → Value.okWide Try.prog W .any base t v := hval0
  have hW' := hW
  obtain ⟨p, q, hA0, hV, rfl, hfz, hnd⟩ := hW
  have hA : DataW.TrodAll enc Try.prog W 0 (fun _ => true) true Try.f6.params.toList args.toList ds p := hA0
  rw [Try.params6] at hA hval
  obtain ⟨v0, vs0, d0, ds0, p0, q0, hargs, rfl, rfl, h0, r0⟩ := trodAll_cons hA
  obtain ⟨v1, vs1, d1, ds1, p1, q1, rfl, rfl, rfl, h1, r1⟩ := trodAll_cons r0
  obtain ⟨v2, vs2, d2, ds2, p2, q2, rfl, rfl, rfl, h2, r2⟩ := trodAll_cons r1
  obtain ⟨rfl, rfl, rfl⟩ := trodAll_nil r2
  obtain rfl : args = #[v0, v1, v2] := by cases args; simp_all
  obtain ⟨a0, rfl⟩ := open_nonce (H := H) (hval 0 38 v0 rfl rfl) h0
  obtain ⟨u1, b1, t1, rfl, s1⟩ := open_sealed (H := H) (hval 1 40 v1 rfl rfl) h1
  obtain ⟨a2b, a2⟩ := open_bytes (e := 5) Try.underlying28 Try.underlying5 (by kernel_rfl) (hval 2 28 v2 rfl rfl) h2
  refine (recs_walk a0 u1 b1 t1 v2 a2b W s1 a2).mono fun e W' ⟨he, bel⟩ => ?_
  subst he
  exact ⟨_, rfl, law_post (tb := 4) laidOut (by kernel_rfl) Try.underlying4 (by rfl) rfl (by intro xs hxs; match xs, hxs with | [x0, x1, x2], _ => rfl) hW' bel⟩

theorem over : Rows.rootRecsRow.holds Try.pinned (OpenSpec.ofChange Rows.rootRecsSpec) :=
  OpenClaim.holds_of_wide 6 Try.f6 rfl rfl rfl rfl rfl rfl rfl ⟨rfl, rfl, rfl, rfl, rfl⟩ rfl rfl rfl rfl rfl (by kernel_rfl) Try.func6 (by kernel_rfl)
    (of_decide_eq_true (by kernel_rfl)) (by unfold Func.isWrapper; rw [if_neg (of_decide_eq_false (by kernel_rfl))]; exact ⟨rfl, rfl⟩)
    (fun os started H enc _ => lifted os started H enc)
end rootRecsRow

theorem rootRecs_holds : Rows.RootRecsSaid := rootRecsRow.over
#print axioms rootRecs_holds

end Go.Proofs.Ytldgmilfihkkdaa
