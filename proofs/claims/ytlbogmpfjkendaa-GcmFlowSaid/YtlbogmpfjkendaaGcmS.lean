/- What gcm.Seal, gcm.Open, and their references, compute. -/
import Derived.Test.YtlbogmpfjkendaaGcmT
import Derived.Test.YtlbogmpfjkendaaSealed
import Derived.Test.YtlbogmpfjkendaaAbove
namespace Go.Proofs.Ytlbogmpfjkendaa
open Go Go.RowKit

set_option maxRecDepth 100000 in
set_option maxHeartbeats 4000000 in
theorem may_any (vh vb : Value) (h b : Nat) (ch cb : List Value) (w : World) (hh : Sl w vh h ch) (hb : Sl w vb b cb) : Calls Try.prog 20 #[vh, vb] w fun e w' => e = .returned (.bool (decide (h ≤ 4000) && decide (b ≤ 4000))) ∧ w = w' := by
  obtain ⟨ha, hc, hv⟩ := hh.len
  subst hv
  obtain ⟨ba, bc, hv⟩ := hb.len
  subst hv
  have i0 := hh.le
  have i1 := hb.le
  unfold maxLen at i0 i1
  clear hh hb
  by_cases h1 : h ≤ 4000
  · have j1 : (h : Int) ≤ 4000 := by omega
    have e1 : decide ((h : Int) ≤ 4000) = true := decide_eq_true (by omega)
    by_cases h2 : b ≤ 4000
    · have j2 : decide ((b : Int) ≤ 4000) = true := decide_eq_true (by omega)
      rw [decide_eq_true h1, decide_eq_true h2]
      clear h1 h2 i0 i1
      go_enter Try.func20, Try.ntmps20
      go_wp2
      go_ret
      exact ⟨rfl, rfl⟩
    · have j2 : decide ((b : Int) ≤ 4000) = false := decide_eq_false (by omega)
      rw [decide_eq_true h1, decide_eq_false h2]
      clear h1 h2 i0 i1
      go_enter Try.func20, Try.ntmps20
      go_wp2
      go_ret
      exact ⟨rfl, rfl⟩
  · have j1 : decide ((h : Int) ≤ 4000) = false := decide_eq_false (by omega)
    rw [decide_eq_false h1]
    clear h1 i0 i1
    go_enter Try.func20, Try.ntmps20
    go_wp2
    go_ret
    exact ⟨rfl, rfl⟩

set_option maxRecDepth 100000 in
set_option maxHeartbeats 4000000 in
theorem seal_any (k1 k2 : BitVec 64) (n : Nn) (vh vd : Value) (head data : List UInt8) (hl : head.length ≤ 4000) (dl : data.length ≤ 4000) (w : World) (hh : Sl w vh head.length (bcells head)) (hd : Sl w vd data.length (bcells data)) :
    Calls Try.prog 9 #[.agg #[U k1, U k2], n.val, vh, vd] w fun e w' => ∃ u, e = .returned (.tuple #[.agg #[u, U (sealT (k1, k2) n head data).1, U (sealT (k1, k2) n head data).2], .bool true]) ∧ w'.ownsRow w.heap.size 5 1 u data.length (bcells (ciph (k1, k2) n data)) ∧ Kept w w' := by
  obtain ⟨ha, hc, hv⟩ := hh.len
  subst hv
  obtain ⟨da, dc, hv⟩ := hd.len
  subst hv
  obtain ⟨H, hH⟩ : ∃ H, H = head.length := ⟨_, rfl⟩
  obtain ⟨D, hD⟩ : ∃ D, D = data.length := ⟨_, rfl⟩
  have hh1 : Sl w (.slice ha H hc) head.length (bcells head) := by rw [hH]; exact hh
  have hd1 : Sl w (.slice da D dc) data.length (bcells data) := by rw [hD]; exact hd
  rw [← hH] at hl ⊢
  rw [← hD] at dl ⊢
  have HH := Lib.hid hH
  have HD := Lib.hid hD
  clear hh hd hH hD
  have i0 : (H : Int) ≤ 4000 := by omega
  have i1 : (D : Int) ≤ 4000 := by omega
  unfold Nn.val
  have hk0 : Kept w (((w.alloc (.cells #[U k1, U k2] 24)).alloc (.cells #[W n.epoch, W n.slot, U n.version] 27)).alloc (.cells #[.slice none 0 0, U 0#64, U 0#64] 30)) := (((Below.refl _ _).alloc (Nat.le_refl _) _).alloc (by simp) _).alloc (by simp; omega) _
  have hK : Blk (((w.alloc (.cells #[U k1, U k2] 24)).alloc (.cells #[W n.epoch, W n.slot, U n.version] 27)).alloc (.cells #[.slice none 0 0, U 0#64, U 0#64] 30)) w.heap.size #[U k1, U k2] 24 := ((Blk.new _ _ _).alloc _).alloc _
  have hN : Blk (((w.alloc (.cells #[U k1, U k2] 24)).alloc (.cells #[W n.epoch, W n.slot, U n.version] 27)).alloc (.cells #[.slice none 0 0, U 0#64, U 0#64] 30)) (w.heap.size + 1) #[W n.epoch, W n.slot, U n.version] 27 := Blk.alloc (by simpa using Blk.new (w.alloc (.cells #[U k1, U k2] 24)) #[W n.epoch, W n.slot, U n.version] 27) _
  have hR : Blk (((w.alloc (.cells #[U k1, U k2] 24)).alloc (.cells #[W n.epoch, W n.slot, U n.version] 27)).alloc (.cells #[.slice none 0 0, U 0#64, U 0#64] 30)) (w.heap.size + 2) #[.slice none 0 0, U 0#64, U 0#64] 30 := by simpa using Blk.new ((w.alloc (.cells #[U k1, U k2] 24)).alloc (.cells #[W n.epoch, W n.slot, U n.version] 27)) #[.slice none 0 0, U 0#64, U 0#64] 30
  have q0 := hK.cell 0
  have q1 := hK.cell 1
  have n0 := hN.cell 0
  have n1 := hN.cell 1
  have n2 := hN.cell 2
  go_enter Try.func9, Try.ntmps9
  go_wp2_with fail
  have z0 : w.heap.size + 3 ≤ (((w.alloc (.cells #[U k1, U k2] 24)).alloc (.cells #[W n.epoch, W n.slot, U n.version] 27)).alloc (.cells #[.slice none 0 0, U 0#64, U 0#64] 30)).heap.size := by simp
  generalize (((w.alloc (.cells #[U k1, U k2] 24)).alloc (.cells #[W n.epoch, W n.slot, U n.version] 27)).alloc (.cells #[.slice none 0 0, U 0#64, U 0#64] 30)) = w0 at *
  refine (may_any _ _ H D _ _ _ (by rw [HH.out]; rw [HH.out] at hh1; exact hh1.kept hk0) (by rw [HD.out]; rw [HD.out] at hd1; exact hd1.kept hk0)).mono ?_
  rintro e w1 ⟨rfl, rfl⟩
  rw [decide_eq_true hl, decide_eq_true dl]
  go_wp2_with fail
  refine (sub_any _ _ n _).mono ?_
  rintro e w2 ⟨rfl, hk2⟩
  obtain ⟨s, hs⟩ : ∃ s, s = sub2 (k1, k2) n := ⟨_, rfl⟩
  rw [← hs]
  have HS := Lib.hid hs
  have hS := Blk.new w2 #[U s.1, U s.2] 24
  have hk3 : Kept w0 (w2.alloc (.cells #[U s.1, U s.2] 24)) := Kept.of hk2 ((Below.refl _ _).alloc (Nat.le_refl _) _)
  replace hR := hR.kept hk3
  replace hk0 := Kept.of hk0 hk3
  replace z0 := Nat.le_trans z0 hk3.size
  have s0 := hS.cell 0
  have s1 := hS.cell 1
  clear q0 q1 n0 n1 n2 hs hk2 hk3 hK hN
  go_wp2_with fail
  generalize w2.alloc (.cells #[U s.1, U s.2] 24) = w3 at *
  refine (fbytes_some _ _ D dl _).mono ?_
  rintro e w4 ⟨r4, rfl, o4, hk4⟩
  have sl4 : Sl w4 r4 (flowB (s.1, s.2) D).length (bcells (flowB (s.1, s.2) D)) := by rw [flowB_length]; exact Sl.of_own o4
  replace hR := hR.kept hk4
  replace hS := hS.kept hk4
  replace hk0 := Kept.of hk0 hk4
  replace z0 := Nat.le_trans z0 hk4.size
  clear s0 s1 hk4 o4
  go_wp2_with fail
  refine (xor_any _ _ data (flowB (s.1, s.2) D) (by rw [← HD.out]; exact dl) (by rw [flowB_length]; exact dl) _ (hd1.kept hk0) sl4).mono ?_
  rintro e w5 ⟨r5, rfl, o5, hk5⟩
  have hcl : (xorB data (flowB (s.1, s.2) D)) = ciph (k1, k2) n data := by
    unfold ciph; rw [← HS.out, HD.out]
  have hln : (xorB data (flowB (s.1, s.2) D)).length = D := by rw [hcl, ciph_length, HD.out]
  rw [hcl] at o5
  rw [hcl] at hln
  obtain ⟨C, hC⟩ : ∃ C, C = ciph (k1, k2) n data := ⟨_, rfl⟩
  rw [← hC] at o5 hln
  have o5' : w5.ownsRow w4.heap.size 5 1 r5 D (bcells C) := by rw [← hln]; simpa using o5
  have hw4 : w.heap.size ≤ w4.heap.size := hk0.size
  have HC := Lib.hid hC
  have HLN := Lib.hid hln
  replace hR := hR.kept hk5
  replace hS := hS.kept hk5
  replace hk0 := Kept.of hk0 hk5
  obtain ⟨ra, rc, he⟩ := (Sl.of_own o5').len
  subst he
  clear hk5 o5 sl4 hC hcl hln
  have s0 := hS.cell 0
  have s1 := hS.cell 1
  go_wp2_with fail
  refine (tag_any _ _ _ _ head C (by rw [← HH.out]; exact hl) (by rw [HLN.out]; exact dl) _ (hh1.kept hk0) (by rw [HLN.out]; exact Sl.of_own o5')).mono ?_
  rintro e w6 ⟨rfl, hk6⟩
  replace hR := hR.kept hk6
  replace hk0 := Kept.of hk0 hk6
  have o6 := own_kept o5' hk6
  have htt : tag2 (s.1, s.2) head C = sealT (k1, k2) n head data := by
    unfold sealT; rw [← HC.out, ← HS.out]
  rw [htt]
  have r0 := hR.cell 0
  have r1 := hR.cell 1
  have r2 := hR.cell 2
  have rf0 := hR.free 0
  have rf1 := hR.free 1
  have rf2 := hR.free 2
  clear s0 s1 hk6 htt o5' hS
  go_wp2
  refine bodyPost_ret (v := .tuple #[.agg #[.slice ra D rc, U (sealT (k1, k2) n head data).1, U (sealT (k1, k2) n head data).2], .bool true]) (by simp [results, Try.results9, go_sem, r0, r1, r2]; done) rfl ⟨_, rfl, ?_, ?_⟩
  · rw [← HC.out]
    have o7 := own_base o6 (show w.heap.size + 3 ≤ w4.heap.size from z0)
    refine own_base ?_ (show w.heap.size ≤ w.heap.size + 3 by omega)
    exact own_above o7 (((Above.refl _ _).trans (Above.setCell (a := ⟨w.heap.size + 2, 0, none⟩) (show w.heap.size + 2 < w.heap.size + 3 by omega) _)).trans (Above.setCell (a := ⟨w.heap.size + 2, 1, none⟩) (show w.heap.size + 2 < w.heap.size + 3 by omega) _) |>.trans (Above.setCell (a := ⟨w.heap.size + 2, 2, none⟩) (show w.heap.size + 2 < w.heap.size + 3 by omega) _))
  · exact ((hk0.setCell (by show _ ≤ w.heap.size + 2; omega) _).setCell (by show _ ≤ w.heap.size + 2; omega) _).setCell (by show _ ≤ w.heap.size + 2; omega) _

set_option maxRecDepth 100000 in
set_option maxHeartbeats 4000000 in
theorem rseal_any (k1 k2 : BitVec 64) (n : Nn) (vh vd : Value) (head data : List UInt8) (hl : head.length ≤ 4000) (dl : data.length ≤ 4000) (w : World) (hh : Sl w vh head.length (bcells head)) (hd : Sl w vd data.length (bcells data)) :
    Calls Try.prog 10 #[.agg #[U k1, U k2], n.val, vh, vd] w fun e w' => ∃ u, e = .returned (.tuple #[.agg #[u, U (sealT (k1, k2) n head data).1, U (sealT (k1, k2) n head data).2], .bool true]) ∧ w'.ownsRow w.heap.size 5 1 u data.length (bcells (ciph (k1, k2) n data)) ∧ Kept w w' := by
  obtain ⟨ha, hc, hv⟩ := hh.len
  subst hv
  obtain ⟨da, dc, hv⟩ := hd.len
  subst hv
  obtain ⟨H, hH⟩ : ∃ H, H = head.length := ⟨_, rfl⟩
  obtain ⟨D, hD⟩ : ∃ D, D = data.length := ⟨_, rfl⟩
  have hh1 : Sl w (.slice ha H hc) head.length (bcells head) := by rw [hH]; exact hh
  have hd1 : Sl w (.slice da D dc) data.length (bcells data) := by rw [hD]; exact hd
  rw [← hH] at hl ⊢
  rw [← hD] at dl ⊢
  have HH := Lib.hid hH
  have HD := Lib.hid hD
  clear hh hd hH hD
  have i0 : (H : Int) ≤ 4000 := by omega
  have i1 : (D : Int) ≤ 4000 := by omega
  unfold Nn.val
  have hk0 : Kept w (((w.alloc (.cells #[U k1, U k2] 24)).alloc (.cells #[W n.epoch, W n.slot, U n.version] 27)).alloc (.cells #[.slice none 0 0, U 0#64, U 0#64] 30)) := (((Below.refl _ _).alloc (Nat.le_refl _) _).alloc (by simp) _).alloc (by simp; omega) _
  have hK : Blk (((w.alloc (.cells #[U k1, U k2] 24)).alloc (.cells #[W n.epoch, W n.slot, U n.version] 27)).alloc (.cells #[.slice none 0 0, U 0#64, U 0#64] 30)) w.heap.size #[U k1, U k2] 24 := ((Blk.new _ _ _).alloc _).alloc _
  have hN : Blk (((w.alloc (.cells #[U k1, U k2] 24)).alloc (.cells #[W n.epoch, W n.slot, U n.version] 27)).alloc (.cells #[.slice none 0 0, U 0#64, U 0#64] 30)) (w.heap.size + 1) #[W n.epoch, W n.slot, U n.version] 27 := Blk.alloc (by simpa using Blk.new (w.alloc (.cells #[U k1, U k2] 24)) #[W n.epoch, W n.slot, U n.version] 27) _
  have hR : Blk (((w.alloc (.cells #[U k1, U k2] 24)).alloc (.cells #[W n.epoch, W n.slot, U n.version] 27)).alloc (.cells #[.slice none 0 0, U 0#64, U 0#64] 30)) (w.heap.size + 2) #[.slice none 0 0, U 0#64, U 0#64] 30 := by simpa using Blk.new ((w.alloc (.cells #[U k1, U k2] 24)).alloc (.cells #[W n.epoch, W n.slot, U n.version] 27)) #[.slice none 0 0, U 0#64, U 0#64] 30
  have q0 := hK.cell 0
  have q1 := hK.cell 1
  have n0 := hN.cell 0
  have n1 := hN.cell 1
  have n2 := hN.cell 2
  go_enter Try.func10, Try.ntmps10
  go_wp2_with fail
  have z0 : w.heap.size + 3 ≤ (((w.alloc (.cells #[U k1, U k2] 24)).alloc (.cells #[W n.epoch, W n.slot, U n.version] 27)).alloc (.cells #[.slice none 0 0, U 0#64, U 0#64] 30)).heap.size := by simp
  generalize (((w.alloc (.cells #[U k1, U k2] 24)).alloc (.cells #[W n.epoch, W n.slot, U n.version] 27)).alloc (.cells #[.slice none 0 0, U 0#64, U 0#64] 30)) = w0 at *
  refine (rsub_any _ _ n _).mono ?_
  rintro e w2 ⟨rfl, hk2⟩
  obtain ⟨s, hs⟩ : ∃ s, s = sub2 (k1, k2) n := ⟨_, rfl⟩
  rw [← hs]
  have HS := Lib.hid hs
  have hS := Blk.new w2 #[U s.1, U s.2] 24
  have hk3 : Kept w0 (w2.alloc (.cells #[U s.1, U s.2] 24)) := Kept.of hk2 ((Below.refl _ _).alloc (Nat.le_refl _) _)
  replace hR := hR.kept hk3
  replace hk0 := Kept.of hk0 hk3
  replace z0 := Nat.le_trans z0 hk3.size
  have s0 := hS.cell 0
  have s1 := hS.cell 1
  clear q0 q1 n0 n1 n2 hs hk2 hk3 hK hN
  go_wp2_with fail
  generalize w2.alloc (.cells #[U s.1, U s.2] 24) = w3 at *
  refine (rfbytes_some _ _ D dl _).mono ?_
  rintro e w4 ⟨r4, rfl, o4, hk4⟩
  have sl4 : Sl w4 r4 (flowB (s.1, s.2) D).length (bcells (flowB (s.1, s.2) D)) := by rw [flowB_length]; exact Sl.of_own o4
  replace hR := hR.kept hk4
  replace hS := hS.kept hk4
  replace hk0 := Kept.of hk0 hk4
  replace z0 := Nat.le_trans z0 hk4.size
  clear s0 s1 hk4 o4
  go_wp2_with fail
  refine (rxor_any _ _ data (flowB (s.1, s.2) D) (by rw [← HD.out]; exact dl) (by rw [flowB_length]; exact dl) _ (hd1.kept hk0) sl4).mono ?_
  rintro e w5 ⟨r5, rfl, o5, hk5⟩
  have hcl : (xorB data (flowB (s.1, s.2) D)) = ciph (k1, k2) n data := by
    unfold ciph; rw [← HS.out, HD.out]
  have hln : (xorB data (flowB (s.1, s.2) D)).length = D := by rw [hcl, ciph_length, HD.out]
  rw [hcl] at o5
  rw [hcl] at hln
  obtain ⟨C, hC⟩ : ∃ C, C = ciph (k1, k2) n data := ⟨_, rfl⟩
  rw [← hC] at o5 hln
  have o5' : w5.ownsRow w4.heap.size 5 1 r5 D (bcells C) := by rw [← hln]; simpa using o5
  have hw4 : w.heap.size ≤ w4.heap.size := hk0.size
  have HC := Lib.hid hC
  have HLN := Lib.hid hln
  replace hR := hR.kept hk5
  replace hS := hS.kept hk5
  replace hk0 := Kept.of hk0 hk5
  obtain ⟨ra, rc, he⟩ := (Sl.of_own o5').len
  subst he
  clear hk5 o5 sl4 hC hcl hln
  have s0 := hS.cell 0
  have s1 := hS.cell 1
  go_wp2_with fail
  refine (rtag_any _ _ _ _ head C (by rw [← HH.out]; exact hl) (by rw [HLN.out]; exact dl) _ (hh1.kept hk0) (by rw [HLN.out]; exact Sl.of_own o5')).mono ?_
  rintro e w6 ⟨rfl, hk6⟩
  replace hR := hR.kept hk6
  replace hk0 := Kept.of hk0 hk6
  have o6 := own_kept o5' hk6
  have htt : tag2 (s.1, s.2) head C = sealT (k1, k2) n head data := by
    unfold sealT; rw [← HC.out, ← HS.out]
  rw [htt]
  have r0 := hR.cell 0
  have r1 := hR.cell 1
  have r2 := hR.cell 2
  have rf0 := hR.free 0
  have rf1 := hR.free 1
  have rf2 := hR.free 2
  clear s0 s1 hk6 htt o5' hS
  go_wp2
  refine bodyPost_ret (v := .tuple #[.agg #[.slice ra D rc, U (sealT (k1, k2) n head data).1, U (sealT (k1, k2) n head data).2], .bool true]) (by simp [results, Try.results10, go_sem, r0, r1, r2]; done) rfl ⟨_, rfl, ?_, ?_⟩
  · rw [← HC.out]
    have o7 := own_base o6 (show w.heap.size + 3 ≤ w4.heap.size from z0)
    refine own_base ?_ (show w.heap.size ≤ w.heap.size + 3 by omega)
    exact own_above o7 (((Above.refl _ _).trans (Above.setCell (a := ⟨w.heap.size + 2, 0, none⟩) (show w.heap.size + 2 < w.heap.size + 3 by omega) _)).trans (Above.setCell (a := ⟨w.heap.size + 2, 1, none⟩) (show w.heap.size + 2 < w.heap.size + 3 by omega) _) |>.trans (Above.setCell (a := ⟨w.heap.size + 2, 2, none⟩) (show w.heap.size + 2 < w.heap.size + 3 by omega) _))
  · exact ((hk0.setCell (by show _ ≤ w.heap.size + 2; omega) _).setCell (by show _ ≤ w.heap.size + 2; omega) _).setCell (by show _ ≤ w.heap.size + 2; omega) _


end Go.Proofs.Ytlbogmpfjkendaa
