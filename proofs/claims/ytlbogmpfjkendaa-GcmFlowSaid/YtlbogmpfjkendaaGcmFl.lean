/- GcmFlow: what is sealed is data and a flow of bytes, as many. -/
import Derived.Test.YtlbogmpfjkendaaGcmK
import Derived.Test.YtlbogmpfjkendaaPlan
import Derived.Test.YtlbogmpfjkendaaStr
import Derived.Lib.SlBytesConst
import Derived.Test.YtlbogmpfjkendaaRows
namespace Go.Proofs.Ytlbogmpfjkendaa
open Go Go.RowKit

theorem sl_mark (w : World) (bs : List UInt8) (n : Nat) (hn : bs.length = n) (hm : n ≤ maxLen) (t : TypeId) (fr : Nat × Nat) : Sl (w.alloc (.cells (bcells bs).toArray t fr)) (.slice (some ⟨w.heap.size, 0, none⟩) n n) bs.length (bcells bs) := by
  subst hn
  refine Sl.mk (Nat.le_refl _) hm fun j u hj => ?_
  rw [Nat.zero_add, World.cell?_alloc_mark]
  simpa using hj
theorem set3_below {B g : Nat} {w0 w : World} (h : Below B w0 w) (hg : B ≤ g) (a b c : Value) : Below B w0 (((w.setCell ⟨g, 0, none⟩ a).setCell ⟨g, 1, none⟩ b).setCell ⟨g, 2, none⟩ c) :=
  ((h.setCell (p := ⟨g, 0, none⟩) hg a).setCell (p := ⟨g, 1, none⟩) hg b).setCell (p := ⟨g, 2, none⟩) hg c
theorem set3_own {w : World} {B n g : Nat} {e t : TypeId} {v : Value} {xs : List Value} {cs : Array Value} (h : w.ownsRow B e 1 v n xs) (hb : Blk w g cs t) (hne : e ≠ t) (a b c : Value) : (((w.setCell ⟨g, 0, none⟩ a).setCell ⟨g, 1, none⟩ b).setCell ⟨g, 2, none⟩ c).ownsRow B e 1 v n xs := by
  refine ⟨h.1, ?_⟩
  rcases h.2 with h0 | ⟨g', cap', cur, e', hB, hh, r⟩
  · exact .inl h0
  · refine .inr ⟨g', cap', cur, e', hB, ?_, r⟩
    have hgg : g' ≠ g := by
      intro e2; subst e2
      unfold Blk at hb
      rw [hh] at hb
      cases hb; exact hne rfl
    rw [Below.heap_setCell _ _ _ _ hgg, Below.heap_setCell _ _ _ _ hgg, Below.heap_setCell _ _ _ _ hgg]
    exact hh

theorem xorB_comm (a b : List UInt8) : xorB a b = xorB b a := by
  unfold xorB
  exact List.zipWith_comm_of_comm (fun x y => UInt8.xor_comm x y)
theorem flow_of (key : Pair) (n : Nn) (data : List UInt8) : xorB (ciph key n data) data = flowB (sub2 key n) data.length := by
  unfold ciph
  rw [xorB_comm data, xorB_xorB, flowB_length, Nat.min_self]
  exact List.take_of_length_le (by rw [flowB_length]; exact Nat.le_refl _)
theorem xor_zero (F : List UInt8) (n : Nat) (h : F.length = n) : xorB (List.replicate n 0) F = F := by
  apply List.ext_getElem
  · simp [xorB, h]
  · intro i h1 h2
    simp [xorB]
theorem flow_zero (key : Pair) (n : Nn) (d : Nat) : ciph key n (List.replicate d 0) = flowB (sub2 key n) d := by
  unfold ciph
  rw [List.length_replicate]
  exact xor_zero _ _ (flowB_length _ _)

set_option maxRecDepth 100000 in
set_option maxHeartbeats 8000000 in
theorem flow_in (k1 k2 : BitVec 64) (n : Nn) (vd : Value) (data : List UInt8) (dl : data.length ≤ 300) (w : World) (hd : Sl w vd data.length (bcells data)) : Calls Try.prog 8 #[.agg #[U k1, U k2], n.val, vd] w fun e w' => e = .returned (.bool true) ∧ Kept w w' := by
  obtain ⟨da, dc, hv⟩ := hd.len
  subst hv
  obtain ⟨D, hD⟩ : ∃ D, D = data.length := ⟨_, rfl⟩
  have hd1 : Sl w (.slice da D dc) data.length (bcells data) := by rw [hD]; exact hd
  rw [← hD] at dl ⊢
  have HD := Lib.hid hD
  clear hd hD
  have i1 : (D : Int) ≤ 300 := by omega
  have i2 : ¬ 300 < (D : Int) := by omega
  have i3 : (0 : Int) ≤ (D : Int) := by omega
  unfold Nn.val
  have hk0 : Kept w ((w.alloc (.cells #[U k1, U k2] 24)).alloc (.cells #[W n.epoch, W n.slot, U n.version] 27)) := (((Below.refl _ _).alloc (Nat.le_refl _) _).alloc (by simp) _)
  have hKe : Blk ((w.alloc (.cells #[U k1, U k2] 24)).alloc (.cells #[W n.epoch, W n.slot, U n.version] 27)) w.heap.size #[U k1, U k2] 24 := ((Blk.new _ _ _).alloc _)
  have hN : Blk ((w.alloc (.cells #[U k1, U k2] 24)).alloc (.cells #[W n.epoch, W n.slot, U n.version] 27)) (w.heap.size + 1) #[W n.epoch, W n.slot, U n.version] 27 := by simpa using Blk.new (w.alloc (.cells #[U k1, U k2] 24)) #[W n.epoch, W n.slot, U n.version] 27
  have q0 := hKe.cell 0
  have q1 := hKe.cell 1
  have n0 := hN.cell 0
  have n1 := hN.cell 1
  have n2 := hN.cell 2
  have hcv := Lib.run_convert_bytes_const (P := Try.prog) ((w.alloc (.cells #[U k1, U k2] 24)).alloc (.cells #[W n.epoch, W n.slot, U n.version] 27)) 28 5 #[V8 104] 1 1 Try.underlying28 Try.underlying5
  have hws : ((w.alloc (.cells #[U k1, U k2] 24)).alloc (.cells #[W n.epoch, W n.slot, U n.version] 27)).heap.size = w.heap.size + 1 + 1 := by simp
  rw [hws] at hcv
  go_enter Try.func8, Try.ntmps8
  go_wp2_with fail
  generalize ((w.alloc (.cells #[U k1, U k2] 24)).alloc (.cells #[W n.epoch, W n.slot, U n.version] 27)) = w0 at *
  have hkh : Kept w0 (w0.alloc (.cells #[V8 104] 5 (1, 2))) := (Below.refl _ _).alloc (Nat.le_refl _) _
  have shh : Sl (w0.alloc (.cells #[V8 104] 5 (1, 2))) (.slice (some ⟨w.heap.size + 1 + 1, 0, none⟩) 1 1) ([104] : List UInt8).length (bcells [104]) := by
    have := sl_mark w0 [104] 1 rfl (by decide) 5 (1, 2)
    rw [hws] at this
    exact this
  clear hcv hws
  replace hk0 := Kept.of hk0 hkh
  replace hKe := hKe.kept hkh
  replace hN := hN.kept hkh
  refine (seal_any _ _ n _ _ [104] data (by simp) (by rw [← HD.out]; omega) _ (shh) (hd1.kept hk0)).mono ?_
  rintro e w1 ⟨ua, rfl, oa, hk1⟩
  rw [← HD.out] at oa
  obtain ⟨T, hT⟩ : ∃ T, T = sealT (k1, k2) n [104] data := ⟨_, rfl⟩
  obtain ⟨C, hC⟩ : ∃ C, C = ciph (k1, k2) n data := ⟨_, rfl⟩
  rw [← hT]
  rw [← hC] at oa
  have HT := Lib.hid hT
  have HC := Lib.hid hC
  clear hT hC
  obtain ⟨aa, ca, he⟩ := (Sl.of_own oa).len
  subst he
  have hXa := Blk.new w1 #[.slice aa D ca, U T.1, U T.2] 30
  have hka : Kept w1 (w1.alloc (.cells #[.slice aa D ca, U T.1, U T.2] 30)) := (Below.refl _ _).alloc (Nat.le_refl _) _
  have oax := own_kept oa hka
  replace hKe := (hKe.kept hk1).kept hka
  replace hN := (hN.kept hk1).kept hka
  replace hk0 := Kept.of (Kept.of hk0 hk1) hka
  clear hk1 hka oa
  clear q0 q1 n0 n1 n2
  have hFl : xorB C data = flowB (sub2 (k1, k2) n) D := by rw [HC.out, flow_of, HD.out]
  obtain ⟨Z, hZ⟩ : ∃ Z, Z = List.replicate D (0 : UInt8) := ⟨_, rfl⟩
  have hzl : Z.length = D := by rw [hZ]; simp
  have hZf : ciph (k1, k2) n Z = flowB (sub2 (k1, k2) n) D := by rw [hZ, flow_zero]
  obtain ⟨S, hS⟩ : ∃ S, S = flowB (sub2 (k1, k2) n) D := ⟨_, rfl⟩
  have hSl : S.length = D := by rw [hS, flowB_length]
  obtain ⟨T2, hT2⟩ : ∃ T2, T2 = sealT (k1, k2) n [] Z := ⟨_, rfl⟩
  rw [← hS] at hFl hZf
  have hCl : C.length = D := by rw [HC.out, ciph_length, HD.out]
  have sa := Sl.of_own oax
  have HS := Lib.hid hS
  have HSL := Lib.hid hSl
  have HFL := Lib.hid hFl
  have HZF := Lib.hid hZf
  have HZL := Lib.hid hzl
  have HCL := Lib.hid hCl
  have HZ := Lib.hid hZ
  have HT2 := Lib.hid hT2
  clear hkh shh oax hS hSl hFl hZf hzl hCl hZ hT2
  go_wp2_with fail
  generalize (w1.alloc (.cells #[.slice aa D ca, U T.1, U T.2] 30)) = wS at *
  have hlK := hKe.lt
  have hlN := hN.lt
  refine wp_region_planBelow wS.heap.size [(0, 0), (1, 0), (2, 0), (3, 0), (6, 0), (7, 0), (8, 0), (11, 0)] (.light 0 (.light 1 (.light 2 (.light 3 (.two 4 9 (.two 5 9 (.light 6 (.light 7 (.light 8 (.heavy 9 (.heavy 10 (.light 11 .nil)))))) (.heavy 5 (.light 6 (.light 7 (.light 8 (.heavy 10 (.light 11 .nil))))))) (.heavy 4 (.heavy 5 (.light 6 (.light 7 (.light 8 (.heavy 10 (.light 11 .nil)))))))))))) (by kernel_rfl) (by kernel_rfl) ?_
  intro w4 hw4
  have hkS : Kept wS w4 := hw4
  refine plan_light _ rfl (fun K hK => ?_)
  refine (if_pos (by rfl)).mpr ?_; apply Exists.intro; refine ⟨fun w' hw' => ?_, hK _ ?_⟩
  · have c := ((hKe.kept hw4).below hw' hlK); have c0 := c.cell 0; have c1 := c.cell 1; clear c; have d := ((hN.kept hw4).below hw' hlN); have d0 := d.cell 0; have d1 := d.cell 1; have d2 := d.cell 2; clear d; first | (go_simp; done) | (go_simp; rfl)
  clear hK K; simp only [Act.put, List.setIfInBounds_toArray, List.set_cons_zero, List.set_cons_succ]
  refine plan_light _ rfl (fun K hK => ?_)
  refine (if_pos (by rfl)).mpr ?_; apply Exists.intro; refine ⟨fun w' hw' => ?_, hK _ ?_⟩
  · have c := ((hKe.kept hw4).below hw' hlK); have c0 := c.cell 0; have c1 := c.cell 1; clear c; have d := ((hN.kept hw4).below hw' hlN); have d0 := d.cell 0; have d1 := d.cell 1; have d2 := d.cell 2; clear d; first | (go_simp; done) | (go_simp; rfl)
  clear hK K; simp only [Act.put, List.setIfInBounds_toArray, List.set_cons_zero, List.set_cons_succ]
  refine plan_light _ rfl (fun K hK => ?_)
  refine (if_pos (by rfl)).mpr ?_; apply Exists.intro; refine ⟨fun w' hw' => ?_, hK _ ?_⟩
  · have c := ((hKe.kept hw4).below hw' hlK); have c0 := c.cell 0; have c1 := c.cell 1; clear c; have d := ((hN.kept hw4).below hw' hlN); have d0 := d.cell 0; have d1 := d.cell 1; have d2 := d.cell 2; clear d; first | (go_simp; done) | (go_simp; rfl)
  clear hK K; simp only [Act.put, List.setIfInBounds_toArray, List.set_cons_zero, List.set_cons_succ]
  refine plan_light _ rfl (fun K hK => ?_)
  refine (if_pos (by rfl)).mpr ?_; apply Exists.intro; refine ⟨fun w' hw' => ?_, hK _ ?_⟩
  · have c := ((hKe.kept hw4).below hw' hlK); have c0 := c.cell 0; have c1 := c.cell 1; clear c; have d := ((hN.kept hw4).below hw' hlN); have d0 := d.cell 0; have d1 := d.cell 1; have d2 := d.cell 2; clear d; first | (go_simp; done) | (go_simp; rfl)
  clear hK K; simp only [Act.put, List.setIfInBounds_toArray, List.set_cons_zero, List.set_cons_succ]
  refine plan_two ?_ ?_
  · refine plan_heavy _ rfl (fun K hK => ?_)
    refine (if_pos (by rfl)).mpr ?_
    have hmk : (Instr.makeSlice 28 (.int .i64 (D : Int)) (.int .i64 (D : Int))).run Try.prog w4 = .ok (.slice (some ⟨w4.heap.size, 0, none⟩) D D) (w4.alloc (.cells (bcells Z).toArray 5)) := by rw [HZ.out]; exact run_make_b (P := Try.prog) w4 sl_bytes .i64 .i64 D (by omega)
    have sz : Sl (w4.alloc (.cells (bcells Z).toArray 5)) (.slice (some ⟨w4.heap.size, 0, none⟩) D D) D (bcells Z) := Sl.of_own (own_made D (by unfold maxLen; omega) 5 Z HZL.out (Blk.new _ _ _) (Nat.le_refl _))
    have hkz : Kept w4 (w4.alloc (.cells (bcells Z).toArray 5)) := (Below.refl _ _).alloc (Nat.le_refl _) _
    have hsz := hkS.size
    replace hkS := Kept.of hkS hkz
    go_wp2
    refine hK _ _ (hkz.mono hsz) ?_
    clear hK K
    try simp only [Act.put, List.setIfInBounds_toArray, List.set_cons_zero, List.set_cons_succ]
    clear hmk hkz hsz
    generalize (w4.alloc (.cells (bcells Z).toArray 5)) = v1 at *
    refine plan_two ?_ ?_
    · refine plan_heavy _ rfl (fun K hK => ?_)
      refine (if_pos (by rfl)).mpr ?_
      go_wp2_with fail
      refine (seal_any k1 k2 n _ _ [] Z (by simp) (by rw [HZL.out]; omega) _ (Sl.nil _) (by rw [HZL.out]; exact sz)).mono ?_
      rintro e v2 ⟨u, rfl, ho, hk5⟩
      rw [HZL.out, HZF.out] at ho
      rw [← HT2.out]
      have hsz := hkS.size
      obtain ⟨ua, uc, he⟩ := (Sl.of_own ho).len
      subst he
      replace hkS := Kept.of hkS hk5
      go_wp2
      refine hK _ _ (hk5.mono hsz) ?_
      clear hK K
      try simp only [Act.put, List.setIfInBounds_toArray, List.set_cons_zero, List.set_cons_succ]
      clear hk5 hsz sz
      refine plan_light _ rfl (fun K hK => ?_)
      refine (if_pos (by rfl)).mpr ?_; apply Exists.intro; refine ⟨fun w' hw' => ?_, hK _ ?_⟩
      · first | (go_simp; done) | (go_simp; rfl)
      clear hK K; simp only [Act.put, List.setIfInBounds_toArray, List.set_cons_zero, List.set_cons_succ]
      refine plan_light _ rfl (fun K hK => ?_)
      refine (if_pos (by rfl)).mpr ?_; apply Exists.intro; refine ⟨fun w' hw' => ?_, hK _ ?_⟩
      · first | (go_simp; done) | (go_simp; rfl)
      clear hK K; simp only [Act.put, List.setIfInBounds_toArray, List.set_cons_zero, List.set_cons_succ]
      refine plan_light _ rfl (fun K hK => ?_)
      refine (if_pos (by rfl)).mpr ?_; apply Exists.intro; refine ⟨fun w' hw' => ?_, hK _ ?_⟩
      · first | (go_simp; done) | (go_simp; rfl)
      clear hK K; simp only [Act.put, List.setIfInBounds_toArray, List.set_cons_zero, List.set_cons_succ]
      refine plan_heavy _ rfl (fun K hK => ?_)
      refine (if_pos (by rfl)).mpr ?_
      have hkz : Kept v2 (v2.alloc (.cells #[.slice none 0 0, U 0#64, U 0#64] 30)) := (Below.refl _ _).alloc (Nat.le_refl _) _
      have hsz := hkS.size
      have hgS : wS.heap.size ≤ v2.heap.size := hsz
      replace ho := own_kept ho hkz
      replace hkS := Kept.of hkS hkz
      have hXb := Blk.new v2 #[.slice none 0 0, U 0#64, U 0#64] 30
      go_wp2
      refine hK _ _ (hkz.mono hsz) ?_
      clear hK K
      try simp only [Act.put, List.setIfInBounds_toArray, List.set_cons_zero, List.set_cons_succ]
      clear hkz hsz
      generalize (v2.alloc (.cells #[.slice none 0 0, U 0#64, U 0#64] 30)) = v3 at *
      refine plan_heavy _ rfl (fun K hK => ?_)
      refine (if_pos (by rfl)).mpr ?_
      have f0 := hXb.free 0
      have f1 := hXb.free 1
      have f2 := hXb.free 2
      have e0 := hXb.cell 0
      have e1 := hXb.cell 1
      have e2 := hXb.cell 2
      have hsz := hkS.size
      have hks2 : Kept wS (((v3.setCell ⟨v2.heap.size, 0, none⟩ (.slice ua D uc)).setCell ⟨v2.heap.size, 1, none⟩ (U T2.1)).setCell ⟨v2.heap.size, 2, none⟩ (U T2.2)) := set3_below hkS hgS _ _ _
      replace ho := set3_own ho hXb (by decide) (.slice ua D uc) (U T2.1) (U T2.2)
      have hXb2 : Blk (((v3.setCell ⟨v2.heap.size, 0, none⟩ (.slice ua D uc)).setCell ⟨v2.heap.size, 1, none⟩ (U T2.1)).setCell ⟨v2.heap.size, 2, none⟩ (U T2.2)) v2.heap.size #[.slice ua D uc, U T2.1, U T2.2] 30 := by simpa using ((hXb.set 0 (.slice ua D uc)).set 1 (U T2.1)).set 2 (U T2.2)
      clear hkS hXb
      go_wp2
      refine hK _ _ (set3_below (Below.refl _ _) hgS _ _ _) ?_
      clear hK K
      try simp only [Act.put, List.setIfInBounds_toArray, List.set_cons_zero, List.set_cons_succ]
      clear f0 f1 f2 e0 e1 e2 hsz hgS
      generalize (((v3.setCell ⟨v2.heap.size, 0, none⟩ (.slice ua D uc)).setCell ⟨v2.heap.size, 1, none⟩ (U T2.1)).setCell ⟨v2.heap.size, 2, none⟩ (U T2.2)) = v4 at *
      refine plan_light _ rfl (fun K hK => ?_)
      refine (if_pos (by rfl)).mpr ?_; apply Exists.intro; refine ⟨fun w' hw' => ?_, hK _ ?_⟩
      · first | (go_simp; done) | (go_simp; rfl)
      clear hK K; simp only [Act.put, List.setIfInBounds_toArray, List.set_cons_zero, List.set_cons_succ]
      refine plan_nil ?_
      replace hKe := hKe.kept hks2
      replace hN := hN.kept hks2
      replace hXa := hXa.kept hks2
      replace sa := sa.kept hks2
      replace hk0 := Kept.of hk0 hks2
      have su := Sl.of_own ho
      clear hks2 ho
      go_wp2_with fail
      refine wp_region_chainK [(0, 0), (1, 0), (2, 0), (3, 0), (4, 0), (5, 0), (6, 0), (7, 0), (10, 0), (11, 0), (12, 0), (8, 1), (9, 0), (13, 0), (14, 0), (15, 0), (16, 0), (17, 0), (18, 0), (19, 0), (20, 0), (22, 0), (23, 0), (21, 1), (24, 1), (25, 0), (26, 0), (27, 0), (28, 0), (29, 1), (30, 0), (31, 0)] (by kernel_rfl) (by kernel_rfl) ?_
      intro w6 hw6
      replace hKe := hKe.kept hw6
      replace hN := hN.kept hw6
      replace hXa := hXa.kept hw6
      replace hXb2 := hXb2.kept hw6
      replace sa := sa.kept hw6
      replace su := su.kept hw6
      repeat
        refine chain_light _ rfl (fun K hK => ?_)
        first
          | (refine (if_pos (by rfl)).mpr ?_; apply Exists.intro; refine ⟨fun w' hw' => ?_, hK _ ?_⟩; (have c := hXa.kept hw'; have c0 := c.cell 0; have c1 := c.cell 1; have c2 := c.cell 2; clear c; have d := hXb2.kept hw'; have d0 := d.cell 0; have d1 := d.cell 1; have d2 := d.cell 2; clear d; have s0 := str_of (show Sl w' (.slice ua D uc) S.length (bcells S) from by rw [HSL.out]; exact su.kept hw'); go_simp; done); (clear hK K; simp only [Act.put, List.setIfInBounds_toArray, List.set_cons_zero, List.set_cons_succ]))
          | (refine (if_pos (by rfl)).mpr ?_; apply Exists.intro; refine ⟨fun w' hw' => ?_, hK _ ?_⟩; (have c := hXa.kept hw'; have c0 := c.cell 0; have c1 := c.cell 1; have c2 := c.cell 2; clear c; have d := hXb2.kept hw'; have d0 := d.cell 0; have d1 := d.cell 1; have d2 := d.cell 2; clear d; have s0 := str_of (show Sl w' (.slice ua D uc) S.length (bcells S) from by rw [HSL.out]; exact su.kept hw'); go_simp; rfl); (clear hK K; simp only [Act.put, List.setIfInBounds_toArray, List.set_cons_zero, List.set_cons_succ]))
          | (refine (if_neg (by rw [Bool.not_eq_true]; rfl)).mpr ?_; refine hK _ ?_; (clear hK K; simp only [Act.put, List.setIfInBounds_toArray, List.set_cons_zero, List.set_cons_succ]))
      refine chain_heavy _ rfl (fun K hK => ?_)
      refine (if_pos (by rfl)).mpr ?_
      go_wp2_with fail
      refine (rxor_any _ _ C data (by rw [HCL.out]; omega) (by rw [← HD.out]; omega) _ (by rw [HCL.out]; exact sa) (hd1.kept (Kept.of hk0 hw6))).mono ?_
      rintro e w7 ⟨rx, rfl, ox, hk7⟩
      rw [HFL.out] at ox
      have sx := Sl.of_own ox
      replace hKe := hKe.kept hk7
      replace hN := hN.kept hk7
      replace hXb2 := hXb2.kept hk7
      replace su := su.kept hk7
      go_wp2
      refine hK _ _ (hk7) ?_
      clear hK K
      try simp only [Act.put, List.setIfInBounds_toArray, List.set_cons_zero, List.set_cons_succ]
      repeat
        refine chain_light _ rfl (fun K hK => ?_)
        first
          | (refine (if_pos (by rfl)).mpr ?_; apply Exists.intro; refine ⟨fun w' hw' => ?_, hK _ ?_⟩; (have s1 := str_of (sx.kept hw'); have s0 := str_of (show Sl w' (.slice ua D uc) S.length (bcells S) from by rw [HSL.out]; exact su.kept hw'); have d := hXb2.kept hw'; have d0 := d.cell 0; have d1 := d.cell 1; have d2 := d.cell 2; clear d; have q := hKe.kept hw'; have q0 := q.cell 0; have q1 := q.cell 1; clear q; have m := hN.kept hw'; have m0 := m.cell 0; have m1 := m.cell 1; have m2 := m.cell 2; clear m; go_simp; done); (clear hK K; simp only [Act.put, List.setIfInBounds_toArray, List.set_cons_zero, List.set_cons_succ]))
          | (refine (if_pos (by rfl)).mpr ?_; apply Exists.intro; refine ⟨fun w' hw' => ?_, hK _ ?_⟩; (have s1 := str_of (sx.kept hw'); have s0 := str_of (show Sl w' (.slice ua D uc) S.length (bcells S) from by rw [HSL.out]; exact su.kept hw'); have d := hXb2.kept hw'; have d0 := d.cell 0; have d1 := d.cell 1; have d2 := d.cell 2; clear d; have q := hKe.kept hw'; have q0 := q.cell 0; have q1 := q.cell 1; clear q; have m := hN.kept hw'; have m0 := m.cell 0; have m1 := m.cell 1; have m2 := m.cell 2; clear m; go_simp; rfl); (clear hK K; simp only [Act.put, List.setIfInBounds_toArray, List.set_cons_zero, List.set_cons_succ]))
          | (refine (if_neg (by rw [Bool.not_eq_true]; rfl)).mpr ?_; refine hK _ ?_; (clear hK K; simp only [Act.put, List.setIfInBounds_toArray, List.set_cons_zero, List.set_cons_succ]))
      refine chain_heavy _ rfl (fun K hK => ?_)
      refine (if_pos (by rfl)).mpr ?_
      go_wp2_with fail
      refine (rsub_any k1 k2 n _).mono ?_
      rintro e w8 ⟨rfl, hk8⟩
      go_wp2
      refine hK _ _ (hk8) ?_
      clear hK K
      try simp only [Act.put, List.setIfInBounds_toArray, List.set_cons_zero, List.set_cons_succ]
      refine chain_heavy _ rfl (fun K hK => ?_)
      refine (if_pos (by rfl)).mpr ?_
      go_wp2_with fail
      refine (rfbytes_some _ _ D (by omega) _).mono ?_
      rintro e w9 ⟨rf, rfl, orf, hk9⟩
      rw [show flowB ((sub2 (k1, k2) n).1, (sub2 (k1, k2) n).2) D = S from HS.out.symm] at orf
      have sf : Sl w9 rf S.length (bcells S) := by rw [HSL.out]; exact Sl.of_own orf
      go_wp2
      refine hK _ _ (hk9) ?_
      clear hK K
      try simp only [Act.put, List.setIfInBounds_toArray, List.set_cons_zero, List.set_cons_succ]
      repeat
        refine chain_light _ rfl (fun K hK => ?_)
        first
          | (refine (if_pos (by rfl)).mpr ?_; apply Exists.intro; refine ⟨fun w' hw' => ?_, hK _ ?_⟩; (have s2 := str_of (sf.kept hw'); go_simp; done); (clear hK K; simp only [Act.put, List.setIfInBounds_toArray, List.set_cons_zero, List.set_cons_succ]))
          | (refine (if_pos (by rfl)).mpr ?_; apply Exists.intro; refine ⟨fun w' hw' => ?_, hK _ ?_⟩; (have s2 := str_of (sf.kept hw'); go_simp; rfl); (clear hK K; simp only [Act.put, List.setIfInBounds_toArray, List.set_cons_zero, List.set_cons_succ]))
          | (refine (if_neg (by rw [Bool.not_eq_true]; rfl)).mpr ?_; refine hK _ ?_; (clear hK K; simp only [Act.put, List.setIfInBounds_toArray, List.set_cons_zero, List.set_cons_succ]))
      refine chain_heavy _ rfl (fun K hK => ?_)
      refine (if_pos (by rfl)).mpr ?_
      go_wp2_with fail
      refine (known_any _).mono ?_
      rintro e w10 ⟨rfl, hk10⟩
      go_wp2
      refine hK _ _ (hk10) ?_
      clear hK K
      try simp only [Act.put, List.setIfInBounds_toArray, List.set_cons_zero, List.set_cons_succ]
      repeat
        refine chain_light _ rfl (fun K hK => ?_)
        first
          | (refine (if_pos (by rfl)).mpr ?_; apply Exists.intro; refine ⟨fun w' hw' => ?_, hK _ ?_⟩; (go_simp; done); (clear hK K; simp only [Act.put, List.setIfInBounds_toArray, List.set_cons_zero, List.set_cons_succ]))
          | (refine (if_pos (by rfl)).mpr ?_; apply Exists.intro; refine ⟨fun w' hw' => ?_, hK _ ?_⟩; (go_simp; rfl); (clear hK K; simp only [Act.put, List.setIfInBounds_toArray, List.set_cons_zero, List.set_cons_succ]))
          | (refine (if_neg (by rw [Bool.not_eq_true]; rfl)).mpr ?_; refine hK _ ?_; (clear hK K; simp only [Act.put, List.setIfInBounds_toArray, List.set_cons_zero, List.set_cons_succ]))
      refine chain_nil ?_
      go_wp2
      go_ret
      exact ⟨rfl, ((((hk0.of hw6).of hk7).of hk8).of hk9).of hk10⟩
    · refine plan_heavy _ rfl (fun K hK => ?_)
      refine (if_pos (by rfl)).mpr ?_
      have hkz : Kept v1 (v1.alloc (.cells #[.slice none 0 0, U 0#64, U 0#64] 30)) := (Below.refl _ _).alloc (Nat.le_refl _) _
      have hsz := hkS.size
      have hgS : wS.heap.size ≤ v1.heap.size := hsz
      replace sz := sz.kept hkz
      replace hkS := Kept.of hkS hkz
      have hXb := Blk.new v1 #[.slice none 0 0, U 0#64, U 0#64] 30
      go_wp2
      refine hK _ _ (hkz.mono hsz) ?_
      clear hK K
      try simp only [Act.put, List.setIfInBounds_toArray, List.set_cons_zero, List.set_cons_succ]
      clear hkz hsz
      generalize (v1.alloc (.cells #[.slice none 0 0, U 0#64, U 0#64] 30)) = v2 at *
      refine plan_heavy _ rfl (fun K hK => ?_)
      refine (if_pos (by rfl)).mpr ?_
      go_wp2_with fail
      refine (seal_any k1 k2 n _ _ [] Z (by simp) (by rw [HZL.out]; omega) _ (Sl.nil _) (by rw [HZL.out]; exact sz)).mono ?_
      rintro e v3 ⟨u, rfl, ho, hk5⟩
      rw [HZL.out, HZF.out] at ho
      rw [← HT2.out]
      have hsz := hkS.size
      obtain ⟨ua, uc, he⟩ := (Sl.of_own ho).len
      subst he
      replace hXb := hXb.kept hk5
      replace hkS := Kept.of hkS hk5
      go_wp2
      refine hK _ _ (hk5.mono hsz) ?_
      clear hK K
      try simp only [Act.put, List.setIfInBounds_toArray, List.set_cons_zero, List.set_cons_succ]
      clear hk5 hsz sz
      refine plan_light _ rfl (fun K hK => ?_)
      refine (if_pos (by rfl)).mpr ?_; apply Exists.intro; refine ⟨fun w' hw' => ?_, hK _ ?_⟩
      · first | (go_simp; done) | (go_simp; rfl)
      clear hK K; simp only [Act.put, List.setIfInBounds_toArray, List.set_cons_zero, List.set_cons_succ]
      refine plan_light _ rfl (fun K hK => ?_)
      refine (if_pos (by rfl)).mpr ?_; apply Exists.intro; refine ⟨fun w' hw' => ?_, hK _ ?_⟩
      · first | (go_simp; done) | (go_simp; rfl)
      clear hK K; simp only [Act.put, List.setIfInBounds_toArray, List.set_cons_zero, List.set_cons_succ]
      refine plan_light _ rfl (fun K hK => ?_)
      refine (if_pos (by rfl)).mpr ?_; apply Exists.intro; refine ⟨fun w' hw' => ?_, hK _ ?_⟩
      · first | (go_simp; done) | (go_simp; rfl)
      clear hK K; simp only [Act.put, List.setIfInBounds_toArray, List.set_cons_zero, List.set_cons_succ]
      refine plan_heavy _ rfl (fun K hK => ?_)
      refine (if_pos (by rfl)).mpr ?_
      have f0 := hXb.free 0
      have f1 := hXb.free 1
      have f2 := hXb.free 2
      have e0 := hXb.cell 0
      have e1 := hXb.cell 1
      have e2 := hXb.cell 2
      have hsz := hkS.size
      have hks2 : Kept wS (((v3.setCell ⟨v1.heap.size, 0, none⟩ (.slice ua D uc)).setCell ⟨v1.heap.size, 1, none⟩ (U T2.1)).setCell ⟨v1.heap.size, 2, none⟩ (U T2.2)) := set3_below hkS hgS _ _ _
      replace ho := set3_own ho hXb (by decide) (.slice ua D uc) (U T2.1) (U T2.2)
      have hXb2 : Blk (((v3.setCell ⟨v1.heap.size, 0, none⟩ (.slice ua D uc)).setCell ⟨v1.heap.size, 1, none⟩ (U T2.1)).setCell ⟨v1.heap.size, 2, none⟩ (U T2.2)) v1.heap.size #[.slice ua D uc, U T2.1, U T2.2] 30 := by simpa using ((hXb.set 0 (.slice ua D uc)).set 1 (U T2.1)).set 2 (U T2.2)
      clear hkS hXb
      go_wp2
      refine hK _ _ (set3_below (Below.refl _ _) hgS _ _ _) ?_
      clear hK K
      try simp only [Act.put, List.setIfInBounds_toArray, List.set_cons_zero, List.set_cons_succ]
      clear f0 f1 f2 e0 e1 e2 hsz hgS
      generalize (((v3.setCell ⟨v1.heap.size, 0, none⟩ (.slice ua D uc)).setCell ⟨v1.heap.size, 1, none⟩ (U T2.1)).setCell ⟨v1.heap.size, 2, none⟩ (U T2.2)) = v4 at *
      refine plan_light _ rfl (fun K hK => ?_)
      refine (if_pos (by rfl)).mpr ?_; apply Exists.intro; refine ⟨fun w' hw' => ?_, hK _ ?_⟩
      · first | (go_simp; done) | (go_simp; rfl)
      clear hK K; simp only [Act.put, List.setIfInBounds_toArray, List.set_cons_zero, List.set_cons_succ]
      refine plan_nil ?_
      replace hKe := hKe.kept hks2
      replace hN := hN.kept hks2
      replace hXa := hXa.kept hks2
      replace sa := sa.kept hks2
      replace hk0 := Kept.of hk0 hks2
      have su := Sl.of_own ho
      clear hks2 ho
      go_wp2_with fail
      refine wp_region_chainK [(0, 0), (1, 0), (2, 0), (3, 0), (4, 0), (5, 0), (6, 0), (7, 0), (10, 0), (11, 0), (12, 0), (8, 1), (9, 0), (13, 0), (14, 0), (15, 0), (16, 0), (17, 0), (18, 0), (19, 0), (20, 0), (22, 0), (23, 0), (21, 1), (24, 1), (25, 0), (26, 0), (27, 0), (28, 0), (29, 1), (30, 0), (31, 0)] (by kernel_rfl) (by kernel_rfl) ?_
      intro w6 hw6
      replace hKe := hKe.kept hw6
      replace hN := hN.kept hw6
      replace hXa := hXa.kept hw6
      replace hXb2 := hXb2.kept hw6
      replace sa := sa.kept hw6
      replace su := su.kept hw6
      repeat
        refine chain_light _ rfl (fun K hK => ?_)
        first
          | (refine (if_pos (by rfl)).mpr ?_; apply Exists.intro; refine ⟨fun w' hw' => ?_, hK _ ?_⟩; (have c := hXa.kept hw'; have c0 := c.cell 0; have c1 := c.cell 1; have c2 := c.cell 2; clear c; have d := hXb2.kept hw'; have d0 := d.cell 0; have d1 := d.cell 1; have d2 := d.cell 2; clear d; have s0 := str_of (show Sl w' (.slice ua D uc) S.length (bcells S) from by rw [HSL.out]; exact su.kept hw'); go_simp; done); (clear hK K; simp only [Act.put, List.setIfInBounds_toArray, List.set_cons_zero, List.set_cons_succ]))
          | (refine (if_pos (by rfl)).mpr ?_; apply Exists.intro; refine ⟨fun w' hw' => ?_, hK _ ?_⟩; (have c := hXa.kept hw'; have c0 := c.cell 0; have c1 := c.cell 1; have c2 := c.cell 2; clear c; have d := hXb2.kept hw'; have d0 := d.cell 0; have d1 := d.cell 1; have d2 := d.cell 2; clear d; have s0 := str_of (show Sl w' (.slice ua D uc) S.length (bcells S) from by rw [HSL.out]; exact su.kept hw'); go_simp; rfl); (clear hK K; simp only [Act.put, List.setIfInBounds_toArray, List.set_cons_zero, List.set_cons_succ]))
          | (refine (if_neg (by rw [Bool.not_eq_true]; rfl)).mpr ?_; refine hK _ ?_; (clear hK K; simp only [Act.put, List.setIfInBounds_toArray, List.set_cons_zero, List.set_cons_succ]))
      refine chain_heavy _ rfl (fun K hK => ?_)
      refine (if_pos (by rfl)).mpr ?_
      go_wp2_with fail
      refine (rxor_any _ _ C data (by rw [HCL.out]; omega) (by rw [← HD.out]; omega) _ (by rw [HCL.out]; exact sa) (hd1.kept (Kept.of hk0 hw6))).mono ?_
      rintro e w7 ⟨rx, rfl, ox, hk7⟩
      rw [HFL.out] at ox
      have sx := Sl.of_own ox
      replace hKe := hKe.kept hk7
      replace hN := hN.kept hk7
      replace hXb2 := hXb2.kept hk7
      replace su := su.kept hk7
      go_wp2
      refine hK _ _ (hk7) ?_
      clear hK K
      try simp only [Act.put, List.setIfInBounds_toArray, List.set_cons_zero, List.set_cons_succ]
      repeat
        refine chain_light _ rfl (fun K hK => ?_)
        first
          | (refine (if_pos (by rfl)).mpr ?_; apply Exists.intro; refine ⟨fun w' hw' => ?_, hK _ ?_⟩; (have s1 := str_of (sx.kept hw'); have s0 := str_of (show Sl w' (.slice ua D uc) S.length (bcells S) from by rw [HSL.out]; exact su.kept hw'); have d := hXb2.kept hw'; have d0 := d.cell 0; have d1 := d.cell 1; have d2 := d.cell 2; clear d; have q := hKe.kept hw'; have q0 := q.cell 0; have q1 := q.cell 1; clear q; have m := hN.kept hw'; have m0 := m.cell 0; have m1 := m.cell 1; have m2 := m.cell 2; clear m; go_simp; done); (clear hK K; simp only [Act.put, List.setIfInBounds_toArray, List.set_cons_zero, List.set_cons_succ]))
          | (refine (if_pos (by rfl)).mpr ?_; apply Exists.intro; refine ⟨fun w' hw' => ?_, hK _ ?_⟩; (have s1 := str_of (sx.kept hw'); have s0 := str_of (show Sl w' (.slice ua D uc) S.length (bcells S) from by rw [HSL.out]; exact su.kept hw'); have d := hXb2.kept hw'; have d0 := d.cell 0; have d1 := d.cell 1; have d2 := d.cell 2; clear d; have q := hKe.kept hw'; have q0 := q.cell 0; have q1 := q.cell 1; clear q; have m := hN.kept hw'; have m0 := m.cell 0; have m1 := m.cell 1; have m2 := m.cell 2; clear m; go_simp; rfl); (clear hK K; simp only [Act.put, List.setIfInBounds_toArray, List.set_cons_zero, List.set_cons_succ]))
          | (refine (if_neg (by rw [Bool.not_eq_true]; rfl)).mpr ?_; refine hK _ ?_; (clear hK K; simp only [Act.put, List.setIfInBounds_toArray, List.set_cons_zero, List.set_cons_succ]))
      refine chain_heavy _ rfl (fun K hK => ?_)
      refine (if_pos (by rfl)).mpr ?_
      go_wp2_with fail
      refine (rsub_any k1 k2 n _).mono ?_
      rintro e w8 ⟨rfl, hk8⟩
      go_wp2
      refine hK _ _ (hk8) ?_
      clear hK K
      try simp only [Act.put, List.setIfInBounds_toArray, List.set_cons_zero, List.set_cons_succ]
      refine chain_heavy _ rfl (fun K hK => ?_)
      refine (if_pos (by rfl)).mpr ?_
      go_wp2_with fail
      refine (rfbytes_some _ _ D (by omega) _).mono ?_
      rintro e w9 ⟨rf, rfl, orf, hk9⟩
      rw [show flowB ((sub2 (k1, k2) n).1, (sub2 (k1, k2) n).2) D = S from HS.out.symm] at orf
      have sf : Sl w9 rf S.length (bcells S) := by rw [HSL.out]; exact Sl.of_own orf
      go_wp2
      refine hK _ _ (hk9) ?_
      clear hK K
      try simp only [Act.put, List.setIfInBounds_toArray, List.set_cons_zero, List.set_cons_succ]
      repeat
        refine chain_light _ rfl (fun K hK => ?_)
        first
          | (refine (if_pos (by rfl)).mpr ?_; apply Exists.intro; refine ⟨fun w' hw' => ?_, hK _ ?_⟩; (have s2 := str_of (sf.kept hw'); go_simp; done); (clear hK K; simp only [Act.put, List.setIfInBounds_toArray, List.set_cons_zero, List.set_cons_succ]))
          | (refine (if_pos (by rfl)).mpr ?_; apply Exists.intro; refine ⟨fun w' hw' => ?_, hK _ ?_⟩; (have s2 := str_of (sf.kept hw'); go_simp; rfl); (clear hK K; simp only [Act.put, List.setIfInBounds_toArray, List.set_cons_zero, List.set_cons_succ]))
          | (refine (if_neg (by rw [Bool.not_eq_true]; rfl)).mpr ?_; refine hK _ ?_; (clear hK K; simp only [Act.put, List.setIfInBounds_toArray, List.set_cons_zero, List.set_cons_succ]))
      refine chain_heavy _ rfl (fun K hK => ?_)
      refine (if_pos (by rfl)).mpr ?_
      go_wp2_with fail
      refine (known_any _).mono ?_
      rintro e w10 ⟨rfl, hk10⟩
      go_wp2
      refine hK _ _ (hk10) ?_
      clear hK K
      try simp only [Act.put, List.setIfInBounds_toArray, List.set_cons_zero, List.set_cons_succ]
      repeat
        refine chain_light _ rfl (fun K hK => ?_)
        first
          | (refine (if_pos (by rfl)).mpr ?_; apply Exists.intro; refine ⟨fun w' hw' => ?_, hK _ ?_⟩; (go_simp; done); (clear hK K; simp only [Act.put, List.setIfInBounds_toArray, List.set_cons_zero, List.set_cons_succ]))
          | (refine (if_pos (by rfl)).mpr ?_; apply Exists.intro; refine ⟨fun w' hw' => ?_, hK _ ?_⟩; (go_simp; rfl); (clear hK K; simp only [Act.put, List.setIfInBounds_toArray, List.set_cons_zero, List.set_cons_succ]))
          | (refine (if_neg (by rw [Bool.not_eq_true]; rfl)).mpr ?_; refine hK _ ?_; (clear hK K; simp only [Act.put, List.setIfInBounds_toArray, List.set_cons_zero, List.set_cons_succ]))
      refine chain_nil ?_
      go_wp2
      go_ret
      exact ⟨rfl, ((((hk0.of hw6).of hk7).of hk8).of hk9).of hk10⟩
  · refine plan_heavy _ rfl (fun K hK => ?_)
    refine (if_pos (by rfl)).mpr ?_
    have hkz : Kept w4 (w4.alloc (.cells #[.slice none 0 0, U 0#64, U 0#64] 30)) := (Below.refl _ _).alloc (Nat.le_refl _) _
    have hsz := hkS.size
    have hgS : wS.heap.size ≤ w4.heap.size := hsz
    replace hkS := Kept.of hkS hkz
    have hXb := Blk.new w4 #[.slice none 0 0, U 0#64, U 0#64] 30
    go_wp2
    refine hK _ _ (hkz.mono hsz) ?_
    clear hK K
    try simp only [Act.put, List.setIfInBounds_toArray, List.set_cons_zero, List.set_cons_succ]
    clear hkz hsz
    generalize (w4.alloc (.cells #[.slice none 0 0, U 0#64, U 0#64] 30)) = v1 at *
    refine plan_heavy _ rfl (fun K hK => ?_)
    refine (if_pos (by rfl)).mpr ?_
    have hmk : (Instr.makeSlice 28 (.int .i64 (D : Int)) (.int .i64 (D : Int))).run Try.prog v1 = .ok (.slice (some ⟨v1.heap.size, 0, none⟩) D D) (v1.alloc (.cells (bcells Z).toArray 5)) := by rw [HZ.out]; exact run_make_b (P := Try.prog) v1 sl_bytes .i64 .i64 D (by omega)
    have sz : Sl (v1.alloc (.cells (bcells Z).toArray 5)) (.slice (some ⟨v1.heap.size, 0, none⟩) D D) D (bcells Z) := Sl.of_own (own_made D (by unfold maxLen; omega) 5 Z HZL.out (Blk.new _ _ _) (Nat.le_refl _))
    have hkz : Kept v1 (v1.alloc (.cells (bcells Z).toArray 5)) := (Below.refl _ _).alloc (Nat.le_refl _) _
    have hsz := hkS.size
    replace hXb := hXb.kept hkz
    replace hkS := Kept.of hkS hkz
    go_wp2
    refine hK _ _ (hkz.mono hsz) ?_
    clear hK K
    try simp only [Act.put, List.setIfInBounds_toArray, List.set_cons_zero, List.set_cons_succ]
    clear hmk hkz hsz
    generalize (v1.alloc (.cells (bcells Z).toArray 5)) = v2 at *
    refine plan_heavy _ rfl (fun K hK => ?_)
    refine (if_pos (by rfl)).mpr ?_
    go_wp2_with fail
    refine (seal_any k1 k2 n _ _ [] Z (by simp) (by rw [HZL.out]; omega) _ (Sl.nil _) (by rw [HZL.out]; exact sz)).mono ?_
    rintro e v3 ⟨u, rfl, ho, hk5⟩
    rw [HZL.out, HZF.out] at ho
    rw [← HT2.out]
    have hsz := hkS.size
    obtain ⟨ua, uc, he⟩ := (Sl.of_own ho).len
    subst he
    replace hXb := hXb.kept hk5
    replace hkS := Kept.of hkS hk5
    go_wp2
    refine hK _ _ (hk5.mono hsz) ?_
    clear hK K
    try simp only [Act.put, List.setIfInBounds_toArray, List.set_cons_zero, List.set_cons_succ]
    clear hk5 hsz sz
    refine plan_light _ rfl (fun K hK => ?_)
    refine (if_pos (by rfl)).mpr ?_; apply Exists.intro; refine ⟨fun w' hw' => ?_, hK _ ?_⟩
    · first | (go_simp; done) | (go_simp; rfl)
    clear hK K; simp only [Act.put, List.setIfInBounds_toArray, List.set_cons_zero, List.set_cons_succ]
    refine plan_light _ rfl (fun K hK => ?_)
    refine (if_pos (by rfl)).mpr ?_; apply Exists.intro; refine ⟨fun w' hw' => ?_, hK _ ?_⟩
    · first | (go_simp; done) | (go_simp; rfl)
    clear hK K; simp only [Act.put, List.setIfInBounds_toArray, List.set_cons_zero, List.set_cons_succ]
    refine plan_light _ rfl (fun K hK => ?_)
    refine (if_pos (by rfl)).mpr ?_; apply Exists.intro; refine ⟨fun w' hw' => ?_, hK _ ?_⟩
    · first | (go_simp; done) | (go_simp; rfl)
    clear hK K; simp only [Act.put, List.setIfInBounds_toArray, List.set_cons_zero, List.set_cons_succ]
    refine plan_heavy _ rfl (fun K hK => ?_)
    refine (if_pos (by rfl)).mpr ?_
    have f0 := hXb.free 0
    have f1 := hXb.free 1
    have f2 := hXb.free 2
    have e0 := hXb.cell 0
    have e1 := hXb.cell 1
    have e2 := hXb.cell 2
    have hsz := hkS.size
    have hks2 : Kept wS (((v3.setCell ⟨w4.heap.size, 0, none⟩ (.slice ua D uc)).setCell ⟨w4.heap.size, 1, none⟩ (U T2.1)).setCell ⟨w4.heap.size, 2, none⟩ (U T2.2)) := set3_below hkS hgS _ _ _
    replace ho := set3_own ho hXb (by decide) (.slice ua D uc) (U T2.1) (U T2.2)
    have hXb2 : Blk (((v3.setCell ⟨w4.heap.size, 0, none⟩ (.slice ua D uc)).setCell ⟨w4.heap.size, 1, none⟩ (U T2.1)).setCell ⟨w4.heap.size, 2, none⟩ (U T2.2)) w4.heap.size #[.slice ua D uc, U T2.1, U T2.2] 30 := by simpa using ((hXb.set 0 (.slice ua D uc)).set 1 (U T2.1)).set 2 (U T2.2)
    clear hkS hXb
    go_wp2
    refine hK _ _ (set3_below (Below.refl _ _) hgS _ _ _) ?_
    clear hK K
    try simp only [Act.put, List.setIfInBounds_toArray, List.set_cons_zero, List.set_cons_succ]
    clear f0 f1 f2 e0 e1 e2 hsz hgS
    generalize (((v3.setCell ⟨w4.heap.size, 0, none⟩ (.slice ua D uc)).setCell ⟨w4.heap.size, 1, none⟩ (U T2.1)).setCell ⟨w4.heap.size, 2, none⟩ (U T2.2)) = v4 at *
    refine plan_light _ rfl (fun K hK => ?_)
    refine (if_pos (by rfl)).mpr ?_; apply Exists.intro; refine ⟨fun w' hw' => ?_, hK _ ?_⟩
    · first | (go_simp; done) | (go_simp; rfl)
    clear hK K; simp only [Act.put, List.setIfInBounds_toArray, List.set_cons_zero, List.set_cons_succ]
    refine plan_nil ?_
    replace hKe := hKe.kept hks2
    replace hN := hN.kept hks2
    replace hXa := hXa.kept hks2
    replace sa := sa.kept hks2
    replace hk0 := Kept.of hk0 hks2
    have su := Sl.of_own ho
    clear hks2 ho
    go_wp2_with fail
    refine wp_region_chainK [(0, 0), (1, 0), (2, 0), (3, 0), (4, 0), (5, 0), (6, 0), (7, 0), (10, 0), (11, 0), (12, 0), (8, 1), (9, 0), (13, 0), (14, 0), (15, 0), (16, 0), (17, 0), (18, 0), (19, 0), (20, 0), (22, 0), (23, 0), (21, 1), (24, 1), (25, 0), (26, 0), (27, 0), (28, 0), (29, 1), (30, 0), (31, 0)] (by kernel_rfl) (by kernel_rfl) ?_
    intro w6 hw6
    replace hKe := hKe.kept hw6
    replace hN := hN.kept hw6
    replace hXa := hXa.kept hw6
    replace hXb2 := hXb2.kept hw6
    replace sa := sa.kept hw6
    replace su := su.kept hw6
    repeat
      refine chain_light _ rfl (fun K hK => ?_)
      first
        | (refine (if_pos (by rfl)).mpr ?_; apply Exists.intro; refine ⟨fun w' hw' => ?_, hK _ ?_⟩; (have c := hXa.kept hw'; have c0 := c.cell 0; have c1 := c.cell 1; have c2 := c.cell 2; clear c; have d := hXb2.kept hw'; have d0 := d.cell 0; have d1 := d.cell 1; have d2 := d.cell 2; clear d; have s0 := str_of (show Sl w' (.slice ua D uc) S.length (bcells S) from by rw [HSL.out]; exact su.kept hw'); go_simp; done); (clear hK K; simp only [Act.put, List.setIfInBounds_toArray, List.set_cons_zero, List.set_cons_succ]))
        | (refine (if_pos (by rfl)).mpr ?_; apply Exists.intro; refine ⟨fun w' hw' => ?_, hK _ ?_⟩; (have c := hXa.kept hw'; have c0 := c.cell 0; have c1 := c.cell 1; have c2 := c.cell 2; clear c; have d := hXb2.kept hw'; have d0 := d.cell 0; have d1 := d.cell 1; have d2 := d.cell 2; clear d; have s0 := str_of (show Sl w' (.slice ua D uc) S.length (bcells S) from by rw [HSL.out]; exact su.kept hw'); go_simp; rfl); (clear hK K; simp only [Act.put, List.setIfInBounds_toArray, List.set_cons_zero, List.set_cons_succ]))
        | (refine (if_neg (by rw [Bool.not_eq_true]; rfl)).mpr ?_; refine hK _ ?_; (clear hK K; simp only [Act.put, List.setIfInBounds_toArray, List.set_cons_zero, List.set_cons_succ]))
    refine chain_heavy _ rfl (fun K hK => ?_)
    refine (if_pos (by rfl)).mpr ?_
    go_wp2_with fail
    refine (rxor_any _ _ C data (by rw [HCL.out]; omega) (by rw [← HD.out]; omega) _ (by rw [HCL.out]; exact sa) (hd1.kept (Kept.of hk0 hw6))).mono ?_
    rintro e w7 ⟨rx, rfl, ox, hk7⟩
    rw [HFL.out] at ox
    have sx := Sl.of_own ox
    replace hKe := hKe.kept hk7
    replace hN := hN.kept hk7
    replace hXb2 := hXb2.kept hk7
    replace su := su.kept hk7
    go_wp2
    refine hK _ _ (hk7) ?_
    clear hK K
    try simp only [Act.put, List.setIfInBounds_toArray, List.set_cons_zero, List.set_cons_succ]
    repeat
      refine chain_light _ rfl (fun K hK => ?_)
      first
        | (refine (if_pos (by rfl)).mpr ?_; apply Exists.intro; refine ⟨fun w' hw' => ?_, hK _ ?_⟩; (have s1 := str_of (sx.kept hw'); have s0 := str_of (show Sl w' (.slice ua D uc) S.length (bcells S) from by rw [HSL.out]; exact su.kept hw'); have d := hXb2.kept hw'; have d0 := d.cell 0; have d1 := d.cell 1; have d2 := d.cell 2; clear d; have q := hKe.kept hw'; have q0 := q.cell 0; have q1 := q.cell 1; clear q; have m := hN.kept hw'; have m0 := m.cell 0; have m1 := m.cell 1; have m2 := m.cell 2; clear m; go_simp; done); (clear hK K; simp only [Act.put, List.setIfInBounds_toArray, List.set_cons_zero, List.set_cons_succ]))
        | (refine (if_pos (by rfl)).mpr ?_; apply Exists.intro; refine ⟨fun w' hw' => ?_, hK _ ?_⟩; (have s1 := str_of (sx.kept hw'); have s0 := str_of (show Sl w' (.slice ua D uc) S.length (bcells S) from by rw [HSL.out]; exact su.kept hw'); have d := hXb2.kept hw'; have d0 := d.cell 0; have d1 := d.cell 1; have d2 := d.cell 2; clear d; have q := hKe.kept hw'; have q0 := q.cell 0; have q1 := q.cell 1; clear q; have m := hN.kept hw'; have m0 := m.cell 0; have m1 := m.cell 1; have m2 := m.cell 2; clear m; go_simp; rfl); (clear hK K; simp only [Act.put, List.setIfInBounds_toArray, List.set_cons_zero, List.set_cons_succ]))
        | (refine (if_neg (by rw [Bool.not_eq_true]; rfl)).mpr ?_; refine hK _ ?_; (clear hK K; simp only [Act.put, List.setIfInBounds_toArray, List.set_cons_zero, List.set_cons_succ]))
    refine chain_heavy _ rfl (fun K hK => ?_)
    refine (if_pos (by rfl)).mpr ?_
    go_wp2_with fail
    refine (rsub_any k1 k2 n _).mono ?_
    rintro e w8 ⟨rfl, hk8⟩
    go_wp2
    refine hK _ _ (hk8) ?_
    clear hK K
    try simp only [Act.put, List.setIfInBounds_toArray, List.set_cons_zero, List.set_cons_succ]
    refine chain_heavy _ rfl (fun K hK => ?_)
    refine (if_pos (by rfl)).mpr ?_
    go_wp2_with fail
    refine (rfbytes_some _ _ D (by omega) _).mono ?_
    rintro e w9 ⟨rf, rfl, orf, hk9⟩
    rw [show flowB ((sub2 (k1, k2) n).1, (sub2 (k1, k2) n).2) D = S from HS.out.symm] at orf
    have sf : Sl w9 rf S.length (bcells S) := by rw [HSL.out]; exact Sl.of_own orf
    go_wp2
    refine hK _ _ (hk9) ?_
    clear hK K
    try simp only [Act.put, List.setIfInBounds_toArray, List.set_cons_zero, List.set_cons_succ]
    repeat
      refine chain_light _ rfl (fun K hK => ?_)
      first
        | (refine (if_pos (by rfl)).mpr ?_; apply Exists.intro; refine ⟨fun w' hw' => ?_, hK _ ?_⟩; (have s2 := str_of (sf.kept hw'); go_simp; done); (clear hK K; simp only [Act.put, List.setIfInBounds_toArray, List.set_cons_zero, List.set_cons_succ]))
        | (refine (if_pos (by rfl)).mpr ?_; apply Exists.intro; refine ⟨fun w' hw' => ?_, hK _ ?_⟩; (have s2 := str_of (sf.kept hw'); go_simp; rfl); (clear hK K; simp only [Act.put, List.setIfInBounds_toArray, List.set_cons_zero, List.set_cons_succ]))
        | (refine (if_neg (by rw [Bool.not_eq_true]; rfl)).mpr ?_; refine hK _ ?_; (clear hK K; simp only [Act.put, List.setIfInBounds_toArray, List.set_cons_zero, List.set_cons_succ]))
    refine chain_heavy _ rfl (fun K hK => ?_)
    refine (if_pos (by rfl)).mpr ?_
    go_wp2_with fail
    refine (known_any _).mono ?_
    rintro e w10 ⟨rfl, hk10⟩
    go_wp2
    refine hK _ _ (hk10) ?_
    clear hK K
    try simp only [Act.put, List.setIfInBounds_toArray, List.set_cons_zero, List.set_cons_succ]
    repeat
      refine chain_light _ rfl (fun K hK => ?_)
      first
        | (refine (if_pos (by rfl)).mpr ?_; apply Exists.intro; refine ⟨fun w' hw' => ?_, hK _ ?_⟩; (go_simp; done); (clear hK K; simp only [Act.put, List.setIfInBounds_toArray, List.set_cons_zero, List.set_cons_succ]))
        | (refine (if_pos (by rfl)).mpr ?_; apply Exists.intro; refine ⟨fun w' hw' => ?_, hK _ ?_⟩; (go_simp; rfl); (clear hK K; simp only [Act.put, List.setIfInBounds_toArray, List.set_cons_zero, List.set_cons_succ]))
        | (refine (if_neg (by rw [Bool.not_eq_true]; rfl)).mpr ?_; refine hK _ ?_; (clear hK K; simp only [Act.put, List.setIfInBounds_toArray, List.set_cons_zero, List.set_cons_succ]))
    refine chain_nil ?_
    go_wp2
    go_ret
    exact ⟨rfl, ((((hk0.of hw6).of hk7).of hk8).of hk9).of hk10⟩

set_option maxRecDepth 100000 in
set_option maxHeartbeats 8000000 in
theorem flow_long (k1 k2 : BitVec 64) (n : Nn) (vd : Value) (data : List UInt8) (dl : 300 < data.length) (w : World) (hd : Sl w vd data.length (bcells data)) : Calls Try.prog 8 #[.agg #[U k1, U k2], n.val, vd] w fun e w' => e = .returned (.bool true) ∧ Kept w w' := by
  obtain ⟨da, dc, hv⟩ := hd.len
  subst hv
  generalize data.length = D at *
  have i1 : 300 < (D : Int) := by omega
  clear hd
  unfold Nn.val
  go_enter Try.func8, Try.ntmps8
  go_wp2
  go_ret
  exact ⟨rfl, (((Below.refl _ _).alloc (Nat.le_refl _) _).alloc (by simp) _)⟩

theorem flow_walk (k1 k2 : BitVec 64) (n : Nn) (vd : Value) (data : List UInt8) (w : World) (hd : Sl w vd data.length (bcells data)) : Calls Try.prog 8 #[.agg #[U k1, U k2], n.val, vd] w fun e w' => e = .returned (.bool true) ∧ Kept w w' := by
  by_cases h : 300 < data.length
  · exact flow_long k1 k2 n vd data h w hd
  · exact flow_in k1 k2 n vd data (by omega) w hd

namespace gcmFlowRow
open Go.ChangeShapes Go.WideShapes Go.ChangeAt Go.RowKit
theorem own : ownKnob Try.prog.godebug = none := by kernel_rfl
theorem laidOut : laidOutB Try.prog = true := by kernel_rfl

set_option maxRecDepth 100000 in
theorem lifted (os : Os) (started : os.Started) (H : Type) (enc : TypeId × Value → H) :
    ReturnsInHanded {} Try.checked os 8 .any (Rows.gcmFlowSpec.pre6 enc Try.prog Try.f8 Rows.gcmFlowRow.domain false) (Rows.gcmFlowSpec.post enc Try.prog Try.f8 false true false false) := by
  refine returnsInHanded_of_change (C := Try.checked) own started (by kernel_rfl) Try.func8
    (ChangeSpec.witness6 (enc := enc) (C := Try.checked) false ⟨#[], #[.agg #[.int .u64 0, .int .u64 0], .agg #[.int .u32 0, .int .u32 0, .int .u64 0], .slice none 0 0], []⟩ 8 (by kernel_rfl) (by kernel_rfl) (by kernel_rfl) (by kernel_rfl)) ?_
  intro W base args ds gs before hval0 hW _ hsz
  have hval : ∀ (j : Nat) t v, Try.f8.params[j]? = some t → args[j]? = some v → Value.okWide Try.prog W .any base t v := hval0
  have hW' := hW
  obtain ⟨p, q, hA0, hV, rfl, hfz, hnd⟩ := hW
  have hA : DataW.TrodAll enc Try.prog W 0 (fun _ => true) true Try.f8.params.toList args.toList ds p := hA0
  rw [Try.params8] at hA hval
  obtain ⟨v0, vs0, d0, ds0, p0, q0, hargs, rfl, rfl, h0, r0⟩ := trodAll_cons hA
  obtain ⟨v1, vs1, d1, ds1, p1, q1, rfl, rfl, rfl, h1, r1⟩ := trodAll_cons r0
  obtain ⟨v2, vs2, d2, ds2, p2, q2, rfl, rfl, rfl, h2, r2⟩ := trodAll_cons r1
  obtain ⟨rfl, rfl, rfl⟩ := trodAll_nil r2
  obtain rfl : args = #[v0, v1, v2] := by cases args; simp_all
  obtain ⟨a0, rfl⟩ := open_pair (e := 22) Try.underlying24 Try.underlying22 (by kernel_rfl) (by kernel_rfl) (hval 0 24 v0 rfl rfl) h0
  obtain ⟨a1, rfl⟩ := open_nonce (H := H) (hval 1 27 v1 rfl rfl) h1
  obtain ⟨a2b, a2⟩ := open_bytes (e := 5) Try.underlying28 Try.underlying5 (by kernel_rfl) (hval 2 28 v2 rfl rfl) h2
  refine (flow_walk a0.1 a0.2 a1 v2 a2b W a2).mono fun e W' ⟨he, bel⟩ => ?_
  subst he
  exact ⟨_, rfl, law_post (tb := 4) laidOut (by kernel_rfl) Try.underlying4 (by rfl) rfl (by intro xs hxs; match xs, hxs with | [x0, x1, x2], _ => rfl) hW' bel⟩

theorem over : Rows.gcmFlowRow.holds Try.pinned (OpenSpec.ofChange Rows.gcmFlowSpec) :=
  OpenClaim.holds_of_wide 8 Try.f8 rfl rfl rfl rfl rfl rfl rfl ⟨rfl, rfl, rfl, rfl, rfl⟩ rfl rfl rfl rfl rfl (by kernel_rfl) Try.func8 (by kernel_rfl)
    (of_decide_eq_true (by kernel_rfl)) (by unfold Func.isWrapper; rw [if_neg (of_decide_eq_false (by kernel_rfl))]; exact ⟨rfl, rfl⟩)
    (fun os started H enc _ => lifted os started H enc)
end gcmFlowRow

theorem gcmFlow_holds : Rows.GcmFlowSaid := gcmFlowRow.over
#print axioms gcmFlow_holds

end Go.Proofs.Ytlbogmpfjkendaa
