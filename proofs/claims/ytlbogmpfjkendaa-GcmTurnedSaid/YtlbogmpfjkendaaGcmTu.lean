/- GcmTurned: sealed bytes with one turned, or the tag, are opened just where the document opens them: here not. -/
import Derived.Test.YtlbogmpfjkendaaGcmK
import Derived.Test.YtlbogmpfjkendaaTurn
import Derived.Test.YtlbogmpfjkendaaRows
namespace Go.Proofs.Ytlbogmpfjkendaa
open Go Go.RowKit

theorem and_one (n : Int) : bits .and .i64 n 1 = 0 ∨ bits .and .i64 n 1 = 1 := by
  have h : (BitVec.ofInt 64 n &&& BitVec.ofInt 64 1).toNat < 2 := by
    rw [BitVec.toNat_and]
    have : (BitVec.ofInt 64 1).toNat = 1 := by decide
    rw [this]
    exact Nat.lt_of_le_of_lt Nat.and_le_right (by omega)
  have h2 : bits .and .i64 n 1 = ((BitVec.ofInt 64 n &&& BitVec.ofInt 64 1).toNat : Int) := by
    show IntKind.i64.wrap ((BitVec.ofInt 64 n &&& BitVec.ofInt 64 1).toNat : Int) = _
    exact IntWalk.i64_in _ (by omega)
  rw [h2]
  omega
theorem turned_word (x : BitVec 64) (y : UInt8) (h : y ≠ 0) : x ^^^ BitVec.ofNat 64 y.toNat ≠ x := by
  intro e
  have h2 := congrArg (x ^^^ ·) e
  simp only [← BitVec.xor_assoc, BitVec.xor_self, BitVec.zero_xor] at h2
  apply h
  have h3 := congrArg BitVec.toNat h2
  rw [BitVec.toNat_ofNat, Nat.mod_eq_of_lt (by have := y.toNat_lt; omega)] at h3
  exact UInt8.toNat_inj.1 h3

set_option maxRecDepth 100000 in
set_option maxHeartbeats 8000000 in
theorem turned_in (k1 k2 : BitVec 64) (n : Nn) (vh vd : Value) (head data : List UInt8) (at_ : Int) (by_ : UInt8) (hl : head.length ≤ 100) (dl : data.length ≤ 100) (d1 : 1 ≤ data.length) (hby : by_ ≠ 0) (w : World) (hh : Sl w vh head.length (bcells head)) (hd : Sl w vd data.length (bcells data)) : Calls Try.prog 6 #[.agg #[U k1, U k2], n.val, vh, vd, .int .i64 at_, V8 by_] w fun e w' => e = .returned (.bool true) ∧ Kept w w' := by
  obtain ⟨ha, hc, hv⟩ := hh.len
  subst hv
  obtain ⟨da, dc, hv⟩ := hd.len
  subst hv
  obtain ⟨H, hH⟩ : ∃ H, H = head.length := ⟨_, rfl⟩
  obtain ⟨D, hD⟩ : ∃ D, D = data.length := ⟨_, rfl⟩
  have hh1 : Sl w (.slice ha H hc) head.length (bcells head) := by rw [hH]; exact hh
  have hd1 : Sl w (.slice da D dc) data.length (bcells data) := by rw [hD]; exact hd
  rw [← hH] at hl ⊢
  rw [← hD] at dl d1 ⊢
  have HH := Lib.hid hH
  have HD := Lib.hid hD
  clear hh hd hH hD
  have i0 : (H : Int) ≤ 100 := by omega
  have i1 : (D : Int) ≤ 100 := by omega
  have i2 : ¬ (D : Int) < 1 := by omega
  have i3 : ¬ 100 < (H : Int) := by omega
  have i4 : ¬ 100 < (D : Int) := by omega
  have i5 : ¬ D = 0 := by omega
  have hby2 : (by_ == 0) = false := by simpa using hby
  have HBY := Lib.hid hby
  clear hby
  unfold Nn.val
  have hk0 : Kept w ((w.alloc (.cells #[U k1, U k2] 24)).alloc (.cells #[W n.epoch, W n.slot, U n.version] 27)) := (((Below.refl _ _).alloc (Nat.le_refl _) _).alloc (by simp) _)
  have hKe : Blk ((w.alloc (.cells #[U k1, U k2] 24)).alloc (.cells #[W n.epoch, W n.slot, U n.version] 27)) w.heap.size #[U k1, U k2] 24 := ((Blk.new _ _ _).alloc _)
  have hN : Blk ((w.alloc (.cells #[U k1, U k2] 24)).alloc (.cells #[W n.epoch, W n.slot, U n.version] 27)) (w.heap.size + 1) #[W n.epoch, W n.slot, U n.version] 27 := by simpa using Blk.new (w.alloc (.cells #[U k1, U k2] 24)) #[W n.epoch, W n.slot, U n.version] 27
  have q0 := hKe.cell 0
  have q1 := hKe.cell 1
  have n0 := hN.cell 0
  have n1 := hN.cell 1
  have n2 := hN.cell 2
  go_enter Try.func6, Try.ntmps6
  go_wp2_with fail
  generalize ((w.alloc (.cells #[U k1, U k2] 24)).alloc (.cells #[W n.epoch, W n.slot, U n.version] 27)) = w0 at *
  have hlN := hN.lt
  refine (rseal_any _ _ n _ _ head data (by rw [← HH.out]; omega) (by rw [← HD.out]; omega) _ (hh1.kept hk0) (hd1.kept hk0)).mono ?_
  rintro e w1 ⟨ua, rfl, oa, hk1⟩
  rw [← HD.out] at oa
  obtain ⟨T, hT⟩ : ∃ T, T = sealT (k1, k2) n head data := ⟨_, rfl⟩
  obtain ⟨C, hC⟩ : ∃ C, C = ciph (k1, k2) n data := ⟨_, rfl⟩
  rw [← hT]
  rw [← hC] at oa
  have HT := Lib.hid hT
  have HC := Lib.hid hC
  clear hT hC
  obtain ⟨aa, ca, he⟩ := (Sl.of_own oa).len
  subst he
  have hk00 := hk0
  have hlow := (Sl.of_own oa).low
  have hsz0 := hk1.size
  have hXa := Blk.new w1 #[.slice aa D ca, U T.1, U T.2] 30
  have hka : Kept w1 (w1.alloc (.cells #[.slice aa D ca, U T.1, U T.2] 30)) := (Below.refl _ _).alloc (Nat.le_refl _) _
  have oax := own_kept oa hka
  replace hKe := (hKe.kept hk1).kept hka
  replace hN := (hN.kept hk1).kept hka
  replace hk0 := Kept.of (Kept.of hk0 hk1) hka
  clear hk1 hka oa
  clear q0 q1 n0 n1 n2
  have hCl : C.length = D := by rw [HC.out, ciph_length, HD.out]
  have hgl := fun (g : Nat) (e : aa = some ⟨g, 0, none⟩) => hlow ⟨g, 0, none⟩ ca (by rw [e]) (by rw [bcells_length]; omega)
  have HCL := Lib.hid hCl
  clear hlow hCl
  go_wp2_with fail
  generalize (w1.alloc (.cells #[.slice aa D ca, U T.1, U T.2] 30)) = w3 at *
  refine wp_region_chainK [(0, 0), (1, 0), (2, 0), (3, 0), (4, 0), (5, 0), (6, 0), (7, 0), (8, 0), (9, 0), (10, 0), (11, 0), (12, 0), (13, 2)] (by kernel_rfl) (by kernel_rfl) ?_
  intro w4 hw4
  replace hKe := hKe.kept hw4
  replace hN := hN.kept hw4
  replace hXa := hXa.kept hw4
  replace hk0 := Kept.of hk0 hw4
  replace oax := own_kept oax hw4
  obtain ⟨g, cap, he, hg1, hg2, hg3, hg4, hg5, hg6, hg7⟩ := own_set oax (by omega)
  cases he
  have hgl1 := hgl g rfl
  obtain ⟨m, hm, hbm⟩ := and_low at_
  obtain ⟨i, hi⟩ : ∃ i, i = m % D := ⟨_, rfl⟩
  have hid : i < D := by rw [hi]; exact Nat.mod_lt _ (by omega)
  have hmi : (m : Int).tmod (D : Int) = (i : Int) := by rw [Int.tmod_eq_emod_of_nonneg (by omega), hi]; omega
  have j0 : (0 : Int) ≤ (i : Int) := by omega
  have j1 : (i : Int) < (D : Int) := by omega
  have hil : i < C.length := by omega
  obtain ⟨y0, hy0⟩ : ∃ y0, y0 = C[i] := ⟨_, rfl⟩
  have c0 := (hg6 i hil).1
  have f0 := (hg6 i hil).2
  rw [← hy0] at c0
  obtain ⟨b', hb'⟩ : ∃ b' : List UInt8, b' = C.set i (y0 ^^^ by_) := ⟨_, rfl⟩
  have hl' : b'.length = D := by rw [hb', List.length_set]; omega
  have st1 := hg7 i (y0 ^^^ by_) (by omega)
  rw [← hb'] at st1
  have HI := Lib.hid hi
  have HY0 := Lib.hid hy0
  have HB' := Lib.hid hb'
  have HL' := Lib.hid hl'
  have HM := Lib.hid hm
  clear hi hy0 hb' hl' hg6 hg7 hg4 hm oax
  repeat
    refine chain_light _ rfl (fun K hK => ?_)
    first
      | (refine (if_pos (by rfl)).mpr ?_; apply Exists.intro; refine ⟨fun w' hw' => ?_, hK _ ?_⟩; (have c := hXa.kept hw'; have cc0 := c.cell 0; have cc := hw'.at c0; clear c; go_simp; done); (clear hK K; simp only [Act.put, List.setIfInBounds_toArray, List.set_cons_zero, List.set_cons_succ]))
      | (refine (if_pos (by rfl)).mpr ?_; apply Exists.intro; refine ⟨fun w' hw' => ?_, hK _ ?_⟩; (have c := hXa.kept hw'; have cc0 := c.cell 0; have cc := hw'.at c0; clear c; go_simp; rfl); (clear hK K; simp only [Act.put, List.setIfInBounds_toArray, List.set_cons_zero, List.set_cons_succ]))
      | (refine (if_neg (by rw [Bool.not_eq_true]; rfl)).mpr ?_; refine hK _ ?_; (clear hK K; simp only [Act.put, List.setIfInBounds_toArray, List.set_cons_zero, List.set_cons_succ]))
  refine chain_last _ rfl (fun K hK => ?_)
  refine (if_pos (by rfl)).mpr ?_
  go_wp2
  refine chain_nil ?_
  replace hk0 : Kept w (w4.setCell ⟨g, i, none⟩ (V8 (y0 ^^^ by_))) := hk0.setCell (by show _ ≤ g; omega) _
  replace hKe := hKe.other (a := ⟨g, i, none⟩) (by show _ ≠ g; omega) (V8 (y0 ^^^ by_))
  replace hN := hN.other (a := ⟨g, i, none⟩) (by show _ ≠ g; omega) (V8 (y0 ^^^ by_))
  replace hXa := hXa.other (a := ⟨g, i, none⟩) (by show _ ≠ g; omega) (V8 (y0 ^^^ by_))
  have st2 : Sl (w4.setCell ⟨g, i, none⟩ (V8 (y0 ^^^ by_))) (.slice (some ⟨g, 0, none⟩) D ca) b'.length (bcells b') := by rw [HL'.out]; exact st1
  clear st1 c0 f0 hgl
  generalize (w4.setCell ⟨g, i, none⟩ (V8 (y0 ^^^ by_))) = w5 at *
  have q0 := hKe.cell 0
  have q1 := hKe.cell 1
  have n0 := hN.cell 0
  have n1 := hN.cell 1
  have n2 := hN.cell 2
  have x0 := hXa.cell 0
  have x1 := hXa.cell 1
  have x2 := hXa.cell 2
  go_wp2_with fail
  refine (ropen_any k1 k2 n _ _ head b' T.1 T.2 (by rw [← HH.out]; omega) (by rw [HL'.out]; omega) _ (hh1.kept hk0) st2).mono ?_
  rintro e w6 ⟨u6, rfl, _, hk6⟩
  obtain ⟨OK, hOK⟩ : ∃ OK, OK = openK (k1, k2) n head b' (T.1, T.2) := ⟨_, rfl⟩
  rw [← hOK]
  have HOK := Lib.hid hOK
  clear hOK
  replace hKe := hKe.kept hk6
  replace hN := hN.kept hk6
  replace hXa := hXa.kept hk6
  replace st2 := st2.kept hk6
  replace hk0 := Kept.of hk0 hk6
  clear hk6
  clear q0 q1 n0 n1 n2
  clear x0 x1 x2
  have q0 := hKe.cell 0
  have q1 := hKe.cell 1
  have n0 := hN.cell 0
  have n1 := hN.cell 1
  have n2 := hN.cell 2
  have x0 := hXa.cell 0
  have x1 := hXa.cell 1
  have x2 := hXa.cell 2
  go_wp2_with fail
  refine (open_any k1 k2 n _ _ head b' T.1 T.2 (by rw [← HH.out]; omega) (by rw [HL'.out]; omega) _ (hh1.kept hk0) st2).mono ?_
  rintro e w7 ⟨u7, rfl, _, hk7⟩
  rw [← HOK.out]
  replace hKe := hKe.kept hk7
  replace hN := hN.kept hk7
  replace hk0 := Kept.of hk0 hk7
  clear hk7 hXa st2
  clear q0 q1 n0 n1 n2
  clear x0 x1 x2
  have q0 := hKe.cell 0
  have q1 := hKe.cell 1
  have n0 := hN.cell 0
  have n1 := hN.cell 1
  have n2 := hN.cell 2
  go_wp2_with fail
  refine (rseal_any _ _ n _ _ head data (by rw [← HH.out]; omega) (by rw [← HD.out]; omega) _ (hh1.kept hk0) (hd1.kept hk0)).mono ?_
  rintro e w8 ⟨ub, rfl, ob, hk8⟩
  rw [← HD.out] at ob
  rw [← HT.out]
  rw [← HC.out] at ob
  obtain ⟨ab, cb, he⟩ := (Sl.of_own ob).len
  subst he
  have hXb := Blk.new w8 #[.slice ab D cb, U T.1, U T.2] 30
  have hka : Kept w8 (w8.alloc (.cells #[.slice ab D cb, U T.1, U T.2] 30)) := (Below.refl _ _).alloc (Nat.le_refl _) _
  have sb := Sl.of_own ob
  replace hKe := hKe.kept hk8
  replace hN := hN.kept hk8
  replace hk0 := Kept.of hk0 hk8
  clear hk8 hka hXb
  clear q0 q1 n0 n1 n2
  have hbT : tag2 (sub2 (k1, k2) n) head C = T := by rw [HT.out, HC.out]; rfl
  have hbw := turned_word T.1 by_ HBY.out
  have hbw2 := turned_word T.2 by_ HBY.out
  have HBT := Lib.hid hbT
  have HB1 := Lib.hid hbw
  have HB2 := Lib.hid hbw2
  clear hbT hbw hbw2 ob
  rcases and_one at_ with hb1 | hb1
  · have hka : Kept w8 (w8.alloc (.cells #[.slice ab D cb, U (T.1 ^^^ BitVec.ofNat 64 by_.toNat), U (T.2)] 30)) := (Below.refl _ _).alloc (Nat.le_refl _) _
    have hno : openK (k1, k2) n head C (T.1 ^^^ BitVec.ofNat 64 by_.toNat, T.2) = false := by
      unfold openK
      rw [HBT.out, beq_eq_false_iff_ne]
      intro e
      exact HB1.out (congrArg Prod.fst e).symm
    have HNO := Lib.hid hno
    clear hno
    have hXb := Blk.new w8 #[.slice ab D cb, U (T.1 ^^^ BitVec.ofNat 64 by_.toNat), U (T.2)] 30
    replace hKe := hKe.kept hka
    replace hN := hN.kept hka
    replace sb := sb.kept hka
    replace hk0 := Kept.of hk0 hka
    clear hka
    have q0 := hKe.cell 0
    have q1 := hKe.cell 1
    have n0 := hN.cell 0
    have n1 := hN.cell 1
    have n2 := hN.cell 2
    have y0 := hXb.cell 0
    have y1 := hXb.cell 1
    have y2 := hXb.cell 2
    go_wp2_with fail
    refine (open_any k1 k2 n _ _ head C (T.1 ^^^ BitVec.ofNat 64 by_.toNat) (T.2) (by rw [← HH.out]; omega) (by rw [HCL.out]; omega) _ (hh1.kept hk0) (by rw [HCL.out]; exact sb)).mono ?_
    rintro e w9 ⟨u9, rfl, _, hk9⟩
    rw [HNO.out]
    replace hk0 := Kept.of hk0 hk9
    clear hk9
    go_wp2_with fail
    refine (known_any _).mono ?_
    rintro e w10 ⟨rfl, hk10⟩
    go_wp2
    go_ret
    exact ⟨rfl, Kept.of hk0 hk10⟩
  · have hka : Kept w8 (w8.alloc (.cells #[.slice ab D cb, U (T.1), U (T.2 ^^^ BitVec.ofNat 64 by_.toNat)] 30)) := (Below.refl _ _).alloc (Nat.le_refl _) _
    have hno : openK (k1, k2) n head C (T.1, T.2 ^^^ BitVec.ofNat 64 by_.toNat) = false := by
      unfold openK
      rw [HBT.out, beq_eq_false_iff_ne]
      intro e
      exact HB2.out (congrArg Prod.snd e).symm
    have HNO := Lib.hid hno
    clear hno
    have hXb := Blk.new w8 #[.slice ab D cb, U (T.1), U (T.2 ^^^ BitVec.ofNat 64 by_.toNat)] 30
    replace hKe := hKe.kept hka
    replace hN := hN.kept hka
    replace sb := sb.kept hka
    replace hk0 := Kept.of hk0 hka
    clear hka
    have q0 := hKe.cell 0
    have q1 := hKe.cell 1
    have n0 := hN.cell 0
    have n1 := hN.cell 1
    have n2 := hN.cell 2
    have y0 := hXb.cell 0
    have y1 := hXb.cell 1
    have y2 := hXb.cell 2
    go_wp2_with fail
    refine (open_any k1 k2 n _ _ head C (T.1) (T.2 ^^^ BitVec.ofNat 64 by_.toNat) (by rw [← HH.out]; omega) (by rw [HCL.out]; omega) _ (hh1.kept hk0) (by rw [HCL.out]; exact sb)).mono ?_
    rintro e w9 ⟨u9, rfl, _, hk9⟩
    rw [HNO.out]
    replace hk0 := Kept.of hk0 hk9
    clear hk9
    go_wp2_with fail
    refine (known_any _).mono ?_
    rintro e w10 ⟨rfl, hk10⟩
    go_wp2
    go_ret
    exact ⟨rfl, Kept.of hk0 hk10⟩

set_option maxRecDepth 100000 in
set_option maxHeartbeats 8000000 in
theorem turned_n0 (k1 k2 : BitVec 64) (n : Nn) (vh vd : Value) (head data : List UInt8) (at_ : Int) (by_ : UInt8) (h1 : 100 < head.length) (w : World) (hh : Sl w vh head.length (bcells head)) (hd : Sl w vd data.length (bcells data)) : Calls Try.prog 6 #[.agg #[U k1, U k2], n.val, vh, vd, .int .i64 at_, V8 by_] w fun e w' => e = .returned (.bool true) ∧ Kept w w' := by
  obtain ⟨ha, hc, hv⟩ := hh.len
  subst hv
  obtain ⟨da, dc, hv⟩ := hd.len
  subst hv
  generalize head.length = H at *
  generalize data.length = D at *
  have f0 : 100 < (H : Int) := by omega
  clear hh hd
  unfold Nn.val
  go_enter Try.func6, Try.ntmps6
  go_wp2
  go_ret
  exact ⟨rfl, (((Below.refl _ _).alloc (Nat.le_refl _) _).alloc (by simp) _)⟩

set_option maxRecDepth 100000 in
set_option maxHeartbeats 8000000 in
theorem turned_n1 (k1 k2 : BitVec 64) (n : Nn) (vh vd : Value) (head data : List UInt8) (at_ : Int) (by_ : UInt8) (h1 : ¬ 100 < head.length) (h2 : data.length < 1) (w : World) (hh : Sl w vh head.length (bcells head)) (hd : Sl w vd data.length (bcells data)) : Calls Try.prog 6 #[.agg #[U k1, U k2], n.val, vh, vd, .int .i64 at_, V8 by_] w fun e w' => e = .returned (.bool true) ∧ Kept w w' := by
  obtain ⟨ha, hc, hv⟩ := hh.len
  subst hv
  obtain ⟨da, dc, hv⟩ := hd.len
  subst hv
  generalize head.length = H at *
  generalize data.length = D at *
  have f0 : ¬ 100 < (H : Int) := by omega
  have f1 : (D : Int) < 1 := by omega
  have f2 : D = 0 := by omega
  clear hh hd
  unfold Nn.val
  go_enter Try.func6, Try.ntmps6
  go_wp2
  go_ret
  exact ⟨rfl, (((Below.refl _ _).alloc (Nat.le_refl _) _).alloc (by simp) _)⟩

set_option maxRecDepth 100000 in
set_option maxHeartbeats 8000000 in
theorem turned_n2 (k1 k2 : BitVec 64) (n : Nn) (vh vd : Value) (head data : List UInt8) (at_ : Int) (by_ : UInt8) (h1 : ¬ 100 < head.length) (h2 : ¬ data.length < 1) (h3 : 100 < data.length) (w : World) (hh : Sl w vh head.length (bcells head)) (hd : Sl w vd data.length (bcells data)) : Calls Try.prog 6 #[.agg #[U k1, U k2], n.val, vh, vd, .int .i64 at_, V8 by_] w fun e w' => e = .returned (.bool true) ∧ Kept w w' := by
  obtain ⟨ha, hc, hv⟩ := hh.len
  subst hv
  obtain ⟨da, dc, hv⟩ := hd.len
  subst hv
  generalize head.length = H at *
  generalize data.length = D at *
  have f0 : ¬ 100 < (H : Int) := by omega
  have f1 : ¬ (D : Int) < 1 := by omega
  have f2 : ¬ D = 0 := by omega
  have f3 : 100 < (D : Int) := by omega
  clear hh hd
  unfold Nn.val
  go_enter Try.func6, Try.ntmps6
  go_wp2
  go_ret
  exact ⟨rfl, (((Below.refl _ _).alloc (Nat.le_refl _) _).alloc (by simp) _)⟩

set_option maxRecDepth 100000 in
set_option maxHeartbeats 8000000 in
theorem turned_n3 (k1 k2 : BitVec 64) (n : Nn) (vh vd : Value) (head data : List UInt8) (at_ : Int) (by_ : UInt8) (h1 : ¬ 100 < head.length) (h2 : ¬ data.length < 1) (h3 : ¬ 100 < data.length) (h4 : by_ = 0) (w : World) (hh : Sl w vh head.length (bcells head)) (hd : Sl w vd data.length (bcells data)) : Calls Try.prog 6 #[.agg #[U k1, U k2], n.val, vh, vd, .int .i64 at_, V8 by_] w fun e w' => e = .returned (.bool true) ∧ Kept w w' := by
  obtain ⟨ha, hc, hv⟩ := hh.len
  subst hv
  obtain ⟨da, dc, hv⟩ := hd.len
  subst hv
  generalize head.length = H at *
  generalize data.length = D at *
  have f0 : ¬ 100 < (H : Int) := by omega
  have f1 : ¬ (D : Int) < 1 := by omega
  have f2 : ¬ D = 0 := by omega
  have f3 : ¬ 100 < (D : Int) := by omega
  have f4 : (by_ == 0) = true := by simpa using h4
  clear hh hd
  unfold Nn.val
  go_enter Try.func6, Try.ntmps6
  go_wp2
  go_ret
  exact ⟨rfl, (((Below.refl _ _).alloc (Nat.le_refl _) _).alloc (by simp) _)⟩

theorem turned_walk (k1 k2 : BitVec 64) (n : Nn) (vh vd : Value) (head data : List UInt8) (at_ : Int) (by_ : UInt8) (w : World) (hh : Sl w vh head.length (bcells head)) (hd : Sl w vd data.length (bcells data)) : Calls Try.prog 6 #[.agg #[U k1, U k2], n.val, vh, vd, .int .i64 at_, V8 by_] w fun e w' => e = .returned (.bool true) ∧ Kept w w' := by
  by_cases h1 : 100 < head.length
  · exact turned_n0 k1 k2 n vh vd head data at_ by_ h1 w hh hd
  by_cases h2 : data.length < 1
  · exact turned_n1 k1 k2 n vh vd head data at_ by_ h1 h2 w hh hd
  by_cases h3 : 100 < data.length
  · exact turned_n2 k1 k2 n vh vd head data at_ by_ h1 h2 h3 w hh hd
  by_cases h4 : by_ = 0
  · exact turned_n3 k1 k2 n vh vd head data at_ by_ h1 h2 h3 h4 w hh hd
  · exact turned_in k1 k2 n vh vd head data at_ by_ (by omega) (by omega) (by omega) h4 w hh hd

namespace gcmTurnedRow
open Go.ChangeShapes Go.WideShapes Go.ChangeAt Go.RowKit
theorem own : ownKnob Try.prog.godebug = none := by kernel_rfl
theorem laidOut : laidOutB Try.prog = true := by kernel_rfl

set_option maxRecDepth 100000 in
theorem lifted (os : Os) (started : os.Started) (H : Type) (enc : TypeId × Value → H) :
    ReturnsInHanded {} Try.checked os 6 .any (Rows.gcmTurnedSpec.pre6 enc Try.prog Try.f6 Rows.gcmTurnedRow.domain false) (Rows.gcmTurnedSpec.post enc Try.prog Try.f6 false true false false) := by
  refine returnsInHanded_of_change (C := Try.checked) own started (by kernel_rfl) Try.func6
    (ChangeSpec.witness6 (enc := enc) (C := Try.checked) false ⟨#[], #[.agg #[.int .u64 0, .int .u64 0], .agg #[.int .u32 0, .int .u32 0, .int .u64 0], .slice none 0 0, .slice none 0 0, .int .i64 0, .int .u8 0], []⟩ 8 (by kernel_rfl) (by kernel_rfl) (by kernel_rfl) (by kernel_rfl)) ?_
  intro W base args ds gs before hval0 hW _ hsz
  have hval : ∀ (j : Nat) t v, Try.f6.params[j]? = some t → args[j]? = some v → Value.okWide Try.prog W .any base t v := hval0
  have hW' := hW
  obtain ⟨p, q, hA0, hV, rfl, hfz, hnd⟩ := hW
  have hA : DataW.TrodAll enc Try.prog W 0 (fun _ => true) true Try.f6.params.toList args.toList ds p := hA0
  rw [Try.params6] at hA hval
  obtain ⟨v0, vs0, d0, ds0, p0, q0, hargs, rfl, rfl, h0, r0⟩ := trodAll_cons hA
  obtain ⟨v1, vs1, d1, ds1, p1, q1, rfl, rfl, rfl, h1, r1⟩ := trodAll_cons r0
  obtain ⟨v2, vs2, d2, ds2, p2, q2, rfl, rfl, rfl, h2, r2⟩ := trodAll_cons r1
  obtain ⟨v3, vs3, d3, ds3, p3, q3, rfl, rfl, rfl, h3, r3⟩ := trodAll_cons r2
  obtain ⟨v4, vs4, d4, ds4, p4, q4, rfl, rfl, rfl, h4, r4⟩ := trodAll_cons r3
  obtain ⟨v5, vs5, d5, ds5, p5, q5, rfl, rfl, rfl, h5, r5⟩ := trodAll_cons r4
  obtain ⟨rfl, rfl, rfl⟩ := trodAll_nil r5
  obtain rfl : args = #[v0, v1, v2, v3, v4, v5] := by cases args; simp_all
  obtain ⟨a0, rfl⟩ := open_pair (e := 22) Try.underlying24 Try.underlying22 (by kernel_rfl) (by kernel_rfl) (hval 0 24 v0 rfl rfl) h0
  obtain ⟨a1, rfl⟩ := open_nonce (H := H) (hval 1 27 v1 rfl rfl) h1
  obtain ⟨a2b, a2⟩ := open_bytes (e := 5) Try.underlying28 Try.underlying5 (by kernel_rfl) (hval 2 28 v2 rfl rfl) h2
  obtain ⟨a3b, a3⟩ := open_bytes (e := 5) Try.underlying28 Try.underlying5 (by kernel_rfl) (hval 3 28 v3 rfl rfl) h3
  obtain ⟨a4, rfl, lo4, hi4⟩ := open_I Try.underlying3 (hval 4 3 v4 rfl rfl) h4
  obtain ⟨a5, rfl⟩ := open_V8 Try.underlying5 (hval 5 5 v5 rfl rfl) h5
  refine (turned_walk a0.1 a0.2 a1 v2 v3 a2b a3b a4 a5 W a2 a3).mono fun e W' ⟨he, bel⟩ => ?_
  subst he
  exact ⟨_, rfl, law_post (tb := 4) laidOut (by kernel_rfl) Try.underlying4 (by rfl) rfl (by intro xs hxs; match xs, hxs with | [x0, x1, x2, x3, x4, x5], _ => rfl) hW' bel⟩

theorem over : Rows.gcmTurnedRow.holds Try.pinned (OpenSpec.ofChange Rows.gcmTurnedSpec) :=
  OpenClaim.holds_of_wide 6 Try.f6 rfl rfl rfl rfl rfl rfl rfl ⟨rfl, rfl, rfl, rfl, rfl⟩ rfl rfl rfl rfl rfl (by kernel_rfl) Try.func6 (by kernel_rfl)
    (of_decide_eq_true (by kernel_rfl)) (by unfold Func.isWrapper; rw [if_neg (of_decide_eq_false (by kernel_rfl))]; exact ⟨rfl, rfl⟩)
    (fun os started H enc _ => lifted os started H enc)
end gcmTurnedRow

theorem gcmTurned_holds : Rows.GcmTurnedSaid := gcmTurnedRow.over
#print axioms gcmTurned_holds

end Go.Proofs.Ytlbogmpfjkendaa
