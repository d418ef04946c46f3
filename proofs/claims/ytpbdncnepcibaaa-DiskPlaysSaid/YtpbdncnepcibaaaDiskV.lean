/- Write. -/
import Derived.Test.YtpbdncnepcibaaaDiskW
namespace Go.Proofs.Ytpbdncnepcibaaa
open Go Go.RowKit

set_option maxRecDepth 100000 in
set_option maxHeartbeats 4000000 in
theorem disk_write_no (A : Nat → Prop) (K b : Nat) (d : Dk) (m : Nat) (w : World) (h : DkAt A w K b d) (ok : d.ok m) (off : Int) (a : Option Addr) (L c : Nat) (hL : L ≤ 1000000) (hn : isD off = false) : Calls Try.prog 9 #[.pointer (some ⟨K, 0, none⟩), .int .i64 off, .slice a L c] w fun e w' => e = .returned (.bool false) ∧ w = w' := by
  obtain ⟨ls, vw, vt, us, ut, X, O, hA⟩ := h
  have hll : ls.length = 32 := by rw [X.lst.len, ok.len]
  have c4 := X.blk.cell 35
  rw [dcells_35 hll] at c4
  clear hll
  go_enter Try.func9, Try.ntmps9
  go_wp2_with fail
  refine (disk_is K off _).mono ?_
  rintro e w1 ⟨rfl, rfl⟩
  rw [hn]
  go_wp2
  go_ret
  exact ⟨rfl, rfl⟩

set_option maxRecDepth 100000 in
set_option maxHeartbeats 4000000 in
theorem disk_write_len (A : Nat → Prop) (K b : Nat) (d : Dk) (m : Nat) (w : World) (h : DkAt A w K b d) (ok : d.ok m) (off : Int) (a : Option Addr) (L c : Nat) (hL : L ≤ 1000000) (hn : isD off = true) (hl : L ≠ 32) : Calls Try.prog 9 #[.pointer (some ⟨K, 0, none⟩), .int .i64 off, .slice a L c] w fun e w' => e = .returned (.bool false) ∧ w = w' := by
  obtain ⟨ls, vw, vt, us, ut, X, O, hA⟩ := h
  have hll : ls.length = 32 := by rw [X.lst.len, ok.len]
  have c4 := X.blk.cell 35
  rw [dcells_35 hll] at c4
  have i1 : ((L : Int) == 32) = false := by simp; omega
  have i2 : ¬ (L : Int) = 32 := by omega
  clear hll hl
  go_enter Try.func9, Try.ntmps9
  go_wp2_with fail
  refine (disk_is K off _).mono ?_
  rintro e w1 ⟨rfl, rfl⟩
  rw [hn]
  go_wp2
  go_ret
  exact ⟨rfl, rfl⟩

set_option maxRecDepth 100000 in
set_option maxHeartbeats 4000000 in
theorem disk_write_ref (A : Nat → Prop) (K b : Nat) (d : Dk) (m : Nat) (w : World) (h : DkAt A w K b d) (ok : d.ok m) (off : Int) (a : Option Addr) (L c : Nat) (hL : L ≤ 1000000) (hn : isD off = true) (hl : L = 32) (hr : d.no = true) : Calls Try.prog 9 #[.pointer (some ⟨K, 0, none⟩), .int .i64 off, .slice a L c] w fun e w' => e = .returned (.bool false) ∧ w = w' := by
  obtain ⟨ls, vw, vt, us, ut, X, O, hA⟩ := h
  have hll : ls.length = 32 := by rw [X.lst.len, ok.len]
  have c4 := X.blk.cell 35
  rw [dcells_35 hll] at c4
  subst hl
  rw [hr] at c4
  clear hll
  go_enter Try.func9, Try.ntmps9
  go_wp2_with fail
  refine (disk_is K off _).mono ?_
  rintro e w1 ⟨rfl, rfl⟩
  rw [hn]
  go_wp2
  go_ret
  exact ⟨rfl, rfl⟩

/-- a write, in what is known -/
def Dk.wrote (d : Dk) (r : Bool) (p' : Pw) (x : Wr) : Dk := if r then ⟨p', d.lasts, d.waits ++ [x], d.trace ++ [x], d.no⟩ else { d with p := p' }
theorem sl_ops : SlT Try.prog 37 61 2 32 (.agg #[.int .i64 0, .slice none 0 0]) := SlT.mk' Try.underlying37 (by kernel_rfl) rfl (by omega)
set_option maxRecDepth 100000 in
set_option maxHeartbeats 4000000 in
theorem disk_write (A : Nat → Prop) (K b : Nat) (d : Dk) (m : Nat) (hm : m ≤ 1000) (w : World) (h : DkAt A w K b d) (ok : d.ok m) (hno : d.no = false) (off : Int) (u : Value) (bs : List UInt8) (hn : isD off = true) (hl : bs.length = 32) (hs : Sl w u bs.length (bcells bs)) (hu : ∀ a c, u = .slice (some a) bs.length c → 0 < (bcells bs).length → A a.block) (r : Bool) (p' : Pw) (hsp : d.p.spend = (r, p')) :
    Calls Try.prog 9 #[.pointer (some ⟨K, 0, none⟩), .int .i64 off, u] w fun e w' => e = .returned (.bool r) ∧ DkAt A w' K b (d.wrote r p' (off, bs)) ∧ SameOn A w w' := by
  obtain ⟨a, c, he⟩ := hs.len
  subst he
  obtain ⟨ls, vw, vt, us, ut, X, O, hA⟩ := h
  have hll : ls.length = 32 := by rw [X.lst.len, ok.len]
  have c4 := X.blk.cell 35
  rw [dcells_35 hll, hno] at c4
  have c0 := X.blk.cell 0
  rw [dcells_0] at c0
  have hbl : bs.length ≤ 65536 := by omega
  have i2 : (bs.length : Int) = 32 := by omega
  have i1 : ((bs.length : Int) == 32) = true := by simp; omega
  have i3 : ((bs.length : Int) != 32) = false := by simp; omega
  have hok : d.p.ok 9223372036854775806 := ok_mono ok.pw (by omega)
  have HLL := Lib.hid hll
  have HL := Lib.hid hl
  have HI := Lib.hid i2
  clear hl i2 hll
  go_enter Try.func9, Try.ntmps9
  go_wp2_with fail
  refine (disk_is K off _).mono ?_
  rintro e w1 ⟨rfl, rfl⟩
  rw [hn]
  go_wp2_with fail
  refine (power_spend_to b d.p p' r _ X.pw hok hsp).mono ?_
  rintro e w1 ⟨rfl, p1, g1⟩
  have g1 := Chg.of_grown g1
  have X1 := X.power g1 p1
  have hs1 := (O.same g1).sl hs hu
  have hsm1 := O.same g1
  cases r
  · go_wp2
    go_ret
    exact ⟨rfl, ⟨ls, vw, vt, us, ut, X1, O, fun k ha => Nat.lt_of_lt_of_le (hA k ha) g1.size⟩, hsm1⟩
  · obtain ⟨wa, wc, hve⟩ := X1.wts.slice
    subst hve
    obtain ⟨ta, tc, hve⟩ := X1.trc.slice
    subst hve
    have hfw := ok.few
    have hft := ok.done
    have hll := HLL.out
    have hsl := hs1
    clear c0 c4 i1 i3
    go_wp2_with fail
    have hKv : K ∉ (Value.slice wa d.waits.length wc).ownBlock.toList := not_own X1.wts.row X1.blk (by decide)
    have hKc : w1.cell? ⟨K, 33, none⟩ = some (Value.slice wa d.waits.length wc) := by
      have := X1.blk.cell 33
      rwa [dcells_33 hll] at this
    have hlw : ∀ g, (Value.slice wa d.waits.length wc).ownBlock = some g → g < w1.heap.size := fun g hg => own_ltV X1.wts.row hg
    refine wp_region_chainChg ((Value.slice wa d.waits.length wc).ownBlock.toList) [(0, 0), (1, 0), (2, 0), (3, 0), (4, 0), (5, 0), (6, 0), (7, 1), (8, 0), (9, 1), (10, 1), (11, 2), (12, 2), (13, 2)] (by kernel_rfl) (by kernel_rfl) ?_
    intro wp1 hwp1
    repeat
      refine chain_light _ rfl (fun K hK => ?_)
      first
        | (refine (if_pos (by rfl)).mpr ?_; apply Exists.intro; refine ⟨fun w' hw' => ?_, hK _ ?_⟩; (have kc := hw'.cell (hwp1.at hKc) hKv; go_simp; done); (clear hK K; simp only [Act.put, List.setIfInBounds_toArray, List.set_cons_zero, List.set_cons_succ]))
        | (refine (if_pos (by rfl)).mpr ?_; apply Exists.intro; refine ⟨fun w' hw' => ?_, hK _ ?_⟩; (have kc := hw'.cell (hwp1.at hKc) hKv; go_simp; rfl); (clear hK K; simp only [Act.put, List.setIfInBounds_toArray, List.set_cons_zero, List.set_cons_succ]))
        | (refine (if_neg (by rw [Bool.not_eq_true]; rfl)).mpr ?_; refine hK _ ?_; (clear hK K; simp only [Act.put, List.setIfInBounds_toArray, List.set_cons_zero, List.set_cons_succ]))
    refine chain_heavy _ rfl (fun K hK => ?_)
    refine (if_pos (by rfl)).mpr ?_
    go_wp2_with fail
    refine (clone_any _ bs (by omega) _ (hsl.kept hwp1)).mono ?_
    rintro e wp2 ⟨vp, rfl, hop, hkp2⟩
    obtain ⟨ap, cp, hve⟩ := (Sl.of_own hop).len
    subst hve
    go_wp2
    refine hK _ _ (Chg.of_kept hkp2) ?_
    clear hK K
    try simp only [Act.put, List.setIfInBounds_toArray, List.set_cons_zero, List.set_cons_succ]
    repeat
      refine chain_light _ rfl (fun K hK => ?_)
      first
        | (refine (if_pos (by rfl)).mpr ?_; apply Exists.intro; refine ⟨fun w' hw' => ?_, hK _ ?_⟩; (go_simp; done); (clear hK K; simp only [Act.put, List.setIfInBounds_toArray, List.set_cons_zero, List.set_cons_succ]))
        | (refine (if_pos (by rfl)).mpr ?_; apply Exists.intro; refine ⟨fun w' hw' => ?_, hK _ ?_⟩; (go_simp; rfl); (clear hK K; simp only [Act.put, List.setIfInBounds_toArray, List.set_cons_zero, List.set_cons_succ]))
        | (refine (if_neg (by rw [Bool.not_eq_true]; rfl)).mpr ?_; refine hK _ ?_; (clear hK K; simp only [Act.put, List.setIfInBounds_toArray, List.set_cons_zero, List.set_cons_succ]))
    refine chain_heavy _ rfl (fun K hK => ?_)
    refine (if_pos (by rfl)).mpr ?_
    go_wp2
    refine hK _ _ (Chg.of_kept ((Below.refl _ _).alloc (Nat.le_refl _) _)) ?_
    clear hK K
    try simp only [Act.put, List.setIfInBounds_toArray, List.set_cons_zero, List.set_cons_succ]
    refine chain_heavy _ rfl (fun K hK => ?_)
    refine (if_pos (by rfl)).mpr ?_
    have hro := (own_kept (own_kept X1.wts.row hwp1) hkp2).alloc (.cells #[.int .i64 off, .slice ap bs.length cp] 61)
    refine wp_append3 sl_ops (by rfl) (by rfl) (by rfl) hro (Sl.lit _ #[.int .i64 off, .slice ap bs.length cp] _ 1 (by decide)) (by rfl) (by intro u hu; simp at hu; rcases hu with rfl | rfl <;> rfl) (by show d.waits.length + 1 ≤ maxLen; unfold maxLen; omega) (by show (d.waits.length + 1) * 32 ≤ 140737488355328; omega) (Nat.zero_le _) ?_
    intro vp wp3 hownp hgrp hatp _
    obtain ⟨gp, capp, hve⟩ := own_some hownp (by omega)
    subst hve
    have hobp := own_kept hop (((Below.refl _ _).alloc (Nat.le_refl _) (.cells #[.int .i64 off, .slice ap bs.length cp] 61)) : Kept wp2 _)
    have ckp : Chg (Value.slice wa d.waits.length wc).ownBlock.toList w1 wp3 := (Chg.of_kept (Kept.of hwp1 hkp2)).trans ((Chg.of_kept ((Below.refl _ _).alloc (Nat.le_refl _) _)).trans hgrp.chgL)
    refine hK _ _ (hgrp.chgL) ?_
    clear hK K
    try simp only [Act.put, List.setIfInBounds_toArray, List.set_cons_zero, List.set_cons_succ]
    refine chain_last _ rfl (fun K hK => ?_)
    refine (if_pos (by rfl)).mpr ?_
    go_wp2
    refine chain_last _ rfl (fun K hK => ?_)
    refine (if_pos (by rfl)).mpr ?_
    go_wp2
    refine chain_last _ rfl (fun K hK => ?_)
    refine (if_pos (by rfl)).mpr ?_
    have hb5 := ckp.blk X1.blk hKv
    have fK := hb5.free 33
    have eK := hb5.cell 33
    rw [dcells_33 hll] at eK
    go_wp2
    refine chain_nil ?_
    have hz1 := hwp1.size
    have hz2 := hkp2.size
    have hbg : ∀ g, (Value.slice ap bs.length cp).ownBlock = some g → w1.heap.size ≤ g := fun g hg => Nat.le_trans hz1 (own_geV hop hg)
    have hu6 := own_base (own_chgV hobp hgrp.chgL fun g hg hm => by
      have := hbg g hg
      have := hlw g (mem_own.1 hm)
      omega) hz1
    have hv6 : ∀ g, (Value.slice (some ⟨gp, 0, none⟩) (d.waits.length + 1) capp).ownBlock = some g → (Value.slice wa d.waits.length wc).ownBlock = some g ∨ w1.heap.size ≤ g := fun g hg => by
      rcases hatp with e | e
      · left; rw [← e]; exact hg
      · right
        have h2 : some g = some ((wp2.alloc (.cells #[.int .i64 off, .slice ap bs.length cp] 61)).heap.size) := hg.symm.trans e
        have h3 := Option.some.inj h2
        have : (wp2.alloc (.cells #[.int .i64 off, .slice ap bs.length cp] 61)).heap.size = wp2.heap.size + 1 := by simp
        omega
    have X3 := DkIn.pushW (x := (off, bs)) X1 hll ckp hownp hu6 hv6
    have hqK : Chg [K] wp3 (wp3.setCell ⟨K, 33, none⟩ (.slice (some ⟨gp, 0, none⟩) (d.waits.length + 1) capp)) := Chg.step (by simp) _
    have hst := (O.sameW ckp).trans (O.sameK hqK)
    
    have hA1 : ∀ k, A k → k < w1.heap.size := fun k ha => by
      have := hA k ha; have := g1.size; omega
    have O2 := O.setW hA1 hv6 hbg
    replace hsl := hst.sl hsl hu
    have hsz2 := hst.size
    replace hst := hsm1.trans hst
    have hbnd : bs.length ≤ 65536 := hbl
    clear hqK ckp hu6 hv6 hbg hownp hatp hgrp hobp hop hkp2 hwp1 hz1 hz2 hKc hlw hKv fK eK hb5
    go_wp2_with fail
    generalize (wp3.setCell ⟨K, 33, none⟩ (.slice (some ⟨gp, 0, none⟩) (d.waits.length + 1) capp)) = w4 at *
    have hst0 := hst
    have hKv : K ∉ (Value.slice ta d.trace.length tc).ownBlock.toList := not_own X3.trc.row X3.blk (by decide)
    have hKc : w4.cell? ⟨K, 34, none⟩ = some (Value.slice ta d.trace.length tc) := by
      have := X3.blk.cell 34
      rwa [dcells_34 hll] at this
    have hlw : ∀ g, (Value.slice ta d.trace.length tc).ownBlock = some g → g < w4.heap.size := fun g hg => own_ltV X3.trc.row hg
    refine wp_region_chainChg ((Value.slice ta d.trace.length tc).ownBlock.toList) [(0, 0), (1, 0), (2, 0), (3, 0), (4, 0), (5, 0), (6, 0), (7, 1), (8, 0), (9, 1), (10, 1), (11, 2), (12, 2), (13, 2)] (by kernel_rfl) (by kernel_rfl) ?_
    intro wq1 hwq1
    repeat
      refine chain_light _ rfl (fun K hK => ?_)
      first
        | (refine (if_pos (by rfl)).mpr ?_; apply Exists.intro; refine ⟨fun w' hw' => ?_, hK _ ?_⟩; (have kc := hw'.cell (hwq1.at hKc) hKv; go_simp; done); (clear hK K; simp only [Act.put, List.setIfInBounds_toArray, List.set_cons_zero, List.set_cons_succ]))
        | (refine (if_pos (by rfl)).mpr ?_; apply Exists.intro; refine ⟨fun w' hw' => ?_, hK _ ?_⟩; (have kc := hw'.cell (hwq1.at hKc) hKv; go_simp; rfl); (clear hK K; simp only [Act.put, List.setIfInBounds_toArray, List.set_cons_zero, List.set_cons_succ]))
        | (refine (if_neg (by rw [Bool.not_eq_true]; rfl)).mpr ?_; refine hK _ ?_; (clear hK K; simp only [Act.put, List.setIfInBounds_toArray, List.set_cons_zero, List.set_cons_succ]))
    refine chain_heavy _ rfl (fun K hK => ?_)
    refine (if_pos (by rfl)).mpr ?_
    go_wp2_with fail
    refine (clone_any _ bs (by omega) _ (hsl.kept hwq1)).mono ?_
    rintro e wq2 ⟨vq, rfl, hoq, hkq2⟩
    obtain ⟨aq, cq, hve⟩ := (Sl.of_own hoq).len
    subst hve
    go_wp2
    refine hK _ _ (Chg.of_kept hkq2) ?_
    clear hK K
    try simp only [Act.put, List.setIfInBounds_toArray, List.set_cons_zero, List.set_cons_succ]
    repeat
      refine chain_light _ rfl (fun K hK => ?_)
      first
        | (refine (if_pos (by rfl)).mpr ?_; apply Exists.intro; refine ⟨fun w' hw' => ?_, hK _ ?_⟩; (go_simp; done); (clear hK K; simp only [Act.put, List.setIfInBounds_toArray, List.set_cons_zero, List.set_cons_succ]))
        | (refine (if_pos (by rfl)).mpr ?_; apply Exists.intro; refine ⟨fun w' hw' => ?_, hK _ ?_⟩; (go_simp; rfl); (clear hK K; simp only [Act.put, List.setIfInBounds_toArray, List.set_cons_zero, List.set_cons_succ]))
        | (refine (if_neg (by rw [Bool.not_eq_true]; rfl)).mpr ?_; refine hK _ ?_; (clear hK K; simp only [Act.put, List.setIfInBounds_toArray, List.set_cons_zero, List.set_cons_succ]))
    refine chain_heavy _ rfl (fun K hK => ?_)
    refine (if_pos (by rfl)).mpr ?_
    go_wp2
    refine hK _ _ (Chg.of_kept ((Below.refl _ _).alloc (Nat.le_refl _) _)) ?_
    clear hK K
    try simp only [Act.put, List.setIfInBounds_toArray, List.set_cons_zero, List.set_cons_succ]
    refine chain_heavy _ rfl (fun K hK => ?_)
    refine (if_pos (by rfl)).mpr ?_
    have hro := (own_kept (own_kept X3.trc.row hwq1) hkq2).alloc (.cells #[.int .i64 off, .slice aq bs.length cq] 61)
    refine wp_append3 sl_ops (by rfl) (by rfl) (by rfl) hro (Sl.lit _ #[.int .i64 off, .slice aq bs.length cq] _ 1 (by decide)) (by rfl) (by intro u hu; simp at hu; rcases hu with rfl | rfl <;> rfl) (by show d.trace.length + 1 ≤ maxLen; unfold maxLen; omega) (by show (d.trace.length + 1) * 32 ≤ 140737488355328; omega) (Nat.zero_le _) ?_
    intro vq wq3 hownq hgrq hatq _
    obtain ⟨gq, capq, hve⟩ := own_some hownq (by omega)
    subst hve
    have hobq := own_kept hoq (((Below.refl _ _).alloc (Nat.le_refl _) (.cells #[.int .i64 off, .slice aq bs.length cq] 61)) : Kept wq2 _)
    have ckq : Chg (Value.slice ta d.trace.length tc).ownBlock.toList w4 wq3 := (Chg.of_kept (Kept.of hwq1 hkq2)).trans ((Chg.of_kept ((Below.refl _ _).alloc (Nat.le_refl _) _)).trans hgrq.chgL)
    refine hK _ _ (hgrq.chgL) ?_
    clear hK K
    try simp only [Act.put, List.setIfInBounds_toArray, List.set_cons_zero, List.set_cons_succ]
    refine chain_last _ rfl (fun K hK => ?_)
    refine (if_pos (by rfl)).mpr ?_
    go_wp2
    refine chain_last _ rfl (fun K hK => ?_)
    refine (if_pos (by rfl)).mpr ?_
    go_wp2
    refine chain_last _ rfl (fun K hK => ?_)
    refine (if_pos (by rfl)).mpr ?_
    have hb5 := ckq.blk X3.blk hKv
    have fK := hb5.free 34
    have eK := hb5.cell 34
    rw [dcells_34 hll] at eK
    go_wp2
    refine chain_nil ?_
    have hz1 := hwq1.size
    have hz2 := hkq2.size
    have hbg : ∀ g, (Value.slice aq bs.length cq).ownBlock = some g → w4.heap.size ≤ g := fun g hg => Nat.le_trans hz1 (own_geV hoq hg)
    have hu6 := own_base (own_chgV hobq hgrq.chgL fun g hg hm => by
      have := hbg g hg
      have := hlw g (mem_own.1 hm)
      omega) hz1
    have hv6 : ∀ g, (Value.slice (some ⟨gq, 0, none⟩) (d.trace.length + 1) capq).ownBlock = some g → (Value.slice ta d.trace.length tc).ownBlock = some g ∨ w4.heap.size ≤ g := fun g hg => by
      rcases hatq with e | e
      · left; rw [← e]; exact hg
      · right
        have h2 : some g = some ((wq2.alloc (.cells #[.int .i64 off, .slice aq bs.length cq] 61)).heap.size) := hg.symm.trans e
        have h3 := Option.some.inj h2
        have : (wq2.alloc (.cells #[.int .i64 off, .slice aq bs.length cq] 61)).heap.size = wq2.heap.size + 1 := by simp
        omega
    have X4 := DkIn.pushT (x := (off, bs)) X3 hll ckq hownq (own_base hu6 (Nat.zero_le _)) hv6
    have hqK : Chg [K] wq3 (wq3.setCell ⟨K, 34, none⟩ (.slice (some ⟨gq, 0, none⟩) (d.trace.length + 1) capq)) := Chg.step (by simp) _
    have hst := (O.sameT ckq).trans (O.sameK hqK)
    
    have hA4 : ∀ k, A k → k < w4.heap.size := fun k ha => by
      have := hA1 k ha; omega
    have O4 := O2.setT hA4 hv6 hbg
    go_wp2
    go_ret
    exact ⟨rfl, ⟨ls, _, _, _, _, X4, O4, fun k ha => Nat.lt_of_lt_of_le (hA4 k ha) hst.size⟩, hst0.trans hst⟩


end Go.Proofs.Ytpbdncnepcibaaa
