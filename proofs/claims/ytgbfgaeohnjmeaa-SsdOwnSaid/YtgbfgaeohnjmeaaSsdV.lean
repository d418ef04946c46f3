/- New, and Write. -/
import Derived.Test.YtgbfgaeohnjmeaaSsdW
import Derived.Test.YtgbfgaeohnjmeaaSsdE
namespace Go.Proofs.Ytgbfgaeohnjmeaa
open Go Go.RowKit

set_option maxRecDepth 100000 in
set_option maxHeartbeats 4000000 in
theorem ssd_new (n : Nat) (h0 : 0 < n) (hn : n ≤ 65536) (b : Nat) (p : Pw) (A : Nat → Prop) (w : World) (hA : ∀ k, A k → k < w.heap.size) (hb : ¬ A b) (hp : PwAt w b p) : Calls Try.prog 7 #[.int .i64 n, .pointer (some ⟨b, 0, none⟩)] w fun e w' => ∃ K, e = .returned (.pointer (some ⟨K, 0, none⟩)) ∧ SdAt A w' K ⟨p, List.replicate n 0, [], []⟩ ∧ Kept w w' := by
  have i0 : ¬ (n : Int) < 0 := by omega
  have i1 : ¬ 65536 < (n : Int) := by omega
  have i2 : (0 : Int) ≤ (n : Int) := by omega
  have i3 : (n : Int) ≤ 65536 := by omega
  obtain ⟨Z, hZ⟩ : ∃ Z, Z = List.replicate n (0 : UInt8) := ⟨_, rfl⟩
  have hzl : Z.length = n := by rw [hZ]; simp
  have hmk : (Instr.makeSlice 22 (.int .i64 (n : Int)) (.int .i64 (n : Int))).run Try.prog w = .ok (.slice (some ⟨w.heap.size, 0, none⟩) n n) (w.alloc (.cells (bcells Z).toArray 5)) := by rw [hZ]; exact run_make_b (P := Try.prog) w sl_bytes .i64 .i64 n (by omega)
  rw [← hZ]
  have HZL := Lib.hid hzl
  clear hZ hzl
  go_enter Try.func7, Try.ntmps7
  go_wp2
  go_ret
  have hk : Kept w ((w.alloc (.cells (bcells Z).toArray 5)).alloc (.cells #[.pointer (some ⟨b, 0, none⟩), .slice (some ⟨w.heap.size, 0, none⟩) n n, .slice none 0 0, .slice none 0 0] 45)) := ((Below.refl _ _).alloc (Nat.le_refl _) _).alloc (by simp) _
  refine ⟨_, rfl, ⟨b, w.heap.size, n, [], .slice none 0 0, .slice none 0 0, [], [], ⟨?_, Blk.kept hp hk, ?_, by show Z.length + 0 = n; rw [HZL.out, Nat.add_zero], by unfold maxLen; omega, OpsAt.nil _, OpsAt.nil _, by simp, by simp, (by intro g hg; cases hg)⟩, ⟨?_, hb, ?_, (by intro g hg; cases hg), (by intro g hg; cases hg), by simp, by simp⟩, fun k ha => Nat.lt_of_lt_of_le (hA k ha) hk.size⟩, hk⟩
  · have := Blk.new (w.alloc (.cells (bcells Z).toArray 5)) #[.pointer (some ⟨b, 0, none⟩), .slice (some ⟨w.heap.size, 0, none⟩) n n, .slice none 0 0, .slice none 0 0] 45
    rw [show (w.alloc (.cells (bcells Z).toArray 5)).heap.size = w.heap.size + 1 by simp] at this
    show Blk _ _ #[_, .slice _ Z.length _, _, _] _
    rw [HZL.out]
    exact this
  · have := (Blk.new w (bcells Z).toArray 5).alloc (.cells #[.pointer (some ⟨b, 0, none⟩), .slice (some ⟨w.heap.size, 0, none⟩) n n, .slice none 0 0, .slice none 0 0] 45)
    simpa using this
  · intro ha; have := hA _ ha; omega
  · intro ha; have := hA _ ha; omega

set_option maxRecDepth 100000 in
set_option maxHeartbeats 4000000 in
theorem ssd_none (n : Int) (h : n < 0) (v : Value) (w : World) : Calls Try.prog 7 #[.int .i64 n, v] w fun e w' => e = .returned (.pointer none) ∧ w = w' := by
  go_enter Try.func7, Try.ntmps7
  go_wp2
  go_ret
  exact ⟨rfl, rfl⟩

set_option maxRecDepth 100000 in
set_option maxHeartbeats 4000000 in
theorem write_no (A : Nat → Prop) (K : Nat) (s : Sd) (n m : Nat) (hn : n ≤ 65536) (w : World) (h : SdAt A w K s) (ok : s.ok n m) (off : Int) (a : Option Addr) (L c : Nat) (hin : isB n off L = false) : Calls Try.prog 9 #[.pointer (some ⟨K, 0, none⟩), .int .i64 off, .slice a L c] w fun e w' => e = .returned (.bool false) ∧ w = w' := by
  obtain ⟨b, gl, cap, ex, vw, vt, us, ut, X, O, hA⟩ := h
  have c1 := X.blk.cell 1
  have hlen := ok.len
  rw [hlen] at c1
  go_enter Try.func9, Try.ntmps9
  go_wp2_with fail
  refine (is_any K _ n _ (by omega) off L _ c1).mono ?_
  rintro e w1 ⟨rfl, rfl⟩
  rw [hin]
  go_wp2
  go_ret
  exact ⟨rfl, rfl⟩

/-- a write's trace in what is known -/
def Sd.wrote (s : Sd) (r : Bool) (p' : Pw) (x : Wr) : Sd := if r then ⟨p', s.lasts, s.waits ++ [x], s.trace ++ [x]⟩ else { s with p := p' }
theorem isB_in {n : Nat} {x : Wr} (h : inB n x) : isB n x.1 x.2.length = true := by
  obtain ⟨h1, h2⟩ := h
  simp [isB]; omega

set_option maxRecDepth 100000 in
set_option maxHeartbeats 4000000 in
theorem write_yes (A : Nat → Prop) (K : Nat) (s : Sd) (n m : Nat) (hn : n ≤ 65536) (hm : m ≤ 1000) (w : World) (h : SdAt A w K s) (ok : s.ok n m) (off : Int) (u : Value) (bs : List UInt8) (hin : inB n (off, bs)) (hs : Sl w u bs.length (bcells bs)) (hu : ∀ a c, u = .slice (some a) bs.length c → 0 < (bcells bs).length → A a.block) (r : Bool) (p' : Pw) (hsp : s.p.spend = (r, p')) :
    Calls Try.prog 9 #[.pointer (some ⟨K, 0, none⟩), .int .i64 off, u] w fun e w' => e = .returned (.bool r) ∧ SdAt A w' K (s.wrote r p' (off, bs)) ∧ SameOn A w w' := by
  obtain ⟨a, c, he⟩ := hs.len
  subst he
  obtain ⟨b, gl, cap, ex, vw, vt, us, ut, X, O, hA⟩ := h
  have c1 := X.blk.cell 1
  have c0 := X.blk.cell 0
  have hlen := ok.len
  have hbl : bs.length ≤ 65536 := by have := hin.2; simp at this; omega
  have hok : s.p.ok 9223372036854775806 := ok_mono ok.pw (by omega)
  have hiB := isB_in hin
  rw [hlen] at c1
  have HL := Lib.hid hlen
  clear hlen
  go_enter Try.func9, Try.ntmps9
  go_wp2_with fail
  refine (is_any K _ n _ (by omega) off bs.length _ c1).mono ?_
  rintro e w1 ⟨rfl, rfl⟩
  rw [hiB]
  have HIB := Lib.hid hiB
  clear hiB
  go_wp2_with fail
  refine (power_spend_to b s.p p' r _ X.pw hok hsp).mono ?_
  rintro e w1 ⟨rfl, p1, g1⟩
  have g1 := Chg.of_grown g1
  have X1 := X.power g1 p1
  have hs1 := (O.same g1).sl hs hu
  have hsm1 := O.same g1
  cases r
  · go_wp2
    go_ret
    exact ⟨rfl, ⟨b, gl, cap, ex, vw, vt, us, ut, X1, O, fun k ha => Nat.lt_of_lt_of_le (hA k ha) g1.size⟩, hsm1⟩
  · obtain ⟨wa, wc, hve⟩ := X1.wts.slice
    subst hve
    obtain ⟨ta, tc, hve⟩ := X1.trc.slice
    subst hve
    have hka : Kept w1 (w1.alloc (.cells #[.int .i64 off, .slice a bs.length c] 42)) := (Below.refl _ _).alloc (Nat.le_refl _) _
    have hbx := Blk.new w1 #[.int .i64 off, .slice a bs.length c] 42
    have X2 := X1.kept hka
    have hsl := hs1.kept hka
    have low1 := X1.low
    have hbv : w1.heap.size ∉ (Value.slice wa s.waits.length wc).ownBlock.toList := fun h => by
      have := (X1.low).2.2.2.1 _ (mem_own.1 h); omega
    have hfw := ok.few
    have hft := ok.done
    have hsz1 : w1.heap.size ≤ (w1.alloc (.cells #[.int .i64 off, .slice a bs.length c] 42)).heap.size := hka.size
    clear c0 c1
    go_wp2_with fail
    generalize (w1.alloc (.cells #[.int .i64 off, .slice a bs.length c] 42)) = w2 at *
    have hKv : K ∉ (Value.slice wa s.waits.length wc).ownBlock.toList := fun h => ((X2.ne).2.2.2.1 K (mem_own.1 h)).2.1 rfl
    have hKc : w2.cell? ⟨K, 2, none⟩ = some (Value.slice wa s.waits.length wc) := X2.blk.cell 2
    have hlw := (X2.low).2.2.2.1
    refine wp_region_chainChg ((Value.slice wa s.waits.length wc).ownBlock.toList) [(0, 0), (1, 0), (2, 0), (3, 0), (4, 0), (5, 0), (6, 1), (7, 1), (8, 1), (9, 2), (10, 2), (11, 2)] (by kernel_rfl) (by kernel_rfl) ?_
    intro wp1 hwp1
    repeat
      refine chain_light _ rfl (fun K hK => ?_)
      first
        | (refine (if_pos (by rfl)).mpr ?_; apply Exists.intro; refine ⟨fun w' hw' => ?_, hK _ ?_⟩; (have kc := hw'.cell (hwp1.at hKc) hKv; have bb := hw'.blk (hbx.kept hwp1) hbv; have bb0 := bb.cell 0; have bb1 := bb.cell 1; clear bb; go_simp; done); (clear hK K; simp only [Act.put, List.setIfInBounds_toArray, List.set_cons_zero, List.set_cons_succ]))
        | (refine (if_pos (by rfl)).mpr ?_; apply Exists.intro; refine ⟨fun w' hw' => ?_, hK _ ?_⟩; (have kc := hw'.cell (hwp1.at hKc) hKv; have bb := hw'.blk (hbx.kept hwp1) hbv; have bb0 := bb.cell 0; have bb1 := bb.cell 1; clear bb; go_simp; rfl); (clear hK K; simp only [Act.put, List.setIfInBounds_toArray, List.set_cons_zero, List.set_cons_succ]))
        | (refine (if_neg (by rw [Bool.not_eq_true]; rfl)).mpr ?_; refine hK _ ?_; (clear hK K; simp only [Act.put, List.setIfInBounds_toArray, List.set_cons_zero, List.set_cons_succ]))
    refine chain_heavy _ rfl (fun K hK => ?_)
    refine (if_pos (by rfl)).mpr ?_
    go_wp2_with fail
    refine (copied_any off _ bs hbl _ (hsl.kept hwp1)).mono ?_
    rintro e wp2 ⟨ap, cp, rfl, hop, hkp2⟩
    go_wp2
    refine hK _ _ (Chg.of_kept hkp2) ?_
    clear hK K
    try simp only [Act.put, List.setIfInBounds_toArray, List.set_cons_zero, List.set_cons_succ]
    refine chain_heavy _ rfl (fun K hK => ?_)
    refine (if_pos (by rfl)).mpr ?_
    go_wp2
    refine hK _ _ (Chg.of_kept ((Below.refl _ _).alloc (Nat.le_refl _) _)) ?_
    clear hK K
    try simp only [Act.put, List.setIfInBounds_toArray, List.set_cons_zero, List.set_cons_succ]
    refine chain_heavy _ rfl (fun K hK => ?_)
    refine (if_pos (by rfl)).mpr ?_
    have hro := (own_kept (own_kept X2.wts.row hwp1) hkp2).alloc (.cells #[.int .i64 off, .slice ap bs.length cp] 42)
    refine wp_append3 sl_ops (by rfl) (by rfl) (by rfl) hro (Sl.lit _ #[.int .i64 off, .slice ap bs.length cp] _ 1 (by decide)) (by rfl) (by intro u hu; simp at hu; rcases hu with rfl | rfl <;> rfl) (by show s.waits.length + 1 ≤ maxLen; unfold maxLen; omega) (by show (s.waits.length + 1) * 32 ≤ 140737488355328; omega) (Nat.zero_le _) ?_
    intro vp wp3 hownp hgrp hatp _
    obtain ⟨gp, capp, hve⟩ := own_some hownp (by omega)
    subst hve
    have hobp := own_kept hop (((Below.refl _ _).alloc (Nat.le_refl _) (.cells #[.int .i64 off, .slice ap bs.length cp] 42)) : Kept wp2 _)
    have ckp : Chg (Value.slice wa s.waits.length wc).ownBlock.toList w2 wp3 := (Chg.of_kept (Kept.of hwp1 hkp2)).trans ((Chg.of_kept ((Below.refl _ _).alloc (Nat.le_refl _) _)).trans hgrp.chgL)
    refine hK _ _ (hgrp.chgL) ?_
    clear hK K
    try simp only [Act.put, List.setIfInBounds_toArray, List.set_cons_zero, List.set_cons_succ]
    refine chain_last _ rfl (fun K hK => ?_)
    refine (if_pos (by rfl)).mpr ?_
    go_wp2
    refine chain_last _ rfl (fun K hK => ?_)
    refine (if_pos (by rfl)).mpr ?_
    go_wp2
    refine chain_last _ rfl (fun K hK => ?_)
    refine (if_pos (by rfl)).mpr ?_
    have hb5 := ckp.blk X2.blk hKv
    have fK := hb5.free 2
    have eK := hb5.cell 2
    go_wp2
    refine chain_nil ?_
    have hz1 := hwp1.size
    have hz2 := hkp2.size
    have hbg : ∀ g, (Value.slice ap bs.length cp).ownBlock = some g → w2.heap.size ≤ g := fun g hg => Nat.le_trans hz1 (own_geV hop hg)
    have hu6 := own_base (own_chgV hobp hgrp.chgL fun g hg hm => by
      have := hbg g hg
      have := hlw g (mem_own.1 hm)
      omega) hz1
    have hv6 : ∀ g, (Value.slice (some ⟨gp, 0, none⟩) (s.waits.length + 1) capp).ownBlock = some g → (Value.slice wa s.waits.length wc).ownBlock = some g ∨ w2.heap.size ≤ g := fun g hg => by
      rcases hatp with e | e
      · left; rw [← e]; exact hg
      · right
        have h2 : some g = some ((wp2.alloc (.cells #[.int .i64 off, .slice ap bs.length cp] 42)).heap.size) := hg.symm.trans e
        have h3 := Option.some.inj h2
        have : (wp2.alloc (.cells #[.int .i64 off, .slice ap bs.length cp] 42)).heap.size = wp2.heap.size + 1 := by simp
        omega
    have X3 := SdIn.pushW (x := (off, bs)) X2 ckp hownp hu6 hv6
    have hqK : Chg [K] wp3 (wp3.setCell ⟨K, 2, none⟩ (.slice (some ⟨gp, 0, none⟩) (s.waits.length + 1) capp)) := Chg.step (by simp) _
    have hst := (O.sameW ckp).trans (O.sameK hqK)
    
    have hA2 : ∀ k, A k → k < w2.heap.size := fun k ha => by
      have := hA k ha; have := g1.size; omega
    have O2 := O.setW hA2 hv6 hbg
    have hKx : w1.heap.size ≠ K := by have := low1.1; omega
    replace hbx := hqK.blk (ckp.blk hbx hbv) (by simpa using hKx)
    replace hsl := hst.sl hsl hu
    have hsz2 := hst.size
    replace hst := (hsm1.trans (SameOn.of_kept hka)).trans hst
    have hbv : w1.heap.size ∉ (Value.slice ta s.trace.length tc).ownBlock.toList := fun h => by
      have := low1.2.2.2.2 _ (mem_own.1 h); omega
    clear hqK ckp hu6 hv6 hbg hownp hatp hgrp hobp hop hkp2 hwp1 hz1 hz2 hKc hlw hKv X2 fK eK hb5
    go_wp2_with fail
    generalize (wp3.setCell ⟨K, 2, none⟩ (.slice (some ⟨gp, 0, none⟩) (s.waits.length + 1) capp)) = w4 at *
    have hst0 := hst
    have hKv : K ∉ (Value.slice ta s.trace.length tc).ownBlock.toList := fun h => ((X3.ne).2.2.2.2.1 K (mem_own.1 h)).2.1 rfl
    have hKc : w4.cell? ⟨K, 3, none⟩ = some (Value.slice ta s.trace.length tc) := X3.blk.cell 3
    have hlw := (X3.low).2.2.2.2
    refine wp_region_chainChg ((Value.slice ta s.trace.length tc).ownBlock.toList) [(0, 0), (1, 0), (2, 0), (3, 0), (4, 0), (5, 0), (6, 1), (7, 1), (8, 1), (9, 2), (10, 2), (11, 2)] (by kernel_rfl) (by kernel_rfl) ?_
    intro wq1 hwq1
    repeat
      refine chain_light _ rfl (fun K hK => ?_)
      first
        | (refine (if_pos (by rfl)).mpr ?_; apply Exists.intro; refine ⟨fun w' hw' => ?_, hK _ ?_⟩; (have kc := hw'.cell (hwq1.at hKc) hKv; have bb := hw'.blk (hbx.kept hwq1) hbv; have bb0 := bb.cell 0; have bb1 := bb.cell 1; clear bb; go_simp; done); (clear hK K; simp only [Act.put, List.setIfInBounds_toArray, List.set_cons_zero, List.set_cons_succ]))
        | (refine (if_pos (by rfl)).mpr ?_; apply Exists.intro; refine ⟨fun w' hw' => ?_, hK _ ?_⟩; (have kc := hw'.cell (hwq1.at hKc) hKv; have bb := hw'.blk (hbx.kept hwq1) hbv; have bb0 := bb.cell 0; have bb1 := bb.cell 1; clear bb; go_simp; rfl); (clear hK K; simp only [Act.put, List.setIfInBounds_toArray, List.set_cons_zero, List.set_cons_succ]))
        | (refine (if_neg (by rw [Bool.not_eq_true]; rfl)).mpr ?_; refine hK _ ?_; (clear hK K; simp only [Act.put, List.setIfInBounds_toArray, List.set_cons_zero, List.set_cons_succ]))
    refine chain_heavy _ rfl (fun K hK => ?_)
    refine (if_pos (by rfl)).mpr ?_
    go_wp2_with fail
    refine (copied_any off _ bs hbl _ (hsl.kept hwq1)).mono ?_
    rintro e wq2 ⟨aq, cq, rfl, hoq, hkq2⟩
    go_wp2
    refine hK _ _ (Chg.of_kept hkq2) ?_
    clear hK K
    try simp only [Act.put, List.setIfInBounds_toArray, List.set_cons_zero, List.set_cons_succ]
    refine chain_heavy _ rfl (fun K hK => ?_)
    refine (if_pos (by rfl)).mpr ?_
    go_wp2
    refine hK _ _ (Chg.of_kept ((Below.refl _ _).alloc (Nat.le_refl _) _)) ?_
    clear hK K
    try simp only [Act.put, List.setIfInBounds_toArray, List.set_cons_zero, List.set_cons_succ]
    refine chain_heavy _ rfl (fun K hK => ?_)
    refine (if_pos (by rfl)).mpr ?_
    have hro := (own_kept (own_kept X3.trc.row hwq1) hkq2).alloc (.cells #[.int .i64 off, .slice aq bs.length cq] 42)
    refine wp_append3 sl_ops (by rfl) (by rfl) (by rfl) hro (Sl.lit _ #[.int .i64 off, .slice aq bs.length cq] _ 1 (by decide)) (by rfl) (by intro u hu; simp at hu; rcases hu with rfl | rfl <;> rfl) (by show s.trace.length + 1 ≤ maxLen; unfold maxLen; omega) (by show (s.trace.length + 1) * 32 ≤ 140737488355328; omega) (Nat.zero_le _) ?_
    intro vq wq3 hownq hgrq hatq _
    obtain ⟨gq, capq, hve⟩ := own_some hownq (by omega)
    subst hve
    have hobq := own_kept hoq (((Below.refl _ _).alloc (Nat.le_refl _) (.cells #[.int .i64 off, .slice aq bs.length cq] 42)) : Kept wq2 _)
    have ckq : Chg (Value.slice ta s.trace.length tc).ownBlock.toList w4 wq3 := (Chg.of_kept (Kept.of hwq1 hkq2)).trans ((Chg.of_kept ((Below.refl _ _).alloc (Nat.le_refl _) _)).trans hgrq.chgL)
    refine hK _ _ (hgrq.chgL) ?_
    clear hK K
    try simp only [Act.put, List.setIfInBounds_toArray, List.set_cons_zero, List.set_cons_succ]
    refine chain_last _ rfl (fun K hK => ?_)
    refine (if_pos (by rfl)).mpr ?_
    go_wp2
    refine chain_last _ rfl (fun K hK => ?_)
    refine (if_pos (by rfl)).mpr ?_
    go_wp2
    refine chain_last _ rfl (fun K hK => ?_)
    refine (if_pos (by rfl)).mpr ?_
    have hb5 := ckq.blk X3.blk hKv
    have fK := hb5.free 3
    have eK := hb5.cell 3
    go_wp2
    refine chain_nil ?_
    have hz1 := hwq1.size
    have hz2 := hkq2.size
    have hbg : ∀ g, (Value.slice aq bs.length cq).ownBlock = some g → w4.heap.size ≤ g := fun g hg => Nat.le_trans hz1 (own_geV hoq hg)
    have hu6 := own_base (own_chgV hobq hgrq.chgL fun g hg hm => by
      have := hbg g hg
      have := hlw g (mem_own.1 hm)
      omega) hz1
    have hv6 : ∀ g, (Value.slice (some ⟨gq, 0, none⟩) (s.trace.length + 1) capq).ownBlock = some g → (Value.slice ta s.trace.length tc).ownBlock = some g ∨ w4.heap.size ≤ g := fun g hg => by
      rcases hatq with e | e
      · left; rw [← e]; exact hg
      · right
        have h2 : some g = some ((wq2.alloc (.cells #[.int .i64 off, .slice aq bs.length cq] 42)).heap.size) := hg.symm.trans e
        have h3 := Option.some.inj h2
        have : (wq2.alloc (.cells #[.int .i64 off, .slice aq bs.length cq] 42)).heap.size = wq2.heap.size + 1 := by simp
        omega
    have X4 := SdIn.pushT (x := (off, bs)) X3 ckq hownq hu6 hv6
    have hqK : Chg [K] wq3 (wq3.setCell ⟨K, 3, none⟩ (.slice (some ⟨gq, 0, none⟩) (s.trace.length + 1) capq)) := Chg.step (by simp) _
    have hst := (O.sameT ckq).trans (O.sameK hqK)
    
    have hA4 : ∀ k, A k → k < w4.heap.size := fun k ha => by
      have := hA2 k ha; omega
    have O4 := O2.setT hA4 hv6 hbg
    go_wp2
    go_ret
    exact ⟨rfl, ⟨b, gl, cap, ex, _, _, _, _, X4, O4, fun k ha => Nat.lt_of_lt_of_le (hA4 k ha) hst.size⟩, hst0.trans hst⟩


end Go.Proofs.Ytgbfgaeohnjmeaa
