/- The reference's Write. -/
import Derived.Test.YtpbdncnepcibaaaRdW
import Derived.Test.YtpbdncnepcibaaaPlanG
namespace Go.Proofs.Ytpbdncnepcibaaa
open Go Go.RowKit

theorem sl_opsR : SlT Try.prog 37 61 2 32 (.agg #[.int .i64 0, .slice none 0 0]) := sl_ops
set_option maxRecDepth 100000 in
set_option maxHeartbeats 4000000 in
theorem rd_write_no (A : Nat → Prop) (K b : Nat) (d : Dk) (m : Nat) (w : World) (h : RdAt A w K b d) (ok : d.ok m) (off : Int) (a : Option Addr) (L c : Nat) (hL : L ≤ 1000000) (hn : isD off = false) : Calls Try.prog 20 #[.pointer (some ⟨K, 0, none⟩), .int .i64 off, .slice a L c] w fun e w' => e = .returned (.bool false) ∧ w = w' := by
  obtain ⟨vw, vt, us, ut, X, O, hA⟩ := h
  have hll : (d.lasts.map Str).length = 32 := by simpa using ok.len
  have c4 := X.blk.cell 35
  rw [dcells_35 hll] at c4
  clear hll
  go_enter Try.func20, Try.ntmps20
  go_wp2_with fail
  refine (rd_is off _).mono ?_
  rintro e w1 ⟨rfl, rfl⟩
  rw [hn]
  go_wp2
  go_ret
  exact ⟨rfl, rfl⟩

set_option maxRecDepth 100000 in
set_option maxHeartbeats 4000000 in
theorem rd_write_len (A : Nat → Prop) (K b : Nat) (d : Dk) (m : Nat) (w : World) (h : RdAt A w K b d) (ok : d.ok m) (off : Int) (a : Option Addr) (L c : Nat) (hL : L ≤ 1000000) (hn : isD off = true) (hl : L ≠ 32) : Calls Try.prog 20 #[.pointer (some ⟨K, 0, none⟩), .int .i64 off, .slice a L c] w fun e w' => e = .returned (.bool false) ∧ w = w' := by
  obtain ⟨vw, vt, us, ut, X, O, hA⟩ := h
  have hll : (d.lasts.map Str).length = 32 := by simpa using ok.len
  have c4 := X.blk.cell 35
  rw [dcells_35 hll] at c4
  have i1 : ((L : Int) == 32) = false := by simp; omega
  have i2 : ¬ (L : Int) = 32 := by omega
  clear hll hl
  go_enter Try.func20, Try.ntmps20
  go_wp2_with fail
  refine (rd_is off _).mono ?_
  rintro e w1 ⟨rfl, rfl⟩
  rw [hn]
  go_wp2
  go_ret
  exact ⟨rfl, rfl⟩

set_option maxRecDepth 100000 in
set_option maxHeartbeats 4000000 in
theorem rd_write_ref (A : Nat → Prop) (K b : Nat) (d : Dk) (m : Nat) (w : World) (h : RdAt A w K b d) (ok : d.ok m) (off : Int) (a : Option Addr) (L c : Nat) (hL : L ≤ 1000000) (hn : isD off = true) (hl : L = 32) (hr : d.no = true) : Calls Try.prog 20 #[.pointer (some ⟨K, 0, none⟩), .int .i64 off, .slice a L c] w fun e w' => e = .returned (.bool false) ∧ w = w' := by
  obtain ⟨vw, vt, us, ut, X, O, hA⟩ := h
  have hll : (d.lasts.map Str).length = 32 := by simpa using ok.len
  have c4 := X.blk.cell 35
  rw [dcells_35 hll] at c4
  subst hl
  rw [hr] at c4
  clear hll
  go_enter Try.func20, Try.ntmps20
  go_wp2_with fail
  refine (rd_is off _).mono ?_
  rintro e w1 ⟨rfl, rfl⟩
  rw [hn]
  go_wp2
  go_ret
  exact ⟨rfl, rfl⟩

set_option maxRecDepth 100000 in
set_option maxHeartbeats 4000000 in
theorem rd_write (A : Nat → Prop) (J b : Nat) (d : Dk) (m : Nat) (hm : m ≤ 1000) (w : World) (h : RdAt A w J b d) (ok : d.ok m) (hno' : d.no = false) (off : Int) (v : Value) (bs : List UInt8) (hn : isD off = true) (hl : bs.length = 32) (hs : Sl w v bs.length (bcells bs)) (hu : ∀ a c, v = .slice (some a) bs.length c → 0 < (bcells bs).length → A a.block) (r : Bool) (p' : Pw) (hsp : d.p.spend = (r, p')) :
    Calls Try.prog 20 #[.pointer (some ⟨J, 0, none⟩), .int .i64 off, v] w fun e w' => e = .returned (.bool r) ∧ RdAt A w' J b (d.wrote r p' (off, bs)) ∧ SameOn A w w' := by
  obtain ⟨a, c, he⟩ := hs.len
  subst he
  obtain ⟨vw, vt, us, ut, X, O, hA⟩ := h
  have hll : (d.lasts.map Str).length = 32 := by simpa using ok.len
  have c4 := X.blk.cell 35
  rw [dcells_35 hll, hno'] at c4
  have c0 := X.blk.cell 0
  rw [dcells_0] at c0
  have hbl : bs.length ≤ 65536 := by omega
  have i2 : (bs.length : Int) = 32 := by omega
  have i1 : ((bs.length : Int) == 32) = true := by simp; omega
  have i3 : ((bs.length : Int) != 32) = false := by simp; omega
  have hok : d.p.ok 9223372036854775806 := ok_mono ok.pw (by omega)
  have HLL := Lib.hid hll
  have HL := Lib.hid hl
  have HI := Lib.hid i2
  have hl0 : 0 < bs.length := by omega
  clear hl i2 hll
  go_enter Try.func20, Try.ntmps20
  go_wp2_with fail
  refine (rd_is off _).mono ?_
  rintro e w1 ⟨rfl, rfl⟩
  rw [hn]
  go_wp2_with fail
  refine (rf_spend b d.p p' r _ X.pw hok hsp).mono ?_
  rintro e w1 ⟨rfl, p1, g1⟩
  have X1 := X.power g1 p1
  have hs1 := (O.same g1).sl hs hu
  have hsm1 := O.same g1
  cases r
  · go_wp2
    go_ret
    exact ⟨rfl, ⟨vw, vt, us, ut, X1, O, fun k ha => Nat.lt_of_lt_of_le (hA k ha) g1.size⟩, hsm1⟩
  · obtain ⟨wa, wc, hve⟩ := X1.wts.slice
    subst hve
    obtain ⟨ta, tc, hve⟩ := X1.trc.slice
    subst hve
    have hfw := ok.few
    have hft := ok.done
    have hll := HLL.out
    clear c0 c4 i1 i3
    have hk0 : Kept w1 (w1.alloc (.cells #[] 5)) := (Below.refl _ _).alloc (Nat.le_refl _) _
    have ho : (w1.alloc (.cells #[] 5)).ownsRow w1.heap.size 5 1 (.slice (some ⟨w1.heap.size, 0, none⟩) 0 0) 0 (bcells []) := own_made 0 (by decide) 5 [] rfl (Blk.new _ _ _) (Nat.le_refl _)
    have hs1' := hs1.kept hk0
    go_wp2_with (at_builtin; refine wpList_append sl_bytes rfl (by rfl) (by rfl) (by rfl) ho hs1' (by rw [bcells_length, Nat.mul_one]) (oneCell_V8 bs) (by unfold maxLen; omega) (by omega) (by simp) ?_; intro vi w2 howni hgi hati; obtain ⟨gi, ci, hve⟩ := own_some howni (by omega); subst hve)
    have k2 : Kept w1 w2 := below_append hk0 ho hgi (by simp)
    have ou : w2.ownsRow w1.heap.size 5 1 (.slice (some ⟨gi, 0, none⟩) bs.length ci) bs.length (bcells bs) := by simpa [bcells] using howni
    have hu1 : ∀ x ∈ ([.int .i64 off, .slice (some ⟨gi, 0, none⟩) bs.length ci] : List Value), x.oneCell' = true := by intro x hx; simp at hx; rcases hx with rfl | rfl <;> rfl
    have hkx : Kept w2 (w2.alloc (.cells #[.int .i64 off, .slice (some ⟨gi, 0, none⟩) bs.length ci] 61)) := (Below.refl _ _).alloc (Nat.le_refl _) _
    have bx := Blk.new w2 #[.int .i64 off, .slice (some ⟨gi, 0, none⟩) bs.length ci] 61
    have hA1 : ∀ k, A k → k < w1.heap.size := fun k ha => by
      have := hA k ha; have := g1.size; omega
    have hz12 := k2.size
    have hz23 := hkx.size
    have low1 := X1.low
    have ho1 : ∀ k, w1.heap.size ≤ k → k ∉ ((Value.slice wa d.waits.length wc).ownBlock.toList ++ (Value.slice ta d.trace.length tc).ownBlock.toList) := fun k hk hm => by
      rcases List.mem_append.1 hm with h | h
      · have := own_ltV X1.wts.row (mem_own.1 h); omega
      · have := own_ltV X1.trc.row (mem_own.1 h); omega
    have hsm3 := (hsm1.trans (SameOn.of_kept k2)).trans (SameOn.of_kept hkx)
    replace X1 := (X1.kept k2).kept hkx
    replace ou := own_kept ou hkx
    clear howni hgi hati hs1 hs1' ho hk0 p1 g1 hsm1 k2 hkx X
    generalize (Value.slice (some ⟨gi, 0, none⟩) bs.length ci) = u at *
    generalize (w2.alloc (.cells #[.int .i64 off, u] 61)) = w3 at *
    have hxn : w2.heap.size ∉ J :: ((Value.slice wa d.waits.length wc).ownBlock.toList ++ (Value.slice ta d.trace.length tc).ownBlock.toList) := by
      intro hm
      rcases List.mem_cons.1 hm with h | h
      · have := low1.1; omega
      · exact ho1 _ hz12 h
    have hno : ∀ k, w3.heap.size ≤ k → k ∉ ((Value.slice wa d.waits.length wc).ownBlock.toList ++ (Value.slice ta d.trace.length tc).ownBlock.toList) := fun k hk => ho1 k (by omega)
    have hug : ∀ g, u.ownBlock = some g → w1.heap.size ≤ g := fun g hg => own_geV ou hg
    have hun : ∀ g, u.ownBlock = some g → g ∉ ((Value.slice wa d.waits.length wc).ownBlock.toList ++ (Value.slice ta d.trace.length tc).ownBlock.toList) := fun g hg => ho1 g (hug g hg)
    have hKn : J ∉ ((Value.slice wa d.waits.length wc).ownBlock.toList ++ (Value.slice ta d.trace.length tc).ownBlock.toList) := not_own2 X1.wts.row X1.trc.row X1.blk (by decide)
    have kW : w3.cell? ⟨J, 33, none⟩ = some (Value.slice wa d.waits.length wc) := by
      have := X1.blk.cell 33
      rwa [dcells_33 hll] at this
    have kT : w3.cell? ⟨J, 34, none⟩ = some (Value.slice ta d.trace.length tc) := by
      have := X1.blk.cell 34
      rwa [dcells_34 hll] at this
    refine wp_region_planG (Chg ((Value.slice wa d.waits.length wc).ownBlock.toList ++ (Value.slice ta d.trace.length tc).ownBlock.toList)) (Chg (J :: ((Value.slice wa d.waits.length wc).ownBlock.toList ++ (Value.slice ta d.trace.length tc).ownBlock.toList))) [(5, 0), (12, 0)] (.light 0 (.light 1 (.light 2 (.light 3 (.light 4 (.light 5 (.light 6 (.light 9 (.light 10 (.light 11 (.light 12 (.light 13 (.two 7 14 (.two 8 14 (.heavy 14 (.heavy 15 (.heavy 16 (.heavy 17 (.last 18 (.heavy 19 (.heavy 20 (.last 21 .nil)))))))) (.heavy 8 (.heavy 15 (.heavy 16 (.heavy 17 (.last 18 (.heavy 19 (.heavy 20 (.last 21 .nil))))))))) (.heavy 7 (.heavy 8 (.heavy 15 (.heavy 16 (.heavy 17 (.last 18 (.heavy 19 (.heavy 20 (.last 21 .nil)))))))))))))))))))))) (by kernel_rfl) (by kernel_rfl) (fun _ _ h => h.mono (fun b hb => List.mem_cons_of_mem _ hb)) (fun _ => Chg.refl _ _) (fun _ _ _ h1 h2 => h1.trans h2) (fun _ _ _ h1 h2 => h1.trans h2) ?_
    intro y0 hy0
    have kW := hy0.at kW
    have kT := hy0.at kT
    replace bx := bx.kept hy0
    have rw0 := own_kept X1.wts.row hy0
    have rt0 := own_kept X1.trc.row hy0
    replace ou := own_kept ou hy0
    have hc : Chg ((Value.slice wa d.waits.length wc).ownBlock.toList ++ (Value.slice ta d.trace.length tc).ownBlock.toList) w3 y0 := Chg.of_kept hy0
    refine planG_light _ rfl (Chg (J :: ((Value.slice wa d.waits.length wc).ownBlock.toList ++ (Value.slice ta d.trace.length tc).ownBlock.toList))) (by rfl) (fun K hK => ?_)
    refine (if_pos (by rfl)).mpr ?_; apply Exists.intro; refine ⟨fun w' hw' => ?_, hK _ ?_⟩
    · first | (go_simp; done) | (go_simp; rfl)
    clear hK K; simp only [Act.put, List.setIfInBounds_toArray, List.set_cons_zero, List.set_cons_succ]
    refine planG_light _ rfl (Chg (J :: ((Value.slice wa d.waits.length wc).ownBlock.toList ++ (Value.slice ta d.trace.length tc).ownBlock.toList))) (by rfl) (fun K hK => ?_)
    refine (if_pos (by rfl)).mpr ?_; apply Exists.intro; refine ⟨fun w' hw' => ?_, hK _ ?_⟩
    · first | (go_simp; done) | (go_simp; rfl)
    clear hK K; simp only [Act.put, List.setIfInBounds_toArray, List.set_cons_zero, List.set_cons_succ]
    refine planG_light _ rfl (Chg (J :: ((Value.slice wa d.waits.length wc).ownBlock.toList ++ (Value.slice ta d.trace.length tc).ownBlock.toList))) (by rfl) (fun K hK => ?_)
    refine (if_pos (by rfl)).mpr ?_; apply Exists.intro; refine ⟨fun w' hw' => ?_, hK _ ?_⟩
    · first | (go_simp; done) | (go_simp; rfl)
    clear hK K; simp only [Act.put, List.setIfInBounds_toArray, List.set_cons_zero, List.set_cons_succ]
    refine planG_light _ rfl (Chg (J :: ((Value.slice wa d.waits.length wc).ownBlock.toList ++ (Value.slice ta d.trace.length tc).ownBlock.toList))) (by rfl) (fun K hK => ?_)
    refine (if_pos (by rfl)).mpr ?_; apply Exists.intro; refine ⟨fun w' hw' => ?_, hK _ ?_⟩
    · first | (go_simp; done) | (go_simp; rfl)
    clear hK K; simp only [Act.put, List.setIfInBounds_toArray, List.set_cons_zero, List.set_cons_succ]
    refine planG_light _ rfl (Chg (J :: ((Value.slice wa d.waits.length wc).ownBlock.toList ++ (Value.slice ta d.trace.length tc).ownBlock.toList))) (by rfl) (fun K hK => ?_)
    refine (if_pos (by rfl)).mpr ?_; apply Exists.intro; refine ⟨fun w' hw' => ?_, hK _ ?_⟩
    · first | (go_simp; done) | (go_simp; rfl)
    clear hK K; simp only [Act.put, List.setIfInBounds_toArray, List.set_cons_zero, List.set_cons_succ]
    refine planG_light _ rfl (Chg ((Value.slice wa d.waits.length wc).ownBlock.toList ++ (Value.slice ta d.trace.length tc).ownBlock.toList)) (by rfl) (fun K hK => ?_)
    refine (if_pos (by rfl)).mpr ?_; apply Exists.intro; refine ⟨fun w' hw' => ?_, hK _ ?_⟩
    · have k0 := hw'.cell kW hKn; first | (go_simp; done) | (go_simp; rfl)
    clear hK K; simp only [Act.put, List.setIfInBounds_toArray, List.set_cons_zero, List.set_cons_succ]
    refine planG_light _ rfl (Chg (J :: ((Value.slice wa d.waits.length wc).ownBlock.toList ++ (Value.slice ta d.trace.length tc).ownBlock.toList))) (by rfl) (fun K hK => ?_)
    refine (if_pos (by rfl)).mpr ?_; apply Exists.intro; refine ⟨fun w' hw' => ?_, hK _ ?_⟩
    · have k2 := (hw'.blk bx hxn).cell 0; have k3 := (hw'.blk bx hxn).cell 1; first | (go_simp; done) | (go_simp; rfl)
    clear hK K; simp only [Act.put, List.setIfInBounds_toArray, List.set_cons_zero, List.set_cons_succ]
    refine planG_light _ rfl (Chg (J :: ((Value.slice wa d.waits.length wc).ownBlock.toList ++ (Value.slice ta d.trace.length tc).ownBlock.toList))) (by rfl) (fun K hK => ?_)
    refine (if_pos (by rfl)).mpr ?_; apply Exists.intro; refine ⟨fun w' hw' => ?_, hK _ ?_⟩
    · first | (go_simp; done) | (go_simp; rfl)
    clear hK K; simp only [Act.put, List.setIfInBounds_toArray, List.set_cons_zero, List.set_cons_succ]
    refine planG_light _ rfl (Chg (J :: ((Value.slice wa d.waits.length wc).ownBlock.toList ++ (Value.slice ta d.trace.length tc).ownBlock.toList))) (by rfl) (fun K hK => ?_)
    refine (if_pos (by rfl)).mpr ?_; apply Exists.intro; refine ⟨fun w' hw' => ?_, hK _ ?_⟩
    · first | (go_simp; done) | (go_simp; rfl)
    clear hK K; simp only [Act.put, List.setIfInBounds_toArray, List.set_cons_zero, List.set_cons_succ]
    refine planG_light _ rfl (Chg (J :: ((Value.slice wa d.waits.length wc).ownBlock.toList ++ (Value.slice ta d.trace.length tc).ownBlock.toList))) (by rfl) (fun K hK => ?_)
    refine (if_pos (by rfl)).mpr ?_; apply Exists.intro; refine ⟨fun w' hw' => ?_, hK _ ?_⟩
    · first | (go_simp; done) | (go_simp; rfl)
    clear hK K; simp only [Act.put, List.setIfInBounds_toArray, List.set_cons_zero, List.set_cons_succ]
    refine planG_light _ rfl (Chg ((Value.slice wa d.waits.length wc).ownBlock.toList ++ (Value.slice ta d.trace.length tc).ownBlock.toList)) (by rfl) (fun K hK => ?_)
    refine (if_pos (by rfl)).mpr ?_; apply Exists.intro; refine ⟨fun w' hw' => ?_, hK _ ?_⟩
    · have k1 := hw'.cell kT hKn; first | (go_simp; done) | (go_simp; rfl)
    clear hK K; simp only [Act.put, List.setIfInBounds_toArray, List.set_cons_zero, List.set_cons_succ]
    refine planG_light _ rfl (Chg (J :: ((Value.slice wa d.waits.length wc).ownBlock.toList ++ (Value.slice ta d.trace.length tc).ownBlock.toList))) (by rfl) (fun K hK => ?_)
    refine (if_pos (by rfl)).mpr ?_; apply Exists.intro; refine ⟨fun w' hw' => ?_, hK _ ?_⟩
    · have k2 := (hw'.blk bx hxn).cell 0; have k3 := (hw'.blk bx hxn).cell 1; first | (go_simp; done) | (go_simp; rfl)
    clear hK K; simp only [Act.put, List.setIfInBounds_toArray, List.set_cons_zero, List.set_cons_succ]
    refine planG_two ?_ ?_
    · refine planG_heavy _ rfl (fun K hK => ?_)
      refine (if_pos (by rfl)).mpr ?_
      have hkz : Kept y0 (y0.alloc (.cells #[.int .i64 off, u] 61)) := (Below.refl _ _).alloc (Nat.le_refl _) _
      have hszb := hc.size
      go_wp2
      refine hK _ _ (Chg.of_kept hkz) ?_
      clear hK K
      try simp only [Act.put, List.setIfInBounds_toArray, List.set_cons_zero, List.set_cons_succ]
      replace rw0 := own_kept rw0 hkz
      replace rt0 := own_kept rt0 hkz
      replace ou := own_kept ou hkz
      replace hc := hc.trans (Chg.of_kept hkz)
      have slW := Sl.lit y0 #[.int .i64 off, u] 61 1 (by decide)
      have hbxW : y0.heap.size ∉ ((Value.slice wa d.waits.length wc).ownBlock.toList ++ (Value.slice ta d.trace.length tc).ownBlock.toList) := hno _ hszb
      clear hkz hszb
      generalize (y0.alloc (.cells #[.int .i64 off, u] 61)) = y1 at *
      refine planG_two ?_ ?_
      · refine planG_heavy _ rfl (fun K hK => ?_)
        refine (if_pos (by rfl)).mpr ?_
        refine wp_append3 sl_ops (by rfl) (by rfl) (by rfl) rw0 slW (by rfl) hu1 (by show d.waits.length + 1 ≤ maxLen; unfold maxLen; omega) (by show (d.waits.length + 1) * 32 ≤ 140737488355328; omega) (Nat.zero_le _) ?_
        intro vW y2 hownW hgrW hatW _
        obtain ⟨gW, cW, hve⟩ := own_some hownW (by omega)
        subst hve
        have hcx := hgrW.chgL.mono (cs := ((Value.slice wa d.waits.length wc).ownBlock.toList ++ (Value.slice ta d.trace.length tc).ownBlock.toList)) (by intro x hx; simp only [List.mem_append]; exact .inl hx)
        
        refine hK _ _ (hcx) ?_
        clear hK K
        try simp only [Act.put, List.setIfInBounds_toArray, List.set_cons_zero, List.set_cons_succ]
        have hatW2 : gW ∉ (Value.slice ta d.trace.length tc).ownBlock.toList := fun hm => by
          have hm' := mem_own.1 hm
          rcases hatW with e | e
          · exact X1.wt gW e.symm hm'
          · have h1 := own_ltV rt0 hm'
            have h2 := Option.some.inj ((show (Value.slice (some ⟨gW, 0, none⟩) (d.waits.length + 1) cW).ownBlock = some gW from rfl).symm.trans e)
            omega
        have hgW3 : (Value.slice wa d.waits.length wc).ownBlock = some gW ∨ w1.heap.size ≤ gW := by
          rcases hatW with e | e
          · exact .inl e.symm
          · right
            have h2 := Option.some.inj ((show (Value.slice (some ⟨gW, 0, none⟩) (d.waits.length + 1) cW).ownBlock = some gW from rfl).symm.trans e)
            have := hc.size
            omega
        replace rt0 := own_chgV rt0 hgrW.chgL (fun g hg hm => X1.wt g (mem_own.1 hm) hg)
        replace ou := own_chgV ou hcx hun
        replace hc := hc.trans hcx
        clear hcx hgrW hatW slW hbxW rw0
        refine planG_heavy _ rfl (fun K hK => ?_)
        refine (if_pos (by rfl)).mpr ?_
        have hkz : Kept y2 (y2.alloc (.cells #[.int .i64 off, u] 61)) := (Below.refl _ _).alloc (Nat.le_refl _) _
        have hszb := hc.size
        go_wp2
        refine hK _ _ (Chg.of_kept hkz) ?_
        clear hK K
        try simp only [Act.put, List.setIfInBounds_toArray, List.set_cons_zero, List.set_cons_succ]
        replace hownW := own_kept hownW hkz
        replace rt0 := own_kept rt0 hkz
        replace ou := own_kept ou hkz
        replace hc := hc.trans (Chg.of_kept hkz)
        have slT := Sl.lit y2 #[.int .i64 off, u] 61 1 (by decide)
        have hbxT : y2.heap.size ∉ ((Value.slice wa d.waits.length wc).ownBlock.toList ++ (Value.slice ta d.trace.length tc).ownBlock.toList) := hno _ hszb
        clear hkz hszb
        generalize (y2.alloc (.cells #[.int .i64 off, u] 61)) = y3 at *
        refine planG_heavy _ rfl (fun K hK => ?_)
        refine (if_pos (by rfl)).mpr ?_
        refine wp_append3 sl_ops (by rfl) (by rfl) (by rfl) rt0 slT (by rfl) hu1 (by show d.trace.length + 1 ≤ maxLen; unfold maxLen; omega) (by show (d.trace.length + 1) * 32 ≤ 140737488355328; omega) (Nat.zero_le _) ?_
        intro vT y4 hownT hgrT hatT _
        obtain ⟨gT, cT, hve⟩ := own_some hownT (by omega)
        subst hve
        have hcx := hgrT.chgL.mono (cs := ((Value.slice wa d.waits.length wc).ownBlock.toList ++ (Value.slice ta d.trace.length tc).ownBlock.toList)) (by intro x hx; simp only [List.mem_append]; exact .inr hx)
        
        refine hK _ _ (hcx) ?_
        clear hK K
        try simp only [Act.put, List.setIfInBounds_toArray, List.set_cons_zero, List.set_cons_succ]
        have hne : ∀ g, (Value.slice (some ⟨gW, 0, none⟩) (d.waits.length + 1) cW).ownBlock = some g → (Value.slice (some ⟨gT, 0, none⟩) (d.trace.length + 1) cT).ownBlock ≠ some g := fun g hg e => by
          cases hg
          cases e
          rcases hatT with e | e
          · exact hatW2 (mem_own.2 e.symm)
          · have h1 := own_ltV hownW (g := gW) rfl
            have h2 : some gW = some _ := e
            have h3 := Option.some.inj h2
            omega
        have hgT3 : (Value.slice ta d.trace.length tc).ownBlock = some gT ∨ w1.heap.size ≤ gT := by
          rcases hatT with e | e
          · exact .inl e.symm
          · right
            have h2 : some gT = some _ := e
            have h3 := Option.some.inj h2
            have := hc.size
            omega
        replace hownW := own_chgV hownW hgrT.chgL (fun g hg hm => by cases hg; exact hatW2 hm)
        replace ou := own_chgV ou hcx hun
        replace hc := hc.trans hcx
        clear hcx hgrT hatT slT hbxT rt0
        refine planG_heavy _ rfl (fun K hK => ?_)
        refine (if_pos (by rfl)).mpr ?_
        go_wp2
        refine hK _ _ (Chg.refl _ _) ?_
        clear hK K
        try simp only [Act.put, List.setIfInBounds_toArray, List.set_cons_zero, List.set_cons_succ]
        refine planG_heavy _ rfl (fun K hK => ?_)
        refine (if_pos (by rfl)).mpr ?_
        go_wp2
        refine hK _ _ (Chg.refl _ _) ?_
        clear hK K
        try simp only [Act.put, List.setIfInBounds_toArray, List.set_cons_zero, List.set_cons_succ]
        refine planG_last _ rfl (fun K hK => ?_)
        refine (if_pos (by rfl)).mpr ?_
        have bk := hc.blk X1.blk hKn
        have fk := bk.free 33
        have ek := bk.cell 33
        rw [dcells_33 hll] at ek
        go_wp2
        refine hK _ _ (Chg.step (List.mem_cons_self ..) _) ?_
        clear hK K
        try simp only [Act.put, List.setIfInBounds_toArray, List.set_cons_zero, List.set_cons_succ]
        clear fk ek
        refine planG_heavy _ rfl (fun K hK => ?_)
        refine (if_pos (by rfl)).mpr ?_
        go_wp2
        refine hK _ _ (Chg.refl _ _) ?_
        clear hK K
        try simp only [Act.put, List.setIfInBounds_toArray, List.set_cons_zero, List.set_cons_succ]
        refine planG_heavy _ rfl (fun K hK => ?_)
        refine (if_pos (by rfl)).mpr ?_
        go_wp2
        refine hK _ _ (Chg.refl _ _) ?_
        clear hK K
        try simp only [Act.put, List.setIfInBounds_toArray, List.set_cons_zero, List.set_cons_succ]
        refine planG_last _ rfl (fun K hK => ?_)
        refine (if_pos (by rfl)).mpr ?_
        have bk2 := bk.set 33 (.slice (some ⟨gW, 0, none⟩) (d.waits.length + 1) cW)
        rw [dset_33 hll] at bk2
        have fk := bk2.free 34
        have ek := bk2.cell 34
        rw [dcells_34 hll] at ek
        go_wp2
        refine hK _ _ (Chg.step (List.mem_cons_self ..) _) ?_
        clear hK K
        try simp only [Act.put, List.setIfInBounds_toArray, List.set_cons_zero, List.set_cons_succ]
        clear fk ek bk2
        refine planG_nil ?_
        have X4 := RdIn.push (x := (off, bs)) X1 ok.len hc hownW hownT (own_base ou (Nat.zero_le _)) hne
        have hqK : Chg [J] y4 ((y4.setCell ⟨J, 33, none⟩ (.slice (some ⟨gW, 0, none⟩) (d.waits.length + 1) cW)).setCell ⟨J, 34, none⟩ (.slice (some ⟨gT, 0, none⟩) (d.trace.length + 1) cT)) := (Chg.step (by simp) _).trans (Chg.step (by simp) _)
        have hst := (O.sameWT hc).trans (O.sameK hqK)
        have O2 := (OffR.setW (u6 := u) (v6 := (.slice (some ⟨gW, 0, none⟩) (d.waits.length + 1) cW)) O hA1 (fun g hg => by cases hg; exact hgW3) hug)
        have O4 := OffR.setT (u6 := u) (v6 := (.slice (some ⟨gT, 0, none⟩) (d.trace.length + 1) cT)) O2 hA1 (fun g hg => by cases hg; exact hgT3) hug
        go_wp2
        go_ret
        exact ⟨rfl, ⟨_, _, _, _, X4, O4, fun k ha => Nat.lt_of_lt_of_le (hA k ha) (hsm3.trans hst).size⟩, hsm3.trans hst⟩
      · refine planG_heavy _ rfl (fun K hK => ?_)
        refine (if_pos (by rfl)).mpr ?_
        have hkz : Kept y1 (y1.alloc (.cells #[.int .i64 off, u] 61)) := (Below.refl _ _).alloc (Nat.le_refl _) _
        have hszb := hc.size
        go_wp2
        refine hK _ _ (Chg.of_kept hkz) ?_
        clear hK K
        try simp only [Act.put, List.setIfInBounds_toArray, List.set_cons_zero, List.set_cons_succ]
        replace rw0 := own_kept rw0 hkz
        replace rt0 := own_kept rt0 hkz
        replace ou := own_kept ou hkz
        replace hc := hc.trans (Chg.of_kept hkz)
        replace slW := slW.kept hkz
        have slT := Sl.lit y1 #[.int .i64 off, u] 61 1 (by decide)
        have hbxT : y1.heap.size ∉ ((Value.slice wa d.waits.length wc).ownBlock.toList ++ (Value.slice ta d.trace.length tc).ownBlock.toList) := hno _ hszb
        clear hkz hszb
        generalize (y1.alloc (.cells #[.int .i64 off, u] 61)) = y2 at *
        refine planG_heavy _ rfl (fun K hK => ?_)
        refine (if_pos (by rfl)).mpr ?_
        refine wp_append3 sl_ops (by rfl) (by rfl) (by rfl) rw0 slW (by rfl) hu1 (by show d.waits.length + 1 ≤ maxLen; unfold maxLen; omega) (by show (d.waits.length + 1) * 32 ≤ 140737488355328; omega) (Nat.zero_le _) ?_
        intro vW y3 hownW hgrW hatW _
        obtain ⟨gW, cW, hve⟩ := own_some hownW (by omega)
        subst hve
        have hcx := hgrW.chgL.mono (cs := ((Value.slice wa d.waits.length wc).ownBlock.toList ++ (Value.slice ta d.trace.length tc).ownBlock.toList)) (by intro x hx; simp only [List.mem_append]; exact .inl hx)
        
        refine hK _ _ (hcx) ?_
        clear hK K
        try simp only [Act.put, List.setIfInBounds_toArray, List.set_cons_zero, List.set_cons_succ]
        have hatW2 : gW ∉ (Value.slice ta d.trace.length tc).ownBlock.toList := fun hm => by
          have hm' := mem_own.1 hm
          rcases hatW with e | e
          · exact X1.wt gW e.symm hm'
          · have h1 := own_ltV rt0 hm'
            have h2 := Option.some.inj ((show (Value.slice (some ⟨gW, 0, none⟩) (d.waits.length + 1) cW).ownBlock = some gW from rfl).symm.trans e)
            omega
        have hgW3 : (Value.slice wa d.waits.length wc).ownBlock = some gW ∨ w1.heap.size ≤ gW := by
          rcases hatW with e | e
          · exact .inl e.symm
          · right
            have h2 := Option.some.inj ((show (Value.slice (some ⟨gW, 0, none⟩) (d.waits.length + 1) cW).ownBlock = some gW from rfl).symm.trans e)
            have := hc.size
            omega
        replace rt0 := own_chgV rt0 hgrW.chgL (fun g hg hm => X1.wt g (mem_own.1 hm) hg)
        replace ou := own_chgV ou hcx hun
        replace slT := Chg.sl slT hcx (by intro a c e _; cases e; exact hbxT)
        replace hc := hc.trans hcx
        clear hcx hgrW hatW slW hbxW rw0
        refine planG_heavy _ rfl (fun K hK => ?_)
        refine (if_pos (by rfl)).mpr ?_
        refine wp_append3 sl_ops (by rfl) (by rfl) (by rfl) rt0 slT (by rfl) hu1 (by show d.trace.length + 1 ≤ maxLen; unfold maxLen; omega) (by show (d.trace.length + 1) * 32 ≤ 140737488355328; omega) (Nat.zero_le _) ?_
        intro vT y4 hownT hgrT hatT _
        obtain ⟨gT, cT, hve⟩ := own_some hownT (by omega)
        subst hve
        have hcx := hgrT.chgL.mono (cs := ((Value.slice wa d.waits.length wc).ownBlock.toList ++ (Value.slice ta d.trace.length tc).ownBlock.toList)) (by intro x hx; simp only [List.mem_append]; exact .inr hx)
        
        refine hK _ _ (hcx) ?_
        clear hK K
        try simp only [Act.put, List.setIfInBounds_toArray, List.set_cons_zero, List.set_cons_succ]
        have hne : ∀ g, (Value.slice (some ⟨gW, 0, none⟩) (d.waits.length + 1) cW).ownBlock = some g → (Value.slice (some ⟨gT, 0, none⟩) (d.trace.length + 1) cT).ownBlock ≠ some g := fun g hg e => by
          cases hg
          cases e
          rcases hatT with e | e
          · exact hatW2 (mem_own.2 e.symm)
          · have h1 := own_ltV hownW (g := gW) rfl
            have h2 : some gW = some _ := e
            have h3 := Option.some.inj h2
            omega
        have hgT3 : (Value.slice ta d.trace.length tc).ownBlock = some gT ∨ w1.heap.size ≤ gT := by
          rcases hatT with e | e
          · exact .inl e.symm
          · right
            have h2 : some gT = some _ := e
            have h3 := Option.some.inj h2
            have := hc.size
            omega
        replace hownW := own_chgV hownW hgrT.chgL (fun g hg hm => by cases hg; exact hatW2 hm)
        replace ou := own_chgV ou hcx hun
        replace hc := hc.trans hcx
        clear hcx hgrT hatT slT hbxT rt0
        refine planG_heavy _ rfl (fun K hK => ?_)
        refine (if_pos (by rfl)).mpr ?_
        go_wp2
        refine hK _ _ (Chg.refl _ _) ?_
        clear hK K
        try simp only [Act.put, List.setIfInBounds_toArray, List.set_cons_zero, List.set_cons_succ]
        refine planG_heavy _ rfl (fun K hK => ?_)
        refine (if_pos (by rfl)).mpr ?_
        go_wp2
        refine hK _ _ (Chg.refl _ _) ?_
        clear hK K
        try simp only [Act.put, List.setIfInBounds_toArray, List.set_cons_zero, List.set_cons_succ]
        refine planG_last _ rfl (fun K hK => ?_)
        refine (if_pos (by rfl)).mpr ?_
        have bk := hc.blk X1.blk hKn
        have fk := bk.free 33
        have ek := bk.cell 33
        rw [dcells_33 hll] at ek
        go_wp2
        refine hK _ _ (Chg.step (List.mem_cons_self ..) _) ?_
        clear hK K
        try simp only [Act.put, List.setIfInBounds_toArray, List.set_cons_zero, List.set_cons_succ]
        clear fk ek
        refine planG_heavy _ rfl (fun K hK => ?_)
        refine (if_pos (by rfl)).mpr ?_
        go_wp2
        refine hK _ _ (Chg.refl _ _) ?_
        clear hK K
        try simp only [Act.put, List.setIfInBounds_toArray, List.set_cons_zero, List.set_cons_succ]
        refine planG_heavy _ rfl (fun K hK => ?_)
        refine (if_pos (by rfl)).mpr ?_
        go_wp2
        refine hK _ _ (Chg.refl _ _) ?_
        clear hK K
        try simp only [Act.put, List.setIfInBounds_toArray, List.set_cons_zero, List.set_cons_succ]
        refine planG_last _ rfl (fun K hK => ?_)
        refine (if_pos (by rfl)).mpr ?_
        have bk2 := bk.set 33 (.slice (some ⟨gW, 0, none⟩) (d.waits.length + 1) cW)
        rw [dset_33 hll] at bk2
        have fk := bk2.free 34
        have ek := bk2.cell 34
        rw [dcells_34 hll] at ek
        go_wp2
        refine hK _ _ (Chg.step (List.mem_cons_self ..) _) ?_
        clear hK K
        try simp only [Act.put, List.setIfInBounds_toArray, List.set_cons_zero, List.set_cons_succ]
        clear fk ek bk2
        refine planG_nil ?_
        have X4 := RdIn.push (x := (off, bs)) X1 ok.len hc hownW hownT (own_base ou (Nat.zero_le _)) hne
        have hqK : Chg [J] y4 ((y4.setCell ⟨J, 33, none⟩ (.slice (some ⟨gW, 0, none⟩) (d.waits.length + 1) cW)).setCell ⟨J, 34, none⟩ (.slice (some ⟨gT, 0, none⟩) (d.trace.length + 1) cT)) := (Chg.step (by simp) _).trans (Chg.step (by simp) _)
        have hst := (O.sameWT hc).trans (O.sameK hqK)
        have O2 := (OffR.setW (u6 := u) (v6 := (.slice (some ⟨gW, 0, none⟩) (d.waits.length + 1) cW)) O hA1 (fun g hg => by cases hg; exact hgW3) hug)
        have O4 := OffR.setT (u6 := u) (v6 := (.slice (some ⟨gT, 0, none⟩) (d.trace.length + 1) cT)) O2 hA1 (fun g hg => by cases hg; exact hgT3) hug
        go_wp2
        go_ret
        exact ⟨rfl, ⟨_, _, _, _, X4, O4, fun k ha => Nat.lt_of_lt_of_le (hA k ha) (hsm3.trans hst).size⟩, hsm3.trans hst⟩
    · refine planG_heavy _ rfl (fun K hK => ?_)
      refine (if_pos (by rfl)).mpr ?_
      have hkz : Kept y0 (y0.alloc (.cells #[.int .i64 off, u] 61)) := (Below.refl _ _).alloc (Nat.le_refl _) _
      have hszb := hc.size
      go_wp2
      refine hK _ _ (Chg.of_kept hkz) ?_
      clear hK K
      try simp only [Act.put, List.setIfInBounds_toArray, List.set_cons_zero, List.set_cons_succ]
      replace rw0 := own_kept rw0 hkz
      replace rt0 := own_kept rt0 hkz
      replace ou := own_kept ou hkz
      replace hc := hc.trans (Chg.of_kept hkz)
      have slT := Sl.lit y0 #[.int .i64 off, u] 61 1 (by decide)
      have hbxT : y0.heap.size ∉ ((Value.slice wa d.waits.length wc).ownBlock.toList ++ (Value.slice ta d.trace.length tc).ownBlock.toList) := hno _ hszb
      clear hkz hszb
      generalize (y0.alloc (.cells #[.int .i64 off, u] 61)) = y1 at *
      refine planG_heavy _ rfl (fun K hK => ?_)
      refine (if_pos (by rfl)).mpr ?_
      have hkz : Kept y1 (y1.alloc (.cells #[.int .i64 off, u] 61)) := (Below.refl _ _).alloc (Nat.le_refl _) _
      have hszb := hc.size
      go_wp2
      refine hK _ _ (Chg.of_kept hkz) ?_
      clear hK K
      try simp only [Act.put, List.setIfInBounds_toArray, List.set_cons_zero, List.set_cons_succ]
      replace rw0 := own_kept rw0 hkz
      replace rt0 := own_kept rt0 hkz
      replace ou := own_kept ou hkz
      replace hc := hc.trans (Chg.of_kept hkz)
      replace slT := slT.kept hkz
      have slW := Sl.lit y1 #[.int .i64 off, u] 61 1 (by decide)
      have hbxW : y1.heap.size ∉ ((Value.slice wa d.waits.length wc).ownBlock.toList ++ (Value.slice ta d.trace.length tc).ownBlock.toList) := hno _ hszb
      clear hkz hszb
      generalize (y1.alloc (.cells #[.int .i64 off, u] 61)) = y2 at *
      refine planG_heavy _ rfl (fun K hK => ?_)
      refine (if_pos (by rfl)).mpr ?_
      refine wp_append3 sl_ops (by rfl) (by rfl) (by rfl) rw0 slW (by rfl) hu1 (by show d.waits.length + 1 ≤ maxLen; unfold maxLen; omega) (by show (d.waits.length + 1) * 32 ≤ 140737488355328; omega) (Nat.zero_le _) ?_
      intro vW y3 hownW hgrW hatW _
      obtain ⟨gW, cW, hve⟩ := own_some hownW (by omega)
      subst hve
      have hcx := hgrW.chgL.mono (cs := ((Value.slice wa d.waits.length wc).ownBlock.toList ++ (Value.slice ta d.trace.length tc).ownBlock.toList)) (by intro x hx; simp only [List.mem_append]; exact .inl hx)
      
      refine hK _ _ (hcx) ?_
      clear hK K
      try simp only [Act.put, List.setIfInBounds_toArray, List.set_cons_zero, List.set_cons_succ]
      have hatW2 : gW ∉ (Value.slice ta d.trace.length tc).ownBlock.toList := fun hm => by
        have hm' := mem_own.1 hm
        rcases hatW with e | e
        · exact X1.wt gW e.symm hm'
        · have h1 := own_ltV rt0 hm'
          have h2 := Option.some.inj ((show (Value.slice (some ⟨gW, 0, none⟩) (d.waits.length + 1) cW).ownBlock = some gW from rfl).symm.trans e)
          omega
      have hgW3 : (Value.slice wa d.waits.length wc).ownBlock = some gW ∨ w1.heap.size ≤ gW := by
        rcases hatW with e | e
        · exact .inl e.symm
        · right
          have h2 := Option.some.inj ((show (Value.slice (some ⟨gW, 0, none⟩) (d.waits.length + 1) cW).ownBlock = some gW from rfl).symm.trans e)
          have := hc.size
          omega
      replace rt0 := own_chgV rt0 hgrW.chgL (fun g hg hm => X1.wt g (mem_own.1 hm) hg)
      replace ou := own_chgV ou hcx hun
      replace slT := Chg.sl slT hcx (by intro a c e _; cases e; exact hbxT)
      replace hc := hc.trans hcx
      clear hcx hgrW hatW slW hbxW rw0
      refine planG_heavy _ rfl (fun K hK => ?_)
      refine (if_pos (by rfl)).mpr ?_
      refine wp_append3 sl_ops (by rfl) (by rfl) (by rfl) rt0 slT (by rfl) hu1 (by show d.trace.length + 1 ≤ maxLen; unfold maxLen; omega) (by show (d.trace.length + 1) * 32 ≤ 140737488355328; omega) (Nat.zero_le _) ?_
      intro vT y4 hownT hgrT hatT _
      obtain ⟨gT, cT, hve⟩ := own_some hownT (by omega)
      subst hve
      have hcx := hgrT.chgL.mono (cs := ((Value.slice wa d.waits.length wc).ownBlock.toList ++ (Value.slice ta d.trace.length tc).ownBlock.toList)) (by intro x hx; simp only [List.mem_append]; exact .inr hx)
      
      refine hK _ _ (hcx) ?_
      clear hK K
      try simp only [Act.put, List.setIfInBounds_toArray, List.set_cons_zero, List.set_cons_succ]
      have hne : ∀ g, (Value.slice (some ⟨gW, 0, none⟩) (d.waits.length + 1) cW).ownBlock = some g → (Value.slice (some ⟨gT, 0, none⟩) (d.trace.length + 1) cT).ownBlock ≠ some g := fun g hg e => by
        cases hg
        cases e
        rcases hatT with e | e
        · exact hatW2 (mem_own.2 e.symm)
        · have h1 := own_ltV hownW (g := gW) rfl
          have h2 : some gW = some _ := e
          have h3 := Option.some.inj h2
          omega
      have hgT3 : (Value.slice ta d.trace.length tc).ownBlock = some gT ∨ w1.heap.size ≤ gT := by
        rcases hatT with e | e
        · exact .inl e.symm
        · right
          have h2 : some gT = some _ := e
          have h3 := Option.some.inj h2
          have := hc.size
          omega
      replace hownW := own_chgV hownW hgrT.chgL (fun g hg hm => by cases hg; exact hatW2 hm)
      replace ou := own_chgV ou hcx hun
      replace hc := hc.trans hcx
      clear hcx hgrT hatT slT hbxT rt0
      refine planG_heavy _ rfl (fun K hK => ?_)
      refine (if_pos (by rfl)).mpr ?_
      go_wp2
      refine hK _ _ (Chg.refl _ _) ?_
      clear hK K
      try simp only [Act.put, List.setIfInBounds_toArray, List.set_cons_zero, List.set_cons_succ]
      refine planG_heavy _ rfl (fun K hK => ?_)
      refine (if_pos (by rfl)).mpr ?_
      go_wp2
      refine hK _ _ (Chg.refl _ _) ?_
      clear hK K
      try simp only [Act.put, List.setIfInBounds_toArray, List.set_cons_zero, List.set_cons_succ]
      refine planG_last _ rfl (fun K hK => ?_)
      refine (if_pos (by rfl)).mpr ?_
      have bk := hc.blk X1.blk hKn
      have fk := bk.free 33
      have ek := bk.cell 33
      rw [dcells_33 hll] at ek
      go_wp2
      refine hK _ _ (Chg.step (List.mem_cons_self ..) _) ?_
      clear hK K
      try simp only [Act.put, List.setIfInBounds_toArray, List.set_cons_zero, List.set_cons_succ]
      clear fk ek
      refine planG_heavy _ rfl (fun K hK => ?_)
      refine (if_pos (by rfl)).mpr ?_
      go_wp2
      refine hK _ _ (Chg.refl _ _) ?_
      clear hK K
      try simp only [Act.put, List.setIfInBounds_toArray, List.set_cons_zero, List.set_cons_succ]
      refine planG_heavy _ rfl (fun K hK => ?_)
      refine (if_pos (by rfl)).mpr ?_
      go_wp2
      refine hK _ _ (Chg.refl _ _) ?_
      clear hK K
      try simp only [Act.put, List.setIfInBounds_toArray, List.set_cons_zero, List.set_cons_succ]
      refine planG_last _ rfl (fun K hK => ?_)
      refine (if_pos (by rfl)).mpr ?_
      have bk2 := bk.set 33 (.slice (some ⟨gW, 0, none⟩) (d.waits.length + 1) cW)
      rw [dset_33 hll] at bk2
      have fk := bk2.free 34
      have ek := bk2.cell 34
      rw [dcells_34 hll] at ek
      go_wp2
      refine hK _ _ (Chg.step (List.mem_cons_self ..) _) ?_
      clear hK K
      try simp only [Act.put, List.setIfInBounds_toArray, List.set_cons_zero, List.set_cons_succ]
      clear fk ek bk2
      refine planG_nil ?_
      have X4 := RdIn.push (x := (off, bs)) X1 ok.len hc hownW hownT (own_base ou (Nat.zero_le _)) hne
      have hqK : Chg [J] y4 ((y4.setCell ⟨J, 33, none⟩ (.slice (some ⟨gW, 0, none⟩) (d.waits.length + 1) cW)).setCell ⟨J, 34, none⟩ (.slice (some ⟨gT, 0, none⟩) (d.trace.length + 1) cT)) := (Chg.step (by simp) _).trans (Chg.step (by simp) _)
      have hst := (O.sameWT hc).trans (O.sameK hqK)
      have O2 := (OffR.setW (u6 := u) (v6 := (.slice (some ⟨gW, 0, none⟩) (d.waits.length + 1) cW)) O hA1 (fun g hg => by cases hg; exact hgW3) hug)
      have O4 := OffR.setT (u6 := u) (v6 := (.slice (some ⟨gT, 0, none⟩) (d.trace.length + 1) cT)) O2 hA1 (fun g hg => by cases hg; exact hgT3) hug
      go_wp2
      go_ret
      exact ⟨rfl, ⟨_, _, _, _, X4, O4, fun k ha => Nat.lt_of_lt_of_le (hA k ha) (hsm3.trans hst).size⟩, hsm3.trans hst⟩
    


end Go.Proofs.Ytpbdncnepcibaaa
