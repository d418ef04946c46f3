/- DiskPlays: of every script each answer, all blocks, all that was done. -/
import Derived.Test.YtpbdncnepcibaaaDiskLo
import Derived.Test.YtpbdncnepcibaaaRows
namespace Go.Proofs.Ytpbdncnepcibaaa
open Go Go.RowKit

/-- bytes as a block, or as one byte less -/
def blkB (a : List UInt8) (odd : Bool) : List UInt8 := if odd then (padB a).drop 1 else padB a
theorem blkB_le (a : List UInt8) (odd : Bool) : (blkB a odd).length ≤ 1000000 := by
  unfold blkB
  split
  · have := padB_length a; simp; omega
  · have := padB_length a; omega
theorem block_any (v : Value) (a : List UInt8) (odd : Bool) (w : World) (hs : Sl w v a.length (bcells a)) : Calls Try.prog 10 #[v, .bool odd] w fun e w' => ∃ u, e = .returned u ∧ Sl w' u (blkB a odd).length (bcells (blkB a odd)) ∧ (∀ x n c, u = .slice (some x) n c → w.heap.size ≤ x.block ∧ x.block < w'.heap.size) ∧ Kept w w' := by
  cases odd
  · refine (block_even v a w hs).mono ?_
    rintro e w' ⟨g, rfl, ho, hk⟩
    refine ⟨_, rfl, by show Sl w' _ (padB a).length (bcells (padB a)); rw [padB_length]; exact Sl.of_own ho, fun x n c e => ?_, hk⟩
    cases e
    exact ⟨own_geV ho rfl, own_ltV ho rfl⟩
  · refine (block_odd v a w hs).mono ?_
    rintro e w' ⟨g, rfl, ho, hk⟩
    have hs := Sl.of_own ho
    rw [← padB_length a] at hs
    have h2 := hs.rest (n := 1) (by rw [padB_length]; omega)
    refine ⟨_, rfl, ?_, fun x n c e => ?_, hk⟩
    · have e1 : (blkB a true) = (padB a).drop 1 := rfl
      have e2 : ((padB a).drop 1).length = 31 := by simp [padB_length]
      rw [e1, e2]
      rw [padB_length, e2] at h2
      exact h2
    · cases e
      exact ⟨own_geV ho rfl, own_ltV ho rfl⟩
theorem RdAt.setNo {A : Nat → Prop} {w : World} {X q : Nat} {d : Dk} {m : Nat} (h : RdAt A w X q d) (ok : d.ok m) : (∃ c, w.cell? ⟨X, 35, none⟩ = some c) ∧ w.frozen? ⟨X, 35, none⟩ = false ∧ ∀ z, RdAt A (w.setCell ⟨X, 35, none⟩ (.bool z)) X q { d with no := z } ∧ SameOn A w (w.setCell ⟨X, 35, none⟩ (.bool z)) := by
  obtain ⟨vw, vt, us, ut, I, O, hA⟩ := h
  have hll : (d.lasts.map Str).length = 32 := by simpa using ok.len
  have c35 := I.blk.cell 35
  rw [dcells_35 hll] at c35
  refine ⟨⟨_, c35⟩, I.blk.free 35, fun z => ?_⟩
  have hs := O.sameK (Chg.step (List.mem_singleton.2 rfl) (.bool z) (o := 35) : Chg [X] w _)
  exact ⟨⟨vw, vt, us, ut, I.refuse ok.len z, O, fun k ha => Nat.lt_of_lt_of_le (hA k ha) hs.size⟩, hs⟩
theorem RdAt.trc {A : Nat → Prop} {w : World} {X q : Nat} {d : Dk} {m : Nat} (h : RdAt A w X q d) (ok : d.ok m) : ∃ vt ut, w.cell? ⟨X, 34, none⟩ = some vt ∧ OpsAt w vt d.trace ut := by
  obtain ⟨vw, vt, us, ut, I, O, hA⟩ := h
  have hll : (d.lasts.map Str).length = 32 := by simpa using ok.len
  have c34 := I.blk.cell 34
  rw [dcells_34 hll] at c34
  exact ⟨vt, ut, c34, I.trc⟩
theorem rf_cell {w : World} {q : Nat} {p : Pw} (h : RfAt w q p) : w.cell? ⟨q, 3, none⟩ = some (.int .i64 p.steps) := by
  obtain ⟨l, h, _⟩ := h
  exact (ref_cells h).2.2.2
set_option maxRecDepth 100000 in
set_option maxHeartbeats 8000000 in
theorem plays_walk (n : Nat) (f : Nat → Nat → Value) (v : Value) (w : World) (hl : Acts w v n 5 f) (hi : ∀ i, i < n → IsAct w (f i)) :
    Calls Try.prog 6 #[v] w fun e w' => e = .returned (.bool true) ∧ Kept w w' := by
  have hl0 := hl
  obtain ⟨a, cap, rfl, hn, hm, ha⟩ := hl
  go_enter Try.func6, Try.ntmps6
  go_wp2_with fail
  refine (long_any n f _ w hl0 hi).mono ?_
  rintro e w1 ⟨r, rfl, rfl, hr⟩
  cases r
  · obtain ⟨hn120, hks100⟩ := hr rfl
    clear hr
    have HKS := Lib.hid hks100
    have HI := Lib.hid hi
    have HA := Lib.hid ha
    have hn2 : (n : Int) < 120 := by omega
    have hm' : cap ≤ maxLen := hm
    clear hks100 hi ha hl0
    go_wp2_with fail
    refine (power_new _).mono ?_
    rintro e w1 ⟨rfl, p1, hk1, hz1⟩
    have HZ1 := Lib.hid hz1
    clear hz1
    have hka : Kept w1 (w1.alloc (.cells #[.bool false, .bool false, .int .i64 0, .int .i64 0] 43)) := (Below.refl _ _).alloc (Nat.le_refl _) _
    have p2 : PwAt (w1.alloc (.cells #[.bool false, .bool false, .int .i64 0, .int .i64 0] 43)) w.heap.size Pw.new := Blk.alloc p1 _
    have r2 : RfAt (w1.alloc (.cells #[.bool false, .bool false, .int .i64 0, .int .i64 0] 43)) w1.heap.size Pw.new := ⟨0, Blk.new w1 _ _, fun h => by cases h⟩
    have k2 : Kept w (w1.alloc (.cells #[.bool false, .bool false, .int .i64 0, .int .i64 0] 43)) := Kept.of hk1 hka
    have s2 : (w1.alloc (.cells #[.bool false, .bool false, .int .i64 0, .int .i64 0] 43)).heap.size = w1.heap.size + 1 := by simp
    have S2Z := Lib.hid s2
    clear s2
    go_wp2_with fail
    generalize (w1.alloc (.cells #[.bool false, .bool false, .int .i64 0, .int .i64 0] 43)) = w2 at *
    refine (disk_new w.heap.size Pw.new (Out (fun k => k = w.heap.size) w2) w2 (fun k h => h.1) (fun h => h.2 rfl) p2).mono ?_
    rintro e w3 ⟨J, rfl, S3, hk3⟩
    have hz3 := hk3.size
    have S3 : DkAt _ w3 J w.heap.size Dk.fresh := S3
    go_wp2_with fail
    refine (rd_new w1.heap.size Pw.new (Out (fun k => k = w1.heap.size) w3) w3 (fun k h => h.1) (fun h => h.2 rfl) (r2.chg (bs := []) (Chg.of_kept hk3) (by simp))).mono ?_
    rintro e w4 ⟨X, rfl, S4, hk4⟩
    have hz4 := hk4.size
    have S4 : RdAt _ w4 X w1.heap.size Dk.fresh := S4
    have hzz := HZ1.out
    have s2 := S2Z.out
    have T0 : Two w w4 J w.heap.size X w1.heap.size Dk.fresh Dk.fresh (fun k => k = w.heap.size ∨ (w2.heap.size ≤ k ∧ k < w3.heap.size)) (fun k => k = w1.heap.size ∨ (w3.heap.size ≤ k ∧ k < w4.heap.size)) := by
      have kk := Kept.of (Kept.of k2 hk3) hk4
      have hs4 : SameOn (fun _ => True) w3 w4 := SameOn.of_kept hk4
      refine ⟨DkAt.frame (A := fun _ => True) (S3.same fun k => ⟨fun h => ⟨Nat.lt_of_lt_of_le h.1 hz3, fun hf => by rcases hf with hf | hf; exact h.2 hf; have := h.1; omega⟩, fun h => ⟨Classical.byContradiction fun hn => h.2 (.inr ⟨by omega, h.1⟩), fun hf => h.2 (.inl hf)⟩⟩) hs4 (fun _ _ _ => trivial), S4.same fun k => ⟨fun h => ⟨Nat.lt_of_lt_of_le h.1 hz4, fun hf => by rcases hf with hf | hf; exact h.2 hf; have := h.1; omega⟩, fun h => ⟨Classical.byContradiction fun hn => h.2 (.inr ⟨by omega, h.1⟩), fun hf => h.2 (.inl hf)⟩⟩, ?_, ?_, ?_, kk⟩
      · intro k h1 h2; rcases h1 with h1 | h1 <;> rcases h2 with h2 | h2 <;> omega
      · intro k h1; rcases h1 with h1 | h1 <;> omega
      · intro k h1; rcases h1 with h1 | h1 <;> omega
    clear S3 S4 hk3 hk4 hka p1 p2 r2 k2 hk1 hzz s2 hz3 hz4
    obtain ⟨b, hb⟩ : ∃ b, b = w.heap.size := ⟨_, rfl⟩
    obtain ⟨q, hq⟩ : ∃ q, q = w1.heap.size := ⟨_, rfl⟩
    obtain ⟨F0, G0, T0⟩ : ∃ F0 G0, Two w w4 J w.heap.size X w1.heap.size Dk.fresh Dk.fresh F0 G0 := ⟨_, _, T0⟩
    rw [← hb, ← hq] at T0
    simp only [← hb, ← hq]
    have HB := Lib.hid hb
    clear hb hq HZ1 S2Z
    go_wp2_with fail
    go_loopw [7] (fun i wr => ∃ k : Nat, k ≤ n ∧ i = .int .i64 k ∧ ∃ d F G, Two w wr J b X q d d F G ∧ d.ok k) (fun i _ => n - (intOf i).toNat)
    case atStart => exact ⟨0, by omega, rfl, Dk.fresh, F0, G0, T0, Dk.fresh_ok⟩
    case round =>
      obtain ⟨k, hk, rfl, d, F, G, T, ok⟩ := hrel
      clear T0
      by_cases hlt : k < n
      · obtain ⟨bA, off, rfl, hbA, hcell⟩ := HA.out k hlt
        obtain ⟨⟨kd, hkd, kd0, kd1⟩, ⟨om, hom, om0, om1⟩, ⟨nm, hnm, nm0, nm1⟩, ⟨bs, h3⟩, ⟨ks, h4⟩⟩ := HI.out k hlt
        have hkl := HKS.out k hlt ks h4
        have hn3 : (k : Int) < (n : Int) := by omega
        have hn4 : (0 : Int) ≤ (k : Int) := by omega
        have x0 : wr.cell? ⟨bA, off + k * 5, none⟩ = some (f k 0) := T.bel.at (hcell 0 (by omega))
        have x1 := T.bel.at (hcell 1 (by omega))
        have x2 := T.bel.at (hcell 2 (by omega))
        have x3 := T.bel.at (hcell 3 (by omega))
        have x4 := T.bel.at (hcell 4 (by omega))
        obtain ⟨a3, c3, e3⟩ := h3.len
        obtain ⟨a4, c4, e4⟩ := h4.len
        rw [hkd] at x0
        rw [hom] at x1
        rw [hnm] at x2
        rw [e3] at x3 h3
        rw [e4] at x4 h4
        have l3 := h3.low
        have l4 := h4.low
        have hka : Kept wr (wr.alloc (.cells #[.int .i64 kd, .int .i64 om, .int .i64 nm, .slice a3 bs.length c3, .slice a4 ks.length c4] 47)) := (Below.refl _ _).alloc (Nat.le_refl _) _
        have hbx := Blk.new wr #[.int .i64 kd, .int .i64 om, .int .i64 nm, .slice a3 bs.length c3, .slice a4 ks.length c4] 47
        have hbw : w.heap.size ≤ wr.heap.size := T.bel.size
        have T1 := T.kept hka
        have hbF : ¬ F wr.heap.size := fun h => by have := T.fl _ h; omega
        have hbG : ¬ G wr.heap.size := fun h => by have := T.gl _ h; omega
        have hszB : wr.heap.size < (wr.alloc (.cells #[.int .i64 kd, .int .i64 om, .int .i64 nm, .slice a3 bs.length c3, .slice a4 ks.length c4] 47)).heap.size := by simp
        have g0 := hbx.cell 0
        have g1 := hbx.cell 1
        have g2 := hbx.cell 2
        have g3 := hbx.cell 3
        have g4 := hbx.cell 4
        clear hcell hkd hom hnm e3 e4 T
        have hok2 : d.p.ok 9223372036854775806 := ok_mono ok.pw (by omega)
        by_cases h1 : kd = 1
        · subst h1
          go_wp2_with fail
          generalize (wr.alloc (.cells #[.int .i64 1, .int .i64 om, .int .i64 nm, .slice a3 bs.length c3, .slice a4 ks.length c4] 47)) = wx at *
          refine (block_any _ bs (nm.tmod 16 == 9) _ (h3.kept T1.bel)).mono ?_
          rintro e w5 ⟨u, rfl, hsu, hug, hk5⟩
          have hyl := blkB_le bs (nm.tmod 16 == 9)
          have T5 := T1.kept hk5
          have hz5 := hk5.size
          obtain ⟨ua, uc, hve⟩ := hsu.len
          subst hve
          generalize blkB bs (nm.tmod 16 == 9) = ys at *
          clear g0 g1 g2 g3 g4 x0 x1 x2 x3 x4
          go_wp2_with fail
          refine wp_region_chainSame ((fun z => z = wr.heap.size)) [(0, 0), (1, 0), (2, 0), (3, 0), (5, 0), (6, 0), (7, 0), (8, 0), (4, 1), (9, 1), (10, 0)] (by kernel_rfl) (by kernel_rfl) ?_
          intro w6 hw6
          repeat
            refine chain_light _ rfl (fun K hK => ?_)
            first
              | (refine (if_pos (by rfl)).mpr ?_; apply Exists.intro; refine ⟨fun w' hw' => ?_, hK _ ?_⟩; (have y1 := (hw'.blk (hbx.kept (Kept.of hk5 hw6)) rfl).cell 1; go_simp; done); (clear hK K; simp only [Act.put, List.setIfInBounds_toArray, List.set_cons_zero, List.set_cons_succ]))
              | (refine (if_pos (by rfl)).mpr ?_; apply Exists.intro; refine ⟨fun w' hw' => ?_, hK _ ?_⟩; (have y1 := (hw'.blk (hbx.kept (Kept.of hk5 hw6)) rfl).cell 1; go_simp; rfl); (clear hK K; simp only [Act.put, List.setIfInBounds_toArray, List.set_cons_zero, List.set_cons_succ]))
              | (refine (if_neg (by rw [Bool.not_eq_true]; rfl)).mpr ?_; refine hK _ ?_; (clear hK K; simp only [Act.put, List.setIfInBounds_toArray, List.set_cons_zero, List.set_cons_succ]))
          refine chain_heavy _ rfl (fun K hK => ?_)
          refine (if_pos (by rfl)).mpr ?_
          go_wp2_with fail
          have T6 := T5.kept hw6
          have hz6 := hw6.size
          have hout : ∀ x n c, Value.slice ua ys.length uc = .slice (some x) n c → Out F w6 x.block := fun x n c e => by
            have h1 := hug x n c e
            exact ⟨by omega, fun h => by have := T1.fl _ h; omega⟩
          have houg : ∀ x n c, Value.slice ua ys.length uc = .slice (some x) n c → x.block < w6.heap.size ∧ ¬ G x.block := fun x n c e => by
            have h1 := hug x n c e
            exact ⟨by omega, fun h => by have := T1.gl _ h; omega⟩
          refine (disk_wr (Out F w6) J b d k (by omega) _ T6.a ok om _ ys hyl (hsu.kept hw6) (fun a c e _ => hout _ _ _ e)).mono ?_
          rintro e w7 ⟨rfl, a7, s7⟩
          go_wp2
          refine hK _ _ (s7.mono (fun z hz => by rw [hz]; exact ⟨by omega, hbF⟩)) ?_
          clear hK K
          try simp only [Act.put, List.setIfInBounds_toArray, List.set_cons_zero, List.set_cons_succ]
          refine chain_heavy _ rfl (fun K hK => ?_)
          refine (if_pos (by rfl)).mpr ?_
          go_wp2_with fail
          have T7 := T6.stepA a7 s7
          refine (rd_wr (Out G w7) X q d k (by omega) _ T7.x ok om _ ys hyl (s7.sl (hsu.kept hw6) (fun a c e _ => hout _ _ _ e)) (fun a c e _ => ⟨Nat.lt_of_lt_of_le (houg _ _ _ e).1 s7.size, (houg _ _ _ e).2⟩)).mono ?_
          rintro e w8 ⟨rfl, a8, s8⟩
          go_wp2
          refine hK _ _ (s8.mono (fun z hz => by rw [hz]; exact ⟨Nat.lt_of_lt_of_le (by omega) s7.size, hbG⟩)) ?_
          clear hK K
          try simp only [Act.put, List.setIfInBounds_toArray, List.set_cons_zero, List.set_cons_succ]
          repeat
            refine chain_light _ rfl (fun K hK => ?_)
            first
              | (refine (if_pos (by rfl)).mpr ?_; apply Exists.intro; refine ⟨fun w' hw' => ?_, hK _ ?_⟩; (go_simp; done); (clear hK K; simp only [Act.put, List.setIfInBounds_toArray, List.set_cons_zero, List.set_cons_succ]))
              | (refine (if_pos (by rfl)).mpr ?_; apply Exists.intro; refine ⟨fun w' hw' => ?_, hK _ ?_⟩; (go_simp; rfl); (clear hK K; simp only [Act.put, List.setIfInBounds_toArray, List.set_cons_zero, List.set_cons_succ]))
              | (refine (if_neg (by rw [Bool.not_eq_true]; rfl)).mpr ?_; refine hK _ ?_; (clear hK K; simp only [Act.put, List.setIfInBounds_toArray, List.set_cons_zero, List.set_cons_succ]))
          refine chain_nil ?_
          have ok2 := Dk.wr_ok ok om ys
          have T := T7.stepX a8 s8
          clear a8 s8 a7 s7 T7 T6 T5 T1 hout houg hsu hug hw6 hk5
          generalize (d.wr om ys).2 = d2 at *
          have hst := rf_cell T.x.pw
          go_wp2_with fail
          refine wp_region_chainK [(0, 0), (2, 0), (3, 0), (4, 0), (5, 0), (1, 1), (6, 0)] (by kernel_rfl) (by kernel_rfl) ?_
          intro v1 hv1
          repeat
            refine chain_light _ rfl (fun K hK => ?_)
            first
              | (refine (if_pos (by rfl)).mpr ?_; apply Exists.intro; refine ⟨fun w' hw' => ?_, hK _ ?_⟩; (have q3 := hw'.at (hv1.at hst); go_simp; done); (clear hK K; simp only [Act.put, List.setIfInBounds_toArray, List.set_cons_zero, List.set_cons_succ]))
              | (refine (if_pos (by rfl)).mpr ?_; apply Exists.intro; refine ⟨fun w' hw' => ?_, hK _ ?_⟩; (have q3 := hw'.at (hv1.at hst); go_simp; rfl); (clear hK K; simp only [Act.put, List.setIfInBounds_toArray, List.set_cons_zero, List.set_cons_succ]))
              | (refine (if_neg (by rw [Bool.not_eq_true]; rfl)).mpr ?_; refine hK _ ?_; (clear hK K; simp only [Act.put, List.setIfInBounds_toArray, List.set_cons_zero, List.set_cons_succ]))
          refine chain_heavy _ rfl (fun K hK => ?_)
          refine (if_pos (by rfl)).mpr ?_
          go_wp2_with fail
          refine (power_steps b _ _ (T.kept hv1).a.pw).mono ?_
          rintro e v2 ⟨rfl, rfl⟩
          go_wp2
          refine hK _ _ (Below.refl _ _) ?_
          clear hK K
          try simp only [Act.put, List.setIfInBounds_toArray, List.set_cons_zero, List.set_cons_succ]
          repeat
            refine chain_light _ rfl (fun K hK => ?_)
            first
              | (refine (if_pos (by rfl)).mpr ?_; apply Exists.intro; refine ⟨fun w' hw' => ?_, hK _ ?_⟩; (go_simp; done); (clear hK K; simp only [Act.put, List.setIfInBounds_toArray, List.set_cons_zero, List.set_cons_succ]))
              | (refine (if_pos (by rfl)).mpr ?_; apply Exists.intro; refine ⟨fun w' hw' => ?_, hK _ ?_⟩; (go_simp; rfl); (clear hK K; simp only [Act.put, List.setIfInBounds_toArray, List.set_cons_zero, List.set_cons_succ]))
              | (refine (if_neg (by rw [Bool.not_eq_true]; rfl)).mpr ?_; refine hK _ ?_; (clear hK K; simp only [Act.put, List.setIfInBounds_toArray, List.set_cons_zero, List.set_cons_succ]))
          refine chain_nil ?_
          go_wp2
          exact ⟨⟨k + 1, by omega, by go_num, _, _, _, T.kept hv1, ok2⟩, by simp [intOf]; omega⟩
        · by_cases h2 : kd = 2
          · subst h2
            go_wp2_with fail
            generalize (wr.alloc (.cells #[.int .i64 2, .int .i64 om, .int .i64 nm, .slice a3 bs.length c3, .slice a4 ks.length c4] 47)) = wx at *
            refine (disk_barrier (Out F wx) J b d k (by omega) _ T1.a ok d.p.spend.1 d.p.spend.2 rfl).mono ?_
            rintro e w5 ⟨rfl, a5, s5⟩
            have T5 := T1.stepA a5 s5
            clear a5 s5 g0 g1 g2 g3 g4 x0 x1 x2 x3 x4
            go_wp2_with fail
            refine (rd_barrier (Out G w5) X q d k (by omega) _ T5.x ok d.p.spend.1 d.p.spend.2 rfl).mono ?_
            rintro e w6 ⟨rfl, a6, s6⟩
            have T := T5.stepX a6 s6
            have ok2 : (d.barred d.p.spend.1 d.p.spend.2).ok (k + 1) := barred_ok2 ok rfl
            clear a6 s6 T5 T1
            generalize d.barred d.p.spend.1 d.p.spend.2 = d2 at *
            generalize d.p.spend.1 = rr at *
            have hst := rf_cell T.x.pw
            go_wp2_with fail
            refine wp_region_chainK [(0, 0), (2, 0), (3, 0), (4, 0), (5, 0), (1, 1), (6, 0)] (by kernel_rfl) (by kernel_rfl) ?_
            intro v1 hv1
            repeat
              refine chain_light _ rfl (fun K hK => ?_)
              first
                | (refine (if_pos (by rfl)).mpr ?_; apply Exists.intro; refine ⟨fun w' hw' => ?_, hK _ ?_⟩; (have q3 := hw'.at (hv1.at hst); go_simp; done); (clear hK K; simp only [Act.put, List.setIfInBounds_toArray, List.set_cons_zero, List.set_cons_succ]))
                | (refine (if_pos (by rfl)).mpr ?_; apply Exists.intro; refine ⟨fun w' hw' => ?_, hK _ ?_⟩; (have q3 := hw'.at (hv1.at hst); go_simp; rfl); (clear hK K; simp only [Act.put, List.setIfInBounds_toArray, List.set_cons_zero, List.set_cons_succ]))
                | (refine (if_neg (by rw [Bool.not_eq_true]; rfl)).mpr ?_; refine hK _ ?_; (clear hK K; simp only [Act.put, List.setIfInBounds_toArray, List.set_cons_zero, List.set_cons_succ]))
            refine chain_heavy _ rfl (fun K hK => ?_)
            refine (if_pos (by rfl)).mpr ?_
            go_wp2_with fail
            refine (power_steps b _ _ (T.kept hv1).a.pw).mono ?_
            rintro e v2 ⟨rfl, rfl⟩
            go_wp2
            refine hK _ _ (Below.refl _ _) ?_
            clear hK K
            try simp only [Act.put, List.setIfInBounds_toArray, List.set_cons_zero, List.set_cons_succ]
            repeat
              refine chain_light _ rfl (fun K hK => ?_)
              first
                | (refine (if_pos (by rfl)).mpr ?_; apply Exists.intro; refine ⟨fun w' hw' => ?_, hK _ ?_⟩; (go_simp; done); (clear hK K; simp only [Act.put, List.setIfInBounds_toArray, List.set_cons_zero, List.set_cons_succ]))
                | (refine (if_pos (by rfl)).mpr ?_; apply Exists.intro; refine ⟨fun w' hw' => ?_, hK _ ?_⟩; (go_simp; rfl); (clear hK K; simp only [Act.put, List.setIfInBounds_toArray, List.set_cons_zero, List.set_cons_succ]))
                | (refine (if_neg (by rw [Bool.not_eq_true]; rfl)).mpr ?_; refine hK _ ?_; (clear hK K; simp only [Act.put, List.setIfInBounds_toArray, List.set_cons_zero, List.set_cons_succ]))
            refine chain_nil ?_
            go_wp2
            exact ⟨⟨k + 1, by omega, by go_num, _, _, _, T.kept hv1, ok2⟩, by simp [intOf]; omega⟩
          · by_cases h3 : kd = 3
            · subst h3
              go_wp2_with fail
              generalize (wr.alloc (.cells #[.int .i64 3, .int .i64 om, .int .i64 nm, .slice a3 bs.length c3, .slice a4 ks.length c4] 47)) = wx at *
              refine (disk_rd (Out F wx) J b d k (by omega) _ T1.a ok om).mono ?_
              rintro e w5 ⟨v5, rfl, hs5, hk5⟩
              have T5 := T1.kept hk5
              have y1 := hk5.at g1
              clear g0 g1 g2 g3 g4 x0 x1 x2 x3 x4
              go_wp2_with fail
              refine (rd_rd (Out G w5) X q d k (by omega) _ T5.x ok om).mono ?_
              rintro e w6 ⟨v6, rfl, hs6, hk6⟩
              have T := T5.kept hk6
              have ok2 := ok.mono (Nat.le_succ k)
              obtain ⟨va, vc, hve⟩ := hs5.len
              subst hve
              obtain ⟨vb, vd, hve⟩ := hs6.len
              subst hve
              have e5 := str_of (hs5.kept hk6)
              have e6 := str_of hs6
              clear T5 T1 y1
              generalize (d.rd om).getD [] = Y at *
              generalize (d.rd om).isSome = rr at *
              have hst := rf_cell T.x.pw
              go_wp2_with fail
              refine wp_region_chainK [(0, 0), (2, 0), (3, 0), (4, 0), (5, 0), (1, 1), (6, 0)] (by kernel_rfl) (by kernel_rfl) ?_
              intro v1 hv1
              repeat
                refine chain_light _ rfl (fun K hK => ?_)
                first
                  | (refine (if_pos (by rfl)).mpr ?_; apply Exists.intro; refine ⟨fun w' hw' => ?_, hK _ ?_⟩; (have q3 := hw'.at (hv1.at hst); go_simp; done); (clear hK K; simp only [Act.put, List.setIfInBounds_toArray, List.set_cons_zero, List.set_cons_succ]))
                  | (refine (if_pos (by rfl)).mpr ?_; apply Exists.intro; refine ⟨fun w' hw' => ?_, hK _ ?_⟩; (have q3 := hw'.at (hv1.at hst); go_simp; rfl); (clear hK K; simp only [Act.put, List.setIfInBounds_toArray, List.set_cons_zero, List.set_cons_succ]))
                  | (refine (if_neg (by rw [Bool.not_eq_true]; rfl)).mpr ?_; refine hK _ ?_; (clear hK K; simp only [Act.put, List.setIfInBounds_toArray, List.set_cons_zero, List.set_cons_succ]))
              refine chain_heavy _ rfl (fun K hK => ?_)
              refine (if_pos (by rfl)).mpr ?_
              go_wp2_with fail
              refine (power_steps b _ _ (T.kept hv1).a.pw).mono ?_
              rintro e v2 ⟨rfl, rfl⟩
              go_wp2
              refine hK _ _ (Below.refl _ _) ?_
              clear hK K
              try simp only [Act.put, List.setIfInBounds_toArray, List.set_cons_zero, List.set_cons_succ]
              repeat
                refine chain_light _ rfl (fun K hK => ?_)
                first
                  | (refine (if_pos (by rfl)).mpr ?_; apply Exists.intro; refine ⟨fun w' hw' => ?_, hK _ ?_⟩; (go_simp; done); (clear hK K; simp only [Act.put, List.setIfInBounds_toArray, List.set_cons_zero, List.set_cons_succ]))
                  | (refine (if_pos (by rfl)).mpr ?_; apply Exists.intro; refine ⟨fun w' hw' => ?_, hK _ ?_⟩; (go_simp; rfl); (clear hK K; simp only [Act.put, List.setIfInBounds_toArray, List.set_cons_zero, List.set_cons_succ]))
                  | (refine (if_neg (by rw [Bool.not_eq_true]; rfl)).mpr ?_; refine hK _ ?_; (clear hK K; simp only [Act.put, List.setIfInBounds_toArray, List.set_cons_zero, List.set_cons_succ]))
              refine chain_nil ?_
              go_wp2
              exact ⟨⟨k + 1, by omega, by go_num, _, _, _, T.kept hv1, ok2⟩, by simp [intOf]; omega⟩
            · by_cases h4 : kd = 4
              · subst h4
                go_wp2_with fail
                generalize (wr.alloc (.cells #[.int .i64 4, .int .i64 om, .int .i64 nm, .slice a3 bs.length c3, .slice a4 ks.length c4] 47)) = wx at *
                refine (disk_crash (Out F wx) J b d k (by omega) _ T1.a ok _ ks (by omega) (h4.kept T1.bel) (fun a c e hl => (T1.offF (l4 a c e hl)).1)).mono ?_
                rintro e w5 ⟨rfl, a5, s5⟩
                have T5 := T1.stepA a5 s5
                have y4 := (s5.blk hbx ⟨hszB, hbF⟩).cell 4
                clear a5 s5 g0 g1 g2 g3 g4 x0 x1 x2 x3 x4
                go_wp2_with fail
                refine (rd_crash (Out G w5) X q d k (by omega) _ T5.x ok _ ks (by omega) (h4.kept T5.bel) (fun a c e hl => (T5.offF (l4 a c e hl)).2)).mono ?_
                rintro e w6 ⟨rfl, a6, s6⟩
                have T := T5.stepX a6 s6
                have ok2 := (Dk.settled_ok ok (isK ks)).mono (Nat.le_succ k)
                clear a6 s6 T5 T1 y4
                generalize d.settled (isK ks) = d2 at *
                have hst := rf_cell T.x.pw
                go_wp2_with fail
                refine wp_region_chainK [(0, 0), (2, 0), (3, 0), (4, 0), (5, 0), (1, 1), (6, 0)] (by kernel_rfl) (by kernel_rfl) ?_
                intro v1 hv1
                repeat
                  refine chain_light _ rfl (fun K hK => ?_)
                  first
                    | (refine (if_pos (by rfl)).mpr ?_; apply Exists.intro; refine ⟨fun w' hw' => ?_, hK _ ?_⟩; (have q3 := hw'.at (hv1.at hst); go_simp; done); (clear hK K; simp only [Act.put, List.setIfInBounds_toArray, List.set_cons_zero, List.set_cons_succ]))
                    | (refine (if_pos (by rfl)).mpr ?_; apply Exists.intro; refine ⟨fun w' hw' => ?_, hK _ ?_⟩; (have q3 := hw'.at (hv1.at hst); go_simp; rfl); (clear hK K; simp only [Act.put, List.setIfInBounds_toArray, List.set_cons_zero, List.set_cons_succ]))
                    | (refine (if_neg (by rw [Bool.not_eq_true]; rfl)).mpr ?_; refine hK _ ?_; (clear hK K; simp only [Act.put, List.setIfInBounds_toArray, List.set_cons_zero, List.set_cons_succ]))
                refine chain_heavy _ rfl (fun K hK => ?_)
                refine (if_pos (by rfl)).mpr ?_
                go_wp2_with fail
                refine (power_steps b _ _ (T.kept hv1).a.pw).mono ?_
                rintro e v2 ⟨rfl, rfl⟩
                go_wp2
                refine hK _ _ (Below.refl _ _) ?_
                clear hK K
                try simp only [Act.put, List.setIfInBounds_toArray, List.set_cons_zero, List.set_cons_succ]
                repeat
                  refine chain_light _ rfl (fun K hK => ?_)
                  first
                    | (refine (if_pos (by rfl)).mpr ?_; apply Exists.intro; refine ⟨fun w' hw' => ?_, hK _ ?_⟩; (go_simp; done); (clear hK K; simp only [Act.put, List.setIfInBounds_toArray, List.set_cons_zero, List.set_cons_succ]))
                    | (refine (if_pos (by rfl)).mpr ?_; apply Exists.intro; refine ⟨fun w' hw' => ?_, hK _ ?_⟩; (go_simp; rfl); (clear hK K; simp only [Act.put, List.setIfInBounds_toArray, List.set_cons_zero, List.set_cons_succ]))
                    | (refine (if_neg (by rw [Bool.not_eq_true]; rfl)).mpr ?_; refine hK _ ?_; (clear hK K; simp only [Act.put, List.setIfInBounds_toArray, List.set_cons_zero, List.set_cons_succ]))
                refine chain_nil ?_
                go_wp2
                exact ⟨⟨k + 1, by omega, by go_num, _, _, _, T.kept hv1, ok2⟩, by simp [intOf]; omega⟩
              · by_cases h5 : kd = 5
                · subst h5
                  go_wp2_with fail
                  generalize (wr.alloc (.cells #[.int .i64 5, .int .i64 om, .int .i64 nm, .slice a3 bs.length c3, .slice a4 ks.length c4] 47)) = wx at *
                  refine (disk_refuse (Out F wx) J b d k _ T1.a ok (nm.tmod 3 == 0)).mono ?_
                  rintro e w5 ⟨rfl, a5, s5⟩
                  have T5 := T1.stepA a5 s5
                  have y2 := (s5.blk hbx ⟨hszB, hbF⟩).cell 2
                  obtain ⟨⟨cz, ez⟩, fz, hset⟩ := T5.x.setNo ok
                  have T := T5.stepX (hset (nm.tmod 3 == 0)).1 (hset (nm.tmod 3 == 0)).2
                  have ok2 := (ok.refuse (nm.tmod 3 == 0)).mono (Nat.le_succ k)
                  have hst := rf_cell T.x.pw
                  have hpa := T.a.pw
                  clear a5 s5 g0 g1 g2 g3 g4 x0 x1 x2 x3 x4 hset T5 T1
                  go_wp2_with fail
                  generalize (w5.setCell ⟨X, 35, none⟩ (.bool (nm.tmod 3 == 0))) = w6 at *
                  generalize (nm.tmod 3 == 0) = zz at *
                  refine wp_region_chainK [(0, 0), (2, 0), (3, 0), (4, 0), (5, 0), (1, 1), (6, 0)] (by kernel_rfl) (by kernel_rfl) ?_
                  intro v1 hv1
                  repeat
                    refine chain_light _ rfl (fun K hK => ?_)
                    first
                      | (refine (if_pos (by rfl)).mpr ?_; apply Exists.intro; refine ⟨fun w' hw' => ?_, hK _ ?_⟩; (have q3 := hw'.at (hv1.at hst); go_simp; done); (clear hK K; simp only [Act.put, List.setIfInBounds_toArray, List.set_cons_zero, List.set_cons_succ]))
                      | (refine (if_pos (by rfl)).mpr ?_; apply Exists.intro; refine ⟨fun w' hw' => ?_, hK _ ?_⟩; (have q3 := hw'.at (hv1.at hst); go_simp; rfl); (clear hK K; simp only [Act.put, List.setIfInBounds_toArray, List.set_cons_zero, List.set_cons_succ]))
                      | (refine (if_neg (by rw [Bool.not_eq_true]; rfl)).mpr ?_; refine hK _ ?_; (clear hK K; simp only [Act.put, List.setIfInBounds_toArray, List.set_cons_zero, List.set_cons_succ]))
                  refine chain_heavy _ rfl (fun K hK => ?_)
                  refine (if_pos (by rfl)).mpr ?_
                  go_wp2_with fail
                  refine (power_steps b _ _ (T.kept hv1).a.pw).mono ?_
                  rintro e v2 ⟨rfl, rfl⟩
                  go_wp2
                  refine hK _ _ (Below.refl _ _) ?_
                  clear hK K
                  try simp only [Act.put, List.setIfInBounds_toArray, List.set_cons_zero, List.set_cons_succ]
                  repeat
                    refine chain_light _ rfl (fun K hK => ?_)
                    first
                      | (refine (if_pos (by rfl)).mpr ?_; apply Exists.intro; refine ⟨fun w' hw' => ?_, hK _ ?_⟩; (go_simp; done); (clear hK K; simp only [Act.put, List.setIfInBounds_toArray, List.set_cons_zero, List.set_cons_succ]))
                      | (refine (if_pos (by rfl)).mpr ?_; apply Exists.intro; refine ⟨fun w' hw' => ?_, hK _ ?_⟩; (go_simp; rfl); (clear hK K; simp only [Act.put, List.setIfInBounds_toArray, List.set_cons_zero, List.set_cons_succ]))
                      | (refine (if_neg (by rw [Bool.not_eq_true]; rfl)).mpr ?_; refine hK _ ?_; (clear hK K; simp only [Act.put, List.setIfInBounds_toArray, List.set_cons_zero, List.set_cons_succ]))
                  refine chain_nil ?_
                  go_wp2
                  exact ⟨⟨k + 1, by omega, by go_num, _, _, _, T.kept hv1, ok2⟩, by simp [intOf]; omega⟩
                · by_cases h6 : kd = 6
                  · subst h6
                    go_wp2_with fail
                    generalize (wr.alloc (.cells #[.int .i64 6, .int .i64 om, .int .i64 nm, .slice a3 bs.length c3, .slice a4 ks.length c4] 47)) = wx at *
                    refine (power_fuse b d.p nm _ T1.a.pw).mono ?_
                    rintro e w5 ⟨rfl, p5, g5⟩
                    have T5 := T1.powA g5 p5
                    have hs5 : SameOn (Out F wx) wx w5 := SameOn.of_chg (Chg.of_grown g5) (by intro x hx; rw [List.mem_singleton.1 hx]; exact T1.a.off.1)
                    have y2 := (hs5.blk hbx ⟨hszB, hbF⟩).cell 2
                    obtain ⟨l5, r5, _⟩ := T5.x.pw
                    clear g0 g1 g2 g3 g4 x0 x1 x2 x3 x4 p5 g5 hs5
                    go_wp2_with fail
                    refine (ref_fuse q d.p l5 nm _ r5).mono ?_
                    rintro e w6 ⟨rfl, p6, g6⟩
                    have T := T5.powX g6 ⟨nm, p6, fun _ => rfl⟩
                    have ok2 : ({ d with p := d.p.setFuse nm } : Dk).ok (k + 1) := (ok.mono (Nat.le_succ k)).pow (fuse_ok (ok_mono ok.pw (by omega)) nm nm1)
                    clear p6 g6 T5 T1 y2 r5
                    generalize d.p.setFuse nm = pf at *
                    generalize ({ d with p := pf } : Dk) = d2 at *
                    have hst := rf_cell T.x.pw
                    go_wp2_with fail
                    refine wp_region_chainK [(0, 0), (2, 0), (3, 0), (4, 0), (5, 0), (1, 1), (6, 0)] (by kernel_rfl) (by kernel_rfl) ?_
                    intro v1 hv1
                    repeat
                      refine chain_light _ rfl (fun K hK => ?_)
                      first
                        | (refine (if_pos (by rfl)).mpr ?_; apply Exists.intro; refine ⟨fun w' hw' => ?_, hK _ ?_⟩; (have q3 := hw'.at (hv1.at hst); go_simp; done); (clear hK K; simp only [Act.put, List.setIfInBounds_toArray, List.set_cons_zero, List.set_cons_succ]))
                        | (refine (if_pos (by rfl)).mpr ?_; apply Exists.intro; refine ⟨fun w' hw' => ?_, hK _ ?_⟩; (have q3 := hw'.at (hv1.at hst); go_simp; rfl); (clear hK K; simp only [Act.put, List.setIfInBounds_toArray, List.set_cons_zero, List.set_cons_succ]))
                        | (refine (if_neg (by rw [Bool.not_eq_true]; rfl)).mpr ?_; refine hK _ ?_; (clear hK K; simp only [Act.put, List.setIfInBounds_toArray, List.set_cons_zero, List.set_cons_succ]))
                    refine chain_heavy _ rfl (fun K hK => ?_)
                    refine (if_pos (by rfl)).mpr ?_
                    go_wp2_with fail
                    refine (power_steps b _ _ (T.kept hv1).a.pw).mono ?_
                    rintro e v2 ⟨rfl, rfl⟩
                    go_wp2
                    refine hK _ _ (Below.refl _ _) ?_
                    clear hK K
                    try simp only [Act.put, List.setIfInBounds_toArray, List.set_cons_zero, List.set_cons_succ]
                    repeat
                      refine chain_light _ rfl (fun K hK => ?_)
                      first
                        | (refine (if_pos (by rfl)).mpr ?_; apply Exists.intro; refine ⟨fun w' hw' => ?_, hK _ ?_⟩; (go_simp; done); (clear hK K; simp only [Act.put, List.setIfInBounds_toArray, List.set_cons_zero, List.set_cons_succ]))
                        | (refine (if_pos (by rfl)).mpr ?_; apply Exists.intro; refine ⟨fun w' hw' => ?_, hK _ ?_⟩; (go_simp; rfl); (clear hK K; simp only [Act.put, List.setIfInBounds_toArray, List.set_cons_zero, List.set_cons_succ]))
                        | (refine (if_neg (by rw [Bool.not_eq_true]; rfl)).mpr ?_; refine hK _ ?_; (clear hK K; simp only [Act.put, List.setIfInBounds_toArray, List.set_cons_zero, List.set_cons_succ]))
                    refine chain_nil ?_
                    go_wp2
                    exact ⟨⟨k + 1, by omega, by go_num, _, _, _, T.kept hv1, ok2⟩, by simp [intOf]; omega⟩
                  · go_wp2_with fail
                    generalize (wr.alloc (.cells #[.int .i64 kd, .int .i64 om, .int .i64 nm, .slice a3 bs.length c3, .slice a4 ks.length c4] 47)) = wx at *
                    refine (power_back b d.p _ T1.a.pw).mono ?_
                    rintro e w5 ⟨rfl, p5, g5⟩
                    have T5 := T1.powA g5 p5
                    obtain ⟨l5, r5, _⟩ := T5.x.pw
                    clear g0 g1 g2 g3 g4 x0 x1 x2 x3 x4 p5 g5
                    go_wp2_with fail
                    refine (ref_back q d.p l5 _ r5).mono ?_
                    rintro e w6 ⟨rfl, p6, g6⟩
                    have T := T5.powX g6 ⟨l5, p6, fun h => by cases h⟩
                    have ok2 : ({ d with p := d.p.back } : Dk).ok (k + 1) := (ok.mono (Nat.le_succ k)).pow (back_ok (ok_mono ok.pw (by omega)))
                    clear p6 g6 T5 T1 r5
                    generalize ({ d with p := d.p.back } : Dk) = d2 at *
                    have hst := rf_cell T.x.pw
                    go_wp2_with fail
                    refine wp_region_chainK [(0, 0), (2, 0), (3, 0), (4, 0), (5, 0), (1, 1), (6, 0)] (by kernel_rfl) (by kernel_rfl) ?_
                    intro v1 hv1
                    repeat
                      refine chain_light _ rfl (fun K hK => ?_)
                      first
                        | (refine (if_pos (by rfl)).mpr ?_; apply Exists.intro; refine ⟨fun w' hw' => ?_, hK _ ?_⟩; (have q3 := hw'.at (hv1.at hst); go_simp; done); (clear hK K; simp only [Act.put, List.setIfInBounds_toArray, List.set_cons_zero, List.set_cons_succ]))
                        | (refine (if_pos (by rfl)).mpr ?_; apply Exists.intro; refine ⟨fun w' hw' => ?_, hK _ ?_⟩; (have q3 := hw'.at (hv1.at hst); go_simp; rfl); (clear hK K; simp only [Act.put, List.setIfInBounds_toArray, List.set_cons_zero, List.set_cons_succ]))
                        | (refine (if_neg (by rw [Bool.not_eq_true]; rfl)).mpr ?_; refine hK _ ?_; (clear hK K; simp only [Act.put, List.setIfInBounds_toArray, List.set_cons_zero, List.set_cons_succ]))
                    refine chain_heavy _ rfl (fun K hK => ?_)
                    refine (if_pos (by rfl)).mpr ?_
                    go_wp2_with fail
                    refine (power_steps b _ _ (T.kept hv1).a.pw).mono ?_
                    rintro e v2 ⟨rfl, rfl⟩
                    go_wp2
                    refine hK _ _ (Below.refl _ _) ?_
                    clear hK K
                    try simp only [Act.put, List.setIfInBounds_toArray, List.set_cons_zero, List.set_cons_succ]
                    repeat
                      refine chain_light _ rfl (fun K hK => ?_)
                      first
                        | (refine (if_pos (by rfl)).mpr ?_; apply Exists.intro; refine ⟨fun w' hw' => ?_, hK _ ?_⟩; (go_simp; done); (clear hK K; simp only [Act.put, List.setIfInBounds_toArray, List.set_cons_zero, List.set_cons_succ]))
                        | (refine (if_pos (by rfl)).mpr ?_; apply Exists.intro; refine ⟨fun w' hw' => ?_, hK _ ?_⟩; (go_simp; rfl); (clear hK K; simp only [Act.put, List.setIfInBounds_toArray, List.set_cons_zero, List.set_cons_succ]))
                        | (refine (if_neg (by rw [Bool.not_eq_true]; rfl)).mpr ?_; refine hK _ ?_; (clear hK K; simp only [Act.put, List.setIfInBounds_toArray, List.set_cons_zero, List.set_cons_succ]))
                    refine chain_nil ?_
                    go_wp2
                    exact ⟨⟨k + 1, by omega, by go_num, _, _, _, T.kept hv1, ok2⟩, by simp [intOf]; omega⟩
      · have hkn : k = n := by omega
        subst hkn
        go_wp2_with fail
        refine (power_back b d.p _ T.a.pw).mono ?_
        rintro e w5 ⟨rfl, p5, g5⟩
        have T5 := T.powA g5 p5
        obtain ⟨l5, r5, _⟩ := T5.x.pw
        clear p5 g5
        go_wp2_with fail
        refine (ref_back q d.p l5 _ r5).mono ?_
        rintro e w6 ⟨rfl, p6, g6⟩
        have TT := T5.powX g6 ⟨l5, p6, fun h => by cases h⟩
        have ok2 : ({ d with p := d.p.back } : Dk).ok 120 := (ok.mono (by omega)).pow (back_ok (ok_mono ok.pw (by omega)))
        have hgone : ({ d with p := d.p.back } : Dk).p.gone = false := rfl
        clear p6 g6 T5 T r5
        obtain ⟨F2, G2, T⟩ : ∃ F2 G2, Two w w6 J b X q ({ d with p := d.p.back } : Dk) ({ d with p := d.p.back } : Dk) F2 G2 := ⟨_, _, TT⟩
        clear TT
        generalize ({ d with p := d.p.back } : Dk) = d2 at *
        have HG := Lib.hid hgone
        clear hgone
        go_wp2_with fail
        go_loopw [14] (fun i wr => ∃ j : Nat, j ≤ 32 ∧ i = .int .i64 j ∧ Two w wr J b X q d2 d2 F2 G2) (fun i _ => 32 - (intOf i).toNat)
        case atStart => exact ⟨0, by omega, rfl, T⟩
        case round =>
          obtain ⟨j, hj, rfl, Tr⟩ := hrel
          clear T
          by_cases hj32 : j < 32
          · have n1 : (j : Int) < 32 := by omega
            have n2 : (0 : Int) ≤ (j : Int) := by omega
            go_wp2_with fail
            refine (disk_rd (Out F2 _) J b d2 120 (by omega) _ Tr.a ok2 j).mono ?_
            rintro e w7 ⟨v7, rfl, hs7, hk7⟩
            have T7 := Tr.kept hk7
            clear Tr
            go_wp2_with fail
            refine (rd_rd (Out G2 w7) X q d2 120 (by omega) _ T7.x ok2 j).mono ?_
            rintro e w8 ⟨v8, rfl, hs8, hk8⟩
            have T := T7.kept hk8
            obtain ⟨va, vc, hve⟩ := hs7.len
            subst hve
            obtain ⟨vb, vd, hve⟩ := hs8.len
            subst hve
            have e5 := str_of (hs7.kept hk8)
            have e6 := str_of hs8
            clear T7
            generalize (d2.rd j).getD [] = Y at *
            generalize (d2.rd j).isSome = rr at *
            go_wp2
            exact ⟨⟨j + 1, by omega, by go_num, T⟩, by simp [intOf]; omega⟩
          · have hjj : j = 32 := by omega
            have HJ := Lib.hid hjj
            have T := Tr
            clear hjj Tr
            obtain ⟨vt, ut, c34, txt⟩ := T.x.trc ok2
            obtain ⟨tax, tcx, hve⟩ := txt.slice
            subst hve
            go_wp2_with fail
            refine wp_region_chainK [(0, 0), (1, 0), (2, 0), (3, 0), (5, 0), (6, 0), (7, 0), (8, 0), (4, 1), (9, 1), (10, 0), (11, 0), (12, 1), (13, 0), (14, 0)] (by kernel_rfl) (by kernel_rfl) ?_
            intro v1 hv1
            repeat
              refine chain_light _ rfl (fun K hK => ?_)
              first
                | (refine (if_pos (by rfl)).mpr ?_; apply Exists.intro; refine ⟨fun w' hw' => ?_, hK _ ?_⟩; (have q1 := hw'.at (hv1.at c34); go_simp; done); (clear hK K; simp only [Act.put, List.setIfInBounds_toArray, List.set_cons_zero, List.set_cons_succ]))
                | (refine (if_pos (by rfl)).mpr ?_; apply Exists.intro; refine ⟨fun w' hw' => ?_, hK _ ?_⟩; (have q1 := hw'.at (hv1.at c34); go_simp; rfl); (clear hK K; simp only [Act.put, List.setIfInBounds_toArray, List.set_cons_zero, List.set_cons_succ]))
                | (refine (if_neg (by rw [Bool.not_eq_true]; rfl)).mpr ?_; refine hK _ ?_; (clear hK K; simp only [Act.put, List.setIfInBounds_toArray, List.set_cons_zero, List.set_cons_succ]))
            refine chain_heavy _ rfl (fun K hK => ?_)
            refine (if_pos (by rfl)).mpr ?_
            go_wp2_with fail
            refine (disk_trace (Out F2 v1) J b d2 120 (by omega) _ (T.kept hv1).a ok2).mono ?_
            rintro e v2 ⟨tv, us2, rfl, t2, hk2, _, _⟩
            obtain ⟨ta2, tc2, hve⟩ := t2.slice
            subst hve
            go_wp2
            refine hK _ _ (hk2) ?_
            clear hK K
            try simp only [Act.put, List.setIfInBounds_toArray, List.set_cons_zero, List.set_cons_succ]
            refine chain_heavy _ rfl (fun K hK => ?_)
            refine (if_pos (by rfl)).mpr ?_
            go_wp2_with fail
            refine (same_ops _ _ _ _ _ (by have := ok2.done; omega) _ t2 ((txt.kept hv1).kept hk2)).mono ?_
            rintro e v3 ⟨rfl, hk3⟩
            go_wp2
            refine hK _ _ (hk3) ?_
            clear hK K
            try simp only [Act.put, List.setIfInBounds_toArray, List.set_cons_zero, List.set_cons_succ]
            repeat
              refine chain_light _ rfl (fun K hK => ?_)
              first
                | (refine (if_pos (by rfl)).mpr ?_; apply Exists.intro; refine ⟨fun w' hw' => ?_, hK _ ?_⟩; (go_simp; done); (clear hK K; simp only [Act.put, List.setIfInBounds_toArray, List.set_cons_zero, List.set_cons_succ]))
                | (refine (if_pos (by rfl)).mpr ?_; apply Exists.intro; refine ⟨fun w' hw' => ?_, hK _ ?_⟩; (go_simp; rfl); (clear hK K; simp only [Act.put, List.setIfInBounds_toArray, List.set_cons_zero, List.set_cons_succ]))
                | (refine (if_neg (by rw [Bool.not_eq_true]; rfl)).mpr ?_; refine hK _ ?_; (clear hK K; simp only [Act.put, List.setIfInBounds_toArray, List.set_cons_zero, List.set_cons_succ]))
            refine chain_heavy _ rfl (fun K hK => ?_)
            refine (if_pos (by rfl)).mpr ?_
            go_wp2_with fail
            refine (disk_known _).mono ?_
            rintro e v4 ⟨rfl, hk4⟩
            go_wp2
            refine hK _ _ (hk4) ?_
            clear hK K
            try simp only [Act.put, List.setIfInBounds_toArray, List.set_cons_zero, List.set_cons_succ]
            repeat
              refine chain_light _ rfl (fun K hK => ?_)
              first
                | (refine (if_pos (by rfl)).mpr ?_; apply Exists.intro; refine ⟨fun w' hw' => ?_, hK _ ?_⟩; (go_simp; done); (clear hK K; simp only [Act.put, List.setIfInBounds_toArray, List.set_cons_zero, List.set_cons_succ]))
                | (refine (if_pos (by rfl)).mpr ?_; apply Exists.intro; refine ⟨fun w' hw' => ?_, hK _ ?_⟩; (go_simp; rfl); (clear hK K; simp only [Act.put, List.setIfInBounds_toArray, List.set_cons_zero, List.set_cons_succ]))
                | (refine (if_neg (by rw [Bool.not_eq_true]; rfl)).mpr ?_; refine hK _ ?_; (clear hK K; simp only [Act.put, List.setIfInBounds_toArray, List.set_cons_zero, List.set_cons_succ]))
            refine chain_nil ?_
            go_wp2
            go_ret
            exact ⟨rfl, (T.kept (Kept.of (Kept.of (Kept.of hv1 hk2) hk3) hk4)).bel⟩
  · go_wp2
    go_ret
    exact ⟨rfl, Below.refl _ _⟩


namespace diskPlaysRow
open Go.ChangeShapes Go.WideShapes Go.ChangeAt Go.RowKit
theorem own : ownKnob Try.prog.godebug = none := by kernel_rfl
theorem laidOut : laidOutB Try.prog = true := by kernel_rfl

set_option maxRecDepth 100000 in
theorem lifted (os : Os) (started : os.Started) (H : Type) (enc : TypeId × Value → H) :
    ReturnsInHanded {} Try.checked os 6 .any (Rows.diskPlaysSpec.pre6 enc Try.prog Try.f6 Rows.diskPlaysRow.domain false) (Rows.diskPlaysSpec.post enc Try.prog Try.f6 false true false false) := by
  refine returnsInHanded_of_change (C := Try.checked) own started (by kernel_rfl) Try.func6
    (ChangeSpec.witness6 (enc := enc) (C := Try.checked) false ⟨#[], #[.slice none 0 0], []⟩ 8 (by kernel_rfl) (by kernel_rfl) (by kernel_rfl) (by kernel_rfl)) ?_
  intro W base args ds gs before hval0 hW _ hsz
  have hval : ∀ (j : Nat) t v, Try.f6.params[j]? = some t → args[j]? = some v → Value.okWide Try.prog W .any base t v := hval0
  have hW' := hW
  obtain ⟨p, q, hA0, hV, rfl, hfz, hnd⟩ := hW
  have hA : DataW.TrodAll enc Try.prog W 0 (fun _ => true) true Try.f6.params.toList args.toList ds p := hA0
  rw [Try.params6] at hA hval
  obtain ⟨v0, vs0, d0, ds0, p0, q0, hargs, rfl, rfl, h0, r0⟩ := trodAll_cons hA
  obtain ⟨rfl, rfl, rfl⟩ := trodAll_nil r0
  obtain rfl : args = #[v0] := by cases args; simp_all
  obtain ⟨n0, f0, a0, t0⟩ := open_acts (e := 47) (H := H) Try.underlying39 Try.underlying47 (by kernel_rfl) (by kernel_rfl) (by decide) (hval 0 39 v0 rfl rfl) h0
  have i0 : ∀ i, i < n0 → IsAct W (f0 i) := by
    intro i hi
    refine ⟨?_, ?_, ?_, ?_, ?_⟩
    · obtain ⟨fu, y, h⟩ := t0 i hi 0 _ rfl; exact acts_int Try.underlying3 h
    · obtain ⟨fu, y, h⟩ := t0 i hi 1 _ rfl; exact acts_int Try.underlying3 h
    · obtain ⟨fu, y, h⟩ := t0 i hi 2 _ rfl; exact acts_int Try.underlying3 h
    · obtain ⟨fu, y, h⟩ := t0 i hi 3 _ rfl; exact acts_bytes (e := 5) Try.underlying22 Try.underlying5 (by kernel_rfl) h
    · obtain ⟨fu, y, h⟩ := t0 i hi 4 _ rfl; exact acts_bools (e := 4) Try.underlying33 Try.underlying4 (by kernel_rfl) h
  refine (plays_walk n0 f0 v0 W a0 i0).mono fun e W' ⟨he, bel⟩ => ?_
  subst he
  exact ⟨_, rfl, law_post (tb := 4) laidOut (by kernel_rfl) Try.underlying4 (by rfl) rfl (by intro xs hxs; match xs, hxs with | [x0], _ => rfl) hW' bel⟩

theorem over : Rows.diskPlaysRow.holds Try.pinned (OpenSpec.ofChange Rows.diskPlaysSpec) :=
  OpenClaim.holds_of_wide 6 Try.f6 rfl rfl rfl rfl rfl rfl rfl ⟨rfl, rfl, rfl, rfl, rfl⟩ rfl rfl rfl rfl rfl (by kernel_rfl) Try.func6 (by kernel_rfl)
    (of_decide_eq_true (by kernel_rfl)) (by unfold Func.isWrapper; rw [if_neg (of_decide_eq_false (by kernel_rfl))]; exact ⟨rfl, rfl⟩)
    (fun os started H enc _ => lifted os started H enc)
end diskPlaysRow

theorem diskPlays_holds : Rows.DiskPlaysSaid := diskPlaysRow.over
#print axioms diskPlays_holds

end Go.Proofs.Ytpbdncnepcibaaa
