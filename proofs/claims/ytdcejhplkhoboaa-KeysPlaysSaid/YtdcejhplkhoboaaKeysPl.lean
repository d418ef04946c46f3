/- KeysPlays: of every script each answer, all epochs, each key. -/
import Derived.Test.YtdcejhplkhoboaaKeysS
import Derived.Test.YtdcejhplkhoboaaActsW
import Derived.Test.YtdcejhplkhoboaaRows
namespace Go.Proofs.Ytdcejhplkhoboaa
open Go Go.RowKit

set_option maxRecDepth 100000 in
set_option maxHeartbeats 4000000 in
theorem plays_walk (seed : BitVec 64) (n : Nat) (f : Nat → Nat → Value) (v : Value) (w : World) (hl : Acts w v n 3 f) (hi : ∀ i, i < n → (∃ m, f i 0 = .int .i64 m ∧ -9223372036854775808 ≤ m ∧ m ≤ 9223372036854775807) ∧ IsW (f i 1) ∧ (∃ m, f i 2 = .int .i64 m ∧ -9223372036854775808 ≤ m ∧ m ≤ 9223372036854775807)) :
    Calls Try.prog 6 #[U seed, v] w fun e w' => e = .returned (.bool true) ∧ Kept w w' := by
  obtain ⟨a, cap, rfl, hn, hm, ha⟩ := hl
  by_cases hn150 : 150 < n
  · have hn2 : 150 < (n : Int) := by omega
    go_enter Try.func6, Try.ntmps6
    go_wp2
    go_ret
    exact ⟨rfl, Below.refl _ _⟩
  have hn2 : ¬ 150 < (n : Int) := by omega
  have hm' : cap ≤ maxLen := hm
  go_enter Try.func6, Try.ntmps6
  go_wp2_with fail
  refine (power_new _).mono ?_
  rintro e w1 ⟨rfl, p1, hk1, hz1⟩
  have HZ1 := Lib.hid hz1
  clear hz1
  have hka : Kept w1 (w1.alloc (.cells #[.bool false, .bool false, .int .i64 0, .int .i64 0] 44)) := (Below.refl _ _).alloc (Nat.le_refl _) _
  have p2 : PwAt (w1.alloc (.cells #[.bool false, .bool false, .int .i64 0, .int .i64 0] 44)) w.heap.size Pw.new := Blk.alloc p1 _
  have r2 : RefAt (w1.alloc (.cells #[.bool false, .bool false, .int .i64 0, .int .i64 0] 44)) w1.heap.size Pw.new 0 := Blk.new w1 _ _
  have k2 : Kept w (w1.alloc (.cells #[.bool false, .bool false, .int .i64 0, .int .i64 0] 44)) := Kept.of hk1 hka
  have s2 : w1.heap.size < (w1.alloc (.cells #[.bool false, .bool false, .int .i64 0, .int .i64 0] 44)).heap.size := by simp
  go_wp2_with fail
  generalize (w1.alloc (.cells #[.bool false, .bool false, .int .i64 0, .int .i64 0] 44)) = w2 at *
  refine (keys_new seed _ _).mono ?_
  rintro e w3 ⟨rfl, ka3, hk3, hz3⟩
  go_wp2_with fail
  refine (rkeys_new seed _ _).mono ?_
  rintro e w4 ⟨rfl, xa4, hk4, hz4⟩
  have B : Both w w4 w.heap.size (w2.heap.size + 1) w2.heap.size w1.heap.size (w3.heap.size + 1) w3.heap.size seed [1#32] [1#32] Pw.new Pw.new 0 1 1 := by
    have s1 := hk1.size
    have hz1 := HZ1.out
    have kk := Kept.of (Kept.of k2 hk3) hk4
    exact ⟨Blk.kept (Blk.kept p2 hk3) hk4, Blk.kept (Blk.kept r2 hk3) hk4, ka3.kept hk4, xa4, by omega, ⟨by omega, by omega, by omega, kk, kk.size⟩, ⟨by omega, by omega, by omega, kk, kk.size⟩⟩
  clear ka3 hk3 xa4 hk4 hk1 hka p1 p2 r2 k2 s2
  generalize hb : w.heap.size = b at *
  obtain ⟨K, hK⟩ : ∃ K, K = w2.heap.size + 1 := ⟨_, rfl⟩
  obtain ⟨g, hg⟩ : ∃ g, g = w2.heap.size := ⟨_, rfl⟩
  obtain ⟨q, hq⟩ : ∃ q, q = w1.heap.size := ⟨_, rfl⟩
  obtain ⟨X, hX⟩ : ∃ X, X = w3.heap.size + 1 := ⟨_, rfl⟩
  obtain ⟨h, hh⟩ : ∃ h, h = w3.heap.size := ⟨_, rfl⟩
  rw [← hK, ← hg, ← hq, ← hX, ← hh] at B
  simp only [← hK, ← hq, ← hX]
  clear hK hg hq hX hh hz3 hz4 HZ1
  have HB := Lib.hid hb
  clear hb
  go_wp2_with fail
  go_loopw [9] (fun i wr => ∃ k : Nat, k ≤ n ∧ i = .int .i64 k ∧ ∃ g h l p m cap cap2, Both w wr b K g q X h seed l l p p m cap cap2 ∧ Fine l k ∧ Twin p m ∧ p.ok k) (fun i _ => n - (intOf i).toNat)
  case atStart => exact ⟨0, by omega, rfl, g, h, [1#32], Pw.new, 0, 1, 1, B, fine_one, (fun h => by cases h), new_ok⟩
  case round =>
    obtain ⟨k, hk, rfl, g, h, l, p, m, cp, cp2, B, F, tk, ok⟩ := hrel
    by_cases hlt : k < n
    · obtain ⟨bA, off, rfl, hbA, hcell⟩ := ha k hlt
      obtain ⟨⟨kd, hkd, kd0, kd1⟩, ⟨ep, hep⟩, ⟨nm, hnm, nm0, nm1⟩⟩ := hi k hlt
      have hn3 : (k : Int) < (n : Int) := by omega
      have hn4 : (0 : Int) ≤ (k : Int) := by omega
      have x0 := (B.own.below.cell (p := ⟨bA, off + k * 3, none⟩) (by show bA < w.heap.size; rw [HB.out]; exact hbA)).trans (hcell 0 (by omega))
      have x1 := (B.own.below.cell (p := ⟨bA, off + k * 3 + 1, none⟩) (by show bA < w.heap.size; rw [HB.out]; exact hbA)).trans (hcell 1 (by omega))
      have x2 := (B.own.below.cell (p := ⟨bA, off + k * 3 + 2, none⟩) (by show bA < w.heap.size; rw [HB.out]; exact hbA)).trans (hcell 2 (by omega))
      rw [hkd] at x0
      rw [hep] at x1
      rw [hnm] at x2
      have C2 := Lib.hid (show w.cell? ⟨bA, off + k * 3 + 2, none⟩ = some (.int .i64 nm) from (hcell 2 (by omega)).trans (by rw [hnm]))
      have HX := Lib.hid hcell
      have HI := Lib.hid hi
      have HA := Lib.hid ha
      clear hi hcell hkd hep hnm ha
      have hok2 : p.ok 9223372036854775806 := ok_mono ok (by omega)
      by_cases h1 : kd = 1
      · subst h1
        obtain ⟨r, p', hsp⟩ : ∃ r p', p.spend = (r, p') := ⟨_, _, rfl⟩
        have oq : p'.ok ((k + 1 : Nat) : Int) := by have := spend_ok ok; rw [hsp] at this; exact ok_mono this (by omega)
        have HS := Lib.hid hsp
        clear hsp
        go_wp2_with fail
        refine (add_any K b g seed l cp p p' r F.pos (by have := F.len; omega) _ B.ka B.pw hok2 HS.out).mono ?_
        rintro e w5 ⟨g5, cap5, rfl, p5, k5, hg5, c5⟩
        have B5 := B.stepP c5 hg5 p5 k5
        clear B c5 hg5 p5 k5
        go_wp2_with fail
        refine (radd_any X q h seed l cp2 p p' r m F.pos (by have := F.len; omega) _ B5.xa B5.rf tk hok2 HS.out).mono ?_
        rintro e w6 ⟨h5, cap6, rfl, ⟨m5, p6, T⟩, k6, hg6, c6⟩
        have B := B5.stepX c6 hg6 p6 k6
        have F := F.add (by omega) r
        clear B5 c6 hg6 p6 k6 ok tk
        go_wp2_with fail
        refine wp_region_chainK [(0, 0), (2, 0), (1, 1), (3, 1), (4, 0), (5, 0), (6, 0), (8, 0), (9, 0), (10, 0), (11, 0), (7, 1), (12, 1), (13, 0), (14, 0)] (by kernel_rfl) (by kernel_rfl) ?_
        intro w7 hw7
        repeat
          refine chain_light _ rfl (fun K hK => ?_)
          first
            | (refine (if_pos (by rfl)).mpr ?_; apply Exists.intro; refine ⟨fun w' hw' => ?_, hK _ ?_⟩; (go_simp; done); (clear hK K; simp only [Act.put, List.setIfInBounds_toArray, List.set_cons_zero, List.set_cons_succ]))
            | (refine (if_pos (by rfl)).mpr ?_; apply Exists.intro; refine ⟨fun w' hw' => ?_, hK _ ?_⟩; (go_simp; rfl); (clear hK K; simp only [Act.put, List.setIfInBounds_toArray, List.set_cons_zero, List.set_cons_succ]))
            | (refine (if_neg (by rw [Bool.not_eq_true]; rfl)).mpr ?_; refine hK _ ?_; (clear hK K; simp only [Act.put, List.setIfInBounds_toArray, List.set_cons_zero, List.set_cons_succ]))
        refine chain_heavy _ rfl (fun K hK => ?_)
        refine (if_pos (by rfl)).mpr ?_
        go_wp2_with fail
        refine (cur_any _ _ _ _ _ _ F.pos (by have := F.len; omega) _ (B.kept hw7).ka).mono ?_
        rintro e w8 ⟨rfl, hk8⟩
        go_wp2
        refine hK _ _ (hk8) ?_
        clear hK K
        try simp only [Act.put, List.setIfInBounds_toArray, List.set_cons_zero, List.set_cons_succ]
        refine chain_heavy _ rfl (fun K hK => ?_)
        refine (if_pos (by rfl)).mpr ?_
        go_wp2_with fail
        refine (rcur_any _ _ _ _ _ _ F.pos (by have := F.len; omega) _ ((B.kept hw7).kept hk8).xa).mono ?_
        rintro e w9 ⟨rfl, hk9⟩
        go_wp2
        refine hK _ _ (hk9) ?_
        clear hK K
        try simp only [Act.put, List.setIfInBounds_toArray, List.set_cons_zero, List.set_cons_succ]
        repeat
          refine chain_light _ rfl (fun K hK => ?_)
          first
            | (refine (if_pos (by rfl)).mpr ?_; apply Exists.intro; refine ⟨fun w' hw' => ?_, hK _ ?_⟩; (have xx := hw'.at ((((B.kept hw7).kept hk8).kept hk9).xa.cells.2.2); go_simp; done); (clear hK K; simp only [Act.put, List.setIfInBounds_toArray, List.set_cons_zero, List.set_cons_succ]))
            | (refine (if_pos (by rfl)).mpr ?_; apply Exists.intro; refine ⟨fun w' hw' => ?_, hK _ ?_⟩; (have xx := hw'.at ((((B.kept hw7).kept hk8).kept hk9).xa.cells.2.2); go_simp; rfl); (clear hK K; simp only [Act.put, List.setIfInBounds_toArray, List.set_cons_zero, List.set_cons_succ]))
            | (refine (if_neg (by rw [Bool.not_eq_true]; rfl)).mpr ?_; refine hK _ ?_; (clear hK K; simp only [Act.put, List.setIfInBounds_toArray, List.set_cons_zero, List.set_cons_succ]))
        refine chain_heavy _ rfl (fun K hK => ?_)
        refine (if_pos (by rfl)).mpr ?_
        go_wp2_with fail
        refine (epochs_any _ _ _ _ _ _ F.pos (by have := F.len; omega) _ (((B.kept hw7).kept hk8).kept hk9).ka).mono ?_
        rintro e w10 ⟨v, rfl, hown, hk10⟩
        obtain ⟨gv, cv, rfl, _, _⟩ := own_open hown F.pos
        go_wp2
        refine hK _ _ (hk10) ?_
        clear hK K
        try simp only [Act.put, List.setIfInBounds_toArray, List.set_cons_zero, List.set_cons_succ]
        refine chain_heavy _ rfl (fun K hK => ?_)
        refine (if_pos (by rfl)).mpr ?_
        go_wp2_with fail
        refine (same_any _ _ _ _ _ (by have := F.len; omega) _ (Sl.of_own hown) (Sl.of_own ((((B.kept hw7).kept hk8).kept hk9).kept hk10).xa.row)).mono ?_
        rintro e w11 ⟨rfl, hk11⟩
        go_wp2
        refine hK _ _ (hk11) ?_
        clear hK K
        try simp only [Act.put, List.setIfInBounds_toArray, List.set_cons_zero, List.set_cons_succ]
        repeat
          refine chain_light _ rfl (fun K hK => ?_)
          first
            | (refine (if_pos (by rfl)).mpr ?_; apply Exists.intro; refine ⟨fun w' hw' => ?_, hK _ ?_⟩; (go_simp; done); (clear hK K; simp only [Act.put, List.setIfInBounds_toArray, List.set_cons_zero, List.set_cons_succ]))
            | (refine (if_pos (by rfl)).mpr ?_; apply Exists.intro; refine ⟨fun w' hw' => ?_, hK _ ?_⟩; (go_simp; rfl); (clear hK K; simp only [Act.put, List.setIfInBounds_toArray, List.set_cons_zero, List.set_cons_succ]))
            | (refine (if_neg (by rw [Bool.not_eq_true]; rfl)).mpr ?_; refine hK _ ?_; (clear hK K; simp only [Act.put, List.setIfInBounds_toArray, List.set_cons_zero, List.set_cons_succ]))
        refine chain_nil ?_
        have B := ((((B.kept hw7).kept hk8).kept hk9).kept hk10).kept hk11
        clear hown hk11 hk10 hk9 hk8 hw7
        generalize nowOf (addL r l) = nw
        go_wp2_with fail
        go_loopw [10, 11, 12, 13, 14] (fun e _ _ _ _ wr => ∃ x : BitVec 32, e = W x ∧ x.toNat ≤ 6 ∧ Both w wr b K g5 q X h5 seed (addL r l) (addL r l) (p') (p') m5 cap5 cap6) (fun e _ _ _ _ _ => 6 - (intOf e).toNat)
        case atStart => exact ⟨0#32, rfl, by decide, B⟩
        case round =>
          obtain ⟨x, rfl, hx6, Bx⟩ := hrel
          clear B
          have hl5 := F.len
          by_cases hx : x.toNat < 6
          · have hlt6 : ∀ t, (binOp .lss t (W x) (.int .u32 6) : Sem Value) = pure (.bool true) := fun t => by
              refine (binW_lss t x 6#32).trans ?_
              rw [decide_eq_true (show x < 6#32 by rw [BitVec.lt_def]; exact hx)]
            have hlt6' : ∀ t, (binOp .lss t (W x) (W 6#32) : Sem Value) = pure (.bool true) := hlt6
            have hxn : (x + 1#32).toNat = x.toNat + 1 := by
              rw [BitVec.toNat_add]
              show (x.toNat + 1) % 4294967296 = _
              omega
            have HXN := Lib.hid hxn
            clear hxn
            go_wp2_with fail
            refine (key_any K b g5 seed _ _ x F.pos (by omega) _ Bx.ka).mono ?_
            rintro e w7 ⟨rfl, hk7⟩
            generalize hq7 : keyP seed (addL r l) x = qk
            generalize hc7 : (addL r l).contains x = ck
            have ha7 : Kept w7 (w7.alloc (.cells #[U qk.1, U qk.2] 25)) := (Below.refl _ _).alloc (Nat.le_refl _) _
            have n7 := Blk.new w7 #[U qk.1, U qk.2] 25
            have B7 := (Bx.kept hk7).kept ha7
            clear Bx hk7 ha7
            go_wp2_with fail
            refine (rkey_any X q h5 seed _ _ x F.pos (by omega) _ B7.xa).mono ?_
            rintro e w8 ⟨rfl, hk8⟩
            rw [hq7, hc7]
            have HQ7 := Lib.hid hq7
            have HC7 := Lib.hid hc7
            clear hq7 hc7
            have ha8 : Kept w8 (w8.alloc (.cells #[U qk.1, U qk.2] 25)) := (Below.refl _ _).alloc (Nat.le_refl _) _
            have n8 := Blk.new w8 #[U qk.1, U qk.2] 25
            have m8 := (n7.kept hk8).kept ha8
            have B8 := (B7.kept hk8).kept ha8
            have u0 := m8.cell 0
            have u1 := m8.cell 1
            have u2 := n8.cell 0
            have u3 := n8.cell 1
            clear B7 n7 hk8 ha8
            go_wp2
            exact ⟨⟨x + 1#32, rfl, by rw [HXN.out]; omega, B8⟩, by show 6 - (x + 1#32).toNat < 6 - x.toNat; rw [HXN.out]; omega⟩
          · have hlt6 : ∀ t, (binOp .lss t (W x) (.int .u32 6) : Sem Value) = pure (.bool false) := fun t => by
              refine (binW_lss t x 6#32).trans ?_
              rw [decide_eq_false (show ¬ x < 6#32 by rw [BitVec.lt_def]; exact hx)]
            have hlt6' : ∀ t, (binOp .lss t (W x) (W 6#32) : Sem Value) = pure (.bool false) := hlt6
            go_wp2
            exact ⟨⟨k + 1, by omega, by go_num, g5, h5, _, _, m5, cap5, cap6, Bx, F, T, oq⟩, by simp [intOf]; omega⟩
      · by_cases h2 : kd = 2
        · subst h2
          obtain ⟨r, p', hsp⟩ : ∃ r p', p.spend = (r, p') := ⟨_, _, rfl⟩
          have oq : p'.ok ((k + 1 : Nat) : Int) := by have := spend_ok ok; rw [hsp] at this; exact ok_mono this (by omega)
          have HS := Lib.hid hsp
          have hA6 : (⟨bA, off + k * 3 + 1, none⟩ : Addr).block ∉ [b, K, g, q, X, h] := by
            have e1 := B.own.lb; have e2 := B.own.lK; have e3 := B.own.lg; have e4 := B.own2.lb; have e5 := B.own2.lK; have e6 := B.own2.lg
            rw [HB.out] at e1 e2 e3 e4 e5 e6
            show bA ∉ _
            simp only [List.mem_cons, List.not_mem_nil, or_false]
            omega
          clear hsp
          go_wp2_with fail
          refine wp_region_chainChg [b, K, g, q, X, h] [(0, 0), (1, 0), (2, 0), (3, 0), (4, 0), (5, 0), (7, 0), (8, 0), (9, 0), (10, 0), (11, 0), (12, 0), (6, 1), (13, 1), (14, 0)] (by kernel_rfl) (by kernel_rfl) ?_
          intro w4 hw4
          repeat
            refine chain_light _ rfl (fun K hK => ?_)
            first
              | (refine (if_pos (by rfl)).mpr ?_; apply Exists.intro; refine ⟨fun w' hw' => ?_, hK _ ?_⟩; (have y1 := hw'.cell (hw4.at x1) hA6; go_simp; done); (clear hK K; simp only [Act.put, List.setIfInBounds_toArray, List.set_cons_zero, List.set_cons_succ]))
              | (refine (if_pos (by rfl)).mpr ?_; apply Exists.intro; refine ⟨fun w' hw' => ?_, hK _ ?_⟩; (have y1 := hw'.cell (hw4.at x1) hA6; go_simp; rfl); (clear hK K; simp only [Act.put, List.setIfInBounds_toArray, List.set_cons_zero, List.set_cons_succ]))
              | (refine (if_neg (by rw [Bool.not_eq_true]; rfl)).mpr ?_; refine hK _ ?_; (clear hK K; simp only [Act.put, List.setIfInBounds_toArray, List.set_cons_zero, List.set_cons_succ]))
          refine chain_heavy _ rfl (fun K hK => ?_)
          refine (if_pos (by rfl)).mpr ?_
          have B4 := B.kept hw4
          go_wp2_with fail
          refine (erase_any _ b g seed l cp ep p p' r F.pos (by have := F.len; omega) _ B4.ka B4.pw hok2 HS.out).mono ?_
          rintro e w5 ⟨g5, cap5, rfl, p5, k5, hg5, c5⟩
          have B5 := B4.stepP c5 hg5 p5 k5
          go_wp2
          refine hK _ _ (c5.mono (by simp)) ?_
          clear hK K
          try simp only [Act.put, List.setIfInBounds_toArray, List.set_cons_zero, List.set_cons_succ]
          refine chain_heavy _ rfl (fun K hK => ?_)
          refine (if_pos (by rfl)).mpr ?_
          go_wp2_with fail
          refine (rerase_any X q h seed l cp2 ep p p' r m F.pos (by have := F.len; omega) F.rising _ B5.xa B5.rf tk hok2 HS.out).mono ?_
          rintro e w6 ⟨h5, cap6, rfl, ⟨m5, p6, T⟩, k6, hg6, c6⟩
          have B := B5.stepX c6 hg6 p6 k6
          go_wp2
          refine hK _ _ (c6.mono (by simp)) ?_
          clear hK K
          try simp only [Act.put, List.setIfInBounds_toArray, List.set_cons_zero, List.set_cons_succ]
          repeat
            refine chain_light _ rfl (fun K hK => ?_)
            first
              | (refine (if_pos (by rfl)).mpr ?_; apply Exists.intro; refine ⟨fun w' hw' => ?_, hK _ ?_⟩; (go_simp; done); (clear hK K; simp only [Act.put, List.setIfInBounds_toArray, List.set_cons_zero, List.set_cons_succ]))
              | (refine (if_pos (by rfl)).mpr ?_; apply Exists.intro; refine ⟨fun w' hw' => ?_, hK _ ?_⟩; (go_simp; rfl); (clear hK K; simp only [Act.put, List.setIfInBounds_toArray, List.set_cons_zero, List.set_cons_succ]))
              | (refine (if_neg (by rw [Bool.not_eq_true]; rfl)).mpr ?_; refine hK _ ?_; (clear hK K; simp only [Act.put, List.setIfInBounds_toArray, List.set_cons_zero, List.set_cons_succ]))
          refine chain_nil ?_
          have F := F.del r ep
          clear B5 c6 hg6 p6 k6 ok tk
          go_wp2_with fail
          refine wp_region_chainK [(0, 0), (2, 0), (1, 1), (3, 1), (4, 0), (5, 0), (6, 0), (8, 0), (9, 0), (10, 0), (11, 0), (7, 1), (12, 1), (13, 0), (14, 0)] (by kernel_rfl) (by kernel_rfl) ?_
          intro w7 hw7
          repeat
            refine chain_light _ rfl (fun K hK => ?_)
            first
              | (refine (if_pos (by rfl)).mpr ?_; apply Exists.intro; refine ⟨fun w' hw' => ?_, hK _ ?_⟩; (go_simp; done); (clear hK K; simp only [Act.put, List.setIfInBounds_toArray, List.set_cons_zero, List.set_cons_succ]))
              | (refine (if_pos (by rfl)).mpr ?_; apply Exists.intro; refine ⟨fun w' hw' => ?_, hK _ ?_⟩; (go_simp; rfl); (clear hK K; simp only [Act.put, List.setIfInBounds_toArray, List.set_cons_zero, List.set_cons_succ]))
              | (refine (if_neg (by rw [Bool.not_eq_true]; rfl)).mpr ?_; refine hK _ ?_; (clear hK K; simp only [Act.put, List.setIfInBounds_toArray, List.set_cons_zero, List.set_cons_succ]))
          refine chain_heavy _ rfl (fun K hK => ?_)
          refine (if_pos (by rfl)).mpr ?_
          go_wp2_with fail
          refine (cur_any _ _ _ _ _ _ F.pos (by have := F.len; omega) _ (B.kept hw7).ka).mono ?_
          rintro e w8 ⟨rfl, hk8⟩
          go_wp2
          refine hK _ _ (hk8) ?_
          clear hK K
          try simp only [Act.put, List.setIfInBounds_toArray, List.set_cons_zero, List.set_cons_succ]
          refine chain_heavy _ rfl (fun K hK => ?_)
          refine (if_pos (by rfl)).mpr ?_
          go_wp2_with fail
          refine (rcur_any _ _ _ _ _ _ F.pos (by have := F.len; omega) _ ((B.kept hw7).kept hk8).xa).mono ?_
          rintro e w9 ⟨rfl, hk9⟩
          go_wp2
          refine hK _ _ (hk9) ?_
          clear hK K
          try simp only [Act.put, List.setIfInBounds_toArray, List.set_cons_zero, List.set_cons_succ]
          repeat
            refine chain_light _ rfl (fun K hK => ?_)
            first
              | (refine (if_pos (by rfl)).mpr ?_; apply Exists.intro; refine ⟨fun w' hw' => ?_, hK _ ?_⟩; (have xx := hw'.at ((((B.kept hw7).kept hk8).kept hk9).xa.cells.2.2); go_simp; done); (clear hK K; simp only [Act.put, List.setIfInBounds_toArray, List.set_cons_zero, List.set_cons_succ]))
              | (refine (if_pos (by rfl)).mpr ?_; apply Exists.intro; refine ⟨fun w' hw' => ?_, hK _ ?_⟩; (have xx := hw'.at ((((B.kept hw7).kept hk8).kept hk9).xa.cells.2.2); go_simp; rfl); (clear hK K; simp only [Act.put, List.setIfInBounds_toArray, List.set_cons_zero, List.set_cons_succ]))
              | (refine (if_neg (by rw [Bool.not_eq_true]; rfl)).mpr ?_; refine hK _ ?_; (clear hK K; simp only [Act.put, List.setIfInBounds_toArray, List.set_cons_zero, List.set_cons_succ]))
          refine chain_heavy _ rfl (fun K hK => ?_)
          refine (if_pos (by rfl)).mpr ?_
          go_wp2_with fail
          refine (epochs_any _ _ _ _ _ _ F.pos (by have := F.len; omega) _ (((B.kept hw7).kept hk8).kept hk9).ka).mono ?_
          rintro e w10 ⟨v, rfl, hown, hk10⟩
          obtain ⟨gv, cv, rfl, _, _⟩ := own_open hown F.pos
          go_wp2
          refine hK _ _ (hk10) ?_
          clear hK K
          try simp only [Act.put, List.setIfInBounds_toArray, List.set_cons_zero, List.set_cons_succ]
          refine chain_heavy _ rfl (fun K hK => ?_)
          refine (if_pos (by rfl)).mpr ?_
          go_wp2_with fail
          refine (same_any _ _ _ _ _ (by have := F.len; omega) _ (Sl.of_own hown) (Sl.of_own ((((B.kept hw7).kept hk8).kept hk9).kept hk10).xa.row)).mono ?_
          rintro e w11 ⟨rfl, hk11⟩
          go_wp2
          refine hK _ _ (hk11) ?_
          clear hK K
          try simp only [Act.put, List.setIfInBounds_toArray, List.set_cons_zero, List.set_cons_succ]
          repeat
            refine chain_light _ rfl (fun K hK => ?_)
            first
              | (refine (if_pos (by rfl)).mpr ?_; apply Exists.intro; refine ⟨fun w' hw' => ?_, hK _ ?_⟩; (go_simp; done); (clear hK K; simp only [Act.put, List.setIfInBounds_toArray, List.set_cons_zero, List.set_cons_succ]))
              | (refine (if_pos (by rfl)).mpr ?_; apply Exists.intro; refine ⟨fun w' hw' => ?_, hK _ ?_⟩; (go_simp; rfl); (clear hK K; simp only [Act.put, List.setIfInBounds_toArray, List.set_cons_zero, List.set_cons_succ]))
              | (refine (if_neg (by rw [Bool.not_eq_true]; rfl)).mpr ?_; refine hK _ ?_; (clear hK K; simp only [Act.put, List.setIfInBounds_toArray, List.set_cons_zero, List.set_cons_succ]))
          refine chain_nil ?_
          have B := ((((B.kept hw7).kept hk8).kept hk9).kept hk10).kept hk11
          clear hown hk11 hk10 hk9 hk8 hw7
          generalize nowOf (delL r l ep) = nw
          go_wp2_with fail
          go_loopw [10, 11, 12, 13, 14] (fun e _ _ _ _ wr => ∃ x : BitVec 32, e = W x ∧ x.toNat ≤ 6 ∧ Both w wr b K g5 q X h5 seed (delL r l ep) (delL r l ep) (p') (p') m5 cap5 cap6) (fun e _ _ _ _ _ => 6 - (intOf e).toNat)
          case atStart => exact ⟨0#32, rfl, by decide, B⟩
          case round =>
            obtain ⟨x, rfl, hx6, Bx⟩ := hrel
            clear B
            have hl5 := F.len
            by_cases hx : x.toNat < 6
            · have hlt6 : ∀ t, (binOp .lss t (W x) (.int .u32 6) : Sem Value) = pure (.bool true) := fun t => by
                refine (binW_lss t x 6#32).trans ?_
                rw [decide_eq_true (show x < 6#32 by rw [BitVec.lt_def]; exact hx)]
              have hlt6' : ∀ t, (binOp .lss t (W x) (W 6#32) : Sem Value) = pure (.bool true) := hlt6
              have hxn : (x + 1#32).toNat = x.toNat + 1 := by
                rw [BitVec.toNat_add]
                show (x.toNat + 1) % 4294967296 = _
                omega
              have HXN := Lib.hid hxn
              clear hxn
              go_wp2_with fail
              refine (key_any K b g5 seed _ _ x F.pos (by omega) _ Bx.ka).mono ?_
              rintro e w7 ⟨rfl, hk7⟩
              generalize hq7 : keyP seed (delL r l ep) x = qk
              generalize hc7 : (delL r l ep).contains x = ck
              have ha7 : Kept w7 (w7.alloc (.cells #[U qk.1, U qk.2] 25)) := (Below.refl _ _).alloc (Nat.le_refl _) _
              have n7 := Blk.new w7 #[U qk.1, U qk.2] 25
              have B7 := (Bx.kept hk7).kept ha7
              clear Bx hk7 ha7
              go_wp2_with fail
              refine (rkey_any X q h5 seed _ _ x F.pos (by omega) _ B7.xa).mono ?_
              rintro e w8 ⟨rfl, hk8⟩
              rw [hq7, hc7]
              have HQ7 := Lib.hid hq7
              have HC7 := Lib.hid hc7
              clear hq7 hc7
              have ha8 : Kept w8 (w8.alloc (.cells #[U qk.1, U qk.2] 25)) := (Below.refl _ _).alloc (Nat.le_refl _) _
              have n8 := Blk.new w8 #[U qk.1, U qk.2] 25
              have m8 := (n7.kept hk8).kept ha8
              have B8 := (B7.kept hk8).kept ha8
              have u0 := m8.cell 0
              have u1 := m8.cell 1
              have u2 := n8.cell 0
              have u3 := n8.cell 1
              clear B7 n7 hk8 ha8
              go_wp2
              exact ⟨⟨x + 1#32, rfl, by rw [HXN.out]; omega, B8⟩, by show 6 - (x + 1#32).toNat < 6 - x.toNat; rw [HXN.out]; omega⟩
            · have hlt6 : ∀ t, (binOp .lss t (W x) (.int .u32 6) : Sem Value) = pure (.bool false) := fun t => by
                refine (binW_lss t x 6#32).trans ?_
                rw [decide_eq_false (show ¬ x < 6#32 by rw [BitVec.lt_def]; exact hx)]
              have hlt6' : ∀ t, (binOp .lss t (W x) (W 6#32) : Sem Value) = pure (.bool false) := hlt6
              go_wp2
              exact ⟨⟨k + 1, by omega, by go_num, g5, h5, _, _, m5, cap5, cap6, Bx, F, T, oq⟩, by simp [intOf]; omega⟩
        · by_cases h3 : kd = 3
          · subst h3
            have oq : (p.setFuse nm).ok ((k + 1 : Nat) : Int) := fuse_ok (ok_mono ok (by omega)) nm nm1
            go_wp2_with fail
            refine (power_fuse b p nm _ B.pw).mono ?_
            rintro e w5 ⟨rfl, p5, gr5⟩
            have B5 := B.powP gr5 p5
            have x2' := (B5.own.below.cell (p := ⟨bA, off + k * 3 + 2, none⟩) (by show bA < w.heap.size; rw [HB.out]; exact hbA)).trans C2.out
            clear B x0 x1 x2 p5 gr5
            go_wp2_with fail
            refine (ref_fuse q p m nm _ B5.rf).mono ?_
            rintro e w6 ⟨rfl, p6, gr6⟩
            have B := B5.powX gr6 p6
            have T : Twin (p.setFuse nm) nm := fun _ => rfl
            have F := F.mono
            clear B5 x2' p6 gr6 ok tk
            go_wp2_with fail
            refine wp_region_chainK [(0, 0), (2, 0), (1, 1), (3, 1), (4, 0), (5, 0), (6, 0), (8, 0), (9, 0), (10, 0), (11, 0), (7, 1), (12, 1), (13, 0), (14, 0)] (by kernel_rfl) (by kernel_rfl) ?_
            intro w7 hw7
            repeat
              refine chain_light _ rfl (fun K hK => ?_)
              first
                | (refine (if_pos (by rfl)).mpr ?_; apply Exists.intro; refine ⟨fun w' hw' => ?_, hK _ ?_⟩; (go_simp; done); (clear hK K; simp only [Act.put, List.setIfInBounds_toArray, List.set_cons_zero, List.set_cons_succ]))
                | (refine (if_pos (by rfl)).mpr ?_; apply Exists.intro; refine ⟨fun w' hw' => ?_, hK _ ?_⟩; (go_simp; rfl); (clear hK K; simp only [Act.put, List.setIfInBounds_toArray, List.set_cons_zero, List.set_cons_succ]))
                | (refine (if_neg (by rw [Bool.not_eq_true]; rfl)).mpr ?_; refine hK _ ?_; (clear hK K; simp only [Act.put, List.setIfInBounds_toArray, List.set_cons_zero, List.set_cons_succ]))
            refine chain_heavy _ rfl (fun K hK => ?_)
            refine (if_pos (by rfl)).mpr ?_
            go_wp2_with fail
            refine (cur_any _ _ _ _ _ _ F.pos (by have := F.len; omega) _ (B.kept hw7).ka).mono ?_
            rintro e w8 ⟨rfl, hk8⟩
            go_wp2
            refine hK _ _ (hk8) ?_
            clear hK K
            try simp only [Act.put, List.setIfInBounds_toArray, List.set_cons_zero, List.set_cons_succ]
            refine chain_heavy _ rfl (fun K hK => ?_)
            refine (if_pos (by rfl)).mpr ?_
            go_wp2_with fail
            refine (rcur_any _ _ _ _ _ _ F.pos (by have := F.len; omega) _ ((B.kept hw7).kept hk8).xa).mono ?_
            rintro e w9 ⟨rfl, hk9⟩
            go_wp2
            refine hK _ _ (hk9) ?_
            clear hK K
            try simp only [Act.put, List.setIfInBounds_toArray, List.set_cons_zero, List.set_cons_succ]
            repeat
              refine chain_light _ rfl (fun K hK => ?_)
              first
                | (refine (if_pos (by rfl)).mpr ?_; apply Exists.intro; refine ⟨fun w' hw' => ?_, hK _ ?_⟩; (have xx := hw'.at ((((B.kept hw7).kept hk8).kept hk9).xa.cells.2.2); go_simp; done); (clear hK K; simp only [Act.put, List.setIfInBounds_toArray, List.set_cons_zero, List.set_cons_succ]))
                | (refine (if_pos (by rfl)).mpr ?_; apply Exists.intro; refine ⟨fun w' hw' => ?_, hK _ ?_⟩; (have xx := hw'.at ((((B.kept hw7).kept hk8).kept hk9).xa.cells.2.2); go_simp; rfl); (clear hK K; simp only [Act.put, List.setIfInBounds_toArray, List.set_cons_zero, List.set_cons_succ]))
                | (refine (if_neg (by rw [Bool.not_eq_true]; rfl)).mpr ?_; refine hK _ ?_; (clear hK K; simp only [Act.put, List.setIfInBounds_toArray, List.set_cons_zero, List.set_cons_succ]))
            refine chain_heavy _ rfl (fun K hK => ?_)
            refine (if_pos (by rfl)).mpr ?_
            go_wp2_with fail
            refine (epochs_any _ _ _ _ _ _ F.pos (by have := F.len; omega) _ (((B.kept hw7).kept hk8).kept hk9).ka).mono ?_
            rintro e w10 ⟨v, rfl, hown, hk10⟩
            obtain ⟨gv, cv, rfl, _, _⟩ := own_open hown F.pos
            go_wp2
            refine hK _ _ (hk10) ?_
            clear hK K
            try simp only [Act.put, List.setIfInBounds_toArray, List.set_cons_zero, List.set_cons_succ]
            refine chain_heavy _ rfl (fun K hK => ?_)
            refine (if_pos (by rfl)).mpr ?_
            go_wp2_with fail
            refine (same_any _ _ _ _ _ (by have := F.len; omega) _ (Sl.of_own hown) (Sl.of_own ((((B.kept hw7).kept hk8).kept hk9).kept hk10).xa.row)).mono ?_
            rintro e w11 ⟨rfl, hk11⟩
            go_wp2
            refine hK _ _ (hk11) ?_
            clear hK K
            try simp only [Act.put, List.setIfInBounds_toArray, List.set_cons_zero, List.set_cons_succ]
            repeat
              refine chain_light _ rfl (fun K hK => ?_)
              first
                | (refine (if_pos (by rfl)).mpr ?_; apply Exists.intro; refine ⟨fun w' hw' => ?_, hK _ ?_⟩; (go_simp; done); (clear hK K; simp only [Act.put, List.setIfInBounds_toArray, List.set_cons_zero, List.set_cons_succ]))
                | (refine (if_pos (by rfl)).mpr ?_; apply Exists.intro; refine ⟨fun w' hw' => ?_, hK _ ?_⟩; (go_simp; rfl); (clear hK K; simp only [Act.put, List.setIfInBounds_toArray, List.set_cons_zero, List.set_cons_succ]))
                | (refine (if_neg (by rw [Bool.not_eq_true]; rfl)).mpr ?_; refine hK _ ?_; (clear hK K; simp only [Act.put, List.setIfInBounds_toArray, List.set_cons_zero, List.set_cons_succ]))
            refine chain_nil ?_
            have B := ((((B.kept hw7).kept hk8).kept hk9).kept hk10).kept hk11
            clear hown hk11 hk10 hk9 hk8 hw7
            generalize nowOf (l) = nw
            go_wp2_with fail
            go_loopw [10, 11, 12, 13, 14] (fun e _ _ _ _ wr => ∃ x : BitVec 32, e = W x ∧ x.toNat ≤ 6 ∧ Both w wr b K g q X h seed (l) (l) (p.setFuse nm) (p.setFuse nm) nm cp cp2) (fun e _ _ _ _ _ => 6 - (intOf e).toNat)
            case atStart => exact ⟨0#32, rfl, by decide, B⟩
            case round =>
              obtain ⟨x, rfl, hx6, Bx⟩ := hrel
              clear B
              have hl5 := F.len
              by_cases hx : x.toNat < 6
              · have hlt6 : ∀ t, (binOp .lss t (W x) (.int .u32 6) : Sem Value) = pure (.bool true) := fun t => by
                  refine (binW_lss t x 6#32).trans ?_
                  rw [decide_eq_true (show x < 6#32 by rw [BitVec.lt_def]; exact hx)]
                have hlt6' : ∀ t, (binOp .lss t (W x) (W 6#32) : Sem Value) = pure (.bool true) := hlt6
                have hxn : (x + 1#32).toNat = x.toNat + 1 := by
                  rw [BitVec.toNat_add]
                  show (x.toNat + 1) % 4294967296 = _
                  omega
                have HXN := Lib.hid hxn
                clear hxn
                go_wp2_with fail
                refine (key_any K b g seed _ _ x F.pos (by omega) _ Bx.ka).mono ?_
                rintro e w7 ⟨rfl, hk7⟩
                generalize hq7 : keyP seed (l) x = qk
                generalize hc7 : (l).contains x = ck
                have ha7 : Kept w7 (w7.alloc (.cells #[U qk.1, U qk.2] 25)) := (Below.refl _ _).alloc (Nat.le_refl _) _
                have n7 := Blk.new w7 #[U qk.1, U qk.2] 25
                have B7 := (Bx.kept hk7).kept ha7
                clear Bx hk7 ha7
                go_wp2_with fail
                refine (rkey_any X q h seed _ _ x F.pos (by omega) _ B7.xa).mono ?_
                rintro e w8 ⟨rfl, hk8⟩
                rw [hq7, hc7]
                have HQ7 := Lib.hid hq7
                have HC7 := Lib.hid hc7
                clear hq7 hc7
                have ha8 : Kept w8 (w8.alloc (.cells #[U qk.1, U qk.2] 25)) := (Below.refl _ _).alloc (Nat.le_refl _) _
                have n8 := Blk.new w8 #[U qk.1, U qk.2] 25
                have m8 := (n7.kept hk8).kept ha8
                have B8 := (B7.kept hk8).kept ha8
                have u0 := m8.cell 0
                have u1 := m8.cell 1
                have u2 := n8.cell 0
                have u3 := n8.cell 1
                clear B7 n7 hk8 ha8
                go_wp2
                exact ⟨⟨x + 1#32, rfl, by rw [HXN.out]; omega, B8⟩, by show 6 - (x + 1#32).toNat < 6 - x.toNat; rw [HXN.out]; omega⟩
              · have hlt6 : ∀ t, (binOp .lss t (W x) (.int .u32 6) : Sem Value) = pure (.bool false) := fun t => by
                  refine (binW_lss t x 6#32).trans ?_
                  rw [decide_eq_false (show ¬ x < 6#32 by rw [BitVec.lt_def]; exact hx)]
                have hlt6' : ∀ t, (binOp .lss t (W x) (W 6#32) : Sem Value) = pure (.bool false) := hlt6
                go_wp2
                exact ⟨⟨k + 1, by omega, by go_num, g, h, _, _, nm, cp, cp2, Bx, F, T, oq⟩, by simp [intOf]; omega⟩
          · have oq : p.back.ok ((k + 1 : Nat) : Int) := back_ok (ok_mono ok (by omega))
            go_wp2_with fail
            refine (power_back b p _ B.pw).mono ?_
            rintro e w5 ⟨rfl, p5, gr5⟩
            have B5 := B.powP gr5 p5
            clear B x0 x1 x2 p5 gr5
            go_wp2_with fail
            refine (ref_back q p m _ B5.rf).mono ?_
            rintro e w6 ⟨rfl, p6, gr6⟩
            have B := B5.powX gr6 p6
            have T : Twin p.back m := fun h => by cases h
            have F := F.mono
            clear B5 p6 gr6 ok tk
            go_wp2_with fail
            refine wp_region_chainK [(0, 0), (2, 0), (1, 1), (3, 1), (4, 0), (5, 0), (6, 0), (8, 0), (9, 0), (10, 0), (11, 0), (7, 1), (12, 1), (13, 0), (14, 0)] (by kernel_rfl) (by kernel_rfl) ?_
            intro w7 hw7
            repeat
              refine chain_light _ rfl (fun K hK => ?_)
              first
                | (refine (if_pos (by rfl)).mpr ?_; apply Exists.intro; refine ⟨fun w' hw' => ?_, hK _ ?_⟩; (go_simp; done); (clear hK K; simp only [Act.put, List.setIfInBounds_toArray, List.set_cons_zero, List.set_cons_succ]))
                | (refine (if_pos (by rfl)).mpr ?_; apply Exists.intro; refine ⟨fun w' hw' => ?_, hK _ ?_⟩; (go_simp; rfl); (clear hK K; simp only [Act.put, List.setIfInBounds_toArray, List.set_cons_zero, List.set_cons_succ]))
                | (refine (if_neg (by rw [Bool.not_eq_true]; rfl)).mpr ?_; refine hK _ ?_; (clear hK K; simp only [Act.put, List.setIfInBounds_toArray, List.set_cons_zero, List.set_cons_succ]))
            refine chain_heavy _ rfl (fun K hK => ?_)
            refine (if_pos (by rfl)).mpr ?_
            go_wp2_with fail
            refine (cur_any _ _ _ _ _ _ F.pos (by have := F.len; omega) _ (B.kept hw7).ka).mono ?_
            rintro e w8 ⟨rfl, hk8⟩
            go_wp2
            refine hK _ _ (hk8) ?_
            clear hK K
            try simp only [Act.put, List.setIfInBounds_toArray, List.set_cons_zero, List.set_cons_succ]
            refine chain_heavy _ rfl (fun K hK => ?_)
            refine (if_pos (by rfl)).mpr ?_
            go_wp2_with fail
            refine (rcur_any _ _ _ _ _ _ F.pos (by have := F.len; omega) _ ((B.kept hw7).kept hk8).xa).mono ?_
            rintro e w9 ⟨rfl, hk9⟩
            go_wp2
            refine hK _ _ (hk9) ?_
            clear hK K
            try simp only [Act.put, List.setIfInBounds_toArray, List.set_cons_zero, List.set_cons_succ]
            repeat
              refine chain_light _ rfl (fun K hK => ?_)
              first
                | (refine (if_pos (by rfl)).mpr ?_; apply Exists.intro; refine ⟨fun w' hw' => ?_, hK _ ?_⟩; (have xx := hw'.at ((((B.kept hw7).kept hk8).kept hk9).xa.cells.2.2); go_simp; done); (clear hK K; simp only [Act.put, List.setIfInBounds_toArray, List.set_cons_zero, List.set_cons_succ]))
                | (refine (if_pos (by rfl)).mpr ?_; apply Exists.intro; refine ⟨fun w' hw' => ?_, hK _ ?_⟩; (have xx := hw'.at ((((B.kept hw7).kept hk8).kept hk9).xa.cells.2.2); go_simp; rfl); (clear hK K; simp only [Act.put, List.setIfInBounds_toArray, List.set_cons_zero, List.set_cons_succ]))
                | (refine (if_neg (by rw [Bool.not_eq_true]; rfl)).mpr ?_; refine hK _ ?_; (clear hK K; simp only [Act.put, List.setIfInBounds_toArray, List.set_cons_zero, List.set_cons_succ]))
            refine chain_heavy _ rfl (fun K hK => ?_)
            refine (if_pos (by rfl)).mpr ?_
            go_wp2_with fail
            refine (epochs_any _ _ _ _ _ _ F.pos (by have := F.len; omega) _ (((B.kept hw7).kept hk8).kept hk9).ka).mono ?_
            rintro e w10 ⟨v, rfl, hown, hk10⟩
            obtain ⟨gv, cv, rfl, _, _⟩ := own_open hown F.pos
            go_wp2
            refine hK _ _ (hk10) ?_
            clear hK K
            try simp only [Act.put, List.setIfInBounds_toArray, List.set_cons_zero, List.set_cons_succ]
            refine chain_heavy _ rfl (fun K hK => ?_)
            refine (if_pos (by rfl)).mpr ?_
            go_wp2_with fail
            refine (same_any _ _ _ _ _ (by have := F.len; omega) _ (Sl.of_own hown) (Sl.of_own ((((B.kept hw7).kept hk8).kept hk9).kept hk10).xa.row)).mono ?_
            rintro e w11 ⟨rfl, hk11⟩
            go_wp2
            refine hK _ _ (hk11) ?_
            clear hK K
            try simp only [Act.put, List.setIfInBounds_toArray, List.set_cons_zero, List.set_cons_succ]
            repeat
              refine chain_light _ rfl (fun K hK => ?_)
              first
                | (refine (if_pos (by rfl)).mpr ?_; apply Exists.intro; refine ⟨fun w' hw' => ?_, hK _ ?_⟩; (go_simp; done); (clear hK K; simp only [Act.put, List.setIfInBounds_toArray, List.set_cons_zero, List.set_cons_succ]))
                | (refine (if_pos (by rfl)).mpr ?_; apply Exists.intro; refine ⟨fun w' hw' => ?_, hK _ ?_⟩; (go_simp; rfl); (clear hK K; simp only [Act.put, List.setIfInBounds_toArray, List.set_cons_zero, List.set_cons_succ]))
                | (refine (if_neg (by rw [Bool.not_eq_true]; rfl)).mpr ?_; refine hK _ ?_; (clear hK K; simp only [Act.put, List.setIfInBounds_toArray, List.set_cons_zero, List.set_cons_succ]))
            refine chain_nil ?_
            have B := ((((B.kept hw7).kept hk8).kept hk9).kept hk10).kept hk11
            clear hown hk11 hk10 hk9 hk8 hw7
            generalize nowOf (l) = nw
            go_wp2_with fail
            go_loopw [10, 11, 12, 13, 14] (fun e _ _ _ _ wr => ∃ x : BitVec 32, e = W x ∧ x.toNat ≤ 6 ∧ Both w wr b K g q X h seed (l) (l) (p.back) (p.back) m cp cp2) (fun e _ _ _ _ _ => 6 - (intOf e).toNat)
            case atStart => exact ⟨0#32, rfl, by decide, B⟩
            case round =>
              obtain ⟨x, rfl, hx6, Bx⟩ := hrel
              clear B
              have hl5 := F.len
              by_cases hx : x.toNat < 6
              · have hlt6 : ∀ t, (binOp .lss t (W x) (.int .u32 6) : Sem Value) = pure (.bool true) := fun t => by
                  refine (binW_lss t x 6#32).trans ?_
                  rw [decide_eq_true (show x < 6#32 by rw [BitVec.lt_def]; exact hx)]
                have hlt6' : ∀ t, (binOp .lss t (W x) (W 6#32) : Sem Value) = pure (.bool true) := hlt6
                have hxn : (x + 1#32).toNat = x.toNat + 1 := by
                  rw [BitVec.toNat_add]
                  show (x.toNat + 1) % 4294967296 = _
                  omega
                have HXN := Lib.hid hxn
                clear hxn
                go_wp2_with fail
                refine (key_any K b g seed _ _ x F.pos (by omega) _ Bx.ka).mono ?_
                rintro e w7 ⟨rfl, hk7⟩
                generalize hq7 : keyP seed (l) x = qk
                generalize hc7 : (l).contains x = ck
                have ha7 : Kept w7 (w7.alloc (.cells #[U qk.1, U qk.2] 25)) := (Below.refl _ _).alloc (Nat.le_refl _) _
                have n7 := Blk.new w7 #[U qk.1, U qk.2] 25
                have B7 := (Bx.kept hk7).kept ha7
                clear Bx hk7 ha7
                go_wp2_with fail
                refine (rkey_any X q h seed _ _ x F.pos (by omega) _ B7.xa).mono ?_
                rintro e w8 ⟨rfl, hk8⟩
                rw [hq7, hc7]
                have HQ7 := Lib.hid hq7
                have HC7 := Lib.hid hc7
                clear hq7 hc7
                have ha8 : Kept w8 (w8.alloc (.cells #[U qk.1, U qk.2] 25)) := (Below.refl _ _).alloc (Nat.le_refl _) _
                have n8 := Blk.new w8 #[U qk.1, U qk.2] 25
                have m8 := (n7.kept hk8).kept ha8
                have B8 := (B7.kept hk8).kept ha8
                have u0 := m8.cell 0
                have u1 := m8.cell 1
                have u2 := n8.cell 0
                have u3 := n8.cell 1
                clear B7 n7 hk8 ha8
                go_wp2
                exact ⟨⟨x + 1#32, rfl, by rw [HXN.out]; omega, B8⟩, by show 6 - (x + 1#32).toNat < 6 - x.toNat; rw [HXN.out]; omega⟩
              · have hlt6 : ∀ t, (binOp .lss t (W x) (.int .u32 6) : Sem Value) = pure (.bool false) := fun t => by
                  refine (binW_lss t x 6#32).trans ?_
                  rw [decide_eq_false (show ¬ x < 6#32 by rw [BitVec.lt_def]; exact hx)]
                have hlt6' : ∀ t, (binOp .lss t (W x) (W 6#32) : Sem Value) = pure (.bool false) := hlt6
                go_wp2
                exact ⟨⟨k + 1, by omega, by go_num, g, h, _, _, m, cp, cp2, Bx, F, T, oq⟩, by simp [intOf]; omega⟩
    · have hkn : k = n := by omega
      subst hkn
      have HI := Lib.hid hi
      have HA := Lib.hid ha
      clear hi ha
      go_wp2_with fail
      refine (known_any _).mono ?_
      rintro e w6 ⟨rfl, hk6⟩
      go_wp2
      go_ret
      exact ⟨rfl, by show Below w.heap.size w _; exact (B.own.kept hk6).below⟩


namespace keysPlaysRow
open Go.ChangeShapes Go.WideShapes Go.ChangeAt Go.RowKit
theorem own : ownKnob Try.prog.godebug = none := by kernel_rfl
theorem laidOut : laidOutB Try.prog = true := by kernel_rfl

set_option maxRecDepth 100000 in
theorem lifted (os : Os) (started : os.Started) (H : Type) (enc : TypeId × Value → H) :
    ReturnsInHanded {} Try.checked os 6 .any (Rows.keysPlaysSpec.pre6 enc Try.prog Try.f6 Rows.keysPlaysRow.domain false) (Rows.keysPlaysSpec.post enc Try.prog Try.f6 false true false false) := by
  refine returnsInHanded_of_change (C := Try.checked) own started (by kernel_rfl) Try.func6
    (ChangeSpec.witness6 (enc := enc) (C := Try.checked) false ⟨#[], #[.int .u64 0, .slice none 0 0], []⟩ 8 (by kernel_rfl) (by kernel_rfl) (by kernel_rfl) (by kernel_rfl)) ?_
  intro W base args ds gs before hval0 hW _ hsz
  have hval : ∀ (j : Nat) t v, Try.f6.params[j]? = some t → args[j]? = some v → Value.okWide Try.prog W .any base t v := hval0
  have hW' := hW
  obtain ⟨p, q, hA0, hV, rfl, hfz, hnd⟩ := hW
  have hA : DataW.TrodAll enc Try.prog W 0 (fun _ => true) true Try.f6.params.toList args.toList ds p := hA0
  rw [Try.params6] at hA hval
  obtain ⟨v0, vs0, d0, ds0, p0, q0, hargs, rfl, rfl, h0, r0⟩ := trodAll_cons hA
  obtain ⟨v1, vs1, d1, ds1, p1, q1, rfl, rfl, rfl, h1, r1⟩ := trodAll_cons r0
  obtain ⟨rfl, rfl, rfl⟩ := trodAll_nil r1
  obtain rfl : args = #[v0, v1] := by cases args; simp_all
  obtain ⟨a0, rfl⟩ := open_U Try.underlying22 (hval 0 22 v0 rfl rfl) h0
  obtain ⟨n1, f1, a1, t1⟩ := open_acts (e := 48) (H := H) Try.underlying41 Try.underlying48 (by kernel_rfl) (by kernel_rfl) (by decide) (hval 1 41 v1 rfl rfl) h1
  have i1 : ∀ i, i < n1 → (∃ m, f1 i 0 = .int .i64 m ∧ -9223372036854775808 ≤ m ∧ m ≤ 9223372036854775807) ∧ IsW (f1 i 1) ∧ (∃ m, f1 i 2 = .int .i64 m ∧ -9223372036854775808 ≤ m ∧ m ≤ 9223372036854775807) := by
    intro i hi
    refine ⟨?_, ?_, ?_⟩
    · obtain ⟨fu, y, h⟩ := t1 i hi 0 _ rfl; exact acts_int Try.underlying3 h
    · obtain ⟨fu, y, h⟩ := t1 i hi 1 _ rfl; exact acts_W Try.underlying23 h
    · obtain ⟨fu, y, h⟩ := t1 i hi 2 _ rfl; exact acts_int Try.underlying3 h
  refine (plays_walk a0 n1 f1 v1 W a1 i1).mono fun e W' ⟨he, bel⟩ => ?_
  subst he
  exact ⟨_, rfl, law_post (tb := 4) laidOut (by kernel_rfl) Try.underlying4 (by rfl) rfl (by intro xs hxs; match xs, hxs with | [x0, x1], _ => rfl) hW' bel⟩

theorem over : Rows.keysPlaysRow.holds Try.pinned (OpenSpec.ofChange Rows.keysPlaysSpec) :=
  OpenClaim.holds_of_wide 6 Try.f6 rfl rfl rfl rfl rfl rfl rfl ⟨rfl, rfl, rfl, rfl, rfl⟩ rfl rfl rfl rfl rfl (by kernel_rfl) Try.func6 (by kernel_rfl)
    (of_decide_eq_true (by kernel_rfl)) (by unfold Func.isWrapper; rw [if_neg (of_decide_eq_false (by kernel_rfl))]; exact ⟨rfl, rfl⟩)
    (fun os started H enc _ => lifted os started H enc)
end keysPlaysRow

theorem keysPlays_holds : Rows.KeysPlaysSaid := keysPlaysRow.over
#print axioms keysPlays_holds

end Go.Proofs.Ytdcejhplkhoboaa
