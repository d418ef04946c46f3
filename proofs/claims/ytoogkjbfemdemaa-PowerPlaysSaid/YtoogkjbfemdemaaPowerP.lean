/- PowerPlays: of every script which steps are done, is it on, how many there were. -/
import Derived.Test.YtoogkjbfemdemaaPowerR
import Derived.Test.YtoogkjbfemdemaaPosts
import Derived.Test.YtoogkjbfemdemaaRows
namespace Go.Proofs.Ytoogkjbfemdemaa
open Go Go.RowKit

set_option maxRecDepth 100000 in
set_option maxHeartbeats 2000000 in
theorem plays_walk (n : Nat) (f : Nat → Nat → Value) (v : Value) (w : World) (hl : Acts w v n 2 f) (hi : ∀ i, i < n → ∀ j, j < 2 → ∃ m, f i j = .int .i64 m ∧ -9223372036854775808 ≤ m ∧ m ≤ 9223372036854775807) :
    Calls Try.prog 4 #[v] w fun e w' => e = .returned (.bool true) ∧ Kept w w' := by
  obtain ⟨a, cap, rfl, hn, hm, ha⟩ := hl
  have hm' : cap ≤ maxLen := hm
  by_cases hn300 : 300 < n
  · go_enter Try.func4, Try.ntmps4
    go_wp2
    go_ret
    exact ⟨rfl, Below.refl _ _⟩
  go_enter Try.func4, Try.ntmps4
  go_wp2_with fail
  refine (power_new _).mono ?_
  rintro e w1 ⟨rfl, p1, hk1, hz1⟩
  go_wp2_with fail
  have p2 : PwAt (w1.alloc (.cells #[.bool false, .bool false, .int .i64 0, .int .i64 0] 30)) w.heap.size Pw.new := Blk.alloc p1 _
  have r2 : RefAt (w1.alloc (.cells #[.bool false, .bool false, .int .i64 0, .int .i64 0] 30)) (w.heap.size + 1) Pw.new 0 := by
    have := Blk.new w1 #[.bool false, .bool false, .int .i64 0, .int .i64 0] 30
    rw [hz1] at this
    exact this
  have hb2 : Below w.heap.size w (w1.alloc (.cells #[.bool false, .bool false, .int .i64 0, .int .i64 0] 30)) := hk1.alloc (by omega) _
  have hs2 : w.heap.size ≤ (w1.alloc (.cells #[.bool false, .bool false, .int .i64 0, .int .i64 0] 30)).heap.size := by simp; omega
  clear hk1 hz1 p1
  generalize (w1.alloc (.cells #[.bool false, .bool false, .int .i64 0, .int .i64 0] 30)) = w2 at *
  obtain ⟨B, hB⟩ : ∃ B, B = w.heap.size := ⟨_, rfl⟩
  rw [← hB] at p2 r2 hb2 hs2
  simp only [← hB]
  have HB := Lib.hid hB
  clear hB
  go_loopw [5] (fun i wr => ∃ k : Nat, k ≤ n ∧ i = .int .i64 k ∧ ∃ p l, PwAt wr B p ∧ RefAt wr (B + 1) p l ∧ Twin p l ∧ p.ok k ∧ Below B w wr ∧ B ≤ wr.heap.size) (fun i _ => n - (intOf i).toNat)
  case atStart => exact ⟨0, by omega, rfl, Pw.new, 0, p2, r2, (fun h => by cases h), new_ok, hb2, hs2⟩
  case round =>
    obtain ⟨k, hk, rfl, p, l, pk, rk, tk, ok, hb, hsz⟩ := hrel
    clear p2 r2 hb2 hs2
    by_cases hlt : k < n
    · obtain ⟨b, off, rfl, hbw, hcell⟩ := ha k hlt
      rw [← HB.out] at hbw
      obtain ⟨kd, hkd, kd0, kd1⟩ := hi k hlt 0 (by omega)
      obtain ⟨nm, hnm, nm0, nm1⟩ := hi k hlt 1 (by omega)
      have x0 := (hb.cell (p := ⟨b, off + k * 2, none⟩) hbw).trans (hcell 0 (by omega))
      have x1 := (hb.cell (p := ⟨b, off + k * 2 + 1, none⟩) hbw).trans (hcell 1 (by omega))
      rw [hkd] at x0
      rw [hnm] at x1
      have HX1 := Lib.hid x1
      have HX0 := Lib.hid x0
      have HX := Lib.hid hcell
      have HI := Lib.hid hi
      have HA := Lib.hid ha
      clear hi hcell hkd hnm ha
      have hok2 : p.ok 9223372036854775806 := ok_mono ok (by omega)
      by_cases h1 : kd = 1
      · subst h1
        go_wp2_with fail
        refine (power_fuse _ _ _ _ pk).mono ?_
        rintro e w3 ⟨rfl, p3, g3⟩
        have r3 : RefAt w3 (B + 1) p l := only_blk g3 rk (by omega)
        have hb3 := hb.trans (only_below g3 (Nat.le_refl _) hsz)
        have hs3 := Nat.le_trans hsz g3.size
        have y1 := (hb3.cell (p := ⟨b, off + k * 2 + 1, none⟩) hbw).trans (HX.out 1 (by omega))
        rw [show f k 1 = .int .i64 nm from by have := HX1.out; have := (hb.cell (p := ⟨b, off + k * 2 + 1, none⟩) hbw).trans (HX.out 1 (by omega)); simp_all] at y1
        clear g3 hsz hb x0 x1
        go_wp2_with fail
        refine (ref_fuse _ _ _ _ _ r3).mono ?_
        rintro e w4 ⟨rfl, r4, g4⟩
        have pq : PwAt w4 B (p.setFuse nm) := only_blk g4 p3 (by omega)
        have rq := r4
        have hbq := hb3.trans (only_below g4 (by omega) (by have := Blk.lt r3; omega))
        have hszq := Nat.le_trans hs3 g4.size
        have oq : (p.setFuse nm).ok ((k + 1 : Nat) : Int) := ok_mono (fuse_ok ok nm nm1) (by omega)
        have tq : Twin (p.setFuse nm) nm := fun _ => rfl
        clear r3 p3 y1 r4 g4 hb3 hs3 pk rk tk ok hok2
        generalize p.setFuse nm = q at *
        obtain ⟨lq, hlq⟩ : ∃ lq, lq = nm := ⟨_, rfl⟩
        rw [← hlq] at rq tq
        clear hlq
        go_wp2_with fail
        refine wp_region_posts 16 (fun i (vv : Value) w' => match i with | 0 => vv = .pointer (some ⟨B, 0, none⟩) | 1 => vv = .bool (!q.gone) | 2 => vv = .pointer (some ⟨B + 1, 0, none⟩) | 3 => vv = .pointer (some ⟨B + 1, 0, none⟩) | 4 => vv = .pointer (some ⟨B + 1, 0, none⟩) | 5 => vv = .bool q.gone | 6 => vv = .bool false | 7 => vv = .bool false | 8 => vv = .pointer (some ⟨B, 0, none⟩) | 9 => vv = .int .i64 q.steps | 10 => vv = .pointer (some ⟨B + 1, 0, none⟩) | 11 => vv = .pointer (some ⟨B + 1, 0, none⟩) | 12 => vv = .pointer (some ⟨B + 1, 3, none⟩) | 13 => vv = .int .i64 q.steps | 14 => vv = .bool false | 15 => vv = .bool false | _ => True) (by kernel_rfl) (by kernel_rfl) ?_ ?_ ?_
        · intro i v w1 w2 h hk
          match i, h with
          | 0, h => exact h
          | 1, h => exact h
          | 2, h => exact h
          | 3, h => exact h
          | 4, h => exact h
          | 5, h => exact h
          | 6, h => exact h
          | 7, h => exact h
          | 8, h => exact h
          | 9, h => exact h
          | 10, h => exact h
          | 11, h => exact h
          | 12, h => exact h
          | 13, h => exact h
          | 14, h => exact h
          | 15, h => exact h
          | _ + 16, _ => trivial
        · intro i o hi ho x w1 hw hpre K hK
          match i, hi, ho with
          | 0, _, ho =>
            have e := Option.some.inj ho; subst e
            have hKK : ∀ (vv : Value) (w'' : World), Kept w1 w'' → (vv = .pointer (some ⟨B, 0, none⟩)) → K _ w'' := fun v w'' h1 h2 => hK v w'' h1 h2
            clear hK hpre
            simp only [putAll, dstOf, List.getElem?_toArray, List.getElem?_cons_zero, List.getElem?_cons_succ, Option.bind_some, Act.put, List.setIfInBounds_toArray, List.set_cons_zero, List.set_cons_succ] at hKK ⊢
            refine (if_pos (by rfl)).mpr ?_
            go_wp2
            exact hKK _ _ (Below.refl _ _) rfl
          | 1, _, ho =>
            have e := Option.some.inj ho; subst e
            have p0 : x 0 = .pointer (some ⟨B, 0, none⟩) := hpre 0 (by kernel_rfl)
            have hKK : ∀ (vv : Value) (w'' : World), Kept w1 w'' → (vv = .bool (!q.gone)) → K _ w'' := fun v w'' h1 h2 => hK v w'' h1 h2
            clear hK hpre
            simp only [putAll, dstOf, List.getElem?_toArray, List.getElem?_cons_zero, List.getElem?_cons_succ, Option.bind_some, Act.put, List.setIfInBounds_toArray, List.set_cons_zero, List.set_cons_succ] at hKK ⊢
            simp only [p0] at hKK ⊢
            clear p0
            refine (if_pos (by rfl)).mpr ?_
            go_wp2_with fail
            refine (power_on _ _ _ (Blk.kept pq hw)).mono ?_
            rintro e w2 ⟨rfl, rfl⟩
            exact hKK _ _ (Below.refl _ _) rfl
          | 2, _, ho =>
            have e := Option.some.inj ho; subst e
            have hKK : ∀ (vv : Value) (w'' : World), Kept w1 w'' → (vv = .pointer (some ⟨B + 1, 0, none⟩)) → K _ w'' := fun v w'' h1 h2 => hK v w'' h1 h2
            clear hK hpre
            simp only [putAll, dstOf, List.getElem?_toArray, List.getElem?_cons_zero, List.getElem?_cons_succ, Option.bind_some, Act.put, List.setIfInBounds_toArray, List.set_cons_zero, List.set_cons_succ] at hKK ⊢
            refine (if_pos (by rfl)).mpr ?_
            go_wp2
            exact hKK _ _ (Below.refl _ _) rfl
          | 3, _, ho =>
            have e := Option.some.inj ho; subst e
            have p2 : x 2 = .pointer (some ⟨B + 1, 0, none⟩) := hpre 2 (by kernel_rfl)
            have hKK : ∀ (vv : Value) (w'' : World), Kept w1 w'' → (vv = .pointer (some ⟨B + 1, 0, none⟩)) → K _ w'' := fun v w'' h1 h2 => hK v w'' h1 h2
            clear hK hpre
            simp only [putAll, dstOf, List.getElem?_toArray, List.getElem?_cons_zero, List.getElem?_cons_succ, Option.bind_some, Act.put, List.setIfInBounds_toArray, List.set_cons_zero, List.set_cons_succ] at hKK ⊢
            simp only [p2] at hKK ⊢
            clear p2
            refine (if_pos (by rfl)).mpr ?_
            go_wp2
            exact hKK _ _ (Below.refl _ _) rfl
          | 4, _, ho =>
            have e := Option.some.inj ho; subst e
            have p3 : x 3 = .pointer (some ⟨B + 1, 0, none⟩) := hpre 3 (by kernel_rfl)
            have hKK : ∀ (vv : Value) (w'' : World), Kept w1 w'' → (vv = .pointer (some ⟨B + 1, 0, none⟩)) → K _ w'' := fun v w'' h1 h2 => hK v w'' h1 h2
            clear hK hpre
            simp only [putAll, dstOf, List.getElem?_toArray, List.getElem?_cons_zero, List.getElem?_cons_succ, Option.bind_some, Act.put, List.setIfInBounds_toArray, List.set_cons_zero, List.set_cons_succ] at hKK ⊢
            simp only [p3] at hKK ⊢
            clear p3
            refine (if_pos (by rfl)).mpr ?_
            go_wp2
            exact hKK _ _ (Below.refl _ _) rfl
          | 5, _, ho =>
            have e := Option.some.inj ho; subst e
            have p4 : x 4 = .pointer (some ⟨B + 1, 0, none⟩) := hpre 4 (by kernel_rfl)
            have hKK : ∀ (vv : Value) (w'' : World), Kept w1 w'' → (vv = .bool q.gone) → K _ w'' := fun v w'' h1 h2 => hK v w'' h1 h2
            clear hK hpre
            simp only [putAll, dstOf, List.getElem?_toArray, List.getElem?_cons_zero, List.getElem?_cons_succ, Option.bind_some, Act.put, List.setIfInBounds_toArray, List.set_cons_zero, List.set_cons_succ] at hKK ⊢
            simp only [p4] at hKK ⊢
            clear p4
            refine (if_pos (by rfl)).mpr ?_
            obtain ⟨c0, c1, c2, c3⟩ := ref_cells (Blk.kept rq hw)
            go_wp2
            exact hKK _ _ (Below.refl _ _) rfl
          | 6, _, ho =>
            have e := Option.some.inj ho; subst e
            have p1 : x 1 = .bool (!q.gone) := hpre 1 (by kernel_rfl)
            have p5 : x 5 = .bool q.gone := hpre 5 (by kernel_rfl)
            have hKK : ∀ (vv : Value) (w'' : World), Kept w1 w'' → (vv = .bool false) → K _ w'' := fun v w'' h1 h2 => hK v w'' h1 h2
            clear hK hpre
            simp only [putAll, dstOf, List.getElem?_toArray, List.getElem?_cons_zero, List.getElem?_cons_succ, Option.bind_some, Act.put, List.setIfInBounds_toArray, List.set_cons_zero, List.set_cons_succ] at hKK ⊢
            simp only [p1, p5] at hKK ⊢
            clear p1 p5
            refine (if_pos (by rfl)).mpr ?_
            go_wp2
            exact hKK _ _ (Below.refl _ _) (by first | rfl | (congr 1; cases q.gone <;> rfl))
          | 7, _, ho =>
            have e := Option.some.inj ho; subst e
            have p6 : x 6 = .bool false := hpre 6 (by kernel_rfl)
            have hKK : ∀ (vv : Value) (w'' : World), Kept w1 w'' → (vv = .bool false) → K _ w'' := fun v w'' h1 h2 => hK v w'' h1 h2
            clear hK hpre
            simp only [putAll, dstOf, List.getElem?_toArray, List.getElem?_cons_zero, List.getElem?_cons_succ, Option.bind_some, Act.put, List.setIfInBounds_toArray, List.set_cons_zero, List.set_cons_succ] at hKK ⊢
            simp only [p6] at hKK ⊢
            clear p6
            refine (if_pos (by rfl)).mpr ?_
            go_wp2
            exact hKK _ _ (Below.refl _ _) rfl
          | 8, _, ho =>
            have e := Option.some.inj ho; subst e
            have p7 : x 7 = .bool false := hpre 7 (by kernel_rfl)
            have hKK : ∀ (vv : Value) (w'' : World), Kept w1 w'' → (vv = .pointer (some ⟨B, 0, none⟩)) → K _ w'' := fun v w'' h1 h2 => hK v w'' h1 h2
            clear hK hpre
            simp only [putAll, dstOf, List.getElem?_toArray, List.getElem?_cons_zero, List.getElem?_cons_succ, Option.bind_some, Act.put, List.setIfInBounds_toArray, List.set_cons_zero, List.set_cons_succ] at hKK ⊢
            simp only [p7] at hKK ⊢
            clear p7
            refine (if_pos (by rfl)).mpr ?_
            go_wp2
            exact hKK _ _ (Below.refl _ _) rfl
          | 9, _, ho =>
            have e := Option.some.inj ho; subst e
            have p7 : x 7 = .bool false := hpre 7 (by kernel_rfl)
            have p8 : x 8 = .pointer (some ⟨B, 0, none⟩) := hpre 8 (by kernel_rfl)
            have hKK : ∀ (vv : Value) (w'' : World), Kept w1 w'' → (vv = .int .i64 q.steps) → K _ w'' := fun v w'' h1 h2 => hK v w'' h1 h2
            clear hK hpre
            simp only [putAll, dstOf, List.getElem?_toArray, List.getElem?_cons_zero, List.getElem?_cons_succ, Option.bind_some, Act.put, List.setIfInBounds_toArray, List.set_cons_zero, List.set_cons_succ] at hKK ⊢
            simp only [p7, p8] at hKK ⊢
            clear p7 p8
            refine (if_pos (by rfl)).mpr ?_
            go_wp2_with fail
            refine (power_steps _ _ _ (Blk.kept pq hw)).mono ?_
            rintro e w2 ⟨rfl, rfl⟩
            exact hKK _ _ (Below.refl _ _) rfl
          | 10, _, ho =>
            have e := Option.some.inj ho; subst e
            have p7 : x 7 = .bool false := hpre 7 (by kernel_rfl)
            have hKK : ∀ (vv : Value) (w'' : World), Kept w1 w'' → (vv = .pointer (some ⟨B + 1, 0, none⟩)) → K _ w'' := fun v w'' h1 h2 => hK v w'' h1 h2
            clear hK hpre
            simp only [putAll, dstOf, List.getElem?_toArray, List.getElem?_cons_zero, List.getElem?_cons_succ, Option.bind_some, Act.put, List.setIfInBounds_toArray, List.set_cons_zero, List.set_cons_succ] at hKK ⊢
            simp only [p7] at hKK ⊢
            clear p7
            refine (if_pos (by rfl)).mpr ?_
            go_wp2
            exact hKK _ _ (Below.refl _ _) rfl
          | 11, _, ho =>
            have e := Option.some.inj ho; subst e
            have p7 : x 7 = .bool false := hpre 7 (by kernel_rfl)
            have p10 : x 10 = .pointer (some ⟨B + 1, 0, none⟩) := hpre 10 (by kernel_rfl)
            have hKK : ∀ (vv : Value) (w'' : World), Kept w1 w'' → (vv = .pointer (some ⟨B + 1, 0, none⟩)) → K _ w'' := fun v w'' h1 h2 => hK v w'' h1 h2
            clear hK hpre
            simp only [putAll, dstOf, List.getElem?_toArray, List.getElem?_cons_zero, List.getElem?_cons_succ, Option.bind_some, Act.put, List.setIfInBounds_toArray, List.set_cons_zero, List.set_cons_succ] at hKK ⊢
            simp only [p7, p10] at hKK ⊢
            clear p7 p10
            refine (if_pos (by rfl)).mpr ?_
            go_wp2
            exact hKK _ _ (Below.refl _ _) rfl
          | 12, _, ho =>
            have e := Option.some.inj ho; subst e
            have p7 : x 7 = .bool false := hpre 7 (by kernel_rfl)
            have p11 : x 11 = .pointer (some ⟨B + 1, 0, none⟩) := hpre 11 (by kernel_rfl)
            have hKK : ∀ (vv : Value) (w'' : World), Kept w1 w'' → (vv = .pointer (some ⟨B + 1, 3, none⟩)) → K _ w'' := fun v w'' h1 h2 => hK v w'' h1 h2
            clear hK hpre
            simp only [putAll, dstOf, List.getElem?_toArray, List.getElem?_cons_zero, List.getElem?_cons_succ, Option.bind_some, Act.put, List.setIfInBounds_toArray, List.set_cons_zero, List.set_cons_succ] at hKK ⊢
            simp only [p7, p11] at hKK ⊢
            clear p7 p11
            refine (if_pos (by rfl)).mpr ?_
            go_wp2
            exact hKK _ _ (Below.refl _ _) rfl
          | 13, _, ho =>
            have e := Option.some.inj ho; subst e
            have p7 : x 7 = .bool false := hpre 7 (by kernel_rfl)
            have p12 : x 12 = .pointer (some ⟨B + 1, 3, none⟩) := hpre 12 (by kernel_rfl)
            have hKK : ∀ (vv : Value) (w'' : World), Kept w1 w'' → (vv = .int .i64 q.steps) → K _ w'' := fun v w'' h1 h2 => hK v w'' h1 h2
            clear hK hpre
            simp only [putAll, dstOf, List.getElem?_toArray, List.getElem?_cons_zero, List.getElem?_cons_succ, Option.bind_some, Act.put, List.setIfInBounds_toArray, List.set_cons_zero, List.set_cons_succ] at hKK ⊢
            simp only [p7, p12] at hKK ⊢
            clear p7 p12
            refine (if_pos (by rfl)).mpr ?_
            obtain ⟨c0, c1, c2, c3⟩ := ref_cells (Blk.kept rq hw)
            go_wp2
            exact hKK _ _ (Below.refl _ _) rfl
          | 14, _, ho =>
            have e := Option.some.inj ho; subst e
            have p7 : x 7 = .bool false := hpre 7 (by kernel_rfl)
            have p9 : x 9 = .int .i64 q.steps := hpre 9 (by kernel_rfl)
            have p13 : x 13 = .int .i64 q.steps := hpre 13 (by kernel_rfl)
            have hKK : ∀ (vv : Value) (w'' : World), Kept w1 w'' → (vv = .bool false) → K _ w'' := fun v w'' h1 h2 => hK v w'' h1 h2
            clear hK hpre
            simp only [putAll, dstOf, List.getElem?_toArray, List.getElem?_cons_zero, List.getElem?_cons_succ, Option.bind_some, Act.put, List.setIfInBounds_toArray, List.set_cons_zero, List.set_cons_succ] at hKK ⊢
            simp only [p7, p9, p13] at hKK ⊢
            clear p7 p9 p13
            refine (if_pos (by rfl)).mpr ?_
            go_wp2
            exact hKK _ _ (Below.refl _ _) rfl
          | 15, _, ho =>
            have e := Option.some.inj ho; subst e
            have p7 : x 7 = .bool false := hpre 7 (by kernel_rfl)
            have p14 : x 14 = .bool false := hpre 14 (by kernel_rfl)
            have hKK : ∀ (vv : Value) (w'' : World), Kept w1 w'' → (vv = .bool false) → K _ w'' := fun v w'' h1 h2 => hK v w'' h1 h2
            clear hK hpre
            simp only [putAll, dstOf, List.getElem?_toArray, List.getElem?_cons_zero, List.getElem?_cons_succ, Option.bind_some, Act.put, List.setIfInBounds_toArray, List.set_cons_zero, List.set_cons_succ] at hKK ⊢
            simp only [p7, p14] at hKK ⊢
            clear p7 p14
            refine (if_pos (by rfl)).mpr ?_
            go_wp2
            exact hKK _ _ (Below.refl _ _) rfl
          | i + 16, hi, _ => exact absurd hi (by omega)
        · intro x w1 hw hA
          have p0 : x 0 = .pointer (some ⟨B, 0, none⟩) := hA 0 (by omega)
          have p1 : x 1 = .bool (!q.gone) := hA 1 (by omega)
          have p2 : x 2 = .pointer (some ⟨B + 1, 0, none⟩) := hA 2 (by omega)
          have p3 : x 3 = .pointer (some ⟨B + 1, 0, none⟩) := hA 3 (by omega)
          have p4 : x 4 = .pointer (some ⟨B + 1, 0, none⟩) := hA 4 (by omega)
          have p5 : x 5 = .bool q.gone := hA 5 (by omega)
          have p6 : x 6 = .bool false := hA 6 (by omega)
          have p7 : x 7 = .bool false := hA 7 (by omega)
          have p8 : x 8 = .pointer (some ⟨B, 0, none⟩) := hA 8 (by omega)
          have p9 : x 9 = .int .i64 q.steps := hA 9 (by omega)
          have p10 : x 10 = .pointer (some ⟨B + 1, 0, none⟩) := hA 10 (by omega)
          have p11 : x 11 = .pointer (some ⟨B + 1, 0, none⟩) := hA 11 (by omega)
          have p12 : x 12 = .pointer (some ⟨B + 1, 3, none⟩) := hA 12 (by omega)
          have p13 : x 13 = .int .i64 q.steps := hA 13 (by omega)
          have p14 : x 14 = .bool false := hA 14 (by omega)
          have p15 : x 15 = .bool false := hA 15 (by omega)
          clear hA
          simp only [List.drop_succ_cons, List.drop_zero, putAll, dstOf, List.getElem?_toArray, List.getElem?_cons_zero, List.getElem?_cons_succ, Option.bind_some, Act.put, List.setIfInBounds_toArray, List.set_cons_zero, List.set_cons_succ]
          simp only [p0, p1, p2, p3, p4, p5, p6, p7, p8, p9, p10, p11, p12, p13, p14, p15]
          clear p0 p1 p2 p3 p4 p5 p6 p7 p8 p9 p10 p11 p12 p13 p14 p15
          have hw5 := hw
          have pq5 : PwAt w1 B q := Blk.kept pq hw
          have rq5 : RefAt w1 (B + 1) q lq := Blk.kept rq hw
          clear pq rq hw
          go_wp2
          exact ⟨⟨k + 1, by omega, by go_num, q, lq, pq5, rq5, tq, oq, hbq.trans (hw5.mono hszq), Nat.le_trans hszq hw5.size⟩, by simp [intOf]; omega⟩
      · by_cases h2 : kd = 2
        · subst h2
          obtain ⟨r, q, hsp⟩ : ∃ r q, p.spend = (r, q) := ⟨_, _, rfl⟩
          have oq : q.ok ((k + 1 : Nat) : Int) := by have := spend_ok ok; rw [hsp] at this; exact ok_mono this (by omega)
          have HS := Lib.hid hsp
          clear hsp h1
          go_wp2_with fail
          refine (power_spend_to _ _ _ _ _ pk hok2 HS.out).mono ?_
          rintro e w3 ⟨rfl, p3, g3⟩
          have r3 : RefAt w3 (B + 1) p l := only_blk g3 rk (by omega)
          have hb3 := hb.trans (only_below g3 (Nat.le_refl _) hsz)
          have hs3 := Nat.le_trans hsz g3.size
          clear g3 hsz hb x0
          go_wp2_with fail
          refine (ref_spend _ _ _ _ r3 tk hok2).mono ?_
          rw [HS.out]
          rintro e w4 ⟨rfl, ⟨lq, rq, tq⟩, g4⟩
          have pq : PwAt w4 B q := only_blk g4 p3 (by omega)
          have hbq := hb3.trans (only_below g4 (by omega) (by have := Blk.lt r3; omega))
          have hszq := Nat.le_trans hs3 g4.size
          clear r3 p3 g4 hb3 hs3 pk rk tk ok hok2
          go_wp2_with fail
          refine wp_region_posts 16 (fun i (vv : Value) w' => match i with | 0 => vv = .pointer (some ⟨B, 0, none⟩) | 1 => vv = .bool (!q.gone) | 2 => vv = .pointer (some ⟨B + 1, 0, none⟩) | 3 => vv = .pointer (some ⟨B + 1, 0, none⟩) | 4 => vv = .pointer (some ⟨B + 1, 0, none⟩) | 5 => vv = .bool q.gone | 6 => vv = .bool false | 7 => vv = .bool false | 8 => vv = .pointer (some ⟨B, 0, none⟩) | 9 => vv = .int .i64 q.steps | 10 => vv = .pointer (some ⟨B + 1, 0, none⟩) | 11 => vv = .pointer (some ⟨B + 1, 0, none⟩) | 12 => vv = .pointer (some ⟨B + 1, 3, none⟩) | 13 => vv = .int .i64 q.steps | 14 => vv = .bool false | 15 => vv = .bool false | _ => True) (by kernel_rfl) (by kernel_rfl) ?_ ?_ ?_
          · intro i v w1 w2 h hk
            match i, h with
            | 0, h => exact h
            | 1, h => exact h
            | 2, h => exact h
            | 3, h => exact h
            | 4, h => exact h
            | 5, h => exact h
            | 6, h => exact h
            | 7, h => exact h
            | 8, h => exact h
            | 9, h => exact h
            | 10, h => exact h
            | 11, h => exact h
            | 12, h => exact h
            | 13, h => exact h
            | 14, h => exact h
            | 15, h => exact h
            | _ + 16, _ => trivial
          · intro i o hi ho x w1 hw hpre K hK
            match i, hi, ho with
            | 0, _, ho =>
              have e := Option.some.inj ho; subst e
              have hKK : ∀ (vv : Value) (w'' : World), Kept w1 w'' → (vv = .pointer (some ⟨B, 0, none⟩)) → K _ w'' := fun v w'' h1 h2 => hK v w'' h1 h2
              clear hK hpre
              simp only [putAll, dstOf, List.getElem?_toArray, List.getElem?_cons_zero, List.getElem?_cons_succ, Option.bind_some, Act.put, List.setIfInBounds_toArray, List.set_cons_zero, List.set_cons_succ] at hKK ⊢
              refine (if_pos (by rfl)).mpr ?_
              go_wp2
              exact hKK _ _ (Below.refl _ _) rfl
            | 1, _, ho =>
              have e := Option.some.inj ho; subst e
              have p0 : x 0 = .pointer (some ⟨B, 0, none⟩) := hpre 0 (by kernel_rfl)
              have hKK : ∀ (vv : Value) (w'' : World), Kept w1 w'' → (vv = .bool (!q.gone)) → K _ w'' := fun v w'' h1 h2 => hK v w'' h1 h2
              clear hK hpre
              simp only [putAll, dstOf, List.getElem?_toArray, List.getElem?_cons_zero, List.getElem?_cons_succ, Option.bind_some, Act.put, List.setIfInBounds_toArray, List.set_cons_zero, List.set_cons_succ] at hKK ⊢
              simp only [p0] at hKK ⊢
              clear p0
              refine (if_pos (by rfl)).mpr ?_
              go_wp2_with fail
              refine (power_on _ _ _ (Blk.kept pq hw)).mono ?_
              rintro e w2 ⟨rfl, rfl⟩
              exact hKK _ _ (Below.refl _ _) rfl
            | 2, _, ho =>
              have e := Option.some.inj ho; subst e
              have hKK : ∀ (vv : Value) (w'' : World), Kept w1 w'' → (vv = .pointer (some ⟨B + 1, 0, none⟩)) → K _ w'' := fun v w'' h1 h2 => hK v w'' h1 h2
              clear hK hpre
              simp only [putAll, dstOf, List.getElem?_toArray, List.getElem?_cons_zero, List.getElem?_cons_succ, Option.bind_some, Act.put, List.setIfInBounds_toArray, List.set_cons_zero, List.set_cons_succ] at hKK ⊢
              refine (if_pos (by rfl)).mpr ?_
              go_wp2
              exact hKK _ _ (Below.refl _ _) rfl
            | 3, _, ho =>
              have e := Option.some.inj ho; subst e
              have p2 : x 2 = .pointer (some ⟨B + 1, 0, none⟩) := hpre 2 (by kernel_rfl)
              have hKK : ∀ (vv : Value) (w'' : World), Kept w1 w'' → (vv = .pointer (some ⟨B + 1, 0, none⟩)) → K _ w'' := fun v w'' h1 h2 => hK v w'' h1 h2
              clear hK hpre
              simp only [putAll, dstOf, List.getElem?_toArray, List.getElem?_cons_zero, List.getElem?_cons_succ, Option.bind_some, Act.put, List.setIfInBounds_toArray, List.set_cons_zero, List.set_cons_succ] at hKK ⊢
              simp only [p2] at hKK ⊢
              clear p2
              refine (if_pos (by rfl)).mpr ?_
              go_wp2
              exact hKK _ _ (Below.refl _ _) rfl
            | 4, _, ho =>
              have e := Option.some.inj ho; subst e
              have p3 : x 3 = .pointer (some ⟨B + 1, 0, none⟩) := hpre 3 (by kernel_rfl)
              have hKK : ∀ (vv : Value) (w'' : World), Kept w1 w'' → (vv = .pointer (some ⟨B + 1, 0, none⟩)) → K _ w'' := fun v w'' h1 h2 => hK v w'' h1 h2
              clear hK hpre
              simp only [putAll, dstOf, List.getElem?_toArray, List.getElem?_cons_zero, List.getElem?_cons_succ, Option.bind_some, Act.put, List.setIfInBounds_toArray, List.set_cons_zero, List.set_cons_succ] at hKK ⊢
              simp only [p3] at hKK ⊢
              clear p3
              refine (if_pos (by rfl)).mpr ?_
              go_wp2
              exact hKK _ _ (Below.refl _ _) rfl
            | 5, _, ho =>
              have e := Option.some.inj ho; subst e
              have p4 : x 4 = .pointer (some ⟨B + 1, 0, none⟩) := hpre 4 (by kernel_rfl)
              have hKK : ∀ (vv : Value) (w'' : World), Kept w1 w'' → (vv = .bool q.gone) → K _ w'' := fun v w'' h1 h2 => hK v w'' h1 h2
              clear hK hpre
              simp only [putAll, dstOf, List.getElem?_toArray, List.getElem?_cons_zero, List.getElem?_cons_succ, Option.bind_some, Act.put, List.setIfInBounds_toArray, List.set_cons_zero, List.set_cons_succ] at hKK ⊢
              simp only [p4] at hKK ⊢
              clear p4
              refine (if_pos (by rfl)).mpr ?_
              obtain ⟨c0, c1, c2, c3⟩ := ref_cells (Blk.kept rq hw)
              go_wp2
              exact hKK _ _ (Below.refl _ _) rfl
            | 6, _, ho =>
              have e := Option.some.inj ho; subst e
              have p1 : x 1 = .bool (!q.gone) := hpre 1 (by kernel_rfl)
              have p5 : x 5 = .bool q.gone := hpre 5 (by kernel_rfl)
              have hKK : ∀ (vv : Value) (w'' : World), Kept w1 w'' → (vv = .bool false) → K _ w'' := fun v w'' h1 h2 => hK v w'' h1 h2
              clear hK hpre
              simp only [putAll, dstOf, List.getElem?_toArray, List.getElem?_cons_zero, List.getElem?_cons_succ, Option.bind_some, Act.put, List.setIfInBounds_toArray, List.set_cons_zero, List.set_cons_succ] at hKK ⊢
              simp only [p1, p5] at hKK ⊢
              clear p1 p5
              refine (if_pos (by rfl)).mpr ?_
              go_wp2
              exact hKK _ _ (Below.refl _ _) (by first | rfl | (congr 1; cases q.gone <;> rfl))
            | 7, _, ho =>
              have e := Option.some.inj ho; subst e
              have p6 : x 6 = .bool false := hpre 6 (by kernel_rfl)
              have hKK : ∀ (vv : Value) (w'' : World), Kept w1 w'' → (vv = .bool false) → K _ w'' := fun v w'' h1 h2 => hK v w'' h1 h2
              clear hK hpre
              simp only [putAll, dstOf, List.getElem?_toArray, List.getElem?_cons_zero, List.getElem?_cons_succ, Option.bind_some, Act.put, List.setIfInBounds_toArray, List.set_cons_zero, List.set_cons_succ] at hKK ⊢
              simp only [p6] at hKK ⊢
              clear p6
              refine (if_pos (by rfl)).mpr ?_
              go_wp2
              exact hKK _ _ (Below.refl _ _) rfl
            | 8, _, ho =>
              have e := Option.some.inj ho; subst e
              have p7 : x 7 = .bool false := hpre 7 (by kernel_rfl)
              have hKK : ∀ (vv : Value) (w'' : World), Kept w1 w'' → (vv = .pointer (some ⟨B, 0, none⟩)) → K _ w'' := fun v w'' h1 h2 => hK v w'' h1 h2
              clear hK hpre
              simp only [putAll, dstOf, List.getElem?_toArray, List.getElem?_cons_zero, List.getElem?_cons_succ, Option.bind_some, Act.put, List.setIfInBounds_toArray, List.set_cons_zero, List.set_cons_succ] at hKK ⊢
              simp only [p7] at hKK ⊢
              clear p7
              refine (if_pos (by rfl)).mpr ?_
              go_wp2
              exact hKK _ _ (Below.refl _ _) rfl
            | 9, _, ho =>
              have e := Option.some.inj ho; subst e
              have p7 : x 7 = .bool false := hpre 7 (by kernel_rfl)
              have p8 : x 8 = .pointer (some ⟨B, 0, none⟩) := hpre 8 (by kernel_rfl)
              have hKK : ∀ (vv : Value) (w'' : World), Kept w1 w'' → (vv = .int .i64 q.steps) → K _ w'' := fun v w'' h1 h2 => hK v w'' h1 h2
              clear hK hpre
              simp only [putAll, dstOf, List.getElem?_toArray, List.getElem?_cons_zero, List.getElem?_cons_succ, Option.bind_some, Act.put, List.setIfInBounds_toArray, List.set_cons_zero, List.set_cons_succ] at hKK ⊢
              simp only [p7, p8] at hKK ⊢
              clear p7 p8
              refine (if_pos (by rfl)).mpr ?_
              go_wp2_with fail
              refine (power_steps _ _ _ (Blk.kept pq hw)).mono ?_
              rintro e w2 ⟨rfl, rfl⟩
              exact hKK _ _ (Below.refl _ _) rfl
            | 10, _, ho =>
              have e := Option.some.inj ho; subst e
              have p7 : x 7 = .bool false := hpre 7 (by kernel_rfl)
              have hKK : ∀ (vv : Value) (w'' : World), Kept w1 w'' → (vv = .pointer (some ⟨B + 1, 0, none⟩)) → K _ w'' := fun v w'' h1 h2 => hK v w'' h1 h2
              clear hK hpre
              simp only [putAll, dstOf, List.getElem?_toArray, List.getElem?_cons_zero, List.getElem?_cons_succ, Option.bind_some, Act.put, List.setIfInBounds_toArray, List.set_cons_zero, List.set_cons_succ] at hKK ⊢
              simp only [p7] at hKK ⊢
              clear p7
              refine (if_pos (by rfl)).mpr ?_
              go_wp2
              exact hKK _ _ (Below.refl _ _) rfl
            | 11, _, ho =>
              have e := Option.some.inj ho; subst e
              have p7 : x 7 = .bool false := hpre 7 (by kernel_rfl)
              have p10 : x 10 = .pointer (some ⟨B + 1, 0, none⟩) := hpre 10 (by kernel_rfl)
              have hKK : ∀ (vv : Value) (w'' : World), Kept w1 w'' → (vv = .pointer (some ⟨B + 1, 0, none⟩)) → K _ w'' := fun v w'' h1 h2 => hK v w'' h1 h2
              clear hK hpre
              simp only [putAll, dstOf, List.getElem?_toArray, List.getElem?_cons_zero, List.getElem?_cons_succ, Option.bind_some, Act.put, List.setIfInBounds_toArray, List.set_cons_zero, List.set_cons_succ] at hKK ⊢
              simp only [p7, p10] at hKK ⊢
              clear p7 p10
              refine (if_pos (by rfl)).mpr ?_
              go_wp2
              exact hKK _ _ (Below.refl _ _) rfl
            | 12, _, ho =>
              have e := Option.some.inj ho; subst e
              have p7 : x 7 = .bool false := hpre 7 (by kernel_rfl)
              have p11 : x 11 = .pointer (some ⟨B + 1, 0, none⟩) := hpre 11 (by kernel_rfl)
              have hKK : ∀ (vv : Value) (w'' : World), Kept w1 w'' → (vv = .pointer (some ⟨B + 1, 3, none⟩)) → K _ w'' := fun v w'' h1 h2 => hK v w'' h1 h2
              clear hK hpre
              simp only [putAll, dstOf, List.getElem?_toArray, List.getElem?_cons_zero, List.getElem?_cons_succ, Option.bind_some, Act.put, List.setIfInBounds_toArray, List.set_cons_zero, List.set_cons_succ] at hKK ⊢
              simp only [p7, p11] at hKK ⊢
              clear p7 p11
              refine (if_pos (by rfl)).mpr ?_
              go_wp2
              exact hKK _ _ (Below.refl _ _) rfl
            | 13, _, ho =>
              have e := Option.some.inj ho; subst e
              have p7 : x 7 = .bool false := hpre 7 (by kernel_rfl)
              have p12 : x 12 = .pointer (some ⟨B + 1, 3, none⟩) := hpre 12 (by kernel_rfl)
              have hKK : ∀ (vv : Value) (w'' : World), Kept w1 w'' → (vv = .int .i64 q.steps) → K _ w'' := fun v w'' h1 h2 => hK v w'' h1 h2
              clear hK hpre
              simp only [putAll, dstOf, List.getElem?_toArray, List.getElem?_cons_zero, List.getElem?_cons_succ, Option.bind_some, Act.put, List.setIfInBounds_toArray, List.set_cons_zero, List.set_cons_succ] at hKK ⊢
              simp only [p7, p12] at hKK ⊢
              clear p7 p12
              refine (if_pos (by rfl)).mpr ?_
              obtain ⟨c0, c1, c2, c3⟩ := ref_cells (Blk.kept rq hw)
              go_wp2
              exact hKK _ _ (Below.refl _ _) rfl
            | 14, _, ho =>
              have e := Option.some.inj ho; subst e
              have p7 : x 7 = .bool false := hpre 7 (by kernel_rfl)
              have p9 : x 9 = .int .i64 q.steps := hpre 9 (by kernel_rfl)
              have p13 : x 13 = .int .i64 q.steps := hpre 13 (by kernel_rfl)
              have hKK : ∀ (vv : Value) (w'' : World), Kept w1 w'' → (vv = .bool false) → K _ w'' := fun v w'' h1 h2 => hK v w'' h1 h2
              clear hK hpre
              simp only [putAll, dstOf, List.getElem?_toArray, List.getElem?_cons_zero, List.getElem?_cons_succ, Option.bind_some, Act.put, List.setIfInBounds_toArray, List.set_cons_zero, List.set_cons_succ] at hKK ⊢
              simp only [p7, p9, p13] at hKK ⊢
              clear p7 p9 p13
              refine (if_pos (by rfl)).mpr ?_
              go_wp2
              exact hKK _ _ (Below.refl _ _) rfl
            | 15, _, ho =>
              have e := Option.some.inj ho; subst e
              have p7 : x 7 = .bool false := hpre 7 (by kernel_rfl)
              have p14 : x 14 = .bool false := hpre 14 (by kernel_rfl)
              have hKK : ∀ (vv : Value) (w'' : World), Kept w1 w'' → (vv = .bool false) → K _ w'' := fun v w'' h1 h2 => hK v w'' h1 h2
              clear hK hpre
              simp only [putAll, dstOf, List.getElem?_toArray, List.getElem?_cons_zero, List.getElem?_cons_succ, Option.bind_some, Act.put, List.setIfInBounds_toArray, List.set_cons_zero, List.set_cons_succ] at hKK ⊢
              simp only [p7, p14] at hKK ⊢
              clear p7 p14
              refine (if_pos (by rfl)).mpr ?_
              go_wp2
              exact hKK _ _ (Below.refl _ _) rfl
            | i + 16, hi, _ => exact absurd hi (by omega)
          · intro x w1 hw hA
            have p0 : x 0 = .pointer (some ⟨B, 0, none⟩) := hA 0 (by omega)
            have p1 : x 1 = .bool (!q.gone) := hA 1 (by omega)
            have p2 : x 2 = .pointer (some ⟨B + 1, 0, none⟩) := hA 2 (by omega)
            have p3 : x 3 = .pointer (some ⟨B + 1, 0, none⟩) := hA 3 (by omega)
            have p4 : x 4 = .pointer (some ⟨B + 1, 0, none⟩) := hA 4 (by omega)
            have p5 : x 5 = .bool q.gone := hA 5 (by omega)
            have p6 : x 6 = .bool false := hA 6 (by omega)
            have p7 : x 7 = .bool false := hA 7 (by omega)
            have p8 : x 8 = .pointer (some ⟨B, 0, none⟩) := hA 8 (by omega)
            have p9 : x 9 = .int .i64 q.steps := hA 9 (by omega)
            have p10 : x 10 = .pointer (some ⟨B + 1, 0, none⟩) := hA 10 (by omega)
            have p11 : x 11 = .pointer (some ⟨B + 1, 0, none⟩) := hA 11 (by omega)
            have p12 : x 12 = .pointer (some ⟨B + 1, 3, none⟩) := hA 12 (by omega)
            have p13 : x 13 = .int .i64 q.steps := hA 13 (by omega)
            have p14 : x 14 = .bool false := hA 14 (by omega)
            have p15 : x 15 = .bool false := hA 15 (by omega)
            clear hA
            simp only [List.drop_succ_cons, List.drop_zero, putAll, dstOf, List.getElem?_toArray, List.getElem?_cons_zero, List.getElem?_cons_succ, Option.bind_some, Act.put, List.setIfInBounds_toArray, List.set_cons_zero, List.set_cons_succ]
            simp only [p0, p1, p2, p3, p4, p5, p6, p7, p8, p9, p10, p11, p12, p13, p14, p15]
            clear p0 p1 p2 p3 p4 p5 p6 p7 p8 p9 p10 p11 p12 p13 p14 p15
            have hw5 := hw
            have pq5 : PwAt w1 B q := Blk.kept pq hw
            have rq5 : RefAt w1 (B + 1) q lq := Blk.kept rq hw
            clear pq rq hw
            go_wp2
            exact ⟨⟨k + 1, by omega, by go_num, q, lq, pq5, rq5, tq, oq, hbq.trans (hw5.mono hszq), Nat.le_trans hszq hw5.size⟩, by simp [intOf]; omega⟩
        · go_wp2_with fail
          refine (power_back _ _ _ pk).mono ?_
          rintro e w3 ⟨rfl, p3, g3⟩
          have r3 : RefAt w3 (B + 1) p l := only_blk g3 rk (by omega)
          have hb3 := hb.trans (only_below g3 (Nat.le_refl _) hsz)
          have hs3 := Nat.le_trans hsz g3.size
          clear g3 hsz hb x0
          go_wp2_with fail
          refine (ref_back _ _ _ _ r3).mono ?_
          rintro e w4 ⟨rfl, r4, g4⟩
          have pq : PwAt w4 B p.back := only_blk g4 p3 (by omega)
          have rq := r4
          have hbq := hb3.trans (only_below g4 (by omega) (by have := Blk.lt r3; omega))
          have hszq := Nat.le_trans hs3 g4.size
          have oq : p.back.ok ((k + 1 : Nat) : Int) := ok_mono (back_ok ok) (by omega)
          have tq : Twin p.back l := fun h => by cases h
          clear r3 p3 r4 g4 hb3 hs3 pk rk tk ok hok2
          generalize p.back = q at *
          obtain ⟨lq, hlq⟩ : ∃ lq, lq = l := ⟨_, rfl⟩
          rw [← hlq] at rq tq
          clear hlq
          go_wp2_with fail
          refine wp_region_posts 16 (fun i (vv : Value) w' => match i with | 0 => vv = .pointer (some ⟨B, 0, none⟩) | 1 => vv = .bool (!q.gone) | 2 => vv = .pointer (some ⟨B + 1, 0, none⟩) | 3 => vv = .pointer (some ⟨B + 1, 0, none⟩) | 4 => vv = .pointer (some ⟨B + 1, 0, none⟩) | 5 => vv = .bool q.gone | 6 => vv = .bool false | 7 => vv = .bool false | 8 => vv = .pointer (some ⟨B, 0, none⟩) | 9 => vv = .int .i64 q.steps | 10 => vv = .pointer (some ⟨B + 1, 0, none⟩) | 11 => vv = .pointer (some ⟨B + 1, 0, none⟩) | 12 => vv = .pointer (some ⟨B + 1, 3, none⟩) | 13 => vv = .int .i64 q.steps | 14 => vv = .bool false | 15 => vv = .bool false | _ => True) (by kernel_rfl) (by kernel_rfl) ?_ ?_ ?_
          · intro i v w1 w2 h hk
            match i, h with
            | 0, h => exact h
            | 1, h => exact h
            | 2, h => exact h
            | 3, h => exact h
            | 4, h => exact h
            | 5, h => exact h
            | 6, h => exact h
            | 7, h => exact h
            | 8, h => exact h
            | 9, h => exact h
            | 10, h => exact h
            | 11, h => exact h
            | 12, h => exact h
            | 13, h => exact h
            | 14, h => exact h
            | 15, h => exact h
            | _ + 16, _ => trivial
          · intro i o hi ho x w1 hw hpre K hK
            match i, hi, ho with
            | 0, _, ho =>
              have e := Option.some.inj ho; subst e
              have hKK : ∀ (vv : Value) (w'' : World), Kept w1 w'' → (vv = .pointer (some ⟨B, 0, none⟩)) → K _ w'' := fun v w'' h1 h2 => hK v w'' h1 h2
              clear hK hpre
              simp only [putAll, dstOf, List.getElem?_toArray, List.getElem?_cons_zero, List.getElem?_cons_succ, Option.bind_some, Act.put, List.setIfInBounds_toArray, List.set_cons_zero, List.set_cons_succ] at hKK ⊢
              refine (if_pos (by rfl)).mpr ?_
              go_wp2
              exact hKK _ _ (Below.refl _ _) rfl
            | 1, _, ho =>
              have e := Option.some.inj ho; subst e
              have p0 : x 0 = .pointer (some ⟨B, 0, none⟩) := hpre 0 (by kernel_rfl)
              have hKK : ∀ (vv : Value) (w'' : World), Kept w1 w'' → (vv = .bool (!q.gone)) → K _ w'' := fun v w'' h1 h2 => hK v w'' h1 h2
              clear hK hpre
              simp only [putAll, dstOf, List.getElem?_toArray, List.getElem?_cons_zero, List.getElem?_cons_succ, Option.bind_some, Act.put, List.setIfInBounds_toArray, List.set_cons_zero, List.set_cons_succ] at hKK ⊢
              simp only [p0] at hKK ⊢
              clear p0
              refine (if_pos (by rfl)).mpr ?_
              go_wp2_with fail
              refine (power_on _ _ _ (Blk.kept pq hw)).mono ?_
              rintro e w2 ⟨rfl, rfl⟩
              exact hKK _ _ (Below.refl _ _) rfl
            | 2, _, ho =>
              have e := Option.some.inj ho; subst e
              have hKK : ∀ (vv : Value) (w'' : World), Kept w1 w'' → (vv = .pointer (some ⟨B + 1, 0, none⟩)) → K _ w'' := fun v w'' h1 h2 => hK v w'' h1 h2
              clear hK hpre
              simp only [putAll, dstOf, List.getElem?_toArray, List.getElem?_cons_zero, List.getElem?_cons_succ, Option.bind_some, Act.put, List.setIfInBounds_toArray, List.set_cons_zero, List.set_cons_succ] at hKK ⊢
              refine (if_pos (by rfl)).mpr ?_
              go_wp2
              exact hKK _ _ (Below.refl _ _) rfl
            | 3, _, ho =>
              have e := Option.some.inj ho; subst e
              have p2 : x 2 = .pointer (some ⟨B + 1, 0, none⟩) := hpre 2 (by kernel_rfl)
              have hKK : ∀ (vv : Value) (w'' : World), Kept w1 w'' → (vv = .pointer (some ⟨B + 1, 0, none⟩)) → K _ w'' := fun v w'' h1 h2 => hK v w'' h1 h2
              clear hK hpre
              simp only [putAll, dstOf, List.getElem?_toArray, List.getElem?_cons_zero, List.getElem?_cons_succ, Option.bind_some, Act.put, List.setIfInBounds_toArray, List.set_cons_zero, List.set_cons_succ] at hKK ⊢
              simp only [p2] at hKK ⊢
              clear p2
              refine (if_pos (by rfl)).mpr ?_
              go_wp2
              exact hKK _ _ (Below.refl _ _) rfl
            | 4, _, ho =>
              have e := Option.some.inj ho; subst e
              have p3 : x 3 = .pointer (some ⟨B + 1, 0, none⟩) := hpre 3 (by kernel_rfl)
              have hKK : ∀ (vv : Value) (w'' : World), Kept w1 w'' → (vv = .pointer (some ⟨B + 1, 0, none⟩)) → K _ w'' := fun v w'' h1 h2 => hK v w'' h1 h2
              clear hK hpre
              simp only [putAll, dstOf, List.getElem?_toArray, List.getElem?_cons_zero, List.getElem?_cons_succ, Option.bind_some, Act.put, List.setIfInBounds_toArray, List.set_cons_zero, List.set_cons_succ] at hKK ⊢
              simp only [p3] at hKK ⊢
              clear p3
              refine (if_pos (by rfl)).mpr ?_
              go_wp2
              exact hKK _ _ (Below.refl _ _) rfl
            | 5, _, ho =>
              have e := Option.some.inj ho; subst e
              have p4 : x 4 = .pointer (some ⟨B + 1, 0, none⟩) := hpre 4 (by kernel_rfl)
              have hKK : ∀ (vv : Value) (w'' : World), Kept w1 w'' → (vv = .bool q.gone) → K _ w'' := fun v w'' h1 h2 => hK v w'' h1 h2
              clear hK hpre
              simp only [putAll, dstOf, List.getElem?_toArray, List.getElem?_cons_zero, List.getElem?_cons_succ, Option.bind_some, Act.put, List.setIfInBounds_toArray, List.set_cons_zero, List.set_cons_succ] at hKK ⊢
              simp only [p4] at hKK ⊢
              clear p4
              refine (if_pos (by rfl)).mpr ?_
              obtain ⟨c0, c1, c2, c3⟩ := ref_cells (Blk.kept rq hw)
              go_wp2
              exact hKK _ _ (Below.refl _ _) rfl
            | 6, _, ho =>
              have e := Option.some.inj ho; subst e
              have p1 : x 1 = .bool (!q.gone) := hpre 1 (by kernel_rfl)
              have p5 : x 5 = .bool q.gone := hpre 5 (by kernel_rfl)
              have hKK : ∀ (vv : Value) (w'' : World), Kept w1 w'' → (vv = .bool false) → K _ w'' := fun v w'' h1 h2 => hK v w'' h1 h2
              clear hK hpre
              simp only [putAll, dstOf, List.getElem?_toArray, List.getElem?_cons_zero, List.getElem?_cons_succ, Option.bind_some, Act.put, List.setIfInBounds_toArray, List.set_cons_zero, List.set_cons_succ] at hKK ⊢
              simp only [p1, p5] at hKK ⊢
              clear p1 p5
              refine (if_pos (by rfl)).mpr ?_
              go_wp2
              exact hKK _ _ (Below.refl _ _) (by first | rfl | (congr 1; cases q.gone <;> rfl))
            | 7, _, ho =>
              have e := Option.some.inj ho; subst e
              have p6 : x 6 = .bool false := hpre 6 (by kernel_rfl)
              have hKK : ∀ (vv : Value) (w'' : World), Kept w1 w'' → (vv = .bool false) → K _ w'' := fun v w'' h1 h2 => hK v w'' h1 h2
              clear hK hpre
              simp only [putAll, dstOf, List.getElem?_toArray, List.getElem?_cons_zero, List.getElem?_cons_succ, Option.bind_some, Act.put, List.setIfInBounds_toArray, List.set_cons_zero, List.set_cons_succ] at hKK ⊢
              simp only [p6] at hKK ⊢
              clear p6
              refine (if_pos (by rfl)).mpr ?_
              go_wp2
              exact hKK _ _ (Below.refl _ _) rfl
            | 8, _, ho =>
              have e := Option.some.inj ho; subst e
              have p7 : x 7 = .bool false := hpre 7 (by kernel_rfl)
              have hKK : ∀ (vv : Value) (w'' : World), Kept w1 w'' → (vv = .pointer (some ⟨B, 0, none⟩)) → K _ w'' := fun v w'' h1 h2 => hK v w'' h1 h2
              clear hK hpre
              simp only [putAll, dstOf, List.getElem?_toArray, List.getElem?_cons_zero, List.getElem?_cons_succ, Option.bind_some, Act.put, List.setIfInBounds_toArray, List.set_cons_zero, List.set_cons_succ] at hKK ⊢
              simp only [p7] at hKK ⊢
              clear p7
              refine (if_pos (by rfl)).mpr ?_
              go_wp2
              exact hKK _ _ (Below.refl _ _) rfl
            | 9, _, ho =>
              have e := Option.some.inj ho; subst e
              have p7 : x 7 = .bool false := hpre 7 (by kernel_rfl)
              have p8 : x 8 = .pointer (some ⟨B, 0, none⟩) := hpre 8 (by kernel_rfl)
              have hKK : ∀ (vv : Value) (w'' : World), Kept w1 w'' → (vv = .int .i64 q.steps) → K _ w'' := fun v w'' h1 h2 => hK v w'' h1 h2
              clear hK hpre
              simp only [putAll, dstOf, List.getElem?_toArray, List.getElem?_cons_zero, List.getElem?_cons_succ, Option.bind_some, Act.put, List.setIfInBounds_toArray, List.set_cons_zero, List.set_cons_succ] at hKK ⊢
              simp only [p7, p8] at hKK ⊢
              clear p7 p8
              refine (if_pos (by rfl)).mpr ?_
              go_wp2_with fail
              refine (power_steps _ _ _ (Blk.kept pq hw)).mono ?_
              rintro e w2 ⟨rfl, rfl⟩
              exact hKK _ _ (Below.refl _ _) rfl
            | 10, _, ho =>
              have e := Option.some.inj ho; subst e
              have p7 : x 7 = .bool false := hpre 7 (by kernel_rfl)
              have hKK : ∀ (vv : Value) (w'' : World), Kept w1 w'' → (vv = .pointer (some ⟨B + 1, 0, none⟩)) → K _ w'' := fun v w'' h1 h2 => hK v w'' h1 h2
              clear hK hpre
              simp only [putAll, dstOf, List.getElem?_toArray, List.getElem?_cons_zero, List.getElem?_cons_succ, Option.bind_some, Act.put, List.setIfInBounds_toArray, List.set_cons_zero, List.set_cons_succ] at hKK ⊢
              simp only [p7] at hKK ⊢
              clear p7
              refine (if_pos (by rfl)).mpr ?_
              go_wp2
              exact hKK _ _ (Below.refl _ _) rfl
            | 11, _, ho =>
              have e := Option.some.inj ho; subst e
              have p7 : x 7 = .bool false := hpre 7 (by kernel_rfl)
              have p10 : x 10 = .pointer (some ⟨B + 1, 0, none⟩) := hpre 10 (by kernel_rfl)
              have hKK : ∀ (vv : Value) (w'' : World), Kept w1 w'' → (vv = .pointer (some ⟨B + 1, 0, none⟩)) → K _ w'' := fun v w'' h1 h2 => hK v w'' h1 h2
              clear hK hpre
              simp only [putAll, dstOf, List.getElem?_toArray, List.getElem?_cons_zero, List.getElem?_cons_succ, Option.bind_some, Act.put, List.setIfInBounds_toArray, List.set_cons_zero, List.set_cons_succ] at hKK ⊢
              simp only [p7, p10] at hKK ⊢
              clear p7 p10
              refine (if_pos (by rfl)).mpr ?_
              go_wp2
              exact hKK _ _ (Below.refl _ _) rfl
            | 12, _, ho =>
              have e := Option.some.inj ho; subst e
              have p7 : x 7 = .bool false := hpre 7 (by kernel_rfl)
              have p11 : x 11 = .pointer (some ⟨B + 1, 0, none⟩) := hpre 11 (by kernel_rfl)
              have hKK : ∀ (vv : Value) (w'' : World), Kept w1 w'' → (vv = .pointer (some ⟨B + 1, 3, none⟩)) → K _ w'' := fun v w'' h1 h2 => hK v w'' h1 h2
              clear hK hpre
              simp only [putAll, dstOf, List.getElem?_toArray, List.getElem?_cons_zero, List.getElem?_cons_succ, Option.bind_some, Act.put, List.setIfInBounds_toArray, List.set_cons_zero, List.set_cons_succ] at hKK ⊢
              simp only [p7, p11] at hKK ⊢
              clear p7 p11
              refine (if_pos (by rfl)).mpr ?_
              go_wp2
              exact hKK _ _ (Below.refl _ _) rfl
            | 13, _, ho =>
              have e := Option.some.inj ho; subst e
              have p7 : x 7 = .bool false := hpre 7 (by kernel_rfl)
              have p12 : x 12 = .pointer (some ⟨B + 1, 3, none⟩) := hpre 12 (by kernel_rfl)
              have hKK : ∀ (vv : Value) (w'' : World), Kept w1 w'' → (vv = .int .i64 q.steps) → K _ w'' := fun v w'' h1 h2 => hK v w'' h1 h2
              clear hK hpre
              simp only [putAll, dstOf, List.getElem?_toArray, List.getElem?_cons_zero, List.getElem?_cons_succ, Option.bind_some, Act.put, List.setIfInBounds_toArray, List.set_cons_zero, List.set_cons_succ] at hKK ⊢
              simp only [p7, p12] at hKK ⊢
              clear p7 p12
              refine (if_pos (by rfl)).mpr ?_
              obtain ⟨c0, c1, c2, c3⟩ := ref_cells (Blk.kept rq hw)
              go_wp2
              exact hKK _ _ (Below.refl _ _) rfl
            | 14, _, ho =>
              have e := Option.some.inj ho; subst e
              have p7 : x 7 = .bool false := hpre 7 (by kernel_rfl)
              have p9 : x 9 = .int .i64 q.steps := hpre 9 (by kernel_rfl)
              have p13 : x 13 = .int .i64 q.steps := hpre 13 (by kernel_rfl)
              have hKK : ∀ (vv : Value) (w'' : World), Kept w1 w'' → (vv = .bool false) → K _ w'' := fun v w'' h1 h2 => hK v w'' h1 h2
              clear hK hpre
              simp only [putAll, dstOf, List.getElem?_toArray, List.getElem?_cons_zero, List.getElem?_cons_succ, Option.bind_some, Act.put, List.setIfInBounds_toArray, List.set_cons_zero, List.set_cons_succ] at hKK ⊢
              simp only [p7, p9, p13] at hKK ⊢
              clear p7 p9 p13
              refine (if_pos (by rfl)).mpr ?_
              go_wp2
              exact hKK _ _ (Below.refl _ _) rfl
            | 15, _, ho =>
              have e := Option.some.inj ho; subst e
              have p7 : x 7 = .bool false := hpre 7 (by kernel_rfl)
              have p14 : x 14 = .bool false := hpre 14 (by kernel_rfl)
              have hKK : ∀ (vv : Value) (w'' : World), Kept w1 w'' → (vv = .bool false) → K _ w'' := fun v w'' h1 h2 => hK v w'' h1 h2
              clear hK hpre
              simp only [putAll, dstOf, List.getElem?_toArray, List.getElem?_cons_zero, List.getElem?_cons_succ, Option.bind_some, Act.put, List.setIfInBounds_toArray, List.set_cons_zero, List.set_cons_succ] at hKK ⊢
              simp only [p7, p14] at hKK ⊢
              clear p7 p14
              refine (if_pos (by rfl)).mpr ?_
              go_wp2
              exact hKK _ _ (Below.refl _ _) rfl
            | i + 16, hi, _ => exact absurd hi (by omega)
          · intro x w1 hw hA
            have p0 : x 0 = .pointer (some ⟨B, 0, none⟩) := hA 0 (by omega)
            have p1 : x 1 = .bool (!q.gone) := hA 1 (by omega)
            have p2 : x 2 = .pointer (some ⟨B + 1, 0, none⟩) := hA 2 (by omega)
            have p3 : x 3 = .pointer (some ⟨B + 1, 0, none⟩) := hA 3 (by omega)
            have p4 : x 4 = .pointer (some ⟨B + 1, 0, none⟩) := hA 4 (by omega)
            have p5 : x 5 = .bool q.gone := hA 5 (by omega)
            have p6 : x 6 = .bool false := hA 6 (by omega)
            have p7 : x 7 = .bool false := hA 7 (by omega)
            have p8 : x 8 = .pointer (some ⟨B, 0, none⟩) := hA 8 (by omega)
            have p9 : x 9 = .int .i64 q.steps := hA 9 (by omega)
            have p10 : x 10 = .pointer (some ⟨B + 1, 0, none⟩) := hA 10 (by omega)
            have p11 : x 11 = .pointer (some ⟨B + 1, 0, none⟩) := hA 11 (by omega)
            have p12 : x 12 = .pointer (some ⟨B + 1, 3, none⟩) := hA 12 (by omega)
            have p13 : x 13 = .int .i64 q.steps := hA 13 (by omega)
            have p14 : x 14 = .bool false := hA 14 (by omega)
            have p15 : x 15 = .bool false := hA 15 (by omega)
            clear hA
            simp only [List.drop_succ_cons, List.drop_zero, putAll, dstOf, List.getElem?_toArray, List.getElem?_cons_zero, List.getElem?_cons_succ, Option.bind_some, Act.put, List.setIfInBounds_toArray, List.set_cons_zero, List.set_cons_succ]
            simp only [p0, p1, p2, p3, p4, p5, p6, p7, p8, p9, p10, p11, p12, p13, p14, p15]
            clear p0 p1 p2 p3 p4 p5 p6 p7 p8 p9 p10 p11 p12 p13 p14 p15
            have hw5 := hw
            have pq5 : PwAt w1 B q := Blk.kept pq hw
            have rq5 : RefAt w1 (B + 1) q lq := Blk.kept rq hw
            clear pq rq hw
            go_wp2
            exact ⟨⟨k + 1, by omega, by go_num, q, lq, pq5, rq5, tq, oq, hbq.trans (hw5.mono hszq), Nat.le_trans hszq hw5.size⟩, by simp [intOf]; omega⟩
    · have : k = n := by omega
      subst this
      have HI := Lib.hid hi
      have HA := Lib.hid ha
      clear hi ha
      go_wp2_with fail
      refine (known_any _).mono ?_
      rintro e w6 ⟨rfl, hk6⟩
      go_wp2
      go_ret
      exact ⟨rfl, by show Below w.heap.size w _; rw [← HB.out]; exact hb.trans (hk6.mono hsz)⟩

namespace powerPlaysRow
open Go.ChangeShapes Go.WideShapes Go.ChangeAt Go.RowKit
theorem own : ownKnob Try.prog.godebug = none := by kernel_rfl
theorem laidOut : laidOutB Try.prog = true := by kernel_rfl

set_option maxRecDepth 100000 in
theorem lifted (os : Os) (started : os.Started) (H : Type) (enc : TypeId × Value → H) :
    ReturnsInHanded {} Try.checked os 4 .any (Rows.powerPlaysSpec.pre6 enc Try.prog Try.f4 Rows.powerPlaysRow.domain false) (Rows.powerPlaysSpec.post enc Try.prog Try.f4 false true false false) := by
  refine returnsInHanded_of_change (C := Try.checked) own started (by kernel_rfl) Try.func4
    (ChangeSpec.witness6 (enc := enc) (C := Try.checked) false ⟨#[], #[.slice none 0 0], []⟩ 8 (by kernel_rfl) (by kernel_rfl) (by kernel_rfl) (by kernel_rfl)) ?_
  intro W base args ds gs before hval0 hW _ hsz
  have hval : ∀ (j : Nat) t v, Try.f4.params[j]? = some t → args[j]? = some v → Value.okWide Try.prog W .any base t v := hval0
  have hW' := hW
  obtain ⟨p, q, hA0, hV, rfl, hfz, hnd⟩ := hW
  have hA : DataW.TrodAll enc Try.prog W 0 (fun _ => true) true Try.f4.params.toList args.toList ds p := hA0
  rw [Try.params4] at hA hval
  obtain ⟨v0, vs0, d0, ds0, p0, q0, hargs, rfl, rfl, h0, r0⟩ := trodAll_cons hA
  obtain ⟨rfl, rfl, rfl⟩ := trodAll_nil r0
  obtain rfl : args = #[v0] := by cases args; simp_all
  obtain ⟨n0, f0, a0, t0⟩ := open_acts (e := 32) (H := H) Try.underlying27 Try.underlying32 (by kernel_rfl) (by kernel_rfl) (by decide) (hval 0 27 v0 rfl rfl) h0
  have i0 : ∀ i, i < n0 → ∀ j, j < 2 → ∃ m, f0 i j = .int .i64 m ∧ -9223372036854775808 ≤ m ∧ m ≤ 9223372036854775807 := by
    intro i hi j hj
    match j, hj with
    | 0, _ => obtain ⟨fu, y, h⟩ := t0 i hi 0 _ rfl; exact acts_int Try.underlying3 h
    | 1, _ => obtain ⟨fu, y, h⟩ := t0 i hi 1 _ rfl; exact acts_int Try.underlying3 h
  refine (plays_walk n0 f0 v0 W a0 i0).mono fun e W' ⟨he, bel⟩ => ?_
  subst he
  exact ⟨_, rfl, law_post (tb := 4) laidOut (by kernel_rfl) Try.underlying4 (by rfl) rfl (by intro xs hxs; match xs, hxs with | [x0], _ => rfl) hW' bel⟩

theorem over : Rows.powerPlaysRow.holds Try.pinned (OpenSpec.ofChange Rows.powerPlaysSpec) :=
  OpenClaim.holds_of_wide 4 Try.f4 rfl rfl rfl rfl rfl rfl rfl ⟨rfl, rfl, rfl, rfl, rfl⟩ rfl rfl rfl rfl rfl (by kernel_rfl) Try.func4 (by kernel_rfl)
    (of_decide_eq_true (by kernel_rfl)) (by unfold Func.isWrapper; rw [if_neg (of_decide_eq_false (by kernel_rfl))]; exact ⟨rfl, rfl⟩)
    (fun os started H enc _ => lifted os started H enc)
end powerPlaysRow

theorem powerPlays_holds : Rows.PowerPlaysSaid := powerPlaysRow.over
#print axioms powerPlays_holds


end Go.Proofs.Ytoogkjbfemdemaa
