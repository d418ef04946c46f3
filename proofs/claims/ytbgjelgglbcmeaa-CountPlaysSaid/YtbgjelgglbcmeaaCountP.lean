/- CountPlays: of every script each answer, all numbers. -/
import Derived.Test.YtbgjelgglbcmeaaCountK
import Derived.Test.YtbgjelgglbcmeaaRows
import Derived.Test.YtbgjelgglbcmeaaPosts
namespace Go.Proofs.Ytbgjelgglbcmeaa
open Go Go.RowKit

set_option maxRecDepth 100000 in
set_option maxHeartbeats 8000000 in
theorem plays_walk (n : Nat) (f : Nat → Nat → Value) (v : Value) (w : World) (hl : Acts w v n 1 f) (hi : ∀ i, i < n → ∃ m, f i 0 = .int .i64 m ∧ -9223372036854775808 ≤ m ∧ m ≤ 9223372036854775807) :
    Calls Try.prog 5 #[v] w fun e w' => e = .returned (.bool true) ∧ Kept w w' := by
  obtain ⟨a, cap, rfl, hn, hm, ha⟩ := hl
  by_cases hn300 : 300 < n
  · go_enter Try.func5, Try.ntmps5
    go_wp2
    go_ret
    exact ⟨rfl, Below.refl _ _⟩
  go_enter Try.func5, Try.ntmps5
  go_wp2_with fail
  refine (power_new _).mono ?_
  rintro e w1 ⟨rfl, p1, hk1, hz1⟩
  go_wp2_with fail
  refine (count_new _ _).mono ?_
  rintro e w3 ⟨rfl, c3, hk3, hz3⟩
  have hz3' : w3.heap.size = w.heap.size + 1 + 1 + 1 := by simp at hz3; omega
  have p3 : PwAt w3 w.heap.size Pw.new := (Blk.alloc p1 _).kept hk3
  have r3 : RefAt w3 (w.heap.size + 1) Pw.new 0 := by
    have := (Blk.new w1 #[.bool false, .bool false, .int .i64 0, .int .i64 0] 35).kept hk3
    rw [hz1] at this
    exact this
  have c3 : CtAt w3 (w.heap.size + 1 + 1) w.heap.size Cn.zero := by simpa [hz1] using c3
  go_wp2_with fail
  have p4 : PwAt (w3.alloc (.cells #[.pointer (some ⟨w.heap.size + 1, 0, none⟩), U 0#64, U 0#64, U 0#64] 38)) w.heap.size Pw.new := Blk.alloc p3 _
  have r4 : RefAt (w3.alloc (.cells #[.pointer (some ⟨w.heap.size + 1, 0, none⟩), U 0#64, U 0#64, U 0#64] 38)) (w.heap.size + 1) Pw.new 0 := Blk.alloc r3 _
  have c4 : CtAt (w3.alloc (.cells #[.pointer (some ⟨w.heap.size + 1, 0, none⟩), U 0#64, U 0#64, U 0#64] 38)) (w.heap.size + 1 + 1) w.heap.size Cn.zero := Blk.alloc c3 _
  have x4 : RcAt (w3.alloc (.cells #[.pointer (some ⟨w.heap.size + 1, 0, none⟩), U 0#64, U 0#64, U 0#64] 38)) (w.heap.size + 1 + 1 + 1) (w.heap.size + 1) Cn.zero := by
    have := Blk.new w3 #[.pointer (some ⟨w.heap.size + 1, 0, none⟩), U 0#64, U 0#64, U 0#64] 38
    rw [hz3'] at this
    exact this
  have hb4 : Below w.heap.size w (w3.alloc (.cells #[.pointer (some ⟨w.heap.size + 1, 0, none⟩), U 0#64, U 0#64, U 0#64] 38)) := ((hk1.alloc (by omega) _).trans (hk3.mono (by simp <;> omega))).alloc (by omega) _
  have hs4 : w.heap.size ≤ (w3.alloc (.cells #[.pointer (some ⟨w.heap.size + 1, 0, none⟩), U 0#64, U 0#64, U 0#64] 38)).heap.size := by simp; omega
  try simp only [hz1, hz3']
  clear hz1 hz3 hz3' p1 hk1 hk3 p3 r3 c3
  generalize (w3.alloc (.cells #[.pointer (some ⟨w.heap.size + 1, 0, none⟩), U 0#64, U 0#64, U 0#64] 38)) = w4 at *
  obtain ⟨B, hB⟩ : ∃ B, B = w.heap.size := ⟨_, rfl⟩
  simp only [← hB] at p4 r4 c4 x4 hb4 hs4
  simp only [← hB]
  have HB := Lib.hid hB
  clear hB
  go_loopw [7] (fun i wr => ∃ k : Nat, k ≤ n ∧ i = .int .i64 k ∧ ∃ p l n0, PwAt wr B p ∧ RefAt wr (B + 1) p l ∧ CtAt wr (B + 1 + 1) B n0 ∧ RcAt wr (B + 1 + 1 + 1) (B + 1) n0 ∧ Twin p l ∧ p.ok k ∧ Below B w wr ∧ B ≤ wr.heap.size) (fun i _ => n - (intOf i).toNat)
  case atStart => exact ⟨0, by omega, rfl, Pw.new, 0, Cn.zero, p4, r4, c4, x4, (fun h => by cases h), new_ok, hb4, hs4⟩
  case round =>
    obtain ⟨k, hk, rfl, p, l, n0, pk, rk, ck, xk, tk, ok, hb, hsz⟩ := hrel
    clear p4 r4 c4 x4 hb4 hs4
    by_cases hlt : k < n
    · obtain ⟨b, off, rfl, hbw, hcell⟩ := ha k hlt
      rw [← HB.out] at hbw
      obtain ⟨m, hm0, m0, m1⟩ := hi k hlt
      have x0 := (hb.cell (p := ⟨b, off + k * 1 + 0, none⟩) hbw).trans (hcell 0 (by omega))
      rw [hm0, Nat.mul_one, Nat.add_zero] at x0
      have HI := Lib.hid hi
      have HA := Lib.hid ha
      have HC := Lib.hid hcell
      have HM := Lib.hid hm0
      clear hi ha hcell hm0
      have hok2 : p.ok 9223372036854775806 := ok_mono ok (by omega)
      by_cases h0 : m = 0
      · subst h0
        obtain ⟨r, q, hsp⟩ : ∃ r q, p.spend = (r, q) := ⟨_, _, rfl⟩
        have oq : q.ok ((k + 1 : Nat) : Int) := by have := spend_ok ok; rw [hsp] at this; exact ok_mono this (by omega)
        have HS := Lib.hid hsp
        clear hsp
        go_wp2_with fail
        refine (count_bump _ _ _ _ _ _ _ ck pk (by omega) hok2 HS.out).mono ?_
        rintro e w3 ⟨rfl, c3, p3, g3⟩
        have r3 : RefAt w3 (B + 1) p l := g3.blk rk (by simp <;> omega)
        have x3 : RcAt w3 (B + 1 + 1 + 1) (B + 1) n0 := g3.blk xk (by simp <;> omega)
        have hb3 := hb.trans (g3.below (by simp <;> omega) hsz)
        have hs3 := Nat.le_trans hsz g3.size
        clear g3 hsz hb x0
        go_wp2_with fail
        refine (rcount_bump _ _ _ _ _ _ _ _ x3 r3 tk (by omega) hok2 HS.out).mono ?_
        rintro e w4 ⟨rfl, xq, ⟨lq, rq, tq⟩, g4⟩
        have pq : PwAt w4 B q := g4.blk p3 (by simp <;> omega)
        have cq : CtAt w4 (B + 1 + 1) B (if r then n0.bump else n0) := g4.blk c3 (by simp <;> omega)
        have hbq := hb3.trans (g4.below (by simp <;> omega) hs3)
        have hszq := Nat.le_trans hs3 g4.size
        clear r3 p3 g4 hb3 hs3 pk rk tk ok hok2 ck xk c3 x3
        obtain ⟨c, hc⟩ : ∃ c, c = (if r then n0.bump else n0) := ⟨_, rfl⟩
        rw [← hc] at xq cq
        clear hc
        go_wp2_with fail
        refine wp_region_posts 25 (fun i (vv : Value) w' => match i with | 0 => vv = .pointer (some ⟨B + 1 + 1, 0, none⟩) | 1 => vv = U c.value | 2 => vv = .pointer (some ⟨B + 1 + 1 + 1, 0, none⟩) | 3 => vv = .pointer (some ⟨B + 1 + 1 + 1, 0, none⟩) | 4 => vv = .pointer (some ⟨B + 1 + 1 + 1, 1, none⟩) | 5 => vv = U c.value | 6 => vv = .bool false | 7 => vv = .bool false | 8 => vv = .pointer (some ⟨B + 1 + 1, 0, none⟩) | 9 => vv = U c.boots | 10 => vv = .pointer (some ⟨B + 1 + 1 + 1, 0, none⟩) | 11 => vv = .pointer (some ⟨B + 1 + 1 + 1, 0, none⟩) | 12 => vv = .pointer (some ⟨B + 1 + 1 + 1, 2, none⟩) | 13 => vv = U c.boots | 14 => vv = .bool false | 15 => vv = .bool false | 16 => vv = .bool false | 17 => vv = .pointer (some ⟨B + 1 + 1, 0, none⟩) | 18 => vv = U c.at_ | 19 => vv = .pointer (some ⟨B + 1 + 1 + 1, 0, none⟩) | 20 => vv = .pointer (some ⟨B + 1 + 1 + 1, 0, none⟩) | 21 => vv = .pointer (some ⟨B + 1 + 1 + 1, 3, none⟩) | 22 => vv = U c.at_ | 23 => vv = .bool false | 24 => vv = .bool false | _ => True) (by kernel_rfl) (by kernel_rfl) ?_ ?_ ?_
        · intro i v w1 w2 h hk
          match i, h with
          | 0, h => exact h
          | 1, h => exact h
          | 2, h => exact h
          | 3, h => exact h
          | 4, h => exact h
          | 5, h => exact h
          | 6, h => exact h
          | 7, h => exact h
          | 8, h => exact h
          | 9, h => exact h
          | 10, h => exact h
          | 11, h => exact h
          | 12, h => exact h
          | 13, h => exact h
          | 14, h => exact h
          | 15, h => exact h
          | 16, h => exact h
          | 17, h => exact h
          | 18, h => exact h
          | 19, h => exact h
          | 20, h => exact h
          | 21, h => exact h
          | 22, h => exact h
          | 23, h => exact h
          | 24, h => exact h
          | _ + 25, _ => trivial
        · intro i o hi ho x w1 hw hpre K hK
          match i, hi, ho with
          | 0, _, ho =>
            have e := Option.some.inj ho; subst e
            have hKK : ∀ (vv : Value) (w'' : World), Kept w1 w'' → (vv = .pointer (some ⟨B + 1 + 1, 0, none⟩)) → K _ w'' := fun v w'' h1 h2 => hK v w'' h1 h2
            clear hK hpre
            simp only [putAll, dstOf, List.getElem?_toArray, List.getElem?_cons_zero, List.getElem?_cons_succ, Option.bind_some, Act.put, List.setIfInBounds_toArray, List.set_cons_zero, List.set_cons_succ] at hKK ⊢
            refine (if_pos (by rfl)).mpr ?_
            go_wp2
            exact hKK _ _ (Below.refl _ _) rfl
          | 1, _, ho =>
            have e := Option.some.inj ho; subst e
            have p0 : x 0 = .pointer (some ⟨B + 1 + 1, 0, none⟩) := hpre 0 (by kernel_rfl)
            have hKK : ∀ (vv : Value) (w'' : World), Kept w1 w'' → (vv = U c.value) → K _ w'' := fun v w'' h1 h2 => hK v w'' h1 h2
            clear hK hpre
            simp only [putAll, dstOf, List.getElem?_toArray, List.getElem?_cons_zero, List.getElem?_cons_succ, Option.bind_some, Act.put, List.setIfInBounds_toArray, List.set_cons_zero, List.set_cons_succ] at hKK ⊢
            simp only [p0] at hKK ⊢
            clear p0
            refine (if_pos (by rfl)).mpr ?_
            go_wp2_with fail
            refine (count_value _ _ _ _ (Blk.kept cq hw)).mono ?_
            rintro e w2 ⟨rfl, rfl⟩
            exact hKK _ _ (Below.refl _ _) rfl
          | 2, _, ho =>
            have e := Option.some.inj ho; subst e
            have hKK : ∀ (vv : Value) (w'' : World), Kept w1 w'' → (vv = .pointer (some ⟨B + 1 + 1 + 1, 0, none⟩)) → K _ w'' := fun v w'' h1 h2 => hK v w'' h1 h2
            clear hK hpre
            simp only [putAll, dstOf, List.getElem?_toArray, List.getElem?_cons_zero, List.getElem?_cons_succ, Option.bind_some, Act.put, List.setIfInBounds_toArray, List.set_cons_zero, List.set_cons_succ] at hKK ⊢
            refine (if_pos (by rfl)).mpr ?_
            go_wp2
            exact hKK _ _ (Below.refl _ _) rfl
          | 3, _, ho =>
            have e := Option.some.inj ho; subst e
            have p2 : x 2 = .pointer (some ⟨B + 1 + 1 + 1, 0, none⟩) := hpre 2 (by kernel_rfl)
            have hKK : ∀ (vv : Value) (w'' : World), Kept w1 w'' → (vv = .pointer (some ⟨B + 1 + 1 + 1, 0, none⟩)) → K _ w'' := fun v w'' h1 h2 => hK v w'' h1 h2
            clear hK hpre
            simp only [putAll, dstOf, List.getElem?_toArray, List.getElem?_cons_zero, List.getElem?_cons_succ, Option.bind_some, Act.put, List.setIfInBounds_toArray, List.set_cons_zero, List.set_cons_succ] at hKK ⊢
            simp only [p2] at hKK ⊢
            clear p2
            refine (if_pos (by rfl)).mpr ?_
            go_wp2
            exact hKK _ _ (Below.refl _ _) rfl
          | 4, _, ho =>
            have e := Option.some.inj ho; subst e
            have p3 : x 3 = .pointer (some ⟨B + 1 + 1 + 1, 0, none⟩) := hpre 3 (by kernel_rfl)
            have hKK : ∀ (vv : Value) (w'' : World), Kept w1 w'' → (vv = .pointer (some ⟨B + 1 + 1 + 1, 1, none⟩)) → K _ w'' := fun v w'' h1 h2 => hK v w'' h1 h2
            clear hK hpre
            simp only [putAll, dstOf, List.getElem?_toArray, List.getElem?_cons_zero, List.getElem?_cons_succ, Option.bind_some, Act.put, List.setIfInBounds_toArray, List.set_cons_zero, List.set_cons_succ] at hKK ⊢
            simp only [p3] at hKK ⊢
            clear p3
            refine (if_pos (by rfl)).mpr ?_
            go_wp2
            exact hKK _ _ (Below.refl _ _) rfl
          | 5, _, ho =>
            have e := Option.some.inj ho; subst e
            have p4 : x 4 = .pointer (some ⟨B + 1 + 1 + 1, 1, none⟩) := hpre 4 (by kernel_rfl)
            have hKK : ∀ (vv : Value) (w'' : World), Kept w1 w'' → (vv = U c.value) → K _ w'' := fun v w'' h1 h2 => hK v w'' h1 h2
            clear hK hpre
            simp only [putAll, dstOf, List.getElem?_toArray, List.getElem?_cons_zero, List.getElem?_cons_succ, Option.bind_some, Act.put, List.setIfInBounds_toArray, List.set_cons_zero, List.set_cons_succ] at hKK ⊢
            simp only [p4] at hKK ⊢
            clear p4
            refine (if_pos (by rfl)).mpr ?_
            have q0 := (Blk.kept xq hw).cell 1; have q1 := (Blk.kept xq hw).cell 2; have q2 := (Blk.kept xq hw).cell 3
            go_wp2
            exact hKK _ _ (Below.refl _ _) rfl
          | 6, _, ho =>
            have e := Option.some.inj ho; subst e
            have p1 : x 1 = U c.value := hpre 1 (by kernel_rfl)
            have p5 : x 5 = U c.value := hpre 5 (by kernel_rfl)
            have hKK : ∀ (vv : Value) (w'' : World), Kept w1 w'' → (vv = .bool false) → K _ w'' := fun v w'' h1 h2 => hK v w'' h1 h2
            clear hK hpre
            simp only [putAll, dstOf, List.getElem?_toArray, List.getElem?_cons_zero, List.getElem?_cons_succ, Option.bind_some, Act.put, List.setIfInBounds_toArray, List.set_cons_zero, List.set_cons_succ] at hKK ⊢
            simp only [p1, p5] at hKK ⊢
            clear p1 p5
            refine (if_pos (by rfl)).mpr ?_
            go_wp2
            exact hKK _ _ (Below.refl _ _) rfl
          | 7, _, ho =>
            have e := Option.some.inj ho; subst e
            have p6 : x 6 = .bool false := hpre 6 (by kernel_rfl)
            have hKK : ∀ (vv : Value) (w'' : World), Kept w1 w'' → (vv = .bool false) → K _ w'' := fun v w'' h1 h2 => hK v w'' h1 h2
            clear hK hpre
            simp only [putAll, dstOf, List.getElem?_toArray, List.getElem?_cons_zero, List.getElem?_cons_succ, Option.bind_some, Act.put, List.setIfInBounds_toArray, List.set_cons_zero, List.set_cons_succ] at hKK ⊢
            simp only [p6] at hKK ⊢
            clear p6
            refine (if_pos (by rfl)).mpr ?_
            go_wp2
            exact hKK _ _ (Below.refl _ _) rfl
          | 8, _, ho =>
            have e := Option.some.inj ho; subst e
            have p7 : x 7 = .bool false := hpre 7 (by kernel_rfl)
            have hKK : ∀ (vv : Value) (w'' : World), Kept w1 w'' → (vv = .pointer (some ⟨B + 1 + 1, 0, none⟩)) → K _ w'' := fun v w'' h1 h2 => hK v w'' h1 h2
            clear hK hpre
            simp only [putAll, dstOf, List.getElem?_toArray, List.getElem?_cons_zero, List.getElem?_cons_succ, Option.bind_some, Act.put, List.setIfInBounds_toArray, List.set_cons_zero, List.set_cons_succ] at hKK ⊢
            simp only [p7] at hKK ⊢
            clear p7
            refine (if_pos (by rfl)).mpr ?_
            go_wp2
            exact hKK _ _ (Below.refl _ _) rfl
          | 9, _, ho =>
            have e := Option.some.inj ho; subst e
            have p7 : x 7 = .bool false := hpre 7 (by kernel_rfl)
            have p8 : x 8 = .pointer (some ⟨B + 1 + 1, 0, none⟩) := hpre 8 (by kernel_rfl)
            have hKK : ∀ (vv : Value) (w'' : World), Kept w1 w'' → (vv = U c.boots) → K _ w'' := fun v w'' h1 h2 => hK v w'' h1 h2
            clear hK hpre
            simp only [putAll, dstOf, List.getElem?_toArray, List.getElem?_cons_zero, List.getElem?_cons_succ, Option.bind_some, Act.put, List.setIfInBounds_toArray, List.set_cons_zero, List.set_cons_succ] at hKK ⊢
            simp only [p7, p8] at hKK ⊢
            clear p7 p8
            refine (if_pos (by rfl)).mpr ?_
            go_wp2_with fail
            refine (count_boots _ _ _ _ (Blk.kept cq hw)).mono ?_
            rintro e w2 ⟨rfl, rfl⟩
            exact hKK _ _ (Below.refl _ _) rfl
          | 10, _, ho =>
            have e := Option.some.inj ho; subst e
            have p7 : x 7 = .bool false := hpre 7 (by kernel_rfl)
            have hKK : ∀ (vv : Value) (w'' : World), Kept w1 w'' → (vv = .pointer (some ⟨B + 1 + 1 + 1, 0, none⟩)) → K _ w'' := fun v w'' h1 h2 => hK v w'' h1 h2
            clear hK hpre
            simp only [putAll, dstOf, List.getElem?_toArray, List.getElem?_cons_zero, List.getElem?_cons_succ, Option.bind_some, Act.put, List.setIfInBounds_toArray, List.set_cons_zero, List.set_cons_succ] at hKK ⊢
            simp only [p7] at hKK ⊢
            clear p7
            refine (if_pos (by rfl)).mpr ?_
            go_wp2
            exact hKK _ _ (Below.refl _ _) rfl
          | 11, _, ho =>
            have e := Option.some.inj ho; subst e
            have p7 : x 7 = .bool false := hpre 7 (by kernel_rfl)
            have p10 : x 10 = .pointer (some ⟨B + 1 + 1 + 1, 0, none⟩) := hpre 10 (by kernel_rfl)
            have hKK : ∀ (vv : Value) (w'' : World), Kept w1 w'' → (vv = .pointer (some ⟨B + 1 + 1 + 1, 0, none⟩)) → K _ w'' := fun v w'' h1 h2 => hK v w'' h1 h2
            clear hK hpre
            simp only [putAll, dstOf, List.getElem?_toArray, List.getElem?_cons_zero, List.getElem?_cons_succ, Option.bind_some, Act.put, List.setIfInBounds_toArray, List.set_cons_zero, List.set_cons_succ] at hKK ⊢
            simp only [p7, p10] at hKK ⊢
            clear p7 p10
            refine (if_pos (by rfl)).mpr ?_
            go_wp2
            exact hKK _ _ (Below.refl _ _) rfl
          | 12, _, ho =>
            have e := Option.some.inj ho; subst e
            have p7 : x 7 = .bool false := hpre 7 (by kernel_rfl)
            have p11 : x 11 = .pointer (some ⟨B + 1 + 1 + 1, 0, none⟩) := hpre 11 (by kernel_rfl)
            have hKK : ∀ (vv : Value) (w'' : World), Kept w1 w'' → (vv = .pointer (some ⟨B + 1 + 1 + 1, 2, none⟩)) → K _ w'' := fun v w'' h1 h2 => hK v w'' h1 h2
            clear hK hpre
            simp only [putAll, dstOf, List.getElem?_toArray, List.getElem?_cons_zero, List.getElem?_cons_succ, Option.bind_some, Act.put, List.setIfInBounds_toArray, List.set_cons_zero, List.set_cons_succ] at hKK ⊢
            simp only [p7, p11] at hKK ⊢
            clear p7 p11
            refine (if_pos (by rfl)).mpr ?_
            go_wp2
            exact hKK _ _ (Below.refl _ _) rfl
          | 13, _, ho =>
            have e := Option.some.inj ho; subst e
            have p7 : x 7 = .bool false := hpre 7 (by kernel_rfl)
            have p12 : x 12 = .pointer (some ⟨B + 1 + 1 + 1, 2, none⟩) := hpre 12 (by kernel_rfl)
            have hKK : ∀ (vv : Value) (w'' : World), Kept w1 w'' → (vv = U c.boots) → K _ w'' := fun v w'' h1 h2 => hK v w'' h1 h2
            clear hK hpre
            simp only [putAll, dstOf, List.getElem?_toArray, List.getElem?_cons_zero, List.getElem?_cons_succ, Option.bind_some, Act.put, List.setIfInBounds_toArray, List.set_cons_zero, List.set_cons_succ] at hKK ⊢
            simp only [p7, p12] at hKK ⊢
            clear p7 p12
            refine (if_pos (by rfl)).mpr ?_
            have q0 := (Blk.kept xq hw).cell 1; have q1 := (Blk.kept xq hw).cell 2; have q2 := (Blk.kept xq hw).cell 3
            go_wp2
            exact hKK _ _ (Below.refl _ _) rfl
          | 14, _, ho =>
            have e := Option.some.inj ho; subst e
            have p7 : x 7 = .bool false := hpre 7 (by kernel_rfl)
            have p9 : x 9 = U c.boots := hpre 9 (by kernel_rfl)
            have p13 : x 13 = U c.boots := hpre 13 (by kernel_rfl)
            have hKK : ∀ (vv : Value) (w'' : World), Kept w1 w'' → (vv = .bool false) → K _ w'' := fun v w'' h1 h2 => hK v w'' h1 h2
            clear hK hpre
            simp only [putAll, dstOf, List.getElem?_toArray, List.getElem?_cons_zero, List.getElem?_cons_succ, Option.bind_some, Act.put, List.setIfInBounds_toArray, List.set_cons_zero, List.set_cons_succ] at hKK ⊢
            simp only [p7, p9, p13] at hKK ⊢
            clear p7 p9 p13
            refine (if_pos (by rfl)).mpr ?_
            go_wp2
            exact hKK _ _ (Below.refl _ _) rfl
          | 15, _, ho =>
            have e := Option.some.inj ho; subst e
            have p7 : x 7 = .bool false := hpre 7 (by kernel_rfl)
            have p14 : x 14 = .bool false := hpre 14 (by kernel_rfl)
            have hKK : ∀ (vv : Value) (w'' : World), Kept w1 w'' → (vv = .bool false) → K _ w'' := fun v w'' h1 h2 => hK v w'' h1 h2
            clear hK hpre
            simp only [putAll, dstOf, List.getElem?_toArray, List.getElem?_cons_zero, List.getElem?_cons_succ, Option.bind_some, Act.put, List.setIfInBounds_toArray, List.set_cons_zero, List.set_cons_succ] at hKK ⊢
            simp only [p7, p14] at hKK ⊢
            clear p7 p14
            refine (if_pos (by rfl)).mpr ?_
            go_wp2
            exact hKK _ _ (Below.refl _ _) rfl
          | 16, _, ho =>
            have e := Option.some.inj ho; subst e
            have p15 : x 15 = .bool false := hpre 15 (by kernel_rfl)
            have hKK : ∀ (vv : Value) (w'' : World), Kept w1 w'' → (vv = .bool false) → K _ w'' := fun v w'' h1 h2 => hK v w'' h1 h2
            clear hK hpre
            simp only [putAll, dstOf, List.getElem?_toArray, List.getElem?_cons_zero, List.getElem?_cons_succ, Option.bind_some, Act.put, List.setIfInBounds_toArray, List.set_cons_zero, List.set_cons_succ] at hKK ⊢
            simp only [p15] at hKK ⊢
            clear p15
            refine (if_pos (by rfl)).mpr ?_
            go_wp2
            exact hKK _ _ (Below.refl _ _) rfl
          | 17, _, ho =>
            have e := Option.some.inj ho; subst e
            have p16 : x 16 = .bool false := hpre 16 (by kernel_rfl)
            have hKK : ∀ (vv : Value) (w'' : World), Kept w1 w'' → (vv = .pointer (some ⟨B + 1 + 1, 0, none⟩)) → K _ w'' := fun v w'' h1 h2 => hK v w'' h1 h2
            clear hK hpre
            simp only [putAll, dstOf, List.getElem?_toArray, List.getElem?_cons_zero, List.getElem?_cons_succ, Option.bind_some, Act.put, List.setIfInBounds_toArray, List.set_cons_zero, List.set_cons_succ] at hKK ⊢
            simp only [p16] at hKK ⊢
            clear p16
            refine (if_pos (by rfl)).mpr ?_
            go_wp2
            exact hKK _ _ (Below.refl _ _) rfl
          | 18, _, ho =>
            have e := Option.some.inj ho; subst e
            have p16 : x 16 = .bool false := hpre 16 (by kernel_rfl)
            have p17 : x 17 = .pointer (some ⟨B + 1 + 1, 0, none⟩) := hpre 17 (by kernel_rfl)
            have hKK : ∀ (vv : Value) (w'' : World), Kept w1 w'' → (vv = U c.at_) → K _ w'' := fun v w'' h1 h2 => hK v w'' h1 h2
            clear hK hpre
            simp only [putAll, dstOf, List.getElem?_toArray, List.getElem?_cons_zero, List.getElem?_cons_succ, Option.bind_some, Act.put, List.setIfInBounds_toArray, List.set_cons_zero, List.set_cons_succ] at hKK ⊢
            simp only [p16, p17] at hKK ⊢
            clear p16 p17
            refine (if_pos (by rfl)).mpr ?_
            go_wp2_with fail
            refine (count_at _ _ _ _ (Blk.kept cq hw)).mono ?_
            rintro e w2 ⟨rfl, rfl⟩
            exact hKK _ _ (Below.refl _ _) rfl
          | 19, _, ho =>
            have e := Option.some.inj ho; subst e
            have p16 : x 16 = .bool false := hpre 16 (by kernel_rfl)
            have hKK : ∀ (vv : Value) (w'' : World), Kept w1 w'' → (vv = .pointer (some ⟨B + 1 + 1 + 1, 0, none⟩)) → K _ w'' := fun v w'' h1 h2 => hK v w'' h1 h2
            clear hK hpre
            simp only [putAll, dstOf, List.getElem?_toArray, List.getElem?_cons_zero, List.getElem?_cons_succ, Option.bind_some, Act.put, List.setIfInBounds_toArray, List.set_cons_zero, List.set_cons_succ] at hKK ⊢
            simp only [p16] at hKK ⊢
            clear p16
            refine (if_pos (by rfl)).mpr ?_
            go_wp2
            exact hKK _ _ (Below.refl _ _) rfl
          | 20, _, ho =>
            have e := Option.some.inj ho; subst e
            have p16 : x 16 = .bool false := hpre 16 (by kernel_rfl)
            have p19 : x 19 = .pointer (some ⟨B + 1 + 1 + 1, 0, none⟩) := hpre 19 (by kernel_rfl)
            have hKK : ∀ (vv : Value) (w'' : World), Kept w1 w'' → (vv = .pointer (some ⟨B + 1 + 1 + 1, 0, none⟩)) → K _ w'' := fun v w'' h1 h2 => hK v w'' h1 h2
            clear hK hpre
            simp only [putAll, dstOf, List.getElem?_toArray, List.getElem?_cons_zero, List.getElem?_cons_succ, Option.bind_some, Act.put, List.setIfInBounds_toArray, List.set_cons_zero, List.set_cons_succ] at hKK ⊢
            simp only [p16, p19] at hKK ⊢
            clear p16 p19
            refine (if_pos (by rfl)).mpr ?_
            go_wp2
            exact hKK _ _ (Below.refl _ _) rfl
          | 21, _, ho =>
            have e := Option.some.inj ho; subst e
            have p16 : x 16 = .bool false := hpre 16 (by kernel_rfl)
            have p20 : x 20 = .pointer (some ⟨B + 1 + 1 + 1, 0, none⟩) := hpre 20 (by kernel_rfl)
            have hKK : ∀ (vv : Value) (w'' : World), Kept w1 w'' → (vv = .pointer (some ⟨B + 1 + 1 + 1, 3, none⟩)) → K _ w'' := fun v w'' h1 h2 => hK v w'' h1 h2
            clear hK hpre
            simp only [putAll, dstOf, List.getElem?_toArray, List.getElem?_cons_zero, List.getElem?_cons_succ, Option.bind_some, Act.put, List.setIfInBounds_toArray, List.set_cons_zero, List.set_cons_succ] at hKK ⊢
            simp only [p16, p20] at hKK ⊢
            clear p16 p20
            refine (if_pos (by rfl)).mpr ?_
            go_wp2
            exact hKK _ _ (Below.refl _ _) rfl
          | 22, _, ho =>
            have e := Option.some.inj ho; subst e
            have p16 : x 16 = .bool false := hpre 16 (by kernel_rfl)
            have p21 : x 21 = .pointer (some ⟨B + 1 + 1 + 1, 3, none⟩) := hpre 21 (by kernel_rfl)
            have hKK : ∀ (vv : Value) (w'' : World), Kept w1 w'' → (vv = U c.at_) → K _ w'' := fun v w'' h1 h2 => hK v w'' h1 h2
            clear hK hpre
            simp only [putAll, dstOf, List.getElem?_toArray, List.getElem?_cons_zero, List.getElem?_cons_succ, Option.bind_some, Act.put, List.setIfInBounds_toArray, List.set_cons_zero, List.set_cons_succ] at hKK ⊢
            simp only [p16, p21] at hKK ⊢
            clear p16 p21
            refine (if_pos (by rfl)).mpr ?_
            have q0 := (Blk.kept xq hw).cell 1; have q1 := (Blk.kept xq hw).cell 2; have q2 := (Blk.kept xq hw).cell 3
            go_wp2
            exact hKK _ _ (Below.refl _ _) rfl
          | 23, _, ho =>
            have e := Option.some.inj ho; subst e
            have p16 : x 16 = .bool false := hpre 16 (by kernel_rfl)
            have p18 : x 18 = U c.at_ := hpre 18 (by kernel_rfl)
            have p22 : x 22 = U c.at_ := hpre 22 (by kernel_rfl)
            have hKK : ∀ (vv : Value) (w'' : World), Kept w1 w'' → (vv = .bool false) → K _ w'' := fun v w'' h1 h2 => hK v w'' h1 h2
            clear hK hpre
            simp only [putAll, dstOf, List.getElem?_toArray, List.getElem?_cons_zero, List.getElem?_cons_succ, Option.bind_some, Act.put, List.setIfInBounds_toArray, List.set_cons_zero, List.set_cons_succ] at hKK ⊢
            simp only [p16, p18, p22] at hKK ⊢
            clear p16 p18 p22
            refine (if_pos (by rfl)).mpr ?_
            go_wp2
            exact hKK _ _ (Below.refl _ _) rfl
          | 24, _, ho =>
            have e := Option.some.inj ho; subst e
            have p16 : x 16 = .bool false := hpre 16 (by kernel_rfl)
            have p23 : x 23 = .bool false := hpre 23 (by kernel_rfl)
            have hKK : ∀ (vv : Value) (w'' : World), Kept w1 w'' → (vv = .bool false) → K _ w'' := fun v w'' h1 h2 => hK v w'' h1 h2
            clear hK hpre
            simp only [putAll, dstOf, List.getElem?_toArray, List.getElem?_cons_zero, List.getElem?_cons_succ, Option.bind_some, Act.put, List.setIfInBounds_toArray, List.set_cons_zero, List.set_cons_succ] at hKK ⊢
            simp only [p16, p23] at hKK ⊢
            clear p16 p23
            refine (if_pos (by rfl)).mpr ?_
            go_wp2
            exact hKK _ _ (Below.refl _ _) rfl
          | i + 25, hi, _ => exact absurd hi (by omega)
        · intro x w1 hw hA
          have p0 : x 0 = .pointer (some ⟨B + 1 + 1, 0, none⟩) := hA 0 (by omega)
          have p1 : x 1 = U c.value := hA 1 (by omega)
          have p2 : x 2 = .pointer (some ⟨B + 1 + 1 + 1, 0, none⟩) := hA 2 (by omega)
          have p3 : x 3 = .pointer (some ⟨B + 1 + 1 + 1, 0, none⟩) := hA 3 (by omega)
          have p4 : x 4 = .pointer (some ⟨B + 1 + 1 + 1, 1, none⟩) := hA 4 (by omega)
          have p5 : x 5 = U c.value := hA 5 (by omega)
          have p6 : x 6 = .bool false := hA 6 (by omega)
          have p7 : x 7 = .bool false := hA 7 (by omega)
          have p8 : x 8 = .pointer (some ⟨B + 1 + 1, 0, none⟩) := hA 8 (by omega)
          have p9 : x 9 = U c.boots := hA 9 (by omega)
          have p10 : x 10 = .pointer (some ⟨B + 1 + 1 + 1, 0, none⟩) := hA 10 (by omega)
          have p11 : x 11 = .pointer (some ⟨B + 1 + 1 + 1, 0, none⟩) := hA 11 (by omega)
          have p12 : x 12 = .pointer (some ⟨B + 1 + 1 + 1, 2, none⟩) := hA 12 (by omega)
          have p13 : x 13 = U c.boots := hA 13 (by omega)
          have p14 : x 14 = .bool false := hA 14 (by omega)
          have p15 : x 15 = .bool false := hA 15 (by omega)
          have p16 : x 16 = .bool false := hA 16 (by omega)
          have p17 : x 17 = .pointer (some ⟨B + 1 + 1, 0, none⟩) := hA 17 (by omega)
          have p18 : x 18 = U c.at_ := hA 18 (by omega)
          have p19 : x 19 = .pointer (some ⟨B + 1 + 1 + 1, 0, none⟩) := hA 19 (by omega)
          have p20 : x 20 = .pointer (some ⟨B + 1 + 1 + 1, 0, none⟩) := hA 20 (by omega)
          have p21 : x 21 = .pointer (some ⟨B + 1 + 1 + 1, 3, none⟩) := hA 21 (by omega)
          have p22 : x 22 = U c.at_ := hA 22 (by omega)
          have p23 : x 23 = .bool false := hA 23 (by omega)
          have p24 : x 24 = .bool false := hA 24 (by omega)
          clear hA
          simp only [List.drop_succ_cons, List.drop_zero, putAll, dstOf, List.getElem?_toArray, List.getElem?_cons_zero, List.getElem?_cons_succ, Option.bind_some, Act.put, List.setIfInBounds_toArray, List.set_cons_zero, List.set_cons_succ]
          simp only [p0, p1, p2, p3, p4, p5, p6, p7, p8, p9, p10, p11, p12, p13, p14, p15, p16, p17, p18, p19, p20, p21, p22, p23, p24]
          clear p0 p1 p2 p3 p4 p5 p6 p7 p8 p9 p10 p11 p12 p13 p14 p15 p16 p17 p18 p19 p20 p21 p22 p23 p24
          have hw5 := hw
          have pq5 : PwAt w1 B q := Blk.kept pq hw
          have rq5 : RefAt w1 (B + 1) q lq := Blk.kept rq hw
          have cq5 : CtAt w1 (B + 1 + 1) B c := Blk.kept cq hw
          have xq5 : RcAt w1 (B + 1 + 1 + 1) (B + 1) c := Blk.kept xq hw
          clear pq rq cq xq hw
          go_wp2
          exact ⟨⟨k + 1, by omega, by go_num, q, lq, c, pq5, rq5, cq5, xq5, tq, oq, hbq.trans (hw5.mono hszq), Nat.le_trans hszq hw5.size⟩, by simp [intOf]; omega⟩
      by_cases h1 : m = 1
      · subst h1
        obtain ⟨r, q, hsp⟩ : ∃ r q, p.spend = (r, q) := ⟨_, _, rfl⟩
        have oq : q.ok ((k + 1 : Nat) : Int) := by have := spend_ok ok; rw [hsp] at this; exact ok_mono this (by omega)
        have HS := Lib.hid hsp
        clear hsp
        go_wp2_with fail
        refine (count_boot _ _ _ _ _ _ _ ck pk (by omega) hok2 HS.out).mono ?_
        rintro e w3 ⟨rfl, c3, p3, g3⟩
        have r3 : RefAt w3 (B + 1) p l := g3.blk rk (by simp <;> omega)
        have x3 : RcAt w3 (B + 1 + 1 + 1) (B + 1) n0 := g3.blk xk (by simp <;> omega)
        have hb3 := hb.trans (g3.below (by simp <;> omega) hsz)
        have hs3 := Nat.le_trans hsz g3.size
        clear g3 hsz hb x0
        go_wp2_with fail
        refine (rcount_boot _ _ _ _ _ _ _ _ x3 r3 tk (by omega) hok2 HS.out).mono ?_
        rintro e w4 ⟨rfl, xq, ⟨lq, rq, tq⟩, g4⟩
        have pq : PwAt w4 B q := g4.blk p3 (by simp <;> omega)
        have cq : CtAt w4 (B + 1 + 1) B (if r then n0.boot else n0) := g4.blk c3 (by simp <;> omega)
        have hbq := hb3.trans (g4.below (by simp <;> omega) hs3)
        have hszq := Nat.le_trans hs3 g4.size
        clear r3 p3 g4 hb3 hs3 pk rk tk ok hok2 ck xk c3 x3
        obtain ⟨c, hc⟩ : ∃ c, c = (if r then n0.boot else n0) := ⟨_, rfl⟩
        rw [← hc] at xq cq
        clear hc
        go_wp2_with fail
        refine wp_region_posts 25 (fun i (vv : Value) w' => match i with | 0 => vv = .pointer (some ⟨B + 1 + 1, 0, none⟩) | 1 => vv = U c.value | 2 => vv = .pointer (some ⟨B + 1 + 1 + 1, 0, none⟩) | 3 => vv = .pointer (some ⟨B + 1 + 1 + 1, 0, none⟩) | 4 => vv = .pointer (some ⟨B + 1 + 1 + 1, 1, none⟩) | 5 => vv = U c.value | 6 => vv = .bool false | 7 => vv = .bool false | 8 => vv = .pointer (some ⟨B + 1 + 1, 0, none⟩) | 9 => vv = U c.boots | 10 => vv = .pointer (some ⟨B + 1 + 1 + 1, 0, none⟩) | 11 => vv = .pointer (some ⟨B + 1 + 1 + 1, 0, none⟩) | 12 => vv = .pointer (some ⟨B + 1 + 1 + 1, 2, none⟩) | 13 => vv = U c.boots | 14 => vv = .bool false | 15 => vv = .bool false | 16 => vv = .bool false | 17 => vv = .pointer (some ⟨B + 1 + 1, 0, none⟩) | 18 => vv = U c.at_ | 19 => vv = .pointer (some ⟨B + 1 + 1 + 1, 0, none⟩) | 20 => vv = .pointer (some ⟨B + 1 + 1 + 1, 0, none⟩) | 21 => vv = .pointer (some ⟨B + 1 + 1 + 1, 3, none⟩) | 22 => vv = U c.at_ | 23 => vv = .bool false | 24 => vv = .bool false | _ => True) (by kernel_rfl) (by kernel_rfl) ?_ ?_ ?_
        · intro i v w1 w2 h hk
          match i, h with
          | 0, h => exact h
          | 1, h => exact h
          | 2, h => exact h
          | 3, h => exact h
          | 4, h => exact h
          | 5, h => exact h
          | 6, h => exact h
          | 7, h => exact h
          | 8, h => exact h
          | 9, h => exact h
          | 10, h => exact h
          | 11, h => exact h
          | 12, h => exact h
          | 13, h => exact h
          | 14, h => exact h
          | 15, h => exact h
          | 16, h => exact h
          | 17, h => exact h
          | 18, h => exact h
          | 19, h => exact h
          | 20, h => exact h
          | 21, h => exact h
          | 22, h => exact h
          | 23, h => exact h
          | 24, h => exact h
          | _ + 25, _ => trivial
        · intro i o hi ho x w1 hw hpre K hK
          match i, hi, ho with
          | 0, _, ho =>
            have e := Option.some.inj ho; subst e
            have hKK : ∀ (vv : Value) (w'' : World), Kept w1 w'' → (vv = .pointer (some ⟨B + 1 + 1, 0, none⟩)) → K _ w'' := fun v w'' h1 h2 => hK v w'' h1 h2
            clear hK hpre
            simp only [putAll, dstOf, List.getElem?_toArray, List.getElem?_cons_zero, List.getElem?_cons_succ, Option.bind_some, Act.put, List.setIfInBounds_toArray, List.set_cons_zero, List.set_cons_succ] at hKK ⊢
            refine (if_pos (by rfl)).mpr ?_
            go_wp2
            exact hKK _ _ (Below.refl _ _) rfl
          | 1, _, ho =>
            have e := Option.some.inj ho; subst e
            have p0 : x 0 = .pointer (some ⟨B + 1 + 1, 0, none⟩) := hpre 0 (by kernel_rfl)
            have hKK : ∀ (vv : Value) (w'' : World), Kept w1 w'' → (vv = U c.value) → K _ w'' := fun v w'' h1 h2 => hK v w'' h1 h2
            clear hK hpre
            simp only [putAll, dstOf, List.getElem?_toArray, List.getElem?_cons_zero, List.getElem?_cons_succ, Option.bind_some, Act.put, List.setIfInBounds_toArray, List.set_cons_zero, List.set_cons_succ] at hKK ⊢
            simp only [p0] at hKK ⊢
            clear p0
            refine (if_pos (by rfl)).mpr ?_
            go_wp2_with fail
            refine (count_value _ _ _ _ (Blk.kept cq hw)).mono ?_
            rintro e w2 ⟨rfl, rfl⟩
            exact hKK _ _ (Below.refl _ _) rfl
          | 2, _, ho =>
            have e := Option.some.inj ho; subst e
            have hKK : ∀ (vv : Value) (w'' : World), Kept w1 w'' → (vv = .pointer (some ⟨B + 1 + 1 + 1, 0, none⟩)) → K _ w'' := fun v w'' h1 h2 => hK v w'' h1 h2
            clear hK hpre
            simp only [putAll, dstOf, List.getElem?_toArray, List.getElem?_cons_zero, List.getElem?_cons_succ, Option.bind_some, Act.put, List.setIfInBounds_toArray, List.set_cons_zero, List.set_cons_succ] at hKK ⊢
            refine (if_pos (by rfl)).mpr ?_
            go_wp2
            exact hKK _ _ (Below.refl _ _) rfl
          | 3, _, ho =>
            have e := Option.some.inj ho; subst e
            have p2 : x 2 = .pointer (some ⟨B + 1 + 1 + 1, 0, none⟩) := hpre 2 (by kernel_rfl)
            have hKK : ∀ (vv : Value) (w'' : World), Kept w1 w'' → (vv = .pointer (some ⟨B + 1 + 1 + 1, 0, none⟩)) → K _ w'' := fun v w'' h1 h2 => hK v w'' h1 h2
            clear hK hpre
            simp only [putAll, dstOf, List.getElem?_toArray, List.getElem?_cons_zero, List.getElem?_cons_succ, Option.bind_some, Act.put, List.setIfInBounds_toArray, List.set_cons_zero, List.set_cons_succ] at hKK ⊢
            simp only [p2] at hKK ⊢
            clear p2
            refine (if_pos (by rfl)).mpr ?_
            go_wp2
            exact hKK _ _ (Below.refl _ _) rfl
          | 4, _, ho =>
            have e := Option.some.inj ho; subst e
            have p3 : x 3 = .pointer (some ⟨B + 1 + 1 + 1, 0, none⟩) := hpre 3 (by kernel_rfl)
            have hKK : ∀ (vv : Value) (w'' : World), Kept w1 w'' → (vv = .pointer (some ⟨B + 1 + 1 + 1, 1, none⟩)) → K _ w'' := fun v w'' h1 h2 => hK v w'' h1 h2
            clear hK hpre
            simp only [putAll, dstOf, List.getElem?_toArray, List.getElem?_cons_zero, List.getElem?_cons_succ, Option.bind_some, Act.put, List.setIfInBounds_toArray, List.set_cons_zero, List.set_cons_succ] at hKK ⊢
            simp only [p3] at hKK ⊢
            clear p3
            refine (if_pos (by rfl)).mpr ?_
            go_wp2
            exact hKK _ _ (Below.refl _ _) rfl
          | 5, _, ho =>
            have e := Option.some.inj ho; subst e
            have p4 : x 4 = .pointer (some ⟨B + 1 + 1 + 1, 1, none⟩) := hpre 4 (by kernel_rfl)
            have hKK : ∀ (vv : Value) (w'' : World), Kept w1 w'' → (vv = U c.value) → K _ w'' := fun v w'' h1 h2 => hK v w'' h1 h2
            clear hK hpre
            simp only [putAll, dstOf, List.getElem?_toArray, List.getElem?_cons_zero, List.getElem?_cons_succ, Option.bind_some, Act.put, List.setIfInBounds_toArray, List.set_cons_zero, List.set_cons_succ] at hKK ⊢
            simp only [p4] at hKK ⊢
            clear p4
            refine (if_pos (by rfl)).mpr ?_
            have q0 := (Blk.kept xq hw).cell 1; have q1 := (Blk.kept xq hw).cell 2; have q2 := (Blk.kept xq hw).cell 3
            go_wp2
            exact hKK _ _ (Below.refl _ _) rfl
          | 6, _, ho =>
            have e := Option.some.inj ho; subst e
            have p1 : x 1 = U c.value := hpre 1 (by kernel_rfl)
            have p5 : x 5 = U c.value := hpre 5 (by kernel_rfl)
            have hKK : ∀ (vv : Value) (w'' : World), Kept w1 w'' → (vv = .bool false) → K _ w'' := fun v w'' h1 h2 => hK v w'' h1 h2
            clear hK hpre
            simp only [putAll, dstOf, List.getElem?_toArray, List.getElem?_cons_zero, List.getElem?_cons_succ, Option.bind_some, Act.put, List.setIfInBounds_toArray, List.set_cons_zero, List.set_cons_succ] at hKK ⊢
            simp only [p1, p5] at hKK ⊢
            clear p1 p5
            refine (if_pos (by rfl)).mpr ?_
            go_wp2
            exact hKK _ _ (Below.refl _ _) rfl
          | 7, _, ho =>
            have e := Option.some.inj ho; subst e
            have p6 : x 6 = .bool false := hpre 6 (by kernel_rfl)
            have hKK : ∀ (vv : Value) (w'' : World), Kept w1 w'' → (vv = .bool false) → K _ w'' := fun v w'' h1 h2 => hK v w'' h1 h2
            clear hK hpre
            simp only [putAll, dstOf, List.getElem?_toArray, List.getElem?_cons_zero, List.getElem?_cons_succ, Option.bind_some, Act.put, List.setIfInBounds_toArray, List.set_cons_zero, List.set_cons_succ] at hKK ⊢
            simp only [p6] at hKK ⊢
            clear p6
            refine (if_pos (by rfl)).mpr ?_
            go_wp2
            exact hKK _ _ (Below.refl _ _) rfl
          | 8, _, ho =>
            have e := Option.some.inj ho; subst e
            have p7 : x 7 = .bool false := hpre 7 (by kernel_rfl)
            have hKK : ∀ (vv : Value) (w'' : World), Kept w1 w'' → (vv = .pointer (some ⟨B + 1 + 1, 0, none⟩)) → K _ w'' := fun v w'' h1 h2 => hK v w'' h1 h2
            clear hK hpre
            simp only [putAll, dstOf, List.getElem?_toArray, List.getElem?_cons_zero, List.getElem?_cons_succ, Option.bind_some, Act.put, List.setIfInBounds_toArray, List.set_cons_zero, List.set_cons_succ] at hKK ⊢
            simp only [p7] at hKK ⊢
            clear p7
            refine (if_pos (by rfl)).mpr ?_
            go_wp2
            exact hKK _ _ (Below.refl _ _) rfl
          | 9, _, ho =>
            have e := Option.some.inj ho; subst e
            have p7 : x 7 = .bool false := hpre 7 (by kernel_rfl)
            have p8 : x 8 = .pointer (some ⟨B + 1 + 1, 0, none⟩) := hpre 8 (by kernel_rfl)
            have hKK : ∀ (vv : Value) (w'' : World), Kept w1 w'' → (vv = U c.boots) → K _ w'' := fun v w'' h1 h2 => hK v w'' h1 h2
            clear hK hpre
            simp only [putAll, dstOf, List.getElem?_toArray, List.getElem?_cons_zero, List.getElem?_cons_succ, Option.bind_some, Act.put, List.setIfInBounds_toArray, List.set_cons_zero, List.set_cons_succ] at hKK ⊢
            simp only [p7, p8] at hKK ⊢
            clear p7 p8
            refine (if_pos (by rfl)).mpr ?_
            go_wp2_with fail
            refine (count_boots _ _ _ _ (Blk.kept cq hw)).mono ?_
            rintro e w2 ⟨rfl, rfl⟩
            exact hKK _ _ (Below.refl _ _) rfl
          | 10, _, ho =>
            have e := Option.some.inj ho; subst e
            have p7 : x 7 = .bool false := hpre 7 (by kernel_rfl)
            have hKK : ∀ (vv : Value) (w'' : World), Kept w1 w'' → (vv = .pointer (some ⟨B + 1 + 1 + 1, 0, none⟩)) → K _ w'' := fun v w'' h1 h2 => hK v w'' h1 h2
            clear hK hpre
            simp only [putAll, dstOf, List.getElem?_toArray, List.getElem?_cons_zero, List.getElem?_cons_succ, Option.bind_some, Act.put, List.setIfInBounds_toArray, List.set_cons_zero, List.set_cons_succ] at hKK ⊢
            simp only [p7] at hKK ⊢
            clear p7
            refine (if_pos (by rfl)).mpr ?_
            go_wp2
            exact hKK _ _ (Below.refl _ _) rfl
          | 11, _, ho =>
            have e := Option.some.inj ho; subst e
            have p7 : x 7 = .bool false := hpre 7 (by kernel_rfl)
            have p10 : x 10 = .pointer (some ⟨B + 1 + 1 + 1, 0, none⟩) := hpre 10 (by kernel_rfl)
            have hKK : ∀ (vv : Value) (w'' : World), Kept w1 w'' → (vv = .pointer (some ⟨B + 1 + 1 + 1, 0, none⟩)) → K _ w'' := fun v w'' h1 h2 => hK v w'' h1 h2
            clear hK hpre
            simp only [putAll, dstOf, List.getElem?_toArray, List.getElem?_cons_zero, List.getElem?_cons_succ, Option.bind_some, Act.put, List.setIfInBounds_toArray, List.set_cons_zero, List.set_cons_succ] at hKK ⊢
            simp only [p7, p10] at hKK ⊢
            clear p7 p10
            refine (if_pos (by rfl)).mpr ?_
            go_wp2
            exact hKK _ _ (Below.refl _ _) rfl
          | 12, _, ho =>
            have e := Option.some.inj ho; subst e
            have p7 : x 7 = .bool false := hpre 7 (by kernel_rfl)
            have p11 : x 11 = .pointer (some ⟨B + 1 + 1 + 1, 0, none⟩) := hpre 11 (by kernel_rfl)
            have hKK : ∀ (vv : Value) (w'' : World), Kept w1 w'' → (vv = .pointer (some ⟨B + 1 + 1 + 1, 2, none⟩)) → K _ w'' := fun v w'' h1 h2 => hK v w'' h1 h2
            clear hK hpre
            simp only [putAll, dstOf, List.getElem?_toArray, List.getElem?_cons_zero, List.getElem?_cons_succ, Option.bind_some, Act.put, List.setIfInBounds_toArray, List.set_cons_zero, List.set_cons_succ] at hKK ⊢
            simp only [p7, p11] at hKK ⊢
            clear p7 p11
            refine (if_pos (by rfl)).mpr ?_
            go_wp2
            exact hKK _ _ (Below.refl _ _) rfl
          | 13, _, ho =>
            have e := Option.some.inj ho; subst e
            have p7 : x 7 = .bool false := hpre 7 (by kernel_rfl)
            have p12 : x 12 = .pointer (some ⟨B + 1 + 1 + 1, 2, none⟩) := hpre 12 (by kernel_rfl)
            have hKK : ∀ (vv : Value) (w'' : World), Kept w1 w'' → (vv = U c.boots) → K _ w'' := fun v w'' h1 h2 => hK v w'' h1 h2
            clear hK hpre
            simp only [putAll, dstOf, List.getElem?_toArray, List.getElem?_cons_zero, List.getElem?_cons_succ, Option.bind_some, Act.put, List.setIfInBounds_toArray, List.set_cons_zero, List.set_cons_succ] at hKK ⊢
            simp only [p7, p12] at hKK ⊢
            clear p7 p12
            refine (if_pos (by rfl)).mpr ?_
            have q0 := (Blk.kept xq hw).cell 1; have q1 := (Blk.kept xq hw).cell 2; have q2 := (Blk.kept xq hw).cell 3
            go_wp2
            exact hKK _ _ (Below.refl _ _) rfl
          | 14, _, ho =>
            have e := Option.some.inj ho; subst e
            have p7 : x 7 = .bool false := hpre 7 (by kernel_rfl)
            have p9 : x 9 = U c.boots := hpre 9 (by kernel_rfl)
            have p13 : x 13 = U c.boots := hpre 13 (by kernel_rfl)
            have hKK : ∀ (vv : Value) (w'' : World), Kept w1 w'' → (vv = .bool false) → K _ w'' := fun v w'' h1 h2 => hK v w'' h1 h2
            clear hK hpre
            simp only [putAll, dstOf, List.getElem?_toArray, List.getElem?_cons_zero, List.getElem?_cons_succ, Option.bind_some, Act.put, List.setIfInBounds_toArray, List.set_cons_zero, List.set_cons_succ] at hKK ⊢
            simp only [p7, p9, p13] at hKK ⊢
            clear p7 p9 p13
            refine (if_pos (by rfl)).mpr ?_
            go_wp2
            exact hKK _ _ (Below.refl _ _) rfl
          | 15, _, ho =>
            have e := Option.some.inj ho; subst e
            have p7 : x 7 = .bool false := hpre 7 (by kernel_rfl)
            have p14 : x 14 = .bool false := hpre 14 (by kernel_rfl)
            have hKK : ∀ (vv : Value) (w'' : World), Kept w1 w'' → (vv = .bool false) → K _ w'' := fun v w'' h1 h2 => hK v w'' h1 h2
            clear hK hpre
            simp only [putAll, dstOf, List.getElem?_toArray, List.getElem?_cons_zero, List.getElem?_cons_succ, Option.bind_some, Act.put, List.setIfInBounds_toArray, List.set_cons_zero, List.set_cons_succ] at hKK ⊢
            simp only [p7, p14] at hKK ⊢
            clear p7 p14
            refine (if_pos (by rfl)).mpr ?_
            go_wp2
            exact hKK _ _ (Below.refl _ _) rfl
          | 16, _, ho =>
            have e := Option.some.inj ho; subst e
            have p15 : x 15 = .bool false := hpre 15 (by kernel_rfl)
            have hKK : ∀ (vv : Value) (w'' : World), Kept w1 w'' → (vv = .bool false) → K _ w'' := fun v w'' h1 h2 => hK v w'' h1 h2
            clear hK hpre
            simp only [putAll, dstOf, List.getElem?_toArray, List.getElem?_cons_zero, List.getElem?_cons_succ, Option.bind_some, Act.put, List.setIfInBounds_toArray, List.set_cons_zero, List.set_cons_succ] at hKK ⊢
            simp only [p15] at hKK ⊢
            clear p15
            refine (if_pos (by rfl)).mpr ?_
            go_wp2
            exact hKK _ _ (Below.refl _ _) rfl
          | 17, _, ho =>
            have e := Option.some.inj ho; subst e
            have p16 : x 16 = .bool false := hpre 16 (by kernel_rfl)
            have hKK : ∀ (vv : Value) (w'' : World), Kept w1 w'' → (vv = .pointer (some ⟨B + 1 + 1, 0, none⟩)) → K _ w'' := fun v w'' h1 h2 => hK v w'' h1 h2
            clear hK hpre
            simp only [putAll, dstOf, List.getElem?_toArray, List.getElem?_cons_zero, List.getElem?_cons_succ, Option.bind_some, Act.put, List.setIfInBounds_toArray, List.set_cons_zero, List.set_cons_succ] at hKK ⊢
            simp only [p16] at hKK ⊢
            clear p16
            refine (if_pos (by rfl)).mpr ?_
            go_wp2
            exact hKK _ _ (Below.refl _ _) rfl
          | 18, _, ho =>
            have e := Option.some.inj ho; subst e
            have p16 : x 16 = .bool false := hpre 16 (by kernel_rfl)
            have p17 : x 17 = .pointer (some ⟨B + 1 + 1, 0, none⟩) := hpre 17 (by kernel_rfl)
            have hKK : ∀ (vv : Value) (w'' : World), Kept w1 w'' → (vv = U c.at_) → K _ w'' := fun v w'' h1 h2 => hK v w'' h1 h2
            clear hK hpre
            simp only [putAll, dstOf, List.getElem?_toArray, List.getElem?_cons_zero, List.getElem?_cons_succ, Option.bind_some, Act.put, List.setIfInBounds_toArray, List.set_cons_zero, List.set_cons_succ] at hKK ⊢
            simp only [p16, p17] at hKK ⊢
            clear p16 p17
            refine (if_pos (by rfl)).mpr ?_
            go_wp2_with fail
            refine (count_at _ _ _ _ (Blk.kept cq hw)).mono ?_
            rintro e w2 ⟨rfl, rfl⟩
            exact hKK _ _ (Below.refl _ _) rfl
          | 19, _, ho =>
            have e := Option.some.inj ho; subst e
            have p16 : x 16 = .bool false := hpre 16 (by kernel_rfl)
            have hKK : ∀ (vv : Value) (w'' : World), Kept w1 w'' → (vv = .pointer (some ⟨B + 1 + 1 + 1, 0, none⟩)) → K _ w'' := fun v w'' h1 h2 => hK v w'' h1 h2
            clear hK hpre
            simp only [putAll, dstOf, List.getElem?_toArray, List.getElem?_cons_zero, List.getElem?_cons_succ, Option.bind_some, Act.put, List.setIfInBounds_toArray, List.set_cons_zero, List.set_cons_succ] at hKK ⊢
            simp only [p16] at hKK ⊢
            clear p16
            refine (if_pos (by rfl)).mpr ?_
            go_wp2
            exact hKK _ _ (Below.refl _ _) rfl
          | 20, _, ho =>
            have e := Option.some.inj ho; subst e
            have p16 : x 16 = .bool false := hpre 16 (by kernel_rfl)
            have p19 : x 19 = .pointer (some ⟨B + 1 + 1 + 1, 0, none⟩) := hpre 19 (by kernel_rfl)
            have hKK : ∀ (vv : Value) (w'' : World), Kept w1 w'' → (vv = .pointer (some ⟨B + 1 + 1 + 1, 0, none⟩)) → K _ w'' := fun v w'' h1 h2 => hK v w'' h1 h2
            clear hK hpre
            simp only [putAll, dstOf, List.getElem?_toArray, List.getElem?_cons_zero, List.getElem?_cons_succ, Option.bind_some, Act.put, List.setIfInBounds_toArray, List.set_cons_zero, List.set_cons_succ] at hKK ⊢
            simp only [p16, p19] at hKK ⊢
            clear p16 p19
            refine (if_pos (by rfl)).mpr ?_
            go_wp2
            exact hKK _ _ (Below.refl _ _) rfl
          | 21, _, ho =>
            have e := Option.some.inj ho; subst e
            have p16 : x 16 = .bool false := hpre 16 (by kernel_rfl)
            have p20 : x 20 = .pointer (some ⟨B + 1 + 1 + 1, 0, none⟩) := hpre 20 (by kernel_rfl)
            have hKK : ∀ (vv : Value) (w'' : World), Kept w1 w'' → (vv = .pointer (some ⟨B + 1 + 1 + 1, 3, none⟩)) → K _ w'' := fun v w'' h1 h2 => hK v w'' h1 h2
            clear hK hpre
            simp only [putAll, dstOf, List.getElem?_toArray, List.getElem?_cons_zero, List.getElem?_cons_succ, Option.bind_some, Act.put, List.setIfInBounds_toArray, List.set_cons_zero, List.set_cons_succ] at hKK ⊢
            simp only [p16, p20] at hKK ⊢
            clear p16 p20
            refine (if_pos (by rfl)).mpr ?_
            go_wp2
            exact hKK _ _ (Below.refl _ _) rfl
          | 22, _, ho =>
            have e := Option.some.inj ho; subst e
            have p16 : x 16 = .bool false := hpre 16 (by kernel_rfl)
            have p21 : x 21 = .pointer (some ⟨B + 1 + 1 + 1, 3, none⟩) := hpre 21 (by kernel_rfl)
            have hKK : ∀ (vv : Value) (w'' : World), Kept w1 w'' → (vv = U c.at_) → K _ w'' := fun v w'' h1 h2 => hK v w'' h1 h2
            clear hK hpre
            simp only [putAll, dstOf, List.getElem?_toArray, List.getElem?_cons_zero, List.getElem?_cons_succ, Option.bind_some, Act.put, List.setIfInBounds_toArray, List.set_cons_zero, List.set_cons_succ] at hKK ⊢
            simp only [p16, p21] at hKK ⊢
            clear p16 p21
            refine (if_pos (by rfl)).mpr ?_
            have q0 := (Blk.kept xq hw).cell 1; have q1 := (Blk.kept xq hw).cell 2; have q2 := (Blk.kept xq hw).cell 3
            go_wp2
            exact hKK _ _ (Below.refl _ _) rfl
          | 23, _, ho =>
            have e := Option.some.inj ho; subst e
            have p16 : x 16 = .bool false := hpre 16 (by kernel_rfl)
            have p18 : x 18 = U c.at_ := hpre 18 (by kernel_rfl)
            have p22 : x 22 = U c.at_ := hpre 22 (by kernel_rfl)
            have hKK : ∀ (vv : Value) (w'' : World), Kept w1 w'' → (vv = .bool false) → K _ w'' := fun v w'' h1 h2 => hK v w'' h1 h2
            clear hK hpre
            simp only [putAll, dstOf, List.getElem?_toArray, List.getElem?_cons_zero, List.getElem?_cons_succ, Option.bind_some, Act.put, List.setIfInBounds_toArray, List.set_cons_zero, List.set_cons_succ] at hKK ⊢
            simp only [p16, p18, p22] at hKK ⊢
            clear p16 p18 p22
            refine (if_pos (by rfl)).mpr ?_
            go_wp2
            exact hKK _ _ (Below.refl _ _) rfl
          | 24, _, ho =>
            have e := Option.some.inj ho; subst e
            have p16 : x 16 = .bool false := hpre 16 (by kernel_rfl)
            have p23 : x 23 = .bool false := hpre 23 (by kernel_rfl)
            have hKK : ∀ (vv : Value) (w'' : World), Kept w1 w'' → (vv = .bool false) → K _ w'' := fun v w'' h1 h2 => hK v w'' h1 h2
            clear hK hpre
            simp only [putAll, dstOf, List.getElem?_toArray, List.getElem?_cons_zero, List.getElem?_cons_succ, Option.bind_some, Act.put, List.setIfInBounds_toArray, List.set_cons_zero, List.set_cons_succ] at hKK ⊢
            simp only [p16, p23] at hKK ⊢
            clear p16 p23
            refine (if_pos (by rfl)).mpr ?_
            go_wp2
            exact hKK _ _ (Below.refl _ _) rfl
          | i + 25, hi, _ => exact absurd hi (by omega)
        · intro x w1 hw hA
          have p0 : x 0 = .pointer (some ⟨B + 1 + 1, 0, none⟩) := hA 0 (by omega)
          have p1 : x 1 = U c.value := hA 1 (by omega)
          have p2 : x 2 = .pointer (some ⟨B + 1 + 1 + 1, 0, none⟩) := hA 2 (by omega)
          have p3 : x 3 = .pointer (some ⟨B + 1 + 1 + 1, 0, none⟩) := hA 3 (by omega)
          have p4 : x 4 = .pointer (some ⟨B + 1 + 1 + 1, 1, none⟩) := hA 4 (by omega)
          have p5 : x 5 = U c.value := hA 5 (by omega)
          have p6 : x 6 = .bool false := hA 6 (by omega)
          have p7 : x 7 = .bool false := hA 7 (by omega)
          have p8 : x 8 = .pointer (some ⟨B + 1 + 1, 0, none⟩) := hA 8 (by omega)
          have p9 : x 9 = U c.boots := hA 9 (by omega)
          have p10 : x 10 = .pointer (some ⟨B + 1 + 1 + 1, 0, none⟩) := hA 10 (by omega)
          have p11 : x 11 = .pointer (some ⟨B + 1 + 1 + 1, 0, none⟩) := hA 11 (by omega)
          have p12 : x 12 = .pointer (some ⟨B + 1 + 1 + 1, 2, none⟩) := hA 12 (by omega)
          have p13 : x 13 = U c.boots := hA 13 (by omega)
          have p14 : x 14 = .bool false := hA 14 (by omega)
          have p15 : x 15 = .bool false := hA 15 (by omega)
          have p16 : x 16 = .bool false := hA 16 (by omega)
          have p17 : x 17 = .pointer (some ⟨B + 1 + 1, 0, none⟩) := hA 17 (by omega)
          have p18 : x 18 = U c.at_ := hA 18 (by omega)
          have p19 : x 19 = .pointer (some ⟨B + 1 + 1 + 1, 0, none⟩) := hA 19 (by omega)
          have p20 : x 20 = .pointer (some ⟨B + 1 + 1 + 1, 0, none⟩) := hA 20 (by omega)
          have p21 : x 21 = .pointer (some ⟨B + 1 + 1 + 1, 3, none⟩) := hA 21 (by omega)
          have p22 : x 22 = U c.at_ := hA 22 (by omega)
          have p23 : x 23 = .bool false := hA 23 (by omega)
          have p24 : x 24 = .bool false := hA 24 (by omega)
          clear hA
          simp only [List.drop_succ_cons, List.drop_zero, putAll, dstOf, List.getElem?_toArray, List.getElem?_cons_zero, List.getElem?_cons_succ, Option.bind_some, Act.put, List.setIfInBounds_toArray, List.set_cons_zero, List.set_cons_succ]
          simp only [p0, p1, p2, p3, p4, p5, p6, p7, p8, p9, p10, p11, p12, p13, p14, p15, p16, p17, p18, p19, p20, p21, p22, p23, p24]
          clear p0 p1 p2 p3 p4 p5 p6 p7 p8 p9 p10 p11 p12 p13 p14 p15 p16 p17 p18 p19 p20 p21 p22 p23 p24
          have hw5 := hw
          have pq5 : PwAt w1 B q := Blk.kept pq hw
          have rq5 : RefAt w1 (B + 1) q lq := Blk.kept rq hw
          have cq5 : CtAt w1 (B + 1 + 1) B c := Blk.kept cq hw
          have xq5 : RcAt w1 (B + 1 + 1 + 1) (B + 1) c := Blk.kept xq hw
          clear pq rq cq xq hw
          go_wp2
          exact ⟨⟨k + 1, by omega, by go_num, q, lq, c, pq5, rq5, cq5, xq5, tq, oq, hbq.trans (hw5.mono hszq), Nat.le_trans hszq hw5.size⟩, by simp [intOf]; omega⟩
      by_cases h2 : m = 2
      · subst h2
        go_wp2_with fail
        refine (power_back _ _ _ pk).mono ?_
        rintro e w3 ⟨rfl, p3, g3⟩
        have r3 : RefAt w3 (B + 1) p l := only_blk g3 rk (by omega)
        have c3 : CtAt w3 (B + 1 + 1) B n0 := only_blk g3 ck (by omega)
        have x3 : RcAt w3 (B + 1 + 1 + 1) (B + 1) n0 := only_blk g3 xk (by omega)
        have hb3 := hb.trans (only_below g3 (Nat.le_refl _) hsz)
        have hs3 := Nat.le_trans hsz g3.size
        skip
        clear g3 hsz hb x0 pk rk ck xk
        go_wp2_with fail
        refine (ref_back _ _ _ _ r3).mono ?_
        rintro e w4 ⟨rfl, rq, g4⟩
        have pq : PwAt w4 B (p.back) := only_blk g4 p3 (by omega)
        have cq : CtAt w4 (B + 1 + 1) B n0 := only_blk g4 c3 (by omega)
        have xq : RcAt w4 (B + 1 + 1 + 1) (B + 1) n0 := only_blk g4 x3 (by omega)
        have hbq := hb3.trans (only_below g4 (by omega) hs3)
        have hszq := Nat.le_trans hs3 g4.size
        have oq : (p.back).ok ((k + 1 : Nat) : Int) := ok_mono (back_ok ok) (by omega)
        have tq : Twin (p.back) l := fun h => by first | rfl | cases h
        clear r3 p3 g4 hb3 hs3 tk ok hok2 c3 x3
        generalize p.back = q at *
        obtain ⟨lq, hlq⟩ : ∃ lq, lq = l := ⟨_, rfl⟩
        rw [← hlq] at rq tq
        clear hlq
        obtain ⟨c, hc⟩ : ∃ c, c = n0 := ⟨_, rfl⟩
        rw [← hc] at xq cq
        clear hc
        go_wp2_with fail
        refine wp_region_posts 25 (fun i (vv : Value) w' => match i with | 0 => vv = .pointer (some ⟨B + 1 + 1, 0, none⟩) | 1 => vv = U c.value | 2 => vv = .pointer (some ⟨B + 1 + 1 + 1, 0, none⟩) | 3 => vv = .pointer (some ⟨B + 1 + 1 + 1, 0, none⟩) | 4 => vv = .pointer (some ⟨B + 1 + 1 + 1, 1, none⟩) | 5 => vv = U c.value | 6 => vv = .bool false | 7 => vv = .bool false | 8 => vv = .pointer (some ⟨B + 1 + 1, 0, none⟩) | 9 => vv = U c.boots | 10 => vv = .pointer (some ⟨B + 1 + 1 + 1, 0, none⟩) | 11 => vv = .pointer (some ⟨B + 1 + 1 + 1, 0, none⟩) | 12 => vv = .pointer (some ⟨B + 1 + 1 + 1, 2, none⟩) | 13 => vv = U c.boots | 14 => vv = .bool false | 15 => vv = .bool false | 16 => vv = .bool false | 17 => vv = .pointer (some ⟨B + 1 + 1, 0, none⟩) | 18 => vv = U c.at_ | 19 => vv = .pointer (some ⟨B + 1 + 1 + 1, 0, none⟩) | 20 => vv = .pointer (some ⟨B + 1 + 1 + 1, 0, none⟩) | 21 => vv = .pointer (some ⟨B + 1 + 1 + 1, 3, none⟩) | 22 => vv = U c.at_ | 23 => vv = .bool false | 24 => vv = .bool false | _ => True) (by kernel_rfl) (by kernel_rfl) ?_ ?_ ?_
        · intro i v w1 w2 h hk
          match i, h with
          | 0, h => exact h
          | 1, h => exact h
          | 2, h => exact h
          | 3, h => exact h
          | 4, h => exact h
          | 5, h => exact h
          | 6, h => exact h
          | 7, h => exact h
          | 8, h => exact h
          | 9, h => exact h
          | 10, h => exact h
          | 11, h => exact h
          | 12, h => exact h
          | 13, h => exact h
          | 14, h => exact h
          | 15, h => exact h
          | 16, h => exact h
          | 17, h => exact h
          | 18, h => exact h
          | 19, h => exact h
          | 20, h => exact h
          | 21, h => exact h
          | 22, h => exact h
          | 23, h => exact h
          | 24, h => exact h
          | _ + 25, _ => trivial
        · intro i o hi ho x w1 hw hpre K hK
          match i, hi, ho with
          | 0, _, ho =>
            have e := Option.some.inj ho; subst e
            have hKK : ∀ (vv : Value) (w'' : World), Kept w1 w'' → (vv = .pointer (some ⟨B + 1 + 1, 0, none⟩)) → K _ w'' := fun v w'' h1 h2 => hK v w'' h1 h2
            clear hK hpre
            simp only [putAll, dstOf, List.getElem?_toArray, List.getElem?_cons_zero, List.getElem?_cons_succ, Option.bind_some, Act.put, List.setIfInBounds_toArray, List.set_cons_zero, List.set_cons_succ] at hKK ⊢
            refine (if_pos (by rfl)).mpr ?_
            go_wp2
            exact hKK _ _ (Below.refl _ _) rfl
          | 1, _, ho =>
            have e := Option.some.inj ho; subst e
            have p0 : x 0 = .pointer (some ⟨B + 1 + 1, 0, none⟩) := hpre 0 (by kernel_rfl)
            have hKK : ∀ (vv : Value) (w'' : World), Kept w1 w'' → (vv = U c.value) → K _ w'' := fun v w'' h1 h2 => hK v w'' h1 h2
            clear hK hpre
            simp only [putAll, dstOf, List.getElem?_toArray, List.getElem?_cons_zero, List.getElem?_cons_succ, Option.bind_some, Act.put, List.setIfInBounds_toArray, List.set_cons_zero, List.set_cons_succ] at hKK ⊢
            simp only [p0] at hKK ⊢
            clear p0
            refine (if_pos (by rfl)).mpr ?_
            go_wp2_with fail
            refine (count_value _ _ _ _ (Blk.kept cq hw)).mono ?_
            rintro e w2 ⟨rfl, rfl⟩
            exact hKK _ _ (Below.refl _ _) rfl
          | 2, _, ho =>
            have e := Option.some.inj ho; subst e
            have hKK : ∀ (vv : Value) (w'' : World), Kept w1 w'' → (vv = .pointer (some ⟨B + 1 + 1 + 1, 0, none⟩)) → K _ w'' := fun v w'' h1 h2 => hK v w'' h1 h2
            clear hK hpre
            simp only [putAll, dstOf, List.getElem?_toArray, List.getElem?_cons_zero, List.getElem?_cons_succ, Option.bind_some, Act.put, List.setIfInBounds_toArray, List.set_cons_zero, List.set_cons_succ] at hKK ⊢
            refine (if_pos (by rfl)).mpr ?_
            go_wp2
            exact hKK _ _ (Below.refl _ _) rfl
          | 3, _, ho =>
            have e := Option.some.inj ho; subst e
            have p2 : x 2 = .pointer (some ⟨B + 1 + 1 + 1, 0, none⟩) := hpre 2 (by kernel_rfl)
            have hKK : ∀ (vv : Value) (w'' : World), Kept w1 w'' → (vv = .pointer (some ⟨B + 1 + 1 + 1, 0, none⟩)) → K _ w'' := fun v w'' h1 h2 => hK v w'' h1 h2
            clear hK hpre
            simp only [putAll, dstOf, List.getElem?_toArray, List.getElem?_cons_zero, List.getElem?_cons_succ, Option.bind_some, Act.put, List.setIfInBounds_toArray, List.set_cons_zero, List.set_cons_succ] at hKK ⊢
            simp only [p2] at hKK ⊢
            clear p2
            refine (if_pos (by rfl)).mpr ?_
            go_wp2
            exact hKK _ _ (Below.refl _ _) rfl
          | 4, _, ho =>
            have e := Option.some.inj ho; subst e
            have p3 : x 3 = .pointer (some ⟨B + 1 + 1 + 1, 0, none⟩) := hpre 3 (by kernel_rfl)
            have hKK : ∀ (vv : Value) (w'' : World), Kept w1 w'' → (vv = .pointer (some ⟨B + 1 + 1 + 1, 1, none⟩)) → K _ w'' := fun v w'' h1 h2 => hK v w'' h1 h2
            clear hK hpre
            simp only [putAll, dstOf, List.getElem?_toArray, List.getElem?_cons_zero, List.getElem?_cons_succ, Option.bind_some, Act.put, List.setIfInBounds_toArray, List.set_cons_zero, List.set_cons_succ] at hKK ⊢
            simp only [p3] at hKK ⊢
            clear p3
            refine (if_pos (by rfl)).mpr ?_
            go_wp2
            exact hKK _ _ (Below.refl _ _) rfl
          | 5, _, ho =>
            have e := Option.some.inj ho; subst e
            have p4 : x 4 = .pointer (some ⟨B + 1 + 1 + 1, 1, none⟩) := hpre 4 (by kernel_rfl)
            have hKK : ∀ (vv : Value) (w'' : World), Kept w1 w'' → (vv = U c.value) → K _ w'' := fun v w'' h1 h2 => hK v w'' h1 h2
            clear hK hpre
            simp only [putAll, dstOf, List.getElem?_toArray, List.getElem?_cons_zero, List.getElem?_cons_succ, Option.bind_some, Act.put, List.setIfInBounds_toArray, List.set_cons_zero, List.set_cons_succ] at hKK ⊢
            simp only [p4] at hKK ⊢
            clear p4
            refine (if_pos (by rfl)).mpr ?_
            have q0 := (Blk.kept xq hw).cell 1; have q1 := (Blk.kept xq hw).cell 2; have q2 := (Blk.kept xq hw).cell 3
            go_wp2
            exact hKK _ _ (Below.refl _ _) rfl
          | 6, _, ho =>
            have e := Option.some.inj ho; subst e
            have p1 : x 1 = U c.value := hpre 1 (by kernel_rfl)
            have p5 : x 5 = U c.value := hpre 5 (by kernel_rfl)
            have hKK : ∀ (vv : Value) (w'' : World), Kept w1 w'' → (vv = .bool false) → K _ w'' := fun v w'' h1 h2 => hK v w'' h1 h2
            clear hK hpre
            simp only [putAll, dstOf, List.getElem?_toArray, List.getElem?_cons_zero, List.getElem?_cons_succ, Option.bind_some, Act.put, List.setIfInBounds_toArray, List.set_cons_zero, List.set_cons_succ] at hKK ⊢
            simp only [p1, p5] at hKK ⊢
            clear p1 p5
            refine (if_pos (by rfl)).mpr ?_
            go_wp2
            exact hKK _ _ (Below.refl _ _) rfl
          | 7, _, ho =>
            have e := Option.some.inj ho; subst e
            have p6 : x 6 = .bool false := hpre 6 (by kernel_rfl)
            have hKK : ∀ (vv : Value) (w'' : World), Kept w1 w'' → (vv = .bool false) → K _ w'' := fun v w'' h1 h2 => hK v w'' h1 h2
            clear hK hpre
            simp only [putAll, dstOf, List.getElem?_toArray, List.getElem?_cons_zero, List.getElem?_cons_succ, Option.bind_some, Act.put, List.setIfInBounds_toArray, List.set_cons_zero, List.set_cons_succ] at hKK ⊢
            simp only [p6] at hKK ⊢
            clear p6
            refine (if_pos (by rfl)).mpr ?_
            go_wp2
            exact hKK _ _ (Below.refl _ _) rfl
          | 8, _, ho =>
            have e := Option.some.inj ho; subst e
            have p7 : x 7 = .bool false := hpre 7 (by kernel_rfl)
            have hKK : ∀ (vv : Value) (w'' : World), Kept w1 w'' → (vv = .pointer (some ⟨B + 1 + 1, 0, none⟩)) → K _ w'' := fun v w'' h1 h2 => hK v w'' h1 h2
            clear hK hpre
            simp only [putAll, dstOf, List.getElem?_toArray, List.getElem?_cons_zero, List.getElem?_cons_succ, Option.bind_some, Act.put, List.setIfInBounds_toArray, List.set_cons_zero, List.set_cons_succ] at hKK ⊢
            simp only [p7] at hKK ⊢
            clear p7
            refine (if_pos (by rfl)).mpr ?_
            go_wp2
            exact hKK _ _ (Below.refl _ _) rfl
          | 9, _, ho =>
            have e := Option.some.inj ho; subst e
            have p7 : x 7 = .bool false := hpre 7 (by kernel_rfl)
            have p8 : x 8 = .pointer (some ⟨B + 1 + 1, 0, none⟩) := hpre 8 (by kernel_rfl)
            have hKK : ∀ (vv : Value) (w'' : World), Kept w1 w'' → (vv = U c.boots) → K _ w'' := fun v w'' h1 h2 => hK v w'' h1 h2
            clear hK hpre
            simp only [putAll, dstOf, List.getElem?_toArray, List.getElem?_cons_zero, List.getElem?_cons_succ, Option.bind_some, Act.put, List.setIfInBounds_toArray, List.set_cons_zero, List.set_cons_succ] at hKK ⊢
            simp only [p7, p8] at hKK ⊢
            clear p7 p8
            refine (if_pos (by rfl)).mpr ?_
            go_wp2_with fail
            refine (count_boots _ _ _ _ (Blk.kept cq hw)).mono ?_
            rintro e w2 ⟨rfl, rfl⟩
            exact hKK _ _ (Below.refl _ _) rfl
          | 10, _, ho =>
            have e := Option.some.inj ho; subst e
            have p7 : x 7 = .bool false := hpre 7 (by kernel_rfl)
            have hKK : ∀ (vv : Value) (w'' : World), Kept w1 w'' → (vv = .pointer (some ⟨B + 1 + 1 + 1, 0, none⟩)) → K _ w'' := fun v w'' h1 h2 => hK v w'' h1 h2
            clear hK hpre
            simp only [putAll, dstOf, List.getElem?_toArray, List.getElem?_cons_zero, List.getElem?_cons_succ, Option.bind_some, Act.put, List.setIfInBounds_toArray, List.set_cons_zero, List.set_cons_succ] at hKK ⊢
            simp only [p7] at hKK ⊢
            clear p7
            refine (if_pos (by rfl)).mpr ?_
            go_wp2
            exact hKK _ _ (Below.refl _ _) rfl
          | 11, _, ho =>
            have e := Option.some.inj ho; subst e
            have p7 : x 7 = .bool false := hpre 7 (by kernel_rfl)
            have p10 : x 10 = .pointer (some ⟨B + 1 + 1 + 1, 0, none⟩) := hpre 10 (by kernel_rfl)
            have hKK : ∀ (vv : Value) (w'' : World), Kept w1 w'' → (vv = .pointer (some ⟨B + 1 + 1 + 1, 0, none⟩)) → K _ w'' := fun v w'' h1 h2 => hK v w'' h1 h2
            clear hK hpre
            simp only [putAll, dstOf, List.getElem?_toArray, List.getElem?_cons_zero, List.getElem?_cons_succ, Option.bind_some, Act.put, List.setIfInBounds_toArray, List.set_cons_zero, List.set_cons_succ] at hKK ⊢
            simp only [p7, p10] at hKK ⊢
            clear p7 p10
            refine (if_pos (by rfl)).mpr ?_
            go_wp2
            exact hKK _ _ (Below.refl _ _) rfl
          | 12, _, ho =>
            have e := Option.some.inj ho; subst e
            have p7 : x 7 = .bool false := hpre 7 (by kernel_rfl)
            have p11 : x 11 = .pointer (some ⟨B + 1 + 1 + 1, 0, none⟩) := hpre 11 (by kernel_rfl)
            have hKK : ∀ (vv : Value) (w'' : World), Kept w1 w'' → (vv = .pointer (some ⟨B + 1 + 1 + 1, 2, none⟩)) → K _ w'' := fun v w'' h1 h2 => hK v w'' h1 h2
            clear hK hpre
            simp only [putAll, dstOf, List.getElem?_toArray, List.getElem?_cons_zero, List.getElem?_cons_succ, Option.bind_some, Act.put, List.setIfInBounds_toArray, List.set_cons_zero, List.set_cons_succ] at hKK ⊢
            simp only [p7, p11] at hKK ⊢
            clear p7 p11
            refine (if_pos (by rfl)).mpr ?_
            go_wp2
            exact hKK _ _ (Below.refl _ _) rfl
          | 13, _, ho =>
            have e := Option.some.inj ho; subst e
            have p7 : x 7 = .bool false := hpre 7 (by kernel_rfl)
            have p12 : x 12 = .pointer (some ⟨B + 1 + 1 + 1, 2, none⟩) := hpre 12 (by kernel_rfl)
            have hKK : ∀ (vv : Value) (w'' : World), Kept w1 w'' → (vv = U c.boots) → K _ w'' := fun v w'' h1 h2 => hK v w'' h1 h2
            clear hK hpre
            simp only [putAll, dstOf, List.getElem?_toArray, List.getElem?_cons_zero, List.getElem?_cons_succ, Option.bind_some, Act.put, List.setIfInBounds_toArray, List.set_cons_zero, List.set_cons_succ] at hKK ⊢
            simp only [p7, p12] at hKK ⊢
            clear p7 p12
            refine (if_pos (by rfl)).mpr ?_
            have q0 := (Blk.kept xq hw).cell 1; have q1 := (Blk.kept xq hw).cell 2; have q2 := (Blk.kept xq hw).cell 3
            go_wp2
            exact hKK _ _ (Below.refl _ _) rfl
          | 14, _, ho =>
            have e := Option.some.inj ho; subst e
            have p7 : x 7 = .bool false := hpre 7 (by kernel_rfl)
            have p9 : x 9 = U c.boots := hpre 9 (by kernel_rfl)
            have p13 : x 13 = U c.boots := hpre 13 (by kernel_rfl)
            have hKK : ∀ (vv : Value) (w'' : World), Kept w1 w'' → (vv = .bool false) → K _ w'' := fun v w'' h1 h2 => hK v w'' h1 h2
            clear hK hpre
            simp only [putAll, dstOf, List.getElem?_toArray, List.getElem?_cons_zero, List.getElem?_cons_succ, Option.bind_some, Act.put, List.setIfInBounds_toArray, List.set_cons_zero, List.set_cons_succ] at hKK ⊢
            simp only [p7, p9, p13] at hKK ⊢
            clear p7 p9 p13
            refine (if_pos (by rfl)).mpr ?_
            go_wp2
            exact hKK _ _ (Below.refl _ _) rfl
          | 15, _, ho =>
            have e := Option.some.inj ho; subst e
            have p7 : x 7 = .bool false := hpre 7 (by kernel_rfl)
            have p14 : x 14 = .bool false := hpre 14 (by kernel_rfl)
            have hKK : ∀ (vv : Value) (w'' : World), Kept w1 w'' → (vv = .bool false) → K _ w'' := fun v w'' h1 h2 => hK v w'' h1 h2
            clear hK hpre
            simp only [putAll, dstOf, List.getElem?_toArray, List.getElem?_cons_zero, List.getElem?_cons_succ, Option.bind_some, Act.put, List.setIfInBounds_toArray, List.set_cons_zero, List.set_cons_succ] at hKK ⊢
            simp only [p7, p14] at hKK ⊢
            clear p7 p14
            refine (if_pos (by rfl)).mpr ?_
            go_wp2
            exact hKK _ _ (Below.refl _ _) rfl
          | 16, _, ho =>
            have e := Option.some.inj ho; subst e
            have p15 : x 15 = .bool false := hpre 15 (by kernel_rfl)
            have hKK : ∀ (vv : Value) (w'' : World), Kept w1 w'' → (vv = .bool false) → K _ w'' := fun v w'' h1 h2 => hK v w'' h1 h2
            clear hK hpre
            simp only [putAll, dstOf, List.getElem?_toArray, List.getElem?_cons_zero, List.getElem?_cons_succ, Option.bind_some, Act.put, List.setIfInBounds_toArray, List.set_cons_zero, List.set_cons_succ] at hKK ⊢
            simp only [p15] at hKK ⊢
            clear p15
            refine (if_pos (by rfl)).mpr ?_
            go_wp2
            exact hKK _ _ (Below.refl _ _) rfl
          | 17, _, ho =>
            have e := Option.some.inj ho; subst e
            have p16 : x 16 = .bool false := hpre 16 (by kernel_rfl)
            have hKK : ∀ (vv : Value) (w'' : World), Kept w1 w'' → (vv = .pointer (some ⟨B + 1 + 1, 0, none⟩)) → K _ w'' := fun v w'' h1 h2 => hK v w'' h1 h2
            clear hK hpre
            simp only [putAll, dstOf, List.getElem?_toArray, List.getElem?_cons_zero, List.getElem?_cons_succ, Option.bind_some, Act.put, List.setIfInBounds_toArray, List.set_cons_zero, List.set_cons_succ] at hKK ⊢
            simp only [p16] at hKK ⊢
            clear p16
            refine (if_pos (by rfl)).mpr ?_
            go_wp2
            exact hKK _ _ (Below.refl _ _) rfl
          | 18, _, ho =>
            have e := Option.some.inj ho; subst e
            have p16 : x 16 = .bool false := hpre 16 (by kernel_rfl)
            have p17 : x 17 = .pointer (some ⟨B + 1 + 1, 0, none⟩) := hpre 17 (by kernel_rfl)
            have hKK : ∀ (vv : Value) (w'' : World), Kept w1 w'' → (vv = U c.at_) → K _ w'' := fun v w'' h1 h2 => hK v w'' h1 h2
            clear hK hpre
            simp only [putAll, dstOf, List.getElem?_toArray, List.getElem?_cons_zero, List.getElem?_cons_succ, Option.bind_some, Act.put, List.setIfInBounds_toArray, List.set_cons_zero, List.set_cons_succ] at hKK ⊢
            simp only [p16, p17] at hKK ⊢
            clear p16 p17
            refine (if_pos (by rfl)).mpr ?_
            go_wp2_with fail
            refine (count_at _ _ _ _ (Blk.kept cq hw)).mono ?_
            rintro e w2 ⟨rfl, rfl⟩
            exact hKK _ _ (Below.refl _ _) rfl
          | 19, _, ho =>
            have e := Option.some.inj ho; subst e
            have p16 : x 16 = .bool false := hpre 16 (by kernel_rfl)
            have hKK : ∀ (vv : Value) (w'' : World), Kept w1 w'' → (vv = .pointer (some ⟨B + 1 + 1 + 1, 0, none⟩)) → K _ w'' := fun v w'' h1 h2 => hK v w'' h1 h2
            clear hK hpre
            simp only [putAll, dstOf, List.getElem?_toArray, List.getElem?_cons_zero, List.getElem?_cons_succ, Option.bind_some, Act.put, List.setIfInBounds_toArray, List.set_cons_zero, List.set_cons_succ] at hKK ⊢
            simp only [p16] at hKK ⊢
            clear p16
            refine (if_pos (by rfl)).mpr ?_
            go_wp2
            exact hKK _ _ (Below.refl _ _) rfl
          | 20, _, ho =>
            have e := Option.some.inj ho; subst e
            have p16 : x 16 = .bool false := hpre 16 (by kernel_rfl)
            have p19 : x 19 = .pointer (some ⟨B + 1 + 1 + 1, 0, none⟩) := hpre 19 (by kernel_rfl)
            have hKK : ∀ (vv : Value) (w'' : World), Kept w1 w'' → (vv = .pointer (some ⟨B + 1 + 1 + 1, 0, none⟩)) → K _ w'' := fun v w'' h1 h2 => hK v w'' h1 h2
            clear hK hpre
            simp only [putAll, dstOf, List.getElem?_toArray, List.getElem?_cons_zero, List.getElem?_cons_succ, Option.bind_some, Act.put, List.setIfInBounds_toArray, List.set_cons_zero, List.set_cons_succ] at hKK ⊢
            simp only [p16, p19] at hKK ⊢
            clear p16 p19
            refine (if_pos (by rfl)).mpr ?_
            go_wp2
            exact hKK _ _ (Below.refl _ _) rfl
          | 21, _, ho =>
            have e := Option.some.inj ho; subst e
            have p16 : x 16 = .bool false := hpre 16 (by kernel_rfl)
            have p20 : x 20 = .pointer (some ⟨B + 1 + 1 + 1, 0, none⟩) := hpre 20 (by kernel_rfl)
            have hKK : ∀ (vv : Value) (w'' : World), Kept w1 w'' → (vv = .pointer (some ⟨B + 1 + 1 + 1, 3, none⟩)) → K _ w'' := fun v w'' h1 h2 => hK v w'' h1 h2
            clear hK hpre
            simp only [putAll, dstOf, List.getElem?_toArray, List.getElem?_cons_zero, List.getElem?_cons_succ, Option.bind_some, Act.put, List.setIfInBounds_toArray, List.set_cons_zero, List.set_cons_succ] at hKK ⊢
            simp only [p16, p20] at hKK ⊢
            clear p16 p20
            refine (if_pos (by rfl)).mpr ?_
            go_wp2
            exact hKK _ _ (Below.refl _ _) rfl
          | 22, _, ho =>
            have e := Option.some.inj ho; subst e
            have p16 : x 16 = .bool false := hpre 16 (by kernel_rfl)
            have p21 : x 21 = .pointer (some ⟨B + 1 + 1 + 1, 3, none⟩) := hpre 21 (by kernel_rfl)
            have hKK : ∀ (vv : Value) (w'' : World), Kept w1 w'' → (vv = U c.at_) → K _ w'' := fun v w'' h1 h2 => hK v w'' h1 h2
            clear hK hpre
            simp only [putAll, dstOf, List.getElem?_toArray, List.getElem?_cons_zero, List.getElem?_cons_succ, Option.bind_some, Act.put, List.setIfInBounds_toArray, List.set_cons_zero, List.set_cons_succ] at hKK ⊢
            simp only [p16, p21] at hKK ⊢
            clear p16 p21
            refine (if_pos (by rfl)).mpr ?_
            have q0 := (Blk.kept xq hw).cell 1; have q1 := (Blk.kept xq hw).cell 2; have q2 := (Blk.kept xq hw).cell 3
            go_wp2
            exact hKK _ _ (Below.refl _ _) rfl
          | 23, _, ho =>
            have e := Option.some.inj ho; subst e
            have p16 : x 16 = .bool false := hpre 16 (by kernel_rfl)
            have p18 : x 18 = U c.at_ := hpre 18 (by kernel_rfl)
            have p22 : x 22 = U c.at_ := hpre 22 (by kernel_rfl)
            have hKK : ∀ (vv : Value) (w'' : World), Kept w1 w'' → (vv = .bool false) → K _ w'' := fun v w'' h1 h2 => hK v w'' h1 h2
            clear hK hpre
            simp only [putAll, dstOf, List.getElem?_toArray, List.getElem?_cons_zero, List.getElem?_cons_succ, Option.bind_some, Act.put, List.setIfInBounds_toArray, List.set_cons_zero, List.set_cons_succ] at hKK ⊢
            simp only [p16, p18, p22] at hKK ⊢
            clear p16 p18 p22
            refine (if_pos (by rfl)).mpr ?_
            go_wp2
            exact hKK _ _ (Below.refl _ _) rfl
          | 24, _, ho =>
            have e := Option.some.inj ho; subst e
            have p16 : x 16 = .bool false := hpre 16 (by kernel_rfl)
            have p23 : x 23 = .bool false := hpre 23 (by kernel_rfl)
            have hKK : ∀ (vv : Value) (w'' : World), Kept w1 w'' → (vv = .bool false) → K _ w'' := fun v w'' h1 h2 => hK v w'' h1 h2
            clear hK hpre
            simp only [putAll, dstOf, List.getElem?_toArray, List.getElem?_cons_zero, List.getElem?_cons_succ, Option.bind_some, Act.put, List.setIfInBounds_toArray, List.set_cons_zero, List.set_cons_succ] at hKK ⊢
            simp only [p16, p23] at hKK ⊢
            clear p16 p23
            refine (if_pos (by rfl)).mpr ?_
            go_wp2
            exact hKK _ _ (Below.refl _ _) rfl
          | i + 25, hi, _ => exact absurd hi (by omega)
        · intro x w1 hw hA
          have p0 : x 0 = .pointer (some ⟨B + 1 + 1, 0, none⟩) := hA 0 (by omega)
          have p1 : x 1 = U c.value := hA 1 (by omega)
          have p2 : x 2 = .pointer (some ⟨B + 1 + 1 + 1, 0, none⟩) := hA 2 (by omega)
          have p3 : x 3 = .pointer (some ⟨B + 1 + 1 + 1, 0, none⟩) := hA 3 (by omega)
          have p4 : x 4 = .pointer (some ⟨B + 1 + 1 + 1, 1, none⟩) := hA 4 (by omega)
          have p5 : x 5 = U c.value := hA 5 (by omega)
          have p6 : x 6 = .bool false := hA 6 (by omega)
          have p7 : x 7 = .bool false := hA 7 (by omega)
          have p8 : x 8 = .pointer (some ⟨B + 1 + 1, 0, none⟩) := hA 8 (by omega)
          have p9 : x 9 = U c.boots := hA 9 (by omega)
          have p10 : x 10 = .pointer (some ⟨B + 1 + 1 + 1, 0, none⟩) := hA 10 (by omega)
          have p11 : x 11 = .pointer (some ⟨B + 1 + 1 + 1, 0, none⟩) := hA 11 (by omega)
          have p12 : x 12 = .pointer (some ⟨B + 1 + 1 + 1, 2, none⟩) := hA 12 (by omega)
          have p13 : x 13 = U c.boots := hA 13 (by omega)
          have p14 : x 14 = .bool false := hA 14 (by omega)
          have p15 : x 15 = .bool false := hA 15 (by omega)
          have p16 : x 16 = .bool false := hA 16 (by omega)
          have p17 : x 17 = .pointer (some ⟨B + 1 + 1, 0, none⟩) := hA 17 (by omega)
          have p18 : x 18 = U c.at_ := hA 18 (by omega)
          have p19 : x 19 = .pointer (some ⟨B + 1 + 1 + 1, 0, none⟩) := hA 19 (by omega)
          have p20 : x 20 = .pointer (some ⟨B + 1 + 1 + 1, 0, none⟩) := hA 20 (by omega)
          have p21 : x 21 = .pointer (some ⟨B + 1 + 1 + 1, 3, none⟩) := hA 21 (by omega)
          have p22 : x 22 = U c.at_ := hA 22 (by omega)
          have p23 : x 23 = .bool false := hA 23 (by omega)
          have p24 : x 24 = .bool false := hA 24 (by omega)
          clear hA
          simp only [List.drop_succ_cons, List.drop_zero, putAll, dstOf, List.getElem?_toArray, List.getElem?_cons_zero, List.getElem?_cons_succ, Option.bind_some, Act.put, List.setIfInBounds_toArray, List.set_cons_zero, List.set_cons_succ]
          simp only [p0, p1, p2, p3, p4, p5, p6, p7, p8, p9, p10, p11, p12, p13, p14, p15, p16, p17, p18, p19, p20, p21, p22, p23, p24]
          clear p0 p1 p2 p3 p4 p5 p6 p7 p8 p9 p10 p11 p12 p13 p14 p15 p16 p17 p18 p19 p20 p21 p22 p23 p24
          have hw5 := hw
          have pq5 : PwAt w1 B q := Blk.kept pq hw
          have rq5 : RefAt w1 (B + 1) q lq := Blk.kept rq hw
          have cq5 : CtAt w1 (B + 1 + 1) B c := Blk.kept cq hw
          have xq5 : RcAt w1 (B + 1 + 1 + 1) (B + 1) c := Blk.kept xq hw
          clear pq rq cq xq hw
          go_wp2
          exact ⟨⟨k + 1, by omega, by go_num, q, lq, c, pq5, rq5, cq5, xq5, tq, oq, hbq.trans (hw5.mono hszq), Nat.le_trans hszq hw5.size⟩, by simp [intOf]; omega⟩
      · skip
        go_wp2_with fail
        refine (power_fuse _ _ _ _ pk).mono ?_
        rintro e w3 ⟨rfl, p3, g3⟩
        have r3 : RefAt w3 (B + 1) p l := only_blk g3 rk (by omega)
        have c3 : CtAt w3 (B + 1 + 1) B n0 := only_blk g3 ck (by omega)
        have x3 : RcAt w3 (B + 1 + 1 + 1) (B + 1) n0 := only_blk g3 xk (by omega)
        have hb3 := hb.trans (only_below g3 (Nat.le_refl _) hsz)
        have hs3 := Nat.le_trans hsz g3.size
        have x1 := (hb3.cell (p := ⟨b, off + k * 1 + 0, none⟩) hbw).trans (HC.out 0 (by omega))
        rw [HM.out, Nat.mul_one, Nat.add_zero] at x1
        clear g3 hsz hb x0 pk rk ck xk
        go_wp2_with fail
        refine (ref_fuse _ _ _ _ _ r3).mono ?_
        rintro e w4 ⟨rfl, rq, g4⟩
        have pq : PwAt w4 B (p.setFuse m) := only_blk g4 p3 (by omega)
        have cq : CtAt w4 (B + 1 + 1) B n0 := only_blk g4 c3 (by omega)
        have xq : RcAt w4 (B + 1 + 1 + 1) (B + 1) n0 := only_blk g4 x3 (by omega)
        have hbq := hb3.trans (only_below g4 (by omega) hs3)
        have hszq := Nat.le_trans hs3 g4.size
        have oq : (p.setFuse m).ok ((k + 1 : Nat) : Int) := ok_mono (fuse_ok ok m m1) (by omega)
        have tq : Twin (p.setFuse m) m := fun h => by first | rfl | cases h
        clear r3 p3 g4 hb3 hs3 tk ok hok2 c3 x3
        generalize p.setFuse m = q at *
        obtain ⟨lq, hlq⟩ : ∃ lq, lq = m := ⟨_, rfl⟩
        rw [← hlq] at rq tq
        clear hlq
        obtain ⟨c, hc⟩ : ∃ c, c = n0 := ⟨_, rfl⟩
        rw [← hc] at xq cq
        clear hc
        go_wp2_with fail
        refine wp_region_posts 25 (fun i (vv : Value) w' => match i with | 0 => vv = .pointer (some ⟨B + 1 + 1, 0, none⟩) | 1 => vv = U c.value | 2 => vv = .pointer (some ⟨B + 1 + 1 + 1, 0, none⟩) | 3 => vv = .pointer (some ⟨B + 1 + 1 + 1, 0, none⟩) | 4 => vv = .pointer (some ⟨B + 1 + 1 + 1, 1, none⟩) | 5 => vv = U c.value | 6 => vv = .bool false | 7 => vv = .bool false | 8 => vv = .pointer (some ⟨B + 1 + 1, 0, none⟩) | 9 => vv = U c.boots | 10 => vv = .pointer (some ⟨B + 1 + 1 + 1, 0, none⟩) | 11 => vv = .pointer (some ⟨B + 1 + 1 + 1, 0, none⟩) | 12 => vv = .pointer (some ⟨B + 1 + 1 + 1, 2, none⟩) | 13 => vv = U c.boots | 14 => vv = .bool false | 15 => vv = .bool false | 16 => vv = .bool false | 17 => vv = .pointer (some ⟨B + 1 + 1, 0, none⟩) | 18 => vv = U c.at_ | 19 => vv = .pointer (some ⟨B + 1 + 1 + 1, 0, none⟩) | 20 => vv = .pointer (some ⟨B + 1 + 1 + 1, 0, none⟩) | 21 => vv = .pointer (some ⟨B + 1 + 1 + 1, 3, none⟩) | 22 => vv = U c.at_ | 23 => vv = .bool false | 24 => vv = .bool false | _ => True) (by kernel_rfl) (by kernel_rfl) ?_ ?_ ?_
        · intro i v w1 w2 h hk
          match i, h with
          | 0, h => exact h
          | 1, h => exact h
          | 2, h => exact h
          | 3, h => exact h
          | 4, h => exact h
          | 5, h => exact h
          | 6, h => exact h
          | 7, h => exact h
          | 8, h => exact h
          | 9, h => exact h
          | 10, h => exact h
          | 11, h => exact h
          | 12, h => exact h
          | 13, h => exact h
          | 14, h => exact h
          | 15, h => exact h
          | 16, h => exact h
          | 17, h => exact h
          | 18, h => exact h
          | 19, h => exact h
          | 20, h => exact h
          | 21, h => exact h
          | 22, h => exact h
          | 23, h => exact h
          | 24, h => exact h
          | _ + 25, _ => trivial
        · intro i o hi ho x w1 hw hpre K hK
          match i, hi, ho with
          | 0, _, ho =>
            have e := Option.some.inj ho; subst e
            have hKK : ∀ (vv : Value) (w'' : World), Kept w1 w'' → (vv = .pointer (some ⟨B + 1 + 1, 0, none⟩)) → K _ w'' := fun v w'' h1 h2 => hK v w'' h1 h2
            clear hK hpre
            simp only [putAll, dstOf, List.getElem?_toArray, List.getElem?_cons_zero, List.getElem?_cons_succ, Option.bind_some, Act.put, List.setIfInBounds_toArray, List.set_cons_zero, List.set_cons_succ] at hKK ⊢
            refine (if_pos (by rfl)).mpr ?_
            go_wp2
            exact hKK _ _ (Below.refl _ _) rfl
          | 1, _, ho =>
            have e := Option.some.inj ho; subst e
            have p0 : x 0 = .pointer (some ⟨B + 1 + 1, 0, none⟩) := hpre 0 (by kernel_rfl)
            have hKK : ∀ (vv : Value) (w'' : World), Kept w1 w'' → (vv = U c.value) → K _ w'' := fun v w'' h1 h2 => hK v w'' h1 h2
            clear hK hpre
            simp only [putAll, dstOf, List.getElem?_toArray, List.getElem?_cons_zero, List.getElem?_cons_succ, Option.bind_some, Act.put, List.setIfInBounds_toArray, List.set_cons_zero, List.set_cons_succ] at hKK ⊢
            simp only [p0] at hKK ⊢
            clear p0
            refine (if_pos (by rfl)).mpr ?_
            go_wp2_with fail
            refine (count_value _ _ _ _ (Blk.kept cq hw)).mono ?_
            rintro e w2 ⟨rfl, rfl⟩
            exact hKK _ _ (Below.refl _ _) rfl
          | 2, _, ho =>
            have e := Option.some.inj ho; subst e
            have hKK : ∀ (vv : Value) (w'' : World), Kept w1 w'' → (vv = .pointer (some ⟨B + 1 + 1 + 1, 0, none⟩)) → K _ w'' := fun v w'' h1 h2 => hK v w'' h1 h2
            clear hK hpre
            simp only [putAll, dstOf, List.getElem?_toArray, List.getElem?_cons_zero, List.getElem?_cons_succ, Option.bind_some, Act.put, List.setIfInBounds_toArray, List.set_cons_zero, List.set_cons_succ] at hKK ⊢
            refine (if_pos (by rfl)).mpr ?_
            go_wp2
            exact hKK _ _ (Below.refl _ _) rfl
          | 3, _, ho =>
            have e := Option.some.inj ho; subst e
            have p2 : x 2 = .pointer (some ⟨B + 1 + 1 + 1, 0, none⟩) := hpre 2 (by kernel_rfl)
            have hKK : ∀ (vv : Value) (w'' : World), Kept w1 w'' → (vv = .pointer (some ⟨B + 1 + 1 + 1, 0, none⟩)) → K _ w'' := fun v w'' h1 h2 => hK v w'' h1 h2
            clear hK hpre
            simp only [putAll, dstOf, List.getElem?_toArray, List.getElem?_cons_zero, List.getElem?_cons_succ, Option.bind_some, Act.put, List.setIfInBounds_toArray, List.set_cons_zero, List.set_cons_succ] at hKK ⊢
            simp only [p2] at hKK ⊢
            clear p2
            refine (if_pos (by rfl)).mpr ?_
            go_wp2
            exact hKK _ _ (Below.refl _ _) rfl
          | 4, _, ho =>
            have e := Option.some.inj ho; subst e
            have p3 : x 3 = .pointer (some ⟨B + 1 + 1 + 1, 0, none⟩) := hpre 3 (by kernel_rfl)
            have hKK : ∀ (vv : Value) (w'' : World), Kept w1 w'' → (vv = .pointer (some ⟨B + 1 + 1 + 1, 1, none⟩)) → K _ w'' := fun v w'' h1 h2 => hK v w'' h1 h2
            clear hK hpre
            simp only [putAll, dstOf, List.getElem?_toArray, List.getElem?_cons_zero, List.getElem?_cons_succ, Option.bind_some, Act.put, List.setIfInBounds_toArray, List.set_cons_zero, List.set_cons_succ] at hKK ⊢
            simp only [p3] at hKK ⊢
            clear p3
            refine (if_pos (by rfl)).mpr ?_
            go_wp2
            exact hKK _ _ (Below.refl _ _) rfl
          | 5, _, ho =>
            have e := Option.some.inj ho; subst e
            have p4 : x 4 = .pointer (some ⟨B + 1 + 1 + 1, 1, none⟩) := hpre 4 (by kernel_rfl)
            have hKK : ∀ (vv : Value) (w'' : World), Kept w1 w'' → (vv = U c.value) → K _ w'' := fun v w'' h1 h2 => hK v w'' h1 h2
            clear hK hpre
            simp only [putAll, dstOf, List.getElem?_toArray, List.getElem?_cons_zero, List.getElem?_cons_succ, Option.bind_some, Act.put, List.setIfInBounds_toArray, List.set_cons_zero, List.set_cons_succ] at hKK ⊢
            simp only [p4] at hKK ⊢
            clear p4
            refine (if_pos (by rfl)).mpr ?_
            have q0 := (Blk.kept xq hw).cell 1; have q1 := (Blk.kept xq hw).cell 2; have q2 := (Blk.kept xq hw).cell 3
            go_wp2
            exact hKK _ _ (Below.refl _ _) rfl
          | 6, _, ho =>
            have e := Option.some.inj ho; subst e
            have p1 : x 1 = U c.value := hpre 1 (by kernel_rfl)
            have p5 : x 5 = U c.value := hpre 5 (by kernel_rfl)
            have hKK : ∀ (vv : Value) (w'' : World), Kept w1 w'' → (vv = .bool false) → K _ w'' := fun v w'' h1 h2 => hK v w'' h1 h2
            clear hK hpre
            simp only [putAll, dstOf, List.getElem?_toArray, List.getElem?_cons_zero, List.getElem?_cons_succ, Option.bind_some, Act.put, List.setIfInBounds_toArray, List.set_cons_zero, List.set_cons_succ] at hKK ⊢
            simp only [p1, p5] at hKK ⊢
            clear p1 p5
            refine (if_pos (by rfl)).mpr ?_
            go_wp2
            exact hKK _ _ (Below.refl _ _) rfl
          | 7, _, ho =>
            have e := Option.some.inj ho; subst e
            have p6 : x 6 = .bool false := hpre 6 (by kernel_rfl)
            have hKK : ∀ (vv : Value) (w'' : World), Kept w1 w'' → (vv = .bool false) → K _ w'' := fun v w'' h1 h2 => hK v w'' h1 h2
            clear hK hpre
            simp only [putAll, dstOf, List.getElem?_toArray, List.getElem?_cons_zero, List.getElem?_cons_succ, Option.bind_some, Act.put, List.setIfInBounds_toArray, List.set_cons_zero, List.set_cons_succ] at hKK ⊢
            simp only [p6] at hKK ⊢
            clear p6
            refine (if_pos (by rfl)).mpr ?_
            go_wp2
            exact hKK _ _ (Below.refl _ _) rfl
          | 8, _, ho =>
            have e := Option.some.inj ho; subst e
            have p7 : x 7 = .bool false := hpre 7 (by kernel_rfl)
            have hKK : ∀ (vv : Value) (w'' : World), Kept w1 w'' → (vv = .pointer (some ⟨B + 1 + 1, 0, none⟩)) → K _ w'' := fun v w'' h1 h2 => hK v w'' h1 h2
            clear hK hpre
            simp only [putAll, dstOf, List.getElem?_toArray, List.getElem?_cons_zero, List.getElem?_cons_succ, Option.bind_some, Act.put, List.setIfInBounds_toArray, List.set_cons_zero, List.set_cons_succ] at hKK ⊢
            simp only [p7] at hKK ⊢
            clear p7
            refine (if_pos (by rfl)).mpr ?_
            go_wp2
            exact hKK _ _ (Below.refl _ _) rfl
          | 9, _, ho =>
            have e := Option.some.inj ho; subst e
            have p7 : x 7 = .bool false := hpre 7 (by kernel_rfl)
            have p8 : x 8 = .pointer (some ⟨B + 1 + 1, 0, none⟩) := hpre 8 (by kernel_rfl)
            have hKK : ∀ (vv : Value) (w'' : World), Kept w1 w'' → (vv = U c.boots) → K _ w'' := fun v w'' h1 h2 => hK v w'' h1 h2
            clear hK hpre
            simp only [putAll, dstOf, List.getElem?_toArray, List.getElem?_cons_zero, List.getElem?_cons_succ, Option.bind_some, Act.put, List.setIfInBounds_toArray, List.set_cons_zero, List.set_cons_succ] at hKK ⊢
            simp only [p7, p8] at hKK ⊢
            clear p7 p8
            refine (if_pos (by rfl)).mpr ?_
            go_wp2_with fail
            refine (count_boots _ _ _ _ (Blk.kept cq hw)).mono ?_
            rintro e w2 ⟨rfl, rfl⟩
            exact hKK _ _ (Below.refl _ _) rfl
          | 10, _, ho =>
            have e := Option.some.inj ho; subst e
            have p7 : x 7 = .bool false := hpre 7 (by kernel_rfl)
            have hKK : ∀ (vv : Value) (w'' : World), Kept w1 w'' → (vv = .pointer (some ⟨B + 1 + 1 + 1, 0, none⟩)) → K _ w'' := fun v w'' h1 h2 => hK v w'' h1 h2
            clear hK hpre
            simp only [putAll, dstOf, List.getElem?_toArray, List.getElem?_cons_zero, List.getElem?_cons_succ, Option.bind_some, Act.put, List.setIfInBounds_toArray, List.set_cons_zero, List.set_cons_succ] at hKK ⊢
            simp only [p7] at hKK ⊢
            clear p7
            refine (if_pos (by rfl)).mpr ?_
            go_wp2
            exact hKK _ _ (Below.refl _ _) rfl
          | 11, _, ho =>
            have e := Option.some.inj ho; subst e
            have p7 : x 7 = .bool false := hpre 7 (by kernel_rfl)
            have p10 : x 10 = .pointer (some ⟨B + 1 + 1 + 1, 0, none⟩) := hpre 10 (by kernel_rfl)
            have hKK : ∀ (vv : Value) (w'' : World), Kept w1 w'' → (vv = .pointer (some ⟨B + 1 + 1 + 1, 0, none⟩)) → K _ w'' := fun v w'' h1 h2 => hK v w'' h1 h2
            clear hK hpre
            simp only [putAll, dstOf, List.getElem?_toArray, List.getElem?_cons_zero, List.getElem?_cons_succ, Option.bind_some, Act.put, List.setIfInBounds_toArray, List.set_cons_zero, List.set_cons_succ] at hKK ⊢
            simp only [p7, p10] at hKK ⊢
            clear p7 p10
            refine (if_pos (by rfl)).mpr ?_
            go_wp2
            exact hKK _ _ (Below.refl _ _) rfl
          | 12, _, ho =>
            have e := Option.some.inj ho; subst e
            have p7 : x 7 = .bool false := hpre 7 (by kernel_rfl)
            have p11 : x 11 = .pointer (some ⟨B + 1 + 1 + 1, 0, none⟩) := hpre 11 (by kernel_rfl)
            have hKK : ∀ (vv : Value) (w'' : World), Kept w1 w'' → (vv = .pointer (some ⟨B + 1 + 1 + 1, 2, none⟩)) → K _ w'' := fun v w'' h1 h2 => hK v w'' h1 h2
            clear hK hpre
            simp only [putAll, dstOf, List.getElem?_toArray, List.getElem?_cons_zero, List.getElem?_cons_succ, Option.bind_some, Act.put, List.setIfInBounds_toArray, List.set_cons_zero, List.set_cons_succ] at hKK ⊢
            simp only [p7, p11] at hKK ⊢
            clear p7 p11
            refine (if_pos (by rfl)).mpr ?_
            go_wp2
            exact hKK _ _ (Below.refl _ _) rfl
          | 13, _, ho =>
            have e := Option.some.inj ho; subst e
            have p7 : x 7 = .bool false := hpre 7 (by kernel_rfl)
            have p12 : x 12 = .pointer (some ⟨B + 1 + 1 + 1, 2, none⟩) := hpre 12 (by kernel_rfl)
            have hKK : ∀ (vv : Value) (w'' : World), Kept w1 w'' → (vv = U c.boots) → K _ w'' := fun v w'' h1 h2 => hK v w'' h1 h2
            clear hK hpre
            simp only [putAll, dstOf, List.getElem?_toArray, List.getElem?_cons_zero, List.getElem?_cons_succ, Option.bind_some, Act.put, List.setIfInBounds_toArray, List.set_cons_zero, List.set_cons_succ] at hKK ⊢
            simp only [p7, p12] at hKK ⊢
            clear p7 p12
            refine (if_pos (by rfl)).mpr ?_
            have q0 := (Blk.kept xq hw).cell 1; have q1 := (Blk.kept xq hw).cell 2; have q2 := (Blk.kept xq hw).cell 3
            go_wp2
            exact hKK _ _ (Below.refl _ _) rfl
          | 14, _, ho =>
            have e := Option.some.inj ho; subst e
            have p7 : x 7 = .bool false := hpre 7 (by kernel_rfl)
            have p9 : x 9 = U c.boots := hpre 9 (by kernel_rfl)
            have p13 : x 13 = U c.boots := hpre 13 (by kernel_rfl)
            have hKK : ∀ (vv : Value) (w'' : World), Kept w1 w'' → (vv = .bool false) → K _ w'' := fun v w'' h1 h2 => hK v w'' h1 h2
            clear hK hpre
            simp only [putAll, dstOf, List.getElem?_toArray, List.getElem?_cons_zero, List.getElem?_cons_succ, Option.bind_some, Act.put, List.setIfInBounds_toArray, List.set_cons_zero, List.set_cons_succ] at hKK ⊢
            simp only [p7, p9, p13] at hKK ⊢
            clear p7 p9 p13
            refine (if_pos (by rfl)).mpr ?_
            go_wp2
            exact hKK _ _ (Below.refl _ _) rfl
          | 15, _, ho =>
            have e := Option.some.inj ho; subst e
            have p7 : x 7 = .bool false := hpre 7 (by kernel_rfl)
            have p14 : x 14 = .bool false := hpre 14 (by kernel_rfl)
            have hKK : ∀ (vv : Value) (w'' : World), Kept w1 w'' → (vv = .bool false) → K _ w'' := fun v w'' h1 h2 => hK v w'' h1 h2
            clear hK hpre
            simp only [putAll, dstOf, List.getElem?_toArray, List.getElem?_cons_zero, List.getElem?_cons_succ, Option.bind_some, Act.put, List.setIfInBounds_toArray, List.set_cons_zero, List.set_cons_succ] at hKK ⊢
            simp only [p7, p14] at hKK ⊢
            clear p7 p14
            refine (if_pos (by rfl)).mpr ?_
            go_wp2
            exact hKK _ _ (Below.refl _ _) rfl
          | 16, _, ho =>
            have e := Option.some.inj ho; subst e
            have p15 : x 15 = .bool false := hpre 15 (by kernel_rfl)
            have hKK : ∀ (vv : Value) (w'' : World), Kept w1 w'' → (vv = .bool false) → K _ w'' := fun v w'' h1 h2 => hK v w'' h1 h2
            clear hK hpre
            simp only [putAll, dstOf, List.getElem?_toArray, List.getElem?_cons_zero, List.getElem?_cons_succ, Option.bind_some, Act.put, List.setIfInBounds_toArray, List.set_cons_zero, List.set_cons_succ] at hKK ⊢
            simp only [p15] at hKK ⊢
            clear p15
            refine (if_pos (by rfl)).mpr ?_
            go_wp2
            exact hKK _ _ (Below.refl _ _) rfl
          | 17, _, ho =>
            have e := Option.some.inj ho; subst e
            have p16 : x 16 = .bool false := hpre 16 (by kernel_rfl)
            have hKK : ∀ (vv : Value) (w'' : World), Kept w1 w'' → (vv = .pointer (some ⟨B + 1 + 1, 0, none⟩)) → K _ w'' := fun v w'' h1 h2 => hK v w'' h1 h2
            clear hK hpre
            simp only [putAll, dstOf, List.getElem?_toArray, List.getElem?_cons_zero, List.getElem?_cons_succ, Option.bind_some, Act.put, List.setIfInBounds_toArray, List.set_cons_zero, List.set_cons_succ] at hKK ⊢
            simp only [p16] at hKK ⊢
            clear p16
            refine (if_pos (by rfl)).mpr ?_
            go_wp2
            exact hKK _ _ (Below.refl _ _) rfl
          | 18, _, ho =>
            have e := Option.some.inj ho; subst e
            have p16 : x 16 = .bool false := hpre 16 (by kernel_rfl)
            have p17 : x 17 = .pointer (some ⟨B + 1 + 1, 0, none⟩) := hpre 17 (by kernel_rfl)
            have hKK : ∀ (vv : Value) (w'' : World), Kept w1 w'' → (vv = U c.at_) → K _ w'' := fun v w'' h1 h2 => hK v w'' h1 h2
            clear hK hpre
            simp only [putAll, dstOf, List.getElem?_toArray, List.getElem?_cons_zero, List.getElem?_cons_succ, Option.bind_some, Act.put, List.setIfInBounds_toArray, List.set_cons_zero, List.set_cons_succ] at hKK ⊢
            simp only [p16, p17] at hKK ⊢
            clear p16 p17
            refine (if_pos (by rfl)).mpr ?_
            go_wp2_with fail
            refine (count_at _ _ _ _ (Blk.kept cq hw)).mono ?_
            rintro e w2 ⟨rfl, rfl⟩
            exact hKK _ _ (Below.refl _ _) rfl
          | 19, _, ho =>
            have e := Option.some.inj ho; subst e
            have p16 : x 16 = .bool false := hpre 16 (by kernel_rfl)
            have hKK : ∀ (vv : Value) (w'' : World), Kept w1 w'' → (vv = .pointer (some ⟨B + 1 + 1 + 1, 0, none⟩)) → K _ w'' := fun v w'' h1 h2 => hK v w'' h1 h2
            clear hK hpre
            simp only [putAll, dstOf, List.getElem?_toArray, List.getElem?_cons_zero, List.getElem?_cons_succ, Option.bind_some, Act.put, List.setIfInBounds_toArray, List.set_cons_zero, List.set_cons_succ] at hKK ⊢
            simp only [p16] at hKK ⊢
            clear p16
            refine (if_pos (by rfl)).mpr ?_
            go_wp2
            exact hKK _ _ (Below.refl _ _) rfl
          | 20, _, ho =>
            have e := Option.some.inj ho; subst e
            have p16 : x 16 = .bool false := hpre 16 (by kernel_rfl)
            have p19 : x 19 = .pointer (some ⟨B + 1 + 1 + 1, 0, none⟩) := hpre 19 (by kernel_rfl)
            have hKK : ∀ (vv : Value) (w'' : World), Kept w1 w'' → (vv = .pointer (some ⟨B + 1 + 1 + 1, 0, none⟩)) → K _ w'' := fun v w'' h1 h2 => hK v w'' h1 h2
            clear hK hpre
            simp only [putAll, dstOf, List.getElem?_toArray, List.getElem?_cons_zero, List.getElem?_cons_succ, Option.bind_some, Act.put, List.setIfInBounds_toArray, List.set_cons_zero, List.set_cons_succ] at hKK ⊢
            simp only [p16, p19] at hKK ⊢
            clear p16 p19
            refine (if_pos (by rfl)).mpr ?_
            go_wp2
            exact hKK _ _ (Below.refl _ _) rfl
          | 21, _, ho =>
            have e := Option.some.inj ho; subst e
            have p16 : x 16 = .bool false := hpre 16 (by kernel_rfl)
            have p20 : x 20 = .pointer (some ⟨B + 1 + 1 + 1, 0, none⟩) := hpre 20 (by kernel_rfl)
            have hKK : ∀ (vv : Value) (w'' : World), Kept w1 w'' → (vv = .pointer (some ⟨B + 1 + 1 + 1, 3, none⟩)) → K _ w'' := fun v w'' h1 h2 => hK v w'' h1 h2
            clear hK hpre
            simp only [putAll, dstOf, List.getElem?_toArray, List.getElem?_cons_zero, List.getElem?_cons_succ, Option.bind_some, Act.put, List.setIfInBounds_toArray, List.set_cons_zero, List.set_cons_succ] at hKK ⊢
            simp only [p16, p20] at hKK ⊢
            clear p16 p20
            refine (if_pos (by rfl)).mpr ?_
            go_wp2
            exact hKK _ _ (Below.refl _ _) rfl
          | 22, _, ho =>
            have e := Option.some.inj ho; subst e
            have p16 : x 16 = .bool false := hpre 16 (by kernel_rfl)
            have p21 : x 21 = .pointer (some ⟨B + 1 + 1 + 1, 3, none⟩) := hpre 21 (by kernel_rfl)
            have hKK : ∀ (vv : Value) (w'' : World), Kept w1 w'' → (vv = U c.at_) → K _ w'' := fun v w'' h1 h2 => hK v w'' h1 h2
            clear hK hpre
            simp only [putAll, dstOf, List.getElem?_toArray, List.getElem?_cons_zero, List.getElem?_cons_succ, Option.bind_some, Act.put, List.setIfInBounds_toArray, List.set_cons_zero, List.set_cons_succ] at hKK ⊢
            simp only [p16, p21] at hKK ⊢
            clear p16 p21
            refine (if_pos (by rfl)).mpr ?_
            have q0 := (Blk.kept xq hw).cell 1; have q1 := (Blk.kept xq hw).cell 2; have q2 := (Blk.kept xq hw).cell 3
            go_wp2
            exact hKK _ _ (Below.refl _ _) rfl
          | 23, _, ho =>
            have e := Option.some.inj ho; subst e
            have p16 : x 16 = .bool false := hpre 16 (by kernel_rfl)
            have p18 : x 18 = U c.at_ := hpre 18 (by kernel_rfl)
            have p22 : x 22 = U c.at_ := hpre 22 (by kernel_rfl)
            have hKK : ∀ (vv : Value) (w'' : World), Kept w1 w'' → (vv = .bool false) → K _ w'' := fun v w'' h1 h2 => hK v w'' h1 h2
            clear hK hpre
            simp only [putAll, dstOf, List.getElem?_toArray, List.getElem?_cons_zero, List.getElem?_cons_succ, Option.bind_some, Act.put, List.setIfInBounds_toArray, List.set_cons_zero, List.set_cons_succ] at hKK ⊢
            simp only [p16, p18, p22] at hKK ⊢
            clear p16 p18 p22
            refine (if_pos (by rfl)).mpr ?_
            go_wp2
            exact hKK _ _ (Below.refl _ _) rfl
          | 24, _, ho =>
            have e := Option.some.inj ho; subst e
            have p16 : x 16 = .bool false := hpre 16 (by kernel_rfl)
            have p23 : x 23 = .bool false := hpre 23 (by kernel_rfl)
            have hKK : ∀ (vv : Value) (w'' : World), Kept w1 w'' → (vv = .bool false) → K _ w'' := fun v w'' h1 h2 => hK v w'' h1 h2
            clear hK hpre
            simp only [putAll, dstOf, List.getElem?_toArray, List.getElem?_cons_zero, List.getElem?_cons_succ, Option.bind_some, Act.put, List.setIfInBounds_toArray, List.set_cons_zero, List.set_cons_succ] at hKK ⊢
            simp only [p16, p23] at hKK ⊢
            clear p16 p23
            refine (if_pos (by rfl)).mpr ?_
            go_wp2
            exact hKK _ _ (Below.refl _ _) rfl
          | i + 25, hi, _ => exact absurd hi (by omega)
        · intro x w1 hw hA
          have p0 : x 0 = .pointer (some ⟨B + 1 + 1, 0, none⟩) := hA 0 (by omega)
          have p1 : x 1 = U c.value := hA 1 (by omega)
          have p2 : x 2 = .pointer (some ⟨B + 1 + 1 + 1, 0, none⟩) := hA 2 (by omega)
          have p3 : x 3 = .pointer (some ⟨B + 1 + 1 + 1, 0, none⟩) := hA 3 (by omega)
          have p4 : x 4 = .pointer (some ⟨B + 1 + 1 + 1, 1, none⟩) := hA 4 (by omega)
          have p5 : x 5 = U c.value := hA 5 (by omega)
          have p6 : x 6 = .bool false := hA 6 (by omega)
          have p7 : x 7 = .bool false := hA 7 (by omega)
          have p8 : x 8 = .pointer (some ⟨B + 1 + 1, 0, none⟩) := hA 8 (by omega)
          have p9 : x 9 = U c.boots := hA 9 (by omega)
          have p10 : x 10 = .pointer (some ⟨B + 1 + 1 + 1, 0, none⟩) := hA 10 (by omega)
          have p11 : x 11 = .pointer (some ⟨B + 1 + 1 + 1, 0, none⟩) := hA 11 (by omega)
          have p12 : x 12 = .pointer (some ⟨B + 1 + 1 + 1, 2, none⟩) := hA 12 (by omega)
          have p13 : x 13 = U c.boots := hA 13 (by omega)
          have p14 : x 14 = .bool false := hA 14 (by omega)
          have p15 : x 15 = .bool false := hA 15 (by omega)
          have p16 : x 16 = .bool false := hA 16 (by omega)
          have p17 : x 17 = .pointer (some ⟨B + 1 + 1, 0, none⟩) := hA 17 (by omega)
          have p18 : x 18 = U c.at_ := hA 18 (by omega)
          have p19 : x 19 = .pointer (some ⟨B + 1 + 1 + 1, 0, none⟩) := hA 19 (by omega)
          have p20 : x 20 = .pointer (some ⟨B + 1 + 1 + 1, 0, none⟩) := hA 20 (by omega)
          have p21 : x 21 = .pointer (some ⟨B + 1 + 1 + 1, 3, none⟩) := hA 21 (by omega)
          have p22 : x 22 = U c.at_ := hA 22 (by omega)
          have p23 : x 23 = .bool false := hA 23 (by omega)
          have p24 : x 24 = .bool false := hA 24 (by omega)
          clear hA
          simp only [List.drop_succ_cons, List.drop_zero, putAll, dstOf, List.getElem?_toArray, List.getElem?_cons_zero, List.getElem?_cons_succ, Option.bind_some, Act.put, List.setIfInBounds_toArray, List.set_cons_zero, List.set_cons_succ]
          simp only [p0, p1, p2, p3, p4, p5, p6, p7, p8, p9, p10, p11, p12, p13, p14, p15, p16, p17, p18, p19, p20, p21, p22, p23, p24]
          clear p0 p1 p2 p3 p4 p5 p6 p7 p8 p9 p10 p11 p12 p13 p14 p15 p16 p17 p18 p19 p20 p21 p22 p23 p24
          have hw5 := hw
          have pq5 : PwAt w1 B q := Blk.kept pq hw
          have rq5 : RefAt w1 (B + 1) q lq := Blk.kept rq hw
          have cq5 : CtAt w1 (B + 1 + 1) B c := Blk.kept cq hw
          have xq5 : RcAt w1 (B + 1 + 1 + 1) (B + 1) c := Blk.kept xq hw
          clear pq rq cq xq hw
          go_wp2
          exact ⟨⟨k + 1, by omega, by go_num, q, lq, c, pq5, rq5, cq5, xq5, tq, oq, hbq.trans (hw5.mono hszq), Nat.le_trans hszq hw5.size⟩, by simp [intOf]; omega⟩
    · have : k = n := by omega
      subst this
      have HI := Lib.hid hi
      have HA := Lib.hid ha
      clear hi ha
      go_wp2_with fail
      refine (known_any _).mono ?_
      rintro e w6 ⟨rfl, hk6⟩
      go_wp2
      go_ret
      exact ⟨rfl, by show Below w.heap.size w _; rw [← HB.out]; exact hb.trans (hk6.mono hsz)⟩

namespace countPlaysRow
open Go.ChangeShapes Go.WideShapes Go.ChangeAt Go.RowKit
theorem own : ownKnob Try.prog.godebug = none := by kernel_rfl
theorem laidOut : laidOutB Try.prog = true := by kernel_rfl

set_option maxRecDepth 100000 in
theorem lifted (os : Os) (started : os.Started) (H : Type) (enc : TypeId × Value → H) :
    ReturnsInHanded {} Try.checked os 5 .any (Rows.countPlaysSpec.pre6 enc Try.prog Try.f5 Rows.countPlaysRow.domain false) (Rows.countPlaysSpec.post enc Try.prog Try.f5 false true false false) := by
  refine returnsInHanded_of_change (C := Try.checked) own started (by kernel_rfl) Try.func5
    (ChangeSpec.witness6 (enc := enc) (C := Try.checked) false ⟨#[], #[.slice none 0 0], []⟩ 8 (by kernel_rfl) (by kernel_rfl) (by kernel_rfl) (by kernel_rfl)) ?_
  intro W base args ds gs before hval0 hW _ hsz
  have hval : ∀ (j : Nat) t v, Try.f5.params[j]? = some t → args[j]? = some v → Value.okWide Try.prog W .any base t v := hval0
  have hW' := hW
  obtain ⟨p, q, hA0, hV, rfl, hfz, hnd⟩ := hW
  have hA : DataW.TrodAll enc Try.prog W 0 (fun _ => true) true Try.f5.params.toList args.toList ds p := hA0
  rw [Try.params5] at hA hval
  obtain ⟨v0, vs0, d0, ds0, p0, q0, hargs, rfl, rfl, h0, r0⟩ := trodAll_cons hA
  obtain ⟨rfl, rfl, rfl⟩ := trodAll_nil r0
  obtain rfl : args = #[v0] := by cases args; simp_all
  obtain ⟨n0, f0, a0, t0⟩ := open_row (e := 3) (H := H) Try.underlying32 (by kernel_rfl) (hval 0 32 v0 rfl rfl) h0
  have i0 : ∀ i, i < n0 → ∃ m, f0 i 0 = .int .i64 m ∧ -9223372036854775808 ≤ m ∧ m ≤ 9223372036854775807 := fun i hi => by obtain ⟨fu, y, h⟩ := t0 i hi; exact acts_int' Try.underlying3 h
  refine (plays_walk n0 f0 v0 W a0 i0).mono fun e W' ⟨he, bel⟩ => ?_
  subst he
  exact ⟨_, rfl, law_post (tb := 4) laidOut (by kernel_rfl) Try.underlying4 (by rfl) rfl (by intro xs hxs; match xs, hxs with | [x0], _ => rfl) hW' bel⟩

theorem over : Rows.countPlaysRow.holds Try.pinned (OpenSpec.ofChange Rows.countPlaysSpec) :=
  OpenClaim.holds_of_wide 5 Try.f5 rfl rfl rfl rfl rfl rfl rfl ⟨rfl, rfl, rfl, rfl, rfl⟩ rfl rfl rfl rfl rfl (by kernel_rfl) Try.func5 (by kernel_rfl)
    (of_decide_eq_true (by kernel_rfl)) (by unfold Func.isWrapper; rw [if_neg (of_decide_eq_false (by kernel_rfl))]; exact ⟨rfl, rfl⟩)
    (fun os started H enc _ => lifted os started H enc)
end countPlaysRow

theorem countPlays_holds : Rows.CountPlaysSaid := countPlaysRow.over
#print axioms countPlays_holds

end Go.Proofs.Ytbgjelgglbcmeaa
