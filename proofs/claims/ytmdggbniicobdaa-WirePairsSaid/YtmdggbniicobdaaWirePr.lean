/- WirePairs: any 16 bytes are the two numbers that the reference has them be, and back; no others are. -/
import Derived.Test.YtmdggbniicobdaaWireK
import Derived.Test.YtmdggbniicobdaaWireP
import Derived.Test.YtmdggbniicobdaaWireB
import Derived.Test.YtmdggbniicobdaaPosts
import Derived.Test.YtmdggbniicobdaaRows
namespace Go.Proofs.Ytmdggbniicobdaa
open Go Go.RowKit

theorem cells_u64 : Try.prog.cellsOf 22 = 1 := by kernel_rfl
@[go_sem] theorem eql_pair (a b c f : BitVec 64) (w : World) : (Op.equalIn 10000 33 (.agg #[U a, U b]) (.agg #[U c, U f])).run Try.prog w = .ok ((a, b) == (c, f)) w :=
  equalIn_pair w 9998 33 22 Try.underlying33 Try.underlying22 cells_u64 a b c f

set_option maxRecDepth 100000 in
set_option maxHeartbeats 2000000 in
theorem pairs_walk (bv : Value) (bs : List UInt8) (p : Pair) (w : World) (hs : Sl w bv bs.length (bcells bs)) : Calls Try.prog 6 #[bv, Pr p] w fun e w' => e = .returned (.bool true) ∧ Kept w w' := by
  have hle := hs.le
  unfold maxLen at hle
  by_cases h50 : 50 < bs.length
  · have i50 : (50 : Int) < (bs.length : Int) := by omega
    obtain ⟨a, cap, rfl⟩ := hs.len
    clear hs
    go_enter Try.func6, Try.ntmps6
    go_wp2
    go_ret
    exact ⟨rfl, (Below.refl _ _).alloc (Nat.le_refl _) _⟩
  · have i50 : (bs.length : Int) ≤ 50 := by omega
    obtain ⟨a, cap, rfl⟩ := hs.len
    by_cases h : bs.length = 16
    · have hpp := pairB_pairG bs h
      have HH := Lib.hid h
      have HPP := Lib.hid hpp
      clear h hpp
      go_enter Try.func6, Try.ntmps6
      go_wp2_with fail
      have hk0 : Kept w (w.alloc (.cells #[U p.1, U p.2] 33)) := (Below.refl _ _).alloc (Nat.le_refl _) _
      have hP0 := Blk.new w #[U p.1, U p.2] 33
      have hs0 := hs.kept hk0
      refine (pair_some _ bs _ hs0 HH.out).mono ?_
      rintro e w1 ⟨rfl, hk1⟩
      have hP1 := hP0.kept hk1
      have hs1 := hs0.kept hk1
      have g1 := hk0.of hk1
      clear hk0 hk1 hP0 hs0
      go_wp2_with fail
      have hk1 : Kept w1 (w1.alloc (.cells #[U (pairG bs).1, U (pairG bs).2] 33)) := (Below.refl _ _).alloc (Nat.le_refl _) _
      have hX1 := Blk.new w1 #[U (pairG bs).1, U (pairG bs).2] 33
      refine (rpair_some _ bs _ (hs1.kept hk1) HH.out).mono ?_
      rintro e w2 ⟨rfl, hk2⟩
      have hP2 := (hP1.kept hk1).kept hk2
      have hX2 := hX1.kept hk2
      have hs2 := (hs1.kept hk1).kept hk2
      have g2 := (g1.of hk1).of hk2
      clear hk1 hk2 hP1 hX1 hs1 g1
      have hk2 : Kept w2 (w2.alloc (.cells #[U (pairG bs).1, U (pairG bs).2] 33)) := (Below.refl _ _).alloc (Nat.le_refl _) _
      have hY2 := Blk.new w2 #[U (pairG bs).1, U (pairG bs).2] 33
      have hP2' := hP2.kept hk2
      have q0 := hP2'.cell 0
      have q1 := hP2'.cell 1
      go_wp2_with fail
      refine (bytes_any _ _ _).mono ?_
      rintro e w3 ⟨r, rfl, hown, hk3⟩
      have hP3 := hP2'.kept hk3
      have hX3 := (hX2.kept hk2).kept hk3
      have hY3 := hY2.kept hk3
      have hs3 := (hs2.kept hk2).kept hk3
      have g3 := (g2.of hk2).of hk3
      clear hk2 hk3 hP2 hP2' hX2 hY2 hs2 g2 q0 q1
      go_wp2_with fail
      refine (pair_some _ (pairB (p.1, p.2)) _ (by rw [pairB_length]; exact Sl.of_own hown) (pairB_length _)).mono ?_
      rintro e w4 ⟨rfl, hk4⟩
      rw [pairG_pairB]
      have hP4 := hP3.kept hk4
      have hX4 := hX3.kept hk4
      have hY4 := hY3.kept hk4
      have hs4 := hs3.kept hk4
      have g4 := g3.of hk4
      clear hk4 hP3 hX3 hY3 hs3 g3 hown
      go_wp2_with fail
      have hk4 : Kept w4 (w4.alloc (.cells #[U p.1, U p.2] 33)) := (Below.refl _ _).alloc (Nat.le_refl _) _
      have hZ6 := Blk.new w4 #[U p.1, U p.2] 33
      have hP6 := hP4.kept hk4
      have hX6 := hX4.kept hk4
      have hY6 := hY4.kept hk4
      have hs6 := hs4.kept hk4
      have g6 := g4.of hk4
      clear hP4 hX4 hY4 hs4 g4 hk4 hs
      refine wp_region_posts 31 (fun i (vv : Value) w' => match i with | 0 => vv = Pr (pairG bs) | 1 => vv = Pr (pairG bs) | 2 => vv = .bool true | 3 => vv = .bool true | 4 => vv = .bool true | 5 => vv = .bool true | 6 => vv = .bool true | 7 => vv = .bool true | 8 => vv = .bool true | 9 => vv = .bool true | 10 => vv = .bool false | 11 => vv = .bool false | 12 => vv = Pr (pairG bs) | 13 => Sl w' vv bs.length (bcells bs) | 14 => vv = Str bs | 15 => vv = .slice a bs.length cap | 16 => vv = Str bs | 17 => vv = .bool true | 18 => vv = .bool true | 19 => vv = .bool true | 20 => vv = .bool true | 21 => vv = .bool true | 22 => vv = .bool true | 23 => vv = .bool true | 24 => vv = Pr p | 25 => vv = Pr p | 26 => vv = .bool true | 27 => vv = .bool true | 28 => vv = .bool true | 29 => vv = .bool true | 30 => vv = .bool true | _ => True) (by kernel_rfl) (by kernel_rfl) ?_ ?_ ?_
      · intro i v w1 w2 h hk
        match i, h with
        | 0, h => exact h
        | 1, h => exact h
        | 2, h => exact h
        | 3, h => exact h
        | 4, h => exact h
        | 5, h => exact h
        | 6, h => exact h
        | 7, h => exact h
        | 8, h => exact h
        | 9, h => exact h
        | 10, h => exact h
        | 11, h => exact h
        | 12, h => exact h
        | 13, h => exact h.kept hk
        | 14, h => exact h
        | 15, h => exact h
        | 16, h => exact h
        | 17, h => exact h
        | 18, h => exact h
        | 19, h => exact h
        | 20, h => exact h
        | 21, h => exact h
        | 22, h => exact h
        | 23, h => exact h
        | 24, h => exact h
        | 25, h => exact h
        | 26, h => exact h
        | 27, h => exact h
        | 28, h => exact h
        | 29, h => exact h
        | 30, h => exact h
        | _ + 31, _ => trivial
      · intro i o hi ho x w1 hw hpre K hK
        match i, hi, ho with
        | 0, _, ho =>
          have e := Option.some.inj ho; subst e
          have hKK : ∀ (vv : Value) (w'' : World), Kept w1 w'' → (vv = Pr (pairG bs)) → K _ w'' := fun v w'' h1 h2 => hK v w'' h1 h2
          clear hK hpre
          simp only [putAll, dstOf, List.getElem?_toArray, List.getElem?_cons_zero, List.getElem?_cons_succ, Option.bind_some, Act.put, List.setIfInBounds_toArray, List.set_cons_zero, List.set_cons_succ] at hKK ⊢
          refine (if_pos (by rfl)).mpr ?_
          have c := hX6.kept hw; have c0 := c.cell 0; have c1 := c.cell 1; clear c
          go_wp2
          exact hKK _ _ (Below.refl _ _) rfl
        | 1, _, ho =>
          have e := Option.some.inj ho; subst e
          have hKK : ∀ (vv : Value) (w'' : World), Kept w1 w'' → (vv = Pr (pairG bs)) → K _ w'' := fun v w'' h1 h2 => hK v w'' h1 h2
          clear hK hpre
          simp only [putAll, dstOf, List.getElem?_toArray, List.getElem?_cons_zero, List.getElem?_cons_succ, Option.bind_some, Act.put, List.setIfInBounds_toArray, List.set_cons_zero, List.set_cons_succ] at hKK ⊢
          refine (if_pos (by rfl)).mpr ?_
          have c := hY6.kept hw; have c0 := c.cell 0; have c1 := c.cell 1; clear c
          go_wp2
          exact hKK _ _ (Below.refl _ _) rfl
        | 2, _, ho =>
          have e := Option.some.inj ho; subst e
          have p0 : x 0 = Pr (pairG bs) := hpre 0 (by kernel_rfl)
          have p1 : x 1 = Pr (pairG bs) := hpre 1 (by kernel_rfl)
          have hKK : ∀ (vv : Value) (w'' : World), Kept w1 w'' → (vv = .bool true) → K _ w'' := fun v w'' h1 h2 => hK v w'' h1 h2
          clear hK hpre
          simp only [putAll, dstOf, List.getElem?_toArray, List.getElem?_cons_zero, List.getElem?_cons_succ, Option.bind_some, Act.put, List.setIfInBounds_toArray, List.set_cons_zero, List.set_cons_succ] at hKK ⊢
          simp only [p0, p1] at hKK ⊢
          clear p0 p1
          refine (if_pos (by rfl)).mpr ?_
          go_wp2
          exact hKK _ _ (Below.refl _ _) rfl
        | 3, _, ho =>
          have e := Option.some.inj ho; subst e
          have p2 : x 2 = .bool true := hpre 2 (by kernel_rfl)
          have hKK : ∀ (vv : Value) (w'' : World), Kept w1 w'' → (vv = .bool true) → K _ w'' := fun v w'' h1 h2 => hK v w'' h1 h2
          clear hK hpre
          simp only [putAll, dstOf, List.getElem?_toArray, List.getElem?_cons_zero, List.getElem?_cons_succ, Option.bind_some, Act.put, List.setIfInBounds_toArray, List.set_cons_zero, List.set_cons_succ] at hKK ⊢
          simp only [p2] at hKK ⊢
          clear p2
          refine (if_pos (by rfl)).mpr ?_
          go_wp2
          exact hKK _ _ (Below.refl _ _) rfl
        | 4, _, ho =>
          have e := Option.some.inj ho; subst e
          have p3 : x 3 = .bool true := hpre 3 (by kernel_rfl)
          have hKK : ∀ (vv : Value) (w'' : World), Kept w1 w'' → (vv = .bool true) → K _ w'' := fun v w'' h1 h2 => hK v w'' h1 h2
          clear hK hpre
          simp only [putAll, dstOf, List.getElem?_toArray, List.getElem?_cons_zero, List.getElem?_cons_succ, Option.bind_some, Act.put, List.setIfInBounds_toArray, List.set_cons_zero, List.set_cons_succ] at hKK ⊢
          simp only [p3] at hKK ⊢
          clear p3
          refine (if_pos (by rfl)).mpr ?_
          go_wp2
          exact hKK _ _ (Below.refl _ _) rfl
        | 5, _, ho =>
          have e := Option.some.inj ho; subst e
          have p3 : x 3 = .bool true := hpre 3 (by kernel_rfl)
          have hKK : ∀ (vv : Value) (w'' : World), Kept w1 w'' → (vv = .bool true) → K _ w'' := fun v w'' h1 h2 => hK v w'' h1 h2
          clear hK hpre
          simp only [putAll, dstOf, List.getElem?_toArray, List.getElem?_cons_zero, List.getElem?_cons_succ, Option.bind_some, Act.put, List.setIfInBounds_toArray, List.set_cons_zero, List.set_cons_succ] at hKK ⊢
          simp only [p3] at hKK ⊢
          clear p3
          refine (if_pos (by rfl)).mpr ?_
          go_wp2
          exact hKK _ _ (Below.refl _ _) rfl
        | 6, _, ho =>
          have e := Option.some.inj ho; subst e
          have p3 : x 3 = .bool true := hpre 3 (by kernel_rfl)
          have p4 : x 4 = .bool true := hpre 4 (by kernel_rfl)
          have p5 : x 5 = .bool true := hpre 5 (by kernel_rfl)
          have hKK : ∀ (vv : Value) (w'' : World), Kept w1 w'' → (vv = .bool true) → K _ w'' := fun v w'' h1 h2 => hK v w'' h1 h2
          clear hK hpre
          simp only [putAll, dstOf, List.getElem?_toArray, List.getElem?_cons_zero, List.getElem?_cons_succ, Option.bind_some, Act.put, List.setIfInBounds_toArray, List.set_cons_zero, List.set_cons_succ] at hKK ⊢
          simp only [p3, p4, p5] at hKK ⊢
          clear p3 p4 p5
          refine (if_pos (by rfl)).mpr ?_
          go_wp2
          exact hKK _ _ (Below.refl _ _) rfl
        | 7, _, ho =>
          have e := Option.some.inj ho; subst e
          have p3 : x 3 = .bool true := hpre 3 (by kernel_rfl)
          have p6 : x 6 = .bool true := hpre 6 (by kernel_rfl)
          have hKK : ∀ (vv : Value) (w'' : World), Kept w1 w'' → (vv = .bool true) → K _ w'' := fun v w'' h1 h2 => hK v w'' h1 h2
          clear hK hpre
          simp only [putAll, dstOf, List.getElem?_toArray, List.getElem?_cons_zero, List.getElem?_cons_succ, Option.bind_some, Act.put, List.setIfInBounds_toArray, List.set_cons_zero, List.set_cons_succ] at hKK ⊢
          simp only [p3, p6] at hKK ⊢
          clear p3 p6
          refine (if_pos (by rfl)).mpr ?_
          go_wp2
          exact hKK _ _ (Below.refl _ _) rfl
        | 8, _, ho =>
          have e := Option.some.inj ho; subst e
          have p7 : x 7 = .bool true := hpre 7 (by kernel_rfl)
          have hKK : ∀ (vv : Value) (w'' : World), Kept w1 w'' → (vv = .bool true) → K _ w'' := fun v w'' h1 h2 => hK v w'' h1 h2
          clear hK hpre
          simp only [putAll, dstOf, List.getElem?_toArray, List.getElem?_cons_zero, List.getElem?_cons_succ, Option.bind_some, Act.put, List.setIfInBounds_toArray, List.set_cons_zero, List.set_cons_succ] at hKK ⊢
          simp only [p7] at hKK ⊢
          clear p7
          refine (if_pos (by rfl)).mpr ?_
          go_wp2
          exact hKK _ _ (Below.refl _ _) rfl
        | 9, _, ho =>
          have e := Option.some.inj ho; subst e
          have p8 : x 8 = .bool true := hpre 8 (by kernel_rfl)
          have hKK : ∀ (vv : Value) (w'' : World), Kept w1 w'' → (vv = .bool true) → K _ w'' := fun v w'' h1 h2 => hK v w'' h1 h2
          clear hK hpre
          simp only [putAll, dstOf, List.getElem?_toArray, List.getElem?_cons_zero, List.getElem?_cons_succ, Option.bind_some, Act.put, List.setIfInBounds_toArray, List.set_cons_zero, List.set_cons_succ] at hKK ⊢
          simp only [p8] at hKK ⊢
          clear p8
          refine (if_pos (by rfl)).mpr ?_
          go_wp2
          exact hKK _ _ (Below.refl _ _) rfl
        | 10, _, ho =>
          have e := Option.some.inj ho; subst e
          have p8 : x 8 = .bool true := hpre 8 (by kernel_rfl)
          have p9 : x 9 = .bool true := hpre 9 (by kernel_rfl)
          have hKK : ∀ (vv : Value) (w'' : World), Kept w1 w'' → (vv = .bool false) → K _ w'' := fun v w'' h1 h2 => hK v w'' h1 h2
          clear hK hpre
          simp only [putAll, dstOf, List.getElem?_toArray, List.getElem?_cons_zero, List.getElem?_cons_succ, Option.bind_some, Act.put, List.setIfInBounds_toArray, List.set_cons_zero, List.set_cons_succ] at hKK ⊢
          simp only [p8, p9] at hKK ⊢
          clear p8 p9
          refine (if_pos (by rfl)).mpr ?_
          go_wp2
          exact hKK _ _ (Below.refl _ _) rfl
        | 11, _, ho =>
          have e := Option.some.inj ho; subst e
          have p8 : x 8 = .bool true := hpre 8 (by kernel_rfl)
          have p10 : x 10 = .bool false := hpre 10 (by kernel_rfl)
          have hKK : ∀ (vv : Value) (w'' : World), Kept w1 w'' → (vv = .bool false) → K _ w'' := fun v w'' h1 h2 => hK v w'' h1 h2
          clear hK hpre
          simp only [putAll, dstOf, List.getElem?_toArray, List.getElem?_cons_zero, List.getElem?_cons_succ, Option.bind_some, Act.put, List.setIfInBounds_toArray, List.set_cons_zero, List.set_cons_succ] at hKK ⊢
          simp only [p8, p10] at hKK ⊢
          clear p8 p10
          refine (if_pos (by rfl)).mpr ?_
          go_wp2
          exact hKK _ _ (Below.refl _ _) rfl
        | 12, _, ho =>
          have e := Option.some.inj ho; subst e
          have p11 : x 11 = .bool false := hpre 11 (by kernel_rfl)
          have hKK : ∀ (vv : Value) (w'' : World), Kept w1 w'' → (vv = Pr (pairG bs)) → K _ w'' := fun v w'' h1 h2 => hK v w'' h1 h2
          clear hK hpre
          simp only [putAll, dstOf, List.getElem?_toArray, List.getElem?_cons_zero, List.getElem?_cons_succ, Option.bind_some, Act.put, List.setIfInBounds_toArray, List.set_cons_zero, List.set_cons_succ] at hKK ⊢
          simp only [p11] at hKK ⊢
          clear p11
          refine (if_pos (by rfl)).mpr ?_
          have c := hX6.kept hw; have c0 := c.cell 0; have c1 := c.cell 1; clear c
          go_wp2
          exact hKK _ _ (Below.refl _ _) rfl
        | 13, _, ho =>
          have e := Option.some.inj ho; subst e
          have p11 : x 11 = .bool false := hpre 11 (by kernel_rfl)
          have p12 : x 12 = Pr (pairG bs) := hpre 12 (by kernel_rfl)
          have hKK : ∀ (vv : Value) (w'' : World), Kept w1 w'' → (Sl w'' vv bs.length (bcells bs)) → K _ w'' := fun v w'' h1 h2 => hK v w'' h1 h2
          clear hK hpre
          simp only [putAll, dstOf, List.getElem?_toArray, List.getElem?_cons_zero, List.getElem?_cons_succ, Option.bind_some, Act.put, List.setIfInBounds_toArray, List.set_cons_zero, List.set_cons_succ] at hKK ⊢
          simp only [p11, p12] at hKK ⊢
          clear p11 p12
          refine (if_pos (by rfl)).mpr ?_
          go_wp2_with fail
          refine (bytes_any _ _ _).mono ?_
          rintro e w2 ⟨r, rfl, hown, hk2⟩
          have hsl := Sl.of_own hown
          rw [show pairB ((pairG bs).1, (pairG bs).2) = bs from HPP.out, ← HH.out] at hsl
          clear hown
          go_wp2
          exact hKK _ _ hk2 hsl
        | 14, _, ho =>
          have e := Option.some.inj ho; subst e
          have p11 : x 11 = .bool false := hpre 11 (by kernel_rfl)
          have p13 : Sl w1 (x 13) bs.length (bcells bs) := hpre 13 (by kernel_rfl)
          have hKK : ∀ (vv : Value) (w'' : World), Kept w1 w'' → (vv = Str bs) → K _ w'' := fun v w'' h1 h2 => hK v w'' h1 h2
          clear hK hpre
          simp only [putAll, dstOf, List.getElem?_toArray, List.getElem?_cons_zero, List.getElem?_cons_succ, Option.bind_some, Act.put, List.setIfInBounds_toArray, List.set_cons_zero, List.set_cons_succ] at hKK ⊢
          simp only [p11] at hKK ⊢
          clear p11
          refine (if_pos (by rfl)).mpr ?_
          have hcv := conv_bytes (P := Try.prog) w1 (src := 23) (dst := 9) Try.underlying23 Try.underlying5 Try.underlying9 p13
          go_wp2
          exact hKK _ _ (Below.refl _ _) rfl
        | 15, _, ho =>
          have e := Option.some.inj ho; subst e
          have p11 : x 11 = .bool false := hpre 11 (by kernel_rfl)
          have hKK : ∀ (vv : Value) (w'' : World), Kept w1 w'' → (vv = .slice a bs.length cap) → K _ w'' := fun v w'' h1 h2 => hK v w'' h1 h2
          clear hK hpre
          simp only [putAll, dstOf, List.getElem?_toArray, List.getElem?_cons_zero, List.getElem?_cons_succ, Option.bind_some, Act.put, List.setIfInBounds_toArray, List.set_cons_zero, List.set_cons_succ] at hKK ⊢
          simp only [p11] at hKK ⊢
          clear p11
          refine (if_pos (by rfl)).mpr ?_
          go_wp2
          exact hKK _ _ (Below.refl _ _) rfl
        | 16, _, ho =>
          have e := Option.some.inj ho; subst e
          have p11 : x 11 = .bool false := hpre 11 (by kernel_rfl)
          have p15 : x 15 = .slice a bs.length cap := hpre 15 (by kernel_rfl)
          have hKK : ∀ (vv : Value) (w'' : World), Kept w1 w'' → (vv = Str bs) → K _ w'' := fun v w'' h1 h2 => hK v w'' h1 h2
          clear hK hpre
          simp only [putAll, dstOf, List.getElem?_toArray, List.getElem?_cons_zero, List.getElem?_cons_succ, Option.bind_some, Act.put, List.setIfInBounds_toArray, List.set_cons_zero, List.set_cons_succ] at hKK ⊢
          simp only [p11, p15] at hKK ⊢
          clear p11 p15
          refine (if_pos (by rfl)).mpr ?_
          have hcv := conv_bytes (P := Try.prog) w1 (src := 23) (dst := 9) Try.underlying23 Try.underlying5 Try.underlying9 (hs6.kept hw)
          go_wp2
          exact hKK _ _ (Below.refl _ _) rfl
        | 17, _, ho =>
          have e := Option.some.inj ho; subst e
          have p11 : x 11 = .bool false := hpre 11 (by kernel_rfl)
          have p14 : x 14 = Str bs := hpre 14 (by kernel_rfl)
          have p16 : x 16 = Str bs := hpre 16 (by kernel_rfl)
          have hKK : ∀ (vv : Value) (w'' : World), Kept w1 w'' → (vv = .bool true) → K _ w'' := fun v w'' h1 h2 => hK v w'' h1 h2
          clear hK hpre
          simp only [putAll, dstOf, List.getElem?_toArray, List.getElem?_cons_zero, List.getElem?_cons_succ, Option.bind_some, Act.put, List.setIfInBounds_toArray, List.set_cons_zero, List.set_cons_succ] at hKK ⊢
          simp only [p11, p14, p16] at hKK ⊢
          clear p11 p14 p16
          refine (if_pos (by rfl)).mpr ?_
          go_wp2
          exact hKK _ _ (Below.refl _ _) rfl
        | 18, _, ho =>
          have e := Option.some.inj ho; subst e
          have p8 : x 8 = .bool true := hpre 8 (by kernel_rfl)
          have p11 : x 11 = .bool false := hpre 11 (by kernel_rfl)
          have p17 : x 17 = .bool true := hpre 17 (by kernel_rfl)
          have hKK : ∀ (vv : Value) (w'' : World), Kept w1 w'' → (vv = .bool true) → K _ w'' := fun v w'' h1 h2 => hK v w'' h1 h2
          clear hK hpre
          simp only [putAll, dstOf, List.getElem?_toArray, List.getElem?_cons_zero, List.getElem?_cons_succ, Option.bind_some, Act.put, List.setIfInBounds_toArray, List.set_cons_zero, List.set_cons_succ] at hKK ⊢
          simp only [p8, p11, p17] at hKK ⊢
          clear p8 p11 p17
          refine (if_pos (by rfl)).mpr ?_
          go_wp2
          exact hKK _ _ (Below.refl _ _) rfl
        | 19, _, ho =>
          have e := Option.some.inj ho; subst e
          have p8 : x 8 = .bool true := hpre 8 (by kernel_rfl)
          have p18 : x 18 = .bool true := hpre 18 (by kernel_rfl)
          have hKK : ∀ (vv : Value) (w'' : World), Kept w1 w'' → (vv = .bool true) → K _ w'' := fun v w'' h1 h2 => hK v w'' h1 h2
          clear hK hpre
          simp only [putAll, dstOf, List.getElem?_toArray, List.getElem?_cons_zero, List.getElem?_cons_succ, Option.bind_some, Act.put, List.setIfInBounds_toArray, List.set_cons_zero, List.set_cons_succ] at hKK ⊢
          simp only [p8, p18] at hKK ⊢
          clear p8 p18
          refine (if_pos (by rfl)).mpr ?_
          go_wp2
          exact hKK _ _ (Below.refl _ _) rfl
        | 20, _, ho =>
          have e := Option.some.inj ho; subst e
          have p19 : x 19 = .bool true := hpre 19 (by kernel_rfl)
          have hKK : ∀ (vv : Value) (w'' : World), Kept w1 w'' → (vv = .bool true) → K _ w'' := fun v w'' h1 h2 => hK v w'' h1 h2
          clear hK hpre
          simp only [putAll, dstOf, List.getElem?_toArray, List.getElem?_cons_zero, List.getElem?_cons_succ, Option.bind_some, Act.put, List.setIfInBounds_toArray, List.set_cons_zero, List.set_cons_succ] at hKK ⊢
          simp only [p19] at hKK ⊢
          clear p19
          refine (if_pos (by rfl)).mpr ?_
          go_wp2
          exact hKK _ _ (Below.refl _ _) rfl
        | 21, _, ho =>
          have e := Option.some.inj ho; subst e
          have p20 : x 20 = .bool true := hpre 20 (by kernel_rfl)
          have hKK : ∀ (vv : Value) (w'' : World), Kept w1 w'' → (vv = .bool true) → K _ w'' := fun v w'' h1 h2 => hK v w'' h1 h2
          clear hK hpre
          simp only [putAll, dstOf, List.getElem?_toArray, List.getElem?_cons_zero, List.getElem?_cons_succ, Option.bind_some, Act.put, List.setIfInBounds_toArray, List.set_cons_zero, List.set_cons_succ] at hKK ⊢
          simp only [p20] at hKK ⊢
          clear p20
          refine (if_pos (by rfl)).mpr ?_
          go_wp2
          exact hKK _ _ (Below.refl _ _) rfl
        | 22, _, ho =>
          have e := Option.some.inj ho; subst e
          have p20 : x 20 = .bool true := hpre 20 (by kernel_rfl)
          have p21 : x 21 = .bool true := hpre 21 (by kernel_rfl)
          have hKK : ∀ (vv : Value) (w'' : World), Kept w1 w'' → (vv = .bool true) → K _ w'' := fun v w'' h1 h2 => hK v w'' h1 h2
          clear hK hpre
          simp only [putAll, dstOf, List.getElem?_toArray, List.getElem?_cons_zero, List.getElem?_cons_succ, Option.bind_some, Act.put, List.setIfInBounds_toArray, List.set_cons_zero, List.set_cons_succ] at hKK ⊢
          simp only [p20, p21] at hKK ⊢
          clear p20 p21
          refine (if_pos (by rfl)).mpr ?_
          go_wp2
          exact hKK _ _ (Below.refl _ _) rfl
        | 23, _, ho =>
          have e := Option.some.inj ho; subst e
          have p22 : x 22 = .bool true := hpre 22 (by kernel_rfl)
          have hKK : ∀ (vv : Value) (w'' : World), Kept w1 w'' → (vv = .bool true) → K _ w'' := fun v w'' h1 h2 => hK v w'' h1 h2
          clear hK hpre
          simp only [putAll, dstOf, List.getElem?_toArray, List.getElem?_cons_zero, List.getElem?_cons_succ, Option.bind_some, Act.put, List.setIfInBounds_toArray, List.set_cons_zero, List.set_cons_succ] at hKK ⊢
          simp only [p22] at hKK ⊢
          clear p22
          refine (if_pos (by rfl)).mpr ?_
          go_wp2
          exact hKK _ _ (Below.refl _ _) rfl
        | 24, _, ho =>
          have e := Option.some.inj ho; subst e
          have p23 : x 23 = .bool true := hpre 23 (by kernel_rfl)
          have hKK : ∀ (vv : Value) (w'' : World), Kept w1 w'' → (vv = Pr p) → K _ w'' := fun v w'' h1 h2 => hK v w'' h1 h2
          clear hK hpre
          simp only [putAll, dstOf, List.getElem?_toArray, List.getElem?_cons_zero, List.getElem?_cons_succ, Option.bind_some, Act.put, List.setIfInBounds_toArray, List.set_cons_zero, List.set_cons_succ] at hKK ⊢
          simp only [p23] at hKK ⊢
          clear p23
          refine (if_pos (by rfl)).mpr ?_
          have c := hZ6.kept hw; have c0 := c.cell 0; have c1 := c.cell 1; clear c
          go_wp2
          exact hKK _ _ (Below.refl _ _) rfl
        | 25, _, ho =>
          have e := Option.some.inj ho; subst e
          have p23 : x 23 = .bool true := hpre 23 (by kernel_rfl)
          have hKK : ∀ (vv : Value) (w'' : World), Kept w1 w'' → (vv = Pr p) → K _ w'' := fun v w'' h1 h2 => hK v w'' h1 h2
          clear hK hpre
          simp only [putAll, dstOf, List.getElem?_toArray, List.getElem?_cons_zero, List.getElem?_cons_succ, Option.bind_some, Act.put, List.setIfInBounds_toArray, List.set_cons_zero, List.set_cons_succ] at hKK ⊢
          simp only [p23] at hKK ⊢
          clear p23
          refine (if_pos (by rfl)).mpr ?_
          have c := hP6.kept hw; have c0 := c.cell 0; have c1 := c.cell 1; clear c
          go_wp2
          exact hKK _ _ (Below.refl _ _) rfl
        | 26, _, ho =>
          have e := Option.some.inj ho; subst e
          have p23 : x 23 = .bool true := hpre 23 (by kernel_rfl)
          have p24 : x 24 = Pr p := hpre 24 (by kernel_rfl)
          have p25 : x 25 = Pr p := hpre 25 (by kernel_rfl)
          have hKK : ∀ (vv : Value) (w'' : World), Kept w1 w'' → (vv = .bool true) → K _ w'' := fun v w'' h1 h2 => hK v w'' h1 h2
          clear hK hpre
          simp only [putAll, dstOf, List.getElem?_toArray, List.getElem?_cons_zero, List.getElem?_cons_succ, Option.bind_some, Act.put, List.setIfInBounds_toArray, List.set_cons_zero, List.set_cons_succ] at hKK ⊢
          simp only [p23, p24, p25] at hKK ⊢
          clear p23 p24 p25
          refine (if_pos (by rfl)).mpr ?_
          go_wp2
          exact hKK _ _ (Below.refl _ _) rfl
        | 27, _, ho =>
          have e := Option.some.inj ho; subst e
          have p23 : x 23 = .bool true := hpre 23 (by kernel_rfl)
          have p26 : x 26 = .bool true := hpre 26 (by kernel_rfl)
          have hKK : ∀ (vv : Value) (w'' : World), Kept w1 w'' → (vv = .bool true) → K _ w'' := fun v w'' h1 h2 => hK v w'' h1 h2
          clear hK hpre
          simp only [putAll, dstOf, List.getElem?_toArray, List.getElem?_cons_zero, List.getElem?_cons_succ, Option.bind_some, Act.put, List.setIfInBounds_toArray, List.set_cons_zero, List.set_cons_succ] at hKK ⊢
          simp only [p23, p26] at hKK ⊢
          clear p23 p26
          refine (if_pos (by rfl)).mpr ?_
          go_wp2
          exact hKK _ _ (Below.refl _ _) rfl
        | 28, _, ho =>
          have e := Option.some.inj ho; subst e
          have p27 : x 27 = .bool true := hpre 27 (by kernel_rfl)
          have hKK : ∀ (vv : Value) (w'' : World), Kept w1 w'' → (vv = .bool true) → K _ w'' := fun v w'' h1 h2 => hK v w'' h1 h2
          clear hK hpre
          simp only [putAll, dstOf, List.getElem?_toArray, List.getElem?_cons_zero, List.getElem?_cons_succ, Option.bind_some, Act.put, List.setIfInBounds_toArray, List.set_cons_zero, List.set_cons_succ] at hKK ⊢
          simp only [p27] at hKK ⊢
          clear p27
          refine (if_pos (by rfl)).mpr ?_
          go_wp2
          exact hKK _ _ (Below.refl _ _) rfl
        | 29, _, ho =>
          have e := Option.some.inj ho; subst e
          have p28 : x 28 = .bool true := hpre 28 (by kernel_rfl)
          have hKK : ∀ (vv : Value) (w'' : World), Kept w1 w'' → (vv = .bool true) → K _ w'' := fun v w'' h1 h2 => hK v w'' h1 h2
          clear hK hpre
          simp only [putAll, dstOf, List.getElem?_toArray, List.getElem?_cons_zero, List.getElem?_cons_succ, Option.bind_some, Act.put, List.setIfInBounds_toArray, List.set_cons_zero, List.set_cons_succ] at hKK ⊢
          simp only [p28] at hKK ⊢
          clear p28
          refine (if_pos (by rfl)).mpr ?_
          go_wp2_with fail
          refine (known_any _).mono ?_
          rintro e w2 ⟨rfl, hk2⟩
          go_wp2
          exact hKK _ _ hk2 rfl
        | 30, _, ho =>
          have e := Option.some.inj ho; subst e
          have p28 : x 28 = .bool true := hpre 28 (by kernel_rfl)
          have p29 : x 29 = .bool true := hpre 29 (by kernel_rfl)
          have hKK : ∀ (vv : Value) (w'' : World), Kept w1 w'' → (vv = .bool true) → K _ w'' := fun v w'' h1 h2 => hK v w'' h1 h2
          clear hK hpre
          simp only [putAll, dstOf, List.getElem?_toArray, List.getElem?_cons_zero, List.getElem?_cons_succ, Option.bind_some, Act.put, List.setIfInBounds_toArray, List.set_cons_zero, List.set_cons_succ] at hKK ⊢
          simp only [p28, p29] at hKK ⊢
          clear p28 p29
          refine (if_pos (by rfl)).mpr ?_
          go_wp2
          exact hKK _ _ (Below.refl _ _) rfl
        | i + 31, hi, _ => exact absurd hi (by omega)
      · intro x w1 hw hA
        have p0 : x 0 = Pr (pairG bs) := hA 0 (by omega)
        have p1 : x 1 = Pr (pairG bs) := hA 1 (by omega)
        have p2 : x 2 = .bool true := hA 2 (by omega)
        have p3 : x 3 = .bool true := hA 3 (by omega)
        have p4 : x 4 = .bool true := hA 4 (by omega)
        have p5 : x 5 = .bool true := hA 5 (by omega)
        have p6 : x 6 = .bool true := hA 6 (by omega)
        have p7 : x 7 = .bool true := hA 7 (by omega)
        have p8 : x 8 = .bool true := hA 8 (by omega)
        have p9 : x 9 = .bool true := hA 9 (by omega)
        have p10 : x 10 = .bool false := hA 10 (by omega)
        have p11 : x 11 = .bool false := hA 11 (by omega)
        have p12 : x 12 = Pr (pairG bs) := hA 12 (by omega)
        have p13 : Sl w1 (x 13) bs.length (bcells bs) := hA 13 (by omega)
        have p14 : x 14 = Str bs := hA 14 (by omega)
        have p15 : x 15 = .slice a bs.length cap := hA 15 (by omega)
        have p16 : x 16 = Str bs := hA 16 (by omega)
        have p17 : x 17 = .bool true := hA 17 (by omega)
        have p18 : x 18 = .bool true := hA 18 (by omega)
        have p19 : x 19 = .bool true := hA 19 (by omega)
        have p20 : x 20 = .bool true := hA 20 (by omega)
        have p21 : x 21 = .bool true := hA 21 (by omega)
        have p22 : x 22 = .bool true := hA 22 (by omega)
        have p23 : x 23 = .bool true := hA 23 (by omega)
        have p24 : x 24 = Pr p := hA 24 (by omega)
        have p25 : x 25 = Pr p := hA 25 (by omega)
        have p26 : x 26 = .bool true := hA 26 (by omega)
        have p27 : x 27 = .bool true := hA 27 (by omega)
        have p28 : x 28 = .bool true := hA 28 (by omega)
        have p29 : x 29 = .bool true := hA 29 (by omega)
        have p30 : x 30 = .bool true := hA 30 (by omega)
        clear hA
        simp only [List.drop_succ_cons, List.drop_zero, putAll, dstOf, List.getElem?_toArray, List.getElem?_cons_zero, List.getElem?_cons_succ, Option.bind_some, Act.put, List.setIfInBounds_toArray, List.set_cons_zero, List.set_cons_succ]
        simp only [p0, p1, p2, p3, p4, p5, p6, p7, p8, p9, p10, p11, p12, p14, p15, p16, p17, p18, p19, p20, p21, p22, p23, p24, p25, p26, p27, p28, p29, p30]
        clear p0 p1 p2 p3 p4 p5 p6 p7 p8 p9 p10 p11 p12 p14 p15 p16 p17 p18 p19 p20 p21 p22 p23 p24 p25 p26 p27 p28 p29 p30
        go_wp2
        go_ret
        exact ⟨rfl, g6.of hw⟩
    · have HH := Lib.hid h
      clear h
      go_enter Try.func6, Try.ntmps6
      go_wp2_with fail
      have hk0 : Kept w (w.alloc (.cells #[U p.1, U p.2] 33)) := (Below.refl _ _).alloc (Nat.le_refl _) _
      have hP0 := Blk.new w #[U p.1, U p.2] 33
      have hs0 := hs.kept hk0
      refine (pair_none _ bs _ hs0 HH.out).mono ?_
      rintro e w1 ⟨rfl, hk1⟩
      have hP1 := hP0.kept hk1
      have hs1 := hs0.kept hk1
      have g1 := hk0.of hk1
      clear hk0 hk1 hP0 hs0
      go_wp2_with fail
      have hk1 : Kept w1 (w1.alloc (.cells #[U 0#64, U 0#64] 33)) := (Below.refl _ _).alloc (Nat.le_refl _) _
      have hX1 := Blk.new w1 #[U 0#64, U 0#64] 33
      refine (rpair_none _ bs _ (hs1.kept hk1) HH.out).mono ?_
      rintro e w2 ⟨rfl, hk2⟩
      have hP2 := (hP1.kept hk1).kept hk2
      have hX2 := hX1.kept hk2
      have hs2 := (hs1.kept hk1).kept hk2
      have g2 := (g1.of hk1).of hk2
      clear hk1 hk2 hP1 hX1 hs1 g1
      have hk2 : Kept w2 (w2.alloc (.cells #[U 0#64, U 0#64] 33)) := (Below.refl _ _).alloc (Nat.le_refl _) _
      have hY2 := Blk.new w2 #[U 0#64, U 0#64] 33
      have hP2' := hP2.kept hk2
      have q0 := hP2'.cell 0
      have q1 := hP2'.cell 1
      go_wp2_with fail
      refine (bytes_any _ _ _).mono ?_
      rintro e w3 ⟨r, rfl, hown, hk3⟩
      have hP3 := hP2'.kept hk3
      have hX3 := (hX2.kept hk2).kept hk3
      have hY3 := hY2.kept hk3
      have hs3 := (hs2.kept hk2).kept hk3
      have g3 := (g2.of hk2).of hk3
      clear hk2 hk3 hP2 hP2' hX2 hY2 hs2 g2 q0 q1
      go_wp2_with fail
      refine (pair_some _ (pairB (p.1, p.2)) _ (by rw [pairB_length]; exact Sl.of_own hown) (pairB_length _)).mono ?_
      rintro e w4 ⟨rfl, hk4⟩
      rw [pairG_pairB]
      have hP4 := hP3.kept hk4
      have hX4 := hX3.kept hk4
      have hY4 := hY3.kept hk4
      have hs4 := hs3.kept hk4
      have g4 := g3.of hk4
      clear hk4 hP3 hX3 hY3 hs3 g3 hown
      go_wp2_with fail
      have hk4 : Kept w4 (w4.alloc (.cells #[U p.1, U p.2] 33)) := (Below.refl _ _).alloc (Nat.le_refl _) _
      have hZ6 := Blk.new w4 #[U p.1, U p.2] 33
      have hP6 := hP4.kept hk4
      have hX6 := hX4.kept hk4
      have hY6 := hY4.kept hk4
      have hs6 := hs4.kept hk4
      have g6 := g4.of hk4
      clear hP4 hX4 hY4 hs4 g4 hk4 hs
      refine wp_region_posts 31 (fun i (vv : Value) w' => match i with | 0 => vv = Pr ((0#64, 0#64)) | 1 => vv = Pr ((0#64, 0#64)) | 2 => vv = .bool true | 3 => vv = .bool true | 4 => vv = .bool false | 5 => vv = .bool false | 6 => vv = .bool true | 7 => vv = .bool true | 8 => vv = .bool true | 9 => vv = .bool false | 10 => vv = .bool true | 11 => vv = .bool true | 12 => vv = undef | 13 => vv = undef | 14 => vv = undef | 15 => vv = undef | 16 => vv = undef | 17 => vv = undef | 18 => vv = .bool true | 19 => vv = .bool true | 20 => vv = .bool true | 21 => vv = .bool true | 22 => vv = .bool true | 23 => vv = .bool true | 24 => vv = Pr p | 25 => vv = Pr p | 26 => vv = .bool true | 27 => vv = .bool true | 28 => vv = .bool true | 29 => vv = .bool true | 30 => vv = .bool true | _ => True) (by kernel_rfl) (by kernel_rfl) ?_ ?_ ?_
      · intro i v w1 w2 h hk
        match i, h with
        | 0, h => exact h
        | 1, h => exact h
        | 2, h => exact h
        | 3, h => exact h
        | 4, h => exact h
        | 5, h => exact h
        | 6, h => exact h
        | 7, h => exact h
        | 8, h => exact h
        | 9, h => exact h
        | 10, h => exact h
        | 11, h => exact h
        | 12, h => exact h
        | 13, h => exact h
        | 14, h => exact h
        | 15, h => exact h
        | 16, h => exact h
        | 17, h => exact h
        | 18, h => exact h
        | 19, h => exact h
        | 20, h => exact h
        | 21, h => exact h
        | 22, h => exact h
        | 23, h => exact h
        | 24, h => exact h
        | 25, h => exact h
        | 26, h => exact h
        | 27, h => exact h
        | 28, h => exact h
        | 29, h => exact h
        | 30, h => exact h
        | _ + 31, _ => trivial
      · intro i o hi ho x w1 hw hpre K hK
        match i, hi, ho with
        | 0, _, ho =>
          have e := Option.some.inj ho; subst e
          have hKK : ∀ (vv : Value) (w'' : World), Kept w1 w'' → (vv = Pr ((0#64, 0#64))) → K _ w'' := fun v w'' h1 h2 => hK v w'' h1 h2
          clear hK hpre
          simp only [putAll, dstOf, List.getElem?_toArray, List.getElem?_cons_zero, List.getElem?_cons_succ, Option.bind_some, Act.put, List.setIfInBounds_toArray, List.set_cons_zero, List.set_cons_succ] at hKK ⊢
          refine (if_pos (by rfl)).mpr ?_
          have c := hX6.kept hw; have c0 := c.cell 0; have c1 := c.cell 1; clear c
          go_wp2
          exact hKK _ _ (Below.refl _ _) rfl
        | 1, _, ho =>
          have e := Option.some.inj ho; subst e
          have hKK : ∀ (vv : Value) (w'' : World), Kept w1 w'' → (vv = Pr ((0#64, 0#64))) → K _ w'' := fun v w'' h1 h2 => hK v w'' h1 h2
          clear hK hpre
          simp only [putAll, dstOf, List.getElem?_toArray, List.getElem?_cons_zero, List.getElem?_cons_succ, Option.bind_some, Act.put, List.setIfInBounds_toArray, List.set_cons_zero, List.set_cons_succ] at hKK ⊢
          refine (if_pos (by rfl)).mpr ?_
          have c := hY6.kept hw; have c0 := c.cell 0; have c1 := c.cell 1; clear c
          go_wp2
          exact hKK _ _ (Below.refl _ _) rfl
        | 2, _, ho =>
          have e := Option.some.inj ho; subst e
          have p0 : x 0 = Pr ((0#64, 0#64)) := hpre 0 (by kernel_rfl)
          have p1 : x 1 = Pr ((0#64, 0#64)) := hpre 1 (by kernel_rfl)
          have hKK : ∀ (vv : Value) (w'' : World), Kept w1 w'' → (vv = .bool true) → K _ w'' := fun v w'' h1 h2 => hK v w'' h1 h2
          clear hK hpre
          simp only [putAll, dstOf, List.getElem?_toArray, List.getElem?_cons_zero, List.getElem?_cons_succ, Option.bind_some, Act.put, List.setIfInBounds_toArray, List.set_cons_zero, List.set_cons_succ] at hKK ⊢
          simp only [p0, p1] at hKK ⊢
          clear p0 p1
          refine (if_pos (by rfl)).mpr ?_
          go_wp2
          exact hKK _ _ (Below.refl _ _) rfl
        | 3, _, ho =>
          have e := Option.some.inj ho; subst e
          have p2 : x 2 = .bool true := hpre 2 (by kernel_rfl)
          have hKK : ∀ (vv : Value) (w'' : World), Kept w1 w'' → (vv = .bool true) → K _ w'' := fun v w'' h1 h2 => hK v w'' h1 h2
          clear hK hpre
          simp only [putAll, dstOf, List.getElem?_toArray, List.getElem?_cons_zero, List.getElem?_cons_succ, Option.bind_some, Act.put, List.setIfInBounds_toArray, List.set_cons_zero, List.set_cons_succ] at hKK ⊢
          simp only [p2] at hKK ⊢
          clear p2
          refine (if_pos (by rfl)).mpr ?_
          go_wp2
          exact hKK _ _ (Below.refl _ _) rfl
        | 4, _, ho =>
          have e := Option.some.inj ho; subst e
          have p3 : x 3 = .bool true := hpre 3 (by kernel_rfl)
          have hKK : ∀ (vv : Value) (w'' : World), Kept w1 w'' → (vv = .bool false) → K _ w'' := fun v w'' h1 h2 => hK v w'' h1 h2
          clear hK hpre
          simp only [putAll, dstOf, List.getElem?_toArray, List.getElem?_cons_zero, List.getElem?_cons_succ, Option.bind_some, Act.put, List.setIfInBounds_toArray, List.set_cons_zero, List.set_cons_succ] at hKK ⊢
          simp only [p3] at hKK ⊢
          clear p3
          refine (if_pos (by rfl)).mpr ?_
          go_wp2
          exact hKK _ _ (Below.refl _ _) rfl
        | 5, _, ho =>
          have e := Option.some.inj ho; subst e
          have p3 : x 3 = .bool true := hpre 3 (by kernel_rfl)
          have hKK : ∀ (vv : Value) (w'' : World), Kept w1 w'' → (vv = .bool false) → K _ w'' := fun v w'' h1 h2 => hK v w'' h1 h2
          clear hK hpre
          simp only [putAll, dstOf, List.getElem?_toArray, List.getElem?_cons_zero, List.getElem?_cons_succ, Option.bind_some, Act.put, List.setIfInBounds_toArray, List.set_cons_zero, List.set_cons_succ] at hKK ⊢
          simp only [p3] at hKK ⊢
          clear p3
          refine (if_pos (by rfl)).mpr ?_
          go_wp2
          exact hKK _ _ (Below.refl _ _) rfl
        | 6, _, ho =>
          have e := Option.some.inj ho; subst e
          have p3 : x 3 = .bool true := hpre 3 (by kernel_rfl)
          have p4 : x 4 = .bool false := hpre 4 (by kernel_rfl)
          have p5 : x 5 = .bool false := hpre 5 (by kernel_rfl)
          have hKK : ∀ (vv : Value) (w'' : World), Kept w1 w'' → (vv = .bool true) → K _ w'' := fun v w'' h1 h2 => hK v w'' h1 h2
          clear hK hpre
          simp only [putAll, dstOf, List.getElem?_toArray, List.getElem?_cons_zero, List.getElem?_cons_succ, Option.bind_some, Act.put, List.setIfInBounds_toArray, List.set_cons_zero, List.set_cons_succ] at hKK ⊢
          simp only [p3, p4, p5] at hKK ⊢
          clear p3 p4 p5
          refine (if_pos (by rfl)).mpr ?_
          go_wp2
          exact hKK _ _ (Below.refl _ _) rfl
        | 7, _, ho =>
          have e := Option.some.inj ho; subst e
          have p3 : x 3 = .bool true := hpre 3 (by kernel_rfl)
          have p6 : x 6 = .bool true := hpre 6 (by kernel_rfl)
          have hKK : ∀ (vv : Value) (w'' : World), Kept w1 w'' → (vv = .bool true) → K _ w'' := fun v w'' h1 h2 => hK v w'' h1 h2
          clear hK hpre
          simp only [putAll, dstOf, List.getElem?_toArray, List.getElem?_cons_zero, List.getElem?_cons_succ, Option.bind_some, Act.put, List.setIfInBounds_toArray, List.set_cons_zero, List.set_cons_succ] at hKK ⊢
          simp only [p3, p6] at hKK ⊢
          clear p3 p6
          refine (if_pos (by rfl)).mpr ?_
          go_wp2
          exact hKK _ _ (Below.refl _ _) rfl
        | 8, _, ho =>
          have e := Option.some.inj ho; subst e
          have p7 : x 7 = .bool true := hpre 7 (by kernel_rfl)
          have hKK : ∀ (vv : Value) (w'' : World), Kept w1 w'' → (vv = .bool true) → K _ w'' := fun v w'' h1 h2 => hK v w'' h1 h2
          clear hK hpre
          simp only [putAll, dstOf, List.getElem?_toArray, List.getElem?_cons_zero, List.getElem?_cons_succ, Option.bind_some, Act.put, List.setIfInBounds_toArray, List.set_cons_zero, List.set_cons_succ] at hKK ⊢
          simp only [p7] at hKK ⊢
          clear p7
          refine (if_pos (by rfl)).mpr ?_
          go_wp2
          exact hKK _ _ (Below.refl _ _) rfl
        | 9, _, ho =>
          have e := Option.some.inj ho; subst e
          have p8 : x 8 = .bool true := hpre 8 (by kernel_rfl)
          have hKK : ∀ (vv : Value) (w'' : World), Kept w1 w'' → (vv = .bool false) → K _ w'' := fun v w'' h1 h2 => hK v w'' h1 h2
          clear hK hpre
          simp only [putAll, dstOf, List.getElem?_toArray, List.getElem?_cons_zero, List.getElem?_cons_succ, Option.bind_some, Act.put, List.setIfInBounds_toArray, List.set_cons_zero, List.set_cons_succ] at hKK ⊢
          simp only [p8] at hKK ⊢
          clear p8
          refine (if_pos (by rfl)).mpr ?_
          go_wp2
          exact hKK _ _ (Below.refl _ _) rfl
        | 10, _, ho =>
          have e := Option.some.inj ho; subst e
          have p8 : x 8 = .bool true := hpre 8 (by kernel_rfl)
          have p9 : x 9 = .bool false := hpre 9 (by kernel_rfl)
          have hKK : ∀ (vv : Value) (w'' : World), Kept w1 w'' → (vv = .bool true) → K _ w'' := fun v w'' h1 h2 => hK v w'' h1 h2
          clear hK hpre
          simp only [putAll, dstOf, List.getElem?_toArray, List.getElem?_cons_zero, List.getElem?_cons_succ, Option.bind_some, Act.put, List.setIfInBounds_toArray, List.set_cons_zero, List.set_cons_succ] at hKK ⊢
          simp only [p8, p9] at hKK ⊢
          clear p8 p9
          refine (if_pos (by rfl)).mpr ?_
          go_wp2
          exact hKK _ _ (Below.refl _ _) rfl
        | 11, _, ho =>
          have e := Option.some.inj ho; subst e
          have p8 : x 8 = .bool true := hpre 8 (by kernel_rfl)
          have p10 : x 10 = .bool true := hpre 10 (by kernel_rfl)
          have hKK : ∀ (vv : Value) (w'' : World), Kept w1 w'' → (vv = .bool true) → K _ w'' := fun v w'' h1 h2 => hK v w'' h1 h2
          clear hK hpre
          simp only [putAll, dstOf, List.getElem?_toArray, List.getElem?_cons_zero, List.getElem?_cons_succ, Option.bind_some, Act.put, List.setIfInBounds_toArray, List.set_cons_zero, List.set_cons_succ] at hKK ⊢
          simp only [p8, p10] at hKK ⊢
          clear p8 p10
          refine (if_pos (by rfl)).mpr ?_
          go_wp2
          exact hKK _ _ (Below.refl _ _) rfl
        | 12, _, ho =>
          have e := Option.some.inj ho; subst e
          have p11 : x 11 = .bool true := hpre 11 (by kernel_rfl)
          have hKK : ∀ (vv : Value) (w'' : World), Kept w1 w'' → (vv = undef) → K _ w'' := fun v w'' h1 h2 => hK v w'' h1 h2
          clear hK hpre
          simp only [putAll, dstOf, List.getElem?_toArray, List.getElem?_cons_zero, List.getElem?_cons_succ, Option.bind_some, Act.put, List.setIfInBounds_toArray, List.set_cons_zero, List.set_cons_succ] at hKK ⊢
          simp only [p11] at hKK ⊢
          clear p11
          refine (if_neg (by rw [Bool.not_eq_true]; rfl)).mpr ?_
          exact hKK _ _ (Below.refl _ _) rfl
        | 13, _, ho =>
          have e := Option.some.inj ho; subst e
          have p11 : x 11 = .bool true := hpre 11 (by kernel_rfl)
          have hKK : ∀ (vv : Value) (w'' : World), Kept w1 w'' → (vv = undef) → K _ w'' := fun v w'' h1 h2 => hK v w'' h1 h2
          clear hK hpre
          simp only [putAll, dstOf, List.getElem?_toArray, List.getElem?_cons_zero, List.getElem?_cons_succ, Option.bind_some, Act.put, List.setIfInBounds_toArray, List.set_cons_zero, List.set_cons_succ] at hKK ⊢
          simp only [p11] at hKK ⊢
          clear p11
          refine (if_neg (by rw [Bool.not_eq_true]; rfl)).mpr ?_
          exact hKK _ _ (Below.refl _ _) rfl
        | 14, _, ho =>
          have e := Option.some.inj ho; subst e
          have p11 : x 11 = .bool true := hpre 11 (by kernel_rfl)
          have hKK : ∀ (vv : Value) (w'' : World), Kept w1 w'' → (vv = undef) → K _ w'' := fun v w'' h1 h2 => hK v w'' h1 h2
          clear hK hpre
          simp only [putAll, dstOf, List.getElem?_toArray, List.getElem?_cons_zero, List.getElem?_cons_succ, Option.bind_some, Act.put, List.setIfInBounds_toArray, List.set_cons_zero, List.set_cons_succ] at hKK ⊢
          simp only [p11] at hKK ⊢
          clear p11
          refine (if_neg (by rw [Bool.not_eq_true]; rfl)).mpr ?_
          exact hKK _ _ (Below.refl _ _) rfl
        | 15, _, ho =>
          have e := Option.some.inj ho; subst e
          have p11 : x 11 = .bool true := hpre 11 (by kernel_rfl)
          have hKK : ∀ (vv : Value) (w'' : World), Kept w1 w'' → (vv = undef) → K _ w'' := fun v w'' h1 h2 => hK v w'' h1 h2
          clear hK hpre
          simp only [putAll, dstOf, List.getElem?_toArray, List.getElem?_cons_zero, List.getElem?_cons_succ, Option.bind_some, Act.put, List.setIfInBounds_toArray, List.set_cons_zero, List.set_cons_succ] at hKK ⊢
          simp only [p11] at hKK ⊢
          clear p11
          refine (if_neg (by rw [Bool.not_eq_true]; rfl)).mpr ?_
          exact hKK _ _ (Below.refl _ _) rfl
        | 16, _, ho =>
          have e := Option.some.inj ho; subst e
          have p11 : x 11 = .bool true := hpre 11 (by kernel_rfl)
          have hKK : ∀ (vv : Value) (w'' : World), Kept w1 w'' → (vv = undef) → K _ w'' := fun v w'' h1 h2 => hK v w'' h1 h2
          clear hK hpre
          simp only [putAll, dstOf, List.getElem?_toArray, List.getElem?_cons_zero, List.getElem?_cons_succ, Option.bind_some, Act.put, List.setIfInBounds_toArray, List.set_cons_zero, List.set_cons_succ] at hKK ⊢
          simp only [p11] at hKK ⊢
          clear p11
          refine (if_neg (by rw [Bool.not_eq_true]; rfl)).mpr ?_
          exact hKK _ _ (Below.refl _ _) rfl
        | 17, _, ho =>
          have e := Option.some.inj ho; subst e
          have p11 : x 11 = .bool true := hpre 11 (by kernel_rfl)
          have hKK : ∀ (vv : Value) (w'' : World), Kept w1 w'' → (vv = undef) → K _ w'' := fun v w'' h1 h2 => hK v w'' h1 h2
          clear hK hpre
          simp only [putAll, dstOf, List.getElem?_toArray, List.getElem?_cons_zero, List.getElem?_cons_succ, Option.bind_some, Act.put, List.setIfInBounds_toArray, List.set_cons_zero, List.set_cons_succ] at hKK ⊢
          simp only [p11] at hKK ⊢
          clear p11
          refine (if_neg (by rw [Bool.not_eq_true]; rfl)).mpr ?_
          exact hKK _ _ (Below.refl _ _) rfl
        | 18, _, ho =>
          have e := Option.some.inj ho; subst e
          have p8 : x 8 = .bool true := hpre 8 (by kernel_rfl)
          have p11 : x 11 = .bool true := hpre 11 (by kernel_rfl)
          have p17 : x 17 = undef := hpre 17 (by kernel_rfl)
          have hKK : ∀ (vv : Value) (w'' : World), Kept w1 w'' → (vv = .bool true) → K _ w'' := fun v w'' h1 h2 => hK v w'' h1 h2
          clear hK hpre
          simp only [putAll, dstOf, List.getElem?_toArray, List.getElem?_cons_zero, List.getElem?_cons_succ, Option.bind_some, Act.put, List.setIfInBounds_toArray, List.set_cons_zero, List.set_cons_succ] at hKK ⊢
          simp only [p8, p11, p17] at hKK ⊢
          clear p8 p11 p17
          refine (if_pos (by rfl)).mpr ?_
          go_wp2
          exact hKK _ _ (Below.refl _ _) rfl
        | 19, _, ho =>
          have e := Option.some.inj ho; subst e
          have p8 : x 8 = .bool true := hpre 8 (by kernel_rfl)
          have p18 : x 18 = .bool true := hpre 18 (by kernel_rfl)
          have hKK : ∀ (vv : Value) (w'' : World), Kept w1 w'' → (vv = .bool true) → K _ w'' := fun v w'' h1 h2 => hK v w'' h1 h2
          clear hK hpre
          simp only [putAll, dstOf, List.getElem?_toArray, List.getElem?_cons_zero, List.getElem?_cons_succ, Option.bind_some, Act.put, List.setIfInBounds_toArray, List.set_cons_zero, List.set_cons_succ] at hKK ⊢
          simp only [p8, p18] at hKK ⊢
          clear p8 p18
          refine (if_pos (by rfl)).mpr ?_
          go_wp2
          exact hKK _ _ (Below.refl _ _) rfl
        | 20, _, ho =>
          have e := Option.some.inj ho; subst e
          have p19 : x 19 = .bool true := hpre 19 (by kernel_rfl)
          have hKK : ∀ (vv : Value) (w'' : World), Kept w1 w'' → (vv = .bool true) → K _ w'' := fun v w'' h1 h2 => hK v w'' h1 h2
          clear hK hpre
          simp only [putAll, dstOf, List.getElem?_toArray, List.getElem?_cons_zero, List.getElem?_cons_succ, Option.bind_some, Act.put, List.setIfInBounds_toArray, List.set_cons_zero, List.set_cons_succ] at hKK ⊢
          simp only [p19] at hKK ⊢
          clear p19
          refine (if_pos (by rfl)).mpr ?_
          go_wp2
          exact hKK _ _ (Below.refl _ _) rfl
        | 21, _, ho =>
          have e := Option.some.inj ho; subst e
          have p20 : x 20 = .bool true := hpre 20 (by kernel_rfl)
          have hKK : ∀ (vv : Value) (w'' : World), Kept w1 w'' → (vv = .bool true) → K _ w'' := fun v w'' h1 h2 => hK v w'' h1 h2
          clear hK hpre
          simp only [putAll, dstOf, List.getElem?_toArray, List.getElem?_cons_zero, List.getElem?_cons_succ, Option.bind_some, Act.put, List.setIfInBounds_toArray, List.set_cons_zero, List.set_cons_succ] at hKK ⊢
          simp only [p20] at hKK ⊢
          clear p20
          refine (if_pos (by rfl)).mpr ?_
          go_wp2
          exact hKK _ _ (Below.refl _ _) rfl
        | 22, _, ho =>
          have e := Option.some.inj ho; subst e
          have p20 : x 20 = .bool true := hpre 20 (by kernel_rfl)
          have p21 : x 21 = .bool true := hpre 21 (by kernel_rfl)
          have hKK : ∀ (vv : Value) (w'' : World), Kept w1 w'' → (vv = .bool true) → K _ w'' := fun v w'' h1 h2 => hK v w'' h1 h2
          clear hK hpre
          simp only [putAll, dstOf, List.getElem?_toArray, List.getElem?_cons_zero, List.getElem?_cons_succ, Option.bind_some, Act.put, List.setIfInBounds_toArray, List.set_cons_zero, List.set_cons_succ] at hKK ⊢
          simp only [p20, p21] at hKK ⊢
          clear p20 p21
          refine (if_pos (by rfl)).mpr ?_
          go_wp2
          exact hKK _ _ (Below.refl _ _) rfl
        | 23, _, ho =>
          have e := Option.some.inj ho; subst e
          have p22 : x 22 = .bool true := hpre 22 (by kernel_rfl)
          have hKK : ∀ (vv : Value) (w'' : World), Kept w1 w'' → (vv = .bool true) → K _ w'' := fun v w'' h1 h2 => hK v w'' h1 h2
          clear hK hpre
          simp only [putAll, dstOf, List.getElem?_toArray, List.getElem?_cons_zero, List.getElem?_cons_succ, Option.bind_some, Act.put, List.setIfInBounds_toArray, List.set_cons_zero, List.set_cons_succ] at hKK ⊢
          simp only [p22] at hKK ⊢
          clear p22
          refine (if_pos (by rfl)).mpr ?_
          go_wp2
          exact hKK _ _ (Below.refl _ _) rfl
        | 24, _, ho =>
          have e := Option.some.inj ho; subst e
          have p23 : x 23 = .bool true := hpre 23 (by kernel_rfl)
          have hKK : ∀ (vv : Value) (w'' : World), Kept w1 w'' → (vv = Pr p) → K _ w'' := fun v w'' h1 h2 => hK v w'' h1 h2
          clear hK hpre
          simp only [putAll, dstOf, List.getElem?_toArray, List.getElem?_cons_zero, List.getElem?_cons_succ, Option.bind_some, Act.put, List.setIfInBounds_toArray, List.set_cons_zero, List.set_cons_succ] at hKK ⊢
          simp only [p23] at hKK ⊢
          clear p23
          refine (if_pos (by rfl)).mpr ?_
          have c := hZ6.kept hw; have c0 := c.cell 0; have c1 := c.cell 1; clear c
          go_wp2
          exact hKK _ _ (Below.refl _ _) rfl
        | 25, _, ho =>
          have e := Option.some.inj ho; subst e
          have p23 : x 23 = .bool true := hpre 23 (by kernel_rfl)
          have hKK : ∀ (vv : Value) (w'' : World), Kept w1 w'' → (vv = Pr p) → K _ w'' := fun v w'' h1 h2 => hK v w'' h1 h2
          clear hK hpre
          simp only [putAll, dstOf, List.getElem?_toArray, List.getElem?_cons_zero, List.getElem?_cons_succ, Option.bind_some, Act.put, List.setIfInBounds_toArray, List.set_cons_zero, List.set_cons_succ] at hKK ⊢
          simp only [p23] at hKK ⊢
          clear p23
          refine (if_pos (by rfl)).mpr ?_
          have c := hP6.kept hw; have c0 := c.cell 0; have c1 := c.cell 1; clear c
          go_wp2
          exact hKK _ _ (Below.refl _ _) rfl
        | 26, _, ho =>
          have e := Option.some.inj ho; subst e
          have p23 : x 23 = .bool true := hpre 23 (by kernel_rfl)
          have p24 : x 24 = Pr p := hpre 24 (by kernel_rfl)
          have p25 : x 25 = Pr p := hpre 25 (by kernel_rfl)
          have hKK : ∀ (vv : Value) (w'' : World), Kept w1 w'' → (vv = .bool true) → K _ w'' := fun v w'' h1 h2 => hK v w'' h1 h2
          clear hK hpre
          simp only [putAll, dstOf, List.getElem?_toArray, List.getElem?_cons_zero, List.getElem?_cons_succ, Option.bind_some, Act.put, List.setIfInBounds_toArray, List.set_cons_zero, List.set_cons_succ] at hKK ⊢
          simp only [p23, p24, p25] at hKK ⊢
          clear p23 p24 p25
          refine (if_pos (by rfl)).mpr ?_
          go_wp2
          exact hKK _ _ (Below.refl _ _) rfl
        | 27, _, ho =>
          have e := Option.some.inj ho; subst e
          have p23 : x 23 = .bool true := hpre 23 (by kernel_rfl)
          have p26 : x 26 = .bool true := hpre 26 (by kernel_rfl)
          have hKK : ∀ (vv : Value) (w'' : World), Kept w1 w'' → (vv = .bool true) → K _ w'' := fun v w'' h1 h2 => hK v w'' h1 h2
          clear hK hpre
          simp only [putAll, dstOf, List.getElem?_toArray, List.getElem?_cons_zero, List.getElem?_cons_succ, Option.bind_some, Act.put, List.setIfInBounds_toArray, List.set_cons_zero, List.set_cons_succ] at hKK ⊢
          simp only [p23, p26] at hKK ⊢
          clear p23 p26
          refine (if_pos (by rfl)).mpr ?_
          go_wp2
          exact hKK _ _ (Below.refl _ _) rfl
        | 28, _, ho =>
          have e := Option.some.inj ho; subst e
          have p27 : x 27 = .bool true := hpre 27 (by kernel_rfl)
          have hKK : ∀ (vv : Value) (w'' : World), Kept w1 w'' → (vv = .bool true) → K _ w'' := fun v w'' h1 h2 => hK v w'' h1 h2
          clear hK hpre
          simp only [putAll, dstOf, List.getElem?_toArray, List.getElem?_cons_zero, List.getElem?_cons_succ, Option.bind_some, Act.put, List.setIfInBounds_toArray, List.set_cons_zero, List.set_cons_succ] at hKK ⊢
          simp only [p27] at hKK ⊢
          clear p27
          refine (if_pos (by rfl)).mpr ?_
          go_wp2
          exact hKK _ _ (Below.refl _ _) rfl
        | 29, _, ho =>
          have e := Option.some.inj ho; subst e
          have p28 : x 28 = .bool true := hpre 28 (by kernel_rfl)
          have hKK : ∀ (vv : Value) (w'' : World), Kept w1 w'' → (vv = .bool true) → K _ w'' := fun v w'' h1 h2 => hK v w'' h1 h2
          clear hK hpre
          simp only [putAll, dstOf, List.getElem?_toArray, List.getElem?_cons_zero, List.getElem?_cons_succ, Option.bind_some, Act.put, List.setIfInBounds_toArray, List.set_cons_zero, List.set_cons_succ] at hKK ⊢
          simp only [p28] at hKK ⊢
          clear p28
          refine (if_pos (by rfl)).mpr ?_
          go_wp2_with fail
          refine (known_any _).mono ?_
          rintro e w2 ⟨rfl, hk2⟩
          go_wp2
          exact hKK _ _ hk2 rfl
        | 30, _, ho =>
          have e := Option.some.inj ho; subst e
          have p28 : x 28 = .bool true := hpre 28 (by kernel_rfl)
          have p29 : x 29 = .bool true := hpre 29 (by kernel_rfl)
          have hKK : ∀ (vv : Value) (w'' : World), Kept w1 w'' → (vv = .bool true) → K _ w'' := fun v w'' h1 h2 => hK v w'' h1 h2
          clear hK hpre
          simp only [putAll, dstOf, List.getElem?_toArray, List.getElem?_cons_zero, List.getElem?_cons_succ, Option.bind_some, Act.put, List.setIfInBounds_toArray, List.set_cons_zero, List.set_cons_succ] at hKK ⊢
          simp only [p28, p29] at hKK ⊢
          clear p28 p29
          refine (if_pos (by rfl)).mpr ?_
          go_wp2
          exact hKK _ _ (Below.refl _ _) rfl
        | i + 31, hi, _ => exact absurd hi (by omega)
      · intro x w1 hw hA
        have p0 : x 0 = Pr ((0#64, 0#64)) := hA 0 (by omega)
        have p1 : x 1 = Pr ((0#64, 0#64)) := hA 1 (by omega)
        have p2 : x 2 = .bool true := hA 2 (by omega)
        have p3 : x 3 = .bool true := hA 3 (by omega)
        have p4 : x 4 = .bool false := hA 4 (by omega)
        have p5 : x 5 = .bool false := hA 5 (by omega)
        have p6 : x 6 = .bool true := hA 6 (by omega)
        have p7 : x 7 = .bool true := hA 7 (by omega)
        have p8 : x 8 = .bool true := hA 8 (by omega)
        have p9 : x 9 = .bool false := hA 9 (by omega)
        have p10 : x 10 = .bool true := hA 10 (by omega)
        have p11 : x 11 = .bool true := hA 11 (by omega)
        have p12 : x 12 = undef := hA 12 (by omega)
        have p13 : x 13 = undef := hA 13 (by omega)
        have p14 : x 14 = undef := hA 14 (by omega)
        have p15 : x 15 = undef := hA 15 (by omega)
        have p16 : x 16 = undef := hA 16 (by omega)
        have p17 : x 17 = undef := hA 17 (by omega)
        have p18 : x 18 = .bool true := hA 18 (by omega)
        have p19 : x 19 = .bool true := hA 19 (by omega)
        have p20 : x 20 = .bool true := hA 20 (by omega)
        have p21 : x 21 = .bool true := hA 21 (by omega)
        have p22 : x 22 = .bool true := hA 22 (by omega)
        have p23 : x 23 = .bool true := hA 23 (by omega)
        have p24 : x 24 = Pr p := hA 24 (by omega)
        have p25 : x 25 = Pr p := hA 25 (by omega)
        have p26 : x 26 = .bool true := hA 26 (by omega)
        have p27 : x 27 = .bool true := hA 27 (by omega)
        have p28 : x 28 = .bool true := hA 28 (by omega)
        have p29 : x 29 = .bool true := hA 29 (by omega)
        have p30 : x 30 = .bool true := hA 30 (by omega)
        clear hA
        simp only [List.drop_succ_cons, List.drop_zero, putAll, dstOf, List.getElem?_toArray, List.getElem?_cons_zero, List.getElem?_cons_succ, Option.bind_some, Act.put, List.setIfInBounds_toArray, List.set_cons_zero, List.set_cons_succ]
        simp only [p0, p1, p2, p3, p4, p5, p6, p7, p8, p9, p10, p11, p12, p13, p14, p15, p16, p17, p18, p19, p20, p21, p22, p23, p24, p25, p26, p27, p28, p29, p30]
        clear p0 p1 p2 p3 p4 p5 p6 p7 p8 p9 p10 p11 p12 p13 p14 p15 p16 p17 p18 p19 p20 p21 p22 p23 p24 p25 p26 p27 p28 p29 p30
        go_wp2
        go_ret
        exact ⟨rfl, g6.of hw⟩


namespace wirePairsRow
open Go.ChangeShapes Go.WideShapes Go.ChangeAt Go.RowKit
theorem own : ownKnob Try.prog.godebug = none := by kernel_rfl
theorem laidOut : laidOutB Try.prog = true := by kernel_rfl

set_option maxRecDepth 100000 in
theorem lifted (os : Os) (started : os.Started) (H : Type) (enc : TypeId × Value → H) :
    ReturnsInHanded {} Try.checked os 6 .any (Rows.wirePairsSpec.pre6 enc Try.prog Try.f6 Rows.wirePairsRow.domain false) (Rows.wirePairsSpec.post enc Try.prog Try.f6 false true false false) := by
  refine returnsInHanded_of_change (C := Try.checked) own started (by kernel_rfl) Try.func6
    (ChangeSpec.witness6 (enc := enc) (C := Try.checked) false ⟨#[], #[.slice none 0 0, .agg #[.int .u64 0, .int .u64 0]], []⟩ 8 (by kernel_rfl) (by kernel_rfl) (by kernel_rfl) (by kernel_rfl)) ?_
  intro W base args ds gs before hval0 hW _ hsz
  have hval : ∀ (j : Nat) t v, Try.f6.params[j]? = some t → args[j]? = some v → Value.okWide Try.prog W .any base t v := hval0
  have hW' := hW
  obtain ⟨p, q, hA0, hV, rfl, hfz, hnd⟩ := hW
  have hA : DataW.TrodAll enc Try.prog W 0 (fun _ => true) true Try.f6.params.toList args.toList ds p := hA0
  rw [Try.params6] at hA hval
  obtain ⟨v0, vs0, d0, ds0, p0, q0, hargs, rfl, rfl, h0, r0⟩ := trodAll_cons hA
  obtain ⟨v1, vs1, d1, ds1, p1, q1, rfl, rfl, rfl, h1, r1⟩ := trodAll_cons r0
  obtain ⟨rfl, rfl, rfl⟩ := trodAll_nil r1
  obtain rfl : args = #[v0, v1] := by cases args; simp_all
  obtain ⟨a0b, a0⟩ := open_bytes (e := 5) Try.underlying23 Try.underlying5 (by kernel_rfl) (hval 0 23 v0 rfl rfl) h0
  obtain ⟨a1, rfl⟩ := open_pair (e := 22) Try.underlying33 Try.underlying22 (by kernel_rfl) (by kernel_rfl) (hval 1 33 v1 rfl rfl) h1
  refine (pairs_walk _ _ a1 W a0).mono fun e W' ⟨he, bel⟩ => ?_
  subst he
  exact ⟨_, rfl, law_post (tb := 4) laidOut (by kernel_rfl) Try.underlying4 (by rfl) rfl (by intro xs hxs; match xs, hxs with | [x0, x1], _ => rfl) hW' bel⟩

theorem over : Rows.wirePairsRow.holds Try.pinned (OpenSpec.ofChange Rows.wirePairsSpec) :=
  OpenClaim.holds_of_wide 6 Try.f6 rfl rfl rfl rfl rfl rfl rfl ⟨rfl, rfl, rfl, rfl, rfl⟩ rfl rfl rfl rfl rfl (by kernel_rfl) Try.func6 (by kernel_rfl)
    (of_decide_eq_true (by kernel_rfl)) (by unfold Func.isWrapper; rw [if_neg (of_decide_eq_false (by kernel_rfl))]; exact ⟨rfl, rfl⟩)
    (fun os started H enc _ => lifted os started H enc)
end wirePairsRow

theorem wirePairs_holds : Rows.WirePairsSaid := wirePairsRow.over
#print axioms wirePairs_holds

end Go.Proofs.Ytmdggbniicobdaa
