/- WireGets: any bytes are the number that the reference has them be, or none; a number put back gives the bytes. -/
import Derived.Test.YtmdggbniicobdaaWireK
import Derived.Test.YtmdggbniicobdaaWireP
import Derived.Test.YtmdggbniicobdaaPosts
import Derived.Test.YtmdggbniicobdaaRows
namespace Go.Proofs.Ytmdggbniicobdaa
open Go Go.RowKit

set_option maxRecDepth 100000 in
set_option maxHeartbeats 2000000 in
theorem gets_walk (bv : Value) (bs : List UInt8) (w : World) (hs : Sl w bv bs.length (bcells bs)) : Calls Try.prog 4 #[bv] w fun e w' => e = .returned (.bool true) ∧ Kept w w' := by
  have hle := hs.le
  unfold maxLen at hle
  by_cases h50 : 50 < bs.length
  · have i50 : (50 : Int) < (bs.length : Int) := by omega
    obtain ⟨a, cap, rfl⟩ := hs.len
    clear hs
    go_enter Try.func4, Try.ntmps4
    go_wp2
    go_ret
    exact ⟨rfl, Below.refl _ _⟩
  · have i50 : (bs.length : Int) ≤ 50 := by omega
    obtain ⟨a, cap, rfl⟩ := hs.len
    by_cases h : bs.length < 1 ∨ 8 < bs.length
    · go_enter Try.func4, Try.ntmps4
      go_wp2_with fail
      refine (get_none _ bs _ hs h).mono ?_
      rintro e w1 ⟨rfl, rfl⟩
      go_wp2_with fail
      refine (rget_none _ bs _ hs h).mono ?_
      rintro e w1 ⟨rfl, rfl⟩
      go_wp2_with fail
      refine wp_region_posts 25 (fun i (vv : Value) w' => match i with | 0 => vv = U 0#64 | 1 => vv = U 0#64 | 2 => vv = .bool true | 3 => vv = .bool true | 4 => vv = .bool false | 5 => vv = .bool false | 6 => vv = .bool true | 7 => vv = .bool true | 8 => vv = .bool true | 9 => vv = .bool false | 10 => vv = .bool true | 11 => vv = .bool true | 12 => vv = undef | 13 => vv = undef | 14 => vv = undef | 15 => vv = undef | 16 => vv = undef | 17 => vv = undef | 18 => vv = undef | 19 => vv = undef | 20 => vv = .bool true | 21 => vv = .bool true | 22 => vv = .bool true | 23 => vv = .bool true | 24 => vv = .bool true | _ => True) (by kernel_rfl) (by kernel_rfl) ?_ ?_ ?_
      · intro i v w1 w2 h hk
        match i, h with
        | 0, h => exact h
        | 1, h => exact h
        | 2, h => exact h
        | 3, h => exact h
        | 4, h => exact h
        | 5, h => exact h
        | 6, h => exact h
        | 7, h => exact h
        | 8, h => exact h
        | 9, h => exact h
        | 10, h => exact h
        | 11, h => exact h
        | 12, h => exact h
        | 13, h => exact h
        | 14, h => exact h
        | 15, h => exact h
        | 16, h => exact h
        | 17, h => exact h
        | 18, h => exact h
        | 19, h => exact h
        | 20, h => exact h
        | 21, h => exact h
        | 22, h => exact h
        | 23, h => exact h
        | 24, h => exact h
        | _ + 25, _ => trivial
      · intro i o hi ho x w1 hw hpre K hK
        match i, hi, ho with
        | 0, _, ho =>
          have e := Option.some.inj ho; subst e
          have hKK : ∀ (vv : Value) (w'' : World), Kept w1 w'' → (vv = U 0#64) → K _ w'' := fun v w'' h1 h2 => hK v w'' h1 h2
          clear hK hpre
          simp only [putAll, dstOf, List.getElem?_toArray, List.getElem?_cons_zero, List.getElem?_cons_succ, Option.bind_some, Act.put, List.setIfInBounds_toArray, List.set_cons_zero, List.set_cons_succ] at hKK ⊢
          refine (if_pos (by rfl)).mpr ?_
          go_wp2
          exact hKK _ _ (Below.refl _ _) rfl
        | 1, _, ho =>
          have e := Option.some.inj ho; subst e
          have hKK : ∀ (vv : Value) (w'' : World), Kept w1 w'' → (vv = U 0#64) → K _ w'' := fun v w'' h1 h2 => hK v w'' h1 h2
          clear hK hpre
          simp only [putAll, dstOf, List.getElem?_toArray, List.getElem?_cons_zero, List.getElem?_cons_succ, Option.bind_some, Act.put, List.setIfInBounds_toArray, List.set_cons_zero, List.set_cons_succ] at hKK ⊢
          refine (if_pos (by rfl)).mpr ?_
          go_wp2
          exact hKK _ _ (Below.refl _ _) rfl
        | 2, _, ho =>
          have e := Option.some.inj ho; subst e
          have p0 : x 0 = U 0#64 := hpre 0 (by kernel_rfl)
          have p1 : x 1 = U 0#64 := hpre 1 (by kernel_rfl)
          have hKK : ∀ (vv : Value) (w'' : World), Kept w1 w'' → (vv = .bool true) → K _ w'' := fun v w'' h1 h2 => hK v w'' h1 h2
          clear hK hpre
          simp only [putAll, dstOf, List.getElem?_toArray, List.getElem?_cons_zero, List.getElem?_cons_succ, Option.bind_some, Act.put, List.setIfInBounds_toArray, List.set_cons_zero, List.set_cons_succ] at hKK ⊢
          simp only [p0, p1] at hKK ⊢
          clear p0 p1
          refine (if_pos (by rfl)).mpr ?_
          go_wp2
          exact hKK _ _ (Below.refl _ _) rfl
        | 3, _, ho =>
          have e := Option.some.inj ho; subst e
          have p2 : x 2 = .bool true := hpre 2 (by kernel_rfl)
          have hKK : ∀ (vv : Value) (w'' : World), Kept w1 w'' → (vv = .bool true) → K _ w'' := fun v w'' h1 h2 => hK v w'' h1 h2
          clear hK hpre
          simp only [putAll, dstOf, List.getElem?_toArray, List.getElem?_cons_zero, List.getElem?_cons_succ, Option.bind_some, Act.put, List.setIfInBounds_toArray, List.set_cons_zero, List.set_cons_succ] at hKK ⊢
          simp only [p2] at hKK ⊢
          clear p2
          refine (if_pos (by rfl)).mpr ?_
          go_wp2
          exact hKK _ _ (Below.refl _ _) rfl
        | 4, _, ho =>
          have e := Option.some.inj ho; subst e
          have p3 : x 3 = .bool true := hpre 3 (by kernel_rfl)
          have hKK : ∀ (vv : Value) (w'' : World), Kept w1 w'' → (vv = .bool false) → K _ w'' := fun v w'' h1 h2 => hK v w'' h1 h2
          clear hK hpre
          simp only [putAll, dstOf, List.getElem?_toArray, List.getElem?_cons_zero, List.getElem?_cons_succ, Option.bind_some, Act.put, List.setIfInBounds_toArray, List.set_cons_zero, List.set_cons_succ] at hKK ⊢
          simp only [p3] at hKK ⊢
          clear p3
          refine (if_pos (by rfl)).mpr ?_
          go_wp2
          exact hKK _ _ (Below.refl _ _) rfl
        | 5, _, ho =>
          have e := Option.some.inj ho; subst e
          have p3 : x 3 = .bool true := hpre 3 (by kernel_rfl)
          have hKK : ∀ (vv : Value) (w'' : World), Kept w1 w'' → (vv = .bool false) → K _ w'' := fun v w'' h1 h2 => hK v w'' h1 h2
          clear hK hpre
          simp only [putAll, dstOf, List.getElem?_toArray, List.getElem?_cons_zero, List.getElem?_cons_succ, Option.bind_some, Act.put, List.setIfInBounds_toArray, List.set_cons_zero, List.set_cons_succ] at hKK ⊢
          simp only [p3] at hKK ⊢
          clear p3
          refine (if_pos (by rfl)).mpr ?_
          go_wp2
          exact hKK _ _ (Below.refl _ _) rfl
        | 6, _, ho =>
          have e := Option.some.inj ho; subst e
          have p3 : x 3 = .bool true := hpre 3 (by kernel_rfl)
          have p4 : x 4 = .bool false := hpre 4 (by kernel_rfl)
          have p5 : x 5 = .bool false := hpre 5 (by kernel_rfl)
          have hKK : ∀ (vv : Value) (w'' : World), Kept w1 w'' → (vv = .bool true) → K _ w'' := fun v w'' h1 h2 => hK v w'' h1 h2
          clear hK hpre
          simp only [putAll, dstOf, List.getElem?_toArray, List.getElem?_cons_zero, List.getElem?_cons_succ, Option.bind_some, Act.put, List.setIfInBounds_toArray, List.set_cons_zero, List.set_cons_succ] at hKK ⊢
          simp only [p3, p4, p5] at hKK ⊢
          clear p3 p4 p5
          refine (if_pos (by rfl)).mpr ?_
          go_wp2
          exact hKK _ _ (Below.refl _ _) rfl
        | 7, _, ho =>
          have e := Option.some.inj ho; subst e
          have p3 : x 3 = .bool true := hpre 3 (by kernel_rfl)
          have p6 : x 6 = .bool true := hpre 6 (by kernel_rfl)
          have hKK : ∀ (vv : Value) (w'' : World), Kept w1 w'' → (vv = .bool true) → K _ w'' := fun v w'' h1 h2 => hK v w'' h1 h2
          clear hK hpre
          simp only [putAll, dstOf, List.getElem?_toArray, List.getElem?_cons_zero, List.getElem?_cons_succ, Option.bind_some, Act.put, List.setIfInBounds_toArray, List.set_cons_zero, List.set_cons_succ] at hKK ⊢
          simp only [p3, p6] at hKK ⊢
          clear p3 p6
          refine (if_pos (by rfl)).mpr ?_
          go_wp2
          exact hKK _ _ (Below.refl _ _) rfl
        | 8, _, ho =>
          have e := Option.some.inj ho; subst e
          have p7 : x 7 = .bool true := hpre 7 (by kernel_rfl)
          have hKK : ∀ (vv : Value) (w'' : World), Kept w1 w'' → (vv = .bool true) → K _ w'' := fun v w'' h1 h2 => hK v w'' h1 h2
          clear hK hpre
          simp only [putAll, dstOf, List.getElem?_toArray, List.getElem?_cons_zero, List.getElem?_cons_succ, Option.bind_some, Act.put, List.setIfInBounds_toArray, List.set_cons_zero, List.set_cons_succ] at hKK ⊢
          simp only [p7] at hKK ⊢
          clear p7
          refine (if_pos (by rfl)).mpr ?_
          go_wp2
          exact hKK _ _ (Below.refl _ _) rfl
        | 9, _, ho =>
          have e := Option.some.inj ho; subst e
          have p8 : x 8 = .bool true := hpre 8 (by kernel_rfl)
          have hKK : ∀ (vv : Value) (w'' : World), Kept w1 w'' → (vv = .bool false) → K _ w'' := fun v w'' h1 h2 => hK v w'' h1 h2
          clear hK hpre
          simp only [putAll, dstOf, List.getElem?_toArray, List.getElem?_cons_zero, List.getElem?_cons_succ, Option.bind_some, Act.put, List.setIfInBounds_toArray, List.set_cons_zero, List.set_cons_succ] at hKK ⊢
          simp only [p8] at hKK ⊢
          clear p8
          refine (if_pos (by rfl)).mpr ?_
          go_wp2
          exact hKK _ _ (Below.refl _ _) rfl
        | 10, _, ho =>
          have e := Option.some.inj ho; subst e
          have p8 : x 8 = .bool true := hpre 8 (by kernel_rfl)
          have p9 : x 9 = .bool false := hpre 9 (by kernel_rfl)
          have hKK : ∀ (vv : Value) (w'' : World), Kept w1 w'' → (vv = .bool true) → K _ w'' := fun v w'' h1 h2 => hK v w'' h1 h2
          clear hK hpre
          simp only [putAll, dstOf, List.getElem?_toArray, List.getElem?_cons_zero, List.getElem?_cons_succ, Option.bind_some, Act.put, List.setIfInBounds_toArray, List.set_cons_zero, List.set_cons_succ] at hKK ⊢
          simp only [p8, p9] at hKK ⊢
          clear p8 p9
          refine (if_pos (by rfl)).mpr ?_
          go_wp2
          exact hKK _ _ (Below.refl _ _) rfl
        | 11, _, ho =>
          have e := Option.some.inj ho; subst e
          have p8 : x 8 = .bool true := hpre 8 (by kernel_rfl)
          have p10 : x 10 = .bool true := hpre 10 (by kernel_rfl)
          have hKK : ∀ (vv : Value) (w'' : World), Kept w1 w'' → (vv = .bool true) → K _ w'' := fun v w'' h1 h2 => hK v w'' h1 h2
          clear hK hpre
          simp only [putAll, dstOf, List.getElem?_toArray, List.getElem?_cons_zero, List.getElem?_cons_succ, Option.bind_some, Act.put, List.setIfInBounds_toArray, List.set_cons_zero, List.set_cons_succ] at hKK ⊢
          simp only [p8, p10] at hKK ⊢
          clear p8 p10
          refine (if_pos (by rfl)).mpr ?_
          go_wp2
          exact hKK _ _ (Below.refl _ _) rfl
        | 12, _, ho =>
          have e := Option.some.inj ho; subst e
          have p11 : x 11 = .bool true := hpre 11 (by kernel_rfl)
          have hKK : ∀ (vv : Value) (w'' : World), Kept w1 w'' → (vv = undef) → K _ w'' := fun v w'' h1 h2 => hK v w'' h1 h2
          clear hK hpre
          simp only [putAll, dstOf, List.getElem?_toArray, List.getElem?_cons_zero, List.getElem?_cons_succ, Option.bind_some, Act.put, List.setIfInBounds_toArray, List.set_cons_zero, List.set_cons_succ] at hKK ⊢
          simp only [p11] at hKK ⊢
          clear p11
          refine (if_neg (by rw [Bool.not_eq_true]; rfl)).mpr ?_
          exact hKK _ _ (Below.refl _ _) rfl
        | 13, _, ho =>
          have e := Option.some.inj ho; subst e
          have p11 : x 11 = .bool true := hpre 11 (by kernel_rfl)
          have hKK : ∀ (vv : Value) (w'' : World), Kept w1 w'' → (vv = undef) → K _ w'' := fun v w'' h1 h2 => hK v w'' h1 h2
          clear hK hpre
          simp only [putAll, dstOf, List.getElem?_toArray, List.getElem?_cons_zero, List.getElem?_cons_succ, Option.bind_some, Act.put, List.setIfInBounds_toArray, List.set_cons_zero, List.set_cons_succ] at hKK ⊢
          simp only [p11] at hKK ⊢
          clear p11
          refine (if_neg (by rw [Bool.not_eq_true]; rfl)).mpr ?_
          exact hKK _ _ (Below.refl _ _) rfl
        | 14, _, ho =>
          have e := Option.some.inj ho; subst e
          have p11 : x 11 = .bool true := hpre 11 (by kernel_rfl)
          have hKK : ∀ (vv : Value) (w'' : World), Kept w1 w'' → (vv = undef) → K _ w'' := fun v w'' h1 h2 => hK v w'' h1 h2
          clear hK hpre
          simp only [putAll, dstOf, List.getElem?_toArray, List.getElem?_cons_zero, List.getElem?_cons_succ, Option.bind_some, Act.put, List.setIfInBounds_toArray, List.set_cons_zero, List.set_cons_succ] at hKK ⊢
          simp only [p11] at hKK ⊢
          clear p11
          refine (if_neg (by rw [Bool.not_eq_true]; rfl)).mpr ?_
          exact hKK _ _ (Below.refl _ _) rfl
        | 15, _, ho =>
          have e := Option.some.inj ho; subst e
          have p11 : x 11 = .bool true := hpre 11 (by kernel_rfl)
          have hKK : ∀ (vv : Value) (w'' : World), Kept w1 w'' → (vv = undef) → K _ w'' := fun v w'' h1 h2 => hK v w'' h1 h2
          clear hK hpre
          simp only [putAll, dstOf, List.getElem?_toArray, List.getElem?_cons_zero, List.getElem?_cons_succ, Option.bind_some, Act.put, List.setIfInBounds_toArray, List.set_cons_zero, List.set_cons_succ] at hKK ⊢
          simp only [p11] at hKK ⊢
          clear p11
          refine (if_neg (by rw [Bool.not_eq_true]; rfl)).mpr ?_
          exact hKK _ _ (Below.refl _ _) rfl
        | 16, _, ho =>
          have e := Option.some.inj ho; subst e
          have p11 : x 11 = .bool true := hpre 11 (by kernel_rfl)
          have hKK : ∀ (vv : Value) (w'' : World), Kept w1 w'' → (vv = undef) → K _ w'' := fun v w'' h1 h2 => hK v w'' h1 h2
          clear hK hpre
          simp only [putAll, dstOf, List.getElem?_toArray, List.getElem?_cons_zero, List.getElem?_cons_succ, Option.bind_some, Act.put, List.setIfInBounds_toArray, List.set_cons_zero, List.set_cons_succ] at hKK ⊢
          simp only [p11] at hKK ⊢
          clear p11
          refine (if_neg (by rw [Bool.not_eq_true]; rfl)).mpr ?_
          exact hKK _ _ (Below.refl _ _) rfl
        | 17, _, ho =>
          have e := Option.some.inj ho; subst e
          have p11 : x 11 = .bool true := hpre 11 (by kernel_rfl)
          have hKK : ∀ (vv : Value) (w'' : World), Kept w1 w'' → (vv = undef) → K _ w'' := fun v w'' h1 h2 => hK v w'' h1 h2
          clear hK hpre
          simp only [putAll, dstOf, List.getElem?_toArray, List.getElem?_cons_zero, List.getElem?_cons_succ, Option.bind_some, Act.put, List.setIfInBounds_toArray, List.set_cons_zero, List.set_cons_succ] at hKK ⊢
          simp only [p11] at hKK ⊢
          clear p11
          refine (if_neg (by rw [Bool.not_eq_true]; rfl)).mpr ?_
          exact hKK _ _ (Below.refl _ _) rfl
        | 18, _, ho =>
          have e := Option.some.inj ho; subst e
          have p11 : x 11 = .bool true := hpre 11 (by kernel_rfl)
          have hKK : ∀ (vv : Value) (w'' : World), Kept w1 w'' → (vv = undef) → K _ w'' := fun v w'' h1 h2 => hK v w'' h1 h2
          clear hK hpre
          simp only [putAll, dstOf, List.getElem?_toArray, List.getElem?_cons_zero, List.getElem?_cons_succ, Option.bind_some, Act.put, List.setIfInBounds_toArray, List.set_cons_zero, List.set_cons_succ] at hKK ⊢
          simp only [p11] at hKK ⊢
          clear p11
          refine (if_neg (by rw [Bool.not_eq_true]; rfl)).mpr ?_
          exact hKK _ _ (Below.refl _ _) rfl
        | 19, _, ho =>
          have e := Option.some.inj ho; subst e
          have p11 : x 11 = .bool true := hpre 11 (by kernel_rfl)
          have hKK : ∀ (vv : Value) (w'' : World), Kept w1 w'' → (vv = undef) → K _ w'' := fun v w'' h1 h2 => hK v w'' h1 h2
          clear hK hpre
          simp only [putAll, dstOf, List.getElem?_toArray, List.getElem?_cons_zero, List.getElem?_cons_succ, Option.bind_some, Act.put, List.setIfInBounds_toArray, List.set_cons_zero, List.set_cons_succ] at hKK ⊢
          simp only [p11] at hKK ⊢
          clear p11
          refine (if_neg (by rw [Bool.not_eq_true]; rfl)).mpr ?_
          exact hKK _ _ (Below.refl _ _) rfl
        | 20, _, ho =>
          have e := Option.some.inj ho; subst e
          have p8 : x 8 = .bool true := hpre 8 (by kernel_rfl)
          have p11 : x 11 = .bool true := hpre 11 (by kernel_rfl)
          have p19 : x 19 = undef := hpre 19 (by kernel_rfl)
          have hKK : ∀ (vv : Value) (w'' : World), Kept w1 w'' → (vv = .bool true) → K _ w'' := fun v w'' h1 h2 => hK v w'' h1 h2
          clear hK hpre
          simp only [putAll, dstOf, List.getElem?_toArray, List.getElem?_cons_zero, List.getElem?_cons_succ, Option.bind_some, Act.put, List.setIfInBounds_toArray, List.set_cons_zero, List.set_cons_succ] at hKK ⊢
          simp only [p8, p11, p19] at hKK ⊢
          clear p8 p11 p19
          refine (if_pos (by rfl)).mpr ?_
          go_wp2
          exact hKK _ _ (Below.refl _ _) rfl
        | 21, _, ho =>
          have e := Option.some.inj ho; subst e
          have p8 : x 8 = .bool true := hpre 8 (by kernel_rfl)
          have p20 : x 20 = .bool true := hpre 20 (by kernel_rfl)
          have hKK : ∀ (vv : Value) (w'' : World), Kept w1 w'' → (vv = .bool true) → K _ w'' := fun v w'' h1 h2 => hK v w'' h1 h2
          clear hK hpre
          simp only [putAll, dstOf, List.getElem?_toArray, List.getElem?_cons_zero, List.getElem?_cons_succ, Option.bind_some, Act.put, List.setIfInBounds_toArray, List.set_cons_zero, List.set_cons_succ] at hKK ⊢
          simp only [p8, p20] at hKK ⊢
          clear p8 p20
          refine (if_pos (by rfl)).mpr ?_
          go_wp2
          exact hKK _ _ (Below.refl _ _) rfl
        | 22, _, ho =>
          have e := Option.some.inj ho; subst e
          have p21 : x 21 = .bool true := hpre 21 (by kernel_rfl)
          have hKK : ∀ (vv : Value) (w'' : World), Kept w1 w'' → (vv = .bool true) → K _ w'' := fun v w'' h1 h2 => hK v w'' h1 h2
          clear hK hpre
          simp only [putAll, dstOf, List.getElem?_toArray, List.getElem?_cons_zero, List.getElem?_cons_succ, Option.bind_some, Act.put, List.setIfInBounds_toArray, List.set_cons_zero, List.set_cons_succ] at hKK ⊢
          simp only [p21] at hKK ⊢
          clear p21
          refine (if_pos (by rfl)).mpr ?_
          go_wp2
          exact hKK _ _ (Below.refl _ _) rfl
        | 23, _, ho =>
          have e := Option.some.inj ho; subst e
          have p22 : x 22 = .bool true := hpre 22 (by kernel_rfl)
          have hKK : ∀ (vv : Value) (w'' : World), Kept w1 w'' → (vv = .bool true) → K _ w'' := fun v w'' h1 h2 => hK v w'' h1 h2
          clear hK hpre
          simp only [putAll, dstOf, List.getElem?_toArray, List.getElem?_cons_zero, List.getElem?_cons_succ, Option.bind_some, Act.put, List.setIfInBounds_toArray, List.set_cons_zero, List.set_cons_succ] at hKK ⊢
          simp only [p22] at hKK ⊢
          clear p22
          refine (if_pos (by rfl)).mpr ?_
          go_wp2_with fail
          refine (known_any _).mono ?_
          rintro e w2 ⟨rfl, hk2⟩
          go_wp2
          exact hKK _ _ hk2 rfl
        | 24, _, ho =>
          have e := Option.some.inj ho; subst e
          have p22 : x 22 = .bool true := hpre 22 (by kernel_rfl)
          have p23 : x 23 = .bool true := hpre 23 (by kernel_rfl)
          have hKK : ∀ (vv : Value) (w'' : World), Kept w1 w'' → (vv = .bool true) → K _ w'' := fun v w'' h1 h2 => hK v w'' h1 h2
          clear hK hpre
          simp only [putAll, dstOf, List.getElem?_toArray, List.getElem?_cons_zero, List.getElem?_cons_succ, Option.bind_some, Act.put, List.setIfInBounds_toArray, List.set_cons_zero, List.set_cons_succ] at hKK ⊢
          simp only [p22, p23] at hKK ⊢
          clear p22 p23
          refine (if_pos (by rfl)).mpr ?_
          go_wp2
          exact hKK _ _ (Below.refl _ _) rfl
        | i + 25, hi, _ => exact absurd hi (by omega)
      · intro x w1 hw hA
        have p0 : x 0 = U 0#64 := hA 0 (by omega)
        have p1 : x 1 = U 0#64 := hA 1 (by omega)
        have p2 : x 2 = .bool true := hA 2 (by omega)
        have p3 : x 3 = .bool true := hA 3 (by omega)
        have p4 : x 4 = .bool false := hA 4 (by omega)
        have p5 : x 5 = .bool false := hA 5 (by omega)
        have p6 : x 6 = .bool true := hA 6 (by omega)
        have p7 : x 7 = .bool true := hA 7 (by omega)
        have p8 : x 8 = .bool true := hA 8 (by omega)
        have p9 : x 9 = .bool false := hA 9 (by omega)
        have p10 : x 10 = .bool true := hA 10 (by omega)
        have p11 : x 11 = .bool true := hA 11 (by omega)
        have p12 : x 12 = undef := hA 12 (by omega)
        have p13 : x 13 = undef := hA 13 (by omega)
        have p14 : x 14 = undef := hA 14 (by omega)
        have p15 : x 15 = undef := hA 15 (by omega)
        have p16 : x 16 = undef := hA 16 (by omega)
        have p17 : x 17 = undef := hA 17 (by omega)
        have p18 : x 18 = undef := hA 18 (by omega)
        have p19 : x 19 = undef := hA 19 (by omega)
        have p20 : x 20 = .bool true := hA 20 (by omega)
        have p21 : x 21 = .bool true := hA 21 (by omega)
        have p22 : x 22 = .bool true := hA 22 (by omega)
        have p23 : x 23 = .bool true := hA 23 (by omega)
        have p24 : x 24 = .bool true := hA 24 (by omega)
        clear hA
        simp only [List.drop_succ_cons, List.drop_zero, putAll, dstOf, List.getElem?_toArray, List.getElem?_cons_zero, List.getElem?_cons_succ, Option.bind_some, Act.put, List.setIfInBounds_toArray, List.set_cons_zero, List.set_cons_succ]
        simp only [p0, p1, p2, p3, p4, p5, p6, p7, p8, p9, p10, p11, p12, p13, p14, p15, p16, p17, p18, p19, p20, p21, p22, p23, p24]
        clear p0 p1 p2 p3 p4 p5 p6 p7 p8 p9 p10 p11 p12 p13 p14 p15 p16 p17 p18 p19 p20 p21 p22 p23 p24
        go_wp2
        go_ret
        exact ⟨rfl, hw⟩
    · have h1 : 1 ≤ bs.length := by omega
      have h8 : bs.length ≤ 8 := by omega
      have HB := Lib.hid (putB_getB bs h8)
      go_enter Try.func4, Try.ntmps4
      go_wp2_with fail
      refine (get_some _ bs _ hs h1 h8).mono ?_
      rintro e w1 ⟨rfl, rfl⟩
      go_wp2_with fail
      refine (rget_some _ bs _ hs h1 h8).mono ?_
      rintro e w1 ⟨rfl, rfl⟩
      go_wp2_with fail
      refine wp_region_posts 25 (fun i (vv : Value) w' => match i with | 0 => vv = U (getB bs) | 1 => vv = U (getB bs) | 2 => vv = .bool true | 3 => vv = .bool true | 4 => vv = .bool true | 5 => vv = .bool true | 6 => vv = .bool true | 7 => vv = .bool true | 8 => vv = .bool true | 9 => vv = .bool true | 10 => vv = .bool false | 11 => vv = .bool false | 12 => vv = U (getB bs) | 13 => vv = .slice a bs.length cap | 14 => vv = .int .i64 (bs.length : Nat) | 15 => Sl w' vv bs.length (bcells bs) | 16 => vv = Str bs | 17 => vv = .slice a bs.length cap | 18 => vv = Str bs | 19 => vv = .bool true | 20 => vv = .bool true | 21 => vv = .bool true | 22 => vv = .bool true | 23 => vv = .bool true | 24 => vv = .bool true | _ => True) (by kernel_rfl) (by kernel_rfl) ?_ ?_ ?_
      · intro i v w1 w2 h hk
        match i, h with
        | 0, h => exact h
        | 1, h => exact h
        | 2, h => exact h
        | 3, h => exact h
        | 4, h => exact h
        | 5, h => exact h
        | 6, h => exact h
        | 7, h => exact h
        | 8, h => exact h
        | 9, h => exact h
        | 10, h => exact h
        | 11, h => exact h
        | 12, h => exact h
        | 13, h => exact h
        | 14, h => exact h
        | 15, h => exact h.kept hk
        | 16, h => exact h
        | 17, h => exact h
        | 18, h => exact h
        | 19, h => exact h
        | 20, h => exact h
        | 21, h => exact h
        | 22, h => exact h
        | 23, h => exact h
        | 24, h => exact h
        | _ + 25, _ => trivial
      · intro i o hi ho x w1 hw hpre K hK
        match i, hi, ho with
        | 0, _, ho =>
          have e := Option.some.inj ho; subst e
          have hKK : ∀ (vv : Value) (w'' : World), Kept w1 w'' → (vv = U (getB bs)) → K _ w'' := fun v w'' h1 h2 => hK v w'' h1 h2
          clear hK hpre
          simp only [putAll, dstOf, List.getElem?_toArray, List.getElem?_cons_zero, List.getElem?_cons_succ, Option.bind_some, Act.put, List.setIfInBounds_toArray, List.set_cons_zero, List.set_cons_succ] at hKK ⊢
          refine (if_pos (by rfl)).mpr ?_
          go_wp2
          exact hKK _ _ (Below.refl _ _) rfl
        | 1, _, ho =>
          have e := Option.some.inj ho; subst e
          have hKK : ∀ (vv : Value) (w'' : World), Kept w1 w'' → (vv = U (getB bs)) → K _ w'' := fun v w'' h1 h2 => hK v w'' h1 h2
          clear hK hpre
          simp only [putAll, dstOf, List.getElem?_toArray, List.getElem?_cons_zero, List.getElem?_cons_succ, Option.bind_some, Act.put, List.setIfInBounds_toArray, List.set_cons_zero, List.set_cons_succ] at hKK ⊢
          refine (if_pos (by rfl)).mpr ?_
          go_wp2
          exact hKK _ _ (Below.refl _ _) rfl
        | 2, _, ho =>
          have e := Option.some.inj ho; subst e
          have p0 : x 0 = U (getB bs) := hpre 0 (by kernel_rfl)
          have p1 : x 1 = U (getB bs) := hpre 1 (by kernel_rfl)
          have hKK : ∀ (vv : Value) (w'' : World), Kept w1 w'' → (vv = .bool true) → K _ w'' := fun v w'' h1 h2 => hK v w'' h1 h2
          clear hK hpre
          simp only [putAll, dstOf, List.getElem?_toArray, List.getElem?_cons_zero, List.getElem?_cons_succ, Option.bind_some, Act.put, List.setIfInBounds_toArray, List.set_cons_zero, List.set_cons_succ] at hKK ⊢
          simp only [p0, p1] at hKK ⊢
          clear p0 p1
          refine (if_pos (by rfl)).mpr ?_
          go_wp2
          exact hKK _ _ (Below.refl _ _) rfl
        | 3, _, ho =>
          have e := Option.some.inj ho; subst e
          have p2 : x 2 = .bool true := hpre 2 (by kernel_rfl)
          have hKK : ∀ (vv : Value) (w'' : World), Kept w1 w'' → (vv = .bool true) → K _ w'' := fun v w'' h1 h2 => hK v w'' h1 h2
          clear hK hpre
          simp only [putAll, dstOf, List.getElem?_toArray, List.getElem?_cons_zero, List.getElem?_cons_succ, Option.bind_some, Act.put, List.setIfInBounds_toArray, List.set_cons_zero, List.set_cons_succ] at hKK ⊢
          simp only [p2] at hKK ⊢
          clear p2
          refine (if_pos (by rfl)).mpr ?_
          go_wp2
          exact hKK _ _ (Below.refl _ _) rfl
        | 4, _, ho =>
          have e := Option.some.inj ho; subst e
          have p3 : x 3 = .bool true := hpre 3 (by kernel_rfl)
          have hKK : ∀ (vv : Value) (w'' : World), Kept w1 w'' → (vv = .bool true) → K _ w'' := fun v w'' h1 h2 => hK v w'' h1 h2
          clear hK hpre
          simp only [putAll, dstOf, List.getElem?_toArray, List.getElem?_cons_zero, List.getElem?_cons_succ, Option.bind_some, Act.put, List.setIfInBounds_toArray, List.set_cons_zero, List.set_cons_succ] at hKK ⊢
          simp only [p3] at hKK ⊢
          clear p3
          refine (if_pos (by rfl)).mpr ?_
          go_wp2
          exact hKK _ _ (Below.refl _ _) rfl
        | 5, _, ho =>
          have e := Option.some.inj ho; subst e
          have p3 : x 3 = .bool true := hpre 3 (by kernel_rfl)
          have hKK : ∀ (vv : Value) (w'' : World), Kept w1 w'' → (vv = .bool true) → K _ w'' := fun v w'' h1 h2 => hK v w'' h1 h2
          clear hK hpre
          simp only [putAll, dstOf, List.getElem?_toArray, List.getElem?_cons_zero, List.getElem?_cons_succ, Option.bind_some, Act.put, List.setIfInBounds_toArray, List.set_cons_zero, List.set_cons_succ] at hKK ⊢
          simp only [p3] at hKK ⊢
          clear p3
          refine (if_pos (by rfl)).mpr ?_
          go_wp2
          exact hKK _ _ (Below.refl _ _) rfl
        | 6, _, ho =>
          have e := Option.some.inj ho; subst e
          have p3 : x 3 = .bool true := hpre 3 (by kernel_rfl)
          have p4 : x 4 = .bool true := hpre 4 (by kernel_rfl)
          have p5 : x 5 = .bool true := hpre 5 (by kernel_rfl)
          have hKK : ∀ (vv : Value) (w'' : World), Kept w1 w'' → (vv = .bool true) → K _ w'' := fun v w'' h1 h2 => hK v w'' h1 h2
          clear hK hpre
          simp only [putAll, dstOf, List.getElem?_toArray, List.getElem?_cons_zero, List.getElem?_cons_succ, Option.bind_some, Act.put, List.setIfInBounds_toArray, List.set_cons_zero, List.set_cons_succ] at hKK ⊢
          simp only [p3, p4, p5] at hKK ⊢
          clear p3 p4 p5
          refine (if_pos (by rfl)).mpr ?_
          go_wp2
          exact hKK _ _ (Below.refl _ _) rfl
        | 7, _, ho =>
          have e := Option.some.inj ho; subst e
          have p3 : x 3 = .bool true := hpre 3 (by kernel_rfl)
          have p6 : x 6 = .bool true := hpre 6 (by kernel_rfl)
          have hKK : ∀ (vv : Value) (w'' : World), Kept w1 w'' → (vv = .bool true) → K _ w'' := fun v w'' h1 h2 => hK v w'' h1 h2
          clear hK hpre
          simp only [putAll, dstOf, List.getElem?_toArray, List.getElem?_cons_zero, List.getElem?_cons_succ, Option.bind_some, Act.put, List.setIfInBounds_toArray, List.set_cons_zero, List.set_cons_succ] at hKK ⊢
          simp only [p3, p6] at hKK ⊢
          clear p3 p6
          refine (if_pos (by rfl)).mpr ?_
          go_wp2
          exact hKK _ _ (Below.refl _ _) rfl
        | 8, _, ho =>
          have e := Option.some.inj ho; subst e
          have p7 : x 7 = .bool true := hpre 7 (by kernel_rfl)
          have hKK : ∀ (vv : Value) (w'' : World), Kept w1 w'' → (vv = .bool true) → K _ w'' := fun v w'' h1 h2 => hK v w'' h1 h2
          clear hK hpre
          simp only [putAll, dstOf, List.getElem?_toArray, List.getElem?_cons_zero, List.getElem?_cons_succ, Option.bind_some, Act.put, List.setIfInBounds_toArray, List.set_cons_zero, List.set_cons_succ] at hKK ⊢
          simp only [p7] at hKK ⊢
          clear p7
          refine (if_pos (by rfl)).mpr ?_
          go_wp2
          exact hKK _ _ (Below.refl _ _) rfl
        | 9, _, ho =>
          have e := Option.some.inj ho; subst e
          have p8 : x 8 = .bool true := hpre 8 (by kernel_rfl)
          have hKK : ∀ (vv : Value) (w'' : World), Kept w1 w'' → (vv = .bool true) → K _ w'' := fun v w'' h1 h2 => hK v w'' h1 h2
          clear hK hpre
          simp only [putAll, dstOf, List.getElem?_toArray, List.getElem?_cons_zero, List.getElem?_cons_succ, Option.bind_some, Act.put, List.setIfInBounds_toArray, List.set_cons_zero, List.set_cons_succ] at hKK ⊢
          simp only [p8] at hKK ⊢
          clear p8
          refine (if_pos (by rfl)).mpr ?_
          go_wp2
          exact hKK _ _ (Below.refl _ _) rfl
        | 10, _, ho =>
          have e := Option.some.inj ho; subst e
          have p8 : x 8 = .bool true := hpre 8 (by kernel_rfl)
          have p9 : x 9 = .bool true := hpre 9 (by kernel_rfl)
          have hKK : ∀ (vv : Value) (w'' : World), Kept w1 w'' → (vv = .bool false) → K _ w'' := fun v w'' h1 h2 => hK v w'' h1 h2
          clear hK hpre
          simp only [putAll, dstOf, List.getElem?_toArray, List.getElem?_cons_zero, List.getElem?_cons_succ, Option.bind_some, Act.put, List.setIfInBounds_toArray, List.set_cons_zero, List.set_cons_succ] at hKK ⊢
          simp only [p8, p9] at hKK ⊢
          clear p8 p9
          refine (if_pos (by rfl)).mpr ?_
          go_wp2
          exact hKK _ _ (Below.refl _ _) rfl
        | 11, _, ho =>
          have e := Option.some.inj ho; subst e
          have p8 : x 8 = .bool true := hpre 8 (by kernel_rfl)
          have p10 : x 10 = .bool false := hpre 10 (by kernel_rfl)
          have hKK : ∀ (vv : Value) (w'' : World), Kept w1 w'' → (vv = .bool false) → K _ w'' := fun v w'' h1 h2 => hK v w'' h1 h2
          clear hK hpre
          simp only [putAll, dstOf, List.getElem?_toArray, List.getElem?_cons_zero, List.getElem?_cons_succ, Option.bind_some, Act.put, List.setIfInBounds_toArray, List.set_cons_zero, List.set_cons_succ] at hKK ⊢
          simp only [p8, p10] at hKK ⊢
          clear p8 p10
          refine (if_pos (by rfl)).mpr ?_
          go_wp2
          exact hKK _ _ (Below.refl _ _) rfl
        | 12, _, ho =>
          have e := Option.some.inj ho; subst e
          have p11 : x 11 = .bool false := hpre 11 (by kernel_rfl)
          have hKK : ∀ (vv : Value) (w'' : World), Kept w1 w'' → (vv = U (getB bs)) → K _ w'' := fun v w'' h1 h2 => hK v w'' h1 h2
          clear hK hpre
          simp only [putAll, dstOf, List.getElem?_toArray, List.getElem?_cons_zero, List.getElem?_cons_succ, Option.bind_some, Act.put, List.setIfInBounds_toArray, List.set_cons_zero, List.set_cons_succ] at hKK ⊢
          simp only [p11] at hKK ⊢
          clear p11
          refine (if_pos (by rfl)).mpr ?_
          go_wp2
          exact hKK _ _ (Below.refl _ _) rfl
        | 13, _, ho =>
          have e := Option.some.inj ho; subst e
          have p11 : x 11 = .bool false := hpre 11 (by kernel_rfl)
          have hKK : ∀ (vv : Value) (w'' : World), Kept w1 w'' → (vv = .slice a bs.length cap) → K _ w'' := fun v w'' h1 h2 => hK v w'' h1 h2
          clear hK hpre
          simp only [putAll, dstOf, List.getElem?_toArray, List.getElem?_cons_zero, List.getElem?_cons_succ, Option.bind_some, Act.put, List.setIfInBounds_toArray, List.set_cons_zero, List.set_cons_succ] at hKK ⊢
          simp only [p11] at hKK ⊢
          clear p11
          refine (if_pos (by rfl)).mpr ?_
          go_wp2
          exact hKK _ _ (Below.refl _ _) rfl
        | 14, _, ho =>
          have e := Option.some.inj ho; subst e
          have p11 : x 11 = .bool false := hpre 11 (by kernel_rfl)
          have p13 : x 13 = .slice a bs.length cap := hpre 13 (by kernel_rfl)
          have hKK : ∀ (vv : Value) (w'' : World), Kept w1 w'' → (vv = .int .i64 (bs.length : Nat)) → K _ w'' := fun v w'' h1 h2 => hK v w'' h1 h2
          clear hK hpre
          simp only [putAll, dstOf, List.getElem?_toArray, List.getElem?_cons_zero, List.getElem?_cons_succ, Option.bind_some, Act.put, List.setIfInBounds_toArray, List.set_cons_zero, List.set_cons_succ] at hKK ⊢
          simp only [p11, p13] at hKK ⊢
          clear p11 p13
          refine (if_pos (by rfl)).mpr ?_
          go_wp2
          exact hKK _ _ (Below.refl _ _) rfl
        | 15, _, ho =>
          have e := Option.some.inj ho; subst e
          have p11 : x 11 = .bool false := hpre 11 (by kernel_rfl)
          have p12 : x 12 = U (getB bs) := hpre 12 (by kernel_rfl)
          have p14 : x 14 = .int .i64 (bs.length : Nat) := hpre 14 (by kernel_rfl)
          have hKK : ∀ (vv : Value) (w'' : World), Kept w1 w'' → (Sl w'' vv bs.length (bcells bs)) → K _ w'' := fun v w'' h1 h2 => hK v w'' h1 h2
          clear hK hpre
          simp only [putAll, dstOf, List.getElem?_toArray, List.getElem?_cons_zero, List.getElem?_cons_succ, Option.bind_some, Act.put, List.setIfInBounds_toArray, List.set_cons_zero, List.set_cons_succ] at hKK ⊢
          simp only [p11, p12, p14] at hKK ⊢
          clear p11 p12 p14
          refine (if_pos (by rfl)).mpr ?_
          go_wp2_with fail
          refine (put_some _ bs.length (by omega) (by omega) _).mono ?_
          rintro e w2 ⟨r, rfl, hown, hk2⟩
          have hsl := Sl.of_own hown
          clear hown
          go_wp2
          rw [HB.out] at hsl
          exact hKK _ _ hk2 hsl
        | 16, _, ho =>
          have e := Option.some.inj ho; subst e
          have p11 : x 11 = .bool false := hpre 11 (by kernel_rfl)
          have p15 : Sl w1 (x 15) bs.length (bcells bs) := hpre 15 (by kernel_rfl)
          have hKK : ∀ (vv : Value) (w'' : World), Kept w1 w'' → (vv = Str bs) → K _ w'' := fun v w'' h1 h2 => hK v w'' h1 h2
          clear hK hpre
          simp only [putAll, dstOf, List.getElem?_toArray, List.getElem?_cons_zero, List.getElem?_cons_succ, Option.bind_some, Act.put, List.setIfInBounds_toArray, List.set_cons_zero, List.set_cons_succ] at hKK ⊢
          simp only [p11] at hKK ⊢
          clear p11
          refine (if_pos (by rfl)).mpr ?_
          have hcv := conv_bytes (P := Try.prog) w1 (src := 23) (dst := 9) Try.underlying23 Try.underlying5 Try.underlying9 p15
          go_wp2
          exact hKK _ _ (Below.refl _ _) rfl
        | 17, _, ho =>
          have e := Option.some.inj ho; subst e
          have p11 : x 11 = .bool false := hpre 11 (by kernel_rfl)
          have hKK : ∀ (vv : Value) (w'' : World), Kept w1 w'' → (vv = .slice a bs.length cap) → K _ w'' := fun v w'' h1 h2 => hK v w'' h1 h2
          clear hK hpre
          simp only [putAll, dstOf, List.getElem?_toArray, List.getElem?_cons_zero, List.getElem?_cons_succ, Option.bind_some, Act.put, List.setIfInBounds_toArray, List.set_cons_zero, List.set_cons_succ] at hKK ⊢
          simp only [p11] at hKK ⊢
          clear p11
          refine (if_pos (by rfl)).mpr ?_
          go_wp2
          exact hKK _ _ (Below.refl _ _) rfl
        | 18, _, ho =>
          have e := Option.some.inj ho; subst e
          have p11 : x 11 = .bool false := hpre 11 (by kernel_rfl)
          have p17 : x 17 = .slice a bs.length cap := hpre 17 (by kernel_rfl)
          have hKK : ∀ (vv : Value) (w'' : World), Kept w1 w'' → (vv = Str bs) → K _ w'' := fun v w'' h1 h2 => hK v w'' h1 h2
          clear hK hpre
          simp only [putAll, dstOf, List.getElem?_toArray, List.getElem?_cons_zero, List.getElem?_cons_succ, Option.bind_some, Act.put, List.setIfInBounds_toArray, List.set_cons_zero, List.set_cons_succ] at hKK ⊢
          simp only [p11, p17] at hKK ⊢
          clear p11 p17
          refine (if_pos (by rfl)).mpr ?_
          have hcv := conv_bytes (P := Try.prog) w1 (src := 23) (dst := 9) Try.underlying23 Try.underlying5 Try.underlying9 (hs.kept hw)
          go_wp2
          exact hKK _ _ (Below.refl _ _) rfl
        | 19, _, ho =>
          have e := Option.some.inj ho; subst e
          have p11 : x 11 = .bool false := hpre 11 (by kernel_rfl)
          have p16 : x 16 = Str bs := hpre 16 (by kernel_rfl)
          have p18 : x 18 = Str bs := hpre 18 (by kernel_rfl)
          have hKK : ∀ (vv : Value) (w'' : World), Kept w1 w'' → (vv = .bool true) → K _ w'' := fun v w'' h1 h2 => hK v w'' h1 h2
          clear hK hpre
          simp only [putAll, dstOf, List.getElem?_toArray, List.getElem?_cons_zero, List.getElem?_cons_succ, Option.bind_some, Act.put, List.setIfInBounds_toArray, List.set_cons_zero, List.set_cons_succ] at hKK ⊢
          simp only [p11, p16, p18] at hKK ⊢
          clear p11 p16 p18
          refine (if_pos (by rfl)).mpr ?_
          go_wp2
          exact hKK _ _ (Below.refl _ _) rfl
        | 20, _, ho =>
          have e := Option.some.inj ho; subst e
          have p8 : x 8 = .bool true := hpre 8 (by kernel_rfl)
          have p11 : x 11 = .bool false := hpre 11 (by kernel_rfl)
          have p19 : x 19 = .bool true := hpre 19 (by kernel_rfl)
          have hKK : ∀ (vv : Value) (w'' : World), Kept w1 w'' → (vv = .bool true) → K _ w'' := fun v w'' h1 h2 => hK v w'' h1 h2
          clear hK hpre
          simp only [putAll, dstOf, List.getElem?_toArray, List.getElem?_cons_zero, List.getElem?_cons_succ, Option.bind_some, Act.put, List.setIfInBounds_toArray, List.set_cons_zero, List.set_cons_succ] at hKK ⊢
          simp only [p8, p11, p19] at hKK ⊢
          clear p8 p11 p19
          refine (if_pos (by rfl)).mpr ?_
          go_wp2
          exact hKK _ _ (Below.refl _ _) rfl
        | 21, _, ho =>
          have e := Option.some.inj ho; subst e
          have p8 : x 8 = .bool true := hpre 8 (by kernel_rfl)
          have p20 : x 20 = .bool true := hpre 20 (by kernel_rfl)
          have hKK : ∀ (vv : Value) (w'' : World), Kept w1 w'' → (vv = .bool true) → K _ w'' := fun v w'' h1 h2 => hK v w'' h1 h2
          clear hK hpre
          simp only [putAll, dstOf, List.getElem?_toArray, List.getElem?_cons_zero, List.getElem?_cons_succ, Option.bind_some, Act.put, List.setIfInBounds_toArray, List.set_cons_zero, List.set_cons_succ] at hKK ⊢
          simp only [p8, p20] at hKK ⊢
          clear p8 p20
          refine (if_pos (by rfl)).mpr ?_
          go_wp2
          exact hKK _ _ (Below.refl _ _) rfl
        | 22, _, ho =>
          have e := Option.some.inj ho; subst e
          have p21 : x 21 = .bool true := hpre 21 (by kernel_rfl)
          have hKK : ∀ (vv : Value) (w'' : World), Kept w1 w'' → (vv = .bool true) → K _ w'' := fun v w'' h1 h2 => hK v w'' h1 h2
          clear hK hpre
          simp only [putAll, dstOf, List.getElem?_toArray, List.getElem?_cons_zero, List.getElem?_cons_succ, Option.bind_some, Act.put, List.setIfInBounds_toArray, List.set_cons_zero, List.set_cons_succ] at hKK ⊢
          simp only [p21] at hKK ⊢
          clear p21
          refine (if_pos (by rfl)).mpr ?_
          go_wp2
          exact hKK _ _ (Below.refl _ _) rfl
        | 23, _, ho =>
          have e := Option.some.inj ho; subst e
          have p22 : x 22 = .bool true := hpre 22 (by kernel_rfl)
          have hKK : ∀ (vv : Value) (w'' : World), Kept w1 w'' → (vv = .bool true) → K _ w'' := fun v w'' h1 h2 => hK v w'' h1 h2
          clear hK hpre
          simp only [putAll, dstOf, List.getElem?_toArray, List.getElem?_cons_zero, List.getElem?_cons_succ, Option.bind_some, Act.put, List.setIfInBounds_toArray, List.set_cons_zero, List.set_cons_succ] at hKK ⊢
          simp only [p22] at hKK ⊢
          clear p22
          refine (if_pos (by rfl)).mpr ?_
          go_wp2_with fail
          refine (known_any _).mono ?_
          rintro e w2 ⟨rfl, hk2⟩
          go_wp2
          exact hKK _ _ hk2 rfl
        | 24, _, ho =>
          have e := Option.some.inj ho; subst e
          have p22 : x 22 = .bool true := hpre 22 (by kernel_rfl)
          have p23 : x 23 = .bool true := hpre 23 (by kernel_rfl)
          have hKK : ∀ (vv : Value) (w'' : World), Kept w1 w'' → (vv = .bool true) → K _ w'' := fun v w'' h1 h2 => hK v w'' h1 h2
          clear hK hpre
          simp only [putAll, dstOf, List.getElem?_toArray, List.getElem?_cons_zero, List.getElem?_cons_succ, Option.bind_some, Act.put, List.setIfInBounds_toArray, List.set_cons_zero, List.set_cons_succ] at hKK ⊢
          simp only [p22, p23] at hKK ⊢
          clear p22 p23
          refine (if_pos (by rfl)).mpr ?_
          go_wp2
          exact hKK _ _ (Below.refl _ _) rfl
        | i + 25, hi, _ => exact absurd hi (by omega)
      · intro x w1 hw hA
        have p0 : x 0 = U (getB bs) := hA 0 (by omega)
        have p1 : x 1 = U (getB bs) := hA 1 (by omega)
        have p2 : x 2 = .bool true := hA 2 (by omega)
        have p3 : x 3 = .bool true := hA 3 (by omega)
        have p4 : x 4 = .bool true := hA 4 (by omega)
        have p5 : x 5 = .bool true := hA 5 (by omega)
        have p6 : x 6 = .bool true := hA 6 (by omega)
        have p7 : x 7 = .bool true := hA 7 (by omega)
        have p8 : x 8 = .bool true := hA 8 (by omega)
        have p9 : x 9 = .bool true := hA 9 (by omega)
        have p10 : x 10 = .bool false := hA 10 (by omega)
        have p11 : x 11 = .bool false := hA 11 (by omega)
        have p12 : x 12 = U (getB bs) := hA 12 (by omega)
        have p13 : x 13 = .slice a bs.length cap := hA 13 (by omega)
        have p14 : x 14 = .int .i64 (bs.length : Nat) := hA 14 (by omega)
        have p15 : Sl w1 (x 15) bs.length (bcells bs) := hA 15 (by omega)
        have p16 : x 16 = Str bs := hA 16 (by omega)
        have p17 : x 17 = .slice a bs.length cap := hA 17 (by omega)
        have p18 : x 18 = Str bs := hA 18 (by omega)
        have p19 : x 19 = .bool true := hA 19 (by omega)
        have p20 : x 20 = .bool true := hA 20 (by omega)
        have p21 : x 21 = .bool true := hA 21 (by omega)
        have p22 : x 22 = .bool true := hA 22 (by omega)
        have p23 : x 23 = .bool true := hA 23 (by omega)
        have p24 : x 24 = .bool true := hA 24 (by omega)
        clear hA
        simp only [List.drop_succ_cons, List.drop_zero, putAll, dstOf, List.getElem?_toArray, List.getElem?_cons_zero, List.getElem?_cons_succ, Option.bind_some, Act.put, List.setIfInBounds_toArray, List.set_cons_zero, List.set_cons_succ]
        simp only [p0, p1, p2, p3, p4, p5, p6, p7, p8, p9, p10, p11, p12, p13, p14, p16, p17, p18, p19, p20, p21, p22, p23, p24]
        clear p0 p1 p2 p3 p4 p5 p6 p7 p8 p9 p10 p11 p12 p13 p14 p16 p17 p18 p19 p20 p21 p22 p23 p24
        go_wp2
        go_ret
        exact ⟨rfl, hw⟩


namespace wireGetsRow
open Go.ChangeShapes Go.WideShapes Go.ChangeAt Go.RowKit
theorem own : ownKnob Try.prog.godebug = none := by kernel_rfl
theorem laidOut : laidOutB Try.prog = true := by kernel_rfl

set_option maxRecDepth 100000 in
theorem lifted (os : Os) (started : os.Started) (H : Type) (enc : TypeId × Value → H) :
    ReturnsInHanded {} Try.checked os 4 .any (Rows.wireGetsSpec.pre6 enc Try.prog Try.f4 Rows.wireGetsRow.domain false) (Rows.wireGetsSpec.post enc Try.prog Try.f4 false true false false) := by
  refine returnsInHanded_of_change (C := Try.checked) own started (by kernel_rfl) Try.func4
    (ChangeSpec.witness6 (enc := enc) (C := Try.checked) false ⟨#[], #[.slice none 0 0], []⟩ 8 (by kernel_rfl) (by kernel_rfl) (by kernel_rfl) (by kernel_rfl)) ?_
  intro W base args ds gs before hval0 hW _ hsz
  have hval : ∀ (j : Nat) t v, Try.f4.params[j]? = some t → args[j]? = some v → Value.okWide Try.prog W .any base t v := hval0
  have hW' := hW
  obtain ⟨p, q, hA0, hV, rfl, hfz, hnd⟩ := hW
  have hA : DataW.TrodAll enc Try.prog W 0 (fun _ => true) true Try.f4.params.toList args.toList ds p := hA0
  rw [Try.params4] at hA hval
  obtain ⟨v0, vs0, d0, ds0, p0, q0, hargs, rfl, rfl, h0, r0⟩ := trodAll_cons hA
  obtain ⟨rfl, rfl, rfl⟩ := trodAll_nil r0
  obtain rfl : args = #[v0] := by cases args; simp_all
  obtain ⟨a0b, a0⟩ := open_bytes (e := 5) Try.underlying23 Try.underlying5 (by kernel_rfl) (hval 0 23 v0 rfl rfl) h0
  refine (gets_walk _ _ W a0).mono fun e W' ⟨he, bel⟩ => ?_
  subst he
  exact ⟨_, rfl, law_post (tb := 4) laidOut (by kernel_rfl) Try.underlying4 (by rfl) rfl (by intro xs hxs; match xs, hxs with | [x0], _ => rfl) hW' bel⟩

theorem over : Rows.wireGetsRow.holds Try.pinned (OpenSpec.ofChange Rows.wireGetsSpec) :=
  OpenClaim.holds_of_wide 4 Try.f4 rfl rfl rfl rfl rfl rfl rfl ⟨rfl, rfl, rfl, rfl, rfl⟩ rfl rfl rfl rfl rfl (by kernel_rfl) Try.func4 (by kernel_rfl)
    (of_decide_eq_true (by kernel_rfl)) (by unfold Func.isWrapper; rw [if_neg (of_decide_eq_false (by kernel_rfl))]; exact ⟨rfl, rfl⟩)
    (fun os started H enc _ => lifted os started H enc)
end wireGetsRow

theorem wireGets_holds : Rows.WireGetsSaid := wireGetsRow.over
#print axioms wireGets_holds

end Go.Proofs.Ytmdggbniicobdaa
