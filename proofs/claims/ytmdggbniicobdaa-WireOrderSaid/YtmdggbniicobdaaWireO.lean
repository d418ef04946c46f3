/- WireOrder: as numbers are less, so are their eight bytes; as they are the same, so are the bytes. -/
import Derived.Test.YtmdggbniicobdaaWireK
import Derived.Test.YtmdggbniicobdaaWireP
import Derived.Test.YtmdggbniicobdaaPosts
import Derived.Test.YtmdggbniicobdaaRows
namespace Go.Proofs.Ytmdggbniicobdaa
open Go Go.RowKit

set_option maxRecDepth 100000 in
set_option maxHeartbeats 2000000 in
theorem order_walk (a b : BitVec 64) (w : World) : Calls Try.prog 5 #[U a, U b] w fun e w' => e = .returned (.bool true) ∧ Kept w w' := by
  have hless := putB8_less a b
  have heq := putB8_inj a b
  go_enter Try.func5, Try.ntmps5
  go_wp2_with fail
  refine wp_region_posts 27 (fun i (v : Value) w' => match i with | 0 => v = U a | 1 => v = U b | 2 => v = .bool (decide (a < b)) | 3 => v = U a | 4 => Sl w' v ((putB a 8).length) (bcells (putB a 8)) | 5 => v = Str (putB a 8) | 6 => v = U b | 7 => Sl w' v ((putB b 8).length) (bcells (putB b 8)) | 8 => v = Str (putB b 8) | 9 => v = .bool (decide (a < b)) | 10 => v = .bool true | 11 => v = .bool true | 12 => v = U a | 13 => v = U b | 14 => v = .bool (a == b) | 15 => v = U a | 16 => Sl w' v ((putB a 8).length) (bcells (putB a 8)) | 17 => v = Str (putB a 8) | 18 => v = U b | 19 => Sl w' v ((putB b 8).length) (bcells (putB b 8)) | 20 => v = Str (putB b 8) | 21 => v = .bool (a == b) | 22 => v = .bool true | 23 => v = .bool true | 24 => v = .bool true | 25 => v = .bool true | 26 => v = .bool true | _ => True) (by kernel_rfl) (by kernel_rfl) ?_ ?_ ?_
  · intro i v w1 w2 h hk
    match i, h with
    | 0, h => exact h
    | 1, h => exact h
    | 2, h => exact h
    | 3, h => exact h
    | 4, h => exact h.kept hk
    | 5, h => exact h
    | 6, h => exact h
    | 7, h => exact h.kept hk
    | 8, h => exact h
    | 9, h => exact h
    | 10, h => exact h
    | 11, h => exact h
    | 12, h => exact h
    | 13, h => exact h
    | 14, h => exact h
    | 15, h => exact h
    | 16, h => exact h.kept hk
    | 17, h => exact h
    | 18, h => exact h
    | 19, h => exact h.kept hk
    | 20, h => exact h
    | 21, h => exact h
    | 22, h => exact h
    | 23, h => exact h
    | 24, h => exact h
    | 25, h => exact h
    | 26, h => exact h
    | _ + 27, _ => trivial
  · intro i o hi ho x w1 hw hpre K hK
    match i, hi, ho with
    | 0, _, ho =>
      have e := Option.some.inj ho; subst e
      have hKK : ∀ (v : Value) (w'' : World), Kept w1 w'' → (v = U a) → K _ w'' := fun v w'' h1 h2 => hK v w'' h1 h2
      clear hK hpre
      simp only [putAll, dstOf, List.getElem?_toArray, List.getElem?_cons_zero, List.getElem?_cons_succ, Option.bind_some, Act.put, List.setIfInBounds_toArray, List.set_cons_zero, List.set_cons_succ] at hKK ⊢
      refine (if_pos (by rfl)).mpr ?_
      go_wp2
      exact hKK _ _ (Below.refl _ _) rfl
    | 1, _, ho =>
      have e := Option.some.inj ho; subst e
      have hKK : ∀ (v : Value) (w'' : World), Kept w1 w'' → (v = U b) → K _ w'' := fun v w'' h1 h2 => hK v w'' h1 h2
      clear hK hpre
      simp only [putAll, dstOf, List.getElem?_toArray, List.getElem?_cons_zero, List.getElem?_cons_succ, Option.bind_some, Act.put, List.setIfInBounds_toArray, List.set_cons_zero, List.set_cons_succ] at hKK ⊢
      refine (if_pos (by rfl)).mpr ?_
      go_wp2
      exact hKK _ _ (Below.refl _ _) rfl
    | 2, _, ho =>
      have e := Option.some.inj ho; subst e
      have p0 : x 0 = U a := hpre 0 (by kernel_rfl)
      have p1 : x 1 = U b := hpre 1 (by kernel_rfl)
      have hKK : ∀ (v : Value) (w'' : World), Kept w1 w'' → (v = .bool (decide (a < b))) → K _ w'' := fun v w'' h1 h2 => hK v w'' h1 h2
      clear hK hpre
      simp only [putAll, dstOf, List.getElem?_toArray, List.getElem?_cons_zero, List.getElem?_cons_succ, Option.bind_some, Act.put, List.setIfInBounds_toArray, List.set_cons_zero, List.set_cons_succ] at hKK ⊢
      simp only [p0, p1] at hKK ⊢
      clear p0 p1
      refine (if_pos (by rfl)).mpr ?_
      go_wp2
      exact hKK _ _ (Below.refl _ _) rfl
    | 3, _, ho =>
      have e := Option.some.inj ho; subst e
      have hKK : ∀ (v : Value) (w'' : World), Kept w1 w'' → (v = U a) → K _ w'' := fun v w'' h1 h2 => hK v w'' h1 h2
      clear hK hpre
      simp only [putAll, dstOf, List.getElem?_toArray, List.getElem?_cons_zero, List.getElem?_cons_succ, Option.bind_some, Act.put, List.setIfInBounds_toArray, List.set_cons_zero, List.set_cons_succ] at hKK ⊢
      refine (if_pos (by rfl)).mpr ?_
      go_wp2
      exact hKK _ _ (Below.refl _ _) rfl
    | 4, _, ho =>
      have e := Option.some.inj ho; subst e
      have p3 : x 3 = U a := hpre 3 (by kernel_rfl)
      have hKK : ∀ (v : Value) (w'' : World), Kept w1 w'' → (Sl w'' v ((putB a 8).length) (bcells (putB a 8))) → K _ w'' := fun v w'' h1 h2 => hK v w'' h1 h2
      clear hK hpre
      simp only [putAll, dstOf, List.getElem?_toArray, List.getElem?_cons_zero, List.getElem?_cons_succ, Option.bind_some, Act.put, List.setIfInBounds_toArray, List.set_cons_zero, List.set_cons_succ] at hKK ⊢
      simp only [p3] at hKK ⊢
      clear p3
      refine (if_pos (by rfl)).mpr ?_
      go_wp2_with fail
      refine (put_some _ 8 (by omega) (by omega) _).mono ?_
      rintro e w2 ⟨r, rfl, hown, hk2⟩
      have hsl := Sl.of_own hown
      clear hown
      go_wp2
      exact hKK _ _ hk2 (by rw [putB_length]; exact hsl)
    | 5, _, ho =>
      have e := Option.some.inj ho; subst e
      have p4 : Sl w1 (x 4) ((putB a 8).length) (bcells (putB a 8)) := hpre 4 (by kernel_rfl)
      have hKK : ∀ (v : Value) (w'' : World), Kept w1 w'' → (v = Str (putB a 8)) → K _ w'' := fun v w'' h1 h2 => hK v w'' h1 h2
      clear hK hpre
      simp only [putAll, dstOf, List.getElem?_toArray, List.getElem?_cons_zero, List.getElem?_cons_succ, Option.bind_some, Act.put, List.setIfInBounds_toArray, List.set_cons_zero, List.set_cons_succ] at hKK ⊢
      refine (if_pos (by rfl)).mpr ?_
      have hcv := conv_bytes (P := Try.prog) w1 (src := 23) (dst := 9) Try.underlying23 Try.underlying5 Try.underlying9 p4
      go_wp2
      exact hKK _ _ (Below.refl _ _) rfl
    | 6, _, ho =>
      have e := Option.some.inj ho; subst e
      have hKK : ∀ (v : Value) (w'' : World), Kept w1 w'' → (v = U b) → K _ w'' := fun v w'' h1 h2 => hK v w'' h1 h2
      clear hK hpre
      simp only [putAll, dstOf, List.getElem?_toArray, List.getElem?_cons_zero, List.getElem?_cons_succ, Option.bind_some, Act.put, List.setIfInBounds_toArray, List.set_cons_zero, List.set_cons_succ] at hKK ⊢
      refine (if_pos (by rfl)).mpr ?_
      go_wp2
      exact hKK _ _ (Below.refl _ _) rfl
    | 7, _, ho =>
      have e := Option.some.inj ho; subst e
      have p6 : x 6 = U b := hpre 6 (by kernel_rfl)
      have hKK : ∀ (v : Value) (w'' : World), Kept w1 w'' → (Sl w'' v ((putB b 8).length) (bcells (putB b 8))) → K _ w'' := fun v w'' h1 h2 => hK v w'' h1 h2
      clear hK hpre
      simp only [putAll, dstOf, List.getElem?_toArray, List.getElem?_cons_zero, List.getElem?_cons_succ, Option.bind_some, Act.put, List.setIfInBounds_toArray, List.set_cons_zero, List.set_cons_succ] at hKK ⊢
      simp only [p6] at hKK ⊢
      clear p6
      refine (if_pos (by rfl)).mpr ?_
      go_wp2_with fail
      refine (put_some _ 8 (by omega) (by omega) _).mono ?_
      rintro e w2 ⟨r, rfl, hown, hk2⟩
      have hsl := Sl.of_own hown
      clear hown
      go_wp2
      exact hKK _ _ hk2 (by rw [putB_length]; exact hsl)
    | 8, _, ho =>
      have e := Option.some.inj ho; subst e
      have p7 : Sl w1 (x 7) ((putB b 8).length) (bcells (putB b 8)) := hpre 7 (by kernel_rfl)
      have hKK : ∀ (v : Value) (w'' : World), Kept w1 w'' → (v = Str (putB b 8)) → K _ w'' := fun v w'' h1 h2 => hK v w'' h1 h2
      clear hK hpre
      simp only [putAll, dstOf, List.getElem?_toArray, List.getElem?_cons_zero, List.getElem?_cons_succ, Option.bind_some, Act.put, List.setIfInBounds_toArray, List.set_cons_zero, List.set_cons_succ] at hKK ⊢
      refine (if_pos (by rfl)).mpr ?_
      have hcv := conv_bytes (P := Try.prog) w1 (src := 23) (dst := 9) Try.underlying23 Try.underlying5 Try.underlying9 p7
      go_wp2
      exact hKK _ _ (Below.refl _ _) rfl
    | 9, _, ho =>
      have e := Option.some.inj ho; subst e
      have p5 : x 5 = Str (putB a 8) := hpre 5 (by kernel_rfl)
      have p8 : x 8 = Str (putB b 8) := hpre 8 (by kernel_rfl)
      have hKK : ∀ (v : Value) (w'' : World), Kept w1 w'' → (v = .bool (decide (a < b))) → K _ w'' := fun v w'' h1 h2 => hK v w'' h1 h2
      clear hK hpre
      simp only [putAll, dstOf, List.getElem?_toArray, List.getElem?_cons_zero, List.getElem?_cons_succ, Option.bind_some, Act.put, List.setIfInBounds_toArray, List.set_cons_zero, List.set_cons_succ] at hKK ⊢
      simp only [p5, p8] at hKK ⊢
      clear p5 p8
      refine (if_pos (by rfl)).mpr ?_
      go_wp2
      exact hKK _ _ (Below.refl _ _) rfl
    | 10, _, ho =>
      have e := Option.some.inj ho; subst e
      have p2 : x 2 = .bool (decide (a < b)) := hpre 2 (by kernel_rfl)
      have p9 : x 9 = .bool (decide (a < b)) := hpre 9 (by kernel_rfl)
      have hKK : ∀ (v : Value) (w'' : World), Kept w1 w'' → (v = .bool true) → K _ w'' := fun v w'' h1 h2 => hK v w'' h1 h2
      clear hK hpre
      simp only [putAll, dstOf, List.getElem?_toArray, List.getElem?_cons_zero, List.getElem?_cons_succ, Option.bind_some, Act.put, List.setIfInBounds_toArray, List.set_cons_zero, List.set_cons_succ] at hKK ⊢
      simp only [p2, p9] at hKK ⊢
      clear p2 p9
      refine (if_pos (by rfl)).mpr ?_
      go_wp2
      exact hKK _ _ (Below.refl _ _) rfl
    | 11, _, ho =>
      have e := Option.some.inj ho; subst e
      have p10 : x 10 = .bool true := hpre 10 (by kernel_rfl)
      have hKK : ∀ (v : Value) (w'' : World), Kept w1 w'' → (v = .bool true) → K _ w'' := fun v w'' h1 h2 => hK v w'' h1 h2
      clear hK hpre
      simp only [putAll, dstOf, List.getElem?_toArray, List.getElem?_cons_zero, List.getElem?_cons_succ, Option.bind_some, Act.put, List.setIfInBounds_toArray, List.set_cons_zero, List.set_cons_succ] at hKK ⊢
      simp only [p10] at hKK ⊢
      clear p10
      refine (if_pos (by rfl)).mpr ?_
      go_wp2
      exact hKK _ _ (Below.refl _ _) rfl
    | 12, _, ho =>
      have e := Option.some.inj ho; subst e
      have p11 : x 11 = .bool true := hpre 11 (by kernel_rfl)
      have hKK : ∀ (v : Value) (w'' : World), Kept w1 w'' → (v = U a) → K _ w'' := fun v w'' h1 h2 => hK v w'' h1 h2
      clear hK hpre
      simp only [putAll, dstOf, List.getElem?_toArray, List.getElem?_cons_zero, List.getElem?_cons_succ, Option.bind_some, Act.put, List.setIfInBounds_toArray, List.set_cons_zero, List.set_cons_succ] at hKK ⊢
      simp only [p11] at hKK ⊢
      clear p11
      refine (if_pos (by rfl)).mpr ?_
      go_wp2
      exact hKK _ _ (Below.refl _ _) rfl
    | 13, _, ho =>
      have e := Option.some.inj ho; subst e
      have p11 : x 11 = .bool true := hpre 11 (by kernel_rfl)
      have hKK : ∀ (v : Value) (w'' : World), Kept w1 w'' → (v = U b) → K _ w'' := fun v w'' h1 h2 => hK v w'' h1 h2
      clear hK hpre
      simp only [putAll, dstOf, List.getElem?_toArray, List.getElem?_cons_zero, List.getElem?_cons_succ, Option.bind_some, Act.put, List.setIfInBounds_toArray, List.set_cons_zero, List.set_cons_succ] at hKK ⊢
      simp only [p11] at hKK ⊢
      clear p11
      refine (if_pos (by rfl)).mpr ?_
      go_wp2
      exact hKK _ _ (Below.refl _ _) rfl
    | 14, _, ho =>
      have e := Option.some.inj ho; subst e
      have p11 : x 11 = .bool true := hpre 11 (by kernel_rfl)
      have p12 : x 12 = U a := hpre 12 (by kernel_rfl)
      have p13 : x 13 = U b := hpre 13 (by kernel_rfl)
      have hKK : ∀ (v : Value) (w'' : World), Kept w1 w'' → (v = .bool (a == b)) → K _ w'' := fun v w'' h1 h2 => hK v w'' h1 h2
      clear hK hpre
      simp only [putAll, dstOf, List.getElem?_toArray, List.getElem?_cons_zero, List.getElem?_cons_succ, Option.bind_some, Act.put, List.setIfInBounds_toArray, List.set_cons_zero, List.set_cons_succ] at hKK ⊢
      simp only [p11, p12, p13] at hKK ⊢
      clear p11 p12 p13
      refine (if_pos (by rfl)).mpr ?_
      go_wp2
      exact hKK _ _ (Below.refl _ _) rfl
    | 15, _, ho =>
      have e := Option.some.inj ho; subst e
      have p11 : x 11 = .bool true := hpre 11 (by kernel_rfl)
      have hKK : ∀ (v : Value) (w'' : World), Kept w1 w'' → (v = U a) → K _ w'' := fun v w'' h1 h2 => hK v w'' h1 h2
      clear hK hpre
      simp only [putAll, dstOf, List.getElem?_toArray, List.getElem?_cons_zero, List.getElem?_cons_succ, Option.bind_some, Act.put, List.setIfInBounds_toArray, List.set_cons_zero, List.set_cons_succ] at hKK ⊢
      simp only [p11] at hKK ⊢
      clear p11
      refine (if_pos (by rfl)).mpr ?_
      go_wp2
      exact hKK _ _ (Below.refl _ _) rfl
    | 16, _, ho =>
      have e := Option.some.inj ho; subst e
      have p11 : x 11 = .bool true := hpre 11 (by kernel_rfl)
      have p15 : x 15 = U a := hpre 15 (by kernel_rfl)
      have hKK : ∀ (v : Value) (w'' : World), Kept w1 w'' → (Sl w'' v ((putB a 8).length) (bcells (putB a 8))) → K _ w'' := fun v w'' h1 h2 => hK v w'' h1 h2
      clear hK hpre
      simp only [putAll, dstOf, List.getElem?_toArray, List.getElem?_cons_zero, List.getElem?_cons_succ, Option.bind_some, Act.put, List.setIfInBounds_toArray, List.set_cons_zero, List.set_cons_succ] at hKK ⊢
      simp only [p11, p15] at hKK ⊢
      clear p11 p15
      refine (if_pos (by rfl)).mpr ?_
      go_wp2_with fail
      refine (put_some _ 8 (by omega) (by omega) _).mono ?_
      rintro e w2 ⟨r, rfl, hown, hk2⟩
      have hsl := Sl.of_own hown
      clear hown
      go_wp2
      exact hKK _ _ hk2 (by rw [putB_length]; exact hsl)
    | 17, _, ho =>
      have e := Option.some.inj ho; subst e
      have p11 : x 11 = .bool true := hpre 11 (by kernel_rfl)
      have p16 : Sl w1 (x 16) ((putB a 8).length) (bcells (putB a 8)) := hpre 16 (by kernel_rfl)
      have hKK : ∀ (v : Value) (w'' : World), Kept w1 w'' → (v = Str (putB a 8)) → K _ w'' := fun v w'' h1 h2 => hK v w'' h1 h2
      clear hK hpre
      simp only [putAll, dstOf, List.getElem?_toArray, List.getElem?_cons_zero, List.getElem?_cons_succ, Option.bind_some, Act.put, List.setIfInBounds_toArray, List.set_cons_zero, List.set_cons_succ] at hKK ⊢
      simp only [p11] at hKK ⊢
      clear p11
      refine (if_pos (by rfl)).mpr ?_
      have hcv := conv_bytes (P := Try.prog) w1 (src := 23) (dst := 9) Try.underlying23 Try.underlying5 Try.underlying9 p16
      go_wp2
      exact hKK _ _ (Below.refl _ _) rfl
    | 18, _, ho =>
      have e := Option.some.inj ho; subst e
      have p11 : x 11 = .bool true := hpre 11 (by kernel_rfl)
      have hKK : ∀ (v : Value) (w'' : World), Kept w1 w'' → (v = U b) → K _ w'' := fun v w'' h1 h2 => hK v w'' h1 h2
      clear hK hpre
      simp only [putAll, dstOf, List.getElem?_toArray, List.getElem?_cons_zero, List.getElem?_cons_succ, Option.bind_some, Act.put, List.setIfInBounds_toArray, List.set_cons_zero, List.set_cons_succ] at hKK ⊢
      simp only [p11] at hKK ⊢
      clear p11
      refine (if_pos (by rfl)).mpr ?_
      go_wp2
      exact hKK _ _ (Below.refl _ _) rfl
    | 19, _, ho =>
      have e := Option.some.inj ho; subst e
      have p11 : x 11 = .bool true := hpre 11 (by kernel_rfl)
      have p18 : x 18 = U b := hpre 18 (by kernel_rfl)
      have hKK : ∀ (v : Value) (w'' : World), Kept w1 w'' → (Sl w'' v ((putB b 8).length) (bcells (putB b 8))) → K _ w'' := fun v w'' h1 h2 => hK v w'' h1 h2
      clear hK hpre
      simp only [putAll, dstOf, List.getElem?_toArray, List.getElem?_cons_zero, List.getElem?_cons_succ, Option.bind_some, Act.put, List.setIfInBounds_toArray, List.set_cons_zero, List.set_cons_succ] at hKK ⊢
      simp only [p11, p18] at hKK ⊢
      clear p11 p18
      refine (if_pos (by rfl)).mpr ?_
      go_wp2_with fail
      refine (put_some _ 8 (by omega) (by omega) _).mono ?_
      rintro e w2 ⟨r, rfl, hown, hk2⟩
      have hsl := Sl.of_own hown
      clear hown
      go_wp2
      exact hKK _ _ hk2 (by rw [putB_length]; exact hsl)
    | 20, _, ho =>
      have e := Option.some.inj ho; subst e
      have p11 : x 11 = .bool true := hpre 11 (by kernel_rfl)
      have p19 : Sl w1 (x 19) ((putB b 8).length) (bcells (putB b 8)) := hpre 19 (by kernel_rfl)
      have hKK : ∀ (v : Value) (w'' : World), Kept w1 w'' → (v = Str (putB b 8)) → K _ w'' := fun v w'' h1 h2 => hK v w'' h1 h2
      clear hK hpre
      simp only [putAll, dstOf, List.getElem?_toArray, List.getElem?_cons_zero, List.getElem?_cons_succ, Option.bind_some, Act.put, List.setIfInBounds_toArray, List.set_cons_zero, List.set_cons_succ] at hKK ⊢
      simp only [p11] at hKK ⊢
      clear p11
      refine (if_pos (by rfl)).mpr ?_
      have hcv := conv_bytes (P := Try.prog) w1 (src := 23) (dst := 9) Try.underlying23 Try.underlying5 Try.underlying9 p19
      go_wp2
      exact hKK _ _ (Below.refl _ _) rfl
    | 21, _, ho =>
      have e := Option.some.inj ho; subst e
      have p11 : x 11 = .bool true := hpre 11 (by kernel_rfl)
      have p17 : x 17 = Str (putB a 8) := hpre 17 (by kernel_rfl)
      have p20 : x 20 = Str (putB b 8) := hpre 20 (by kernel_rfl)
      have hKK : ∀ (v : Value) (w'' : World), Kept w1 w'' → (v = .bool (a == b)) → K _ w'' := fun v w'' h1 h2 => hK v w'' h1 h2
      clear hK hpre
      simp only [putAll, dstOf, List.getElem?_toArray, List.getElem?_cons_zero, List.getElem?_cons_succ, Option.bind_some, Act.put, List.setIfInBounds_toArray, List.set_cons_zero, List.set_cons_succ] at hKK ⊢
      simp only [p11, p17, p20] at hKK ⊢
      clear p11 p17 p20
      refine (if_pos (by rfl)).mpr ?_
      go_wp2
      exact hKK _ _ (Below.refl _ _) rfl
    | 22, _, ho =>
      have e := Option.some.inj ho; subst e
      have p11 : x 11 = .bool true := hpre 11 (by kernel_rfl)
      have p14 : x 14 = .bool (a == b) := hpre 14 (by kernel_rfl)
      have p21 : x 21 = .bool (a == b) := hpre 21 (by kernel_rfl)
      have hKK : ∀ (v : Value) (w'' : World), Kept w1 w'' → (v = .bool true) → K _ w'' := fun v w'' h1 h2 => hK v w'' h1 h2
      clear hK hpre
      simp only [putAll, dstOf, List.getElem?_toArray, List.getElem?_cons_zero, List.getElem?_cons_succ, Option.bind_some, Act.put, List.setIfInBounds_toArray, List.set_cons_zero, List.set_cons_succ] at hKK ⊢
      simp only [p11, p14, p21] at hKK ⊢
      clear p11 p14 p21
      refine (if_pos (by rfl)).mpr ?_
      go_wp2
      exact hKK _ _ (Below.refl _ _) rfl
    | 23, _, ho =>
      have e := Option.some.inj ho; subst e
      have p11 : x 11 = .bool true := hpre 11 (by kernel_rfl)
      have p22 : x 22 = .bool true := hpre 22 (by kernel_rfl)
      have hKK : ∀ (v : Value) (w'' : World), Kept w1 w'' → (v = .bool true) → K _ w'' := fun v w'' h1 h2 => hK v w'' h1 h2
      clear hK hpre
      simp only [putAll, dstOf, List.getElem?_toArray, List.getElem?_cons_zero, List.getElem?_cons_succ, Option.bind_some, Act.put, List.setIfInBounds_toArray, List.set_cons_zero, List.set_cons_succ] at hKK ⊢
      simp only [p11, p22] at hKK ⊢
      clear p11 p22
      refine (if_pos (by rfl)).mpr ?_
      go_wp2
      exact hKK _ _ (Below.refl _ _) rfl
    | 24, _, ho =>
      have e := Option.some.inj ho; subst e
      have p23 : x 23 = .bool true := hpre 23 (by kernel_rfl)
      have hKK : ∀ (v : Value) (w'' : World), Kept w1 w'' → (v = .bool true) → K _ w'' := fun v w'' h1 h2 => hK v w'' h1 h2
      clear hK hpre
      simp only [putAll, dstOf, List.getElem?_toArray, List.getElem?_cons_zero, List.getElem?_cons_succ, Option.bind_some, Act.put, List.setIfInBounds_toArray, List.set_cons_zero, List.set_cons_succ] at hKK ⊢
      simp only [p23] at hKK ⊢
      clear p23
      refine (if_pos (by rfl)).mpr ?_
      go_wp2
      exact hKK _ _ (Below.refl _ _) rfl
    | 25, _, ho =>
      have e := Option.some.inj ho; subst e
      have p24 : x 24 = .bool true := hpre 24 (by kernel_rfl)
      have hKK : ∀ (v : Value) (w'' : World), Kept w1 w'' → (v = .bool true) → K _ w'' := fun v w'' h1 h2 => hK v w'' h1 h2
      clear hK hpre
      simp only [putAll, dstOf, List.getElem?_toArray, List.getElem?_cons_zero, List.getElem?_cons_succ, Option.bind_some, Act.put, List.setIfInBounds_toArray, List.set_cons_zero, List.set_cons_succ] at hKK ⊢
      simp only [p24] at hKK ⊢
      clear p24
      refine (if_pos (by rfl)).mpr ?_
      go_wp2_with fail
      refine (known_any _).mono ?_
      rintro e w2 ⟨rfl, hk2⟩
      go_wp2
      exact hKK _ _ hk2 rfl
    | 26, _, ho =>
      have e := Option.some.inj ho; subst e
      have p24 : x 24 = .bool true := hpre 24 (by kernel_rfl)
      have p25 : x 25 = .bool true := hpre 25 (by kernel_rfl)
      have hKK : ∀ (v : Value) (w'' : World), Kept w1 w'' → (v = .bool true) → K _ w'' := fun v w'' h1 h2 => hK v w'' h1 h2
      clear hK hpre
      simp only [putAll, dstOf, List.getElem?_toArray, List.getElem?_cons_zero, List.getElem?_cons_succ, Option.bind_some, Act.put, List.setIfInBounds_toArray, List.set_cons_zero, List.set_cons_succ] at hKK ⊢
      simp only [p24, p25] at hKK ⊢
      clear p24 p25
      refine (if_pos (by rfl)).mpr ?_
      go_wp2
      exact hKK _ _ (Below.refl _ _) rfl
    | i + 27, hi, _ => exact absurd hi (by omega)
  · intro x w1 hw hA
    have p0 : x 0 = U a := hA 0 (by omega)
    have p1 : x 1 = U b := hA 1 (by omega)
    have p2 : x 2 = .bool (decide (a < b)) := hA 2 (by omega)
    have p3 : x 3 = U a := hA 3 (by omega)
    have p4 : Sl w1 (x 4) ((putB a 8).length) (bcells (putB a 8)) := hA 4 (by omega)
    have p5 : x 5 = Str (putB a 8) := hA 5 (by omega)
    have p6 : x 6 = U b := hA 6 (by omega)
    have p7 : Sl w1 (x 7) ((putB b 8).length) (bcells (putB b 8)) := hA 7 (by omega)
    have p8 : x 8 = Str (putB b 8) := hA 8 (by omega)
    have p9 : x 9 = .bool (decide (a < b)) := hA 9 (by omega)
    have p10 : x 10 = .bool true := hA 10 (by omega)
    have p11 : x 11 = .bool true := hA 11 (by omega)
    have p12 : x 12 = U a := hA 12 (by omega)
    have p13 : x 13 = U b := hA 13 (by omega)
    have p14 : x 14 = .bool (a == b) := hA 14 (by omega)
    have p15 : x 15 = U a := hA 15 (by omega)
    have p16 : Sl w1 (x 16) ((putB a 8).length) (bcells (putB a 8)) := hA 16 (by omega)
    have p17 : x 17 = Str (putB a 8) := hA 17 (by omega)
    have p18 : x 18 = U b := hA 18 (by omega)
    have p19 : Sl w1 (x 19) ((putB b 8).length) (bcells (putB b 8)) := hA 19 (by omega)
    have p20 : x 20 = Str (putB b 8) := hA 20 (by omega)
    have p21 : x 21 = .bool (a == b) := hA 21 (by omega)
    have p22 : x 22 = .bool true := hA 22 (by omega)
    have p23 : x 23 = .bool true := hA 23 (by omega)
    have p24 : x 24 = .bool true := hA 24 (by omega)
    have p25 : x 25 = .bool true := hA 25 (by omega)
    have p26 : x 26 = .bool true := hA 26 (by omega)
    clear hA
    simp only [List.drop_succ_cons, List.drop_zero, putAll, dstOf, List.getElem?_toArray, List.getElem?_cons_zero, List.getElem?_cons_succ, Option.bind_some, Act.put, List.setIfInBounds_toArray, List.set_cons_zero, List.set_cons_succ]
    simp only [p0, p1, p2, p3, p5, p6, p8, p9, p10, p11, p12, p13, p14, p15, p17, p18, p20, p21, p22, p23, p24, p25, p26]
    clear p0 p1 p2 p3 p5 p6 p8 p9 p10 p11 p12 p13 p14 p15 p17 p18 p20 p21 p22 p23 p24 p25 p26
    go_wp2
    go_ret
    exact ⟨rfl, hw⟩

namespace wireOrderRow
open Go.ChangeShapes Go.WideShapes Go.ChangeAt Go.RowKit
theorem own : ownKnob Try.prog.godebug = none := by kernel_rfl
theorem laidOut : laidOutB Try.prog = true := by kernel_rfl

set_option maxRecDepth 100000 in
theorem lifted (os : Os) (started : os.Started) (H : Type) (enc : TypeId × Value → H) :
    ReturnsInHanded {} Try.checked os 5 .any (Rows.wireOrderSpec.pre6 enc Try.prog Try.f5 Rows.wireOrderRow.domain false) (Rows.wireOrderSpec.post enc Try.prog Try.f5 false true false false) := by
  refine returnsInHanded_of_change (C := Try.checked) own started (by kernel_rfl) Try.func5
    (ChangeSpec.witness6 (enc := enc) (C := Try.checked) false ⟨#[], #[.int .u64 0, .int .u64 0], []⟩ 8 (by kernel_rfl) (by kernel_rfl) (by kernel_rfl) (by kernel_rfl)) ?_
  intro W base args ds gs before hval0 hW _ hsz
  have hval : ∀ (j : Nat) t v, Try.f5.params[j]? = some t → args[j]? = some v → Value.okWide Try.prog W .any base t v := hval0
  have hW' := hW
  obtain ⟨p, q, hA0, hV, rfl, hfz, hnd⟩ := hW
  have hA : DataW.TrodAll enc Try.prog W 0 (fun _ => true) true Try.f5.params.toList args.toList ds p := hA0
  rw [Try.params5] at hA hval
  obtain ⟨v0, vs0, d0, ds0, p0, q0, hargs, rfl, rfl, h0, r0⟩ := trodAll_cons hA
  obtain ⟨v1, vs1, d1, ds1, p1, q1, rfl, rfl, rfl, h1, r1⟩ := trodAll_cons r0
  obtain ⟨rfl, rfl, rfl⟩ := trodAll_nil r1
  obtain rfl : args = #[v0, v1] := by cases args; simp_all
  obtain ⟨a0, rfl⟩ := open_U Try.underlying22 (hval 0 22 v0 rfl rfl) h0
  obtain ⟨a1, rfl⟩ := open_U Try.underlying22 (hval 1 22 v1 rfl rfl) h1
  refine (order_walk a0 a1 W).mono fun e W' ⟨he, bel⟩ => ?_
  subst he
  exact ⟨_, rfl, law_post (tb := 4) laidOut (by kernel_rfl) Try.underlying4 (by rfl) rfl (by intro xs hxs; match xs, hxs with | [x0, x1], _ => rfl) hW' bel⟩

theorem over : Rows.wireOrderRow.holds Try.pinned (OpenSpec.ofChange Rows.wireOrderSpec) :=
  OpenClaim.holds_of_wide 5 Try.f5 rfl rfl rfl rfl rfl rfl rfl ⟨rfl, rfl, rfl, rfl, rfl⟩ rfl rfl rfl rfl rfl (by kernel_rfl) Try.func5 (by kernel_rfl)
    (of_decide_eq_true (by kernel_rfl)) (by unfold Func.isWrapper; rw [if_neg (of_decide_eq_false (by kernel_rfl))]; exact ⟨rfl, rfl⟩)
    (fun os started H enc _ => lifted os started H enc)
end wireOrderRow

theorem wireOrder_holds : Rows.WireOrderSaid := wireOrderRow.over
#print axioms wireOrder_holds

end Go.Proofs.Ytmdggbniicobdaa
