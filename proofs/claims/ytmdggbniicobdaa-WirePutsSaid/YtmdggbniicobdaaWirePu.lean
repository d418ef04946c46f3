/- WirePuts: any number in any number of bytes is as the reference has it, and comes back; a number of bytes below 1 or above 8 gives none. -/
import Derived.Test.YtmdggbniicobdaaWireK
import Derived.Test.YtmdggbniicobdaaWireP
import Derived.Test.YtmdggbniicobdaaPosts
import Derived.Test.YtmdggbniicobdaaRows
namespace Go.Proofs.Ytmdggbniicobdaa
open Go Go.RowKit

set_option maxRecDepth 100000 in
set_option maxHeartbeats 2000000 in
theorem puts_out (v : BitVec 64) (n : Int) (lo : -9223372036854775808 ≤ n) (hi : n ≤ 9223372036854775807) (h : n < 1 ∨ 8 < n) (w : World) : Calls Try.prog 3 #[U v, .int .i64 n] w fun e w' => e = .returned (.bool true) ∧ Kept w w' := by
  by_cases h1 : n < 1
  · clear h
    go_enter Try.func3, Try.ntmps3
    go_wp2_with fail
    refine (put_none _ _ (by omega) (by omega) (by omega) _).mono ?_
    rintro e w1 ⟨rfl, rfl⟩
    go_wp2_with fail
    have hN : Sl w (.slice none 0 0) ([] : List UInt8).length (bcells []) := Sl.nil _
    refine wp_region_posts 7 (fun i (vv : Value) w' => match i with | 0 => vv = .slice none 0 0 | 1 => vv = Str [] | 2 => vv = U v | 3 => vv = .int .i64 n | 4 => vv = .slice none 0 0 | 5 => vv = Str [] | 6 => vv = .bool false | _ => True) (by kernel_rfl) (by kernel_rfl) ?_ ?_ ?_
    · intro i v w1 w2 h hk
      match i, h with
      | 0, h => exact h
      | 1, h => exact h
      | 2, h => exact h
      | 3, h => exact h
      | 4, h => exact h
      | 5, h => exact h
      | 6, h => exact h
      | _ + 7, _ => trivial
    · intro i o hi ho x w1 hw hpre K hK
      match i, hi, ho with
      | 0, _, ho =>
        have e := Option.some.inj ho; subst e
        have hKK : ∀ (vv : Value) (w'' : World), Kept w1 w'' → (vv = .slice none 0 0) → K _ w'' := fun v w'' h1 h2 => hK v w'' h1 h2
        clear hK hpre
        simp only [putAll, dstOf, List.getElem?_toArray, List.getElem?_cons_zero, List.getElem?_cons_succ, Option.bind_some, Act.put, List.setIfInBounds_toArray, List.set_cons_zero, List.set_cons_succ] at hKK ⊢
        refine (if_pos (by rfl)).mpr ?_
        go_wp2
        exact hKK _ _ (Below.refl _ _) rfl
      | 1, _, ho =>
        have e := Option.some.inj ho; subst e
        have p0 : x 0 = .slice none 0 0 := hpre 0 (by kernel_rfl)
        have hKK : ∀ (vv : Value) (w'' : World), Kept w1 w'' → (vv = Str []) → K _ w'' := fun v w'' h1 h2 => hK v w'' h1 h2
        clear hK hpre
        simp only [putAll, dstOf, List.getElem?_toArray, List.getElem?_cons_zero, List.getElem?_cons_succ, Option.bind_some, Act.put, List.setIfInBounds_toArray, List.set_cons_zero, List.set_cons_succ] at hKK ⊢
        simp only [p0] at hKK ⊢
        clear p0
        refine (if_pos (by rfl)).mpr ?_
        have hcv := conv_bytes (P := Try.prog) w1 (src := 23) (dst := 9) Try.underlying23 Try.underlying5 Try.underlying9 (hN.kept hw)
        go_wp2
        exact hKK _ _ (Below.refl _ _) rfl
      | 2, _, ho =>
        have e := Option.some.inj ho; subst e
        have hKK : ∀ (vv : Value) (w'' : World), Kept w1 w'' → (vv = U v) → K _ w'' := fun v w'' h1 h2 => hK v w'' h1 h2
        clear hK hpre
        simp only [putAll, dstOf, List.getElem?_toArray, List.getElem?_cons_zero, List.getElem?_cons_succ, Option.bind_some, Act.put, List.setIfInBounds_toArray, List.set_cons_zero, List.set_cons_succ] at hKK ⊢
        refine (if_pos (by rfl)).mpr ?_
        go_wp2
        exact hKK _ _ (Below.refl _ _) rfl
      | 3, _, ho =>
        have e := Option.some.inj ho; subst e
        have hKK : ∀ (vv : Value) (w'' : World), Kept w1 w'' → (vv = .int .i64 n) → K _ w'' := fun v w'' h1 h2 => hK v w'' h1 h2
        clear hK hpre
        simp only [putAll, dstOf, List.getElem?_toArray, List.getElem?_cons_zero, List.getElem?_cons_succ, Option.bind_some, Act.put, List.setIfInBounds_toArray, List.set_cons_zero, List.set_cons_succ] at hKK ⊢
        refine (if_pos (by rfl)).mpr ?_
        go_wp2
        exact hKK _ _ (Below.refl _ _) rfl
      | 4, _, ho =>
        have e := Option.some.inj ho; subst e
        have p2 : x 2 = U v := hpre 2 (by kernel_rfl)
        have p3 : x 3 = .int .i64 n := hpre 3 (by kernel_rfl)
        have hKK : ∀ (vv : Value) (w'' : World), Kept w1 w'' → (vv = .slice none 0 0) → K _ w'' := fun v w'' h1 h2 => hK v w'' h1 h2
        clear hK hpre
        simp only [putAll, dstOf, List.getElem?_toArray, List.getElem?_cons_zero, List.getElem?_cons_succ, Option.bind_some, Act.put, List.setIfInBounds_toArray, List.set_cons_zero, List.set_cons_succ] at hKK ⊢
        simp only [p2, p3] at hKK ⊢
        clear p2 p3
        refine (if_pos (by rfl)).mpr ?_
        go_wp2_with fail
        refine (rput_none _ _ (by omega) (by omega) (by omega) _).mono ?_
        rintro e w2 ⟨rfl, rfl⟩
        go_wp2
        exact hKK _ _ (Below.refl _ _) rfl
      | 5, _, ho =>
        have e := Option.some.inj ho; subst e
        have p4 : x 4 = .slice none 0 0 := hpre 4 (by kernel_rfl)
        have hKK : ∀ (vv : Value) (w'' : World), Kept w1 w'' → (vv = Str []) → K _ w'' := fun v w'' h1 h2 => hK v w'' h1 h2
        clear hK hpre
        simp only [putAll, dstOf, List.getElem?_toArray, List.getElem?_cons_zero, List.getElem?_cons_succ, Option.bind_some, Act.put, List.setIfInBounds_toArray, List.set_cons_zero, List.set_cons_succ] at hKK ⊢
        simp only [p4] at hKK ⊢
        clear p4
        refine (if_pos (by rfl)).mpr ?_
        have hcv := conv_bytes (P := Try.prog) w1 (src := 23) (dst := 9) Try.underlying23 Try.underlying5 Try.underlying9 (hN.kept hw)
        go_wp2
        exact hKK _ _ (Below.refl _ _) rfl
      | 6, _, ho =>
        have e := Option.some.inj ho; subst e
        have p1 : x 1 = Str [] := hpre 1 (by kernel_rfl)
        have p5 : x 5 = Str [] := hpre 5 (by kernel_rfl)
        have hKK : ∀ (vv : Value) (w'' : World), Kept w1 w'' → (vv = .bool false) → K _ w'' := fun v w'' h1 h2 => hK v w'' h1 h2
        clear hK hpre
        simp only [putAll, dstOf, List.getElem?_toArray, List.getElem?_cons_zero, List.getElem?_cons_succ, Option.bind_some, Act.put, List.setIfInBounds_toArray, List.set_cons_zero, List.set_cons_succ] at hKK ⊢
        simp only [p1, p5] at hKK ⊢
        clear p1 p5
        refine (if_pos (by rfl)).mpr ?_
        go_wp2
        exact hKK _ _ (Below.refl _ _) rfl
      | i + 7, hi, _ => exact absurd hi (by omega)
    · intro x w1 hw hA
      have p0 : x 0 = .slice none 0 0 := hA 0 (by omega)
      have p1 : x 1 = Str [] := hA 1 (by omega)
      have p2 : x 2 = U v := hA 2 (by omega)
      have p3 : x 3 = .int .i64 n := hA 3 (by omega)
      have p4 : x 4 = .slice none 0 0 := hA 4 (by omega)
      have p5 : x 5 = Str [] := hA 5 (by omega)
      have p6 : x 6 = .bool false := hA 6 (by omega)
      clear hA
      simp only [List.drop_succ_cons, List.drop_zero, putAll, dstOf, List.getElem?_toArray, List.getElem?_cons_zero, List.getElem?_cons_succ, Option.bind_some, Act.put, List.setIfInBounds_toArray, List.set_cons_zero, List.set_cons_succ]
      simp only [p0, p1, p2, p3, p4, p5, p6]
      clear p0 p1 p2 p3 p4 p5 p6
      go_wp2_with fail
      refine (get_none _ [] _ (hN.kept hw) (by simp)).mono ?_
      rintro e w2 ⟨rfl, rfl⟩
      go_wp2_with fail
      refine (known_any _).mono ?_
      rintro e w2 ⟨rfl, hk2⟩
      go_wp2
      go_ret
      exact ⟨rfl, hw.of hk2⟩
  · have h2 : 8 < n := by omega
    clear h
    go_enter Try.func3, Try.ntmps3
    go_wp2_with fail
    refine (put_none _ _ (by omega) (by omega) (by omega) _).mono ?_
    rintro e w1 ⟨rfl, rfl⟩
    go_wp2_with fail
    have hN : Sl w (.slice none 0 0) ([] : List UInt8).length (bcells []) := Sl.nil _
    refine wp_region_posts 7 (fun i (vv : Value) w' => match i with | 0 => vv = .slice none 0 0 | 1 => vv = Str [] | 2 => vv = U v | 3 => vv = .int .i64 n | 4 => vv = .slice none 0 0 | 5 => vv = Str [] | 6 => vv = .bool false | _ => True) (by kernel_rfl) (by kernel_rfl) ?_ ?_ ?_
    · intro i v w1 w2 h hk
      match i, h with
      | 0, h => exact h
      | 1, h => exact h
      | 2, h => exact h
      | 3, h => exact h
      | 4, h => exact h
      | 5, h => exact h
      | 6, h => exact h
      | _ + 7, _ => trivial
    · intro i o hi ho x w1 hw hpre K hK
      match i, hi, ho with
      | 0, _, ho =>
        have e := Option.some.inj ho; subst e
        have hKK : ∀ (vv : Value) (w'' : World), Kept w1 w'' → (vv = .slice none 0 0) → K _ w'' := fun v w'' h1 h2 => hK v w'' h1 h2
        clear hK hpre
        simp only [putAll, dstOf, List.getElem?_toArray, List.getElem?_cons_zero, List.getElem?_cons_succ, Option.bind_some, Act.put, List.setIfInBounds_toArray, List.set_cons_zero, List.set_cons_succ] at hKK ⊢
        refine (if_pos (by rfl)).mpr ?_
        go_wp2
        exact hKK _ _ (Below.refl _ _) rfl
      | 1, _, ho =>
        have e := Option.some.inj ho; subst e
        have p0 : x 0 = .slice none 0 0 := hpre 0 (by kernel_rfl)
        have hKK : ∀ (vv : Value) (w'' : World), Kept w1 w'' → (vv = Str []) → K _ w'' := fun v w'' h1 h2 => hK v w'' h1 h2
        clear hK hpre
        simp only [putAll, dstOf, List.getElem?_toArray, List.getElem?_cons_zero, List.getElem?_cons_succ, Option.bind_some, Act.put, List.setIfInBounds_toArray, List.set_cons_zero, List.set_cons_succ] at hKK ⊢
        simp only [p0] at hKK ⊢
        clear p0
        refine (if_pos (by rfl)).mpr ?_
        have hcv := conv_bytes (P := Try.prog) w1 (src := 23) (dst := 9) Try.underlying23 Try.underlying5 Try.underlying9 (hN.kept hw)
        go_wp2
        exact hKK _ _ (Below.refl _ _) rfl
      | 2, _, ho =>
        have e := Option.some.inj ho; subst e
        have hKK : ∀ (vv : Value) (w'' : World), Kept w1 w'' → (vv = U v) → K _ w'' := fun v w'' h1 h2 => hK v w'' h1 h2
        clear hK hpre
        simp only [putAll, dstOf, List.getElem?_toArray, List.getElem?_cons_zero, List.getElem?_cons_succ, Option.bind_some, Act.put, List.setIfInBounds_toArray, List.set_cons_zero, List.set_cons_succ] at hKK ⊢
        refine (if_pos (by rfl)).mpr ?_
        go_wp2
        exact hKK _ _ (Below.refl _ _) rfl
      | 3, _, ho =>
        have e := Option.some.inj ho; subst e
        have hKK : ∀ (vv : Value) (w'' : World), Kept w1 w'' → (vv = .int .i64 n) → K _ w'' := fun v w'' h1 h2 => hK v w'' h1 h2
        clear hK hpre
        simp only [putAll, dstOf, List.getElem?_toArray, List.getElem?_cons_zero, List.getElem?_cons_succ, Option.bind_some, Act.put, List.setIfInBounds_toArray, List.set_cons_zero, List.set_cons_succ] at hKK ⊢
        refine (if_pos (by rfl)).mpr ?_
        go_wp2
        exact hKK _ _ (Below.refl _ _) rfl
      | 4, _, ho =>
        have e := Option.some.inj ho; subst e
        have p2 : x 2 = U v := hpre 2 (by kernel_rfl)
        have p3 : x 3 = .int .i64 n := hpre 3 (by kernel_rfl)
        have hKK : ∀ (vv : Value) (w'' : World), Kept w1 w'' → (vv = .slice none 0 0) → K _ w'' := fun v w'' h1 h2 => hK v w'' h1 h2
        clear hK hpre
        simp only [putAll, dstOf, List.getElem?_toArray, List.getElem?_cons_zero, List.getElem?_cons_succ, Option.bind_some, Act.put, List.setIfInBounds_toArray, List.set_cons_zero, List.set_cons_succ] at hKK ⊢
        simp only [p2, p3] at hKK ⊢
        clear p2 p3
        refine (if_pos (by rfl)).mpr ?_
        go_wp2_with fail
        refine (rput_none _ _ (by omega) (by omega) (by omega) _).mono ?_
        rintro e w2 ⟨rfl, rfl⟩
        go_wp2
        exact hKK _ _ (Below.refl _ _) rfl
      | 5, _, ho =>
        have e := Option.some.inj ho; subst e
        have p4 : x 4 = .slice none 0 0 := hpre 4 (by kernel_rfl)
        have hKK : ∀ (vv : Value) (w'' : World), Kept w1 w'' → (vv = Str []) → K _ w'' := fun v w'' h1 h2 => hK v w'' h1 h2
        clear hK hpre
        simp only [putAll, dstOf, List.getElem?_toArray, List.getElem?_cons_zero, List.getElem?_cons_succ, Option.bind_some, Act.put, List.setIfInBounds_toArray, List.set_cons_zero, List.set_cons_succ] at hKK ⊢
        simp only [p4] at hKK ⊢
        clear p4
        refine (if_pos (by rfl)).mpr ?_
        have hcv := conv_bytes (P := Try.prog) w1 (src := 23) (dst := 9) Try.underlying23 Try.underlying5 Try.underlying9 (hN.kept hw)
        go_wp2
        exact hKK _ _ (Below.refl _ _) rfl
      | 6, _, ho =>
        have e := Option.some.inj ho; subst e
        have p1 : x 1 = Str [] := hpre 1 (by kernel_rfl)
        have p5 : x 5 = Str [] := hpre 5 (by kernel_rfl)
        have hKK : ∀ (vv : Value) (w'' : World), Kept w1 w'' → (vv = .bool false) → K _ w'' := fun v w'' h1 h2 => hK v w'' h1 h2
        clear hK hpre
        simp only [putAll, dstOf, List.getElem?_toArray, List.getElem?_cons_zero, List.getElem?_cons_succ, Option.bind_some, Act.put, List.setIfInBounds_toArray, List.set_cons_zero, List.set_cons_succ] at hKK ⊢
        simp only [p1, p5] at hKK ⊢
        clear p1 p5
        refine (if_pos (by rfl)).mpr ?_
        go_wp2
        exact hKK _ _ (Below.refl _ _) rfl
      | i + 7, hi, _ => exact absurd hi (by omega)
    · intro x w1 hw hA
      have p0 : x 0 = .slice none 0 0 := hA 0 (by omega)
      have p1 : x 1 = Str [] := hA 1 (by omega)
      have p2 : x 2 = U v := hA 2 (by omega)
      have p3 : x 3 = .int .i64 n := hA 3 (by omega)
      have p4 : x 4 = .slice none 0 0 := hA 4 (by omega)
      have p5 : x 5 = Str [] := hA 5 (by omega)
      have p6 : x 6 = .bool false := hA 6 (by omega)
      clear hA
      simp only [List.drop_succ_cons, List.drop_zero, putAll, dstOf, List.getElem?_toArray, List.getElem?_cons_zero, List.getElem?_cons_succ, Option.bind_some, Act.put, List.setIfInBounds_toArray, List.set_cons_zero, List.set_cons_succ]
      simp only [p0, p1, p2, p3, p4, p5, p6]
      clear p0 p1 p2 p3 p4 p5 p6
      go_wp2_with fail
      refine (get_none _ [] _ (hN.kept hw) (by simp)).mono ?_
      rintro e w2 ⟨rfl, rfl⟩
      go_wp2_with fail
      refine (known_any _).mono ?_
      rintro e w2 ⟨rfl, hk2⟩
      go_wp2
      go_ret
      exact ⟨rfl, hw.of hk2⟩

set_option maxRecDepth 100000 in
set_option maxHeartbeats 2000000 in
theorem puts_in (v : BitVec 64) (n : Nat) (h1 : 1 ≤ n) (h8 : n ≤ 8) (w : World) : Calls Try.prog 3 #[U v, .int .i64 n] w fun e w' => e = .returned (.bool true) ∧ Kept w w' := by
  have i1 : (1 : Int) ≤ (n : Int) := by omega
  have i8 : (n : Int) ≤ 8 := by omega
  by_cases h7 : n < 8
  · have i7 : (n : Int) < 8 := by omega
    go_enter Try.func3, Try.ntmps3
    go_wp2_with fail
    refine (put_some _ n (by omega) (by omega) _).mono ?_
    rintro e w0 ⟨r, rfl, hown, hk⟩
    have hr : Sl w0 r (putB v n).length (bcells (putB v n)) := by rw [putB_length]; exact Sl.of_own hown
    clear hown
    go_wp2_with fail
    refine wp_region_posts 7 (fun i (vv : Value) w' => match i with | 0 => vv = r | 1 => vv = Str (putB v n) | 2 => vv = U v | 3 => vv = .int .i64 (n : Nat) | 4 => Sl w' vv ((putB v n).length) (bcells (putB v n)) | 5 => vv = Str (putB v n) | 6 => vv = .bool false | _ => True) (by kernel_rfl) (by kernel_rfl) ?_ ?_ ?_
    · intro i v w1 w2 h hk
      match i, h with
      | 0, h => exact h
      | 1, h => exact h
      | 2, h => exact h
      | 3, h => exact h
      | 4, h => exact h.kept hk
      | 5, h => exact h
      | 6, h => exact h
      | _ + 7, _ => trivial
    · intro i o hi ho x w1 hw hpre K hK
      match i, hi, ho with
      | 0, _, ho =>
        have e := Option.some.inj ho; subst e
        have hKK : ∀ (vv : Value) (w'' : World), Kept w1 w'' → (vv = r) → K _ w'' := fun v w'' h1 h2 => hK v w'' h1 h2
        clear hK hpre
        simp only [putAll, dstOf, List.getElem?_toArray, List.getElem?_cons_zero, List.getElem?_cons_succ, Option.bind_some, Act.put, List.setIfInBounds_toArray, List.set_cons_zero, List.set_cons_succ] at hKK ⊢
        refine (if_pos (by rfl)).mpr ?_
        go_wp2
        exact hKK _ _ (Below.refl _ _) rfl
      | 1, _, ho =>
        have e := Option.some.inj ho; subst e
        have p0 : x 0 = r := hpre 0 (by kernel_rfl)
        have hKK : ∀ (vv : Value) (w'' : World), Kept w1 w'' → (vv = Str (putB v n)) → K _ w'' := fun v w'' h1 h2 => hK v w'' h1 h2
        clear hK hpre
        simp only [putAll, dstOf, List.getElem?_toArray, List.getElem?_cons_zero, List.getElem?_cons_succ, Option.bind_some, Act.put, List.setIfInBounds_toArray, List.set_cons_zero, List.set_cons_succ] at hKK ⊢
        simp only [p0] at hKK ⊢
        clear p0
        refine (if_pos (by rfl)).mpr ?_
        have hcv := conv_bytes (P := Try.prog) w1 (src := 23) (dst := 9) Try.underlying23 Try.underlying5 Try.underlying9 (hr.kept hw)
        go_wp2
        exact hKK _ _ (Below.refl _ _) rfl
      | 2, _, ho =>
        have e := Option.some.inj ho; subst e
        have hKK : ∀ (vv : Value) (w'' : World), Kept w1 w'' → (vv = U v) → K _ w'' := fun v w'' h1 h2 => hK v w'' h1 h2
        clear hK hpre
        simp only [putAll, dstOf, List.getElem?_toArray, List.getElem?_cons_zero, List.getElem?_cons_succ, Option.bind_some, Act.put, List.setIfInBounds_toArray, List.set_cons_zero, List.set_cons_succ] at hKK ⊢
        refine (if_pos (by rfl)).mpr ?_
        go_wp2
        exact hKK _ _ (Below.refl _ _) rfl
      | 3, _, ho =>
        have e := Option.some.inj ho; subst e
        have hKK : ∀ (vv : Value) (w'' : World), Kept w1 w'' → (vv = .int .i64 (n : Nat)) → K _ w'' := fun v w'' h1 h2 => hK v w'' h1 h2
        clear hK hpre
        simp only [putAll, dstOf, List.getElem?_toArray, List.getElem?_cons_zero, List.getElem?_cons_succ, Option.bind_some, Act.put, List.setIfInBounds_toArray, List.set_cons_zero, List.set_cons_succ] at hKK ⊢
        refine (if_pos (by rfl)).mpr ?_
        go_wp2
        exact hKK _ _ (Below.refl _ _) rfl
      | 4, _, ho =>
        have e := Option.some.inj ho; subst e
        have p2 : x 2 = U v := hpre 2 (by kernel_rfl)
        have p3 : x 3 = .int .i64 (n : Nat) := hpre 3 (by kernel_rfl)
        have hKK : ∀ (vv : Value) (w'' : World), Kept w1 w'' → (Sl w'' vv ((putB v n).length) (bcells (putB v n))) → K _ w'' := fun v w'' h1 h2 => hK v w'' h1 h2
        clear hK hpre
        simp only [putAll, dstOf, List.getElem?_toArray, List.getElem?_cons_zero, List.getElem?_cons_succ, Option.bind_some, Act.put, List.setIfInBounds_toArray, List.set_cons_zero, List.set_cons_succ] at hKK ⊢
        simp only [p2, p3] at hKK ⊢
        clear p2 p3
        refine (if_pos (by rfl)).mpr ?_
        go_wp2_with fail
        refine (rput_some _ n (by omega) (by omega) _).mono ?_
        rintro e w2 ⟨r, rfl, hown, hk2⟩
        have hsl := Sl.of_own hown
        clear hown
        go_wp2
        exact hKK _ _ hk2 (by rw [putB_length]; exact hsl)
      | 5, _, ho =>
        have e := Option.some.inj ho; subst e
        have p4 : Sl w1 (x 4) ((putB v n).length) (bcells (putB v n)) := hpre 4 (by kernel_rfl)
        have hKK : ∀ (vv : Value) (w'' : World), Kept w1 w'' → (vv = Str (putB v n)) → K _ w'' := fun v w'' h1 h2 => hK v w'' h1 h2
        clear hK hpre
        simp only [putAll, dstOf, List.getElem?_toArray, List.getElem?_cons_zero, List.getElem?_cons_succ, Option.bind_some, Act.put, List.setIfInBounds_toArray, List.set_cons_zero, List.set_cons_succ] at hKK ⊢
        refine (if_pos (by rfl)).mpr ?_
        have hcv := conv_bytes (P := Try.prog) w1 (src := 23) (dst := 9) Try.underlying23 Try.underlying5 Try.underlying9 p4
        go_wp2
        exact hKK _ _ (Below.refl _ _) rfl
      | 6, _, ho =>
        have e := Option.some.inj ho; subst e
        have p1 : x 1 = Str (putB v n) := hpre 1 (by kernel_rfl)
        have p5 : x 5 = Str (putB v n) := hpre 5 (by kernel_rfl)
        have hKK : ∀ (vv : Value) (w'' : World), Kept w1 w'' → (vv = .bool false) → K _ w'' := fun v w'' h1 h2 => hK v w'' h1 h2
        clear hK hpre
        simp only [putAll, dstOf, List.getElem?_toArray, List.getElem?_cons_zero, List.getElem?_cons_succ, Option.bind_some, Act.put, List.setIfInBounds_toArray, List.set_cons_zero, List.set_cons_succ] at hKK ⊢
        simp only [p1, p5] at hKK ⊢
        clear p1 p5
        refine (if_pos (by rfl)).mpr ?_
        go_wp2
        exact hKK _ _ (Below.refl _ _) rfl
      | i + 7, hi, _ => exact absurd hi (by omega)
    · intro x w1 hw hA
      have p0 : x 0 = r := hA 0 (by omega)
      have p1 : x 1 = Str (putB v n) := hA 1 (by omega)
      have p2 : x 2 = U v := hA 2 (by omega)
      have p3 : x 3 = .int .i64 (n : Nat) := hA 3 (by omega)
      have p4 : Sl w1 (x 4) ((putB v n).length) (bcells (putB v n)) := hA 4 (by omega)
      have p5 : x 5 = Str (putB v n) := hA 5 (by omega)
      have p6 : x 6 = .bool false := hA 6 (by omega)
      clear hA
      simp only [List.drop_succ_cons, List.drop_zero, putAll, dstOf, List.getElem?_toArray, List.getElem?_cons_zero, List.getElem?_cons_succ, Option.bind_some, Act.put, List.setIfInBounds_toArray, List.set_cons_zero, List.set_cons_succ]
      simp only [p0, p1, p2, p3, p5, p6]
      clear p0 p1 p2 p3 p5 p6
      go_wp2_with fail
      refine (get_some _ (putB v n) _ (hr.kept hw) (by rw [putB_length]; omega) (by rw [putB_length]; omega)).mono ?_
      rintro e w2 ⟨rfl, rfl⟩
      have HK := Lib.hid hw
      clear hw p4
      have ht : ((8 : Int) * (n : Int)).toNat = 8 * n := by omega
      have ht2 : (0 : Int) ≤ 8 * (n : Int) := by omega
      have hg := get_low v n (by omega)
      go_wp2_with fail
      refine (known_any _).mono ?_
      rintro e w2 ⟨rfl, hk2⟩
      go_wp2
      go_ret
      exact ⟨rfl, hk.of (HK.out.of hk2)⟩
  · have e8 : n = 8 := by omega
    subst e8
    go_enter Try.func3, Try.ntmps3
    go_wp2_with fail
    refine (put_some _ 8 (by omega) (by omega) _).mono ?_
    rintro e w0 ⟨r, rfl, hown, hk⟩
    have hr : Sl w0 r (putB v 8).length (bcells (putB v 8)) := by rw [putB_length]; exact Sl.of_own hown
    clear hown
    go_wp2_with fail
    refine wp_region_posts 7 (fun i (vv : Value) w' => match i with | 0 => vv = r | 1 => vv = Str (putB v 8) | 2 => vv = U v | 3 => vv = .int .i64 (8 : Nat) | 4 => Sl w' vv ((putB v 8).length) (bcells (putB v 8)) | 5 => vv = Str (putB v 8) | 6 => vv = .bool false | _ => True) (by kernel_rfl) (by kernel_rfl) ?_ ?_ ?_
    · intro i v w1 w2 h hk
      match i, h with
      | 0, h => exact h
      | 1, h => exact h
      | 2, h => exact h
      | 3, h => exact h
      | 4, h => exact h.kept hk
      | 5, h => exact h
      | 6, h => exact h
      | _ + 7, _ => trivial
    · intro i o hi ho x w1 hw hpre K hK
      match i, hi, ho with
      | 0, _, ho =>
        have e := Option.some.inj ho; subst e
        have hKK : ∀ (vv : Value) (w'' : World), Kept w1 w'' → (vv = r) → K _ w'' := fun v w'' h1 h2 => hK v w'' h1 h2
        clear hK hpre
        simp only [putAll, dstOf, List.getElem?_toArray, List.getElem?_cons_zero, List.getElem?_cons_succ, Option.bind_some, Act.put, List.setIfInBounds_toArray, List.set_cons_zero, List.set_cons_succ] at hKK ⊢
        refine (if_pos (by rfl)).mpr ?_
        go_wp2
        exact hKK _ _ (Below.refl _ _) rfl
      | 1, _, ho =>
        have e := Option.some.inj ho; subst e
        have p0 : x 0 = r := hpre 0 (by kernel_rfl)
        have hKK : ∀ (vv : Value) (w'' : World), Kept w1 w'' → (vv = Str (putB v 8)) → K _ w'' := fun v w'' h1 h2 => hK v w'' h1 h2
        clear hK hpre
        simp only [putAll, dstOf, List.getElem?_toArray, List.getElem?_cons_zero, List.getElem?_cons_succ, Option.bind_some, Act.put, List.setIfInBounds_toArray, List.set_cons_zero, List.set_cons_succ] at hKK ⊢
        simp only [p0] at hKK ⊢
        clear p0
        refine (if_pos (by rfl)).mpr ?_
        have hcv := conv_bytes (P := Try.prog) w1 (src := 23) (dst := 9) Try.underlying23 Try.underlying5 Try.underlying9 (hr.kept hw)
        go_wp2
        exact hKK _ _ (Below.refl _ _) rfl
      | 2, _, ho =>
        have e := Option.some.inj ho; subst e
        have hKK : ∀ (vv : Value) (w'' : World), Kept w1 w'' → (vv = U v) → K _ w'' := fun v w'' h1 h2 => hK v w'' h1 h2
        clear hK hpre
        simp only [putAll, dstOf, List.getElem?_toArray, List.getElem?_cons_zero, List.getElem?_cons_succ, Option.bind_some, Act.put, List.setIfInBounds_toArray, List.set_cons_zero, List.set_cons_succ] at hKK ⊢
        refine (if_pos (by rfl)).mpr ?_
        go_wp2
        exact hKK _ _ (Below.refl _ _) rfl
      | 3, _, ho =>
        have e := Option.some.inj ho; subst e
        have hKK : ∀ (vv : Value) (w'' : World), Kept w1 w'' → (vv = .int .i64 (8 : Nat)) → K _ w'' := fun v w'' h1 h2 => hK v w'' h1 h2
        clear hK hpre
        simp only [putAll, dstOf, List.getElem?_toArray, List.getElem?_cons_zero, List.getElem?_cons_succ, Option.bind_some, Act.put, List.setIfInBounds_toArray, List.set_cons_zero, List.set_cons_succ] at hKK ⊢
        refine (if_pos (by rfl)).mpr ?_
        go_wp2
        exact hKK _ _ (Below.refl _ _) rfl
      | 4, _, ho =>
        have e := Option.some.inj ho; subst e
        have p2 : x 2 = U v := hpre 2 (by kernel_rfl)
        have p3 : x 3 = .int .i64 (8 : Nat) := hpre 3 (by kernel_rfl)
        have hKK : ∀ (vv : Value) (w'' : World), Kept w1 w'' → (Sl w'' vv ((putB v 8).length) (bcells (putB v 8))) → K _ w'' := fun v w'' h1 h2 => hK v w'' h1 h2
        clear hK hpre
        simp only [putAll, dstOf, List.getElem?_toArray, List.getElem?_cons_zero, List.getElem?_cons_succ, Option.bind_some, Act.put, List.setIfInBounds_toArray, List.set_cons_zero, List.set_cons_succ] at hKK ⊢
        simp only [p2, p3] at hKK ⊢
        clear p2 p3
        refine (if_pos (by rfl)).mpr ?_
        go_wp2_with fail
        refine (rput_some _ 8 (by omega) (by omega) _).mono ?_
        rintro e w2 ⟨r, rfl, hown, hk2⟩
        have hsl := Sl.of_own hown
        clear hown
        go_wp2
        exact hKK _ _ hk2 (by rw [putB_length]; exact hsl)
      | 5, _, ho =>
        have e := Option.some.inj ho; subst e
        have p4 : Sl w1 (x 4) ((putB v 8).length) (bcells (putB v 8)) := hpre 4 (by kernel_rfl)
        have hKK : ∀ (vv : Value) (w'' : World), Kept w1 w'' → (vv = Str (putB v 8)) → K _ w'' := fun v w'' h1 h2 => hK v w'' h1 h2
        clear hK hpre
        simp only [putAll, dstOf, List.getElem?_toArray, List.getElem?_cons_zero, List.getElem?_cons_succ, Option.bind_some, Act.put, List.setIfInBounds_toArray, List.set_cons_zero, List.set_cons_succ] at hKK ⊢
        refine (if_pos (by rfl)).mpr ?_
        have hcv := conv_bytes (P := Try.prog) w1 (src := 23) (dst := 9) Try.underlying23 Try.underlying5 Try.underlying9 p4
        go_wp2
        exact hKK _ _ (Below.refl _ _) rfl
      | 6, _, ho =>
        have e := Option.some.inj ho; subst e
        have p1 : x 1 = Str (putB v 8) := hpre 1 (by kernel_rfl)
        have p5 : x 5 = Str (putB v 8) := hpre 5 (by kernel_rfl)
        have hKK : ∀ (vv : Value) (w'' : World), Kept w1 w'' → (vv = .bool false) → K _ w'' := fun v w'' h1 h2 => hK v w'' h1 h2
        clear hK hpre
        simp only [putAll, dstOf, List.getElem?_toArray, List.getElem?_cons_zero, List.getElem?_cons_succ, Option.bind_some, Act.put, List.setIfInBounds_toArray, List.set_cons_zero, List.set_cons_succ] at hKK ⊢
        simp only [p1, p5] at hKK ⊢
        clear p1 p5
        refine (if_pos (by rfl)).mpr ?_
        go_wp2
        exact hKK _ _ (Below.refl _ _) rfl
      | i + 7, hi, _ => exact absurd hi (by omega)
    · intro x w1 hw hA
      have p0 : x 0 = r := hA 0 (by omega)
      have p1 : x 1 = Str (putB v 8) := hA 1 (by omega)
      have p2 : x 2 = U v := hA 2 (by omega)
      have p3 : x 3 = .int .i64 (8 : Nat) := hA 3 (by omega)
      have p4 : Sl w1 (x 4) ((putB v 8).length) (bcells (putB v 8)) := hA 4 (by omega)
      have p5 : x 5 = Str (putB v 8) := hA 5 (by omega)
      have p6 : x 6 = .bool false := hA 6 (by omega)
      clear hA
      simp only [List.drop_succ_cons, List.drop_zero, putAll, dstOf, List.getElem?_toArray, List.getElem?_cons_zero, List.getElem?_cons_succ, Option.bind_some, Act.put, List.setIfInBounds_toArray, List.set_cons_zero, List.set_cons_succ]
      simp only [p0, p1, p2, p3, p5, p6]
      clear p0 p1 p2 p3 p5 p6
      go_wp2_with fail
      refine (get_some _ (putB v 8) _ (hr.kept hw) (by rw [putB_length]; omega) (by rw [putB_length]; omega)).mono ?_
      rintro e w2 ⟨rfl, rfl⟩
      have HK := Lib.hid hw
      clear hw p4
      have hg := getB_putB8 v
      go_wp2_with fail
      refine (known_any _).mono ?_
      rintro e w2 ⟨rfl, hk2⟩
      go_wp2
      go_ret
      exact ⟨rfl, hk.of (HK.out.of hk2)⟩

theorem puts_walk (v : BitVec 64) (n : Int) (lo : -9223372036854775808 ≤ n) (hi : n ≤ 9223372036854775807) (w : World) : Calls Try.prog 3 #[U v, .int .i64 n] w fun e w' => e = .returned (.bool true) ∧ Kept w w' := by
  by_cases h : n < 1 ∨ 8 < n
  · exact puts_out v n lo hi h w
  · obtain ⟨m, rfl⟩ : ∃ m : Nat, n = m := ⟨n.toNat, by omega⟩
    exact puts_in v m (by omega) (by omega) w

namespace wirePutsRow
open Go.ChangeShapes Go.WideShapes Go.ChangeAt Go.RowKit
theorem own : ownKnob Try.prog.godebug = none := by kernel_rfl
theorem laidOut : laidOutB Try.prog = true := by kernel_rfl

set_option maxRecDepth 100000 in
theorem lifted (os : Os) (started : os.Started) (H : Type) (enc : TypeId × Value → H) :
    ReturnsInHanded {} Try.checked os 3 .any (Rows.wirePutsSpec.pre6 enc Try.prog Try.f3 Rows.wirePutsRow.domain false) (Rows.wirePutsSpec.post enc Try.prog Try.f3 false true false false) := by
  refine returnsInHanded_of_change (C := Try.checked) own started (by kernel_rfl) Try.func3
    (ChangeSpec.witness6 (enc := enc) (C := Try.checked) false ⟨#[], #[.int .u64 0, .int .i64 0], []⟩ 8 (by kernel_rfl) (by kernel_rfl) (by kernel_rfl) (by kernel_rfl)) ?_
  intro W base args ds gs before hval0 hW _ hsz
  have hval : ∀ (j : Nat) t v, Try.f3.params[j]? = some t → args[j]? = some v → Value.okWide Try.prog W .any base t v := hval0
  have hW' := hW
  obtain ⟨p, q, hA0, hV, rfl, hfz, hnd⟩ := hW
  have hA : DataW.TrodAll enc Try.prog W 0 (fun _ => true) true Try.f3.params.toList args.toList ds p := hA0
  rw [Try.params3] at hA hval
  obtain ⟨v0, vs0, d0, ds0, p0, q0, hargs, rfl, rfl, h0, r0⟩ := trodAll_cons hA
  obtain ⟨v1, vs1, d1, ds1, p1, q1, rfl, rfl, rfl, h1, r1⟩ := trodAll_cons r0
  obtain ⟨rfl, rfl, rfl⟩ := trodAll_nil r1
  obtain rfl : args = #[v0, v1] := by cases args; simp_all
  obtain ⟨a0, rfl⟩ := open_U Try.underlying22 (hval 0 22 v0 rfl rfl) h0
  obtain ⟨a1, rfl, lo1, hi1⟩ := open_I Try.underlying3 (hval 1 3 v1 rfl rfl) h1
  refine (puts_walk a0 a1 lo1 hi1 W).mono fun e W' ⟨he, bel⟩ => ?_
  subst he
  exact ⟨_, rfl, law_post (tb := 4) laidOut (by kernel_rfl) Try.underlying4 (by rfl) rfl (by intro xs hxs; match xs, hxs with | [x0, x1], _ => rfl) hW' bel⟩

theorem over : Rows.wirePutsRow.holds Try.pinned (OpenSpec.ofChange Rows.wirePutsSpec) :=
  OpenClaim.holds_of_wide 3 Try.f3 rfl rfl rfl rfl rfl rfl rfl ⟨rfl, rfl, rfl, rfl, rfl⟩ rfl rfl rfl rfl rfl (by kernel_rfl) Try.func3 (by kernel_rfl)
    (of_decide_eq_true (by kernel_rfl)) (by unfold Func.isWrapper; rw [if_neg (of_decide_eq_false (by kernel_rfl))]; exact ⟨rfl, rfl⟩)
    (fun os started H enc _ => lifted os started H enc)
end wirePutsRow

theorem wirePuts_holds : Rows.WirePutsSaid := wirePutsRow.over
#print axioms wirePuts_holds

end Go.Proofs.Ytmdggbniicobdaa
