/- FlowBytes: any key's bytes, of any number. -/
import Derived.Test.YtdabdmkkenjdnaaFlowK
import Derived.Test.YtdabdmkkenjdnaaNonce
import Derived.Test.YtdabdmkkenjdnaaPosts
import Derived.Test.YtdabdmkkenjdnaaRows
namespace Go.Proofs.Ytdabdmkkenjdnaa
open Go Go.RowKit

set_option maxRecDepth 100000 in
set_option maxHeartbeats 2000000 in
theorem bytes_some (key : Pair) (n : Nn) (m : Nat) (hm : m ≤ 4000) (w : World) : Calls Try.prog 5 #[Pr key, n.val, .int .i64 m] w fun e w' => e = .returned (.bool true) ∧ Kept w w' := by
  have i0 : (m : Int) ≤ 4000 := by omega
  have hK0 : Blk ((w.alloc (.cells #[U key.1, U key.2] 24)).alloc (.cells #[W n.epoch, W n.slot, U n.version] 34)) w.heap.size #[U key.1, U key.2] 24 := (Blk.new _ _ _).alloc _
  have hN0 : Blk ((w.alloc (.cells #[U key.1, U key.2] 24)).alloc (.cells #[W n.epoch, W n.slot, U n.version] 34)) (w.heap.size + 1) #[W n.epoch, W n.slot, U n.version] 34 := by simpa using Blk.new (w.alloc (.cells #[U key.1, U key.2] 24)) #[W n.epoch, W n.slot, U n.version] 34
  have hk0 : Kept w ((w.alloc (.cells #[U key.1, U key.2] 24)).alloc (.cells #[W n.epoch, W n.slot, U n.version] 34)) := (((Below.refl _ _).alloc (Nat.le_refl _) _).alloc (by simp) _)
  have q0 := hK0.cell 0
  have q1 := hK0.cell 1
  have q2 := hN0.cell 0
  have q3 := hN0.cell 1
  have q4 := hN0.cell 2
  unfold Nn.val
  go_enter Try.func5, Try.ntmps5
  go_wp2_with fail
  refine (sub_any _ _ n _).mono ?_
  rintro e w2 ⟨rfl, hk2⟩
  have hS : Blk (w2.alloc (.cells #[U (sub2 key n).1, U (sub2 key n).2] 24)) w2.heap.size #[U (sub2 key n).1, U (sub2 key n).2] 24 := Blk.new _ _ _
  have hk3 : Kept w2 (w2.alloc (.cells #[U (sub2 key n).1, U (sub2 key n).2] 24)) := (Below.refl _ _).alloc (Nat.le_refl _) _
  have hK := (hK0.kept hk2).kept hk3
  have hN := (hN0.kept hk2).kept hk3
  have g3 := (hk0.of hk2).of hk3
  clear hK0 hN0 hk0 hk2 hk3 q0 q1 q2 q3 q4
  go_wp2_with fail
  refine wp_region_posts 19 (fun i (vv : Value) w' => match i with | 0 => vv = Pr (sub2 key n) | 1 => vv = Pr key | 2 => vv = n.val | 3 => vv = Pr (sub2 key n) | 4 => vv = .bool true | 5 => vv = .bool true | 6 => vv = Pr (sub2 key n) | 7 => vv = .int .i64 m | 8 => Sl w' vv ((flowB (sub2 key n) m).length) (bcells (flowB (sub2 key n) m)) | 9 => vv = Str (flowB (sub2 key n) m) | 10 => vv = Pr (sub2 key n) | 11 => vv = .int .i64 m | 12 => Sl w' vv ((flowB (sub2 key n) m).length) (bcells (flowB (sub2 key n) m)) | 13 => vv = Str (flowB (sub2 key n) m) | 14 => vv = .bool true | 15 => vv = .bool true | 16 => vv = .bool true | 17 => vv = .bool true | 18 => vv = .bool true | _ => True) (by kernel_rfl) (by kernel_rfl) ?_ ?_ ?_
  · intro i v w1 w2 h hk
    match i, h with
    | 0, h => exact h
    | 1, h => exact h
    | 2, h => exact h
    | 3, h => exact h
    | 4, h => exact h
    | 5, h => exact h
    | 6, h => exact h
    | 7, h => exact h
    | 8, h => exact h.kept hk
    | 9, h => exact h
    | 10, h => exact h
    | 11, h => exact h
    | 12, h => exact h.kept hk
    | 13, h => exact h
    | 14, h => exact h
    | 15, h => exact h
    | 16, h => exact h
    | 17, h => exact h
    | 18, h => exact h
    | _ + 19, _ => trivial
  · intro i o hi ho x w1 hw hpre K hK
    match i, hi, ho with
    | 0, _, ho =>
      have e := Option.some.inj ho; subst e
      have hKK : ∀ (vv : Value) (w'' : World), Kept w1 w'' → (vv = Pr (sub2 key n)) → K _ w'' := fun v w'' h1 h2 => hK v w'' h1 h2
      clear hK hpre
      simp only [putAll, dstOf, List.getElem?_toArray, List.getElem?_cons_zero, List.getElem?_cons_succ, Option.bind_some, Act.put, List.setIfInBounds_toArray, List.set_cons_zero, List.set_cons_succ] at hKK ⊢
      refine (if_pos (by rfl)).mpr ?_
      have c := hS.kept hw; have c0 := c.cell 0; have c1 := c.cell 1; clear c
      go_wp2
      exact hKK _ _ (Below.refl _ _) rfl
    | 1, _, ho =>
      have e := Option.some.inj ho; subst e
      have hKK : ∀ (vv : Value) (w'' : World), Kept w1 w'' → (vv = Pr key) → K _ w'' := fun v w'' h1 h2 => hK v w'' h1 h2
      clear hK hpre
      simp only [putAll, dstOf, List.getElem?_toArray, List.getElem?_cons_zero, List.getElem?_cons_succ, Option.bind_some, Act.put, List.setIfInBounds_toArray, List.set_cons_zero, List.set_cons_succ] at hKK ⊢
      refine (if_pos (by rfl)).mpr ?_
      have c := hK.kept hw; have c0 := c.cell 0; have c1 := c.cell 1; clear c
      go_wp2
      exact hKK _ _ (Below.refl _ _) rfl
    | 2, _, ho =>
      have e := Option.some.inj ho; subst e
      have hKK : ∀ (vv : Value) (w'' : World), Kept w1 w'' → (vv = n.val) → K _ w'' := fun v w'' h1 h2 => hK v w'' h1 h2
      clear hK hpre
      simp only [putAll, dstOf, List.getElem?_toArray, List.getElem?_cons_zero, List.getElem?_cons_succ, Option.bind_some, Act.put, List.setIfInBounds_toArray, List.set_cons_zero, List.set_cons_succ] at hKK ⊢
      refine (if_pos (by rfl)).mpr ?_
      have c := hN.kept hw; have c0 := c.cell 0; have c1 := c.cell 1; have c2 := c.cell 2; clear c
      go_wp2
      exact hKK _ _ (Below.refl _ _) rfl
    | 3, _, ho =>
      have e := Option.some.inj ho; subst e
      have p1 : x 1 = Pr key := hpre 1 (by kernel_rfl)
      have p2 : x 2 = n.val := hpre 2 (by kernel_rfl)
      have hKK : ∀ (vv : Value) (w'' : World), Kept w1 w'' → (vv = Pr (sub2 key n)) → K _ w'' := fun v w'' h1 h2 => hK v w'' h1 h2
      clear hK hpre
      simp only [putAll, dstOf, List.getElem?_toArray, List.getElem?_cons_zero, List.getElem?_cons_succ, Option.bind_some, Act.put, List.setIfInBounds_toArray, List.set_cons_zero, List.set_cons_succ] at hKK ⊢
      simp only [p1, p2] at hKK ⊢
      clear p1 p2
      refine (if_pos (by rfl)).mpr ?_
      go_wp2_with fail
      refine (rsub_any _ _ n _).mono ?_
      rintro e w3 ⟨rfl, hk3⟩
      exact hKK _ _ hk3 rfl
    | 4, _, ho =>
      have e := Option.some.inj ho; subst e
      have p0 : x 0 = Pr (sub2 key n) := hpre 0 (by kernel_rfl)
      have p3 : x 3 = Pr (sub2 key n) := hpre 3 (by kernel_rfl)
      have hKK : ∀ (vv : Value) (w'' : World), Kept w1 w'' → (vv = .bool true) → K _ w'' := fun v w'' h1 h2 => hK v w'' h1 h2
      clear hK hpre
      simp only [putAll, dstOf, List.getElem?_toArray, List.getElem?_cons_zero, List.getElem?_cons_succ, Option.bind_some, Act.put, List.setIfInBounds_toArray, List.set_cons_zero, List.set_cons_succ] at hKK ⊢
      simp only [p0, p3] at hKK ⊢
      clear p0 p3
      refine (if_pos (by rfl)).mpr ?_
      go_wp2
      exact hKK _ _ (Below.refl _ _) rfl
    | 5, _, ho =>
      have e := Option.some.inj ho; subst e
      have p4 : x 4 = .bool true := hpre 4 (by kernel_rfl)
      have hKK : ∀ (vv : Value) (w'' : World), Kept w1 w'' → (vv = .bool true) → K _ w'' := fun v w'' h1 h2 => hK v w'' h1 h2
      clear hK hpre
      simp only [putAll, dstOf, List.getElem?_toArray, List.getElem?_cons_zero, List.getElem?_cons_succ, Option.bind_some, Act.put, List.setIfInBounds_toArray, List.set_cons_zero, List.set_cons_succ] at hKK ⊢
      simp only [p4] at hKK ⊢
      clear p4
      refine (if_pos (by rfl)).mpr ?_
      go_wp2
      exact hKK _ _ (Below.refl _ _) rfl
    | 6, _, ho =>
      have e := Option.some.inj ho; subst e
      have p5 : x 5 = .bool true := hpre 5 (by kernel_rfl)
      have hKK : ∀ (vv : Value) (w'' : World), Kept w1 w'' → (vv = Pr (sub2 key n)) → K _ w'' := fun v w'' h1 h2 => hK v w'' h1 h2
      clear hK hpre
      simp only [putAll, dstOf, List.getElem?_toArray, List.getElem?_cons_zero, List.getElem?_cons_succ, Option.bind_some, Act.put, List.setIfInBounds_toArray, List.set_cons_zero, List.set_cons_succ] at hKK ⊢
      simp only [p5] at hKK ⊢
      clear p5
      refine (if_pos (by rfl)).mpr ?_
      have c := hS.kept hw; have c0 := c.cell 0; have c1 := c.cell 1; clear c
      go_wp2
      exact hKK _ _ (Below.refl _ _) rfl
    | 7, _, ho =>
      have e := Option.some.inj ho; subst e
      have p5 : x 5 = .bool true := hpre 5 (by kernel_rfl)
      have hKK : ∀ (vv : Value) (w'' : World), Kept w1 w'' → (vv = .int .i64 m) → K _ w'' := fun v w'' h1 h2 => hK v w'' h1 h2
      clear hK hpre
      simp only [putAll, dstOf, List.getElem?_toArray, List.getElem?_cons_zero, List.getElem?_cons_succ, Option.bind_some, Act.put, List.setIfInBounds_toArray, List.set_cons_zero, List.set_cons_succ] at hKK ⊢
      simp only [p5] at hKK ⊢
      clear p5
      refine (if_pos (by rfl)).mpr ?_
      go_wp2
      exact hKK _ _ (Below.refl _ _) rfl
    | 8, _, ho =>
      have e := Option.some.inj ho; subst e
      have p5 : x 5 = .bool true := hpre 5 (by kernel_rfl)
      have p6 : x 6 = Pr (sub2 key n) := hpre 6 (by kernel_rfl)
      have p7 : x 7 = .int .i64 m := hpre 7 (by kernel_rfl)
      have hKK : ∀ (vv : Value) (w'' : World), Kept w1 w'' → (Sl w'' vv ((flowB (sub2 key n) m).length) (bcells (flowB (sub2 key n) m))) → K _ w'' := fun v w'' h1 h2 => hK v w'' h1 h2
      clear hK hpre
      simp only [putAll, dstOf, List.getElem?_toArray, List.getElem?_cons_zero, List.getElem?_cons_succ, Option.bind_some, Act.put, List.setIfInBounds_toArray, List.set_cons_zero, List.set_cons_succ] at hKK ⊢
      simp only [p5, p6, p7] at hKK ⊢
      clear p5 p6 p7
      refine (if_pos (by rfl)).mpr ?_
      go_wp2_with fail
      refine (fbytes_some _ _ m (by omega) _).mono ?_
      rintro e w2 ⟨r, rfl, hown, hk2⟩
      have hsl := Sl.of_own hown
      clear hown
      go_wp2
      exact hKK _ _ hk2 (by rw [flowB_length]; exact hsl)
    | 9, _, ho =>
      have e := Option.some.inj ho; subst e
      have p5 : x 5 = .bool true := hpre 5 (by kernel_rfl)
      have p8 : Sl w1 (x 8) ((flowB (sub2 key n) m).length) (bcells (flowB (sub2 key n) m)) := hpre 8 (by kernel_rfl)
      have hKK : ∀ (vv : Value) (w'' : World), Kept w1 w'' → (vv = Str (flowB (sub2 key n) m)) → K _ w'' := fun v w'' h1 h2 => hK v w'' h1 h2
      clear hK hpre
      simp only [putAll, dstOf, List.getElem?_toArray, List.getElem?_cons_zero, List.getElem?_cons_succ, Option.bind_some, Act.put, List.setIfInBounds_toArray, List.set_cons_zero, List.set_cons_succ] at hKK ⊢
      simp only [p5] at hKK ⊢
      clear p5
      refine (if_pos (by rfl)).mpr ?_
      have hcv := conv_bytes (P := Try.prog) w1 (src := 25) (dst := 9) Try.underlying25 Try.underlying5 Try.underlying9 p8
      go_wp2
      exact hKK _ _ (Below.refl _ _) rfl
    | 10, _, ho =>
      have e := Option.some.inj ho; subst e
      have p5 : x 5 = .bool true := hpre 5 (by kernel_rfl)
      have hKK : ∀ (vv : Value) (w'' : World), Kept w1 w'' → (vv = Pr (sub2 key n)) → K _ w'' := fun v w'' h1 h2 => hK v w'' h1 h2
      clear hK hpre
      simp only [putAll, dstOf, List.getElem?_toArray, List.getElem?_cons_zero, List.getElem?_cons_succ, Option.bind_some, Act.put, List.setIfInBounds_toArray, List.set_cons_zero, List.set_cons_succ] at hKK ⊢
      simp only [p5] at hKK ⊢
      clear p5
      refine (if_pos (by rfl)).mpr ?_
      have c := hS.kept hw; have c0 := c.cell 0; have c1 := c.cell 1; clear c
      go_wp2
      exact hKK _ _ (Below.refl _ _) rfl
    | 11, _, ho =>
      have e := Option.some.inj ho; subst e
      have p5 : x 5 = .bool true := hpre 5 (by kernel_rfl)
      have hKK : ∀ (vv : Value) (w'' : World), Kept w1 w'' → (vv = .int .i64 m) → K _ w'' := fun v w'' h1 h2 => hK v w'' h1 h2
      clear hK hpre
      simp only [putAll, dstOf, List.getElem?_toArray, List.getElem?_cons_zero, List.getElem?_cons_succ, Option.bind_some, Act.put, List.setIfInBounds_toArray, List.set_cons_zero, List.set_cons_succ] at hKK ⊢
      simp only [p5] at hKK ⊢
      clear p5
      refine (if_pos (by rfl)).mpr ?_
      go_wp2
      exact hKK _ _ (Below.refl _ _) rfl
    | 12, _, ho =>
      have e := Option.some.inj ho; subst e
      have p5 : x 5 = .bool true := hpre 5 (by kernel_rfl)
      have p10 : x 10 = Pr (sub2 key n) := hpre 10 (by kernel_rfl)
      have p11 : x 11 = .int .i64 m := hpre 11 (by kernel_rfl)
      have hKK : ∀ (vv : Value) (w'' : World), Kept w1 w'' → (Sl w'' vv ((flowB (sub2 key n) m).length) (bcells (flowB (sub2 key n) m))) → K _ w'' := fun v w'' h1 h2 => hK v w'' h1 h2
      clear hK hpre
      simp only [putAll, dstOf, List.getElem?_toArray, List.getElem?_cons_zero, List.getElem?_cons_succ, Option.bind_some, Act.put, List.setIfInBounds_toArray, List.set_cons_zero, List.set_cons_succ] at hKK ⊢
      simp only [p5, p10, p11] at hKK ⊢
      clear p5 p10 p11
      refine (if_pos (by rfl)).mpr ?_
      go_wp2_with fail
      refine (rfbytes_some _ _ m (by omega) _).mono ?_
      rintro e w2 ⟨r, rfl, hown, hk2⟩
      have hsl := Sl.of_own hown
      clear hown
      go_wp2
      exact hKK _ _ hk2 (by rw [flowB_length]; exact hsl)
    | 13, _, ho =>
      have e := Option.some.inj ho; subst e
      have p5 : x 5 = .bool true := hpre 5 (by kernel_rfl)
      have p12 : Sl w1 (x 12) ((flowB (sub2 key n) m).length) (bcells (flowB (sub2 key n) m)) := hpre 12 (by kernel_rfl)
      have hKK : ∀ (vv : Value) (w'' : World), Kept w1 w'' → (vv = Str (flowB (sub2 key n) m)) → K _ w'' := fun v w'' h1 h2 => hK v w'' h1 h2
      clear hK hpre
      simp only [putAll, dstOf, List.getElem?_toArray, List.getElem?_cons_zero, List.getElem?_cons_succ, Option.bind_some, Act.put, List.setIfInBounds_toArray, List.set_cons_zero, List.set_cons_succ] at hKK ⊢
      simp only [p5] at hKK ⊢
      clear p5
      refine (if_pos (by rfl)).mpr ?_
      have hcv := conv_bytes (P := Try.prog) w1 (src := 25) (dst := 9) Try.underlying25 Try.underlying5 Try.underlying9 p12
      go_wp2
      exact hKK _ _ (Below.refl _ _) rfl
    | 14, _, ho =>
      have e := Option.some.inj ho; subst e
      have p5 : x 5 = .bool true := hpre 5 (by kernel_rfl)
      have p9 : x 9 = Str (flowB (sub2 key n) m) := hpre 9 (by kernel_rfl)
      have p13 : x 13 = Str (flowB (sub2 key n) m) := hpre 13 (by kernel_rfl)
      have hKK : ∀ (vv : Value) (w'' : World), Kept w1 w'' → (vv = .bool true) → K _ w'' := fun v w'' h1 h2 => hK v w'' h1 h2
      clear hK hpre
      simp only [putAll, dstOf, List.getElem?_toArray, List.getElem?_cons_zero, List.getElem?_cons_succ, Option.bind_some, Act.put, List.setIfInBounds_toArray, List.set_cons_zero, List.set_cons_succ] at hKK ⊢
      simp only [p5, p9, p13] at hKK ⊢
      clear p5 p9 p13
      refine (if_pos (by rfl)).mpr ?_
      go_wp2
      exact hKK _ _ (Below.refl _ _) rfl
    | 15, _, ho =>
      have e := Option.some.inj ho; subst e
      have p5 : x 5 = .bool true := hpre 5 (by kernel_rfl)
      have p14 : x 14 = .bool true := hpre 14 (by kernel_rfl)
      have hKK : ∀ (vv : Value) (w'' : World), Kept w1 w'' → (vv = .bool true) → K _ w'' := fun v w'' h1 h2 => hK v w'' h1 h2
      clear hK hpre
      simp only [putAll, dstOf, List.getElem?_toArray, List.getElem?_cons_zero, List.getElem?_cons_succ, Option.bind_some, Act.put, List.setIfInBounds_toArray, List.set_cons_zero, List.set_cons_succ] at hKK ⊢
      simp only [p5, p14] at hKK ⊢
      clear p5 p14
      refine (if_pos (by rfl)).mpr ?_
      go_wp2
      exact hKK _ _ (Below.refl _ _) rfl
    | 16, _, ho =>
      have e := Option.some.inj ho; subst e
      have p15 : x 15 = .bool true := hpre 15 (by kernel_rfl)
      have hKK : ∀ (vv : Value) (w'' : World), Kept w1 w'' → (vv = .bool true) → K _ w'' := fun v w'' h1 h2 => hK v w'' h1 h2
      clear hK hpre
      simp only [putAll, dstOf, List.getElem?_toArray, List.getElem?_cons_zero, List.getElem?_cons_succ, Option.bind_some, Act.put, List.setIfInBounds_toArray, List.set_cons_zero, List.set_cons_succ] at hKK ⊢
      simp only [p15] at hKK ⊢
      clear p15
      refine (if_pos (by rfl)).mpr ?_
      go_wp2
      exact hKK _ _ (Below.refl _ _) rfl
    | 17, _, ho =>
      have e := Option.some.inj ho; subst e
      have p16 : x 16 = .bool true := hpre 16 (by kernel_rfl)
      have hKK : ∀ (vv : Value) (w'' : World), Kept w1 w'' → (vv = .bool true) → K _ w'' := fun v w'' h1 h2 => hK v w'' h1 h2
      clear hK hpre
      simp only [putAll, dstOf, List.getElem?_toArray, List.getElem?_cons_zero, List.getElem?_cons_succ, Option.bind_some, Act.put, List.setIfInBounds_toArray, List.set_cons_zero, List.set_cons_succ] at hKK ⊢
      simp only [p16] at hKK ⊢
      clear p16
      refine (if_pos (by rfl)).mpr ?_
      go_wp2_with fail
      refine (known_any _).mono ?_
      rintro e w2 ⟨rfl, hk2⟩
      go_wp2
      exact hKK _ _ hk2 rfl
    | 18, _, ho =>
      have e := Option.some.inj ho; subst e
      have p16 : x 16 = .bool true := hpre 16 (by kernel_rfl)
      have p17 : x 17 = .bool true := hpre 17 (by kernel_rfl)
      have hKK : ∀ (vv : Value) (w'' : World), Kept w1 w'' → (vv = .bool true) → K _ w'' := fun v w'' h1 h2 => hK v w'' h1 h2
      clear hK hpre
      simp only [putAll, dstOf, List.getElem?_toArray, List.getElem?_cons_zero, List.getElem?_cons_succ, Option.bind_some, Act.put, List.setIfInBounds_toArray, List.set_cons_zero, List.set_cons_succ] at hKK ⊢
      simp only [p16, p17] at hKK ⊢
      clear p16 p17
      refine (if_pos (by rfl)).mpr ?_
      go_wp2
      exact hKK _ _ (Below.refl _ _) rfl
    | i + 19, hi, _ => exact absurd hi (by omega)
  · intro x w1 hw hA
    have p0 : x 0 = Pr (sub2 key n) := hA 0 (by omega)
    have p1 : x 1 = Pr key := hA 1 (by omega)
    have p2 : x 2 = n.val := hA 2 (by omega)
    have p3 : x 3 = Pr (sub2 key n) := hA 3 (by omega)
    have p4 : x 4 = .bool true := hA 4 (by omega)
    have p5 : x 5 = .bool true := hA 5 (by omega)
    have p6 : x 6 = Pr (sub2 key n) := hA 6 (by omega)
    have p7 : x 7 = .int .i64 m := hA 7 (by omega)
    have p8 : Sl w1 (x 8) ((flowB (sub2 key n) m).length) (bcells (flowB (sub2 key n) m)) := hA 8 (by omega)
    have p9 : x 9 = Str (flowB (sub2 key n) m) := hA 9 (by omega)
    have p10 : x 10 = Pr (sub2 key n) := hA 10 (by omega)
    have p11 : x 11 = .int .i64 m := hA 11 (by omega)
    have p12 : Sl w1 (x 12) ((flowB (sub2 key n) m).length) (bcells (flowB (sub2 key n) m)) := hA 12 (by omega)
    have p13 : x 13 = Str (flowB (sub2 key n) m) := hA 13 (by omega)
    have p14 : x 14 = .bool true := hA 14 (by omega)
    have p15 : x 15 = .bool true := hA 15 (by omega)
    have p16 : x 16 = .bool true := hA 16 (by omega)
    have p17 : x 17 = .bool true := hA 17 (by omega)
    have p18 : x 18 = .bool true := hA 18 (by omega)
    clear hA
    simp only [List.drop_succ_cons, List.drop_zero, putAll, dstOf, List.getElem?_toArray, List.getElem?_cons_zero, List.getElem?_cons_succ, Option.bind_some, Act.put, List.setIfInBounds_toArray, List.set_cons_zero, List.set_cons_succ]
    simp only [p0, p1, p2, p3, p4, p5, p6, p7, p9, p10, p11, p13, p14, p15, p16, p17, p18]
    clear p0 p1 p2 p3 p4 p5 p6 p7 p9 p10 p11 p13 p14 p15 p16 p17 p18
    go_wp2
    go_ret
    exact ⟨rfl, g3.of hw⟩

set_option maxRecDepth 100000 in
set_option maxHeartbeats 2000000 in
theorem bytes_neg (key : Pair) (n : Nn) (m : Int) (hm : m < 0) (w : World) : Calls Try.prog 5 #[Pr key, n.val, .int .i64 m] w fun e w' => e = .returned (.bool true) ∧ Kept w w' := by
  have i0 : m ≤ 4000 := by omega
  have hK0 : Blk ((w.alloc (.cells #[U key.1, U key.2] 24)).alloc (.cells #[W n.epoch, W n.slot, U n.version] 34)) w.heap.size #[U key.1, U key.2] 24 := (Blk.new _ _ _).alloc _
  have hN0 : Blk ((w.alloc (.cells #[U key.1, U key.2] 24)).alloc (.cells #[W n.epoch, W n.slot, U n.version] 34)) (w.heap.size + 1) #[W n.epoch, W n.slot, U n.version] 34 := by simpa using Blk.new (w.alloc (.cells #[U key.1, U key.2] 24)) #[W n.epoch, W n.slot, U n.version] 34
  have hk0 : Kept w ((w.alloc (.cells #[U key.1, U key.2] 24)).alloc (.cells #[W n.epoch, W n.slot, U n.version] 34)) := (((Below.refl _ _).alloc (Nat.le_refl _) _).alloc (by simp) _)
  have q0 := hK0.cell 0
  have q1 := hK0.cell 1
  have q2 := hN0.cell 0
  have q3 := hN0.cell 1
  have q4 := hN0.cell 2
  unfold Nn.val
  go_enter Try.func5, Try.ntmps5
  go_wp2_with fail
  refine (sub_any _ _ n _).mono ?_
  rintro e w2 ⟨rfl, hk2⟩
  have hS : Blk (w2.alloc (.cells #[U (sub2 key n).1, U (sub2 key n).2] 24)) w2.heap.size #[U (sub2 key n).1, U (sub2 key n).2] 24 := Blk.new _ _ _
  have hk3 : Kept w2 (w2.alloc (.cells #[U (sub2 key n).1, U (sub2 key n).2] 24)) := (Below.refl _ _).alloc (Nat.le_refl _) _
  have hK := (hK0.kept hk2).kept hk3
  have hN := (hN0.kept hk2).kept hk3
  have g3 := (hk0.of hk2).of hk3
  clear hK0 hN0 hk0 hk2 hk3 q0 q1 q2 q3 q4
  go_wp2_with fail
  refine wp_region_posts 19 (fun i (vv : Value) w' => match i with | 0 => vv = Pr (sub2 key n) | 1 => vv = Pr key | 2 => vv = n.val | 3 => vv = Pr (sub2 key n) | 4 => vv = .bool true | 5 => vv = .bool true | 6 => vv = Pr (sub2 key n) | 7 => vv = .int .i64 m | 8 => Sl w' vv (([] : List UInt8).length) (bcells []) | 9 => vv = Str ([] : List UInt8) | 10 => vv = Pr (sub2 key n) | 11 => vv = .int .i64 m | 12 => Sl w' vv (([] : List UInt8).length) (bcells []) | 13 => vv = Str ([] : List UInt8) | 14 => vv = .bool true | 15 => vv = .bool true | 16 => vv = .bool true | 17 => vv = .bool true | 18 => vv = .bool true | _ => True) (by kernel_rfl) (by kernel_rfl) ?_ ?_ ?_
  · intro i v w1 w2 h hk
    match i, h with
    | 0, h => exact h
    | 1, h => exact h
    | 2, h => exact h
    | 3, h => exact h
    | 4, h => exact h
    | 5, h => exact h
    | 6, h => exact h
    | 7, h => exact h
    | 8, h => exact h.kept hk
    | 9, h => exact h
    | 10, h => exact h
    | 11, h => exact h
    | 12, h => exact h.kept hk
    | 13, h => exact h
    | 14, h => exact h
    | 15, h => exact h
    | 16, h => exact h
    | 17, h => exact h
    | 18, h => exact h
    | _ + 19, _ => trivial
  · intro i o hi ho x w1 hw hpre K hK
    match i, hi, ho with
    | 0, _, ho =>
      have e := Option.some.inj ho; subst e
      have hKK : ∀ (vv : Value) (w'' : World), Kept w1 w'' → (vv = Pr (sub2 key n)) → K _ w'' := fun v w'' h1 h2 => hK v w'' h1 h2
      clear hK hpre
      simp only [putAll, dstOf, List.getElem?_toArray, List.getElem?_cons_zero, List.getElem?_cons_succ, Option.bind_some, Act.put, List.setIfInBounds_toArray, List.set_cons_zero, List.set_cons_succ] at hKK ⊢
      refine (if_pos (by rfl)).mpr ?_
      have c := hS.kept hw; have c0 := c.cell 0; have c1 := c.cell 1; clear c
      go_wp2
      exact hKK _ _ (Below.refl _ _) rfl
    | 1, _, ho =>
      have e := Option.some.inj ho; subst e
      have hKK : ∀ (vv : Value) (w'' : World), Kept w1 w'' → (vv = Pr key) → K _ w'' := fun v w'' h1 h2 => hK v w'' h1 h2
      clear hK hpre
      simp only [putAll, dstOf, List.getElem?_toArray, List.getElem?_cons_zero, List.getElem?_cons_succ, Option.bind_some, Act.put, List.setIfInBounds_toArray, List.set_cons_zero, List.set_cons_succ] at hKK ⊢
      refine (if_pos (by rfl)).mpr ?_
      have c := hK.kept hw; have c0 := c.cell 0; have c1 := c.cell 1; clear c
      go_wp2
      exact hKK _ _ (Below.refl _ _) rfl
    | 2, _, ho =>
      have e := Option.some.inj ho; subst e
      have hKK : ∀ (vv : Value) (w'' : World), Kept w1 w'' → (vv = n.val) → K _ w'' := fun v w'' h1 h2 => hK v w'' h1 h2
      clear hK hpre
      simp only [putAll, dstOf, List.getElem?_toArray, List.getElem?_cons_zero, List.getElem?_cons_succ, Option.bind_some, Act.put, List.setIfInBounds_toArray, List.set_cons_zero, List.set_cons_succ] at hKK ⊢
      refine (if_pos (by rfl)).mpr ?_
      have c := hN.kept hw; have c0 := c.cell 0; have c1 := c.cell 1; have c2 := c.cell 2; clear c
      go_wp2
      exact hKK _ _ (Below.refl _ _) rfl
    | 3, _, ho =>
      have e := Option.some.inj ho; subst e
      have p1 : x 1 = Pr key := hpre 1 (by kernel_rfl)
      have p2 : x 2 = n.val := hpre 2 (by kernel_rfl)
      have hKK : ∀ (vv : Value) (w'' : World), Kept w1 w'' → (vv = Pr (sub2 key n)) → K _ w'' := fun v w'' h1 h2 => hK v w'' h1 h2
      clear hK hpre
      simp only [putAll, dstOf, List.getElem?_toArray, List.getElem?_cons_zero, List.getElem?_cons_succ, Option.bind_some, Act.put, List.setIfInBounds_toArray, List.set_cons_zero, List.set_cons_succ] at hKK ⊢
      simp only [p1, p2] at hKK ⊢
      clear p1 p2
      refine (if_pos (by rfl)).mpr ?_
      go_wp2_with fail
      refine (rsub_any _ _ n _).mono ?_
      rintro e w3 ⟨rfl, hk3⟩
      exact hKK _ _ hk3 rfl
    | 4, _, ho =>
      have e := Option.some.inj ho; subst e
      have p0 : x 0 = Pr (sub2 key n) := hpre 0 (by kernel_rfl)
      have p3 : x 3 = Pr (sub2 key n) := hpre 3 (by kernel_rfl)
      have hKK : ∀ (vv : Value) (w'' : World), Kept w1 w'' → (vv = .bool true) → K _ w'' := fun v w'' h1 h2 => hK v w'' h1 h2
      clear hK hpre
      simp only [putAll, dstOf, List.getElem?_toArray, List.getElem?_cons_zero, List.getElem?_cons_succ, Option.bind_some, Act.put, List.setIfInBounds_toArray, List.set_cons_zero, List.set_cons_succ] at hKK ⊢
      simp only [p0, p3] at hKK ⊢
      clear p0 p3
      refine (if_pos (by rfl)).mpr ?_
      go_wp2
      exact hKK _ _ (Below.refl _ _) rfl
    | 5, _, ho =>
      have e := Option.some.inj ho; subst e
      have p4 : x 4 = .bool true := hpre 4 (by kernel_rfl)
      have hKK : ∀ (vv : Value) (w'' : World), Kept w1 w'' → (vv = .bool true) → K _ w'' := fun v w'' h1 h2 => hK v w'' h1 h2
      clear hK hpre
      simp only [putAll, dstOf, List.getElem?_toArray, List.getElem?_cons_zero, List.getElem?_cons_succ, Option.bind_some, Act.put, List.setIfInBounds_toArray, List.set_cons_zero, List.set_cons_succ] at hKK ⊢
      simp only [p4] at hKK ⊢
      clear p4
      refine (if_pos (by rfl)).mpr ?_
      go_wp2
      exact hKK _ _ (Below.refl _ _) rfl
    | 6, _, ho =>
      have e := Option.some.inj ho; subst e
      have p5 : x 5 = .bool true := hpre 5 (by kernel_rfl)
      have hKK : ∀ (vv : Value) (w'' : World), Kept w1 w'' → (vv = Pr (sub2 key n)) → K _ w'' := fun v w'' h1 h2 => hK v w'' h1 h2
      clear hK hpre
      simp only [putAll, dstOf, List.getElem?_toArray, List.getElem?_cons_zero, List.getElem?_cons_succ, Option.bind_some, Act.put, List.setIfInBounds_toArray, List.set_cons_zero, List.set_cons_succ] at hKK ⊢
      simp only [p5] at hKK ⊢
      clear p5
      refine (if_pos (by rfl)).mpr ?_
      have c := hS.kept hw; have c0 := c.cell 0; have c1 := c.cell 1; clear c
      go_wp2
      exact hKK _ _ (Below.refl _ _) rfl
    | 7, _, ho =>
      have e := Option.some.inj ho; subst e
      have p5 : x 5 = .bool true := hpre 5 (by kernel_rfl)
      have hKK : ∀ (vv : Value) (w'' : World), Kept w1 w'' → (vv = .int .i64 m) → K _ w'' := fun v w'' h1 h2 => hK v w'' h1 h2
      clear hK hpre
      simp only [putAll, dstOf, List.getElem?_toArray, List.getElem?_cons_zero, List.getElem?_cons_succ, Option.bind_some, Act.put, List.setIfInBounds_toArray, List.set_cons_zero, List.set_cons_succ] at hKK ⊢
      simp only [p5] at hKK ⊢
      clear p5
      refine (if_pos (by rfl)).mpr ?_
      go_wp2
      exact hKK _ _ (Below.refl _ _) rfl
    | 8, _, ho =>
      have e := Option.some.inj ho; subst e
      have p5 : x 5 = .bool true := hpre 5 (by kernel_rfl)
      have p6 : x 6 = Pr (sub2 key n) := hpre 6 (by kernel_rfl)
      have p7 : x 7 = .int .i64 m := hpre 7 (by kernel_rfl)
      have hKK : ∀ (vv : Value) (w'' : World), Kept w1 w'' → (Sl w'' vv (([] : List UInt8).length) (bcells [])) → K _ w'' := fun v w'' h1 h2 => hK v w'' h1 h2
      clear hK hpre
      simp only [putAll, dstOf, List.getElem?_toArray, List.getElem?_cons_zero, List.getElem?_cons_succ, Option.bind_some, Act.put, List.setIfInBounds_toArray, List.set_cons_zero, List.set_cons_succ] at hKK ⊢
      simp only [p5, p6, p7] at hKK ⊢
      clear p5 p6 p7
      refine (if_pos (by rfl)).mpr ?_
      go_wp2_with fail
      refine (fbytes_none _ _ _ (by omega) _).mono ?_
      rintro e w2 ⟨rfl, hk2⟩
      go_wp2
      exact hKK _ _ hk2 (Sl.nil _)
    | 9, _, ho =>
      have e := Option.some.inj ho; subst e
      have p5 : x 5 = .bool true := hpre 5 (by kernel_rfl)
      have p8 : Sl w1 (x 8) (([] : List UInt8).length) (bcells []) := hpre 8 (by kernel_rfl)
      have hKK : ∀ (vv : Value) (w'' : World), Kept w1 w'' → (vv = Str ([] : List UInt8)) → K _ w'' := fun v w'' h1 h2 => hK v w'' h1 h2
      clear hK hpre
      simp only [putAll, dstOf, List.getElem?_toArray, List.getElem?_cons_zero, List.getElem?_cons_succ, Option.bind_some, Act.put, List.setIfInBounds_toArray, List.set_cons_zero, List.set_cons_succ] at hKK ⊢
      simp only [p5] at hKK ⊢
      clear p5
      refine (if_pos (by rfl)).mpr ?_
      have hcv := conv_bytes (P := Try.prog) w1 (src := 25) (dst := 9) Try.underlying25 Try.underlying5 Try.underlying9 p8
      go_wp2
      exact hKK _ _ (Below.refl _ _) rfl
    | 10, _, ho =>
      have e := Option.some.inj ho; subst e
      have p5 : x 5 = .bool true := hpre 5 (by kernel_rfl)
      have hKK : ∀ (vv : Value) (w'' : World), Kept w1 w'' → (vv = Pr (sub2 key n)) → K _ w'' := fun v w'' h1 h2 => hK v w'' h1 h2
      clear hK hpre
      simp only [putAll, dstOf, List.getElem?_toArray, List.getElem?_cons_zero, List.getElem?_cons_succ, Option.bind_some, Act.put, List.setIfInBounds_toArray, List.set_cons_zero, List.set_cons_succ] at hKK ⊢
      simp only [p5] at hKK ⊢
      clear p5
      refine (if_pos (by rfl)).mpr ?_
      have c := hS.kept hw; have c0 := c.cell 0; have c1 := c.cell 1; clear c
      go_wp2
      exact hKK _ _ (Below.refl _ _) rfl
    | 11, _, ho =>
      have e := Option.some.inj ho; subst e
      have p5 : x 5 = .bool true := hpre 5 (by kernel_rfl)
      have hKK : ∀ (vv : Value) (w'' : World), Kept w1 w'' → (vv = .int .i64 m) → K _ w'' := fun v w'' h1 h2 => hK v w'' h1 h2
      clear hK hpre
      simp only [putAll, dstOf, List.getElem?_toArray, List.getElem?_cons_zero, List.getElem?_cons_succ, Option.bind_some, Act.put, List.setIfInBounds_toArray, List.set_cons_zero, List.set_cons_succ] at hKK ⊢
      simp only [p5] at hKK ⊢
      clear p5
      refine (if_pos (by rfl)).mpr ?_
      go_wp2
      exact hKK _ _ (Below.refl _ _) rfl
    | 12, _, ho =>
      have e := Option.some.inj ho; subst e
      have p5 : x 5 = .bool true := hpre 5 (by kernel_rfl)
      have p10 : x 10 = Pr (sub2 key n) := hpre 10 (by kernel_rfl)
      have p11 : x 11 = .int .i64 m := hpre 11 (by kernel_rfl)
      have hKK : ∀ (vv : Value) (w'' : World), Kept w1 w'' → (Sl w'' vv (([] : List UInt8).length) (bcells [])) → K _ w'' := fun v w'' h1 h2 => hK v w'' h1 h2
      clear hK hpre
      simp only [putAll, dstOf, List.getElem?_toArray, List.getElem?_cons_zero, List.getElem?_cons_succ, Option.bind_some, Act.put, List.setIfInBounds_toArray, List.set_cons_zero, List.set_cons_succ] at hKK ⊢
      simp only [p5, p10, p11] at hKK ⊢
      clear p5 p10 p11
      refine (if_pos (by rfl)).mpr ?_
      go_wp2_with fail
      refine (rfbytes_none _ _ _ (by omega) _).mono ?_
      rintro e w2 ⟨rfl, hk2⟩
      go_wp2
      exact hKK _ _ hk2 (Sl.nil _)
    | 13, _, ho =>
      have e := Option.some.inj ho; subst e
      have p5 : x 5 = .bool true := hpre 5 (by kernel_rfl)
      have p12 : Sl w1 (x 12) (([] : List UInt8).length) (bcells []) := hpre 12 (by kernel_rfl)
      have hKK : ∀ (vv : Value) (w'' : World), Kept w1 w'' → (vv = Str ([] : List UInt8)) → K _ w'' := fun v w'' h1 h2 => hK v w'' h1 h2
      clear hK hpre
      simp only [putAll, dstOf, List.getElem?_toArray, List.getElem?_cons_zero, List.getElem?_cons_succ, Option.bind_some, Act.put, List.setIfInBounds_toArray, List.set_cons_zero, List.set_cons_succ] at hKK ⊢
      simp only [p5] at hKK ⊢
      clear p5
      refine (if_pos (by rfl)).mpr ?_
      have hcv := conv_bytes (P := Try.prog) w1 (src := 25) (dst := 9) Try.underlying25 Try.underlying5 Try.underlying9 p12
      go_wp2
      exact hKK _ _ (Below.refl _ _) rfl
    | 14, _, ho =>
      have e := Option.some.inj ho; subst e
      have p5 : x 5 = .bool true := hpre 5 (by kernel_rfl)
      have p9 : x 9 = Str ([] : List UInt8) := hpre 9 (by kernel_rfl)
      have p13 : x 13 = Str ([] : List UInt8) := hpre 13 (by kernel_rfl)
      have hKK : ∀ (vv : Value) (w'' : World), Kept w1 w'' → (vv = .bool true) → K _ w'' := fun v w'' h1 h2 => hK v w'' h1 h2
      clear hK hpre
      simp only [putAll, dstOf, List.getElem?_toArray, List.getElem?_cons_zero, List.getElem?_cons_succ, Option.bind_some, Act.put, List.setIfInBounds_toArray, List.set_cons_zero, List.set_cons_succ] at hKK ⊢
      simp only [p5, p9, p13] at hKK ⊢
      clear p5 p9 p13
      refine (if_pos (by rfl)).mpr ?_
      go_wp2
      exact hKK _ _ (Below.refl _ _) rfl
    | 15, _, ho =>
      have e := Option.some.inj ho; subst e
      have p5 : x 5 = .bool true := hpre 5 (by kernel_rfl)
      have p14 : x 14 = .bool true := hpre 14 (by kernel_rfl)
      have hKK : ∀ (vv : Value) (w'' : World), Kept w1 w'' → (vv = .bool true) → K _ w'' := fun v w'' h1 h2 => hK v w'' h1 h2
      clear hK hpre
      simp only [putAll, dstOf, List.getElem?_toArray, List.getElem?_cons_zero, List.getElem?_cons_succ, Option.bind_some, Act.put, List.setIfInBounds_toArray, List.set_cons_zero, List.set_cons_succ] at hKK ⊢
      simp only [p5, p14] at hKK ⊢
      clear p5 p14
      refine (if_pos (by rfl)).mpr ?_
      go_wp2
      exact hKK _ _ (Below.refl _ _) rfl
    | 16, _, ho =>
      have e := Option.some.inj ho; subst e
      have p15 : x 15 = .bool true := hpre 15 (by kernel_rfl)
      have hKK : ∀ (vv : Value) (w'' : World), Kept w1 w'' → (vv = .bool true) → K _ w'' := fun v w'' h1 h2 => hK v w'' h1 h2
      clear hK hpre
      simp only [putAll, dstOf, List.getElem?_toArray, List.getElem?_cons_zero, List.getElem?_cons_succ, Option.bind_some, Act.put, List.setIfInBounds_toArray, List.set_cons_zero, List.set_cons_succ] at hKK ⊢
      simp only [p15] at hKK ⊢
      clear p15
      refine (if_pos (by rfl)).mpr ?_
      go_wp2
      exact hKK _ _ (Below.refl _ _) rfl
    | 17, _, ho =>
      have e := Option.some.inj ho; subst e
      have p16 : x 16 = .bool true := hpre 16 (by kernel_rfl)
      have hKK : ∀ (vv : Value) (w'' : World), Kept w1 w'' → (vv = .bool true) → K _ w'' := fun v w'' h1 h2 => hK v w'' h1 h2
      clear hK hpre
      simp only [putAll, dstOf, List.getElem?_toArray, List.getElem?_cons_zero, List.getElem?_cons_succ, Option.bind_some, Act.put, List.setIfInBounds_toArray, List.set_cons_zero, List.set_cons_succ] at hKK ⊢
      simp only [p16] at hKK ⊢
      clear p16
      refine (if_pos (by rfl)).mpr ?_
      go_wp2_with fail
      refine (known_any _).mono ?_
      rintro e w2 ⟨rfl, hk2⟩
      go_wp2
      exact hKK _ _ hk2 rfl
    | 18, _, ho =>
      have e := Option.some.inj ho; subst e
      have p16 : x 16 = .bool true := hpre 16 (by kernel_rfl)
      have p17 : x 17 = .bool true := hpre 17 (by kernel_rfl)
      have hKK : ∀ (vv : Value) (w'' : World), Kept w1 w'' → (vv = .bool true) → K _ w'' := fun v w'' h1 h2 => hK v w'' h1 h2
      clear hK hpre
      simp only [putAll, dstOf, List.getElem?_toArray, List.getElem?_cons_zero, List.getElem?_cons_succ, Option.bind_some, Act.put, List.setIfInBounds_toArray, List.set_cons_zero, List.set_cons_succ] at hKK ⊢
      simp only [p16, p17] at hKK ⊢
      clear p16 p17
      refine (if_pos (by rfl)).mpr ?_
      go_wp2
      exact hKK _ _ (Below.refl _ _) rfl
    | i + 19, hi, _ => exact absurd hi (by omega)
  · intro x w1 hw hA
    have p0 : x 0 = Pr (sub2 key n) := hA 0 (by omega)
    have p1 : x 1 = Pr key := hA 1 (by omega)
    have p2 : x 2 = n.val := hA 2 (by omega)
    have p3 : x 3 = Pr (sub2 key n) := hA 3 (by omega)
    have p4 : x 4 = .bool true := hA 4 (by omega)
    have p5 : x 5 = .bool true := hA 5 (by omega)
    have p6 : x 6 = Pr (sub2 key n) := hA 6 (by omega)
    have p7 : x 7 = .int .i64 m := hA 7 (by omega)
    have p8 : Sl w1 (x 8) (([] : List UInt8).length) (bcells []) := hA 8 (by omega)
    have p9 : x 9 = Str ([] : List UInt8) := hA 9 (by omega)
    have p10 : x 10 = Pr (sub2 key n) := hA 10 (by omega)
    have p11 : x 11 = .int .i64 m := hA 11 (by omega)
    have p12 : Sl w1 (x 12) (([] : List UInt8).length) (bcells []) := hA 12 (by omega)
    have p13 : x 13 = Str ([] : List UInt8) := hA 13 (by omega)
    have p14 : x 14 = .bool true := hA 14 (by omega)
    have p15 : x 15 = .bool true := hA 15 (by omega)
    have p16 : x 16 = .bool true := hA 16 (by omega)
    have p17 : x 17 = .bool true := hA 17 (by omega)
    have p18 : x 18 = .bool true := hA 18 (by omega)
    clear hA
    simp only [List.drop_succ_cons, List.drop_zero, putAll, dstOf, List.getElem?_toArray, List.getElem?_cons_zero, List.getElem?_cons_succ, Option.bind_some, Act.put, List.setIfInBounds_toArray, List.set_cons_zero, List.set_cons_succ]
    simp only [p0, p1, p2, p3, p4, p5, p6, p7, p9, p10, p11, p13, p14, p15, p16, p17, p18]
    clear p0 p1 p2 p3 p4 p5 p6 p7 p9 p10 p11 p13 p14 p15 p16 p17 p18
    go_wp2
    go_ret
    exact ⟨rfl, g3.of hw⟩

set_option maxRecDepth 100000 in
set_option maxHeartbeats 2000000 in
theorem bytes_big (key : Pair) (n : Nn) (m : Int) (hm : 4000 < m) (w : World) : Calls Try.prog 5 #[Pr key, n.val, .int .i64 m] w fun e w' => e = .returned (.bool true) ∧ Kept w w' := by
  have hK0 : Blk ((w.alloc (.cells #[U key.1, U key.2] 24)).alloc (.cells #[W n.epoch, W n.slot, U n.version] 34)) w.heap.size #[U key.1, U key.2] 24 := (Blk.new _ _ _).alloc _
  have hN0 : Blk ((w.alloc (.cells #[U key.1, U key.2] 24)).alloc (.cells #[W n.epoch, W n.slot, U n.version] 34)) (w.heap.size + 1) #[W n.epoch, W n.slot, U n.version] 34 := by simpa using Blk.new (w.alloc (.cells #[U key.1, U key.2] 24)) #[W n.epoch, W n.slot, U n.version] 34
  have hk0 : Kept w ((w.alloc (.cells #[U key.1, U key.2] 24)).alloc (.cells #[W n.epoch, W n.slot, U n.version] 34)) := (((Below.refl _ _).alloc (Nat.le_refl _) _).alloc (by simp) _)
  have q0 := hK0.cell 0
  have q1 := hK0.cell 1
  have q2 := hN0.cell 0
  have q3 := hN0.cell 1
  have q4 := hN0.cell 2
  unfold Nn.val
  go_enter Try.func5, Try.ntmps5
  go_wp2_with fail
  refine (fbytes_none _ _ _ (.inr hm) _).mono ?_
  rintro e w2 ⟨rfl, hk2⟩
  go_wp2_with fail
  refine (known_any _).mono ?_
  rintro e w3 ⟨rfl, hk3⟩
  go_wp2
  go_ret
  exact ⟨rfl, (hk0.of hk2).of hk3⟩

theorem bytes_walk (key : Pair) (n : Nn) (m : Int) (w : World) : Calls Try.prog 5 #[Pr key, n.val, .int .i64 m] w fun e w' => e = .returned (.bool true) ∧ Kept w w' := by
  by_cases h1 : m < 0
  · exact bytes_neg key n m h1 w
  by_cases h2 : 4000 < m
  · exact bytes_big key n m h2 w
  obtain ⟨k, rfl⟩ : ∃ k : Nat, m = k := ⟨m.toNat, by omega⟩
  exact bytes_some key n k (by omega) w

namespace flowBytesRow
open Go.ChangeShapes Go.WideShapes Go.ChangeAt Go.RowKit
theorem own : ownKnob Try.prog.godebug = none := by kernel_rfl
theorem laidOut : laidOutB Try.prog = true := by kernel_rfl

set_option maxRecDepth 100000 in
theorem lifted (os : Os) (started : os.Started) (H : Type) (enc : TypeId × Value → H) :
    ReturnsInHanded {} Try.checked os 5 .any (Rows.flowBytesSpec.pre6 enc Try.prog Try.f5 Rows.flowBytesRow.domain false) (Rows.flowBytesSpec.post enc Try.prog Try.f5 false true false false) := by
  refine returnsInHanded_of_change (C := Try.checked) own started (by kernel_rfl) Try.func5
    (ChangeSpec.witness6 (enc := enc) (C := Try.checked) false ⟨#[], #[.agg #[.int .u64 0, .int .u64 0], .agg #[.int .u32 0, .int .u32 0, .int .u64 0], .int .i64 0], []⟩ 8 (by kernel_rfl) (by kernel_rfl) (by kernel_rfl) (by kernel_rfl)) ?_
  intro W base args ds gs before hval0 hW _ hsz
  have hval : ∀ (j : Nat) t v, Try.f5.params[j]? = some t → args[j]? = some v → Value.okWide Try.prog W .any base t v := hval0
  have hW' := hW
  obtain ⟨p, q, hA0, hV, rfl, hfz, hnd⟩ := hW
  have hA : DataW.TrodAll enc Try.prog W 0 (fun _ => true) true Try.f5.params.toList args.toList ds p := hA0
  rw [Try.params5] at hA hval
  obtain ⟨v0, vs0, d0, ds0, p0, q0, hargs, rfl, rfl, h0, r0⟩ := trodAll_cons hA
  obtain ⟨v1, vs1, d1, ds1, p1, q1, rfl, rfl, rfl, h1, r1⟩ := trodAll_cons r0
  obtain ⟨v2, vs2, d2, ds2, p2, q2, rfl, rfl, rfl, h2, r2⟩ := trodAll_cons r1
  obtain ⟨rfl, rfl, rfl⟩ := trodAll_nil r2
  obtain rfl : args = #[v0, v1, v2] := by cases args; simp_all
  obtain ⟨a0, rfl⟩ := open_pair (e := 22) Try.underlying24 Try.underlying22 (by kernel_rfl) (by kernel_rfl) (hval 0 24 v0 rfl rfl) h0
  obtain ⟨a1, rfl⟩ := open_nonce (H := H) Try.underlying34 (by kernel_rfl) (by kernel_rfl) Try.underlying32 Try.underlying32 Try.underlying22 (hval 1 34 v1 rfl rfl) h1
  obtain ⟨a2, rfl, lo2, hi2⟩ := open_I Try.underlying3 (hval 2 3 v2 rfl rfl) h2
  refine (bytes_walk a0 a1 a2 W).mono fun e W' ⟨he, bel⟩ => ?_
  subst he
  exact ⟨_, rfl, law_post (tb := 4) laidOut (by kernel_rfl) Try.underlying4 (by rfl) rfl (by intro xs hxs; match xs, hxs with | [x0, x1, x2], _ => rfl) hW' bel⟩

theorem over : Rows.flowBytesRow.holds Try.pinned (OpenSpec.ofChange Rows.flowBytesSpec) :=
  OpenClaim.holds_of_wide 5 Try.f5 rfl rfl rfl rfl rfl rfl rfl ⟨rfl, rfl, rfl, rfl, rfl⟩ rfl rfl rfl rfl rfl (by kernel_rfl) Try.func5 (by kernel_rfl)
    (of_decide_eq_true (by kernel_rfl)) (by unfold Func.isWrapper; rw [if_neg (of_decide_eq_false (by kernel_rfl))]; exact ⟨rfl, rfl⟩)
    (fun os started H enc _ => lifted os started H enc)
end flowBytesRow

theorem flowBytes_holds : Rows.FlowBytesSaid := flowBytesRow.over
#print axioms flowBytes_holds

end Go.Proofs.Ytdabdmkkenjdnaa
