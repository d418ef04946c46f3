/- FlowSubs: of unlike numbers a key's keys are unlike. -/
import Derived.Test.YtdabdmkkenjdnaaNonceEq
import Derived.Test.YtdabdmkkenjdnaaNonce
import Derived.Test.YtdabdmkkenjdnaaPosts
import Derived.Test.YtdabdmkkenjdnaaRows
namespace Go.Proofs.Ytdabdmkkenjdnaa
open Go Go.RowKit

set_option maxRecDepth 100000 in
set_option maxHeartbeats 2000000 in
theorem subs_same (key : Pair) (a : Nn) (w : World) : Calls Try.prog 6 #[Pr key, a.val, a.val] w fun e w' => e = .returned (.bool true) ∧ Kept w w' := by
  have hK : Blk (((w.alloc (.cells #[U key.1, U key.2] 24)).alloc (.cells #[W a.epoch, W a.slot, U a.version] 34)).alloc (.cells #[W a.epoch, W a.slot, U a.version] 34)) w.heap.size #[U key.1, U key.2] 24 := ((Blk.new _ _ _).alloc _).alloc _
  have hA : Blk (((w.alloc (.cells #[U key.1, U key.2] 24)).alloc (.cells #[W a.epoch, W a.slot, U a.version] 34)).alloc (.cells #[W a.epoch, W a.slot, U a.version] 34)) (w.heap.size + 1) #[W a.epoch, W a.slot, U a.version] 34 := Blk.alloc (by simpa using Blk.new (w.alloc (.cells #[U key.1, U key.2] 24)) #[W a.epoch, W a.slot, U a.version] 34) _
  have hB : Blk (((w.alloc (.cells #[U key.1, U key.2] 24)).alloc (.cells #[W a.epoch, W a.slot, U a.version] 34)).alloc (.cells #[W a.epoch, W a.slot, U a.version] 34)) (w.heap.size + 1 + 1) #[W a.epoch, W a.slot, U a.version] 34 := by simpa using Blk.new ((w.alloc (.cells #[U key.1, U key.2] 24)).alloc (.cells #[W a.epoch, W a.slot, U a.version] 34)) #[W a.epoch, W a.slot, U a.version] 34
  have hk0 : Kept w (((w.alloc (.cells #[U key.1, U key.2] 24)).alloc (.cells #[W a.epoch, W a.slot, U a.version] 34)).alloc (.cells #[W a.epoch, W a.slot, U a.version] 34)) := ((((Below.refl _ _).alloc (Nat.le_refl _) _).alloc (by simp) _).alloc (by simp; omega) _)
  unfold Nn.val
  go_enter Try.func6, Try.ntmps6
  go_wp2_with fail
  refine wp_region_posts 14 (fun i (vv : Value) w' => match i with | 0 => vv = Pr key | 1 => vv = .agg #[W a.epoch, W a.slot, U a.version] | 2 => vv = Pr (sub2 key a) | 3 => vv = Pr key | 4 => vv = .agg #[W a.epoch, W a.slot, U a.version] | 5 => vv = Pr (sub2 key a) | 6 => vv = .bool true | 7 => vv = .agg #[W a.epoch, W a.slot, U a.version] | 8 => vv = .agg #[W a.epoch, W a.slot, U a.version] | 9 => vv = .bool true | 10 => vv = .bool true | 11 => vv = .bool true | 12 => vv = .bool true | 13 => vv = .bool true | _ => True) (by kernel_rfl) (by kernel_rfl) ?_ ?_ ?_
  · intro i v w1 w2 h hk
    match i, h with
    | 0, h => exact h
    | 1, h => exact h
    | 2, h => exact h
    | 3, h => exact h
    | 4, h => exact h
    | 5, h => exact h
    | 6, h => exact h
    | 7, h => exact h
    | 8, h => exact h
    | 9, h => exact h
    | 10, h => exact h
    | 11, h => exact h
    | 12, h => exact h
    | 13, h => exact h
    | _ + 14, _ => trivial
  · intro i o hi ho x w1 hw hpre K hK
    match i, hi, ho with
    | 0, _, ho =>
      have e := Option.some.inj ho; subst e
      have hKK : ∀ (vv : Value) (w'' : World), Kept w1 w'' → (vv = Pr key) → K _ w'' := fun v w'' h1 h2 => hK v w'' h1 h2
      clear hK hpre
      simp only [putAll, dstOf, List.getElem?_toArray, List.getElem?_cons_zero, List.getElem?_cons_succ, Option.bind_some, Act.put, List.setIfInBounds_toArray, List.set_cons_zero, List.set_cons_succ] at hKK ⊢
      refine (if_pos (by rfl)).mpr ?_
      have c := hK.kept hw; have c0 := c.cell 0; have c1 := c.cell 1; clear c
      go_wp2
      exact hKK _ _ (Below.refl _ _) rfl
    | 1, _, ho =>
      have e := Option.some.inj ho; subst e
      have hKK : ∀ (vv : Value) (w'' : World), Kept w1 w'' → (vv = .agg #[W a.epoch, W a.slot, U a.version]) → K _ w'' := fun v w'' h1 h2 => hK v w'' h1 h2
      clear hK hpre
      simp only [putAll, dstOf, List.getElem?_toArray, List.getElem?_cons_zero, List.getElem?_cons_succ, Option.bind_some, Act.put, List.setIfInBounds_toArray, List.set_cons_zero, List.set_cons_succ] at hKK ⊢
      refine (if_pos (by rfl)).mpr ?_
      have c := hA.kept hw; have c0 := c.cell 0; have c1 := c.cell 1; have c2 := c.cell 2; clear c
      go_wp2
      exact hKK _ _ (Below.refl _ _) rfl
    | 2, _, ho =>
      have e := Option.some.inj ho; subst e
      have p0 : x 0 = Pr key := hpre 0 (by kernel_rfl)
      have p1 : x 1 = .agg #[W a.epoch, W a.slot, U a.version] := hpre 1 (by kernel_rfl)
      have hKK : ∀ (vv : Value) (w'' : World), Kept w1 w'' → (vv = Pr (sub2 key a)) → K _ w'' := fun v w'' h1 h2 => hK v w'' h1 h2
      clear hK hpre
      simp only [putAll, dstOf, List.getElem?_toArray, List.getElem?_cons_zero, List.getElem?_cons_succ, Option.bind_some, Act.put, List.setIfInBounds_toArray, List.set_cons_zero, List.set_cons_succ] at hKK ⊢
      simp only [p0, p1] at hKK ⊢
      clear p0 p1
      refine (if_pos (by rfl)).mpr ?_
      go_wp2_with fail
      refine (sub_any _ _ a _).mono ?_
      rintro e w3 ⟨rfl, hk3⟩
      exact hKK _ _ hk3 rfl
    | 3, _, ho =>
      have e := Option.some.inj ho; subst e
      have hKK : ∀ (vv : Value) (w'' : World), Kept w1 w'' → (vv = Pr key) → K _ w'' := fun v w'' h1 h2 => hK v w'' h1 h2
      clear hK hpre
      simp only [putAll, dstOf, List.getElem?_toArray, List.getElem?_cons_zero, List.getElem?_cons_succ, Option.bind_some, Act.put, List.setIfInBounds_toArray, List.set_cons_zero, List.set_cons_succ] at hKK ⊢
      refine (if_pos (by rfl)).mpr ?_
      have c := hK.kept hw; have c0 := c.cell 0; have c1 := c.cell 1; clear c
      go_wp2
      exact hKK _ _ (Below.refl _ _) rfl
    | 4, _, ho =>
      have e := Option.some.inj ho; subst e
      have hKK : ∀ (vv : Value) (w'' : World), Kept w1 w'' → (vv = .agg #[W a.epoch, W a.slot, U a.version]) → K _ w'' := fun v w'' h1 h2 => hK v w'' h1 h2
      clear hK hpre
      simp only [putAll, dstOf, List.getElem?_toArray, List.getElem?_cons_zero, List.getElem?_cons_succ, Option.bind_some, Act.put, List.setIfInBounds_toArray, List.set_cons_zero, List.set_cons_succ] at hKK ⊢
      refine (if_pos (by rfl)).mpr ?_
      have c := hB.kept hw; have c0 := c.cell 0; have c1 := c.cell 1; have c2 := c.cell 2; clear c
      go_wp2
      exact hKK _ _ (Below.refl _ _) rfl
    | 5, _, ho =>
      have e := Option.some.inj ho; subst e
      have p3 : x 3 = Pr key := hpre 3 (by kernel_rfl)
      have p4 : x 4 = .agg #[W a.epoch, W a.slot, U a.version] := hpre 4 (by kernel_rfl)
      have hKK : ∀ (vv : Value) (w'' : World), Kept w1 w'' → (vv = Pr (sub2 key a)) → K _ w'' := fun v w'' h1 h2 => hK v w'' h1 h2
      clear hK hpre
      simp only [putAll, dstOf, List.getElem?_toArray, List.getElem?_cons_zero, List.getElem?_cons_succ, Option.bind_some, Act.put, List.setIfInBounds_toArray, List.set_cons_zero, List.set_cons_succ] at hKK ⊢
      simp only [p3, p4] at hKK ⊢
      clear p3 p4
      refine (if_pos (by rfl)).mpr ?_
      go_wp2_with fail
      refine (sub_any _ _ a _).mono ?_
      rintro e w3 ⟨rfl, hk3⟩
      exact hKK _ _ hk3 rfl
    | 6, _, ho =>
      have e := Option.some.inj ho; subst e
      have p2 : x 2 = Pr (sub2 key a) := hpre 2 (by kernel_rfl)
      have p5 : x 5 = Pr (sub2 key a) := hpre 5 (by kernel_rfl)
      have hKK : ∀ (vv : Value) (w'' : World), Kept w1 w'' → (vv = .bool true) → K _ w'' := fun v w'' h1 h2 => hK v w'' h1 h2
      clear hK hpre
      simp only [putAll, dstOf, List.getElem?_toArray, List.getElem?_cons_zero, List.getElem?_cons_succ, Option.bind_some, Act.put, List.setIfInBounds_toArray, List.set_cons_zero, List.set_cons_succ] at hKK ⊢
      simp only [p2, p5] at hKK ⊢
      clear p2 p5
      refine (if_pos (by rfl)).mpr ?_
      go_wp2
      exact hKK _ _ (Below.refl _ _) rfl
    | 7, _, ho =>
      have e := Option.some.inj ho; subst e
      have hKK : ∀ (vv : Value) (w'' : World), Kept w1 w'' → (vv = .agg #[W a.epoch, W a.slot, U a.version]) → K _ w'' := fun v w'' h1 h2 => hK v w'' h1 h2
      clear hK hpre
      simp only [putAll, dstOf, List.getElem?_toArray, List.getElem?_cons_zero, List.getElem?_cons_succ, Option.bind_some, Act.put, List.setIfInBounds_toArray, List.set_cons_zero, List.set_cons_succ] at hKK ⊢
      refine (if_pos (by rfl)).mpr ?_
      have c := hA.kept hw; have c0 := c.cell 0; have c1 := c.cell 1; have c2 := c.cell 2; clear c
      go_wp2
      exact hKK _ _ (Below.refl _ _) rfl
    | 8, _, ho =>
      have e := Option.some.inj ho; subst e
      have hKK : ∀ (vv : Value) (w'' : World), Kept w1 w'' → (vv = .agg #[W a.epoch, W a.slot, U a.version]) → K _ w'' := fun v w'' h1 h2 => hK v w'' h1 h2
      clear hK hpre
      simp only [putAll, dstOf, List.getElem?_toArray, List.getElem?_cons_zero, List.getElem?_cons_succ, Option.bind_some, Act.put, List.setIfInBounds_toArray, List.set_cons_zero, List.set_cons_succ] at hKK ⊢
      refine (if_pos (by rfl)).mpr ?_
      have c := hB.kept hw; have c0 := c.cell 0; have c1 := c.cell 1; have c2 := c.cell 2; clear c
      go_wp2
      exact hKK _ _ (Below.refl _ _) rfl
    | 9, _, ho =>
      have e := Option.some.inj ho; subst e
      have p7 : x 7 = .agg #[W a.epoch, W a.slot, U a.version] := hpre 7 (by kernel_rfl)
      have p8 : x 8 = .agg #[W a.epoch, W a.slot, U a.version] := hpre 8 (by kernel_rfl)
      have hKK : ∀ (vv : Value) (w'' : World), Kept w1 w'' → (vv = .bool true) → K _ w'' := fun v w'' h1 h2 => hK v w'' h1 h2
      clear hK hpre
      simp only [putAll, dstOf, List.getElem?_toArray, List.getElem?_cons_zero, List.getElem?_cons_succ, Option.bind_some, Act.put, List.setIfInBounds_toArray, List.set_cons_zero, List.set_cons_succ] at hKK ⊢
      simp only [p7, p8] at hKK ⊢
      clear p7 p8
      refine (if_pos (by rfl)).mpr ?_
      go_wp2
      exact hKK _ _ (Below.refl _ _) rfl
    | 10, _, ho =>
      have e := Option.some.inj ho; subst e
      have p6 : x 6 = .bool true := hpre 6 (by kernel_rfl)
      have p9 : x 9 = .bool true := hpre 9 (by kernel_rfl)
      have hKK : ∀ (vv : Value) (w'' : World), Kept w1 w'' → (vv = .bool true) → K _ w'' := fun v w'' h1 h2 => hK v w'' h1 h2
      clear hK hpre
      simp only [putAll, dstOf, List.getElem?_toArray, List.getElem?_cons_zero, List.getElem?_cons_succ, Option.bind_some, Act.put, List.setIfInBounds_toArray, List.set_cons_zero, List.set_cons_succ] at hKK ⊢
      simp only [p6, p9] at hKK ⊢
      clear p6 p9
      refine (if_pos (by rfl)).mpr ?_
      go_wp2
      exact hKK _ _ (Below.refl _ _) rfl
    | 11, _, ho =>
      have e := Option.some.inj ho; subst e
      have p10 : x 10 = .bool true := hpre 10 (by kernel_rfl)
      have hKK : ∀ (vv : Value) (w'' : World), Kept w1 w'' → (vv = .bool true) → K _ w'' := fun v w'' h1 h2 => hK v w'' h1 h2
      clear hK hpre
      simp only [putAll, dstOf, List.getElem?_toArray, List.getElem?_cons_zero, List.getElem?_cons_succ, Option.bind_some, Act.put, List.setIfInBounds_toArray, List.set_cons_zero, List.set_cons_succ] at hKK ⊢
      simp only [p10] at hKK ⊢
      clear p10
      refine (if_pos (by rfl)).mpr ?_
      go_wp2
      exact hKK _ _ (Below.refl _ _) rfl
    | 12, _, ho =>
      have e := Option.some.inj ho; subst e
      have p11 : x 11 = .bool true := hpre 11 (by kernel_rfl)
      have hKK : ∀ (vv : Value) (w'' : World), Kept w1 w'' → (vv = .bool true) → K _ w'' := fun v w'' h1 h2 => hK v w'' h1 h2
      clear hK hpre
      simp only [putAll, dstOf, List.getElem?_toArray, List.getElem?_cons_zero, List.getElem?_cons_succ, Option.bind_some, Act.put, List.setIfInBounds_toArray, List.set_cons_zero, List.set_cons_succ] at hKK ⊢
      simp only [p11] at hKK ⊢
      clear p11
      refine (if_pos (by rfl)).mpr ?_
      go_wp2_with fail
      refine (known_any _).mono ?_
      rintro e w2 ⟨rfl, hk2⟩
      go_wp2
      exact hKK _ _ hk2 rfl
    | 13, _, ho =>
      have e := Option.some.inj ho; subst e
      have p11 : x 11 = .bool true := hpre 11 (by kernel_rfl)
      have p12 : x 12 = .bool true := hpre 12 (by kernel_rfl)
      have hKK : ∀ (vv : Value) (w'' : World), Kept w1 w'' → (vv = .bool true) → K _ w'' := fun v w'' h1 h2 => hK v w'' h1 h2
      clear hK hpre
      simp only [putAll, dstOf, List.getElem?_toArray, List.getElem?_cons_zero, List.getElem?_cons_succ, Option.bind_some, Act.put, List.setIfInBounds_toArray, List.set_cons_zero, List.set_cons_succ] at hKK ⊢
      simp only [p11, p12] at hKK ⊢
      clear p11 p12
      refine (if_pos (by rfl)).mpr ?_
      go_wp2
      exact hKK _ _ (Below.refl _ _) rfl
    | i + 14, hi, _ => exact absurd hi (by omega)
  · intro x w1 hw hA
    have p0 : x 0 = Pr key := hA 0 (by omega)
    have p1 : x 1 = .agg #[W a.epoch, W a.slot, U a.version] := hA 1 (by omega)
    have p2 : x 2 = Pr (sub2 key a) := hA 2 (by omega)
    have p3 : x 3 = Pr key := hA 3 (by omega)
    have p4 : x 4 = .agg #[W a.epoch, W a.slot, U a.version] := hA 4 (by omega)
    have p5 : x 5 = Pr (sub2 key a) := hA 5 (by omega)
    have p6 : x 6 = .bool true := hA 6 (by omega)
    have p7 : x 7 = .agg #[W a.epoch, W a.slot, U a.version] := hA 7 (by omega)
    have p8 : x 8 = .agg #[W a.epoch, W a.slot, U a.version] := hA 8 (by omega)
    have p9 : x 9 = .bool true := hA 9 (by omega)
    have p10 : x 10 = .bool true := hA 10 (by omega)
    have p11 : x 11 = .bool true := hA 11 (by omega)
    have p12 : x 12 = .bool true := hA 12 (by omega)
    have p13 : x 13 = .bool true := hA 13 (by omega)
    clear hA
    simp only [List.drop_succ_cons, List.drop_zero, putAll, dstOf, List.getElem?_toArray, List.getElem?_cons_zero, List.getElem?_cons_succ, Option.bind_some, Act.put, List.setIfInBounds_toArray, List.set_cons_zero, List.set_cons_succ]
    simp only [p0, p1, p2, p3, p4, p5, p6, p7, p8, p9, p10, p11, p12, p13]
    clear p0 p1 p2 p3 p4 p5 p6 p7 p8 p9 p10 p11 p12 p13
    go_wp2
    go_ret
    exact ⟨rfl, hk0.of hw⟩

set_option maxRecDepth 100000 in
set_option maxHeartbeats 2000000 in
theorem subs_other (key : Pair) (a b : Nn) (h : a ≠ b) (w : World) : Calls Try.prog 6 #[Pr key, a.val, b.val] w fun e w' => e = .returned (.bool true) ∧ Kept w w' := by
  have he : (sub2 key a == sub2 key b) = false := by rw [sub_inj]; simp [h]
  have hd : decide ((⟨a.epoch, a.slot, a.version⟩ : Nn) = ⟨b.epoch, b.slot, b.version⟩) = false := decide_eq_false (fun e => h e)
  have hK : Blk (((w.alloc (.cells #[U key.1, U key.2] 24)).alloc (.cells #[W a.epoch, W a.slot, U a.version] 34)).alloc (.cells #[W b.epoch, W b.slot, U b.version] 34)) w.heap.size #[U key.1, U key.2] 24 := ((Blk.new _ _ _).alloc _).alloc _
  have hA : Blk (((w.alloc (.cells #[U key.1, U key.2] 24)).alloc (.cells #[W a.epoch, W a.slot, U a.version] 34)).alloc (.cells #[W b.epoch, W b.slot, U b.version] 34)) (w.heap.size + 1) #[W a.epoch, W a.slot, U a.version] 34 := Blk.alloc (by simpa using Blk.new (w.alloc (.cells #[U key.1, U key.2] 24)) #[W a.epoch, W a.slot, U a.version] 34) _
  have hB : Blk (((w.alloc (.cells #[U key.1, U key.2] 24)).alloc (.cells #[W a.epoch, W a.slot, U a.version] 34)).alloc (.cells #[W b.epoch, W b.slot, U b.version] 34)) (w.heap.size + 1 + 1) #[W b.epoch, W b.slot, U b.version] 34 := by simpa using Blk.new ((w.alloc (.cells #[U key.1, U key.2] 24)).alloc (.cells #[W a.epoch, W a.slot, U a.version] 34)) #[W b.epoch, W b.slot, U b.version] 34
  have hk0 : Kept w (((w.alloc (.cells #[U key.1, U key.2] 24)).alloc (.cells #[W a.epoch, W a.slot, U a.version] 34)).alloc (.cells #[W b.epoch, W b.slot, U b.version] 34)) := ((((Below.refl _ _).alloc (Nat.le_refl _) _).alloc (by simp) _).alloc (by simp; omega) _)
  unfold Nn.val
  go_enter Try.func6, Try.ntmps6
  go_wp2_with fail
  refine wp_region_posts 14 (fun i (vv : Value) w' => match i with | 0 => vv = Pr key | 1 => vv = .agg #[W a.epoch, W a.slot, U a.version] | 2 => vv = Pr (sub2 key a) | 3 => vv = Pr key | 4 => vv = .agg #[W b.epoch, W b.slot, U b.version] | 5 => vv = Pr (sub2 key b) | 6 => vv = .bool false | 7 => vv = .agg #[W a.epoch, W a.slot, U a.version] | 8 => vv = .agg #[W b.epoch, W b.slot, U b.version] | 9 => vv = .bool false | 10 => vv = .bool true | 11 => vv = .bool true | 12 => vv = .bool true | 13 => vv = .bool true | _ => True) (by kernel_rfl) (by kernel_rfl) ?_ ?_ ?_
  · intro i v w1 w2 h hk
    match i, h with
    | 0, h => exact h
    | 1, h => exact h
    | 2, h => exact h
    | 3, h => exact h
    | 4, h => exact h
    | 5, h => exact h
    | 6, h => exact h
    | 7, h => exact h
    | 8, h => exact h
    | 9, h => exact h
    | 10, h => exact h
    | 11, h => exact h
    | 12, h => exact h
    | 13, h => exact h
    | _ + 14, _ => trivial
  · intro i o hi ho x w1 hw hpre K hK
    match i, hi, ho with
    | 0, _, ho =>
      have e := Option.some.inj ho; subst e
      have hKK : ∀ (vv : Value) (w'' : World), Kept w1 w'' → (vv = Pr key) → K _ w'' := fun v w'' h1 h2 => hK v w'' h1 h2
      clear hK hpre
      simp only [putAll, dstOf, List.getElem?_toArray, List.getElem?_cons_zero, List.getElem?_cons_succ, Option.bind_some, Act.put, List.setIfInBounds_toArray, List.set_cons_zero, List.set_cons_succ] at hKK ⊢
      refine (if_pos (by rfl)).mpr ?_
      have c := hK.kept hw; have c0 := c.cell 0; have c1 := c.cell 1; clear c
      go_wp2
      exact hKK _ _ (Below.refl _ _) rfl
    | 1, _, ho =>
      have e := Option.some.inj ho; subst e
      have hKK : ∀ (vv : Value) (w'' : World), Kept w1 w'' → (vv = .agg #[W a.epoch, W a.slot, U a.version]) → K _ w'' := fun v w'' h1 h2 => hK v w'' h1 h2
      clear hK hpre
      simp only [putAll, dstOf, List.getElem?_toArray, List.getElem?_cons_zero, List.getElem?_cons_succ, Option.bind_some, Act.put, List.setIfInBounds_toArray, List.set_cons_zero, List.set_cons_succ] at hKK ⊢
      refine (if_pos (by rfl)).mpr ?_
      have c := hA.kept hw; have c0 := c.cell 0; have c1 := c.cell 1; have c2 := c.cell 2; clear c
      go_wp2
      exact hKK _ _ (Below.refl _ _) rfl
    | 2, _, ho =>
      have e := Option.some.inj ho; subst e
      have p0 : x 0 = Pr key := hpre 0 (by kernel_rfl)
      have p1 : x 1 = .agg #[W a.epoch, W a.slot, U a.version] := hpre 1 (by kernel_rfl)
      have hKK : ∀ (vv : Value) (w'' : World), Kept w1 w'' → (vv = Pr (sub2 key a)) → K _ w'' := fun v w'' h1 h2 => hK v w'' h1 h2
      clear hK hpre
      simp only [putAll, dstOf, List.getElem?_toArray, List.getElem?_cons_zero, List.getElem?_cons_succ, Option.bind_some, Act.put, List.setIfInBounds_toArray, List.set_cons_zero, List.set_cons_succ] at hKK ⊢
      simp only [p0, p1] at hKK ⊢
      clear p0 p1
      refine (if_pos (by rfl)).mpr ?_
      go_wp2_with fail
      refine (sub_any _ _ a _).mono ?_
      rintro e w3 ⟨rfl, hk3⟩
      exact hKK _ _ hk3 rfl
    | 3, _, ho =>
      have e := Option.some.inj ho; subst e
      have hKK : ∀ (vv : Value) (w'' : World), Kept w1 w'' → (vv = Pr key) → K _ w'' := fun v w'' h1 h2 => hK v w'' h1 h2
      clear hK hpre
      simp only [putAll, dstOf, List.getElem?_toArray, List.getElem?_cons_zero, List.getElem?_cons_succ, Option.bind_some, Act.put, List.setIfInBounds_toArray, List.set_cons_zero, List.set_cons_succ] at hKK ⊢
      refine (if_pos (by rfl)).mpr ?_
      have c := hK.kept hw; have c0 := c.cell 0; have c1 := c.cell 1; clear c
      go_wp2
      exact hKK _ _ (Below.refl _ _) rfl
    | 4, _, ho =>
      have e := Option.some.inj ho; subst e
      have hKK : ∀ (vv : Value) (w'' : World), Kept w1 w'' → (vv = .agg #[W b.epoch, W b.slot, U b.version]) → K _ w'' := fun v w'' h1 h2 => hK v w'' h1 h2
      clear hK hpre
      simp only [putAll, dstOf, List.getElem?_toArray, List.getElem?_cons_zero, List.getElem?_cons_succ, Option.bind_some, Act.put, List.setIfInBounds_toArray, List.set_cons_zero, List.set_cons_succ] at hKK ⊢
      refine (if_pos (by rfl)).mpr ?_
      have c := hB.kept hw; have c0 := c.cell 0; have c1 := c.cell 1; have c2 := c.cell 2; clear c
      go_wp2
      exact hKK _ _ (Below.refl _ _) rfl
    | 5, _, ho =>
      have e := Option.some.inj ho; subst e
      have p3 : x 3 = Pr key := hpre 3 (by kernel_rfl)
      have p4 : x 4 = .agg #[W b.epoch, W b.slot, U b.version] := hpre 4 (by kernel_rfl)
      have hKK : ∀ (vv : Value) (w'' : World), Kept w1 w'' → (vv = Pr (sub2 key b)) → K _ w'' := fun v w'' h1 h2 => hK v w'' h1 h2
      clear hK hpre
      simp only [putAll, dstOf, List.getElem?_toArray, List.getElem?_cons_zero, List.getElem?_cons_succ, Option.bind_some, Act.put, List.setIfInBounds_toArray, List.set_cons_zero, List.set_cons_succ] at hKK ⊢
      simp only [p3, p4] at hKK ⊢
      clear p3 p4
      refine (if_pos (by rfl)).mpr ?_
      go_wp2_with fail
      refine (sub_any _ _ b _).mono ?_
      rintro e w3 ⟨rfl, hk3⟩
      exact hKK _ _ hk3 rfl
    | 6, _, ho =>
      have e := Option.some.inj ho; subst e
      have p2 : x 2 = Pr (sub2 key a) := hpre 2 (by kernel_rfl)
      have p5 : x 5 = Pr (sub2 key b) := hpre 5 (by kernel_rfl)
      have hKK : ∀ (vv : Value) (w'' : World), Kept w1 w'' → (vv = .bool false) → K _ w'' := fun v w'' h1 h2 => hK v w'' h1 h2
      clear hK hpre
      simp only [putAll, dstOf, List.getElem?_toArray, List.getElem?_cons_zero, List.getElem?_cons_succ, Option.bind_some, Act.put, List.setIfInBounds_toArray, List.set_cons_zero, List.set_cons_succ] at hKK ⊢
      simp only [p2, p5] at hKK ⊢
      clear p2 p5
      refine (if_pos (by rfl)).mpr ?_
      go_wp2
      exact hKK _ _ (Below.refl _ _) rfl
    | 7, _, ho =>
      have e := Option.some.inj ho; subst e
      have hKK : ∀ (vv : Value) (w'' : World), Kept w1 w'' → (vv = .agg #[W a.epoch, W a.slot, U a.version]) → K _ w'' := fun v w'' h1 h2 => hK v w'' h1 h2
      clear hK hpre
      simp only [putAll, dstOf, List.getElem?_toArray, List.getElem?_cons_zero, List.getElem?_cons_succ, Option.bind_some, Act.put, List.setIfInBounds_toArray, List.set_cons_zero, List.set_cons_succ] at hKK ⊢
      refine (if_pos (by rfl)).mpr ?_
      have c := hA.kept hw; have c0 := c.cell 0; have c1 := c.cell 1; have c2 := c.cell 2; clear c
      go_wp2
      exact hKK _ _ (Below.refl _ _) rfl
    | 8, _, ho =>
      have e := Option.some.inj ho; subst e
      have hKK : ∀ (vv : Value) (w'' : World), Kept w1 w'' → (vv = .agg #[W b.epoch, W b.slot, U b.version]) → K _ w'' := fun v w'' h1 h2 => hK v w'' h1 h2
      clear hK hpre
      simp only [putAll, dstOf, List.getElem?_toArray, List.getElem?_cons_zero, List.getElem?_cons_succ, Option.bind_some, Act.put, List.setIfInBounds_toArray, List.set_cons_zero, List.set_cons_succ] at hKK ⊢
      refine (if_pos (by rfl)).mpr ?_
      have c := hB.kept hw; have c0 := c.cell 0; have c1 := c.cell 1; have c2 := c.cell 2; clear c
      go_wp2
      exact hKK _ _ (Below.refl _ _) rfl
    | 9, _, ho =>
      have e := Option.some.inj ho; subst e
      have p7 : x 7 = .agg #[W a.epoch, W a.slot, U a.version] := hpre 7 (by kernel_rfl)
      have p8 : x 8 = .agg #[W b.epoch, W b.slot, U b.version] := hpre 8 (by kernel_rfl)
      have hKK : ∀ (vv : Value) (w'' : World), Kept w1 w'' → (vv = .bool false) → K _ w'' := fun v w'' h1 h2 => hK v w'' h1 h2
      clear hK hpre
      simp only [putAll, dstOf, List.getElem?_toArray, List.getElem?_cons_zero, List.getElem?_cons_succ, Option.bind_some, Act.put, List.setIfInBounds_toArray, List.set_cons_zero, List.set_cons_succ] at hKK ⊢
      simp only [p7, p8] at hKK ⊢
      clear p7 p8
      refine (if_pos (by rfl)).mpr ?_
      go_wp2
      exact hKK _ _ (Below.refl _ _) rfl
    | 10, _, ho =>
      have e := Option.some.inj ho; subst e
      have p6 : x 6 = .bool false := hpre 6 (by kernel_rfl)
      have p9 : x 9 = .bool false := hpre 9 (by kernel_rfl)
      have hKK : ∀ (vv : Value) (w'' : World), Kept w1 w'' → (vv = .bool true) → K _ w'' := fun v w'' h1 h2 => hK v w'' h1 h2
      clear hK hpre
      simp only [putAll, dstOf, List.getElem?_toArray, List.getElem?_cons_zero, List.getElem?_cons_succ, Option.bind_some, Act.put, List.setIfInBounds_toArray, List.set_cons_zero, List.set_cons_succ] at hKK ⊢
      simp only [p6, p9] at hKK ⊢
      clear p6 p9
      refine (if_pos (by rfl)).mpr ?_
      go_wp2
      exact hKK _ _ (Below.refl _ _) rfl
    | 11, _, ho =>
      have e := Option.some.inj ho; subst e
      have p10 : x 10 = .bool true := hpre 10 (by kernel_rfl)
      have hKK : ∀ (vv : Value) (w'' : World), Kept w1 w'' → (vv = .bool true) → K _ w'' := fun v w'' h1 h2 => hK v w'' h1 h2
      clear hK hpre
      simp only [putAll, dstOf, List.getElem?_toArray, List.getElem?_cons_zero, List.getElem?_cons_succ, Option.bind_some, Act.put, List.setIfInBounds_toArray, List.set_cons_zero, List.set_cons_succ] at hKK ⊢
      simp only [p10] at hKK ⊢
      clear p10
      refine (if_pos (by rfl)).mpr ?_
      go_wp2
      exact hKK _ _ (Below.refl _ _) rfl
    | 12, _, ho =>
      have e := Option.some.inj ho; subst e
      have p11 : x 11 = .bool true := hpre 11 (by kernel_rfl)
      have hKK : ∀ (vv : Value) (w'' : World), Kept w1 w'' → (vv = .bool true) → K _ w'' := fun v w'' h1 h2 => hK v w'' h1 h2
      clear hK hpre
      simp only [putAll, dstOf, List.getElem?_toArray, List.getElem?_cons_zero, List.getElem?_cons_succ, Option.bind_some, Act.put, List.setIfInBounds_toArray, List.set_cons_zero, List.set_cons_succ] at hKK ⊢
      simp only [p11] at hKK ⊢
      clear p11
      refine (if_pos (by rfl)).mpr ?_
      go_wp2_with fail
      refine (known_any _).mono ?_
      rintro e w2 ⟨rfl, hk2⟩
      go_wp2
      exact hKK _ _ hk2 rfl
    | 13, _, ho =>
      have e := Option.some.inj ho; subst e
      have p11 : x 11 = .bool true := hpre 11 (by kernel_rfl)
      have p12 : x 12 = .bool true := hpre 12 (by kernel_rfl)
      have hKK : ∀ (vv : Value) (w'' : World), Kept w1 w'' → (vv = .bool true) → K _ w'' := fun v w'' h1 h2 => hK v w'' h1 h2
      clear hK hpre
      simp only [putAll, dstOf, List.getElem?_toArray, List.getElem?_cons_zero, List.getElem?_cons_succ, Option.bind_some, Act.put, List.setIfInBounds_toArray, List.set_cons_zero, List.set_cons_succ] at hKK ⊢
      simp only [p11, p12] at hKK ⊢
      clear p11 p12
      refine (if_pos (by rfl)).mpr ?_
      go_wp2
      exact hKK _ _ (Below.refl _ _) rfl
    | i + 14, hi, _ => exact absurd hi (by omega)
  · intro x w1 hw hA
    have p0 : x 0 = Pr key := hA 0 (by omega)
    have p1 : x 1 = .agg #[W a.epoch, W a.slot, U a.version] := hA 1 (by omega)
    have p2 : x 2 = Pr (sub2 key a) := hA 2 (by omega)
    have p3 : x 3 = Pr key := hA 3 (by omega)
    have p4 : x 4 = .agg #[W b.epoch, W b.slot, U b.version] := hA 4 (by omega)
    have p5 : x 5 = Pr (sub2 key b) := hA 5 (by omega)
    have p6 : x 6 = .bool false := hA 6 (by omega)
    have p7 : x 7 = .agg #[W a.epoch, W a.slot, U a.version] := hA 7 (by omega)
    have p8 : x 8 = .agg #[W b.epoch, W b.slot, U b.version] := hA 8 (by omega)
    have p9 : x 9 = .bool false := hA 9 (by omega)
    have p10 : x 10 = .bool true := hA 10 (by omega)
    have p11 : x 11 = .bool true := hA 11 (by omega)
    have p12 : x 12 = .bool true := hA 12 (by omega)
    have p13 : x 13 = .bool true := hA 13 (by omega)
    clear hA
    simp only [List.drop_succ_cons, List.drop_zero, putAll, dstOf, List.getElem?_toArray, List.getElem?_cons_zero, List.getElem?_cons_succ, Option.bind_some, Act.put, List.setIfInBounds_toArray, List.set_cons_zero, List.set_cons_succ]
    simp only [p0, p1, p2, p3, p4, p5, p6, p7, p8, p9, p10, p11, p12, p13]
    clear p0 p1 p2 p3 p4 p5 p6 p7 p8 p9 p10 p11 p12 p13
    go_wp2
    go_ret
    exact ⟨rfl, hk0.of hw⟩

theorem subs_walk (key : Pair) (a b : Nn) (w : World) : Calls Try.prog 6 #[Pr key, a.val, b.val] w fun e w' => e = .returned (.bool true) ∧ Kept w w' := by
  by_cases h : a = b
  · subst h; exact subs_same key a w
  · exact subs_other key a b h w

namespace flowSubsRow
open Go.ChangeShapes Go.WideShapes Go.ChangeAt Go.RowKit
theorem own : ownKnob Try.prog.godebug = none := by kernel_rfl
theorem laidOut : laidOutB Try.prog = true := by kernel_rfl

set_option maxRecDepth 100000 in
theorem lifted (os : Os) (started : os.Started) (H : Type) (enc : TypeId × Value → H) :
    ReturnsInHanded {} Try.checked os 6 .any (Rows.flowSubsSpec.pre6 enc Try.prog Try.f6 Rows.flowSubsRow.domain false) (Rows.flowSubsSpec.post enc Try.prog Try.f6 false true false false) := by
  refine returnsInHanded_of_change (C := Try.checked) own started (by kernel_rfl) Try.func6
    (ChangeSpec.witness6 (enc := enc) (C := Try.checked) false ⟨#[], #[.agg #[.int .u64 0, .int .u64 0], .agg #[.int .u32 0, .int .u32 0, .int .u64 0], .agg #[.int .u32 0, .int .u32 0, .int .u64 0]], []⟩ 8 (by kernel_rfl) (by kernel_rfl) (by kernel_rfl) (by kernel_rfl)) ?_
  intro W base args ds gs before hval0 hW _ hsz
  have hval : ∀ (j : Nat) t v, Try.f6.params[j]? = some t → args[j]? = some v → Value.okWide Try.prog W .any base t v := hval0
  have hW' := hW
  obtain ⟨p, q, hA0, hV, rfl, hfz, hnd⟩ := hW
  have hA : DataW.TrodAll enc Try.prog W 0 (fun _ => true) true Try.f6.params.toList args.toList ds p := hA0
  rw [Try.params6] at hA hval
  obtain ⟨v0, vs0, d0, ds0, p0, q0, hargs, rfl, rfl, h0, r0⟩ := trodAll_cons hA
  obtain ⟨v1, vs1, d1, ds1, p1, q1, rfl, rfl, rfl, h1, r1⟩ := trodAll_cons r0
  obtain ⟨v2, vs2, d2, ds2, p2, q2, rfl, rfl, rfl, h2, r2⟩ := trodAll_cons r1
  obtain ⟨rfl, rfl, rfl⟩ := trodAll_nil r2
  obtain rfl : args = #[v0, v1, v2] := by cases args; simp_all
  obtain ⟨a0, rfl⟩ := open_pair (e := 22) Try.underlying24 Try.underlying22 (by kernel_rfl) (by kernel_rfl) (hval 0 24 v0 rfl rfl) h0
  obtain ⟨a1, rfl⟩ := open_nonce (H := H) Try.underlying34 (by kernel_rfl) (by kernel_rfl) Try.underlying32 Try.underlying32 Try.underlying22 (hval 1 34 v1 rfl rfl) h1
  obtain ⟨a2, rfl⟩ := open_nonce (H := H) Try.underlying34 (by kernel_rfl) (by kernel_rfl) Try.underlying32 Try.underlying32 Try.underlying22 (hval 2 34 v2 rfl rfl) h2
  refine (subs_walk a0 a1 a2 W).mono fun e W' ⟨he, bel⟩ => ?_
  subst he
  exact ⟨_, rfl, law_post (tb := 4) laidOut (by kernel_rfl) Try.underlying4 (by rfl) rfl (by intro xs hxs; match xs, hxs with | [x0, x1, x2], _ => rfl) hW' bel⟩

theorem over : Rows.flowSubsRow.holds Try.pinned (OpenSpec.ofChange Rows.flowSubsSpec) :=
  OpenClaim.holds_of_wide 6 Try.f6 rfl rfl rfl rfl rfl rfl rfl ⟨rfl, rfl, rfl, rfl, rfl⟩ rfl rfl rfl rfl rfl (by kernel_rfl) Try.func6 (by kernel_rfl)
    (of_decide_eq_true (by kernel_rfl)) (by unfold Func.isWrapper; rw [if_neg (of_decide_eq_false (by kernel_rfl))]; exact ⟨rfl, rfl⟩)
    (fun os started H enc _ => lifted os started H enc)
end flowSubsRow

theorem flowSubs_holds : Rows.FlowSubsSaid := flowSubsRow.over
#print axioms flowSubs_holds

end Go.Proofs.Ytdabdmkkenjdnaa
