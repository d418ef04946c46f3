/- The example that each law of chapter 4 holds beside. -/
import Derived.Test.YtdabdmkkenjdnaaFlowW
import Derived.Test.YtdabdmkkenjdnaaFrame
namespace Go.Proofs.Ytdabdmkkenjdnaa
open Go Go.RowKit

theorem cells_u64 : Try.prog.cellsOf 22 = 1 := by kernel_rfl
@[go_sem] theorem eql_pair (a b c f : BitVec 64) (w : World) : (Op.equalIn 10000 24 (.agg #[U a, U b]) (.agg #[U c, U f])).run Try.prog w = .ok ((a, b) == (c, f)) w :=
  equalIn_pair w 9998 24 22 Try.underlying24 Try.underlying22 cells_u64 a b c f

set_option maxRecDepth 100000 in
set_option maxHeartbeats 2000000 in
theorem known_any (w : World) : Calls Try.prog 9 #[] w fun e w' => e = .returned (.bool true) ∧ Kept w w' := by
  have hX := Blk.new w #[U 1#64, U 2#64] 24
  go_enter Try.func9, Try.ntmps9
  go_wp2_with fail
  refine wp_region_posts 13 (fun i (vv : Value) w' => match i with | 0 => vv = Pr (1#64, 2#64) | 1 => Sl w' vv 0 [] | 2 => vv = .int .i64 (0 : Nat) | 3 => vv = .bool true | 4 => vv = .bool true | 5 => vv = Pr (1#64, 2#64) | 6 => Sl w' vv ((flowB (1#64, 2#64) 20).length) (bcells (flowB (1#64, 2#64) 20)) | 7 => vv = Str (flowB (1#64, 2#64) 20) | 8 => vv = Pr (1#64, 2#64) | 9 => Sl w' vv ((flowB (1#64, 2#64) 20).length) (bcells (flowB (1#64, 2#64) 20)) | 10 => vv = Str (flowB (1#64, 2#64) 20) | 11 => vv = .bool true | 12 => vv = .bool true | _ => True) (by kernel_rfl) (by kernel_rfl) ?_ ?_ ?_
  · intro i v w1 w2 h hk
    match i, h with
    | 0, h => exact h
    | 1, h => exact h.kept hk
    | 2, h => exact h
    | 3, h => exact h
    | 4, h => exact h
    | 5, h => exact h
    | 6, h => exact h.kept hk
    | 7, h => exact h
    | 8, h => exact h
    | 9, h => exact h.kept hk
    | 10, h => exact h
    | 11, h => exact h
    | 12, h => exact h
    | _ + 13, _ => trivial
  · intro i o hi ho x w1 hw hpre K hK
    match i, hi, ho with
    | 0, _, ho =>
      have e := Option.some.inj ho; subst e
      have hKK : ∀ (vv : Value) (w'' : World), Kept w1 w'' → (vv = Pr (1#64, 2#64)) → K _ w'' := fun v w'' h1 h2 => hK v w'' h1 h2
      clear hK hpre
      simp only [putAll, dstOf, List.getElem?_toArray, List.getElem?_cons_zero, List.getElem?_cons_succ, Option.bind_some, Act.put, List.setIfInBounds_toArray, List.set_cons_zero, List.set_cons_succ] at hKK ⊢
      refine (if_pos (by rfl)).mpr ?_
      have c := hX.kept hw; have c0 := c.cell 0; have c1 := c.cell 1; clear c
      go_wp2
      exact hKK _ _ (Below.refl _ _) rfl
    | 1, _, ho =>
      have e := Option.some.inj ho; subst e
      have p0 : x 0 = Pr (1#64, 2#64) := hpre 0 (by kernel_rfl)
      have hKK : ∀ (vv : Value) (w'' : World), Kept w1 w'' → (Sl w'' vv 0 []) → K _ w'' := fun v w'' h1 h2 => hK v w'' h1 h2
      clear hK hpre
      simp only [putAll, dstOf, List.getElem?_toArray, List.getElem?_cons_zero, List.getElem?_cons_succ, Option.bind_some, Act.put, List.setIfInBounds_toArray, List.set_cons_zero, List.set_cons_succ] at hKK ⊢
      simp only [p0] at hKK ⊢
      clear p0
      refine (if_pos (by rfl)).mpr ?_
      go_wp2_with fail
      refine (fbytes_some _ _ 0 (by omega) _).mono ?_
      rintro e w2 ⟨r, rfl, hown, hk2⟩
      have hsl := Sl.of_own hown
      rw [show flowB (1#64, 2#64) 0 = [] from rfl] at hsl
      clear hown
      go_wp2
      exact hKK _ _ hk2 hsl
    | 2, _, ho =>
      have e := Option.some.inj ho; subst e
      have p1 : Sl w1 (x 1) 0 [] := hpre 1 (by kernel_rfl)
      have hKK : ∀ (vv : Value) (w'' : World), Kept w1 w'' → (vv = .int .i64 (0 : Nat)) → K _ w'' := fun v w'' h1 h2 => hK v w'' h1 h2
      clear hK hpre
      simp only [putAll, dstOf, List.getElem?_toArray, List.getElem?_cons_zero, List.getElem?_cons_succ, Option.bind_some, Act.put, List.setIfInBounds_toArray, List.set_cons_zero, List.set_cons_succ] at hKK ⊢
      refine (if_pos (by rfl)).mpr ?_
      obtain ⟨aa, cc, hv⟩ := p1.len
      rw [hv] at hKK ⊢
      go_wp2
      exact hKK _ _ (Below.refl _ _) rfl
    | 3, _, ho =>
      have e := Option.some.inj ho; subst e
      have p2 : x 2 = .int .i64 (0 : Nat) := hpre 2 (by kernel_rfl)
      have hKK : ∀ (vv : Value) (w'' : World), Kept w1 w'' → (vv = .bool true) → K _ w'' := fun v w'' h1 h2 => hK v w'' h1 h2
      clear hK hpre
      simp only [putAll, dstOf, List.getElem?_toArray, List.getElem?_cons_zero, List.getElem?_cons_succ, Option.bind_some, Act.put, List.setIfInBounds_toArray, List.set_cons_zero, List.set_cons_succ] at hKK ⊢
      simp only [p2] at hKK ⊢
      clear p2
      refine (if_pos (by rfl)).mpr ?_
      go_wp2
      exact hKK _ _ (Below.refl _ _) rfl
    | 4, _, ho =>
      have e := Option.some.inj ho; subst e
      have p3 : x 3 = .bool true := hpre 3 (by kernel_rfl)
      have hKK : ∀ (vv : Value) (w'' : World), Kept w1 w'' → (vv = .bool true) → K _ w'' := fun v w'' h1 h2 => hK v w'' h1 h2
      clear hK hpre
      simp only [putAll, dstOf, List.getElem?_toArray, List.getElem?_cons_zero, List.getElem?_cons_succ, Option.bind_some, Act.put, List.setIfInBounds_toArray, List.set_cons_zero, List.set_cons_succ] at hKK ⊢
      simp only [p3] at hKK ⊢
      clear p3
      refine (if_pos (by rfl)).mpr ?_
      go_wp2
      exact hKK _ _ (Below.refl _ _) rfl
    | 5, _, ho =>
      have e := Option.some.inj ho; subst e
      have p4 : x 4 = .bool true := hpre 4 (by kernel_rfl)
      have hKK : ∀ (vv : Value) (w'' : World), Kept w1 w'' → (vv = Pr (1#64, 2#64)) → K _ w'' := fun v w'' h1 h2 => hK v w'' h1 h2
      clear hK hpre
      simp only [putAll, dstOf, List.getElem?_toArray, List.getElem?_cons_zero, List.getElem?_cons_succ, Option.bind_some, Act.put, List.setIfInBounds_toArray, List.set_cons_zero, List.set_cons_succ] at hKK ⊢
      simp only [p4] at hKK ⊢
      clear p4
      refine (if_pos (by rfl)).mpr ?_
      have c := hX.kept hw; have c0 := c.cell 0; have c1 := c.cell 1; clear c
      go_wp2
      exact hKK _ _ (Below.refl _ _) rfl
    | 6, _, ho =>
      have e := Option.some.inj ho; subst e
      have p4 : x 4 = .bool true := hpre 4 (by kernel_rfl)
      have p5 : x 5 = Pr (1#64, 2#64) := hpre 5 (by kernel_rfl)
      have hKK : ∀ (vv : Value) (w'' : World), Kept w1 w'' → (Sl w'' vv ((flowB (1#64, 2#64) 20).length) (bcells (flowB (1#64, 2#64) 20))) → K _ w'' := fun v w'' h1 h2 => hK v w'' h1 h2
      clear hK hpre
      simp only [putAll, dstOf, List.getElem?_toArray, List.getElem?_cons_zero, List.getElem?_cons_succ, Option.bind_some, Act.put, List.setIfInBounds_toArray, List.set_cons_zero, List.set_cons_succ] at hKK ⊢
      simp only [p4, p5] at hKK ⊢
      clear p4 p5
      refine (if_pos (by rfl)).mpr ?_
      go_wp2_with fail
      refine (fbytes_some _ _ 20 (by omega) _).mono ?_
      rintro e w2 ⟨r, rfl, hown, hk2⟩
      have hsl := Sl.of_own hown
      clear hown
      go_wp2
      exact hKK _ _ hk2 (by rw [flowB_length]; exact hsl)
    | 7, _, ho =>
      have e := Option.some.inj ho; subst e
      have p4 : x 4 = .bool true := hpre 4 (by kernel_rfl)
      have p6 : Sl w1 (x 6) ((flowB (1#64, 2#64) 20).length) (bcells (flowB (1#64, 2#64) 20)) := hpre 6 (by kernel_rfl)
      have hKK : ∀ (vv : Value) (w'' : World), Kept w1 w'' → (vv = Str (flowB (1#64, 2#64) 20)) → K _ w'' := fun v w'' h1 h2 => hK v w'' h1 h2
      clear hK hpre
      simp only [putAll, dstOf, List.getElem?_toArray, List.getElem?_cons_zero, List.getElem?_cons_succ, Option.bind_some, Act.put, List.setIfInBounds_toArray, List.set_cons_zero, List.set_cons_succ] at hKK ⊢
      simp only [p4] at hKK ⊢
      clear p4
      refine (if_pos (by rfl)).mpr ?_
      have hcv := conv_bytes (P := Try.prog) w1 (src := 25) (dst := 9) Try.underlying25 Try.underlying5 Try.underlying9 p6
      go_wp2
      exact hKK _ _ (Below.refl _ _) rfl
    | 8, _, ho =>
      have e := Option.some.inj ho; subst e
      have p4 : x 4 = .bool true := hpre 4 (by kernel_rfl)
      have hKK : ∀ (vv : Value) (w'' : World), Kept w1 w'' → (vv = Pr (1#64, 2#64)) → K _ w'' := fun v w'' h1 h2 => hK v w'' h1 h2
      clear hK hpre
      simp only [putAll, dstOf, List.getElem?_toArray, List.getElem?_cons_zero, List.getElem?_cons_succ, Option.bind_some, Act.put, List.setIfInBounds_toArray, List.set_cons_zero, List.set_cons_succ] at hKK ⊢
      simp only [p4] at hKK ⊢
      clear p4
      refine (if_pos (by rfl)).mpr ?_
      have c := hX.kept hw; have c0 := c.cell 0; have c1 := c.cell 1; clear c
      go_wp2
      exact hKK _ _ (Below.refl _ _) rfl
    | 9, _, ho =>
      have e := Option.some.inj ho; subst e
      have p4 : x 4 = .bool true := hpre 4 (by kernel_rfl)
      have p8 : x 8 = Pr (1#64, 2#64) := hpre 8 (by kernel_rfl)
      have hKK : ∀ (vv : Value) (w'' : World), Kept w1 w'' → (Sl w'' vv ((flowB (1#64, 2#64) 20).length) (bcells (flowB (1#64, 2#64) 20))) → K _ w'' := fun v w'' h1 h2 => hK v w'' h1 h2
      clear hK hpre
      simp only [putAll, dstOf, List.getElem?_toArray, List.getElem?_cons_zero, List.getElem?_cons_succ, Option.bind_some, Act.put, List.setIfInBounds_toArray, List.set_cons_zero, List.set_cons_succ] at hKK ⊢
      simp only [p4, p8] at hKK ⊢
      clear p4 p8
      refine (if_pos (by rfl)).mpr ?_
      go_wp2_with fail
      refine (rfbytes_some _ _ 20 (by omega) _).mono ?_
      rintro e w2 ⟨r, rfl, hown, hk2⟩
      have hsl := Sl.of_own hown
      clear hown
      go_wp2
      exact hKK _ _ hk2 (by rw [flowB_length]; exact hsl)
    | 10, _, ho =>
      have e := Option.some.inj ho; subst e
      have p4 : x 4 = .bool true := hpre 4 (by kernel_rfl)
      have p9 : Sl w1 (x 9) ((flowB (1#64, 2#64) 20).length) (bcells (flowB (1#64, 2#64) 20)) := hpre 9 (by kernel_rfl)
      have hKK : ∀ (vv : Value) (w'' : World), Kept w1 w'' → (vv = Str (flowB (1#64, 2#64) 20)) → K _ w'' := fun v w'' h1 h2 => hK v w'' h1 h2
      clear hK hpre
      simp only [putAll, dstOf, List.getElem?_toArray, List.getElem?_cons_zero, List.getElem?_cons_succ, Option.bind_some, Act.put, List.setIfInBounds_toArray, List.set_cons_zero, List.set_cons_succ] at hKK ⊢
      simp only [p4] at hKK ⊢
      clear p4
      refine (if_pos (by rfl)).mpr ?_
      have hcv := conv_bytes (P := Try.prog) w1 (src := 25) (dst := 9) Try.underlying25 Try.underlying5 Try.underlying9 p9
      go_wp2
      exact hKK _ _ (Below.refl _ _) rfl
    | 11, _, ho =>
      have e := Option.some.inj ho; subst e
      have p4 : x 4 = .bool true := hpre 4 (by kernel_rfl)
      have p7 : x 7 = Str (flowB (1#64, 2#64) 20) := hpre 7 (by kernel_rfl)
      have p10 : x 10 = Str (flowB (1#64, 2#64) 20) := hpre 10 (by kernel_rfl)
      have hKK : ∀ (vv : Value) (w'' : World), Kept w1 w'' → (vv = .bool true) → K _ w'' := fun v w'' h1 h2 => hK v w'' h1 h2
      clear hK hpre
      simp only [putAll, dstOf, List.getElem?_toArray, List.getElem?_cons_zero, List.getElem?_cons_succ, Option.bind_some, Act.put, List.setIfInBounds_toArray, List.set_cons_zero, List.set_cons_succ] at hKK ⊢
      simp only [p4, p7, p10] at hKK ⊢
      clear p4 p7 p10
      refine (if_pos (by rfl)).mpr ?_
      go_wp2
      exact hKK _ _ (Below.refl _ _) rfl
    | 12, _, ho =>
      have e := Option.some.inj ho; subst e
      have p4 : x 4 = .bool true := hpre 4 (by kernel_rfl)
      have p11 : x 11 = .bool true := hpre 11 (by kernel_rfl)
      have hKK : ∀ (vv : Value) (w'' : World), Kept w1 w'' → (vv = .bool true) → K _ w'' := fun v w'' h1 h2 => hK v w'' h1 h2
      clear hK hpre
      simp only [putAll, dstOf, List.getElem?_toArray, List.getElem?_cons_zero, List.getElem?_cons_succ, Option.bind_some, Act.put, List.setIfInBounds_toArray, List.set_cons_zero, List.set_cons_succ] at hKK ⊢
      simp only [p4, p11] at hKK ⊢
      clear p4 p11
      refine (if_pos (by rfl)).mpr ?_
      go_wp2
      exact hKK _ _ (Below.refl _ _) rfl
    | i + 13, hi, _ => exact absurd hi (by omega)
  · intro x w1 hw hA
    have p0 : x 0 = Pr (1#64, 2#64) := hA 0 (by omega)
    have p1 : Sl w1 (x 1) 0 [] := hA 1 (by omega)
    have p2 : x 2 = .int .i64 (0 : Nat) := hA 2 (by omega)
    have p3 : x 3 = .bool true := hA 3 (by omega)
    have p4 : x 4 = .bool true := hA 4 (by omega)
    have p5 : x 5 = Pr (1#64, 2#64) := hA 5 (by omega)
    have p6 : Sl w1 (x 6) ((flowB (1#64, 2#64) 20).length) (bcells (flowB (1#64, 2#64) 20)) := hA 6 (by omega)
    have p7 : x 7 = Str (flowB (1#64, 2#64) 20) := hA 7 (by omega)
    have p8 : x 8 = Pr (1#64, 2#64) := hA 8 (by omega)
    have p9 : Sl w1 (x 9) ((flowB (1#64, 2#64) 20).length) (bcells (flowB (1#64, 2#64) 20)) := hA 9 (by omega)
    have p10 : x 10 = Str (flowB (1#64, 2#64) 20) := hA 10 (by omega)
    have p11 : x 11 = .bool true := hA 11 (by omega)
    have p12 : x 12 = .bool true := hA 12 (by omega)
    clear hA
    simp only [List.drop_succ_cons, List.drop_zero, putAll, dstOf, List.getElem?_toArray, List.getElem?_cons_zero, List.getElem?_cons_succ, Option.bind_some, Act.put, List.setIfInBounds_toArray, List.set_cons_zero, List.set_cons_succ]
    simp only [p0, p2, p3, p4, p5, p7, p8, p10, p11, p12]
    clear p0 p2 p3 p4 p5 p7 p8 p10 p11 p12
    go_wp2
    go_ret
    exact ⟨rfl, ((Below.refl _ _).alloc (Nat.le_refl _) _).trans (hw.mono (by simp))⟩

end Go.Proofs.Ytdabdmkkenjdnaa
