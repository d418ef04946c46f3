/- SpeckKeys: any key's numbers. -/
import Derived.Test.YtjmepkalomjloaaSpeckK
import Derived.Test.YtjmepkalomjloaaRows
namespace Go.Proofs.Ytjmepkalomjloaa
open Go Go.RowKit

set_option maxRecDepth 100000 in
set_option maxHeartbeats 2000000 in
theorem keys_walk (a : Pair) (w : World) : Calls Try.prog 3 #[Pr a] w fun e w' => e = .returned (.bool true) ∧ Kept w w' := by
  have hA : Blk (w.alloc (.cells #[U a.1, U a.2] 24)) w.heap.size #[U a.1, U a.2] 24 := Blk.new _ _ _
  go_enter Try.func3, Try.ntmps3
  go_wp2_with fail
  refine wp_region_posts 6 (fun i (vv : Value) w' => match i with | 0 => vv = Pr a | 1 => Sl w' vv 32 (ucells (keysL (a.1, a.2) 32)) | 2 => vv = Pr a | 3 => Sl w' vv 32 (ucells (keysL (a.1, a.2) 32)) | 4 => Sl w' vv 32 (ucells (keysL (a.1, a.2) 32)) | 5 => Sl w' vv 32 (ucells (keysL (a.1, a.2) 32)) | _ => True) (by kernel_rfl) (by kernel_rfl) ?_ ?_ ?_
  · intro i v w1 w2 h hk
    match i, h with
    | 0, h => exact h
    | 1, h => exact h.kept hk
    | 2, h => exact h
    | 3, h => exact h.kept hk
    | 4, h => exact h.kept hk
    | 5, h => exact h.kept hk
    | _ + 6, _ => trivial
  · intro i o hi ho x w1 hw hpre K hK
    match i, hi, ho with
    | 0, _, ho =>
      have e := Option.some.inj ho; subst e
      have hKK : ∀ (vv : Value) (w'' : World), Kept w1 w'' → (vv = Pr a) → K _ w'' := fun v w'' h1 h2 => hK v w'' h1 h2
      clear hK hpre
      simp only [putAll, dstOf, List.getElem?_toArray, List.getElem?_cons_zero, List.getElem?_cons_succ, Option.bind_some, Act.put, List.setIfInBounds_toArray, List.set_cons_zero, List.set_cons_succ] at hKK ⊢
      refine (if_pos (by rfl)).mpr ?_
      have c := hA.kept hw; have c0 := c.cell 0; have c1 := c.cell 1; clear c
      go_wp2
      exact hKK _ _ (Below.refl _ _) rfl
    | 1, _, ho =>
      have e := Option.some.inj ho; subst e
      have p0 : x 0 = Pr a := hpre 0 (by kernel_rfl)
      have hKK : ∀ (vv : Value) (w'' : World), Kept w1 w'' → (Sl w'' vv 32 (ucells (keysL (a.1, a.2) 32))) → K _ w'' := fun v w'' h1 h2 => hK v w'' h1 h2
      clear hK hpre
      simp only [putAll, dstOf, List.getElem?_toArray, List.getElem?_cons_zero, List.getElem?_cons_succ, Option.bind_some, Act.put, List.setIfInBounds_toArray, List.set_cons_zero, List.set_cons_succ] at hKK ⊢
      simp only [p0] at hKK ⊢
      clear p0
      refine (if_pos (by rfl)).mpr ?_
      go_wp2_with fail
      refine (keys_any _ _ _).mono ?_
      rintro e w2 ⟨r, rfl, hown, hk2⟩
      exact hKK _ _ hk2 (by have := Sl.of_own hown; exact this)
    | 2, _, ho =>
      have e := Option.some.inj ho; subst e
      have hKK : ∀ (vv : Value) (w'' : World), Kept w1 w'' → (vv = Pr a) → K _ w'' := fun v w'' h1 h2 => hK v w'' h1 h2
      clear hK hpre
      simp only [putAll, dstOf, List.getElem?_toArray, List.getElem?_cons_zero, List.getElem?_cons_succ, Option.bind_some, Act.put, List.setIfInBounds_toArray, List.set_cons_zero, List.set_cons_succ] at hKK ⊢
      refine (if_pos (by rfl)).mpr ?_
      have c := hA.kept hw; have c0 := c.cell 0; have c1 := c.cell 1; clear c
      go_wp2
      exact hKK _ _ (Below.refl _ _) rfl
    | 3, _, ho =>
      have e := Option.some.inj ho; subst e
      have p2 : x 2 = Pr a := hpre 2 (by kernel_rfl)
      have hKK : ∀ (vv : Value) (w'' : World), Kept w1 w'' → (Sl w'' vv 32 (ucells (keysL (a.1, a.2) 32))) → K _ w'' := fun v w'' h1 h2 => hK v w'' h1 h2
      clear hK hpre
      simp only [putAll, dstOf, List.getElem?_toArray, List.getElem?_cons_zero, List.getElem?_cons_succ, Option.bind_some, Act.put, List.setIfInBounds_toArray, List.set_cons_zero, List.set_cons_succ] at hKK ⊢
      simp only [p2] at hKK ⊢
      clear p2
      refine (if_pos (by rfl)).mpr ?_
      go_wp2_with fail
      refine (rkeys_any _ _ _).mono ?_
      rintro e w2 ⟨r, rfl, hown, hk2⟩
      exact hKK _ _ hk2 (by have := Sl.of_own hown; exact this)
    | 4, _, ho =>
      have e := Option.some.inj ho; subst e
      have p1 : Sl w1 (x 1) 32 (ucells (keysL (a.1, a.2) 32)) := hpre 1 (by kernel_rfl)
      have hKK : ∀ (vv : Value) (w'' : World), Kept w1 w'' → (Sl w'' vv 32 (ucells (keysL (a.1, a.2) 32))) → K _ w'' := fun v w'' h1 h2 => hK v w'' h1 h2
      clear hK hpre
      simp only [putAll, dstOf, List.getElem?_toArray, List.getElem?_cons_zero, List.getElem?_cons_succ, Option.bind_some, Act.put, List.setIfInBounds_toArray, List.set_cons_zero, List.set_cons_succ] at hKK ⊢
      refine (if_pos (by rfl)).mpr ?_
      go_wp2
      exact hKK _ _ (Below.refl _ _) p1
    | 5, _, ho =>
      have e := Option.some.inj ho; subst e
      have p3 : Sl w1 (x 3) 32 (ucells (keysL (a.1, a.2) 32)) := hpre 3 (by kernel_rfl)
      have hKK : ∀ (vv : Value) (w'' : World), Kept w1 w'' → (Sl w'' vv 32 (ucells (keysL (a.1, a.2) 32))) → K _ w'' := fun v w'' h1 h2 => hK v w'' h1 h2
      clear hK hpre
      simp only [putAll, dstOf, List.getElem?_toArray, List.getElem?_cons_zero, List.getElem?_cons_succ, Option.bind_some, Act.put, List.setIfInBounds_toArray, List.set_cons_zero, List.set_cons_succ] at hKK ⊢
      refine (if_pos (by rfl)).mpr ?_
      go_wp2
      exact hKK _ _ (Below.refl _ _) p3
    | i + 6, hi, _ => exact absurd hi (by omega)
  · intro x w1 hw hA
    have p0 : x 0 = Pr a := hA 0 (by omega)
    have p1 : Sl w1 (x 1) 32 (ucells (keysL (a.1, a.2) 32)) := hA 1 (by omega)
    have p2 : x 2 = Pr a := hA 2 (by omega)
    have p3 : Sl w1 (x 3) 32 (ucells (keysL (a.1, a.2) 32)) := hA 3 (by omega)
    have p4 : Sl w1 (x 4) 32 (ucells (keysL (a.1, a.2) 32)) := hA 4 (by omega)
    have p5 : Sl w1 (x 5) 32 (ucells (keysL (a.1, a.2) 32)) := hA 5 (by omega)
    clear hA
    simp only [List.drop_succ_cons, List.drop_zero, putAll, dstOf, List.getElem?_toArray, List.getElem?_cons_zero, List.getElem?_cons_succ, Option.bind_some, Act.put, List.setIfInBounds_toArray, List.set_cons_zero, List.set_cons_succ]
    simp only [p0, p2]
    clear p0 p2
    have hb1 : Below w.heap.size w w1 := ((Below.refl _ _).alloc (Nat.le_refl _) _).trans (hw.mono (by simp))
    have hs1 : w.heap.size ≤ w1.heap.size := Nat.le_trans (by simp) hw.size
    obtain ⟨g, off, cap, hv, hc1, hc2, hgl, hcell⟩ := p4.at (by rw [ucells_length, keysL_length]; omega)
    obtain ⟨g', off', cap', hv', hc1', hc2', hgl', hcell'⟩ := p5.at (by rw [ucells_length, keysL_length]; omega)
    rw [hv, hv']
    clear p1 p3 p4 p5 hA hw hv hv'
    have hkey : ∀ n, n < 32 → w1.cell? ⟨g, off + n, none⟩ = some (U (kst (a.1, a.2) n).2) := fun n hn => hcell n _ (ucells_get _ _ _ (keysL_get _ _ _ hn))
    have hkey' : ∀ n, n < 32 → w1.cell? ⟨g', off' + n, none⟩ = some (U (kst (a.1, a.2) n).2) := fun n hn => hcell' n _ (ucells_get _ _ _ (keysL_get _ _ _ hn))
    clear hcell hcell'
    go_wp2_with fail
    go_loopw [5] (fun i wr => ∃ n : Nat, n ≤ 32 ∧ i = .int .i64 n ∧ Kept w1 wr) (fun i _ => 32 - (intOf i).toNat)
    case atStart => exact ⟨0, by omega, rfl, Below.refl _ _⟩
    case round =>
      obtain ⟨n, hn, rfl, hkw⟩ := hrel
      by_cases hlt : n < 32
      · have i0 : (n : Int) < 32 := by omega
        have hx := (hkw.cell (p := ⟨g, off + n, none⟩) hgl).trans (hkey n hlt)
        have hx' := (hkw.cell (p := ⟨g', off' + n, none⟩) hgl').trans (hkey' n hlt)
        have hgw : g < wr.heap.size := Nat.lt_of_lt_of_le hgl hkw.size
        have hgw' : g' < wr.heap.size := Nat.lt_of_lt_of_le hgl' hkw.size
        clear hkey hkey'
        go_wp2_with fail
        refine wp_region_kept (by kernel_rfl) (by kernel_rfl) ?_
        repeat
          refine wpQuiet_step (fun K hK => ?_)
          refine (if_pos (by rfl)).mpr ?_
          first
            | (refine quiet_val_ex ?_; apply Exists.intro; refine ⟨fun w' hw' => ?_, hK _ ?_⟩; (have hy := (hw'.cell (p := ⟨g, off + n, none⟩) hgw).trans hx; have hy' := (hw'.cell (p := ⟨g', off' + n, none⟩) hgw').trans hx'; go_simp; done); (clear hK K; simp only [Act.put, List.setIfInBounds_toArray, List.set_cons_zero, List.set_cons_succ]))
            | (refine quiet_val_ex ?_; apply Exists.intro; refine ⟨fun w' hw' => ?_, hK _ ?_⟩; (have hy := (hw'.cell (p := ⟨g, off + n, none⟩) hgw).trans hx; have hy' := (hw'.cell (p := ⟨g', off' + n, none⟩) hgw').trans hx'; go_simp; rfl); (clear hK K; simp only [Act.put, List.setIfInBounds_toArray, List.set_cons_zero, List.set_cons_succ]))
            | (refine quiet_call_ex ?_; apply Exists.intro; apply Exists.intro; apply Exists.intro; refine ⟨fun w' hw' => ?_, fun w' hw' => ?_, hK _ ?_⟩; (go_simp; exact ⟨rfl, rfl⟩); (with_reducible first | exact Calls.kept hw' (trivial)); (clear hK K; simp only [Act.put, List.setIfInBounds_toArray, List.set_cons_zero, List.set_cons_succ]))
        refine wpQuiet_nil ?_
        intro w3 hw3
        go_wp2
        exact ⟨⟨n + 1, by omega, by go_num, hkw.of hw3⟩, by simp [intOf]; omega⟩
      · have : n = 32 := by omega
        subst this
        clear hlt hn hkey hkey'
        go_wp2_with fail
        refine (known_any _).mono ?_
        rintro e w3 ⟨rfl, hk3⟩
        go_wp2
        go_ret
        exact ⟨rfl, hb1.trans ((hkw.of hk3).mono hs1)⟩
namespace speckKeysRow
open Go.ChangeShapes Go.WideShapes Go.ChangeAt Go.RowKit
theorem own : ownKnob Try.prog.godebug = none := by kernel_rfl
theorem laidOut : laidOutB Try.prog = true := by kernel_rfl

set_option maxRecDepth 100000 in
theorem lifted (os : Os) (started : os.Started) (H : Type) (enc : TypeId × Value → H) :
    ReturnsInHanded {} Try.checked os 3 .any (Rows.speckKeysSpec.pre6 enc Try.prog Try.f3 Rows.speckKeysRow.domain false) (Rows.speckKeysSpec.post enc Try.prog Try.f3 false true false false) := by
  refine returnsInHanded_of_change (C := Try.checked) own started (by kernel_rfl) Try.func3
    (ChangeSpec.witness6 (enc := enc) (C := Try.checked) false ⟨#[], #[.agg #[.int .u64 0, .int .u64 0]], []⟩ 8 (by kernel_rfl) (by kernel_rfl) (by kernel_rfl) (by kernel_rfl)) ?_
  intro W base args ds gs before hval0 hW _ hsz
  have hval : ∀ (j : Nat) t v, Try.f3.params[j]? = some t → args[j]? = some v → Value.okWide Try.prog W .any base t v := hval0
  have hW' := hW
  obtain ⟨p, q, hA0, hV, rfl, hfz, hnd⟩ := hW
  have hA : DataW.TrodAll enc Try.prog W 0 (fun _ => true) true Try.f3.params.toList args.toList ds p := hA0
  rw [Try.params3] at hA hval
  obtain ⟨v0, vs0, d0, ds0, p0, q0, hargs, rfl, rfl, h0, r0⟩ := trodAll_cons hA
  obtain ⟨rfl, rfl, rfl⟩ := trodAll_nil r0
  obtain rfl : args = #[v0] := by cases args; simp_all
  obtain ⟨a0, rfl⟩ := open_pair (e := 22) Try.underlying24 Try.underlying22 (by kernel_rfl) (by kernel_rfl) (hval 0 24 v0 rfl rfl) h0
  refine (keys_walk a0 W).mono fun e W' ⟨he, bel⟩ => ?_
  subst he
  exact ⟨_, rfl, law_post (tb := 4) laidOut (by kernel_rfl) Try.underlying4 (by rfl) rfl (by intro xs hxs; match xs, hxs with | [x0], _ => rfl) hW' bel⟩

theorem over : Rows.speckKeysRow.holds Try.pinned (OpenSpec.ofChange Rows.speckKeysSpec) :=
  OpenClaim.holds_of_wide 3 Try.f3 rfl rfl rfl rfl rfl rfl rfl ⟨rfl, rfl, rfl, rfl, rfl⟩ rfl rfl rfl rfl rfl (by kernel_rfl) Try.func3 (by kernel_rfl)
    (of_decide_eq_true (by kernel_rfl)) (by unfold Func.isWrapper; rw [if_neg (of_decide_eq_false (by kernel_rfl))]; exact ⟨rfl, rfl⟩)
    (fun os started H enc _ => lifted os started H enc)
end speckKeysRow

theorem speckKeys_holds : Rows.SpeckKeysSaid := speckKeysRow.over
#print axioms speckKeys_holds

end Go.Proofs.Ytjmepkalomjloaa
