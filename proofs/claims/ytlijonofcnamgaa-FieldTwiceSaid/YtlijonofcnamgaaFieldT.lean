/- FieldTwice: times power 1 all digits of a number of 128 digits go one up, and power 128 comes back as powers 7, 2, 1 and 0. -/
import Derived.Test.YtlijonofcnamgaaFieldK
import Derived.Test.YtlijonofcnamgaaRows
namespace Go.Proofs.Ytlijonofcnamgaa
open Go Go.RowKit
set_option maxRecDepth 100000 in
set_option maxHeartbeats 1000000 in
theorem twice_walk (a : Pair) (w : World) : Calls Try.prog 6 #[Pr a] w fun e w' => e = .returned (.bool true) ∧ Kept w w' := by
  by_cases h : (a.fst >>> 63 == 1#64) = true
  · have m1 : mul2 a (0#64, 2#64) = (a.fst <<< 1 ||| a.snd >>> 63, a.snd <<< 1 ^^^ 135#64) := by rw [mul2_two]; unfold dbl2; simp [h]
    have m2 : mul2 (0#64, 2#64) a = (a.fst <<< 1 ||| a.snd >>> 63, a.snd <<< 1 ^^^ 135#64) := by rw [two_mul2]; unfold dbl2; simp [h]
    have hA : Blk ((w.alloc (Obj.cells #[U a.fst, U a.snd] 24)).alloc (Obj.cells #[U (a.fst <<< 1 ||| a.snd >>> 63), U (a.snd <<< 1 ^^^ 135#64)] 24)) w.heap.size #[U a.fst, U a.snd] 24 := (Blk.new _ _ _).alloc _
    have hB : Blk ((w.alloc (Obj.cells #[U a.fst, U a.snd] 24)).alloc (Obj.cells #[U (a.fst <<< 1 ||| a.snd >>> 63), U (a.snd <<< 1 ^^^ 135#64)] 24)) (w.heap.size + 1) #[U (a.fst <<< 1 ||| a.snd >>> 63), U (a.snd <<< 1 ^^^ 135#64)] 24 := by simpa using Blk.new (w.alloc (Obj.cells #[U a.fst, U a.snd] 24)) #[U (a.fst <<< 1 ||| a.snd >>> 63), U (a.snd <<< 1 ^^^ 135#64)] 24
    go_enter Try.func6, Try.ntmps6
    go_wp2
    refine wp_region_kept (by kernel_rfl) (by kernel_rfl) ?_
    repeat
      refine wpQuiet_step (fun K hK => ?_)
      refine (if_pos (by rfl)).mpr ?_
      first
        | (refine quiet_val_ex ?_; apply Exists.intro; refine ⟨fun w' hw' => ?_, hK _ ?_⟩; (have hA' := hA.kept hw'; have hA0 := hA'.cell 0; have hA1 := hA'.cell 1; have hB' := hB.kept hw'; have hB0 := hB'.cell 0; have hB1 := hB'.cell 1; go_simp; done); (clear hK K; simp only [Act.put, List.setIfInBounds_toArray, List.set_cons_zero, List.set_cons_succ]))
        | (refine quiet_val_ex ?_; apply Exists.intro; refine ⟨fun w' hw' => ?_, hK _ ?_⟩; (have hA' := hA.kept hw'; have hA0 := hA'.cell 0; have hA1 := hA'.cell 1; have hB' := hB.kept hw'; have hB0 := hB'.cell 0; have hB1 := hB'.cell 1; go_simp; rfl); (clear hK K; simp only [Act.put, List.setIfInBounds_toArray, List.set_cons_zero, List.set_cons_succ]))
        | (refine quiet_call_ex ?_; apply Exists.intro; apply Exists.intro; apply Exists.intro; refine ⟨fun w' hw' => ?_, fun w' hw' => ?_, hK _ ?_⟩; (go_simp; exact ⟨rfl, rfl⟩); (with_reducible first | exact Calls.kept hw' (mul_any _ _ _ _ _) | exact Calls.kept hw' (rmul_any _ _ _ _ _) | exact Calls.kept hw' (add_any _ _ _ _ _) | exact Calls.kept hw' (radd_any _ _ _ _ _) | exact Calls.kept hw' (known_any _)); (clear hK K; simp only [Act.put, List.setIfInBounds_toArray, List.set_cons_zero, List.set_cons_succ]))
    refine wpQuiet_nil ?_
    intro w' hw'
    go_wp2
    go_ret
    exact ⟨rfl, (((Below.refl _ _).alloc (Nat.le_refl _) _).alloc (by simp) _).trans (hw'.mono (by simp; omega))⟩
  · have m1 : mul2 a (0#64, 2#64) = (a.fst <<< 1 ||| a.snd >>> 63, a.snd <<< 1) := by rw [mul2_two]; unfold dbl2; simp [h]
    have m2 : mul2 (0#64, 2#64) a = (a.fst <<< 1 ||| a.snd >>> 63, a.snd <<< 1) := by rw [two_mul2]; unfold dbl2; simp [h]
    have hA : Blk ((w.alloc (Obj.cells #[U a.fst, U a.snd] 24)).alloc (Obj.cells #[U (a.fst <<< 1 ||| a.snd >>> 63), U (a.snd <<< 1)] 24)) w.heap.size #[U a.fst, U a.snd] 24 := (Blk.new _ _ _).alloc _
    have hB : Blk ((w.alloc (Obj.cells #[U a.fst, U a.snd] 24)).alloc (Obj.cells #[U (a.fst <<< 1 ||| a.snd >>> 63), U (a.snd <<< 1)] 24)) (w.heap.size + 1) #[U (a.fst <<< 1 ||| a.snd >>> 63), U (a.snd <<< 1)] 24 := by simpa using Blk.new (w.alloc (Obj.cells #[U a.fst, U a.snd] 24)) #[U (a.fst <<< 1 ||| a.snd >>> 63), U (a.snd <<< 1)] 24
    go_enter Try.func6, Try.ntmps6
    go_wp2
    refine wp_region_kept (by kernel_rfl) (by kernel_rfl) ?_
    repeat
      refine wpQuiet_step (fun K hK => ?_)
      refine (if_pos (by rfl)).mpr ?_
      first
        | (refine quiet_val_ex ?_; apply Exists.intro; refine ⟨fun w' hw' => ?_, hK _ ?_⟩; (have hA' := hA.kept hw'; have hA0 := hA'.cell 0; have hA1 := hA'.cell 1; have hB' := hB.kept hw'; have hB0 := hB'.cell 0; have hB1 := hB'.cell 1; go_simp; done); (clear hK K; simp only [Act.put, List.setIfInBounds_toArray, List.set_cons_zero, List.set_cons_succ]))
        | (refine quiet_val_ex ?_; apply Exists.intro; refine ⟨fun w' hw' => ?_, hK _ ?_⟩; (have hA' := hA.kept hw'; have hA0 := hA'.cell 0; have hA1 := hA'.cell 1; have hB' := hB.kept hw'; have hB0 := hB'.cell 0; have hB1 := hB'.cell 1; go_simp; rfl); (clear hK K; simp only [Act.put, List.setIfInBounds_toArray, List.set_cons_zero, List.set_cons_succ]))
        | (refine quiet_call_ex ?_; apply Exists.intro; apply Exists.intro; apply Exists.intro; refine ⟨fun w' hw' => ?_, fun w' hw' => ?_, hK _ ?_⟩; (go_simp; exact ⟨rfl, rfl⟩); (with_reducible first | exact Calls.kept hw' (mul_any _ _ _ _ _) | exact Calls.kept hw' (rmul_any _ _ _ _ _) | exact Calls.kept hw' (add_any _ _ _ _ _) | exact Calls.kept hw' (radd_any _ _ _ _ _) | exact Calls.kept hw' (known_any _)); (clear hK K; simp only [Act.put, List.setIfInBounds_toArray, List.set_cons_zero, List.set_cons_succ]))
    refine wpQuiet_nil ?_
    intro w' hw'
    go_wp2
    go_ret
    exact ⟨rfl, (((Below.refl _ _).alloc (Nat.le_refl _) _).alloc (by simp) _).trans (hw'.mono (by simp; omega))⟩

namespace fieldTwiceRow
open Go.ChangeShapes Go.WideShapes Go.ChangeAt Go.RowKit
theorem own : ownKnob Try.prog.godebug = none := by kernel_rfl
theorem laidOut : laidOutB Try.prog = true := by kernel_rfl

set_option maxRecDepth 100000 in
theorem lifted (os : Os) (started : os.Started) (H : Type) (enc : TypeId × Value → H) :
    ReturnsInHanded {} Try.checked os 6 .any (Rows.fieldTwiceSpec.pre6 enc Try.prog Try.f6 Rows.fieldTwiceRow.domain false) (Rows.fieldTwiceSpec.post enc Try.prog Try.f6 false true false false) := by
  refine returnsInHanded_of_change (C := Try.checked) own started (by kernel_rfl) Try.func6
    (ChangeSpec.witness6 (enc := enc) (C := Try.checked) false ⟨#[], #[.agg #[.int .u64 0, .int .u64 0]], []⟩ 8 (by kernel_rfl) (by kernel_rfl) (by kernel_rfl) (by kernel_rfl)) ?_
  intro W base args ds gs before hval0 hW _ hsz
  have hval : ∀ (j : Nat) t v, Try.f6.params[j]? = some t → args[j]? = some v → Value.okWide Try.prog W .any base t v := hval0
  have hW' := hW
  obtain ⟨p, q, hA0, hV, rfl, hfz, hnd⟩ := hW
  have hA : DataW.TrodAll enc Try.prog W 0 (fun _ => true) true Try.f6.params.toList args.toList ds p := hA0
  rw [Try.params6] at hA hval
  obtain ⟨v0, vs0, d0, ds0, p0, q0, hargs, rfl, rfl, h0, r0⟩ := trodAll_cons hA
  obtain ⟨rfl, rfl, rfl⟩ := trodAll_nil r0
  obtain rfl : args = #[v0] := by cases args; simp_all
  obtain ⟨a0, rfl⟩ := open_pair (e := 22) Try.underlying24 Try.underlying22 (by kernel_rfl) (by kernel_rfl) (hval 0 24 v0 rfl rfl) h0
  refine (twice_walk a0 W).mono fun e W' ⟨he, bel⟩ => ?_
  subst he
  exact ⟨_, rfl, law_post (tb := 4) laidOut (by kernel_rfl) Try.underlying4 (by rfl) rfl (by intro xs hxs; match xs, hxs with | [x0], _ => rfl) hW' bel⟩

theorem over : Rows.fieldTwiceRow.holds Try.pinned (OpenSpec.ofChange Rows.fieldTwiceSpec) :=
  OpenClaim.holds_of_wide 6 Try.f6 rfl rfl rfl rfl rfl rfl rfl ⟨rfl, rfl, rfl, rfl, rfl⟩ rfl rfl rfl rfl rfl (by kernel_rfl) Try.func6 (by kernel_rfl)
    (of_decide_eq_true (by kernel_rfl)) (by unfold Func.isWrapper; rw [if_neg (of_decide_eq_false (by kernel_rfl))]; exact ⟨rfl, rfl⟩)
    (fun os started H enc _ => lifted os started H enc)
end fieldTwiceRow

theorem fieldTwice_holds : Rows.FieldTwiceSaid := fieldTwiceRow.over
#print axioms fieldTwice_holds

end Go.Proofs.Ytlijonofcnamgaa
