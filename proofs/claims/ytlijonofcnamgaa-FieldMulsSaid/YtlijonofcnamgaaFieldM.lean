/- FieldMuls: for any two numbers of 128 digits the program's product and sum are the reference's. -/
import Derived.Test.YtlijonofcnamgaaFieldW
import Derived.Test.YtlijonofcnamgaaFrame
import Derived.Test.YtlijonofcnamgaaRows
namespace Go.Proofs.Ytlijonofcnamgaa
open Go Go.RowKit

theorem cells_u64 : Try.prog.cellsOf 22 = 1 := by kernel_rfl
theorem cells_pair : Try.prog.cellsOf 24 = 2 := by kernel_rfl
@[go_sem] theorem eql_pair (a b c f : BitVec 64) (w : World) : (Op.equalIn 10000 24 (.agg #[U a, U b]) (.agg #[U c, U f])).run Try.prog w = .ok ((a, b) == (c, f)) w :=
  equalIn_pair w 9998 24 22 Try.underlying24 Try.underlying22 cells_u64 a b c f

theorem known_is : (mul2 (9223372036854775808#64, 0#64) (0#64, 2#64) == (0#64, 135#64)) = true := by decide +kernel

set_option maxRecDepth 100000 in
set_option maxHeartbeats 1000000 in
theorem known_any (w : World) : Calls Try.prog 12 #[] w fun e w' => e = .returned (.bool true) ∧ Kept w w' := by
  have hk := known_is
  go_enter Try.func12, Try.ntmps12
  go_wp2_with (go_at_call 8; refine (mul_any _ _ _ _ _).mono ?_; rintro e w1 ⟨rfl, hb1⟩)
  go_ret
  exact ⟨rfl, hb1⟩

set_option maxRecDepth 100000 in
set_option maxHeartbeats 1000000 in
theorem muls_walk (a b : Pair) (w : World) : Calls Try.prog 3 #[Pr a, Pr b] w fun e w' => e = .returned (.bool true) ∧ Kept w w' := by
  have hA : Blk ((w.alloc (Obj.cells #[U a.fst, U a.snd] 24)).alloc (Obj.cells #[U b.fst, U b.snd] 24)) w.heap.size #[U a.fst, U a.snd] 24 := (Blk.new _ _ _).alloc _
  have hB : Blk ((w.alloc (Obj.cells #[U a.fst, U a.snd] 24)).alloc (Obj.cells #[U b.fst, U b.snd] 24)) (w.heap.size + 1) #[U b.fst, U b.snd] 24 := by simpa using Blk.new (w.alloc (Obj.cells #[U a.fst, U a.snd] 24)) #[U b.fst, U b.snd] 24
  go_enter Try.func3, Try.ntmps3
  go_wp2
  refine wp_region_kept (by kernel_rfl) (by kernel_rfl) ?_
  repeat
    refine wpQuiet_step (fun K hK => ?_)
    refine (if_pos (by rfl)).mpr ?_
    first
      | (refine quiet_val_ex ?_; apply Exists.intro; refine ⟨fun w' hw' => ?_, hK _ ?_⟩; (have hA' := hA.kept hw'; have hA0 := hA'.cell 0; have hA1 := hA'.cell 1; have hB' := hB.kept hw'; have hB0 := hB'.cell 0; have hB1 := hB'.cell 1; go_simp; done); (clear hK K; simp only [Act.put, List.setIfInBounds_toArray, List.set_cons_zero, List.set_cons_succ]))
      | (refine quiet_val_ex ?_; apply Exists.intro; refine ⟨fun w' hw' => ?_, hK _ ?_⟩; (have hA' := hA.kept hw'; have hA0 := hA'.cell 0; have hA1 := hA'.cell 1; have hB' := hB.kept hw'; have hB0 := hB'.cell 0; have hB1 := hB'.cell 1; go_simp; rfl); (clear hK K; simp only [Act.put, List.setIfInBounds_toArray, List.set_cons_zero, List.set_cons_succ]))
      | (refine quiet_call_ex ?_; apply Exists.intro; apply Exists.intro; apply Exists.intro; refine ⟨fun w' hw' => ?_, fun w' hw' => ?_, hK _ ?_⟩; (go_simp; exact ⟨rfl, rfl⟩); (with_reducible first | exact Calls.kept hw' (mul_any _ _ _ _ _) | exact Calls.kept hw' (rmul_any _ _ _ _ _) | exact Calls.kept hw' (add_any _ _ _ _ _) | exact Calls.kept hw' (radd_any _ _ _ _ _) | exact Calls.kept hw' (known_any _)); (clear hK K; simp only [Act.put, List.setIfInBounds_toArray, List.set_cons_zero, List.set_cons_succ]))
  refine wpQuiet_nil ?_
  intro w' hw'
  go_wp2
  go_ret
  exact ⟨rfl, (((Below.refl _ _).alloc (Nat.le_refl _) _).alloc (by simp) _).trans (hw'.mono (by simp; omega))⟩


namespace fieldMulsRow
open Go.ChangeShapes Go.WideShapes Go.ChangeAt Go.RowKit
theorem own : ownKnob Try.prog.godebug = none := by kernel_rfl
theorem laidOut : laidOutB Try.prog = true := by kernel_rfl

set_option maxRecDepth 100000 in
theorem lifted (os : Os) (started : os.Started) (H : Type) (enc : TypeId × Value → H) :
    ReturnsInHanded {} Try.checked os 3 .any (Rows.fieldMulsSpec.pre6 enc Try.prog Try.f3 Rows.fieldMulsRow.domain false) (Rows.fieldMulsSpec.post enc Try.prog Try.f3 false true false false) := by
  refine returnsInHanded_of_change (C := Try.checked) own started (by kernel_rfl) Try.func3
    (ChangeSpec.witness6 (enc := enc) (C := Try.checked) false ⟨#[], #[.agg #[.int .u64 0, .int .u64 0], .agg #[.int .u64 0, .int .u64 0]], []⟩ 8 (by kernel_rfl) (by kernel_rfl) (by kernel_rfl) (by kernel_rfl)) ?_
  intro W base args ds gs before hval0 hW _ hsz
  have hval : ∀ (j : Nat) t v, Try.f3.params[j]? = some t → args[j]? = some v → Value.okWide Try.prog W .any base t v := hval0
  have hW' := hW
  obtain ⟨p, q, hA0, hV, rfl, hfz, hnd⟩ := hW
  have hA : DataW.TrodAll enc Try.prog W 0 (fun _ => true) true Try.f3.params.toList args.toList ds p := hA0
  rw [Try.params3] at hA hval
  obtain ⟨v0, vs0, d0, ds0, p0, q0, hargs, rfl, rfl, h0, r0⟩ := trodAll_cons hA
  obtain ⟨v1, vs1, d1, ds1, p1, q1, rfl, rfl, rfl, h1, r1⟩ := trodAll_cons r0
  obtain ⟨rfl, rfl, rfl⟩ := trodAll_nil r1
  obtain rfl : args = #[v0, v1] := by cases args; simp_all
  obtain ⟨a0, rfl⟩ := open_pair (e := 22) Try.underlying24 Try.underlying22 (by kernel_rfl) (by kernel_rfl) (hval 0 24 v0 rfl rfl) h0
  obtain ⟨a1, rfl⟩ := open_pair (e := 22) Try.underlying24 Try.underlying22 (by kernel_rfl) (by kernel_rfl) (hval 1 24 v1 rfl rfl) h1
  refine (muls_walk a0 a1 W).mono fun e W' ⟨he, bel⟩ => ?_
  subst he
  exact ⟨_, rfl, law_post (tb := 4) laidOut (by kernel_rfl) Try.underlying4 (by rfl) rfl (by intro xs hxs; match xs, hxs with | [x0, x1], _ => rfl) hW' bel⟩

theorem over : Rows.fieldMulsRow.holds Try.pinned (OpenSpec.ofChange Rows.fieldMulsSpec) :=
  OpenClaim.holds_of_wide 3 Try.f3 rfl rfl rfl rfl rfl rfl rfl ⟨rfl, rfl, rfl, rfl, rfl⟩ rfl rfl rfl rfl rfl (by kernel_rfl) Try.func3 (by kernel_rfl)
    (of_decide_eq_true (by kernel_rfl)) (by unfold Func.isWrapper; rw [if_neg (of_decide_eq_false (by kernel_rfl))]; exact ⟨rfl, rfl⟩)
    (fun os started H enc _ => lifted os started H enc)
end fieldMulsRow

theorem fieldMuls_holds : Rows.FieldMulsSaid := fieldMulsRow.over
#print axioms fieldMuls_holds

end Go.Proofs.Ytlijonofcnamgaa
