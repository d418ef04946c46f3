/- FieldRules: the product of numbers of 128 digits knows no order and no brackets, goes over sums, one is one, none is none and nothing else makes none. -/
import Derived.Test.YtlijonofcnamgaaFieldK
import Derived.Test.YtlijonofcnamgaaRows
namespace Go.Proofs.Ytlijonofcnamgaa
open Go Go.RowKit
set_option maxRecDepth 100000 in
set_option maxHeartbeats 1000000 in
theorem rules_case (a b c : Pair) (w : World) (pa pb pm : Bool) (ha : (a == (0#64, 0#64)) = pa) (hb : (b == (0#64, 0#64)) = pb) (hm : (mul2 a b == (0#64, 0#64)) = pm) (hp : pm = (pa || pb)) :
    Calls Try.prog 4 #[Pr a, Pr b, Pr c] w fun e w' => e = .returned (.bool true) ∧ Kept w w' := by
  have l1 : (mul2 a b == mul2 b a) = true := beq_iff_eq.2 (mul2_comm a b)
  have l2 : (mul2 a (mul2 b c) == mul2 (mul2 a b) c) = true := beq_iff_eq.2 (mul2_assoc a b c).symm
  have l3 : (mul2 a (add2 b c) == add2 (mul2 a b) (mul2 a c)) = true := beq_iff_eq.2 (mul2_add a b c)
  have l4 : mul2 a (0#64, 1#64) = a := mul2_one a
  have l5 : mul2 a (0#64, 0#64) = (0#64, 0#64) := mul2_zero a
  have l6 : add2 a a = (0#64, 0#64) := add2_self a
  have hA : Blk ((((w.alloc (Obj.cells #[U a.fst, U a.snd] 24)).alloc (Obj.cells #[U b.fst, U b.snd] 24)).alloc (Obj.cells #[U c.fst, U c.snd] 24)).alloc (Obj.cells #[U 0#64, U 1#64] 24)) w.heap.size #[U a.fst, U a.snd] 24 := (((Blk.new _ _ _).alloc _).alloc _).alloc _
  have hB : Blk ((((w.alloc (Obj.cells #[U a.fst, U a.snd] 24)).alloc (Obj.cells #[U b.fst, U b.snd] 24)).alloc (Obj.cells #[U c.fst, U c.snd] 24)).alloc (Obj.cells #[U 0#64, U 1#64] 24)) (w.heap.size + 1) #[U b.fst, U b.snd] 24 := by simpa using ((Blk.new (w.alloc (Obj.cells #[U a.fst, U a.snd] 24)) #[U b.fst, U b.snd] 24).alloc (Obj.cells #[U c.fst, U c.snd] 24)).alloc (Obj.cells #[U 0#64, U 1#64] 24)
  have hC : Blk ((((w.alloc (Obj.cells #[U a.fst, U a.snd] 24)).alloc (Obj.cells #[U b.fst, U b.snd] 24)).alloc (Obj.cells #[U c.fst, U c.snd] 24)).alloc (Obj.cells #[U 0#64, U 1#64] 24)) (w.heap.size + 1 + 1) #[U c.fst, U c.snd] 24 := by simpa using (Blk.new ((w.alloc (Obj.cells #[U a.fst, U a.snd] 24)).alloc (Obj.cells #[U b.fst, U b.snd] 24)) #[U c.fst, U c.snd] 24).alloc (Obj.cells #[U 0#64, U 1#64] 24)
  have hD : Blk ((((w.alloc (Obj.cells #[U a.fst, U a.snd] 24)).alloc (Obj.cells #[U b.fst, U b.snd] 24)).alloc (Obj.cells #[U c.fst, U c.snd] 24)).alloc (Obj.cells #[U 0#64, U 1#64] 24)) (w.heap.size + 1 + 1 + 1) #[U 0#64, U 1#64] 24 := by simpa using Blk.new (((w.alloc (Obj.cells #[U a.fst, U a.snd] 24)).alloc (Obj.cells #[U b.fst, U b.snd] 24)).alloc (Obj.cells #[U c.fst, U c.snd] 24)) #[U 0#64, U 1#64] 24
  have hK : Kept w ((((w.alloc (Obj.cells #[U a.fst, U a.snd] 24)).alloc (Obj.cells #[U b.fst, U b.snd] 24)).alloc (Obj.cells #[U c.fst, U c.snd] 24)).alloc (Obj.cells #[U 0#64, U 1#64] 24)) := (((((Below.refl _ _).alloc (Nat.le_refl _) _).alloc (by simp) _).alloc (by simp; omega) _).alloc (by simp; omega) _)
  go_enter Try.func4, Try.ntmps4
  go_wp2_with fail
  refine wp_region_kept (by kernel_rfl) (by kernel_rfl) ?_
  repeat
    refine wpQuiet_step (fun K hK => ?_)
    refine (if_pos (by rfl)).mpr ?_
    first
      | (refine quiet_val_ex ?_; apply Exists.intro; refine ⟨fun w' hw' => ?_, hK _ ?_⟩; (have hA' := hA.kept hw'; have hA0 := hA'.cell 0; have hA1 := hA'.cell 1; have hB' := hB.kept hw'; have hB0 := hB'.cell 0; have hB1 := hB'.cell 1; have hC' := hC.kept hw'; have hC0 := hC'.cell 0; have hC1 := hC'.cell 1; have hD' := hD.kept hw'; have hD0 := hD'.cell 0; have hD1 := hD'.cell 1; go_simp; done); (clear hK K; simp only [Act.put, List.setIfInBounds_toArray, List.set_cons_zero, List.set_cons_succ]))
      | (refine quiet_val_ex ?_; apply Exists.intro; refine ⟨fun w' hw' => ?_, hK _ ?_⟩; (have hA' := hA.kept hw'; have hA0 := hA'.cell 0; have hA1 := hA'.cell 1; have hB' := hB.kept hw'; have hB0 := hB'.cell 0; have hB1 := hB'.cell 1; have hC' := hC.kept hw'; have hC0 := hC'.cell 0; have hC1 := hC'.cell 1; have hD' := hD.kept hw'; have hD0 := hD'.cell 0; have hD1 := hD'.cell 1; go_simp; rfl); (clear hK K; simp only [Act.put, List.setIfInBounds_toArray, List.set_cons_zero, List.set_cons_succ]))
      | (refine quiet_call_ex ?_; apply Exists.intro; apply Exists.intro; apply Exists.intro; refine ⟨fun w' hw' => ?_, fun w' hw' => ?_, hK _ ?_⟩; (go_simp; exact ⟨rfl, rfl⟩); (with_reducible first | exact Calls.kept hw' (mul_any _ _ _ _ _) | exact Calls.kept hw' (rmul_any _ _ _ _ _) | exact Calls.kept hw' (add_any _ _ _ _ _) | exact Calls.kept hw' (radd_any _ _ _ _ _) | exact Calls.kept hw' (known_any _)); (clear hK K; simp only [Act.put, List.setIfInBounds_toArray, List.set_cons_zero, List.set_cons_succ]))
  refine wpQuiet_nil ?_
  intro w1 hw1
  have hA1 := hA.kept hw1
  have hB1 := hB.kept hw1
  have hC1 := hC.kept hw1
  have hD1 := hD.kept hw1
  have hK1 := hK.of hw1
  clear hA hB hC hD hK hw1 l1 l2
  go_wp2_with fail
  refine wp_region_kept (by kernel_rfl) (by kernel_rfl) ?_
  repeat
    refine wpQuiet_step (fun K hK => ?_)
    refine (if_pos (by rfl)).mpr ?_
    first
      | (refine quiet_val_ex ?_; apply Exists.intro; refine ⟨fun w' hw' => ?_, hK _ ?_⟩; (have hA1' := hA1.kept hw'; have hA10 := hA1'.cell 0; have hA11 := hA1'.cell 1; have hB1' := hB1.kept hw'; have hB10 := hB1'.cell 0; have hB11 := hB1'.cell 1; have hC1' := hC1.kept hw'; have hC10 := hC1'.cell 0; have hC11 := hC1'.cell 1; have hD1' := hD1.kept hw'; have hD10 := hD1'.cell 0; have hD11 := hD1'.cell 1; go_simp; done); (clear hK K; simp only [Act.put, List.setIfInBounds_toArray, List.set_cons_zero, List.set_cons_succ]))
      | (refine quiet_val_ex ?_; apply Exists.intro; refine ⟨fun w' hw' => ?_, hK _ ?_⟩; (have hA1' := hA1.kept hw'; have hA10 := hA1'.cell 0; have hA11 := hA1'.cell 1; have hB1' := hB1.kept hw'; have hB10 := hB1'.cell 0; have hB11 := hB1'.cell 1; have hC1' := hC1.kept hw'; have hC10 := hC1'.cell 0; have hC11 := hC1'.cell 1; have hD1' := hD1.kept hw'; have hD10 := hD1'.cell 0; have hD11 := hD1'.cell 1; go_simp; rfl); (clear hK K; simp only [Act.put, List.setIfInBounds_toArray, List.set_cons_zero, List.set_cons_succ]))
      | (refine quiet_call_ex ?_; apply Exists.intro; apply Exists.intro; apply Exists.intro; refine ⟨fun w' hw' => ?_, fun w' hw' => ?_, hK _ ?_⟩; (go_simp; exact ⟨rfl, rfl⟩); (with_reducible first | exact Calls.kept hw' (mul_any _ _ _ _ _) | exact Calls.kept hw' (rmul_any _ _ _ _ _) | exact Calls.kept hw' (add_any _ _ _ _ _) | exact Calls.kept hw' (radd_any _ _ _ _ _) | exact Calls.kept hw' (known_any _)); (clear hK K; simp only [Act.put, List.setIfInBounds_toArray, List.set_cons_zero, List.set_cons_succ]))
  refine wpQuiet_nil ?_
  intro w2 hw2
  have hA2 := hA1.kept hw2
  have hB2 := hB1.kept hw2
  have hK2 := hK1.of hw2
  clear hA1 hB1 hC1 hD1 hK1 hw2 l3 l4 l5
  have a0 := hA2.cell 0
  have a1 := hA2.cell 1
  have b0 := hB2.cell 0
  have b1 := hB2.cell 1
  cases pa <;> cases pb <;> subst hp
  all_goals
    go_wp2_with fail
    refine (mul_any _ _ _ _ _).mono ?_
    rintro e w3 ⟨rfl, hb3⟩
    have hA3 := hA2.kept hb3
    have hK3 := hK2.of hb3
    clear a0 a1 b0 b1 hb3
    have a0 := hA3.cell 0
    have a1 := hA3.cell 1
    go_wp2_with fail
    refine (add_any _ _ _ _ _).mono ?_
    rintro e w4 ⟨rfl, hb4⟩
    have hK4 := hK3.of hb4
    go_wp2_with fail
    refine (known_any _).mono ?_
    rintro e w5 ⟨rfl, hb5⟩
    go_wp2
    go_ret
    exact ⟨rfl, hK4.of hb5⟩

theorem rules_walk (a b c : Pair) (w : World) : Calls Try.prog 4 #[Pr a, Pr b, Pr c] w fun e w' => e = .returned (.bool true) ∧ Kept w w' := by
  refine rules_case a b c w _ _ _ rfl rfl rfl ?_
  rw [Bool.eq_iff_iff]
  simp only [beq_iff_eq, Bool.or_eq_true]
  exact mul2_none a b

namespace fieldRulesRow
open Go.ChangeShapes Go.WideShapes Go.ChangeAt Go.RowKit
theorem own : ownKnob Try.prog.godebug = none := by kernel_rfl
theorem laidOut : laidOutB Try.prog = true := by kernel_rfl

set_option maxRecDepth 100000 in
theorem lifted (os : Os) (started : os.Started) (H : Type) (enc : TypeId × Value → H) :
    ReturnsInHanded {} Try.checked os 4 .any (Rows.fieldRulesSpec.pre6 enc Try.prog Try.f4 Rows.fieldRulesRow.domain false) (Rows.fieldRulesSpec.post enc Try.prog Try.f4 false true false false) := by
  refine returnsInHanded_of_change (C := Try.checked) own started (by kernel_rfl) Try.func4
    (ChangeSpec.witness6 (enc := enc) (C := Try.checked) false ⟨#[], #[.agg #[.int .u64 0, .int .u64 0], .agg #[.int .u64 0, .int .u64 0], .agg #[.int .u64 0, .int .u64 0]], []⟩ 8 (by kernel_rfl) (by kernel_rfl) (by kernel_rfl) (by kernel_rfl)) ?_
  intro W base args ds gs before hval0 hW _ hsz
  have hval : ∀ (j : Nat) t v, Try.f4.params[j]? = some t → args[j]? = some v → Value.okWide Try.prog W .any base t v := hval0
  have hW' := hW
  obtain ⟨p, q, hA0, hV, rfl, hfz, hnd⟩ := hW
  have hA : DataW.TrodAll enc Try.prog W 0 (fun _ => true) true Try.f4.params.toList args.toList ds p := hA0
  rw [Try.params4] at hA hval
  obtain ⟨v0, vs0, d0, ds0, p0, q0, hargs, rfl, rfl, h0, r0⟩ := trodAll_cons hA
  obtain ⟨v1, vs1, d1, ds1, p1, q1, rfl, rfl, rfl, h1, r1⟩ := trodAll_cons r0
  obtain ⟨v2, vs2, d2, ds2, p2, q2, rfl, rfl, rfl, h2, r2⟩ := trodAll_cons r1
  obtain ⟨rfl, rfl, rfl⟩ := trodAll_nil r2
  obtain rfl : args = #[v0, v1, v2] := by cases args; simp_all
  obtain ⟨a0, rfl⟩ := open_pair (e := 22) Try.underlying24 Try.underlying22 (by kernel_rfl) (by kernel_rfl) (hval 0 24 v0 rfl rfl) h0
  obtain ⟨a1, rfl⟩ := open_pair (e := 22) Try.underlying24 Try.underlying22 (by kernel_rfl) (by kernel_rfl) (hval 1 24 v1 rfl rfl) h1
  obtain ⟨a2, rfl⟩ := open_pair (e := 22) Try.underlying24 Try.underlying22 (by kernel_rfl) (by kernel_rfl) (hval 2 24 v2 rfl rfl) h2
  refine (rules_walk a0 a1 a2 W).mono fun e W' ⟨he, bel⟩ => ?_
  subst he
  exact ⟨_, rfl, law_post (tb := 4) laidOut (by kernel_rfl) Try.underlying4 (by rfl) rfl (by intro xs hxs; match xs, hxs with | [x0, x1, x2], _ => rfl) hW' bel⟩

theorem over : Rows.fieldRulesRow.holds Try.pinned (OpenSpec.ofChange Rows.fieldRulesSpec) :=
  OpenClaim.holds_of_wide 4 Try.f4 rfl rfl rfl rfl rfl rfl rfl ⟨rfl, rfl, rfl, rfl, rfl⟩ rfl rfl rfl rfl rfl (by kernel_rfl) Try.func4 (by kernel_rfl)
    (of_decide_eq_true (by kernel_rfl)) (by unfold Func.isWrapper; rw [if_neg (of_decide_eq_false (by kernel_rfl))]; exact ⟨rfl, rfl⟩)
    (fun os started H enc _ => lifted os started H enc)
end fieldRulesRow

theorem fieldRules_holds : Rows.FieldRulesSaid := fieldRulesRow.over
#print axioms fieldRules_holds

end Go.Proofs.Ytlijonofcnamgaa
