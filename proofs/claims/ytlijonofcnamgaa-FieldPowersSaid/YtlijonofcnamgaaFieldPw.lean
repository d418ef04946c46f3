/- FieldPowers: the product of two powers of two is a power of two, till the powers go round. -/
import Derived.Test.YtlijonofcnamgaaFieldK
import Derived.Test.YtlijonofcnamgaaRows
namespace Go.Proofs.Ytlijonofcnamgaa
open Go Go.RowKit

theorem shl_toNat (i : Int) (h0 : 0 ≤ i) (h1 : i < 128) : (BitVec.ofInt 64 i).toNat = i.toNat := by
  rw [BitVec.toNat_ofInt]; omega

set_option maxRecDepth 100000 in
set_option maxHeartbeats 1000000 in
theorem power_any (i : Int) (h0 : 0 ≤ i) (h1 : i < 128) (w : World) : Calls Try.prog 13 #[.int .i64 i] w fun e w' => e = .returned (Pr (power2 i.toNat)) ∧ Kept w w' := by
  by_cases h : 64 ≤ i
  · have e := shl_toNat (i - 64) (by omega) (by omega)
    have hp : power2 i.toNat = (1#64 <<< (i - 64).toNat, 0#64) := by unfold power2; rw [if_pos (by omega), show (i - 64).toNat = i.toNat - 64 by omega]
    rw [hp]
    have HP := Lib.hid hp
    clear hp
    go_enter Try.func13, Try.ntmps13
    go_wp2
    exact bodyPost_ret (v := Pr (1#64 <<< (i - 64).toNat, 0#64)) (by simp [results, Try.results13, go_sem, e]) rfl ⟨rfl, (Below.refl _ _).alloc (Nat.le_refl _) _⟩
  · have e := shl_toNat i (by omega) (by omega)
    have hp : power2 i.toNat = (0#64, 1#64 <<< i.toNat) := by unfold power2; rw [if_neg (by omega)]
    rw [hp]
    have HP := Lib.hid hp
    clear hp
    go_enter Try.func13, Try.ntmps13
    go_wp2
    exact bodyPost_ret (v := Pr (0#64, 1#64 <<< i.toNat)) (by simp [results, Try.results13, go_sem, e]) rfl ⟨rfl, (Below.refl _ _).alloc (Nat.le_refl _) _⟩

set_option maxRecDepth 100000 in
set_option maxHeartbeats 1000000 in
theorem powers_out (i k : Int) (lo0 : -9223372036854775808 ≤ i) (hi0 : i ≤ 9223372036854775807) (lo1 : -9223372036854775808 ≤ k) (hi1 : k ≤ 9223372036854775807) (h : i < 0 ∨ 127 < i ∨ k < 0 ∨ 127 < k) (w : World) :
    Calls Try.prog 5 #[.int .i64 i, .int .i64 k] w fun e w' => e = .returned (.bool true) ∧ Kept w w' := by
  by_cases h1 : i < 0
  · clear h
    go_enter Try.func5, Try.ntmps5
    go_wp2
    go_ret
    exact ⟨rfl, Below.refl _ _⟩
  · by_cases h2 : 127 < i
    · clear h
      go_enter Try.func5, Try.ntmps5
      go_wp2
      go_ret
      exact ⟨rfl, Below.refl _ _⟩
    · by_cases h3 : k < 0
      · clear h
        go_enter Try.func5, Try.ntmps5
        go_wp2
        go_ret
        exact ⟨rfl, Below.refl _ _⟩
      · have h4 : 127 < k := by omega
        clear h
        go_enter Try.func5, Try.ntmps5
        go_wp2
        go_ret
        exact ⟨rfl, Below.refl _ _⟩

set_option maxRecDepth 100000 in
set_option maxHeartbeats 1000000 in
theorem powers_in (i k : Int) (h1 : 0 ≤ i) (h2 : i ≤ 127) (h3 : 0 ≤ k) (h4 : k ≤ 127) (h5 : i + k < 128) (w : World) :
    Calls Try.prog 5 #[.int .i64 i, .int .i64 k] w fun e w' => e = .returned (.bool true) ∧ Kept w w' := by
  have hm : mul2 (power2 i.toNat) (power2 k.toNat) = power2 (i + k).toNat := by rw [power_mul _ _ (by omega) (by omega) (by omega), show i.toNat + k.toNat = (i + k).toNat by omega]
  go_enter Try.func5, Try.ntmps5
  go_wp2_with fail
  refine (power_any _ (by omega) (by omega) _).mono ?_
  rintro e w1 ⟨rfl, hb1⟩
  go_wp2_with fail
  refine (power_any _ (by omega) (by omega) _).mono ?_
  rintro e w2 ⟨rfl, hb2⟩
  go_wp2_with fail
  refine (mul_any _ _ _ _ _).mono ?_
  rintro e w3 ⟨rfl, hb3⟩
  have hK := (hb1.of hb2).of hb3
  clear hb1 hb2 hb3
  go_wp2_with fail
  have hwr : IntKind.i64.wrap (i + k) = i + k := IntWalk.i64_in _ (by omega)
  have g0 : 0 ≤ i + k := by omega
  have hA : Blk (w3.alloc (Obj.cells #[U (power2 (i + k).toNat).fst, U (power2 (i + k).toNat).snd] 24)) w3.heap.size #[U (power2 (i + k).toNat).fst, U (power2 (i + k).toNat).snd] 24 := Blk.new _ _ _
  refine wp_region_kept (by kernel_rfl) (by kernel_rfl) ?_
  repeat
    refine wpQuiet_step (fun K hK => ?_)
    refine (if_pos (by rfl)).mpr ?_
    first
      | (refine quiet_val_ex ?_; apply Exists.intro; refine ⟨fun w' hw' => ?_, hK _ ?_⟩; (have hA' := hA.kept hw'; have hA0 := hA'.cell 0; have hA1 := hA'.cell 1; go_simp; done); (clear hK K; simp only [Act.put, List.setIfInBounds_toArray, List.set_cons_zero, List.set_cons_succ]))
      | (refine quiet_val_ex ?_; apply Exists.intro; refine ⟨fun w' hw' => ?_, hK _ ?_⟩; (have hA' := hA.kept hw'; have hA0 := hA'.cell 0; have hA1 := hA'.cell 1; go_simp; rfl); (clear hK K; simp only [Act.put, List.setIfInBounds_toArray, List.set_cons_zero, List.set_cons_succ]))
      | (refine quiet_call_ex ?_; apply Exists.intro; apply Exists.intro; apply Exists.intro; refine ⟨fun w' hw' => ?_, fun w' hw' => ?_, hK _ ?_⟩; (go_simp; exact ⟨rfl, rfl⟩); (with_reducible first | exact Calls.kept hw' (power_any _ g0 h5 _) | exact Calls.kept hw' (known_any _)); (clear hK K; simp only [Act.put, List.setIfInBounds_toArray, List.set_cons_zero, List.set_cons_succ]))
  refine wpQuiet_nil ?_
  intro w' hw'
  go_wp2
  go_ret
  exact ⟨rfl, hK.of (((Below.refl _ _).alloc (Nat.le_refl _) _).trans (hw'.mono (by simp)))⟩

set_option maxRecDepth 100000 in
set_option maxHeartbeats 1000000 in
theorem powers_round (i k : Int) (h1 : 0 ≤ i) (h2 : i ≤ 127) (h3 : 0 ≤ k) (h4 : k ≤ 127) (h5 : 128 ≤ i + k) (w : World) :
    Calls Try.prog 5 #[.int .i64 i, .int .i64 k] w fun e w' => e = .returned (.bool true) ∧ Kept w w' := by
  have hm : mul2 (power2 i.toNat) (power2 k.toNat) = mul2 (power2 (i + k - 128).toNat) (0#64, 135#64) := by rw [power_round _ _ (by omega) (by omega) (by omega), show i.toNat + k.toNat - 128 = (i + k - 128).toNat by omega]
  go_enter Try.func5, Try.ntmps5
  go_wp2_with fail
  refine (power_any _ (by omega) (by omega) _).mono ?_
  rintro e w1 ⟨rfl, hb1⟩
  go_wp2_with fail
  refine (power_any _ (by omega) (by omega) _).mono ?_
  rintro e w2 ⟨rfl, hb2⟩
  go_wp2_with fail
  refine (mul_any _ _ _ _ _).mono ?_
  rintro e w3 ⟨rfl, hb3⟩
  have hK := (hb1.of hb2).of hb3
  clear hb1 hb2 hb3
  go_outline
  go_wp2_with fail
  refine (power_any _ (by omega) (by omega) _).mono ?_
  rintro e w4 ⟨rfl, hb4⟩
  go_wp2_with fail
  refine (mul_any _ _ _ _ _).mono ?_
  rintro e w5 ⟨rfl, hb5⟩
  have hA := ((Blk.new w3 #[U (mul2 (power2 (i + k - 128).toNat) (0#64, 135#64)).fst, U (mul2 (power2 (i + k - 128).toNat) (0#64, 135#64)).snd] 24).kept hb4).kept hb5
  have c0 := hA.cell 0
  have c1 := hA.cell 1
  have hL := hA.lt
  have hK2 := hK.of (((Below.refl _ _).alloc (Nat.le_refl _) _ : Below w3.heap.size w3 (w3.alloc (Obj.cells #[U (mul2 (power2 (i + k - 128).toNat) (0#64, 135#64)).fst, U (mul2 (power2 (i + k - 128).toNat) (0#64, 135#64)).snd] 24))).trans ((hb4.of hb5).mono (by simp)))
  clear hK hb4 hb5 hA
  go_wp2_with (go_at_call 12; refine (known_any _).mono ?_; rintro e w6 ⟨rfl, hb6⟩)
  go_ret
  exact ⟨rfl, hK2.of (((Below.refl _ _).alloc (Nat.le_refl _) _).trans (hb6.mono (by simp)))⟩

theorem powers_walk (i k : Int) (lo0 : -9223372036854775808 ≤ i) (hi0 : i ≤ 9223372036854775807) (lo1 : -9223372036854775808 ≤ k) (hi1 : k ≤ 9223372036854775807) (w : World) :
    Calls Try.prog 5 #[.int .i64 i, .int .i64 k] w fun e w' => e = .returned (.bool true) ∧ Kept w w' := by
  by_cases h : i < 0 ∨ 127 < i ∨ k < 0 ∨ 127 < k
  · exact powers_out i k lo0 hi0 lo1 hi1 h w
  · by_cases h5 : i + k < 128
    · exact powers_in i k (by omega) (by omega) (by omega) (by omega) h5 w
    · exact powers_round i k (by omega) (by omega) (by omega) (by omega) (by omega) w

namespace fieldPowersRow
open Go.ChangeShapes Go.WideShapes Go.ChangeAt Go.RowKit
theorem own : ownKnob Try.prog.godebug = none := by kernel_rfl
theorem laidOut : laidOutB Try.prog = true := by kernel_rfl

set_option maxRecDepth 100000 in
theorem lifted (os : Os) (started : os.Started) (H : Type) (enc : TypeId × Value → H) :
    ReturnsInHanded {} Try.checked os 5 .any (Rows.fieldPowersSpec.pre6 enc Try.prog Try.f5 Rows.fieldPowersRow.domain false) (Rows.fieldPowersSpec.post enc Try.prog Try.f5 false true false false) := by
  refine returnsInHanded_of_change (C := Try.checked) own started (by kernel_rfl) Try.func5
    (ChangeSpec.witness6 (enc := enc) (C := Try.checked) false ⟨#[], #[.int .i64 0, .int .i64 0], []⟩ 8 (by kernel_rfl) (by kernel_rfl) (by kernel_rfl) (by kernel_rfl)) ?_
  intro W base args ds gs before hval0 hW _ hsz
  have hval : ∀ (j : Nat) t v, Try.f5.params[j]? = some t → args[j]? = some v → Value.okWide Try.prog W .any base t v := hval0
  have hW' := hW
  obtain ⟨p, q, hA0, hV, rfl, hfz, hnd⟩ := hW
  have hA : DataW.TrodAll enc Try.prog W 0 (fun _ => true) true Try.f5.params.toList args.toList ds p := hA0
  rw [Try.params5] at hA hval
  obtain ⟨v0, vs0, d0, ds0, p0, q0, hargs, rfl, rfl, h0, r0⟩ := trodAll_cons hA
  obtain ⟨v1, vs1, d1, ds1, p1, q1, rfl, rfl, rfl, h1, r1⟩ := trodAll_cons r0
  obtain ⟨rfl, rfl, rfl⟩ := trodAll_nil r1
  obtain rfl : args = #[v0, v1] := by cases args; simp_all
  obtain ⟨a0, rfl, lo0, hi0⟩ := open_I Try.underlying3 (hval 0 3 v0 rfl rfl) h0
  obtain ⟨a1, rfl, lo1, hi1⟩ := open_I Try.underlying3 (hval 1 3 v1 rfl rfl) h1
  refine (powers_walk a0 a1 lo0 hi0 lo1 hi1 W).mono fun e W' ⟨he, bel⟩ => ?_
  subst he
  exact ⟨_, rfl, law_post (tb := 4) laidOut (by kernel_rfl) Try.underlying4 (by rfl) rfl (by intro xs hxs; match xs, hxs with | [x0, x1], _ => rfl) hW' bel⟩

theorem over : Rows.fieldPowersRow.holds Try.pinned (OpenSpec.ofChange Rows.fieldPowersSpec) :=
  OpenClaim.holds_of_wide 5 Try.f5 rfl rfl rfl rfl rfl rfl rfl ⟨rfl, rfl, rfl, rfl, rfl⟩ rfl rfl rfl rfl rfl (by kernel_rfl) Try.func5 (by kernel_rfl)
    (of_decide_eq_true (by kernel_rfl)) (by unfold Func.isWrapper; rw [if_neg (of_decide_eq_false (by kernel_rfl))]; exact ⟨rfl, rfl⟩)
    (fun os started H enc _ => lifted os started H enc)
end fieldPowersRow

theorem fieldPowers_holds : Rows.FieldPowersSaid := fieldPowersRow.over
#print axioms fieldPowers_holds

end Go.Proofs.Ytlijonofcnamgaa
