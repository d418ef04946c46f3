/- KeysOf: any epoch's key by any seed; two epochs have two. -/
import Derived.Test.YtdcejhplkhoboaaKeysK
import Derived.Test.YtdcejhplkhoboaaActs
import Derived.Test.YtdcejhplkhoboaaRows
namespace Go.Proofs.Ytdcejhplkhoboaa
open Go Go.RowKit

set_option maxRecDepth 100000 in
set_option maxHeartbeats 4000000 in
theorem of_walk (seed : BitVec 64) (a b : BitVec 32) (w : World) : Calls Try.prog 3 #[U seed, W a, W b] w fun e w' => e = .returned (.bool true) ∧ Kept w w' := by
  have hab := keyOf_inj seed a b
  go_enter Try.func3, Try.ntmps3
  go_wp2_with fail
  refine (keyof_any seed a _).mono ?_
  rintro e w1 ⟨rfl, k1⟩
  go_wp2_with fail
  refine (rkeyof_any seed a _).mono ?_
  rintro e w2 ⟨rfl, k2⟩
  have k12 := Kept.of k1 k2
  clear k1 k2
  obtain ⟨q1, hq1⟩ : ∃ q1, q1 = keyOf seed a := ⟨_, rfl⟩
  obtain ⟨q2, hq2⟩ : ∃ q2, q2 = keyOf seed b := ⟨_, rfl⟩
  rw [← hq1, ← hq2] at hab
  rw [← hq1]
  go_wp2_with fail
  refine (keyof_any seed a _).mono ?_
  rintro e w3 ⟨rfl, k3⟩
  have k13 := Kept.of k12 k3
  go_wp2_with fail
  refine (keyof_any seed b _).mono ?_
  rintro e w4 ⟨rfl, k4⟩
  have k14 := Kept.of k13 k4
  clear k12 k3 k13 k4
  rw [← hq1, ← hq2]
  have H1 := Lib.hid hq1
  have H2 := Lib.hid hq2
  clear hq1 hq2
  go_wp2_with fail
  refine (known_any _).mono ?_
  rintro e w5 ⟨rfl, k5⟩
  go_wp2
  go_ret
  exact ⟨rfl, Kept.of k14 k5⟩


namespace keysOfRow
open Go.ChangeShapes Go.WideShapes Go.ChangeAt Go.RowKit
theorem own : ownKnob Try.prog.godebug = none := by kernel_rfl
theorem laidOut : laidOutB Try.prog = true := by kernel_rfl

set_option maxRecDepth 100000 in
theorem lifted (os : Os) (started : os.Started) (H : Type) (enc : TypeId × Value → H) :
    ReturnsInHanded {} Try.checked os 3 .any (Rows.keysOfSpec.pre6 enc Try.prog Try.f3 Rows.keysOfRow.domain false) (Rows.keysOfSpec.post enc Try.prog Try.f3 false true false false) := by
  refine returnsInHanded_of_change (C := Try.checked) own started (by kernel_rfl) Try.func3
    (ChangeSpec.witness6 (enc := enc) (C := Try.checked) false ⟨#[], #[.int .u64 0, .int .u32 0, .int .u32 0], []⟩ 8 (by kernel_rfl) (by kernel_rfl) (by kernel_rfl) (by kernel_rfl)) ?_
  intro W base args ds gs before hval0 hW _ hsz
  have hval : ∀ (j : Nat) t v, Try.f3.params[j]? = some t → args[j]? = some v → Value.okWide Try.prog W .any base t v := hval0
  have hW' := hW
  obtain ⟨p, q, hA0, hV, rfl, hfz, hnd⟩ := hW
  have hA : DataW.TrodAll enc Try.prog W 0 (fun _ => true) true Try.f3.params.toList args.toList ds p := hA0
  rw [Try.params3] at hA hval
  obtain ⟨v0, vs0, d0, ds0, p0, q0, hargs, rfl, rfl, h0, r0⟩ := trodAll_cons hA
  obtain ⟨v1, vs1, d1, ds1, p1, q1, rfl, rfl, rfl, h1, r1⟩ := trodAll_cons r0
  obtain ⟨v2, vs2, d2, ds2, p2, q2, rfl, rfl, rfl, h2, r2⟩ := trodAll_cons r1
  obtain ⟨rfl, rfl, rfl⟩ := trodAll_nil r2
  obtain rfl : args = #[v0, v1, v2] := by cases args; simp_all
  obtain ⟨a0, rfl⟩ := open_U Try.underlying22 (hval 0 22 v0 rfl rfl) h0
  obtain ⟨a1, rfl⟩ := open_W Try.underlying23 (hval 1 23 v1 rfl rfl) h1
  obtain ⟨a2, rfl⟩ := open_W Try.underlying23 (hval 2 23 v2 rfl rfl) h2
  refine (of_walk a0 a1 a2 W).mono fun e W' ⟨he, bel⟩ => ?_
  subst he
  exact ⟨_, rfl, law_post (tb := 4) laidOut (by kernel_rfl) Try.underlying4 (by rfl) rfl (by intro xs hxs; match xs, hxs with | [x0, x1, x2], _ => rfl) hW' bel⟩

theorem over : Rows.keysOfRow.holds Try.pinned (OpenSpec.ofChange Rows.keysOfSpec) :=
  OpenClaim.holds_of_wide 3 Try.f3 rfl rfl rfl rfl rfl rfl rfl ⟨rfl, rfl, rfl, rfl, rfl⟩ rfl rfl rfl rfl rfl (by kernel_rfl) Try.func3 (by kernel_rfl)
    (of_decide_eq_true (by kernel_rfl)) (by unfold Func.isWrapper; rw [if_neg (of_decide_eq_false (by kernel_rfl))]; exact ⟨rfl, rfl⟩)
    (fun os started H enc _ => lifted os started H enc)
end keysOfRow

theorem keysOf_holds : Rows.KeysOfSaid := keysOfRow.over
#print axioms keysOf_holds

end Go.Proofs.Ytdcejhplkhoboaa
