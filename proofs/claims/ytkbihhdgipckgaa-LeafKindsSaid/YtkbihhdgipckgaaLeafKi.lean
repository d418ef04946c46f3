/- LeafKinds: what each kind may have, and may not. -/
import Derived.Test.YtkbihhdgipckgaaLeafKa
import Derived.Test.YtkbihhdgipckgaaLeafKb
import Derived.Test.YtkbihhdgipckgaaLeafKc
import Derived.Test.YtkbihhdgipckgaaLeafKd
import Derived.Test.YtkbihhdgipckgaaLeafKe
import Derived.Test.YtkbihhdgipckgaaRows
namespace Go.Proofs.Ytkbihhdgipckgaa
open Go Go.RowKit

set_option maxRecDepth 100000 in
set_option maxHeartbeats 4000000 in
theorem kinds_walk (n s : Int) (w : World) : Calls Try.prog 3 #[.int .i64 n, .int .i64 s] w fun e w' => e = .returned (.bool true) ∧ Kept w w' := by
  by_cases g0 : s < 0
  · go_enter Try.func3, Try.ntmps3
    go_wp2
    go_ret
    exact ⟨rfl, Below.refl _ _⟩
  have g1 : 0 ≤ s := by omega
  by_cases g2 : 15 < s
  · go_enter Try.func3, Try.ntmps3
    go_wp2
    go_ret
    exact ⟨rfl, Below.refl _ _⟩
  have g3 : s ≤ 15 := by omega
  by_cases n0 : n < 0
  · clear g0 g2
    have hcv : ∀ (n : Int) (wx : World), (convert 3 22 (.int .i64 n)).run Try.prog wx = .ok (W (BitVec.ofInt 32 n)) wx := fun n wx => by
      rw [conv_int wx 3 22 _ .u32 _ (by kernel_rfl) Try.underlying22, W_ofInt]
    have hwr : IntKind.i64.wrap (s + 1) = s + 1 := IntWalk.i64_in _ (by omega)
    go_enter Try.func3, Try.ntmps3
    go_wp2
    go_ret
    exact ⟨rfl, ((Below.refl _ _).alloc (Nat.le_refl _) _).alloc (by simp) _⟩
  by_cases n1 : 13 ≤ n
  · have n2 : 0 ≤ n := by omega
    clear g0 g2 n0
    have hcv : ∀ (n : Int) (wx : World), (convert 3 22 (.int .i64 n)).run Try.prog wx = .ok (W (BitVec.ofInt 32 n)) wx := fun n wx => by
      rw [conv_int wx 3 22 _ .u32 _ (by kernel_rfl) Try.underlying22, W_ofInt]
    have hwr : IntKind.i64.wrap (s + 1) = s + 1 := IntWalk.i64_in _ (by omega)
    go_enter Try.func3, Try.ntmps3
    go_wp2
    go_ret
    exact ⟨rfl, ((Below.refl _ _).alloc (Nat.le_refl _) _).alloc (by simp) _⟩
  obtain rfl | rfl | rfl | rfl | rfl | rfl | rfl | rfl | rfl | rfl | rfl | rfl | rfl : n = 0 ∨ n = 1 ∨ n = 2 ∨ n = 3 ∨ n = 4 ∨ n = 5 ∨ n = 6 ∨ n = 7 ∨ n = 8 ∨ n = 9 ∨ n = 10 ∨ n = 11 ∨ n = 12 := by omega
  · exact kinds_0 s g1 g3 w
  · exact kinds_1 s g1 g3 w
  · exact kinds_2 s g1 g3 w
  · exact kinds_3 s g1 g3 w
  · exact kinds_4 s g1 g3 w
  · exact kinds_5 s g1 g3 w
  · exact kinds_6 s g1 g3 w
  · exact kinds_7 s g1 g3 w
  · exact kinds_8 s g1 g3 w
  · exact kinds_9 s g1 g3 w
  · exact kinds_10 s g1 g3 w
  · exact kinds_11 s g1 g3 w
  · exact kinds_12 s g1 g3 w

namespace leafKindsRow
open Go.ChangeShapes Go.WideShapes Go.ChangeAt Go.RowKit
theorem own : ownKnob Try.prog.godebug = none := by kernel_rfl
theorem laidOut : laidOutB Try.prog = true := by kernel_rfl

set_option maxRecDepth 100000 in
theorem lifted (os : Os) (started : os.Started) (H : Type) (enc : TypeId × Value → H) :
    ReturnsInHanded {} Try.checked os 3 .any (Rows.leafKindsSpec.pre6 enc Try.prog Try.f3 Rows.leafKindsRow.domain false) (Rows.leafKindsSpec.post enc Try.prog Try.f3 false true false false) := by
  refine returnsInHanded_of_change (C := Try.checked) own started (by kernel_rfl) Try.func3
    (ChangeSpec.witness6 (enc := enc) (C := Try.checked) false ⟨#[], #[.int .i64 0, .int .i64 0], []⟩ 8 (by kernel_rfl) (by kernel_rfl) (by kernel_rfl) (by kernel_rfl)) ?_
  intro W base args ds gs before hval0 hW _ hsz
  have hval : ∀ (j : Nat) t v, Try.f3.params[j]? = some t → args[j]? = some v → Value.okWide Try.prog W .any base t v := hval0
  have hW' := hW
  obtain ⟨p, q, hA0, hV, rfl, hfz, hnd⟩ := hW
  have hA : DataW.TrodAll enc Try.prog W 0 (fun _ => true) true Try.f3.params.toList args.toList ds p := hA0
  rw [Try.params3] at hA hval
  obtain ⟨v0, vs0, d0, ds0, p0, q0, hargs, rfl, rfl, h0, r0⟩ := trodAll_cons hA
  obtain ⟨v1, vs1, d1, ds1, p1, q1, rfl, rfl, rfl, h1, r1⟩ := trodAll_cons r0
  obtain ⟨rfl, rfl, rfl⟩ := trodAll_nil r1
  obtain rfl : args = #[v0, v1] := by cases args; simp_all
  obtain ⟨a0, rfl, lo0, hi0⟩ := open_I Try.underlying3 (hval 0 3 v0 rfl rfl) h0
  obtain ⟨a1, rfl, lo1, hi1⟩ := open_I Try.underlying3 (hval 1 3 v1 rfl rfl) h1
  refine (kinds_walk a0 a1 W).mono fun e W' ⟨he, bel⟩ => ?_
  subst he
  exact ⟨_, rfl, law_post (tb := 4) laidOut (by kernel_rfl) Try.underlying4 (by rfl) rfl (by intro xs hxs; match xs, hxs with | [x0, x1], _ => rfl) hW' bel⟩

theorem over : Rows.leafKindsRow.holds Try.pinned (OpenSpec.ofChange Rows.leafKindsSpec) :=
  OpenClaim.holds_of_wide 3 Try.f3 rfl rfl rfl rfl rfl rfl rfl ⟨rfl, rfl, rfl, rfl, rfl⟩ rfl rfl rfl rfl rfl (by kernel_rfl) Try.func3 (by kernel_rfl)
    (of_decide_eq_true (by kernel_rfl)) (by unfold Func.isWrapper; rw [if_neg (of_decide_eq_false (by kernel_rfl))]; exact ⟨rfl, rfl⟩)
    (fun os started H enc _ => lifted os started H enc)
end leafKindsRow

theorem leafKinds_holds : Rows.LeafKindsSaid := leafKindsRow.over
#print axioms leafKinds_holds

end Go.Proofs.Ytkbihhdgipckgaa
