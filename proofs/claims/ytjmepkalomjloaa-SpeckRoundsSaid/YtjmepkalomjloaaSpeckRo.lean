/- SpeckRounds: the first round by hand: by the key 0 of all, of a block. -/
import Derived.Test.YtjmepkalomjloaaSpeckK
import Derived.Test.YtjmepkalomjloaaRows
namespace Go.Proofs.Ytjmepkalomjloaa
open Go Go.RowKit

set_option maxRecDepth 100000 in
set_option maxHeartbeats 2000000 in
theorem rounds_walk (a : Pair) (w : World) : Calls Try.prog 4 #[Pr a] w fun e w' => e = .returned (.bool true) ∧ Kept w w' := by
  have hA : Blk (w.alloc (.cells #[U a.1, U a.2] 24)) w.heap.size #[U a.1, U a.2] 24 := Blk.new _ _ _
  go_enter Try.func4, Try.ntmps4
  go_wp2_with fail
  refine (keys_any _ _ _).mono ?_
  rintro e w1 ⟨r, rfl, hown, hk1⟩
  have hb1 : Below w.heap.size w w1 := ((Below.refl _ _).alloc (Nat.le_refl _) _).trans (hk1.mono (by simp))
  have hs1 : w.heap.size ≤ w1.heap.size := Nat.le_trans (by simp) hk1.size
  have hA1 := hA.kept hk1
  obtain ⟨g, off, cap, rfl, hc1, hc2, hgl, hcell⟩ := (Sl.of_own hown).at (by rw [ucells_length, keysL_length]; omega)
  have x0 := hcell 0 _ (ucells_get _ _ _ (keysL_get _ _ 0 (by omega)))
  have x1 := hcell 1 _ (ucells_get _ _ _ (keysL_get _ _ 1 (by omega)))
  have x2 := hcell 2 _ (ucells_get _ _ _ (keysL_get _ _ 2 (by omega)))
  rw [show (kst (0#64, 0#64) 0).2 = 0#64 by decide] at x0
  rw [show (kst (0#64, 0#64) 1).2 = 0#64 by decide] at x1
  rw [show (kst (0#64, 0#64) 2).2 = 1#64 by decide] at x2
  rw [Nat.add_zero] at x0
  clear hcell hk1 hown hA
  have a0 := hA1.cell 0
  have a1 := hA1.cell 1
  go_wp2_with fail
  refine (enc_any _ _ _ _ _).mono ?_
  rintro e w2 ⟨rfl, hk2⟩
  have y0 := (hk2.cell (p := ⟨g, off, none⟩) hgl).trans x0
  have y1 := (hk2.cell (p := ⟨g, off + 1, none⟩) hgl).trans x1
  have y2 := (hk2.cell (p := ⟨g, off + 2, none⟩) hgl).trans x2
  have hgw : g < w2.heap.size := Nat.lt_of_lt_of_le hgl hk2.size
  have hA2 := hA1.kept hk2
  have hb2 := hb1.trans (hk2.mono hs1)
  have hs2 := Nat.le_trans hs1 hk2.size
  clear hk2 a0 a1 x0 x1 x2 hgl hb1 hs1 hA1
  go_wp2_with fail
  have hX : Blk (w2.alloc (.cells #[U (enc2 (0#64, 0#64) (a.1, a.2)).1, U (enc2 (0#64, 0#64) (a.1, a.2)).2] 24)) w2.heap.size #[U (enc2 (0#64, 0#64) (a.1, a.2)).1, U (enc2 (0#64, 0#64) (a.1, a.2)).2] 24 := Blk.new _ _ _
  have hA3 : Blk (w2.alloc (.cells #[U (enc2 (0#64, 0#64) (a.1, a.2)).1, U (enc2 (0#64, 0#64) (a.1, a.2)).2] 24)) w.heap.size #[U a.1, U a.2] 24 := Blk.alloc hA2 _
  have hk3 : Kept w2 (w2.alloc (.cells #[U (enc2 (0#64, 0#64) (a.1, a.2)).1, U (enc2 (0#64, 0#64) (a.1, a.2)).2] 24)) := (Below.refl _ _).alloc (Nat.le_refl _) _
  have z0 := (hk3.cell (p := ⟨g, off, none⟩) hgw).trans y0
  have z1 := (hk3.cell (p := ⟨g, off + 1, none⟩) hgw).trans y1
  have z2 := (hk3.cell (p := ⟨g, off + 2, none⟩) hgw).trans y2
  have hg3 : g < (w2.alloc (.cells #[U (enc2 (0#64, 0#64) (a.1, a.2)).1, U (enc2 (0#64, 0#64) (a.1, a.2)).2] 24)).heap.size := Nat.lt_of_lt_of_le hgw hk3.size
  have hb3 := hb2.trans (hk3.mono hs2)
  have hs3 := Nat.le_trans hs2 hk3.size
  clear y0 y1 y2 hgw hA2 hb2 hs2 hk3
  refine wp_region_kept (by kernel_rfl) (by kernel_rfl) ?_
  repeat
    refine wpQuiet_step (fun K hK => ?_)
    refine (if_pos (by rfl)).mpr ?_
    first
      | (refine quiet_val_ex ?_; apply Exists.intro; refine ⟨fun w' hw' => ?_, hK _ ?_⟩; (have hA3' := hA3.kept hw'; have hA30 := hA3'.cell 0; have hA31 := hA3'.cell 1; have hX' := hX.kept hw'; have hX0 := hX'.cell 0; have hX1 := hX'.cell 1; have u0 := (hw'.cell (p := ⟨g, off, none⟩) hg3).trans z0; have u1 := (hw'.cell (p := ⟨g, off + 1, none⟩) hg3).trans z1; have u2 := (hw'.cell (p := ⟨g, off + 2, none⟩) hg3).trans z2; go_simp; done); (clear hK K; simp only [Act.put, List.setIfInBounds_toArray, List.set_cons_zero, List.set_cons_succ]))
      | (refine quiet_val_ex ?_; apply Exists.intro; refine ⟨fun w' hw' => ?_, hK _ ?_⟩; (have hA3' := hA3.kept hw'; have hA30 := hA3'.cell 0; have hA31 := hA3'.cell 1; have hX' := hX.kept hw'; have hX0 := hX'.cell 0; have hX1 := hX'.cell 1; have u0 := (hw'.cell (p := ⟨g, off, none⟩) hg3).trans z0; have u1 := (hw'.cell (p := ⟨g, off + 1, none⟩) hg3).trans z1; have u2 := (hw'.cell (p := ⟨g, off + 2, none⟩) hg3).trans z2; go_simp; rfl); (clear hK K; simp only [Act.put, List.setIfInBounds_toArray, List.set_cons_zero, List.set_cons_succ]))
      | (refine quiet_call_ex ?_; apply Exists.intro; apply Exists.intro; apply Exists.intro; refine ⟨fun w' hw' => ?_, fun w' hw' => ?_, hK _ ?_⟩; (go_simp; exact ⟨rfl, rfl⟩); (with_reducible first | exact Calls.kept hw' (renc_any _ _ _ _ _) | exact Calls.kept hw' (known_any _)); (clear hK K; simp only [Act.put, List.setIfInBounds_toArray, List.set_cons_zero, List.set_cons_succ]))
  refine wpQuiet_nil ?_
  intro w4 hw4
  go_wp2
  go_ret
  exact ⟨rfl, hb3.trans (hw4.mono hs3)⟩

namespace speckRoundsRow
open Go.ChangeShapes Go.WideShapes Go.ChangeAt Go.RowKit
theorem own : ownKnob Try.prog.godebug = none := by kernel_rfl
theorem laidOut : laidOutB Try.prog = true := by kernel_rfl

set_option maxRecDepth 100000 in
theorem lifted (os : Os) (started : os.Started) (H : Type) (enc : TypeId × Value → H) :
    ReturnsInHanded {} Try.checked os 4 .any (Rows.speckRoundsSpec.pre6 enc Try.prog Try.f4 Rows.speckRoundsRow.domain false) (Rows.speckRoundsSpec.post enc Try.prog Try.f4 false true false false) := by
  refine returnsInHanded_of_change (C := Try.checked) own started (by kernel_rfl) Try.func4
    (ChangeSpec.witness6 (enc := enc) (C := Try.checked) false ⟨#[], #[.agg #[.int .u64 0, .int .u64 0]], []⟩ 8 (by kernel_rfl) (by kernel_rfl) (by kernel_rfl) (by kernel_rfl)) ?_
  intro W base args ds gs before hval0 hW _ hsz
  have hval : ∀ (j : Nat) t v, Try.f4.params[j]? = some t → args[j]? = some v → Value.okWide Try.prog W .any base t v := hval0
  have hW' := hW
  obtain ⟨p, q, hA0, hV, rfl, hfz, hnd⟩ := hW
  have hA : DataW.TrodAll enc Try.prog W 0 (fun _ => true) true Try.f4.params.toList args.toList ds p := hA0
  rw [Try.params4] at hA hval
  obtain ⟨v0, vs0, d0, ds0, p0, q0, hargs, rfl, rfl, h0, r0⟩ := trodAll_cons hA
  obtain ⟨rfl, rfl, rfl⟩ := trodAll_nil r0
  obtain rfl : args = #[v0] := by cases args; simp_all
  obtain ⟨a0, rfl⟩ := open_pair (e := 22) Try.underlying24 Try.underlying22 (by kernel_rfl) (by kernel_rfl) (hval 0 24 v0 rfl rfl) h0
  refine (rounds_walk a0 W).mono fun e W' ⟨he, bel⟩ => ?_
  subst he
  exact ⟨_, rfl, law_post (tb := 4) laidOut (by kernel_rfl) Try.underlying4 (by rfl) rfl (by intro xs hxs; match xs, hxs with | [x0], _ => rfl) hW' bel⟩

theorem over : Rows.speckRoundsRow.holds Try.pinned (OpenSpec.ofChange Rows.speckRoundsSpec) :=
  OpenClaim.holds_of_wide 4 Try.f4 rfl rfl rfl rfl rfl rfl rfl ⟨rfl, rfl, rfl, rfl, rfl⟩ rfl rfl rfl rfl rfl (by kernel_rfl) Try.func4 (by kernel_rfl)
    (of_decide_eq_true (by kernel_rfl)) (by unfold Func.isWrapper; rw [if_neg (of_decide_eq_false (by kernel_rfl))]; exact ⟨rfl, rfl⟩)
    (fun os started H enc _ => lifted os started H enc)
end speckRoundsRow

theorem speckRounds_holds : Rows.SpeckRoundsSaid := speckRoundsRow.over
#print axioms speckRounds_holds

end Go.Proofs.Ytjmepkalomjloaa
