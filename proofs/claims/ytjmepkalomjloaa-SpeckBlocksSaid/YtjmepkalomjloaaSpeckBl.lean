/- SpeckBlocks: any block by any key, and back. -/
import Derived.Test.YtjmepkalomjloaaSpeckDe
import Derived.Test.YtjmepkalomjloaaSpeckK
import Derived.Test.YtjmepkalomjloaaRows
namespace Go.Proofs.Ytjmepkalomjloaa
open Go Go.RowKit

set_option maxRecDepth 100000 in
set_option maxHeartbeats 2000000 in
theorem blocks_walk (k1 k2 b1 b2 : BitVec 64) (w : World) :
    Calls Try.prog 5 #[.agg #[U k1, U k2], .agg #[U b1, U b2]] w fun e w' => e = .returned (.bool true) ∧ Kept w w' := by
  have hk : Blk ((w.alloc (.cells #[U k1, U k2] 24)).alloc (.cells #[U b1, U b2] 24)) (w.heap.size) #[U k1, U k2] 24 := (Blk.alloc (by simpa using Blk.new w #[U k1, U k2] 24) _)
  have hb : Blk ((w.alloc (.cells #[U k1, U k2] 24)).alloc (.cells #[U b1, U b2] 24)) (w.heap.size + 1) #[U b1, U b2] 24 := (by simpa using Blk.new (w.alloc (.cells #[U k1, U k2] 24)) #[U b1, U b2] 24)
  have hk0 : Kept w ((w.alloc (.cells #[U k1, U k2] 24)).alloc (.cells #[U b1, U b2] 24)) := (((Below.refl _ _).alloc (by simp <;> omega) _).alloc (by simp <;> omega) _)
  go_enter Try.func5, Try.ntmps5
  go_wp2_with fail
  refine (enc_any _ _ _ _ _).mono ?_
  rintro e w1 ⟨rfl, hk1⟩
  replace hk := hk.kept hk1
  replace hb := hb.kept hk1
  replace hk0 := hk0.of hk1
  clear hk1
  have hx := Blk.new w1 #[U (enc2 (k1, k2) (b1, b2)).1, U (enc2 (k1, k2) (b1, b2)).2] 24
  replace hk := hk.alloc (.cells #[U (enc2 (k1, k2) (b1, b2)).1, U (enc2 (k1, k2) (b1, b2)).2] 24)
  replace hb := hb.alloc (.cells #[U (enc2 (k1, k2) (b1, b2)).1, U (enc2 (k1, k2) (b1, b2)).2] 24)
  replace hk0 := hk0.alloc (by have := hk0.size; omega) (.cells #[U (enc2 (k1, k2) (b1, b2)).1, U (enc2 (k1, k2) (b1, b2)).2] 24)
  go_wp2_with fail
  generalize w1.alloc (.cells #[U (enc2 (k1, k2) (b1, b2)).1, U (enc2 (k1, k2) (b1, b2)).2] 24) = W2 at *
  refine wp_region_chainK [(0, 0), (1, 0), (2, 0), (3, 1), (4, 0), (5, 0), (6, 0), (7, 0), (9, 0), (8, 1), (10, 0), (11, 0), (12, 0), (13, 0), (14, 0), (15, 0), (18, 0), (16, 1), (17, 1), (19, 0), (20, 0), (21, 0), (22, 1), (23, 0), (24, 0)] (by kernel_rfl) (by kernel_rfl) ?_
  intro w9 hw1
  replace hk := hk.kept hw1
  replace hb := hb.kept hw1
  replace hx := hx.kept hw1
  repeat
    refine chain_light _ rfl (fun K hK => ?_)
    first
      | (refine (if_pos (by rfl)).mpr ?_; apply Exists.intro; refine ⟨fun w' hw' => ?_, hK _ ?_⟩; (have c := hk.kept hw'; have xk0 := c.cell 0; have xk1 := c.cell 1; clear c; have c := hb.kept hw'; have xb0 := c.cell 0; have xb1 := c.cell 1; clear c; have c := hx.kept hw'; have xx0 := c.cell 0; have xx1 := c.cell 1; clear c; go_simp; done); (clear hK K; simp only [Act.put, List.setIfInBounds_toArray, List.set_cons_zero, List.set_cons_succ]))
      | (refine (if_pos (by rfl)).mpr ?_; apply Exists.intro; refine ⟨fun w' hw' => ?_, hK _ ?_⟩; (have c := hk.kept hw'; have xk0 := c.cell 0; have xk1 := c.cell 1; clear c; have c := hb.kept hw'; have xb0 := c.cell 0; have xb1 := c.cell 1; clear c; have c := hx.kept hw'; have xx0 := c.cell 0; have xx1 := c.cell 1; clear c; go_simp; rfl); (clear hK K; simp only [Act.put, List.setIfInBounds_toArray, List.set_cons_zero, List.set_cons_succ]))
      | (refine (if_neg (by rw [Bool.not_eq_true]; rfl)).mpr ?_; refine hK _ ?_; (clear hK K; simp only [Act.put, List.setIfInBounds_toArray, List.set_cons_zero, List.set_cons_succ]))
  refine chain_heavy _ rfl (fun K hK => ?_)
  refine (if_pos (by rfl)).mpr ?_
  go_wp2_with fail
  refine (renc_any _ _ _ _ _).mono ?_
  rintro e w2 ⟨rfl, hk2⟩
  replace hk := hk.kept hk2
  replace hb := hb.kept hk2
  replace hx := hx.kept hk2
  go_wp2
  refine hK _ _ (hk2) ?_
  clear hK K
  try simp only [Act.put, List.setIfInBounds_toArray, List.set_cons_zero, List.set_cons_succ]
  repeat
    refine chain_light _ rfl (fun K hK => ?_)
    first
      | (refine (if_pos (by rfl)).mpr ?_; apply Exists.intro; refine ⟨fun w' hw' => ?_, hK _ ?_⟩; (have c := hk.kept hw'; have xk0 := c.cell 0; have xk1 := c.cell 1; clear c; have c := hb.kept hw'; have xb0 := c.cell 0; have xb1 := c.cell 1; clear c; have c := hx.kept hw'; have xx0 := c.cell 0; have xx1 := c.cell 1; clear c; go_simp; done); (clear hK K; simp only [Act.put, List.setIfInBounds_toArray, List.set_cons_zero, List.set_cons_succ]))
      | (refine (if_pos (by rfl)).mpr ?_; apply Exists.intro; refine ⟨fun w' hw' => ?_, hK _ ?_⟩; (have c := hk.kept hw'; have xk0 := c.cell 0; have xk1 := c.cell 1; clear c; have c := hb.kept hw'; have xb0 := c.cell 0; have xb1 := c.cell 1; clear c; have c := hx.kept hw'; have xx0 := c.cell 0; have xx1 := c.cell 1; clear c; go_simp; rfl); (clear hK K; simp only [Act.put, List.setIfInBounds_toArray, List.set_cons_zero, List.set_cons_succ]))
      | (refine (if_neg (by rw [Bool.not_eq_true]; rfl)).mpr ?_; refine hK _ ?_; (clear hK K; simp only [Act.put, List.setIfInBounds_toArray, List.set_cons_zero, List.set_cons_succ]))
  refine chain_heavy _ rfl (fun K hK => ?_)
  refine (if_pos (by rfl)).mpr ?_
  go_wp2_with fail
  refine (dec_any _ _ _ _ _).mono ?_
  rintro e w3 ⟨rfl, hk3⟩
  replace hk := hk.kept hk3
  replace hb := hb.kept hk3
  replace hx := hx.kept hk3
  rw [show ((enc2 (k1, k2) (b1, b2)).1, (enc2 (k1, k2) (b1, b2)).2) = enc2 (k1, k2) (b1, b2) from rfl, dec_enc]
  go_wp2
  refine hK _ _ (hk3) ?_
  clear hK K
  try simp only [Act.put, List.setIfInBounds_toArray, List.set_cons_zero, List.set_cons_succ]
  repeat
    refine chain_light _ rfl (fun K hK => ?_)
    first
      | (refine (if_pos (by rfl)).mpr ?_; apply Exists.intro; refine ⟨fun w' hw' => ?_, hK _ ?_⟩; (have c := hk.kept hw'; have xk0 := c.cell 0; have xk1 := c.cell 1; clear c; have c := hb.kept hw'; have xb0 := c.cell 0; have xb1 := c.cell 1; clear c; have c := hx.kept hw'; have xx0 := c.cell 0; have xx1 := c.cell 1; clear c; go_simp; done); (clear hK K; simp only [Act.put, List.setIfInBounds_toArray, List.set_cons_zero, List.set_cons_succ]))
      | (refine (if_pos (by rfl)).mpr ?_; apply Exists.intro; refine ⟨fun w' hw' => ?_, hK _ ?_⟩; (have c := hk.kept hw'; have xk0 := c.cell 0; have xk1 := c.cell 1; clear c; have c := hb.kept hw'; have xb0 := c.cell 0; have xb1 := c.cell 1; clear c; have c := hx.kept hw'; have xx0 := c.cell 0; have xx1 := c.cell 1; clear c; go_simp; rfl); (clear hK K; simp only [Act.put, List.setIfInBounds_toArray, List.set_cons_zero, List.set_cons_succ]))
      | (refine (if_neg (by rw [Bool.not_eq_true]; rfl)).mpr ?_; refine hK _ ?_; (clear hK K; simp only [Act.put, List.setIfInBounds_toArray, List.set_cons_zero, List.set_cons_succ]))
  refine chain_heavy _ rfl (fun K hK => ?_)
  refine (if_pos (by rfl)).mpr ?_
  go_wp2_with fail
  refine (dec_any _ _ _ _ _).mono ?_
  rintro e w4 ⟨rfl, hk4⟩
  replace hk := hk.kept hk4
  replace hb := hb.kept hk4
  replace hx := hx.kept hk4
  go_wp2
  refine hK _ _ (hk4) ?_
  clear hK K
  try simp only [Act.put, List.setIfInBounds_toArray, List.set_cons_zero, List.set_cons_succ]
  refine chain_heavy _ rfl (fun K hK => ?_)
  refine (if_pos (by rfl)).mpr ?_
  go_wp2_with fail
  refine (enc_any _ _ _ _ _).mono ?_
  rintro e w5 ⟨rfl, hk5⟩
  replace hk := hk.kept hk5
  replace hb := hb.kept hk5
  replace hx := hx.kept hk5
  rw [show ((dec2 (k1, k2) (b1, b2)).1, (dec2 (k1, k2) (b1, b2)).2) = dec2 (k1, k2) (b1, b2) from rfl, enc_dec]
  go_wp2
  refine hK _ _ (hk5) ?_
  clear hK K
  try simp only [Act.put, List.setIfInBounds_toArray, List.set_cons_zero, List.set_cons_succ]
  repeat
    refine chain_light _ rfl (fun K hK => ?_)
    first
      | (refine (if_pos (by rfl)).mpr ?_; apply Exists.intro; refine ⟨fun w' hw' => ?_, hK _ ?_⟩; (have c := hk.kept hw'; have xk0 := c.cell 0; have xk1 := c.cell 1; clear c; have c := hb.kept hw'; have xb0 := c.cell 0; have xb1 := c.cell 1; clear c; have c := hx.kept hw'; have xx0 := c.cell 0; have xx1 := c.cell 1; clear c; go_simp; done); (clear hK K; simp only [Act.put, List.setIfInBounds_toArray, List.set_cons_zero, List.set_cons_succ]))
      | (refine (if_pos (by rfl)).mpr ?_; apply Exists.intro; refine ⟨fun w' hw' => ?_, hK _ ?_⟩; (have c := hk.kept hw'; have xk0 := c.cell 0; have xk1 := c.cell 1; clear c; have c := hb.kept hw'; have xb0 := c.cell 0; have xb1 := c.cell 1; clear c; have c := hx.kept hw'; have xx0 := c.cell 0; have xx1 := c.cell 1; clear c; go_simp; rfl); (clear hK K; simp only [Act.put, List.setIfInBounds_toArray, List.set_cons_zero, List.set_cons_succ]))
      | (refine (if_neg (by rw [Bool.not_eq_true]; rfl)).mpr ?_; refine hK _ ?_; (clear hK K; simp only [Act.put, List.setIfInBounds_toArray, List.set_cons_zero, List.set_cons_succ]))
  refine chain_heavy _ rfl (fun K hK => ?_)
  refine (if_pos (by rfl)).mpr ?_
  go_wp2_with fail
  refine (known_any _).mono ?_
  rintro e w6 ⟨rfl, hk6⟩
  replace hk := hk.kept hk6
  replace hb := hb.kept hk6
  replace hx := hx.kept hk6
  go_wp2
  refine hK _ _ (hk6) ?_
  clear hK K
  try simp only [Act.put, List.setIfInBounds_toArray, List.set_cons_zero, List.set_cons_succ]
  repeat
    refine chain_light _ rfl (fun K hK => ?_)
    first
      | (refine (if_pos (by rfl)).mpr ?_; apply Exists.intro; refine ⟨fun w' hw' => ?_, hK _ ?_⟩; (have c := hk.kept hw'; have xk0 := c.cell 0; have xk1 := c.cell 1; clear c; have c := hb.kept hw'; have xb0 := c.cell 0; have xb1 := c.cell 1; clear c; have c := hx.kept hw'; have xx0 := c.cell 0; have xx1 := c.cell 1; clear c; go_simp; done); (clear hK K; simp only [Act.put, List.setIfInBounds_toArray, List.set_cons_zero, List.set_cons_succ]))
      | (refine (if_pos (by rfl)).mpr ?_; apply Exists.intro; refine ⟨fun w' hw' => ?_, hK _ ?_⟩; (have c := hk.kept hw'; have xk0 := c.cell 0; have xk1 := c.cell 1; clear c; have c := hb.kept hw'; have xb0 := c.cell 0; have xb1 := c.cell 1; clear c; have c := hx.kept hw'; have xx0 := c.cell 0; have xx1 := c.cell 1; clear c; go_simp; rfl); (clear hK K; simp only [Act.put, List.setIfInBounds_toArray, List.set_cons_zero, List.set_cons_succ]))
      | (refine (if_neg (by rw [Bool.not_eq_true]; rfl)).mpr ?_; refine hK _ ?_; (clear hK K; simp only [Act.put, List.setIfInBounds_toArray, List.set_cons_zero, List.set_cons_succ]))
  refine chain_nil ?_
  go_wp2
  go_ret
  exact ⟨rfl, (((((Kept.of hk0 hw1).of hk2).of hk3).of hk4).of hk5).of hk6⟩

namespace speckBlocksRow
open Go.ChangeShapes Go.WideShapes Go.ChangeAt Go.RowKit
theorem own : ownKnob Try.prog.godebug = none := by kernel_rfl
theorem laidOut : laidOutB Try.prog = true := by kernel_rfl

set_option maxRecDepth 100000 in
theorem lifted (os : Os) (started : os.Started) (H : Type) (enc : TypeId × Value → H) :
    ReturnsInHanded {} Try.checked os 5 .any (Rows.speckBlocksSpec.pre6 enc Try.prog Try.f5 Rows.speckBlocksRow.domain false) (Rows.speckBlocksSpec.post enc Try.prog Try.f5 false true false false) := by
  refine returnsInHanded_of_change (C := Try.checked) own started (by kernel_rfl) Try.func5
    (ChangeSpec.witness6 (enc := enc) (C := Try.checked) false ⟨#[], #[.agg #[.int .u64 0, .int .u64 0], .agg #[.int .u64 0, .int .u64 0]], []⟩ 8 (by kernel_rfl) (by kernel_rfl) (by kernel_rfl) (by kernel_rfl)) ?_
  intro W base args ds gs before hval0 hW _ hsz
  have hval : ∀ (j : Nat) t v, Try.f5.params[j]? = some t → args[j]? = some v → Value.okWide Try.prog W .any base t v := hval0
  have hW' := hW
  obtain ⟨p, q, hA0, hV, rfl, hfz, hnd⟩ := hW
  have hA : DataW.TrodAll enc Try.prog W 0 (fun _ => true) true Try.f5.params.toList args.toList ds p := hA0
  rw [Try.params5] at hA hval
  obtain ⟨v0, vs0, d0, ds0, p0, q0, hargs, rfl, rfl, h0, r0⟩ := trodAll_cons hA
  obtain ⟨v1, vs1, d1, ds1, p1, q1, rfl, rfl, rfl, h1, r1⟩ := trodAll_cons r0
  obtain ⟨rfl, rfl, rfl⟩ := trodAll_nil r1
  obtain rfl : args = #[v0, v1] := by cases args; simp_all
  obtain ⟨a0, rfl⟩ := open_pair (e := 22) Try.underlying24 Try.underlying22 (by kernel_rfl) (by kernel_rfl) (hval 0 24 v0 rfl rfl) h0
  obtain ⟨a1, rfl⟩ := open_pair (e := 22) Try.underlying24 Try.underlying22 (by kernel_rfl) (by kernel_rfl) (hval 1 24 v1 rfl rfl) h1
  refine (blocks_walk a0.1 a0.2 a1.1 a1.2 W).mono fun e W' ⟨he, bel⟩ => ?_
  subst he
  exact ⟨_, rfl, law_post (tb := 4) laidOut (by kernel_rfl) Try.underlying4 (by rfl) rfl (by intro xs hxs; match xs, hxs with | [x0, x1], _ => rfl) hW' bel⟩

theorem over : Rows.speckBlocksRow.holds Try.pinned (OpenSpec.ofChange Rows.speckBlocksSpec) :=
  OpenClaim.holds_of_wide 5 Try.f5 rfl rfl rfl rfl rfl rfl rfl ⟨rfl, rfl, rfl, rfl, rfl⟩ rfl rfl rfl rfl rfl (by kernel_rfl) Try.func5 (by kernel_rfl)
    (of_decide_eq_true (by kernel_rfl)) (by unfold Func.isWrapper; rw [if_neg (of_decide_eq_false (by kernel_rfl))]; exact ⟨rfl, rfl⟩)
    (fun os started H enc _ => lifted os started H enc)
end speckBlocksRow

theorem speckBlocks_holds : Rows.SpeckBlocksSaid := speckBlocksRow.over
#print axioms speckBlocks_holds

end Go.Proofs.Ytjmepkalomjloaa
