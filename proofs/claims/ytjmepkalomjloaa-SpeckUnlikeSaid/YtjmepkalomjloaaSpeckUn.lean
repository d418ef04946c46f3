/- SpeckUnlike: of two blocks that are not the same a key makes two that are not. -/
import Derived.Test.YtjmepkalomjloaaSpeckDe
import Derived.Test.YtjmepkalomjloaaSpeckK
import Derived.Test.YtjmepkalomjloaaRows
namespace Go.Proofs.Ytjmepkalomjloaa
open Go Go.RowKit

set_option maxRecDepth 100000 in
set_option maxHeartbeats 2000000 in
theorem unlike_walk (k1 k2 a1 a2 b1 b2 : BitVec 64) (w : World) :
    Calls Try.prog 6 #[.agg #[U k1, U k2], .agg #[U a1, U a2], .agg #[U b1, U b2]] w fun e w' => e = .returned (.bool true) ∧ Kept w w' := by
  have hk : Blk (((w.alloc (.cells #[U k1, U k2] 24)).alloc (.cells #[U a1, U a2] 24)).alloc (.cells #[U b1, U b2] 24)) (w.heap.size) #[U k1, U k2] 24 := (Blk.alloc (Blk.alloc (by simpa using Blk.new w #[U k1, U k2] 24) _) _)
  have ha : Blk (((w.alloc (.cells #[U k1, U k2] 24)).alloc (.cells #[U a1, U a2] 24)).alloc (.cells #[U b1, U b2] 24)) (w.heap.size + 1) #[U a1, U a2] 24 := (Blk.alloc (by simpa using Blk.new (w.alloc (.cells #[U k1, U k2] 24)) #[U a1, U a2] 24) _)
  have hb : Blk (((w.alloc (.cells #[U k1, U k2] 24)).alloc (.cells #[U a1, U a2] 24)).alloc (.cells #[U b1, U b2] 24)) (w.heap.size + 1 + 1) #[U b1, U b2] 24 := (by simpa using Blk.new ((w.alloc (.cells #[U k1, U k2] 24)).alloc (.cells #[U a1, U a2] 24)) #[U b1, U b2] 24)
  have hk0 : Kept w (((w.alloc (.cells #[U k1, U k2] 24)).alloc (.cells #[U a1, U a2] 24)).alloc (.cells #[U b1, U b2] 24)) := ((((Below.refl _ _).alloc (by simp <;> omega) _).alloc (by simp <;> omega) _).alloc (by simp <;> omega) _)
  have he := enc_inj (k1, k2) (a1, a2) (b1, b2)
  have hd := dec_inj (k1, k2) (a1, a2) (b1, b2)
  go_enter Try.func6, Try.ntmps6
  go_wp2_with fail
  refine wp_region_chainK [(0, 0), (1, 0), (3, 0), (4, 0), (7, 0), (8, 0), (9, 0), (2, 1), (5, 1), (6, 0), (10, 0), (11, 0), (12, 0), (13, 0), (15, 0), (16, 0), (19, 0), (20, 0), (21, 0), (14, 1), (17, 1), (18, 0), (22, 0), (23, 0), (24, 0), (25, 1), (26, 0), (27, 0)] (by kernel_rfl) (by kernel_rfl) ?_
  intro w1 hw1
  replace hk := hk.kept hw1
  replace ha := ha.kept hw1
  replace hb := hb.kept hw1
  repeat
    refine chain_light _ rfl (fun K hK => ?_)
    first
      | (refine (if_pos (by rfl)).mpr ?_; apply Exists.intro; refine ⟨fun w' hw' => ?_, hK _ ?_⟩; (have c := hk.kept hw'; have xk0 := c.cell 0; have xk1 := c.cell 1; clear c; have c := ha.kept hw'; have xa0 := c.cell 0; have xa1 := c.cell 1; clear c; have c := hb.kept hw'; have xb0 := c.cell 0; have xb1 := c.cell 1; clear c; go_simp; done); (clear hK K; simp only [Act.put, List.setIfInBounds_toArray, List.set_cons_zero, List.set_cons_succ]))
      | (refine (if_pos (by rfl)).mpr ?_; apply Exists.intro; refine ⟨fun w' hw' => ?_, hK _ ?_⟩; (have c := hk.kept hw'; have xk0 := c.cell 0; have xk1 := c.cell 1; clear c; have c := ha.kept hw'; have xa0 := c.cell 0; have xa1 := c.cell 1; clear c; have c := hb.kept hw'; have xb0 := c.cell 0; have xb1 := c.cell 1; clear c; go_simp; rfl); (clear hK K; simp only [Act.put, List.setIfInBounds_toArray, List.set_cons_zero, List.set_cons_succ]))
      | (refine (if_neg (by rw [Bool.not_eq_true]; rfl)).mpr ?_; refine hK _ ?_; (clear hK K; simp only [Act.put, List.setIfInBounds_toArray, List.set_cons_zero, List.set_cons_succ]))
  refine chain_heavy _ rfl (fun K hK => ?_)
  refine (if_pos (by rfl)).mpr ?_
  go_wp2_with fail
  refine (enc_any _ _ _ _ _).mono ?_
  rintro e w2 ⟨rfl, hk2⟩
  replace hk := hk.kept hk2
  replace ha := ha.kept hk2
  replace hb := hb.kept hk2
  go_wp2
  refine hK _ _ (hk2) ?_
  clear hK K
  try simp only [Act.put, List.setIfInBounds_toArray, List.set_cons_zero, List.set_cons_succ]
  refine chain_heavy _ rfl (fun K hK => ?_)
  refine (if_pos (by rfl)).mpr ?_
  go_wp2_with fail
  refine (enc_any _ _ _ _ _).mono ?_
  rintro e w3 ⟨rfl, hk3⟩
  replace hk := hk.kept hk3
  replace ha := ha.kept hk3
  replace hb := hb.kept hk3
  go_wp2
  refine hK _ _ (hk3) ?_
  clear hK K
  try simp only [Act.put, List.setIfInBounds_toArray, List.set_cons_zero, List.set_cons_succ]
  repeat
    refine chain_light _ rfl (fun K hK => ?_)
    first
      | (refine (if_pos (by rfl)).mpr ?_; apply Exists.intro; refine ⟨fun w' hw' => ?_, hK _ ?_⟩; (have c := hk.kept hw'; have xk0 := c.cell 0; have xk1 := c.cell 1; clear c; have c := ha.kept hw'; have xa0 := c.cell 0; have xa1 := c.cell 1; clear c; have c := hb.kept hw'; have xb0 := c.cell 0; have xb1 := c.cell 1; clear c; go_simp; done); (clear hK K; simp only [Act.put, List.setIfInBounds_toArray, List.set_cons_zero, List.set_cons_succ]))
      | (refine (if_pos (by rfl)).mpr ?_; apply Exists.intro; refine ⟨fun w' hw' => ?_, hK _ ?_⟩; (have c := hk.kept hw'; have xk0 := c.cell 0; have xk1 := c.cell 1; clear c; have c := ha.kept hw'; have xa0 := c.cell 0; have xa1 := c.cell 1; clear c; have c := hb.kept hw'; have xb0 := c.cell 0; have xb1 := c.cell 1; clear c; go_simp; rfl); (clear hK K; simp only [Act.put, List.setIfInBounds_toArray, List.set_cons_zero, List.set_cons_succ]))
      | (refine (if_neg (by rw [Bool.not_eq_true]; rfl)).mpr ?_; refine hK _ ?_; (clear hK K; simp only [Act.put, List.setIfInBounds_toArray, List.set_cons_zero, List.set_cons_succ]))
  refine chain_heavy _ rfl (fun K hK => ?_)
  refine (if_pos (by rfl)).mpr ?_
  go_wp2_with fail
  refine (dec_any _ _ _ _ _).mono ?_
  rintro e w4 ⟨rfl, hk4⟩
  replace hk := hk.kept hk4
  replace ha := ha.kept hk4
  replace hb := hb.kept hk4
  go_wp2
  refine hK _ _ (hk4) ?_
  clear hK K
  try simp only [Act.put, List.setIfInBounds_toArray, List.set_cons_zero, List.set_cons_succ]
  refine chain_heavy _ rfl (fun K hK => ?_)
  refine (if_pos (by rfl)).mpr ?_
  go_wp2_with fail
  refine (dec_any _ _ _ _ _).mono ?_
  rintro e w5 ⟨rfl, hk5⟩
  replace hk := hk.kept hk5
  replace ha := ha.kept hk5
  replace hb := hb.kept hk5
  go_wp2
  refine hK _ _ (hk5) ?_
  clear hK K
  try simp only [Act.put, List.setIfInBounds_toArray, List.set_cons_zero, List.set_cons_succ]
  repeat
    refine chain_light _ rfl (fun K hK => ?_)
    first
      | (refine (if_pos (by rfl)).mpr ?_; apply Exists.intro; refine ⟨fun w' hw' => ?_, hK _ ?_⟩; (have c := hk.kept hw'; have xk0 := c.cell 0; have xk1 := c.cell 1; clear c; have c := ha.kept hw'; have xa0 := c.cell 0; have xa1 := c.cell 1; clear c; have c := hb.kept hw'; have xb0 := c.cell 0; have xb1 := c.cell 1; clear c; go_simp; done); (clear hK K; simp only [Act.put, List.setIfInBounds_toArray, List.set_cons_zero, List.set_cons_succ]))
      | (refine (if_pos (by rfl)).mpr ?_; apply Exists.intro; refine ⟨fun w' hw' => ?_, hK _ ?_⟩; (have c := hk.kept hw'; have xk0 := c.cell 0; have xk1 := c.cell 1; clear c; have c := ha.kept hw'; have xa0 := c.cell 0; have xa1 := c.cell 1; clear c; have c := hb.kept hw'; have xb0 := c.cell 0; have xb1 := c.cell 1; clear c; go_simp; rfl); (clear hK K; simp only [Act.put, List.setIfInBounds_toArray, List.set_cons_zero, List.set_cons_succ]))
      | (refine (if_neg (by rw [Bool.not_eq_true]; rfl)).mpr ?_; refine hK _ ?_; (clear hK K; simp only [Act.put, List.setIfInBounds_toArray, List.set_cons_zero, List.set_cons_succ]))
  refine chain_heavy _ rfl (fun K hK => ?_)
  refine (if_pos (by rfl)).mpr ?_
  go_wp2_with fail
  refine (known_any _).mono ?_
  rintro e w6 ⟨rfl, hk6⟩
  replace hk := hk.kept hk6
  replace ha := ha.kept hk6
  replace hb := hb.kept hk6
  go_wp2
  refine hK _ _ (hk6) ?_
  clear hK K
  try simp only [Act.put, List.setIfInBounds_toArray, List.set_cons_zero, List.set_cons_succ]
  repeat
    refine chain_light _ rfl (fun K hK => ?_)
    first
      | (refine (if_pos (by rfl)).mpr ?_; apply Exists.intro; refine ⟨fun w' hw' => ?_, hK _ ?_⟩; (have c := hk.kept hw'; have xk0 := c.cell 0; have xk1 := c.cell 1; clear c; have c := ha.kept hw'; have xa0 := c.cell 0; have xa1 := c.cell 1; clear c; have c := hb.kept hw'; have xb0 := c.cell 0; have xb1 := c.cell 1; clear c; go_simp; done); (clear hK K; simp only [Act.put, List.setIfInBounds_toArray, List.set_cons_zero, List.set_cons_succ]))
      | (refine (if_pos (by rfl)).mpr ?_; apply Exists.intro; refine ⟨fun w' hw' => ?_, hK _ ?_⟩; (have c := hk.kept hw'; have xk0 := c.cell 0; have xk1 := c.cell 1; clear c; have c := ha.kept hw'; have xa0 := c.cell 0; have xa1 := c.cell 1; clear c; have c := hb.kept hw'; have xb0 := c.cell 0; have xb1 := c.cell 1; clear c; go_simp; rfl); (clear hK K; simp only [Act.put, List.setIfInBounds_toArray, List.set_cons_zero, List.set_cons_succ]))
      | (refine (if_neg (by rw [Bool.not_eq_true]; rfl)).mpr ?_; refine hK _ ?_; (clear hK K; simp only [Act.put, List.setIfInBounds_toArray, List.set_cons_zero, List.set_cons_succ]))
  refine chain_nil ?_
  go_wp2
  go_ret
  exact ⟨rfl, (((((hk0.of hw1).of hk2).of hk3).of hk4).of hk5).of hk6⟩

namespace speckUnlikeRow
open Go.ChangeShapes Go.WideShapes Go.ChangeAt Go.RowKit
theorem own : ownKnob Try.prog.godebug = none := by kernel_rfl
theorem laidOut : laidOutB Try.prog = true := by kernel_rfl

set_option maxRecDepth 100000 in
theorem lifted (os : Os) (started : os.Started) (H : Type) (enc : TypeId × Value → H) :
    ReturnsInHanded {} Try.checked os 6 .any (Rows.speckUnlikeSpec.pre6 enc Try.prog Try.f6 Rows.speckUnlikeRow.domain false) (Rows.speckUnlikeSpec.post enc Try.prog Try.f6 false true false false) := by
  refine returnsInHanded_of_change (C := Try.checked) own started (by kernel_rfl) Try.func6
    (ChangeSpec.witness6 (enc := enc) (C := Try.checked) false ⟨#[], #[.agg #[.int .u64 0, .int .u64 0], .agg #[.int .u64 0, .int .u64 0], .agg #[.int .u64 0, .int .u64 0]], []⟩ 8 (by kernel_rfl) (by kernel_rfl) (by kernel_rfl) (by kernel_rfl)) ?_
  intro W base args ds gs before hval0 hW _ hsz
  have hval : ∀ (j : Nat) t v, Try.f6.params[j]? = some t → args[j]? = some v → Value.okWide Try.prog W .any base t v := hval0
  have hW' := hW
  obtain ⟨p, q, hA0, hV, rfl, hfz, hnd⟩ := hW
  have hA : DataW.TrodAll enc Try.prog W 0 (fun _ => true) true Try.f6.params.toList args.toList ds p := hA0
  rw [Try.params6] at hA hval
  obtain ⟨v0, vs0, d0, ds0, p0, q0, hargs, rfl, rfl, h0, r0⟩ := trodAll_cons hA
  obtain ⟨v1, vs1, d1, ds1, p1, q1, rfl, rfl, rfl, h1, r1⟩ := trodAll_cons r0
  obtain ⟨v2, vs2, d2, ds2, p2, q2, rfl, rfl, rfl, h2, r2⟩ := trodAll_cons r1
  obtain ⟨rfl, rfl, rfl⟩ := trodAll_nil r2
  obtain rfl : args = #[v0, v1, v2] := by cases args; simp_all
  obtain ⟨a0, rfl⟩ := open_pair (e := 22) Try.underlying24 Try.underlying22 (by kernel_rfl) (by kernel_rfl) (hval 0 24 v0 rfl rfl) h0
  obtain ⟨a1, rfl⟩ := open_pair (e := 22) Try.underlying24 Try.underlying22 (by kernel_rfl) (by kernel_rfl) (hval 1 24 v1 rfl rfl) h1
  obtain ⟨a2, rfl⟩ := open_pair (e := 22) Try.underlying24 Try.underlying22 (by kernel_rfl) (by kernel_rfl) (hval 2 24 v2 rfl rfl) h2
  refine (unlike_walk a0.1 a0.2 a1.1 a1.2 a2.1 a2.2 W).mono fun e W' ⟨he, bel⟩ => ?_
  subst he
  exact ⟨_, rfl, law_post (tb := 4) laidOut (by kernel_rfl) Try.underlying4 (by rfl) rfl (by intro xs hxs; match xs, hxs with | [x0, x1, x2], _ => rfl) hW' bel⟩

theorem over : Rows.speckUnlikeRow.holds Try.pinned (OpenSpec.ofChange Rows.speckUnlikeSpec) :=
  OpenClaim.holds_of_wide 6 Try.f6 rfl rfl rfl rfl rfl rfl rfl ⟨rfl, rfl, rfl, rfl, rfl⟩ rfl rfl rfl rfl rfl (by kernel_rfl) Try.func6 (by kernel_rfl)
    (of_decide_eq_true (by kernel_rfl)) (by unfold Func.isWrapper; rw [if_neg (of_decide_eq_false (by kernel_rfl))]; exact ⟨rfl, rfl⟩)
    (fun os started H enc _ => lifted os started H enc)
end speckUnlikeRow

theorem speckUnlike_holds : Rows.SpeckUnlikeSaid := speckUnlikeRow.over
#print axioms speckUnlike_holds

end Go.Proofs.Ytjmepkalomjloaa
