/- DigestSums: any bytes' sum, any step. -/
import Derived.Test.YtndeadicegeblaaDigestK
import Derived.Test.YtndeadicegeblaaRows
namespace Go.Proofs.Ytndeadicegeblaa
open Go Go.RowKit

set_option maxRecDepth 100000 in
set_option maxHeartbeats 4000000 in
theorem sums_in (v : Value) (p : List UInt8) (s1 s2 m1 m2 : BitVec 64) (hl : p.length ≤ 500) (w : World) (hb : Sl w v p.length (bcells p)) : Calls Try.prog 3 #[v, .agg #[U s1, U s2], .agg #[U m1, U m2]] w fun e w' => e = .returned (.bool true) ∧ Kept w w' := by
  obtain ⟨va, vc, hv⟩ := hb.len
  subst hv
  have hk0 : Kept w ((w.alloc (.cells #[U s1, U s2] 25)).alloc (.cells #[U m1, U m2] 25)) := ((Below.refl _ _).alloc (Nat.le_refl _) _).alloc (by simp) _
  have hS : Blk ((w.alloc (.cells #[U s1, U s2] 25)).alloc (.cells #[U m1, U m2] 25)) w.heap.size #[U s1, U s2] 25 := (Blk.new _ _ _).alloc _
  have hM : Blk ((w.alloc (.cells #[U s1, U s2] 25)).alloc (.cells #[U m1, U m2] 25)) (w.heap.size + 1) #[U m1, U m2] 25 := by simpa using Blk.new (w.alloc (.cells #[U s1, U s2] 25)) #[U m1, U m2] 25
  obtain ⟨N, hN⟩ : ∃ N, N = p.length := ⟨_, rfl⟩
  replace hb := hb.kept hk0
  rw [← hN] at hl
  have i0 : (N : Int) ≤ 500 := by omega
  have HN := Lib.hid hN
  rw [← hN]
  go_enter Try.func3, Try.ntmps3
  clear hN
  go_wp2_with fail
  generalize ((w.alloc (.cells #[U s1, U s2] 25)).alloc (.cells #[U m1, U m2] 25)) = W2 at *
  refine wp_region_chainK [(0, 0), (3, 0), (1, 1), (2, 1), (4, 1), (5, 0), (6, 0), (7, 0), (8, 0), (10, 0), (11, 0), (9, 1), (12, 1), (13, 0), (14, 0), (15, 0), (16, 1), (17, 0), (18, 0)] (by kernel_rfl) (by kernel_rfl) ?_
  intro w1 hw1
  replace hS := hS.kept hw1
  replace hM := hM.kept hw1
  repeat
    refine chain_light _ rfl (fun K hK => ?_)
    first
      | (refine (if_pos (by rfl)).mpr ?_; apply Exists.intro; refine ⟨fun w' hw' => ?_, hK _ ?_⟩; (go_simp; done); (clear hK K; simp only [Act.put, List.setIfInBounds_toArray, List.set_cons_zero, List.set_cons_succ]))
      | (refine (if_pos (by rfl)).mpr ?_; apply Exists.intro; refine ⟨fun w' hw' => ?_, hK _ ?_⟩; (go_simp; rfl); (clear hK K; simp only [Act.put, List.setIfInBounds_toArray, List.set_cons_zero, List.set_cons_succ]))
      | (refine (if_neg (by rw [Bool.not_eq_true]; rfl)).mpr ?_; refine hK _ ?_; (clear hK K; simp only [Act.put, List.setIfInBounds_toArray, List.set_cons_zero, List.set_cons_succ]))
  refine chain_heavy _ rfl (fun K hK => ?_)
  refine (if_pos (by rfl)).mpr ?_
  go_wp2
  refine hK _ _ ((Below.refl _ _).alloc (Nat.le_refl _) _) ?_
  clear hK K
  try simp only [Act.put, List.setIfInBounds_toArray, List.set_cons_zero, List.set_cons_succ]
  refine chain_heavy _ rfl (fun K hK => ?_)
  refine (if_pos (by rfl)).mpr ?_
  have hr := RowsSl.lit (us := [.slice va N vc]) (.cons (by rw [HN.out]; exact hb.kept hw1) .nil) 22 1 rfl (by decide)
  go_wp2_with fail
  refine (sum_any _ [p] (by simp) (by simp; rw [← HN.out]; omega) _ hr).mono ?_
  rintro e w3 ⟨rfl, hk3⟩
  rw [show ([p] : List (List UInt8)).flatten = p by simp]
  have hkx := hk3
  replace hk3 : Kept w1 w3 := Kept.of ((Below.refl _ _).alloc (Nat.le_refl _) _) hk3
  clear hr
  replace hb := (hb.kept hw1).kept hk3
  replace hS := hS.kept hk3
  replace hM := hM.kept hk3
  obtain ⟨X, hX⟩ : ∃ X, X = sumB p := ⟨_, rfl⟩
  rw [← hX]
  have HX := Lib.hid hX
  clear hX
  go_wp2
  refine hK _ _ (hkx) ?_
  clear hK K
  try simp only [Act.put, List.setIfInBounds_toArray, List.set_cons_zero, List.set_cons_succ]
  refine chain_heavy _ rfl (fun K hK => ?_)
  refine (if_pos (by rfl)).mpr ?_
  go_wp2_with fail
  refine (rsum_any _ p (by rw [← HN.out]; omega) _ (by rw [HN.out]; exact hb)).mono ?_
  rintro e w4 ⟨rfl, hk4⟩
  rw [← HX.out]
  replace hS := hS.kept hk4
  replace hM := hM.kept hk4
  go_wp2
  refine hK _ _ (hk4) ?_
  clear hK K
  try simp only [Act.put, List.setIfInBounds_toArray, List.set_cons_zero, List.set_cons_succ]
  repeat
    refine chain_light _ rfl (fun K hK => ?_)
    first
      | (refine (if_pos (by rfl)).mpr ?_; apply Exists.intro; refine ⟨fun w' hw' => ?_, hK _ ?_⟩; (have s := hS.kept hw'; have m := hM.kept hw'; have s0 := s.cell 0; have s1' := s.cell 1; have m0 := m.cell 0; have m1' := m.cell 1; clear s m; go_simp; done); (clear hK K; simp only [Act.put, List.setIfInBounds_toArray, List.set_cons_zero, List.set_cons_succ]))
      | (refine (if_pos (by rfl)).mpr ?_; apply Exists.intro; refine ⟨fun w' hw' => ?_, hK _ ?_⟩; (have s := hS.kept hw'; have m := hM.kept hw'; have s0 := s.cell 0; have s1' := s.cell 1; have m0 := m.cell 0; have m1' := m.cell 1; clear s m; go_simp; rfl); (clear hK K; simp only [Act.put, List.setIfInBounds_toArray, List.set_cons_zero, List.set_cons_succ]))
      | (refine (if_neg (by rw [Bool.not_eq_true]; rfl)).mpr ?_; refine hK _ ?_; (clear hK K; simp only [Act.put, List.setIfInBounds_toArray, List.set_cons_zero, List.set_cons_succ]))
  refine chain_heavy _ rfl (fun K hK => ?_)
  refine (if_pos (by rfl)).mpr ?_
  go_wp2_with fail
  refine (step_any _ _ _ _ _).mono ?_
  rintro e w5 ⟨rfl, hk5⟩
  replace hS := hS.kept hk5
  replace hM := hM.kept hk5
  go_wp2
  refine hK _ _ (hk5) ?_
  clear hK K
  try simp only [Act.put, List.setIfInBounds_toArray, List.set_cons_zero, List.set_cons_succ]
  refine chain_heavy _ rfl (fun K hK => ?_)
  refine (if_pos (by rfl)).mpr ?_
  go_wp2_with fail
  refine (rstep_any _ _ _ _ _).mono ?_
  rintro e w6 ⟨rfl, hk6⟩
  replace hS := hS.kept hk6
  replace hM := hM.kept hk6
  go_wp2
  refine hK _ _ (hk6) ?_
  clear hK K
  try simp only [Act.put, List.setIfInBounds_toArray, List.set_cons_zero, List.set_cons_succ]
  repeat
    refine chain_light _ rfl (fun K hK => ?_)
    first
      | (refine (if_pos (by rfl)).mpr ?_; apply Exists.intro; refine ⟨fun w' hw' => ?_, hK _ ?_⟩; (go_simp; done); (clear hK K; simp only [Act.put, List.setIfInBounds_toArray, List.set_cons_zero, List.set_cons_succ]))
      | (refine (if_pos (by rfl)).mpr ?_; apply Exists.intro; refine ⟨fun w' hw' => ?_, hK _ ?_⟩; (go_simp; rfl); (clear hK K; simp only [Act.put, List.setIfInBounds_toArray, List.set_cons_zero, List.set_cons_succ]))
      | (refine (if_neg (by rw [Bool.not_eq_true]; rfl)).mpr ?_; refine hK _ ?_; (clear hK K; simp only [Act.put, List.setIfInBounds_toArray, List.set_cons_zero, List.set_cons_succ]))
  refine chain_heavy _ rfl (fun K hK => ?_)
  refine (if_pos (by rfl)).mpr ?_
  go_wp2_with fail
  refine (known_any _).mono ?_
  rintro e w7 ⟨rfl, hk7⟩
  go_wp2
  refine hK _ _ (hk7) ?_
  clear hK K
  try simp only [Act.put, List.setIfInBounds_toArray, List.set_cons_zero, List.set_cons_succ]
  repeat
    refine chain_light _ rfl (fun K hK => ?_)
    first
      | (refine (if_pos (by rfl)).mpr ?_; apply Exists.intro; refine ⟨fun w' hw' => ?_, hK _ ?_⟩; (go_simp; done); (clear hK K; simp only [Act.put, List.setIfInBounds_toArray, List.set_cons_zero, List.set_cons_succ]))
      | (refine (if_pos (by rfl)).mpr ?_; apply Exists.intro; refine ⟨fun w' hw' => ?_, hK _ ?_⟩; (go_simp; rfl); (clear hK K; simp only [Act.put, List.setIfInBounds_toArray, List.set_cons_zero, List.set_cons_succ]))
      | (refine (if_neg (by rw [Bool.not_eq_true]; rfl)).mpr ?_; refine hK _ ?_; (clear hK K; simp only [Act.put, List.setIfInBounds_toArray, List.set_cons_zero, List.set_cons_succ]))
  refine chain_nil ?_
  go_wp2
  go_ret
  exact ⟨rfl, (((((hk0.of hw1).of hk3).of hk4).of hk5).of hk6).of hk7⟩

set_option maxRecDepth 100000 in
set_option maxHeartbeats 4000000 in
theorem sums_walk (v : Value) (p : List UInt8) (s m : Pair) (w : World) (hb : Sl w v p.length (bcells p)) : Calls Try.prog 3 #[v, Pr s, Pr m] w fun e w' => e = .returned (.bool true) ∧ Kept w w' := by
  by_cases h1 : 500 < p.length
  · obtain ⟨va, vc, hv⟩ := hb.len
    subst hv
    have n0 : (500 : Int) < (p.length : Int) := by omega
    clear hb h1
    go_enter Try.func3, Try.ntmps3
    go_wp2
    go_ret
    exact ⟨rfl, ((Below.refl _ _).alloc (Nat.le_refl _) _).alloc (by simp) _⟩
  · exact sums_in v p s.1 s.2 m.1 m.2 (by omega) w hb

namespace digestSumsRow
open Go.ChangeShapes Go.WideShapes Go.ChangeAt Go.RowKit
theorem own : ownKnob Try.prog.godebug = none := by kernel_rfl
theorem laidOut : laidOutB Try.prog = true := by kernel_rfl

set_option maxRecDepth 100000 in
theorem lifted (os : Os) (started : os.Started) (H : Type) (enc : TypeId × Value → H) :
    ReturnsInHanded {} Try.checked os 3 .any (Rows.digestSumsSpec.pre6 enc Try.prog Try.f3 Rows.digestSumsRow.domain false) (Rows.digestSumsSpec.post enc Try.prog Try.f3 false true false false) := by
  refine returnsInHanded_of_change (C := Try.checked) own started (by kernel_rfl) Try.func3
    (ChangeSpec.witness6 (enc := enc) (C := Try.checked) false ⟨#[], #[.slice none 0 0, .agg #[.int .u64 0, .int .u64 0], .agg #[.int .u64 0, .int .u64 0]], []⟩ 8 (by kernel_rfl) (by kernel_rfl) (by kernel_rfl) (by kernel_rfl)) ?_
  intro W base args ds gs before hval0 hW _ hsz
  have hval : ∀ (j : Nat) t v, Try.f3.params[j]? = some t → args[j]? = some v → Value.okWide Try.prog W .any base t v := hval0
  have hW' := hW
  obtain ⟨p, q, hA0, hV, rfl, hfz, hnd⟩ := hW
  have hA : DataW.TrodAll enc Try.prog W 0 (fun _ => true) true Try.f3.params.toList args.toList ds p := hA0
  rw [Try.params3] at hA hval
  obtain ⟨v0, vs0, d0, ds0, p0, q0, hargs, rfl, rfl, h0, r0⟩ := trodAll_cons hA
  obtain ⟨v1, vs1, d1, ds1, p1, q1, rfl, rfl, rfl, h1, r1⟩ := trodAll_cons r0
  obtain ⟨v2, vs2, d2, ds2, p2, q2, rfl, rfl, rfl, h2, r2⟩ := trodAll_cons r1
  obtain ⟨rfl, rfl, rfl⟩ := trodAll_nil r2
  obtain rfl : args = #[v0, v1, v2] := by cases args; simp_all
  obtain ⟨a0b, a0⟩ := open_bytes (e := 5) Try.underlying22 Try.underlying5 (by kernel_rfl) (hval 0 22 v0 rfl rfl) h0
  obtain ⟨a1, rfl⟩ := open_pair (e := 23) Try.underlying25 Try.underlying23 (by kernel_rfl) (by kernel_rfl) (hval 1 25 v1 rfl rfl) h1
  obtain ⟨a2, rfl⟩ := open_pair (e := 23) Try.underlying25 Try.underlying23 (by kernel_rfl) (by kernel_rfl) (hval 2 25 v2 rfl rfl) h2
  refine (sums_walk v0 a0b a1 a2 W a0).mono fun e W' ⟨he, bel⟩ => ?_
  subst he
  exact ⟨_, rfl, law_post (tb := 4) laidOut (by kernel_rfl) Try.underlying4 (by rfl) rfl (by intro xs hxs; match xs, hxs with | [x0, x1, x2], _ => rfl) hW' bel⟩

theorem over : Rows.digestSumsRow.holds Try.pinned (OpenSpec.ofChange Rows.digestSumsSpec) :=
  OpenClaim.holds_of_wide 3 Try.f3 rfl rfl rfl rfl rfl rfl rfl ⟨rfl, rfl, rfl, rfl, rfl⟩ rfl rfl rfl rfl rfl (by kernel_rfl) Try.func3 (by kernel_rfl)
    (of_decide_eq_true (by kernel_rfl)) (by unfold Func.isWrapper; rw [if_neg (of_decide_eq_false (by kernel_rfl))]; exact ⟨rfl, rfl⟩)
    (fun os started H enc _ => lifted os started H enc)
end digestSumsRow

theorem digestSums_holds : Rows.DigestSumsSaid := digestSumsRow.over
#print axioms digestSums_holds

end Go.Proofs.Ytndeadicegeblaa
