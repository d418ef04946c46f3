/- FlowBlocks: each sixteen bytes by hand. -/
import Derived.IntWalk
import Derived.Test.YtdabdmkkenjdnaaFlowX
import Derived.Test.YtdabdmkkenjdnaaRows
namespace Go.Proofs.Ytdabdmkkenjdnaa
open Go Go.RowKit

theorem flowB_drop (s : Pair) (k : Nat) : (flowB s (16 * (k + 1))).drop (16 * k) = pairB (enc2 s (BitVec.ofNat 64 (k + 1), 0#64)) := by
  unfold flowB
  rw [show (16 * (k + 1) + 15) / 16 = k + 1 by omega, List.take_of_length_le (by rw [flowTo_length]; exact Nat.le_refl _), flowTo]
  rw [List.drop_append_of_le_length (by rw [flowTo_length]; exact Nat.le_refl _), List.drop_of_length_le (by rw [flowTo_length]; exact Nat.le_refl _)]
  rfl

set_option maxRecDepth 100000 in
set_option maxHeartbeats 2000000 in
theorem blocks_in (s1 s2 : BitVec 64) (i : Nat) (hi : i ≤ 30) (w : World) :
    Calls Try.prog 4 #[.agg #[U s1, U s2], .int .i64 i] w fun e w' => e = .returned (.bool true) ∧ Kept w w' := by
  have hX : Blk (w.alloc (.cells #[U s1, U s2] 24)) w.heap.size #[U s1, U s2] 24 := Blk.new _ _ _
  have hk0 : Kept w (w.alloc (.cells #[U s1, U s2] 24)) := (Below.refl _ _).alloc (Nat.le_refl _) _
  have i0 : (0 : Int) ≤ (i : Int) := by omega
  have i2 : (i : Int) ≤ 30 := by omega
  obtain ⟨n, hn⟩ : ∃ n, n = 16 * (i + 1) := ⟨_, rfl⟩
  obtain ⟨m, hm⟩ : ∃ m, m = 16 * i := ⟨_, rfl⟩
  have hn1 : (16 : Int) * ((i : Int) + 1) = (n : Int) := by omega
  have hm1 : (16 : Int) * (i : Int) = (m : Int) := by omega
  have HOF := Lib.hid (show Value.int .u64 ((i : Int) + 1) = U (BitVec.ofNat 64 (i + 1)) from by rw [U, BitVec.toNat_ofNat]; congr 1; omega)
  have n9 : (n : Int) ≤ 496 := by omega
  have HN := Lib.hid hn
  have HM := Lib.hid hm
  clear hn hm
  go_enter Try.func4, Try.ntmps4
  go_wp2_with fail
  refine (fbytes_some _ _ n (by omega) _).mono ?_
  rintro e w2 ⟨r2, rfl, hown, hk2⟩
  have hx := Sl.of_own hown
  obtain ⟨g, cx, hvx, _, _⟩ : ∃ g cap, r2 = .slice (some ⟨g, 0, none⟩) n cap ∧ n ≤ cap ∧ cap ≤ maxLen := by
    rcases ownsRow_forms' hown with ⟨_, h⟩ | h
    · have := HN.out; omega
    · exact h
  subst hvx
  rw [← flowB_length (s1, s2) n] at hx
  have hx2 : Sl w2 (.slice (some ⟨g, 0, none⟩) n cx) (flowB (s1, s2) n).length (bcells (flowB (s1, s2) n)) := by rw [flowB_length] at hx ⊢; exact hx
  have hcut := hx2.rest (n := m) (by rw [flowB_length, HN.out, HM.out]; omega)
  rw [Nat.zero_add, HN.out, HM.out, flowB_drop, ← HN.out, ← HM.out] at hcut
  have hnc := hx2.caps.2
  rw [flowB_length] at hnc
  have n2 : (m : Int) < (n : Int) := by omega
  have n3 : (n : Int) ≤ (cx : Int) := by omega
  have n4 : (cx : Int) ≤ 9223372036854775807 := by have := hnc.2; unfold maxLen at this; omega
  have n5 : (0 : Int) ≤ (m : Int) := by omega
  have n6 : (m : Int) < (cx : Int) := by omega
  have n7 : IntKind.i64.wrap (m : Int) = (m : Int) := IntWalk.i64_in _ (by omega)
  have n8 : ¬ cx = m := by omega
  have n10 : (m : Int) ≤ (n : Int) := by omega
  replace hX := hX.kept hk2
  replace hk0 := hk0.of hk2
  clear hx hown hk2 hx2 hnc
  go_wp2_with fail
  refine wp_region_chainK [(0, 0), (1, 0), (2, 0), (3, 0), (4, 0), (5, 0), (6, 0), (7, 0), (8, 0), (9, 0), (10, 1), (11, 1), (12, 0), (13, 0), (14, 0), (15, 1), (16, 0), (17, 0)] (by kernel_rfl) (by kernel_rfl) ?_
  intro w3 hw3
  replace hX := hX.kept hw3
  replace hcut := hcut.kept hw3
  repeat
    refine chain_light _ rfl (fun K hK => ?_)
    first
      | (refine (if_pos (by rfl)).mpr ?_; apply Exists.intro; refine ⟨fun w' hw' => ?_, hK _ ?_⟩; (have c := hX.kept hw'; have c0 := c.cell 0; have c1 := c.cell 1; clear c; have s0 := str_of (hcut.kept hw'); go_simp; done); (clear hK K; simp only [Act.put, List.setIfInBounds_toArray, List.set_cons_zero, List.set_cons_succ]))
      | (refine (if_pos (by rfl)).mpr ?_; apply Exists.intro; refine ⟨fun w' hw' => ?_, hK _ ?_⟩; (have c := hX.kept hw'; have c0 := c.cell 0; have c1 := c.cell 1; clear c; have s0 := str_of (hcut.kept hw'); go_simp; rfl); (clear hK K; simp only [Act.put, List.setIfInBounds_toArray, List.set_cons_zero, List.set_cons_succ]))
      | (refine (if_neg (by rw [Bool.not_eq_true]; rfl)).mpr ?_; refine hK _ ?_; (clear hK K; simp only [Act.put, List.setIfInBounds_toArray, List.set_cons_zero, List.set_cons_succ]))
  refine chain_heavy _ rfl (fun K hK => ?_)
  refine (if_pos (by rfl)).mpr ?_
  go_wp2_with fail
  rw [HOF.out]
  refine (renc_any _ _ _ _ _).mono ?_
  rintro e w4 ⟨rfl, hk4⟩
  go_wp2
  refine hK _ _ (hk4) ?_
  clear hK K
  try simp only [Act.put, List.setIfInBounds_toArray, List.set_cons_zero, List.set_cons_succ]
  refine chain_heavy _ rfl (fun K hK => ?_)
  refine (if_pos (by rfl)).mpr ?_
  go_wp2_with fail
  refine (rbytes_any _ _ _).mono ?_
  rintro e w5 ⟨r5, rfl, hown5, hk5⟩
  have hy := Sl.of_own hown5
  rw [← pairB_length (enc2 (s1, s2) (BitVec.ofNat 64 (i + 1), 0#64))] at hy
  clear hown5
  go_wp2
  refine hK _ _ (hk5) ?_
  clear hK K
  try simp only [Act.put, List.setIfInBounds_toArray, List.set_cons_zero, List.set_cons_succ]
  repeat
    refine chain_light _ rfl (fun K hK => ?_)
    first
      | (refine (if_pos (by rfl)).mpr ?_; apply Exists.intro; refine ⟨fun w' hw' => ?_, hK _ ?_⟩; (have s1 := str_of (hy.kept hw'); go_simp; done); (clear hK K; simp only [Act.put, List.setIfInBounds_toArray, List.set_cons_zero, List.set_cons_succ]))
      | (refine (if_pos (by rfl)).mpr ?_; apply Exists.intro; refine ⟨fun w' hw' => ?_, hK _ ?_⟩; (have s1 := str_of (hy.kept hw'); go_simp; rfl); (clear hK K; simp only [Act.put, List.setIfInBounds_toArray, List.set_cons_zero, List.set_cons_succ]))
      | (refine (if_neg (by rw [Bool.not_eq_true]; rfl)).mpr ?_; refine hK _ ?_; (clear hK K; simp only [Act.put, List.setIfInBounds_toArray, List.set_cons_zero, List.set_cons_succ]))
  refine chain_heavy _ rfl (fun K hK => ?_)
  refine (if_pos (by rfl)).mpr ?_
  go_wp2_with fail
  refine (known_any _).mono ?_
  rintro e w6 ⟨rfl, hk6⟩
  go_wp2
  refine hK _ _ (hk6) ?_
  clear hK K
  try simp only [Act.put, List.setIfInBounds_toArray, List.set_cons_zero, List.set_cons_succ]
  repeat
    refine chain_light _ rfl (fun K hK => ?_)
    first
      | (refine (if_pos (by rfl)).mpr ?_; apply Exists.intro; refine ⟨fun w' hw' => ?_, hK _ ?_⟩; (go_simp; done); (clear hK K; simp only [Act.put, List.setIfInBounds_toArray, List.set_cons_zero, List.set_cons_succ]))
      | (refine (if_pos (by rfl)).mpr ?_; apply Exists.intro; refine ⟨fun w' hw' => ?_, hK _ ?_⟩; (go_simp; rfl); (clear hK K; simp only [Act.put, List.setIfInBounds_toArray, List.set_cons_zero, List.set_cons_succ]))
      | (refine (if_neg (by rw [Bool.not_eq_true]; rfl)).mpr ?_; refine hK _ ?_; (clear hK K; simp only [Act.put, List.setIfInBounds_toArray, List.set_cons_zero, List.set_cons_succ]))
  refine chain_nil ?_
  go_wp2
  go_ret
  exact ⟨rfl, (((hk0.of hw3).of hk4).of hk5).of hk6⟩

set_option maxRecDepth 100000 in
set_option maxHeartbeats 2000000 in
theorem blocks_walk (s1 s2 : BitVec 64) (i : Int) (w : World) :
    Calls Try.prog 4 #[.agg #[U s1, U s2], .int .i64 i] w fun e w' => e = .returned (.bool true) ∧ Kept w w' := by
  by_cases h1 : i < 0
  · go_enter Try.func4, Try.ntmps4
    go_wp2
    go_ret
    exact ⟨rfl, (Below.refl _ _).alloc (Nat.le_refl _) _⟩
  by_cases h2 : 30 < i
  · go_enter Try.func4, Try.ntmps4
    go_wp2
    go_ret
    exact ⟨rfl, (Below.refl _ _).alloc (Nat.le_refl _) _⟩
  obtain ⟨i, rfl⟩ : ∃ k : Nat, i = k := ⟨i.toNat, by omega⟩
  exact blocks_in s1 s2 i (by omega) w

namespace flowBlocksRow
open Go.ChangeShapes Go.WideShapes Go.ChangeAt Go.RowKit
theorem own : ownKnob Try.prog.godebug = none := by kernel_rfl
theorem laidOut : laidOutB Try.prog = true := by kernel_rfl

set_option maxRecDepth 100000 in
theorem lifted (os : Os) (started : os.Started) (H : Type) (enc : TypeId × Value → H) :
    ReturnsInHanded {} Try.checked os 4 .any (Rows.flowBlocksSpec.pre6 enc Try.prog Try.f4 Rows.flowBlocksRow.domain false) (Rows.flowBlocksSpec.post enc Try.prog Try.f4 false true false false) := by
  refine returnsInHanded_of_change (C := Try.checked) own started (by kernel_rfl) Try.func4
    (ChangeSpec.witness6 (enc := enc) (C := Try.checked) false ⟨#[], #[.agg #[.int .u64 0, .int .u64 0], .int .i64 0], []⟩ 8 (by kernel_rfl) (by kernel_rfl) (by kernel_rfl) (by kernel_rfl)) ?_
  intro W base args ds gs before hval0 hW _ hsz
  have hval : ∀ (j : Nat) t v, Try.f4.params[j]? = some t → args[j]? = some v → Value.okWide Try.prog W .any base t v := hval0
  have hW' := hW
  obtain ⟨p, q, hA0, hV, rfl, hfz, hnd⟩ := hW
  have hA : DataW.TrodAll enc Try.prog W 0 (fun _ => true) true Try.f4.params.toList args.toList ds p := hA0
  rw [Try.params4] at hA hval
  obtain ⟨v0, vs0, d0, ds0, p0, q0, hargs, rfl, rfl, h0, r0⟩ := trodAll_cons hA
  obtain ⟨v1, vs1, d1, ds1, p1, q1, rfl, rfl, rfl, h1, r1⟩ := trodAll_cons r0
  obtain ⟨rfl, rfl, rfl⟩ := trodAll_nil r1
  obtain rfl : args = #[v0, v1] := by cases args; simp_all
  obtain ⟨a0, rfl⟩ := open_pair (e := 22) Try.underlying24 Try.underlying22 (by kernel_rfl) (by kernel_rfl) (hval 0 24 v0 rfl rfl) h0
  obtain ⟨a1, rfl, lo1, hi1⟩ := open_I Try.underlying3 (hval 1 3 v1 rfl rfl) h1
  refine (blocks_walk a0.1 a0.2 a1 W).mono fun e W' ⟨he, bel⟩ => ?_
  subst he
  exact ⟨_, rfl, law_post (tb := 4) laidOut (by kernel_rfl) Try.underlying4 (by rfl) rfl (by intro xs hxs; match xs, hxs with | [x0, x1], _ => rfl) hW' bel⟩

theorem over : Rows.flowBlocksRow.holds Try.pinned (OpenSpec.ofChange Rows.flowBlocksSpec) :=
  OpenClaim.holds_of_wide 4 Try.f4 rfl rfl rfl rfl rfl rfl rfl ⟨rfl, rfl, rfl, rfl, rfl⟩ rfl rfl rfl rfl rfl (by kernel_rfl) Try.func4 (by kernel_rfl)
    (of_decide_eq_true (by kernel_rfl)) (by unfold Func.isWrapper; rw [if_neg (of_decide_eq_false (by kernel_rfl))]; exact ⟨rfl, rfl⟩)
    (fun os started H enc _ => lifted os started H enc)
end flowBlocksRow

theorem flowBlocks_holds : Rows.FlowBlocksSaid := flowBlocksRow.over
#print axioms flowBlocks_holds

end Go.Proofs.Ytdabdmkkenjdnaa
