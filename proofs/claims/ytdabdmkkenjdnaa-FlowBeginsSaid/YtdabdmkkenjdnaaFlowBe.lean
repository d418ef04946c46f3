/- FlowBegins: fewer bytes are the beginning of more. -/
import Derived.Test.YtdabdmkkenjdnaaFlowX
import Derived.Test.YtdabdmkkenjdnaaRows
namespace Go.Proofs.Ytdabdmkkenjdnaa
open Go Go.RowKit

set_option maxRecDepth 100000 in
set_option maxHeartbeats 2000000 in
theorem begins_in (s1 s2 : BitVec 64) (a b : Nat) (hab : a ≤ b) (hb : b ≤ 600) (w : World) :
    Calls Try.prog 3 #[.agg #[U s1, U s2], .int .i64 a, .int .i64 b] w fun e w' => e = .returned (.bool true) ∧ Kept w w' := by
  have hX : Blk (w.alloc (.cells #[U s1, U s2] 24)) w.heap.size #[U s1, U s2] 24 := Blk.new _ _ _
  have hk0 : Kept w (w.alloc (.cells #[U s1, U s2] 24)) := (Below.refl _ _).alloc (Nat.le_refl _) _
  have i0 : (0 : Int) ≤ (a : Int) := by omega
  have i1 : (a : Int) ≤ (b : Int) := by omega
  have i2 : (b : Int) ≤ 600 := by omega
  go_enter Try.func3, Try.ntmps3
  go_wp2_with fail
  refine wp_region_chainK [(0, 0), (1, 0), (3, 0), (4, 0), (2, 1), (5, 1), (6, 0), (7, 0)] (by kernel_rfl) (by kernel_rfl) ?_
  intro w1 hw1
  replace hX := hX.kept hw1
  refine chain_light _ rfl (fun K hK => ?_)
  refine (if_pos (by rfl)).mpr ?_
  apply Exists.intro; refine ⟨fun w' hw' => ?_, hK _ ?_⟩
  · have c := hX.kept hw'; have c0 := c.cell 0; have c1 := c.cell 1; clear c; go_simp; try rfl
  clear hK K; simp only [Act.put, List.setIfInBounds_toArray, List.set_cons_zero, List.set_cons_succ]
  
  refine chain_light _ rfl (fun K hK => ?_)
  refine (if_pos (by rfl)).mpr ?_
  apply Exists.intro; refine ⟨fun w' hw' => ?_, hK _ ?_⟩
  · have c := hX.kept hw'; have c0 := c.cell 0; have c1 := c.cell 1; clear c; go_simp; try rfl
  clear hK K; simp only [Act.put, List.setIfInBounds_toArray, List.set_cons_zero, List.set_cons_succ]
  
  refine chain_light _ rfl (fun K hK => ?_)
  refine (if_pos (by rfl)).mpr ?_
  apply Exists.intro; refine ⟨fun w' hw' => ?_, hK _ ?_⟩
  · have c := hX.kept hw'; have c0 := c.cell 0; have c1 := c.cell 1; clear c; go_simp; try rfl
  clear hK K; simp only [Act.put, List.setIfInBounds_toArray, List.set_cons_zero, List.set_cons_succ]
  
  refine chain_light _ rfl (fun K hK => ?_)
  refine (if_pos (by rfl)).mpr ?_
  apply Exists.intro; refine ⟨fun w' hw' => ?_, hK _ ?_⟩
  · have c := hX.kept hw'; have c0 := c.cell 0; have c1 := c.cell 1; clear c; go_simp; try rfl
  clear hK K; simp only [Act.put, List.setIfInBounds_toArray, List.set_cons_zero, List.set_cons_succ]
  
  refine chain_heavy _ rfl (fun K hK => ?_)
  refine (if_pos (by rfl)).mpr ?_
  go_wp2_with fail
  refine (fbytes_some _ _ a (by omega) _).mono ?_
  rintro e w2 ⟨r2, rfl, hown2, hk2⟩
  have hx := Sl.of_own hown2
  clear hown2
  replace hX := hX.kept hk2
  go_wp2
  refine hK _ _ (hk2) ?_
  clear hK K
  try simp only [Act.put, List.setIfInBounds_toArray, List.set_cons_zero, List.set_cons_succ]
  refine chain_heavy _ rfl (fun K hK => ?_)
  refine (if_pos (by rfl)).mpr ?_
  go_wp2_with fail
  refine (fbytes_some _ _ b (by omega) _).mono ?_
  rintro e w3 ⟨r3, rfl, hown3, hk3⟩
  replace hx := hx.kept hk3
  go_wp2
  refine hK _ _ (hk3) ?_
  clear hK K
  try simp only [Act.put, List.setIfInBounds_toArray, List.set_cons_zero, List.set_cons_succ]
  refine chain_light _ rfl (fun K hK => ?_)
  refine (if_pos (by rfl)).mpr ?_
  apply Exists.intro; refine ⟨fun w' hw' => ?_, hK _ ?_⟩
  · go_simp; try rfl
  clear hK K; simp only [Act.put, List.setIfInBounds_toArray, List.set_cons_zero, List.set_cons_succ]
  
  refine chain_light _ rfl (fun K hK => ?_)
  refine (if_pos (by rfl)).mpr ?_
  apply Exists.intro; refine ⟨fun w' hw' => ?_, hK _ ?_⟩
  · go_simp; try rfl
  clear hK K; simp only [Act.put, List.setIfInBounds_toArray, List.set_cons_zero, List.set_cons_succ]
  
  refine chain_nil ?_
  have hy := Sl.of_own hown3
  obtain ⟨px, cx, hvx⟩ := hx.len
  obtain ⟨py, cy, hvy⟩ := hy.len
  subst hvx hvy
  rw [← flowB_length (s1, s2) a] at hx
  rw [← flowB_length (s1, s2) b] at hy
  have hy2 : Sl w3 (.slice py (flowB (s1, s2) b).length cy) (flowB (s1, s2) b).length (bcells (flowB (s1, s2) b)) := by rw [flowB_length] at hy ⊢; exact hy
  have hx2 : Sl w3 (.slice px (flowB (s1, s2) a).length cx) (flowB (s1, s2) a).length (bcells (flowB (s1, s2) a)) := by rw [flowB_length] at hx ⊢; exact hx
  have hcut := hy2.first (n := a) (by rw [flowB_length]; omega)
  rw [flowB_take (s1, s2) a b hab] at hcut
  obtain ⟨_, q1, q2⟩ := hy2.caps
  rw [flowB_length] at q1
  have n2 : (a : Int) ≤ (cy : Int) := by omega
  have n3 : (cy : Int) ≤ 9223372036854775807 := by unfold maxLen at q2; omega
  have hk13 := (hk0.of hw1).of (hk2.of hk3)
  clear hx hy hown3 hk2 hw1 hk3 hk0 q1 q2 hX
  go_wp2_with fail
  refine wp_region_chainK [(0, 0), (1, 0), (2, 0), (3, 0), (4, 0), (5, 0), (6, 0), (7, 0), (8, 0), (9, 0), (10, 0), (11, 0), (12, 0), (13, 0), (14, 0), (15, 0), (16, 0), (17, 0), (18, 0), (19, 0), (20, 1), (21, 0), (22, 0)] (by kernel_rfl) (by kernel_rfl) ?_
  intro w4 hw4
  replace hcut := hcut.kept hw4
  replace hx2 := hx2.kept hw4
  refine chain_light _ rfl (fun K hK => ?_)
  refine (if_pos (by rfl)).mpr ?_
  apply Exists.intro; refine ⟨fun w' hw' => ?_, hK _ ?_⟩
  · have s0 := str_of (hcut.kept hw'); rw [flowB_length] at hx2; have s1 := str_of (by rw [flowB_length]; exact hx2.kept hw'); go_simp; try rfl
  clear hK K; simp only [Act.put, List.setIfInBounds_toArray, List.set_cons_zero, List.set_cons_succ]
  
  refine chain_light _ rfl (fun K hK => ?_)
  refine (if_pos (by rfl)).mpr ?_
  apply Exists.intro; refine ⟨fun w' hw' => ?_, hK _ ?_⟩
  · have s0 := str_of (hcut.kept hw'); rw [flowB_length] at hx2; have s1 := str_of (by rw [flowB_length]; exact hx2.kept hw'); go_simp; try rfl
  clear hK K; simp only [Act.put, List.setIfInBounds_toArray, List.set_cons_zero, List.set_cons_succ]
  
  refine chain_light _ rfl (fun K hK => ?_)
  refine (if_pos (by rfl)).mpr ?_
  apply Exists.intro; refine ⟨fun w' hw' => ?_, hK _ ?_⟩
  · have s0 := str_of (hcut.kept hw'); rw [flowB_length] at hx2; have s1 := str_of (by rw [flowB_length]; exact hx2.kept hw'); go_simp; try rfl
  clear hK K; simp only [Act.put, List.setIfInBounds_toArray, List.set_cons_zero, List.set_cons_succ]
  
  refine chain_light _ rfl (fun K hK => ?_)
  refine (if_pos (by rfl)).mpr ?_
  apply Exists.intro; refine ⟨fun w' hw' => ?_, hK _ ?_⟩
  · have s0 := str_of (hcut.kept hw'); rw [flowB_length] at hx2; have s1 := str_of (by rw [flowB_length]; exact hx2.kept hw'); go_simp; try rfl
  clear hK K; simp only [Act.put, List.setIfInBounds_toArray, List.set_cons_zero, List.set_cons_succ]
  
  refine chain_light _ rfl (fun K hK => ?_)
  refine (if_pos (by rfl)).mpr ?_
  apply Exists.intro; refine ⟨fun w' hw' => ?_, hK _ ?_⟩
  · have s0 := str_of (hcut.kept hw'); rw [flowB_length] at hx2; have s1 := str_of (by rw [flowB_length]; exact hx2.kept hw'); go_simp; try rfl
  clear hK K; simp only [Act.put, List.setIfInBounds_toArray, List.set_cons_zero, List.set_cons_succ]
  
  refine chain_light _ rfl (fun K hK => ?_)
  refine (if_pos (by rfl)).mpr ?_
  apply Exists.intro; refine ⟨fun w' hw' => ?_, hK _ ?_⟩
  · have s0 := str_of (hcut.kept hw'); rw [flowB_length] at hx2; have s1 := str_of (by rw [flowB_length]; exact hx2.kept hw'); go_simp; try rfl
  clear hK K; simp only [Act.put, List.setIfInBounds_toArray, List.set_cons_zero, List.set_cons_succ]
  
  refine chain_light _ rfl (fun K hK => ?_)
  refine (if_pos (by rfl)).mpr ?_
  apply Exists.intro; refine ⟨fun w' hw' => ?_, hK _ ?_⟩
  · have s0 := str_of (hcut.kept hw'); rw [flowB_length] at hx2; have s1 := str_of (by rw [flowB_length]; exact hx2.kept hw'); go_simp; try rfl
  clear hK K; simp only [Act.put, List.setIfInBounds_toArray, List.set_cons_zero, List.set_cons_succ]
  
  refine chain_light _ rfl (fun K hK => ?_)
  refine (if_pos (by rfl)).mpr ?_
  apply Exists.intro; refine ⟨fun w' hw' => ?_, hK _ ?_⟩
  · have s0 := str_of (hcut.kept hw'); rw [flowB_length] at hx2; have s1 := str_of (by rw [flowB_length]; exact hx2.kept hw'); go_simp; try rfl
  clear hK K; simp only [Act.put, List.setIfInBounds_toArray, List.set_cons_zero, List.set_cons_succ]
  
  refine chain_light _ rfl (fun K hK => ?_)
  refine (if_pos (by rfl)).mpr ?_
  apply Exists.intro; refine ⟨fun w' hw' => ?_, hK _ ?_⟩
  · have s0 := str_of (hcut.kept hw'); rw [flowB_length] at hx2; have s1 := str_of (by rw [flowB_length]; exact hx2.kept hw'); go_simp; try rfl
  clear hK K; simp only [Act.put, List.setIfInBounds_toArray, List.set_cons_zero, List.set_cons_succ]
  
  refine chain_light _ rfl (fun K hK => ?_)
  refine (if_pos (by rfl)).mpr ?_
  apply Exists.intro; refine ⟨fun w' hw' => ?_, hK _ ?_⟩
  · have s0 := str_of (hcut.kept hw'); rw [flowB_length] at hx2; have s1 := str_of (by rw [flowB_length]; exact hx2.kept hw'); go_simp; try rfl
  clear hK K; simp only [Act.put, List.setIfInBounds_toArray, List.set_cons_zero, List.set_cons_succ]
  
  refine chain_light _ rfl (fun K hK => ?_)
  refine (if_pos (by rfl)).mpr ?_
  apply Exists.intro; refine ⟨fun w' hw' => ?_, hK _ ?_⟩
  · have s0 := str_of (hcut.kept hw'); rw [flowB_length] at hx2; have s1 := str_of (by rw [flowB_length]; exact hx2.kept hw'); go_simp; try rfl
  clear hK K; simp only [Act.put, List.setIfInBounds_toArray, List.set_cons_zero, List.set_cons_succ]
  
  refine chain_light _ rfl (fun K hK => ?_)
  refine (if_pos (by rfl)).mpr ?_
  apply Exists.intro; refine ⟨fun w' hw' => ?_, hK _ ?_⟩
  · have s0 := str_of (hcut.kept hw'); rw [flowB_length] at hx2; have s1 := str_of (by rw [flowB_length]; exact hx2.kept hw'); go_simp; try rfl
  clear hK K; simp only [Act.put, List.setIfInBounds_toArray, List.set_cons_zero, List.set_cons_succ]
  
  refine chain_light _ rfl (fun K hK => ?_)
  refine (if_pos (by rfl)).mpr ?_
  apply Exists.intro; refine ⟨fun w' hw' => ?_, hK _ ?_⟩
  · have s0 := str_of (hcut.kept hw'); rw [flowB_length] at hx2; have s1 := str_of (by rw [flowB_length]; exact hx2.kept hw'); go_simp; try rfl
  clear hK K; simp only [Act.put, List.setIfInBounds_toArray, List.set_cons_zero, List.set_cons_succ]
  
  refine chain_light _ rfl (fun K hK => ?_)
  refine (if_pos (by rfl)).mpr ?_
  apply Exists.intro; refine ⟨fun w' hw' => ?_, hK _ ?_⟩
  · have s0 := str_of (hcut.kept hw'); rw [flowB_length] at hx2; have s1 := str_of (by rw [flowB_length]; exact hx2.kept hw'); go_simp; try rfl
  clear hK K; simp only [Act.put, List.setIfInBounds_toArray, List.set_cons_zero, List.set_cons_succ]
  
  refine chain_light _ rfl (fun K hK => ?_)
  refine (if_pos (by rfl)).mpr ?_
  apply Exists.intro; refine ⟨fun w' hw' => ?_, hK _ ?_⟩
  · have s0 := str_of (hcut.kept hw'); rw [flowB_length] at hx2; have s1 := str_of (by rw [flowB_length]; exact hx2.kept hw'); go_simp; try rfl
  clear hK K; simp only [Act.put, List.setIfInBounds_toArray, List.set_cons_zero, List.set_cons_succ]
  
  refine chain_light _ rfl (fun K hK => ?_)
  refine (if_pos (by rfl)).mpr ?_
  apply Exists.intro; refine ⟨fun w' hw' => ?_, hK _ ?_⟩
  · have s0 := str_of (hcut.kept hw'); rw [flowB_length] at hx2; have s1 := str_of (by rw [flowB_length]; exact hx2.kept hw'); go_simp; try rfl
  clear hK K; simp only [Act.put, List.setIfInBounds_toArray, List.set_cons_zero, List.set_cons_succ]
  
  refine chain_light _ rfl (fun K hK => ?_)
  refine (if_pos (by rfl)).mpr ?_
  apply Exists.intro; refine ⟨fun w' hw' => ?_, hK _ ?_⟩
  · have s0 := str_of (hcut.kept hw'); rw [flowB_length] at hx2; have s1 := str_of (by rw [flowB_length]; exact hx2.kept hw'); go_simp; try rfl
  clear hK K; simp only [Act.put, List.setIfInBounds_toArray, List.set_cons_zero, List.set_cons_succ]
  
  refine chain_light _ rfl (fun K hK => ?_)
  refine (if_pos (by rfl)).mpr ?_
  apply Exists.intro; refine ⟨fun w' hw' => ?_, hK _ ?_⟩
  · have s0 := str_of (hcut.kept hw'); rw [flowB_length] at hx2; have s1 := str_of (by rw [flowB_length]; exact hx2.kept hw'); go_simp; try rfl
  clear hK K; simp only [Act.put, List.setIfInBounds_toArray, List.set_cons_zero, List.set_cons_succ]
  
  refine chain_light _ rfl (fun K hK => ?_)
  refine (if_pos (by rfl)).mpr ?_
  apply Exists.intro; refine ⟨fun w' hw' => ?_, hK _ ?_⟩
  · have s0 := str_of (hcut.kept hw'); rw [flowB_length] at hx2; have s1 := str_of (by rw [flowB_length]; exact hx2.kept hw'); go_simp; try rfl
  clear hK K; simp only [Act.put, List.setIfInBounds_toArray, List.set_cons_zero, List.set_cons_succ]
  
  refine chain_light _ rfl (fun K hK => ?_)
  refine (if_pos (by rfl)).mpr ?_
  apply Exists.intro; refine ⟨fun w' hw' => ?_, hK _ ?_⟩
  · have s0 := str_of (hcut.kept hw'); rw [flowB_length] at hx2; have s1 := str_of (by rw [flowB_length]; exact hx2.kept hw'); go_simp; try rfl
  clear hK K; simp only [Act.put, List.setIfInBounds_toArray, List.set_cons_zero, List.set_cons_succ]
  
  refine chain_heavy _ rfl (fun K hK => ?_)
  refine (if_pos (by rfl)).mpr ?_
  go_wp2_with fail
  refine (known_any _).mono ?_
  rintro e w5 ⟨rfl, hk5⟩
  go_wp2
  refine hK _ _ (hk5) ?_
  clear hK K
  try simp only [Act.put, List.setIfInBounds_toArray, List.set_cons_zero, List.set_cons_succ]
  refine chain_light _ rfl (fun K hK => ?_)
  refine (if_pos (by rfl)).mpr ?_
  apply Exists.intro; refine ⟨fun w' hw' => ?_, hK _ ?_⟩
  · go_simp; try rfl
  clear hK K; simp only [Act.put, List.setIfInBounds_toArray, List.set_cons_zero, List.set_cons_succ]
  
  refine chain_light _ rfl (fun K hK => ?_)
  refine (if_pos (by rfl)).mpr ?_
  apply Exists.intro; refine ⟨fun w' hw' => ?_, hK _ ?_⟩
  · go_simp; try rfl
  clear hK K; simp only [Act.put, List.setIfInBounds_toArray, List.set_cons_zero, List.set_cons_succ]
  
  refine chain_nil ?_
  go_wp2
  go_ret
  exact ⟨rfl, (hk13.of hw4).of hk5⟩

set_option maxRecDepth 100000 in
set_option maxHeartbeats 2000000 in
theorem begins_walk (s1 s2 : BitVec 64) (a b : Int) (w : World) :
    Calls Try.prog 3 #[.agg #[U s1, U s2], .int .i64 a, .int .i64 b] w fun e w' => e = .returned (.bool true) ∧ Kept w w' := by
  by_cases h1 : a < 0
  · go_enter Try.func3, Try.ntmps3
    go_wp2
    go_ret
    exact ⟨rfl, (Below.refl _ _).alloc (Nat.le_refl _) _⟩
  by_cases h2 : b < a
  · go_enter Try.func3, Try.ntmps3
    go_wp2
    go_ret
    exact ⟨rfl, (Below.refl _ _).alloc (Nat.le_refl _) _⟩
  by_cases h3 : 600 < b
  · go_enter Try.func3, Try.ntmps3
    go_wp2
    go_ret
    exact ⟨rfl, (Below.refl _ _).alloc (Nat.le_refl _) _⟩
  obtain ⟨a, rfl⟩ : ∃ k : Nat, a = k := ⟨a.toNat, by omega⟩
  obtain ⟨b, rfl⟩ : ∃ k : Nat, b = k := ⟨b.toNat, by omega⟩
  exact begins_in s1 s2 a b (by omega) (by omega) w

namespace flowBeginsRow
open Go.ChangeShapes Go.WideShapes Go.ChangeAt Go.RowKit
theorem own : ownKnob Try.prog.godebug = none := by kernel_rfl
theorem laidOut : laidOutB Try.prog = true := by kernel_rfl

set_option maxRecDepth 100000 in
theorem lifted (os : Os) (started : os.Started) (H : Type) (enc : TypeId × Value → H) :
    ReturnsInHanded {} Try.checked os 3 .any (Rows.flowBeginsSpec.pre6 enc Try.prog Try.f3 Rows.flowBeginsRow.domain false) (Rows.flowBeginsSpec.post enc Try.prog Try.f3 false true false false) := by
  refine returnsInHanded_of_change (C := Try.checked) own started (by kernel_rfl) Try.func3
    (ChangeSpec.witness6 (enc := enc) (C := Try.checked) false ⟨#[], #[.agg #[.int .u64 0, .int .u64 0], .int .i64 0, .int .i64 0], []⟩ 8 (by kernel_rfl) (by kernel_rfl) (by kernel_rfl) (by kernel_rfl)) ?_
  intro W base args ds gs before hval0 hW _ hsz
  have hval : ∀ (j : Nat) t v, Try.f3.params[j]? = some t → args[j]? = some v → Value.okWide Try.prog W .any base t v := hval0
  have hW' := hW
  obtain ⟨p, q, hA0, hV, rfl, hfz, hnd⟩ := hW
  have hA : DataW.TrodAll enc Try.prog W 0 (fun _ => true) true Try.f3.params.toList args.toList ds p := hA0
  rw [Try.params3] at hA hval
  obtain ⟨v0, vs0, d0, ds0, p0, q0, hargs, rfl, rfl, h0, r0⟩ := trodAll_cons hA
  obtain ⟨v1, vs1, d1, ds1, p1, q1, rfl, rfl, rfl, h1, r1⟩ := trodAll_cons r0
  obtain ⟨v2, vs2, d2, ds2, p2, q2, rfl, rfl, rfl, h2, r2⟩ := trodAll_cons r1
  obtain ⟨rfl, rfl, rfl⟩ := trodAll_nil r2
  obtain rfl : args = #[v0, v1, v2] := by cases args; simp_all
  obtain ⟨a0, rfl⟩ := open_pair (e := 22) Try.underlying24 Try.underlying22 (by kernel_rfl) (by kernel_rfl) (hval 0 24 v0 rfl rfl) h0
  obtain ⟨a1, rfl, lo1, hi1⟩ := open_I Try.underlying3 (hval 1 3 v1 rfl rfl) h1
  obtain ⟨a2, rfl, lo2, hi2⟩ := open_I Try.underlying3 (hval 2 3 v2 rfl rfl) h2
  refine (begins_walk a0.1 a0.2 a1 a2 W).mono fun e W' ⟨he, bel⟩ => ?_
  subst he
  exact ⟨_, rfl, law_post (tb := 4) laidOut (by kernel_rfl) Try.underlying4 (by rfl) rfl (by intro xs hxs; match xs, hxs with | [x0, x1, x2], _ => rfl) hW' bel⟩

theorem over : Rows.flowBeginsRow.holds Try.pinned (OpenSpec.ofChange Rows.flowBeginsSpec) :=
  OpenClaim.holds_of_wide 3 Try.f3 rfl rfl rfl rfl rfl rfl rfl ⟨rfl, rfl, rfl, rfl, rfl⟩ rfl rfl rfl rfl rfl (by kernel_rfl) Try.func3 (by kernel_rfl)
    (of_decide_eq_true (by kernel_rfl)) (by unfold Func.isWrapper; rw [if_neg (of_decide_eq_false (by kernel_rfl))]; exact ⟨rfl, rfl⟩)
    (fun os started H enc _ => lifted os started H enc)
end flowBeginsRow

theorem flowBegins_holds : Rows.FlowBeginsSaid := flowBeginsRow.over
#print axioms flowBegins_holds

end Go.Proofs.Ytdabdmkkenjdnaa
