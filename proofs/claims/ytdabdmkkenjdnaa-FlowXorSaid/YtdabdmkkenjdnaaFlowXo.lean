/- FlowXor: any two rows, byte by byte; twice by the same it is as it was. -/
import Derived.Test.YtdabdmkkenjdnaaFlowX
import Derived.Test.YtdabdmkkenjdnaaRows
namespace Go.Proofs.Ytdabdmkkenjdnaa
open Go Go.RowKit

set_option maxRecDepth 100000 in
set_option maxHeartbeats 2000000 in
theorem xor_in (va vb : Value) (a b : List UInt8) (ha : a.length ≤ 300) (hb : b.length ≤ 300) (w : World) (sa : Sl w va a.length (bcells a)) (sb : Sl w vb b.length (bcells b)) :
    Calls Try.prog 7 #[va, vb] w fun e w' => e = .returned (.bool true) ∧ Kept w w' := by
  obtain ⟨pa, ca, hva⟩ := sa.len
  obtain ⟨pb, cb, hvb⟩ := sb.len
  have l0 : (a.length : Int) ≤ 300 := by omega
  have l1 : (b.length : Int) ≤ 300 := by omega
  have hxl : (xorB a b).length ≤ 300 := by rw [xorB_length]; omega
  have hxx := xorB_xorB a b
  obtain ⟨n, hn⟩ : ∃ n, n = min a.length b.length := ⟨_, rfl⟩
  rw [← hn] at hxx
  have hmin : (if b.length < a.length then (b.length : Int) else (a.length : Int)) = (n : Int) := by rw [hn]; split <;> omega
  have hna : n ≤ a.length := by omega
  subst hva hvb
  have hcut := sa.first hna
  obtain ⟨_, hac, hcm⟩ := sa.caps
  have n0 : (n : Int) ≤ (ca : Int) := by omega
  have n1 : (ca : Int) ≤ 9223372036854775807 := by unfold maxLen at hcm; omega
  clear hn hna hac hcm
  go_enter Try.func7, Try.ntmps7
  go_wp2_with fail
  refine (xor_any _ _ a b (by omega) (by omega) _ sa sb).mono ?_
  rintro e w0 ⟨r, rfl, hown, hk1⟩
  have hx := Sl.of_own hown
  clear hown
  replace sa := sa.kept hk1
  replace sb := sb.kept hk1
  replace hcut := hcut.kept hk1
  go_wp2_with fail
  refine wp_region_chainK [(0, 0), (1, 0), (2, 0), (3, 0), (4, 1), (5, 0), (6, 0), (7, 0), (8, 0), (9, 0), (12, 0), (13, 0), (14, 0), (15, 0), (16, 0), (17, 0), (18, 0), (19, 0), (10, 1), (11, 0), (20, 0), (21, 0), (22, 0), (23, 1), (24, 0), (25, 0)] (by kernel_rfl) (by kernel_rfl) ?_
  intro w1 hw1
  replace hx := hx.kept hw1
  replace hcut := hcut.kept hw1
  replace sa := sa.kept hw1
  replace sb := sb.kept hw1
  repeat
    refine chain_light _ rfl (fun K hK => ?_)
    first
      | (refine (if_pos (by rfl)).mpr ?_; apply Exists.intro; refine ⟨fun w' hw' => ?_, hK _ ?_⟩; (have s0 := str_of (hx.kept hw'); go_simp; done); (clear hK K; simp only [Act.put, List.setIfInBounds_toArray, List.set_cons_zero, List.set_cons_succ]))
      | (refine (if_pos (by rfl)).mpr ?_; apply Exists.intro; refine ⟨fun w' hw' => ?_, hK _ ?_⟩; (have s0 := str_of (hx.kept hw'); go_simp; rfl); (clear hK K; simp only [Act.put, List.setIfInBounds_toArray, List.set_cons_zero, List.set_cons_succ]))
      | (refine (if_neg (by rw [Bool.not_eq_true]; rfl)).mpr ?_; refine hK _ ?_; (clear hK K; simp only [Act.put, List.setIfInBounds_toArray, List.set_cons_zero, List.set_cons_succ]))
  refine chain_heavy _ rfl (fun K hK => ?_)
  refine (if_pos (by rfl)).mpr ?_
  go_wp2_with fail
  refine (rxor_any _ _ a b (by omega) (by omega) _ sa sb).mono ?_
  rintro e w2 ⟨r2, rfl, hown2, hk2⟩
  have hr := Sl.of_own hown2
  clear hown2
  replace hx := hx.kept hk2
  replace hcut := hcut.kept hk2
  replace sa := sa.kept hk2
  replace sb := sb.kept hk2
  go_wp2
  refine hK _ _ (hk2) ?_
  clear hK K
  try simp only [Act.put, List.setIfInBounds_toArray, List.set_cons_zero, List.set_cons_succ]
  repeat
    refine chain_light _ rfl (fun K hK => ?_)
    first
      | (refine (if_pos (by rfl)).mpr ?_; apply Exists.intro; refine ⟨fun w' hw' => ?_, hK _ ?_⟩; (have s1 := str_of (hr.kept hw'); have s2 := str_of (hcut.kept hw'); go_simp; done); (clear hK K; simp only [Act.put, List.setIfInBounds_toArray, List.set_cons_zero, List.set_cons_succ]))
      | (refine (if_pos (by rfl)).mpr ?_; apply Exists.intro; refine ⟨fun w' hw' => ?_, hK _ ?_⟩; (have s1 := str_of (hr.kept hw'); have s2 := str_of (hcut.kept hw'); go_simp; rfl); (clear hK K; simp only [Act.put, List.setIfInBounds_toArray, List.set_cons_zero, List.set_cons_succ]))
      | (refine (if_neg (by rw [Bool.not_eq_true]; rfl)).mpr ?_; refine hK _ ?_; (clear hK K; simp only [Act.put, List.setIfInBounds_toArray, List.set_cons_zero, List.set_cons_succ]))
  refine chain_heavy _ rfl (fun K hK => ?_)
  refine (if_pos (by rfl)).mpr ?_
  go_wp2_with fail
  refine (xor_any _ _ (xorB a b) b (by omega) (by omega) _ hx sb).mono ?_
  rintro e w3 ⟨r3, rfl, hown3, hk3⟩
  have hy := Sl.of_own hown3
  rw [hxx] at hy
  clear hown3
  go_wp2
  refine hK _ _ (hk3) ?_
  clear hK K
  try simp only [Act.put, List.setIfInBounds_toArray, List.set_cons_zero, List.set_cons_succ]
  repeat
    refine chain_light _ rfl (fun K hK => ?_)
    first
      | (refine (if_pos (by rfl)).mpr ?_; apply Exists.intro; refine ⟨fun w' hw' => ?_, hK _ ?_⟩; (have s3 := str_of (hy.kept hw'); go_simp; done); (clear hK K; simp only [Act.put, List.setIfInBounds_toArray, List.set_cons_zero, List.set_cons_succ]))
      | (refine (if_pos (by rfl)).mpr ?_; apply Exists.intro; refine ⟨fun w' hw' => ?_, hK _ ?_⟩; (have s3 := str_of (hy.kept hw'); go_simp; rfl); (clear hK K; simp only [Act.put, List.setIfInBounds_toArray, List.set_cons_zero, List.set_cons_succ]))
      | (refine (if_neg (by rw [Bool.not_eq_true]; rfl)).mpr ?_; refine hK _ ?_; (clear hK K; simp only [Act.put, List.setIfInBounds_toArray, List.set_cons_zero, List.set_cons_succ]))
  refine chain_heavy _ rfl (fun K hK => ?_)
  refine (if_pos (by rfl)).mpr ?_
  go_wp2_with fail
  refine (known_any _).mono ?_
  rintro e w4 ⟨rfl, hk4⟩
  go_wp2
  refine hK _ _ (hk4) ?_
  clear hK K
  try simp only [Act.put, List.setIfInBounds_toArray, List.set_cons_zero, List.set_cons_succ]
  repeat
    refine chain_light _ rfl (fun K hK => ?_)
    first
      | (refine (if_pos (by rfl)).mpr ?_; apply Exists.intro; refine ⟨fun w' hw' => ?_, hK _ ?_⟩; (go_simp; done); (clear hK K; simp only [Act.put, List.setIfInBounds_toArray, List.set_cons_zero, List.set_cons_succ]))
      | (refine (if_pos (by rfl)).mpr ?_; apply Exists.intro; refine ⟨fun w' hw' => ?_, hK _ ?_⟩; (go_simp; rfl); (clear hK K; simp only [Act.put, List.setIfInBounds_toArray, List.set_cons_zero, List.set_cons_succ]))
      | (refine (if_neg (by rw [Bool.not_eq_true]; rfl)).mpr ?_; refine hK _ ?_; (clear hK K; simp only [Act.put, List.setIfInBounds_toArray, List.set_cons_zero, List.set_cons_succ]))
  refine chain_nil ?_
  go_wp2
  go_ret
  exact ⟨rfl, (((hk1.of hw1).of hk2).of hk3).of hk4⟩

set_option maxRecDepth 100000 in
set_option maxHeartbeats 2000000 in
theorem xor_walk (va vb : Value) (a b : List UInt8) (w : World) (sa : Sl w va a.length (bcells a)) (sb : Sl w vb b.length (bcells b)) :
    Calls Try.prog 7 #[va, vb] w fun e w' => e = .returned (.bool true) ∧ Kept w w' := by
  by_cases h1 : 300 < a.length
  · obtain ⟨pa, ca, hva⟩ := sa.len
    subst hva
    go_enter Try.func7, Try.ntmps7
    go_wp2
    go_ret
    exact ⟨rfl, Below.refl _ _⟩
  by_cases h2 : 300 < b.length
  · obtain ⟨pa, ca, hva⟩ := sa.len
    obtain ⟨pb, cb, hvb⟩ := sb.len
    subst hva hvb
    have l0 : (a.length : Int) ≤ 300 := by omega
    go_enter Try.func7, Try.ntmps7
    go_wp2
    go_ret
    exact ⟨rfl, Below.refl _ _⟩
  exact xor_in va vb a b (by omega) (by omega) w sa sb

namespace flowXorRow
open Go.ChangeShapes Go.WideShapes Go.ChangeAt Go.RowKit
theorem own : ownKnob Try.prog.godebug = none := by kernel_rfl
theorem laidOut : laidOutB Try.prog = true := by kernel_rfl

set_option maxRecDepth 100000 in
theorem lifted (os : Os) (started : os.Started) (H : Type) (enc : TypeId × Value → H) :
    ReturnsInHanded {} Try.checked os 7 .any (Rows.flowXorSpec.pre6 enc Try.prog Try.f7 Rows.flowXorRow.domain false) (Rows.flowXorSpec.post enc Try.prog Try.f7 false true false false) := by
  refine returnsInHanded_of_change (C := Try.checked) own started (by kernel_rfl) Try.func7
    (ChangeSpec.witness6 (enc := enc) (C := Try.checked) false ⟨#[], #[.slice none 0 0, .slice none 0 0], []⟩ 8 (by kernel_rfl) (by kernel_rfl) (by kernel_rfl) (by kernel_rfl)) ?_
  intro W base args ds gs before hval0 hW _ hsz
  have hval : ∀ (j : Nat) t v, Try.f7.params[j]? = some t → args[j]? = some v → Value.okWide Try.prog W .any base t v := hval0
  have hW' := hW
  obtain ⟨p, q, hA0, hV, rfl, hfz, hnd⟩ := hW
  have hA : DataW.TrodAll enc Try.prog W 0 (fun _ => true) true Try.f7.params.toList args.toList ds p := hA0
  rw [Try.params7] at hA hval
  obtain ⟨v0, vs0, d0, ds0, p0, q0, hargs, rfl, rfl, h0, r0⟩ := trodAll_cons hA
  obtain ⟨v1, vs1, d1, ds1, p1, q1, rfl, rfl, rfl, h1, r1⟩ := trodAll_cons r0
  obtain ⟨rfl, rfl, rfl⟩ := trodAll_nil r1
  obtain rfl : args = #[v0, v1] := by cases args; simp_all
  obtain ⟨a0b, a0⟩ := open_bytes (e := 5) Try.underlying25 Try.underlying5 (by kernel_rfl) (hval 0 25 v0 rfl rfl) h0
  obtain ⟨a1b, a1⟩ := open_bytes (e := 5) Try.underlying25 Try.underlying5 (by kernel_rfl) (hval 1 25 v1 rfl rfl) h1
  refine (xor_walk v0 v1 a0b a1b W a0 a1).mono fun e W' ⟨he, bel⟩ => ?_
  subst he
  exact ⟨_, rfl, law_post (tb := 4) laidOut (by kernel_rfl) Try.underlying4 (by rfl) rfl (by intro xs hxs; match xs, hxs with | [x0, x1], _ => rfl) hW' bel⟩

theorem over : Rows.flowXorRow.holds Try.pinned (OpenSpec.ofChange Rows.flowXorSpec) :=
  OpenClaim.holds_of_wide 7 Try.f7 rfl rfl rfl rfl rfl rfl rfl ⟨rfl, rfl, rfl, rfl, rfl⟩ rfl rfl rfl rfl rfl (by kernel_rfl) Try.func7 (by kernel_rfl)
    (of_decide_eq_true (by kernel_rfl)) (by unfold Func.isWrapper; rw [if_neg (of_decide_eq_false (by kernel_rfl))]; exact ⟨rfl, rfl⟩)
    (fun os started H enc _ => lifted os started H enc)
end flowXorRow

theorem flowXor_holds : Rows.FlowXorSaid := flowXorRow.over
#print axioms flowXor_holds

end Go.Proofs.Ytdabdmkkenjdnaa
