/- RootPuts: any root as bytes, or none; and back. -/
import Derived.Test.YtldgmilfihkkdaaRootL
import Derived.Test.YtldgmilfihkkdaaRows
namespace Go.Proofs.Ytldgmilfihkkdaa
open Go Go.RowKit

set_option maxRecDepth 100000 in
set_option maxHeartbeats 4000000 in
theorem puts_ok (x : Rt) (h : isSl x.slots = true) (w : World) : Calls Try.prog 3 #[.agg #[U x.count, W x.epoch, .int .i64 x.slots, U x.hash.1, U x.hash.2]] w fun e w' => e = .returned (.bool true) ∧ Kept w w' := by
  have hR : Blk (w.alloc (.cells #[U x.count, W x.epoch, .int .i64 x.slots, U x.hash.1, U x.hash.2] 27)) w.heap.size #[U x.count, W x.epoch, .int .i64 x.slots, U x.hash.1, U x.hash.2] 27 := Blk.new _ _ _
  have hk0 : Kept w (w.alloc (.cells #[U x.count, W x.epoch, .int .i64 x.slots, U x.hash.1, U x.hash.2] 27)) := (Below.refl _ _).alloc (Nat.le_refl _) _
  have r0 := hR.cell 0
  have r1 := hR.cell 1
  have r2 := hR.cell 2
  have r3 := hR.cell 3
  have r4 := hR.cell 4
  go_enter Try.func3, Try.ntmps3
  go_wp2_with fail
  refine (put_root_lit _ (isSl_cases h) _ _ _ _ _).mono ?_
  rintro e w1 ⟨v1, rfl, hown1, hk1⟩
  have s1 := Sl.of_own hown1
  replace hR := hR.kept hk1
  clear hown1 r0 r1 r2 r3 r4
  have r0 := hR.cell 0
  have r1 := hR.cell 1
  have r2 := hR.cell 2
  have r3 := hR.cell 3
  have r4 := hR.cell 4
  go_wp2_with fail
  refine (rput_root_lit _ (isSl_cases h) _ _ _ _ _).mono ?_
  rintro e w2 ⟨v2, rfl, hown2, hk2⟩
  have s2 := Sl.of_own hown2
  replace s1 := s1.kept hk2
  replace hR := hR.kept hk2
  rw [← rootB_length ⟨x.count, x.epoch, x.slots, (x.hash.1, x.hash.2)⟩] at s1 s2
  have c1 := str_of s1
  have c2 := str_of s2
  clear hown2 r0 r1 r2 r3 r4
  have H := Lib.hid h
  clear h
  go_wp2_with fail
  refine (get_root_some _ _ (by rw [rootB_length]; omega) _ s1 (rootB_length _) (by rw [rootOf_rootB _ H.out]; exact H.out)).mono ?_
  rintro e w3 ⟨rfl, hk3⟩
  rw [rootOf_rootB _ H.out]
  unfold Rt.val
  have hX := Blk.new w3 #[U x.count, W x.epoch, .int .i64 x.slots, U x.hash.1, U x.hash.2] 27
  have hk4 := (Below.refl w3.heap.size w3).alloc (Nat.le_refl _) (.cells #[U x.count, W x.epoch, .int .i64 x.slots, U x.hash.1, U x.hash.2] 27)
  replace hR := (hR.kept hk3).kept hk4
  have hk9 : Kept w _ := (((hk0.of hk1).of hk2).of hk3).of hk4
  have r0 := hR.cell 0
  have r1 := hR.cell 1
  have r2 := hR.cell 2
  have r3 := hR.cell 3
  have r4 := hR.cell 4
  have x0 := hX.cell 0
  have x1 := hX.cell 1
  have x2 := hX.cell 2
  have x3 := hX.cell 3
  have x4 := hX.cell 4
  clear hR hX hk0 hk1 hk2 hk3 hk4 s1 s2 c1 c2
  go_wp2_with fail
  refine (known_any _).mono ?_
  rintro e w5 ⟨rfl, hk6⟩
  go_wp2
  go_ret
  exact ⟨rfl, hk9.of hk6⟩

set_option maxRecDepth 100000 in
set_option maxHeartbeats 4000000 in
theorem puts_no (x : Rt) (h : isSl x.slots = false) (w : World) : Calls Try.prog 3 #[.agg #[U x.count, W x.epoch, .int .i64 x.slots, U x.hash.1, U x.hash.2]] w fun e w' => e = .returned (.bool true) ∧ Kept w w' := by
  have hR : Blk (w.alloc (.cells #[U x.count, W x.epoch, .int .i64 x.slots, U x.hash.1, U x.hash.2] 27)) w.heap.size #[U x.count, W x.epoch, .int .i64 x.slots, U x.hash.1, U x.hash.2] 27 := Blk.new _ _ _
  have hk0 : Kept w (w.alloc (.cells #[U x.count, W x.epoch, .int .i64 x.slots, U x.hash.1, U x.hash.2] 27)) := (Below.refl _ _).alloc (Nat.le_refl _) _
  have r0 := hR.cell 0
  have r1 := hR.cell 1
  have r2 := hR.cell 2
  have r3 := hR.cell 3
  have r4 := hR.cell 4
  go_enter Try.func3, Try.ntmps3
  go_wp2_with fail
  refine (put_root_none _ h _ _ _ _ _).mono ?_
  rintro e w1 ⟨rfl, hk1⟩
  replace hR := hR.kept hk1
  clear r0 r1 r2 r3 r4
  have r0 := hR.cell 0
  have r1 := hR.cell 1
  have r2 := hR.cell 2
  have r3 := hR.cell 3
  have r4 := hR.cell 4
  go_wp2_with fail
  refine (rput_root_none _ h _ _ _ _ _).mono ?_
  rintro e w2 ⟨rfl, hk2⟩
  have c1 := str_of (bs := []) (Sl.nil w2)
  clear r0 r1 r2 r3 r4 h
  go_wp2_with fail
  refine (get_root_none _ [] (by simp) _ (Sl.nil _) (by simp)).mono ?_
  rintro e w3 ⟨rfl, hk3⟩
  have hk9 : Kept w _ := ((hk0.of hk1).of hk2).of hk3
  have hk4 := (Below.refl w3.heap.size w3).alloc (Nat.le_refl _) (.cells #[U 0#64, W 0#32, .int .i64 0, U 0#64, U 0#64] 27)
  unfold Rt.zero Rt.val
  clear hR hk0 hk1 hk2 hk3 c1
  go_wp2_with fail
  refine (known_any _).mono ?_
  rintro e w5 ⟨rfl, hk6⟩
  go_wp2
  go_ret
  exact ⟨rfl, (hk9.of hk4).of hk6⟩

theorem puts_walk (x : Rt) (w : World) : Calls Try.prog 3 #[x.val] w fun e w' => e = .returned (.bool true) ∧ Kept w w' := by
  unfold Rt.val
  cases h : isSl x.slots
  · exact puts_no x h w
  · exact puts_ok x h w

namespace rootPutsRow
open Go.ChangeShapes Go.WideShapes Go.ChangeAt Go.RowKit
theorem own : ownKnob Try.prog.godebug = none := by kernel_rfl
theorem laidOut : laidOutB Try.prog = true := by kernel_rfl

set_option maxRecDepth 100000 in
theorem lifted (os : Os) (started : os.Started) (H : Type) (enc : TypeId × Value → H) :
    ReturnsInHanded {} Try.checked os 3 .any (Rows.rootPutsSpec.pre6 enc Try.prog Try.f3 Rows.rootPutsRow.domain false) (Rows.rootPutsSpec.post enc Try.prog Try.f3 false true false false) := by
  refine returnsInHanded_of_change (C := Try.checked) own started (by kernel_rfl) Try.func3
    (ChangeSpec.witness6 (enc := enc) (C := Try.checked) false ⟨#[], #[.agg #[.int .u64 0, .int .u32 0, .int .i64 0, .int .u64 0, .int .u64 0]], []⟩ 8 (by kernel_rfl) (by kernel_rfl) (by kernel_rfl) (by kernel_rfl)) ?_
  intro W base args ds gs before hval0 hW _ hsz
  have hval : ∀ (j : Nat) t v, Try.f3.params[j]? = some t → args[j]? = some v → Value.okWide Try.prog W .any base t v := hval0
  have hW' := hW
  obtain ⟨p, q, hA0, hV, rfl, hfz, hnd⟩ := hW
  have hA : DataW.TrodAll enc Try.prog W 0 (fun _ => true) true Try.f3.params.toList args.toList ds p := hA0
  rw [Try.params3] at hA hval
  obtain ⟨v0, vs0, d0, ds0, p0, q0, hargs, rfl, rfl, h0, r0⟩ := trodAll_cons hA
  obtain ⟨rfl, rfl, rfl⟩ := trodAll_nil r0
  obtain rfl : args = #[v0] := by cases args; simp_all
  obtain ⟨a0, rfl, lo0, hi0⟩ := open_root (H := H) (hval 0 27 v0 rfl rfl) h0
  refine (puts_walk a0 W).mono fun e W' ⟨he, bel⟩ => ?_
  subst he
  exact ⟨_, rfl, law_post (tb := 4) laidOut (by kernel_rfl) Try.underlying4 (by rfl) rfl (by intro xs hxs; match xs, hxs with | [x0], _ => rfl) hW' bel⟩

theorem over : Rows.rootPutsRow.holds Try.pinned (OpenSpec.ofChange Rows.rootPutsSpec) :=
  OpenClaim.holds_of_wide 3 Try.f3 rfl rfl rfl rfl rfl rfl rfl ⟨rfl, rfl, rfl, rfl, rfl⟩ rfl rfl rfl rfl rfl (by kernel_rfl) Try.func3 (by kernel_rfl)
    (of_decide_eq_true (by kernel_rfl)) (by unfold Func.isWrapper; rw [if_neg (of_decide_eq_false (by kernel_rfl))]; exact ⟨rfl, rfl⟩)
    (fun os started H enc _ => lifted os started H enc)
end rootPutsRow

theorem rootPuts_holds : Rows.RootPutsSaid := rootPutsRow.over
#print axioms rootPuts_holds

end Go.Proofs.Ytldgmilfihkkdaa
