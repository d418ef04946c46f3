/- LeafPuts: any leaf of any slot as bytes, or none; and back. -/
import Derived.Test.YtkbihhdgipckgaaLeafH
import Derived.Test.YtkbihhdgipckgaaRows
namespace Go.Proofs.Ytkbihhdgipckgaa
open Go Go.RowKit

theorem lfEq_self (k : Int) (b : Bool) (z : Int) (e q : BitVec 32) (v : BitVec 64) (t : Pair) : lfEq ⟨k, b, z, e, q, v, t⟩ ⟨k, b, z, e, q, v, t⟩ = true := by unfold lfEq; simp
set_option maxRecDepth 100000 in
set_option maxHeartbeats 8000000 in
theorem puts_ok (x : Lf) (s : Int) (lo : -9223372036854775808 ≤ s) (hi : s ≤ 9223372036854775807) (h : isLeaf (⟨x.kind, x.dirty, x.lba, x.ep, x.sl, x.ver, (x.tag.1, x.tag.2)⟩ : Lf) s = true) (w : World) : Calls Try.prog 4 #[.agg #[.int .i64 x.kind, .bool x.dirty, .int .i64 x.lba, W x.ep, W x.sl, U x.ver, U x.tag.1, U x.tag.2], .int .i64 s] w fun e w' => e = .returned (.bool true) ∧ Kept w w' := by
  have hR : Blk (w.alloc (.cells #[.int .i64 x.kind, .bool x.dirty, .int .i64 x.lba, W x.ep, W x.sl, U x.ver, U x.tag.1, U x.tag.2] 29)) w.heap.size #[.int .i64 x.kind, .bool x.dirty, .int .i64 x.lba, W x.ep, W x.sl, U x.ver, U x.tag.1, U x.tag.2] 29 := Blk.new _ _ _
  have hk0 : Kept w (w.alloc (.cells #[.int .i64 x.kind, .bool x.dirty, .int .i64 x.lba, W x.ep, W x.sl, U x.ver, U x.tag.1, U x.tag.2] 29)) := (Below.refl _ _).alloc (Nat.le_refl _) _
  have r0 := hR.cell 0
  have r1 := hR.cell 1
  have r2 := hR.cell 2
  have r3 := hR.cell 3
  have r4 := hR.cell 4
  have r5 := hR.cell 5
  have r6 := hR.cell 6
  have r7 := hR.cell 7
  have H := Lib.hid h
  clear h
  go_enter Try.func4, Try.ntmps4
  go_wp2_with fail
  refine (put_leaf_lit _ _ _ _ _ _ _ _ s lo hi H.out _).mono ?_
  rintro e w1 ⟨v1, rfl, hown1, hk1⟩
  have s1 := Sl.of_own hown1
  replace hR := hR.kept hk1
  replace hk0 := Kept.of hk0 hk1
  clear hk1 hown1 r0 r1 r2 r3 r4 r5 r6 r7
  have r0 := hR.cell 0
  have r1 := hR.cell 1
  have r2 := hR.cell 2
  have r3 := hR.cell 3
  have r4 := hR.cell 4
  have r5 := hR.cell 5
  have r6 := hR.cell 6
  have r7 := hR.cell 7
  go_wp2_with fail
  refine (rput_leaf_lit _ _ _ _ _ _ _ _ s lo hi H.out _).mono ?_
  rintro e w2 ⟨v2, rfl, hown2, hk2⟩
  have s2 := Sl.of_own hown2
  replace s1 := s1.kept hk2
  replace hR := hR.kept hk2
  replace hk0 := Kept.of hk0 hk2
  clear hk2 hown2 r0 r1 r2 r3 r4 r5 r6 r7
  have r0 := hR.cell 0
  have r1 := hR.cell 1
  have r2 := hR.cell 2
  have r3 := hR.cell 3
  have r4 := hR.cell 4
  have r5 := hR.cell 5
  have r6 := hR.cell 6
  have r7 := hR.cell 7
  obtain ⟨lf, hlf⟩ : ∃ l, l = leafB (⟨x.kind, x.dirty, x.lba, x.ep, x.sl, x.ver, (x.tag.1, x.tag.2)⟩ : Lf) := ⟨_, rfl⟩
  have hll : lf.length = 32 := by rw [hlf]; exact leafB_length _
  rw [← hlf, ← hll] at s1 s2
  have HLF := Lib.hid hlf
  have HLL := Lib.hid hll
  clear hlf hll
  have c1 := str_of s1
  have c2 := str_of s2
  go_wp2_with fail
  refine (is_any _ _ _ _ _ _ _ _ s lo hi _).mono ?_
  rintro e w3 ⟨rfl, hk3⟩
  rw [H.out]
  replace hR := hR.kept hk3
  replace hk0 := Kept.of hk0 hk3
  replace s1 := s1.kept hk3
  clear c1 c2 s2
  clear hk3 r0 r1 r2 r3 r4 r5 r6 r7
  go_wp2_with fail
  refine (get_leaf_any _ lf s lo hi (by rw [HLL.out]; omega) _ s1).mono ?_
  rintro e w4 ⟨rfl, hk4⟩
  rw [show leafG lf s = some (⟨x.kind, x.dirty, x.lba, x.ep, x.sl, x.ver, (x.tag.1, x.tag.2)⟩ : Lf) from by rw [HLF.out]; exact leafG_leafB _ s H.out]
  simp only [Option.getD_some, Option.isSome_some]
  unfold Lf.val
  have hX := Blk.new w4 #[.int .i64 x.kind, .bool x.dirty, .int .i64 x.lba, W x.ep, W x.sl, U x.ver, U x.tag.1, U x.tag.2] 29
  have hka : Kept w4 (w4.alloc (.cells #[.int .i64 x.kind, .bool x.dirty, .int .i64 x.lba, W x.ep, W x.sl, U x.ver, U x.tag.1, U x.tag.2] 29)) := (Below.refl _ _).alloc (Nat.le_refl _) _
  replace hR := (hR.kept hk4).kept hka
  replace hk0 := Kept.of (Kept.of hk0 hk4) hka
  clear hk4 hka s1
  have r0 := hR.cell 0
  have r1 := hR.cell 1
  have r2 := hR.cell 2
  have r3 := hR.cell 3
  have r4 := hR.cell 4
  have r5 := hR.cell 5
  have r6 := hR.cell 6
  have r7 := hR.cell 7
  have x0 := hX.cell 0
  have x1 := hX.cell 1
  have x2 := hX.cell 2
  have x3 := hX.cell 3
  have x4 := hX.cell 4
  have x5 := hX.cell 5
  have x6 := hX.cell 6
  have x7 := hX.cell 7
  have e1 := lfEq_self x.kind x.dirty x.lba x.ep x.sl x.ver (x.tag.1, x.tag.2)
  clear hR hX
  go_wp2_with fail
  refine (known_any _).mono ?_
  rintro e w9 ⟨rfl, hk9⟩
  go_wp2
  go_ret
  exact ⟨rfl, hk0.of hk9⟩

set_option maxRecDepth 100000 in
set_option maxHeartbeats 8000000 in
theorem puts_no (x : Lf) (s : Int) (lo : -9223372036854775808 ≤ s) (hi : s ≤ 9223372036854775807) (h : isLeaf (⟨x.kind, x.dirty, x.lba, x.ep, x.sl, x.ver, (x.tag.1, x.tag.2)⟩ : Lf) s = false) (w : World) : Calls Try.prog 4 #[.agg #[.int .i64 x.kind, .bool x.dirty, .int .i64 x.lba, W x.ep, W x.sl, U x.ver, U x.tag.1, U x.tag.2], .int .i64 s] w fun e w' => e = .returned (.bool true) ∧ Kept w w' := by
  have hR : Blk (w.alloc (.cells #[.int .i64 x.kind, .bool x.dirty, .int .i64 x.lba, W x.ep, W x.sl, U x.ver, U x.tag.1, U x.tag.2] 29)) w.heap.size #[.int .i64 x.kind, .bool x.dirty, .int .i64 x.lba, W x.ep, W x.sl, U x.ver, U x.tag.1, U x.tag.2] 29 := Blk.new _ _ _
  have hk0 : Kept w (w.alloc (.cells #[.int .i64 x.kind, .bool x.dirty, .int .i64 x.lba, W x.ep, W x.sl, U x.ver, U x.tag.1, U x.tag.2] 29)) := (Below.refl _ _).alloc (Nat.le_refl _) _
  have r0 := hR.cell 0
  have r1 := hR.cell 1
  have r2 := hR.cell 2
  have r3 := hR.cell 3
  have r4 := hR.cell 4
  have r5 := hR.cell 5
  have r6 := hR.cell 6
  have r7 := hR.cell 7
  have H := Lib.hid h
  clear h
  go_enter Try.func4, Try.ntmps4
  go_wp2_with fail
  refine (put_leaf_none _ _ _ _ _ _ _ _ s lo hi H.out _).mono ?_
  rintro e w1 ⟨rfl, hk1⟩
  replace hR := hR.kept hk1
  replace hk0 := Kept.of hk0 hk1
  clear hk1 r0 r1 r2 r3 r4 r5 r6 r7
  have r0 := hR.cell 0
  have r1 := hR.cell 1
  have r2 := hR.cell 2
  have r3 := hR.cell 3
  have r4 := hR.cell 4
  have r5 := hR.cell 5
  have r6 := hR.cell 6
  have r7 := hR.cell 7
  go_wp2_with fail
  refine (rput_leaf_none _ _ _ _ _ _ _ _ s lo hi H.out _).mono ?_
  rintro e w2 ⟨rfl, hk2⟩
  replace hR := hR.kept hk2
  replace hk0 := Kept.of hk0 hk2
  clear hk2 r0 r1 r2 r3 r4 r5 r6 r7
  have r0 := hR.cell 0
  have r1 := hR.cell 1
  have r2 := hR.cell 2
  have r3 := hR.cell 3
  have r4 := hR.cell 4
  have r5 := hR.cell 5
  have r6 := hR.cell 6
  have r7 := hR.cell 7
  have c1 := str_of (bs := []) (Sl.nil w2)
  go_wp2_with fail
  refine (is_any _ _ _ _ _ _ _ _ s lo hi _).mono ?_
  rintro e w3 ⟨rfl, hk3⟩
  rw [H.out]
  replace hR := hR.kept hk3
  replace hk0 := Kept.of hk0 hk3
  clear c1
  clear hk3 r0 r1 r2 r3 r4 r5 r6 r7
  go_wp2_with fail
  refine (get_leaf_any _ [] s lo hi (by simp) _ (Sl.nil _)).mono ?_
  rintro e w4 ⟨rfl, hk4⟩
  have hg : leafG [] s = none := by unfold leafG; rw [if_neg (fun hh => by simp at hh)]
  rw [hg]
  simp only [Option.getD_none, Option.isSome_none]
  unfold Lf.zero Lf.val
  have hka : Kept w4 (w4.alloc (.cells #[.int .i64 0, .bool false, .int .i64 0, W 0#32, W 0#32, U 0#64, U 0#64, U 0#64] 29)) := (Below.refl _ _).alloc (Nat.le_refl _) _
  replace hk0 := Kept.of (Kept.of hk0 hk4) hka
  clear hk4 hka hR hg
  go_wp2_with fail
  refine (known_any _).mono ?_
  rintro e w9 ⟨rfl, hk9⟩
  go_wp2
  go_ret
  exact ⟨rfl, hk0.of hk9⟩

theorem puts_walk (x : Lf) (s : Int) (lo : -9223372036854775808 ≤ s) (hi : s ≤ 9223372036854775807) (w : World) : Calls Try.prog 4 #[x.val, .int .i64 s] w fun e w' => e = .returned (.bool true) ∧ Kept w w' := by
  unfold Lf.val
  cases h : isLeaf (⟨x.kind, x.dirty, x.lba, x.ep, x.sl, x.ver, (x.tag.1, x.tag.2)⟩ : Lf) s
  · exact puts_no x s lo hi h w
  · exact puts_ok x s lo hi h w

namespace leafPutsRow
open Go.ChangeShapes Go.WideShapes Go.ChangeAt Go.RowKit
theorem own : ownKnob Try.prog.godebug = none := by kernel_rfl
theorem laidOut : laidOutB Try.prog = true := by kernel_rfl

set_option maxRecDepth 100000 in
theorem lifted (os : Os) (started : os.Started) (H : Type) (enc : TypeId × Value → H) :
    ReturnsInHanded {} Try.checked os 4 .any (Rows.leafPutsSpec.pre6 enc Try.prog Try.f4 Rows.leafPutsRow.domain false) (Rows.leafPutsSpec.post enc Try.prog Try.f4 false true false false) := by
  refine returnsInHanded_of_change (C := Try.checked) own started (by kernel_rfl) Try.func4
    (ChangeSpec.witness6 (enc := enc) (C := Try.checked) false ⟨#[], #[.agg #[.int .i64 0, .bool false, .int .i64 0, .int .u32 0, .int .u32 0, .int .u64 0, .int .u64 0, .int .u64 0], .int .i64 0], []⟩ 8 (by kernel_rfl) (by kernel_rfl) (by kernel_rfl) (by kernel_rfl)) ?_
  intro W base args ds gs before hval0 hW _ hsz
  have hval : ∀ (j : Nat) t v, Try.f4.params[j]? = some t → args[j]? = some v → Value.okWide Try.prog W .any base t v := hval0
  have hW' := hW
  obtain ⟨p, q, hA0, hV, rfl, hfz, hnd⟩ := hW
  have hA : DataW.TrodAll enc Try.prog W 0 (fun _ => true) true Try.f4.params.toList args.toList ds p := hA0
  rw [Try.params4] at hA hval
  obtain ⟨v0, vs0, d0, ds0, p0, q0, hargs, rfl, rfl, h0, r0⟩ := trodAll_cons hA
  obtain ⟨v1, vs1, d1, ds1, p1, q1, rfl, rfl, rfl, h1, r1⟩ := trodAll_cons r0
  obtain ⟨rfl, rfl, rfl⟩ := trodAll_nil r1
  obtain rfl : args = #[v0, v1] := by cases args; simp_all
  obtain ⟨a0, rfl⟩ := open_leaf (H := H) (hval 0 29 v0 rfl rfl) h0
  obtain ⟨a1, rfl, lo1, hi1⟩ := open_I Try.underlying3 (hval 1 3 v1 rfl rfl) h1
  refine (puts_walk a0 a1 lo1 hi1 W).mono fun e W' ⟨he, bel⟩ => ?_
  subst he
  exact ⟨_, rfl, law_post (tb := 4) laidOut (by kernel_rfl) Try.underlying4 (by rfl) rfl (by intro xs hxs; match xs, hxs with | [x0, x1], _ => rfl) hW' bel⟩

theorem over : Rows.leafPutsRow.holds Try.pinned (OpenSpec.ofChange Rows.leafPutsSpec) :=
  OpenClaim.holds_of_wide 4 Try.f4 rfl rfl rfl rfl rfl rfl rfl ⟨rfl, rfl, rfl, rfl, rfl⟩ rfl rfl rfl rfl rfl (by kernel_rfl) Try.func4 (by kernel_rfl)
    (of_decide_eq_true (by kernel_rfl)) (by unfold Func.isWrapper; rw [if_neg (of_decide_eq_false (by kernel_rfl))]; exact ⟨rfl, rfl⟩)
    (fun os started H enc _ => lifted os started H enc)
end leafPutsRow

theorem leafPuts_holds : Rows.LeafPutsSaid := leafPutsRow.over
#print axioms leafPuts_holds

end Go.Proofs.Ytkbihhdgipckgaa
