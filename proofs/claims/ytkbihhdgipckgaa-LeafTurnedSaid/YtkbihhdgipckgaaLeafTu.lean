/- LeafTurned: a leaf's bytes with one turned are taken just as the document takes them. -/
import Derived.Test.YtkbihhdgipckgaaLeafH
import Derived.Test.YtkbihhdgipckgaaTurn
import Derived.Test.YtkbihhdgipckgaaRows
namespace Go.Proofs.Ytkbihhdgipckgaa
open Go Go.RowKit

theorem lfEq_self (k : Int) (b : Bool) (z : Int) (e q : BitVec 32) (v : BitVec 64) (t : Pair) : lfEq ⟨k, b, z, e, q, v, t⟩ ⟨k, b, z, e, q, v, t⟩ = true := by unfold lfEq; simp
theorem turned (x : Lf) (s : Int) (h : isLeaf x s = true) (i : Nat) (hi : i < 32) (y : UInt8) (z : Lf) (hz : leafG ((leafB x).set i ((leafB x)[i]'(by rw [leafB_length]; exact hi) ^^^ y)) s = some z) : (z = x) ↔ y = 0 := by
  obtain ⟨h1, h2⟩ := leafG_some hz
  rw [← turn_eq (leafB x) i (by rw [leafB_length]; exact hi) y]
  constructor
  · intro e; rw [← h1, e]
  · intro e
    rw [e, leafG_leafB x s h] at hz
    cases hz; rfl
set_option maxRecDepth 100000 in
set_option maxHeartbeats 8000000 in
theorem turned_in (x : Lf) (s : Int) (lo : -9223372036854775808 ≤ s) (hi : s ≤ 9223372036854775807) (h : isLeaf (⟨x.kind, x.dirty, x.lba, x.ep, x.sl, x.ver, (x.tag.1, x.tag.2)⟩ : Lf) s = true) (at_ : Int) (lo2 : -9223372036854775808 ≤ at_) (hi2 : at_ ≤ 9223372036854775807) (y : UInt8) (w : World) : Calls Try.prog 6 #[.agg #[.int .i64 x.kind, .bool x.dirty, .int .i64 x.lba, W x.ep, W x.sl, U x.ver, U x.tag.1, U x.tag.2], .int .i64 s, .int .i64 at_, V8 y] w fun e w' => e = .returned (.bool true) ∧ Kept w w' := by
  have hR : Blk (w.alloc (.cells #[.int .i64 x.kind, .bool x.dirty, .int .i64 x.lba, W x.ep, W x.sl, U x.ver, U x.tag.1, U x.tag.2] 29)) w.heap.size #[.int .i64 x.kind, .bool x.dirty, .int .i64 x.lba, W x.ep, W x.sl, U x.ver, U x.tag.1, U x.tag.2] 29 := Blk.new _ _ _
  have hk0 : Kept w (w.alloc (.cells #[.int .i64 x.kind, .bool x.dirty, .int .i64 x.lba, W x.ep, W x.sl, U x.ver, U x.tag.1, U x.tag.2] 29)) := (Below.refl _ _).alloc (Nat.le_refl _) _
  have r0 := hR.cell 0
  have r1 := hR.cell 1
  have r2 := hR.cell 2
  have r3 := hR.cell 3
  have r4 := hR.cell 4
  have r5 := hR.cell 5
  have r6 := hR.cell 6
  have r7 := hR.cell 7
  have H := Lib.hid h
  clear h
  go_enter Try.func6, Try.ntmps6
  go_wp2_with fail
  refine (rput_leaf_lit _ _ _ _ _ _ _ _ s lo hi H.out _).mono ?_
  rintro e w1 ⟨v1, rfl, hown1, hk1⟩
  replace hR := hR.kept hk1
  obtain ⟨g, cap, rfl, hg1, hg2, hg3, hg4, hg5, hg6, hg7⟩ := own_set hown1 (by omega)
  clear r0 r1 r2 r3 r4 r5 r6 r7
  obtain ⟨m, hm, hbm⟩ := and_low at_
  obtain ⟨i, hi⟩ : ∃ i, i = m % 32 := ⟨_, rfl⟩
  have hmi : (m : Int).tmod 32 = (i : Int) := by rw [Int.tmod_eq_emod_of_nonneg (by omega)]; omega
  have i0 : (0 : Int) ≤ (i : Int) := by omega
  have i1 : (i : Int) < 32 := by omega
  obtain ⟨B, hB⟩ : ∃ B, B = leafB (⟨x.kind, x.dirty, x.lba, x.ep, x.sl, x.ver, (x.tag.1, x.tag.2)⟩ : Lf) := ⟨_, rfl⟩
  rw [← hB] at hg4 hg6 hg7 hown1
  have hil : i < B.length := by omega
  have c0 := (hg6 i hil).1
  have f0 := (hg6 i hil).2
  obtain ⟨y0, hy0⟩ : ∃ y0, y0 = B[i] := ⟨_, rfl⟩
  rw [← hy0] at c0
  obtain ⟨b', hb'⟩ : ∃ b' : List UInt8, b' = B.set i (y0 ^^^ y) := ⟨_, rfl⟩
  have hl' : b'.length = 32 := by rw [hb', List.length_set]; omega
  have s1 := hg7 i (y0 ^^^ y) (by omega)
  rw [← hb'] at s1
  have s1' : Sl (w1.setCell ⟨g, i, none⟩ (V8 (y0 ^^^ y))) (.slice (some ⟨g, 0, none⟩) 32 cap) b'.length (bcells b') := by rw [hl']; exact s1
  have hk2 : Kept w (w1.setCell ⟨g, i, none⟩ (V8 (y0 ^^^ y))) := (Kept.of hk0 hk1).setCell (by have := hg1; simp at this; show _ ≤ g; omega) _
  replace hR := hR.other (a := ⟨g, i, none⟩) (by have := hg1; simp at this; show _ ≠ g; omega) (V8 (y0 ^^^ y))
  have HT : ∀ z, leafG b' s = some z → ((z = (⟨x.kind, x.dirty, x.lba, x.ep, x.sl, x.ver, (x.tag.1, x.tag.2)⟩ : Lf)) ↔ y = 0) := fun z hz => turned (⟨x.kind, x.dirty, x.lba, x.ep, x.sl, x.ver, (x.tag.1, x.tag.2)⟩ : Lf) s H.out i (by omega) y z (by rw [← hz, hb', hy0]; subst hB; rfl)
  have HL := Lib.hid hl'
  have HI := Lib.hid hi
  clear hb' hl' s1 hi hown1 hg6 hg7 hg4 hk0 hk1 hil hy0 hB
  go_wp2_with fail
  refine (get_leaf_any _ b' s lo (by assumption) (by rw [HL.out]; omega) _ s1').mono ?_
  rintro e w3 ⟨rfl, hk3⟩
  obtain ⟨z, hz⟩ : ∃ z, z = (leafG b' s).getD Lf.zero := ⟨_, rfl⟩
  obtain ⟨ok, hok⟩ : ∃ ok, ok = (leafG b' s).isSome := ⟨_, rfl⟩
  have htz : ok = true → ((z = (⟨x.kind, x.dirty, x.lba, x.ep, x.sl, x.ver, (x.tag.1, x.tag.2)⟩ : Lf)) ↔ y = 0) := by
    intro e
    rw [hok] at e
    obtain ⟨z', hz'⟩ := Option.isSome_iff_exists.1 e
    have : z = z' := by rw [hz, hz']; rfl
    rw [this]
    exact HT z' hz'
  have HZ := Lib.hid hz
  have HOK := Lib.hid hok
  have HTZ := Lib.hid htz
  rw [← hz, ← hok]
  unfold Lf.val
  have hX := Blk.new w3 #[.int .i64 z.kind, .bool z.dirty, .int .i64 z.lba, W z.ep, W z.sl, U z.ver, U z.tag.1, U z.tag.2] 29
  have hk4 := (Below.refl w3.heap.size w3).alloc (Nat.le_refl _) (.cells #[.int .i64 z.kind, .bool z.dirty, .int .i64 z.lba, W z.ep, W z.sl, U z.ver, U z.tag.1, U z.tag.2] 29)
  replace hR := (hR.kept hk3).kept hk4
  replace s1' := (s1'.kept hk3).kept hk4
  replace hk2 := (hk2.of hk3).of hk4
  clear hz hok hk3 hk4 c0 f0 HT htz hbm hmi
  go_wp2_with fail
  refine (rget_leaf_any _ b' s lo (by assumption) (by rw [HL.out]; omega) _ s1').mono ?_
  rintro e w5 ⟨rfl, hk5⟩
  rw [← HZ.out, ← HOK.out]
  unfold Lf.val
  have hk6 := (Below.refl w5.heap.size w5).alloc (Nat.le_refl _) (.cells #[.int .i64 z.kind, .bool z.dirty, .int .i64 z.lba, W z.ep, W z.sl, U z.ver, U z.tag.1, U z.tag.2] 29)
  have hY := Blk.new w5 #[.int .i64 z.kind, .bool z.dirty, .int .i64 z.lba, W z.ep, W z.sl, U z.ver, U z.tag.1, U z.tag.2] 29
  replace hR := (hR.kept hk5).kept hk6
  replace hX := (hX.kept hk5).kept hk6
  replace hk2 := (hk2.of hk5).of hk6
  have r0 := hR.cell 0
  have r1 := hR.cell 1
  have r2 := hR.cell 2
  have r3 := hR.cell 3
  have r4 := hR.cell 4
  have r5 := hR.cell 5
  have r6 := hR.cell 6
  have r7 := hR.cell 7
  have x0 := hX.cell 0
  have x1 := hX.cell 1
  have x2 := hX.cell 2
  have x3 := hX.cell 3
  have x4 := hX.cell 4
  have x5 := hX.cell 5
  have x6 := hX.cell 6
  have x7 := hX.cell 7
  have y0 := hY.cell 0
  have y1 := hY.cell 1
  have y2 := hY.cell 2
  have y3 := hY.cell 3
  have y4 := hY.cell 4
  have y5 := hY.cell 5
  have y6 := hY.cell 6
  have y7 := hY.cell 7
  have e1 := lfEq_self z.kind z.dirty z.lba z.ep z.sl z.ver (z.tag.1, z.tag.2)
  clear hR hX hY s1' hk5 hk6
  cases ok
  · go_wp2_with fail
    refine (known_any _).mono ?_
    rintro e w9 ⟨rfl, hk9⟩
    go_wp2
    go_ret
    exact ⟨rfl, hk2.of hk9⟩
  · have htz2 := HTZ.out rfl
    by_cases hy : y = 0
    · subst hy
      clear htz2
      go_wp2_with fail
      refine (known_any _).mono ?_
      rintro e w9 ⟨rfl, hk9⟩
      go_wp2
      go_ret
      exact ⟨rfl, hk2.of hk9⟩
    · have hzx : ¬ z = (⟨x.kind, x.dirty, x.lba, x.ep, x.sl, x.ver, (x.tag.1, x.tag.2)⟩ : Lf) := fun e => hy (htz2.1 e)
      have hzd : lfEq (⟨z.kind, z.dirty, z.lba, z.ep, z.sl, z.ver, (z.tag.1, z.tag.2)⟩ : Lf) (⟨x.kind, x.dirty, x.lba, x.ep, x.sl, x.ver, (x.tag.1, x.tag.2)⟩ : Lf) = false := decide_eq_false (fun e => hzx e)
      have hyb : (y == 0) = false := by simpa using hy
      clear htz2
      go_wp2_with fail
      refine (known_any _).mono ?_
      rintro e w9 ⟨rfl, hk9⟩
      go_wp2
      go_ret
      exact ⟨rfl, hk2.of hk9⟩

set_option maxRecDepth 100000 in
set_option maxHeartbeats 8000000 in
theorem turned_no (x : Lf) (s : Int) (lo : -9223372036854775808 ≤ s) (hi : s ≤ 9223372036854775807) (h : isLeaf (⟨x.kind, x.dirty, x.lba, x.ep, x.sl, x.ver, (x.tag.1, x.tag.2)⟩ : Lf) s = false) (at_ : Int) (y : UInt8) (w : World) : Calls Try.prog 6 #[.agg #[.int .i64 x.kind, .bool x.dirty, .int .i64 x.lba, W x.ep, W x.sl, U x.ver, U x.tag.1, U x.tag.2], .int .i64 s, .int .i64 at_, V8 y] w fun e w' => e = .returned (.bool true) ∧ Kept w w' := by
  have hR : Blk (w.alloc (.cells #[.int .i64 x.kind, .bool x.dirty, .int .i64 x.lba, W x.ep, W x.sl, U x.ver, U x.tag.1, U x.tag.2] 29)) w.heap.size #[.int .i64 x.kind, .bool x.dirty, .int .i64 x.lba, W x.ep, W x.sl, U x.ver, U x.tag.1, U x.tag.2] 29 := Blk.new _ _ _
  have hk0 : Kept w (w.alloc (.cells #[.int .i64 x.kind, .bool x.dirty, .int .i64 x.lba, W x.ep, W x.sl, U x.ver, U x.tag.1, U x.tag.2] 29)) := (Below.refl _ _).alloc (Nat.le_refl _) _
  have r0 := hR.cell 0
  have r1 := hR.cell 1
  have r2 := hR.cell 2
  have r3 := hR.cell 3
  have r4 := hR.cell 4
  have r5 := hR.cell 5
  have r6 := hR.cell 6
  have r7 := hR.cell 7
  have H := Lib.hid h
  clear h
  go_enter Try.func6, Try.ntmps6
  go_wp2_with fail
  refine (rput_leaf_none _ _ _ _ _ _ _ _ s lo hi H.out _).mono ?_
  rintro e w1 ⟨rfl, hk1⟩
  clear r0 r1 r2 r3 r4 r5 r6 r7
  go_wp2
  go_ret
  exact ⟨rfl, hk0.of hk1⟩

theorem turned_walk (x : Lf) (s : Int) (lo : -9223372036854775808 ≤ s) (hi : s ≤ 9223372036854775807) (at_ : Int) (lo2 : -9223372036854775808 ≤ at_) (hi2 : at_ ≤ 9223372036854775807) (y : UInt8) (w : World) : Calls Try.prog 6 #[x.val, .int .i64 s, .int .i64 at_, V8 y] w fun e w' => e = .returned (.bool true) ∧ Kept w w' := by
  unfold Lf.val
  cases h : isLeaf (⟨x.kind, x.dirty, x.lba, x.ep, x.sl, x.ver, (x.tag.1, x.tag.2)⟩ : Lf) s
  · exact turned_no x s lo hi h at_ y w
  · exact turned_in x s lo hi h at_ lo2 hi2 y w

namespace leafTurnedRow
open Go.ChangeShapes Go.WideShapes Go.ChangeAt Go.RowKit
theorem own : ownKnob Try.prog.godebug = none := by kernel_rfl
theorem laidOut : laidOutB Try.prog = true := by kernel_rfl

set_option maxRecDepth 100000 in
theorem lifted (os : Os) (started : os.Started) (H : Type) (enc : TypeId × Value → H) :
    ReturnsInHanded {} Try.checked os 6 .any (Rows.leafTurnedSpec.pre6 enc Try.prog Try.f6 Rows.leafTurnedRow.domain false) (Rows.leafTurnedSpec.post enc Try.prog Try.f6 false true false false) := by
  refine returnsInHanded_of_change (C := Try.checked) own started (by kernel_rfl) Try.func6
    (ChangeSpec.witness6 (enc := enc) (C := Try.checked) false ⟨#[], #[.agg #[.int .i64 0, .bool false, .int .i64 0, .int .u32 0, .int .u32 0, .int .u64 0, .int .u64 0, .int .u64 0], .int .i64 0, .int .i64 0, .int .u8 0], []⟩ 8 (by kernel_rfl) (by kernel_rfl) (by kernel_rfl) (by kernel_rfl)) ?_
  intro W base args ds gs before hval0 hW _ hsz
  have hval : ∀ (j : Nat) t v, Try.f6.params[j]? = some t → args[j]? = some v → Value.okWide Try.prog W .any base t v := hval0
  have hW' := hW
  obtain ⟨p, q, hA0, hV, rfl, hfz, hnd⟩ := hW
  have hA : DataW.TrodAll enc Try.prog W 0 (fun _ => true) true Try.f6.params.toList args.toList ds p := hA0
  rw [Try.params6] at hA hval
  obtain ⟨v0, vs0, d0, ds0, p0, q0, hargs, rfl, rfl, h0, r0⟩ := trodAll_cons hA
  obtain ⟨v1, vs1, d1, ds1, p1, q1, rfl, rfl, rfl, h1, r1⟩ := trodAll_cons r0
  obtain ⟨v2, vs2, d2, ds2, p2, q2, rfl, rfl, rfl, h2, r2⟩ := trodAll_cons r1
  obtain ⟨v3, vs3, d3, ds3, p3, q3, rfl, rfl, rfl, h3, r3⟩ := trodAll_cons r2
  obtain ⟨rfl, rfl, rfl⟩ := trodAll_nil r3
  obtain rfl : args = #[v0, v1, v2, v3] := by cases args; simp_all
  obtain ⟨a0, rfl⟩ := open_leaf (H := H) (hval 0 29 v0 rfl rfl) h0
  obtain ⟨a1, rfl, lo1, hi1⟩ := open_I Try.underlying3 (hval 1 3 v1 rfl rfl) h1
  obtain ⟨a2, rfl, lo2, hi2⟩ := open_I Try.underlying3 (hval 2 3 v2 rfl rfl) h2
  obtain ⟨a3, rfl⟩ := open_V8 Try.underlying5 (hval 3 5 v3 rfl rfl) h3
  refine (turned_walk a0 a1 lo1 hi1 a2 lo2 hi2 a3 W).mono fun e W' ⟨he, bel⟩ => ?_
  subst he
  exact ⟨_, rfl, law_post (tb := 4) laidOut (by kernel_rfl) Try.underlying4 (by rfl) rfl (by intro xs hxs; match xs, hxs with | [x0, x1, x2, x3], _ => rfl) hW' bel⟩

theorem over : Rows.leafTurnedRow.holds Try.pinned (OpenSpec.ofChange Rows.leafTurnedSpec) :=
  OpenClaim.holds_of_wide 6 Try.f6 rfl rfl rfl rfl rfl rfl rfl ⟨rfl, rfl, rfl, rfl, rfl⟩ rfl rfl rfl rfl rfl (by kernel_rfl) Try.func6 (by kernel_rfl)
    (of_decide_eq_true (by kernel_rfl)) (by unfold Func.isWrapper; rw [if_neg (of_decide_eq_false (by kernel_rfl))]; exact ⟨rfl, rfl⟩)
    (fun os started H enc _ => lifted os started H enc)
end leafTurnedRow

theorem leafTurned_holds : Rows.LeafTurnedSaid := leafTurnedRow.over
#print axioms leafTurned_holds

end Go.Proofs.Ytkbihhdgipckgaa
