/- LeafGets: any bytes as a leaf, or none. -/
import Derived.Test.YtkbihhdgipckgaaLeafH
import Derived.Test.YtkbihhdgipckgaaRows
namespace Go.Proofs.Ytkbihhdgipckgaa
open Go Go.RowKit

theorem lfEq_self (k : Int) (b : Bool) (z : Int) (e q : BitVec 32) (v : BitVec 64) (t : Pair) : lfEq ⟨k, b, z, e, q, v, t⟩ ⟨k, b, z, e, q, v, t⟩ = true := by unfold lfEq; simp
set_option maxRecDepth 100000 in
set_option maxHeartbeats 8000000 in
theorem gets_in (vb : Value) (b : List UInt8) (s : Int) (lo : -9223372036854775808 ≤ s) (hi : s ≤ 9223372036854775807) (hl : b.length ≤ 100) (w : World) (hb : Sl w vb b.length (bcells b)) :
    Calls Try.prog 5 #[vb, .int .i64 s] w fun e w' => e = .returned (.bool true) ∧ Kept w w' := by
  obtain ⟨ba, bc, hbv⟩ := hb.len
  subst hbv
  have n0 : (b.length : Int) ≤ 100 := by omega
  have hk0 : Kept w (w.alloc (.cells #[] 5)) := (Below.refl _ _).alloc (Nat.le_refl _) _
  have ho : (w.alloc (.cells #[] 5)).ownsRow w.heap.size 5 1 (.slice (some ⟨w.heap.size, 0, none⟩) 0 0) 0 (bcells []) := own_made 0 (by decide) 5 [] rfl (Blk.new _ _ _) (Nat.le_refl _)
  go_enter Try.func5, Try.ntmps5
  go_wp2_with (at_builtin; refine wpList_append sl_bytes rfl (by rfl) (by rfl) (by rfl) ho (hb.kept hk0) (by simp [bcells]) (oneCell_V8 b) (by unfold maxLen; omega) (by omega) (by simp) ?_; intro v0 w1 hown1 hg1 hat1)
  have hk1 : Kept w w1 := below_append hk0 ho hg1 (by simp)
  have s1 : Sl w1 v0 b.length (bcells b) := by have := Sl.of_own hown1; simpa [bcells] using this
  refine (get_leaf_any _ b s lo hi (by omega) _ s1).mono ?_
  rintro e w2 ⟨rfl, hk2⟩
  obtain ⟨x, hx⟩ : ∃ x, x = (leafG b s).getD Lf.zero := ⟨_, rfl⟩
  obtain ⟨ok, hok⟩ : ∃ ok, ok = (leafG b s).isSome := ⟨_, rfl⟩
  have HX := Lib.hid hx
  have HOK := Lib.hid hok
  rw [← hx, ← hok]
  unfold Lf.val
  have hX := Blk.new w2 #[.int .i64 x.kind, .bool x.dirty, .int .i64 x.lba, W x.ep, W x.sl, U x.ver, U x.tag.1, U x.tag.2] 29
  have hk3 : Kept w (w2.alloc (.cells #[.int .i64 x.kind, .bool x.dirty, .int .i64 x.lba, W x.ep, W x.sl, U x.ver, U x.tag.1, U x.tag.2] 29)) := Kept.of hk1 (hk2.alloc (by have := hk2.size; omega) _)
  clear hx hok hown1 hg1 hat1 s1 ho hk0 hk1 hk2
  go_wp2_with fail
  refine (rget_leaf_any _ b s lo hi (by omega) _ (hb.kept hk3)).mono ?_
  rintro e w4 ⟨rfl, hk4⟩
  rw [← HX.out, ← HOK.out]
  unfold Lf.val
  replace hX := (hX.kept hk4).alloc (.cells #[.int .i64 x.kind, .bool x.dirty, .int .i64 x.lba, W x.ep, W x.sl, U x.ver, U x.tag.1, U x.tag.2] 29)
  have hY := Blk.new w4 #[.int .i64 x.kind, .bool x.dirty, .int .i64 x.lba, W x.ep, W x.sl, U x.ver, U x.tag.1, U x.tag.2] 29
  have hk5 : Kept w (w4.alloc (.cells #[.int .i64 x.kind, .bool x.dirty, .int .i64 x.lba, W x.ep, W x.sl, U x.ver, U x.tag.1, U x.tag.2] 29)) := (Kept.of hk3 hk4).alloc (by have := (Kept.of hk3 hk4).size; omega) _
  have x0 := hX.cell 0
  have x1 := hX.cell 1
  have x2 := hX.cell 2
  have x3 := hX.cell 3
  have x4 := hX.cell 4
  have x5 := hX.cell 5
  have x6 := hX.cell 6
  have x7 := hX.cell 7
  have y0 := hY.cell 0
  have y1 := hY.cell 1
  have y2 := hY.cell 2
  have y3 := hY.cell 3
  have y4 := hY.cell 4
  have y5 := hY.cell 5
  have y6 := hY.cell 6
  have y7 := hY.cell 7
  have e1 := lfEq_self x.kind x.dirty x.lba x.ep x.sl x.ver (x.tag.1, x.tag.2)
  clear hk3 hk4 hX hY hb
  go_wp2_with fail
  refine (known_any _).mono ?_
  rintro e w9 ⟨rfl, hk9⟩
  go_wp2
  go_ret
  exact ⟨rfl, hk5.of hk9⟩

set_option maxRecDepth 100000 in
set_option maxHeartbeats 8000000 in
theorem gets_walk (vb : Value) (b : List UInt8) (s : Int) (lo : -9223372036854775808 ≤ s) (hi : s ≤ 9223372036854775807) (w : World) (hb : Sl w vb b.length (bcells b)) :
    Calls Try.prog 5 #[vb, .int .i64 s] w fun e w' => e = .returned (.bool true) ∧ Kept w w' := by
  by_cases h1 : 100 < b.length
  · obtain ⟨ba, bc, hbv⟩ := hb.len
    subst hbv
    have n0 : (100 : Int) < (b.length : Int) := by omega
    go_enter Try.func5, Try.ntmps5
    go_wp2
    go_ret
    exact ⟨rfl, Below.refl _ _⟩
  exact gets_in vb b s lo hi (by omega) w hb

namespace leafGetsRow
open Go.ChangeShapes Go.WideShapes Go.ChangeAt Go.RowKit
theorem own : ownKnob Try.prog.godebug = none := by kernel_rfl
theorem laidOut : laidOutB Try.prog = true := by kernel_rfl

set_option maxRecDepth 100000 in
theorem lifted (os : Os) (started : os.Started) (H : Type) (enc : TypeId × Value → H) :
    ReturnsInHanded {} Try.checked os 5 .any (Rows.leafGetsSpec.pre6 enc Try.prog Try.f5 Rows.leafGetsRow.domain false) (Rows.leafGetsSpec.post enc Try.prog Try.f5 false true false false) := by
  refine returnsInHanded_of_change (C := Try.checked) own started (by kernel_rfl) Try.func5
    (ChangeSpec.witness6 (enc := enc) (C := Try.checked) false ⟨#[], #[.slice none 0 0, .int .i64 0], []⟩ 8 (by kernel_rfl) (by kernel_rfl) (by kernel_rfl) (by kernel_rfl)) ?_
  intro W base args ds gs before hval0 hW _ hsz
  have hval : ∀ (j : Nat) t v, Try.f5.params[j]? = some t → args[j]? = some v → Value.okWide Try.prog W .any base t v := hval0
  have hW' := hW
  obtain ⟨p, q, hA0, hV, rfl, hfz, hnd⟩ := hW
  have hA : DataW.TrodAll enc Try.prog W 0 (fun _ => true) true Try.f5.params.toList args.toList ds p := hA0
  rw [Try.params5] at hA hval
  obtain ⟨v0, vs0, d0, ds0, p0, q0, hargs, rfl, rfl, h0, r0⟩ := trodAll_cons hA
  obtain ⟨v1, vs1, d1, ds1, p1, q1, rfl, rfl, rfl, h1, r1⟩ := trodAll_cons r0
  obtain ⟨rfl, rfl, rfl⟩ := trodAll_nil r1
  obtain rfl : args = #[v0, v1] := by cases args; simp_all
  obtain ⟨a0b, a0⟩ := open_bytes (e := 5) Try.underlying31 Try.underlying5 (by kernel_rfl) (hval 0 31 v0 rfl rfl) h0
  obtain ⟨a1, rfl, lo1, hi1⟩ := open_I Try.underlying3 (hval 1 3 v1 rfl rfl) h1
  refine (gets_walk v0 a0b a1 lo1 hi1 W a0).mono fun e W' ⟨he, bel⟩ => ?_
  subst he
  exact ⟨_, rfl, law_post (tb := 4) laidOut (by kernel_rfl) Try.underlying4 (by rfl) rfl (by intro xs hxs; match xs, hxs with | [x0, x1], _ => rfl) hW' bel⟩

theorem over : Rows.leafGetsRow.holds Try.pinned (OpenSpec.ofChange Rows.leafGetsSpec) :=
  OpenClaim.holds_of_wide 5 Try.f5 rfl rfl rfl rfl rfl rfl rfl ⟨rfl, rfl, rfl, rfl, rfl⟩ rfl rfl rfl rfl rfl (by kernel_rfl) Try.func5 (by kernel_rfl)
    (of_decide_eq_true (by kernel_rfl)) (by unfold Func.isWrapper; rw [if_neg (of_decide_eq_false (by kernel_rfl))]; exact ⟨rfl, rfl⟩)
    (fun os started H enc _ => lifted os started H enc)
end leafGetsRow

theorem leafGets_holds : Rows.LeafGetsSaid := leafGetsRow.over
#print axioms leafGets_holds

end Go.Proofs.Ytkbihhdgipckgaa
