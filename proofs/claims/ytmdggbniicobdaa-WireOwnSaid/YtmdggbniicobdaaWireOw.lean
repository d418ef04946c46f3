/- WireOwn: what is answered is new memory. -/
import Derived.Test.YtmdggbniicobdaaCut
import Derived.Test.YtmdggbniicobdaaWireK
import Derived.Test.YtmdggbniicobdaaRows
namespace Go.Proofs.Ytmdggbniicobdaa
open Go Go.RowKit

set_option maxRecDepth 100000 in
set_option maxHeartbeats 4000000 in
theorem own_in (vb : Value) (b : List UInt8) (h1 : 1 ≤ b.length) (hl : b.length ≤ 100) (w : World) (hb : Sl w vb b.length (bcells b)) :
    Calls Try.prog 8 #[vb] w fun e w' => e = .returned (.bool true) ∧ Kept w w' := by
  obtain ⟨ba, bc, hbv⟩ := hb.len
  subst hbv
  have n0 : (b.length : Int) ≤ 100 := by omega
  have n1 : (1 : Int) ≤ (b.length : Int) := by omega
  obtain ⟨n, hn⟩ : ∃ n, n = b.length := ⟨_, rfl⟩
  have hk0 : Kept w (w.alloc (.cells #[] 5)) := (Below.refl _ _).alloc (Nat.le_refl _) _
  have ho : (w.alloc (.cells #[] 5)).ownsRow w.heap.size 5 1 (.slice (some ⟨w.heap.size, 0, none⟩) 0 0) 0 (bcells []) := own_made 0 (by decide) 5 [] rfl (Blk.new _ _ _) (Nat.le_refl _)
  go_enter Try.func8, Try.ntmps8
  go_wp2_with (at_builtin; refine wpList_append sl_bytes rfl (by rfl) (by rfl) (by rfl) ho (hb.kept hk0) (by simp [bcells]) (oneCell_V8 b) (by unfold maxLen; omega) (by omega) (by simp) ?_; intro v0 w1 hown1 hg1 hat1; obtain ⟨va, vc, hv0⟩ := (Sl.of_own hown1).len; subst hv0; simp only [Nat.zero_add] at hown1 hg1 hat1 ⊢)
  have hk1 : Kept w w1 := below_append hk0 ho hg1 (by simp)
  have s1 : Sl w1 (.slice va b.length vc) b.length (bcells b) := by have := Sl.of_own hown1; simpa [bcells] using this
  have hk2 : Kept w1 (w1.alloc (.cells #[.int .i64 (b.length : Int)] 3)) := (Below.refl _ _).alloc (Nat.le_refl _) _
  clear ho hk0
  go_wp2_with fail
  refine (cut_any _ _ b [(b.length : Int)] (by omega) (by simp) _ (s1.kept hk2) (Sl.one _ _ _)).mono ?_
  rintro e w2 ⟨hk3, v1, rfl, hr1⟩
  rw [cutB_all]
  unfold cutV
  obtain ⟨us, u1, u2, _, u4⟩ := hr1 [b] (cutB_all b)
  obtain ⟨u, rfl⟩ : ∃ u, us = [u] := by
    match us, u1 with
    | [u], _ => exact ⟨u, rfl⟩
  have hu := u4 0 b u rfl rfl
  obtain ⟨g, gc, cur, rfl, hBg, hg, hgn, hgm, hgs, htake⟩ : ∃ g cap cur, u = .slice (some ⟨g, 0, none⟩) b.length cap ∧ w1.heap.size + 1 ≤ g ∧ Blk w2 g cur 5 ∧ b.length ≤ cap ∧ cap ≤ maxLen ∧ cur.size = cap * 1 ∧ cur.toList.take (b.length * 1) = bcells b := by
    rcases hu.2 with ⟨_, h⟩ | ⟨g, cap, cur, h1', h2, h3, h4, h5, h6, h7⟩
    · omega
    · exact ⟨g, cap, cur, h1', by simp at h2; omega, h3, h4, h5, h6, h7⟩
  obtain ⟨q, qo, qc, rfl, hq1, hq2, hqb, hqx⟩ := (Sl.of_own u2).at (by simp)
  have cq := hqx 0 _ rfl
  rw [Nat.add_zero] at cq
  have c0 := Blk.cell hg 0
  have f0 := Blk.free hg 0
  have hc0 : cur[0]? = some (V8 b[0]) := by
    have := congrArg (fun l => l[0]?) htake
    rw [Nat.mul_one, bcells_get b 0 (by omega), List.getElem?_take, if_pos (by omega)] at this
    simpa using this
  rw [hc0] at c0
  have n2 : (b.length : Int) ≤ (gc : Int) := by omega
  have n3 : (gc : Int) ≤ 9223372036854775807 := by unfold maxLen at hgm; omega
  have hk4 : Kept w1 (w2.setCell ⟨g, 0, none⟩ (V8 (b[0] ^^^ 255))) := (Kept.of hk2 hk3).setCell (by show _ ≤ g; omega) _
  have c1 := str_of (s1.kept hk4)
  have c2 := str_of (hb.kept (hk1.of hk4))
  clear hu htake hc0 u1 u2 u4 hr1 hqx hg hgs
  go_wp2_with fail
  refine (known_any _).mono ?_
  rintro e w5 ⟨rfl, hk5⟩
  go_wp2
  go_ret
  exact ⟨rfl, (hk1.of hk4).of hk5⟩

set_option maxRecDepth 100000 in
set_option maxHeartbeats 4000000 in
theorem own_walk (vb : Value) (b : List UInt8) (w : World) (hb : Sl w vb b.length (bcells b)) :
    Calls Try.prog 8 #[vb] w fun e w' => e = .returned (.bool true) ∧ Kept w w' := by
  by_cases h1 : b.length < 1
  · obtain ⟨ba, bc, hbv⟩ := hb.len
    subst hbv
    have n0 : (b.length : Int) < 1 := by omega
    go_enter Try.func8, Try.ntmps8
    go_wp2
    go_ret
    exact ⟨rfl, Below.refl _ _⟩
  by_cases h2 : 100 < b.length
  · obtain ⟨ba, bc, hbv⟩ := hb.len
    subst hbv
    have n0 : (100 : Int) < (b.length : Int) := by omega
    go_enter Try.func8, Try.ntmps8
    go_wp2
    go_ret
    exact ⟨rfl, Below.refl _ _⟩
  exact own_in vb b (by omega) (by omega) w hb

namespace wireOwnRow
open Go.ChangeShapes Go.WideShapes Go.ChangeAt Go.RowKit
theorem own : ownKnob Try.prog.godebug = none := by kernel_rfl
theorem laidOut : laidOutB Try.prog = true := by kernel_rfl

set_option maxRecDepth 100000 in
theorem lifted (os : Os) (started : os.Started) (H : Type) (enc : TypeId × Value → H) :
    ReturnsInHanded {} Try.checked os 8 .any (Rows.wireOwnSpec.pre6 enc Try.prog Try.f8 Rows.wireOwnRow.domain false) (Rows.wireOwnSpec.post enc Try.prog Try.f8 false true false false) := by
  refine returnsInHanded_of_change (C := Try.checked) own started (by kernel_rfl) Try.func8
    (ChangeSpec.witness6 (enc := enc) (C := Try.checked) false ⟨#[], #[.slice none 0 0], []⟩ 8 (by kernel_rfl) (by kernel_rfl) (by kernel_rfl) (by kernel_rfl)) ?_
  intro W base args ds gs before hval0 hW _ hsz
  have hval : ∀ (j : Nat) t v, Try.f8.params[j]? = some t → args[j]? = some v → Value.okWide Try.prog W .any base t v := hval0
  have hW' := hW
  obtain ⟨p, q, hA0, hV, rfl, hfz, hnd⟩ := hW
  have hA : DataW.TrodAll enc Try.prog W 0 (fun _ => true) true Try.f8.params.toList args.toList ds p := hA0
  rw [Try.params8] at hA hval
  obtain ⟨v0, vs0, d0, ds0, p0, q0, hargs, rfl, rfl, h0, r0⟩ := trodAll_cons hA
  obtain ⟨rfl, rfl, rfl⟩ := trodAll_nil r0
  obtain rfl : args = #[v0] := by cases args; simp_all
  obtain ⟨a0b, a0⟩ := open_bytes (e := 5) Try.underlying23 Try.underlying5 (by kernel_rfl) (hval 0 23 v0 rfl rfl) h0
  refine (own_walk v0 a0b W a0).mono fun e W' ⟨he, bel⟩ => ?_
  subst he
  exact ⟨_, rfl, law_post (tb := 4) laidOut (by kernel_rfl) Try.underlying4 (by rfl) rfl (by intro xs hxs; match xs, hxs with | [x0], _ => rfl) hW' bel⟩

theorem over : Rows.wireOwnRow.holds Try.pinned (OpenSpec.ofChange Rows.wireOwnSpec) :=
  OpenClaim.holds_of_wide 8 Try.f8 rfl rfl rfl rfl rfl rfl rfl ⟨rfl, rfl, rfl, rfl, rfl⟩ rfl rfl rfl rfl rfl (by kernel_rfl) Try.func8 (by kernel_rfl)
    (of_decide_eq_true (by kernel_rfl)) (by unfold Func.isWrapper; rw [if_neg (of_decide_eq_false (by kernel_rfl))]; exact ⟨rfl, rfl⟩)
    (fun os started H enc _ => lifted os started H enc)
end wireOwnRow

theorem wireOwn_holds : Rows.WireOwnSaid := wireOwnRow.over
#print axioms wireOwn_holds

end Go.Proofs.Ytmdggbniicobdaa
