/- Keys: of nobody, without a fuse; the example that each law holds beside. -/
import Derived.Test.YtdcejhplkhoboaaKeysZ
import Derived.Test.YtdcejhplkhoboaaKeysR
import Derived.Test.YtdcejhplkhoboaaKeysP
import Derived.Test.YtdcejhplkhoboaaPairEq
import Derived.Test.YtdcejhplkhoboaaFrame
namespace Go.Proofs.Ytdcejhplkhoboaa
open Go Go.RowKit

/-- a call's own Keys: what it stands on lies behind w0, and what was there is as it was -/
structure Own (w0 w : World) (b K g : Nat) : Prop where
  lb : w0.heap.size ≤ b
  lK : w0.heap.size ≤ K
  lg : w0.heap.size ≤ g
  below : Below w0.heap.size w0 w
  size : w0.heap.size ≤ w.heap.size
theorem Own.step {w0 w w' : World} {b K g g' : Nat} (h : Own w0 w b K g) (hc : Chg [b, K, g] w w') (hg : g' = g ∨ w.heap.size ≤ g') : Own w0 w' b K g' :=
  ⟨h.lb, h.lK, by have := h.lg; have := h.size; rcases hg with e | e <;> omega, h.below.trans (hc.below (by intro x hx; have := h.lb; have := h.lK; have := h.lg; simp at hx; omega) h.size), Nat.le_trans h.size hc.size⟩
theorem Own.kept {w0 w w' : World} {b K g : Nat} (h : Own w0 w b K g) (hk : Kept w w') : Own w0 w' b K g :=
  ⟨h.lb, h.lK, h.lg, h.below.trans (hk.mono h.size), Nat.le_trans h.size hk.size⟩

def Pw.nf (k : Nat) : Pw := ⟨false, false, 0, k⟩
theorem nf_spend (k : Nat) : (Pw.nf k).spend = (true, Pw.nf (k + 1)) := by simp [Pw.nf, Pw.spend]
theorem nf_ok (k : Nat) (h : k ≤ 1000000) : (Pw.nf k).ok 9223372036854775806 := ⟨by simp [Pw.nf]; try omega, by simp [Pw.nf]; try omega, fun h => by cases h⟩
theorem nf_new : Pw.new = Pw.nf 0 := rfl

set_option maxRecDepth 100000 in
set_option maxHeartbeats 4000000 in
theorem nil_add (w : World) : Calls Try.prog 12 #[.pointer none] w fun e w' => e = .returned (.bool false) ∧ w = w' := by
  go_enter Try.func12, Try.ntmps12
  go_wp2
  go_ret
  exact ⟨rfl, rfl⟩

set_option maxRecDepth 100000 in
set_option maxHeartbeats 4000000 in
theorem nil_erase (x : BitVec 32) (w : World) : Calls Try.prog 13 #[.pointer none, W x] w fun e w' => e = .returned (.bool false) ∧ Kept w w' := by
  go_enter Try.func13, Try.ntmps13
  go_wp2
  go_ret
  exact ⟨rfl, (Below.refl _ _).alloc (Nat.le_refl _) _⟩

set_option maxRecDepth 100000 in
set_option maxHeartbeats 4000000 in
theorem nil_cur (w : World) : Calls Try.prog 15 #[.pointer none] w fun e w' => e = .returned (W 0#32) ∧ w = w' := by
  go_enter Try.func15, Try.ntmps15
  go_wp2
  go_ret
  exact ⟨rfl, rfl⟩

set_option maxRecDepth 100000 in
set_option maxHeartbeats 4000000 in
theorem nil_epochs (w : World) : Calls Try.prog 16 #[.pointer none] w fun e w' => e = .returned (.slice none 0 0) ∧ w = w' := by
  go_enter Try.func16, Try.ntmps16
  go_wp2
  go_ret
  exact ⟨rfl, rfl⟩

set_option maxRecDepth 100000 in
set_option maxHeartbeats 4000000 in
theorem nil_key (x : BitVec 32) (w : World) : Calls Try.prog 14 #[.pointer none, W x] w fun e w' => e = .returned (.tuple #[Pr (0#64, 0#64), .bool false]) ∧ Kept w w' := by
  have hka : Kept w (w.alloc (.cells #[U 0#64, U 0#64] 25)) := (Below.refl _ _).alloc (Nat.le_refl _) _
  have hb1 := Blk.new w #[U 0#64, U 0#64] 25
  go_enter Try.func14, Try.ntmps14
  go_wp2_with fail
  refine (nil_epochs _).mono ?_
  rintro r w1 ⟨rfl, rfl⟩
  go_wp2_with fail
  refine (contains_any none 0 [] x (by decide) _ (.inl ⟨rfl, rfl, rfl⟩)).mono ?_
  rintro r w2 ⟨rfl, rfl⟩
  have c0 := hb1.cell 0
  have c1 := hb1.cell 1
  have f0 := hb1.free 0
  have f1 := hb1.free 1
  go_wp2
  have d := (hb1.set 0 (U 0#64)).set 1 (U 0#64)
  have d0 := d.cell 0
  have d1 := d.cell 1
  refine bodyPost_ret (v := .tuple #[Pr (0#64, 0#64), .bool false]) (by simp [results, Try.results14, go_sem, d0, d1]; try exact ⟨rfl, rfl⟩) rfl ⟨rfl, ?_⟩
  exact hka

set_option maxRecDepth 100000 in
set_option maxHeartbeats 4000000 in
theorem known_any (w : World) : Calls Try.prog 9 #[] w fun e w' => e = .returned (.bool true) ∧ Kept w w' := by
  go_enter Try.func9, Try.ntmps9
  go_wp2_with fail
  refine (power_new _).mono ?_
  rintro e w1 ⟨rfl, p1, hk1, hz1⟩
  go_wp2_with fail
  refine (keys_new 5#64 _ _).mono ?_
  rintro e w2 ⟨rfl, k2, hk2, hz2⟩
  have p2 := Blk.kept p1 hk2
  have own2 : Own w w2 w.heap.size (w1.heap.size + 1) w1.heap.size := ⟨by omega, by omega, by omega, Kept.of hk1 hk2, by omega⟩
  clear hk1 hk2 hz2 p1
  generalize w.heap.size = b at *
  generalize w1.heap.size + 1 = K at *
  generalize w1.heap.size = g at *
  clear hz1
  go_wp2_with fail
  refine (add_any K b g _ _ _ (Pw.nf 0) (Pw.nf 1) true (by decide) (by decide) _ k2 p2 (nf_ok 0 (by omega)) (nf_spend 0)).mono ?_
  rintro e w3 ⟨g3, cap3, rfl, p3, k3, hg3, c3⟩
  have own3 := own2.step c3 hg3
  have e3 : addL true [1#32] = [1#32, 2#32] := by decide
  rw [e3] at k3
  clear p2 k2 own2 c3 hg3 e3
  go_wp2_with fail
  refine (erase_any K b g3 _ _ _ 2#32 (Pw.nf 1) (Pw.nf 2) true (by decide) (by decide) _ k3 p3 (nf_ok 1 (by omega)) (nf_spend 1)).mono ?_
  rintro e w4 ⟨g4, cap4, rfl, p4, k4, hg4, c4⟩
  have own4 := own3.step c4 hg4
  have e4 : delL true [1#32, 2#32] 2#32 = [2#32] := by decide
  rw [e4] at k4
  clear p3 k3 own3 c4 hg4 e4
  go_wp2_with fail
  refine (epochs_any _ _ _ _ _ _ (by decide) (by decide) _ k4).mono ?_
  rintro e w5 ⟨v, rfl, hown, hk5⟩
  obtain ⟨gv, cv, rfl, _, _⟩ := own_open hown (by decide)
  go_wp2_with fail
  refine (key_any _ _ _ _ _ _ 1#32 (by decide) (by decide) _ (k4.kept hk5)).mono ?_
  rintro e w6 ⟨rfl, hk6⟩
  have x5 : w5.cell? ⟨gv, 0, none⟩ = some (W 2#32) := by
    obtain ⟨b0, off, cap', e, _, _, _, hx⟩ := (Sl.of_own hown).at (by decide)
    cases e
    have := hx 0 _ (wcells_get [2#32] 0 (by decide))
    exact this
  have x6 := hk6.at x5
  have k6 := (k4.kept hk5).kept hk6
  have own6 := (own4.kept hk5).kept hk6
  rw [show keyP 5#64 [2#32] 1#32 = (0#64, 0#64) from by simp [keyP], show [2#32].contains 1#32 = false from by decide]
  have hk7 : Kept w6 (w6.alloc (.cells #[U 0#64, U 0#64] 25)) := (Below.refl _ _).alloc (Nat.le_refl _) _
  have k7 := k6.kept hk7
  have own7 := own6.kept hk7
  have x7 := hk7.at x6
  clear x5 x6 k6 own6 hk7 hk6 hk5 own4 k4 hown
  go_wp2_with fail
  refine (cur_any _ _ _ _ _ _ (by decide) (by decide) _ k7).mono ?_
  rintro e w8 ⟨rfl, hk8⟩
  rw [show nowOf [2#32] = 2#32 from by decide]
  go_wp2
  go_ret
  exact ⟨rfl, (own7.kept hk8).below⟩


end Go.Proofs.Ytdcejhplkhoboaa
