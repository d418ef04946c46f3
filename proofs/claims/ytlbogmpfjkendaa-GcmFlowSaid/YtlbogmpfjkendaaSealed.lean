/- lockboxref5.Same; what a number that is used once and a sealed sector read as, where they are handed in. -/
import Derived.Test.YtlbogmpfjkendaaNnD
import Derived.Test.YtlbogmpfjkendaaPairEq
import Derived.Test.YtlbogmpfjkendaaStr
import Derived.Test.YtlbogmpfjkendaaPart
namespace Go.Proofs.Ytlbogmpfjkendaa
open Go Go.RowKit

set_option maxRecDepth 100000 in
set_option maxHeartbeats 4000000 in
theorem sealed_same (va vb : Value) (xs ys : List UInt8) (a b c d : BitVec 64) (w : World) (ha : Sl w va xs.length (bcells xs)) (hb : Sl w vb ys.length (bcells ys)) : Calls Try.prog 11 #[.agg #[va, U a, U b], .agg #[vb, U c, U d]] w fun e w' => e = .returned (.bool ((xs == ys) && ((a, b) == (c, d)))) ∧ Kept w w' := by
  obtain ⟨aa, ac, hva⟩ := ha.len
  obtain ⟨ba, bc, hvb⟩ := hb.len
  subst hva
  subst hvb
  have hk : Kept w ((w.alloc (.cells #[.slice aa xs.length ac, U a, U b] 30)).alloc (.cells #[.slice ba ys.length bc, U c, U d] 30)) := ((Below.refl _ _).alloc (Nat.le_refl _) _).alloc (by simp) _
  have c1 := str_of (ha.kept hk)
  have c2 := str_of (hb.kept hk)
  clear ha hb
  cases he : xs == ys
  · go_enter Try.func11, Try.ntmps11
    go_wp2
    go_ret
    exact ⟨rfl, hk⟩
  · go_enter Try.func11, Try.ntmps11
    go_wp2
    go_ret
    exact ⟨rfl, hk⟩
section
open Go.ChangeShapes Go.WideShapes Go.ChangeAt
variable {H : Type} {enc : TypeId × Value → H} {w : World} {base : Nat} {spare : Nat → Bool} {held : Bool} {r : Reach} {b0 : Nat}
theorem cells_nonce : Try.prog.cellsOf 27 = 3 := by kernel_rfl
theorem open_nonce {v : Value} {d : DataW H} {p : List MemPlace} (hval : Value.okWide Try.prog w r b0 27 v) (hd : DataW.Trod enc Try.prog w base spare held 27 v d p) : ∃ x : Nn, v = x.val := by
  have hu := Try.underlying27
  obtain ⟨cs, rfl, hsz⟩ := agg_cells hu hval
  rw [cells_nonce] at hsz
  obtain ⟨l⟩ := cs
  match l, hsz with
  | [c0, c1, c2], _ =>
    obtain ⟨fuel, hf⟩ := hd
    have len : ([c0, c1, c2] : List Value).length ≤ Try.prog.cellsOf 27 := by rw [cells_nonce]; simp
    have k0 : Part Try.prog 27 0 25 := Part.field (j := 0) hu rfl .here (by kernel_rfl)
    have k1 : Part Try.prog 27 1 25 := Part.field (j := 1) hu rfl .here (by kernel_rfl)
    have k2 : Part Try.prog 27 2 22 := Part.field (j := 2) hu rfl .here (by kernel_rfl)
    obtain ⟨m0, y0, g0⟩ := k0.get fuel [c0, c1, c2] _ len hf
    obtain ⟨m1, y1, g1⟩ := k1.get fuel [c0, c1, c2] _ len hf
    obtain ⟨m2, y2, g2⟩ := k2.get fuel [c0, c1, c2] _ len hf
    have s64 : Try.prog.cellsOf 22 = 1 := by kernel_rfl
    have s32 : Try.prog.cellsOf 25 = 1 := by kernel_rfl
    rw [s64] at g2
    rw [s32] at g0 g1
    obtain ⟨x0, rfl⟩ := part_W' Try.underlying25 g0
    obtain ⟨x1, rfl⟩ := part_W' Try.underlying25 g1
    obtain ⟨x2, rfl⟩ := part_U' Try.underlying22 g2
    exact ⟨⟨x0, x1, x2⟩, rfl⟩
theorem cells_sealed : Try.prog.cellsOf 30 = 3 := by kernel_rfl
theorem open_sealed {v : Value} {d : DataW H} {p : List MemPlace} (hval : Value.okWide Try.prog w r b0 30 v) (hd : DataW.Trod enc Try.prog w base spare held 30 v d p) : ∃ (u : Value) (bs : List UInt8) (t : Pair), v = .agg #[u, U t.1, U t.2] ∧ Sl w u bs.length (bcells bs) := by
  have hu := Try.underlying30
  have hp := Try.underlying24
  obtain ⟨cs, rfl, hsz⟩ := agg_cells hu hval
  rw [cells_sealed] at hsz
  obtain ⟨l⟩ := cs
  match l, hsz with
  | [c0, c1, c2], _ =>
    obtain ⟨fuel, hf⟩ := hd
    have len : ([c0, c1, c2] : List Value).length ≤ Try.prog.cellsOf 30 := by rw [cells_sealed]; simp
    have k0 : Part Try.prog 30 0 28 := Part.field (j := 0) hu rfl .here (by kernel_rfl)
    have k1 : Part Try.prog 30 1 22 := Part.field (j := 1) (i := 0) hu rfl (Part.elem (j := 0) (i := 0) hp (by omega) .here (by kernel_rfl)) (by kernel_rfl)
    have k2 : Part Try.prog 30 2 22 := Part.field (j := 1) (i := 1) hu rfl (Part.elem (j := 1) (i := 0) hp (by omega) .here (by kernel_rfl)) (by kernel_rfl)
    obtain ⟨m0, y0, g0⟩ := k0.get fuel [c0, c1, c2] _ len hf
    obtain ⟨m1, y1, g1⟩ := k1.get fuel [c0, c1, c2] _ len hf
    obtain ⟨m2, y2, g2⟩ := k2.get fuel [c0, c1, c2] _ len hf
    have s64 : Try.prog.cellsOf 22 = 1 := by kernel_rfl
    have sb : Try.prog.cellsOf 28 = 1 := by kernel_rfl
    rw [s64] at g1 g2
    rw [sb] at g0
    obtain ⟨bs, hbs⟩ := part_S' Try.underlying28 Try.underlying5 (by kernel_rfl) g0
    obtain ⟨x1, rfl⟩ := part_U' Try.underlying22 g1
    obtain ⟨x2, rfl⟩ := part_U' Try.underlying22 g2
    exact ⟨c0, bs, (x1, x2), rfl, hbs⟩
end
end Go.Proofs.Ytlbogmpfjkendaa
