/- What a number that is used once and a sealed sector read as, where they are handed in. -/
import Derived.Test.YtldgmilfihkkdaaRecQ
import Derived.Test.YtldgmilfihkkdaaPart
namespace Go.Proofs.Ytldgmilfihkkdaa
open Go Go.RowKit

section
open Go.ChangeShapes Go.WideShapes Go.ChangeAt
variable {H : Type} {enc : TypeId × Value → H} {w : World} {base : Nat} {spare : Nat → Bool} {held : Bool} {r : Reach} {b0 : Nat}
theorem cells_nonce : Try.prog.cellsOf 38 = 3 := by kernel_rfl
theorem open_nonce {v : Value} {d : DataW H} {p : List MemPlace} (hval : Value.okWide Try.prog w r b0 38 v) (hd : DataW.Trod enc Try.prog w base spare held 38 v d p) : ∃ x : Nn, v = x.val := by
  have hu := Try.underlying38
  obtain ⟨cs, rfl, hsz⟩ := agg_cells hu hval
  rw [cells_nonce] at hsz
  obtain ⟨l⟩ := cs
  match l, hsz with
  | [c0, c1, c2], _ =>
    obtain ⟨fuel, hf⟩ := hd
    have len : ([c0, c1, c2] : List Value).length ≤ Try.prog.cellsOf 38 := by rw [cells_nonce]; simp
    have k0 : Part Try.prog 38 0 23 := Part.field (j := 0) hu rfl .here (by kernel_rfl)
    have k1 : Part Try.prog 38 1 23 := Part.field (j := 1) hu rfl .here (by kernel_rfl)
    have k2 : Part Try.prog 38 2 22 := Part.field (j := 2) hu rfl .here (by kernel_rfl)
    obtain ⟨m0, y0, g0⟩ := k0.get fuel [c0, c1, c2] _ len hf
    obtain ⟨m1, y1, g1⟩ := k1.get fuel [c0, c1, c2] _ len hf
    obtain ⟨m2, y2, g2⟩ := k2.get fuel [c0, c1, c2] _ len hf
    have s64 : Try.prog.cellsOf 22 = 1 := by kernel_rfl
    have s32 : Try.prog.cellsOf 23 = 1 := by kernel_rfl
    rw [s64] at g2
    rw [s32] at g0 g1
    obtain ⟨x0, rfl⟩ := part_W' Try.underlying23 g0
    obtain ⟨x1, rfl⟩ := part_W' Try.underlying23 g1
    obtain ⟨x2, rfl⟩ := part_U' Try.underlying22 g2
    exact ⟨⟨x0, x1, x2⟩, rfl⟩
theorem cells_sealed : Try.prog.cellsOf 40 = 3 := by kernel_rfl
theorem open_sealed {v : Value} {d : DataW H} {p : List MemPlace} (hval : Value.okWide Try.prog w r b0 40 v) (hd : DataW.Trod enc Try.prog w base spare held 40 v d p) : ∃ (u : Value) (bs : List UInt8) (t : Pair), v = .agg #[u, U t.1, U t.2] ∧ Sl w u bs.length (bcells bs) := by
  have hu := Try.underlying40
  have hp := Try.underlying25
  obtain ⟨cs, rfl, hsz⟩ := agg_cells hu hval
  rw [cells_sealed] at hsz
  obtain ⟨l⟩ := cs
  match l, hsz with
  | [c0, c1, c2], _ =>
    obtain ⟨fuel, hf⟩ := hd
    have len : ([c0, c1, c2] : List Value).length ≤ Try.prog.cellsOf 40 := by rw [cells_sealed]; simp
    have k0 : Part Try.prog 40 0 28 := Part.field (j := 0) hu rfl .here (by kernel_rfl)
    have k1 : Part Try.prog 40 1 22 := Part.field (j := 1) (i := 0) hu rfl (Part.elem (j := 0) (i := 0) hp (by omega) .here (by kernel_rfl)) (by kernel_rfl)
    have k2 : Part Try.prog 40 2 22 := Part.field (j := 1) (i := 1) hu rfl (Part.elem (j := 1) (i := 0) hp (by omega) .here (by kernel_rfl)) (by kernel_rfl)
    obtain ⟨m0, y0, g0⟩ := k0.get fuel [c0, c1, c2] _ len hf
    obtain ⟨m1, y1, g1⟩ := k1.get fuel [c0, c1, c2] _ len hf
    obtain ⟨m2, y2, g2⟩ := k2.get fuel [c0, c1, c2] _ len hf
    have s64 : Try.prog.cellsOf 22 = 1 := by kernel_rfl
    have sb : Try.prog.cellsOf 28 = 1 := by kernel_rfl
    rw [s64] at g1 g2
    rw [sb] at g0
    obtain ⟨bs, hbs⟩ := part_S' Try.underlying28 Try.underlying5 (by kernel_rfl) g0
    obtain ⟨x1, rfl⟩ := part_U' Try.underlying22 g1
    obtain ⟨x2, rfl⟩ := part_U' Try.underlying22 g2
    exact ⟨c0, bs, (x1, x2), rfl, hbs⟩
end
end Go.Proofs.Ytldgmilfihkkdaa
