/- The example that each law of chapter 16 holds beside; what a root that is handed in reads as. -/
import Derived.Test.YtldgmilfihkkdaaRootEq
import Derived.Test.YtldgmilfihkkdaaPart
namespace Go.Proofs.Ytldgmilfihkkdaa
open Go Go.RowKit

theorem known_byte : (rootB ⟨1#64, 0#32, 4, (0#64, 0#64)⟩)[7]? = some 1 := by decide +kernel

set_option maxRecDepth 100000 in
set_option maxHeartbeats 4000000 in
theorem known_any (w : World) : Calls Try.prog 10 #[] w fun e w' => e = .returned (.bool true) ∧ Kept w w' := by
  go_enter Try.func10, Try.ntmps10
  go_wp2_with fail
  refine (put_root_lit 4 (.inl rfl) 1#64 0#32 0#64 0#64 _).mono ?_
  rintro e w1 ⟨b, rfl, hown, hk1⟩
  have hs := Sl.of_own hown
  obtain ⟨g, off, cap, rfl, hc1, hc2, hc3, hc4⟩ := hs.at (by rw [bcells_length, rootB_length]; omega)
  have c7 := hc4 7 (V8 1) (by unfold bcells; rw [List.getElem?_map, known_byte]; rfl)
  have n0 : (32 : Int) ≤ (cap : Int) := by omega
  clear hown hs hc4
  go_wp2_with fail
  refine (put_root_none 5 (by rfl) 0#64 0#32 0#64 0#64 _).mono ?_
  rintro e w2 ⟨rfl, hk2⟩
  replace c7 := hk2.at c7
  go_wp2
  go_ret
  exact ⟨rfl, hk1.of hk2⟩

theorem get_root_any (vb : Value) (bs : List UInt8) (hl : bs.length ≤ 4000) (w : World) (hb : Sl w vb bs.length (bcells bs)) : Calls Try.prog 9 #[vb] w fun e w' => e = .returned (.tuple #[((rootG bs).getD Rt.zero).val, .bool (rootG bs).isSome]) ∧ Kept w w' := by
  unfold rootG
  by_cases h : bs.length = 32
  · cases hs : isSl (rootOf bs).slots
    · rw [if_neg (by simp)]; exact get_root_slots vb bs hl w hb h hs
    · rw [if_pos ⟨h, rfl⟩]; exact get_root_some vb bs hl w hb h hs
  · rw [if_neg (fun k => h k.1)]; exact get_root_none vb bs hl w hb h
theorem rget_root_any (vb : Value) (bs : List UInt8) (hl : bs.length ≤ 4000) (w : World) (hb : Sl w vb bs.length (bcells bs)) : Calls Try.prog 11 #[vb] w fun e w' => e = .returned (.tuple #[((rootG bs).getD Rt.zero).val, .bool (rootG bs).isSome]) ∧ Kept w w' := by
  unfold rootG
  by_cases h : bs.length = 32
  · cases hs : isSl (rootOf bs).slots
    · rw [if_neg (by simp)]; exact rget_root_slots vb bs w hb h hs
    · rw [if_pos ⟨h, rfl⟩]; exact rget_root_some vb bs w hb h hs
  · rw [if_neg (fun k => h k.1)]; exact rget_root_none vb bs hl w hb h

section
open Go.ChangeShapes Go.WideShapes Go.ChangeAt
variable {H : Type} {enc : TypeId × Value → H} {w : World} {base : Nat} {spare : Nat → Bool} {held : Bool} {r : Reach} {b0 : Nat}
theorem cells_root : Try.prog.cellsOf 27 = 5 := by kernel_rfl
theorem open_root {v : Value} {d : DataW H} {p : List MemPlace} (hval : Value.okWide Try.prog w r b0 27 v) (hd : DataW.Trod enc Try.prog w base spare held 27 v d p) : ∃ x : Rt, v = x.val ∧ -9223372036854775808 ≤ x.slots ∧ x.slots ≤ 9223372036854775807 := by
  have hu := Try.underlying27
  have hp := Try.underlying25
  obtain ⟨cs, rfl, hsz⟩ := agg_cells hu hval
  rw [cells_root] at hsz
  obtain ⟨l⟩ := cs
  match l, hsz with
  | [c0, c1, c2, c3, c4], _ =>
    obtain ⟨fuel, hf⟩ := hd
    have len : ([c0, c1, c2, c3, c4] : List Value).length ≤ Try.prog.cellsOf 27 := by rw [cells_root]; simp
    have k0 : Part Try.prog 27 0 22 := Part.field (j := 0) hu rfl .here (by kernel_rfl)
    have k1 : Part Try.prog 27 1 23 := Part.field (j := 1) hu rfl .here (by kernel_rfl)
    have k2 : Part Try.prog 27 2 3 := Part.field (j := 2) hu rfl .here (by kernel_rfl)
    have k3 : Part Try.prog 27 3 22 := Part.field (j := 3) hu rfl (Part.elem (j := 0) (i := 0) hp (by omega) .here (by kernel_rfl)) (by kernel_rfl)
    have k4 : Part Try.prog 27 4 22 := Part.field (j := 3) hu rfl (Part.elem (j := 1) (i := 0) hp (by omega) .here (by kernel_rfl)) (by kernel_rfl)
    obtain ⟨m0, y0, g0⟩ := k0.get fuel [c0, c1, c2, c3, c4] _ len hf
    obtain ⟨m1, y1, g1⟩ := k1.get fuel [c0, c1, c2, c3, c4] _ len hf
    obtain ⟨m2, y2, g2⟩ := k2.get fuel [c0, c1, c2, c3, c4] _ len hf
    obtain ⟨m3, y3, g3⟩ := k3.get fuel [c0, c1, c2, c3, c4] _ len hf
    obtain ⟨m4, y4, g4⟩ := k4.get fuel [c0, c1, c2, c3, c4] _ len hf
    have s64 : Try.prog.cellsOf 22 = 1 := by kernel_rfl
    have s32 : Try.prog.cellsOf 23 = 1 := by kernel_rfl
    have si : Try.prog.cellsOf 3 = 1 := by kernel_rfl
    rw [s64] at g0 g3 g4
    rw [s32] at g1
    rw [si] at g2
    obtain ⟨x0, rfl⟩ := part_U' Try.underlying22 g0
    obtain ⟨x1, rfl⟩ := part_W' Try.underlying23 g1
    obtain ⟨x2, rfl, lo, hi⟩ := part_I' Try.underlying3 g2
    obtain ⟨x3, rfl⟩ := part_U' Try.underlying22 g3
    obtain ⟨x4, rfl⟩ := part_U' Try.underlying22 g4
    exact ⟨⟨x0, x1, x2, (x3, x4)⟩, rfl, lo, hi⟩
end

end Go.Proofs.Ytldgmilfihkkdaa
