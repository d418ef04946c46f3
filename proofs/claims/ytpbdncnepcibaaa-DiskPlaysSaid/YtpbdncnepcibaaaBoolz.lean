/- A slice of truths that is handed in. -/
import Derived.Test.YtpbdncnepcibaaaActs
import Derived.Test.YtpbdncnepcibaaaSlice
namespace Go.Proofs.Ytpbdncnepcibaaa
open Go Go.RowKit Go.ChangeShapes Go.WideShapes Go.ChangeAt Go.Deep
/-- what a row of truths keeps -/
def isK (ks : List Bool) (i : Nat) : Bool := ks[i]?.getD false
def kcells (ks : List Bool) : List Value := ks.map .bool
theorem kcells_length (ks : List Bool) : (kcells ks).length = ks.length := by simp [kcells]
section
variable {H : Type} {enc : TypeId × Value → H} {P : Program} {w : World} {base : Nat} {spare : Nat → Bool} {held : Bool} {r : Reach} {b0 : Nat}
/-- is it true? -/
def isT : Option Value → Bool
  | some (.bool b) => b
  | _ => false
theorem bools_of {w : World} {a : Addr} {n cap : Nat} (hn : n ≤ cap) (hm : cap ≤ maxLen) (h : ∀ i, i < n → ∃ m, w.cell? (a.add i) = some (.bool m)) : ∃ ks : List Bool, Sl w (.slice (some a) n cap) ks.length (kcells ks) ∧ ks.length = n := by
  refine ⟨(List.range n).map fun i => isT (w.cell? (a.add i)), .inr ⟨a, cap, by simp, by simpa using hn, hm, fun j u hj => ?_⟩, by simp⟩
  have hjl := (List.getElem?_eq_some_iff.1 hj).1
  simp only [kcells_length, List.length_map, List.length_range] at hjl
  obtain ⟨m, hc⟩ := h j hjl
  have : u = .bool (isT (w.cell? (a.add j))) := by
    simp [kcells, hjl] at hj
    rw [← hj]
  rw [this, hc]; rfl
theorem open_bools {t e : TypeId} {v : Value} {d : DataW H} {ps : List MemPlace} (ht : P.underlying t = some (.slice e)) (he : P.underlying e = some .bool) (hC : P.cellsOf e = 1)
    (hval : Value.okWide P w r b0 t v) (hd : DataW.Trod enc P w base spare held t v d ps) : ∃ ks : List Bool, Sl w v ks.length (kcells ks) := by
  obtain ⟨a0, len, cap, rfl⟩ := okWide_slice ht hval
  obtain ⟨fuel, hf⟩ := hd
  rcases open_slice ht hf with ⟨hcs, _⟩ | ⟨a, l, c, m, n, D, Pl, hcs, hb, hl, hm, hmm, hx, hi⟩
  · simp [Value.cells] at hcs
    obtain ⟨rfl, rfl, rfl⟩ := hcs
    exact ⟨[], .inl ⟨rfl, rfl, rfl⟩⟩
  · simp [Value.cells] at hcs
    obtain ⟨rfl, rfl, rfl⟩ := hcs
    have hlm : len ≤ m := by rw [hmm]; split <;> omega
    obtain ⟨ks, hk, hkl⟩ := bools_of (w := w) (a := a) hl hm (fun i h => by
      obtain ⟨cs', hc, ht'⟩ := hi i (by omega)
      rw [hC, Nat.mul_one] at hc
      obtain ⟨_, hcl, _⟩ := World.cells?_some hc
      match cs', hcl with
      | [v], _ =>
        obtain ⟨q, hq⟩ := acts_bool he ht'
        exact ⟨q, by rw [← hq]; exact cell_of_cells?_one hc⟩)
    exact ⟨ks, hk⟩
end
end Go.Proofs.Ytpbdncnepcibaaa
