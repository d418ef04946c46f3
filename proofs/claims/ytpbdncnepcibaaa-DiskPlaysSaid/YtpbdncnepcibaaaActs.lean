/- Slices of structs whose fields are one cell each: what an argument of such a type reads as. No function of the program is named here. -/
import Derived.Test.YtpbdncnepcibaaaFrame
import Derived.Deep.Slices
import Derived.Deep.Fields
import Derived.ChangeSame
namespace Go.Proofs.Ytpbdncnepcibaaa
open Go Go.RowKit Go.ChangeShapes Go.WideShapes Go.ChangeAt Go.Deep

/-- the slice v of n structs of k cells reads, in w, as f i j -/
def Acts (w : World) (v : Value) (n k : Nat) (f : Nat → Nat → Value) : Prop :=
  ∃ (a : Option Addr) (cap : Nat), v = .slice a n cap ∧ n ≤ cap ∧ cap ≤ maxLen ∧ ∀ i, i < n → ∃ b off, a = some ⟨b, off, none⟩ ∧ b < w.heap.size ∧ ∀ j, j < k → w.cell? ⟨b, off + i * k + j, none⟩ = some (f i j)

section
variable {H : Type} {enc : TypeId × Value → H} {P : Program} {w : World} {base : Nat} {spare : Nat → Bool} {held : Bool} {r : Reach} {b0 : Nat}
theorem open_slice_fields {t e : TypeId} {fs : Array Field} {fuel : Nat} {cs : List Value} {x : DataW H × List MemPlace} (ht : P.underlying t = some (.slice e)) (he : P.underlying e = some (.struct fs))
    (hone : oneCellFields P fs = true) (hC : P.cellsOf e = fs.size) (h : DataW.trod enc P w base spare held fuel t cs = some x) :
    (cs = [.slice none 0 0] ∧ x = (.nil, [])) ∨
    ∃ (a : Addr) (len cap m : Nat), cs = [.slice (some a) len cap] ∧ len ≤ cap ∧ cap ≤ maxLen ∧ len ≤ m ∧
      ∀ i, i < m → ∃ (n : Nat), ∀ (j : Nat) (f : Field), fs[j]? = some f → ∃ (v : Value) (y : DataW H × List MemPlace), w.cell? (a.add (i * fs.size + j)) = some v ∧ DataW.trod enc P w base spare held n f.type [v] = some y := by
  rcases open_slice ht h with h0 | ⟨a, len, cap, m, n, D, Pl, hcs, hb, hl, hm, hmm, hx, hi⟩
  · exact .inl h0
  · refine .inr ⟨a, len, cap, m, hcs, hl, hm, by rw [hmm]; split <;> omega, fun i him => ?_⟩
    obtain ⟨cs', hc, ht'⟩ := hi i him
    rw [hC] at hc
    obtain ⟨ys, n', hn', hy, hlen, hyl, hf⟩ := DataW.trod_struct he ht'
    obtain ⟨_, hcl, hat⟩ := World.cells?_some hc
    refine ⟨n', fun j f hj => ?_⟩
    obtain ⟨ho, hk⟩ := hone_of hone j f hj
    have hjl : j < fs.size := (Array.getElem?_eq_some_iff.1 hj).1
    have hcell := hat j hjl
    have hv : cs'[j]? = some (cs'[j]'(by omega)) := List.getElem?_eq_getElem (by omega)
    have h1 := hf j f hj
    rw [ho, hk] at h1
    have hone' : (cs'.drop j).take 1 = [cs'[j]'(by omega)] := by
      rw [List.drop_eq_getElem_cons (by omega)]
      rfl
    rw [hone'] at h1
    have hys : ys[j]? = some (ys[j]'(by omega)) := List.getElem?_eq_getElem (by omega)
    refine ⟨_, _, ?_, h1.trans hys⟩
    rw [← Go.Deep.add_add, hcell, hv]

theorem open_acts {t e : TypeId} {fs : Array Field} {v : Value} {d : DataW H} {ps : List MemPlace} (ht : P.underlying t = some (.slice e)) (he : P.underlying e = some (.struct fs))
    (hone : oneCellFields P fs = true) (hC : P.cellsOf e = fs.size) (hpos : 0 < fs.size) (hval : Value.okWide P w r b0 t v) (hd : DataW.Trod enc P w base spare held t v d ps) :
    ∃ n f, Acts w v n fs.size f ∧ ∀ i, i < n → ∀ (j : Nat) (fl : Field), fs[j]? = some fl → ∃ fuel y, DataW.trod enc P w base spare held fuel fl.type [f i j] = some y := by
  obtain ⟨a0, len, cap, rfl⟩ := okWide_slice ht hval
  obtain ⟨fuel, hf⟩ := hd
  rcases open_slice_fields ht he hone hC hf with ⟨hcs, _⟩ | ⟨a, l, c, m, hcs, hl, hm, hlm, hi⟩
  · simp [Value.cells] at hcs
    obtain ⟨rfl, rfl, rfl⟩ := hcs
    exact ⟨0, fun _ _ => undef, ⟨none, 0, rfl, Nat.le_refl _, Nat.zero_le _, fun i h => absurd h (by omega)⟩, fun i h => absurd h (by omega)⟩
  · simp [Value.cells] at hcs
    obtain ⟨rfl, rfl, rfl⟩ := hcs
    refine ⟨len, fun i j => (w.cell? (a.add (i * fs.size + j))).getD undef, ⟨some a, cap, rfl, hl, hm, fun i h => ?_⟩, fun i h j fl hj => ?_⟩
    · obtain ⟨n, hn⟩ := hi i (by omega)
      obtain ⟨b, off, spot⟩ := a
      have hs : spot = none := by
        obtain ⟨n0, hn0⟩ := hi 0 (by omega)
        obtain ⟨v0, y0, hc0, _⟩ := hn0 0 fs[0] (by simp [hpos])
        rw [Nat.zero_mul, Nat.add_zero, Addr.add_zero'] at hc0
        exact World.cell?_spot hc0
      subst hs
      obtain ⟨v0, y0, hc0, _⟩ := hn 0 fs[0] (by simp [hpos])
      rw [add_off] at hc0
      refine ⟨b, off, rfl, World.block_lt_of_cell? w _ hc0, fun j hj => ?_⟩
      obtain ⟨v1, y1, hc1, _⟩ := hn j fs[j] (by simp [hj])
      show w.cell? _ = some ((w.cell? _).getD undef)
      rw [hc1, Option.getD_some, ← hc1, add_off]
      congr 2; omega
    · obtain ⟨n, hn⟩ := hi i (by omega)
      obtain ⟨v1, y1, hc1, ht1⟩ := hn j fl hj
      exact ⟨n, y1, by show DataW.trod enc P w base spare held n fl.type [(w.cell? _).getD undef] = _; rw [hc1]; exact ht1⟩

/-- a slice of elements of one cell -/
theorem open_row {t e : TypeId} {v : Value} {d : DataW H} {ps : List MemPlace} (ht : P.underlying t = some (.slice e)) (hC : P.cellsOf e = 1)
    (hval : Value.okWide P w r b0 t v) (hd : DataW.Trod enc P w base spare held t v d ps) :
    ∃ n f, Acts w v n 1 f ∧ ∀ i, i < n → ∃ fuel y, DataW.trod enc P w base spare held fuel e [f i 0] = some y := by
  obtain ⟨a0, len, cap, rfl⟩ := okWide_slice ht hval
  obtain ⟨fuel, hf⟩ := hd
  rcases open_slice ht hf with ⟨hcs, _⟩ | ⟨a, l, c, m, n, D, Pl, hcs, hb, hl, hm, hmm, hx, hi⟩
  · simp [Value.cells] at hcs
    obtain ⟨rfl, rfl, rfl⟩ := hcs
    exact ⟨0, fun _ _ => undef, ⟨none, 0, rfl, Nat.le_refl _, Nat.zero_le _, fun i h => absurd h (by omega)⟩, fun i h => absurd h (by omega)⟩
  · simp [Value.cells] at hcs
    obtain ⟨rfl, rfl, rfl⟩ := hcs
    have hlm : len ≤ m := by rw [hmm]; split <;> omega
    have each : ∀ i, i < m → ∃ v, w.cell? (a.add i) = some v ∧ DataW.trod enc P w base spare held n e [v] = some (D i, Pl i) := by
      intro i h
      obtain ⟨cs', hc, ht'⟩ := hi i h
      rw [hC, Nat.mul_one] at hc
      obtain ⟨_, hcl, _⟩ := World.cells?_some hc
      match cs', hcl with
      | [v], _ => exact ⟨v, cell_of_cells?_one hc, ht'⟩
    refine ⟨len, fun i _ => (w.cell? (a.add i)).getD undef, ⟨some a, cap, rfl, hl, hm, fun i h => ?_⟩, fun i h => ?_⟩
    · obtain ⟨b, off, spot⟩ := a
      have hs : spot = none := by
        obtain ⟨v0, hc0, _⟩ := each 0 (by omega)
        rw [Addr.add_zero'] at hc0
        exact World.cell?_spot hc0
      subst hs
      obtain ⟨v0, hc0, _⟩ := each i (by omega)
      rw [add_off] at hc0
      refine ⟨b, off, rfl, World.block_lt_of_cell? w _ hc0, fun j hj => ?_⟩
      show w.cell? _ = some ((w.cell? _).getD undef)
      rw [add_off, hc0, Option.getD_some, ← hc0]
      congr 2; omega
    · obtain ⟨v0, hc0, ht0⟩ := each i (by omega)
      exact ⟨n, _, by show DataW.trod enc P w base spare held n e [(w.cell? _).getD undef] = _; rw [hc0]; exact ht0⟩
theorem acts_int' {e : TypeId} {fuel : Nat} {v : Value} {y : DataW H × List MemPlace} (he : P.underlying e = some (.int .i64)) (h : DataW.trod enc P w base spare held fuel e [v] = some y) :
    ∃ m, v = .int .i64 m ∧ -9223372036854775808 ≤ m ∧ m ≤ 9223372036854775807 := by
  obtain ⟨m, hm, _, hw⟩ := DataW.trod_int he h
  exact ⟨m, by simpa using hm, bounds_i64 hw⟩
theorem acts_bool {e : TypeId} {fuel : Nat} {v : Value} {y : DataW H × List MemPlace} (he : P.underlying e = some .bool) (h : DataW.trod enc P w base spare held fuel e [v] = some y) :
    ∃ m, v = .bool m := by
  obtain ⟨m, hm, _⟩ := DataW.trod_bool he h
  exact ⟨m, by simpa using hm⟩

/-- an int field -/
theorem acts_int {fuel : Nat} {fl : Field} {v : Value} {y : DataW H × List MemPlace} (he : P.underlying fl.type = some (.int .i64)) (h : DataW.trod enc P w base spare held fuel fl.type [v] = some y) :
    ∃ m, v = .int .i64 m ∧ -9223372036854775808 ≤ m ∧ m ≤ 9223372036854775807 := by
  obtain ⟨m, hm, _, hw⟩ := DataW.trod_int he h
  exact ⟨m, by simpa using hm, bounds_i64 hw⟩
end

end Go.Proofs.Ytpbdncnepcibaaa
