/- Slices of Pairs: what an argument of such a type reads as. No function of the program is named here. -/
import Derived.Test.YtlijonofcnamgaaFrame
import Derived.Deep.Slices
namespace Go.Proofs.Ytlijonofcnamgaa
open Go Go.RowKit Go.ChangeShapes Go.WideShapes Go.ChangeAt Go.Deep

theorem pcells_at (l : List Pair) (j : Nat) (u : Value) (h : (pcells l)[j]? = some u) : ∃ i, ∃ hi : i < l.length, (j = i * 2 ∧ u = U l[i].1) ∨ (j = i * 2 + 1 ∧ u = U l[i].2) := by
  have hj : j < l.length * 2 := by
    have := (List.getElem?_eq_some_iff.1 h).1
    rwa [pcells_length] at this
  have hi : j / 2 < l.length := by omega
  obtain ⟨g0, g1⟩ := pcells_get l (j / 2) hi
  refine ⟨j / 2, hi, ?_⟩
  by_cases hm : j % 2 = 0
  · have e : j = j / 2 * 2 := by omega
    rw [← e, h] at g0
    exact .inl ⟨e, Option.some.inj g0⟩
  · have e : j = j / 2 * 2 + 1 := by omega
    rw [← e, h] at g1
    exact .inr ⟨e, Option.some.inj g1⟩

section
variable {H : Type} {enc : TypeId × Value → H} {P : Program} {w : World} {base : Nat} {spare : Nat → Bool} {held : Bool} {r : Reach} {b0 : Nat}
theorem open_pairs {t p e : TypeId} {v : Value} {d : DataW H} {ps : List MemPlace} (ht : P.underlying t = some (.slice p)) (hp : P.underlying p = some (.array 2 e)) (he : P.underlying e = some (.int .u64)) (hc : P.cellsOf p = 2) (hce : P.cellsOf e = 1)
    (hval : Value.okWide P w r b0 t v) (hd : DataW.Trod enc P w base spare held t v d ps) : ∃ l : List Pair, Sl w v l.length (pcells l) := by
  obtain ⟨a0, len, cap, rfl⟩ := okWide_slice ht hval
  obtain ⟨fuel, hf⟩ := hd
  rcases open_slice ht hf with ⟨hcs, _⟩ | ⟨a, l, c, m, n, D, Pl, hcs, hb, hl, hm, hmm, hx, hi⟩
  · simp [Value.cells] at hcs
    obtain ⟨rfl, rfl, rfl⟩ := hcs
    exact ⟨[], Sl.nil w⟩
  · simp [Value.cells] at hcs
    obtain ⟨rfl, rfl, rfl⟩ := hcs
    have hlm : len ≤ m := by rw [hmm]; split <;> omega
    have each : ∀ i, i < len → ∃ q : Pair, w.cell? (a.add (i * 2)) = some (U q.1) ∧ w.cell? (a.add (i * 2 + 1)) = some (U q.2) := by
      intro i h
      obtain ⟨cs', hc', ht'⟩ := hi i (by omega)
      rw [hc] at hc'
      obtain ⟨_, hcl, hat⟩ := World.cells?_some hc'
      match cs', hcl with
      | [c0, c1], _ =>
        obtain ⟨xs, k, _, _, _, hlx, hel⟩ := DataW.trod_array hp ht'
        match xs, hlx with
        | [x0, x1], _ =>
          have e0 := hel 0 (by omega)
          have e1 := hel 1 (by omega)
          simp only [hce] at e0 e1
          obtain ⟨n0, h0, _, w0⟩ := DataW.trod_int he (x := x0) (by simpa using e0)
          obtain ⟨n1, h1, _, w1⟩ := DataW.trod_int he (x := x1) (by simpa using e1)
          simp at h0 h1
          subst h0 h1
          obtain ⟨y0, k0⟩ := wf_U w0
          obtain ⟨y1, k1⟩ := wf_U w1
          have a0 := hat 0 (by omega)
          have a1 := hat 1 (by omega)
          rw [Go.Deep.add_add] at a0 a1
          exact ⟨(y0, y1), by rw [← k0]; simpa using a0, by rw [← k1]; simpa using a1⟩
    obtain ⟨q, hq⟩ := choose_lt each
    refine ⟨(List.range len).map q, ?_⟩
    rw [List.length_map, List.length_range]
    refine .inr ⟨a, cap, rfl, hl, hm, fun j u hj => ?_⟩
    obtain ⟨i, hil, h | h⟩ := pcells_at _ j u hj
    · obtain ⟨rfl, rfl⟩ := h
      simp at hil ⊢
      exact (hq i hil).1
    · obtain ⟨rfl, rfl⟩ := h
      simp at hil ⊢
      exact (hq i hil).2
end
end Go.Proofs.Ytlijonofcnamgaa
