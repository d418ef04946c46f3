/- What a slice of slices of bytes that is handed in reads as. No function of the program is named here. -/
import Derived.Test.YtndeadicegeblaaRowz
import Derived.Test.YtndeadicegeblaaPart
import Derived.Deep.Slices
import Derived.SizedLaws
namespace Go.Proofs.Ytndeadicegeblaa
open Go Go.RowKit Go.ChangeShapes Go.WideShapes Go.ChangeAt Go.Deep

section
variable {H : Type} {enc : TypeId × Value → H} {P : Program} {w : World} {base : Nat} {spare : Nat → Bool} {held : Bool} {r : Reach} {b0 : Nat}
theorem part_S2 {t e : TypeId} {m : Nat} {v : Value} {y : DataW H × List MemPlace} (ht : P.underlying t = some (.slice e)) (he : P.underlying e = some (.int .u8)) (hce : P.cellsOf e = 1) (hb1 : P.bytesOf e = 1) (h : DataW.trod enc P w base spare held m t [v] = some y) :
    ∃ bs : List UInt8, Sl w v bs.length (bcells bs) ∧ (0 < bs.length → bs.length ∈ y.1.weights P t ∨ ∃ n ∈ y.1.weights P t, bs.length ≤ n) := by
  rcases open_ints ht he hce h with ⟨hcs, _⟩ | ⟨x, l, c, zs, hcs, _, hl, hm, hz, hx, hcell, hwz⟩
  · simp at hcs
    subst hcs
    exact ⟨[], Sl.nil w, fun h => absurd h (by simp)⟩
  · simp at hcs
    subst hcs
    obtain ⟨bs, hb⟩ := bytes_of (zs.take l) fun n hn => hwz n (List.mem_of_mem_take hn)
    have hz2 : l ≤ zs.length := by rw [hz]; split <;> omega
    have hlen : bs.length = l := by
      have := congrArg List.length hb
      simp only [List.length_map, bcells, List.length_take] at this
      omega
    refine ⟨bs, ?_, fun _ => .inr ⟨zs.length, ?_, by omega⟩⟩
    · rw [hlen]
      refine .inr ⟨x, c, rfl, hl, hm, fun j u hj => ?_⟩
      rw [← hb] at hj
      obtain ⟨hj1, hj2⟩ := List.getElem?_eq_some_iff.1 hj
      have hj3 : j < zs.length := by simp only [List.length_map, List.length_take] at hj1; omega
      rw [hcell j hj3]
      simp at hj2
      rw [← hj2]
      simp [List.getD, hj3]
    · rw [hx]
      simp only [DataW.weights, ht, hb1]
      refine List.mem_cons.2 (.inl ?_)
      simp [lits]
      omega

theorem weightsAll_mem {e : TypeId} : ∀ {l : List (DataW H)} {d : DataW H}, d ∈ l → ∀ n ∈ d.weights P e, n ∈ DataW.weightsAll P e l
  | d0 :: l, d, hd, n, hn => by
    simp only [DataW.weightsAll, List.mem_append]
    rcases List.mem_cons.1 hd with rfl | hd
    · exact .inl hn
    · exact .inr (weightsAll_mem hd n hn)

theorem open_rows {t e u : TypeId} {v : Value} {d : DataW H} {ps : List MemPlace} (ht : P.underlying t = some (.slice e)) (he : P.underlying e = some (.slice u)) (hu : P.underlying u = some (.int .u8)) (hce : P.cellsOf e = 1) (hcu : P.cellsOf u = 1) (hbu : P.bytesOf u = 1)
    (hval : Value.okWide P w r b0 t v) (hd : DataW.Trod enc P w base spare held t v d ps) (hsz : ∀ n ∈ d.weights P t, n ≤ reachBytes) :
    ∃ rows : List (List UInt8), RowsSl w v rows ∧ ∀ row ∈ rows, row.length ≤ reachBytes := by
  obtain ⟨a0, len0, cap0, rfl⟩ := okWide_slice ht hval
  obtain ⟨fuel, hf⟩ := hd
  rcases open_slice ht hf with ⟨hcs, _⟩ | ⟨a, len, cap, m, n, D, Pl, hcs, hb, hl, hm, hmm, hx, hi⟩
  · simp [Value.cells] at hcs
    obtain ⟨rfl, rfl, rfl⟩ := hcs
    exact ⟨[], RowsSl.nil w, fun row h => by cases h⟩
  · simp [Value.cells] at hcs
    obtain ⟨rfl, rfl, rfl⟩ := hcs
    have hlm : len0 ≤ m := by rw [hmm]; split <;> omega
    have hd2 : d = .slice ((List.range len0).map D) ((List.range (m - len0)).map fun j => D (len0 + j)) := (Prod.mk.inj hx).1
    have each : ∀ i, ∃ p : Value × List UInt8, i < len0 → w.cell? (a.add i) = some p.1 ∧ Sl w p.1 p.2.length (bcells p.2) ∧ p.2.length ≤ reachBytes := by
      intro i
      by_cases h : i < len0
      · obtain ⟨cs', hc, ht'⟩ := hi i (by omega)
        rw [hce, Nat.mul_one] at hc
        obtain ⟨_, hcl, _⟩ := World.cells?_some hc
        match cs', hcl with
        | [v], _ =>
          obtain ⟨bs, hbs, hw⟩ := part_S2 he hu hcu hbu ht'
          refine ⟨(v, bs), fun _ => ⟨cell_of_cells?_one hc, hbs, ?_⟩⟩
          have hin : ∀ n ∈ (D i).weights P e, n ≤ reachBytes := fun n hn => hsz n (by
            rw [hd2]
            simp only [DataW.weights, ht]
            refine List.mem_cons.2 (.inr (List.mem_append.2 (.inl (weightsAll_mem (d := D i) (List.mem_map.2 ⟨i, List.mem_range.2 h, rfl⟩) n hn))))
            )
          by_cases h0 : 0 < bs.length
          · rcases hw h0 with h1 | ⟨k, h1, h2⟩
            · exact hin _ h1
            · exact Nat.le_trans h2 (hin _ h1)
          · show bs.length ≤ _
            omega
      · exact ⟨(undef, []), fun h' => absurd h' h⟩
    refine ⟨(List.range len0).map fun i => (each i).choose.2, ⟨(List.range len0).map fun i => (each i).choose.1, by simp, ?_, ?_⟩, ?_⟩
    · refine .inr ⟨a, cap0, by simp, by simpa using hl, hm, fun j u hj => ?_⟩
      obtain ⟨hj1, hj2⟩ := List.getElem?_eq_some_iff.1 hj
      simp at hj1 hj2
      rw [← hj2]
      exact ((each j).choose_spec hj1).1
    · intro i bs u h1 h2
      obtain ⟨k1, k2⟩ := List.getElem?_eq_some_iff.1 h1
      obtain ⟨k3, k4⟩ := List.getElem?_eq_some_iff.1 h2
      simp at k1 k2 k4
      rw [← k2, ← k4]
      exact ((each i).choose_spec k1).2.1
    · intro row hr
      obtain ⟨i, h1, h2⟩ := List.mem_map.1 hr
      rw [← h2]
      exact ((each i).choose_spec (List.mem_range.1 h1)).2.2
end
end Go.Proofs.Ytndeadicegeblaa
