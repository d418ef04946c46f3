/- What the cells of a struct that is handed in read as. No function of the program is named here. -/
import Derived.Test.YtlbogmpfjkendaaFrame
namespace Go.Proofs.Ytlbogmpfjkendaa
open Go Go.RowKit Go.ChangeShapes Go.WideShapes Go.ChangeAt

/-- from the cell number i on a t holds a u -/
inductive Part (P : Program) : TypeId → Nat → TypeId → Prop
  | here {t : TypeId} : Part P t 0 t
  | field {t u : TypeId} {fs : Array Field} {f : Field} {j i : Nat} (hs : P.underlying t = some (.struct fs)) (hf : fs[j]? = some f) (h : Part P f.type i u) (hle : decide (i + P.cellsOf u ≤ P.cellsOf f.type) = true) : Part P t (f.offset + i) u
  | elem {t u e : TypeId} {n j i : Nat} (ha : P.underlying t = some (.array n e)) (hj : j < n) (h : Part P e i u) (hle : decide (i + P.cellsOf u ≤ P.cellsOf e) = true) : Part P t (j * P.cellsOf e + i) u

theorem drop_take (cs : List Value) (o k i u : Nat) (h : i + u ≤ k) : (((cs.drop o).take k).drop i).take u = (cs.drop (o + i)).take u := by
  rw [List.drop_take, List.drop_drop, List.take_take, Nat.min_eq_left (by omega)]

section
variable {H : Type} {enc : TypeId × Value → H} {P : Program} {w : World} {base : Nat} {spare : Nat → Bool} {held : Bool} {r : Reach} {b0 : Nat}
theorem Part.get {t u : TypeId} {i : Nat} (h : Part P t i u) : ∀ (fuel : Nat) (cs : List Value) (x : DataW H × List MemPlace), cs.length ≤ P.cellsOf t → DataW.trod enc P w base spare held fuel t cs = some x →
    ∃ m y, DataW.trod enc P w base spare held m u ((cs.drop i).take (P.cellsOf u)) = some y := by
  induction h with
  | here =>
    intro fuel cs x hl hx
    exact ⟨fuel, x, by rw [List.drop_zero, List.take_of_length_le hl]; exact hx⟩
  | field hs hf h hle ih =>
    intro fuel cs x hl hx
    obtain ⟨xs, n, _, rfl, _, hlen, hg⟩ := DataW.trod_struct hs hx
    have h1 := hg _ _ hf
    have hj := (Array.getElem?_eq_some_iff.1 hf).1
    rw [List.getElem?_eq_getElem (by omega)] at h1
    obtain ⟨m, y, hy⟩ := ih _ _ _ (by rw [List.length_take]; omega) h1
    exact ⟨m, y, by rw [← drop_take _ _ _ _ _ (of_decide_eq_true hle)]; exact hy⟩
  | elem ha hj h hle ih =>
    intro fuel cs x hl hx
    obtain ⟨xs, m, _, rfl, _, hlen, hg⟩ := DataW.trod_array ha hx
    have h1 := hg _ hj
    rw [List.getElem?_eq_getElem (by omega)] at h1
    obtain ⟨m, y, hy⟩ := ih _ _ _ (by rw [List.length_take]; omega) h1
    exact ⟨m, y, by rw [← drop_take _ _ _ _ _ (of_decide_eq_true hle)]; exact hy⟩

/-- the cells of an argument -/
theorem agg_cells {t : TypeId} {v : Value} {fs : Array Field} (ht : P.underlying t = some (.struct fs)) (hval : Value.okWide P w r b0 t v) : ∃ cs : Array Value, v = .agg cs ∧ cs.size = P.cellsOf t := by
  obtain ⟨cs, rfl, hsz, _⟩ : ∃ cs, v = .agg cs ∧ cs.size = P.cellsOf t ∧ Row.okWide P w r b0 t cs := by
    simpa [Value.okWide, ht] using hval
  exact ⟨cs, rfl, hsz⟩

theorem part_U' {t : TypeId} {m : Nat} {c : Value} {y : DataW H × List MemPlace} (ht : P.underlying t = some (.int .u64)) (h : DataW.trod enc P w base spare held m t [c] = some y) : ∃ x, c = U x := by
  obtain ⟨n, hn, _, hw⟩ := DataW.trod_int ht h
  simp at hn; subst hn; exact wf_U hw
theorem part_W' {t : TypeId} {m : Nat} {c : Value} {y : DataW H × List MemPlace} (ht : P.underlying t = some (.int .u32)) (h : DataW.trod enc P w base spare held m t [c] = some y) : ∃ x, c = W x := by
  obtain ⟨n, hn, _, hw⟩ := DataW.trod_int ht h
  simp at hn; subst hn; exact wf_W hw
theorem part_I' {t : TypeId} {m : Nat} {c : Value} {y : DataW H × List MemPlace} (ht : P.underlying t = some (.int .i64)) (h : DataW.trod enc P w base spare held m t [c] = some y) : ∃ n, c = .int .i64 n ∧ -9223372036854775808 ≤ n ∧ n ≤ 9223372036854775807 := by
  obtain ⟨n, hn, _, hw⟩ := DataW.trod_int ht h
  simp at hn; subst hn; exact ⟨n, rfl, bounds_i64 hw⟩
theorem part_B' {t : TypeId} {m : Nat} {c : Value} {y : DataW H × List MemPlace} (ht : P.underlying t = some .bool) (h : DataW.trod enc P w base spare held m t [c] = some y) : ∃ b, c = .bool b := by
  obtain ⟨n, hn, _⟩ := DataW.trod_bool ht h
  simp at hn; exact ⟨n, hn⟩
theorem part_S' {t e : TypeId} {m : Nat} {v : Value} {y : DataW H × List MemPlace} (ht : P.underlying t = some (.slice e)) (he : P.underlying e = some (.int .u8)) (hce : P.cellsOf e = 1) (h : DataW.trod enc P w base spare held m t [v] = some y) : ∃ bs : List UInt8, Sl w v bs.length (bcells bs) := by
  rcases open_ints ht he hce h with ⟨hcs, _⟩ | ⟨x, l, c, zs, hcs, _, hl, hm, hz, _, hcell, hwz⟩
  · simp at hcs
    subst hcs
    exact ⟨[], Sl.nil w⟩
  · simp at hcs
    subst hcs
    obtain ⟨bs, hb⟩ := bytes_of (zs.take l) fun n hn => hwz n (List.mem_of_mem_take hn)
    have hlen : bs.length = l := by
      have := congrArg List.length hb
      simp only [List.length_map, bcells, List.length_take] at this
      have hz2 : l ≤ zs.length := by rw [hz]; split <;> omega
      omega
    refine ⟨bs, ?_⟩
    rw [hlen]
    refine .inr ⟨x, c, rfl, hl, hm, fun j u hj => ?_⟩
    rw [← hb] at hj
    obtain ⟨hj1, hj2⟩ := List.getElem?_eq_some_iff.1 hj
    have hj3 : j < zs.length := by simp only [List.length_map, List.length_take] at hj1; omega
    rw [hcell j hj3]
    simp at hj2
    rw [← hj2]
    simp [List.getD, hj3]
end
end Go.Proofs.Ytlbogmpfjkendaa
