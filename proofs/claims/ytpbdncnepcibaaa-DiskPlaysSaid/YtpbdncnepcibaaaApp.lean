/- append, with what it leaves said closer: an old block is as it was, or it is the row's own and is written behind what it held. No function of the program is named here. -/
import Derived.Test.YtpbdncnepcibaaaChg
namespace Go.Proofs.Ytpbdncnepcibaaa
open Go Go.RowKit

/-- the row's block (if it has one) may be written from its k-th cell on; all else is as it was -/
structure Grew (row : Option Nat) (k : Nat) (e : TypeId) (w w' : World) : Prop where
  os : w'.os = w.os
  tape : w'.tape = w.tape
  output : w'.output = w.output
  size : w.heap.size ≤ w'.heap.size
  block : ∀ i, i < w.heap.size → w'.heap[i]? = w.heap[i]? ∨ (row = some i ∧ ∃ cur cur' : Array Value, w.heap[i]? = some (.cells cur e (0, 0)) ∧ w'.heap[i]? = some (.cells cur' e (0, 0)) ∧ cur'.size = cur.size ∧ cur'.toList.take k = cur.toList.take k ∧ k < cur.size)

section
variable {P : Program} {w w' : World} {row : Option Nat} {k : Nat} {e : TypeId} {base size n : Nat} {v : Value} {xs : List Value}
theorem Grew.of_grown (h : w.grownBy w' none) : Grew row k e w w' := ⟨h.os, h.tape, h.output, h.size, fun i hi => .inl (h.block i hi (by simp))⟩

/-- a row of which no more than k cells are held still is one -/
theorem Grew.own (h : Grew row k e w w') (hown : w.ownsRow base e size v n xs) (hk : n * size ≤ k) : w'.ownsRow base e size v n xs := by
  obtain ⟨hl, hown⟩ := hown
  refine ⟨hl, ?_⟩
  rcases hown with h0 | ⟨g, cap, cur, rfl, hb, hg, hn, hc, hs, ht⟩
  · exact .inl h0
  · have hlt : g < w.heap.size := (Array.getElem?_eq_some_iff.1 hg).1
    rcases h.block g hlt with hsame | ⟨_, c1, c2, h1, h2, h3, h4, _⟩
    · exact .inr ⟨g, cap, cur, rfl, hb, hsame.trans hg, hn, hc, hs, ht⟩
    · rw [h1] at hg
      cases hg
      refine .inr ⟨g, cap, c2, rfl, hb, h2, hn, hc, h3.trans hs, ?_⟩
      rw [← ht]
      have := congrArg (List.take (n * size)) h4
      rw [List.take_take, List.take_take, Nat.min_eq_left hk] at this
      exact this
/-- a block of no more than k cells is as it was -/
theorem Grew.small (h : Grew row k e w w') {b : Nat} {cs : Array Value} {t : TypeId} (hb : Blk w b cs t) (hs : cs.size ≤ k) : Blk w' b cs t := by
  rcases h.block b hb.lt with hsame | ⟨_, c1, c2, h1, h2, h3, h4, h5⟩
  · exact hsame.trans hb
  · unfold Blk at hb
    rw [h1] at hb
    cases hb
    omega
theorem Grew.other (h : Grew row k e w w') {b : Nat} {cs : Array Value} {t : TypeId} (hb : Blk w b cs t) (hs : row ≠ some b) : Blk w' b cs t := by
  rcases h.block b hb.lt with hsame | ⟨hr, _⟩
  · exact hsame.trans hb
  · exact absurd hr hs
theorem Grew.below {B : Nat} (h : Grew row k e w w') (hB : ∀ i, row = some i → B ≤ i) (hs : B ≤ w.heap.size) : Below B w w' :=
  ⟨h.os, h.tape, h.output, h.size, fun i hi => by
    rcases h.block i (by omega) with hsame | ⟨hr, _⟩
    · exact hsame
    · have := hB i hr; omega⟩
theorem Grew.kept (h : Grew row k e w w') (hr : ∀ i cur, row = some i → w.heap[i]? = some (.cells cur e (0, 0)) → cur.size ≤ k) : Kept w w' :=
  ⟨h.os, h.tape, h.output, h.size, fun i hi => by
    rcases h.block i hi with hsame | ⟨hr', c1, c2, h1, h2, h3, h4, h5⟩
    · exact hsame
    · have := hr i c1 hr' h1; omega⟩

theorem run_append3 {t size bytes : Nat} {z : Value} (w : World) (T : SlT P t e size bytes z) (ty : TypeId) {u : Value} {m : Nat} {ys : List Value}
    (hown : w.ownsRow base e size v n xs) (hu : Sl w u m ys) (hl : ys.length = m * size) (h1 : ∀ u ∈ ys, u.oneCell' = true) (h63 : n + m ≤ maxLen) (hbytes : (n + m) * bytes ≤ 140737488355328) (hbase : base ≤ w.heap.size) :
    ∃ v' w', (Builtin.append_ #[t, t] ty #[v, u]).run P w = .ok v' w' ∧ w'.ownsRow base e size v' (n + m) (xs ++ ys) ∧ Grew v.ownBlock (n * size) e w w' ∧ (v'.ownBlock = v.ownBlock ∨ v'.ownBlock = some w.heap.size) ∧ (m = 0 → v' = v) := by
  obtain ⟨i, hi, hz, hs, hb⟩ := T.info
  have hsmall : n + m ≤ 9223372036854775807 := by simp only [maxLen] at h63; omega
  obtain ⟨v', w', hr, h2, h3, h4⟩ := run_append (P := P) w T ty hown hu hl h1 h63 hbytes hbase
  refine ⟨v', w', hr, h2, ?_, h4, ?_⟩
  · rcases hown.2 with ⟨rfl, _⟩ | ⟨g, cap, cur, rfl, hbg, hg, hnc, hcm, hcs, htake⟩
    · exact Grew.of_grown h3
    · rcases hu with ⟨rfl, rfl, rfl⟩ | ⟨ad, c, rfl, hc1, hc2, hc4⟩
      · have := run_append_owned_none (P := P) w base t ty e i size T.under hi _ n xs hown
        rw [hr] at this
        cases this
        exact ⟨rfl, rfl, rfl, Nat.le_refl _, fun _ _ => .inl rfl⟩
      · by_cases hroom : n + m ≤ cap
        · have hfit : n * i.size + ys.length ≤ cur.size := by rw [hl, hcs, hs, ← Nat.add_mul]; exact Nat.mul_le_mul_right _ hroom
          have := run_append_room (P := P) w t ty e i T.under hi g n cap cur hg ad m c ys (by rw [hs]; exact hl) hc4 h1 hroom hfit
          rw [hr] at this
          cases this
          rw [hs] at *
          by_cases hm : m = 0
          · subst hm
            have hy : ys = [] := List.eq_nil_of_length_eq_zero (by simpa using hl)
            subst hy
            refine ⟨rfl, rfl, rfl, by simp, fun k hk => .inl ?_⟩
            by_cases hkg : k = g
            · subst hkg
              rw [setRow_heap w k cur _ e _ hg, hg]
              simp
            · exact setRow_other w g k _ hkg
          · refine ⟨rfl, rfl, rfl, by simp, fun k hk => ?_⟩
            by_cases hkg : k = g
            · subst hkg
              have hpos := T.pos
              have hyl : 0 < ys.length := by rw [hl]; exact Nat.mul_pos (by omega) hpos
              refine .inr ⟨rfl, cur, _, hg, setRow_heap w k cur _ e _ hg, ?_, ?_, by omega⟩
              · simp only [List.size_toArray, List.length_append, List.length_take, List.length_drop, Array.length_toList]
                omega
              · simp only []
                rw [List.append_assoc, List.take_append_of_le_length (by simp; omega), List.take_take, Nat.min_self]
            · exact .inl (setRow_other w g k _ hkg)
        · have holds : ∀ j u, xs[j]? = some u → w.cell? ((⟨g, 0, none⟩ : Addr).add j) = some u := hown.cells (g := g) rfl
          have := run_append_grow (P := P) w t ty e i z T.under hi hz ⟨g, 0, none⟩ n cap xs (by rw [hs]; exact hown.1) holds ad m c ys (by rw [hs]; exact hl) hc4 (by omega) (by omega) (by rw [hb]; exact growslice_fits (by omega) hbytes)
          rw [hr] at this
          cases this
          exact ⟨rfl, rfl, rfl, by simp, fun k hk => .inl (heap_alloc_old w.drew _ hk)⟩
  · intro hm
    subst hm
    have hy : ys = [] := List.eq_nil_of_length_eq_zero (by simpa using hl)
    subst hy
    rcases hu with ⟨rfl, _, _⟩ | ⟨ad, c, rfl, hc1, hc2, hc4⟩
    · have := run_append_owned_none (P := P) w base t ty e i size T.under hi _ n xs hown
      rw [hr] at this
      cases this
      rfl
    · rcases hown.2 with ⟨rfl, rfl⟩ | ⟨g, cap, cur, rfl, hbg, hg, hnc, hcm, hcs, htake⟩
      · have : (Builtin.append_ #[t, t] ty #[.slice none 0 0, .slice (some ad) 0 c]).run P w = .ok (.slice none 0 0) w := by
          simp [Builtin.append_, run_underlying T.under, sizeOf, typeInfo, hi, Builtin.lenOf, Builtin.firstCells, loadCells, loadCellsFrom]
        rw [hr] at this
        cases this
        rfl
      · have := run_append_room (P := P) w t ty e i T.under hi g n cap cur hg ad 0 c [] (by simp) (by simp) (by simp) (by omega) (by rw [hcs, hs]; simp; exact Nat.mul_le_mul_right _ hnc)
        rw [hr] at this
        cases this
        rfl
end

section
variable {P : Program} {w : World} {ops : Array Oper} {rest : List Oper} {o : Oper} {a : Act} {Q : Exit → Act → World → Prop} {K : Act → World → Prop}
theorem wp_append3 {t e size bytes : Nat} {z : Value} (T : SlT P t e size bytes z) {s x : Operand} (ho : o.op = .call { callee := .builtin .append, args := #[s, x], argTypes := #[t, t] })
    {base : Nat} {v u : Value} {n m : Nat} {xs ys : List Value} (hs : a.eval s = v) (hx : a.eval x = u)
    (hown : w.ownsRow base e size v n xs) (hu : Sl w u m ys) (hl : ys.length = m * size) (h1 : ∀ u ∈ ys, u.oneCell' = true) (h63 : n + m ≤ maxLen) (hbytes : (n + m) * bytes ≤ 140737488355328) (hbase : base ≤ w.heap.size)
    (h : ∀ v' w', w'.ownsRow base e size v' (n + m) (xs ++ ys) → Grew v.ownBlock (n * size) e w w' → (v'.ownBlock = v.ownBlock ∨ v'.ownBlock = some w.heap.size) → (m = 0 → v' = v) → K (a.put o.dst v') w') : o.wp P a w K Q := by
  obtain ⟨v', w', hr, h2, h3, h4, h5⟩ := run_append3 (P := P) w T o.type hown hu hl h1 h63 hbytes hbase
  unfold Oper.wp execOp
  simp only [ho, resolve, invoke, builtin, Sem.run_bind, Sem.run_pure, Result.andThen_ok, List.map_toArray, List.map_cons, List.map_nil, hs, hx, hr]
  exact h v' w' h2 h3 h4 h5
theorem wpList_append3 {t e size bytes : Nat} {z : Value} (T : SlT P t e size bytes z) {s x : Operand} (hgd : o.guard = none) (ho : o.op = .call { callee := .builtin .append, args := #[s, x], argTypes := #[t, t] })
    {base : Nat} {v u : Value} {n m : Nat} {xs ys : List Value} (hs : a.eval s = v) (hx : a.eval x = u)
    (hown : w.ownsRow base e size v n xs) (hu : Sl w u m ys) (hl : ys.length = m * size) (h1 : ∀ u ∈ ys, u.oneCell' = true) (h63 : n + m ≤ maxLen) (hbytes : (n + m) * bytes ≤ 140737488355328) (hbase : base ≤ w.heap.size)
    (h : ∀ v' w', w'.ownsRow base e size v' (n + m) (xs ++ ys) → Grew v.ownBlock (n * size) e w w' → (v'.ownBlock = v.ownBlock ∨ v'.ownBlock = some w.heap.size) → (m = 0 → v' = v) → wpList P ops Q rest (a.put o.dst v') w') : wpList P ops Q (o :: rest) a w :=
  wpList_plain hgd fun _ hK => wp_append3 T ho hs hx hown hu hl h1 h63 hbytes hbase fun v' w' h2 h3 h4 h5 => hK _ _ (h v' w' h2 h3 h4 h5)
end
end Go.Proofs.Ytpbdncnepcibaaa
