/- Bytes in rows of some sizes, plain. -/
import Derived.Test.YtkbihhdgipckgaaRowz
namespace Go.Proofs.Ytkbihhdgipckgaa

/-- bytes in rows of some sizes; none: they are not as many -/
def cutB : List UInt8 → List Int → Option (List (List UInt8))
  | b, [] => if b = [] then some [] else none
  | b, z :: zs => if 0 ≤ z ∧ z ≤ b.length then (cutB (b.drop z.toNat) zs).map (b.take z.toNat :: ·) else none

theorem cutB_flat : ∀ (zs : List Int) (b : List UInt8) (rows : List (List UInt8)), cutB b zs = some rows → rows.flatten = b
  | [], b, rows, h => by
    unfold cutB at h
    split at h
    · rename_i e; cases h; simp [e]
    · cases h
  | z :: zs, b, rows, h => by
    unfold cutB at h
    split at h
    · cases hc : cutB (b.drop z.toNat) zs with
      | none => rw [hc] at h; cases h
      | some r =>
        rw [hc] at h
        cases h
        rw [List.flatten_cons, cutB_flat zs _ r hc, List.take_append_drop]
    · cases h
theorem cutB_length : ∀ (zs : List Int) (b : List UInt8) (rows : List (List UInt8)), cutB b zs = some rows → rows.length = zs.length
  | [], b, rows, h => by
    unfold cutB at h
    split at h
    · cases h; rfl
    · cases h
  | z :: zs, b, rows, h => by
    unfold cutB at h
    split at h
    · cases hc : cutB (b.drop z.toNat) zs with
      | none => rw [hc] at h; cases h
      | some r =>
        rw [hc] at h
        cases h
        simp [cutB_length zs _ r hc]
    · cases h
theorem cutB_all (b : List UInt8) : cutB b [(b.length : Int)] = some [b] := by
  simp [cutB]
/-- one size more -/
theorem cutB_step {b0 b : List UInt8} {zs : List Int} {pre : List (List UInt8)} {k : Nat} (hk : k < zs.length) (h : cutB b0 zs = (cutB b (zs.drop k)).map (pre ++ ·)) (h0 : 0 ≤ zs[k]) (h1 : zs[k] ≤ b.length) :
    cutB b0 zs = (cutB (b.drop zs[k].toNat) (zs.drop (k + 1))).map ((pre ++ [b.take zs[k].toNat]) ++ ·) := by
  rw [h, List.drop_eq_getElem_cons hk, cutB, if_pos ⟨h0, h1⟩, Option.map_map]
  congr 1
  funext r
  simp
theorem cutB_stop {b0 b : List UInt8} {zs : List Int} {pre : List (List UInt8)} {k : Nat} (hk : k < zs.length) (h : cutB b0 zs = (cutB b (zs.drop k)).map (pre ++ ·)) (h0 : ¬ (0 ≤ zs[k] ∧ zs[k] ≤ b.length)) : cutB b0 zs = none := by
  rw [h, List.drop_eq_getElem_cons hk, cutB, if_neg h0]; rfl
theorem cutB_end {b0 b : List UInt8} {zs : List Int} {pre : List (List UInt8)} (h : cutB b0 zs = (cutB b (zs.drop zs.length)).map (pre ++ ·)) : cutB b0 zs = if b = [] then some pre else none := by
  rw [h, List.drop_length, cutB]
  split <;> simp
end Go.Proofs.Ytkbihhdgipckgaa
