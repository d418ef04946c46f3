/- One byte of a row of the call's own is turned. No function of the program is named here. -/
import Derived.Test.YtgbfgaeohnjmeaaSlice
import Derived.IntWalk
namespace Go.Proofs.Ytgbfgaeohnjmeaa
open Go Go.RowKit

theorem turn_eq (b : List UInt8) (i : Nat) (hi : i < b.length) (y : UInt8) : (b.set i (b[i] ^^^ y) = b) ↔ y = 0 := by
  constructor
  · intro h
    have := congrArg (fun l => l[i]?) h
    simp [hi] at this
    have h2 := congrArg (b[i] ^^^ ·) this
    simp only [← UInt8.xor_assoc, UInt8.xor_self, UInt8.zero_xor] at h2
    exact h2
  · rintro rfl
    rw [UInt8.xor_zero]
    exact List.set_getElem_self hi
/-- a byte of a row of the call's own is turned -/
theorem own_set {w : World} {B n : Nat} {e : TypeId} {v : Value} {bs : List UInt8} (h : w.ownsRow B e 1 v n (bcells bs)) (hn : 0 < n) : ∃ g cap, v = .slice (some ⟨g, 0, none⟩) n cap ∧ B ≤ g ∧ n ≤ cap ∧ cap ≤ maxLen ∧ bs.length = n ∧ g < w.heap.size ∧ (∀ (i : Nat) (hi : i < bs.length), w.cell? ⟨g, i, none⟩ = some (V8 bs[i]) ∧ w.frozen? ⟨g, i, none⟩ = false) ∧
    ∀ (i : Nat) (x : UInt8), i < n → Sl (w.setCell ⟨g, i, none⟩ (V8 x)) v n (bcells (bs.set i x)) := by
  obtain ⟨hl, h⟩ := h
  rcases h with ⟨_, h⟩ | ⟨g, cap, cur, rfl, hb, hg, hnc, hc, hs, ht⟩
  · omega
  · have hlen : bs.length = n := by rw [bcells_length] at hl; omega
    have hB : Blk w g cur e := hg
    refine ⟨g, cap, rfl, hb, hnc, hc, hlen, hB.lt, fun i hi => ⟨?_, hB.free i⟩, fun i x hi => ?_⟩
    · rw [hB.cell i]
      have := congrArg (fun l => l[i]?) ht
      rw [bcells_get bs i hi, List.getElem?_take, if_pos (by omega)] at this
      simpa using this
    · have hS := hB.set i (V8 x)
      refine Sl.mk hnc hc fun j u hj => ?_
      rw [Nat.zero_add, hS.cell j]
      have := congrArg (fun l => l[j]?) ht
      have hj2 : j < n := by
        have := (List.getElem?_eq_some_iff.1 hj).1
        rw [bcells_length, List.length_set] at this; omega
      rw [List.getElem?_take, if_pos (by omega)] at this
      have hj3 : j < cur.size := by omega
      by_cases hij : i = j
      · subst hij
        rw [bcells_get _ i (by rw [List.length_set]; omega)] at hj
        simp at hj
        simp [hj3, ← hj]
      · rw [Array.getElem?_setIfInBounds_ne hij]
        rw [bcells_get _ j (by rw [List.length_set]; omega)] at hj
        rw [bcells_get _ j (by omega)] at this
        simp [hij] at hj
        simpa [← hj] using this

theorem and_low (n : Int) : ∃ i : Nat, i < 65536 ∧ bits .and .i64 n 65535 = (i : Int) := by
  have h : (BitVec.ofInt 64 n &&& BitVec.ofInt 64 65535).toNat < 65536 := by
    rw [BitVec.toNat_and]
    have : (BitVec.ofInt 64 65535).toNat = 65535 := by decide
    rw [this]
    exact Nat.lt_of_le_of_lt Nat.and_le_right (by omega)
  refine ⟨_, h, ?_⟩
  show IntKind.i64.wrap ((BitVec.ofInt 64 n &&& BitVec.ofInt 64 65535).toNat : Int) = _
  exact IntWalk.i64_in _ (by omega)
end Go.Proofs.Ytgbfgaeohnjmeaa
