/- Bytes as a string, in this program's numbers; parts of slices. -/
import Derived.Test.YtpbdncnepcibaaaProg
import Derived.Test.YtpbdncnepcibaaaChain
import Derived.Test.YtpbdncnepcibaaaSlice
namespace Go.Proofs.Ytpbdncnepcibaaa
open Go Go.RowKit

theorem str_of {w : World} {v : Value} {bs : List UInt8} (h : Sl w v bs.length (bcells bs)) : (convert 22 9 v).run Try.prog w = .ok (Str bs) w :=
  conv_bytes (P := Try.prog) w (src := 22) (dst := 9) Try.underlying22 Try.underlying5 Try.underlying9 h
theorem Sl.caps {w : World} {p : Option Addr} {m cap n : Nat} {cs : List Value} (h : Sl w (.slice p m cap) n cs) : m = n ∧ n ≤ cap ∧ cap ≤ maxLen := by
  rcases h with ⟨h1, h2, _⟩ | ⟨a, c, h1, h2, h3, _⟩
  · cases h1; exact ⟨h2.symm, by omega, Nat.zero_le _⟩
  · cases h1; exact ⟨rfl, h2, h3⟩
/-- a slice of bytes, read at k -/
theorem Sl.byte {w : World} {v : Value} {bs : List UInt8} (h : Sl w v bs.length (bcells bs)) (hc : 0 < bs.length) : ∃ b off cap, v = .slice (some ⟨b, off, none⟩) bs.length cap ∧ bs.length ≤ cap ∧ cap ≤ maxLen ∧ b < w.heap.size ∧ ∀ k (hk : k < bs.length), w.cell? ⟨b, off + k, none⟩ = some (V8 bs[k]) := by
  obtain ⟨b, off, cap, h1, h2, h3, h4, h5⟩ := h.at (by simpa [bcells] using hc)
  exact ⟨b, off, cap, h1, h2, h3, h4, fun k hk => h5 k _ (bcells_get bs k hk)⟩

/-- the first n of a slice of bytes -/
theorem Sl.first {w : World} {p : Option Addr} {m cap n : Nat} {bs : List UInt8} (h : Sl w (.slice p m cap) bs.length (bcells bs)) (hn : n ≤ bs.length) : Sl w (.slice p n cap) (bs.take n).length (bcells (bs.take n)) := by
  have hl : (bs.take n).length = n := by rw [List.length_take]; omega
  rw [hl]
  rcases h with ⟨h1, h2, h3⟩ | ⟨a, c, h1, h2, h3, h4⟩
  · cases h1
    obtain rfl : n = 0 := by omega
    exact .inl ⟨rfl, rfl, by simp [bcells]⟩
  · cases h1
    refine .inr ⟨a, cap, rfl, by omega, h3, fun j u hj => h4 j u ?_⟩
    unfold bcells at hj ⊢
    rw [List.map_take, List.getElem?_take] at hj
    split at hj
    · exact hj
    · cases hj
/-- all but the first n of a slice of bytes -/
theorem Sl.rest {w : World} {b off m cap n : Nat} {bs : List UInt8} (h : Sl w (.slice (some ⟨b, off, none⟩) m cap) bs.length (bcells bs)) (hn : n ≤ bs.length) : Sl w (.slice (some ⟨b, off + n, none⟩) (m - n) (cap - n)) (bs.drop n).length (bcells (bs.drop n)) := by
  rcases h with ⟨h1, h2, h3⟩ | ⟨a, c, h1, h2, h3, h4⟩
  · cases h1
  · cases h1
    rw [List.length_drop]
    refine Sl.mk (by omega) (by omega) fun j u hj => ?_
    have := h4 (n + j) u (by unfold bcells at hj ⊢; rw [List.map_drop, List.getElem?_drop] at hj; exact hj)
    rw [add_off] at this
    rw [Nat.add_assoc]
    exact this
theorem beq_V8 (a b : UInt8) : ((a.toNat : Int) == (b.toNat : Int)) = (a == b) := by
  rw [Bool.eq_iff_iff, beq_iff_eq, beq_iff_eq]
  exact ⟨fun h => UInt8.toNat_inj.1 (by omega), fun h => by rw [h]⟩
@[go_sem] theorem binV8_eql (t : TypeId) (x y : UInt8) : binOp .eql t (V8 x) (V8 y) = pure (.bool (x == y)) := (binOp_eql ..).trans (by rw [beq_V8])
@[go_sem] theorem binV8_neq (t : TypeId) (x y : UInt8) : binOp .neq t (V8 x) (V8 y) = pure (.bool (x != y)) := (binOp_neq ..).trans (by rw [bne, beq_V8]; rfl)
@[go_sem] theorem binW_eql (t : TypeId) (x y : BitVec 32) : binOp .eql t (W x) (W y) = pure (.bool (x == y)) := (binOp_eql ..).trans (by rw [beq_toNat])
@[go_sem] theorem binW_neq (t : TypeId) (x y : BitVec 32) : binOp .neq t (W x) (W y) = pure (.bool (x != y)) := (binOp_neq ..).trans (by rw [bne, beq_toNat]; rfl)
theorem opV8_xor (x y : UInt8) : Op.intBits .xor .u8 (x.toNat : Int) (y.toNat : Int) = pure (V8 (x ^^^ y)) := by
  show pure (Value.int .u8 (IntKind.u8.wrap ((BitVec.ofInt 8 _ ^^^ BitVec.ofInt 8 _).toNat : Int))) = _
  have e : ∀ z : UInt8, BitVec.ofInt 8 (z.toNat : Int) = z.toBitVec := by
    intro z; apply BitVec.eq_of_toNat_eq; rw [BitVec.toNat_ofInt]; have := z.toNat_lt; show _ = z.toNat; omega
  rw [e, e, wrap_u8, V8]
  congr 2
  have h : (x ^^^ y).toNat = (x.toBitVec ^^^ y.toBitVec).toNat := rfl
  rw [h]
  have := (x ^^^ y).toNat_lt
  rw [h] at this
  omega
@[go_sem] theorem binV8_xor (t : TypeId) (x y : UInt8) : binOp .xor t (V8 x) (V8 y) = pure (V8 (x ^^^ y)) := (binOp_xor ..).trans (opV8_xor x y)

end Go.Proofs.Ytpbdncnepcibaaa
