/- Epochs and keys, plain. -/
import Derived.Test.YtdcejhplkhoboaaSpeckD
import Derived.Test.YtdcejhplkhoboaaChg
namespace Go.Proofs.Ytdcejhplkhoboaa
open Go Go.RowKit

def wcells (l : List (BitVec 32)) : List Value := l.map W
theorem wcells_length (l : List (BitVec 32)) : (wcells l).length = l.length := by simp [wcells]
theorem wcells_append (a b : List (BitVec 32)) : wcells (a ++ b) = wcells a ++ wcells b := by simp [wcells]
theorem wcells_get (l : List (BitVec 32)) (i : Nat) (h : i < l.length) : (wcells l)[i]? = some (W l[i]) := by simp [wcells, h]
theorem oneCell_W (l : List (BitVec 32)) : ∀ u ∈ wcells l, u.oneCell' = true := by
  intro u hu; simp [wcells] at hu; obtain ⟨x, _, rfl⟩ := hu; rfl

def keyOf (seed : BitVec 64) (e : BitVec 32) : Pair := enc2 (seed, seed) (0#64, e.setWidth 64)
theorem setWidth_inj (a b : BitVec 32) : (a.setWidth 64 == b.setWidth 64) = (a == b) := by
  rw [Bool.eq_iff_iff, beq_iff_eq, beq_iff_eq]
  constructor
  · intro h
    have := congrArg BitVec.toNat h
    rw [BitVec.toNat_setWidth, BitVec.toNat_setWidth] at this
    apply BitVec.eq_of_toNat_eq
    have := a.isLt
    have := b.isLt
    omega
  · intro h; rw [h]
theorem keyOf_inj (seed : BitVec 64) (a b : BitVec 32) : (keyOf seed a == keyOf seed b) = (a == b) := by
  unfold keyOf
  rw [enc_inj, ← setWidth_inj a b, Bool.eq_iff_iff, beq_iff_eq, beq_iff_eq]
  constructor
  · intro h; exact (Prod.mk.inj h).2
  · intro h; rw [h]

def nowOf (l : List (BitVec 32)) : BitVec 32 := l[l.length - 1]?.getD 0#32
theorem nowOf_get (l : List (BitVec 32)) (h : 0 < l.length) : l[l.length - 1]? = some (nowOf l) := by
  unfold nowOf
  rw [List.getElem?_eq_getElem (by omega)]; rfl
theorem nowOf_snoc (l : List (BitVec 32)) (x : BitVec 32) : nowOf (l ++ [x]) = x := by simp [nowOf]
/-- is it forgotten? -/
def gone (below now e : BitVec 32) : Bool := decide (e < below) && (e != now)
def eraseL (l : List (BitVec 32)) (below : BitVec 32) : List (BitVec 32) := l.filter fun e => !gone below (nowOf l) e
/-- rising -/
def Rising (l : List (BitVec 32)) : Prop := l.Pairwise (· < ·)
theorem eraseL_now (l : List (BitVec 32)) (below : BitVec 32) (h : 0 < l.length) : 0 < (eraseL l below).length ∧ nowOf (eraseL l below) = nowOf l := by
  obtain ⟨m, hm⟩ : ∃ m, l = m ++ [nowOf l] := by
    refine ⟨l.dropLast, ?_⟩
    have h1 : l ≠ [] := by intro e; rw [e] at h; simp at h
    have h2 := List.dropLast_concat_getLast h1
    have h3 : l.getLast h1 = nowOf l := by
      unfold nowOf
      rw [List.getLast_eq_getElem, List.getElem?_eq_getElem (by omega)]; rfl
    rw [h3] at h2; exact h2.symm
  unfold eraseL
  generalize nowOf l = x at *
  subst hm
  rw [List.filter_append]
  have e1 : ([x].filter fun e => !gone below x e) = [x] := by simp [gone]
  rw [e1]
  exact ⟨by simp, nowOf_snoc _ _⟩
theorem eraseL_rising {l : List (BitVec 32)} (h : Rising l) (below : BitVec 32) : Rising (eraseL l below) := List.Pairwise.filter _ h
theorem rising_lt {l : List (BitVec 32)} (h : Rising l) (i : Nat) (hi : i + 1 < l.length) : l[i] ≠ nowOf l := by
  unfold nowOf
  rw [List.getElem?_eq_getElem (by omega)]
  simp only [Option.getD_some]
  intro e
  have := List.pairwise_iff_getElem.1 h i (l.length - 1) (by omega) (by omega) (by omega)
  rw [e] at this
  exact absurd this (by simp [BitVec.lt_def])
theorem rising_snoc {l : List (BitVec 32)} (h : Rising l) (h0 : 0 < l.length) (x : BitVec 32) (hx : nowOf l < x) : Rising (l ++ [x]) := by
  unfold Rising
  rw [List.pairwise_append]
  refine ⟨h, by simp, fun a ha b hb => ?_⟩
  rw [List.mem_singleton] at hb
  subst hb
  obtain ⟨i, hi, rfl⟩ := List.getElem_of_mem ha
  by_cases hl : i + 1 < l.length
  · have h1 := List.pairwise_iff_getElem.1 h i (l.length - 1) (by omega) (by omega) (by omega)
    have h2 : l[l.length - 1] = nowOf l := by
      unfold nowOf; rw [List.getElem?_eq_getElem (by omega)]; rfl
    rw [h2] at h1
    simp only [BitVec.lt_def] at *
    omega
  · have h2 : l[i] = nowOf l := by
      unfold nowOf; rw [List.getElem?_eq_getElem (by omega)]
      simp only [Option.getD_some]
      congr 1; omega
    rw [h2]; exact hx

/-- a row of cells written over -/
theorem blk_setCells {e : TypeId} {g : Nat} : ∀ (vs cs : List Value) (o : Nat) (w : World), Blk w g cs.toArray e → o + vs.length ≤ cs.length →
    Blk (w.setCells g o vs) g (cs.take o ++ vs ++ cs.drop (o + vs.length)).toArray e ∧ Chg [g] w (w.setCells g o vs)
  | [], cs, o, w, h, _ => by
    refine ⟨?_, Chg.refl _ _⟩
    show Blk w g _ e
    simpa using h
  | v :: vs, cs, o, w, h, hl => by
    have h1 : Blk (w.setCell ⟨g, o, none⟩ v) g (cs.set o v).toArray e := by simpa using h.set o v
    simp only [List.length_cons] at hl
    obtain ⟨h2, h3⟩ := blk_setCells vs (cs.set o v) (o + 1) (w.setCell ⟨g, o, none⟩ v) h1 (by rw [List.length_set]; omega)
    refine ⟨?_, ((Chg.refl [g] w).set (by simp) o v).trans h3⟩
    have e1 : (cs.set o v).take (o + 1) ++ vs ++ (cs.set o v).drop (o + 1 + vs.length) = cs.take o ++ (v :: vs) ++ cs.drop (o + (v :: vs).length) := by
      rw [List.take_succ_eq_append_getElem (by rw [List.length_set]; omega), List.getElem_set_self, List.take_set_of_le (Nat.le_refl _), List.drop_set_of_lt (by omega), List.length_cons, show o + 1 + vs.length = o + (vs.length + 1) by omega]
      simp
    rw [← e1]
    exact h2
end Go.Proofs.Ytdcejhplkhoboaa
