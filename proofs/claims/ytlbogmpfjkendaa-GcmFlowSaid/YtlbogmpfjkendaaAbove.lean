/- A drawn region that stores to the call's own low blocks and reads higher ones. No function of the program is named here. -/
import Derived.Test.YtlbogmpfjkendaaChain
namespace Go.Proofs.Ytlbogmpfjkendaa
open Go Go.RowKit

/-- every block from B on is as it was -/
def Above (B : Nat) (w w' : World) : Prop := w.heap.size ≤ w'.heap.size ∧ ∀ b, B ≤ b → b < w.heap.size → w'.heap[b]? = w.heap[b]?

section
variable {B : Nat} {w w' w'' : World}
theorem Above.refl (B : Nat) (w : World) : Above B w w := ⟨Nat.le_refl _, fun _ _ _ => rfl⟩
theorem Above.trans (h : Above B w w') (h' : Above B w' w'') : Above B w w'' :=
  ⟨Nat.le_trans h.1 h'.1, fun b h1 h2 => (h'.2 b h1 (Nat.lt_of_lt_of_le h2 h.1)).trans (h.2 b h1 h2)⟩
theorem Above.of_kept (h : Kept w w') : Above B w w' := ⟨h.size, fun b _ h2 => h.block b h2⟩
theorem Above.setCell {a : Addr} (ha : a.block < B) (v : Value) : Above B w (w.setCell a v) :=
  ⟨by simp [World.setCell], fun b h1 _ => by
    have : a.block ≠ b := by omega
    simp [World.setCell, Array.getElem?_modify, this]⟩
theorem Above.cell (h : Above B w w') {a : Addr} {v : Value} (hc : w.cell? a = some v) (hb : B ≤ a.block) : w'.cell? a = some v := by
  have := h.2 a.block hb (World.block_lt_of_cell? w _ hc)
  unfold World.cell? at *
  rw [this]; exact hc
theorem Blk.above {b : Nat} {cs : Array Value} {t : TypeId} (hB : Blk w b cs t) (h : Above B w w') (hb : B ≤ b) : Blk w' b cs t := (h.2 b hb hB.lt).trans hB
theorem own_above {e size n : Nat} {v : Value} {cs : List Value} (h : w.ownsRow B e size v n cs) (hb : Above B w w') : w'.ownsRow B e size v n cs := by
  obtain ⟨hl, h⟩ := h
  refine ⟨hl, ?_⟩
  rcases h with h | ⟨g, cap, cur, rfl, hbg, hg, hn, hc, hs, ht⟩
  · exact .inl h
  · exact .inr ⟨g, cap, cur, rfl, hbg, (hb.2 g hbg (Array.getElem?_eq_some_iff.1 hg).1).trans hg, hn, hc, hs, ht⟩
end

theorem wp_region_chainAbove {P : Program} {ops : Array Oper} {Q : Exit → Act → World → Prop} {id : Nat} {a : Act} {w : World} (B : Nat) (l : List (Nat × Nat)) (hm : P.follows .mixedOrders = true)
    (hB : (Region.noSelect ops && decide (l.length = ops.size) && chainB .any ops l l (Array.replicate ops.size false)) = true)
    (h : ∀ w0, Kept w w0 → wpChain P ops (Above B) Q l a w0) : (Code.region id ops true).wp P Q a w :=
  wp_region_chain (Above B) l hm hB (fun _ => Above.refl _ _) (fun _ _ _ h1 h2 => h1.trans h2) (h _ (Kept.drawn w))

/-- every block from B on and below C is as it was -/
def Span (B C : Nat) (w w' : World) : Prop := w.heap.size ≤ w'.heap.size ∧ ∀ b, B ≤ b → b < C → b < w.heap.size → w'.heap[b]? = w.heap[b]?
section
variable {B C : Nat} {w w' w'' : World}
theorem Span.refl (B C : Nat) (w : World) : Span B C w w := ⟨Nat.le_refl _, fun _ _ _ _ => rfl⟩
theorem Span.trans (h : Span B C w w') (h' : Span B C w' w'') : Span B C w w'' :=
  ⟨Nat.le_trans h.1 h'.1, fun b h1 h2 h3 => (h'.2 b h1 h2 (Nat.lt_of_lt_of_le h3 h.1)).trans (h.2 b h1 h2 h3)⟩
theorem Span.of_below (h : Below C w w') : Span B C w w' := ⟨h.size, fun b _ h2 _ => h.block b h2⟩
theorem Span.of_kept (h : Kept w w') : Span B C w w' := ⟨h.size, fun b _ _ h3 => h.block b h3⟩
theorem Span.setCell {a : Addr} (ha : a.block < B) (v : Value) : Span B C w (w.setCell a v) :=
  ⟨(Above.setCell ha v).1, fun b h1 _ h3 => (Above.setCell ha v).2 b h1 h3⟩
theorem Span.cell (h : Span B C w w') {a : Addr} {v : Value} (hc : w.cell? a = some v) (hb : B ≤ a.block) (hC : a.block < C) : w'.cell? a = some v := by
  have := h.2 a.block hb hC (World.block_lt_of_cell? w _ hc)
  unfold World.cell? at *
  rw [this]; exact hc
theorem Blk.span {b : Nat} {cs : Array Value} {t : TypeId} (hB : Blk w b cs t) (h : Span B C w w') (hb : B ≤ b) (hC : b < C) : Blk w' b cs t := (h.2 b hb hC hB.lt).trans hB
end
theorem wp_region_chainSpan {P : Program} {ops : Array Oper} {Q : Exit → Act → World → Prop} {id : Nat} {a : Act} {w : World} (B C : Nat) (l : List (Nat × Nat)) (hm : P.follows .mixedOrders = true)
    (hB : (Region.noSelect ops && decide (l.length = ops.size) && chainB .any ops l l (Array.replicate ops.size false)) = true)
    (h : ∀ w0, Kept w w0 → wpChain P ops (Span B C) Q l a w0) : (Code.region id ops true).wp P Q a w :=
  wp_region_chain (Span B C) l hm hB (fun _ => Span.refl _ _ _) (fun _ _ _ h1 h2 => h1.trans h2) (h _ (Kept.drawn w))
end Go.Proofs.Ytlbogmpfjkendaa
