/- What is left as it was, but for some blocks. No function of the program is named here. -/
import Derived.Test.YtpbdncnepcibaaaSlice
namespace Go.Proofs.Ytpbdncnepcibaaa
open Go Go.RowKit

/-- all that was there is as it was, but for the blocks bs -/
structure Chg (bs : List Nat) (w w' : World) : Prop where
  os : w'.os = w.os
  tape : w'.tape = w.tape
  output : w'.output = w.output
  size : w.heap.size ≤ w'.heap.size
  block : ∀ k, k < w.heap.size → k ∉ bs → w'.heap[k]? = w.heap[k]?

section
variable {bs cs : List Nat} {w w' w'' : World}
theorem Chg.refl (bs : List Nat) (w : World) : Chg bs w w := ⟨rfl, rfl, rfl, Nat.le_refl _, fun _ _ _ => rfl⟩
theorem Chg.trans (h : Chg bs w w') (k : Chg bs w' w'') : Chg bs w w'' :=
  ⟨k.os.trans h.os, k.tape.trans h.tape, k.output.trans h.output, Nat.le_trans h.size k.size, fun i hi hn => (k.block i (Nat.lt_of_lt_of_le hi h.size) hn).trans (h.block i hi hn)⟩
theorem Chg.mono (h : Chg bs w w') (hs : ∀ b ∈ bs, b ∈ cs) : Chg cs w w' := ⟨h.os, h.tape, h.output, h.size, fun k hk hn => h.block k hk fun hm => hn (hs k hm)⟩
theorem Chg.of_grown {b : Nat} (h : w.grownBy w' (some b)) : Chg [b] w w' := ⟨h.os, h.tape, h.output, h.size, fun k hk hn => h.block k hk fun e => hn (by rw [Option.some.inj e]; simp)⟩
theorem Chg.to_grown {b : Nat} (h : Chg [b] w w') : w.grownBy w' (some b) := ⟨h.os, h.tape, h.output, h.size, fun k hk hn => h.block k hk fun hm => hn (by rw [List.mem_singleton.1 hm])⟩
theorem Chg.of_kept (h : Kept w w') : Chg bs w w' := ⟨h.os, h.tape, h.output, h.size, fun k hk _ => h.block k hk⟩
theorem Chg.set {b : Nat} (h : Chg bs w w') (hb : b ∈ bs) (o : Nat) (v : Value) : Chg bs w (w'.setCell ⟨b, o, none⟩ v) :=
  ⟨h.os, h.tape, h.output, Nat.le_trans h.size (by simp [World.setCell]), fun k hk hn => (Below.heap_setCell _ _ _ _ (fun e => hn (by have e : k = b := e; rw [e]; exact hb))).trans (h.block k hk hn)⟩
theorem Chg.blk {c : Nat} {xs : Array Value} {t : TypeId} (h : Chg bs w w') (hc : Blk w c xs t) (hn : c ∉ bs) : Blk w' c xs t := (h.block c hc.lt hn).trans hc
theorem Chg.below {B : Nat} (h : Chg bs w w') (hB : ∀ b ∈ bs, B ≤ b) (hs : B ≤ w.heap.size) : Below B w w' :=
  ⟨h.os, h.tape, h.output, h.size, fun k hk => h.block k (Nat.lt_of_lt_of_le hk hs) fun hm => by have := hB k hm; omega⟩
theorem Chg.cell {a : Addr} {v : Value} (h : Chg bs w w') (hc : w.cell? a = some v) (hn : a.block ∉ bs) : w'.cell? a = some v := by
  have hlt : a.block < w.heap.size := World.block_lt_of_cell? w _ hc
  unfold World.cell? at hc ⊢
  rw [h.block a.block hlt hn]
  exact hc
end
end Go.Proofs.Ytpbdncnepcibaaa
