import Derived.Test.YtdlgihbpiakebaaGreatMd04
import Derived.Test.YtdlgihbpiakebaaGreatMd05
set_option maxRecDepth 100000
set_option maxHeartbeats 4000000
namespace Go.Proofs.YtdlgihbpiakebaaGreat
open Go Go.RowKit
theorem qAf {P : Program} {ops : Array Oper} {Q : Exit → Act → World → Prop} {id : Nat} {a : Act} {w : World} (bs : List Nat) (l : List (Nat × Nat)) (hm : P.follows .mixedOrders = true)
 (hB : (Region.noSelect ops && decide (l.length = ops.size) && qCd .any ops l l (Array.replicate ops.size false)) = true)
 (h : ∀ w0,qA4 w w0 → qAL P ops (Chg bs) Q l a w0) : (Code.region id ops true).wp P Q a w :=
 qB8 (Chg bs) l hm hB (fun _=>Chg.refl _ _) (fun _ _ _ h1 h2=>h1.trans h2) (h _ (qA4.drawn w))
def qRo (p : Prop) : Prop:=p
theorem hold {p : Prop} (h : qRo p) : p:=h
theorem qFp {P : Program} {ops : Array Oper} {Q : Exit → Act → World → Prop} {id : Nat} {a : Act} {w : World} (l : List (Nat × Nat)) (hm : P.follows .mixedOrders = true)
 (hB : (Region.noSelect ops && decide (l.length = ops.size) && qCd .any ops l l (Array.replicate ops.size false)) = true)
 (h : qAL P ops qA4 Q l a w.drew) : (Code.region id ops true).wp P Q a w :=
 qB8 qA4 l hm hB (fun _=>Below.refl _ _) (fun _ _ _ h1 h2=>h1.of h2) h
theorem Chg.step {b o : Nat} {bs : List Nat} {w : World} (hb : b ∈ bs) (v : Value) : Chg bs w (w.setCell ⟨b,o,none⟩ v):=(Chg.refl bs w).set hb o v
theorem Blk.chg {bs : List Nat} {w w' : World} {c : Nat} {xs : Array Value} {t : TypeId} (hc : Blk w c xs t) (h : Chg bs w w') (hn : c ∉ bs:=by simp <;> omega) : Blk w' c xs t:=h.blk hc hn
theorem Sl.low {w : World} {v : Value} {n : Nat} {cs : List Value} (h : Sl w v n cs) : ∀ a c,v = .slice (some a) n c → 0 < cs.length → a.block < w.heap.size:=fun a c hv hc=>by
 obtain ⟨b,off,cap,e,_,_,h3,_⟩:=h.at hc
 rw [hv] at e
 cases e;exact h3
theorem qA9 {B : Nat} {w w' : World} (h : Below B w w') (o : Nat) (v : Value) : Below B w (w'.setCell ⟨B,o,none⟩ v):=Below.setCell (p:=⟨B,o,none⟩) h (Nat.le_refl B) v
theorem qCf {b : Nat} {w w' : World} (h : Chg [b] w w') (o : Nat) (v : Value) : Chg [b] w (w'.setCell ⟨b,o,none⟩ v):=h.set qsm o v
theorem Chg.sl {bs : List Nat} {w w' : World} {v : Value} {n : Nat} {cs : List Value} (h : Sl w v n cs) (hc : Chg bs w w') (hn : ∀ a c,v = .slice (some a) n c → 0 < cs.length → a.block ∉ bs) : Sl w' v n cs:=by
 rcases h with h | ⟨a,cap,rfl,h1,h2,h3⟩
 · exact .inl h
 · refine .inr ⟨a,cap,rfl,h1,h2,fun j u hj=>?_⟩
   have e : (a.add j).block = a.block:=by unfold Addr.add;split <;> rfl
   exact hc.cell (h3 j u hj) (by rw [e];exact hn a cap rfl (by have:=(List.getElem?_eq_some_iff.1 hj).1;omega))
end Go.Proofs.YtdlgihbpiakebaaGreat
