import Derived.Test.YtdlgihbpiakebaaGreatMd02
import Derived.RangeFuncNested
import Derived.RangeFuncBound
import Derived.RangeFuncCalls
import Derived.RangeFuncLeaves
import Derived.Shelf.Abstract
import Derived.Shelf.RegionOpen
import Derived.WalkKit
import Derived.OwnWalkIn
import Derived.TacticsInMore
import Derived.LoopNIn
import Derived.LoopIn
set_option maxRecDepth 100000
set_option maxHeartbeats 4000000
namespace Go.Proofs.YtdlgihbpiakebaaGreat
open Go Go.RowKit Go.Shelf
def qMd {α : Type} (f : Nat → α) (k : Nat) : List α:=(List.range k).map f
theorem qFM {α : Type} (f : Nat → α) (k : Nat) : qMd f (k + 1) = qMd f k ++ [f k]:=by simp [qMd,List.range_succ]
theorem qJi {α : Type} (f : Nat → α) (k : Nat) : (qMd f k).length = k:=by simp [qMd]
def qDb (bs : List Nat) (A B : World) : Prop:=∀ k,k ∈ bs → B.heap[k]? = A.heap[k]?
theorem qDb.trans {bs : List Nat} {A B C : World} (h : qDb bs A B) (k : qDb bs B C) : qDb bs A C:=fun i hi=>(k i hi).trans (h i hi)
theorem qDb.refl (bs : List Nat) (A : World) : qDb bs A A:=fun _ _=>rfl
theorem qDb.cell {bs : List Nat} {A B : World} (h : qDb bs A B) {p : Addr} (hp : p.block ∈ bs) : B.cell? p = A.cell? p:=by
 unfold World.cell?;rw [h _ hp]
theorem qDb.set {bs : List Nat} {A B : World} (h : qDb bs A B) {a : Addr} (ha : a.block ∉ bs) (v : Value) : qDb bs A (B.setCell a v) :=
 fun k hk=>(Below.heap_setCell B a v k (fun e=>ha (by rw [← e];exact hk))).trans (h k hk)
theorem qJj {W W' : World} {row : Option Nat} {b : Nat} {cs : Array Value} {t : TypeId} (h : Blk W b cs t) (hg : W.grownBy W' row) (hrow : ∀ r,row = some r → ∃ o : Obj,W.heap[r]? = some o ∧ o.isCells = false) : Blk W' b cs t :=
 (grownBy_keeps_cells hg hrow h rfl).trans h
theorem qPI {bs : List Nat} {w : World} (hn : ∀ b ∈ bs,b < w.heap.size) (W : World) (l : Nat) (o o' : Obj) (hl : w.heap.size ≤ l) (_ : W.heap[l]? = some o) (_ : o.isCells = false) (_ : o.isWalk = false) : qDb bs W (W.putObj l o') :=
 fun k hk=>World.putObj_heap_other (by have:=hn k hk;omega)
theorem qA4.from {W W' : World} (h : qA4 W W') (B : Nat) : KeepsFrom B W W':=⟨h.size,fun k _ _ hk _=>(h.block k (Array.getElem?_eq_some_iff.1 hk).1).trans hk⟩
theorem qA4.stays {bs : List Nat} {W W' : World} (h : qA4 W W') (hb : ∀ b ∈ bs,b < W.heap.size) : qDb bs W W':=fun k hk=>h.block k (hb k hk)
end Go.Proofs.YtdlgihbpiakebaaGreat
