import Derived.Test.YtdlgihbpiakebaaGreatMk02
import Derived.RangeFuncNested
import Derived.RangeFuncBound
import Derived.RangeFuncCalls
import Derived.RangeFuncLeaves
import Derived.Shelf.Abstract
import Derived.Shelf.RegionOpen
import Derived.WalkKit
import Derived.OwnWalkIn
import Derived.TacticsInMore
import Derived.LoopNIn
import Derived.LoopIn
set_option maxRecDepth 100000
set_option maxHeartbeats 4000000
namespace Go.Proofs.YtdlgihbpiakebaaGreat
open Go Go.RowKit Go.Shelf
def qN8 {α:Type}(f:Nat→α)(k:Nat):List α:=(List.range k).map f
theorem qG9 {α:Type}(f:Nat→α)(k:Nat):qN8 f (k+1)=qN8 f k++ [f k]:=by simp[qN8,List.range_succ]
theorem qK4 {α:Type}(f:Nat→α)(k:Nat):(qN8 f k).length=k:=by simp[qN8]
def qDp (bs:List Nat)(A B:World):Prop:=∀k,k∈bs→B.heap[k]? = A.heap[k]?
theorem qDp.trans {bs:List Nat}{A B C:World}(h:qDp bs A B)(k:qDp bs B C):qDp bs A C:=fun i c=>(k i c).trans (h i c)
theorem qDp.refl (bs:List Nat)(A:World):qDp bs A A:=fun _ _=>rfl
theorem qDp.cell {bs:List Nat}{A B:World}(h:qDp bs A B){p:Addr}(hp:p.block∈bs):B.cell? p=A.cell? p:=by
 unfold World.cell?;rw[h _ hp]
theorem qDp.set {bs:List Nat}{A B:World}(h:qDp bs A B){a:Addr}(ha:a.block∉bs)(v:Value):qDp bs A (B.setCell a v):=
 fun k c=>(Below.heap_setCell B a v k (fun e=>ha (by rw[←e];exact c))).trans (h k c)
theorem qK5 {W W':World}{row:Option Nat}{b:Nat}{cs:Array Value}{t:TypeId}(h:Blk W b cs t)(hg:W.grownBy W' row)(hrow:∀r,row=some r→∃o:Obj,W.heap[r]? = some o∧o.isCells=false):Blk W' b cs t:=
 (grownBy_keeps_cells hg hrow h rfl).trans h
theorem qQK {bs:List Nat}{w:World}(hn:∀b∈bs,b<w.heap.size)(W:World)(l:Nat)(o o':Obj)(hl:w.heap.size≤l)(_:W.heap[l]? = some o)(_:o.isCells=false)(_:o.isWalk=false):qDp bs W (W.putObj l o'):=
 fun k c=>World.putObj_heap_other (by have:=hn k c;omega)
theorem qA4.from {W W':World}(h:qA4 W W')(B:Nat):KeepsFrom B W W':=⟨h.size,fun k _ _ c _=>(h.block k (Array.getElem?_eq_some_iff.1 c).1).trans c⟩
theorem qA4.stays {bs:List Nat}{W W':World}(h:qA4 W W')(hb:∀b∈bs,b<W.heap.size):qDp bs W W':=fun k c=>h.block k (hb k c)
end Go.Proofs.YtdlgihbpiakebaaGreat
