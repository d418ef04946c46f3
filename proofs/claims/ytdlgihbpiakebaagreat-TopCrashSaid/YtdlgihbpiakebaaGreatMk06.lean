import Derived.Test.YtdlgihbpiakebaaGreatMk04
import Derived.Test.YtdlgihbpiakebaaGreatMk05
set_option maxRecDepth 100000
set_option maxHeartbeats 4000000
namespace Go.Proofs.YtdlgihbpiakebaaGreat
open Go Go.RowKit
theorem qAb {P:Program}{ops:Array Oper}{Q:Exit→Act→World→Prop}{id:Nat}{a:Act}{w:World}(bs:List Nat)(l:List (Nat×Nat))(hm:P.follows .mixedOrders=true)
 (hB:(Region.noSelect ops&&decide (l.length=ops.size)&&qCk .any ops l l (Array.replicate ops.size false))=true)
 (h:∀w0,qA4 w w0→qAR P ops (Chg bs) Q l a w0):(Code.region id ops true).wp P Q a w:=
 qBc (Chg bs) l hm hB (fun _=>Chg.refl _ _) (fun _ _ _ c f=>c.trans f) (h _ (qA4.drawn w))
def qSF (p:Prop):Prop:=p
theorem hold {p:Prop}(h:qSF p):p:=h
theorem qFL {P:Program}{ops:Array Oper}{Q:Exit→Act→World→Prop}{id:Nat}{a:Act}{w:World}(l:List (Nat×Nat))(hm:P.follows .mixedOrders=true)
 (hB:(Region.noSelect ops&&decide (l.length=ops.size)&&qCk .any ops l l (Array.replicate ops.size false))=true)
 (h:qAR P ops qA4 Q l a w.drew):(Code.region id ops true).wp P Q a w:=
 qBc qA4 l hm hB (fun _=>Below.refl _ _) (fun _ _ _ c f=>c.of f) h
theorem Chg.step {b o:Nat}{bs:List Nat}{w:World}(hb:b∈bs)(v:Value):Chg bs w (w.setCell ⟨b,o,none⟩ v):=(Chg.refl bs w).set hb o v
theorem Blk.chg {bs:List Nat}{w w':World}{c:Nat}{xs:Array Value}{t:TypeId}(hc:Blk w c xs t)(h:Chg bs w w')(hn:c∉bs:=by simp<;>omega):Blk w' c xs t:=h.blk hc hn
theorem Sl.low {w:World}{v:Value}{n:Nat}{cs:List Value}(h:Sl w v n cs):∀a c,v= .slice (some a) n c→0<cs.length→a.block<w.heap.size:=fun a c f j=>by
 obtain⟨b,off,cap,e,_,_,l,_⟩:=h.at j
 rw[f]at e
 cases e;exact l
theorem qAa {B:Nat}{w w':World}(h:Below B w w')(o:Nat)(v:Value):Below B w (w'.setCell ⟨B,o,none⟩ v):=Below.setCell (p:=⟨B,o,none⟩) h (Nat.le_refl B) v
theorem qCm {b:Nat}{w w':World}(h:Chg [b] w w')(o:Nat)(v:Value):Chg [b] w (w'.setCell ⟨b,o,none⟩ v):=h.set qsm o v
theorem Chg.sl {bs:List Nat}{w w':World}{v:Value}{n:Nat}{cs:List Value}(h:Sl w v n cs)(hc:Chg bs w w')(hn:∀a c,v= .slice (some a) n c→0<cs.length→a.block∉bs):Sl w' v n cs:=by
 rcases h with h|⟨a,cap,rfl,h1,h2,h3⟩
 · exact .inl h
 · refine .inr ⟨a,cap,rfl,h1,h2,fun j u f=>?_⟩
   have e:(a.add j).block=a.block:=by unfold Addr.add;split<;>rfl
   exact hc.cell (h3 j u f) (by rw[e];exact hn a cap rfl (by have:=(List.getElem?_eq_some_iff.1 f).1;omega))
end Go.Proofs.YtdlgihbpiakebaaGreat
