import Derived.Test.YtdlgihbpiakebaaGreatMk01
import Derived.Deep.QuietTactic
import Derived.ChangeKeysEq
import Derived.Laws.StructEq
set_option maxRecDepth 100000
set_option maxHeartbeats 4000000
namespace Go.Proofs.YtdlgihbpiakebaaGreat
open Go Go.RowKit
abbrev Pr (p:qAD):Value:=.agg #[U p.1,U p.2]
@[go_sem] theorem qT0 (n:Int) (h0:0≤n) (h1:n<18446744073709551616):Value.int .u64 n=U (BitVec.ofInt 64 n):=by
 rw[U,BitVec.toNat_ofInt];congr 1;omega
@[go_sem] theorem qTf (n:Int) (h0:0≤n) (h1:n<256):Value.int .u8 n=V8 (UInt8.ofNat n.toNat):=by
 rw[V8,UInt8.toNat_ofNat'];congr 1;omega
@[go_sem] theorem qTg (n:Int) (h0:0≤n) (h1:n<4294967296):Value.int .u32 n=W (BitVec.ofInt 32 n):=by
 rw[W,BitVec.toNat_ofInt];congr 1;omega
section
variable {P:Program} (w:World)
theorem qDr (d:Nat)(e:TypeId)(he:P.underlying e=some (.int .u64))(x y:BitVec 64):(Op.equalIn (d+1) e (U x) (U y)).run P w= .ok (x==y) w:=by
 have h:=run_equalIn_int (P:=P) w d e .u64 .u64 (x.toNat:Int) (y.toNat:Int) he
 rw[qCO]at h
 exact h
theorem qKT (e:TypeId)(he:P.underlying e=some (.int .u64))(cs:Array Value)(i:Nat)(v:Value)(hv:cs[i]? = some v):(part e cs i).run P w= .ok v w:=by
 simp[part,isAgg,run_underlying he,hv]
theorem qDs (d:Nat)(t e:TypeId)(ht:P.underlying t=some (.array 2 e))(he:P.underlying e=some (.int .u64))(hs:P.cellsOf e=1)(a b c f:BitVec 64) :
 (Op.equalIn (d+2) t (.agg #[U a,U b]) (.agg #[U c,U f])).run P w= .ok ((a,b)==(c,f)) w:=by
 obtain⟨i,F⟩:∃i,P.info? e=some i:=by
  unfold Program.cellsOf at hs
  cases h:P.info? e with
  | none=>rw[h]at hs;cases hs
  | some i=>exact⟨i,rfl⟩
 rw[run_equalIn_array w (d+1) _ _ ht F,hs]
 simp only[List.range_succ,List.range_zero,List.nil_append,List.cons_append,Op.eqItems,Sem.run_bind]
 rw[qKT w e he #[U a,U b] 0 (U a) rfl,Result.andThen_ok,qKT w e he #[U c,U f] 0 (U c) rfl,Result.andThen_ok,qDr w d e he,Result.andThen_ok]
 by_cases h:a=c
 · subst h
   simp only[BEq.rfl,Bool.not_true,Bool.false_eq_true,if_false,Sem.run_bind]
   rw[qKT w e he #[U a,U b] 1 (U b) rfl,Result.andThen_ok,qKT w e he #[U a,U f] 1 (U f) rfl,Result.andThen_ok,qDr w d e he,Result.andThen_ok]
   by_cases q:b=f
   · subst q;simp
   · have j:(b==f)=false:=by simpa using q
     have l:((a,b)==(a,f))=false:=by simp[q]
     simp[j,l]
 · have G:(a==c)=false:=by simpa using h
   have l:((a,b)==(c,f))=false:=by simp[h]
   simp[G,l]
end
section
variable {P:Program} {C:World→Prop} {o:Oper} {a:Act} {K:Act→Prop}
theorem qMP (v:Value)(h:∀w,C w→(execOp a.eval o).run P w= .ok (.value v) w)(hn:K (a.put o.dst v)):o.quiet P a C K:=
 ⟨v,fun w c=>by unfold Oper.quietAt;rw[h w c];exact⟨rfl,rfl⟩,hn⟩
theorem qLE (f:FuncId)(args:Array Value)(v:Value)(h:∀w,C w→(execOp a.eval o).run P w= .ok (.enter f args) w)
 (hc:∀w,C w→Calls P f args w fun e w'=>e= .returned v∧C w') (hn:K (a.put o.dst v)):o.quiet P a C K:=
 ⟨v,fun w c=>by unfold Oper.quietAt;rw[h w c];exact⟨rfl,hc w c⟩,hn⟩
end
section
variable {P:Program} {C:World→Prop} {o:Oper} {a:Act} {K:Act→Prop}
theorem qCz (h:∃v,(∀w,C w→(execOp a.eval o).run P w= .ok (.value v) w)∧K (a.put o.dst v)):o.quiet P a C K:=
 let ⟨v,h1,h2⟩:=h;qMP v h1 h2
theorem qEr (h:∃f args v,(∀w,C w→(execOp a.eval o).run P w= .ok (.enter f args) w)∧(∀w,C w→Calls P f args w fun e w'=>e= .returned v∧C w')∧K (a.put o.dst v)):o.quiet P a C K:=
 let ⟨f,args,v,h1,h2,h3⟩:=h;qLE f args v h1 h2 h3
end
abbrev qA4 (W w:World):Prop:=Below W.heap.size W w
theorem qA4.drawn (w:World):qA4 w { w with drawn:=w.drawn+1 }:=(Below.refl _ w).drew
theorem qA4.of {W w w':World}(h:qA4 W w)(h':qA4 w w'):qA4 W w':=h.trans (h'.mono h.size)
theorem Calls.kept {P:Program}{f:FuncId}{args:Array Value}{W w:World}{v:Value}(hw:qA4 W w)
 (h:Calls P f args w fun e w'=>e= .returned v∧qA4 w w'):Calls P f args w fun e w'=>e= .returned v∧qA4 W w':=
 h.mono fun _ _ ⟨he,hb⟩=>⟨he,hw.of hb⟩
theorem qE4 {P:Program}{id:Nat}{Q:Exit→Act→World→Prop}{a:Act}{w:World}{l:List Oper}(hm:P.follows .mixedOrders=true)
 (hB:Region.lexB .any l.toArray=true)
 (h:wpQuiet P l.toArray (qA4 w) (fun c=>∀w',qA4 w w'→Q .normal c w') l a):(Code.region id l.toArray true).wp P Q a w:=
 wp_region_quiet (C:=qA4 w) hm hB (qA4.drawn w) (by simpa using h)
def Blk (w:World)(b:Nat)(cs:Array Value)(t:TypeId):Prop:=w.heap[b]? = some (.cells cs t (0,0))
section
variable {w:World} {b:Nat} {cs:Array Value} {t:TypeId}
theorem Blk.cell (h:Blk w b cs t)(o:Nat):w.cell? ⟨b,o,none⟩=cs[o]?:=by unfold Blk at h;simp[World.cell?,h]
theorem Blk.free (h:Blk w b cs t)(o:Nat):w.frozen? ⟨b,o,none⟩=false:=by unfold Blk at h;simp[World.frozen?,h]
theorem Blk.lt (h:Blk w b cs t):b<w.heap.size:=by unfold Blk at h;exact(Array.getElem?_eq_some_iff.1 h).1
theorem Blk.below {B:Nat}{w':World}(h:Blk w b cs t)(hb:Below B w w')(hlt:b<B):Blk w' b cs t:=(hb.block b hlt).trans h
theorem Blk.kept {w':World}(h:Blk w b cs t)(hb:qA4 w w'):Blk w' b cs t:=h.below hb h.lt
theorem Blk.new (w:World)(cs:Array Value)(t:TypeId):Blk (w.alloc (.cells cs t)) w.heap.size cs t:=heap_alloc_new w _
theorem Blk.alloc (h:Blk w b cs t)(o:Obj):Blk (w.alloc o) b cs t:=(Below.heap_alloc w o b h.lt).trans h
theorem Blk.set (h:Blk w b cs t)(o:Nat)(v:Value):Blk (w.setCell ⟨b,o,none⟩ v) b (cs.setIfInBounds o v) t:=by
 unfold Blk at *
 simp[World.setCell,Array.getElem?_modify,h]
theorem Blk.other (h:Blk w b cs t){a:Addr}(ha:b≠a.block)(v:Value):Blk (w.setCell a v) b cs t:=(Below.heap_setCell w a v b ha).trans h
end
end Go.Proofs.YtdlgihbpiakebaaGreat
namespace Go.Proofs.YtdlgihbpiakebaaGreat.GF
end Go.Proofs.YtdlgihbpiakebaaGreat.GF
namespace Go.Proofs.YtdlgihbpiakebaaGreat
def qJF (a b:qAD):qAD:=(a.1 ^^^ b.1,a.2 ^^^ b.2)
def qQz (a:qAD):qAD:=(a.1<<<1 ||| a.2>>>63,if a.1>>>63==1#64 then a.2<<<1 ^^^ 135#64 else a.2<<<1)
def qRF (b:qAD)(i:Nat):Bool:=(if i<64 then b.1>>>(63 - i) else b.2>>>(127 - i)) &&& 1#64==1#64
def qDj (a b:qAD):Nat→qAD
 | 0=>(0#64,0#64)
 | i+1=>if qRF b i then qJF (qQz (qDj a b i)) a else qQz (qDj a b i)
def qOU (a b:qAD):qAD:=qDj a b 128
theorem qLF {a b:qAD}{i:Nat}(h:qRF b i=true):qDj a b (i+1)=qJF (qQz (qDj a b i)) a:=by simp[qDj,h]
theorem qMQ {a b:qAD}{i:Nat}(h:qRF b i=false):qDj a b (i+1)=qQz (qDj a b i):=by simp[qDj,h]
end Go.Proofs.YtdlgihbpiakebaaGreat
