import Derived.Test.YtdlgihbpiakebaaGreatMk02
import Derived.Maps.AppendAt
import Derived.Laws.BytesArg
import Derived.WalkLawsBesides
set_option maxRecDepth 100000
set_option maxHeartbeats 4000000
namespace Go.Proofs.YtdlgihbpiakebaaGreat
open Go Go.RowKit
def qA1 (bs:List UInt8):List Value:=bs.map V8
theorem qA7 (bs:List UInt8):(qA1 bs).length=bs.length:=by simp[qA1]
theorem qBk (a b:List UInt8):qA1 (a++b)=qA1 a++qA1 b:=by simp[qA1]
theorem qBT (bs:List UInt8)(i:Nat)(h:i<bs.length):(qA1 bs)[i]? = some (V8 bs[i]):=by simp[qA1,h]
def qDm (l:List (BitVec 64)):List Value:=l.map U
def qAA (l:List qAD):List Value:=l.flatMap fun p=>[U p.1,U p.2]
theorem qEt (l:List qAD):(qAA l).length=l.length*2:=by
 induction l with
 | nil=>rfl
 | cons p l ih=>simp only[qAA,List.flatMap_cons,List.length_append]at *;rw[ih];simp;omega
theorem qD0 (a b:List qAD):qAA (a++b)=qAA a++qAA b:=by simp[qAA]
theorem qGZ (l:List qAD)(i:Nat)(h:i<l.length):(qAA l)[i*2]? = some (U l[i].1)∧(qAA l)[i*2+1]? = some (U l[i].2):=by
 induction l generalizing i with
 | nil=>simp at h
 | cons p l ih =>
  cases i with
  | zero=>simp[qAA]
  | succ i =>
   have:=ih i (by simpa using h)
   have e:qAA (p::l)=U p.1::U p.2::qAA l:=by simp[qAA]
   rw[e,show(i+1)*2=(i*2+1)+1 by omega]
   simpa using this
def Sl (w:World)(v:Value)(n:Nat)(cs:List Value):Prop:=
 (v= .slice none 0 0∧n=0∧cs= []) ∨
 ∃a cap,v= .slice (some a) n cap∧n≤cap∧cap≤maxLen∧∀j u,cs[j]? = some u→w.cell? (a.add j)=some u
theorem qF6 (b off j:Nat):(⟨b,off,none⟩:Addr).add j=⟨b,off+j,none⟩:=by unfold Addr.add;split<;>simp_all
section
variable {w w':World} {v:Value} {n:Nat} {cs:List Value} {B:Nat} {e:TypeId} {size:Nat}
theorem Sl.nil (w:World):Sl w (.slice none 0 0) 0 []:=.inl ⟨rfl,rfl,rfl⟩
theorem Sl.at (h:Sl w v n cs)(hc:0<cs.length):∃b off cap,v= .slice (some ⟨b,off,none⟩) n cap∧n≤cap∧cap≤maxLen∧b<w.heap.size∧∀j u,cs[j]? = some u→w.cell? ⟨b,off+j,none⟩=some u:=by
 rcases h with ⟨_,_,rfl⟩|⟨a,cap,rfl,h1,h2,h3⟩
 · simp at hc
 · have f:=h3 0 cs[0] (by simp[hc])
   have c:(a.add 0).spot=none:=World.cell?_spot f
   rw[Addr.add_zero']at c f
   obtain⟨b,off,l⟩:=a
   simp only at c
   subst c
   exact⟨b,off,cap,rfl,h1,h2,World.block_lt_of_cell? w _ f,fun j u q=>by rw[←qF6];exact h3 j u q⟩
theorem Sl.mk {b off cap:Nat}(h1:n≤cap)(h2:cap≤maxLen)(h3:∀j u,cs[j]? = some u→w.cell? ⟨b,off+j,none⟩=some u):Sl w (.slice (some ⟨b,off,none⟩) n cap) n cs:=
 .inr ⟨⟨b,off,none⟩,cap,rfl,h1,h2,fun j u c=>by rw[qF6];exact h3 j u c⟩
theorem Sl.below {B:Nat}(h:Sl w v n cs)(hb:Below B w w')(hB:∀a c,v= .slice (some a) n c→0<cs.length→a.block<B):Sl w' v n cs:=by
 rcases h with h|⟨a,cap,rfl,h1,h2,h3⟩
 · exact .inl h
 · refine .inr ⟨a,cap,rfl,h1,h2,fun j u l=>?_⟩
   have f:0<cs.length:=by
    have:=(List.getElem?_eq_some_iff.1 l).1;omega
   have e:(a.add j).block=a.block:=by unfold Addr.add;split<;>rfl
   exact(hb.cell (p:=a.add j) (by rw[e];exact hB a cap rfl f)).trans (h3 j u l)
theorem Sl.kept (h:Sl w v n cs)(hb:qA4 w w'):Sl w' v n cs:=by
 refine h.below hb fun a c f j=>?_
 obtain⟨b,off,cap,e,_,_,l,_⟩:=h.at j
 rw[f]at e
 cases e;exact l
theorem Sl.of_own (h:w.ownsRow B e size v n cs):Sl w v n cs:=by
 obtain⟨hl,h⟩:=h
 rcases h with ⟨rfl,rfl⟩|⟨g,cap,cur,rfl,hb,hg,hn,hc,hs,ht⟩
 · exact .inl ⟨rfl,rfl,List.eq_nil_of_length_eq_zero (by simpa using hl)⟩
 · refine Sl.mk hn hc fun j u c=>?_
   rw[Nat.zero_add,cell_of_row w g j cur e (0,0) hg]
   rw[←ht,List.getElem?_take]at c
   split at c
   · simpa using c
   · cases c
theorem qA5 (h:w.ownsRow B e size v n cs)(hb:qA4 w w'):w'.ownsRow B e size v n cs:=by
 obtain⟨hl,h⟩:=h
 refine⟨hl,?_⟩
 rcases h with h|⟨g,cap,cur,rfl,hbg,hg,hn,hc,hs,ht⟩
 · exact .inl h
 · exact .inr ⟨g,cap,cur,rfl,hbg,(hb.block g (Array.getElem?_eq_some_iff.1 hg).1).trans hg,hn,hc,hs,ht⟩
theorem qAh {B':Nat}(h:w.ownsRow B e size v n cs)(hB:B'≤B):w.ownsRow B' e size v n cs:=by
 obtain⟨hl,h⟩:=h
 refine⟨hl,?_⟩
 rcases h with h|⟨g,cap,cur,rfl,hbg,rest⟩
 · exact .inl h
 · exact .inr ⟨g,cap,cur,rfl,by omega,rest⟩
theorem qJM {row:Option Nat}{B:Nat}(hg:w.grownBy w' row)(hr:∀k,row=some k→B≤k)(hB:B≤w.heap.size):Below B w w':=
 ⟨hg.os,hg.tape,hg.output,hg.size,fun k c=>hg.block k (by omega) (fun e=>by have:=hr k e.symm;omega)⟩
theorem Sl.form (h:Sl w v n cs):(v= .slice none 0 0∧n=0∧cs= [])∨∃a cap,v= .slice (some a) n cap:=by
 rcases h with h|⟨a,cap,rfl,_⟩
 · exact .inl h
 · exact .inr ⟨_,_,rfl⟩
theorem Sl.len (h:Sl w v n cs):∃a cap,v= .slice a n cap:=by
 rcases h with ⟨rfl,rfl,_⟩|⟨a,cap,rfl,_⟩
 · exact⟨none,0,rfl⟩
 · exact⟨_,_,rfl⟩
theorem Sl.le (h:Sl w v n cs):n≤maxLen:=by
 rcases h with ⟨_,rfl,_⟩|⟨a,cap,_,h1,h2,_⟩
 · exact Nat.zero_le _
 · exact Nat.le_trans h1 h2
end
structure SlT (P:Program)(t e size bytes:Nat)(z:Value):Prop where
 under:P.underlying t=some (.slice e)
 info:∃i,P.info? e=some i∧i.zero=some z∧i.size=size∧i.bytes=bytes
 zero:z.cells.size=size
 pos:0<size
section
variable {P:Program} (w:World)
theorem SlT.mk' {t e size bytes:Nat}{z:Value}(h1:P.underlying t=some (.slice e))(h2:(P.info? e).map (fun i=>(i.zero,i.size,i.bytes))=some (some z,size,bytes))(h3:z.cells.size=size)(h4:0<size):SlT P t e size bytes z:=by
 refine⟨h1,?_,h3,h4⟩
 cases h:P.info? e with
 | none=>rw[h]at h2;cases h2
 | some i=>rw[h]at h2;simp at h2;exact⟨i,rfl,h2.1,h2.2.1,h2.2.2⟩
theorem qH0 {t e size bytes:Nat}{z:Value}(T:SlT P t e size bytes z)(ty:TypeId){base:Nat}{v u:Value}{n m:Nat}{xs ys:List Value}
 (hown:w.ownsRow base e size v n xs) (hu:Sl w u m ys) (hl:ys.length=m*size) (h1:∀u∈ys,u.oneCell'=true) (h63:n+m≤maxLen) (hbytes:(n+m)*bytes≤140737488355328) (hbase:base≤w.heap.size) :
 ∃v' w',(Builtin.append_ #[t,t] ty #[v,u]).run P w= .ok v' w'∧w'.ownsRow base e size v' (n+m) (xs++ys)∧w.grownBy w' v.ownBlock∧(v'.ownBlock=v.ownBlock∨v'.ownBlock=some w.heap.size):=by
 obtain⟨i,c,j,f,q⟩:=T.info
 rcases hu with ⟨rfl,rfl,rfl⟩|⟨ad,cap,rfl,hc1,hc2,hc4⟩
 · refine⟨v,w,run_append_owned_none w base t ty e i size T.under c v n xs hown,by simpa using hown,⟨rfl,rfl,rfl,Nat.le_refl _,fun _ _ _=>rfl⟩,.inl rfl⟩
 · obtain⟨v',w',l,h,F,_,G⟩:=run_append_own_at w base t ty e i z size bytes T.under c j f q T.zero T.pos v n xs hown ad m cap ys hl hc4 h1 h63 hbytes hbase
   exact⟨v',w',l,h,F,G⟩
theorem qAP (bs:List UInt8):∀u∈qA1 bs,u.oneCell'=true:=by
 intro u c;simp[qA1]at c;obtain⟨x,_,rfl⟩:=c;rfl
theorem qMU (l:List (BitVec 64)):∀u∈qDm l,u.oneCell'=true:=by
 intro u c;simp[qDm]at c;obtain⟨x,_,rfl⟩:=c;rfl
theorem qIz (l:List qAD):∀u∈qAA l,u.oneCell'=true:=by
 intro u c;simp[qAA]at c;obtain⟨x,y,_,rfl|rfl⟩:=c<;>rfl
def Str (bs:List UInt8):Value:=.string ⟨bs.toArray⟩
theorem qJN (bs:List UInt8):strOfNums (bs.map fun x=>(x.toNat:Int))=⟨bs.toArray⟩:=by
 unfold strOfNums
 rw[List.map_map]
 have:(fun n:Int=>UInt8.ofNat n.toNat)∘(fun x:UInt8=>(x.toNat:Int))=id:=by
  funext x;simp
 rw[this,List.map_id]
theorem qDM {src dst e:TypeId}(hs:P.underlying src=some (.slice e))(he:P.underlying e=some (.int .u8))(hd:P.underlying dst=some .string){v:Value}{bs:List UInt8}
 (h:Sl w v bs.length (qA1 bs)):(convert src dst v).run P w= .ok (Str bs) w:=by
 rcases h with ⟨rfl,h0,hb⟩|⟨a,cap,rfl,h1,h2,h4⟩
 · have:bs= []:=List.eq_nil_of_length_eq_zero h0
   subst this
   exact run_convert_bytes_nil w src e hs he 0 0 dst hd
 · have hl:(loadCells a bs.length).run P w= .ok ((bs.map fun x=>(x.toNat:Int)).map (Value.int .u8)).toArray w:=by
    have c:(bs.map fun x=>(x.toNat:Int)).map (Value.int .u8)=qA1 bs:=by simp[qA1,V8]
    have:=run_loadCells_list (P:=P) w a (qA1 bs) h4
    rw[c]
    simpa [qA7] using this
   rw[run_convert_bytes_string w src dst e _ bs.length cap hs he hd,run_bytesToString w _ bs.length cap _ hl,foldl_push_bytes]
   have:=qJN bs
   unfold strOfNums at this
   simp only[ByteArray.mk.injEq]at this
   unfold Str
   rw[this]
   simp[ByteArray.empty,ByteArray.emptyWithCapacity]
   rfl
@[go_sem] theorem qOZ (t:TypeId) (a b:List UInt8):binOp .eql t (Str a) (Str b)=pure (.bool (a==b)):=by
 unfold Str;rw[binOp_string_eql,ByteArray.toList_mk,ByteArray.toList_mk]
@[go_sem] theorem qP0 (t:TypeId) (a b:List UInt8):binOp .neq t (Str a) (Str b)=pure (.bool !(a==b)):=by
 unfold Str;rw[binOp_string_neq,ByteArray.toList_mk,ByteArray.toList_mk]
@[go_sem] theorem qSD (t:TypeId) (a b:List UInt8):binOp .lss t (Str a) (Str b)=pure (.bool (Op.bytesLess a b)):=by
 unfold Str;rw[binOp_string_lss,ByteArray.toList_mk,ByteArray.toList_mk]
@[go_sem] theorem qRX (t:TypeId) (a l:List UInt8):binOp .eql t (Str a) (.string ⟨l.toArray⟩)=pure (.bool (a==l)):=qOZ t a l
@[go_sem] theorem qRY (t:TypeId) (a l:List UInt8):binOp .neq t (Str a) (.string ⟨l.toArray⟩)=pure (.bool !(a==l)):=qP0 t a l
@[go_sem] theorem qOF (op:BinOp) (t:TypeId) (x y:Operand) (v:Value) (a:List UInt8):eqGuard op t x y (Str a) v=pure ():=by cases op<;>rfl
theorem qJO {t e:TypeId}(ty:TypeId)(ht:P.underlying t=some (.slice e)){v:Value}{n:Nat}{cs:List Value}(h:Sl w v n cs):(Builtin.len_ #[t] ty #[v]).run P w= .ok (.int .i64 n) w:=by
 obtain⟨a,cap,rfl⟩:=h.len
 have c:P.elem t=e:=by simp[Program.elem,ht]
 have:=run_len_slice (P:=P) w t ty a n cap (by rw[c];exact ht)
 exact this
end
section
variable {α:Type}
def qJP (xs:List α)(z:α)(k:Nat):List α:=xs.take k++List.replicate (xs.length - k) z
theorem qIA (xs:List α)(z:α):qJP xs z 0=List.replicate xs.length z:=by simp[qJP]
theorem qKU (xs:List α)(z:α):qJP xs z xs.length=xs:=by simp[qJP]
theorem qKV (xs:List α)(z:α)(k:Nat)(h:k<xs.length):(qJP xs z k).set k xs[k]=qJP xs z (k+1):=by
 unfold qJP
 rw[List.set_append_right _ _ (by simp;omega)]
 have e:xs.length - k=(xs.length - (k+1))+1:=by omega
 rw[e,List.replicate_succ]
 have f:k - (xs.take k).length=0:=by simp;omega
 have c:xs.take (k+1)=xs.take k++ [xs[k]]:=List.take_succ_eq_append_getElem h
 rw[f,List.set_cons_zero,c,List.append_assoc]
 rfl
theorem qKW (xs:List α)(z:α)(k:Nat)(h:k<xs.length):(qJP xs z k)[k]? = some z:=by
 unfold qJP
 rw[List.getElem?_append_right (by simp;omega)]
 have:k - (xs.take k).length=0:=by simp;omega
 rw[this,List.getElem?_replicate,if_pos (by omega)]
end
theorem qF7 (bs:List UInt8)(k:Nat)(x:UInt8):(qA1 bs).toArray.setIfInBounds k (V8 x)=(qA1 (bs.set k x)).toArray:=by
 simp[qA1,List.map_set]
section
variable {P:Program} (w:World)
theorem qBU {t e:TypeId}(T:SlT P t e 1 1 (.int .u8 0))(k k':IntKind)(n:Nat)(hn:n≤140737488355328) :
 (Instr.makeSlice t (.int k (n:Int)) (.int k' (n:Int))).run P w= .ok (.slice (some ⟨w.heap.size,0,none⟩) n n) (w.alloc (.cells (qA1 (List.replicate n 0)).toArray e)):=by
 obtain⟨i,f,j,c,h⟩:=T.info
 have:=run_make (P:=P) w t e i _ T.under f j k k' n n (by omega) (Int.le_refl _) (by rw[h];omega) (by omega)
 rw[this,c]
 simp only[Int.toNat_natCast]
 congr 4
 apply Array.ext'
 rw[Nat.mul_one]
 show(madeCells #[Value.int .u8 0] n).toList=_
 rw[toList_madeCells_one]
 have:Value.int .u8 0=V8 0:=rfl
 rw[this]
 simp[qA1]
theorem qCB (n:Nat)(hn:n≤maxLen)(e:TypeId)(bs:List UInt8)(hb:bs.length=n){B:Nat}{w:World}(h:Blk w B (qA1 bs).toArray e){base:Nat}(hB:base≤B) :
 w.ownsRow base e 1 (.slice (some ⟨B,0,none⟩) n n) n (qA1 bs):=
 ⟨by simp[qA1,hb],.inr ⟨B,n,_,rfl,hB,h,Nat.le_refl _,hn,by simp[qA1,hb],List.take_of_length_le (by simp[qA1,hb])⟩⟩
end
section
variable {P:Program} {w:World} {ops:Array Oper} {rest:List Oper} {o:Oper} {a:Act} {Q:Exit→Act→World→Prop} {K:Act→World→Prop}
theorem qIB {t e size bytes:Nat}{z:Value}(T:SlT P t e size bytes z){s x:Operand}(ho:o.op= .call { callee:=.builtin .append,args:=#[s,x],argTypes:=#[t,t] })
 {base:Nat} {v u:Value} {n m:Nat} {xs ys:List Value} (hs:a.eval s=v) (hx:a.eval x=u)
 (hown:w.ownsRow base e size v n xs) (hu:Sl w u m ys) (hl:ys.length=m*size) (h1:∀u∈ys,u.oneCell'=true) (h63:n+m≤maxLen) (hbytes:(n+m)*bytes≤140737488355328) (hbase:base≤w.heap.size)
 (h:∀v' w',w'.ownsRow base e size v' (n+m) (xs++ys)→w.grownBy w' v.ownBlock→(v'.ownBlock=v.ownBlock∨v'.ownBlock=some w.heap.size)→K (a.put o.dst v') w'):o.wp P a w K Q:=by
 obtain⟨v',w',j,l,f,c⟩:=qH0 (P:=P) w T o.type hown hu hl h1 h63 hbytes hbase
 unfold Oper.wp execOp
 simp only[ho,resolve,invoke,builtin,Sem.run_bind,Sem.run_pure,Result.andThen_ok,List.map_toArray,List.map_cons,List.map_nil,hs,hx,j]
 exact h v' w' l f c
theorem qAw {t e size bytes:Nat}{z:Value}(T:SlT P t e size bytes z){s x:Operand}(hgd:o.guard=none)(ho:o.op= .call { callee:=.builtin .append,args:=#[s,x],argTypes:=#[t,t] })
 {base:Nat} {v u:Value} {n m:Nat} {xs ys:List Value} (hs:a.eval s=v) (hx:a.eval x=u)
 (hown:w.ownsRow base e size v n xs) (hu:Sl w u m ys) (hl:ys.length=m*size) (h1:∀u∈ys,u.oneCell'=true) (h63:n+m≤maxLen) (hbytes:(n+m)*bytes≤140737488355328) (hbase:base≤w.heap.size)
 (h:∀v' w',w'.ownsRow base e size v' (n+m) (xs++ys)→w.grownBy w' v.ownBlock→(v'.ownBlock=v.ownBlock∨v'.ownBlock=some w.heap.size)→wpList P ops Q rest (a.put o.dst v') w'):wpList P ops Q (o::rest) a w:=
 wpList_plain hgd fun _ j=>qIB T ho hs hx hown hu hl h1 h63 hbytes hbase fun v' w' l c f=>j _ _ (h v' w' l c f)
theorem Sl.lit (w:World)(cs:Array Value)(t:TypeId)(n:Nat)(hn:n≤maxLen):Sl (w.alloc (.cells cs t)) (.slice (some ⟨w.heap.size,0,none⟩) n n) n cs.toList:=by
 refine Sl.mk qle hn fun j u c=>?_
 rw[Nat.zero_add,(Blk.new w cs t).cell j]
 simpa using c
theorem Sl.one (w:World)(x:Value)(t:TypeId):Sl (w.alloc (.cells #[x] t)) (.slice (some ⟨w.heap.size,0,none⟩) 1 1) 1 [x]:=Sl.lit w #[x] t 1 (by decide)
theorem qAF {B e size n:Nat}{w0 w w':World}{v:Value}{xs:List Value}(hb:Below B w0 w)(hown:w.ownsRow B e size v n xs)(hg:w.grownBy w' v.ownBlock)(hB:B≤w.heap.size):Below B w0 w':=
 hb.trans (qJM hg (fun k c=>(hown.lt k c).1) hB)
end
structure Chg (bs:List Nat)(w w':World):Prop where
 os:w'.os=w.os
 tape:w'.tape=w.tape
 output:w'.output=w.output
 size:w.heap.size≤w'.heap.size
 block:∀k,k<w.heap.size→k∉bs→w'.heap[k]? = w.heap[k]?
section
variable {bs cs:List Nat} {w w' w'':World}
theorem Chg.refl (bs:List Nat)(w:World):Chg bs w w:=⟨rfl,rfl,rfl,Nat.le_refl _,fun _ _ _=>rfl⟩
theorem Chg.trans (h:Chg bs w w')(k:Chg bs w' w''):Chg bs w w'':=
 ⟨k.os.trans h.os,k.tape.trans h.tape,k.output.trans h.output,Nat.le_trans h.size k.size,fun i c hn=>(k.block i (Nat.lt_of_lt_of_le c h.size) hn).trans (h.block i c hn)⟩
theorem Chg.mono (h:Chg bs w w')(hs:∀b∈bs,b∈cs):Chg cs w w':=⟨h.os,h.tape,h.output,h.size,fun k f hn=>h.block k f fun c=>hn (hs k c)⟩
theorem Chg.of_grown {b:Nat}(h:w.grownBy w' (some b)):Chg [b] w w':=⟨h.os,h.tape,h.output,h.size,fun k c hn=>h.block k c fun e=>hn (by rw[Option.some.inj e];simp)⟩
theorem Chg.of_kept (h:qA4 w w'):Chg bs w w':=⟨h.os,h.tape,h.output,h.size,fun k c _=>h.block k c⟩
theorem Chg.set {b:Nat}(h:Chg bs w w')(hb:b∈bs)(o:Nat)(v:Value):Chg bs w (w'.setCell ⟨b,o,none⟩ v):=
 ⟨h.os,h.tape,h.output,Nat.le_trans h.size (by simp[World.setCell]),fun k c hn=>(Below.heap_setCell _ _ _ _ (fun e=>hn (by have e:k=b:=e;rw[e];exact hb))).trans (h.block k c hn)⟩
theorem Chg.blk {c:Nat}{xs:Array Value}{t:TypeId}(h:Chg bs w w')(hc:Blk w c xs t)(hn:c∉bs):Blk w' c xs t:=(h.block c hc.lt hn).trans hc
theorem Chg.below {B:Nat}(h:Chg bs w w')(hB:∀b∈bs,B≤b)(hs:B≤w.heap.size):Below B w w':=
 ⟨h.os,h.tape,h.output,h.size,fun k f=>h.block k (Nat.lt_of_lt_of_le f hs) fun c=>by have:=hB k c;omega⟩
theorem Chg.cell {a:Addr}{v:Value}(h:Chg bs w w')(hc:w.cell? a=some v)(hn:a.block∉bs):w'.cell? a=some v:=by
 have c:a.block<w.heap.size:=World.block_lt_of_cell? w _ hc
 unfold World.cell? at hc ⊢
 rw[h.block a.block c hn]
 exact hc
end
end Go.Proofs.YtdlgihbpiakebaaGreat
namespace Go.Proofs.YtdlgihbpiakebaaGreat
open Go
def rl (x:BitVec 64)(n:Nat):BitVec 64:=x<<<n ||| x>>>(64 - n)
def rr (x:BitVec 64)(n:Nat):BitVec 64:=x>>>n ||| x<<<(64 - n)
theorem qT1 (x:BitVec 64)(n:Nat)(h:n≤64):rl x (64 - n)=rr x n:=by
 unfold rl rr
 rw[show 64 - (64 - n)=n by omega,BitVec.or_comm]
def qSE (s:qAD)(k:BitVec 64):qAD:=((rr s.1 8+s.2) ^^^ k,rl s.2 3 ^^^ ((rr s.1 8+s.2) ^^^ k))
def kst (key:qAD):Nat→qAD
 | 0=>key
 | n+1=>qSE (kst key n) (BitVec.ofNat 64 n)
def qHF (key:qAD)(n:Nat):List (BitVec 64):=(List.range n).map fun i=>(kst key i).2
theorem qIC (key:qAD)(n:Nat):(qHF key n).length=n:=by simp[qHF]
theorem qLJ (key:qAD)(n:Nat):qHF key (n+1)=qHF key n++ [(kst key n).2]:=by simp[qHF,List.range_succ]
theorem qMV (key:qAD)(n i:Nat)(h:i<n):(qHF key n)[i]? = some (kst key i).2:=by simp[qHF,h]
def qP1 (key b:qAD):Nat→qAD
 | 0=>b
 | n+1=>qSE (qP1 key b n) (kst key n).2
def qLK (key b:qAD):qAD:=qP1 key b 32
end Go.Proofs.YtdlgihbpiakebaaGreat
namespace Go.Proofs.YtdlgihbpiakebaaGreat
open Go Go.RowKit
structure qKX (row:Option Nat)(k:Nat)(e:TypeId)(w w':World):Prop where
 os:w'.os=w.os
 tape:w'.tape=w.tape
 output:w'.output=w.output
 size:w.heap.size≤w'.heap.size
 block:∀i,i<w.heap.size→w'.heap[i]? = w.heap[i]? ∨ (row=some i∧∃cur cur':Array Value,w.heap[i]? = some (.cells cur e (0,0))∧w'.heap[i]? = some (.cells cur' e (0,0))∧cur'.size=cur.size∧cur'.toList.take k=cur.toList.take k∧k<cur.size)
section
variable {P:Program} {w w':World} {row:Option Nat} {k:Nat} {e:TypeId} {base size n:Nat} {v:Value} {xs:List Value}
theorem qKX.of_grown (h:w.grownBy w' none):qKX row k e w w':=⟨h.os,h.tape,h.output,h.size,fun i c=>.inl (h.block i c (by simp))⟩
theorem qKX.own (h:qKX row k e w w')(c:w.ownsRow base e size v n xs)(hk:n*size≤k):w'.ownsRow base e size v n xs:=by
 obtain⟨hl,c⟩:=c
 refine⟨hl,?_⟩
 rcases c with h0|⟨g,cap,cur,rfl,hb,hg,hn,hc,hs,ht⟩
 · exact .inl h0
 · have f:g<w.heap.size:=(Array.getElem?_eq_some_iff.1 hg).1
   rcases h.block g f with hsame|⟨_,c1,c2,h1,h2,h3,h4,_⟩
   · exact .inr ⟨g,cap,cur,rfl,hb,hsame.trans hg,hn,hc,hs,ht⟩
   · rw[h1]at hg
     cases hg
     refine .inr ⟨g,cap,c2,rfl,hb,h2,hn,hc,h3.trans hs,?_⟩
     rw[←ht]
     have:=congrArg (List.take (n*size)) h4
     rw[List.take_take,List.take_take,Nat.min_eq_left hk]at this
     exact this
theorem qKX.below {B:Nat}(h:qKX row k e w w')(hB:∀i,row=some i→B≤i)(hs:B≤w.heap.size):Below B w w':=
 ⟨h.os,h.tape,h.output,h.size,fun i c=>by
  rcases h.block i (by omega) with hsame|⟨hr,_⟩
  · exact hsame
  · have:=hB i hr;omega⟩
theorem qJQ {t size bytes:Nat}{z:Value}(w:World)(T:SlT P t e size bytes z)(ty:TypeId){u:Value}{m:Nat}{ys:List Value}
 (hown:w.ownsRow base e size v n xs) (hu:Sl w u m ys) (hl:ys.length=m*size) (h1:∀u∈ys,u.oneCell'=true) (h63:n+m≤maxLen) (hbytes:(n+m)*bytes≤140737488355328) (hbase:base≤w.heap.size) :
 ∃v' w',(Builtin.append_ #[t,t] ty #[v,u]).run P w= .ok v' w'∧w'.ownsRow base e size v' (n+m) (xs++ys)∧qKX v.ownBlock (n*size) e w w'∧(v'.ownBlock=v.ownBlock∨v'.ownBlock=some w.heap.size)∧(m=0→v'=v):=by
 obtain⟨i,q,Z,F,hb⟩:=T.info
 have J:n+m≤9223372036854775807:=by simp only[maxLen]at h63;omega
 obtain⟨v',w',l,h2,h3,h4⟩:=qH0 (P:=P) w T ty hown hu hl h1 h63 hbytes hbase
 refine⟨v',w',l,h2,?_,h4,?_⟩
 · rcases hown.2 with ⟨rfl,_⟩|⟨g,cap,cur,rfl,hbg,hg,hnc,hcm,hcs,htake⟩
   · exact qKX.of_grown h3
   · rcases hu with ⟨rfl,rfl,rfl⟩|⟨ad,c,rfl,hc1,hc2,hc4⟩
     · have:=run_append_owned_none (P:=P) w base t ty e i size T.under q _ n xs hown
       rw[l]at this
       cases this
       exact⟨rfl,rfl,rfl,Nat.le_refl _,fun _ _=>.inl rfl⟩
     · by_cases f:n+m≤cap
       · have G:n*i.size+ys.length≤cur.size:=by rw[hl,hcs,F,←Nat.add_mul];exact Nat.mul_le_mul_right _ f
         have:=run_append_room (P:=P) w t ty e i T.under q g n cap cur hg ad m c ys (by rw[F];exact hl) hc4 h1 f G
         rw[l]at this
         cases this
         rw[F]at *
         by_cases V:m=0
         · subst V
           have O:ys= []:=List.eq_nil_of_length_eq_zero (by simpa using hl)
           subst O
           refine⟨rfl,rfl,rfl,by simp,fun k N=>.inl ?_⟩
           by_cases h:k=g
           · subst h
             rw[setRow_heap w k cur _ e _ hg,hg]
             simp
           · exact setRow_other w g k _ h
         · refine⟨rfl,rfl,rfl,by simp,fun k N=>?_⟩
           by_cases h:k=g
           · subst h
             have I:=T.pos
             have Y:0<ys.length:=by rw[hl];exact Nat.mul_pos (by omega) I
             refine .inr ⟨rfl,cur,_,hg,setRow_heap w k cur _ e _ hg,?_,?_,by omega⟩
             · simp only[List.size_toArray,List.length_append,List.length_take,List.length_drop,Array.length_toList]
               omega
             · simp only[]
               rw[List.append_assoc,List.take_append_of_le_length (by simp;omega),List.take_take,Nat.min_self]
           · exact .inl (setRow_other w g k _ h)
       · have holds:∀j u,xs[j]? = some u→w.cell? ((⟨g,0,none⟩:Addr).add j)=some u:=hown.cells (g:=g) rfl
         have:=run_append_grow (P:=P) w t ty e i z T.under q Z ⟨g,0,none⟩ n cap xs (by rw[F];exact hown.1) holds ad m c ys (by rw[F];exact hl) hc4 (by omega) (by omega) (by rw[hb];exact growslice_fits (by omega) hbytes)
         rw[l]at this
         cases this
         exact⟨rfl,rfl,rfl,by simp,fun k N=>.inl (heap_alloc_old w.drew _ N)⟩
 · intro V
   subst V
   have O:ys= []:=List.eq_nil_of_length_eq_zero (by simpa using hl)
   subst O
   rcases hu with ⟨rfl,_,_⟩|⟨ad,c,rfl,hc1,hc2,hc4⟩
   · have:=run_append_owned_none (P:=P) w base t ty e i size T.under q _ n xs hown
     rw[l]at this
     cases this
     rfl
   · rcases hown.2 with ⟨rfl,rfl⟩|⟨g,cap,cur,rfl,hbg,hg,hnc,hcm,hcs,htake⟩
     · have:(Builtin.append_ #[t,t] ty #[.slice none 0 0,.slice (some ad) 0 c]).run P w= .ok (.slice none 0 0) w:=by
        simp[Builtin.append_,run_underlying T.under,sizeOf,typeInfo,q,Builtin.lenOf,Builtin.firstCells,loadCells,loadCellsFrom]
       rw[l]at this
       cases this
       rfl
     · have:=run_append_room (P:=P) w t ty e i T.under q g n cap cur hg ad 0 c [] (by simp) (by simp) (by simp) (by omega) (by rw[hcs,F];simp;exact Nat.mul_le_mul_right _ hnc)
       rw[l]at this
       cases this
       rfl
end
section
variable {P:Program} {w:World} {ops:Array Oper} {rest:List Oper} {o:Oper} {a:Act} {Q:Exit→Act→World→Prop} {K:Act→World→Prop}
theorem qBE {t e size bytes:Nat}{z:Value}(T:SlT P t e size bytes z){s x:Operand}(ho:o.op= .call { callee:=.builtin .append,args:=#[s,x],argTypes:=#[t,t] })
 {base:Nat} {v u:Value} {n m:Nat} {xs ys:List Value} (hs:a.eval s=v) (hx:a.eval x=u)
 (hown:w.ownsRow base e size v n xs) (hu:Sl w u m ys) (hl:ys.length=m*size) (h1:∀u∈ys,u.oneCell'=true) (h63:n+m≤maxLen) (hbytes:(n+m)*bytes≤140737488355328) (hbase:base≤w.heap.size)
 (h:∀v' w',w'.ownsRow base e size v' (n+m) (xs++ys)→qKX v.ownBlock (n*size) e w w'→(v'.ownBlock=v.ownBlock∨v'.ownBlock=some w.heap.size)→(m=0→v'=v)→K (a.put o.dst v') w'):o.wp P a w K Q:=by
 obtain⟨v',w',l,f,j,c,q⟩:=qJQ (P:=P) w T o.type hown hu hl h1 h63 hbytes hbase
 unfold Oper.wp execOp
 simp only[ho,resolve,invoke,builtin,Sem.run_bind,Sem.run_pure,Result.andThen_ok,List.map_toArray,List.map_cons,List.map_nil,hs,hx,l]
 exact h v' w' f j c q
theorem qBb {t e size bytes:Nat}{z:Value}(T:SlT P t e size bytes z){s x:Operand}(hgd:o.guard=none)(ho:o.op= .call { callee:=.builtin .append,args:=#[s,x],argTypes:=#[t,t] })
 {base:Nat} {v u:Value} {n m:Nat} {xs ys:List Value} (hs:a.eval s=v) (hx:a.eval x=u)
 (hown:w.ownsRow base e size v n xs) (hu:Sl w u m ys) (hl:ys.length=m*size) (h1:∀u∈ys,u.oneCell'=true) (h63:n+m≤maxLen) (hbytes:(n+m)*bytes≤140737488355328) (hbase:base≤w.heap.size)
 (h:∀v' w',w'.ownsRow base e size v' (n+m) (xs++ys)→qKX v.ownBlock (n*size) e w w'→(v'.ownBlock=v.ownBlock∨v'.ownBlock=some w.heap.size)→(m=0→v'=v)→wpList P ops Q rest (a.put o.dst v') w'):wpList P ops Q (o::rest) a w:=
 wpList_plain hgd fun _ j=>qBE T ho hs hx hown hu hl h1 h63 hbytes hbase fun v' w' f l c q=>j _ _ (h v' w' f l c q)
end
def qBd (l:List (BitVec 32)):List Value:=l.map W
theorem qBM (l:List (BitVec 32)):(qBd l).length=l.length:=by simp[qBd]
theorem qEu (a b:List (BitVec 32)):qBd (a++b)=qBd a++qBd b:=by simp[qBd]
theorem qDN (l:List (BitVec 32))(i:Nat)(h:i<l.length):(qBd l)[i]? = some (W l[i]):=by simp[qBd,h]
theorem qID (l:List (BitVec 32)):∀u∈qBd l,u.oneCell'=true:=by
 intro u c;simp[qBd]at c;obtain⟨x,_,rfl⟩:=c;rfl
def qP2 (seed:BitVec 64)(e:BitVec 32):qAD:=qLK (seed,seed) (0#64,e.setWidth 64)
def qAl (l:List (BitVec 32)):BitVec 32:=l[l.length - 1]?.getD 0#32
theorem qIE (l:List (BitVec 32))(h:0<l.length):l[l.length - 1]? = some (qAl l):=by
 unfold qAl
 rw[List.getElem?_eq_getElem (by omega)];rfl
theorem qH1 (l:List (BitVec 32))(x:BitVec 32):qAl (l++ [x])=x:=by simp[qAl]
def gone (below now e:BitVec 32):Bool:=decide (e<below)&&(e != now)
def qH2 (l:List (BitVec 32))(below:BitVec 32):List (BitVec 32):=l.filter fun e=>!gone below (qAl l) e
def qG3 (l:List (BitVec 32)):Prop:=l.Pairwise (· < ·)
theorem qF8 (l:List (BitVec 32))(below:BitVec 32)(h:0<l.length):0<(qH2 l below).length∧qAl (qH2 l below)=qAl l:=by
 obtain⟨m,q⟩:∃m,l=m++ [qAl l]:=by
  refine⟨l.dropLast,?_⟩
  have c:l≠ []:=by intro e;rw[e]at h;simp at h
  have f:=List.dropLast_concat_getLast c
  have F:l.getLast c=qAl l:=by
   unfold qAl
   rw[List.getLast_eq_getElem,List.getElem?_eq_getElem (by omega)];rfl
  rw[F]at f;exact f.symm
 unfold qH2
 generalize qAl l=x at *
 subst q
 rw[List.filter_append]
 have j:([x].filter fun e=>!gone below x e)= [x]:=by simp[gone]
 rw[j]
 exact⟨by simp,qH1 _ _⟩
theorem qHG {l:List (BitVec 32)}(h:qG3 l)(below:BitVec 32):qG3 (qH2 l below):=List.Pairwise.filter _ h
theorem qRZ {l:List (BitVec 32)}(h:qG3 l)(i:Nat)(hi:i+1<l.length):l[i]≠qAl l:=by
 unfold qAl
 rw[List.getElem?_eq_getElem (by omega)]
 simp only[Option.getD_some]
 intro e
 have:=List.pairwise_iff_getElem.1 h i (l.length - 1) (by omega) (by omega) (by omega)
 rw[e]at this
 exact absurd this (by simp)
theorem qJR {l:List (BitVec 32)}(h:qG3 l)(h0:0<l.length)(x:BitVec 32)(hx:qAl l<x):qG3 (l++ [x]):=by
 unfold qG3
 rw[List.pairwise_append]
 refine⟨h,by simp,fun a j b f=>?_⟩
 rw[List.mem_singleton]at f
 subst f
 obtain⟨i,F,rfl⟩:=List.getElem_of_mem j
 by_cases hl:i+1<l.length
 · have q:=List.pairwise_iff_getElem.1 h i (l.length - 1) (by omega) (by omega) (by omega)
   have c:l[l.length - 1]=qAl l:=by
    unfold qAl;rw[List.getElem?_eq_getElem (by omega)];rfl
   rw[c]at q
   simp only[BitVec.lt_def]at *
   omega
 · have c:l[i]=qAl l:=by
    unfold qAl;rw[List.getElem?_eq_getElem (by omega)]
    simp only[Option.getD_some]
    congr 1;omega
   rw[c];exact hx
theorem qFz {e:TypeId}{g:Nat}:∀(vs cs:List Value) (o:Nat) (w:World),Blk w g cs.toArray e→o+vs.length≤cs.length →
 Blk (w.setCells g o vs) g (cs.take o++vs++cs.drop (o+vs.length)).toArray e∧Chg [g] w (w.setCells g o vs)
 | [],cs,o,w,h,_=>by
  refine⟨?_,Chg.refl _ _⟩
  show Blk w g _ e
  simpa using h
 | v::vs,cs,o,w,h,hl=>by
  have c:Blk (w.setCell ⟨g,o,none⟩ v) g (cs.set o v).toArray e:=by simpa using h.set o v
  simp only[List.length_cons]at hl
  obtain⟨j,l⟩:=qFz vs (cs.set o v) (o+1) (w.setCell ⟨g,o,none⟩ v) c (by rw[List.length_set];omega)
  refine⟨?_,((Chg.refl [g] w).set (by simp) o v).trans l⟩
  have f:(cs.set o v).take (o+1)++vs++(cs.set o v).drop (o+1+vs.length)=cs.take o++(v::vs)++cs.drop (o+(v::vs).length):=by
   rw[List.take_succ_eq_append_getElem (by rw[List.length_set];omega),List.getElem_set_self,List.take_set_of_le qle,List.drop_set_of_lt (by omega),List.length_cons,show o+1+vs.length=o+(vs.length+1) by omega]
   simp
  rw[←f]
  exact j
end Go.Proofs.YtdlgihbpiakebaaGreat
