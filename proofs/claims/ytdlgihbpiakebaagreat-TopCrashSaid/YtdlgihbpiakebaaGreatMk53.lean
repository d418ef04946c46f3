import Derived.Test.YtdlgihbpiakebaaGreatMk50
import Derived.Test.YtdlgihbpiakebaaGreatMk51
import Derived.Test.YtdlgihbpiakebaaGreatMk52
set_option maxRecDepth 100000
set_option maxHeartbeats 4000000
namespace Go.Proofs.YtdlgihbpiakebaaGreat
open Go Go.RowKit Tryz
theorem qTd {w:World}{X:Nat}{B L:Nat→List UInt8}(h:Blk w X (qAC B L) 72)(h32:∀i,i<32→(B i).length=32)(c:Cl)(his:c.is=true)(a:Option Addr)(cap:Nat)(hs:Sl w (.slice a c.data.length cap) c.data.length (qA1 c.data))(hl:c.data.length≤1000000) :
 Calls prog 14 #[.pointer (some ⟨X,0,none⟩),.agg #[.int .i64 c.kind,.int .i64 c.lba,.slice a c.data.length cap]] w fun e w'=>∃v,e= .returned v∧Blk w' X (qAC (mdo B c).2 (if c.keeps then B else L)) 72∧Chg [X] w w':=by
 obtain⟨k,lb,l⟩:=c
 have f:=his
 unfold Cl.is at f
 simp only at f hs hl ⊢
 unfold mdo
 rw[if_neg (by rw[his];decide)]
 simp only
 by_cases G:k=1
 · subst G
   rw[if_pos rfl]at f
   rw[if_pos rfl,if_neg (show ¬Cl.keeps ⟨1,lb,l⟩ from fun e=>e.1 rfl)]
   have N:lb.toNat<32:=by have j:=f;simp[isD]at j;omega
   refine(qME h lb f (h32 _ N) l a cap hs hl).mono ?_
   rintro e w' ⟨v,j,q,_,F⟩
   exact⟨_,j,q,F⟩
 rw[if_neg G]at f
 rw[if_neg G]
 by_cases I:k=4
 · subst I
   rw[if_pos rfl]at f
   rw[if_neg (show ¬(4:Int)=2 by decide),if_pos rfl,if_neg (show ¬Cl.keeps ⟨4,lb,l⟩ from fun e=>e.2.2 rfl)]
   refine(qIq h lb f l a cap hs hl).mono ?_
   rintro e w' ⟨v,j,q,_,F⟩
   exact⟨_,j,q,F⟩
 rw[if_neg I]at f
 by_cases J:k=2
 · subst J
   rw[if_pos rfl]at f
   simp only[Bool.and_eq_true,decide_eq_true_eq]at f
   rw[if_pos rfl,if_neg (show ¬Cl.keeps ⟨2,lb,l⟩ from fun e=>e.2.1 rfl)]
   refine(qKO h lb f.1 l f.2 a cap hs hl).mono ?_
   rintro e w' ⟨v,j,q,_,F⟩
   exact⟨_,j,q,F⟩
 rw[if_neg J]at f
 have O:k=3∨k=5:=by simpa using f
 rw[if_neg J,if_neg I,if_pos (show Cl.keeps ⟨k,lb,l⟩ from⟨G,J,I⟩)]
 refine(qMG h k lb O l a cap hs hl).mono ?_
 rintro e w' ⟨v,j,q,_,F⟩
 exact⟨_,j,q,F⟩
theorem qIr {w:World}{X o:Nat}{cs:Array Value}{T:TypeId}{M:Nat→List UInt8}(h:Blk w X cs T)(hc:∀j,j<32→cs[o+j]? = some (Str (M j))):(loadCells ⟨X,o,none⟩ 32).run prog w= .ok (qAV M).toArray w:=by
 have:=run_loadCells_list (P:=prog) w ⟨X,o,none⟩ (qAV M) (fun j v f=>by
  have l:j<32:=by
   have:=(List.getElem?_eq_some_iff.1 f).1
   rw[qAm]at this
   exact this
  rw[qCb M j l]at f
  have c:(⟨X,o,none⟩:Addr).add j=⟨X,o+j,none⟩:=by unfold Addr.add;split<;>simp_all
  rw[c,←f]
  exact(h.cell (o+j)).trans (hc j l))
 rw[qAm]at this
 exact this
theorem qGL {w:World}{X o:Nat}{cs cs':Array Value}{T:TypeId}{M:Nat→List UInt8}(h:Blk w X cs T)(ho:o+32≤cs.size)(he:(cs.toList.take o++qAV M++cs.toList.drop (o+32)).toArray=cs'):∃w',(storeCells ⟨X,o,none⟩ (qAV M).toArray.toList).run prog w= .ok () w'∧Blk w' X cs' T∧Chg [X] w w':=by
 have:=run_storeCells_at (P:=prog) X o T (qAV M) 0 cs w h (by rw[qAm];omega) (fun v c=>by
  unfold qAV at c
  obtain⟨i,_,rfl⟩:=List.mem_map.1 c
  rfl)
 rw[Nat.add_zero,qAm,he]at this
 rw[List.toList_toArray]
 exact⟨_,this,(qDW h _).1,(qDW h _).2⟩
theorem qGM (B L:Nat→List UInt8):(qAC B L).size=64:=by unfold qAC;simp[qAm]
theorem qGN (B L:Nat→List UInt8):(qAC B L).toList=qAV B++qAV L:=rfl
theorem qOD {w:World}{X:Nat}{B L:Nat→List UInt8}(h:Blk w X (qAC B L) 72):(loadCells ⟨X,0,none⟩ 32).run prog w= .ok (qAV B).toArray w:=qIr h fun j c=>by rw[Nat.zero_add];exact qC7 c
theorem qRx {w:World}{X:Nat}{B L:Nat→List UInt8}(h:Blk w X (qAC B L) 72):(loadCells ⟨X,32,none⟩ 32).run prog w= .ok (qAV L).toArray w:=qIr h fun j c=>by rw[qQ0 (by omega) (by omega),show 32+j - 32=j by omega]
theorem qRy {w:World}{X:Nat}{B:Nat→List UInt8}{T:TypeId}(h:Blk w X (qAV B).toArray T):(loadCells ⟨X,0,none⟩ 32).run prog w= .ok (qAV B).toArray w:=qIr h fun j c=>by rw[Nat.zero_add,List.getElem?_toArray];exact qCb B j c
theorem qQa {w:World}{X:Nat}{B L:Nat→List UInt8}(M:Nat→List UInt8)(h:Blk w X (qAC B L) 72):∃w',(storeCells ⟨X,0,none⟩ (qAV M).toArray.toList).run prog w= .ok () w'∧Blk w' X (qAC M L) 72∧Chg [X] w w':=
 qGL h (by rw[qGM];omega) (by
  rw[qGN,List.take_zero,List.nil_append,List.drop_left' (by rw[qAm])]
  rfl)
theorem qQb {w:World}{X:Nat}{B L:Nat→List UInt8}(M:Nat→List UInt8)(h:Blk w X (qAC B L) 72):∃w',(storeCells ⟨X,32,none⟩ (qAV M).toArray.toList).run prog w= .ok () w'∧Blk w' X (qAC B M) 72∧Chg [X] w w':=
 qGL h (by rw[qGM];omega) (by
  rw[qGN,List.take_left' (by rw[qAm]),List.drop_of_length_le (by simp[qAm]),List.append_nil]
  rfl)
theorem qLD {w:World}{X:Nat}{B:Nat→List UInt8}{T:TypeId}(M:Nat→List UInt8)(h:Blk w X (qAV B).toArray T):∃w',(storeCells ⟨X,0,none⟩ (qAV M).toArray.toList).run prog w= .ok () w'∧Blk w' X (qAV M).toArray T∧Chg [X] w w':=
 qGL h (by simp[qAm]) (by
  show((qAV B).take 0++qAV M++(qAV B).drop (0+32)).toArray=_
  rw[List.take_zero,List.nil_append,List.drop_of_length_le (by rw[qAm];omega),List.append_nil])
theorem Chg.newset {bs:List Nat}{g:Nat}{w w1 w2:World}(h:Chg bs w w1)(hc:Chg [g] w1 w2)(hg:w.heap.size≤g):Chg bs w w2:=
 ⟨hc.os.trans h.os,hc.tape.trans h.tape,hc.output.trans h.output,Nat.le_trans h.size hc.size,fun k c hn=>(hc.block k (Nat.lt_of_lt_of_le c h.size) (by rw[List.mem_singleton];omega)).trans (h.block k c hn)⟩
theorem qGO (w:World)(b o:Nat){v v0:Value}(hc:w.cell? ⟨b,o,none⟩=some v0)(hf:w.frozen? ⟨b,o,none⟩=false)(hv:v.oneCell'=true):(storeCells ⟨b,o,none⟩ [v]).run prog w= .ok () (w.setCell ⟨b,o,none⟩ v):=
 run_storeCells_cells b o [v] 0 w (fun j c=>by simp at c;subst c;simp[hc]) (fun j c=>by simp at c;subst c;simp[hf]) (fun u f=>by simp at f;subst f;exact hv)
theorem qQq {B L:Nat→List UInt8}{a:Ac}{was v:BitVec 64}(k1:a.kind=1):qCx B L a 0 was v=(mdo B a.call).2∧qDi B L a 0 was v=if was.toNat<v.toNat then B else if a.call.keeps then B else L:=by
 unfold qCx qDi
 rw[if_neg (by omega),if_pos ⟨k1,rfl⟩]
 refine⟨rfl,?_⟩
 by_cases h:was.toNat<v.toNat
 · rw[if_pos ⟨k1,h⟩,if_pos h]
 · rw[if_neg (fun e=>h e.2),if_neg h]
   by_cases c:a.call.keeps
   · rw[if_pos ⟨k1,rfl,c⟩,if_pos c]
   · rw[if_neg (fun e=>c e.2.2),if_neg c]
theorem qRz {B L:Nat→List UInt8}{a:Ac}{err:Int}{was v:BitVec 64}(k1:a.kind=1)(he:err≠0):qCx B L a err was v=B∧qDi B L a err was v=if was.toNat<v.toNat then B else L:=by
 unfold qCx qDi
 rw[if_neg (by omega),if_neg (fun e=>he e.2)]
 refine⟨rfl,?_⟩
 by_cases h:was.toNat<v.toNat
 · rw[if_pos ⟨k1,h⟩,if_pos h]
 · rw[if_neg (fun e=>h e.2),if_neg h,if_neg (fun e=>he e.2.1)]
theorem qTe {B L:Nat→List UInt8}{a:Ac}{err:Int}{was v:BitVec 64}(k3:a.kind=3):qCx B L a err was v=L:=by
 unfold qCx
 rw[if_pos k3,qDY (by omega)]
theorem qSV {c:Cl}(h:c.kind=3∨c.kind=5):c.keeps:=⟨by omega,by omega,by omega⟩
theorem qJE {B:Nat→List UInt8}{c:Cl}(h:c.kind=3∨c.kind=5):(mdo B c).2=B:=by
 unfold mdo
 split
 · rfl
 rw[if_neg (by omega),if_neg (by omega),if_neg (by omega)]
section
attribute [-go_sem] storeCells loadCells
theorem qOE {w:World}{T Y:Nat}{B L:Nat→List UInt8}{was v:BitVec 64}(hT:Blk w T #[.pointer (some ⟨Y,0,none⟩),U was] 55)(hY:Blk w Y (qAC B L) 72)(hTY:T≠Y)(b4:∀i,i<32→(B i).length=32)(a:Ac)(err:Int)(b3:a.kind=1→err=0→a.call.is=true)(a1:Option Addr)(c1:Nat)(v2 v3 vD:Value)(hs:Sl w (.slice a1 a.call.data.length c1) a.call.data.length (qA1 a.call.data))(hl:a.call.data.length≤1000000):Calls prog 19 #[.pointer (some ⟨T,0,none⟩),.agg #[.int .i64 a.kind,.int .i64 a.call.kind,.int .i64 a.call.lba,.slice a1 a.call.data.length c1,.int .i64 a.n,.int .i64 a.off,v2,v3],.agg #[.int .i64 err,vD],U v] w fun e w'=>e= .returned (.tuple #[])∧Blk w' T #[.pointer (some ⟨Y,0,none⟩),U v] 55∧Blk w' Y (qAC (qCx B L a err was v) (qDi B L a err was v)) 72∧Chg [T,Y] w w':=by
 obtain⟨w0,V⟩:∃w0,w0=((w.alloc (.cells #[.int .i64 a.kind,.int .i64 a.call.kind,.int .i64 a.call.lba,.slice a1 a.call.data.length c1,.int .i64 a.n,.int .i64 a.off,v2,v3] 37)).alloc (.cells #[.int .i64 err,vD] 39)):=⟨_,rfl⟩
 have a6:qA4 w w0:=by rw[V];exact(qal _).alloc (by simp) _
 have e3:=hT.lt
 have e1:=hY.lt
 have a7:=qOD (hY.kept a6)
 have p0:=(hT.kept a6).cell 0
 obtain⟨A,hA⟩:∃A,A=(qAV B).toArray:=⟨_,rfl⟩
 have e4:A.size=32:=by rw[hA];exact qFt B
 obtain⟨A2,a4⟩:∃A2,A2=(qAV L).toArray:=⟨_,rfl⟩
 have d8:A2.size=32:=by rw[a4];exact qFt L
 have b7:w0.heap.size=w.heap.size+1+1:=by rw[V,World.size_alloc,World.size_alloc]
 have c8:Blk (((w.alloc (.cells #[.int .i64 a.kind,.int .i64 a.call.kind,.int .i64 a.call.lba,.slice a1 a.call.data.length c1,.int .i64 a.n,.int .i64 a.off,v2,v3] 37)).alloc (.cells #[.int .i64 err,vD] 39)).alloc (.cells #[.string ⟨#[]⟩,.string ⟨#[]⟩,.string ⟨#[]⟩,.string ⟨#[]⟩,.string ⟨#[]⟩,.string ⟨#[]⟩,.string ⟨#[]⟩,.string ⟨#[]⟩,.string ⟨#[]⟩,.string ⟨#[]⟩,.string ⟨#[]⟩,.string ⟨#[]⟩,.string ⟨#[]⟩,.string ⟨#[]⟩,.string ⟨#[]⟩,.string ⟨#[]⟩,.string ⟨#[]⟩,.string ⟨#[]⟩,.string ⟨#[]⟩,.string ⟨#[]⟩,.string ⟨#[]⟩,.string ⟨#[]⟩,.string ⟨#[]⟩,.string ⟨#[]⟩,.string ⟨#[]⟩,.string ⟨#[]⟩,.string ⟨#[]⟩,.string ⟨#[]⟩,.string ⟨#[]⟩,.string ⟨#[]⟩,.string ⟨#[]⟩,.string ⟨#[]⟩] 70)) (w.heap.size+1+1) (qAV (fun _=>[])).toArray 70:=by
  have:=Blk.new w0 (qAV (fun _=>[])).toArray 70
  rw[b7,V]at this
  exact this
 have a3:qA4 w (((w.alloc (.cells #[.int .i64 a.kind,.int .i64 a.call.kind,.int .i64 a.call.lba,.slice a1 a.call.data.length c1,.int .i64 a.n,.int .i64 a.off,v2,v3] 37)).alloc (.cells #[.int .i64 err,vD] 39)).alloc (.cells #[.string ⟨#[]⟩,.string ⟨#[]⟩,.string ⟨#[]⟩,.string ⟨#[]⟩,.string ⟨#[]⟩,.string ⟨#[]⟩,.string ⟨#[]⟩,.string ⟨#[]⟩,.string ⟨#[]⟩,.string ⟨#[]⟩,.string ⟨#[]⟩,.string ⟨#[]⟩,.string ⟨#[]⟩,.string ⟨#[]⟩,.string ⟨#[]⟩,.string ⟨#[]⟩,.string ⟨#[]⟩,.string ⟨#[]⟩,.string ⟨#[]⟩,.string ⟨#[]⟩,.string ⟨#[]⟩,.string ⟨#[]⟩,.string ⟨#[]⟩,.string ⟨#[]⟩,.string ⟨#[]⟩,.string ⟨#[]⟩,.string ⟨#[]⟩,.string ⟨#[]⟩,.string ⟨#[]⟩,.string ⟨#[]⟩,.string ⟨#[]⟩,.string ⟨#[]⟩] 70)):=by
  have:=a6.of ((Below.refl _ w0).alloc qle (.cells (qAV (fun _=>[])).toArray 70))
  rw[V]at this
  exact this
 have c6:Blk (((w.alloc (.cells #[.int .i64 a.kind,.int .i64 a.call.kind,.int .i64 a.call.lba,.slice a1 a.call.data.length c1,.int .i64 a.n,.int .i64 a.off,v2,v3] 37)).alloc (.cells #[.int .i64 err,vD] 39)).alloc (.cells #[.string ⟨#[]⟩,.string ⟨#[]⟩,.string ⟨#[]⟩,.string ⟨#[]⟩,.string ⟨#[]⟩,.string ⟨#[]⟩,.string ⟨#[]⟩,.string ⟨#[]⟩,.string ⟨#[]⟩,.string ⟨#[]⟩,.string ⟨#[]⟩,.string ⟨#[]⟩,.string ⟨#[]⟩,.string ⟨#[]⟩,.string ⟨#[]⟩,.string ⟨#[]⟩,.string ⟨#[]⟩,.string ⟨#[]⟩,.string ⟨#[]⟩,.string ⟨#[]⟩,.string ⟨#[]⟩,.string ⟨#[]⟩,.string ⟨#[]⟩,.string ⟨#[]⟩,.string ⟨#[]⟩,.string ⟨#[]⟩,.string ⟨#[]⟩,.string ⟨#[]⟩,.string ⟨#[]⟩,.string ⟨#[]⟩,.string ⟨#[]⟩,.string ⟨#[]⟩] 70)) w.heap.size #[.int .i64 a.kind,.int .i64 a.call.kind,.int .i64 a.call.lba,.slice a1 a.call.data.length c1,.int .i64 a.n,.int .i64 a.off,v2,v3] 37:=((Blk.new w #[.int .i64 a.kind,.int .i64 a.call.kind,.int .i64 a.call.lba,.slice a1 a.call.data.length c1,.int .i64 a.n,.int .i64 a.off,v2,v3] 37).kept (qal _)).kept (qal _)
 have d2:Blk (((w.alloc (.cells #[.int .i64 a.kind,.int .i64 a.call.kind,.int .i64 a.call.lba,.slice a1 a.call.data.length c1,.int .i64 a.n,.int .i64 a.off,v2,v3] 37)).alloc (.cells #[.int .i64 err,vD] 39)).alloc (.cells #[.string ⟨#[]⟩,.string ⟨#[]⟩,.string ⟨#[]⟩,.string ⟨#[]⟩,.string ⟨#[]⟩,.string ⟨#[]⟩,.string ⟨#[]⟩,.string ⟨#[]⟩,.string ⟨#[]⟩,.string ⟨#[]⟩,.string ⟨#[]⟩,.string ⟨#[]⟩,.string ⟨#[]⟩,.string ⟨#[]⟩,.string ⟨#[]⟩,.string ⟨#[]⟩,.string ⟨#[]⟩,.string ⟨#[]⟩,.string ⟨#[]⟩,.string ⟨#[]⟩,.string ⟨#[]⟩,.string ⟨#[]⟩,.string ⟨#[]⟩,.string ⟨#[]⟩,.string ⟨#[]⟩,.string ⟨#[]⟩,.string ⟨#[]⟩,.string ⟨#[]⟩,.string ⟨#[]⟩,.string ⟨#[]⟩,.string ⟨#[]⟩,.string ⟨#[]⟩] 70)) (w.heap.size+1) #[.int .i64 err,vD] 39:=by
  have:=Blk.new (w.alloc (.cells #[.int .i64 a.kind,.int .i64 a.call.kind,.int .i64 a.call.lba,.slice a1 a.call.data.length c1,.int .i64 a.n,.int .i64 a.off,v2,v3] 37)) #[.int .i64 err,vD] 39
  rw[World.size_alloc]at this
  exact this.kept (qal _)
 obtain⟨wS,a9,bG,O⟩:=qLD B c8
 have c9:w.heap.size∉ [w.heap.size+1+1]:=by rw[List.mem_singleton];omega
 have d6:w.heap.size+1∉ [w.heap.size+1+1]:=by rw[List.mem_singleton];omega
 have c7:T∉ [w.heap.size+1+1]:=by rw[List.mem_singleton];omega
 have c3:Y∉ [w.heap.size+1+1]:=by rw[List.mem_singleton];omega
 have a0:w.heap.size∉ [Y]:=by rw[List.mem_singleton];omega
 have d5:w.heap.size+1∉ [Y]:=by rw[List.mem_singleton];omega
 have I:T∉ [Y]:=by rw[List.mem_singleton];exact hTY
 have c5:w.heap.size+1+1∉ [Y]:=by rw[List.mem_singleton];omega
 have b5:Y∉ [T]:=by rw[List.mem_singleton];exact hTY.symm
 have d7:w.heap.size≤w.heap.size+1+1:=by omega
 have q:=O.blk c6 c9
 have bD:=O.blk d2 d6
 have c:=O.blk (hT.kept a3) c7
 have N:=O.blk (hY.kept a3) c3
 have c0:qA4 w wS:=a3.trans (O.below (by simp;omega) a3.size)
 have l:Chg [T,Y] w wS:=Chg.of_kept c0
 rw[←hA]at a7 a9
 rw[V]at a7 p0
 replace hA:=qh hA
 replace a4:=qh a4
 replace b4:=qh b4
 replace b3:=qh b3
 clear c6 d2 c8 O a3 a6 b7 V w0
 have q0:=q.cell 0
 have q1:=q.cell 1
 have q2:=q.cell 2
 have q3:=q.cell 3
 have d0:=bD.cell 0
 have t0:=c.cell 0
 have t1:=c.cell 1
 have f1:=c.free 1
 by_cases k1:a.kind=1
 · have k3:¬a.kind=3:=by omega
   rw[k1]at q0 p0 a7 a9
   by_cases e0:err=0
   case' neg =>
    have i0:(err==0)=false:=by simpa using e0
    obtain⟨a8,b6⟩:=qRz (B:=B) (L:=L) (was:=was) (v:=v) k1 e0
    go_enter func19,ntmps19
   case' pos =>
    have d4:=b3.out k1 e0
    subst e0
    obtain⟨a8,b6⟩:=qQq (B:=B) (L:=L) (was:=was) (v:=v) k1
    go_enter func19,ntmps19
    go_wp2_with fail
    refine qAb [Y] [(0,0),(1,0),(2,0),(3,0),(4,0),(5,0),(6,0),(7,0),(8,0),(9,0),(10,0),(11,0),(12,0),(13,0),(14,1)] (by kernel_rfl) (by kernel_rfl) ?_
    intro z1 f
    clear q0 q1 q2 q3 t0 t1 f1
    repeat
     refine qA0 _ rfl (fun K h=>?_)
     first
      | (refine qqP (by rfl) ?_;apply Exists.intro;refine⟨fun w' j=>?_,h _ ?_⟩;(have u0:=(j.blk (c.kept f) I).cell 0;have e2:=(j.blk (q.kept f) a0).cell 1;have e5:=(j.blk (q.kept f) a0).cell 2;have d9:=(j.blk (q.kept f) a0).cell 3;go_simp;first|done|rfl))
      | refine qqN (by rfl) (h _ ?_)
     clear h K;simp only[Act.put,qqB]
    refine qqH _ rfl (by rfl) (fun K h=>?_)
    go_wp2_with fail
    refine(qTd (N.kept f) b4.out a.call d4 a1 c1 ((hs.kept c0).kept f) hl).mono ?_
    rintro e z2 ⟨vv,rfl,c4,c2⟩
    go_wp2
    refine h _ _ (c2) ?_
    clear h K
    try simp only[Act.put,qqB]
    refine qA6 ?_
    replace q:=c2.blk (q.kept f) a0
    replace bD:=c2.blk (bD.kept f) d5
    replace c:=c2.blk (c.kept f) I
    replace bG:=c2.blk (bG.kept f) c5
    replace N:=c4
    replace l:=l.trans ((Chg.of_kept f).trans (c2.mono (by simp)))
    clear c4 f c2
    have q0:=q.cell 0
    have q1:=q.cell 1
    have q2:=q.cell 2
    have q3:=q.cell 3
    have d0:=bD.cell 0
    have t0:=c.cell 0
    have t1:=c.cell 1
    have f1:=c.free 1
    by_cases J:a.call.kind=3∨a.call.kind=5
    case' neg =>
     have i3:(a.call.kind==3)=false:=by simp;omega
     have i5:(a.call.kind==5)=false:=by simp;omega
    case' pos =>
     rcases J with J|J
     all_goals
      rw[J]at q1
      replace J:a.call.kind=3∨a.call.kind=5:=by omega
      rw[qJE J]at a8
      rw[qJE J]at N
      have b8:=qOD N
      obtain⟨wF,b9,d3,a5⟩:=qLD B bG
      rw[←hA.out]at b8 b9
      replace q:=a5.blk q c9
      replace c:=a5.blk c c7
      replace N:=a5.blk N c3
      replace bG:=d3
      replace l:=l.newset a5 d7
      have q0:=q.cell 0
      have q1:=q.cell 1
      have q2:=q.cell 2
      have q3:=q.cell 3
      have t0:=c.cell 0
      have t1:=c.cell 1
      have f1:=c.free 1
   all_goals
    try rw[k1]at q0
    by_cases hv:was.toNat<v.toNat
    case' pos =>
     go_wp2_with fail
     refine qAb [Y] [(0,0),(1,0),(2,0),(3,0),(4,0),(5,0),(6,0),(7,1)] (by kernel_rfl) (by kernel_rfl) ?_
     intro z1 f
     clear q0 q1 q2 q3 t0 t1 f1
     repeat
      refine qA0 _ rfl (fun K h=>?_)
      first
       | (refine qqP (by rfl) ?_;apply Exists.intro;refine⟨fun w' j=>?_,h _ ?_⟩;(have u0:=(j.blk (c.kept f) I).cell 0;have g0:=qRy (j.blk (bG.kept f) c5);rw[←hA.out]at g0;go_simp;first|done|rfl))
       | refine qqN (by rfl) (h _ ?_)
      clear h K;simp only[Act.put,qqB]
     refine qqH _ rfl (by rfl) (fun K h=>?_)
     obtain⟨w8,G,a2,F⟩:=qQb B (N.kept f)
     rw[←hA.out]at G
     go_wp2_with fail
     refine h _ _ (F) ?_
     clear h K
     try simp only[Act.put,qqB]
     refine qA6 ?_
     replace q:=F.blk (q.kept f) a0
     replace c:=F.blk (c.kept f) I
     replace N:=a2
     replace l:=l.trans ((Chg.of_kept f).trans (F.mono (by simp)))
     clear G a2 f F
     have q0:=q.cell 0
     have t1:=c.cell 1
     have f1:=c.free 1
    all_goals
     have d1:=qGO (v:=U v) _ T 1 (v0:=U was) (by rw[c.cell];rfl) (c.free 1) rfl
     go_wp2_with fail
     have Z:=c.set 1 (U v)
     refine bodyPost_end (results_none rfl _ _ _) rfl ⟨rfl,Z,?_,l.set (b:=T) (by simp) 1 _⟩
     first|rw[a8,b6,if_pos hv]|rw[a8,b6,if_neg hv]
     exact(Chg.step (b:=T) qsm _).blk N b5
 by_cases k3:a.kind=3
 · rw[k3]at q0 p0 a7 a9
   by_cases hv:was.toNat<v.toNat
   all_goals
    go_enter func19,ntmps19
    go_wp2_with fail
    refine qAb [Y] [(0,0),(1,0),(2,0),(3,0),(4,0),(5,0),(6,0),(7,0),(8,0),(9,0),(10,1),(11,0),(12,0),(13,1)] (by kernel_rfl) (by kernel_rfl) ?_
    intro z1 f
    clear q0 q1 q2 q3 t0 t1 f1
    repeat
     refine qA0 _ rfl (fun K h=>?_)
     first
      | (refine qqP (by rfl) ?_;apply Exists.intro;refine⟨fun w' j=>?_,h _ ?_⟩;(have u0:=(j.blk (c.kept f) I).cell 0;go_simp;first|done|rfl))
      | refine qqN (by rfl) (h _ ?_)
     clear h K;simp only[Act.put,qqB]
    refine qqH _ rfl (by rfl) (fun K h=>?_)
    have g0:=qRx (N.kept f)
    rw[←a4.out]at g0
    go_wp2_with fail
    refine h _ _ (Chg.refl _ _) ?_
    clear h K
    try simp only[Act.put,qqB]
    repeat
     refine qA0 _ rfl (fun K h=>?_)
     first
      | (refine qqP (by rfl) ?_;apply Exists.intro;refine⟨fun w' j=>?_,h _ ?_⟩;(have u0:=(j.blk (c.kept f) I).cell 0;go_simp;first|done|rfl))
      | refine qqN (by rfl) (h _ ?_)
     clear h K;simp only[Act.put,qqB]
    refine qqH _ rfl (by rfl) (fun K h=>?_)
    obtain⟨w8,G,a2,F⟩:=qQa L (N.kept f)
    rw[←a4.out]at G
    go_wp2_with fail
    refine h _ _ (F) ?_
    clear h K
    try simp only[Act.put,qqB]
    refine qA6 ?_
    replace c:=F.blk (c.kept f) I
    replace N:=a2
    replace l:=l.trans ((Chg.of_kept f).trans (F.mono (by simp)))
    clear G a2 f F
    have t1:=c.cell 1
    have f1:=c.free 1
    have d1:=qGO (v:=U v) _ T 1 (v0:=U was) (by rw[c.cell];rfl) (c.free 1) rfl
    go_wp2_with fail
    have Z:=c.set 1 (U v)
    refine bodyPost_end (results_none rfl _ _ _) rfl ⟨rfl,Z,?_,l.set (b:=T) (by simp) 1 _⟩
    rw[qTe k3,qDY k1]
    exact(Chg.step (b:=T) qsm _).blk N b5
 · have i1:(a.kind==1)=false:=by simpa using k1
   have i3:(a.kind==3)=false:=by simpa using k3
   by_cases hv:was.toNat<v.toNat
   all_goals
    go_enter func19,ntmps19
    have d1:=qGO (v:=U v) _ T 1 (v0:=U was) (by rw[c.cell];rfl) (c.free 1) rfl
    go_wp2_with fail
    have Z:=c.set 1 (U v)
    refine bodyPost_end (results_none rfl _ _ _) rfl ⟨rfl,Z,?_,l.set (b:=T) (by simp) 1 _⟩
    rw[qOC k1 k3,qDY k1]
    exact(Chg.step (b:=T) qsm _).blk N b5
end
theorem qRA {B:Nat→List UInt8}(h:∀i,i<32→(B i).length=32)(c:Cl):∀i,i<32→((mdo B c).2 i).length=32:=by
 have l:∀(j:Nat) (d:List UInt8),d.length=32→∀i,i<32→(upd B j d i).length=32:=fun j d F i I=>by
  unfold upd
  split
  · exact F
  · exact h i I
 unfold mdo
 split
 · exact h
 rename_i f
 split
 · exact h
 rename_i G
 split
 · rename_i J
   refine l _ _ ?_
   unfold Cl.is at f
   rw[if_neg G,if_neg (by omega),if_pos J]at f
   have q:(isD c.lba&&decide (c.data.length=32))=true:=by simpa using f
   rw[Bool.and_eq_true]at q
   simpa using q.2
 split
 · exact l _ _ (by simp)
 · exact h
section
variable {col:Nat→Nat} {w w':World} {P:qAU} {M C A X:Nat} {vn vw cv sv:Value} {us:List Value} {b:Bx} {o:Bo} {bs:List Nat}
theorem qBm.chgs (h:qBm col w P M C A vn vw b)(hc:Chg bs w w')(hb:∀x∈bs,col x=0):qBm col w' P M C A vn vw b:=by
 have s:∀j,0≠j→qB0 j col col w w':=fun j l=>qB0.chg hc fun x c=>by rw[hb x c];exact l
 obtain⟨f,q⟩:=(s 9 (by decide)).blk h.blk h.cC
 exact⟨⟨h.wm.wd.chg hc (fun x c=>.inl (hb x c)),((s 8 (by decide)).blk h.wm.mkr h.wm.cM).1,h.wm.cM⟩,f,q,(s 10 (by decide)).own h.now h.cn,(s 10 (by decide)).own h.was h.cw,h.cn,h.cw,h.ne,h.age.frame (s 11 (by decide))⟩
theorem qAL.chgs (h:qAL col w P X o)(hc:Chg bs w w')(hb:∀x∈bs,col x=0):qAL col w' P X o:=by
 obtain⟨cv,sv,us,h⟩:=h
 have s:qB0 12 col col w w':=qB0.chg hc fun x j=>by rw[hb x j];decide
 obtain⟨b1,q⟩:=s.blk h.blk h.cX
 refine⟨cv,sv,us,b1,q,?_,h.sn.frame s⟩
 have f:=h.bc
 unfold qF4 at f ⊢
 cases hoc:o.c with
 | none =>
  rw[hoc]at f
  exact⟨f.1,f.2.chg hc (fun x j=>.inl (hb x j))⟩
 | some B =>
  rw[hoc]at f
  obtain⟨M,C,e,A,vn,vw,l⟩:=f
  exact⟨M,C,e,A,vn,vw,l.chgs hc hb⟩
theorem Ext.newsets {m:Nat}{col':Nat→Nat}{w1 w2:World}(h:Ext m col col' w w1)(hc:Chg bs w1 w2)(hg:∀g∈bs,w.heap.size≤g):Ext m col col' w w2:=
 ⟨hc.os.trans h.os,hc.tape.trans h.tape,hc.output.trans h.output,Nat.le_trans h.size hc.size,h.old,h.new,fun k c=>h.top k (Nat.le_trans hc.size c),fun k c f=>(hc.block k (Nat.lt_of_lt_of_le c h.size) (fun j=>by have:=hg k j;omega)).trans (h.block k c f)⟩
end
theorem qKS (log:Int)(a:Option Addr)(cap:Nat)(l:List Ac)(rs:List (Value×Value×Value))(w:World)(h:qFJ w (.slice a l.length cap) l rs)(hlog:2≤log∧log≤4)(hsh:qGI l)(CL:Calls prog 8 #[.slice a l.length cap] w fun e w'=>e= .returned (.bool false)∧w=w'):Calls prog 6 #[.int .i64 log,.slice a l.length cap] w fun e w'=>e= .returned (.bool true)∧qA4 w w':=by
 obtain⟨n,hn,g5⟩:=qQ9 hlog
 have CN:=qIn n g5 1#64 true w
 rw[←hn]at CN
 have g0:=Bo.new_good n 1#64 true g5
 have T0:=qTc n g5
 obtain⟨N,hN⟩:∃N,N=l.length:=⟨_,rfl⟩
 rw[←hN]at h CL ⊢
 have l1:¬log<2:=by omega
 have l2:¬4<log:=by omega
 have HN:=qh hN
 replace hn:=qh hn
 have l7:N≤200:=by rw[hN];exact hsh.1
 clear hN hlog
 go_enter func6,ntmps6
 go_wp2_with fail
 refine CL.mono ?_
 rintro e w1 ⟨rfl,rfl⟩
 go_wp2_with fail
 refine CN.mono ?_
 rintro e w1 ⟨P,X,b9,rfl,h1,e1⟩
 go_wp2_with fail
 refine(qJD h1).mono ?_
 rintro e w2 ⟨rfl,rfl⟩
 go_wp2_with fail
 refine(qSw w1).mono ?_
 rintro e w3 ⟨Y,rfl,f2,k3,g8⟩
 go_wp2_with fail
 have b7:qA4 w3 (w3.alloc (.cells #[.pointer (some ⟨Y,0,none⟩),U 0#64] 55)):=qal _
 have c5:Blk (w3.alloc (.cells #[.pointer (some ⟨Y,0,none⟩),U 0#64] 55)) w3.heap.size #[.pointer (some ⟨Y,0,none⟩),U 0#64] 55:=Blk.new w3 _ _
 have e6:=f2.lt
 obtain⟨w4,j7⟩:∃y,y=w3.alloc (.cells #[.pointer (some ⟨Y,0,none⟩),U 0#64] 55):=⟨_,rfl⟩
 rw[←j7]at b7 c5 ⊢
 clear j7
 obtain⟨T,hT⟩:∃T,T=w3.heap.size:=⟨_,rfl⟩
 rw[←hT]at c5 ⊢
 have k7:T≠Y:=by omega
 have k6:=e1.size
 have l4:=k3.size
 have l9:w.heap.size≤T:=by omega
 have l5:w.heap.size≤Y:=by omega
 have cT:b9 T=0:=h1.top T (by omega)
 have cY:b9 Y=0:=h1.top Y g8
 have h4:=h1.kept (k3.of b7)
 have e4:=e1.trans (Ext.kept (m:=12) h1.top (k3.of b7))
 have j0:=f2.kept b7
 clear hT k6 l4 b7 f2 h1 e1 k3 g8 e6
 go_loopw [8] (fun i wr=>∃(k:Nat) (o:Bo) (ck:Nat→Nat) (B L:Nat→List UInt8),i= .int .i64 k∧k≤N∧qAL ck wr P X o∧Ext 12 (fun _=>0) ck w wr∧o.good (17+110*k)∧Tk o B L∧Blk wr T #[.pointer (some ⟨Y,0,none⟩),U o.cur.c.value] 55∧Blk wr Y (qAC B L) 72∧ck T=0∧ck Y=0∧(∀i,i<32→(B i).length=32)∧∀i,i<32→(L i).length=32) (fun i _=>N - (intOf i).toNat)
 case atStart=>exact⟨0,_,b9,_,_,rfl,by omega,h4,e4,g0,T0,c5,j0,cT,cY,fun i hi=>by simp,fun i hi=>by simp⟩
 case round =>
  obtain⟨k,o,ck,B,L,rfl,hk,hb,eb,g,TT,b3,bY,f5,g6,a6,a8⟩:=hrel
  clear h4 e4 c5 j0 cT cY g0 T0 CL CN
  by_cases k4:k<N
  · have m1:(k:Int)<(N:Int):=by omega
    have m3:(0:Int)≤(k:Int):=by omega
    obtain⟨x,r,b,off,hx,hr,rfl,k8,hc,hR⟩:=h.at HN.out k (by rw[←HN.out];exact k4)
    have f6:=hsh.2 k x hx
    have f0:=hR.at f6 eb
    have l0:=hR.hn
    obtain⟨r1,r2,r3⟩:=r
    obtain⟨a1,c1,i6⟩:=hR.s1.len
    obtain⟨a2,c2,j9⟩:=hR.s2.len
    obtain⟨a3,c3,h7⟩:=hR.s3.len
    simp only at i6 j9 h7
    subst i6
    subst j9
    subst h7
    have i2:=eb.kept0
    have dd:∀(j:Nat) (u:Value),(qGH x (.slice a1 x.call.data.length c1,.slice a2 x.data.length c2,.slice a3 x.keep.length c3))[j]? = some u→wr.cell? ⟨b,off+k*8+j,none⟩=some u:=fun j u hj=>i2.at (hc j u hj)
    have d0:wr.cell? ⟨b,off+k*8,none⟩=some (.int .i64 x.kind):=dd 0 _ rfl
    have d1:wr.cell? ⟨b,off+k*8+1,none⟩=some (.int .i64 x.call.kind):=dd 1 _ rfl
    have d2:wr.cell? ⟨b,off+k*8+2,none⟩=some (.int .i64 x.call.lba):=dd 2 _ rfl
    have d3:wr.cell? ⟨b,off+k*8+3,none⟩=some (.slice a1 x.call.data.length c1):=dd 3 _ rfl
    have d4:wr.cell? ⟨b,off+k*8+4,none⟩=some (.int .i64 x.n):=dd 4 _ rfl
    have d5:wr.cell? ⟨b,off+k*8+5,none⟩=some (.int .i64 x.off):=dd 5 _ rfl
    have d6:wr.cell? ⟨b,off+k*8+6,none⟩=some (.slice a2 x.data.length c2):=dd 6 _ rfl
    have d7:wr.cell? ⟨b,off+k*8+7,none⟩=some (.slice a3 x.keep.length c3):=dd 7 _ rfl
    have tt:=hc
    have CF:=qQU x (.slice a1 x.call.data.length c1) (.slice a2 x.data.length c2) (.slice a3 x.keep.length c3) wr
    unfold qQT at CF
    cases hfo:x.foe with
    | true =>
     rw[hfo]at CF
     clear hc dd hx hR hr f0
     have gu:=g.up (k:=17+110*(k+1)) (by omega)
     replace TT:=qh TT
     replace a6:=qh a6
     replace a8:=qh a8
     go_wp2_with fail
     refine CF.mono ?_
     rintro e w2 ⟨rfl,kf⟩
     go_wp2_with fail
     exact⟨⟨k+1,o,ck,B,L,rfl,by omega,hb.kept kf,eb.trans (Ext.kept (m:=12) hb.top kf),gu,TT.out,b3.kept kf,bY.kept kf,f5,g6,a6.out,a8.out⟩,by simp[intOf];omega⟩
    | false =>
     rw[hfo]at CF
     have g1:x.kind≠4∧x.kind≠6:=by
      unfold Ac.foe at hfo
      simpa using hfo
     have CB:=fun z (hz:qA4 wr z)=>qOj (hb.kept hz) g (by omega) x a1 a2 a3 c1 c2 c3 (f0.ext (Ext.kept (m:=12) hb.top hz))
     have g2:=g.act (by omega) x l0
     obtain⟨e3,e4,a9,T2⟩:=qQ8 TT g (by omega) x g1.1 g1.2
     have h8:Sl w (.slice a1 x.call.data.length c1) x.call.data.length (qA1 x.call.data):=hR.s1
     have d8:x.call.data.length≤1000000:=by obtain⟨h1,h2,h3⟩:=f6;omega
     have e9:=qRA a6 x.call
     obtain⟨F,hF⟩:∃F,F=o.act x:=⟨_,rfl⟩
     rw[←hF]at g2 e3 e4 a9 T2
     simp only[←hF]at CB
     obtain⟨⟨E,D⟩,o2⟩:=F
     simp only at CB g2 e3 e4 a9 T2
     obtain⟨c7,d9⟩:=qRw (a:=x) (err:=E) (was:=o.cur.c.value) (v:=o2.cur.c.value) a6 a8 e9
     have g3:=g2.up (k:=17+110*(k+1)) (by omega)
     have l8:b<w.heap.size:=k8
     have i3:(E==3)=false:=by simpa using e3
     have i4:(E==4)=false:=by simpa using e4
     have e7:x.kind=1→E=0→x.call.is=true:=fun h1 h2=>(a9 h1 h2).1
     have g4:x.kind=1→E=0→x.call.kind=1→D=qCx B L x E o.cur.c.value o2.cur.c.value x.call.lba.toNat:=fun h1 h2 h3=>by
      rw[(a9 h1 h2).2 h3]
      subst h2
      rw[(qQq h1).1]
      have:=(a9 h1 rfl).1
      unfold mdo
      rw[if_neg (by rw[this];decide),if_pos h3]
     replace hx:=qh hx
     replace T2:=qh T2
     replace a6:=qh a6
     replace c7:=qh c7
     replace d9:=qh d9
     replace g4:=qh g4
     replace d8:=qh d8
     have t0:w.cell? ⟨b,off+k*8,none⟩=some (.int .i64 x.kind):=tt 0 _ rfl
     have t1:w.cell? ⟨b,off+k*8+1,none⟩=some (.int .i64 x.call.kind):=tt 1 _ rfl
     have t2:w.cell? ⟨b,off+k*8+2,none⟩=some (.int .i64 x.call.lba):=tt 2 _ rfl
     have t3:w.cell? ⟨b,off+k*8+3,none⟩=some (.slice a1 x.call.data.length c1):=tt 3 _ rfl
     have t4:w.cell? ⟨b,off+k*8+4,none⟩=some (.int .i64 x.n):=tt 4 _ rfl
     have t5:w.cell? ⟨b,off+k*8+5,none⟩=some (.int .i64 x.off):=tt 5 _ rfl
     have t6:w.cell? ⟨b,off+k*8+6,none⟩=some (.slice a2 x.data.length c2):=tt 6 _ rfl
     have t7:w.cell? ⟨b,off+k*8+7,none⟩=some (.slice a3 x.keep.length c3):=tt 7 _ rfl
     clear hF dd hc tt hR f6 f0 hr g2 TT e9 a8 g1 hfo e3 e4
     replace a9:=qh e7
     clear e7
     go_wp2_with fail
     refine CF.mono ?_
     rintro e w1 ⟨rfl,kf⟩
     have i8:=CB w1 kf
     clear CB CF
     replace d0:=kf.at d0
     replace d1:=kf.at d1
     replace d2:=kf.at d2
     replace d3:=kf.at d3
     replace d4:=kf.at d4
     replace d5:=kf.at d5
     replace d6:=kf.at d6
     replace d7:=kf.at d7
     replace b3:=b3.kept kf
     replace bY:=bY.kept kf
     have i0:=eb.trans (Ext.kept (m:=12) hb.top kf)
     have l6:=b3.lt
     have e6:=bY.lt
     clear eb hb i2
     go_wp2_with fail
     refine i8.mono ?_
     rintro e w2 ⟨v,c4,rfl,hv,h2,e2⟩
     obtain⟨va,vc,rfl⟩:=(Sl.of_own hv.1).len
     have f7:=i0.trans e2
     obtain⟨j4,b5⟩:=e2.blk0 b3 f5
     obtain⟨i9,b8⟩:=e2.blk0 bY g6
     have a5:qA4 w2 (w2.alloc (.cells #[.int .i64 E,.slice va D.length vc] 39)):=qal _
     have h3:=h2.kept a5
     have j3:=f7.trans (Ext.kept (m:=12) h2.top a5)
     have c0:=Blk.new w2 #[.int .i64 E,.slice va D.length vc] 39
     have f4:=qA5 hv.1 a5
     have m0:=e2.size
     have f8:=f7.kept0
     have g9:=j4.kept a5
     have j6:=i9.kept a5
     have c6:=And.intro b5 b8
     have f3:∀z∈ [T,Y],c4 z=0:=fun z hz=>by
      simp only[List.mem_cons,List.not_mem_nil,or_false]at hz
      rcases hz with rfl|rfl
      · exact b5
      · exact b8
     have c8:w2.heap.size∉ [T,Y]:=by simp;omega
     have V:b∉ [T,Y]:=by simp;omega
     have i5:∀z∈ [T,Y],w.heap.size≤z:=fun z hz=>by
      simp only[List.mem_cons,List.not_mem_nil,or_false]at hz
      omega
     have k2:Blk (w2.alloc (.cells #[.int .i64 E,.slice va D.length vc] 39)) P.W #[.int .i64 o2.cur.n,.pointer (some ⟨P.b,0,none⟩),.pointer (some ⟨P.s,0,none⟩),.pointer (some ⟨P.d,0,none⟩),.pointer (some ⟨P.c,0,none⟩),.pointer (some ⟨P.k,0,none⟩),.pointer (some ⟨P.l,0,none⟩)] 67∧P.W∉ [T,Y]:=by
      obtain⟨cv,sv,us,h9⟩:=h3
      refine⟨h9.wd.blk,fun hm=>?_⟩
      have:=f3 _ hm
      rw[h9.wd.cW]at this
      cases this
     obtain⟨h0,i7⟩:=k2
     have j2:=fun (z:World) (hz:qA4 (w2.alloc (.cells #[.int .i64 E,.slice va D.length vc] 39)) z)=>qJD (h3.kept hz)
     have g7:∀z,qA4 (w2.alloc (.cells #[.int .i64 E,.slice va D.length vc] 39)) z→Calls prog 20 #[.pointer (some ⟨P.c,0,none⟩)] z fun e w'=>e= .returned (U o2.cur.c.value)∧z=w':=fun z hz=>by
      obtain⟨cv,sv,us,h9⟩:=h3.kept hz
      exact qI8 h9.wd
     have h6:=h8.kept (f8.of a5)
     have b4:=Sl.of_own f4
     have j8:∀(q:Addr) (c:Nat),(Value.slice va D.length vc)= .slice (some q) D.length c→0<(qA1 D).length→q.block∉ [T,Y]:=fun q c he _=>by
      have h1:=qAN f4 (g:=q.block) (by rw[he];rfl)
      simp
      omega
     clear d0 d1 d2 d3 d4 d5 d6 d7
     have a4:=f8.of a5
     have d0:=a4.at t0
     have d1:=a4.at t1
     have d2:=a4.at t2
     have d3:=a4.at t3
     have d4:=a4.at t4
     have d5:=a4.at t5
     have d6:=a4.at t6
     have d7:=a4.at t7
     generalize l3:w2.alloc (.cells #[.int .i64 E,.slice va D.length vc] 39)=z0 at *
     clear hv f4 h2 e2 f7 i0 j4 i9 b5 b8 a5 f8 t0 t1 t2 t3 t4 t5 t6 t7 h8 b3 bY i8 a4
     go_wp2_with fail
     clear l3
     refine qAb [T,Y] [(0,0),(1,0),(2,0),(3,0),(4,0),(5,0),(6,0),(7,1),(8,0),(9,0),(10,0),(11,1),(12,1)] (by kernel_rfl) (by kernel_rfl) ?_
     intro z1 I
     have bW:=h0.kept I
     replace d0:=I.at d0
     replace d1:=I.at d1
     replace d2:=I.at d2
     replace d3:=I.at d3
     replace d4:=I.at d4
     replace d5:=I.at d5
     replace d6:=I.at d6
     replace d7:=I.at d7
     repeat
      refine qA0 _ rfl (fun K J=>?_)
      first
       | (refine qqP (by rfl) ?_;apply Exists.intro;refine⟨fun w' f=>?_,J _ ?_⟩;(have y0:=f.cell d0 V;have y1:=f.cell d1 V;have y2:=f.cell d2 V;have y3:=f.cell d3 V;have y4:=f.cell d4 V;have y5:=f.cell d5 V;have y6:=f.cell d6 V;have y7:=f.cell d7 V;have u0:=(f.blk (c0.kept I) c8).cell 0;have u1:=(f.blk (c0.kept I) c8).cell 1;go_simp;first|done|rfl))
       | refine qqN (by rfl) (J _ ?_)
      clear J K;simp only[Act.put,qqB]
     refine qqH _ rfl (by rfl) (fun K J=>?_)
     go_wp2_with fail
     refine(j2 z1 I).mono ?_
     rintro e z2 ⟨rfl,rfl⟩
     go_wp2
     refine J _ _ (Chg.refl _ _) ?_
     clear J K
     try simp only[Act.put,qqB]
     repeat
      refine qA0 _ rfl (fun K J=>?_)
      first
       | (refine qqP (by rfl) ?_;apply Exists.intro;refine⟨fun w' f=>?_,J _ ?_⟩;(have v4:=(f.blk bW i7).cell 4;go_simp;first|done|rfl))
       | refine qqN (by rfl) (J _ ?_)
      clear J K;simp only[Act.put,qqB]
     refine qqH _ rfl (by rfl) (fun K J=>?_)
     go_wp2_with fail
     refine(g7 z1 I).mono ?_
     rintro e z2 ⟨rfl,rfl⟩
     go_wp2
     refine J _ _ (Chg.refl _ _) ?_
     clear J K
     try simp only[Act.put,qqB]
     refine qqH _ rfl (by rfl) (fun K J=>?_)
     go_wp2_with fail
     refine(qOE (g9.kept I) (j6.kept I) k7 a6.out x E a9.out a1 c1 _ _ _ (h6.kept I) d8.out).mono ?_
     rintro e z4 ⟨rfl,a7,b6,a0⟩
     go_wp2
     refine J _ _ (a0) ?_
     clear J K
     try simp only[Act.put,qqB]
     refine qA6 ?_
     have Z:=a0.blk (c0.kept I) c8
     replace d0:=a0.cell d0 V
     replace d1:=a0.cell d1 V
     replace d2:=a0.cell d2 V
     replace d3:=a0.cell d3 V
     replace b4:=Chg.sl (b4.kept I) a0 j8
     have u0:=Z.cell 0
     have h5:=(h3.kept I).chgs a0 f3
     have e5:=(j3.trans (Ext.kept (m:=12) h3.top I)).newsets a0 i5
     have e8:=a7
     have e0:=b6
     clear a0 I c0 g9 j6 h3 j3 h0 i7 bW j2 g7 d4 d5 d6 d7 h6 f3 i5 j8 c8 V f5 g6
     go_wp2_with fail
     clear u0
     by_cases k1:x.kind=1
     case' neg =>
      have j1:(x.kind==1)=false:=by simpa using k1
      clear k1
     case' pos =>
      have j1:(x.kind==1)=true:=by simpa using k1
      have K1:=qh k1
      clear k1
      by_cases ck:x.call.kind=1
      case' neg =>
       have jc:(x.call.kind==1)=false:=by simpa using ck
       clear ck
      case' pos =>
       have jc:(x.call.kind==1)=true:=by simpa using ck
       have CK:=qh ck
       clear ck
       by_cases hE:E=0
       · have f9:=qh (a9.out K1.out hE)
         have f1:=g4.out K1.out hE CK.out
         have iE:(E==0)=true:=by simpa using hE
         clear hE
         obtain⟨p,c9,hp⟩:∃p:Nat,x.call.lba=(p:Int)∧p<32:=by
          have h1:=f9.out
          unfold Cl.is at h1
          rw[if_pos CK.out]at h1
          simp[isD]at h1
          exact⟨x.call.lba.toNat,by omega,by omega⟩
         rw[c9]at d2
         rw[c9,Int.toNat_natCast]at f1
         have j5:=qh f1.symm
         have k5:Hid (Cl.is ⟨x.call.kind,(p:Int),x.call.data⟩=true):=by
          have h1:=f9.out
          have h2:x.call=⟨x.call.kind,(p:Int),x.call.data⟩:=by rw[←c9]
          rw[h2]at h1
          exact qh h1
         have n0:(0:Int)≤(p:Int):=by omega
         have n1:(p:Int)<32:=by omega
         clear f1 f9 c9
         refine qA3 [(0,0),(1,0),(2,0),(3,0),(4,0),(5,0),(6,0),(7,0),(8,0),(9,0),(10,0),(11,0),(12,0),(13,0),(14,0),(15,0),(16,0),(17,0),(18,0),(19,0),(20,0),(21,0),(22,0),(23,0),(24,0),(25,0),(26,1),(27,0),(28,0),(29,0),(30,0),(31,0),(32,0),(33,0),(34,0),(35,0),(36,0),(37,0),(38,0),(39,0),(40,0),(41,0),(42,0),(43,0),(44,0),(45,0),(46,0),(47,0),(48,0)] (by kernel_rfl) (by kernel_rfl) ?_
         intro z5 G
         replace d0:=G.at d0
         replace d1:=G.at d1
         replace d2:=G.at d2
         replace d3:=G.at d3
         replace Z:=Z.kept G
         replace a7:=a7.kept G
         replace b6:=b6.kept G
         replace b4:=b4.kept G
         repeat
          refine qA0 _ rfl (fun K J=>?_)
          first
           | (refine qqP (by rfl) ?_;apply Exists.intro;refine⟨fun w' f=>?_,J _ ?_⟩;(have y0:=f.at d0;have y1:=f.at d1;have y2:=f.at d2;have y3:=f.at d3;have u0:=(Z.kept f).cell 0;have u1:=(Z.kept f).cell 1;have k0:=(a7.kept f).cell 0;have x0:=((b6.kept f).cell p).trans (qC7 hp);have s1:=qDu (v:=.slice va D.length vc) (bs:=D) (b4.kept f);rw[j5.out]at x0;go_simp;first|done|rfl))
           | refine qqN (by rfl) (J _ ?_)
          clear J K;simp only[Act.put,qqB]
         refine qqH _ rfl (by rfl) (fun K J=>?_)
         go_wp2_with fail
         refine(qGb ⟨x.call.kind,(p:Int),x.call.data⟩ a1 c1 d8.out z5).mono ?_
         rintro e z6 ⟨rfl,O⟩
         rw[k5.out]
         go_wp2
         refine J _ _ (O) ?_
         clear J K
         try simp only[Act.put,qqB]
         repeat
          refine qA0 _ rfl (fun K J=>?_)
          first
           | (refine qqP (by rfl) ?_;apply Exists.intro;refine⟨fun w' f=>?_,J _ ?_⟩;(have y0:=(O.of f).at d0;have y1:=(O.of f).at d1;have y2:=(O.of f).at d2;have y3:=(O.of f).at d3;have u0:=(Z.kept (O.of f)).cell 0;have u1:=(Z.kept (O.of f)).cell 1;have k0:=(a7.kept (O.of f)).cell 0;have x0:=((b6.kept (O.of f)).cell p).trans (qC7 hp);have s1:=qDu (v:=.slice va D.length vc) (bs:=D) (b4.kept (O.of f));rw[j5.out]at x0;go_simp;first|done|rfl))
           | refine qqN (by rfl) (J _ ?_)
          clear J K;simp only[Act.put,qqB]
         refine qA6 ?_
         go_wp2_with fail
         exact⟨⟨k+1,o2,c4,_,_,rfl,by omega,h5.kept (G.of O),e5.trans (Ext.kept (m:=12) h5.top (G.of O)),g3,T2.out,e8.kept (G.of O),e0.kept (G.of O),c6.1,c6.2,c7.out,d9.out⟩,by simp[intOf];omega⟩
       have iE:(E==0)=false:=by simpa using hE
       clear hE
     all_goals
      refine qA3 [(0,0),(1,0),(2,0),(3,0),(4,0),(5,0),(6,0),(7,0),(8,0),(9,0),(10,0),(11,0),(12,0),(13,0),(14,0),(15,0),(16,0),(17,0),(18,0),(19,0),(20,0),(21,0),(22,0),(23,0),(24,0),(25,0),(26,1),(27,0),(28,0),(29,0),(30,0),(31,0),(32,0),(33,0),(34,0),(35,0),(36,0),(37,0),(38,0),(39,0),(40,0),(41,0),(42,0),(43,0),(44,0),(45,0),(46,0),(47,0),(48,0)] (by kernel_rfl) (by kernel_rfl) ?_
      intro z5 G
      replace d0:=G.at d0
      replace d1:=G.at d1
      replace d2:=G.at d2
      replace d3:=G.at d3
      replace Z:=Z.kept G
      replace a7:=a7.kept G
      repeat
       refine qA0 _ rfl (fun K J=>?_)
       first
        | (refine qqP (by rfl) ?_;apply Exists.intro;refine⟨fun w' f=>?_,J _ ?_⟩;(have y0:=f.at d0;have y1:=f.at d1;have y2:=f.at d2;have y3:=f.at d3;have u0:=(Z.kept f).cell 0;have u1:=(Z.kept f).cell 1;have k0:=(a7.kept f).cell 0;go_simp;first|done|rfl))
        | refine qqN (by rfl) (J _ ?_)
       clear J K;simp only[Act.put,qqB]
      refine qBa _ rfl (fun K J=>?_)
      refine qqN (by rfl) ?_
      intro i1
      refine i1 _ _ ?_
      clear J i1 K
      simp only[Act.put,qqB]
      repeat
       refine qA0 _ rfl (fun K J=>?_)
       first
        | (refine qqP (by rfl) ?_;apply Exists.intro;refine⟨fun w' f=>?_,J _ ?_⟩;go_simp;first|done|rfl)
        | refine qqN (by rfl) (J _ ?_)
       clear J K;simp only[Act.put,qqB]
      refine qA6 ?_
      go_wp2_with fail
      exact⟨⟨k+1,o2,c4,_,_,rfl,by omega,h5.kept (G),e5.trans (Ext.kept (m:=12) h5.top (G)),g3,T2.out,e8.kept (G),e0.kept (G),c6.1,c6.2,c7.out,d9.out⟩,by simp[intOf];omega⟩
  · have m1:¬(k:Int)<(N:Int):=by omega
    go_wp2_with fail
    refine(qOt wr).mono ?_
    rintro e w9 ⟨rfl,k9⟩
    go_wp2_with fail
    refine bodyPost_ret (v:=.bool true) (by simp[results,results6,go_sem];done) rfl ⟨rfl,eb.kept0.of k9⟩
theorem qIs (log:Int)(v:Value)(l:List Ac)(rs:List (Value×Value×Value))(w:World)(h:qFJ w v l rs):Calls prog 6 #[.int .i64 log,v] w fun e w'=>e= .returned (.bool true)∧qA4 w w':=by
 obtain⟨a,cap,rfl⟩:∃a cap,v= .slice a l.length cap:=by
  obtain⟨a,cap,e,_⟩:=h.sl
  exact⟨a,cap,e⟩
 by_cases l1:log<2
 · go_enter func6,ntmps6
   go_wp2_with fail
   refine bodyPost_ret (v:=.bool true) (by simp[results,results6,go_sem];done) rfl ⟨rfl,Below.refl _ _⟩
 by_cases l2:4<log
 · go_enter func6,ntmps6
   go_wp2_with fail
   refine bodyPost_ret (v:=.bool true) (by simp[results,results6,go_sem];done) rfl ⟨rfl,Below.refl _ _⟩
 by_cases c:qGI l
 · exact qKS log a cap l rs w h (by omega) c (qRs h c)
 · have f:=qQ3 h c
   go_enter func6,ntmps6
   go_wp2_with fail
   refine f.mono ?_
   rintro e w1 ⟨rfl,rfl⟩
   go_wp2_with fail
   refine bodyPost_ret (v:=.bool true) (by simp[results,results6,go_sem];done) rfl ⟨rfl,Below.refl _ _⟩
end Go.Proofs.YtdlgihbpiakebaaGreat
