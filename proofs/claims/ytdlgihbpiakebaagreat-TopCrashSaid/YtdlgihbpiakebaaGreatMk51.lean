import Derived.Test.YtdlgihbpiakebaaGreatMk50
import Derived.Laws.IdiomStrings
set_option maxRecDepth 100000
set_option maxHeartbeats 4000000
namespace Go.Proofs.YtdlgihbpiakebaaGreat
open Go Go.RowKit Tryz
theorem qOv (w:World)(Y:List UInt8)(hl:Y.length≤1000000):∃c w',(convert 9 32 (Str Y)).run prog w= .ok (.slice (some ⟨w.heap.size,0,none⟩) Y.length c) w'∧Sl w' (.slice (some ⟨w.heap.size,0,none⟩) Y.length c) Y.length (qA1 Y)∧qA4 w w':=by
 have h:=run_bytes_of_string (P:=prog) w 9 32 5 ⟨Y.toArray⟩ underlying9 underlying32 underlying5
 have q:(⟨Y.toArray⟩:ByteArray).size=Y.length:=rfl
 rw[q]at h
 refine⟨_,_,h,?_,?_⟩
 · refine Sl.mk (grownCap_ge w Y.length 0 _) (grownCap_le_maxLen w _ 0 _ (by unfold maxLen;omega)) fun j u l=>?_
   have f:=(List.getElem?_eq_some_iff.1 l).1
   rw[qA7]at f
   rw[qBT Y j f]at l
   have:(bytesRow ⟨Y.toArray⟩ (grownCap w Y.length 0 5))[0+j]? = some u:=by
    rw[←l]
    simp[bytesRow,Array.getElem?_append,f,V8]
   generalize bytesRow ⟨Y.toArray⟩ (grownCap w Y.length 0 5)=C at *
   have F:(w.drew.alloc (.cells C 5 (C.size,C.size+1))).heap[w.heap.size]? = some (.cells C 5 (C.size,C.size+1)):=by
    show(w.heap.push _)[w.heap.size]? = _
    simp
   unfold World.cell?
   rw[F]
   exact this
 · exact Below.alloc (qA4.drawn w:qA4 w w.drew) qle _
theorem Chg.new {X n:Nat}{w z:World}(h:Chg [X,n] w z)(hn:w.heap.size≤n):Chg [X] w z:=
 ⟨h.os,h.tape,h.output,h.size,fun k j c=>h.block k j (fun f=>by
  rcases List.mem_cons.1 f with e|e
  · exact c (List.mem_singleton.2 e)
  · rw[List.mem_singleton]at e;omega)⟩
theorem qME {w:World}{X:Nat}{B L:Nat→List UInt8}(h:Blk w X (qAC B L) 72)(lb:Int)(hd:isD lb=true)(h32:(B lb.toNat).length=32)(dt:List UInt8)(a:Option Addr)(cap:Nat)(hs:Sl w (.slice a dt.length cap) dt.length (qA1 dt))(hl:dt.length≤1000000):Calls prog 14 #[.pointer (some ⟨X,0,none⟩),.agg #[.int .i64 1,.int .i64 lb,.slice a dt.length cap]] w fun e w'=>∃v,e= .returned (.agg #[.int .i64 0,v])∧Blk w' X (qAC B L) 72∧Sl w' v (B lb.toNat).length (qA1 (B lb.toNat))∧Chg [X] w w':=by
 obtain⟨o,rfl,ho⟩:∃o:Nat,lb=(o:Int)∧o<32:=⟨lb.toNat,by have h1:=hd;simp[isD]at h1;omega,by have h1:=hd;simp[isD]at h1;omega⟩
 have n0:(0:Int)≤(o:Int):=by omega
 have n1:(o:Int)<32:=by omega
 have a2:Cl.is ⟨1,(o:Int),dt⟩=true:=by unfold Cl.is;rw[if_pos rfl];exact hd
 rw[Int.toNat_natCast]at h32 ⊢
 have CI:=fun z=>qGb ⟨1,(o:Int),dt⟩ a cap hl z
 rw[a2]at CI
 have a7:dt.length≤1000000:=hl
 have G:qA4 w ((w.alloc (.cells #[.int .i64 1,.int .i64 (o:Int),.slice a dt.length cap] 34)).alloc (.cells #[.int .i64 0,.slice none 0 0] 44)):=(qal _).alloc (by simp) _
 have l:=(Blk.new w #[.int .i64 1,.int .i64 (o:Int),.slice a dt.length cap] 34).kept (w':=((w.alloc (.cells #[.int .i64 1,.int .i64 (o:Int),.slice a dt.length cap] 34)).alloc (.cells #[.int .i64 0,.slice none 0 0] 44))) (qal _)
 have f:Blk ((w.alloc (.cells #[.int .i64 1,.int .i64 (o:Int),.slice a dt.length cap] 34)).alloc (.cells #[.int .i64 0,.slice none 0 0] 44)) (w.heap.size+1) #[.int .i64 0,.slice none 0 0] 44:=by simpa using Blk.new (w.alloc (.cells #[.int .i64 1,.int .i64 (o:Int),.slice a dt.length cap] 34)) #[.int .i64 0,.slice none 0 0] 44
 have V:=h.kept G
 have a6:=h.lt
 have F:=hs.kept G
 have q0:=l.cell 0
 have q1:=l.cell 1
 have q2:=l.cell 2
 go_enter func14,ntmps14
 go_wp2_with fail
 refine(CI _).mono ?_
 rintro e w1 ⟨rfl,Y⟩
 clear CI
 replace V:=V.kept Y
 replace l:=l.kept Y
 replace f:=f.kept Y
 replace F:=F.kept Y
 have O:=G.of Y
 clear G
 have q0:=l.cell 0
 have q1:=l.cell 1
 have q2:=l.cell 2
 have x0:=f.cell 0
 have x1:=f.cell 1
 have f0:=f.free 0
 have f1:=f.free 1
 go_wp2_with fail
 refine qA3 [(0,0),(1,0),(2,0),(3,0),(4,0),(5,0),(6,0),(7,1),(8,0),(9,2)] (by kernel_rfl) (by kernel_rfl) ?_
 intro N j
 replace V:=V.kept j
 replace l:=l.kept j
 replace f:=f.kept j
 replace F:=F.kept j
 replace O:=O.of j
 clear q0 q1 q2 x0 x1 f0 f1
 repeat
  refine qA0 _ rfl (fun K q=>?_)
  first
   | (refine qqP (by rfl) ?_;apply Exists.intro;refine⟨fun w' I=>?_,q _ ?_⟩;(have y1:=(l.kept I).cell 1;have y2:=(l.kept I).cell 2;have yo:=((V.kept I).cell o).trans (qC7 ho);go_simp;first|done|rfl))
   | refine qqN (by rfl) (q _ ?_)
  clear q K;simp only[Act.put,qqB]
 refine qqH _ rfl (by rfl) (fun K q=>?_)
 obtain⟨cc,z7,a5,a3,J⟩:=qOv N (B o) (by rw[h32];decide)
 have a4:=qh h32
 clear h32
 go_wp2
 refine q _ _ (J) ?_
 clear q K
 try simp only[Act.put,qqB]
 repeat
  refine qA0 _ rfl (fun K q=>?_)
  first
   | (refine qqP (by rfl) ?_;apply Exists.intro;refine⟨fun w' I=>?_,q _ ?_⟩;go_simp;first|done|rfl)
   | refine qqN (by rfl) (q _ ?_)
  clear q K;simp only[Act.put,qqB]
 refine qAg _ rfl (fun K q=>?_)
 refine qqP (by rfl) ?_
 have x0:=(f.kept J).cell 0
 have x1:=(f.kept J).cell 1
 have f0:=(f.kept J).free 0
 have f1:=(f.kept J).free 1
 go_wp2
 refine qA6 ?_
 go_wp2_with fail
 have a1:=V.kept J
 have bR:=((f.kept J).set 0 (.int .i64 0)).set 1 (.slice (some ⟨N.heap.size,0,none⟩) (B o).length cc)
 have a0:Chg [X,w.heap.size+1] w ((z7.setCell ⟨w.heap.size+1,0,none⟩ (.int .i64 0)).setCell ⟨w.heap.size+1,1,none⟩ (.slice (some ⟨N.heap.size,0,none⟩) (B o).length cc)):=((Chg.mono (bs:=[X]) (cs:=[X,w.heap.size+1]) (Chg.of_kept (O.of J)) (by simp)).set (b:=w.heap.size+1) (by simp) 0 _).set (b:=w.heap.size+1) (by simp) 1 _
 have Z:Chg [w.heap.size+1] z7 ((z7.setCell ⟨w.heap.size+1,0,none⟩ (.int .i64 0)).setCell ⟨w.heap.size+1,1,none⟩ (.slice (some ⟨N.heap.size,0,none⟩) (B o).length cc)):=((Chg.refl _ _).set qsm 0 _).set qsm 1 _
 have r0:=bR.cell 0
 have r1:=bR.cell 1
 clear f0 f1 x0 x1
 generalize ((z7.setCell ⟨w.heap.size+1,0,none⟩ (.int .i64 0)).setCell ⟨w.heap.size+1,1,none⟩ (.slice (some ⟨N.heap.size,0,none⟩) (B o).length cc))=wE at *
 refine bodyPost_ret (v:=.agg #[.int .i64 0,.slice (some ⟨N.heap.size,0,none⟩) (B o).length cc]) (by simp[results,results14,go_sem,r0,r1];try exact⟨rfl,rfl⟩) rfl ⟨_,rfl,Z.blk a1 (by rw[List.mem_singleton];omega),Z.sl a3 (fun a c e _=>by simp at e;have h1:=j.size;have h2:=f.lt;rw[←e.1,List.mem_singleton];show ¬N.heap.size=_;omega),a0.new (by omega)⟩
theorem qKO {w:World}{X:Nat}{B L:Nat→List UInt8}(h:Blk w X (qAC B L) 72)(lb:Int)(hd:isD lb=true)(dt:List UInt8)(hdt:dt.length=32)(a:Option Addr)(cap:Nat)(hs:Sl w (.slice a dt.length cap) dt.length (qA1 dt))(hl:dt.length≤1000000):Calls prog 14 #[.pointer (some ⟨X,0,none⟩),.agg #[.int .i64 2,.int .i64 lb,.slice a dt.length cap]] w fun e w'=>∃v,e= .returned (.agg #[.int .i64 0,v])∧Blk w' X (qAC (upd B lb.toNat dt) L) 72∧Sl w' v 0 []∧Chg [X] w w':=by
 obtain⟨o,rfl,Z⟩:∃o:Nat,lb=(o:Int)∧o<32:=⟨lb.toNat,by have h1:=hd;simp[isD]at h1;omega,by have h1:=hd;simp[isD]at h1;omega⟩
 have n0:(0:Int)≤(o:Int):=by omega
 have n1:(o:Int)<32:=by omega
 have a3:Cl.is ⟨2,(o:Int),dt⟩=true:=by unfold Cl.is;rw[if_neg (show ¬(2:Int)=1 by decide),if_neg (show ¬(2:Int)=4 by decide),if_pos rfl];simp[hd,hdt]
 rw[Int.toNat_natCast]
 clear hdt
 have CI:=fun z=>qGb ⟨2,(o:Int),dt⟩ a cap hl z
 rw[a3]at CI
 have a5:dt.length≤1000000:=hl
 have G:qA4 w ((w.alloc (.cells #[.int .i64 2,.int .i64 (o:Int),.slice a dt.length cap] 34)).alloc (.cells #[.int .i64 0,.slice none 0 0] 44)):=(qal _).alloc (by simp) _
 have f:=(Blk.new w #[.int .i64 2,.int .i64 (o:Int),.slice a dt.length cap] 34).kept (w':=((w.alloc (.cells #[.int .i64 2,.int .i64 (o:Int),.slice a dt.length cap] 34)).alloc (.cells #[.int .i64 0,.slice none 0 0] 44))) (qal _)
 have J:Blk ((w.alloc (.cells #[.int .i64 2,.int .i64 (o:Int),.slice a dt.length cap] 34)).alloc (.cells #[.int .i64 0,.slice none 0 0] 44)) (w.heap.size+1) #[.int .i64 0,.slice none 0 0] 44:=by simpa using Blk.new (w.alloc (.cells #[.int .i64 2,.int .i64 (o:Int),.slice a dt.length cap] 34)) #[.int .i64 0,.slice none 0 0] 44
 have I:=h.kept G
 have a4:=h.lt
 have F:=hs.kept G
 have q0:=f.cell 0
 have q1:=f.cell 1
 have q2:=f.cell 2
 go_enter func14,ntmps14
 go_wp2_with fail
 refine(CI _).mono ?_
 rintro e w1 ⟨rfl,V⟩
 clear CI
 replace I:=I.kept V
 replace f:=f.kept V
 replace J:=J.kept V
 replace F:=F.kept V
 have N:=G.of V
 clear G
 have q0:=f.cell 0
 have q1:=f.cell 1
 have q2:=f.cell 2
 have x0:=J.cell 0
 have x1:=J.cell 1
 have f0:=J.free 0
 have f1:=J.free 1
 go_wp2_with fail
 refine qA3 [(0,0),(1,0),(2,0),(3,0),(4,0),(5,0),(6,1),(7,1),(8,0),(9,2)] (by kernel_rfl) (by kernel_rfl) ?_
 intro z1 q
 replace I:=I.kept q
 replace f:=f.kept q
 replace J:=J.kept q
 replace F:=F.kept q
 replace N:=N.of q
 clear q0 q1 q2 x0 x1 f0 f1
 repeat
  refine qA0 _ rfl (fun K j=>?_)
  first
   | (refine qqP (by rfl) ?_;apply Exists.intro;refine⟨fun w' c=>?_,j _ ?_⟩;(have s1:=qDu (v:=.slice a dt.length cap) (bs:=dt) (F.kept c);have y1:=(f.kept c).cell 1;have y2:=(f.kept c).cell 2;have yo:=((I.kept c).cell o).trans (qC7 Z);go_simp;first|done|rfl))
   | refine qqN (by rfl) (j _ ?_)
  clear j K;simp only[Act.put,qqB]
 refine qqH _ rfl (by rfl) (fun K j=>?_)
 go_wp2
 refine j _ _ (Below.refl _ _) ?_
 clear j K
 try simp only[Act.put,qqB]
 refine qqH _ rfl (by rfl) (fun K j=>?_)
 go_wp2
 refine j _ _ (Below.refl _ _) ?_
 clear j K
 try simp only[Act.put,qqB]
 repeat
  refine qA0 _ rfl (fun K j=>?_)
  first
   | (refine qqP (by rfl) ?_;apply Exists.intro;refine⟨fun w' c=>?_,j _ ?_⟩;(have y1:=(f.kept c).cell 1;have y2:=(f.kept c).cell 2;have yo:=((I.kept c).cell o).trans (qC7 Z);go_simp;first|done|rfl))
   | refine qqN (by rfl) (j _ ?_)
  clear j K;simp only[Act.put,qqB]
 refine qAg _ rfl (fun K j=>?_)
 refine qqP (by rfl) ?_
 have fo:=I.free o
 have xo:=(I.cell o).trans (qC7 Z)
 have a1:=qGF _ X o dt xo fo
 go_wp2
 rw[a1]
 go_wp2
 refine qA6 ?_
 have O:=I.set o (Str dt)
 rw[qFs _ _ _ _ Z]at O
 have Y:Chg [X] z1 (z1.setCell ⟨X,o,none⟩ (Str dt)):=Chg.step qsm _
 have l:=Y.blk J (by rw[List.mem_singleton];omega)
 have x0:=l.cell 0
 have x1:=l.cell 1
 have f0:=l.free 0
 have f1:=l.free 1
 generalize (z1.setCell ⟨X,o,none⟩ (Str dt))=wX at *
 go_wp2_with fail
 have bR:=((l).set 0 (.int .i64 0)).set 1 (.slice none 0 0)
 have a0:Chg [X,w.heap.size+1] w ((wX.setCell ⟨w.heap.size+1,0,none⟩ (.int .i64 0)).setCell ⟨w.heap.size+1,1,none⟩ (.slice none 0 0)):=((Chg.mono (bs:=[X]) (cs:=[X,w.heap.size+1]) ((Chg.of_kept N).trans Y) (by simp)).set (b:=w.heap.size+1) (by simp) 0 _).set (b:=w.heap.size+1) (by simp) 1 _
 have a2:Chg [w.heap.size+1] wX ((wX.setCell ⟨w.heap.size+1,0,none⟩ (.int .i64 0)).setCell ⟨w.heap.size+1,1,none⟩ (.slice none 0 0)):=((Chg.refl _ _).set qsm 0 _).set qsm 1 _
 have r0:=bR.cell 0
 have r1:=bR.cell 1
 clear f0 f1 x0 x1
 generalize ((wX.setCell ⟨w.heap.size+1,0,none⟩ (.int .i64 0)).setCell ⟨w.heap.size+1,1,none⟩ (.slice none 0 0))=wE at *
 refine bodyPost_ret (v:=.agg #[.int .i64 0,.slice none 0 0]) (by simp[results,results14,go_sem,r0,r1];try exact⟨rfl,rfl⟩) rfl ⟨_,rfl,a2.blk O (by rw[List.mem_singleton];omega),Sl.nil _,a0.new (by omega)⟩
theorem qIq {w:World}{X:Nat}{B L:Nat→List UInt8}(h:Blk w X (qAC B L) 72)(lb:Int)(hd:isD lb=true)(dt:List UInt8)(a:Option Addr)(cap:Nat)(hs:Sl w (.slice a dt.length cap) dt.length (qA1 dt))(hl:dt.length≤1000000):Calls prog 14 #[.pointer (some ⟨X,0,none⟩),.agg #[.int .i64 4,.int .i64 lb,.slice a dt.length cap]] w fun e w'=>∃v,e= .returned (.agg #[.int .i64 0,v])∧Blk w' X (qAC (upd B lb.toNat (List.replicate 32 0)) L) 72∧Sl w' v 0 []∧Chg [X] w w':=by
 obtain⟨Z,hZ⟩:∃Z,Z=List.replicate 32 (0:UInt8):=⟨_,rfl⟩
 have b5:∀w:World,(Instr.makeSlice 32 (.int .i64 32) (.int .i64 32)).run prog w= .ok (.slice (some ⟨w.heap.size,0,none⟩) 32 32) (w.alloc (.cells (qA1 Z).toArray 5)):=fun w=>by rw[hZ];exact qEo w
 have a3:Z.length=32:=by rw[hZ];simp
 rw[←hZ]
 have a5:=qh a3
 have HZ:=qh hZ
 clear hZ a3
 obtain⟨o,rfl,ho⟩:∃o:Nat,lb=(o:Int)∧o<32:=⟨lb.toNat,by have h1:=hd;simp[isD]at h1;omega,by have h1:=hd;simp[isD]at h1;omega⟩
 have n0:(0:Int)≤(o:Int):=by omega
 have n1:(o:Int)<32:=by omega
 have a9:Cl.is ⟨4,(o:Int),dt⟩=true:=by unfold Cl.is;rw[if_neg (show ¬(4:Int)=1 by decide),if_pos rfl];exact hd
 rw[Int.toNat_natCast]
 have CI:=fun z=>qGb ⟨4,(o:Int),dt⟩ a cap hl z
 rw[a9]at CI
 have b6:dt.length≤1000000:=hl
 have J:qA4 w ((w.alloc (.cells #[.int .i64 4,.int .i64 (o:Int),.slice a dt.length cap] 34)).alloc (.cells #[.int .i64 0,.slice none 0 0] 44)):=(qal _).alloc (by simp) _
 have f:=(Blk.new w #[.int .i64 4,.int .i64 (o:Int),.slice a dt.length cap] 34).kept (w':=((w.alloc (.cells #[.int .i64 4,.int .i64 (o:Int),.slice a dt.length cap] 34)).alloc (.cells #[.int .i64 0,.slice none 0 0] 44))) (qal _)
 have N:Blk ((w.alloc (.cells #[.int .i64 4,.int .i64 (o:Int),.slice a dt.length cap] 34)).alloc (.cells #[.int .i64 0,.slice none 0 0] 44)) (w.heap.size+1) #[.int .i64 0,.slice none 0 0] 44:=by simpa using Blk.new (w.alloc (.cells #[.int .i64 4,.int .i64 (o:Int),.slice a dt.length cap] 34)) #[.int .i64 0,.slice none 0 0] 44
 have hX:=h.kept J
 have b4:=h.lt
 have I:=hs.kept J
 have q0:=f.cell 0
 have q1:=f.cell 1
 have q2:=f.cell 2
 go_enter func14,ntmps14
 go_wp2_with fail
 refine(CI _).mono ?_
 rintro e w1 ⟨rfl,k1⟩
 clear CI
 replace hX:=hX.kept k1
 replace f:=f.kept k1
 replace N:=N.kept k1
 replace I:=I.kept k1
 have Y:=J.of k1
 clear J
 have q0:=f.cell 0
 have q1:=f.cell 1
 have q2:=f.cell 2
 have x0:=N.cell 0
 have x1:=N.cell 1
 have f0:=N.free 0
 have f1:=N.free 1
 go_wp2_with fail
 refine qAb [X] [(0,0),(1,0),(2,0),(5,0),(6,0),(3,1),(4,0),(7,0),(8,1)] (by kernel_rfl) (by kernel_rfl) ?_
 intro F q
 replace hX:=hX.kept q
 replace f:=f.kept q
 replace N:=N.kept q
 replace I:=I.kept q
 replace Y:=Y.of q
 clear q0 q1 q2 x0 x1 f0 f1
 have O:w.heap.size∉ [X]:=by rw[List.mem_singleton];omega
 have b3:¬F.heap.size=X:=by have:=hX.lt;omega
 repeat
  refine qA0 _ rfl (fun K j=>?_)
  first
   | (refine qqP (by rfl) ?_;apply Exists.intro;refine⟨fun w' G=>?_,j _ ?_⟩;(have y1:=(G.blk f O).cell 1;have y2:=(G.blk f O).cell 2;go_simp;first|done|rfl))
   | refine qqN (by rfl) (j _ ?_)
  clear j K;simp only[Act.put,qqB]
 refine qqH _ rfl (by rfl) (fun K j=>?_)
 have a2:(F.alloc (.cells (qA1 Z).toArray 5)).ownsRow F.heap.size 5 1 (.slice (some ⟨F.heap.size,0,none⟩) 32 32) 32 (qA1 Z):=by rw[HZ.out];exact qFp F
 have kz:qA4 F (F.alloc (.cells (qA1 Z).toArray 5)):=qal _
 go_wp2
 refine j _ _ (Chg.of_kept kz) ?_
 clear j K
 try simp only[Act.put,qqB]
 repeat
  refine qA0 _ rfl (fun K j=>?_)
  first
   | (refine qqP (by rfl) ?_;apply Exists.intro;refine⟨fun w' G=>?_,j _ ?_⟩;(have s1:=qDu (v:=.slice (some ⟨F.heap.size,0,none⟩) 32 32) (bs:=Z) (by rw[a5.out];exact G.sl (Sl.of_own a2) (fun a c e _=>by simp at e;rw[←e.1,List.mem_singleton];exact b3));have y1:=(G.blk (f.kept kz) O).cell 1;go_simp;first|done|rfl))
   | refine qqN (by rfl) (j _ ?_)
  clear j K;simp only[Act.put,qqB]
 refine qqH _ rfl (by rfl) (fun K j=>?_)
 have V:=hX.kept kz
 have fo:=V.free o
 have xo:=(V.cell o).trans (qC7 ho)
 have a7:=qGF _ X o Z xo fo
 go_wp2
 rw[a7]
 go_wp2
 refine j _ _ (Chg.step qsm _) ?_
 clear j K
 try simp only[Act.put,qqB]
 refine qA6 ?_
 have a6:=N.kept kz
 have a0:=V.set o (Str Z)
 rw[qFs _ _ _ _ ho]at a0
 have a1:Chg [X] (F.alloc (.cells (qA1 Z).toArray 5)) ((F.alloc (.cells (qA1 Z).toArray 5)).setCell ⟨X,o,none⟩ (Str Z)):=Chg.step qsm _
 have l:=a1.blk a6 (by rw[List.mem_singleton];omega)
 have x0:=l.cell 0
 have x1:=l.cell 1
 have f0:=l.free 0
 have f1:=l.free 1
 generalize ((F.alloc (.cells (qA1 Z).toArray 5)).setCell ⟨X,o,none⟩ (Str Z))=wX at *
 go_wp2_with fail
 have bR:=((l).set 0 (.int .i64 0)).set 1 (.slice none 0 0)
 have a4:Chg [X,w.heap.size+1] w ((wX.setCell ⟨w.heap.size+1,0,none⟩ (.int .i64 0)).setCell ⟨w.heap.size+1,1,none⟩ (.slice none 0 0)):=((Chg.mono (bs:=[X]) (cs:=[X,w.heap.size+1]) ((Chg.of_kept (Y.of kz)).trans a1) (by simp)).set (b:=w.heap.size+1) (by simp) 0 _).set (b:=w.heap.size+1) (by simp) 1 _
 have a8:Chg [w.heap.size+1] wX ((wX.setCell ⟨w.heap.size+1,0,none⟩ (.int .i64 0)).setCell ⟨w.heap.size+1,1,none⟩ (.slice none 0 0)):=((Chg.refl _ _).set qsm 0 _).set qsm 1 _
 have r0:=bR.cell 0
 have r1:=bR.cell 1
 clear f0 f1 x0 x1
 generalize ((wX.setCell ⟨w.heap.size+1,0,none⟩ (.int .i64 0)).setCell ⟨w.heap.size+1,1,none⟩ (.slice none 0 0))=wE at *
 refine bodyPost_ret (v:=.agg #[.int .i64 0,.slice none 0 0]) (by simp[results,results14,go_sem,r0,r1];try exact⟨rfl,rfl⟩) rfl ⟨_,rfl,a8.blk a0 (by rw[List.mem_singleton];omega),Sl.nil _,a4.new (by omega)⟩
theorem qJv {w:World}{X:Nat}{a b c:Value}{t:TypeId}(h:Blk w X #[a,b,c] t):(loadCells ⟨X,0,none⟩ 3).run prog w= .ok #[a,b,c] w:=by
 have:=run_loadCells_list (P:=prog) w ⟨X,0,none⟩ [a,b,c] (fun j v l=>by
  have f:(⟨X,0,none⟩:Addr).add j=⟨X,0+j,none⟩:=by unfold Addr.add;split<;>simp_all
  rw[f,Nat.zero_add,h.cell j]
  simpa using l)
 exact this
theorem qMF {w:World}{X:Nat}{a b c d:Value}{t:TypeId}(h:Blk w X #[a,b] t)(hc:c.oneCell'=true)(hd:d.oneCell'=true):(storeCells ⟨X,0,none⟩ [c,d]).run prog w= .ok () ((w.setCell ⟨X,0,none⟩ c).setCell ⟨X,1,none⟩ d):=by
 have:=run_storeCells_cells (P:=prog) X 0 [c,d] 0 w (fun j l=>by
  have:j=0∨j=1:=by simp at l;omega
  rcases this with rfl|rfl
  · rw[h.cell];rfl
  · rw[h.cell];rfl) (fun j _=>h.free _) (fun v f=>by
  simp at f
  rcases f with rfl|rfl
  · exact hc
  · exact hd)
 exact this
section
attribute [-go_sem] storeCells loadCells
theorem qMG {w:World}{X:Nat}{B L:Nat→List UInt8}(h:Blk w X (qAC B L) 72)(k lb:Int)(hk:k=3∨k=5)(dt:List UInt8)(a:Option Addr)(cap:Nat)(hs:Sl w (.slice a dt.length cap) dt.length (qA1 dt))(hl:dt.length≤1000000):Calls prog 14 #[.pointer (some ⟨X,0,none⟩),.agg #[.int .i64 k,.int .i64 lb,.slice a dt.length cap]] w fun e w'=>∃v,e= .returned (.agg #[.int .i64 0,v])∧Blk w' X (qAC B B) 72∧Sl w' v 0 []∧Chg [X] w w':=by
 have i1:(k==1)=false:=by rcases hk with rfl|rfl<;>rfl
 have i2:(k==2)=false:=by rcases hk with rfl|rfl<;>rfl
 have i4:(k==4)=false:=by rcases hk with rfl|rfl<;>rfl
 have a0:Cl.is ⟨k,lb,dt⟩=true:=by rcases hk with rfl|rfl<;>rfl
 clear hk
 have CI:=fun z=>qGb ⟨k,lb,dt⟩ a cap hl z
 rw[a0]at CI
 have a6:dt.length≤1000000:=hl
 have j:qA4 w ((w.alloc (.cells #[.int .i64 k,.int .i64 lb,.slice a dt.length cap] 34)).alloc (.cells #[.int .i64 0,.slice none 0 0] 44)):=(qal _).alloc (by simp) _
 have f:=(Blk.new w #[.int .i64 k,.int .i64 lb,.slice a dt.length cap] 34).kept (w':=((w.alloc (.cells #[.int .i64 k,.int .i64 lb,.slice a dt.length cap] 34)).alloc (.cells #[.int .i64 0,.slice none 0 0] 44))) (qal _)
 have l:Blk ((w.alloc (.cells #[.int .i64 k,.int .i64 lb,.slice a dt.length cap] 34)).alloc (.cells #[.int .i64 0,.slice none 0 0] 44)) (w.heap.size+1) #[.int .i64 0,.slice none 0 0] 44:=by simpa using Blk.new (w.alloc (.cells #[.int .i64 k,.int .i64 lb,.slice a dt.length cap] 34)) #[.int .i64 0,.slice none 0 0] 44
 have hX:=h.kept j
 have a4:=h.lt
 have F:=hs.kept j
 have q0:=f.cell 0
 have q1:=f.cell 1
 have q2:=f.cell 2
 have J:=qJv f
 go_enter func14,ntmps14
 go_wp2_with fail
 refine(CI _).mono ?_
 rintro e w1 ⟨rfl,G⟩
 clear CI J
 replace hX:=hX.kept G
 replace f:=f.kept G
 replace l:=l.kept G
 replace F:=F.kept G
 have J:=qJv f
 obtain⟨A,N,a1,a3,a2,V,I⟩:=qQp hX
 have q:=I.blk l (by rw[List.mem_singleton];omega)
 have a5:=qMF q (c:=.int .i64 0) (d:=.slice none 0 0) rfl rfl
 have Z:=j.of G
 clear j
 have q0:=f.cell 0
 have q1:=f.cell 1
 have q2:=f.cell 2
 have x0:=l.cell 0
 have x1:=l.cell 1
 have f0:=l.free 0
 have f1:=l.free 1
 go_wp2_with fail
 have bR:=((q).set 0 (.int .i64 0)).set 1 (.slice none 0 0)
 have O:Chg [X,w.heap.size+1] w ((N.setCell ⟨w.heap.size+1,0,none⟩ (.int .i64 0)).setCell ⟨w.heap.size+1,1,none⟩ (.slice none 0 0)):=((Chg.mono (bs:=[X]) (cs:=[X,w.heap.size+1]) ((Chg.of_kept Z).trans I) (by simp)).set (b:=w.heap.size+1) (by simp) 0 _).set (b:=w.heap.size+1) (by simp) 1 _
 have Y:Chg [w.heap.size+1] N ((N.setCell ⟨w.heap.size+1,0,none⟩ (.int .i64 0)).setCell ⟨w.heap.size+1,1,none⟩ (.slice none 0 0)):=((Chg.refl _ _).set qsm 0 _).set qsm 1 _
 have r0:=bR.cell 0
 have r1:=bR.cell 1
 clear f0 f1 x0 x1
 generalize ((N.setCell ⟨w.heap.size+1,0,none⟩ (.int .i64 0)).setCell ⟨w.heap.size+1,1,none⟩ (.slice none 0 0))=wE at *
 refine bodyPost_ret (v:=.agg #[.int .i64 0,.slice none 0 0]) (by simp[results,results14,go_sem,loadCells,r0,r1];try exact⟨rfl,rfl⟩) rfl ⟨_,rfl,Y.blk V (by rw[List.mem_singleton];omega),Sl.nil _,O.new (by omega)⟩
end
end Go.Proofs.YtdlgihbpiakebaaGreat
