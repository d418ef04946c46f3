import Derived.Test.YtdlgihbpiakebaaGreatMk17
import Derived.Test.YtdlgihbpiakebaaGreatMk22
import Derived.Test.YtdlgihbpiakebaaGreatMk30
set_option maxRecDepth 100000
set_option maxHeartbeats 4000000
namespace Go.Proofs.YtdlgihbpiakebaaGreat
open Go Go.RowKit Tryz
def qFi (x:Iss)(r1 r2 r3:Value):Array Value:=#[U x.key.1,U x.key.2,W x.nonce.epoch,W x.nonce.slot,U x.nonce.version,r1,r2,r3,U x.tag.1,U x.tag.2]
theorem qPm (x:Iss)(r1 r2 r3:Value)(w:World)(hl1:x.head.length≤4000)(hl2:x.data.length≤4000)(hl3:x.out.length≤4000)(h1:Sl w r1 x.head.length (qA1 x.head))(N:Sl w r2 x.data.length (qA1 x.data))(h3:Sl w r3 x.out.length (qA1 x.out)) :
 Calls prog 96 #[.agg (qFi x r1 r2 r3)] w fun e w'=>∃u1 u2 u3,e= .returned (.agg (qFi x u1 u2 u3))∧w'.ownsRow w.heap.size 5 1 u3 x.out.length (qA1 x.out)∧qA4 w w':=by
 obtain⟨a1,c1,rfl⟩:=h1.len
 obtain⟨a2,c2,rfl⟩:=N.len
 obtain⟨a3,c3,rfl⟩:=h3.len
 unfold qFi
 obtain⟨w0,G⟩:∃w0,w0=(w.alloc (.cells #[U x.key.1,U x.key.2,W x.nonce.epoch,W x.nonce.slot,U x.nonce.version,.slice a1 x.head.length c1,.slice a2 x.data.length c2,.slice a3 x.out.length c3,U x.tag.1,U x.tag.2] 184)).alloc (.cells #[U 0#64,U 0#64,W 0#32,W 0#32,U 0#64,.slice none 0 0,.slice none 0 0,.slice none 0 0,U 0#64,U 0#64] 184):=⟨_,rfl⟩
 have I:qA4 w w0:=by rw[G];exact(qal _).alloc (by simp) _
 have f:Blk w0 w.heap.size #[U x.key.1,U x.key.2,W x.nonce.epoch,W x.nonce.slot,U x.nonce.version,.slice a1 x.head.length c1,.slice a2 x.data.length c2,.slice a3 x.out.length c3,U x.tag.1,U x.tag.2] 184:=by rw[G];exact(Blk.new w _ _).kept (qal _)
 have c:Blk w0 (w.heap.size+1) #[U 0#64,U 0#64,W 0#32,W 0#32,U 0#64,.slice none 0 0,.slice none 0 0,.slice none 0 0,U 0#64,U 0#64] 184:=by rw[G];simpa using Blk.new (w.alloc (.cells #[U x.key.1,U x.key.2,W x.nonce.epoch,W x.nonce.slot,U x.nonce.version,.slice a1 x.head.length c1,.slice a2 x.data.length c2,.slice a3 x.out.length c3,U x.tag.1,U x.tag.2] 184)) #[U 0#64,U 0#64,W 0#32,W 0#32,U 0#64,.slice none 0 0,.slice none 0 0,.slice none 0 0,U 0#64,U 0#64] 184
 go_enter func96,ntmps96
 go_wp2_with fail
 rw[←G]
 clear G
 refine qA3 [(0,0),(1,0),(3,0),(4,0),(6,0),(7,0),(8,0),(2,1),(10,0),(5,1),(9,1),(11,2),(12,2),(13,2),(14,2),(15,2),(16,2)] (by kernel_rfl) (by kernel_rfl) ?_
 intro w1 l
 replace f:=f.kept l
 replace c:=c.kept l
 repeat
  refine qA0 _ rfl (fun K h=>?_)
  first
   | (refine qqP (by rfl) ?_;apply Exists.intro;refine⟨fun w' a5=>?_,h _ ?_⟩;(have Hb:=f.kept a5;have q5:=Hb.cell 5;have q6:=Hb.cell 6;have q7:=Hb.cell 7;clear Hb;go_simp;first|done|rfl))
   | refine qqN (by rfl) (h _ ?_)
  clear h K;simp only[Act.put,qqB]
 refine qqH _ rfl (by rfl) (fun K h=>?_)
 go_wp2_with fail
 refine(qAZ _ x.head (by omega) _ ((h1.kept I).kept l)).mono ?_
 rintro e w2 ⟨r,rfl,o1,j⟩
 obtain⟨b1,Z,rfl⟩:=(Sl.of_own o1).len
 replace f:=f.kept j
 replace c:=c.kept j
 go_wp2
 refine h _ _ (j) ?_
 clear h K
 try simp only[Act.put,qqB]
 repeat
  refine qA0 _ rfl (fun K h=>?_)
  first
   | (refine qqP (by rfl) ?_;apply Exists.intro;refine⟨fun w' a5=>?_,h _ ?_⟩;go_simp;first|done|rfl)
   | refine qqN (by rfl) (h _ ?_)
  clear h K;simp only[Act.put,qqB]
 refine qqH _ rfl (by rfl) (fun K h=>?_)
 go_wp2_with fail
 refine(qAZ _ x.data (by omega) _ (((N.kept I).kept l).kept j)).mono ?_
 rintro e w3 ⟨r,rfl,o2,q⟩
 obtain⟨b2,Y,rfl⟩:=(Sl.of_own o2).len
 replace f:=f.kept q
 replace c:=c.kept q
 go_wp2
 refine h _ _ (q) ?_
 clear h K
 try simp only[Act.put,qqB]
 refine qqH _ rfl (by rfl) (fun K h=>?_)
 go_wp2_with fail
 refine(qAZ _ x.out (by omega) _ ((((h3.kept I).kept l).kept j).kept q)).mono ?_
 rintro e w4 ⟨r,rfl,o3,J⟩
 obtain⟨O,V,rfl⟩:=(Sl.of_own o3).len
 replace f:=f.kept J
 replace c:=c.kept J
 have a6:=f
 go_wp2
 refine h _ _ (J) ?_
 clear h K
 try simp only[Act.put,qqB]
 refine qAg _ rfl (fun K h=>?_)
 refine qqP (by rfl) ?_
 have f5:=f.free 5
 have e5:=f.cell 5
 go_wp2
 replace f:=f.set 5 (.slice b1 x.head.length Z)
 simp only[qqA,qq0,qq1]at f
 replace c:=(Chg.step (b:=w.heap.size) (o:=5) qsm (.slice b1 x.head.length Z):Chg [w.heap.size] _ _).blk c (by simp)
 refine qAg _ rfl (fun K h=>?_)
 refine qqP (by rfl) ?_
 go_wp2
 refine qAg _ rfl (fun K h=>?_)
 refine qqP (by rfl) ?_
 have f6:=f.free 6
 have e6:=f.cell 6
 go_wp2
 replace f:=f.set 6 (.slice b2 x.data.length Y)
 simp only[qqA,qq0,qq1]at f
 replace c:=(Chg.step (b:=w.heap.size) (o:=6) qsm (.slice b2 x.data.length Y):Chg [w.heap.size] _ _).blk c (by simp)
 refine qAg _ rfl (fun K h=>?_)
 refine qqP (by rfl) ?_
 go_wp2
 refine qAg _ rfl (fun K h=>?_)
 refine qqP (by rfl) ?_
 go_wp2
 refine qAg _ rfl (fun K h=>?_)
 refine qqP (by rfl) ?_
 have f7:=f.free 7
 have e7:=f.cell 7
 go_wp2
 replace f:=f.set 7 (.slice O x.out.length V)
 simp only[qqA,qq0,qq1]at f
 replace c:=(Chg.step (b:=w.heap.size) (o:=7) qsm (.slice O x.out.length V):Chg [w.heap.size] _ _).blk c (by simp)
 refine qA6 ?_
 have a7:=a6
 have a4:Chg [w.heap.size] w4 (((w4.setCell ⟨w.heap.size,5,none⟩ (.slice b1 x.head.length Z)).setCell ⟨w.heap.size,6,none⟩ (.slice b2 x.data.length Y)).setCell ⟨w.heap.size,7,none⟩ (.slice O x.out.length V)):=((Chg.refl _ _).set (by simp) _ _ |>.set (by simp) _ _ |>.set (by simp) _ _)
 clear f5 e5 f6 e6 f7 e7
 generalize (((w4.setCell ⟨w.heap.size,5,none⟩ (.slice b1 x.head.length Z)).setCell ⟨w.heap.size,6,none⟩ (.slice b2 x.data.length Y)).setCell ⟨w.heap.size,7,none⟩ (.slice O x.out.length V))=w5 at *
 have g0:=f.cell 0
 have z0:=c.cell 0
 have y0:=c.free 0
 have g1:=f.cell 1
 have z1:=c.cell 1
 have y1:=c.free 1
 have g2:=f.cell 2
 have z2:=c.cell 2
 have y2:=c.free 2
 have g3:=f.cell 3
 have z3:=c.cell 3
 have y3:=c.free 3
 have g4:=f.cell 4
 have z4:=c.cell 4
 have y4:=c.free 4
 have g5:=f.cell 5
 have z5:=c.cell 5
 have y5:=c.free 5
 have g6:=f.cell 6
 have z6:=c.cell 6
 have y6:=c.free 6
 have g7:=f.cell 7
 have z7:=c.cell 7
 have y7:=c.free 7
 have g8:=f.cell 8
 have z8:=c.cell 8
 have y8:=c.free 8
 have g9:=f.cell 9
 have z9:=c.cell 9
 have y9:=c.free 9
 go_wp2
 have F:=((((((((((c.set 0 (U x.key.1)).set 1 (U x.key.2)).set 2 (W x.nonce.epoch)).set 3 (W x.nonce.slot)).set 4 (U x.nonce.version)).set 5 (.slice b1 x.head.length Z)).set 6 (.slice b2 x.data.length Y)).set 7 (.slice O x.out.length V)).set 8 (U x.tag.1)).set 9 (U x.tag.2))
 simp only[qqA,qq0,qq1]at F
 have a0:Chg [w.heap.size+1] w5 ((((((((((w5.setCell ⟨w.heap.size+1,0,none⟩ (U x.key.1)).setCell ⟨w.heap.size+1,1,none⟩ (U x.key.2)).setCell ⟨w.heap.size+1,2,none⟩ (W x.nonce.epoch)).setCell ⟨w.heap.size+1,3,none⟩ (W x.nonce.slot)).setCell ⟨w.heap.size+1,4,none⟩ (U x.nonce.version)).setCell ⟨w.heap.size+1,5,none⟩ (.slice b1 x.head.length Z)).setCell ⟨w.heap.size+1,6,none⟩ (.slice b2 x.data.length Y)).setCell ⟨w.heap.size+1,7,none⟩ (.slice O x.out.length V)).setCell ⟨w.heap.size+1,8,none⟩ (U x.tag.1)).setCell ⟨w.heap.size+1,9,none⟩ (U x.tag.2)):=(((((((((((Chg.refl _ _).set qsm 0 _).set qsm 1 _).set qsm 2 _).set qsm 3 _).set qsm 4 _).set qsm 5 _).set qsm 6 _).set qsm 7 _).set qsm 8 _).set qsm 9 _)
 clear g0 z0 y0 g1 z1 y1 g2 z2 y2 g3 z3 y3 g4 z4 y4 g5 z5 y5 g6 z6 y6 g7 z7 y7 g8 z8 y8 g9 z9 y9
 have r0:=F.cell 0
 have r1:=F.cell 1
 have r2:=F.cell 2
 have r3:=F.cell 3
 have r4:=F.cell 4
 have r5:=F.cell 5
 have r6:=F.cell 6
 have r7:=F.cell 7
 have r8:=F.cell 8
 have r9:=F.cell 9
 generalize ((((((((((w5.setCell ⟨w.heap.size+1,0,none⟩ (U x.key.1)).setCell ⟨w.heap.size+1,1,none⟩ (U x.key.2)).setCell ⟨w.heap.size+1,2,none⟩ (W x.nonce.epoch)).setCell ⟨w.heap.size+1,3,none⟩ (W x.nonce.slot)).setCell ⟨w.heap.size+1,4,none⟩ (U x.nonce.version)).setCell ⟨w.heap.size+1,5,none⟩ (.slice b1 x.head.length Z)).setCell ⟨w.heap.size+1,6,none⟩ (.slice b2 x.data.length Y)).setCell ⟨w.heap.size+1,7,none⟩ (.slice O x.out.length V)).setCell ⟨w.heap.size+1,8,none⟩ (U x.tag.1)).setCell ⟨w.heap.size+1,9,none⟩ (U x.tag.2))=w6 at *
 have hk:qA4 w w4:=(((I.of l).of j).of q).of J
 refine bodyPost_ret (v:=.agg #[U x.key.1,U x.key.2,W x.nonce.epoch,W x.nonce.slot,U x.nonce.version,.slice b1 x.head.length Z,.slice b2 x.data.length Y,.slice O x.out.length V,U x.tag.1,U x.tag.2]) (by simp[results,results96,go_sem,r0,r1,r2,r3,r4,r5,r6,r7,r8,r9];try exact⟨rfl,rfl,rfl⟩) rfl ⟨_,_,_,rfl,?_,?_⟩
 · exact qAu (qAu (qAh o3 (Nat.le_trans I.size (Nat.le_trans l.size (Nat.le_trans j.size q.size)))) a4 a7 (by decide)) a0 c (by decide)
 · have h1:Chg [] w w5:=qDt (Chg.of_kept hk) a4 qle
   have N:Chg [] w w6:=qDt h1 a0 (by omega)
   exact⟨N.os,N.tape,N.output,N.size,fun k hk=>N.block k hk (by simp)⟩
theorem qPn (w:World):qCe (w.alloc (.map #[] 0)) w.heap.size []:=⟨_,w.ownsMap_made _ _ _,Maps.tidy_empty,rfl,fun row=>⟨rfl,fun h=>by cases h⟩⟩
theorem qCe.kept {w w':World}{m:Nat}{sums:List (List UInt8)}(h:qCe w m sums)(hk:qA4 w w'):qCe w' m sums:=by
 obtain⟨D,f,G,F,j⟩:=h
 have hl:=f.lt
 obtain⟨l,c,q,r⟩:=f
 exact⟨D,⟨l,c,(hk.block m hl).trans q,r⟩,G,F,j⟩
theorem qM7 (w:World):Calls prog 63 #[] w fun e w'=>∃O m,e= .returned (.pointer (some ⟨O,0,none⟩))∧Blk w' O #[.slice none 0 0,.map (some m)] 182∧qCe w' m []∧qA4 w w'∧w.heap.size≤O∧w.heap.size≤m:=by
 have l:=@run_makeMap prog
 go_enter func63,ntmps63
 go_wp2
 go_ret
 have h:=qPn w
 have c:qA4 (w.alloc (.map #[] 0)) ((w.alloc (.map #[] 0)).alloc (.cells #[.slice none 0 0,.map (some w.heap.size)] 182)):=qal _
 have j:(w.alloc (.map #[] 0)).heap.size=w.heap.size+1:=by simp
 have f:=Blk.new (w.alloc (.map #[] 0)) #[.slice none 0 0,.map (some w.heap.size)] 182
 rw[j]at f
 exact⟨w.heap.size+1,w.heap.size,rfl,f,h.kept c,qA4.of (qal _) c,by omega,Nat.le_refl _⟩
theorem qM8 (w:World):Calls prog 36 #[] w fun e w'=>∃L O m f3 f4,e= .returned (.pointer (some ⟨L,0,none⟩))∧Blk w' L #[.func (.func 64) #[.pointer (some ⟨O,0,none⟩)] #[],.func (.func 65) #[.pointer (some ⟨O,0,none⟩)] #[],.func (.func 66) #[.pointer (some ⟨O,0,none⟩)] #[],f3,f4] 144∧Blk w' O #[.slice none 0 0,.map (some m)] 182∧qCe w' m []∧qA4 w w'∧w.heap.size≤L∧w.heap.size≤O∧w.heap.size≤m:=by
 go_enter func36,ntmps36
 go_wp2_with fail
 refine(qM7 w).mono ?_
 rintro e w1 ⟨O,m,rfl,l,j,f,h,q⟩
 go_wp2
 go_ret
 have c:∀o,qA4 w1 (w1.alloc o):=fun o=>qal o
 exact⟨w1.heap.size,O,m,_,_,rfl,Blk.new _ _ _,l.kept (c _),j.kept (c _),f.of (c _),f.size,h,q⟩
theorem qIZ (w:World):Calls prog 35 #[] w fun e w'=>∃L f3 f4,e= .returned (.pointer (some ⟨L,0,none⟩))∧Blk w' L #[.func (.func 58) #[] #[],.func (.func 59) #[] #[],.func (.func 60) #[] #[],f3,f4] 144∧qA4 w w'∧w.heap.size≤L:=by
 go_enter func35,ntmps35
 go_wp2
 go_ret
 exact⟨w.heap.size,_,_,rfl,Blk.new _ _ _,qal _,Nat.le_refl _⟩
end Go.Proofs.YtdlgihbpiakebaaGreat
