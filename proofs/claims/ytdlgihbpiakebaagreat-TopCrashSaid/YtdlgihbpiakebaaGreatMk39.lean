import Derived.Test.YtdlgihbpiakebaaGreatMk04
import Derived.Test.YtdlgihbpiakebaaGreatMk15
import Derived.Test.YtdlgihbpiakebaaGreatMk36
import Derived.Test.YtdlgihbpiakebaaGreatMk37
import Derived.Test.YtdlgihbpiakebaaGreatMk38
set_option maxRecDepth 100000
set_option maxHeartbeats 4000000
namespace Go.Proofs.YtdlgihbpiakebaaGreat
open Go Go.RowKit Tryz
theorem qKq (vh vb:Value)(h b:Nat)(ch cb:List Value)(w:World)(hh:Sl w vh h ch)(hb:Sl w vb b cb):Calls prog 86 #[vh,vb] w fun e w'=>e= .returned (.bool (decide (h≤4000)&&decide (b≤4000)))∧w=w':=by
 obtain⟨O,I,q⟩:=hh.len
 subst q
 obtain⟨J,bc,q⟩:=hb.len
 subst q
 have j:=hh.le
 have f:=hb.le
 unfold maxLen at j f
 clear hh hb
 by_cases c:h≤4000
 · have F:(h:Int)≤4000:=by omega
   have N:decide ((h:Int)≤4000)=true:=decide_eq_true (by omega)
   by_cases l:b≤4000
   · have G:decide ((b:Int)≤4000)=true:=decide_eq_true (by omega)
     rw[decide_eq_true c,decide_eq_true l]
     clear c l j f
     go_enter func86,ntmps86
     go_wp2
     go_ret
     exact⟨rfl,rfl⟩
   · have G:decide ((b:Int)≤4000)=false:=decide_eq_false (by omega)
     rw[decide_eq_true c,decide_eq_false l]
     clear c l j f
     go_enter func86,ntmps86
     go_wp2
     go_ret
     exact⟨rfl,rfl⟩
 · have F:decide ((h:Int)≤4000)=false:=decide_eq_false (by omega)
   rw[decide_eq_false c]
   clear c j f
   go_enter func86,ntmps86
   go_wp2
   go_ret
   exact⟨rfl,rfl⟩
theorem qPx (k1 k2:BitVec 64)(n:Nn)(vh vd:Value)(head data:List UInt8)(hl:head.length≤4000)(dl:data.length≤4000)(w:World)(hh:Sl w vh head.length (qA1 head))(hd:Sl w vd data.length (qA1 data)) :
 Calls prog 58 #[.agg #[U k1,U k2],n.val,vh,vd] w fun e w'=>∃u,e= .returned (.tuple #[.agg #[u,U (qEb (k1,k2) n head data).1,U (qEb (k1,k2) n head data).2],.bool true])∧w'.ownsRow w.heap.size 5 1 u data.length (qA1 (qH5 (k1,k2) n data))∧qA4 w w':=by
 obtain⟨ha,hc,hv⟩:=hh.len
 subst hv
 obtain⟨da,dc,hv⟩:=hd.len
 subst hv
 obtain⟨H,hH⟩:∃H,H=head.length:=⟨_,rfl⟩
 obtain⟨D,hD⟩:∃D,D=data.length:=⟨_,rfl⟩
 have N:Sl w (.slice ha H hc) head.length (qA1 head):=by rw[hH];exact hh
 have O:Sl w (.slice da D dc) data.length (qA1 data):=by rw[hD];exact hd
 rw[←hH]at hl ⊢
 rw[←hD]at dl ⊢
 have HH:=qh hH
 have HD:=qh hD
 clear hh hd hH hD
 have i0:(H:Int)≤4000:=by omega
 have i1:(D:Int)≤4000:=by omega
 unfold Nn.val
 have c:qA4 w (((w.alloc (.cells #[U k1,U k2] 115)).alloc (.cells #[W n.epoch,W n.slot,U n.version] 113)).alloc (.cells #[.slice none 0 0,U 0#64,U 0#64] 165)):=((qal _).alloc (by simp) _).alloc (by simp;omega) _
 have hK:Blk (((w.alloc (.cells #[U k1,U k2] 115)).alloc (.cells #[W n.epoch,W n.slot,U n.version] 113)).alloc (.cells #[.slice none 0 0,U 0#64,U 0#64] 165)) w.heap.size #[U k1,U k2] 115:=((Blk.new _ _ _).alloc _).alloc _
 have hN:Blk (((w.alloc (.cells #[U k1,U k2] 115)).alloc (.cells #[W n.epoch,W n.slot,U n.version] 113)).alloc (.cells #[.slice none 0 0,U 0#64,U 0#64] 165)) (w.heap.size+1) #[W n.epoch,W n.slot,U n.version] 113:=Blk.alloc (by simpa using Blk.new (w.alloc (.cells #[U k1,U k2] 115)) #[W n.epoch,W n.slot,U n.version] 113) _
 have f:Blk (((w.alloc (.cells #[U k1,U k2] 115)).alloc (.cells #[W n.epoch,W n.slot,U n.version] 113)).alloc (.cells #[.slice none 0 0,U 0#64,U 0#64] 165)) (w.heap.size+2) #[.slice none 0 0,U 0#64,U 0#64] 165:=by simpa using Blk.new ((w.alloc (.cells #[U k1,U k2] 115)).alloc (.cells #[W n.epoch,W n.slot,U n.version] 113)) #[.slice none 0 0,U 0#64,U 0#64] 165
 have q0:=hK.cell 0
 have q1:=hK.cell 1
 have n0:=hN.cell 0
 have n1:=hN.cell 1
 have n2:=hN.cell 2
 go_enter func58,ntmps58
 go_wp2_with fail
 have Y:w.heap.size+3≤(((w.alloc (.cells #[U k1,U k2] 115)).alloc (.cells #[W n.epoch,W n.slot,U n.version] 113)).alloc (.cells #[.slice none 0 0,U 0#64,U 0#64] 165)).heap.size:=by simp
 generalize (((w.alloc (.cells #[U k1,U k2] 115)).alloc (.cells #[W n.epoch,W n.slot,U n.version] 113)).alloc (.cells #[.slice none 0 0,U 0#64,U 0#64] 165))=w0 at *
 refine(qKq _ _ H D _ _ _ (by rw[HH.out];rw[HH.out]at N;exact N.kept c) (by rw[HD.out];rw[HD.out]at O;exact O.kept c)).mono ?_
 rintro e w1 ⟨rfl,rfl⟩
 rw[decide_eq_true hl,decide_eq_true dl]
 go_wp2_with fail
 refine(qK1 _ _ n _).mono ?_
 rintro e w2 ⟨rfl,Z⟩
 obtain⟨s,hs⟩:∃s,s=qOH (k1,k2) n:=⟨_,rfl⟩
 rw[←hs]
 have HS:=qh hs
 have I:=Blk.new w2 #[U s.1,U s.2] 115
 have G:qA4 w0 (w2.alloc (.cells #[U s.1,U s.2] 115)):=qA4.of Z (qal _)
 replace f:=f.kept G
 replace c:=qA4.of c G
 replace Y:=Nat.le_trans Y G.size
 have s0:=I.cell 0
 have s1:=I.cell 1
 clear q0 q1 n0 n1 n2 hs Z G hK hN
 go_wp2_with fail
 generalize w2.alloc (.cells #[U s.1,U s.2] 115)=w3 at *
 refine(qG7 _ _ D dl _).mono ?_
 rintro e w4 ⟨r4,rfl,o4,j⟩
 have a0:Sl w4 r4 (qE1 (s.1,s.2) D).length (qA1 (qE1 (s.1,s.2) D)):=by rw[qBF];exact Sl.of_own o4
 replace f:=f.kept j
 replace I:=I.kept j
 replace c:=qA4.of c j
 replace Y:=Nat.le_trans Y j.size
 clear s0 s1 j o4
 go_wp2_with fail
 refine(qNB _ _ data (qE1 (s.1,s.2) D) (by rw[←HD.out];exact dl) (by rw[qBF];exact dl) _ (O.kept c) a0).mono ?_
 rintro e w5 ⟨r5,rfl,o5,l⟩
 have F:(qFM data (qE1 (s.1,s.2) D))=qH5 (k1,k2) n data:=by
  unfold qH5;rw[←HS.out,HD.out]
 have h:(qFM data (qE1 (s.1,s.2) D)).length=D:=by rw[F,qBB,HD.out]
 rw[F]at o5
 rw[F]at h
 obtain⟨C,hC⟩:∃C,C=qH5 (k1,k2) n data:=⟨_,rfl⟩
 rw[←hC]at o5 h
 have J:w5.ownsRow w4.heap.size 5 1 r5 D (qA1 C):=by rw[←h];simpa using o5
 have a2:w.heap.size≤w4.heap.size:=c.size
 have HC:=qh hC
 have V:=qh h
 replace f:=f.kept l
 replace I:=I.kept l
 replace c:=qA4.of c l
 obtain⟨ra,rc,he⟩:=(Sl.of_own J).len
 subst he
 clear l o5 a0 hC F h
 have s0:=I.cell 0
 have s1:=I.cell 1
 go_wp2_with fail
 refine(qKp _ _ _ _ head C (by rw[←HH.out];exact hl) (by rw[V.out];exact dl) _ (N.kept c) (by rw[V.out];exact Sl.of_own J)).mono ?_
 rintro e w6 ⟨rfl,q⟩
 replace f:=f.kept q
 replace c:=qA4.of c q
 have o6:=qA5 J q
 have a1:qMM (s.1,s.2) head C=qEb (k1,k2) n head data:=by
  unfold qEb;rw[←HC.out,←HS.out]
 rw[a1]
 have r0:=f.cell 0
 have r1:=f.cell 1
 have r2:=f.cell 2
 have a4:=f.free 0
 have a3:=f.free 1
 have a5:=f.free 2
 clear s0 s1 q a1 J I
 go_wp2
 refine bodyPost_ret (v:=.tuple #[.agg #[.slice ra D rc,U (qEb (k1,k2) n head data).1,U (qEb (k1,k2) n head data).2],.bool true]) (by simp[results,results58,go_sem,r0,r1,r2];done) rfl ⟨_,rfl,?_,?_⟩
 · rw[←HC.out]
   have o7:=qAh o6 (show w.heap.size+3≤w4.heap.size from Y)
   refine qAh ?_ (show w.heap.size≤w.heap.size+3 by omega)
   exact qIx o7 (((qBq.refl _ _).trans (qBq.setCell (a:=⟨w.heap.size+2,0,none⟩) (show w.heap.size+2<w.heap.size+3 by omega) _)).trans (qBq.setCell (a:=⟨w.heap.size+2,1,none⟩) (show w.heap.size+2<w.heap.size+3 by omega) _) |>.trans (qBq.setCell (a:=⟨w.heap.size+2,2,none⟩) (show w.heap.size+2<w.heap.size+3 by omega) _))
 · exact((c.setCell (by show _≤w.heap.size+2;omega) _).setCell (by show _≤w.heap.size+2;omega) _).setCell (by show _≤w.heap.size+2;omega) _
theorem qPy (k1 k2:BitVec 64)(n:Nn)(vh vd:Value)(head data:List UInt8)(t1 t2:BitVec 64)(hl:head.length≤4000)(dl:data.length≤4000)(ht:(qMM (qOH (k1,k2) n) head data==(t1,t2))=true)(w:World)(hh:Sl w vh head.length (qA1 head))(hd:Sl w vd data.length (qA1 data)) :
 Calls prog 59 #[.agg #[U k1,U k2],n.val,vh,.agg #[vd,U t1,U t2]] w fun e w'=>∃u,e= .returned (.tuple #[u,.bool true])∧w'.ownsRow w.heap.size 5 1 u data.length (qA1 (qH5 (k1,k2) n data))∧qA4 w w':=by
 obtain⟨ha,hc,hv⟩:=hh.len
 subst hv
 obtain⟨V,dc,hv⟩:=hd.len
 subst hv
 obtain⟨H,hH⟩:∃H,H=head.length:=⟨_,rfl⟩
 obtain⟨D,hD⟩:∃D,D=data.length:=⟨_,rfl⟩
 have Z:Sl w (.slice ha H hc) head.length (qA1 head):=by rw[hH];exact hh
 have O:Sl w (.slice V D dc) data.length (qA1 data):=by rw[hD];exact hd
 rw[←hH]at hl ⊢
 rw[←hD]at dl ⊢
 have HH:=qh hH
 have HD:=qh hD
 clear hh hd hH hD
 have i0:(H:Int)≤4000:=by omega
 have i1:(D:Int)≤4000:=by omega
 unfold Nn.val
 have HT:=qh ht
 clear ht
 have j:qA4 w (((w.alloc (.cells #[U k1,U k2] 115)).alloc (.cells #[W n.epoch,W n.slot,U n.version] 113)).alloc (.cells #[.slice V D dc,U t1,U t2] 165)):=((qal _).alloc (by simp) _).alloc (by simp;omega) _
 have f:Blk (((w.alloc (.cells #[U k1,U k2] 115)).alloc (.cells #[W n.epoch,W n.slot,U n.version] 113)).alloc (.cells #[.slice V D dc,U t1,U t2] 165)) w.heap.size #[U k1,U k2] 115:=((Blk.new _ _ _).alloc _).alloc _
 have hN:Blk (((w.alloc (.cells #[U k1,U k2] 115)).alloc (.cells #[W n.epoch,W n.slot,U n.version] 113)).alloc (.cells #[.slice V D dc,U t1,U t2] 165)) (w.heap.size+1) #[W n.epoch,W n.slot,U n.version] 113:=Blk.alloc (by simpa using Blk.new (w.alloc (.cells #[U k1,U k2] 115)) #[W n.epoch,W n.slot,U n.version] 113) _
 have l:Blk (((w.alloc (.cells #[U k1,U k2] 115)).alloc (.cells #[W n.epoch,W n.slot,U n.version] 113)).alloc (.cells #[.slice V D dc,U t1,U t2] 165)) (w.heap.size+2) #[.slice V D dc,U t1,U t2] 165:=by simpa using Blk.new ((w.alloc (.cells #[U k1,U k2] 115)).alloc (.cells #[W n.epoch,W n.slot,U n.version] 113)) #[.slice V D dc,U t1,U t2] 165
 have q0:=f.cell 0
 have q1:=f.cell 1
 have n0:=hN.cell 0
 have n1:=hN.cell 1
 have n2:=hN.cell 2
 have x0:=l.cell 0
 go_enter func59,ntmps59
 go_wp2_with fail
 generalize (((w.alloc (.cells #[U k1,U k2] 115)).alloc (.cells #[W n.epoch,W n.slot,U n.version] 113)).alloc (.cells #[.slice V D dc,U t1,U t2] 165))=w0 at *
 refine(qK1 _ _ n _).mono ?_
 rintro e w2 ⟨rfl,a2⟩
 obtain⟨s,hs⟩:∃s,s=qOH (k1,k2) n:=⟨_,rfl⟩
 rw[←hs]
 have a3:(qMM (s.1,s.2) head data==(t1,t2))=true:=by rw[hs];exact HT.out
 have HS:=qh hs
 have a7:=qh a3
 have G:=Blk.new w2 #[U s.1,U s.2] 115
 have a1:qA4 w0 (w2.alloc (.cells #[U s.1,U s.2] 115)):=qA4.of a2 (qal _)
 replace l:=l.kept a1
 replace j:=qA4.of j a1
 clear q0 q1 n0 n1 n2 hs a3 a2 a1 f hN x0
 go_wp2_with fail
 generalize w2.alloc (.cells #[U s.1,U s.2] 115)=w3 at *
 refine qA3 [(0,0),(1,0),(2,0),(3,1),(4,0),(5,0),(6,0),(7,0),(8,0),(9,0),(11,0),(12,0),(10,1),(13,0),(14,0)] (by kernel_rfl) (by kernel_rfl) ?_
 intro w4 N
 replace l:=l.kept N
 replace G:=G.kept N
 replace j:=qA4.of j N
 clear N
 repeat
  refine qA0 _ rfl (fun K f=>?_)
  first
   | (refine qqP (by rfl) ?_;apply Exists.intro;refine⟨fun w' h=>?_,f _ ?_⟩;(have c:=l.kept h;have c0:=c.cell 0;have c1:=c.cell 1;have c2:=c.cell 2;have d:=G.kept h;have d0:=d.cell 0;have d1:=d.cell 1;clear c d;go_simp;first|done|rfl))
   | refine qqN (by rfl) (f _ ?_)
  clear f K;simp only[Act.put,qqB]
 refine qqH _ rfl (by rfl) (fun K f=>?_)
 go_wp2_with fail
 refine(qKq _ _ H D _ _ _ (by rw[HH.out];rw[HH.out]at Z;exact Z.kept j) (by rw[HD.out];rw[HD.out]at O;exact O.kept j)).mono ?_
 rintro e w5 ⟨rfl,rfl⟩
 rw[decide_eq_true hl,decide_eq_true dl]
 go_wp2
 refine f _ _ (Below.refl _ _) ?_
 clear f K
 try simp only[Act.put,qqB]
 repeat
  refine qA0 _ rfl (fun K f=>?_)
  first
   | (refine qqP (by rfl) ?_;apply Exists.intro;refine⟨fun w' h=>?_,f _ ?_⟩;(have c:=l.kept h;have c0:=c.cell 0;have c1:=c.cell 1;have c2:=c.cell 2;have d:=G.kept h;have d0:=d.cell 0;have d1:=d.cell 1;clear c d;go_simp;first|done|rfl))
   | refine qqN (by rfl) (f _ ?_)
  clear f K;simp only[Act.put,qqB]
 refine qqH _ rfl (by rfl) (fun K f=>?_)
 go_wp2_with fail
 refine(qKp _ _ _ _ head data (by rw[←HH.out];exact hl) (by rw[←HD.out];exact dl) _ (Z.kept j) (O.kept j)).mono ?_
 rintro e w5 ⟨rfl,J⟩
 obtain⟨T,hT⟩:∃T,T=qMM (s.1,s.2) head data:=⟨_,rfl⟩
 rw[←hT]
 have a5:((T.1,T.2)==(t1,t2))=true:=by rw[hT];exact a7.out
 have a9:((T.1,T.2) != (t1,t2))=false:=by rw[bne,a5];rfl
 clear hT
 replace l:=l.kept J
 replace G:=G.kept J
 have Y:=qA4.of j J
 go_wp2
 refine f _ _ (J) ?_
 clear f K
 try simp only[Act.put,qqB]
 repeat
  refine qA0 _ rfl (fun K f=>?_)
  first
   | (refine qqP (by rfl) ?_;apply Exists.intro;refine⟨fun w' h=>?_,f _ ?_⟩;go_simp;first|done|rfl)
   | refine qqN (by rfl) (f _ ?_)
  clear f K;simp only[Act.put,qqB]
 refine qA6 ?_
 go_wp2_with fail
 refine qA3 [(0,0),(1,0),(2,0),(3,0),(4,0),(5,0),(6,1),(7,1),(8,0),(9,0)] (by kernel_rfl) (by kernel_rfl) ?_
 intro w6 I
 replace l:=l.kept I
 replace G:=G.kept I
 repeat
  refine qA0 _ rfl (fun K f=>?_)
  first
   | (refine qqP (by rfl) ?_;apply Exists.intro;refine⟨fun w' h=>?_,f _ ?_⟩;(have c:=l.kept h;have c0:=c.cell 0;have c1:=c.cell 1;have c2:=c.cell 2;have d:=G.kept h;have d0:=d.cell 0;have d1:=d.cell 1;clear c d;go_simp;first|done|rfl))
   | refine qqN (by rfl) (f _ ?_)
  clear f K;simp only[Act.put,qqB]
 refine qqH _ rfl (by rfl) (fun K f=>?_)
 go_wp2_with fail
 refine(qG7 _ _ D dl _).mono ?_
 rintro e w7 ⟨r7,rfl,o7,q⟩
 have a8:Sl w7 r7 (qE1 (s.1,s.2) D).length (qA1 (qE1 (s.1,s.2) D)):=by rw[qBF];exact Sl.of_own o7
 clear o7
 replace l:=l.kept q
 replace G:=G.kept q
 go_wp2
 refine f _ _ (q) ?_
 clear f K
 try simp only[Act.put,qqB]
 refine qqH _ rfl (by rfl) (fun K f=>?_)
 go_wp2_with fail
 refine(qNB _ _ data (qE1 (s.1,s.2) D) (by rw[←HD.out];exact dl) (by rw[qBF];exact dl) _ (O.kept ((Y.of I).of q)) a8).mono ?_
 rintro e w8 ⟨r8,rfl,o8,a4⟩
 go_wp2
 refine f _ _ (a4) ?_
 clear f K
 try simp only[Act.put,qqB]
 repeat
  refine qA0 _ rfl (fun K f=>?_)
  first
   | (refine qqP (by rfl) ?_;apply Exists.intro;refine⟨fun w' h=>?_,f _ ?_⟩;go_simp;first|done|rfl)
   | refine qqN (by rfl) (f _ ?_)
  clear f K;simp only[Act.put,qqB]
 refine qA6 ?_
 have F:(qFM data (qE1 (s.1,s.2) D))=qH5 (k1,k2) n data:=by
  unfold qH5;rw[←HS.out,HD.out]
 have a0:(qFM data (qE1 (s.1,s.2) D)).length=D:=by rw[F,qBB,HD.out]
 rw[F]at a0
 rw[F]at o8
 have a6:=((Y.of I).of q).size
 have o9:=qAh o8 a6
 rw[a0]at o9
 have b3:=qh F
 clear F a0 o8
 go_wp2
 go_ret2
 exact⟨_,rfl,o9,((Y.of I).of q).of a4⟩
theorem qR2 (k1 k2:BitVec 64)(n:Nn)(vh vd:Value)(head data:List UInt8)(t1 t2:BitVec 64)(hl:head.length≤4000)(dl:data.length≤4000)(ht:(qMM (qOH (k1,k2) n) head data==(t1,t2))=false)(w:World)(hh:Sl w vh head.length (qA1 head))(hd:Sl w vd data.length (qA1 data)) :
 Calls prog 59 #[.agg #[U k1,U k2],n.val,vh,.agg #[vd,U t1,U t2]] w fun e w'=>e= .returned (.tuple #[.slice none 0 0,.bool false])∧qA4 w w':=by
 obtain⟨ha,hc,hv⟩:=hh.len
 subst hv
 obtain⟨G,dc,hv⟩:=hd.len
 subst hv
 obtain⟨H,hH⟩:∃H,H=head.length:=⟨_,rfl⟩
 obtain⟨D,hD⟩:∃D,D=data.length:=⟨_,rfl⟩
 have I:Sl w (.slice ha H hc) head.length (qA1 head):=by rw[hH];exact hh
 have N:Sl w (.slice G D dc) data.length (qA1 data):=by rw[hD];exact hd
 rw[←hH]at hl ⊢
 rw[←hD]at dl ⊢
 have HH:=qh hH
 have HD:=qh hD
 clear hh hd hH hD
 have i0:(H:Int)≤4000:=by omega
 have i1:(D:Int)≤4000:=by omega
 unfold Nn.val
 have HT:=qh ht
 clear ht
 have h:qA4 w (((w.alloc (.cells #[U k1,U k2] 115)).alloc (.cells #[W n.epoch,W n.slot,U n.version] 113)).alloc (.cells #[.slice G D dc,U t1,U t2] 165)):=((qal _).alloc (by simp) _).alloc (by simp;omega) _
 have f:Blk (((w.alloc (.cells #[U k1,U k2] 115)).alloc (.cells #[W n.epoch,W n.slot,U n.version] 113)).alloc (.cells #[.slice G D dc,U t1,U t2] 165)) w.heap.size #[U k1,U k2] 115:=((Blk.new _ _ _).alloc _).alloc _
 have Z:Blk (((w.alloc (.cells #[U k1,U k2] 115)).alloc (.cells #[W n.epoch,W n.slot,U n.version] 113)).alloc (.cells #[.slice G D dc,U t1,U t2] 165)) (w.heap.size+1) #[W n.epoch,W n.slot,U n.version] 113:=Blk.alloc (by simpa using Blk.new (w.alloc (.cells #[U k1,U k2] 115)) #[W n.epoch,W n.slot,U n.version] 113) _
 have F:Blk (((w.alloc (.cells #[U k1,U k2] 115)).alloc (.cells #[W n.epoch,W n.slot,U n.version] 113)).alloc (.cells #[.slice G D dc,U t1,U t2] 165)) (w.heap.size+2) #[.slice G D dc,U t1,U t2] 165:=by simpa using Blk.new ((w.alloc (.cells #[U k1,U k2] 115)).alloc (.cells #[W n.epoch,W n.slot,U n.version] 113)) #[.slice G D dc,U t1,U t2] 165
 have q0:=f.cell 0
 have q1:=f.cell 1
 have n0:=Z.cell 0
 have n1:=Z.cell 1
 have n2:=Z.cell 2
 have x0:=F.cell 0
 go_enter func59,ntmps59
 go_wp2_with fail
 generalize (((w.alloc (.cells #[U k1,U k2] 115)).alloc (.cells #[W n.epoch,W n.slot,U n.version] 113)).alloc (.cells #[.slice G D dc,U t1,U t2] 165))=w0 at *
 refine(qK1 _ _ n _).mono ?_
 rintro e w2 ⟨rfl,V⟩
 obtain⟨s,hs⟩:∃s,s=qOH (k1,k2) n:=⟨_,rfl⟩
 rw[←hs]
 have Y:(qMM (s.1,s.2) head data==(t1,t2))=false:=by rw[hs];exact HT.out
 have HS:=qh hs
 have a2:=qh Y
 have O:=Blk.new w2 #[U s.1,U s.2] 115
 have J:qA4 w0 (w2.alloc (.cells #[U s.1,U s.2] 115)):=qA4.of V (qal _)
 replace F:=F.kept J
 replace h:=qA4.of h J
 clear q0 q1 n0 n1 n2 hs Y V J f Z x0
 go_wp2_with fail
 generalize w2.alloc (.cells #[U s.1,U s.2] 115)=w3 at *
 refine qA3 [(0,0),(1,0),(2,0),(3,1),(4,0),(5,0),(6,0),(7,0),(8,0),(9,0),(11,0),(12,0),(10,1),(13,0),(14,0)] (by kernel_rfl) (by kernel_rfl) ?_
 intro w4 q
 replace F:=F.kept q
 replace O:=O.kept q
 replace h:=qA4.of h q
 clear q
 repeat
  refine qA0 _ rfl (fun K f=>?_)
  first
   | (refine qqP (by rfl) ?_;apply Exists.intro;refine⟨fun w' j=>?_,f _ ?_⟩;(have c:=F.kept j;have c0:=c.cell 0;have c1:=c.cell 1;have c2:=c.cell 2;have d:=O.kept j;have d0:=d.cell 0;have d1:=d.cell 1;clear c d;go_simp;first|done|rfl))
   | refine qqN (by rfl) (f _ ?_)
  clear f K;simp only[Act.put,qqB]
 refine qqH _ rfl (by rfl) (fun K f=>?_)
 go_wp2_with fail
 refine(qKq _ _ H D _ _ _ (by rw[HH.out];rw[HH.out]at I;exact I.kept h) (by rw[HD.out];rw[HD.out]at N;exact N.kept h)).mono ?_
 rintro e w5 ⟨rfl,rfl⟩
 rw[decide_eq_true hl,decide_eq_true dl]
 go_wp2
 refine f _ _ (Below.refl _ _) ?_
 clear f K
 try simp only[Act.put,qqB]
 repeat
  refine qA0 _ rfl (fun K f=>?_)
  first
   | (refine qqP (by rfl) ?_;apply Exists.intro;refine⟨fun w' j=>?_,f _ ?_⟩;(have c:=F.kept j;have c0:=c.cell 0;have c1:=c.cell 1;have c2:=c.cell 2;have d:=O.kept j;have d0:=d.cell 0;have d1:=d.cell 1;clear c d;go_simp;first|done|rfl))
   | refine qqN (by rfl) (f _ ?_)
  clear f K;simp only[Act.put,qqB]
 refine qqH _ rfl (by rfl) (fun K f=>?_)
 go_wp2_with fail
 refine(qKp _ _ _ _ head data (by rw[←HH.out];exact hl) (by rw[←HD.out];exact dl) _ (I.kept h) (N.kept h)).mono ?_
 rintro e w5 ⟨rfl,l⟩
 obtain⟨T,hT⟩:∃T,T=qMM (s.1,s.2) head data:=⟨_,rfl⟩
 rw[←hT]
 have a1:((T.1,T.2)==(t1,t2))=false:=by rw[hT];exact a2.out
 have a3:((T.1,T.2) != (t1,t2))=true:=by rw[bne,a1];rfl
 clear hT
 replace F:=F.kept l
 replace O:=O.kept l
 have a0:=qA4.of h l
 go_wp2
 refine f _ _ (l) ?_
 clear f K
 try simp only[Act.put,qqB]
 repeat
  refine qA0 _ rfl (fun K f=>?_)
  first
   | (refine qqP (by rfl) ?_;apply Exists.intro;refine⟨fun w' j=>?_,f _ ?_⟩;go_simp;first|done|rfl)
   | refine qqN (by rfl) (f _ ?_)
  clear f K;simp only[Act.put,qqB]
 refine qA6 ?_
 go_wp2
 go_ret2
 exact⟨rfl,a0⟩
def qHY (key:qAD)(n:Nn)(head data:List UInt8)(t:qAD):Bool:=qMM (qOH key n) head data==t
def qPz (key:qAD)(n:Nn)(head data:List UInt8)(t:qAD):List UInt8:=if qHY key n head data t then qH5 key n data else []
theorem qPA (k1 k2:BitVec 64)(n:Nn)(vh vd:Value)(head data:List UInt8)(t1 t2:BitVec 64)(hl:head.length≤4000)(dl:data.length≤4000)(w:World)(hh:Sl w vh head.length (qA1 head))(hd:Sl w vd data.length (qA1 data)) :
 Calls prog 59 #[.agg #[U k1,U k2],n.val,vh,.agg #[vd,U t1,U t2]] w fun e w'=>∃u,e= .returned (.tuple #[u,.bool (qHY (k1,k2) n head data (t1,t2))])∧w'.ownsRow w.heap.size 5 1 u (qPz (k1,k2) n head data (t1,t2)).length (qA1 (qPz (k1,k2) n head data (t1,t2)))∧qA4 w w':=by
 unfold qPz
 cases h:qHY (k1,k2) n head data (t1,t2)
 · refine(qR2 k1 k2 n vh vd head data t1 t2 hl dl h w hh hd).mono ?_
   rintro e w' ⟨rfl,c⟩
   exact⟨_,rfl,⟨rfl,.inl ⟨rfl,rfl⟩⟩,c⟩
 · refine(qPy k1 k2 n vh vd head data t1 t2 hl dl h w hh hd).mono ?_
   rintro e w' ⟨u,rfl,f,c⟩
   refine⟨_,rfl,?_,c⟩
   simp only[if_true,qBB]
   exact f
theorem qMb (key:qAD)(n:Nn)(head data:List UInt8):qHY key n head (qH5 key n data) ((qEb key n head data).1,(qEb key n head data).2)=true:=by
 unfold qHY qEb
 exact beq_self_eq_true _
section
open Go.ChangeShapes Go.WideShapes Go.ChangeAt
variable {H:Type} {enc:TypeId×Value→H} {w:World} {base:Nat} {spare:Nat→Bool} {held:Bool} {r:Reach} {b0:Nat}
end
def gN (bs:List UInt8):Nn:=if bs.length=60 then qRH bs else⟨0#32,0#32,0#64⟩
def gS (bs:List UInt8):List UInt8:=if bs.length=60 then qRI bs else []
def gT (bs:List UInt8):qAD:=if bs.length=60 then qQk bs else(0#64,0#64)
def gK (bs:List UInt8):Bool:=decide (bs.length=60)
theorem qMc (vb:Value)(bs:List UInt8)(hl:bs.length≤4000)(w:World)(hb:Sl w vb bs.length (qA1 bs)):Calls prog 137 #[vb] w fun e w'=>∃u,e= .returned (.tuple #[(gN bs).val,.agg #[u,U (gT bs).1,U (gT bs).2],.bool (gK bs)])∧Sl w' u (gS bs).length (qA1 (gS bs))∧qA4 w w':=by
 unfold gN gS gT gK
 by_cases h:bs.length=60
 · rw[if_pos h,if_pos h,if_pos h,decide_eq_true h]
   exact qKm vb bs hl w hb h
 · rw[if_neg h,if_neg h,if_neg h,decide_eq_false h]
   refine(qKl vb bs hl w hb h).mono ?_
   rintro e w' ⟨rfl,c⟩
   exact⟨_,rfl,Sl.nil w',c⟩
theorem qSf (n:Nn)(bs:List UInt8)(t:qAD)(hs:n.slot=65535#32)(h:bs.length=32):gN (qFV n bs t)=n∧gS (qFV n bs t)=bs∧gT (qFV n bs t)=t∧gK (qFV n bs t)=true:=by
 have hl:=qCt n bs t h
 obtain⟨c,j,f⟩:=qPh n bs t hs h
 unfold gN gS gT gK
 rw[if_pos hl,if_pos hl,if_pos hl,decide_eq_true hl]
 exact⟨c,j,f,rfl⟩
end Go.Proofs.YtdlgihbpiakebaaGreat
