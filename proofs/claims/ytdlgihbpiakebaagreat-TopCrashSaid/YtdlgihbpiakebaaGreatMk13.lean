import Derived.Test.YtdlgihbpiakebaaGreatMk03
import Derived.Test.YtdlgihbpiakebaaGreatMk05
import Derived.Test.YtdlgihbpiakebaaGreatMk12
import Derived.Lib.Hide
import Derived.Test.YtdlgihbpiakebaaGreatProg
import Derived.Outline
set_option maxRecDepth 100000
set_option maxHeartbeats 4000000
namespace Go.Proofs.YtdlgihbpiakebaaGreat
open Go Go.RowKit Tryz
def qCp (h:qAD)(l:List qAD):qAD:=l.foldl (fun out x=>qOU (qJF x out) h) (0#64,0#64)
theorem qLP (h:qAD)(l:List qAD)(x:qAD):qCp h (l++ [x])=qOU (qJF x (qCp h l)) h:=by
 unfold qCp;rw[List.foldl_append];rfl
theorem qP4 (j f:BitVec 64)(a:Option Addr)(cap:Nat)(l:List qAD)(w:World)(hm:l.length*16≤140737488351232)
 (hc:∀i,i<l.length→∃b off,a=some ⟨b,off,none⟩∧w.cell? ⟨b,off+i*2,none⟩=some (U (l.getD i (0#64,0#64)).1)∧w.cell? ⟨b,off+i*2+1,none⟩=some (U (l.getD i (0#64,0#64)).2)) :
 Calls prog 131 #[.agg #[U j,U f],.slice a l.length cap] w fun e w'=>e= .returned (Pr (qCp (j,f) l))∧qA4 w w':=by
 go_enter func131,ntmps131
 go_wp2_with fail
 go_loopw [10] (fun i wr=>∃k:Nat,k≤l.length∧i= .int .i64 k ∧
  Blk wr (w.heap.size+1+1) #[U (qCp (j,f) (l.take k)).1,U (qCp (j,f) (l.take k)).2] 115 ∧
  Below (w.heap.size+1+1) (((w.alloc (.cells #[U j,U f] 115)).alloc (.cells #[U 0#64,U 0#64] 115)).alloc (.cells #[U 0#64,U 0#64] 115)) wr)
  (fun i _=>l.length - (intOf i).toNat)
 case atStart=>exact⟨0,by omega,rfl,by simpa [qCp] using Blk.new ((w.alloc (.cells #[U j,U f] 115)).alloc (.cells #[U 0#64,U 0#64] 115)) #[U 0#64,U 0#64] 115,Below.refl _ _⟩
 case round =>
  obtain⟨k,hk,rfl,G,hb⟩:=hrel
  have a3:Blk wr w.heap.size #[U j,U f] 115:=((((Blk.new w _ _).alloc _).alloc _)).below hb (by omega)
  have N:Blk wr (w.heap.size+1) #[U 0#64,U 0#64] 115:=((by simpa using Blk.new (w.alloc (.cells #[U j,U f] 115)) #[U 0#64,U 0#64] 115:Blk ((w.alloc (.cells #[U j,U f] 115)).alloc (.cells #[U 0#64,U 0#64] 115)) (w.heap.size+1) #[U 0#64,U 0#64] 115).alloc _).below hb (by omega)
  by_cases a0:k<l.length
  · obtain⟨b,off,rfl,O,a1⟩:=hc k a0
    have a2:b<w.heap.size:=World.block_lt_of_cell? w _ O
    have hold:Below w.heap.size w wr:=((((qal _).alloc (by simp) _).alloc (by simp;omega) _).trans (hb.mono (by omega)))
    have x0:=(hold.cell (p:=⟨b,off+k*2,none⟩) a2).trans O
    have x1:=(hold.cell (p:=⟨b,off+k*2+1,none⟩) a2).trans a1
    clear O a1 hc
    go_wp2_with fail
    have hX:=Blk.new wr #[U l[k].fst,U l[k].snd] 115
    have hH:=a3.alloc (.cells #[U l[k].fst,U l[k].snd] 115)
    have hO:=G.alloc (.cells #[U l[k].fst,U l[k].snd] 115)
    refine qG0 5 (fun i (vv:Value) w'=>match i with|0=>vv=Pr l[k]|1=>vv=Pr (qCp (j,f) (List.take k l))|2=>vv=Pr (qJF l[k] (qCp (j,f) (List.take k l)))|3=>vv=Pr (j,f)|4=>vv=Pr (qOU (qJF l[k] (qCp (j,f) (List.take k l))) (j,f))|_=>True) (by kernel_rfl) (by kernel_rfl) ?_ ?_ ?_
    · intro i v w1 w2 h hk
      match i,h with
      | 0,h=>exact h
      | 1,h=>exact h
      | 2,h=>exact h
      | 3,h=>exact h
      | 4,h=>exact h
      | _+5,_=>trivial
    · intro i o hi G x w1 V F K J
      match i,hi,G with
      | 0,_,G =>
       have e:=Option.some.inj G;subst e
       have q:∀(vv:Value) (w'':World),qA4 w1 w''→(vv=Pr l[k])→K _ w'':=fun v w'' j f=>J v w'' j f
       clear J F
       simp only[qAQ,qBp,List.getElem?_toArray,List.getElem?_cons_zero,List.getElem?_cons_succ,Option.bind_some,Act.put,qqB]at q ⊢
       refine qqP (by rfl) ?_
       have c:=hX.kept V;have c0:=c.cell 0;have c1:=c.cell 1;clear c
       go_wp2
       exact q _ _ (Below.refl _ _) rfl
      | 1,_,G =>
       have e:=Option.some.inj G;subst e
       have q:∀(vv:Value) (w'':World),qA4 w1 w''→(vv=Pr (qCp (j,f) (List.take k l)))→K _ w'':=fun v w'' j f=>J v w'' j f
       clear J F
       simp only[qAQ,qBp,List.getElem?_toArray,List.getElem?_cons_zero,List.getElem?_cons_succ,Option.bind_some,Act.put,qqB]at q ⊢
       refine qqP (by rfl) ?_
       have c:=hO.kept V;have c0:=c.cell 0;have c1:=c.cell 1;clear c
       go_wp2
       exact q _ _ (Below.refl _ _) rfl
      | 2,_,G =>
       have e:=Option.some.inj G;subst e
       have p0:x 0=Pr l[k]:=F 0 (by kernel_rfl)
       have p1:x 1=Pr (qCp (j,f) (List.take k l)):=F 1 (by kernel_rfl)
       have q:∀(vv:Value) (w'':World),qA4 w1 w''→(vv=Pr (qJF l[k] (qCp (j,f) (List.take k l))))→K _ w'':=fun v w'' j f=>J v w'' j f
       clear J F
       simp only[qAQ,qBp,List.getElem?_toArray,List.getElem?_cons_zero,List.getElem?_cons_succ,Option.bind_some,Act.put,qqB]at q ⊢
       simp only[p0,p1]at q ⊢
       clear p0 p1
       refine qqP (by rfl) ?_
       go_wp2_with fail
       refine(qJW _ _ _ _ _).mono ?_
       rintro e w2 ⟨rfl,Y⟩
       go_wp2
       exact q _ _ Y rfl
      | 3,_,G =>
       have e:=Option.some.inj G;subst e
       have q:∀(vv:Value) (w'':World),qA4 w1 w''→(vv=Pr (j,f))→K _ w'':=fun v w'' j f=>J v w'' j f
       clear J F
       simp only[qAQ,qBp,List.getElem?_toArray,List.getElem?_cons_zero,List.getElem?_cons_succ,Option.bind_some,Act.put,qqB]at q ⊢
       refine qqP (by rfl) ?_
       have c:=hH.kept V;have c0:=c.cell 0;have c1:=c.cell 1;clear c
       go_wp2
       exact q _ _ (Below.refl _ _) rfl
      | 4,_,G =>
       have e:=Option.some.inj G;subst e
       have p2:x 2=Pr (qJF l[k] (qCp (j,f) (List.take k l))):=F 2 (by kernel_rfl)
       have p3:x 3=Pr (j,f):=F 3 (by kernel_rfl)
       have q:∀(vv:Value) (w'':World),qA4 w1 w''→(vv=Pr (qOU (qJF l[k] (qCp (j,f) (List.take k l))) (j,f)))→K _ w'':=fun v w'' j f=>J v w'' j f
       clear J F
       simp only[qAQ,qBp,List.getElem?_toArray,List.getElem?_cons_zero,List.getElem?_cons_succ,Option.bind_some,Act.put,qqB]at q ⊢
       simp only[p2,p3]at q ⊢
       clear p2 p3
       refine qqP (by rfl) ?_
       go_wp2_with fail
       refine(qQG _ _ _ _ _).mono ?_
       rintro e w2 ⟨rfl,Y⟩
       go_wp2
       exact q _ _ Y rfl
      | i+5,hi,_=>exact absurd hi (by omega)
    · intro x w1 V Z
      have p0:x 0=Pr l[k]:=Z 0 (by omega)
      have p1:x 1=Pr (qCp (j,f) (List.take k l)):=Z 1 (by omega)
      have p2:x 2=Pr (qJF l[k] (qCp (j,f) (List.take k l))):=Z 2 (by omega)
      have p3:x 3=Pr (j,f):=Z 3 (by omega)
      have p4:x 4=Pr (qOU (qJF l[k] (qCp (j,f) (List.take k l))) (j,f)):=Z 4 (by omega)
      clear Z
      simp only[List.drop_succ_cons,List.drop_zero,qAQ,qBp,List.getElem?_toArray,List.getElem?_cons_zero,List.getElem?_cons_succ,Option.bind_some,Act.put,qqB]
      simp only[p0,p1,p2,p3,p4]
      clear p0 p1 p2 p3 p4
      have I:=hO.kept V
      have f0:=I.free 0;have f1:=I.free 1;have c0:=I.cell 0;have c1:=I.cell 1
      have HK:=qh V;clear V
      have he:qCp (j,f) (List.take (k+1) l)=qOU (qJF l[k] (qCp (j,f) (List.take k l))) (j,f):=by rw[List.take_succ_eq_append_getElem a0,qLP]
      have HE:=qh he;clear he
      go_wp2
      exact⟨⟨k+1,by omega,by go_num,by rw[HE.out];exact(I.set 0 _).set 1 _,(((hb.trans (((Below.refl wr.heap.size wr).alloc qle _).mono (Nat.le_of_lt G.lt))).trans (HK.out.mono (by have:=G.lt;simp;omega))).setCell qle _).setCell qle _⟩,by simp[intOf];omega⟩
  · have:k=l.length:=by omega
    subst this
    have o0:=G.cell 0
    have o1:=G.cell 1
    have r0:=N.cell 0
    have r1:=N.cell 1
    have f0:=N.free 0
    have f1:=N.free 1
    go_wp2
    refine bodyPost_ret (v:=Pr (qCp (j,f) l)) (by simp[results,results131,go_sem,r0,r1]) rfl ⟨rfl,?_⟩
    exact((((((qal _).alloc (by simp) _).alloc (by simp;omega) _).trans (hb.mono (by omega))).setCell (by simp) _).setCell (by simp) _)
theorem qJX {w:World}{a:Option Addr}{cap:Nat}{l:List qAD}(hs:Sl w (.slice a l.length cap) l.length (qAA l)) :
 ∀i,i<l.length→∃b off,a=some ⟨b,off,none⟩∧w.cell? ⟨b,off+i*2,none⟩=some (U (l.getD i (0#64,0#64)).1)∧w.cell? ⟨b,off+i*2+1,none⟩=some (U (l.getD i (0#64,0#64)).2):=by
 intro i f
 obtain⟨b,off,c,j,_,_,_,h⟩:=hs.at (by rw[qEt];omega)
 cases j
 have F:l.getD i (0#64,0#64)=l[i]:=by simp[List.getD,f]
 obtain⟨q,G⟩:=qGZ l i f
 rw[F]
 exact⟨b,off,rfl,h _ _ q,h _ _ G⟩
theorem qQH (h:qAD)(v:Value)(l:List qAD)(w:World)(hm:l.length≤1000)(hs:Sl w v l.length (qAA l)) :
 Calls prog 131 #[.agg #[U h.1,U h.2],v] w fun e w'=>e= .returned (Pr (qCp h l))∧qA4 w w':=by
 obtain⟨a,cap,rfl⟩:=hs.len
 exact qP4 h.1 h.2 a cap l w (by omega) (qJX hs)
theorem qS3:SlT prog 247 29 1 8 (.int .u64 0):=SlT.mk' underlying247 (by kernel_rfl) rfl (by omega)
theorem qHJ (l:List (BitVec 64)):(qDm l).length=l.length:=by simp[qDm]
theorem qHK (a b:List (BitVec 64)):qDm (a++b)=qDm a++qDm b:=by simp[qDm]
theorem qLQ (l:List (BitVec 64))(i:Nat)(x:BitVec 64)(h:l[i]? = some x):(qDm l)[i]? = some (U x):=by simp[qDm,h]
theorem qS4 (x:BitVec 64)(w:World):Calls prog 181 #[U x,.int .i64 (-8)] w fun e w'=>e= .returned (U (rr x 8))∧w=w':=by
 have f:IntKind.u64.wrap (-3)=18446744073709551613:=by decide
 have c:IntKind.u64.wrap (-8)=18446744073709551608:=by decide
 go_enter func181,ntmps181
 go_wp2
 go_ret
 exact⟨by rw[←qT1 x 8 (by omega)];rfl,rfl⟩
theorem qT2 (x:BitVec 64)(w:World):Calls prog 181 #[U x,.int .i64 (3)] w fun e w'=>e= .returned (U (rl x 3))∧w=w':=by
 have f:IntKind.u64.wrap (-3)=18446744073709551613:=by decide
 have c:IntKind.u64.wrap (-8)=18446744073709551608:=by decide
 go_enter func181,ntmps181
 go_wp2
 go_ret
 exact⟨by rfl,rfl⟩
theorem qN3 (x y k:BitVec 64)(w:World):Calls prog 165 #[U x,U y,U k] w fun e w'=>e= .returned (.tuple #[U (qSE (x,y) k).1,U (qSE (x,y) k).2])∧w=w':=by
 go_enter func165,ntmps165
 go_wp2_with fail
 refine(qS4 _ _).mono ?_
 rintro e w1 ⟨rfl,rfl⟩
 go_wp2_with fail
 refine(qT2 _ _).mono ?_
 rintro e w1 ⟨rfl,rfl⟩
 go_wp2
 go_ret2
 exact⟨rfl,rfl⟩
theorem qP5 (k1 k2:BitVec 64)(w:World):Calls prog 164 #[.agg #[U k1,U k2]] w fun e w'=>∃r,e= .returned r∧w'.ownsRow w.heap.size 29 1 r 32 (qDm (qHF (k1,k2) 32))∧qA4 w w':=by
 go_enter func164,ntmps164
 go_wp2_with fail
 have Y:=Blk.new w #[U k1,U k2] 115
 refine qE4 (by kernel_rfl) (by kernel_rfl) ?_
 repeat
  refine wpQuiet_step (fun K F=>?_)
  refine qqP (by rfl) ?_
  first
   | (refine qCz ?_;apply Exists.intro;refine⟨fun w' c=>?_,F _ ?_⟩;(have f:=Y.kept c;have N:=f.cell 0;have O:=f.cell 1;go_simp;done);(clear F K;simp only[Act.put,qqB]))
   | (refine qCz ?_;apply Exists.intro;refine⟨fun w' c=>?_,F _ ?_⟩;(have f:=Y.kept c;have N:=f.cell 0;have O:=f.cell 1;go_simp;rfl);(clear F K;simp only[Act.put,qqB]))
   | (refine qEr ?_;apply Exists.intro;apply Exists.intro;apply Exists.intro;refine⟨fun w' c=>?_,fun w' c=>?_,F _ ?_⟩;(go_simp;exact⟨rfl,rfl⟩);(with_reducible first|exact Calls.kept c (trivial));(clear F K;simp only[Act.put,qqB]))
 refine wpQuiet_nil ?_
 intro w1 j
 have J:Below w.heap.size w w1:=(qal _).trans (j.mono (by simp))
 have I:w.heap.size≤w1.heap.size:=Nat.le_trans (by simp) j.size
 clear j Y
 go_wp2_with fail
 go_loopw [11,5,3,4] (fun i o l k wr=>∃n:Nat,n≤32∧i=U (BitVec.ofNat 64 n)∧l=U (kst (k1,k2) n).1∧k=U (kst (k1,k2) n).2∧wr.ownsRow w.heap.size 29 1 o n (qDm (qHF (k1,k2) n))∧Below w.heap.size w wr∧w.heap.size≤wr.heap.size)
  (fun i _ _ _ _=>32 - (intOf i).toNat)
 case atStart=>exact⟨0,by omega,by first|rfl|simp,rfl,rfl,World.ownsRow_nil _ _ _ _,J,I⟩
 case round =>
  obtain⟨n,hn,rfl,rfl,rfl,h,hb,Z⟩:=hrel
  clear J I
  by_cases V:n<32
  · have HK:=qh (qLJ (k1,k2) n)
    have i0:(0:Int)≤(n:Int):=by omega
    have i1:(n:Int)≤18446744073709551615:=by omega
    go_wp2_with (at_builtin;refine qAw qS3 rfl (by rfl) (by rfl) (by rfl) (h.alloc _) (Sl.one _ _ _) (by rfl) (qMU [(kst (k1,k2) n).2]) (by unfold maxLen;omega) (by omega) (by simp;omega) ?_;intro b' w1 q G a0)
    refine(qN3 _ _ _ _).mono ?_
    rintro e w2 ⟨rfl,rfl⟩
    go_wp2
    refine⟨⟨n+1,by omega,by simp[BitVec.ofNat_add],rfl,rfl,?_,qAF (hb.alloc Z _) (h.alloc _) G (by simp;omega),Nat.le_trans (by simp;omega) G.size⟩,?_⟩
    · rw[HK.out,qHK];exact q
    · simp[intOf,U];omega
  · have:n=32:=by omega
    subst this
    clear V hn
    go_wp2
    go_ret
    exact⟨_,rfl,h,hb⟩
theorem qFb (k1 k2 b1 b2:BitVec 64)(w:World):Calls prog 127 #[.agg #[U k1,U k2],.agg #[U b1,U b2]] w fun e w'=>e= .returned (Pr (qLK (k1,k2) (b1,b2)))∧qA4 w w':=by
 go_enter func127,ntmps127
 go_wp2_with fail
 have I:Blk (((w.alloc (.cells #[U k1,U k2] 115)).alloc (.cells #[U b1,U b2] 115)).alloc (.cells #[U 0#64,U 0#64] 115)) w.heap.size #[U k1,U k2] 115:=((Blk.new w _ _).alloc _).alloc _
 have hB:Blk (((w.alloc (.cells #[U k1,U k2] 115)).alloc (.cells #[U b1,U b2] 115)).alloc (.cells #[U 0#64,U 0#64] 115)) (w.heap.size+1) #[U b1,U b2] 115:=Blk.alloc (by simpa using Blk.new (w.alloc (.cells #[U k1,U k2] 115)) #[U b1,U b2] 115) _
 have hR:Blk (((w.alloc (.cells #[U k1,U k2] 115)).alloc (.cells #[U b1,U b2] 115)).alloc (.cells #[U 0#64,U 0#64] 115)) (w.heap.size+1+1) #[U 0#64,U 0#64] 115:=by simpa using Blk.new ((w.alloc (.cells #[U k1,U k2] 115)).alloc (.cells #[U b1,U b2] 115)) #[U 0#64,U 0#64] 115
 refine qE4 (by kernel_rfl) (by kernel_rfl) ?_
 repeat
  refine wpQuiet_step (fun K I=>?_)
  refine qqP (by rfl) ?_
  first
   | (refine qCz ?_;apply Exists.intro;refine⟨fun w' c=>?_,I _ ?_⟩;(have f:=hB.kept c;have a6:=f.cell 0;have a7:=f.cell 1;go_simp;done);(clear I K;simp only[Act.put,qqB]))
   | (refine qCz ?_;apply Exists.intro;refine⟨fun w' c=>?_,I _ ?_⟩;(have f:=hB.kept c;have a6:=f.cell 0;have a7:=f.cell 1;go_simp;rfl);(clear I K;simp only[Act.put,qqB]))
   | (refine qEr ?_;apply Exists.intro;apply Exists.intro;apply Exists.intro;refine⟨fun w' c=>?_,fun w' c=>?_,I _ ?_⟩;(go_simp;exact⟨rfl,rfl⟩);(with_reducible first|exact Calls.kept c (trivial));(clear I K;simp only[Act.put,qqB]))
 refine wpQuiet_nil ?_
 intro w1 J
 have V:Below w.heap.size w w1:=(((qal _).alloc (by simp) _).alloc (by simp;omega) _).trans (J.mono (by simp;omega))
 have q:=I.kept J
 have a0:=hR.kept J
 have k0:=q.cell 0
 have a3:=q.cell 1
 clear J I hB hR
 go_wp2_with fail
 refine(qP5 _ _ _).mono ?_
 rintro e w2 ⟨r,rfl,N,F⟩
 have O:w.heap.size≤w1.heap.size:=by have:=q.lt;omega
 have a2:Below w.heap.size w w2:=V.trans (F.mono O)
 have Z:=a0.kept F
 have a5:w.heap.size≤w2.heap.size:=Nat.le_trans O F.size
 obtain⟨g,off,cap,rfl,hcap,a8,a1,h⟩:=(Sl.of_own N).at (by rw[qHJ,qIC];omega)
 clear F N O V q a0 k0 a3
 have j:∀n,n<32→w2.cell? ⟨g,off+n,none⟩=some (U (kst (k1,k2) n).2):=fun n hn=>h n _ (qLQ _ _ _ (qMV _ _ _ hn))
 clear h
 go_wp2_with fail
 go_loopw [16,5,6] (fun i x y wr=>∃n:Nat,n≤32∧i= .int .i64 n∧x=U (qP1 (k1,k2) (b1,b2) n).1∧y=U (qP1 (k1,k2) (b1,b2) n).2∧qA4 w2 wr) (fun i _ _ _=>32 - (intOf i).toNat)
 case atStart=>exact⟨0,by omega,rfl,rfl,rfl,Below.refl _ _⟩
 case round =>
  obtain⟨n,hn,rfl,rfl,rfl,l⟩:=hrel
  by_cases Y:n<32
  · have hx:=(l.cell (p:=⟨g,off+n,none⟩) a1).trans (j n Y)
    have a9:g<wr.heap.size:=Nat.lt_of_lt_of_le a1 l.size
    have i0:(n:Int)<32:=by omega
    clear j
    go_wp2_with fail
    refine(qN3 _ _ _ _).mono ?_
    rintro e w3 ⟨rfl,rfl⟩
    go_wp2
    exact⟨⟨n+1,by omega,by go_num,rfl,rfl,l⟩,by simp[intOf];omega⟩
  · have:n=32:=by omega
    subst this
    clear Y hn j
    have G:=Z.kept l
    have a4:=a2.trans (l.mono a5)
    clear Z a2
    have r0:=G.cell 0
    have r1:=G.cell 1
    have f0:=G.free 0
    have f1:=G.free 1
    go_wp2
    refine bodyPost_ret (v:=Pr (qLK (k1,k2) (b1,b2))) (by simp[results,results127,go_sem,r0,r1];try exact⟨rfl,rfl⟩) rfl ⟨rfl,?_⟩
    exact((a4.setCell (by simp;omega) _).setCell (by simp;omega) _)
end Go.Proofs.YtdlgihbpiakebaaGreat
