import Derived.Test.YtdlgihbpiakebaaGreatMk07
import Derived.Test.YtdlgihbpiakebaaGreatMk20
import Derived.Test.YtdlgihbpiakebaaGreatMk28
import Derived.Test.YtdlgihbpiakebaaGreatMk30
import Derived.IntWalk
set_option maxRecDepth 100000
set_option maxHeartbeats 4000000
namespace Go.Proofs.YtdlgihbpiakebaaGreat
open Go Go.RowKit Tryz
theorem qEg (n:Int)(w:World):Calls prog 171 #[.int .i64 n] w fun e w'=>e= .returned (.bool (qD9 n))∧w=w':=by
 by_cases h:n=4
 · subst h;go_enter func171,ntmps171;go_wp2;go_ret;exact⟨rfl,rfl⟩
 by_cases f:n=8
 · subst f;go_enter func171,ntmps171;go_wp2;go_ret;exact⟨rfl,rfl⟩
 by_cases c:n=16
 · subst c;go_enter func171,ntmps171;go_wp2;go_ret;exact⟨rfl,rfl⟩
 have e:qD9 n=false:=by simp[qD9,h,f,c]
 rw[e]
 have l:(n==4)=false:=by simpa using h
 have q:(n==8)=false:=by simpa using f
 have j:(n==16)=false:=by simpa using c
 clear e h f c
 go_enter func171,ntmps171
 go_wp2
 go_ret
 exact⟨rfl,rfl⟩
theorem qFC (n:Int)(hn:n=4∨n=8∨n=16)(c:BitVec 64)(e:BitVec 32)(h1 h2:BitVec 64)(w:World):Calls prog 186 #[.agg #[U c,W e,.int .i64 n,U h1,U h2]] w fun e' w'=>∃b,e'= .returned (.tuple #[b,.bool true])∧w'.ownsRow w.heap.size 5 1 b 32 (qA1 (qCU ⟨c,e,n,(h1,h2)⟩))∧qA4 w w':=by
 have G:Blk (w.alloc (.cells #[U c,W e,.int .i64 n,U h1,U h2] 148)) w.heap.size #[U c,W e,.int .i64 n,U h1,U h2] 148:=Blk.new _ _ _
 have a6:qA4 w (w.alloc (.cells #[U c,W e,.int .i64 n,U h1,U h2] 148)):=qal _
 have b4:qD9 n=true:=by rcases hn with rfl|rfl|rfl<;>rfl
 have hu:∀wx:World,(convert 3 29 (.int .i64 n)).run prog wx= .ok (U (BitVec.ofInt 64 n)) wx:=fun wx=>by
  rw[qAH wx 3 29 _ .u64 _ (by kernel_rfl) underlying29,qDq]
 have q2:=G.cell 2
 clear hn
 go_enter func186,ntmps186
 go_wp2_with fail
 refine(qEg _ _).mono ?_
 rintro e' w0 ⟨rfl,rfl⟩
 rw[b4]
 clear q2
 go_wp2_with fail
 refine qA3 [(0,0),(1,0),(3,0),(4,0),(5,0),(7,0),(8,0),(9,0),(11,0),(12,0),(2,1),(6,1),(10,1),(13,1),(14,1),(15,1),(16,0),(17,0)] (by kernel_rfl) (by kernel_rfl) ?_
 intro w1 Z
 replace G:=G.kept Z
 repeat
  refine qA0 _ rfl (fun K f=>?_)
  first
   | (refine qqP (by rfl) ?_;apply Exists.intro;refine⟨fun w' a0=>?_,f _ ?_⟩;(have c:=G.kept a0;have r0:=c.cell 0;have r1:=c.cell 1;have r2:=c.cell 2;have r3:=c.cell 3;have r4:=c.cell 4;clear c;go_simp;first|done|rfl))
   | refine qqN (by rfl) (f _ ?_)
  clear f K;simp only[Act.put,qqB]
 refine qqH _ rfl (by rfl) (fun K f=>?_)
 go_wp2_with fail
 refine(qAS _ 8 (by omega) (by omega) _).mono ?_
 rintro e w2 ⟨x2,rfl,h,O⟩
 obtain⟨a2,c2,a9⟩:=(Sl.of_own h).len
 subst a9
 have s2:=Sl.of_own h
 clear h
 replace G:=G.kept O
 go_wp2
 refine f _ _ (O) ?_
 clear f K
 try simp only[Act.put,qqB]
 refine qqH _ rfl (by rfl) (fun K f=>?_)
 go_wp2_with fail
 refine(qAS _ 4 (by omega) (by omega) _).mono ?_
 rintro e w3 ⟨x3,rfl,l,N⟩
 obtain⟨a3,c3,a7⟩:=(Sl.of_own l).len
 subst a7
 have s3:=Sl.of_own l
 clear l
 replace G:=G.kept N
 replace s2:=s2.kept N
 go_wp2
 refine f _ _ (N) ?_
 clear f K
 try simp only[Act.put,qqB]
 refine qqH _ rfl (by rfl) (fun K f=>?_)
 go_wp2_with fail
 refine(qAS _ 4 (by omega) (by omega) _).mono ?_
 rintro e w4 ⟨x4,rfl,q,J⟩
 obtain⟨a4,c4,a8⟩:=(Sl.of_own q).len
 subst a8
 have s4:=Sl.of_own q
 clear q
 replace G:=G.kept J
 replace s2:=s2.kept J
 replace s3:=s3.kept J
 go_wp2
 refine f _ _ (J) ?_
 clear f K
 try simp only[Act.put,qqB]
 refine qqH _ rfl (by rfl) (fun K f=>?_)
 go_wp2_with fail
 refine(qBs _ _ _).mono ?_
 rintro e w5 ⟨x5,rfl,j,F⟩
 obtain⟨a5,c5,a1⟩:=(Sl.of_own j).len
 subst a1
 have s5:=Sl.of_own j
 clear j
 replace G:=G.kept F
 replace s2:=s2.kept F
 replace s3:=s3.kept F
 replace s4:=s4.kept F
 go_wp2
 refine f _ _ (F) ?_
 clear f K
 try simp only[Act.put,qqB]
 refine qqH _ rfl (by rfl) (fun K f=>?_)
 go_wp2
 refine f _ _ (qal _) ?_
 clear f K
 try simp only[Act.put,qqB]
 refine qqH _ rfl (by rfl) (fun K f=>?_)
 go_wp2_with fail
 refine(qCj _ [qAI c 8,qAI (e.setWidth 64) 4,qAI (BitVec.ofInt 64 n) 4,qAJ (h1,h2)] (by simp) (by simp[qA9,qAs]) _ (qBG.lit (us:=[.slice a2 8 c2,.slice a3 4 c3,.slice a4 4 c4,.slice a5 16 c5]) (.cons (by rw[qA9];exact s2) (.cons (by rw[qA9];exact s3) (.cons (by rw[qA9];exact s4) (.cons (by rw[qAs];exact s5) .nil)))) 32 4 rfl (by decide))).mono ?_
 rintro e w6 ⟨x6,rfl,I,Y⟩
 go_wp2
 refine f _ _ (Y) ?_
 clear f K
 try simp only[Act.put,qqB]
 repeat
  refine qA0 _ rfl (fun K f=>?_)
  first
   | (refine qqP (by rfl) ?_;apply Exists.intro;refine⟨fun w' a0=>?_,f _ ?_⟩;go_simp;first|done|rfl)
   | refine qqN (by rfl) (f _ ?_)
  clear f K;simp only[Act.put,qqB]
 refine qA6 ?_
 go_wp2
 go_ret2
 have b3: [qAI c 8,qAI (e.setWidth 64) 4,qAI (BitVec.ofInt 64 n) 4,qAJ (h1,h2)].flatten=qCU ⟨c,e,n,(h1,h2)⟩:=by simp[qCU]
 rw[b3,qB6]at I
 have V:=((((a6.of Z).of O).of N).of J).of F
 refine⟨x6,rfl,qAh I ?_,(V.of (qal _)).of Y⟩
 have:=V.size
 simp
 omega
theorem qHT (vb:Value)(bs:List UInt8)(hl:bs.length≤4000)(w:World)(hb:Sl w vb bs.length (qA1 bs))(h:bs.length≠32):Calls prog 142 #[vb] w fun e w'=>e= .returned (.tuple #[Rt.zero.val,.bool false])∧qA4 w w':=by
 have G:qA4 w (w.alloc (.cells #[U 0#64,W 0#32,.int .i64 0,U 0#64,U 0#64] 148)):=qal _
 have f:qA4 w ((w.alloc (.cells #[U 0#64,W 0#32,.int .i64 0,U 0#64,U 0#64] 148)).alloc (.cells #[.int .i64 8,.int .i64 4,.int .i64 4,.int .i64 16] 3)):=G.alloc (by simp) _
 have q:Blk (w.alloc (.cells #[U 0#64,W 0#32,.int .i64 0,U 0#64,U 0#64] 148)) w.heap.size #[U 0#64,W 0#32,.int .i64 0,U 0#64,U 0#64] 148:=Blk.new _ _ _
 have F:Blk ((w.alloc (.cells #[U 0#64,W 0#32,.int .i64 0,U 0#64,U 0#64] 148)).alloc (.cells #[.int .i64 8,.int .i64 4,.int .i64 4,.int .i64 16] 3)) w.heap.size #[U 0#64,W 0#32,.int .i64 0,U 0#64,U 0#64] 148:=q.alloc _
 have I:=hb.kept f
 have l:Sl ((w.alloc (.cells #[U 0#64,W 0#32,.int .i64 0,U 0#64,U 0#64] 148)).alloc (.cells #[.int .i64 8,.int .i64 4,.int .i64 4,.int .i64 16] 3)) (.slice (some ⟨w.heap.size+1,0,none⟩) 4 4) ([8,4,4,16]:List Int).length (qBg [8,4,4,16]):=by simpa [qBg] using Sl.lit (w.alloc (.cells #[U 0#64,W 0#32,.int .i64 0,U 0#64,U 0#64] 148)) #[.int .i64 8,.int .i64 4,.int .i64 4,.int .i64 16] 3 4 (by decide)
 go_enter func142,ntmps142
 go_wp2_with fail
 refine(qDA _ _ bs [8,4,4,16] hl (by simp) _ I l).mono ?_
 rintro e w3 ⟨j,v,rfl,Z⟩
 have c:=F.kept j
 have V:=f.of j
 rw[qEJ,if_neg h]
 unfold qPl
 have O:=c.cell 0
 have y0:=c.free 0
 have Y:=c.cell 1
 have y1:=c.free 1
 have z2:=c.cell 2
 have y2:=c.free 2
 have N:=c.cell 3
 have y3:=c.free 3
 have J:=c.cell 4
 have y4:=c.free 4
 clear Z G f j q F I hb l h
 go_wp2
 refine bodyPost_ret (v:=.tuple #[.agg #[U 0#64,W 0#32,.int .i64 0,U 0#64,U 0#64],.bool false]) (by simp[results,results142,go_sem,O,Y,z2,N,J];done) rfl ⟨rfl,?_⟩
 exact((((V.setCell qle _).setCell qle _).setCell qle _).setCell qle _).setCell qle _
theorem qGT (vb:Value)(bs:List UInt8)(hl:bs.length≤4000)(w:World)(hb:Sl w vb bs.length (qA1 bs))(h:bs.length=32)(hs:qD9 (qCd bs).slots=false):Calls prog 142 #[vb] w fun e w'=>e= .returned (.tuple #[Rt.zero.val,.bool false])∧qA4 w w':=by
 have a2:qA4 w (w.alloc (.cells #[U 0#64,W 0#32,.int .i64 0,U 0#64,U 0#64] 148)):=qal _
 have I:qA4 w ((w.alloc (.cells #[U 0#64,W 0#32,.int .i64 0,U 0#64,U 0#64] 148)).alloc (.cells #[.int .i64 8,.int .i64 4,.int .i64 4,.int .i64 16] 3)):=a2.alloc (by simp) _
 have Z:Blk (w.alloc (.cells #[U 0#64,W 0#32,.int .i64 0,U 0#64,U 0#64] 148)) w.heap.size #[U 0#64,W 0#32,.int .i64 0,U 0#64,U 0#64] 148:=Blk.new _ _ _
 have a1:Blk ((w.alloc (.cells #[U 0#64,W 0#32,.int .i64 0,U 0#64,U 0#64] 148)).alloc (.cells #[.int .i64 8,.int .i64 4,.int .i64 4,.int .i64 16] 3)) w.heap.size #[U 0#64,W 0#32,.int .i64 0,U 0#64,U 0#64] 148:=Z.alloc _
 have a3:=hb.kept I
 have Y:Sl ((w.alloc (.cells #[U 0#64,W 0#32,.int .i64 0,U 0#64,U 0#64] 148)).alloc (.cells #[.int .i64 8,.int .i64 4,.int .i64 4,.int .i64 16] 3)) (.slice (some ⟨w.heap.size+1,0,none⟩) 4 4) ([8,4,4,16]:List Int).length (qBg [8,4,4,16]):=by simpa [qBg] using Sl.lit (w.alloc (.cells #[U 0#64,W 0#32,.int .i64 0,U 0#64,U 0#64] 148)) #[.int .i64 8,.int .i64 4,.int .i64 4,.int .i64 16] 3 4 (by decide)
 go_enter func142,ntmps142
 go_wp2_with fail
 refine(qDA _ _ bs [8,4,4,16] hl (by simp) _ a3 Y).mono ?_
 rintro e w3 ⟨J,v,rfl,hr⟩
 have f:=a1.kept J
 have O:=I.of J
 rw[qEJ,if_pos h]
 unfold qPl
 have a0:=(hr _ (by rw[qEJ,if_pos h])).sl
 have n0:(bs.take 8).length=8:=by rw[List.length_take];omega
 have n1:((bs.drop 8).take 4).length=4:=by rw[List.length_take,List.length_drop];omega
 have n2:((bs.drop 12).take 4).length=4:=by rw[List.length_take,List.length_drop];omega
 have n3:(bs.drop 16).length=16:=by rw[List.length_drop];omega
 obtain⟨us,hv,G⟩:=a0.all
 obtain⟨u0,u1,u2,u3,rfl⟩:∃a b c d,us= [a,b,c,d]:=by
  match us,G.len with
  | [a,b,c,d],_=>exact⟨a,b,c,d,rfl⟩
 obtain⟨s0,s1,s2,s3,_⟩:=G
 obtain⟨q,qo,qc,rfl,V,a4,_,F⟩:=hv.at (by simp)
 have x0:=F 0 u0 rfl
 have x1:=F 1 u1 rfl
 have x2:=F 2 u2 rfl
 have x3:=F 3 u3 rfl
 rw[Nat.add_zero]at x0
 obtain⟨l,j⟩:∃l,l=(bs.drop 12).take 4:=⟨_,rfl⟩
 have a5:=qNo ((bs.drop 12).take 4) n2
 have a6:∀wx:World,(convert 29 3 (U (qAn l))).run prog wx= .ok (.int .i64 (qCd bs).slots) wx:=fun wx=>by
  rw[j,U,qAH wx 29 3 _ .i64 _ (by kernel_rfl) underlying3,IntWalk.i64_in _ (by omega)]
  rfl
 rw[←j]at s2 n2
 have a7:(4:Int)≤(qc:Int):=by simp at V;omega
 have z0:=f.cell 0
 have y0:=f.free 0
 have z1:=f.cell 1
 have y1:=f.free 1
 have z2:=f.cell 2
 have y2:=f.free 2
 have z3:=f.cell 3
 have y3:=f.free 3
 have z4:=f.cell 4
 have y4:=f.free 4
 have HS:=qh hs
 have N0:=qh n0
 have N1:=qh n1
 have N2:=qh n2
 have N3:=qh n3
 have H:=qh h
 have HR:=qh j
 clear hr a2 I J Z a1 a3 hb Y h hs n0 n1 n2 n3 a0 hv V a4 F a5 j
 go_wp2_with fail
 refine(qAT _ _ _ s0 (by rw[N0.out];omega) (by rw[N0.out];omega)).mono ?_
 rintro e w4 ⟨rfl,rfl⟩
 go_wp2_with fail
 refine(qAT _ _ _ s1 (by rw[N1.out];omega) (by rw[N1.out];omega)).mono ?_
 rintro e w4 ⟨rfl,rfl⟩
 go_wp2_with fail
 refine(qAT _ l _ s2 (by rw[N2.out];omega) (by rw[N2.out];omega)).mono ?_
 rintro e w4 ⟨rfl,rfl⟩
 go_wp2_with fail
 refine(qCo _ _ _ s3 N3.out).mono ?_
 rintro e w4 ⟨rfl,N⟩
 replace f:=f.kept N
 replace O:=qA4.of O N
 clear x0 x1 x2 x3 s0 s1 s2 s3 N z0 z1 z2 z3 z4 y0 y1 y2 y3 y4
 go_wp2_with fail
 have hP:=Blk.new w4 #[U (qAr (bs.drop 16)).1,U (qAr (bs.drop 16)).2] 115
 replace f:=f.alloc (.cells #[U (qAr (bs.drop 16)).1,U (qAr (bs.drop 16)).2] 115)
 replace O:=O.alloc (by have:=O.size;omega) (.cells #[U (qAr (bs.drop 16)).1,U (qAr (bs.drop 16)).2] 115)
 generalize w4.alloc (.cells #[U (qAr (bs.drop 16)).1,U (qAr (bs.drop 16)).2] 115)=W5 at *
 have p0:=hP.cell 0
 have p1:=hP.cell 1
 have z0:=f.cell 0
 have y0:=f.free 0
 have z1:=f.cell 1
 have y1:=f.free 1
 have z2:=f.cell 2
 have y2:=f.free 2
 have z3:=f.cell 3
 have y3:=f.free 3
 have z4:=f.cell 4
 have y4:=f.free 4
 refine(qEg _ _).mono ?_
 rintro e w5 ⟨rfl,rfl⟩
 rw[HS.out]
 go_wp2
 refine bodyPost_ret (v:=.tuple #[.agg #[U 0#64,W 0#32,.int .i64 0,U 0#64,U 0#64],.bool false]) (by simp[results,results142,go_sem,z0,z1,z2,z3,z4];done) rfl ⟨rfl,?_⟩
 exact((((O.setCell qle _).setCell qle _).setCell qle _).setCell qle _).setCell qle _
theorem qHU (vb:Value)(bs:List UInt8)(hl:bs.length≤4000)(w:World)(hb:Sl w vb bs.length (qA1 bs))(h:bs.length=32)(hs:qD9 (qCd bs).slots=true):Calls prog 142 #[vb] w fun e w'=>e= .returned (.tuple #[(qCd bs).val,.bool true])∧qA4 w w':=by
 have a2:qA4 w (w.alloc (.cells #[U 0#64,W 0#32,.int .i64 0,U 0#64,U 0#64] 148)):=qal _
 have I:qA4 w ((w.alloc (.cells #[U 0#64,W 0#32,.int .i64 0,U 0#64,U 0#64] 148)).alloc (.cells #[.int .i64 8,.int .i64 4,.int .i64 4,.int .i64 16] 3)):=a2.alloc (by simp) _
 have Z:Blk (w.alloc (.cells #[U 0#64,W 0#32,.int .i64 0,U 0#64,U 0#64] 148)) w.heap.size #[U 0#64,W 0#32,.int .i64 0,U 0#64,U 0#64] 148:=Blk.new _ _ _
 have a1:Blk ((w.alloc (.cells #[U 0#64,W 0#32,.int .i64 0,U 0#64,U 0#64] 148)).alloc (.cells #[.int .i64 8,.int .i64 4,.int .i64 4,.int .i64 16] 3)) w.heap.size #[U 0#64,W 0#32,.int .i64 0,U 0#64,U 0#64] 148:=Z.alloc _
 have a3:=hb.kept I
 have Y:Sl ((w.alloc (.cells #[U 0#64,W 0#32,.int .i64 0,U 0#64,U 0#64] 148)).alloc (.cells #[.int .i64 8,.int .i64 4,.int .i64 4,.int .i64 16] 3)) (.slice (some ⟨w.heap.size+1,0,none⟩) 4 4) ([8,4,4,16]:List Int).length (qBg [8,4,4,16]):=by simpa [qBg] using Sl.lit (w.alloc (.cells #[U 0#64,W 0#32,.int .i64 0,U 0#64,U 0#64] 148)) #[.int .i64 8,.int .i64 4,.int .i64 4,.int .i64 16] 3 4 (by decide)
 go_enter func142,ntmps142
 go_wp2_with fail
 refine(qDA _ _ bs [8,4,4,16] hl (by simp) _ a3 Y).mono ?_
 rintro e w3 ⟨J,v,rfl,hr⟩
 have f:=a1.kept J
 have O:=I.of J
 rw[qEJ,if_pos h]
 unfold qPl
 have a0:=(hr _ (by rw[qEJ,if_pos h])).sl
 have n0:(bs.take 8).length=8:=by rw[List.length_take];omega
 have n1:((bs.drop 8).take 4).length=4:=by rw[List.length_take,List.length_drop];omega
 have n2:((bs.drop 12).take 4).length=4:=by rw[List.length_take,List.length_drop];omega
 have n3:(bs.drop 16).length=16:=by rw[List.length_drop];omega
 obtain⟨us,hv,G⟩:=a0.all
 obtain⟨u0,u1,u2,u3,rfl⟩:∃a b c d,us= [a,b,c,d]:=by
  match us,G.len with
  | [a,b,c,d],_=>exact⟨a,b,c,d,rfl⟩
 obtain⟨s0,s1,s2,s3,_⟩:=G
 obtain⟨q,qo,qc,rfl,V,a4,_,F⟩:=hv.at (by simp)
 have x0:=F 0 u0 rfl
 have x1:=F 1 u1 rfl
 have x2:=F 2 u2 rfl
 have x3:=F 3 u3 rfl
 rw[Nat.add_zero]at x0
 obtain⟨l,j⟩:∃l,l=(bs.drop 12).take 4:=⟨_,rfl⟩
 have a5:=qNo ((bs.drop 12).take 4) n2
 have a6:∀wx:World,(convert 29 3 (U (qAn l))).run prog wx= .ok (.int .i64 (qCd bs).slots) wx:=fun wx=>by
  rw[j,U,qAH wx 29 3 _ .i64 _ (by kernel_rfl) underlying3,IntWalk.i64_in _ (by omega)]
  rfl
 rw[←j]at s2 n2
 have a7:(4:Int)≤(qc:Int):=by simp at V;omega
 have z0:=f.cell 0
 have y0:=f.free 0
 have z1:=f.cell 1
 have y1:=f.free 1
 have z2:=f.cell 2
 have y2:=f.free 2
 have z3:=f.cell 3
 have y3:=f.free 3
 have z4:=f.cell 4
 have y4:=f.free 4
 have HS:=qh hs
 have N0:=qh n0
 have N1:=qh n1
 have N2:=qh n2
 have N3:=qh n3
 have H:=qh h
 have HR:=qh j
 clear hr a2 I J Z a1 a3 hb Y h hs n0 n1 n2 n3 a0 hv V a4 F a5 j
 go_wp2_with fail
 refine(qAT _ _ _ s0 (by rw[N0.out];omega) (by rw[N0.out];omega)).mono ?_
 rintro e w4 ⟨rfl,rfl⟩
 go_wp2_with fail
 refine(qAT _ _ _ s1 (by rw[N1.out];omega) (by rw[N1.out];omega)).mono ?_
 rintro e w4 ⟨rfl,rfl⟩
 go_wp2_with fail
 refine(qAT _ l _ s2 (by rw[N2.out];omega) (by rw[N2.out];omega)).mono ?_
 rintro e w4 ⟨rfl,rfl⟩
 go_wp2_with fail
 refine(qCo _ _ _ s3 N3.out).mono ?_
 rintro e w4 ⟨rfl,N⟩
 replace f:=f.kept N
 replace O:=qA4.of O N
 clear x0 x1 x2 x3 s0 s1 s2 s3 N z0 z1 z2 z3 z4 y0 y1 y2 y3 y4
 go_wp2_with fail
 have hP:=Blk.new w4 #[U (qAr (bs.drop 16)).1,U (qAr (bs.drop 16)).2] 115
 replace f:=f.alloc (.cells #[U (qAr (bs.drop 16)).1,U (qAr (bs.drop 16)).2] 115)
 replace O:=O.alloc (by have:=O.size;omega) (.cells #[U (qAr (bs.drop 16)).1,U (qAr (bs.drop 16)).2] 115)
 generalize w4.alloc (.cells #[U (qAr (bs.drop 16)).1,U (qAr (bs.drop 16)).2] 115)=W5 at *
 have p0:=hP.cell 0
 have p1:=hP.cell 1
 have z0:=f.cell 0
 have y0:=f.free 0
 have z1:=f.cell 1
 have y1:=f.free 1
 have z2:=f.cell 2
 have y2:=f.free 2
 have z3:=f.cell 3
 have y3:=f.free 3
 have z4:=f.cell 4
 have y4:=f.free 4
 refine(qEg _ _).mono ?_
 rintro e w5 ⟨rfl,rfl⟩
 rw[HS.out]
 go_wp2
 refine bodyPost_ret (v:=.tuple #[.agg #[U (qCd bs).count,W (qCd bs).epoch,.int .i64 ((qCd bs).slots),U (qCd bs).hash.1,U (qCd bs).hash.2],.bool true]) (by simp[qCd,HR.out,results,results142,go_sem,z0,z1,z2,z3,z4];done) rfl ⟨rfl,?_⟩
 exact((((O.setCell qle _).setCell qle _).setCell qle _).setCell qle _).setCell qle _

end Go.Proofs.YtdlgihbpiakebaaGreat
