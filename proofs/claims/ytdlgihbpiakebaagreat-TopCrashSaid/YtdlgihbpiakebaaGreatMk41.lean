import Derived.Test.YtdlgihbpiakebaaGreatMk06
import Derived.Test.YtdlgihbpiakebaaGreatMk15
import Derived.Test.YtdlgihbpiakebaaGreatMk30
import Derived.Test.YtdlgihbpiakebaaGreatMk35
set_option maxRecDepth 100000
set_option maxHeartbeats 4000000
namespace Go.Proofs.YtdlgihbpiakebaaGreat
open Go Go.RowKit Tryz
theorem qDD (k:Int)(b:Bool)(z:Int)(e q:BitVec 32)(v t1 t2:BitVec 64)(s:Int)(lo: -9223372036854775808≤s)(hi:s≤9223372036854775807)(h:qAM (⟨k,b,z,e,q,v,(t1,t2)⟩:Lf) s=true)(w:World):Calls prog 146 #[.agg #[.int .i64 k,.bool b,.int .i64 z,W e,W q,U v,U t1,U t2],.int .i64 s] w fun e' w'=>∃x,e'= .returned (.tuple #[x,.bool true])∧w'.ownsRow w.heap.size 5 1 x 32 (qA1 (qBr (⟨k,b,z,e,q,v,(t1,t2)⟩:Lf)))∧qA4 w w':=by
 cases b
 · exact qGU k z e q v t1 t2 s lo hi h w
 · exact qHW k z e q v t1 t2 s lo hi h w
section
open Go.ChangeShapes Go.WideShapes Go.ChangeAt
variable {H:Type} {enc:TypeId×Value→H} {w:World} {base:Nat} {spare:Nat→Bool} {held:Bool} {r:Reach} {b0:Nat}
end
theorem qJ5 (va vb:Value)(xs ys:List UInt8)(w:World)(ha:Sl w va xs.length (qA1 xs))(hb:Sl w vb ys.length (qA1 ys)):Calls prog 98 #[va,vb] w fun e w'=>e= .returned (.bool (xs==ys))∧w=w':=by
 have c:=qDu ha
 have f:=qDu hb
 clear ha hb
 go_enter func98,ntmps98
 go_wp2
 go_ret
 exact⟨rfl,rfl⟩
theorem qI0 (vb:Value)(bs:List UInt8)(s:Int)(hl:bs.length≤4000)(w:World)(hb:Sl w vb bs.length (qA1 bs))(h:bs.length≠32):Calls prog 107 #[vb,.int .i64 s] w fun e w'=>e= .returned (.tuple #[Lf.zero.val,.bool false])∧qA4 w w':=by
 have G:qA4 w (w.alloc (.cells #[.int .i64 0,.bool false,.int .i64 0,W 0#32,W 0#32,U 0#64,U 0#64,U 0#64] 117)):=qal _
 have f:qA4 w ((w.alloc (.cells #[.int .i64 0,.bool false,.int .i64 0,W 0#32,W 0#32,U 0#64,U 0#64,U 0#64] 117)).alloc (.cells #[.int .i64 1,.int .i64 1,.int .i64 2,.int .i64 4,.int .i64 8,.int .i64 16] 3)):=G.alloc (by simp) _
 have q:Blk (w.alloc (.cells #[.int .i64 0,.bool false,.int .i64 0,W 0#32,W 0#32,U 0#64,U 0#64,U 0#64] 117)) w.heap.size #[.int .i64 0,.bool false,.int .i64 0,W 0#32,W 0#32,U 0#64,U 0#64,U 0#64] 117:=Blk.new _ _ _
 have F:Blk ((w.alloc (.cells #[.int .i64 0,.bool false,.int .i64 0,W 0#32,W 0#32,U 0#64,U 0#64,U 0#64] 117)).alloc (.cells #[.int .i64 1,.int .i64 1,.int .i64 2,.int .i64 4,.int .i64 8,.int .i64 16] 3)) w.heap.size #[.int .i64 0,.bool false,.int .i64 0,W 0#32,W 0#32,U 0#64,U 0#64,U 0#64] 117:=q.alloc _
 have I:=hb.kept f
 have l:Sl ((w.alloc (.cells #[.int .i64 0,.bool false,.int .i64 0,W 0#32,W 0#32,U 0#64,U 0#64,U 0#64] 117)).alloc (.cells #[.int .i64 1,.int .i64 1,.int .i64 2,.int .i64 4,.int .i64 8,.int .i64 16] 3)) (.slice (some ⟨w.heap.size+1,0,none⟩) 6 6) ([1,1,2,4,8,16]:List Int).length (qBg [1,1,2,4,8,16]):=by simpa [qBg] using Sl.lit (w.alloc (.cells #[.int .i64 0,.bool false,.int .i64 0,W 0#32,W 0#32,U 0#64,U 0#64,U 0#64] 117)) #[.int .i64 1,.int .i64 1,.int .i64 2,.int .i64 4,.int .i64 8,.int .i64 16] 3 6 (by decide)
 go_enter func107,ntmps107
 go_wp2_with fail
 refine(qDA _ _ bs [1,1,2,4,8,16] hl (by simp) _ I l).mono ?_
 rintro e w3 ⟨j,v,rfl,Y⟩
 have c:=F.kept j
 have hk:=f.of j
 rw[qEI,if_neg h]
 unfold qPl
 have O:=c.cell 0
 have y0:=c.free 0
 have V:=c.cell 1
 have y1:=c.free 1
 have z2:=c.cell 2
 have y2:=c.free 2
 have Z:=c.cell 3
 have y3:=c.free 3
 have N:=c.cell 4
 have y4:=c.free 4
 have z5:=c.cell 5
 have y5:=c.free 5
 have z6:=c.cell 6
 have y6:=c.free 6
 have J:=c.cell 7
 have y7:=c.free 7
 clear Y G f j q F I hb l h
 go_wp2
 refine bodyPost_ret (v:=.tuple #[.agg #[.int .i64 0,.bool false,.int .i64 0,W 0#32,W 0#32,U 0#64,U 0#64,U 0#64],.bool false]) (by simp[results,results107,go_sem,O,V,z2,Z,N,z5,z6,J];done) rfl ⟨rfl,?_⟩
 exact((((((((hk.setCell qle _).setCell qle _).setCell qle _).setCell qle _).setCell qle _).setCell qle _).setCell qle _).setCell qle _)
set_option maxHeartbeats 16000000 in
theorem qI1 (vb:Value)(bs:List UInt8)(s:Int)(lo: -9223372036854775808≤s)(hi:s≤9223372036854775807)(hl:bs.length≤4000)(w:World)(V:Sl w vb bs.length (qA1 bs))(h:bs.length=32)(hq:decide (((qAn (bs.take 1)).toNat:Int)=1)=true):Calls prog 107 #[vb,.int .i64 s] w fun e w'=>e= .returned (.tuple #[((qBO bs s).getD Lf.zero).val,.bool (qBO bs s).isSome])∧qA4 w w':=by
 have d1:qA4 w (w.alloc (.cells #[.int .i64 0,.bool false,.int .i64 0,W 0#32,W 0#32,U 0#64,U 0#64,U 0#64] 117)):=qal _
 have c6:qA4 w ((w.alloc (.cells #[.int .i64 0,.bool false,.int .i64 0,W 0#32,W 0#32,U 0#64,U 0#64,U 0#64] 117)).alloc (.cells #[.int .i64 1,.int .i64 1,.int .i64 2,.int .i64 4,.int .i64 8,.int .i64 16] 3)):=d1.alloc (by simp) _
 have d0:Blk (w.alloc (.cells #[.int .i64 0,.bool false,.int .i64 0,W 0#32,W 0#32,U 0#64,U 0#64,U 0#64] 117)) w.heap.size #[.int .i64 0,.bool false,.int .i64 0,W 0#32,W 0#32,U 0#64,U 0#64,U 0#64] 117:=Blk.new _ _ _
 have d4:Blk ((w.alloc (.cells #[.int .i64 0,.bool false,.int .i64 0,W 0#32,W 0#32,U 0#64,U 0#64,U 0#64] 117)).alloc (.cells #[.int .i64 1,.int .i64 1,.int .i64 2,.int .i64 4,.int .i64 8,.int .i64 16] 3)) w.heap.size #[.int .i64 0,.bool false,.int .i64 0,W 0#32,W 0#32,U 0#64,U 0#64,U 0#64] 117:=d0.alloc _
 have d6:=V.kept c6
 have c9:Sl ((w.alloc (.cells #[.int .i64 0,.bool false,.int .i64 0,W 0#32,W 0#32,U 0#64,U 0#64,U 0#64] 117)).alloc (.cells #[.int .i64 1,.int .i64 1,.int .i64 2,.int .i64 4,.int .i64 8,.int .i64 16] 3)) (.slice (some ⟨w.heap.size+1,0,none⟩) 6 6) ([1,1,2,4,8,16]:List Int).length (qBg [1,1,2,4,8,16]):=by simpa [qBg] using Sl.lit (w.alloc (.cells #[.int .i64 0,.bool false,.int .i64 0,W 0#32,W 0#32,U 0#64,U 0#64,U 0#64] 117)) #[.int .i64 1,.int .i64 1,.int .i64 2,.int .i64 4,.int .i64 8,.int .i64 16] 3 6 (by decide)
 go_enter func107,ntmps107
 go_wp2_with fail
 refine(qDA _ _ bs [1,1,2,4,8,16] hl (by simp) _ d6 c9).mono ?_
 rintro e w3 ⟨c5,v,rfl,hr⟩
 have j:=d4.kept c5
 have Y:=c6.of c5
 rw[qEI,if_pos h]
 unfold qPl
 have c7:=(hr _ (by rw[qEI,if_pos h])).sl
 have m0:(bs.take 1).length=1:=by simp;omega
 have m1:((bs.drop 1).take 1).length=1:=by simp;omega
 have m2:((bs.drop 2).take 2).length=2:=by simp;omega
 have m3:((bs.drop 4).take 4).length=4:=by simp;omega
 have m4:((bs.drop 8).take 8).length=8:=by simp;omega
 have m5:(bs.drop 16).length=16:=by simp;omega
 have b8:qEH bs s=⟨((qAn (bs.take 1)).toNat:Int),qAn ((bs.drop 1).take 1)==1#64,((qAn ((bs.drop 2).take 2)).toNat:Int),(qAn ((bs.drop 4).take 4)).setWidth 32,BitVec.ofInt 32 s,qAn ((bs.drop 8).take 8),qAr (bs.drop 16)⟩:=by
  unfold qEH
  rw[if_pos (by simpa using hq)]
 obtain⟨r0,e0⟩:∃r,r=bs.take 1:=⟨_,rfl⟩
 obtain⟨r1,e1⟩:∃r,r=(bs.drop 1).take 1:=⟨_,rfl⟩
 obtain⟨r2,e2⟩:∃r,r=(bs.drop 2).take 2:=⟨_,rfl⟩
 obtain⟨r3,e3⟩:∃r,r=(bs.drop 4).take 4:=⟨_,rfl⟩
 obtain⟨r4,e4⟩:∃r,r=(bs.drop 8).take 8:=⟨_,rfl⟩
 obtain⟨r5,e5⟩:∃r,r=bs.drop 16:=⟨_,rfl⟩
 rw[←e0,←e1,←e2,←e3,←e4,←e5]at c7 b8
 rw[←e0]at hq
 rw[←e0]at m0
 rw[←e1]at m1
 rw[←e2]at m2
 rw[←e3]at m3
 rw[←e4]at m4
 rw[←e5]at m5
 have L0:=qHP r0 1 m0 (by omega)
 have L2:=qHP r2 2 m2 (by omega)
 have c2:∀wx:World,(convert 29 3 (U (qAn r0))).run prog wx= .ok (.int .i64 ((qAn r0).toNat:Int)) wx:=fun wx=>by
  rw[U,qAH wx 29 3 _ .i64 _ (by kernel_rfl) underlying3,IntWalk.i64_in _ (by omega)]
 have c3:∀wx:World,(convert 29 3 (U (qAn r2))).run prog wx= .ok (.int .i64 ((qAn r2).toNat:Int)) wx:=fun wx=>by
  rw[U,qAH wx 29 3 _ .i64 _ (by kernel_rfl) underlying3,IntWalk.i64_in _ (by omega)]
 obtain⟨k0,ek⟩:∃k:Int,k=((qAn r0).toNat:Int):=⟨_,rfl⟩
 obtain⟨N,ez⟩:∃k:Int,k=((qAn r2).toNat:Int):=⟨_,rfl⟩
 rw[←ek]at b8 hq c2
 rw[←ez]at b8 c3
 obtain⟨us,hv,c1⟩:=c7.all
 obtain⟨u0,u1,u2,u3,u4,u5,rfl⟩:∃a b c d e f,us= [a,b,c,d,e,f]:=by
  match us,c1.len with
  | [a,b,c,d,e,f],_=>exact⟨a,b,c,d,e,f,rfl⟩
 obtain⟨s0,s1,s2,s3,s4,s5,_⟩:=c1
 obtain⟨q,qo,qc,rfl,d2,f4,_,a8⟩:=hv.at (by simp)
 have x0:=a8 0 u0 rfl
 have x1:=a8 1 u1 rfl
 have x2:=a8 2 u2 rfl
 have x3:=a8 3 u3 rfl
 have x4:=a8 4 u4 rfl
 have x5:=a8 5 u5 rfl
 rw[Nat.add_zero]at x0
 have f7:(6:Int)≤(qc:Int):=by simp at d2;omega
 have M0:=qh m0
 have M1:=qh m1
 have M2:=qh m2
 have M3:=qh m3
 have M4:=qh m4
 have M5:=qh m5
 have H:=qh h
 have b7:=qh b8
 have HQ:=qh hq
 have e9:=qh c2
 have d8:=qh c3
 have E:=qh (And.intro e0 (And.intro e1 (And.intro e2 (And.intro e3 (And.intro e4 e5)))))
 clear hr c7 hv a8 d2 f4 d1 c6 c5 d0 d4 d6 c9 h b8 hq c2 c3 ek ez L0 L2 m0 m1 m2 m3 m4 m5 e0 e1 e2 e3 e4 e5
 go_wp2_with fail
 refine wp_loop_rounds 6 ?_
 rw[rounds_succ]
 go_wp2_with fail
 refine(qAT _ r0 _ (s0.kept ((qal _).alloc (by simp) _)) (by rw[M0.out];omega) (by rw[M0.out];omega)).mono ?_
 rintro e w4 ⟨rfl,rfl⟩
 go_wp2_with fail
 rw[rounds_succ]
 go_wp2_with fail
 refine(qAT _ r1 _ (s1.kept ((qal _).alloc (by simp) _)) (by rw[M1.out];omega) (by rw[M1.out];omega)).mono ?_
 rintro e w4 ⟨rfl,rfl⟩
 go_wp2_with fail
 rw[rounds_succ]
 go_wp2_with fail
 refine(qAT _ r2 _ (s2.kept ((qal _).alloc (by simp) _)) (by rw[M2.out];omega) (by rw[M2.out];omega)).mono ?_
 rintro e w4 ⟨rfl,rfl⟩
 go_wp2_with fail
 rw[rounds_succ]
 go_wp2_with fail
 refine(qAT _ r3 _ (s3.kept ((qal _).alloc (by simp) _)) (by rw[M3.out];omega) (by rw[M3.out];omega)).mono ?_
 rintro e w4 ⟨rfl,rfl⟩
 go_wp2_with fail
 rw[rounds_succ]
 go_wp2_with fail
 refine(qAT _ r4 _ (s4.kept ((qal _).alloc (by simp) _)) (by rw[M4.out];omega) (by rw[M4.out];omega)).mono ?_
 rintro e w4 ⟨rfl,rfl⟩
 go_wp2_with fail
 rw[rounds_succ]
 go_wp2_with fail
 obtain⟨J,h8⟩:∃Z,Z=w3.heap.size:=⟨_,rfl⟩
 have hA:Blk ((w3.alloc (.cells #[.int .i64 0,.bool false,.int .i64 0,W 0#32,W 0#32,U 0#64,U 0#64,U 0#64] 117)).alloc (.cells #[U (qAn r0),U (qAn r1),U (qAn r2),U (qAn r3),U (qAn r4)] 233)) (w3.heap.size+1) #[U (qAn r0),U (qAn r1),U (qAn r2),U (qAn r3),U (qAn r4)] 233:=by simpa using Blk.new (w3.alloc (.cells #[.int .i64 0,.bool false,.int .i64 0,W 0#32,W 0#32,U 0#64,U 0#64,U 0#64] 117)) #[U (qAn r0),U (qAn r1),U (qAn r2),U (qAn r3),U (qAn r4)] 233
 have F:Blk ((w3.alloc (.cells #[.int .i64 0,.bool false,.int .i64 0,W 0#32,W 0#32,U 0#64,U 0#64,U 0#64] 117)).alloc (.cells #[U (qAn r0),U (qAn r1),U (qAn r2),U (qAn r3),U (qAn r4)] 233)) w3.heap.size #[.int .i64 0,.bool false,.int .i64 0,W 0#32,W 0#32,U 0#64,U 0#64,U 0#64] 117:=(Blk.new _ _ _).alloc _
 have a9:qA4 w3 ((w3.alloc (.cells #[.int .i64 0,.bool false,.int .i64 0,W 0#32,W 0#32,U 0#64,U 0#64,U 0#64] 117)).alloc (.cells #[U (qAn r0),U (qAn r1),U (qAn r2),U (qAn r3),U (qAn r4)] 233)):=(qal _).alloc (by simp) _
 have b5:w.heap.size<J:=by rw[h8];exact j.lt
 replace j:=j.kept a9
 replace x5:=a9.at x5
 have c4:q<J:=by rw[h8];assumption
 have b9:=s5.low
 rw[←h8]at b9
 have c8:=V.low
 have c0:∀a c,vb= .slice (some a) bs.length c→0<(qA1 bs).length→a.block<J:=fun a c h1 h2=>Nat.lt_trans (c8 a c h1 h2) b5
 replace s5:=s5.kept a9
 replace V:=(V.kept Y).kept a9
 replace Y:=qA4.of Y a9
 generalize ((w3.alloc (.cells #[.int .i64 0,.bool false,.int .i64 0,W 0#32,W 0#32,U 0#64,U 0#64,U 0#64] 117)).alloc (.cells #[U (qAn r0),U (qAn r1),U (qAn r2),U (qAn r3),U (qAn r4)] 233))=W5 at *
 rw[←h8]at hA F
 simp only[←h8]
 clear h8 a9 s0 s1 s2 s3 s4 x0 x1 x2 x3 x4
 refine qAb [J] [(0,0),(1,0),(2,0),(3,0),(4,0),(5,0),(6,0),(7,0),(8,0),(9,0),(10,1),(11,0),(12,1),(13,0),(14,2)] (by kernel_rfl) (by kernel_rfl) ?_
 intro w6 I
 replace hA:=hA.kept I
 replace F:=F.kept I
 replace j:=j.kept I
 replace s5:=s5.kept I
 replace V:=V.kept I
 replace x5:=I.at x5
 replace Y:=qA4.of Y I
 clear I
 repeat
  refine qA0 _ rfl (fun K O=>?_)
  first
   | (refine qqP (by rfl) ?_;apply Exists.intro;refine⟨fun w' b3=>?_,O _ ?_⟩;(have c:=hA.chg b3;have a0:=c.cell 0;have a1:=c.cell 1;have a2:=c.cell 2;have a3:=c.cell 3;have a4:=c.cell 4;clear c;have f0:=e9.out;have f2:=d8.out;go_simp;first|done|rfl))
   | refine qqN (by rfl) (O _ ?_)
  clear O K;simp only[Act.put,qqB]
 refine qqH _ rfl (by rfl) (fun K O=>?_)
 have l0:=F.cell 0
 have l1:=F.cell 1
 have l2:=F.cell 2
 have e7:=F.free 0
 have e8:=F.free 1
 have d9:=F.free 2
 go_wp2
 refine O _ _ (Chg.step (by simp) _) ?_
 clear O K
 try simp only[Act.put,qqB]
 repeat
  refine qA0 _ rfl (fun K O=>?_)
  first
   | (refine qqP (by rfl) ?_;apply Exists.intro;refine⟨fun w' b3=>?_,O _ ?_⟩;go_simp;first|done|rfl)
   | refine qqN (by rfl) (O _ ?_)
  clear O K;simp only[Act.put,qqB]
 refine qqH _ rfl (by rfl) (fun K O=>?_)
 go_wp2
 refine O _ _ (Chg.step (by simp) _) ?_
 clear O K
 try simp only[Act.put,qqB]
 repeat
  refine qA0 _ rfl (fun K O=>?_)
  first
   | (refine qqP (by rfl) ?_;apply Exists.intro;refine⟨fun w' b3=>?_,O _ ?_⟩;go_simp;first|done|rfl)
   | refine qqN (by rfl) (O _ ?_)
  clear O K;simp only[Act.put,qqB]
 refine qAg _ rfl (fun K O=>?_)
 refine qqP (by rfl) ?_
 go_wp2
 refine qA6 ?_
 clear l0 l1 l2 e7 e8 d9
 have G:Below J w6 (((w6.setCell ⟨J,0,none⟩ (.int .i64 k0)).setCell ⟨J,1,none⟩ (.bool (qAn r1==1#64))).setCell ⟨J,2,none⟩ ((.int .i64 N))):=(qAa (qAa (qAa (Below.refl _ _) 0 (.int .i64 k0)) 1 (.bool (qAn r1==1#64))) 2 ((.int .i64 N)))
 have a7:Chg [J] w6 (((w6.setCell ⟨J,0,none⟩ (.int .i64 k0)).setCell ⟨J,1,none⟩ (.bool (qAn r1==1#64))).setCell ⟨J,2,none⟩ ((.int .i64 N))):=(qCm (qCm (qCm (Chg.refl _ _) 0 (.int .i64 k0)) 1 (.bool (qAn r1==1#64))) 2 ((.int .i64 N)))
 have a6:Blk (((w6.setCell ⟨J,0,none⟩ (.int .i64 k0)).setCell ⟨J,1,none⟩ (.bool (qAn r1==1#64))).setCell ⟨J,2,none⟩ ((.int .i64 N))) J #[.int .i64 k0,.bool (qAn r1==1#64),.int .i64 N,W 0#32,W 0#32,U 0#64,U 0#64,U 0#64] 117:=by
  have:=(((F.set 0 (.int .i64 k0)).set 1 (.bool (qAn r1==1#64))).set 2 ((.int .i64 N)))
  simpa using this
 replace hA:=hA.chg a7
 replace j:=j.below G b5
 replace x5:=qDL G x5 c4
 replace s5:=s5.below G b9
 replace V:=V.below G c0
 replace Y:=Y.trans (G.mono (by omega))
 clear F a7 G
 generalize (((w6.setCell ⟨J,0,none⟩ (.int .i64 k0)).setCell ⟨J,1,none⟩ (.bool (qAn r1==1#64))).setCell ⟨J,2,none⟩ ((.int .i64 N)))=W7 at *
 have F:=a6
 clear a6
 have q1:(k0==1)=true:=by have:=HQ.out;simpa using this
 have l0:=F.cell 0
 have l4:=F.cell 4
 have f3:=F.free 4
 have f6:=fun wx=>qFx (P:=prog) wx 3 94 s (by kernel_rfl) underlying94
 go_wp2_with fail
 clear q1 l0 l4 f3 f6
 have G:Below J W7 (W7.setCell ⟨J,4,none⟩ (W (BitVec.ofInt 32 s))):=(qAa (Below.refl _ _) 4 (W (BitVec.ofInt 32 s)))
 have a7:Chg [J] W7 (W7.setCell ⟨J,4,none⟩ (W (BitVec.ofInt 32 s))):=(qCm (Chg.refl _ _) 4 (W (BitVec.ofInt 32 s)))
 have a6:Blk (W7.setCell ⟨J,4,none⟩ (W (BitVec.ofInt 32 s))) J #[.int .i64 k0,.bool (qAn r1==1#64),.int .i64 N,W 0#32,W (BitVec.ofInt 32 s),U 0#64,U 0#64,U 0#64] 117:=by
  have:=(F.set 4 (W (BitVec.ofInt 32 s)))
  simpa using this
 replace hA:=hA.chg a7
 replace j:=j.below G b5
 replace x5:=qDL G x5 c4
 replace s5:=s5.below G b9
 replace V:=V.below G c0
 replace Y:=Y.trans (G.mono (by omega))
 clear F a7 G
 generalize (W7.setCell ⟨J,4,none⟩ (W (BitVec.ofInt 32 s)))=W8 at *
 have F:=a6
 clear a6
 refine qAb [J] [(0,0),(1,0),(2,0),(3,0),(4,0),(5,0),(6,0),(7,1),(8,0),(9,0),(10,1)] (by kernel_rfl) (by kernel_rfl) ?_
 intro w6 I
 replace hA:=hA.kept I
 replace F:=F.kept I
 replace j:=j.kept I
 replace s5:=s5.kept I
 replace V:=V.kept I
 replace x5:=I.at x5
 replace Y:=qA4.of Y I
 clear I
 repeat
  refine qA0 _ rfl (fun K O=>?_)
  first
   | (refine qqP (by rfl) ?_;apply Exists.intro;refine⟨fun w' b3=>?_,O _ ?_⟩;(have c:=hA.chg b3;have a3:=c.cell 3;have a4:=c.cell 4;clear c;go_simp;first|done|rfl))
   | refine qqN (by rfl) (O _ ?_)
  clear O K;simp only[Act.put,qqB]
 refine qqH _ rfl (by rfl) (fun K O=>?_)
 have l3:=F.cell 3
 have l5:=F.cell 5
 have f1:=F.free 3
 have d7:=F.free 5
 go_wp2
 refine O _ _ (Chg.step (by simp) _) ?_
 clear O K
 try simp only[Act.put,qqB]
 repeat
  refine qA0 _ rfl (fun K O=>?_)
  first
   | (refine qqP (by rfl) ?_;apply Exists.intro;refine⟨fun w' b3=>?_,O _ ?_⟩;go_simp;first|done|rfl)
   | refine qqN (by rfl) (O _ ?_)
  clear O K;simp only[Act.put,qqB]
 refine qqH _ rfl (by rfl) (fun K O=>?_)
 go_wp2
 refine O _ _ (Chg.step (by simp) _) ?_
 clear O K
 try simp only[Act.put,qqB]
 refine qA6 ?_
 clear l3 l5 f1 d7
 have G:Below J w6 ((w6.setCell ⟨J,3,none⟩ (W (BitVec.setWidth 32 (qAn r3)))).setCell ⟨J,5,none⟩ (U (qAn r4))):=(qAa (qAa (Below.refl _ _) 3 (W (BitVec.setWidth 32 (qAn r3)))) 5 (U (qAn r4)))
 have a7:Chg [J] w6 ((w6.setCell ⟨J,3,none⟩ (W (BitVec.setWidth 32 (qAn r3)))).setCell ⟨J,5,none⟩ (U (qAn r4))):=(qCm (qCm (Chg.refl _ _) 3 (W (BitVec.setWidth 32 (qAn r3)))) 5 (U (qAn r4)))
 have a6:Blk ((w6.setCell ⟨J,3,none⟩ (W (BitVec.setWidth 32 (qAn r3)))).setCell ⟨J,5,none⟩ (U (qAn r4))) J #[.int .i64 k0,.bool (qAn r1==1#64),.int .i64 N,W (BitVec.setWidth 32 (qAn r3)),W (BitVec.ofInt 32 s),U (qAn r4),U 0#64,U 0#64] 117:=by
  have:=((F.set 3 (W (BitVec.setWidth 32 (qAn r3)))).set 5 (U (qAn r4)))
  simpa using this
 replace hA:=hA.chg a7
 replace j:=j.below G b5
 replace x5:=qDL G x5 c4
 replace s5:=s5.below G b9
 replace V:=V.below G c0
 replace Y:=Y.trans (G.mono (by omega))
 clear F a7 G
 generalize ((w6.setCell ⟨J,3,none⟩ (W (BitVec.setWidth 32 (qAn r3)))).setCell ⟨J,5,none⟩ (U (qAn r4)))=W9 at *
 have F:=a6
 clear a6
 go_wp2_with fail
 refine(qCo _ r5 _ s5 M5.out).mono ?_
 rintro e w6 ⟨rfl,I⟩
 replace F:=F.kept I
 replace j:=j.kept I
 replace V:=V.kept I
 replace Y:=qA4.of Y I
 clear I x5 s5 hA
 have l6:=F.cell 6
 have l7:=F.cell 7
 have f5:=F.free 6
 have e6:=F.free 7
 have l0:=F.cell 0
 have l1:=F.cell 1
 have l2:=F.cell 2
 have l3:=F.cell 3
 have l4:=F.cell 4
 have l5:=F.cell 5
 go_wp2_with fail
 clear l0 l1 l2 l3 l4 l5 l6 l7 f5 e6
 have G:Below J w6 ((w6.setCell ⟨J,6,none⟩ (U (qAr r5).1)).setCell ⟨J,7,none⟩ (U (qAr r5).2)):=(qAa (qAa (Below.refl _ _) 6 (U (qAr r5).1)) 7 (U (qAr r5).2))
 have a6:Blk ((w6.setCell ⟨J,6,none⟩ (U (qAr r5).1)).setCell ⟨J,7,none⟩ (U (qAr r5).2)) J #[.int .i64 k0,.bool (qAn r1==1#64),.int .i64 N,W (BitVec.setWidth 32 (qAn r3)),W (BitVec.ofInt 32 s),U (qAn r4),U (qAr r5).1,U (qAr r5).2] 117:=by
  have:=((F.set 6 (U (qAr r5).1)).set 7 (U (qAr r5).2))
  simpa using this
 replace j:=j.below G b5
 replace V:=V.below G c0
 replace Y:=Y.trans (G.mono (by omega))
 clear F G
 generalize ((w6.setCell ⟨J,6,none⟩ (U (qAr r5).1)).setCell ⟨J,7,none⟩ (U (qAr r5).2))=WC at *
 have F:=a6
 clear a6
 obtain⟨lf,b6⟩:∃l,l=qBr (⟨k0,qAn r1==1#64,N,BitVec.setWidth 32 (qAn r3),BitVec.ofInt 32 s,qAn r4,((qAr r5).1,(qAr r5).2)⟩:Lf):=⟨_,rfl⟩
 cases hI:qAM (⟨k0,qAn r1==1#64,N,BitVec.setWidth 32 (qAn r3),BitVec.ofInt 32 s,qAn r4,((qAr r5).1,(qAr r5).2)⟩:Lf) s
 · have hG:qBO bs s=none:=by
    unfold qBO
    rw[if_neg (fun hh=>by have:=hh.2.1;rw[b7.out]at this;rw[hI]at this;cases this)]
   refine(qEM _ _ _ _ _ _ _ _ s lo hi hI _).mono ?_
   rintro e w7 ⟨rfl,a5⟩
   replace F:=F.kept a5
   replace j:=j.kept a5
   replace V:=V.kept a5
   replace Y:=qA4.of Y a5
   have z0:=j.cell 0
   have y0:=j.free 0
   have z1:=j.cell 1
   have y1:=j.free 1
   have z2:=j.cell 2
   have y2:=j.free 2
   have z3:=j.cell 3
   have y3:=j.free 3
   have z4:=j.cell 4
   have y4:=j.free 4
   have z5:=j.cell 5
   have y5:=j.free 5
   have z6:=j.cell 6
   have y6:=j.free 6
   have z7:=j.cell 7
   have y7:=j.free 7
   have HI:=qh hI
   have HG:=qh hG
   clear a5 F V b6 hI hG
   go_wp2
   refine bodyPost_ret (v:=.tuple #[.agg #[.int .i64 0,.bool false,.int .i64 0,W 0#32,W 0#32,U 0#64,U 0#64,U 0#64],.bool false]) (by simp[results,results107,go_sem,z0,z1,z2,z3,z4,z5,z6,z7];done) rfl ⟨by rw[HG.out];rfl,?_⟩
   exact((((((((Y.setCell qle _).setCell qle _).setCell qle _).setCell qle _).setCell qle _).setCell qle _).setCell qle _).setCell qle _)
 · refine(qDD _ _ _ _ _ _ _ _ s lo hi hI _).mono ?_
   rintro e w7 ⟨x7,rfl,b4,a5⟩
   have sx:=Sl.of_own b4
   rw[←b6]at sx
   have d3:lf.length=32:=by rw[b6];exact qBi _
   rw[←d3]at sx
   clear d3
   replace F:=F.kept a5
   replace j:=j.kept a5
   replace V:=V.kept a5
   replace Y:=qA4.of Y a5
   have HI:=qh hI
   have d5:=qh b6
   clear b4 a5 hI b6
   go_wp2_with fail
   refine(qJ5 _ _ lf bs _ sx V).mono ?_
   rintro e w8 ⟨rfl,rfl⟩
   clear sx
   cases hE:(lf==bs)
   · have hG:qBO bs s=none:=by
      unfold qBO
      rw[if_neg (fun hh=>by
       have:=hh.2.2
       rw[b7.out]at this
       rw[d5.out,this]at hE
       simp at hE)]
     have HG:=qh hG
     clear hE hG F V
     have z0:=j.cell 0
     have y0:=j.free 0
     have z1:=j.cell 1
     have y1:=j.free 1
     have z2:=j.cell 2
     have y2:=j.free 2
     have z3:=j.cell 3
     have y3:=j.free 3
     have z4:=j.cell 4
     have y4:=j.free 4
     have z5:=j.cell 5
     have y5:=j.free 5
     have z6:=j.cell 6
     have y6:=j.free 6
     have z7:=j.cell 7
     have y7:=j.free 7
     go_wp2
     refine bodyPost_ret (v:=.tuple #[.agg #[.int .i64 0,.bool false,.int .i64 0,W 0#32,W 0#32,U 0#64,U 0#64,U 0#64],.bool false]) (by simp[results,results107,go_sem,z0,z1,z2,z3,z4,z5,z6,z7];done) rfl ⟨by rw[HG.out];rfl,?_⟩
     exact((((((((Y.setCell qle _).setCell qle _).setCell qle _).setCell qle _).setCell qle _).setCell qle _).setCell qle _).setCell qle _)
   · have hG:qBO bs s=some (⟨k0,qAn r1==1#64,N,BitVec.setWidth 32 (qAn r3),BitVec.ofInt 32 s,qAn r4,((qAr r5).1,(qAr r5).2)⟩:Lf):=by
      unfold qBO
      have e1:qBr (⟨k0,qAn r1==1#64,N,BitVec.setWidth 32 (qAn r3),BitVec.ofInt 32 s,qAn r4,((qAr r5).1,(qAr r5).2)⟩:Lf)=bs:=by rw[←d5.out];simpa using hE
      rw[if_pos ⟨H.out,by rw[b7.out];exact HI.out,by rw[b7.out];exact e1⟩,b7.out]
     have HG:=qh hG
     clear hE hG V
     have z0:=j.cell 0
     have y0:=j.free 0
     have z1:=j.cell 1
     have y1:=j.free 1
     have z2:=j.cell 2
     have y2:=j.free 2
     have z3:=j.cell 3
     have y3:=j.free 3
     have z4:=j.cell 4
     have y4:=j.free 4
     have z5:=j.cell 5
     have y5:=j.free 5
     have z6:=j.cell 6
     have y6:=j.free 6
     have z7:=j.cell 7
     have y7:=j.free 7
     have l0:=F.cell 0
     have l1:=F.cell 1
     have l2:=F.cell 2
     have l3:=F.cell 3
     have l4:=F.cell 4
     have l5:=F.cell 5
     have l6:=F.cell 6
     have l7:=F.cell 7
     go_wp2
     refine bodyPost_ret (v:=.tuple #[.agg #[.int .i64 k0,.bool (qAn r1==1#64),.int .i64 N,W (BitVec.setWidth 32 (qAn r3)),W (BitVec.ofInt 32 s),U (qAn r4),U (qAr r5).1,U (qAr r5).2],.bool true]) (by simp[results,results107,go_sem,z0,z1,z2,z3,z4,z5,z6,z7];done) rfl ⟨by rw[HG.out];rfl,?_⟩
     exact((((((((Y.setCell qle _).setCell qle _).setCell qle _).setCell qle _).setCell qle _).setCell qle _).setCell qle _).setCell qle _)
set_option maxHeartbeats 16000000 in
theorem qGV (vb:Value)(bs:List UInt8)(s:Int)(lo: -9223372036854775808≤s)(hi:s≤9223372036854775807)(hl:bs.length≤4000)(w:World)(V:Sl w vb bs.length (qA1 bs))(h:bs.length=32)(hq:decide (((qAn (bs.take 1)).toNat:Int)=1)=false):Calls prog 107 #[vb,.int .i64 s] w fun e w'=>e= .returned (.tuple #[((qBO bs s).getD Lf.zero).val,.bool (qBO bs s).isSome])∧qA4 w w':=by
 have d0:qA4 w (w.alloc (.cells #[.int .i64 0,.bool false,.int .i64 0,W 0#32,W 0#32,U 0#64,U 0#64,U 0#64] 117)):=qal _
 have c4:qA4 w ((w.alloc (.cells #[.int .i64 0,.bool false,.int .i64 0,W 0#32,W 0#32,U 0#64,U 0#64,U 0#64] 117)).alloc (.cells #[.int .i64 1,.int .i64 1,.int .i64 2,.int .i64 4,.int .i64 8,.int .i64 16] 3)):=d0.alloc (by simp) _
 have c9:Blk (w.alloc (.cells #[.int .i64 0,.bool false,.int .i64 0,W 0#32,W 0#32,U 0#64,U 0#64,U 0#64] 117)) w.heap.size #[.int .i64 0,.bool false,.int .i64 0,W 0#32,W 0#32,U 0#64,U 0#64,U 0#64] 117:=Blk.new _ _ _
 have d3:Blk ((w.alloc (.cells #[.int .i64 0,.bool false,.int .i64 0,W 0#32,W 0#32,U 0#64,U 0#64,U 0#64] 117)).alloc (.cells #[.int .i64 1,.int .i64 1,.int .i64 2,.int .i64 4,.int .i64 8,.int .i64 16] 3)) w.heap.size #[.int .i64 0,.bool false,.int .i64 0,W 0#32,W 0#32,U 0#64,U 0#64,U 0#64] 117:=c9.alloc _
 have d5:=V.kept c4
 have c7:Sl ((w.alloc (.cells #[.int .i64 0,.bool false,.int .i64 0,W 0#32,W 0#32,U 0#64,U 0#64,U 0#64] 117)).alloc (.cells #[.int .i64 1,.int .i64 1,.int .i64 2,.int .i64 4,.int .i64 8,.int .i64 16] 3)) (.slice (some ⟨w.heap.size+1,0,none⟩) 6 6) ([1,1,2,4,8,16]:List Int).length (qBg [1,1,2,4,8,16]):=by simpa [qBg] using Sl.lit (w.alloc (.cells #[.int .i64 0,.bool false,.int .i64 0,W 0#32,W 0#32,U 0#64,U 0#64,U 0#64] 117)) #[.int .i64 1,.int .i64 1,.int .i64 2,.int .i64 4,.int .i64 8,.int .i64 16] 3 6 (by decide)
 go_enter func107,ntmps107
 go_wp2_with fail
 refine(qDA _ _ bs [1,1,2,4,8,16] hl (by simp) _ d5 c7).mono ?_
 rintro e w3 ⟨c2,v,rfl,hr⟩
 have j:=d3.kept c2
 have hk:=c4.of c2
 rw[qEI,if_pos h]
 unfold qPl
 have c5:=(hr _ (by rw[qEI,if_pos h])).sl
 have m0:(bs.take 1).length=1:=by simp;omega
 have m1:((bs.drop 1).take 1).length=1:=by simp;omega
 have m2:((bs.drop 2).take 2).length=2:=by simp;omega
 have m3:((bs.drop 4).take 4).length=4:=by simp;omega
 have m4:((bs.drop 8).take 8).length=8:=by simp;omega
 have m5:(bs.drop 16).length=16:=by simp;omega
 have b6:qEH bs s=⟨((qAn (bs.take 1)).toNat:Int),qAn ((bs.drop 1).take 1)==1#64,((qAn ((bs.drop 2).take 2)).toNat:Int),(qAn ((bs.drop 4).take 4)).setWidth 32,0#32,qAn ((bs.drop 8).take 8),qAr (bs.drop 16)⟩:=by
  unfold qEH
  rw[if_neg (by simpa using hq)]
 obtain⟨r0,e0⟩:∃r,r=bs.take 1:=⟨_,rfl⟩
 obtain⟨r1,e1⟩:∃r,r=(bs.drop 1).take 1:=⟨_,rfl⟩
 obtain⟨r2,e2⟩:∃r,r=(bs.drop 2).take 2:=⟨_,rfl⟩
 obtain⟨r3,e3⟩:∃r,r=(bs.drop 4).take 4:=⟨_,rfl⟩
 obtain⟨r4,e4⟩:∃r,r=(bs.drop 8).take 8:=⟨_,rfl⟩
 obtain⟨r5,e5⟩:∃r,r=bs.drop 16:=⟨_,rfl⟩
 rw[←e0,←e1,←e2,←e3,←e4,←e5]at c5 b6
 rw[←e0]at hq
 rw[←e0]at m0
 rw[←e1]at m1
 rw[←e2]at m2
 rw[←e3]at m3
 rw[←e4]at m4
 rw[←e5]at m5
 have L0:=qHP r0 1 m0 (by omega)
 have L2:=qHP r2 2 m2 (by omega)
 have b9:∀wx:World,(convert 29 3 (U (qAn r0))).run prog wx= .ok (.int .i64 ((qAn r0).toNat:Int)) wx:=fun wx=>by
  rw[U,qAH wx 29 3 _ .i64 _ (by kernel_rfl) underlying3,IntWalk.i64_in _ (by omega)]
 have c1:∀wx:World,(convert 29 3 (U (qAn r2))).run prog wx= .ok (.int .i64 ((qAn r2).toNat:Int)) wx:=fun wx=>by
  rw[U,qAH wx 29 3 _ .i64 _ (by kernel_rfl) underlying3,IntWalk.i64_in _ (by omega)]
 obtain⟨k0,ek⟩:∃k:Int,k=((qAn r0).toNat:Int):=⟨_,rfl⟩
 obtain⟨O,ez⟩:∃k:Int,k=((qAn r2).toNat:Int):=⟨_,rfl⟩
 rw[←ek]at b6 hq b9
 rw[←ez]at b6 c1
 obtain⟨us,hv,b8⟩:=c5.all
 obtain⟨u0,u1,u2,u3,u4,u5,rfl⟩:∃a b c d e f,us= [a,b,c,d,e,f]:=by
  match us,b8.len with
  | [a,b,c,d,e,f],_=>exact⟨a,b,c,d,e,f,rfl⟩
 obtain⟨s0,s1,s2,s3,s4,s5,_⟩:=b8
 obtain⟨q,qo,qc,rfl,d1,f3,_,a6⟩:=hv.at (by simp)
 have x0:=a6 0 u0 rfl
 have x1:=a6 1 u1 rfl
 have x2:=a6 2 u2 rfl
 have x3:=a6 3 u3 rfl
 have x4:=a6 4 u4 rfl
 have x5:=a6 5 u5 rfl
 rw[Nat.add_zero]at x0
 have f6:(6:Int)≤(qc:Int):=by simp at d1;omega
 have M0:=qh m0
 have M1:=qh m1
 have M2:=qh m2
 have M3:=qh m3
 have M4:=qh m4
 have M5:=qh m5
 have H:=qh h
 have b5:=qh b6
 have HQ:=qh hq
 have e8:=qh b9
 have d7:=qh c1
 have E:=qh (And.intro e0 (And.intro e1 (And.intro e2 (And.intro e3 (And.intro e4 e5)))))
 clear hr c5 hv a6 d1 f3 d0 c4 c2 c9 d3 d5 c7 h b6 hq b9 c1 ek ez L0 L2 m0 m1 m2 m3 m4 m5 e0 e1 e2 e3 e4 e5
 go_wp2_with fail
 refine wp_loop_rounds 6 ?_
 rw[rounds_succ]
 go_wp2_with fail
 refine(qAT _ r0 _ (s0.kept ((qal _).alloc (by simp) _)) (by rw[M0.out];omega) (by rw[M0.out];omega)).mono ?_
 rintro e w4 ⟨rfl,rfl⟩
 go_wp2_with fail
 rw[rounds_succ]
 go_wp2_with fail
 refine(qAT _ r1 _ (s1.kept ((qal _).alloc (by simp) _)) (by rw[M1.out];omega) (by rw[M1.out];omega)).mono ?_
 rintro e w4 ⟨rfl,rfl⟩
 go_wp2_with fail
 rw[rounds_succ]
 go_wp2_with fail
 refine(qAT _ r2 _ (s2.kept ((qal _).alloc (by simp) _)) (by rw[M2.out];omega) (by rw[M2.out];omega)).mono ?_
 rintro e w4 ⟨rfl,rfl⟩
 go_wp2_with fail
 rw[rounds_succ]
 go_wp2_with fail
 refine(qAT _ r3 _ (s3.kept ((qal _).alloc (by simp) _)) (by rw[M3.out];omega) (by rw[M3.out];omega)).mono ?_
 rintro e w4 ⟨rfl,rfl⟩
 go_wp2_with fail
 rw[rounds_succ]
 go_wp2_with fail
 refine(qAT _ r4 _ (s4.kept ((qal _).alloc (by simp) _)) (by rw[M4.out];omega) (by rw[M4.out];omega)).mono ?_
 rintro e w4 ⟨rfl,rfl⟩
 go_wp2_with fail
 rw[rounds_succ]
 go_wp2_with fail
 obtain⟨I,h8⟩:∃Z,Z=w3.heap.size:=⟨_,rfl⟩
 have hA:Blk ((w3.alloc (.cells #[.int .i64 0,.bool false,.int .i64 0,W 0#32,W 0#32,U 0#64,U 0#64,U 0#64] 117)).alloc (.cells #[U (qAn r0),U (qAn r1),U (qAn r2),U (qAn r3),U (qAn r4)] 233)) (w3.heap.size+1) #[U (qAn r0),U (qAn r1),U (qAn r2),U (qAn r3),U (qAn r4)] 233:=by simpa using Blk.new (w3.alloc (.cells #[.int .i64 0,.bool false,.int .i64 0,W 0#32,W 0#32,U 0#64,U 0#64,U 0#64] 117)) #[U (qAn r0),U (qAn r1),U (qAn r2),U (qAn r3),U (qAn r4)] 233
 have F:Blk ((w3.alloc (.cells #[.int .i64 0,.bool false,.int .i64 0,W 0#32,W 0#32,U 0#64,U 0#64,U 0#64] 117)).alloc (.cells #[U (qAn r0),U (qAn r1),U (qAn r2),U (qAn r3),U (qAn r4)] 233)) w3.heap.size #[.int .i64 0,.bool false,.int .i64 0,W 0#32,W 0#32,U 0#64,U 0#64,U 0#64] 117:=(Blk.new _ _ _).alloc _
 have a7:qA4 w3 ((w3.alloc (.cells #[.int .i64 0,.bool false,.int .i64 0,W 0#32,W 0#32,U 0#64,U 0#64,U 0#64] 117)).alloc (.cells #[U (qAn r0),U (qAn r1),U (qAn r2),U (qAn r3),U (qAn r4)] 233)):=(qal _).alloc (by simp) _
 have b7:w.heap.size<I:=by rw[h8];exact j.lt
 replace j:=j.kept a7
 replace x5:=a7.at x5
 have c8:q<I:=by rw[h8];assumption
 have c0:=s5.low
 rw[←h8]at c0
 have c6:=V.low
 have c3:∀a c,vb= .slice (some a) bs.length c→0<(qA1 bs).length→a.block<I:=fun a c h1 h2=>Nat.lt_trans (c6 a c h1 h2) b7
 replace s5:=s5.kept a7
 replace V:=(V.kept hk).kept a7
 replace hk:=qA4.of hk a7
 generalize ((w3.alloc (.cells #[.int .i64 0,.bool false,.int .i64 0,W 0#32,W 0#32,U 0#64,U 0#64,U 0#64] 117)).alloc (.cells #[U (qAn r0),U (qAn r1),U (qAn r2),U (qAn r3),U (qAn r4)] 233))=W5 at *
 rw[←h8]at hA F
 simp only[←h8]
 clear h8 a7 s0 s1 s2 s3 s4 x0 x1 x2 x3 x4
 refine qAb [I] [(0,0),(1,0),(2,0),(3,0),(4,0),(5,0),(6,0),(7,0),(8,0),(9,0),(10,1),(11,0),(12,1),(13,0),(14,2)] (by kernel_rfl) (by kernel_rfl) ?_
 intro w6 G
 replace hA:=hA.kept G
 replace F:=F.kept G
 replace j:=j.kept G
 replace s5:=s5.kept G
 replace V:=V.kept G
 replace x5:=G.at x5
 replace hk:=qA4.of hk G
 clear G
 repeat
  refine qA0 _ rfl (fun K N=>?_)
  first
   | (refine qqP (by rfl) ?_;apply Exists.intro;refine⟨fun w' a8=>?_,N _ ?_⟩;(have c:=hA.chg a8;have a0:=c.cell 0;have a1:=c.cell 1;have a2:=c.cell 2;have a3:=c.cell 3;have a4:=c.cell 4;clear c;have f0:=e8.out;have f2:=d7.out;go_simp;first|done|rfl))
   | refine qqN (by rfl) (N _ ?_)
  clear N K;simp only[Act.put,qqB]
 refine qqH _ rfl (by rfl) (fun K N=>?_)
 have l0:=F.cell 0
 have l1:=F.cell 1
 have l2:=F.cell 2
 have e6:=F.free 0
 have e7:=F.free 1
 have d8:=F.free 2
 go_wp2
 refine N _ _ (Chg.step (by simp) _) ?_
 clear N K
 try simp only[Act.put,qqB]
 repeat
  refine qA0 _ rfl (fun K N=>?_)
  first
   | (refine qqP (by rfl) ?_;apply Exists.intro;refine⟨fun w' a8=>?_,N _ ?_⟩;go_simp;first|done|rfl)
   | refine qqN (by rfl) (N _ ?_)
  clear N K;simp only[Act.put,qqB]
 refine qqH _ rfl (by rfl) (fun K N=>?_)
 go_wp2
 refine N _ _ (Chg.step (by simp) _) ?_
 clear N K
 try simp only[Act.put,qqB]
 repeat
  refine qA0 _ rfl (fun K N=>?_)
  first
   | (refine qqP (by rfl) ?_;apply Exists.intro;refine⟨fun w' a8=>?_,N _ ?_⟩;go_simp;first|done|rfl)
   | refine qqN (by rfl) (N _ ?_)
  clear N K;simp only[Act.put,qqB]
 refine qAg _ rfl (fun K N=>?_)
 refine qqP (by rfl) ?_
 go_wp2
 refine qA6 ?_
 clear l0 l1 l2 e6 e7 d8
 have J:Below I w6 (((w6.setCell ⟨I,0,none⟩ (.int .i64 k0)).setCell ⟨I,1,none⟩ (.bool (qAn r1==1#64))).setCell ⟨I,2,none⟩ ((.int .i64 O))):=(qAa (qAa (qAa (Below.refl _ _) 0 (.int .i64 k0)) 1 (.bool (qAn r1==1#64))) 2 ((.int .i64 O)))
 have b3:Chg [I] w6 (((w6.setCell ⟨I,0,none⟩ (.int .i64 k0)).setCell ⟨I,1,none⟩ (.bool (qAn r1==1#64))).setCell ⟨I,2,none⟩ ((.int .i64 O))):=(qCm (qCm (qCm (Chg.refl _ _) 0 (.int .i64 k0)) 1 (.bool (qAn r1==1#64))) 2 ((.int .i64 O)))
 have a5:Blk (((w6.setCell ⟨I,0,none⟩ (.int .i64 k0)).setCell ⟨I,1,none⟩ (.bool (qAn r1==1#64))).setCell ⟨I,2,none⟩ ((.int .i64 O))) I #[.int .i64 k0,.bool (qAn r1==1#64),.int .i64 O,W 0#32,W 0#32,U 0#64,U 0#64,U 0#64] 117:=by
  have:=(((F.set 0 (.int .i64 k0)).set 1 (.bool (qAn r1==1#64))).set 2 ((.int .i64 O)))
  simpa using this
 replace hA:=hA.chg b3
 replace j:=j.below J b7
 replace x5:=qDL J x5 c8
 replace s5:=s5.below J c0
 replace V:=V.below J c3
 replace hk:=hk.trans (J.mono (by omega))
 clear F b3 J
 generalize (((w6.setCell ⟨I,0,none⟩ (.int .i64 k0)).setCell ⟨I,1,none⟩ (.bool (qAn r1==1#64))).setCell ⟨I,2,none⟩ ((.int .i64 O)))=W7 at *
 have F:=a5
 clear a5
 have q1:(k0==1)=false:=by have:=HQ.out;simpa using this
 have l0:=F.cell 0
 have l4:=F.cell 4
 have f1:=F.free 4
 have f5:=fun wx=>qFx (P:=prog) wx 3 94 s (by kernel_rfl) underlying94
 go_wp2_with fail
 clear q1 l0 l4 f1 f5
 refine qAb [I] [(0,0),(1,0),(2,0),(3,0),(4,0),(5,0),(6,0),(7,1),(8,0),(9,0),(10,1)] (by kernel_rfl) (by kernel_rfl) ?_
 intro w6 G
 replace hA:=hA.kept G
 replace F:=F.kept G
 replace j:=j.kept G
 replace s5:=s5.kept G
 replace V:=V.kept G
 replace x5:=G.at x5
 replace hk:=qA4.of hk G
 clear G
 repeat
  refine qA0 _ rfl (fun K N=>?_)
  first
   | (refine qqP (by rfl) ?_;apply Exists.intro;refine⟨fun w' a8=>?_,N _ ?_⟩;(have c:=hA.chg a8;have a3:=c.cell 3;have a4:=c.cell 4;clear c;go_simp;first|done|rfl))
   | refine qqN (by rfl) (N _ ?_)
  clear N K;simp only[Act.put,qqB]
 refine qqH _ rfl (by rfl) (fun K N=>?_)
 have l3:=F.cell 3
 have l5:=F.cell 5
 have e9:=F.free 3
 have d6:=F.free 5
 go_wp2
 refine N _ _ (Chg.step (by simp) _) ?_
 clear N K
 try simp only[Act.put,qqB]
 repeat
  refine qA0 _ rfl (fun K N=>?_)
  first
   | (refine qqP (by rfl) ?_;apply Exists.intro;refine⟨fun w' a8=>?_,N _ ?_⟩;go_simp;first|done|rfl)
   | refine qqN (by rfl) (N _ ?_)
  clear N K;simp only[Act.put,qqB]
 refine qqH _ rfl (by rfl) (fun K N=>?_)
 go_wp2
 refine N _ _ (Chg.step (by simp) _) ?_
 clear N K
 try simp only[Act.put,qqB]
 refine qA6 ?_
 clear l3 l5 e9 d6
 have J:Below I w6 ((w6.setCell ⟨I,3,none⟩ (W (BitVec.setWidth 32 (qAn r3)))).setCell ⟨I,5,none⟩ (U (qAn r4))):=(qAa (qAa (Below.refl _ _) 3 (W (BitVec.setWidth 32 (qAn r3)))) 5 (U (qAn r4)))
 have b3:Chg [I] w6 ((w6.setCell ⟨I,3,none⟩ (W (BitVec.setWidth 32 (qAn r3)))).setCell ⟨I,5,none⟩ (U (qAn r4))):=(qCm (qCm (Chg.refl _ _) 3 (W (BitVec.setWidth 32 (qAn r3)))) 5 (U (qAn r4)))
 have a5:Blk ((w6.setCell ⟨I,3,none⟩ (W (BitVec.setWidth 32 (qAn r3)))).setCell ⟨I,5,none⟩ (U (qAn r4))) I #[.int .i64 k0,.bool (qAn r1==1#64),.int .i64 O,W (BitVec.setWidth 32 (qAn r3)),W (0#32),U (qAn r4),U 0#64,U 0#64] 117:=by
  have:=((F.set 3 (W (BitVec.setWidth 32 (qAn r3)))).set 5 (U (qAn r4)))
  simpa using this
 replace hA:=hA.chg b3
 replace j:=j.below J b7
 replace x5:=qDL J x5 c8
 replace s5:=s5.below J c0
 replace V:=V.below J c3
 replace hk:=hk.trans (J.mono (by omega))
 clear F b3 J
 generalize ((w6.setCell ⟨I,3,none⟩ (W (BitVec.setWidth 32 (qAn r3)))).setCell ⟨I,5,none⟩ (U (qAn r4)))=W9 at *
 have F:=a5
 clear a5
 go_wp2_with fail
 refine(qCo _ r5 _ s5 M5.out).mono ?_
 rintro e w6 ⟨rfl,G⟩
 replace F:=F.kept G
 replace j:=j.kept G
 replace V:=V.kept G
 replace hk:=qA4.of hk G
 clear G x5 s5 hA
 have l6:=F.cell 6
 have l7:=F.cell 7
 have f4:=F.free 6
 have d9:=F.free 7
 have l0:=F.cell 0
 have l1:=F.cell 1
 have l2:=F.cell 2
 have l3:=F.cell 3
 have l4:=F.cell 4
 have l5:=F.cell 5
 go_wp2_with fail
 clear l0 l1 l2 l3 l4 l5 l6 l7 f4 d9
 have J:Below I w6 ((w6.setCell ⟨I,6,none⟩ (U (qAr r5).1)).setCell ⟨I,7,none⟩ (U (qAr r5).2)):=(qAa (qAa (Below.refl _ _) 6 (U (qAr r5).1)) 7 (U (qAr r5).2))
 have a5:Blk ((w6.setCell ⟨I,6,none⟩ (U (qAr r5).1)).setCell ⟨I,7,none⟩ (U (qAr r5).2)) I #[.int .i64 k0,.bool (qAn r1==1#64),.int .i64 O,W (BitVec.setWidth 32 (qAn r3)),W (0#32),U (qAn r4),U (qAr r5).1,U (qAr r5).2] 117:=by
  have:=((F.set 6 (U (qAr r5).1)).set 7 (U (qAr r5).2))
  simpa using this
 replace j:=j.below J b7
 replace V:=V.below J c3
 replace hk:=hk.trans (J.mono (by omega))
 clear F J
 generalize ((w6.setCell ⟨I,6,none⟩ (U (qAr r5).1)).setCell ⟨I,7,none⟩ (U (qAr r5).2))=WC at *
 have F:=a5
 clear a5
 obtain⟨lf,b4⟩:∃l,l=qBr (⟨k0,qAn r1==1#64,O,BitVec.setWidth 32 (qAn r3),0#32,qAn r4,((qAr r5).1,(qAr r5).2)⟩:Lf):=⟨_,rfl⟩
 cases hI:qAM (⟨k0,qAn r1==1#64,O,BitVec.setWidth 32 (qAn r3),0#32,qAn r4,((qAr r5).1,(qAr r5).2)⟩:Lf) s
 · have hG:qBO bs s=none:=by
    unfold qBO
    rw[if_neg (fun hh=>by have:=hh.2.1;rw[b5.out]at this;rw[hI]at this;cases this)]
   refine(qEM _ _ _ _ _ _ _ _ s lo hi hI _).mono ?_
   rintro e w7 ⟨rfl,Y⟩
   replace F:=F.kept Y
   replace j:=j.kept Y
   replace V:=V.kept Y
   replace hk:=qA4.of hk Y
   have z0:=j.cell 0
   have y0:=j.free 0
   have z1:=j.cell 1
   have y1:=j.free 1
   have z2:=j.cell 2
   have y2:=j.free 2
   have z3:=j.cell 3
   have y3:=j.free 3
   have z4:=j.cell 4
   have y4:=j.free 4
   have z5:=j.cell 5
   have y5:=j.free 5
   have z6:=j.cell 6
   have y6:=j.free 6
   have z7:=j.cell 7
   have y7:=j.free 7
   have HI:=qh hI
   have HG:=qh hG
   clear Y F V b4 hI hG
   go_wp2
   refine bodyPost_ret (v:=.tuple #[.agg #[.int .i64 0,.bool false,.int .i64 0,W 0#32,W 0#32,U 0#64,U 0#64,U 0#64],.bool false]) (by simp[results,results107,go_sem,z0,z1,z2,z3,z4,z5,z6,z7];done) rfl ⟨by rw[HG.out];rfl,?_⟩
   exact((((((((hk.setCell qle _).setCell qle _).setCell qle _).setCell qle _).setCell qle _).setCell qle _).setCell qle _).setCell qle _)
 · refine(qDD _ _ _ _ _ _ _ _ s lo hi hI _).mono ?_
   rintro e w7 ⟨x7,rfl,a9,Y⟩
   have sx:=Sl.of_own a9
   rw[←b4]at sx
   have d2:lf.length=32:=by rw[b4];exact qBi _
   rw[←d2]at sx
   clear d2
   replace F:=F.kept Y
   replace j:=j.kept Y
   replace V:=V.kept Y
   replace hk:=qA4.of hk Y
   have HI:=qh hI
   have d4:=qh b4
   clear a9 Y hI b4
   go_wp2_with fail
   refine(qJ5 _ _ lf bs _ sx V).mono ?_
   rintro e w8 ⟨rfl,rfl⟩
   clear sx
   cases hE:(lf==bs)
   · have hG:qBO bs s=none:=by
      unfold qBO
      rw[if_neg (fun hh=>by
       have:=hh.2.2
       rw[b5.out]at this
       rw[d4.out,this]at hE
       simp at hE)]
     have HG:=qh hG
     clear hE hG F V
     have z0:=j.cell 0
     have y0:=j.free 0
     have z1:=j.cell 1
     have y1:=j.free 1
     have z2:=j.cell 2
     have y2:=j.free 2
     have z3:=j.cell 3
     have y3:=j.free 3
     have z4:=j.cell 4
     have y4:=j.free 4
     have z5:=j.cell 5
     have y5:=j.free 5
     have z6:=j.cell 6
     have y6:=j.free 6
     have z7:=j.cell 7
     have y7:=j.free 7
     go_wp2
     refine bodyPost_ret (v:=.tuple #[.agg #[.int .i64 0,.bool false,.int .i64 0,W 0#32,W 0#32,U 0#64,U 0#64,U 0#64],.bool false]) (by simp[results,results107,go_sem,z0,z1,z2,z3,z4,z5,z6,z7];done) rfl ⟨by rw[HG.out];rfl,?_⟩
     exact((((((((hk.setCell qle _).setCell qle _).setCell qle _).setCell qle _).setCell qle _).setCell qle _).setCell qle _).setCell qle _)
   · have hG:qBO bs s=some (⟨k0,qAn r1==1#64,O,BitVec.setWidth 32 (qAn r3),0#32,qAn r4,((qAr r5).1,(qAr r5).2)⟩:Lf):=by
      unfold qBO
      have e1:qBr (⟨k0,qAn r1==1#64,O,BitVec.setWidth 32 (qAn r3),0#32,qAn r4,((qAr r5).1,(qAr r5).2)⟩:Lf)=bs:=by rw[←d4.out];simpa using hE
      rw[if_pos ⟨H.out,by rw[b5.out];exact HI.out,by rw[b5.out];exact e1⟩,b5.out]
     have HG:=qh hG
     clear hE hG V
     have z0:=j.cell 0
     have y0:=j.free 0
     have z1:=j.cell 1
     have y1:=j.free 1
     have z2:=j.cell 2
     have y2:=j.free 2
     have z3:=j.cell 3
     have y3:=j.free 3
     have z4:=j.cell 4
     have y4:=j.free 4
     have z5:=j.cell 5
     have y5:=j.free 5
     have z6:=j.cell 6
     have y6:=j.free 6
     have z7:=j.cell 7
     have y7:=j.free 7
     have l0:=F.cell 0
     have l1:=F.cell 1
     have l2:=F.cell 2
     have l3:=F.cell 3
     have l4:=F.cell 4
     have l5:=F.cell 5
     have l6:=F.cell 6
     have l7:=F.cell 7
     go_wp2
     refine bodyPost_ret (v:=.tuple #[.agg #[.int .i64 k0,.bool (qAn r1==1#64),.int .i64 O,W (BitVec.setWidth 32 (qAn r3)),W (0#32),U (qAn r4),U (qAr r5).1,U (qAr r5).2],.bool true]) (by simp[results,results107,go_sem,z0,z1,z2,z3,z4,z5,z6,z7];done) rfl ⟨by rw[HG.out];rfl,?_⟩
     exact((((((((hk.setCell qle _).setCell qle _).setCell qle _).setCell qle _).setCell qle _).setCell qle _).setCell qle _).setCell qle _)
theorem qJ6 (vb:Value)(bs:List UInt8)(s:Int)(lo: -9223372036854775808≤s)(hi:s≤9223372036854775807)(hl:bs.length≤4000)(w:World)(hb:Sl w vb bs.length (qA1 bs)):Calls prog 107 #[vb,.int .i64 s] w fun e w'=>e= .returned (.tuple #[((qBO bs s).getD Lf.zero).val,.bool (qBO bs s).isSome])∧qA4 w w':=by
 by_cases h:bs.length=32
 · cases hq:decide (((qAn (bs.take 1)).toNat:Int)=1)
   · exact qGV vb bs s lo hi hl w hb h hq
   · exact qI1 vb bs s lo hi hl w hb h hq
 · have c:qBO bs s=none:=by unfold qBO;rw[if_neg (fun f=>h f.1)]
   rw[c]
   exact qI0 vb bs s hl w hb h
theorem qJ7 (vb:Value)(bs:List UInt8)(hl:bs.length≤4000)(w:World)(hb:Sl w vb bs.length (qA1 bs)):Calls prog 142 #[vb] w fun e w'=>e= .returned (.tuple #[((qIS bs).getD Rt.zero).val,.bool (qIS bs).isSome])∧qA4 w w':=by
 unfold qIS
 by_cases h:bs.length=32
 · cases hs:qD9 (qCd bs).slots
   · rw[if_neg (by simp)];exact qGT vb bs hl w hb h hs
   · rw[if_pos ⟨h,rfl⟩];exact qHU vb bs hl w hb h hs
 · rw[if_neg (fun k=>h k.1)];exact qHT vb bs hl w hb h
section
open Go.ChangeShapes Go.WideShapes Go.ChangeAt
variable {H:Type} {enc:TypeId×Value→H} {w:World} {base:Nat} {spare:Nat→Bool} {held:Bool} {r:Reach} {b0:Nat}
end
end Go.Proofs.YtdlgihbpiakebaaGreat
