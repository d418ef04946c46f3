import Derived.Test.YtdlgihbpiakebaaGreatMk04
import Derived.Test.YtdlgihbpiakebaaGreatMk35
set_option maxRecDepth 100000
set_option maxHeartbeats 4000000
namespace Go.Proofs.YtdlgihbpiakebaaGreat
open Go Go.RowKit Tryz
theorem qKl (vb:Value)(bs:List UInt8)(hl:bs.length≤4000)(w:World)(hb:Sl w vb bs.length (qA1 bs))(h:bs.length≠60):Calls prog 137 #[vb] w fun e w'=>e= .returned (.tuple #[.agg #[W 0#32,W 0#32,U 0#64],.agg #[.slice none 0 0,U 0#64,U 0#64],.bool false])∧qA4 w w':=by
 have N:qA4 w ((w.alloc (.cells #[W 0#32,W 0#32,U 0#64] 113)).alloc (.cells #[.slice none 0 0,U 0#64,U 0#64] 165)):=(qal _).alloc (by simp) _
 have f:qA4 w (((w.alloc (.cells #[W 0#32,W 0#32,U 0#64] 113)).alloc (.cells #[.slice none 0 0,U 0#64,U 0#64] 165)).alloc (.cells #[.int .i64 4,.int .i64 8,.int .i64 32,.int .i64 16] 3)):=N.alloc (by simp;omega) _
 have I:Blk ((w.alloc (.cells #[W 0#32,W 0#32,U 0#64] 113)).alloc (.cells #[.slice none 0 0,U 0#64,U 0#64] 165)) w.heap.size #[W 0#32,W 0#32,U 0#64] 113:=(Blk.new _ _ _).alloc _
 have G:Blk ((w.alloc (.cells #[W 0#32,W 0#32,U 0#64] 113)).alloc (.cells #[.slice none 0 0,U 0#64,U 0#64] 165)) (w.heap.size+1) #[.slice none 0 0,U 0#64,U 0#64] 165:=by simpa using Blk.new (w.alloc (.cells #[W 0#32,W 0#32,U 0#64] 113)) #[.slice none 0 0,U 0#64,U 0#64] 165
 have J:Blk (((w.alloc (.cells #[W 0#32,W 0#32,U 0#64] 113)).alloc (.cells #[.slice none 0 0,U 0#64,U 0#64] 165)).alloc (.cells #[.int .i64 4,.int .i64 8,.int .i64 32,.int .i64 16] 3)) w.heap.size #[W 0#32,W 0#32,U 0#64] 113:=I.alloc _
 have q:Blk (((w.alloc (.cells #[W 0#32,W 0#32,U 0#64] 113)).alloc (.cells #[.slice none 0 0,U 0#64,U 0#64] 165)).alloc (.cells #[.int .i64 4,.int .i64 8,.int .i64 32,.int .i64 16] 3)) (w.heap.size+1) #[.slice none 0 0,U 0#64,U 0#64] 165:=G.alloc _
 have O:=hb.kept f
 have V:w.heap.size+3=(((w.alloc (.cells #[W 0#32,W 0#32,U 0#64] 113)).alloc (.cells #[.slice none 0 0,U 0#64,U 0#64] 165)).alloc (.cells #[.int .i64 4,.int .i64 8,.int .i64 32,.int .i64 16] 3)).heap.size:=by simp
 have F:Sl (((w.alloc (.cells #[W 0#32,W 0#32,U 0#64] 113)).alloc (.cells #[.slice none 0 0,U 0#64,U 0#64] 165)).alloc (.cells #[.int .i64 4,.int .i64 8,.int .i64 32,.int .i64 16] 3)) (.slice (some ⟨w.heap.size+2,0,none⟩) 4 4) ([4,8,32,16]:List Int).length (qBg [4,8,32,16]):=by simpa [qBg] using Sl.lit ((w.alloc (.cells #[W 0#32,W 0#32,U 0#64] 113)).alloc (.cells #[.slice none 0 0,U 0#64,U 0#64] 165)) #[.int .i64 4,.int .i64 8,.int .i64 32,.int .i64 16] 3 4 (by decide)
 go_enter func137,ntmps137
 go_wp2_with fail
 refine(qDA _ _ bs [4,8,32,16] hl (by simp) _ O F).mono ?_
 rintro e w3 ⟨c,v,rfl,hr⟩
 have l:=J.kept c
 have j:=q.kept c
 have hk:=f.of c
 rw[qKh,if_neg h]
 unfold qPl
 have Y:=l.cell 0
 have Z:=l.free 0
 have z1:=l.cell 1
 have a2:=l.free 1
 have z2:=l.cell 2
 have a0:=l.free 2
 have y0:=j.cell 0
 have a3:=j.free 0
 have y1:=j.cell 1
 have a1:=j.free 1
 have y2:=j.cell 2
 have a4:=j.free 2
 clear hr N f c I J G q O hb F h V
 go_wp2
 refine bodyPost_ret (v:=.tuple #[.agg #[W 0#32,W 0#32,U 0#64],.agg #[.slice none 0 0,U 0#64,U 0#64],.bool false]) (by simp[results,results137,go_sem,Y,z1,z2,y0,y1,y2];done) rfl ⟨rfl,?_⟩
 exact((((((hk.setCell qle _).setCell qle _).setCell qle _).setCell (Nat.le_succ _) _).setCell (Nat.le_succ _) _).setCell (Nat.le_succ _) _)
theorem qKm (vb:Value)(bs:List UInt8)(hl:bs.length≤4000)(w:World)(hb:Sl w vb bs.length (qA1 bs))(h:bs.length=60):Calls prog 137 #[vb] w fun e w'=>∃u,e= .returned (.tuple #[(qRH bs).val,.agg #[u,U (qQk bs).1,U (qQk bs).2],.bool true])∧Sl w' u (qRI bs).length (qA1 (qRI bs))∧qA4 w w':=by
 have a8:qA4 w ((w.alloc (.cells #[W 0#32,W 0#32,U 0#64] 113)).alloc (.cells #[.slice none 0 0,U 0#64,U 0#64] 165)):=(qal _).alloc (by simp) _
 have Y:qA4 w (((w.alloc (.cells #[W 0#32,W 0#32,U 0#64] 113)).alloc (.cells #[.slice none 0 0,U 0#64,U 0#64] 165)).alloc (.cells #[.int .i64 4,.int .i64 8,.int .i64 32,.int .i64 16] 3)):=a8.alloc (by simp;omega) _
 have a5:Blk ((w.alloc (.cells #[W 0#32,W 0#32,U 0#64] 113)).alloc (.cells #[.slice none 0 0,U 0#64,U 0#64] 165)) w.heap.size #[W 0#32,W 0#32,U 0#64] 113:=(Blk.new _ _ _).alloc _
 have a4:Blk ((w.alloc (.cells #[W 0#32,W 0#32,U 0#64] 113)).alloc (.cells #[.slice none 0 0,U 0#64,U 0#64] 165)) (w.heap.size+1) #[.slice none 0 0,U 0#64,U 0#64] 165:=by simpa using Blk.new (w.alloc (.cells #[W 0#32,W 0#32,U 0#64] 113)) #[.slice none 0 0,U 0#64,U 0#64] 165
 have a7:Blk (((w.alloc (.cells #[W 0#32,W 0#32,U 0#64] 113)).alloc (.cells #[.slice none 0 0,U 0#64,U 0#64] 165)).alloc (.cells #[.int .i64 4,.int .i64 8,.int .i64 32,.int .i64 16] 3)) w.heap.size #[W 0#32,W 0#32,U 0#64] 113:=a5.alloc _
 have b3:Blk (((w.alloc (.cells #[W 0#32,W 0#32,U 0#64] 113)).alloc (.cells #[.slice none 0 0,U 0#64,U 0#64] 165)).alloc (.cells #[.int .i64 4,.int .i64 8,.int .i64 32,.int .i64 16] 3)) (w.heap.size+1) #[.slice none 0 0,U 0#64,U 0#64] 165:=a4.alloc _
 have b9:=hb.kept Y
 have a1:w.heap.size+3=(((w.alloc (.cells #[W 0#32,W 0#32,U 0#64] 113)).alloc (.cells #[.slice none 0 0,U 0#64,U 0#64] 165)).alloc (.cells #[.int .i64 4,.int .i64 8,.int .i64 32,.int .i64 16] 3)).heap.size:=by simp
 have a3:Sl (((w.alloc (.cells #[W 0#32,W 0#32,U 0#64] 113)).alloc (.cells #[.slice none 0 0,U 0#64,U 0#64] 165)).alloc (.cells #[.int .i64 4,.int .i64 8,.int .i64 32,.int .i64 16] 3)) (.slice (some ⟨w.heap.size+2,0,none⟩) 4 4) ([4,8,32,16]:List Int).length (qBg [4,8,32,16]):=by simpa [qBg] using Sl.lit ((w.alloc (.cells #[W 0#32,W 0#32,U 0#64] 113)).alloc (.cells #[.slice none 0 0,U 0#64,U 0#64] 165)) #[.int .i64 4,.int .i64 8,.int .i64 32,.int .i64 16] 3 4 (by decide)
 go_enter func137,ntmps137
 go_wp2_with fail
 refine(qDA _ _ bs [4,8,32,16] hl (by simp) _ b9 a3).mono ?_
 rintro e w3 ⟨J,v,rfl,hr⟩
 have f:=a7.kept J
 have j:=b3.kept J
 have hk:=Y.of J
 rw[qKh,if_pos h]
 unfold qPl
 have n0:(bs.take 4).length=4:=by rw[List.length_take];omega
 have n1:((bs.drop 4).take 8).length=8:=by rw[List.length_take,List.length_drop];omega
 have n3:(bs.drop 44).length=16:=by rw[List.length_drop];omega
 obtain⟨us,a6,a0,_,N⟩:=hr _ (by rw[qKh,if_pos h])
 obtain⟨u0,u1,u2,u3,rfl⟩:∃a b c d,us= [a,b,c,d]:=by
  match us,a6 with
  | [a,b,c,d],_=>exact⟨a,b,c,d,rfl⟩
 have hv:=Sl.of_own a0
 have s0:=Sl.of_own (N 0 _ u0 rfl rfl)
 have s1:=Sl.of_own (N 1 _ u1 rfl rfl)
 have s3:=Sl.of_own (N 3 _ u3 rfl rfl)
 have o2:=qAh (N 2 _ u2 rfl rfl) (show w.heap.size+3≤_ by omega)
 obtain⟨q,qo,qc,rfl,b4,c4,_,I⟩:=hv.at (by simp)
 have c3:w.heap.size+3≤q:=by
  obtain⟨_,c2⟩:=a0
  rcases c2 with ⟨e1,_⟩|⟨g,_,_,e1,hbg,_⟩
  · cases e1
  · cases e1;rw[a1];exact hbg
 obtain⟨r2,Z⟩:∃r,r=qRI bs:=⟨_,rfl⟩
 have HR:=qh Z
 rw[show(bs.drop 12).take 32=r2 from Z.symm]at o2
 obtain⟨ua,uc,c5⟩:=(Sl.of_own o2).len
 subst c5
 clear Z
 have x0:=I 0 u0 rfl
 have x1:=I 1 u1 rfl
 have x2:=I 2 _ rfl
 have x3:=I 3 u3 rfl
 rw[Nat.add_zero]at x0
 have c6:(4:Int)≤(qc:Int):=by simp at b4;omega
 have z0:=f.cell 0
 have a9:=f.free 0
 have z1:=f.cell 1
 have b7:=f.free 1
 have z2:=f.cell 2
 have b5:=f.free 2
 have y0:=j.cell 0
 have b8:=j.free 0
 have y1:=j.cell 1
 have a2:=j.free 1
 have y2:=j.cell 2
 have c0:=j.free 2
 have z3:w.heap.size+3≤w3.heap.size:=by rw[a1];exact J.size
 have N0:=qh n0
 have N1:=qh n1
 have N3:=qh n3
 have H:=qh h
 clear hr N a0 a6 a8 Y J a5 a7 a4 b3 b9 hb a3 h n0 n1 n3 hv b4 c4 I a1
 go_wp2_with fail
 refine(qAT _ _ _ s0 (by rw[N0.out];omega) (by rw[N0.out];omega)).mono ?_
 rintro e w4 ⟨rfl,rfl⟩
 go_wp2_with fail
 refine(qAT _ _ _ s1 (by rw[N1.out];omega) (by rw[N1.out];omega)).mono ?_
 rintro e w4 ⟨rfl,rfl⟩
 go_wp2_with fail
 refine(qCo _ _ _ s3 N3.out).mono ?_
 rintro e w4 ⟨rfl,l⟩
 replace f:=f.kept l
 replace j:=j.kept l
 replace x2:=l.at x2
 replace hk:=qA4.of hk l
 have z4:=l.size
 replace o2:=qA5 o2 l
 clear x0 x1 x3 s0 s1 s3 l
 clear z0 z1 z2 y0 y1 y2 a9 b7 b5 b8 a2 c0
 go_wp2_with fail
 have hP:=Blk.new w4 #[U (qAr (bs.drop 44)).1,U (qAr (bs.drop 44)).2] 115
 replace f:=f.alloc (.cells #[U (qAr (bs.drop 44)).1,U (qAr (bs.drop 44)).2] 115)
 replace j:=j.alloc (.cells #[U (qAr (bs.drop 44)).1,U (qAr (bs.drop 44)).2] 115)
 have O:qA4 w4 (w4.alloc (.cells #[U (qAr (bs.drop 44)).1,U (qAr (bs.drop 44)).2] 115)):=qal _
 replace x2:=O.at x2
 replace o2:=qA5 o2 O
 replace hk:=qA4.of hk O
 have b6:w.heap.size+3≤w4.heap.size:=by omega
 clear O
 generalize w4.alloc (.cells #[U (qAr (bs.drop 44)).1,U (qAr (bs.drop 44)).2] 115)=W5 at *
 refine qE0 (w.heap.size+3) [(0,0),(1,0),(2,0),(3,0),(4,0),(5,0),(6,0),(7,0),(8,0),(9,1),(10,1),(11,0)] (by kernel_rfl) (by kernel_rfl) ?_
 intro w6 G
 replace hP:=hP.kept G
 replace x2:=G.at x2
 replace f:=f.kept G
 replace j:=j.kept G
 repeat
  refine qA0 _ rfl (fun K F=>?_)
  first
   | (refine qqP (by rfl) ?_;apply Exists.intro;refine⟨fun w' V=>?_,F _ ?_⟩;(have k2:=V.cell x2 c3;have k0:=(hP.above V b6).cell 0;have k1:=(hP.above V b6).cell 1;go_simp;first|done|rfl))
   | refine qqN (by rfl) (F _ ?_)
  clear F K;simp only[Act.put,qqB]
 refine qqH _ rfl (by rfl) (fun K F=>?_)
 have z0:=f.cell 0
 have a9:=f.free 0
 have z1:=f.cell 1
 have b7:=f.free 1
 have z2:=f.cell 2
 have b5:=f.free 2
 have y0:=j.cell 0
 have b8:=j.free 0
 have y1:=j.cell 1
 have a2:=j.free 1
 have y2:=j.cell 2
 have c0:=j.free 2
 go_wp2
 refine F _ _ ((((qBq.refl _ _).trans (qBq.setCell (a:=⟨w.heap.size,0,none⟩) (show w.heap.size<w.heap.size+3 by omega) _)).trans (qBq.setCell (a:=⟨w.heap.size,1,none⟩) (show w.heap.size<w.heap.size+3 by omega) _)).trans (qBq.setCell (a:=⟨w.heap.size,2,none⟩) (show w.heap.size<w.heap.size+3 by omega) _)) ?_
 clear F K
 try simp only[Act.put,qqB]
 refine qqH _ rfl (by rfl) (fun K F=>?_)
 go_wp2
 refine F _ _ ((((qBq.refl _ _).trans (qBq.setCell (a:=⟨w.heap.size+1,0,none⟩) (show w.heap.size+1<w.heap.size+3 by omega) _)).trans (qBq.setCell (a:=⟨w.heap.size+1,1,none⟩) (show w.heap.size+1<w.heap.size+3 by omega) _)).trans (qBq.setCell (a:=⟨w.heap.size+1,2,none⟩) (show w.heap.size+1<w.heap.size+3 by omega) _)) ?_
 clear F K
 try simp only[Act.put,qqB]
 repeat
  refine qA0 _ rfl (fun K F=>?_)
  first
   | (refine qqP (by rfl) ?_;apply Exists.intro;refine⟨fun w' V=>?_,F _ ?_⟩;go_simp;first|done|rfl)
   | refine qqN (by rfl) (F _ ?_)
  clear F K;simp only[Act.put,qqB]
 refine qA6 ?_
 go_wp2
 have c1:=qA4.of hk G
 refine bodyPost_ret (v:=.tuple #[(qRH bs).val,.agg #[.slice ua r2.length uc,U (qQk bs).1,U (qQk bs).2],.bool true]) (by simp[results,results137,go_sem,Nn.val,qRH,qQk,z0,z1,z2,y0,y1,y2];done) rfl ⟨_,rfl,?_,?_⟩
 · rw[←HR.out]
   exact Sl.of_own (qIx (qA5 o2 G) (qBq.trans ((((qBq.refl _ _).trans (qBq.setCell (a:=⟨w.heap.size,0,none⟩) (show w.heap.size<w.heap.size+3 by omega) _)).trans (qBq.setCell (a:=⟨w.heap.size,1,none⟩) (show w.heap.size<w.heap.size+3 by omega) _)).trans (qBq.setCell (a:=⟨w.heap.size,2,none⟩) (show w.heap.size<w.heap.size+3 by omega) _)) ((((qBq.refl _ _).trans (qBq.setCell (a:=⟨w.heap.size+1,0,none⟩) (show w.heap.size+1<w.heap.size+3 by omega) _)).trans (qBq.setCell (a:=⟨w.heap.size+1,1,none⟩) (show w.heap.size+1<w.heap.size+3 by omega) _)).trans (qBq.setCell (a:=⟨w.heap.size+1,2,none⟩) (show w.heap.size+1<w.heap.size+3 by omega) _))))
 · exact((((((c1.setCell qle _).setCell qle _).setCell qle _).setCell (Nat.le_succ _) _).setCell (Nat.le_succ _) _).setCell (Nat.le_succ _) _)

def qSc (m n:Nn):Bool:=decide (m=n)
@[go_sem high] theorem qSd (a b c d:BitVec 32) (x y:BitVec 64) (w:World):(Op.equalIn 10000 113 (.agg #[W a,W b,U x]) (.agg #[W c,W d,U y])).run prog w= .ok (qSc ⟨a,b,x⟩ ⟨c,d,y⟩) w:=by
 unfold qSc
 rw[run_equalIn_struct (P:=prog) w 9999 113 _ _ (by kernel_rfl) (by kernel_rfl)]
 have h0:=underlying113
 have u32:=underlying94
 have u64:=underlying29
 unfold Program.fieldsOf
 rw[h0]
 have n0:("Epoch" ≠ "_")=True:=by decide
 have n1:("Slot" ≠ "_")=True:=by decide
 have n2:("Version" ≠ "_")=True:=by decide
 have p0:∀(w:World) (a b:BitVec 32) (x:BitVec 64),(part 94 #[W a,W b,U x] 0).run prog w= .ok (W a) w:=fun w a b x=>qBP w _ .u32 u32 _ 0 _ rfl
 have p1:∀(w:World) (a b:BitVec 32) (x:BitVec 64),(part 94 #[W a,W b,U x] 1).run prog w= .ok (W b) w:=fun w a b x=>qBP w _ .u32 u32 _ 1 _ rfl
 have p2:∀(w:World) (a b:BitVec 32) (x:BitVec 64),(part 29 #[W a,W b,U x] 2).run prog w= .ok (U x) w:=fun w a b x=>qBP w _ .u64 u64 _ 2 _ rfl
 simp only[Op.eqFields,Sem.run_bind,Sem.run_ite,n0,n1,n2,if_true,p0,p1,p2,Result.andThen_ok,fun w=>qGf (P:=prog) w 9998 94 u32,fun w=>qDr (P:=prog) w 9998 29 u64,Sem.run_pure]
 by_cases h1:a=c
 · by_cases h2:b=d
   · by_cases h3:x=y
     · simp[h1,h2,h3]
     · simp[h1,h2,h3]
   · simp[h1,h2]
 · simp[h1]
end Go.Proofs.YtdlgihbpiakebaaGreat
