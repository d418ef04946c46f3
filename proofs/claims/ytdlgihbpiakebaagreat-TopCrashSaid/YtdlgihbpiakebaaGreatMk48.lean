import Derived.Test.YtdlgihbpiakebaaGreatMk19
import Derived.Test.YtdlgihbpiakebaaGreatMk47
set_option maxRecDepth 100000
set_option maxHeartbeats 4000000
namespace Go.Proofs.YtdlgihbpiakebaaGreat
open Go Go.RowKit Tryz
def Bx.leaf (b:Bx)(s:Nat):Lf:=b.c.now[s]?.getD Lf.zero
def Bx.dataAt (b:Bx)(s:Nat):List UInt8:=(b.x.sd.snap.drop (gData b.x.n s)).take 32
def Lf.nn (y:Lf):Nn:=⟨y.ep,y.sl,y.ver⟩
def Bx.openL (b:Bx)(y:Lf)(out:List UInt8):Option (List UInt8):=if b.x.eps.contains y.ep then b.x.l.openP (qFd b.x.seed b.x.eps y.ep) y.nn (qCI y.lba) out y.tag else none
def Bx.valD (b:Bx)(s:Nat):Option (List UInt8):=if(b.leaf s).kind=2 then some (List.replicate 32 0) else b.openL (b.leaf s) (b.dataAt s)
def Bx.setBad (b:Bx):Bx:=⟨b.x,b.boot,b.k,{ b.c with bad:=true }⟩
def Bx.valX (b:Bx)(s:Nat):Bx:=if(b.valD s).isSome then b else b.setBad
theorem qEo (w:World):(Instr.makeSlice 32 (.int .i64 32) (.int .i64 32)).run prog w= .ok (.slice (some ⟨w.heap.size,0,none⟩) 32 32) (w.alloc (.cells (qA1 (List.replicate 32 0)).toArray 5)):=qBU (P:=prog) w qAx .i64 .i64 32 (by omega)
theorem qFp (w:World):(w.alloc (.cells (qA1 (List.replicate 32 0)).toArray 5)).ownsRow w.heap.size 5 1 (.slice (some ⟨w.heap.size,0,none⟩) 32 32) 32 (qA1 (List.replicate 32 0)):=qCB 32 (by decide) 5 (List.replicate 32 0) List.length_replicate (Blk.new w _ _) qle
theorem qIj {n s:Nat}(hs:s<n):gData n s+32≤gSize n∧gData n s<gSize n:=by unfold gData gSize;omega
theorem qBm.setBad {col:Nat→Nat}{w:World}{P:qAU}{M C A:Nat}{vn vw:Value}{b:Bx}(h:qBm col w P M C A vn vw b):qBm col (w.setCell ⟨C,5,none⟩ (.bool true)) P M C A vn vw b.setBad∧Ext 11 col col w (w.setCell ⟨C,5,none⟩ (.bool true)):=by
 have q:Chg [C] w (w.setCell ⟨C,5,none⟩ (.bool true)):=(Chg.refl _ _).set qsm 5 _
 have o:One 9 col col w (w.setCell ⟨C,5,none⟩ (.bool true)):=One.chg h.top q (fun b l=>by rw[List.mem_singleton]at l;subst l;exact h.cC)
 have f:=h.blk.set 5 (.bool true)
 simp only[qqA,qq0,qq1]at f
 have c:=o.same (j:=10) (by decide)
 exact⟨⟨h.wm.one o (by decide),f,h.cC,c.own h.now h.cn,c.own h.was h.cw,h.cn,h.cw,h.ne,h.age.frame (o.same (by decide))⟩,o.ext (by decide) (by decide)⟩
theorem qC9 (lba:Int):(qCI lba).length=2:=by unfold qCI;exact qA9 _ _
theorem qLn {col:Nat→Nat}{w:World}{P:qAU}{M C A:Nat}{vn vw:Value}{b:Bx}(h:qBm col w P M C A vn vw b){m:Nat}(f:b.fine m)(hm:m≤60000)(hg:b.x.p.gone=false)(s:Nat)(hs:s<b.c.now.length):Calls prog 118 #[.pointer (some ⟨C,0,none⟩),.int .i64 (s:Int)] w fun e w'=>∃v,e= .returned (.tuple #[v,.int .i64 (qI5 (b.valD s).isSome 3)])∧(∀d,b.valD s=some d→w'.ownsRow w.heap.size 5 1 v d.length (qA1 d))∧qBm col w' P M C A vn vw (b.valX s)∧Ext 11 col col w w':=by
 have g0:=qAo f.x.ok.sl
 have e1:=f.nl
 obtain⟨N,hN⟩:∃N,N=b.x.n:=⟨_,rfl⟩
 have e4:=h.wm.wd.blk
 rw[←hN]at e4 g0 e1
 have bC:=h.blk
 obtain⟨g1,c1,d8⟩:=qAy h.now (by omega)
 have b3:=h.now
 rw[d8]at b3
 have c8:=bC
 rw[d8]at c8
 have q2:=c8.cell 2
 obtain⟨y,hy⟩:∃y,y=b.c.now[s]:=⟨_,rfl⟩
 have e7:b.c.now[s]? = some y:=by rw[List.getElem?_eq_getElem hs,hy]
 have f3:b.leaf s=y:=by unfold Bx.leaf;rw[e7];rfl
 have hw:=qBQ b3 s y e7
 have d0:w.cell? ⟨g1,s*8,none⟩=some (.int .i64 y.kind):=hw 0 _ rfl
 have d1:w.cell? ⟨g1,s*8+1,none⟩=some (.bool y.dirty):=hw 1 _ rfl
 have d2:w.cell? ⟨g1,s*8+2,none⟩=some (.int .i64 y.lba):=hw 2 _ rfl
 have d3:w.cell? ⟨g1,s*8+3,none⟩=some (W y.ep):=hw 3 _ rfl
 have d4:w.cell? ⟨g1,s*8+4,none⟩=some (W y.sl):=hw 4 _ rfl
 have d5:w.cell? ⟨g1,s*8+5,none⟩=some (U y.ver):=hw 5 _ rfl
 have d6:w.cell? ⟨g1,s*8+6,none⟩=some (U y.tag.1):=hw 6 _ rfl
 have d7:w.cell? ⟨g1,s*8+7,none⟩=some (U y.tag.2):=hw 7 _ rfl
 rw[e1]at q2
 have f7:s<N:=by omega
 have i1:(s:Int)<(N:Int):=by omega
 have i2:(0:Int)≤(s:Int):=by omega
 have e3:qD9 (N:Int)=true:=by rw[hN];exact f.x.ok.sl
 have CG:=fun z=>qIU N e3 s f7 z
 have e8:=qIj f7
 have CR:∀z,qA4 w z→Calls prog 101 #[.pointer (some ⟨P.s,0,none⟩),.int .i64 (gData N s:Nat),.int .i64 32] z fun e w'=>∃u c,e= .returned (.tuple #[.slice u 32 c,.bool true])∧qI6 w' z.heap.size (.slice u 32 c) ((b.x.sd.snap.drop (gData N s)).take 32)∧((b.x.sd.snap.drop (gData N s)).take 32).length=32∧qA4 z w':=fun z hz=>qI7 (h.wm.wd.kept hz) f.x.ok (by omega) (gData N s) 32 (by rw[←hN];exact e8.1) (by rw[←hN];exact e8.2) hg
 have f9:(b.x.sd.snap.drop (gData N s)).take 32=b.dataAt s:=by unfold Bx.dataAt;rw[←hN]
 rw[f9]at CR
 have a5:b.valD s=if y.kind=2 then some (List.replicate 32 0) else b.openL y (b.dataAt s):=by unfold Bx.valD;rw[f3]
 obtain⟨ky,c5⟩:∃k,k=qFd b.x.seed b.x.eps y.ep:=⟨_,rfl⟩
 have e2:=qh c5
 obtain⟨k1,k2⟩:=ky
 obtain⟨B2,g3⟩:∃B,B=b.x.eps.contains y.ep:=⟨_,rfl⟩
 have b7:=qh g3
 replace a5:=qh a5
 have b4:qA4 w (w.alloc (.cells #[.int .i64 y.kind,.bool y.dirty,.int .i64 y.lba,W y.ep,W y.sl,U y.ver,U y.tag.1,U y.tag.2] 117)):=qal _
 have bL:=Blk.new w #[.int .i64 y.kind,.bool y.dirty,.int .i64 y.lba,W y.ep,W y.sl,U y.ver,U y.tag.1,U y.tag.2] 117
 have bW:=e4
 have a0:=bL.cell 0
 replace e3:=qh e3
 clear hN e1 d8 hy e7 f3 hw f9 c5 g3 b3 e8 c8 e4
 by_cases a7:y.kind=2
 · have G:b.valD s=some (List.replicate 32 0):=by rw[a5.out,if_pos a7]
   replace G:=qh G
   have h0:=qEo (w.alloc (.cells #[.int .i64 y.kind,.bool y.dirty,.int .i64 y.lba,W y.ep,W y.sl,U y.ver,U y.tag.1,U y.tag.2] 117))
   have f4:qA4 w ((w.alloc (.cells #[.int .i64 y.kind,.bool y.dirty,.int .i64 y.lba,W y.ep,W y.sl,U y.ver,U y.tag.1,U y.tag.2] 117)).alloc (.cells (qA1 (List.replicate 32 0)).toArray 5)):=b4.alloc (by simp) _
   have f2:=qFp (w.alloc (.cells #[.int .i64 y.kind,.bool y.dirty,.int .i64 y.lba,W y.ep,W y.sl,U y.ver,U y.tag.1,U y.tag.2] 117))
   rw[World.size_alloc]at h0 f2
   have HK:=qh a7
   have hb:(y.kind==2)=true:=by rw[a7];rfl
   clear a7
   go_enter func118,ntmps118
   go_wp2_with fail
   refine bodyPost_ret (v:=.tuple #[.slice (some ⟨w.heap.size+1,0,none⟩) 32 32,.int .i64 0]) (by simp[results,results118,go_sem];done) rfl ⟨_,by rw[G.out];rfl,fun d hd=>?_,?_,Ext.kept h.top f4⟩
   · rw[G.out]at hd
     have h5:List.replicate 32 0=d:=Option.some.inj hd
     rw[←h5,List.length_replicate]
     exact qAh f2 (by omega)
   · have:b.valX s=b:=by unfold Bx.valX;rw[G.out];rfl
     rw[this]
     exact h.kept f4
 · have c2:b.valD s=b.openL y (b.dataAt s):=by rw[a5.out,if_neg a7]
   replace c2:=qh c2
   have hb:(y.kind==2)=false:=by simpa using a7
   go_enter func118,ntmps118
   go_wp2_with fail
   generalize (w.alloc (.cells #[.int .i64 y.kind,.bool y.dirty,.int .i64 y.lba,W y.ep,W y.sl,U y.ver,U y.tag.1,U y.tag.2] 117))=wA at *
   refine qA3 [(0,0),(1,0),(2,0),(3,0),(4,0),(5,0),(6,0),(7,0),(8,0),(9,0),(10,0),(11,0),(12,0),(13,0),(14,0),(15,1),(16,1),(17,0),(18,0),(19,0),(20,0),(21,0)] (by kernel_rfl) (by kernel_rfl) ?_
   intro z1 a8
   repeat
    refine qA0 _ rfl (fun K O=>?_)
    first
     | (refine qqP (by rfl) ?_;apply Exists.intro;refine⟨fun w' q=>?_,O _ ?_⟩;(have c:=bC.kept (b4.of (a8.of q));have c0:=c.cell 0;clear c;have d:=bW.kept (b4.of (a8.of q));have d0:=d.cell 0;have d2:=d.cell 2;clear d;go_simp;first|done|rfl))
     | refine qqN (by rfl) (O _ ?_)
    clear O K;simp only[Act.put,qqB]
   refine qqH _ rfl (by rfl) (fun K O=>?_)
   go_wp2_with fail
   refine(CG z1).mono ?_
   rintro e z2 ⟨rfl,a6⟩
   go_wp2
   refine O _ _ (a6) ?_
   clear O K
   try simp only[Act.put,qqB]
   refine qqH _ rfl (by rfl) (fun K O=>?_)
   go_wp2_with fail
   refine(CR z2 (b4.of (a8.of a6))).mono ?_
   rintro e z3 ⟨u,uc,rfl,h3,e0,c7⟩
   go_wp2
   refine O _ _ (c7) ?_
   clear O K
   try simp only[Act.put,qqB]
   repeat
    refine qA0 _ rfl (fun K O=>?_)
    first
     | (refine qqP (by rfl) ?_;apply Exists.intro;refine⟨fun w' q=>?_,O _ ?_⟩;go_simp;first|done|rfl)
     | refine qqN (by rfl) (O _ ?_)
    clear O K;simp only[Act.put,qqB]
   refine qA6 ?_
   have b8:=e0
   have g5:=h3.sl
   rw[e0]at g5
   replace b8:=qh b8
   have F:=b4.of ((a8.of a6).of c7)
   have b9:=bC.kept F
   have b6:=bW.kept F
   have e5:=bL.kept ((a8.of a6).of c7)
   clear e0 a0
   go_wp2_with fail
   refine qBj z3.heap.size [(0,0),(1,0),(2,0),(3,0),(4,0),(5,0),(6,0),(7,0),(8,0),(9,0),(11,0),(12,0),(13,0),(16,0)] ((.light 0 (.light 1 (.light 2 (.light 3 (.light 4 (.light 5 (.light 6 (.light 7 (.light 8 (.light 9 (.two 10 14 (.light 11 (.light 12 (.light 13 (.heavy 14 (.heavy 15 (.light 16 .nil)))))) (.heavy 10 (.light 11 (.light 12 (.light 13 (.heavy 15 (.light 16 .nil)))))))))))))))))) (by kernel_rfl) (by kernel_rfl) ?_
   intro z0 a2
   have I:qA4 z0 z0:=Below.refl _ _
   have g2:=b9.kept a2
   have e9:=b6.kept a2
   have h2:=e5.kept a2
   refine qA2 _ rfl (fun J j=>?_)
   refine qqP (by rfl) ?_;apply Exists.intro;refine⟨fun w' q=>?_,j _ ?_⟩
   · go_simp;first|done|rfl
   clear j J;simp only[Act.put,qqB]
   refine qA2 _ rfl (fun J j=>?_)
   refine qqP (by rfl) ?_;apply Exists.intro;refine⟨fun w' q=>?_,j _ ?_⟩
   · go_simp;first|done|rfl
   clear j J;simp only[Act.put,qqB]
   refine qA2 _ rfl (fun J j=>?_)
   refine qqP (by rfl) ?_;apply Exists.intro;refine⟨fun w' q=>?_,j _ ?_⟩
   · go_simp;first|done|rfl
   clear j J;simp only[Act.put,qqB]
   refine qA2 _ rfl (fun J j=>?_)
   refine qqP (by rfl) ?_;apply Exists.intro;refine⟨fun w' q=>?_,j _ ?_⟩
   · have c:=(g2.below q b9.lt);have c0:=c.cell 0;clear c;have d:=(e9.below q b6.lt);have d5:=d.cell 5;clear d;go_simp;first|done|rfl
   clear j J;simp only[Act.put,qqB]
   refine qA2 _ rfl (fun J j=>?_)
   refine qqP (by rfl) ?_;apply Exists.intro;refine⟨fun w' q=>?_,j _ ?_⟩
   · go_simp;first|done|rfl
   clear j J;simp only[Act.put,qqB]
   refine qA2 _ rfl (fun J j=>?_)
   refine qqP (by rfl) ?_;apply Exists.intro;refine⟨fun w' q=>?_,j _ ?_⟩
   · go_simp;first|done|rfl
   clear j J;simp only[Act.put,qqB]
   refine qA2 _ rfl (fun J j=>?_)
   refine qqP (by rfl) ?_;apply Exists.intro;refine⟨fun w' q=>?_,j _ ?_⟩
   · have c:=(g2.below q b9.lt);have c0:=c.cell 0;clear c;have d:=(e9.below q b6.lt);have d5:=d.cell 5;clear d;go_simp;first|done|rfl
   clear j J;simp only[Act.put,qqB]
   refine qA2 _ rfl (fun J j=>?_)
   refine qqP (by rfl) ?_;apply Exists.intro;refine⟨fun w' q=>?_,j _ ?_⟩
   · go_simp;first|done|rfl
   clear j J;simp only[Act.put,qqB]
   refine qA2 _ rfl (fun J j=>?_)
   refine qqP (by rfl) ?_;apply Exists.intro;refine⟨fun w' q=>?_,j _ ?_⟩
   · go_simp;first|done|rfl
   clear j J;simp only[Act.put,qqB]
   refine qA2 _ rfl (fun J j=>?_)
   refine qqP (by rfl) ?_;apply Exists.intro;refine⟨fun w' q=>?_,j _ ?_⟩
   · have c:=(h2.below q e5.lt);have c3:=c.cell 3;clear c;go_simp;first|done|rfl
   clear j J;simp only[Act.put,qqB]
   refine qC2 ?_ ?_
   focus
    refine qAc _ rfl (fun J j=>?_)
    refine qqP (by rfl) ?_
    go_wp2_with fail
    refine(qIY (h.wm.wd.kept (F.of (a2.of I))) f.x.ok (by omega) y.ep).mono ?_
    rintro e y1 ⟨rfl,ka⟩
    rw[←e2.out,←b7.out]
    have V:=Nat.le_trans a2.size I.size
    replace I:=I.of ka
    unfold Pr
    go_wp2
    refine j _ _ (ka.mono V) ?_
    clear j J
    try simp only[Act.put,qqB]
    clear V
    refine qA2 _ rfl (fun J j=>?_)
    refine qqP (by rfl) ?_;apply Exists.intro;refine⟨fun w' q=>?_,j _ ?_⟩
    · go_simp;first|done|rfl
    clear j J;simp only[Act.put,qqB]
    refine qA2 _ rfl (fun J j=>?_)
    refine qqP (by rfl) ?_;apply Exists.intro;refine⟨fun w' q=>?_,j _ ?_⟩
    · go_simp;first|done|rfl
    clear j J;simp only[Act.put,qqB]
    refine qA2 _ rfl (fun J j=>?_)
    refine qqP (by rfl) ?_;apply Exists.intro;refine⟨fun w' q=>?_,j _ ?_⟩
    · go_simp;first|done|rfl
    clear j J;simp only[Act.put,qqB]
    refine qAc _ rfl (fun J j=>?_)
    refine qqP (by rfl) ?_
    have kb:qA4 y1 (y1.alloc (.cells #[U 0#64,U 0#64] 115)):=qal _
    have bY:=Blk.new y1 #[U 0#64,U 0#64] 115
    have V:=Nat.le_trans a2.size I.size
    obtain⟨gk,a3⟩:∃g,g=y1.heap.size:=⟨_,rfl⟩
    rw[←a3]at bY
    replace I:=I.of kb
    go_wp2
    refine j _ _ (kb.mono V) ?_
    clear j J
    try simp only[Act.put,qqB]
    rw[←a3]
    have d9:z3.heap.size≤gk:=by rw[a3];exact V
    clear a3
    generalize (y1.alloc (.cells #[U 0#64,U 0#64] 115))=y2 at *
    clear V
   rotate_left
   focus
    refine qAc _ rfl (fun J j=>?_)
    refine qqP (by rfl) ?_
    have kb:qA4 z0 (z0.alloc (.cells #[U 0#64,U 0#64] 115)):=qal _
    have bY:=Blk.new z0 #[U 0#64,U 0#64] 115
    have V:=Nat.le_trans a2.size I.size
    obtain⟨gk,a3⟩:∃g,g=z0.heap.size:=⟨_,rfl⟩
    rw[←a3]at bY
    replace I:=I.of kb
    go_wp2
    refine j _ _ (kb.mono V) ?_
    clear j J
    try simp only[Act.put,qqB]
    rw[←a3]
    have d9:z3.heap.size≤gk:=by rw[a3];exact V
    clear a3
    generalize (z0.alloc (.cells #[U 0#64,U 0#64] 115))=y1 at *
    clear V
    refine qAc _ rfl (fun J j=>?_)
    refine qqP (by rfl) ?_
    go_wp2_with fail
    refine(qIY (h.wm.wd.kept (F.of (a2.of I))) f.x.ok (by omega) y.ep).mono ?_
    rintro e y2 ⟨rfl,ka⟩
    rw[←e2.out,←b7.out]
    have V:=Nat.le_trans a2.size I.size
    replace I:=I.of ka
    unfold Pr
    go_wp2
    refine j _ _ (ka.mono V) ?_
    clear j J
    try simp only[Act.put,qqB]
    replace bY:=bY.kept ka
    clear V
    refine qA2 _ rfl (fun J j=>?_)
    refine qqP (by rfl) ?_;apply Exists.intro;refine⟨fun w' q=>?_,j _ ?_⟩
    · go_simp;first|done|rfl
    clear j J;simp only[Act.put,qqB]
    refine qA2 _ rfl (fun J j=>?_)
    refine qqP (by rfl) ?_;apply Exists.intro;refine⟨fun w' q=>?_,j _ ?_⟩
    · go_simp;first|done|rfl
    clear j J;simp only[Act.put,qqB]
    refine qA2 _ rfl (fun J j=>?_)
    refine qqP (by rfl) ?_;apply Exists.intro;refine⟨fun w' q=>?_,j _ ?_⟩
    · go_simp;first|done|rfl
    clear j J;simp only[Act.put,qqB]
   all_goals
    refine qAc _ rfl (fun J j=>?_)
    refine qqP (by rfl) ?_
    have f0:=bY.free 0
    have f1:=bY.free 1
    have x0:=bY.cell 0
    have x1:=bY.cell 1
    have bK:=(bY.set 0 (U k1)).set 1 (U k2)
    simp only[qqA,qq0,qq1]at bK
    have c4:Below z3.heap.size y2 ((y2.setCell ⟨gk,0,none⟩ (U k1)).setCell ⟨gk,1,none⟩ (U k2)):=((Below.refl _ _).setCell (p:=⟨gk,0,none⟩) d9 _).setCell (p:=⟨gk,1,none⟩) d9 _
    have Y:qA4 z3 ((y2.setCell ⟨gk,0,none⟩ (U k1)).setCell ⟨gk,1,none⟩ (U k2)):=Below.trans (a2.of I) c4
    go_wp2
    refine j _ _ (c4) ?_
    clear j J
    try simp only[Act.put,qqB]
    clear f0 f1 x0 x1
    generalize ((y2.setCell ⟨gk,0,none⟩ (U k1)).setCell ⟨gk,1,none⟩ (U k2))=zF at *
    refine qA2 _ rfl (fun J j=>?_)
    refine qqP (by rfl) ?_;apply Exists.intro;refine⟨fun w' q=>?_,j _ ?_⟩
    · go_simp;first|done|rfl
    clear j J;simp only[Act.put,qqB]
    refine qCZ ?_
    have g9:=b9.kept Y
    have g7:=b6.kept Y
    have g8:=e5.kept Y
    cases B2 with
    | false =>
     have a1:b.valD s=none:=by rw[c2.out];unfold Bx.openL;rw[if_neg];rw[←b7.out];decide
     replace a1:=qh a1
     have b5:=bC.kept (F.of Y)
     have f5:=b5.free 5
     have x5:=b5.cell 5
     go_wp2_with fail
     obtain⟨e6,c9⟩:=(h.kept (F.of Y)).setBad
     refine bodyPost_ret (v:=.tuple #[.slice none 0 0,.int .i64 3]) (by simp[results,results118,go_sem];done) rfl ⟨_,by rw[a1.out];rfl,(fun d hd=>by rw[a1.out]at hd;cases hd),?_,(Ext.kept (m:=11) h.top (F.of Y)).trans c9⟩
     have:b.valX s=b.setBad:=by unfold Bx.valX;rw[a1.out];rfl
     rw[this]
     exact e6
    | true =>
     obtain⟨op,c6⟩:∃o,o=b.x.l.openP (k1,k2) y.nn (qCI y.lba) (b.dataAt s) y.tag:=⟨_,rfl⟩
     have f6:b.valD s=op:=by rw[c2.out];unfold Bx.openL;rw[if_pos b7.out.symm,←e2.out,←c6]
     have g4:=qh c6
     have g6:=qh f6
     clear c6 f6
     have h1:=fun z=>qL2 y.lba z
     go_wp2_with fail
     refine qA3 [(0,0),(1,0),(2,0),(3,0),(4,0),(5,0),(6,0),(7,0),(8,0),(9,0),(10,0),(11,0),(13,0),(14,0),(15,0),(16,0),(12,1),(17,1),(18,0),(19,0),(20,0),(21,0),(22,0)] (by kernel_rfl) (by kernel_rfl) ?_
     intro z5 Z
     repeat
      refine qA0 _ rfl (fun K O=>?_)
      first
       | (refine qqP (by rfl) ?_;apply Exists.intro;refine⟨fun w' q=>?_,O _ ?_⟩;(have c:=g9.kept (Z.of q);have c0:=c.cell 0;clear c;have d:=g7.kept (Z.of q);have d6:=d.cell 6;clear d;have k:=bK.kept (Z.of q);have h6:=k.cell 0;have h7:=k.cell 1;clear k;have l:=g8.kept (Z.of q);have l2:=l.cell 2;have l3:=l.cell 3;have l4:=l.cell 4;have l5:=l.cell 5;have l6:=l.cell 6;have l7:=l.cell 7;clear l;go_simp;first|done|rfl))
       | refine qqN (by rfl) (O _ ?_)
      clear O K;simp only[Act.put,qqB]
     refine qqH _ rfl (by rfl) (fun K O=>?_)
     go_wp2_with fail
     refine(h1 z5).mono ?_
     rintro e z6 ⟨hv,rfl,oh,a4⟩
     obtain⟨ha,hc,rfl⟩:=(Sl.of_own oh).len
     go_wp2
     refine O _ _ (a4) ?_
     clear O K
     try simp only[Act.put,qqB]
     refine qqH _ rfl (by rfl) (fun K O=>?_)
     go_wp2_with fail
     refine(qNE (h.wm.wd.kept ((F.of Y).of (Z.of a4))) f.x (by omega) (k1,k2) y.tag y.nn _ _ (qCI y.lba) (b.dataAt s) (by rw[qC9];omega) (by rw[b8.out];omega) (by rw[qC9];exact Sl.of_own oh) (by rw[b8.out];exact(g5.kept Y).kept (Z.of a4))).mono ?_
     rintro e z7 ⟨v,rfl,h4,a9⟩
     rw[g4.out.symm]
     go_wp2
     refine O _ _ (a9) ?_
     clear O K
     try simp only[Act.put,qqB]
     repeat
      refine qA0 _ rfl (fun K O=>?_)
      first
       | (refine qqP (by rfl) ?_;apply Exists.intro;refine⟨fun w' q=>?_,O _ ?_⟩;go_simp;first|done|rfl)
       | refine qqN (by rfl) (O _ ?_)
      clear O K;simp only[Act.put,qqB]
     refine qA6 ?_
     cases op with
     | none =>
      simp only[Option.isSome_none]
      have a1:b.valD s=none:=g6.out
      replace a1:=qh a1
      have b5:=bC.kept ((F.of Y).of ((Z.of a4).of a9))
      have f5:=b5.free 5
      have x5:=b5.cell 5
      go_wp2_with fail
      obtain⟨e6,c9⟩:=(h.kept ((F.of Y).of ((Z.of a4).of a9))).setBad
      refine bodyPost_ret (v:=.tuple #[.slice none 0 0,.int .i64 3]) (by simp[results,results118,go_sem];done) rfl ⟨_,by rw[a1.out];rfl,(fun d hd=>by rw[a1.out]at hd;cases hd),?_,(Ext.kept (m:=11) h.top ((F.of Y).of ((Z.of a4).of a9))).trans c9⟩
      have:b.valX s=b.setBad:=by unfold Bx.valX;rw[a1.out];rfl
      rw[this]
      exact e6
     | some d =>
      simp only[Option.isSome_some]
      have G:b.valD s=some d:=g6.out
      have ho:=h4 d g4.out.symm
      replace G:=qh G
      go_wp2_with fail
      have f8:=(F.of Y).of ((Z.of a4).of a9)
      refine bodyPost_ret (v:=.tuple #[v,.int .i64 0]) (by simp[results,results118,go_sem];done) rfl ⟨_,by rw[G.out];rfl,fun d' hd=>?_,?_,Ext.kept h.top f8⟩
      · rw[G.out]at hd
        cases hd
        exact qAh ho ((F.of Y).of (Z.of a4)).size
      · have:b.valX s=b:=by unfold Bx.valX;rw[G.out];rfl
        rw[this]
        exact h.kept f8
def Wd.dPut (x:Wd)(lba:Int)(d:List UInt8):Wd:=if x.d.no then x else x.dWrite (lba,d)
def Wd.dOk (x:Wd):Bool:=!x.d.no&&x.p.spend.1
def Bx.spX (b:Bx)(s:Nat):Option (List UInt8)→Bx
 | none=>b.setBad
 | some d=>⟨b.x.dPut (b.leaf s).lba d,b.boot,b.k,b.c⟩
def Bx.spE (b:Bx)(s:Nat):Option (List UInt8)→Int
 | none=>3
 | some d=>if b.x.dOk then 0 else if(b.x.dPut (b.leaf s).lba d).p.gone then 7 else 5
def Bx.spillX (b:Bx)(s:Nat):Bx:=b.spX s (b.valD s)
def Bx.spillE (b:Bx)(s:Nat):Int:=b.spE s (b.valD s)
theorem qDd {b:Bx}{m:Nat}(f:b.fine m){s:Nat}(hs:s<b.c.now.length)(hk:(b.leaf s).kind≠0):0≤(b.leaf s).lba∧(b.leaf s).lba<32:=by
 have hl:qAM (b.leaf s) (s:Int)=true:=by
  unfold Bx.leaf
  rw[List.getElem?_eq_getElem hs]
  exact f.nok s _ (List.getElem?_eq_getElem hs)
 unfold qAM at hl
 simp only[Bool.and_eq_true]at hl
 have h:=hl.2
 rw[if_neg hk]at h
 split at h
 · simp only[Bool.and_eq_true,qBR,decide_eq_true_eq]at h
   exact h.1
 · split at h
   · simp only[Bool.and_eq_true,qBR,decide_eq_true_eq]at h
     exact h.1.1
   · cases h
theorem qEp {b:Bx}{m:Nat}(f:b.fine m){s:Nat}(hs:s<b.c.now.length){d:List UInt8}(hd:b.valD s=some d):d.length=32:=by
 have hn:s<b.x.n:=by have:=f.nl;omega
 have h:(b.dataAt s).length=32:=by
  have G:=qIj hn
  have F:=Sd.snap_length f.x.ok.s
  unfold Bx.dataAt
  rw[List.length_take,List.length_drop,F]
  omega
 unfold Bx.valD at hd
 split at hd
 · cases hd;simp
 · unfold Bx.openL at hd
   split at hd
   · cases hl:b.x.l with
     | real =>
      rw[hl]at hd
      unfold Lk.openP at hd
      simp only at hd
      split at hd
      · cases hd;rw[qBB];exact h
      · cases hd
     | ideal iss sums =>
      rw[hl]at hd
      unfold Lk.openP qEL at hd
      simp only at hd
      cases hf:iss.find? (fun x=>x.opens (qFd b.x.seed b.x.eps (b.leaf s).ep) (b.leaf s).nn (qCI (b.leaf s).lba) (b.dataAt s) (b.leaf s).tag) with
      | none=>rw[hf]at hd;cases hd
      | some y =>
       rw[hf]at hd
       cases hd
       have q:=List.find?_some hf
       unfold Iss.opens at q
       simp only[Bool.and_eq_true,beq_iff_eq]at q
       have j:=f.x.dat
       rw[hl]at j
       rw[(j y (List.mem_of_find?_eq_some hf)).2,q.2.2.2.2,h]
   · cases hd
theorem qQm {lba:Int}(h:0≤lba∧lba<32):isD lba=true:=by
 unfold isD
 simp[h.1,h.2]
theorem qLo {col:Nat→Nat}{w:World}{P:qAU}{M C A:Nat}{vn vw:Value}{b:Bx}(h:qBm col w P M C A vn vw b){m:Nat}(f:b.fine m)(hm:m≤60000)(hg:b.x.p.gone=false)(s:Nat)(hs:s<b.c.now.length)(hk0:(b.leaf s).kind≠0):Calls prog 111 #[.pointer (some ⟨C,0,none⟩),.int .i64 (s:Int)] w fun e w'=>e= .returned (.int .i64 (b.spillE s))∧∃col',qBm col' w' P M C A vn vw (b.spillX s)∧Ext 11 col col' w w':=by
 have b7:=qAo f.x.ok.sl
 have c5:=f.nl
 have a1:=qDd f hs hk0
 have CV:=qLn h f hm hg s hs
 obtain⟨o,ho⟩:∃o,o=b.valD s:=⟨_,rfl⟩
 have hx:b.valX s=if o.isSome then b else b.setBad:=by unfold Bx.valX;rw[←ho]
 rw[←ho,hx]at CV
 have q:b.spillE s=b.spE s o:=by unfold Bx.spillE;rw[←ho]
 have O:b.spillX s=b.spX s o:=by unfold Bx.spillX;rw[←ho]
 have a8:∀d,o=some d→d.length=32:=fun d hd=>qEp f hs (by rw[←ho];exact hd)
 obtain⟨N,hN⟩:∃N,N=b.c.now.length:=⟨_,rfl⟩
 obtain⟨y,hy⟩:∃y,y=b.c.now[s]:=⟨_,rfl⟩
 have a4:b.c.now[s]? = some y:=by rw[List.getElem?_eq_getElem hs,hy]
 have a9:b.leaf s=y:=by unfold Bx.leaf;rw[a4];rfl
 obtain⟨g1,c1,b8⟩:=qAy h.now (by omega)
 subst b8
 rw[a9]at a1
 have c6:=qh a9
 have i1:(s:Int)<(N:Int):=by omega
 have i2:(0:Int)≤(s:Int):=by omega
 replace a1:=qh a1
 replace a4:=qh a4
 have HN:=qh hN
 clear hx ho c5 b7 hy a9 hN hs
 cases o with
 | none =>
  replace q:=qh (show b.spillE s=3 from q)
  replace O:=qh (show b.spillX s=b.setBad from O)
  simp only[Option.isSome_none,qI5]at CV
  go_enter func111,ntmps111
  go_wp2_with fail
  refine CV.mono ?_
  rintro e w1 ⟨v,rfl,_,F,e1⟩
  go_wp2_with fail
  refine bodyPost_ret (v:=.int .i64 3) (by simp[results,results111,go_sem];done) rfl ⟨by rw[q.out],col,by rw[O.out];exact F,e1⟩
 | some d =>
  replace q:b.spillE s=if b.x.dOk then 0 else if(b.x.dPut (b.leaf s).lba d).p.gone then 7 else 5:=q
  replace O:b.spillX s=⟨b.x.dPut (b.leaf s).lba d,b.boot,b.k,b.c⟩:=O
  rw[c6.out]at q O
  replace q:=qh q
  replace O:=qh O
  have V:=a8 d rfl
  replace V:=qh V
  simp only[Option.isSome_some,qI5,if_true]at CV
  clear a8
  go_enter func111,ntmps111
  go_wp2_with fail
  refine CV.mono ?_
  rintro e w1 ⟨v,rfl,b9,F,e1⟩
  have a5:=b9 d rfl
  rw[V.out]at a5
  obtain⟨va,vc,rfl⟩:=(Sl.of_own a5).len
  have a3:=F.blk
  rw[←HN.out]at a3
  have a6:=F.wm.wd.blk
  have a7:=F.now
  clear b9
  go_wp2_with fail
  cases hno:b.x.d.no with
  | true =>
   have hp:b.x.dPut y.lba d=b.x:=by unfold Wd.dPut;rw[hno];rfl
   have Z:b.x.dOk=false:=by unfold Wd.dOk;rw[hno];rfl
   rw[hp]at q O
   rw[Z,hg]at q
   replace q:=qh (show b.spillE s=5 from q.out)
   clear hp Z
   refine qAf (qA8 (fun k=>k<w1.heap.size∧(col k=0∨6<col k))) [(0,0),(1,0),(2,0),(3,0),(4,0),(5,0),(6,0),(7,0),(8,0),(9,0),(10,0),(11,0),(12,0),(13,0),(14,0),(15,0),(16,1),(17,0)] (by kernel_rfl) (by kernel_rfl) ?_ ?_ ?_
   · exact fun _=>qA8.refl _
   · exact fun _ _ _ F J=>F.trans J
   intro z1 j
   have a0:=a3.kept j
   have Y:=a6.kept j
   repeat
    refine qA0 _ rfl (fun K G=>?_)
    first
     | (refine qqP (by rfl) ?_;apply Exists.intro;refine⟨fun w' I=>?_,G _ ?_⟩;(have c:=(I.block _ a0.lt ⟨a3.lt,.inr (by rw[F.cC];decide)⟩).trans a0;have c0:=Blk.cell c 0;have c2:=Blk.cell c 2;clear c;have d:=(I.block _ Y.lt ⟨a6.lt,.inr (by rw[F.wm.wd.cW];decide)⟩).trans Y;have d3:=Blk.cell d 3;clear d;have l:=qBQ (qLe (qA5 a7 j) I (fun g hg=>⟨qAp a7 hg,.inr (by rw[F.cn g hg];decide)⟩)) s y a4.out;have l2:w'.cell? ⟨g1,s*8+2,none⟩=some (.int .i64 y.lba):=l 2 _ rfl;clear l;go_simp;first|done|rfl))
     | refine qqN (by rfl) (G _ ?_)
    clear G K;simp only[Act.put,qqB]
   refine qqH _ rfl (by rfl) (fun K G=>?_)
   go_wp2_with fail
   refine(qIX (F.wm.wd.kept j) f.x.ok hno y.lba va vc (qQm a1.out)).mono ?_
   rintro e z2 ⟨rfl,rfl⟩
   go_wp2
   refine G _ _ (qA8.refl _) ?_
   clear G K
   try simp only[Act.put,qqB]
   repeat
    refine qA0 _ rfl (fun K G=>?_)
    first
     | (refine qqP (by rfl) ?_;apply Exists.intro;refine⟨fun w' I=>?_,G _ ?_⟩;go_simp;first|done|rfl)
     | refine qqN (by rfl) (G _ ?_)
    clear G K;simp only[Act.put,qqB]
   refine qA6 ?_
   have J:=F.kept j
   have b5:=J.blk
   have b4:=J.wm.wd.blk
   have p0:=b5.cell 0
   have p1:=b4.cell 1
   have CO:=qFO J.wm.wd
   rw[hg]at CO
   simp only[Bool.not_false]at CO
   go_wp2_with fail
   refine CO.mono ?_
   rintro e z3 ⟨rfl,rfl⟩
   go_wp2_with fail
   refine bodyPost_ret (v:=.int .i64 5) (by simp[results,results111,go_sem];done) rfl ⟨by rw[q.out],col,by rw[O.out];exact J,e1.trans (Ext.kept F.top j)⟩
  | false =>
   have hp:b.x.dPut y.lba d=b.x.dWrite (y.lba,d):=by unfold Wd.dPut;rw[hno];rfl
   have Z:b.x.dOk=b.x.p.spend.1:=by unfold Wd.dOk;rw[hno];rfl
   rw[hp]at q O
   rw[Z]at q
   obtain⟨B,hB⟩:∃B,B=b.x.p.spend.1:=⟨_,rfl⟩
   rw[←hB]at q
   have HB:=qh hB
   clear hp Z hB
   refine qAf (qA8 (fun k=>k<w1.heap.size∧(col k=0∨6<col k))) [(0,0),(1,0),(2,0),(3,0),(4,0),(5,0),(6,0),(7,0),(8,0),(9,0),(10,0),(11,0),(12,0),(13,0),(14,0),(15,0),(16,1),(17,0)] (by kernel_rfl) (by kernel_rfl) ?_ ?_ ?_
   · exact fun _=>qA8.refl _
   · exact fun _ _ _ F J=>F.trans J
   intro z1 j
   have a0:=a3.kept j
   have Y:=a6.kept j
   repeat
    refine qA0 _ rfl (fun K G=>?_)
    first
     | (refine qqP (by rfl) ?_;apply Exists.intro;refine⟨fun w' I=>?_,G _ ?_⟩;(have c:=(I.block _ a0.lt ⟨a3.lt,.inr (by rw[F.cC];decide)⟩).trans a0;have c0:=Blk.cell c 0;have c2:=Blk.cell c 2;clear c;have d:=(I.block _ Y.lt ⟨a6.lt,.inr (by rw[F.wm.wd.cW];decide)⟩).trans Y;have d3:=Blk.cell d 3;clear d;have l:=qBQ (qLe (qA5 a7 j) I (fun g hg=>⟨qAp a7 hg,.inr (by rw[F.cn g hg];decide)⟩)) s y a4.out;have l2:w'.cell? ⟨g1,s*8+2,none⟩=some (.int .i64 y.lba):=l 2 _ rfl;clear l;go_simp;first|done|rfl))
     | refine qqN (by rfl) (G _ ?_)
    clear G K;simp only[Act.put,qqB]
   refine qqH _ rfl (by rfl) (fun K G=>?_)
   go_wp2_with fail
   refine(qNt (F.wm.wd.kept j) f.x.ok (by omega) hno y.lba _ d (qQm a1.out) V.out (by rw[V.out];exact(Sl.of_own a5).kept j) (fun a c e hl=>by rw[V.out]at e;exact qI4 a5 h.top qle a c e hl)).mono ?_
   rintro e z2 ⟨rfl,c3⟩
   obtain⟨a2,c4,e2⟩:=c3
   rw[←HB.out]
   have S2:=e2.sameOn (w0:=w1) (col0:=col) (fun k hk=>rfl)
   go_wp2
   refine G _ _ (S2) ?_
   clear G K
   try simp only[Act.put,qqB]
   repeat
    refine qA0 _ rfl (fun K G=>?_)
    first
     | (refine qqP (by rfl) ?_;apply Exists.intro;refine⟨fun w' I=>?_,G _ ?_⟩;go_simp;first|done|rfl)
     | refine qqN (by rfl) (G _ ?_)
    clear G K;simp only[Act.put,qqB]
   refine qA6 ?_
   have J:=(F.kept j).world ((F.wm.kept j).ext6 c4 e2) (e2.mono (show 6≤8 by decide))
   have b6:=(e1.trans (Ext.kept F.top j)).trans (e2.mono (show 6≤11 by decide))
   cases B with
   | true =>
    replace q:=qh (show b.spillE s=0 from q.out)
    go_wp2_with fail
    refine bodyPost_ret (v:=.int .i64 0) (by simp[results,results111,go_sem];done) rfl ⟨by rw[q.out],a2,by rw[O.out];exact J,b6⟩
   | false =>
    have b5:=J.blk
    have b4:=J.wm.wd.blk
    have p0:=b5.cell 0
    have p1:=b4.cell 1
    have CO:=qFO J.wm.wd
    obtain⟨B3,b3⟩:∃B,B=(b.x.dWrite (y.lba,d)).p.gone:=⟨_,rfl⟩
    rw[←b3]at CO q
    have c7:=qh b3
    clear b3
    cases B3 with
    | true =>
     replace q:=qh (show b.spillE s=7 from q.out)
     simp only[Bool.not_true]at CO
     go_wp2_with fail
     refine CO.mono ?_
     rintro e z3 ⟨rfl,rfl⟩
     go_wp2_with fail
     refine bodyPost_ret (v:=.int .i64 7) (by simp[results,results111,go_sem];done) rfl ⟨by rw[q.out],a2,by rw[O.out];exact J,b6⟩
    | false =>
     replace q:=qh (show b.spillE s=5 from q.out)
     simp only[Bool.not_false]at CO
     go_wp2_with fail
     refine CO.mono ?_
     rintro e z3 ⟨rfl,rfl⟩
     go_wp2_with fail
     refine bodyPost_ret (v:=.int .i64 5) (by simp[results,results111,go_sem];done) rfl ⟨by rw[q.out],a2,by rw[O.out];exact J,b6⟩
def Bx.oldest (b:Bx):Nat:=b.c.age.q[0]?.getD 0
def Bx.setX (b:Bx)(x:Wd):Bx:=⟨x,b.boot,b.k,b.c⟩
def Bx.evict (b:Bx):Int×Bx:=
 if(b.leaf b.oldest).dirty then
  if b.spillE b.oldest≠0 then(b.spillE b.oldest,b.spillX b.oldest)
  else if(b.spillX b.oldest).x.p.spend.1=false then(7,(b.spillX b.oldest).setX (b.spillX b.oldest).x.dBarrier)
  else(((b.spillX b.oldest).setX (b.spillX b.oldest).x.dBarrier).drops b.oldest).commit
 else(b.drops b.oldest).commit
def Bx.room (b:Bx):Int×Bx:=
 if b.c.free.isSome then(0,b)
 else if b.commit.1≠0 then b.commit
 else if b.commit.2.c.free.isSome then(0,b.commit.2)
 else b.commit.2.evict
theorem qCh {p:Pw}(h:p.spend.1=true):p.gone=false∧p.spend.2.gone=false:=by
 unfold Pw.spend at *
 split at h
 · cases h
 · rename_i f
   have c:p.gone=false:=by simpa using f
   split at h
   · cases h
   · rename_i j
     rw[if_neg f,if_neg j]
     exact⟨c,c⟩
theorem Bx.fine.dBarrier {b:Bx}{m:Nat}(f:b.fine m):(b.setX b.x.dBarrier).fine (m+1):=⟨f.x.dBarrier,f.k,f.nl,f.wl,f.nok,f.wok⟩
theorem Bx.fine.drops {b:Bx}{m:Nat}(f:b.fine m)(s:Nat)(hs:s<16):(b.drops s).fine m:=
 ⟨f.x,f.k,by show(b.c.now.set s Lf.zero).length=_;rw[List.length_set];exact f.nl,f.wl,f.nok.set (by unfold qAM;simp[Lf.zero];omega),f.wok⟩
theorem Bx.fine.setBad {b:Bx}{m:Nat}(f:b.fine m):b.setBad.fine m:=⟨f.x,f.k,f.nl,f.wl,f.nok,f.wok⟩
theorem Bx.fine.spill {b:Bx}{m:Nat}(f:b.fine m){s:Nat}(hs:s<b.c.now.length)(hk:(b.leaf s).kind≠0):(b.spillX s).fine (m+1):=by
 unfold Bx.spillX
 cases hd:b.valD s with
 | none=>exact f.setBad.up (by omega)
 | some d =>
  have h:=qEp f hs hd
  have j:=qDd f hs hk
  refine⟨?_,f.k,?_,?_,f.nok,f.wok⟩
  · show(b.x.dPut _ d).fine _
    unfold Wd.dPut
    split
    · exact f.x.up (by omega)
    · exact f.x.dWrite ⟨j.1,by show(b.leaf s).lba.toNat<32;omega,h⟩
  · show b.c.now.length=(b.x.dPut _ d).n
    unfold Wd.dPut;split<;>exact f.nl
  · show b.c.was.length=(b.x.dPut _ d).n
    unfold Wd.dPut;split<;>exact f.wl
theorem qPJ {col:Nat→Nat}{w:World}{P:qAU}{M C:Nat}{b:Bx}(h:qCM col w P M C b){m:Nat}(f:b.fine m)(hm:m≤50000)(hg:b.x.p.gone=false)(hq:0<b.c.age.q.length)(hq9:b.c.age.q.length≤900)(hs:b.oldest<b.c.now.length)(hk0:(b.leaf b.oldest).dirty=true→(b.leaf b.oldest).kind≠0):Calls prog 163 #[.pointer (some ⟨C,0,none⟩)] w fun e w'=>e= .returned (.int .i64 b.evict.1)∧qGo col w P M C b.evict.2 w':=by
 obtain⟨A,vn,vw,h0⟩:=h
 have a4:=qAo f.x.ok.sl
 have b6:=f.nl
 have G:b.oldest<16:=by omega
 obtain⟨g1,c1,b4⟩:=qAy h0.now (by omega)
 subst b4
 have CO:=qKB h0.age hq
 have ho:b.c.age.q[0]=b.oldest:=by unfold Bx.oldest;rw[List.getElem?_eq_getElem hq];rfl
 rw[ho]at CO
 obtain⟨y,hy⟩:∃y,y=b.c.now[b.oldest]:=⟨_,rfl⟩
 have O:b.c.now[b.oldest]? = some y:=by rw[List.getElem?_eq_getElem hs,hy]
 have Z:b.leaf b.oldest=y:=by unfold Bx.leaf;rw[O];rfl
 replace O:=qh O
 have l:=qBQ h0.now b.oldest y O.out
 have l1:w.cell? ⟨g1,b.oldest*8+1,none⟩=some (.bool y.dirty):=l 1 _ rfl
 clear l
 have bC:=h0.blk
 have q4:=bC.cell 4
 obtain⟨N,hN⟩:∃N,N=b.c.now.length:=⟨_,rfl⟩
 have q2:=bC.cell 2
 rw[←hN]at q2
 have HN:=qh hN
 have i1:(b.oldest:Int)<(N:Int):=by omega
 have i2:(0:Int)≤(b.oldest:Int):=by omega
 obtain⟨s,a1⟩:∃s,s=b.oldest:=⟨_,rfl⟩
 rw[←a1]at CO l1 i1 i2 hs hk0 Z G
 obtain⟨Er,a2⟩:∃y,y=b.evict:=⟨_,rfl⟩
 rw[←a2]
 have J:=qh a2
 have a9:=qh a1
 have a3:=qh Z
 clear ho hy hN b6 a4 a1 a2 Z bC
 cases hd:y.dirty with
 | false =>
  rw[hd]at l1
  have Y:Er=(b.drops s).commit:=by rw[J.out];unfold Bx.evict;rw[←a9.out,a3.out,hd];rfl
  subst Y
  clear J
  have CD:=qIg h0 s hs hq9
  have fd:=f.drops s G
  obtain⟨R,hR⟩:∃y,y=(b.drops s).commit.1:=⟨_,rfl⟩
  rw[←hR]
  have HR:=qh hR
  clear hR
  go_enter func163,ntmps163
  go_wp2_with fail
  refine CO.mono ?_
  rintro e w1 ⟨rfl,rfl⟩
  go_wp2_with fail
  refine CD.mono ?_
  rintro e w2 ⟨rfl,V,e2⟩
  have CC:=qCV V fd (by omega)
  rw[←HR.out]at CC
  go_wp2_with fail
  refine CC.mono ?_
  rintro e w3 ⟨rfl,I,h3,e3⟩
  go_wp2_with fail
  refine bodyPost_ret (v:=.int .i64 R) (by simp[results,results163,go_sem];done) rfl ⟨rfl,I,h3,e2.trans e3⟩
 | true =>
  rw[hd]at l1
  have a8:(b.leaf s).kind≠0:=hk0 (by rw[a3.out,hd])
  have CS:=qLo h0 f (by omega) hg s hs a8
  have fs:=f.spill hs a8
  have Y:Er=if b.spillE s≠0 then(b.spillE s,b.spillX s) else if(b.spillX s).x.p.spend.1=false then(7,(b.spillX s).setX (b.spillX s).x.dBarrier) else(((b.spillX s).setX (b.spillX s).x.dBarrier).drops s).commit:=by rw[J.out];unfold Bx.evict;rw[←a9.out,a3.out,hd];rfl
  have j:(b.spillX s).c.now=b.c.now∧(b.spillX s).c.age=b.c.age:=by unfold Bx.spillX;cases b.valD s<;>exact⟨rfl,rfl⟩
  obtain⟨E1,a5⟩:∃y,y=b.spillE s:=⟨_,rfl⟩
  rw[←a5]at Y CS
  replace Y:=qh Y
  replace j:=qh j
  clear J a5
  go_enter func163,ntmps163
  go_wp2_with fail
  refine CO.mono ?_
  rintro e w1 ⟨rfl,rfl⟩
  go_wp2_with fail
  refine CS.mono ?_
  rintro e w2 ⟨rfl,b3,V,e2⟩
  by_cases a0:E1=0
  · have b2:=V.blk
    have p0:=b2.cell 0
    have b8:=V.wm.wd.blk
    have p3:=b8.cell 3
    have CB:=qGe V.wm.wd fs.x.ok (by omega)
    obtain⟨B,hB⟩:∃B,B=(b.spillX s).x.p.spend.1:=⟨_,rfl⟩
    rw[←hB]at CB
    have HB:=qh hB
    clear hB
    go_wp2_with fail
    refine CB.mono ?_
    rintro e w3 ⟨rfl,b5⟩
    obtain⟨I,b7,e3⟩:=b5
    have h3:=V.world (V.wm.ext6 b7 e3) (e3.mono (show 6≤8 by decide))
    have a6:=e2.trans (e3.mono (show 6≤11 by decide))
    clear p0 p3
    cases B with
    | false =>
     have F:Er=(7,(b.spillX s).setX (b.spillX s).x.dBarrier):=by rw[Y.out,if_neg (by rw[a0];decide),if_pos HB.out.symm]
     subst F
     go_wp2_with fail
     refine bodyPost_ret (v:=.int .i64 7) (by simp[results,results163,go_sem];done) rfl ⟨rfl,I,⟨A,_,vw,h3⟩,a6⟩
    | true =>
     have F:Er=(((b.spillX s).setX (b.spillX s).x.dBarrier).drops s).commit:=by rw[Y.out,if_neg (by rw[a0];decide),if_neg (by rw[←HB.out];decide)]
     subst F
     have f3:=fs.dBarrier
     have CD:=qIg (b:=(b.spillX s).setX (b.spillX s).x.dBarrier) h3 s (by show s<(b.spillX s).c.now.length;rw[j.out.1];exact hs) (by show(b.spillX s).c.age.q.length≤900;rw[j.out.2];exact hq9)
     have f4:=f3.drops s G
     obtain⟨R,hR⟩:∃y,y=(((b.spillX s).setX (b.spillX s).x.dBarrier).drops s).commit.1:=⟨_,rfl⟩
     have HR:=qh hR
     go_wp2_with fail
     refine CD.mono ?_
     rintro e w4 ⟨rfl,h4,e4⟩
     have CC:=qCV h4 f4 (by omega)
     rw[←hR]at CC
     clear hR
     go_wp2_with fail
     refine CC.mono ?_
     rintro e w5 ⟨rfl,a7,h5,e5⟩
     go_wp2_with fail
     refine bodyPost_ret (v:=.int .i64 R) (by simp[results,results163,go_sem];done) rfl ⟨by rw[HR.out],a7,h5,(a6.trans e4).trans e5⟩
  · have F:Er=(E1,b.spillX s):=by rw[Y.out,if_pos a0]
    subst F
    go_wp2_with fail
    refine bodyPost_ret (v:=.int .i64 E1) (by simp[results,results163,go_sem];done) rfl ⟨rfl,b3,⟨A,_,vw,V⟩,e2⟩
theorem qO1 {col:Nat→Nat}{w:World}{P:qAU}{M C:Nat}{b:Bx}(h:qCM col w P M C b){m:Nat}(f:b.fine m)(hm:m≤40000)
 (hev:∀c,c=b.commit.2→b.c.free=none→b.commit.1=0→c.c.free=none→c.x.p.gone=false∧0<c.c.age.q.length∧c.c.age.q.length≤900∧c.oldest<c.c.now.length∧((c.leaf c.oldest).dirty=true→(c.leaf c.oldest).kind≠0)) :
 Calls prog 124 #[.pointer (some ⟨C,0,none⟩)] w fun e w'=>e= .returned (.int .i64 b.room.1)∧qGo col w P M C b.room.2 w':=by
 obtain⟨A,vn,vw,h0⟩:=h
 have a2:=qAo f.x.ok.sl
 have a7:=f.nl
 have a6:=f.wl
 have CF:=qFn h0 (by omega) (by omega) (by omega)
 have CC:=qCV h0 f (by omega)
 have fc:=f.commit
 have F:=fc.nl
 have O:=fc.wl
 have Z:b.commit.2.x.n=b.x.n:=qCF
 obtain⟨R,hR⟩:∃y,y=b.room:=⟨_,rfl⟩
 rw[←hR]
 have HR:=qh hR
 obtain⟨o,ho⟩:∃o,o=b.c.free:=⟨_,rfl⟩
 rw[←ho]at CF hev
 have HO:=qh ho
 obtain⟨c,Y⟩:∃c,c=b.commit.2:=⟨_,rfl⟩
 obtain⟨E,hE⟩:∃E,E=b.commit.1:=⟨_,rfl⟩
 have I:∀ {col':Nat→Nat} {w':World} {A':Nat} {vn' vw':Value},qBm col' w' P M C A' vn' vw' c→Calls prog 120 #[.pointer (some ⟨C,0,none⟩)] w' fun e w''=>e= .returned (.int .i64 (qDG c.c.free))∧w'=w'':=fun h'=>qFn h' (by rw[Y,F,Z];omega) (by rw[Y,O,F]) (by rw[Y,F,Z];omega)
 have l:=hev c Y
 rw[←hE]at CC l
 rw[←Y]at CC fc
 have HE:=qh hE
 have HC:=qh Y
 replace l:=qh l
 clear a2 a7 a6 F O Z hR ho hE Y hev
 cases o with
 | some s =>
  have hr:R=(0,b):=by rw[HR.out];unfold Bx.room;rw[←HO.out];rfl
  subst hr
  unfold qDG at CF
  simp only at CF
  have i1:(0:Int)≤(s:Int):=by omega
  go_enter func124,ntmps124
  go_wp2_with fail
  refine CF.mono ?_
  rintro e w1 ⟨rfl,rfl⟩
  go_wp2_with fail
  refine bodyPost_ret (v:=.int .i64 0) (by simp[results,results124,go_sem];done) rfl ⟨rfl,col,⟨A,vn,vw,h0⟩,Ext.refl h0.top⟩
 | none =>
  unfold qDG at CF
  simp only at CF
  have G:R=if E≠0 then(E,c) else if c.c.free.isSome then(0,c) else c.evict:=by
   rw[HR.out];unfold Bx.room;rw[←HO.out,HE.out,HC.out];rfl
  replace G:=qh G
  go_enter func124,ntmps124
  go_wp2_with fail
  refine CF.mono ?_
  rintro e w1 ⟨rfl,rfl⟩
  go_wp2_with fail
  refine CC.mono ?_
  rintro e w2 ⟨rfl,N,a1,e2⟩
  by_cases J:E=0
  · obtain⟨A2,a3,a4,a0⟩:=a1
    have j:=I a0
    cases hfr:c.c.free with
    | some s =>
     have hr:R=(0,c):=by rw[G.out,if_neg (by rw[J];decide),hfr];rfl
     subst hr
     rw[hfr]at j
     unfold qDG at j
     simp only at j
     have i1:(0:Int)≤(s:Int):=by omega
     clear I hfr
     go_wp2_with fail
     refine j.mono ?_
     rintro e w3 ⟨rfl,rfl⟩
     go_wp2_with fail
     refine bodyPost_ret (v:=.int .i64 0) (by simp[results,results124,go_sem];done) rfl ⟨rfl,N,⟨A2,a3,a4,a0⟩,e2⟩
    | none =>
     have hr:R=c.evict:=by rw[G.out,if_neg (by rw[J];decide),hfr];rfl
     subst hr
     obtain⟨g1,g3,g4,g5,g6⟩:=l.out trivial J hfr
     have CE:=qPJ ⟨A2,a3,a4,a0⟩ fc (by omega) g1 g3 g4 g5 g6
     rw[hfr]at j
     unfold qDG at j
     simp only at j
     obtain⟨V,hV⟩:∃V,V=c.evict.1:=⟨_,rfl⟩
     rw[←hV]at CE
     have HV:=qh hV
     clear I hfr hV g1 g3 g4 g5 g6
     go_wp2_with fail
     refine j.mono ?_
     rintro e w3 ⟨rfl,rfl⟩
     go_wp2_with fail
     refine CE.mono ?_
     rintro e w4 ⟨rfl,a5,h4,e4⟩
     go_wp2_with fail
     refine bodyPost_ret (v:=.int .i64 V) (by simp[results,results124,go_sem];done) rfl ⟨by rw[HV.out],a5,h4,e2.trans e4⟩
  · have hr:R=(E,c):=by rw[G.out,if_pos J]
    subst hr
    clear I
    go_wp2_with fail
    refine bodyPost_ret (v:=.int .i64 E) (by simp[results,results124,go_sem];done) rfl ⟨rfl,N,a1,e2⟩
def Bx.forget (b:Bx):Int×Bx:=
 if b.commit.1≠0 then b.commit
 else(if b.commit.2.x.p.spend.1 then 0 else 7,b.commit.2.setX (b.commit.2.x.kErase (qAl b.commit.2.x.eps)))
theorem qJf {col:Nat→Nat}{w:World}{P:qAU}{M C:Nat}{b:Bx}(h:qCM col w P M C b){m:Nat}(f:b.fine m)(hm:m≤40000):Calls prog 75 #[.pointer (some ⟨C,0,none⟩)] w fun e w'=>e= .returned (.int .i64 b.forget.1)∧qGo col w P M C b.forget.2 w':=by
 obtain⟨A,vn,vw,h0⟩:=h
 have CC:=qCV h0 f (by omega)
 have fc:=f.commit
 obtain⟨R,hR⟩:∃y,y=b.forget:=⟨_,rfl⟩
 rw[←hR]
 obtain⟨c,hc⟩:∃c,c=b.commit.2:=⟨_,rfl⟩
 obtain⟨E,hE⟩:∃E,E=b.commit.1:=⟨_,rfl⟩
 have J:R=if E≠0 then(E,c) else(if c.x.p.spend.1 then 0 else 7,c.setX (c.x.kErase (qAl c.x.eps))):=by rw[hR,hE,hc];rfl
 rw[←hE,←hc]at CC
 rw[←hc]at fc
 replace J:=qh J
 clear hR hE hc
 go_enter func75,ntmps75
 go_wp2_with fail
 refine CC.mono ?_
 rintro e w2 ⟨rfl,l,⟨A2,V,Y,G⟩,e2⟩
 by_cases a1:E=0
 · have a2:=G.blk
   have a5:=G.wm.wd.blk
   obtain⟨B,hB⟩:∃B,B=c.x.p.spend.1:=⟨_,rfl⟩
   have N:R=(if B then 0 else 7,c.setX (c.x.kErase (qAl c.x.eps))):=by rw[J.out,if_neg (by rw[a1];decide),←hB]
   have HB:=qh hB
   replace N:=qh N
   clear hB
   go_wp2_with fail
   refine qAf (qA8 (fun k=>k<w2.heap.size∧(l k=0∨6<l k))) [(0,0),(1,0),(2,0),(3,0),(4,0),(5,0),(6,0),(7,0),(8,0),(9,0),(10,0),(11,0),(12,0),(13,0),(14,1),(15,1),(16,0)] (by kernel_rfl) (by kernel_rfl) ?_ ?_ ?_
   · exact fun _=>qA8.refl _
   · exact fun _ _ _ h1 G=>h1.trans G
   intro z1 j
   have a4:=a2.kept j
   have a0:=a5.kept j
   repeat
    refine qA0 _ rfl (fun K F=>?_)
    first
     | (refine qqP (by rfl) ?_;apply Exists.intro;refine⟨fun w' Z=>?_,F _ ?_⟩;(have q:=(Z.block _ a4.lt ⟨a2.lt,.inr (by rw[G.cC];decide)⟩).trans a4;have q0:=Blk.cell q 0;clear q;have d:=(Z.block _ a0.lt ⟨a5.lt,.inr (by rw[G.wm.wd.cW];decide)⟩).trans a0;have d5:=Blk.cell d 5;clear d;go_simp;first|done|rfl))
     | refine qqN (by rfl) (F _ ?_)
    clear F K;simp only[Act.put,qqB]
   refine qqH _ rfl (by rfl) (fun K F=>?_)
   go_wp2_with fail
   refine(qLc (G.wm.wd.kept j) fc.x.ok (by omega)).mono ?_
   rintro e z2 ⟨rfl,I⟩
   go_wp2
   refine F _ _ (qA8.of_kept I) ?_
   clear F K
   try simp only[Act.put,qqB]
   refine qqH _ rfl (by rfl) (fun K F=>?_)
   go_wp2_with fail
   refine(qNv ((G.wm.wd.kept j).kept I) fc.x.ok (by omega) (qAl c.x.eps)).mono ?_
   rintro e z3 ⟨rfl,O,a6,e3⟩
   rw[←HB.out]
   have S3:=e3.sameOn (w0:=w2) (col0:=l) (fun k hk=>rfl)
   go_wp2
   refine F _ _ (S3) ?_
   clear F K
   try simp only[Act.put,qqB]
   repeat
    refine qA0 _ rfl (fun K F=>?_)
    first
     | (refine qqP (by rfl) ?_;apply Exists.intro;refine⟨fun w' Z=>?_,F _ ?_⟩;go_simp;first|done|rfl)
     | refine qqN (by rfl) (F _ ?_)
    clear F K;simp only[Act.put,qqB]
   refine qA6 ?_
   have h3:=((G.kept j).kept I).world (((G.wm.kept j).kept I).ext6 a6 e3) (e3.mono (show 6≤8 by decide))
   have a3:=(e2.trans (Ext.kept (m:=11) G.top (j.of I))).trans (e3.mono (show 6≤11 by decide))
   cases B with
   | true =>
    go_wp2_with fail
    refine bodyPost_ret (v:=.int .i64 0) (by simp[results,results75,go_sem];done) rfl ⟨by rw[N.out];rfl,O,by rw[N.out];exact⟨A2,V,Y,h3⟩,a3⟩
   | false =>
    go_wp2_with fail
    refine bodyPost_ret (v:=.int .i64 7) (by simp[results,results75,go_sem];done) rfl ⟨by rw[N.out];rfl,O,by rw[N.out];exact⟨A2,V,Y,h3⟩,a3⟩
 · have N:R=(E,c):=by rw[J.out,if_pos a1]
   subst N
   go_wp2_with fail
   refine bodyPost_ret (v:=.int .i64 E) (by simp[results,results75,go_sem];done) rfl ⟨rfl,l,⟨A2,V,Y,G⟩,e2⟩
section
variable {col col':Nat→Nat} {w w1 w':World} {P:qAU} {M C A:Nat} {vn vw:Value} {b:Bx}
theorem qBm.cell9 (h:qBm col w P M C A vn vw b)(hc:Chg [C] w w'):WM col w' P b.x M b.boot b.k∧w'.ownsRow 0 117 8 vn b.c.now.length (qAv b.c.now)∧w'.ownsRow 0 117 8 vw b.c.was.length (qAv b.c.was)∧qKz col w' A b.c.age∧Ext 11 col col w w':=by
 have l:Ext 11 col col w w':=⟨hc.os,hc.tape,hc.output,hc.size,fun _ _=>rfl,fun k f=>by rw[h.top k f];omega,fun k f=>h.top k (Nat.le_trans hc.size f),fun k f j=>hc.block k f (by rw[List.mem_singleton];intro e;rw[e,h.cC]at j;omega)⟩
 refine⟨⟨h.wm.wd.chg hc (fun b q=>by rw[List.mem_singleton]at q;subst q;rw[h.cC];exact .inr (by decide)),hc.blk h.wm.mkr (by rw[List.mem_singleton];intro e;have:=h.wm.cM;rw[e,h.cC]at this;cases this),h.wm.cM⟩,qAu h.now hc h.blk (by decide),qAu h.was hc h.blk (by decide),h.age.frame (l.sameC 11 C h.cC hc (by decide)),l⟩
theorem qBm.paint10 (h:qBm col w P M C A vn vw b)(hk:qA4 w w1):qBm (qAi col 10 w w1) w1 P M C A vn vw b∧Ext 11 col (qAi col 10 w w1) w w1:=by
 refine⟨⟨h.wm.paint hk (by decide),h.blk.kept hk,by rw[qAd h.blk.lt];exact h.cC,qA5 h.now hk,qA5 h.was hk,fun g c=>?_,fun g c=>?_,h.ne,h.age.frame (qB0.paint hk)⟩,Ext.paint h.top hk (by decide)⟩
 · rw[qAd (qAp h.now c)];exact h.cn g c
 · rw[qAd (qAp h.was c)];exact h.cw g c
theorem qBm.rowNow (h:qBm col w P M C A vn vw b)(hk:qA4 w w1){g n c:Nat}{ls:List Lf}(hr:w1.ownsRow w.heap.size 117 8 (.slice (some ⟨g,0,none⟩) n c) ls.length (qAv ls)) :
 qBm (qAi col 10 w w1) (w1.setCell ⟨C,2,none⟩ (.slice (some ⟨g,0,none⟩) n c)) P M C A (.slice (some ⟨g,0,none⟩) n c) vw ⟨b.x,b.boot,b.k,{ b.c with now:=ls }⟩∧Ext 11 col (qAi col 10 w w1) w (w1.setCell ⟨C,2,none⟩ (.slice (some ⟨g,0,none⟩) n c)):=by
 obtain⟨j,G⟩:=h.paint10 hk
 have l:Chg [C] w1 (w1.setCell ⟨C,2,none⟩ (.slice (some ⟨g,0,none⟩) n c)):=(Chg.refl _ _).set qsm 2 _
 obtain⟨I,_,J,F,q⟩:=j.cell9 l
 have b2:=j.blk.set 2 (.slice (some ⟨g,0,none⟩) n c)
 simp only[qqA,qq0,qq1]at b2
 refine⟨⟨I,b2,j.cC,qAh (qAu hr l j.blk (by decide)) (Nat.zero_le _),J,fun k f=>qAk (qAN hr f) (qAp hr f),j.cw,fun k f e=>?_,F⟩,G.trans q⟩
 have O:=qAN hr f
 have N:=qAp h.was e
 omega
theorem qBm.ageNew (h:qBm col w P M C A vn vw b){A':Nat}{a:Ag}(ha:qKz col' w1 A' a)(o:One 11 col col' w w1):qBm col' (w1.setCell ⟨C,4,none⟩ (.pointer (some ⟨A',0,none⟩))) P M C A' vn vw ⟨b.x,b.boot,b.k,{ b.c with age:=a }⟩∧Ext 11 col col' w (w1.setCell ⟨C,4,none⟩ (.pointer (some ⟨A',0,none⟩))):=by
 obtain⟨J,q⟩:=(o.same (j:=9) (by omega)).blk h.blk h.cC
 have l:=o.same (j:=10) (by omega)
 have f:Chg [C] w1 (w1.setCell ⟨C,4,none⟩ (.pointer (some ⟨A',0,none⟩))):=(Chg.refl _ _).set qsm 4 _
 have hW:=h.wm.one o (by decide)
 have Y:=l.own h.now h.cn
 have V:=l.own h.was h.cw
 have N:Ext 11 col' col' w1 (w1.setCell ⟨C,4,none⟩ (.pointer (some ⟨A',0,none⟩))):=⟨f.os,f.tape,f.output,f.size,fun _ _=>rfl,fun k F=>by rw[hW.wd.top k F];omega,fun k F=>hW.wd.top k (Nat.le_trans f.size F),fun k F I=>f.block k F (by rw[List.mem_singleton];intro e;rw[e,q]at I;omega)⟩
 have b2:=J.set 4 (.pointer (some ⟨A',0,none⟩))
 simp only[qqA,qq0,qq1]at b2
 refine⟨⟨⟨hW.wd.chg f (fun b O=>by rw[List.mem_singleton]at O;subst O;rw[q];exact .inr (by decide)),f.blk hW.mkr (by rw[List.mem_singleton];intro e;have:=hW.cM;rw[e,q]at this;cases this),hW.cM⟩,b2,q,qAu Y f J (by decide),qAu V f J (by decide),fun g G=>l.old g (qAp h.now G) (h.cn g G),fun g G=>l.old g (qAp h.was G) (h.cw g G),h.ne,ha.frame (N.sameC 11 C q f (by decide))⟩,(o.ext (by decide) (by decide)).trans N⟩
end
theorem qDS {b:Bx}{m:Nat}(f:b.fine m){s:Nat}(hd:(b.leaf s).dirty=true):(b.leaf s).kind≠0:=by
 intro h
 unfold Bx.leaf at hd h
 cases hs:b.c.now[s]? with
 | none=>rw[hs]at hd;cases hd
 | some y =>
  rw[hs]at hd h
  have hl:=f.nok s y hs
  unfold qAM at hl
  simp only[Bool.and_eq_true]at hl
  have j:=hl.2
  rw[if_pos (show y.kind=0 from h)]at j
  have l:y=Lf.zero:=of_decide_eq_true j
  rw[l]at hd
  cases hd
def Bx.empF:Nat→Nat→Bx→Bool→Int×Bx×Bool
 | 0,_,b,d=>(0,b,d)
 | k+1,s,b,d=>if(b.leaf s).dirty then(if b.spillE s≠0 then(b.spillE s,b.spillX s,d) else Bx.empF k (s+1) (b.spillX s) true) else Bx.empF k (s+1) b d
def Ag.none:Ag:=⟨List.replicate 16 0,0,[]⟩
def Bx.clear (b:Bx):Bx:=⟨b.x,b.boot,b.k,⟨List.replicate b.c.now.length Lf.zero,b.c.was,Ag.none,b.c.bad⟩⟩
def Bx.empD (b:Bx)(d:Bool):Int×Bx:=if d&& !b.x.p.spend.1 then(7,b.setX b.x.dBarrier) else(0,(if d then b.setX b.x.dBarrier else b).clear)
def Bx.empR (r:Int×Bx×Bool):Int×Bx:=if r.1≠0 then(r.1,r.2.1) else r.2.1.empD r.2.2
def Bx.empty (b:Bx):Int×Bx:=Bx.empR (Bx.empF b.c.now.length 0 b false)
theorem qBv (b:Bx)(s:Nat):(b.spillX s).c.now=b.c.now∧(b.spillX s).c.was=b.c.was∧(b.spillX s).c.age=b.c.age∧(b.spillX s).k=b.k∧(b.spillX s).boot=b.boot:=by
 unfold Bx.spillX;cases b.valD s<;>exact⟨rfl,rfl,rfl,rfl,rfl⟩
theorem qPK {b:Bx}{s:Nat}(h:b.spillE s=0):(b.spillX s).x.p.gone=false:=by
 unfold Bx.spillE at h
 unfold Bx.spillX
 cases hd:b.valD s with
 | none=>rw[hd]at h;cases h
 | some d =>
  rw[hd]at h
  unfold Bx.spE at h
  simp only at h
  split at h
  · rename_i c
    unfold Wd.dOk at c
    simp only[Bool.and_eq_true,Bool.not_eq_true']at c
    show(b.x.dPut _ d).p.gone=false
    unfold Wd.dPut
    rw[if_neg (by rw[c.1];decide)]
    have e:∀y,(b.x.dWrite y).p=b.x.p.spend.2:=fun y=>by unfold Wd.dWrite Wd.setD Dk.wrote;split<;>rfl
    rw[e]
    exact(qCh c.2).2
  · split at h<;>cases h
theorem Bx.fine.clear {b:Bx}{m:Nat}(f:b.fine m):b.clear.fine m:=
 ⟨f.x,f.k,by show(List.replicate b.c.now.length Lf.zero).length=b.x.n;rw[List.length_replicate];exact f.nl,f.wl,fun s y j=>by
  have l:(List.replicate b.c.now.length Lf.zero)[s]? = some y:=j
  obtain⟨q,h⟩:=List.getElem?_eq_some_iff.1 l
  rw[List.getElem_replicate]at h
  rw[List.length_replicate]at q
  subst h
  have:=f.nl
  have:=qAo f.x.ok.sl
  unfold qAM
  simp[Lf.zero]
  omega,f.wok⟩
theorem Bx.fine.empF {m:Nat}:∀(k s:Nat) (b:Bx) (d:Bool),b.fine m→k+s≤b.c.now.length→(Bx.empF k s b d).2.1.fine (m+k)
 | 0,_,_,_,f,_=>f
 | k+1,s,b,d,f,h=>by
  unfold Bx.empF
  split
  · rename_i l
    have j:=f.spill (show s<b.c.now.length by omega) (qDS f l)
    split
    · exact j.up (by omega)
    · have:=Bx.fine.empF k (s+1) (b.spillX s) true j (by rw[(qBv b s).1];omega)
      exact this.up (by omega)
  · exact(Bx.fine.empF k (s+1) b d f (by omega)).up (by omega)
theorem Bx.fine.empty {b:Bx}{m:Nat}(f:b.fine m):b.empty.2.fine (m+17):=by
 have h:=Bx.fine.empF b.c.now.length 0 b false f qle
 have l:=f.nl
 have j:=qAo f.x.ok.sl
 unfold Bx.empty Bx.empR
 split
 · exact h.up (by omega)
 · unfold Bx.empD
   split
   · exact h.dBarrier.up (by omega)
   · split
     · exact h.dBarrier.clear.up (by omega)
     · exact h.clear.up (by omega)
theorem qO2 {col:Nat→Nat}{w:World}{P:qAU}{M C A:Nat}{vn vw:Value}{b:Bx}(h:qBm col w P M C A vn vw b){N:Nat}(hn:b.c.now.length=N)(hN:N≤100)(w3:World)(A3:Nat)(c3:Nat→Nat)(ha:qKz c3 w3 A3 ⟨List.replicate 16 0,0,[]⟩)(o:One 11 (qAi col 10 w (w.alloc (.cells (qAv (List.replicate N Lf.zero)).toArray 117))) c3 ((w.alloc (.cells (qAv (List.replicate N Lf.zero)).toArray 117)).setCell ⟨C,2,none⟩ (.slice (some ⟨w.heap.size,0,none⟩) N N)) w3) :
 qCM c3 (w3.setCell ⟨C,4,none⟩ (.pointer (some ⟨A3,0,none⟩))) P M C b.clear∧Ext 11 col c3 w (w3.setCell ⟨C,4,none⟩ (.pointer (some ⟨A3,0,none⟩))):=by
 have f:(w.alloc (.cells (qAv (List.replicate N Lf.zero)).toArray 117)).ownsRow w.heap.size 117 8 (.slice (some ⟨w.heap.size,0,none⟩) N N) (List.replicate N Lf.zero).length (qAv (List.replicate N Lf.zero)):=by
  have:=qFj w (List.replicate N Lf.zero) N (by simp) (by unfold maxLen;omega)
  rw[List.length_replicate]
  exact this
 obtain⟨l,j⟩:=h.rowNow (qal _) f
 obtain⟨F,q⟩:=l.ageNew ha o
 refine⟨⟨A3,.slice (some ⟨w.heap.size,0,none⟩) N N,vw,?_⟩,j.trans q⟩
 subst hn
 exact F
theorem qJg {col:Nat→Nat}{w:World}{P:qAU}{M C A:Nat}{vn vw:Value}{b:Bx}(h:qBm col w P M C A vn vw b){N:Nat}(hN:N≤100):Top (qAi col 10 w (w.alloc (.cells (qAv (List.replicate N Lf.zero)).toArray 117))) ((w.alloc (.cells (qAv (List.replicate N Lf.zero)).toArray 117)).setCell ⟨C,2,none⟩ (.slice (some ⟨w.heap.size,0,none⟩) N N))∧qAi col 10 w (w.alloc (.cells (qAv (List.replicate N Lf.zero)).toArray 117)) C=9:=by
 have c:(w.alloc (.cells (qAv (List.replicate N Lf.zero)).toArray 117)).ownsRow w.heap.size 117 8 (.slice (some ⟨w.heap.size,0,none⟩) N N) (List.replicate N Lf.zero).length (qAv (List.replicate N Lf.zero)):=by
  have:=qFj w (List.replicate N Lf.zero) N (by simp) (by unfold maxLen;omega)
  rw[List.length_replicate]
  exact this
 obtain⟨f,j⟩:=h.rowNow (qal _) c
 exact⟨f.top,f.cC⟩
theorem qLp {col:Nat→Nat}{w:World}{P:qAU}{M C:Nat}{b:Bx}(h:qCM col w P M C b){m:Nat}(f:b.fine m)(hm:m≤40000)(hg:b.x.p.gone=false):Calls prog 74 #[.pointer (some ⟨C,0,none⟩)] w fun e w'=>e= .returned (.int .i64 b.empty.1)∧qGo col w P M C b.empty.2 w':=by
 obtain⟨A,vn,vw,h0⟩:=h
 have b6:=qAo f.x.ok.sl
 have c0:=f.nl
 obtain⟨g1,c1,b9⟩:=qAy h0.now (by omega)
 subst b9
 have bC:=h0.blk
 have q2:=bC.cell 2
 obtain⟨N,hN⟩:∃N,N=b.c.now.length:=⟨_,rfl⟩
 rw[←hN]at q2 h0
 obtain⟨R,hR⟩:∃R,R=b.empty:=⟨_,rfl⟩
 have a7:R=Bx.empR (Bx.empF N 0 b false):=by rw[hR,hN];rfl
 rw[←hR]
 have d8:N≤16:=by omega
 have HN:=qh hN
 replace a7:=qh a7
 clear c0 b6 hR hN bC
 go_enter func74,ntmps74
 go_wp2_with fail
 clear q2
 go_loopw [12,3] (fun i d wr=>∃(k:Nat) (l:Bx) (dk:Bool) (ck:Nat→Nat),i= .int .i64 k∧d= .bool dk∧k≤N∧qBm ck wr P M C A (.slice (some ⟨g1,0,none⟩) N c1) vw l∧Ext 11 col ck w wr∧l.fine (m+k)∧l.c.now.length=N∧l.x.p.gone=false∧R=Bx.empR (Bx.empF (N - k) k l dk)) (fun i _ _=>N - (intOf i).toNat)
 case atStart=>exact⟨0,b,false,col,rfl,rfl,by omega,h0,Ext.refl h0.top,f,HN.out.symm,hg,a7.out⟩
 case round =>
  obtain⟨k,l,dk,ck,rfl,rfl,hk,Z,eb,fk,q,b8,I⟩:=hrel
  replace I:=qh I
  by_cases b4:k<N
  · have m1:(k:Int)<(N:Int):=by omega
    have m2:(0:Int)≤(k:Int):=by omega
    have a8:k<l.c.now.length:=by rw[q];exact b4
    obtain⟨y,hy⟩:∃y,y=l.c.now[k]:=⟨_,rfl⟩
    have a5:l.c.now[k]? = some y:=by rw[List.getElem?_eq_getElem a8,hy]
    have a6:l.leaf k=y:=by unfold Bx.leaf;rw[a5];rfl
    have Y:=Z.now
    rw[q]at Y
    have hw:=qBQ Y k y a5
    replace q:=qh q
    have d0:wr.cell? ⟨g1,k*8,none⟩=some (.int .i64 y.kind):=hw 0 _ rfl
    have d1:wr.cell? ⟨g1,k*8+1,none⟩=some (.bool y.dirty):=hw 1 _ rfl
    have d2:wr.cell? ⟨g1,k*8+2,none⟩=some (.int .i64 y.lba):=hw 2 _ rfl
    have d3:wr.cell? ⟨g1,k*8+3,none⟩=some (W y.ep):=hw 3 _ rfl
    have d4:wr.cell? ⟨g1,k*8+4,none⟩=some (W y.sl):=hw 4 _ rfl
    have d5:wr.cell? ⟨g1,k*8+5,none⟩=some (U y.ver):=hw 5 _ rfl
    have d6:wr.cell? ⟨g1,k*8+6,none⟩=some (U y.tag.1):=hw 6 _ rfl
    have d7:wr.cell? ⟨g1,k*8+7,none⟩=some (U y.tag.2):=hw 7 _ rfl
    have a0:qA4 wr (wr.alloc (.cells #[.int .i64 y.kind,.bool y.dirty,.int .i64 y.lba,W y.ep,W y.sl,U y.ver,U y.tag.1,U y.tag.2] 117)):=qal _
    have a3:=Z.kept a0
    have V:=eb.trans (Ext.kept (m:=11) Z.top a0)
    have J:Bx.empF (N - k) k l dk=if y.dirty then(if l.spillE k≠0 then(l.spillE k,l.spillX k,dk) else Bx.empF (N - (k+1)) (k+1) (l.spillX k) true) else Bx.empF (N - (k+1)) (k+1) l dk:=by
     rw[show N - k=(N - (k+1))+1 by omega]
     conv=>lhs;unfold Bx.empF
     rw[a6]
    replace J:=qh J
    have c9:=qh a6
    have d9:=qh a5
    clear hy a6 a5 hw Z Y
    cases hd:y.dirty with
    | false =>
     rw[hd]at d1 a3 V
     have F:Bx.empF (N - k) k l dk=Bx.empF (N - (k+1)) (k+1) l dk:=by rw[J.out,if_neg (by rw[hd];decide)]
     replace F:=qh F
     clear a0
     go_wp2_with fail
     exact⟨⟨k+1,l,dk,ck,rfl,rfl,by omega,a3,V,fk.up (by omega),q.out,b8,by rw[I.out,F.out]⟩,by simp[intOf];omega⟩
    | true =>
     have c5:(l.leaf k).dirty=true:=by rw[c9.out];exact hd
     rw[hd]at d1 a3 V
     have b7:=qDS fk c5
     have CS:=qLo a3 fk (by omega) b8 k a8 b7
     have fs:=fk.spill a8 b7
     obtain⟨E,hE⟩:∃E,E=l.spillE k:=⟨_,rfl⟩
     rw[←hE]at CS
     have HE:=qh hE
     clear a0 hE
     go_wp2_with fail
     refine CS.mono ?_
     rintro e w2 ⟨rfl,c2,h2,e2⟩
     by_cases a1:E=0
     · have hon:=qPK (b:=l) (s:=k) (by rw[←HE.out];exact a1)
       have F:Bx.empF (N - k) k l dk=Bx.empF (N - (k+1)) (k+1) (l.spillX k) true:=by rw[J.out,if_pos hd,if_neg (by rw[←HE.out,a1];decide)]
       replace F:=qh F
       go_wp2_with fail
       exact⟨⟨k+1,l.spillX k,true,c2,rfl,rfl,by omega,h2,V.trans e2,fs,by rw[(qBv l k).1];exact q.out,hon,by rw[I.out,F.out]⟩,by simp[intOf];omega⟩
     · have hr:R=(E,l.spillX k):=by
        rw[I.out,J.out,if_pos hd,if_pos (by rw[←HE.out];exact a1),←HE.out]
        unfold Bx.empR
        rw[if_pos a1]
       subst hr
       go_wp2_with fail
       refine bodyPost_ret (v:=.int .i64 E) (by simp[results,results74,go_sem];done) rfl ⟨rfl,c2,⟨A,_,vw,h2⟩,V.trans e2⟩
  · have m3:¬(k:Int)<(N:Int):=by omega
    have hr:R=l.empD dk:=by
     rw[I.out,show N - k=0 by omega]
     rfl
    replace hr:=qh hr
    obtain⟨h2,c7⟩:∃h:Nat,h=0:=⟨_,rfl⟩
    clear c7 h2 b4
    have bW:=Z.wm.wd.blk
    have bC:=Z.blk
    have a4:=fun (bz:Bx) (cz:Nat→Nat) (wz:World) (hn:bz.c.now.length=N) (hz:qBm cz wz P M C A (.slice (some ⟨g1,0,none⟩) N c1) vw bz)=>qO2 hz hn (by omega)
    have e0:=fun wx=>qGm wx N (by omega)
    cases dk with
    | false =>
     have O:R=(0,l.clear):=by rw[hr.out];unfold Bx.empD;rfl
     subst O
     have a9:=a4 l ck wr q Z
     have ct:=qJg Z (show N≤100 by omega)
     replace q:=qh q
     clear a4
     have x2:=bC.cell 2
     have G:=bC.kept (show qA4 wr (wr.alloc (.cells (qAv (List.replicate N Lf.zero)).toArray 117)) from qal _)
     have c8:=G.cell 2
     have y2:=G.free 2
     have bM:=G.set 2 (.slice (some ⟨wr.heap.size,0,none⟩) N N)
     go_wp2_with fail
     refine(qIf ct.1).mono ?_
     rintro e w3 ⟨A3,c3,rfl,ha,o,_,_⟩
     have b3:=((o.same (j:=9) (by decide)).blk bM ct.2).1
     have y4:=b3.free 4
     have x4:=b3.cell 4
     obtain⟨h5,e5⟩:=a9 w3 A3 c3 ha o
     go_wp2_with fail
     refine bodyPost_ret (v:=.int .i64 0) (by simp[results,results74,go_sem];done) rfl ⟨rfl,c3,h5,(eb).trans e5⟩
    | true =>
     have p0:=bC.cell 0
     have p3:=bW.cell 3
     have CB:=qGe Z.wm.wd fk.x.ok (by omega)
     have a2:R=if l.x.p.spend.1=false then(7,l.setX l.x.dBarrier) else(0,(l.setX l.x.dBarrier).clear):=by
      rw[hr.out];unfold Bx.empD;cases l.x.p.spend.1<;>rfl
     obtain⟨B,hB⟩:∃B,B=l.x.p.spend.1:=⟨_,rfl⟩
     rw[←hB]at CB
     have HB:=qh hB
     replace a2:=qh a2
     replace q:=qh q
     clear hB
     go_wp2_with fail
     refine CB.mono ?_
     rintro e w4 ⟨rfl,c4,c6,e4⟩
     have h4:=Z.world (Z.wm.ext6 c6 e4) (e4.mono (show 6≤8 by decide))
     have b5:=eb.trans (e4.mono (show 6≤11 by decide))
     clear p0 p3
     cases B with
     | false =>
      have O:R=(7,l.setX l.x.dBarrier):=by rw[a2.out,if_pos HB.out.symm]
      subst O
      go_wp2_with fail
      refine bodyPost_ret (v:=.int .i64 7) (by simp[results,results74,go_sem];done) rfl ⟨rfl,c4,⟨A,_,vw,h4⟩,b5⟩
     | true =>
      have O:R=(0,(l.setX l.x.dBarrier).clear):=by rw[a2.out,if_neg (by rw[←HB.out];decide)]
      subst O
      have bC:=h4.blk
      have a9:=a4 (l.setX l.x.dBarrier) c4 w4 q.out h4
      have ct:=qJg h4 (show N≤100 by omega)
      clear a4
      have x2:=bC.cell 2
      have G:=bC.kept (show qA4 w4 (w4.alloc (.cells (qAv (List.replicate N Lf.zero)).toArray 117)) from qal _)
      have c8:=G.cell 2
      have y2:=G.free 2
      have bM:=G.set 2 (.slice (some ⟨w4.heap.size,0,none⟩) N N)
      go_wp2_with fail
      refine(qIf ct.1).mono ?_
      rintro e w3 ⟨A3,c3,rfl,ha,o,_,_⟩
      have b3:=((o.same (j:=9) (by decide)).blk bM ct.2).1
      have y4:=b3.free 4
      have x4:=b3.cell 4
      obtain⟨h5,e5⟩:=a9 w3 A3 c3 ha o
      go_wp2_with fail
      refine bodyPost_ret (v:=.int .i64 0) (by simp[results,results74,go_sem];done) rfl ⟨rfl,c3,h5,(b5).trans e5⟩
def Bx.layN (b:Bx)(s:Nat):Nn:=qOG (qAl b.x.eps) (s:Int) b.boot (b.k+1)
def Bx.layS (b:Bx)(s:Nat)(lba:Int)(data:List UInt8):List UInt8×qAD:=b.x.l.sealP b.x.logK (b.layN s) (qCI lba) data
def Bx.layL (b:Bx)(s:Nat)(lba:Int)(data:List UInt8):Wd:=b.x.setL (b.x.l.sealL b.x.logK (b.layN s) (qCI lba) data)
def Bx.layX (b:Bx)(s:Nat)(lba:Int)(data:List UInt8):Wd:=(b.layL s lba data).sWrite ((gData b.x.n s:Nat),(b.layS s lba data).1)
def Bx.lay (b:Bx)(s:Nat)(lba:Int)(data:List UInt8):Bx:=⟨b.layX s lba data,b.boot,b.k+1,b.c⟩
def Bx.layF (b:Bx)(s:Nat)(lba:Int)(data:List UInt8)(dirty:Bool):Lf:=⟨1,dirty,lba,(b.layN s).epoch,(b.layN s).slot,(b.layN s).version,(b.layS s lba data).2⟩
theorem qDe (b:Bx)(s:Nat)(lba:Int)(data:List UInt8):(b.layS s lba data).1.length=data.length:=Lk.sealP_length _ _ _ _ _
theorem qIk (b:Bx)(s:Nat)(lba:Int)(data:List UInt8)(hs:s<b.x.n)(hd:data.length=32):inB (gSize b.x.n) ((gData b.x.n s:Nat),(b.layS s lba data).1):=by
 have:=qIj hs
 refine⟨by omega,?_,?_⟩<;>simp only[Int.toNat_natCast,qDe,hd]<;>omega
def Bx.layT (b:Bx)(s:Nat)(lba:Int)(data:List UInt8)(dirty:Bool):Value:=if b.x.p.spend.1 then .tuple #[.int .i64 (s:Int),.agg (b.layF s lba data dirty).cells.toArray,.int .i64 0] else .tuple #[.int .i64 (-1),.agg Lf.zero.cells.toArray,.int .i64 7]
theorem qJh {w:World}{M k:Nat}{boot:BitVec 64}{u:Value}{n:Nat}{bs:List UInt8}(hM:qJS w M boot k)(h:Sl w u n (qA1 bs)):∀a c,u= .slice (some a) n c→0<(qA1 bs).length→a.block≠M:=fun a c e hl l=>by
 rcases h with ⟨h0,_⟩|⟨a2,c2,h1,h2,h3,h4⟩
 · rw[h0]at e;cases e
 · rw[h1]at e
   cases e
   have q:=qBT bs 0 (by rw[qA7]at hl;exact hl)
   have:=h4 0 _ q
   rw[Addr.add_zero']at this
   have f:=World.cell?_spot this
   obtain⟨b,off,F⟩:=a
   simp only at l f
   subst l
   subst f
   have j:Blk w b #[U boot,.int .i64 k] 153:=hM
   rw[j.cell off]at this
   match off with
   | 0=>simp[V8,U]at this
   | 1=>simp[V8]at this
   | k+2=>simp at this
theorem Sl.chg1 {w w3 w4 w5:World}{v:Value}{M k:Nat}{boot:BitVec 64}{bs:List UInt8}{n:Nat}(h:Sl w v n (qA1 bs))(hk:qA4 w w3)(hc:Chg [M] w3 w4)(hM:qJS w M boot k)(hk5:qA4 w4 w5):Sl w5 v n (qA1 bs):=
 (Chg.sl (h.kept hk) hc fun a c e hl f=>qJh (Blk.kept hM hk:qJS w3 M boot k) (h.kept hk) a c e hl (List.mem_singleton.1 f)).kept hk5
theorem qQn {col:Nat→Nat}{w:World}{P:qAU}{M C A:Nat}{vn vw:Value}{b:Bx}(h:qBm col w P M C A vn vw b){m:Nat}(f:b.fine m)(hm:m≤60000)(hk100:b.k<100)(s:Nat)(hfr:b.c.free=some s)(lba:Int)(vd:Value)(data:List UInt8)(Y:data.length=32)(dirty:Bool)(sd:Sl w vd 32 (qA1 data)) :
 Calls prog 122 #[.pointer (some ⟨C,0,none⟩),.int .i64 lba,vd,.bool dirty] w fun e w'=>e= .returned (b.layT s lba data dirty)∧∃col',qBm col' w' P M C A vn vw (b.lay s lba data)∧Ext 11 col col' w w':=by
 obtain⟨da,dc,rfl⟩:=sd.len
 have l7:=qAo f.x.ok.sl
 have k9:=f.nl
 have j9:=f.wl
 have a7:qA4 w (w.alloc (.cells #[.int .i64 0,.bool false,.int .i64 0,W 0#32,W 0#32,U 0#64,U 0#64,U 0#64] 117)):=qal _
 have bZ:=Blk.new w #[.int .i64 0,.bool false,.int .i64 0,W 0#32,W 0#32,U 0#64,U 0#64,U 0#64] 117
 have CF:=qFn (h.kept a7) (by omega) (by omega) (by omega)
 rw[hfr]at CF
 have d6:s<b.c.now.length:=by
  have h1:=hfr
  unfold Ca.free at h1
  exact List.mem_range.1 (List.find?_range_eq_some.1 h1).2.1
 obtain⟨N,hN⟩:∃N,N=b.x.n:=⟨_,rfl⟩
 have HX:Hid (b.x.n=N):=qh hN.symm
 have h6:s<N:=by omega
 have e9:qD9 (N:Int)=true:=by rw[hN];exact f.x.ok.sl
 have CG:=fun z=>qIU N e9 s h6 z
 have i4:=fun z=>qL2 lba z
 have q0:=(h.blk.kept a7).cell 0
 have i3:(s:Int)≤65535:=by omega
 replace Y:=qh Y
 replace e9:=qh e9
 replace d6:=qh d6
 have l9:=qh hfr
 clear hN k9 j9 hfr
 unfold qDG at CF
 simp only at CF
 go_enter func122,ntmps122
 go_wp2_with fail
 generalize (w.alloc (.cells #[.int .i64 0,.bool false,.int .i64 0,W 0#32,W 0#32,U 0#64,U 0#64,U 0#64] 117))=wA at *
 refine CF.mono ?_
 rintro e w1 ⟨rfl,rfl⟩
 have CK:=qLg (h.wm.kept a7).wd f.x (by omega)
 obtain⟨ep,e0⟩:∃y,y=qAl b.x.eps:=⟨_,rfl⟩
 obtain⟨ky,f5⟩:∃y,y=b.x.logK:=⟨_,rfl⟩
 rw[show qFd b.x.seed b.x.eps (qAl b.x.eps)=ky from f5.symm,←e0]at CK
 have k4:=qh e0
 have j0:=qh f5
 obtain⟨a1,a2⟩:=ky
 clear e0 f5
 go_wp2_with fail
 refine CK.mono ?_
 rintro e w2 ⟨rfl,c4⟩
 have j2:=(h.blk.kept (a7.of c4))
 clear q0
 unfold Pr
 have b8:qA4 w2 (w2.alloc (.cells #[U a1,U a2] 115)):=qal _
 have i2:=Blk.new w2 #[U a1,U a2] 115
 have a4:=(a7.of c4).of b8
 have q1:=(j2.kept b8).cell 1
 go_wp2_with fail
 obtain⟨w3,j4⟩:∃y,y=(w2.alloc (.cells #[U a1,U a2] 115)):=⟨_,rfl⟩
 rw[←j4]at b8 i2 a4 q1 ⊢
 clear j4 j2
 have h5:=h.wm.kept a4
 have CM:Calls prog 159 #[.pointer (some ⟨M,0,none⟩),W ep,.int .i64 (s:Int)] w3 fun e w'=>e= .returned (.tuple #[(qOG ep (s:Int) b.boot (b.k+1)).val,.int .i64 0])∧qJS w' M b.boot (b.k+1)∧Chg [M] w3 w':=qH4 M b.boot b.k hk100 ep s (by omega) w3 h5.mkr
 obtain⟨n,hn⟩:∃n,n=qOG ep (s:Int) b.boot (b.k+1):=⟨_,rfl⟩
 have f4:Hid (n=b.layN s):=qh (by unfold Bx.layN;rw[hn,k4.out])
 rw[←hn]at CM
 clear hn
 obtain⟨T,hT⟩:∃t,t=b.x.l.sealP (a1,a2) n (qCI lba) data:=⟨_,rfl⟩
 have e5:Hid (T=b.layS s lba data):=qh (by unfold Bx.layS;rw[hT,j0.out,f4.out])
 obtain⟨SB,T1,T2⟩:=T
 have d3:Hid (SB=(b.x.l.sealP (a1,a2) n (qCI lba) data).1):=qh (by rw[←hT])
 have e8:Hid (T1=(b.x.l.sealP (a1,a2) n (qCI lba) data).2.1):=qh (by rw[←hT])
 have e7:Hid (T2=(b.x.l.sealP (a1,a2) n (qCI lba) data).2.2):=qh (by rw[←hT])
 have b3:SB.length=32:=by rw[d3.out,Lk.sealP_length];exact Y.out
 replace b3:=qh b3
 clear hT
 refine CM.mono ?_
 rintro e w4 ⟨rfl,k2,i0⟩
 obtain⟨j6,E4⟩:=h5.next k2 i0
 unfold Nn.val
 have a6:qA4 w4 (w4.alloc (.cells #[W n.epoch,W n.slot,U n.version] 113)):=qal _
 have c9:=Blk.new w4 #[W n.epoch,W n.slot,U n.version] 113
 clear q1
 go_wp2_with fail
 obtain⟨w5,f3⟩:∃y,y=(w4.alloc (.cells #[W n.epoch,W n.slot,U n.version] 113)):=⟨_,rfl⟩
 rw[←f3]at a6 c9 ⊢
 clear f3
 have d0:=j6.kept a6
 have E5:Ext 8 col col w w5:=((Ext.kept h.top a4).trans E4).trans (Ext.kept j6.wd.top a6)
 have l6:=a7.size
 have i1:=(a7.of c4).size
 have l4:=a4.size
 have l5:=E4.size
 have i5:col w2.heap.size=0:=h.top _ i1
 have e6:col w4.heap.size=0:=h.top _ (by omega)
 have i6:col w.heap.size=0:=h.top _ qle
 have i7:=(E4.blk0 i2 i5).1.kept a6
 have l0:=(E4.blk0 (bZ.kept (c4.of b8)) i6).1.kept a6
 have h8:=(h.world d0 E5).blk
 have h9:w.heap.size<w4.heap.size:=by have h1:=bZ.lt;have h2:=c4.size;have h3:=b8.size;omega
 have l8:w.heap.size<w5.heap.size:=Nat.lt_of_lt_of_le h9 a6.size
 have j8:Sl w5 (.slice da 32 dc) 32 (qA1 data):=sd.chg1 (a4) i0 h.wm.mkr a6
 go_wp2_with fail
 refine qBZ (qA8 (fun k=>k<w5.heap.size∧(col k=0∨6<col k))) [(0,0),(1,0),(2,0),(3,0),(4,0),(5,0),(6,0),(7,0),(8,0),(9,0),(11,0),(13,0),(14,0),(15,0),(18,0)] ((.light 0 (.light 1 (.light 2 (.light 3 (.light 4 (.light 5 (.light 6 (.light 7 (.light 8 (.light 9 (.light 11 (.two 10 16 (.two 12 16 (.light 13 (.light 14 (.light 15 (.heavy 16 (.heavy 17 (.light 18 .nil)))))) (.heavy 12 (.light 13 (.light 14 (.light 15 (.heavy 17 (.light 18 .nil))))))) (.heavy 10 (.heavy 12 (.light 13 (.light 14 (.light 15 (.heavy 17 (.light 18 .nil)))))))))))))))))))) (by kernel_rfl) (by kernel_rfl) (fun _=>qA8.refl _) (fun _ _ _ h1 h2=>h1.trans h2) ?_
 intro z0 a8
 have I:=d0.kept a8
 have d8:=I.wd.blk
 rw[HX.out]at d8
 have i8:=h8.kept a8
 have h4:=i7.kept a8
 have f7:=c9.kept a8
 have a0:=j8.kept a8
 have Ec:Ext 8 col col w5 z0:=Ext.kept d0.wd.top a8
 have f3:=E5.size
 have m0:=a8.size
 refine qA2 _ rfl (fun J j=>?_)
 refine qqP (by rfl) ?_;apply Exists.intro;refine⟨fun w' G=>?_,j _ ?_⟩
 · go_simp;first|done|rfl
 clear j J;simp only[Act.put,qqB]
 refine qA2 _ rfl (fun J j=>?_)
 refine qqP (by rfl) ?_;apply Exists.intro;refine⟨fun w' G=>?_,j _ ?_⟩
 · go_simp;first|done|rfl
 clear j J;simp only[Act.put,qqB]
 refine qA2 _ rfl (fun J j=>?_)
 refine qqP (by rfl) ?_;apply Exists.intro;refine⟨fun w' G=>?_,j _ ?_⟩
 · go_simp;first|done|rfl
 clear j J;simp only[Act.put,qqB]
 refine qA2 _ rfl (fun J j=>?_)
 refine qqP (by rfl) ?_;apply Exists.intro;refine⟨fun w' G=>?_,j _ ?_⟩
 · have c:=(G.block _ i8.lt ⟨h8.lt,.inr (by rw[h.cC];decide)⟩).trans i8;have c0:=Blk.cell c 0;clear c;go_simp;first|done|rfl
 clear j J;simp only[Act.put,qqB]
 refine qA2 _ rfl (fun J j=>?_)
 refine qqP (by rfl) ?_;apply Exists.intro;refine⟨fun w' G=>?_,j _ ?_⟩
 · go_simp;first|done|rfl
 clear j J;simp only[Act.put,qqB]
 refine qA2 _ rfl (fun J j=>?_)
 refine qqP (by rfl) ?_;apply Exists.intro;refine⟨fun w' G=>?_,j _ ?_⟩
 · go_simp;first|done|rfl
 clear j J;simp only[Act.put,qqB]
 refine qA2 _ rfl (fun J j=>?_)
 refine qqP (by rfl) ?_;apply Exists.intro;refine⟨fun w' G=>?_,j _ ?_⟩
 · have c:=(G.block _ d8.lt ⟨d0.wd.blk.lt,.inr (by rw[h.wm.wd.cW];decide)⟩).trans d8;have c6:=Blk.cell c 6;clear c;go_simp;first|done|rfl
 clear j J;simp only[Act.put,qqB]
 refine qA2 _ rfl (fun J j=>?_)
 refine qqP (by rfl) ?_;apply Exists.intro;refine⟨fun w' G=>?_,j _ ?_⟩
 · have c:=(G.block _ h4.lt ⟨i7.lt,.inl i5⟩).trans h4;have c0:=Blk.cell c 0;have c1:=Blk.cell c 1;clear c;go_simp;first|done|rfl
 clear j J;simp only[Act.put,qqB]
 refine qA2 _ rfl (fun J j=>?_)
 refine qqP (by rfl) ?_;apply Exists.intro;refine⟨fun w' G=>?_,j _ ?_⟩
 · have c:=(G.block _ f7.lt ⟨c9.lt,.inl e6⟩).trans f7;have c0:=Blk.cell c 0;have c1:=Blk.cell c 1;have c2:=Blk.cell c 2;clear c;go_simp;first|done|rfl
 clear j J;simp only[Act.put,qqB]
 refine qA2 _ rfl (fun J j=>?_)
 refine qqP (by rfl) ?_;apply Exists.intro;refine⟨fun w' G=>?_,j _ ?_⟩
 · go_simp;first|done|rfl
 clear j J;simp only[Act.put,qqB]
 refine qA2 _ rfl (fun J j=>?_)
 refine qqP (by rfl) ?_;apply Exists.intro;refine⟨fun w' G=>?_,j _ ?_⟩
 · go_simp;first|done|rfl
 clear j J;simp only[Act.put,qqB]
 refine qC2 ?_ ?_
 focus
  refine qAc _ rfl (fun J j=>?_)
  refine qqP (by rfl) ?_
  go_wp2_with fail
  refine(i4 z0).mono ?_
  rintro e y1 ⟨hv,rfl,oh,ka⟩
  obtain⟨k8,k1,rfl⟩:=(Sl.of_own oh).len
  go_wp2
  refine j _ _ (qA8.of_kept ka) ?_
  clear j J
  try simp only[Act.put,qqB]
  replace Ec:=Ec.trans (Ext.kept (m:=8) I.wd.top ka)
  replace I:=I.kept ka
  replace a0:=a0.kept ka
  have k7:=ka.size
  clear ka
  refine qC2 ?_ ?_
  focus
   refine qAc _ rfl (fun J j=>?_)
   refine qqP (by rfl) ?_
   go_wp2_with fail
   refine(qGg I.wd f.x (by omega) (a1,a2) n _ _ (qCI lba) data (by rw[qC9];omega) (by rw[Y.out];omega) (by rw[qC9];exact Sl.of_own oh) (by rw[Y.out];exact a0)).mono ?_
   rintro e y2 ⟨u,O,rfl,ou,b6,c3,E6⟩
   obtain⟨ua,uc,rfl⟩:=(Sl.of_own ou).len
   rw[Y.out]at ou b6
   rw[←e8.out,←e7.out]
   rw[←d3.out]at ou
   rw[Y.out]
   have a3:=I.ext6 c3 E6
   have S6:=E6.sameOn (w0:=w5) (col0:=col) (fun k hk=>rfl)
   replace Ec:=Ec.trans (E6.mono (show 6≤8 by decide))
   go_wp2
   refine j _ _ (S6) ?_
   clear j J
   try simp only[Act.put,qqB]
   have f8:=E6.size
   refine qA2 _ rfl (fun J j=>?_)
   refine qqP (by rfl) ?_;apply Exists.intro;refine⟨fun w' G=>?_,j _ ?_⟩
   · go_simp;first|done|rfl
   clear j J;simp only[Act.put,qqB]
   refine qA2 _ rfl (fun J j=>?_)
   refine qqP (by rfl) ?_;apply Exists.intro;refine⟨fun w' G=>?_,j _ ?_⟩
   · go_simp;first|done|rfl
   clear j J;simp only[Act.put,qqB]
   refine qA2 _ rfl (fun J j=>?_)
   refine qqP (by rfl) ?_;apply Exists.intro;refine⟨fun w' G=>?_,j _ ?_⟩
   · go_simp;first|done|rfl
   clear j J;simp only[Act.put,qqB]
   refine qAc _ rfl (fun J j=>?_)
   refine qqP (by rfl) ?_
   have kb:qA4 y2 (y2.alloc (.cells #[.slice none 0 0,U 0#64,U 0#64] 165)):=qal _
   have bS:=Blk.new y2 #[.slice none 0 0,U 0#64,U 0#64] 165
   obtain⟨gs,V⟩:∃g,g=y2.heap.size:=⟨_,rfl⟩
   rw[←V]at bS
   go_wp2
   refine j _ _ (qA8.of_kept kb) ?_
   clear j J
   try simp only[Act.put,qqB]
   rw[←V]
   have d7:=Nat.le_of_eq V
   have d5:=Nat.le_of_eq V.symm
   clear V
   generalize (y2.alloc (.cells #[.slice none 0 0,U 0#64,U 0#64] 165))=y3 at *
   replace Ec:=Ec.trans (Ext.kept (m:=8) a3.wd.top kb)
   replace a3:=a3.kept kb
   replace ou:=qA5 ou kb
   have c7:O gs=0:=E6.top _ (by omega)
   have g8:=kb.size
   clear kb
  rotate_left
  focus
   refine qAc _ rfl (fun J j=>?_)
   refine qqP (by rfl) ?_
   have kb:qA4 y1 (y1.alloc (.cells #[.slice none 0 0,U 0#64,U 0#64] 165)):=qal _
   have bS:=Blk.new y1 #[.slice none 0 0,U 0#64,U 0#64] 165
   obtain⟨gs,V⟩:∃g,g=y1.heap.size:=⟨_,rfl⟩
   rw[←V]at bS
   go_wp2
   refine j _ _ (qA8.of_kept kb) ?_
   clear j J
   try simp only[Act.put,qqB]
   rw[←V]
   have d7:=Nat.le_of_eq V
   have d5:=Nat.le_of_eq V.symm
   clear V
   generalize (y1.alloc (.cells #[.slice none 0 0,U 0#64,U 0#64] 165))=y2 at *
   replace Ec:=Ec.trans (Ext.kept (m:=8) I.wd.top kb)
   replace I:=I.kept kb
   replace a0:=a0.kept kb
   replace oh:=qA5 oh kb
   have f8:=kb.size
   clear kb
   refine qAc _ rfl (fun J j=>?_)
   refine qqP (by rfl) ?_
   go_wp2_with fail
   refine(qGg I.wd f.x (by omega) (a1,a2) n _ _ (qCI lba) data (by rw[qC9];omega) (by rw[Y.out];omega) (by rw[qC9];exact Sl.of_own oh) (by rw[Y.out];exact a0)).mono ?_
   rintro e y3 ⟨u,O,rfl,ou,b6,c3,E6⟩
   obtain⟨ua,uc,rfl⟩:=(Sl.of_own ou).len
   rw[Y.out]at ou b6
   rw[←e8.out,←e7.out]
   rw[←d3.out]at ou
   rw[Y.out]
   have a3:=I.ext6 c3 E6
   have S6:=E6.sameOn (w0:=w5) (col0:=col) (fun k hk=>rfl)
   replace Ec:=Ec.trans (E6.mono (show 6≤8 by decide))
   go_wp2
   refine j _ _ (S6) ?_
   clear j J
   try simp only[Act.put,qqB]
   have g8:=E6.size
   have e3:=bS.lt
   replace bS:=(E6.blk0 bS (h.top _ (by omega))).1
   have c7:O gs=0:=by rw[E6.old _ e3];exact h.top _ (by omega)
   refine qA2 _ rfl (fun J j=>?_)
   refine qqP (by rfl) ?_;apply Exists.intro;refine⟨fun w' G=>?_,j _ ?_⟩
   · go_simp;first|done|rfl
   clear j J;simp only[Act.put,qqB]
   refine qA2 _ rfl (fun J j=>?_)
   refine qqP (by rfl) ?_;apply Exists.intro;refine⟨fun w' G=>?_,j _ ?_⟩
   · go_simp;first|done|rfl
   clear j J;simp only[Act.put,qqB]
   refine qA2 _ rfl (fun J j=>?_)
   refine qqP (by rfl) ?_;apply Exists.intro;refine⟨fun w' G=>?_,j _ ?_⟩
   · go_simp;first|done|rfl
   clear j J;simp only[Act.put,qqB]
 rotate_left 2
 focus
  refine qAc _ rfl (fun J j=>?_)
  refine qqP (by rfl) ?_
  have kb:qA4 z0 (z0.alloc (.cells #[.slice none 0 0,U 0#64,U 0#64] 165)):=qal _
  have bS:=Blk.new z0 #[.slice none 0 0,U 0#64,U 0#64] 165
  obtain⟨gs,V⟩:∃g,g=z0.heap.size:=⟨_,rfl⟩
  rw[←V]at bS
  go_wp2
  refine j _ _ (qA8.of_kept kb) ?_
  clear j J
  try simp only[Act.put,qqB]
  rw[←V]
  have d7:=Nat.le_of_eq V
  have d5:=Nat.le_of_eq V.symm
  clear V
  generalize (z0.alloc (.cells #[.slice none 0 0,U 0#64,U 0#64] 165))=y1 at *
  replace Ec:=Ec.trans (Ext.kept (m:=8) I.wd.top kb)
  replace I:=I.kept kb
  replace a0:=a0.kept kb
  have k7:=kb.size
  clear kb
  refine qAc _ rfl (fun J j=>?_)
  refine qqP (by rfl) ?_
  go_wp2_with fail
  refine(i4 y1).mono ?_
  rintro e y2 ⟨hv,rfl,oh,ka⟩
  obtain⟨k8,k1,rfl⟩:=(Sl.of_own oh).len
  go_wp2
  refine j _ _ (qA8.of_kept ka) ?_
  clear j J
  try simp only[Act.put,qqB]
  replace Ec:=Ec.trans (Ext.kept (m:=8) I.wd.top ka)
  replace I:=I.kept ka
  replace a0:=a0.kept ka
  have f8:=ka.size
  replace bS:=bS.kept ka
  clear ka
  refine qAc _ rfl (fun J j=>?_)
  refine qqP (by rfl) ?_
  go_wp2_with fail
  refine(qGg I.wd f.x (by omega) (a1,a2) n _ _ (qCI lba) data (by rw[qC9];omega) (by rw[Y.out];omega) (by rw[qC9];exact Sl.of_own oh) (by rw[Y.out];exact a0)).mono ?_
  rintro e y3 ⟨u,O,rfl,ou,b6,c3,E6⟩
  obtain⟨ua,uc,rfl⟩:=(Sl.of_own ou).len
  rw[Y.out]at ou b6
  rw[←e8.out,←e7.out]
  rw[←d3.out]at ou
  rw[Y.out]
  have a3:=I.ext6 c3 E6
  have S6:=E6.sameOn (w0:=w5) (col0:=col) (fun k hk=>rfl)
  replace Ec:=Ec.trans (E6.mono (show 6≤8 by decide))
  go_wp2
  refine j _ _ (S6) ?_
  clear j J
  try simp only[Act.put,qqB]
  have g8:=E6.size
  have e3:=bS.lt
  replace bS:=(E6.blk0 bS (h.top _ (by omega))).1
  have c7:O gs=0:=by rw[E6.old _ e3];exact h.top _ (by omega)
  refine qA2 _ rfl (fun J j=>?_)
  refine qqP (by rfl) ?_;apply Exists.intro;refine⟨fun w' G=>?_,j _ ?_⟩
  · go_simp;first|done|rfl
  clear j J;simp only[Act.put,qqB]
  refine qA2 _ rfl (fun J j=>?_)
  refine qqP (by rfl) ?_;apply Exists.intro;refine⟨fun w' G=>?_,j _ ?_⟩
  · go_simp;first|done|rfl
  clear j J;simp only[Act.put,qqB]
  refine qA2 _ rfl (fun J j=>?_)
  refine qqP (by rfl) ?_;apply Exists.intro;refine⟨fun w' G=>?_,j _ ?_⟩
  · go_simp;first|done|rfl
  clear j J;simp only[Act.put,qqB]
 all_goals
  refine qAc _ rfl (fun J j=>?_)
  refine qqP (by rfl) ?_
  have f0:=bS.free 0
  have f1:=bS.free 1
  have f2:=bS.free 2
  have x0:=bS.cell 0
  have x1:=bS.cell 1
  have x2:=bS.cell 2
  have c5:Chg [gs] y3 (((y3.setCell ⟨gs,0,none⟩ (.slice ua 32 uc)).setCell ⟨gs,1,none⟩ (U T1)).setCell ⟨gs,2,none⟩ (U T2)):=(((Chg.refl _ _).set qsm 0 _).set qsm 1 _).set qsm 2 _
  have bF:=((bS.set 0 (.slice ua 32 uc)).set 1 (U T1)).set 2 (U T2)
  simp only[qqA,qq0,qq1]at bF
  go_wp2
  refine j _ _ (qA8.of_chg c5 fun b hb hA=>by have h1:=hA.1;rw[List.mem_singleton.1 hb]at h1;omega) ?_
  clear j J
  try simp only[Act.put,qqB]
  clear f0 f1 f2 x0 x1 x2
  generalize (((y3.setCell ⟨gs,0,none⟩ (.slice ua 32 uc)).setCell ⟨gs,1,none⟩ (U T1)).setCell ⟨gs,2,none⟩ (U T2))=zF at *
  have j1:=qAu ou c5 bS (by decide)
  have b9:O gs=0:=c7
  have a9:WM O zF P (b.layL s lba data) M b.boot (b.k+1):=by
   have hx:b.layL s lba data=b.x.setL (b.x.l.sealL (a1,a2) n (qCI lba) data):=by unfold Bx.layL;rw[←j0.out,←f4.out]
   rw[hx]
   exact⟨a3.wd.chg c5 (fun b hb=>by rw[List.mem_singleton]at hb;subst hb;exact .inl b9),c5.blk a3.mkr (by rw[List.mem_singleton];intro e;rw[←e,a3.cM]at b9;cases b9),a3.cM⟩
  have EF:=Ec.newset c5 (by omega)
  refine qA2 _ rfl (fun J j=>?_)
  refine qqP (by rfl) ?_;apply Exists.intro;refine⟨fun w' G=>?_,j _ ?_⟩
  · go_simp;first|done|rfl
  clear j J;simp only[Act.put,qqB]
  refine qCZ ?_
  have k5:=(EF.blk0 c9 e6).1
  obtain⟨k6,i9⟩:=EF.blk0 l0 i6
  have EE:=E5.trans EF
  have j7:=h.world a9 EE
  have h7:=j7.blk
  have k0:=j7.cC
  have d9:=a9.wd.blk
  rw[show(b.layL s lba data).n=N from HX.out]at d9
  have fL:(b.layL s lba data).fine (m+1):=f.x.seal _ _ _ _ (by rw[Y.out];omega)
  have l1:inB (gSize (b.layL s lba data).n) ((gData N s:Nat),SB):=by
   have:=qIk b s lba data (by rw[HX.out];exact h6) Y.out
   rw[HX.out,←e5.out]at this
   rw[show(b.layL s lba data).n=N from HX.out]
   exact this
  have h0:∀a c,(Value.slice ua 32 uc)= .slice (some a) 32 c→0<(qA1 SB).length→O a.block=0:=fun a c e hl=>by
   obtain⟨gu,cu,e2⟩:=qAy j1 (by omega)
   rw[e2]at e
   cases e
   exact b6 gu (by rw[e2];rfl)
  obtain⟨B,hB⟩:∃y,y=b.x.p.spend.1:=⟨_,rfl⟩
  have HB:=qh hB
  clear hB
  go_wp2_with fail
  refine qAf (qA8 (fun k=>k<zF.heap.size∧(O k=0∨6<O k))) [(0,0),(1,0),(2,0),(3,0),(4,0),(5,0),(6,0),(7,0),(8,0),(9,0),(10,0),(11,0),(12,0),(13,0),(14,0),(16,0),(17,0),(15,1),(18,1),(19,0)] (by kernel_rfl) (by kernel_rfl) ?_ ?_ ?_
  · exact fun _=>qA8.refl _
  · exact fun _ _ _ h1 h2=>h1.trans h2
  intro v2 a5
  have j5:=h7.kept a5
  have f9:=d9.kept a5
  have j3:=bF.kept a5
  repeat
   refine qA0 _ rfl (fun K Z=>?_)
   first
    | (refine qqP (by rfl) ?_;apply Exists.intro;refine⟨fun w' G=>?_,Z _ ?_⟩;(have q:=(G.block _ j5.lt ⟨h7.lt,.inr (by rw[k0];decide)⟩).trans j5;have q0:=Blk.cell q 0;clear q;have c:=(G.block _ f9.lt ⟨d9.lt,.inr (by rw[a9.wd.cW];decide)⟩).trans f9;have c0:=Blk.cell c 0;have c2:=Blk.cell c 2;clear c;have d:=(G.block _ j3.lt ⟨bF.lt,.inl b9⟩).trans j3;have s0:=Blk.cell d 0;clear d;go_simp;first|done|rfl))
    | refine qqN (by rfl) (Z _ ?_)
   clear Z K;simp only[Act.put,qqB]
  refine qqH _ rfl (by rfl) (fun K Z=>?_)
  go_wp2_with fail
  refine(CG v2).mono ?_
  rintro e v3 ⟨rfl,b7⟩
  go_wp2
  refine Z _ _ (qA8.of_kept b7) ?_
  clear Z K
  try simp only[Act.put,qqB]
  refine qqH _ rfl (by rfl) (fun K Z=>?_)
  go_wp2_with fail
  refine(qEK ((a9.wd.kept a5).kept b7) fL.ok (by omega) (gData N s:Nat) _ SB l1 (by rw[b3.out];exact Sl.of_own (qA5 (qA5 j1 a5) b7)) (fun a c e hl=>by rw[b3.out]at e;exact h0 a c e hl)).mono ?_
  rintro e v4 ⟨rfl,b4,e4,E9⟩
  rw[show(b.layL s lba data).p.spend.1=_ from HB.out.symm]
  have S9:=E9.sameOn (w0:=zF) (col0:=O) (fun k hk=>rfl)
  go_wp2
  refine Z _ _ (S9) ?_
  clear Z K
  try simp only[Act.put,qqB]
  repeat
   refine qA0 _ rfl (fun K Z=>?_)
   first
    | (refine qqP (by rfl) ?_;apply Exists.intro;refine⟨fun w' G=>?_,Z _ ?_⟩;go_simp;first|done|rfl)
    | refine qqN (by rfl) (Z _ ?_)
   clear Z K;simp only[Act.put,qqB]
  refine qA6 ?_
  replace e4:qAW b4 v4 P (b.layX s lba data):=by
   unfold Bx.layX
   rw[HX.out,←e5.out]
   exact e4
  have k3:=a9.ext6 e4 ((Ext.kept (m:=6) a9.wd.top (a5.of b7)).trans E9)
  have EN:Ext 8 O b4 zF v4:=((Ext.kept (m:=6) a9.wd.top (a5.of b7)).trans E9).mono (show 6≤8 by decide)
  have EZ:=EE.trans EN
  have e1:=h.world k3 EZ
  obtain⟨F,g9⟩:=EN.blk0 k6 i9
  cases B with
  | false =>
   have g0:=F.free 0
   have x0:=F.cell 0
   have g1:=F.free 1
   have x1:=F.cell 1
   have g2:=F.free 2
   have x2:=F.cell 2
   have g3:=F.free 3
   have x3:=F.cell 3
   have g4:=F.free 4
   have x4:=F.cell 4
   have g5:=F.free 5
   have x5:=F.cell 5
   have g6:=F.free 6
   have x6:=F.cell 6
   have g7:=F.free 7
   have x7:=F.cell 7
   go_wp2_with fail
   have bE:=((((((((F).set 0 (.int .i64 0)).set 1 (.bool false)).set 2 (.int .i64 0)).set 3 (W 0#32)).set 4 (W 0#32)).set 5 (U 0#64)).set 6 (U 0#64)).set 7 (U 0#64)
   have c8:Chg [w.heap.size] v4 ((((((((v4.setCell ⟨w.heap.size,0,none⟩ (.int .i64 0)).setCell ⟨w.heap.size,1,none⟩ (.bool false)).setCell ⟨w.heap.size,2,none⟩ (.int .i64 0)).setCell ⟨w.heap.size,3,none⟩ (W 0#32)).setCell ⟨w.heap.size,4,none⟩ (W 0#32)).setCell ⟨w.heap.size,5,none⟩ (U 0#64)).setCell ⟨w.heap.size,6,none⟩ (U 0#64)).setCell ⟨w.heap.size,7,none⟩ (U 0#64)):=((((((((Chg.refl _ _).set qsm 0 _).set qsm 1 _).set qsm 2 _).set qsm 3 _).set qsm 4 _).set qsm 5 _).set qsm 6 _).set qsm 7 _
   have r0:=bE.cell 0
   have r1:=bE.cell 1
   have r2:=bE.cell 2
   have r3:=bE.cell 3
   have r4:=bE.cell 4
   have r5:=bE.cell 5
   have r6:=bE.cell 6
   have r7:=bE.cell 7
   clear g0 x0 g1 x1 g2 x2 g3 x3 g4 x4 g5 x5 g6 x6 g7 x7
   generalize ((((((((v4.setCell ⟨w.heap.size,0,none⟩ (.int .i64 0)).setCell ⟨w.heap.size,1,none⟩ (.bool false)).setCell ⟨w.heap.size,2,none⟩ (.int .i64 0)).setCell ⟨w.heap.size,3,none⟩ (W 0#32)).setCell ⟨w.heap.size,4,none⟩ (W 0#32)).setCell ⟨w.heap.size,5,none⟩ (U 0#64)).setCell ⟨w.heap.size,6,none⟩ (U 0#64)).setCell ⟨w.heap.size,7,none⟩ (U 0#64))=vE at *
   have f6:=e1.chg0 c8 g9
   refine bodyPost_ret (v:=.tuple #[.int .i64 (-1),.agg #[.int .i64 0,.bool false,.int .i64 0,W 0#32,W 0#32,U 0#64,U 0#64,U 0#64],.int .i64 7]) (by simp[results,results122,go_sem,r0,r1,r2,r3,r4,r5,r6,r7];done) rfl ⟨?_,b4,f6,(EZ.newset c8 qle).mono (by decide)⟩
   unfold Bx.layT
   rw[←HB.out]
   rfl
  | true =>
   have l3:=(EN.blk0 k5 (EF.blk0 c9 e6).2).1
   have l2:=(EN.blk0 bF b9).1
   have d4:=F
   go_wp2_with fail
   refine qAb [w.heap.size] [(0,0),(1,0),(2,0),(3,0),(4,0),(5,0),(6,0),(7,0),(8,1),(9,0)] (by kernel_rfl) (by kernel_rfl) ?_
   intro z9 b5
   repeat
    refine qA0 _ rfl (fun K Z=>?_)
    first
     | (refine qqP (by rfl) ?_;apply Exists.intro;refine⟨fun w' G=>?_,Z _ ?_⟩;(have c:=G.blk (l3.kept b5) (by rw[List.mem_singleton];omega);have n0:=c.cell 0;have n1:=c.cell 1;have n2:=c.cell 2;clear c;have d:=G.blk (l2.kept b5) (by rw[List.mem_singleton];omega);have d1:=d.cell 1;have d2:=d.cell 2;clear d;go_simp;first|done|rfl))
     | refine qqN (by rfl) (Z _ ?_)
    clear Z K;simp only[Act.put,qqB]
   refine qqH _ rfl (by rfl) (fun K Z=>?_)
   have F:=d4.kept b5
   have g0:=F.free 0
   have x0:=F.cell 0
   have g1:=F.free 1
   have x1:=F.cell 1
   have g2:=F.free 2
   have x2:=F.cell 2
   have g3:=F.free 3
   have x3:=F.cell 3
   have g4:=F.free 4
   have x4:=F.cell 4
   have g5:=F.free 5
   have x5:=F.cell 5
   have g6:=F.free 6
   have x6:=F.cell 6
   have g7:=F.free 7
   have x7:=F.cell 7
   go_wp2
   refine Z _ _ ((((((((((Chg.refl _ _).set qsm 0 _).set qsm 1 _).set qsm 2 _).set qsm 3 _).set qsm 4 _).set qsm 5 _).set qsm 6 _).set qsm 7 _:Chg [w.heap.size] z9 ((((((((z9.setCell ⟨w.heap.size,0,none⟩ (.int .i64 1)).setCell ⟨w.heap.size,1,none⟩ (.bool dirty)).setCell ⟨w.heap.size,2,none⟩ (.int .i64 lba)).setCell ⟨w.heap.size,3,none⟩ (W n.epoch)).setCell ⟨w.heap.size,4,none⟩ (W n.slot)).setCell ⟨w.heap.size,5,none⟩ (U n.version)).setCell ⟨w.heap.size,6,none⟩ (U T1)).setCell ⟨w.heap.size,7,none⟩ (U T2)))) ?_
   clear Z K
   try simp only[Act.put,qqB]
   repeat
    refine qA0 _ rfl (fun K Z=>?_)
    first
     | (refine qqP (by rfl) ?_;apply Exists.intro;refine⟨fun w' G=>?_,Z _ ?_⟩;go_simp;first|done|rfl)
     | refine qqN (by rfl) (Z _ ?_)
    clear Z K;simp only[Act.put,qqB]
   refine qA6 ?_
   have F:=d4.kept b5
   have bE:=((((((((F).set 0 (.int .i64 1)).set 1 (.bool dirty)).set 2 (.int .i64 lba)).set 3 (W n.epoch)).set 4 (W n.slot)).set 5 (U n.version)).set 6 (U T1)).set 7 (U T2)
   have c8:Chg [w.heap.size] z9 ((((((((z9.setCell ⟨w.heap.size,0,none⟩ (.int .i64 1)).setCell ⟨w.heap.size,1,none⟩ (.bool dirty)).setCell ⟨w.heap.size,2,none⟩ (.int .i64 lba)).setCell ⟨w.heap.size,3,none⟩ (W n.epoch)).setCell ⟨w.heap.size,4,none⟩ (W n.slot)).setCell ⟨w.heap.size,5,none⟩ (U n.version)).setCell ⟨w.heap.size,6,none⟩ (U T1)).setCell ⟨w.heap.size,7,none⟩ (U T2)):=((((((((Chg.refl _ _).set qsm 0 _).set qsm 1 _).set qsm 2 _).set qsm 3 _).set qsm 4 _).set qsm 5 _).set qsm 6 _).set qsm 7 _
   have r0:=bE.cell 0
   have r1:=bE.cell 1
   have r2:=bE.cell 2
   have r3:=bE.cell 3
   have r4:=bE.cell 4
   have r5:=bE.cell 5
   have r6:=bE.cell 6
   have r7:=bE.cell 7
   clear g0 x0 g1 x1 g2 x2 g3 x3 g4 x4 g5 x5 g6 x6 g7 x7
   generalize ((((((((z9.setCell ⟨w.heap.size,0,none⟩ (.int .i64 1)).setCell ⟨w.heap.size,1,none⟩ (.bool dirty)).setCell ⟨w.heap.size,2,none⟩ (.int .i64 lba)).setCell ⟨w.heap.size,3,none⟩ (W n.epoch)).setCell ⟨w.heap.size,4,none⟩ (W n.slot)).setCell ⟨w.heap.size,5,none⟩ (U n.version)).setCell ⟨w.heap.size,6,none⟩ (U T1)).setCell ⟨w.heap.size,7,none⟩ (U T2))=zE at *
   go_wp2_with fail
   have f6:=(e1.kept b5).chg0 c8 g9
   refine bodyPost_ret (v:=.tuple #[.int .i64 (s:Int),.agg #[.int .i64 1,.bool dirty,.int .i64 lba,W n.epoch,W n.slot,U n.version,U T1,U T2],.int .i64 0]) (by simp[results,results122,go_sem,r0,r1,r2,r3,r4,r5,r6,r7];done) rfl ⟨?_,b4,f6,((EZ.trans (Ext.kept (m:=8) e1.top b5)).newset c8 qle).mono (by decide)⟩
   unfold Bx.layT Bx.layF
   rw[←HB.out,←f4.out,←e5.out]
   rfl
structure Bx.good (b:Bx)(m:Nat):Prop where
 f:b.fine m
 nd:b.c.age.q.Nodup
 mem:∀s,s∈b.c.age.q↔(b.leaf s).kind≠0
 tk:b.c.age.ticks≤m
 ep:0#32<qAl b.x.eps
theorem qDf {b:Bx}{s:Nat}(h:(b.leaf s).kind≠0):s<b.c.now.length:=by
 unfold Bx.leaf at h
 cases hs:b.c.now[s]? with
 | none=>rw[hs]at h;exact absurd rfl h
 | some y=>exact(List.getElem?_eq_some_iff.1 hs).1
theorem qFX:∀(n:Nat) (l:List Nat),l.Nodup→(∀x∈l,x<n)→l.length≤n
 | 0,l,_,hx=>by
  cases l with
  | nil=>exact Nat.le_refl _
  | cons a l=>exact absurd (hx a List.mem_cons_self) (by omega)
 | n+1,l,hl,hx=>by
  by_cases h:n∈l
  · have F:=qFX n (l.erase n) (hl.erase n) (fun x c=>by
     have f:=(hl.mem_erase_iff).1 c
     have j:=hx x f.2
     have q:=f.1
     omega)
    have f:=List.length_erase_of_mem h
    have j:=List.length_pos_of_mem h
    omega
  · have:=qFX n l hl (fun x c=>by
     have j:=hx x c
     have q:x≠n:=fun e=>h (e ▸ c)
     omega)
    omega
section
variable {b:Bx} {m:Nat}
theorem Bx.good.up {k:Nat}(g:b.good m)(h:m≤k):b.good k:=⟨g.f.up h,g.nd,g.mem,Nat.le_trans g.tk h,g.ep⟩
theorem Bx.good.n16 (g:b.good m):b.c.now.length≤16∧4≤b.c.now.length:=by
 have h:=g.f.nl
 have j:=qAo g.f.x.ok.sl
 omega
theorem Bx.good.qlen (g:b.good m):b.c.age.q.length≤16:=
 Nat.le_trans (qFX _ _ g.nd (fun x f=>qDf ((g.mem x).1 f))) g.n16.1
theorem Bx.good.old (g:b.good m)(h:0<b.c.age.q.length):b.oldest<b.c.now.length∧(b.leaf b.oldest).kind≠0:=by
 have j:b.oldest∈b.c.age.q:=by
  unfold Bx.oldest
  rw[List.getElem?_eq_getElem h]
  exact List.getElem_mem h
 have f:=(g.mem _).1 j
 exact⟨qDf f,f⟩
theorem Bx.good.full (g:b.good m)(hf:b.c.free=none)(hw:b.c.was=b.c.now):0<b.c.age.q.length:=by
 have f:=List.find?_range_eq_none.1 hf 0 (by have:=g.n16.2;omega)
 unfold Ca.isFree at f
 rw[hw]at f
 have h:(b.leaf 0).kind≠0:=by
  intro e
  unfold Bx.leaf at e
  rw[e]at f
  exact absurd f (by decide)
 have:=(g.mem 0).2 h
 exact List.length_pos_of_mem this
theorem qBn (b:Bx):b.commit.2.c.now=b.c.now∧b.commit.2.c.age=b.c.age∧b.commit.2.c.bad=b.c.bad∧b.commit.2.boot=b.boot:=by
 unfold Bx.commit
 split<;>exact⟨rfl,rfl,rfl,rfl⟩
theorem qBJ {b:Bx}(h:b.commit.1=0):b.commit.2.c.was=b.c.now:=by
 have f:(b.x.commit b.boot b.k b.c.now).1=0:=h
 unfold Bx.commit
 rw[if_pos f]
theorem qDg {b c:Bx}(h:c.c.now=b.c.now)(s:Nat):c.leaf s=b.leaf s:=by unfold Bx.leaf;rw[h]
theorem Bx.good.as {c:Bx}{k:Nat}(g:b.good m)(f:c.fine k)(h:m≤k)(hn:c.c.now=b.c.now)(ha:c.c.age=b.c.age)(he:qAl c.x.eps=qAl b.x.eps):c.good k:=
 ⟨f,by rw[ha];exact g.nd,fun s=>by rw[ha,qDg hn];exact g.mem s,by rw[ha];exact Nat.le_trans g.tk h,by rw[he];exact g.ep⟩
theorem qKG {x:Wd}{boot:BitVec 64}{k:Nat}{ls:List Lf}:(x.commit boot k ls).2.1.eps=x.eps:=by
 unfold Wd.commit
 split
 · exact qCE.2.1
 split
 · exact qAG.2.1
 split
 · exact qAY.2.1
 split
 · exact qAY.2.1
 split
 · exact qAY.2.1
 · exact qAY.2.1
theorem qMt (b:Bx):b.commit.2.x.eps=b.x.eps:=qKG
theorem qO3 (b:Bx)(s:Nat):(b.spillX s).x.eps=b.x.eps:=by
 unfold Bx.spillX
 cases b.valD s with
 | none=>rfl
 | some d =>
  show(b.x.dPut _ d).eps=_
  unfold Wd.dPut;split<;>rfl
theorem Bx.good.commit (g:b.good m):b.commit.2.good (m+39):=g.as g.f.commit (by omega) (qBn b).1 (qBn b).2.1 (by rw[qMt])
theorem qO4 {x:Wd}{boot:BitVec 64}{k:Nat}{ls:List Lf}(h:(x.commit boot k ls).1=0):(x.commit boot k ls).2.1.p.gone=false:=by
 unfold Wd.commit at h ⊢
 split at h
 · cases h
 split at h
 · cases h
 split at h
 · rename_i c;exact absurd h c
 split at h
 · cases h
 split at h
 · cases h
 rename_i c F q j f
 rw[if_neg c,if_neg F,if_neg q,if_neg j,if_neg f]
 have l:(x.commit4 boot k ls).p.spend.1=true:=by simpa using f
 have e:(x.commit5 boot k ls).p=(x.commit4 boot k ls).p.spend.2:=by
  unfold Wd.commit5 Wd.bump
  rfl
 rw[e]
 exact(qCh l).2
theorem qCa {b:Bx}(h:b.commit.1=0):b.commit.2.x.p.gone=false:=qO4 h
theorem Bx.good.spill (g:b.good m){s:Nat}(hk:(b.leaf s).kind≠0):(b.spillX s).good (m+1):=g.as (g.f.spill (qDf hk) hk) (by omega) (qBv b s).1 (qBv b s).2.2.1 (by rw[qO3])
theorem Bx.good.dBarrier (g:b.good m):(b.setX b.x.dBarrier).good (m+1):=g.as g.f.dBarrier (by omega) rfl rfl rfl
theorem qEW (b:Bx)(s i:Nat)(l:Lf):((b.c.now.set s l)[i]?.getD Lf.zero)=if i=s∧s<b.c.now.length then l else b.leaf i:=by
 unfold Bx.leaf
 rw[List.getElem?_set]
 by_cases h:s=i
 · subst h
   by_cases f:s<b.c.now.length
   · simp[f]
   · simp[f]
 · rw[if_neg h,if_neg (fun e=>h e.1.symm)]
theorem Bx.good.drops (g:b.good m)(s:Nat)(hs:s<b.c.now.length):(b.drops s).good m:=by
 refine⟨g.f.drops s (Nat.lt_of_lt_of_le hs g.n16.1),qHq g.nd s,fun i=>?_,by show(b.c.age.drop s).ticks≤m;rw[qHp];exact g.tk,g.ep⟩
 show i∈(b.c.age.drop s).q↔((b.c.now.set s Lf.zero)[i]?.getD Lf.zero).kind≠0
 rw[qIh g.nd,qEW]
 by_cases h:i=s
 · subst h
   rw[if_pos ⟨rfl,hs⟩]
   constructor
   · intro e;exact absurd rfl e.2
   · intro e;exact absurd rfl e
 · rw[if_neg (fun e=>h e.1),g.mem i]
   exact⟨fun e=>e.1,fun e=>⟨e,h⟩⟩
theorem Bx.fine.put1 (f:b.fine m){s:Nat}{l:Lf}(hl:qAM l (s:Int)=true):(b.put1 s l).fine m:=
 ⟨f.x,f.k,by show(b.c.now.set s l).length=_;rw[List.length_set];exact f.nl,f.wl,f.nok.set hl,f.wok⟩
theorem Bx.good.put1 (g:b.good m)(s:Nat)(hs:s<b.c.now.length){l:Lf}(hl:qAM l (s:Int)=true)(hk:l.kind≠0):(b.put1 s l).good (m+1):=by
 refine⟨(g.f.put1 hl).up (by omega),qEn g.nd s,fun i=>?_,by show(b.c.age.touch s).ticks≤m+1;rw[qEm];have:=g.tk;omega,g.ep⟩
 show i∈(b.c.age.touch s).q↔((b.c.now.set s l)[i]?.getD Lf.zero).kind≠0
 rw[qGr g.nd,qEW]
 by_cases h:i=s
 · subst h
   rw[if_pos ⟨rfl,hs⟩]
   exact⟨fun _=>hk,fun _=>.inl rfl⟩
 · rw[if_neg (fun e=>h e.1),g.mem i]
   exact⟨fun e=>e.resolve_left h,.inr⟩
theorem qGs (b:Bx)(s:Nat)(l:Lf):(b.put1 s l).c.now.length=b.c.now.length:=List.length_set
theorem Bx.good.puts (g:b.good m)(s:Nat)(hs:s<b.c.now.length){l:Lf}(hl:qAM l (s:Int)=true)(hk:l.kind≠0):(b.puts s l).good (m+1):=by
 unfold Bx.puts
 split
 · exact g.put1 s hs hl hk
 · rename_i o f
   exact(g.put1 s hs hl hk).drops o (by rw[qGs];exact qIi f)
theorem Bx.good.touch (g:b.good m)(s:Nat)(hk:(b.leaf s).kind≠0):(⟨b.x,b.boot,b.k,{ b.c with age:=b.c.age.touch s }⟩:Bx).good (m+1):=by
 refine⟨⟨g.f.x.up (by omega),g.f.k,g.f.nl,g.f.wl,g.f.nok,g.f.wok⟩,qEn g.nd s,fun i=>?_,by show(b.c.age.touch s).ticks≤m+1;rw[qEm];have:=g.tk;omega,g.ep⟩
 show i∈(b.c.age.touch s).q↔(b.leaf i).kind≠0
 rw[qGr g.nd,g.mem i]
 constructor
 · rintro(e|e)
   · rw[e];exact hk
   · exact e
 · exact .inr
theorem Bx.good.clear (g:b.good m):b.clear.good m:=by
 refine⟨g.f.clear,List.nodup_nil,fun i=>?_,Nat.zero_le _,g.ep⟩
 show i∈([]:List Nat)↔((List.replicate b.c.now.length Lf.zero)[i]?.getD Lf.zero).kind≠0
 constructor
 · intro e;cases e
 · intro e
   exfalso
   apply e
   rw[List.getElem?_replicate]
   split<;>rfl
theorem Bx.good.empF:∀(k s:Nat) (b:Bx) (d:Bool) (m:Nat),b.good m→k+s≤b.c.now.length→(Bx.empF k s b d).2.1.good (m+k)
 | 0,_,_,_,_,g,_=>g
 | k+1,s,b,d,m,g,h=>by
  unfold Bx.empF
  split
  · rename_i l
    have j:=g.spill (qDS g.f l)
    split
    · exact j.up (by omega)
    · have:=Bx.good.empF k (s+1) (b.spillX s) true _ j (by rw[(qBv b s).1];omega)
      exact this.up (by omega)
  · exact(Bx.good.empF k (s+1) b d m g (by omega)).up (by omega)
theorem Bx.good.empty (g:b.good m):b.empty.2.good (m+17):=by
 have f:=Bx.good.empF b.c.now.length 0 b false m g qle
 have h:=g.n16.1
 unfold Bx.empty Bx.empR
 split
 · exact f.up (by omega)
 · unfold Bx.empD
   split
   · exact f.dBarrier.up (by omega)
   · split
     · exact f.dBarrier.clear.up (by omega)
     · exact f.clear.up (by omega)
theorem Bx.good.evict (g:b.good m)(hq:0<b.c.age.q.length):b.evict.2.good (m+41):=by
 obtain⟨h,f⟩:=g.old hq
 unfold Bx.evict
 split
 · split
   · exact(g.spill f).up (by omega)
   · split
     · exact((g.spill f).dBarrier).up (by omega)
     · exact((((g.spill f).dBarrier).drops _ (by show _<(b.spillX b.oldest).c.now.length;rw[(qBv b _).1];exact h)).commit).up (by omega)
 · exact((g.drops _ h).commit).up (by omega)
theorem Bx.good.room (g:b.good m):b.room.2.good (m+80):=by
 unfold Bx.room
 split
 · exact g.up (by omega)
 split
 · exact g.commit.up (by omega)
 split
 · exact g.commit.up (by omega)
 · rename_i h j c
   have f:b.commit.1=0:=by omega
   exact(g.commit.evict (g.commit.full (by simpa using c) (by rw[qBJ f,(qBn b).1]))).up (by omega)
theorem Bx.good.hev (g:b.good m):∀c,c=b.commit.2→b.c.free=none→b.commit.1=0→c.c.free=none→c.x.p.gone=false∧0<c.c.age.q.length∧c.c.age.q.length≤900∧c.oldest<c.c.now.length∧((c.leaf c.oldest).dirty=true→(c.leaf c.oldest).kind≠0):=by
 rintro c rfl _ j l
 have f:=g.commit
 have h:=f.full l (by rw[qBJ j,(qBn b).1])
 exact⟨qCa j,h,Nat.le_trans f.qlen (by omega),(f.old h).1,fun _=>(f.old h).2⟩
theorem qMu {x:Wd}(h:0<x.eps.length)(e:BitVec 32):qAl (x.kErase e).eps=qAl x.eps:=by
 show qAl (qQi x.p.spend.1 x.eps e)=_
 unfold qQi
 split
 · exact(qF8 _ _ h).2
 · rfl
theorem Bx.good.forget (g:b.good m):b.forget.2.good (m+40):=by
 unfold Bx.forget
 split
 · exact g.commit.up (by omega)
 · exact g.commit.as ⟨g.commit.f.x.kErase _,g.commit.f.k,g.commit.f.nl,g.commit.f.wl,g.commit.f.nok,g.commit.f.wok⟩ (by omega) rfl rfl (qMu g.commit.f.x.ok.ep _)
theorem qPL {x:Wd}{m:Nat}(ok:x.ok m)(hm:m≤1000000)(h:0#32<qAl x.eps):0#32<qAl x.kAdd.eps:=by
 show 0#32<qAl (qPc x.p.spend.1 x.eps)
 unfold qPc
 split
 · have c:=ok.en
   unfold qAl at *
   rw[List.length_append]
   simp only[List.length_singleton,Nat.add_sub_cancel,List.getElem?_append_right qle,Nat.sub_self,List.getElem?_singleton,if_true,Option.getD_some]
   rw[BitVec.lt_def,BitVec.toNat_add]
   simp
   omega
 · exact h
theorem Bx.good.kAdd (g:b.good m)(hm:m≤1000000):(b.setX b.x.kAdd).good (m+1):=
 ⟨⟨g.f.x.kAdd hm,g.f.k,g.f.nl,g.f.wl,g.f.nok,g.f.wok⟩,g.nd,g.mem,Nat.le_trans g.tk (by omega),qPL g.f.x.ok hm g.ep⟩
def Bx.lays (b:Bx)(lba:Int)(data:List UInt8)(dirty:Bool):Int×Bx:=
 if b.k=100 then(6,b)
 else if b.x.p.spend.1 then(0,(b.lay (b.c.free.getD 0) lba data).puts (b.c.free.getD 0) (b.layF (b.c.free.getD 0) lba data dirty))
 else(7,b.lay (b.c.free.getD 0) lba data)
def Bx.write (b:Bx)(lba:Int)(data:List UInt8):Int×Bx:=if b.room.1≠0 then b.room else b.room.2.lays lba data true
def Lf.nought (lba:Int):Lf:=⟨2,true,lba,0#32,0#32,0#64,(0#64,0#64)⟩
def Bx.discard (b:Bx)(lba:Int):Int×Bx:=if b.room.1≠0 then b.room else(0,b.room.2.puts (b.room.2.c.free.getD 0) (Lf.nought lba))
def Bx.touch (b:Bx)(s:Nat):Bx:=⟨b.x,b.boot,b.k,{ b.c with age:=b.c.age.touch s }⟩
def Bx.readV (b:Bx)(s:Nat):Option (List UInt8)→(Int×List UInt8)×Bx
 | none=>((3,[]),b.setBad)
 | some d=>((0,d),b.touch s)
def Bx.readN (_:Bx)(d:List UInt8)(r:Int×Bx):(Int×List UInt8)×Bx:=if r.1≠0 then((r.1,[]),r.2) else((0,d),r.2)
def Bx.readD (b:Bx)(lba:Int)(d:List UInt8):(Int×List UInt8)×Bx:=
 if b.c.free.isNone||b.k==100 then((0,d),b) else b.readN d (b.lays lba d false)
def Bx.readS (b:Bx)(lba:Int):Option Nat→(Int×List UInt8)×Bx
 | some s=>b.readV s (b.valD s)
 | none=>b.readD lba (b.x.dk.read lba.toNat)
def Bx.read (b:Bx)(lba:Int):(Int×List UInt8)×Bx:=b.readS lba (b.c.slot lba)
def Bx.rotE (r:Int×Bx):Int×Bx:=if r.1≠0 then r else if r.2.x.p.spend.1=false then(7,r.2.setX r.2.x.kAdd) else(r.2.setX r.2.x.kAdd).forget
def Bx.rotate (b:Bx):Int×Bx:=if b.commit.1≠0 then b.commit else Bx.rotE b.commit.2.empty
def Bx.finish (b:Bx):Int×Bx:=if b.x.eps.length<2 then(0,b) else if b.empty.1≠0 then b.empty else b.empty.2.forget
theorem qDH {c:Ca}{s:Nat}(h:c.free=some s):s<c.now.length:=by
 unfold Ca.free at h
 exact List.mem_range.1 (List.find?_range_eq_some.1 h).2.1
theorem Bx.fine.lay {s:Nat}{lba:Int}{data:List UInt8}(f:b.fine m)(hs:s<b.c.now.length)(hd:data.length=32)(hk:b.k<100):(b.lay s lba data).fine (m+2):=by
 refine⟨?_,by show b.k+1≤100;omega,f.nl,f.wl,f.nok,f.wok⟩
 show(b.layX s lba data).fine _
 have h:=f.nl
 exact(f.x.seal _ _ _ _ (by omega)).sWrite (qIk b s lba data (by omega) hd)
theorem Bx.good.lay {s:Nat}{lba:Int}{data:List UInt8}(g:b.good m)(hs:s<b.c.now.length)(hd:data.length=32)(hk:b.k<100):(b.lay s lba data).good (m+2):=
 g.as (g.f.lay hs hd hk) (by omega) rfl rfl rfl
theorem qR7 {s:Nat}{lba:Int}{data:List UInt8}{dirty:Bool}(g:b.good m)(hs:s<b.c.now.length)(hl:isD lba=true):qAM (b.layF s lba data dirty) (s:Int)=true:=by
 have h:=g.n16.1
 have f:=g.ep
 unfold isD at hl
 unfold qAM Bx.layF Bx.layN qOG qBR
 simp at hl ⊢
 exact⟨by omega,hl,f⟩
theorem qO5 {s:Nat}{lba:Int}(hs:s<16)(hl:isD lba=true):qAM (Lf.nought lba) (s:Int)=true:=by
 unfold isD at hl
 unfold qAM Lf.nought qBR
 simp at hl ⊢
 exact⟨by omega,hl⟩
theorem Bx.good.lays {lba:Int}{data:List UInt8}{dirty:Bool}(g:b.good m)(hf:b.c.free.isSome=true)(hd:data.length=32)(hl:isD lba=true):(b.lays lba data dirty).2.good (m+3):=by
 obtain⟨s,j⟩:=Option.isSome_iff_exists.1 hf
 have h:=qDH j
 unfold Bx.lays
 rw[j]
 split
 · exact g.up (by omega)
 · rename_i F
   have q:=g.f.k
   have l:=g.lay (lba:=lba) h hd (by omega)
   split
   · exact l.puts s h (qR7 g h hl) (by show(1:Int)≠0;decide)
   · exact l.up (by omega)
theorem qO6 {c:Ca}{s:Nat}(hs:s<c.now.length)(h:c.isFree s=true):c.free.isSome=true:=by
 unfold Ca.free
 rw[List.find?_isSome]
 exact⟨s,List.mem_range.2 hs,h⟩
theorem qHr {b:Bx}{s:Nat}(hs:s<b.c.now.length)(hE:(b.drops s).commit.1=0):(b.drops s).commit.2.c.free.isSome=true:=by
 have hn:(b.drops s).commit.2.c.now=b.c.now.set s Lf.zero:=(qBn (b.drops s)).1
 have f:(b.drops s).commit.2.c.was=b.c.now.set s Lf.zero:=qBJ hE
 refine qO6 (s:=s) (by rw[hn,List.length_set];exact hs) ?_
 unfold Ca.isFree
 rw[hn,f]
 have:((b.c.now.set s Lf.zero)[s]?.getD Lf.zero)=Lf.zero:=by rw[qEW,if_pos ⟨rfl,hs⟩]
 rw[this]
 rfl
theorem qMv (g:b.good m)(hq:0<b.c.age.q.length)(hE:b.evict.1=0):b.evict.2.c.free.isSome=true:=by
 obtain⟨l,F⟩:=g.old hq
 unfold Bx.evict at hE ⊢
 split
 · rename_i j
   rw[if_pos j]at hE
   split
   · rename_i f
     rw[if_pos f]at hE
     exact absurd hE f
   · rename_i f
     rw[if_neg f]at hE
     split
     · rename_i h
       rw[if_pos h]at hE
       cases hE
     · rename_i h
       rw[if_neg h]at hE
       exact qHr (by show _<(b.spillX b.oldest).c.now.length;rw[(qBv b _).1];exact l) hE
 · rename_i j
   rw[if_neg j]at hE
   exact qHr l hE
theorem qCW (g:b.good m)(hE:b.room.1=0):b.room.2.c.free.isSome=true:=by
 unfold Bx.room at hE ⊢
 split
 · rename_i h;exact h
 · rename_i h
   rw[if_neg h]at hE
   split
   · rename_i j
     rw[if_pos j]at hE
     exact absurd hE j
   · rename_i j
     rw[if_neg j]at hE
     split
     · rename_i f;exact f
     · rename_i f
       rw[if_neg f]at hE
       have l:b.commit.1=0:=by omega
       exact qMv g.commit (g.commit.full (by simpa using f) (by rw[qBJ l,(qBn b).1])) hE
theorem Bx.good.write {lba:Int}{data:List UInt8}(g:b.good m)(hd:data.length=32)(hl:isD lba=true):(b.write lba data).2.good (m+83):=by
 unfold Bx.write
 split
 · exact g.room.up (by omega)
 · rename_i h
   exact(g.room.lays (qCW g (by omega)) hd hl).up (by omega)
theorem Bx.good.discard {lba:Int}(g:b.good m)(hl:isD lba=true):(b.discard lba).2.good (m+81):=by
 unfold Bx.discard
 split
 · exact g.room.up (by omega)
 · rename_i h
   obtain⟨s,f⟩:=Option.isSome_iff_exists.1 (qCW g (by omega))
   have c:=qDH f
   rw[f]
   exact g.room.puts s c (qO5 (Nat.lt_of_lt_of_le c g.room.n16.1) hl) (by show(2:Int)≠0;decide)
theorem qEX {lba:Int}{s:Nat}(h:b.c.slot lba=some s):(b.leaf s).kind≠0∧(b.leaf s).lba=lba:=by
 unfold Ca.slot at h
 have f:=(List.find?_range_eq_some.1 h).1
 simp only[Bool.and_eq_true,bne_iff_ne,ne_eq,beq_iff_eq]at f
 exact f
theorem Bx.good.bad (g:b.good m):b.setBad.good m:=g.as g.f.setBad qle rfl rfl rfl
theorem Bx.good.read {lba:Int}(g:b.good m)(hl:isD lba=true)(hd:(b.x.dk.read lba.toNat).length=32):(b.read lba).2.good (m+3):=by
 unfold Bx.read
 cases hs:b.c.slot lba with
 | some s =>
  show(b.readV s (b.valD s)).2.good _
  cases hv:b.valD s with
  | none=>exact g.bad.up (by omega)
  | some d=>exact(g.touch s (qEX hs).1).up (by omega)
 | none =>
  show(b.readD lba (b.x.dk.read lba.toNat)).2.good _
  unfold Bx.readD
  split
  · exact g.up (by omega)
  · rename_i h
    have f:b.c.free.isSome=true:=by
     cases hh:b.c.free with
     | none=>rw[hh]at h;exact absurd rfl h
     | some s=>rfl
    unfold Bx.readN
    split
    · exact g.lays f hd hl
    · exact g.lays f hd hl
theorem Bx.good.rotE {r:Int×Bx}(g:r.2.good m)(hm:m≤1000000):(Bx.rotE r).2.good (m+41):=by
 unfold Bx.rotE
 split
 · exact g.up (by omega)
 split
 · exact(g.kAdd hm).up (by omega)
 · exact(g.kAdd hm).forget.up (by omega)
theorem Bx.good.rotate (g:b.good m)(hm:m≤900000):b.rotate.2.good (m+97):=by
 unfold Bx.rotate
 split
 · exact g.commit.up (by omega)
 · exact(g.commit.empty.rotE (by omega)).up (by omega)
theorem Bx.good.finish (g:b.good m):b.finish.2.good (m+57):=by
 unfold Bx.finish
 split
 · exact g.up (by omega)
 split
 · exact g.empty.up (by omega)
 · exact g.empty.forget.up (by omega)
end
theorem qO7 {col:Nat→Nat}{w:World}{P:qAU}{M C:Nat}{b:Bx}(h:qCM col w P M C b){m:Nat}(g:b.good m)(hm:m≤39000)(hg:b.x.p.gone=false):Calls prog 50 #[.pointer (some ⟨C,0,none⟩)] w fun e w'=>e= .returned (.int .i64 b.finish.1)∧qGo col w P M C b.finish.2 w':=by
 obtain⟨A,vn,vw,G⟩:=h
 have bC:=G.blk
 have q0:=bC.cell 0
 have bW:=G.wm.wd.blk
 have q5:=bW.cell 5
 have CE:=qNw G.wm.wd g.f.x.ok (by omega)
 obtain⟨R,hR⟩:∃R,R=b.finish:=⟨_,rfl⟩
 rw[←hR]
 obtain⟨L,O⟩:∃L,L=b.x.eps.length:=⟨_,rfl⟩
 rw[←O]at CE
 have Z:=g.f.x.ok.el
 rw[←O]at Z
 obtain⟨E,Y⟩:∃E,E=b.empty.1:=⟨_,rfl⟩
 have l:R=if L<2 then(0,b) else if E≠0 then b.empty else b.empty.2.forget:=by rw[hR,O,Y];rfl
 have N:=fun (c:Nat→Nat) (z:World) (hz:qCM c z P M C b)=>qLp hz g.f (by omega) hg
 rw[←Y]at N
 replace l:=qh l
 have HE:=qh Y
 clear hR O Y bC bW
 go_enter func50,ntmps50
 go_wp2_with fail
 refine CE.mono ?_
 rintro e w1 ⟨v,rfl,hv,J⟩
 obtain⟨va,vc,rfl⟩:=(Sl.of_own hv).len
 have h1:=G.kept J
 have F:Ext 11 col col w w1:=Ext.kept G.top J
 clear q0 q5
 by_cases hl:L<2
 · have i1:(L:Int)<2:=by omega
   have j:R=(0,b):=by rw[l.out,if_pos hl]
   subst j
   clear N
   go_wp2_with fail
   refine bodyPost_ret (v:=.int .i64 0) (by simp[results,results50,go_sem];done) rfl ⟨rfl,col,⟨A,vn,vw,h1⟩,F⟩
 · have i1:¬(L:Int)<2:=by omega
   have q:R=if E≠0 then b.empty else b.empty.2.forget:=by rw[l.out,if_neg hl]
   replace q:=qh q
   have CZ:=N _ _ ⟨A,vn,vw,h1⟩
   clear N
   go_wp2_with fail
   refine CZ.mono ?_
   rintro e w2 ⟨rfl,c2,h2,e2⟩
   by_cases I:E=0
   · have j:R=b.empty.2.forget:=by rw[q.out,if_neg (by rw[I];decide)]
     have CF:=qJf h2 g.f.empty (by omega)
     obtain⟨V,hV⟩:∃V,V=b.empty.2.forget.1:=⟨_,rfl⟩
     rw[←hV]at CF
     have HV:=qh hV
     replace j:=qh j
     clear hV
     go_wp2_with fail
     refine CF.mono ?_
     rintro e w3 ⟨rfl,c3,h3,e3⟩
     go_wp2_with fail
     refine bodyPost_ret (v:=.int .i64 V) (by simp[results,results50,go_sem];done) rfl ⟨by rw[j.out,HV.out],c3,by rw[j.out];exact h3,(F.trans e2).trans e3⟩
   · have j:R=(E,b.empty.2):=by rw[q.out,if_pos I,HE.out]
     replace j:=qh j
     go_wp2_with fail
     refine bodyPost_ret (v:=.int .i64 E) (by simp[results,results50,go_sem];done) rfl ⟨by rw[j.out],c2,by rw[j.out];exact h2,F.trans e2⟩
theorem qR8 {col:Nat→Nat}{w:World}{P:qAU}{M C A:Nat}{vn vw:Value}{b:Bx}(h:qBm col w P M C A vn vw b){m:Nat}(f:b.fine m)(hm:m≤60000)(hk100:b.k=100)(s:Nat)(hfr:b.c.free=some s)(lba:Int)(vd:Value)(dirty:Bool) :
 Calls prog 122 #[.pointer (some ⟨C,0,none⟩),.int .i64 lba,vd,.bool dirty] w fun e w'=>e= .returned (.tuple #[.int .i64 (-1),.agg #[.int .i64 0,.bool false,.int .i64 0,W 0#32,W 0#32,U 0#64,U 0#64,U 0#64],.int .i64 6])∧qBm col w' P M C A vn vw b∧Ext 11 col col w w':=by
 have Z:=qAo f.x.ok.sl
 have a9:=f.nl
 have a8:=f.wl
 have l:qA4 w (w.alloc (.cells #[.int .i64 0,.bool false,.int .i64 0,W 0#32,W 0#32,U 0#64,U 0#64,U 0#64] 117)):=qal _
 have bZ:=Blk.new w #[.int .i64 0,.bool false,.int .i64 0,W 0#32,W 0#32,U 0#64,U 0#64,U 0#64] 117
 have CF:=qFn (h.kept l) (by omega) (by omega) (by omega)
 rw[hfr]at CF
 have b4:=qDH hfr
 have i3:(s:Int)≤65535:=by omega
 have a2:s≤65535:=by omega
 have q0:=(h.blk.kept l).cell 0
 clear a9 a8 hfr Z
 unfold qDG at CF
 simp only at CF
 go_enter func122,ntmps122
 go_wp2_with fail
 generalize (w.alloc (.cells #[.int .i64 0,.bool false,.int .i64 0,W 0#32,W 0#32,U 0#64,U 0#64,U 0#64] 117))=wA at *
 refine CF.mono ?_
 rintro e w1 ⟨rfl,rfl⟩
 have CK:=qLg (h.wm.kept l).wd f.x (by omega)
 obtain⟨ep,Y⟩:∃y,y=qAl b.x.eps:=⟨_,rfl⟩
 obtain⟨ky,a0⟩:∃y,y=b.x.logK:=⟨_,rfl⟩
 rw[show qFd b.x.seed b.x.eps (qAl b.x.eps)=ky from a0.symm,←Y]at CK
 obtain⟨a6,a3⟩:=ky
 clear Y a0
 go_wp2_with fail
 refine CK.mono ?_
 rintro e w2 ⟨rfl,I⟩
 have a5:=(h.blk.kept (l.of I))
 clear q0
 unfold Pr
 have J:qA4 w2 (w2.alloc (.cells #[U a6,U a3] 115)):=qal _
 have F:=(l.of I).of J
 have q1:=(a5.kept J).cell 1
 go_wp2_with fail
 have a4:=h.wm.kept F
 have CM:=qH3 M b.boot ep s a2 _ (by have:=a4.mkr;rw[hk100]at this;exact this)
 refine CM.mono ?_
 rintro e N ⟨rfl,a1⟩
 have V:qA4 N (N.alloc (.cells #[W 0#32,W 0#32,U 0#64] 113)):=qal _
 have G:=(F.of a1).of V
 have a7:=((I.of J).of a1).of V
 have j:=bZ.kept a7
 clear q1
 have b3:=h.kept G
 have e5:Ext 11 col col w (N.alloc (.cells #[W 0#32,W 0#32,U 0#64] 113)):=Ext.kept h.top G
 have g0:=j.free 0
 have x0:=j.cell 0
 have g1:=j.free 1
 have x1:=j.cell 1
 have g2:=j.free 2
 have x2:=j.cell 2
 have g3:=j.free 3
 have x3:=j.cell 3
 have g4:=j.free 4
 have x4:=j.cell 4
 have g5:=j.free 5
 have x5:=j.cell 5
 have g6:=j.free 6
 have x6:=j.cell 6
 have g7:=j.free 7
 have x7:=j.cell 7
 go_wp2_with fail
 have q:=((((((((j).set 0 (.int .i64 0)).set 1 (.bool false)).set 2 (.int .i64 0)).set 3 (W 0#32)).set 4 (W 0#32)).set 5 (U 0#64)).set 6 (U 0#64)).set 7 (U 0#64)
 have O:Chg [w.heap.size] (N.alloc (.cells #[W 0#32,W 0#32,U 0#64] 113)) (((((((((N.alloc (.cells #[W 0#32,W 0#32,U 0#64] 113)).setCell ⟨w.heap.size,0,none⟩ (.int .i64 0)).setCell ⟨w.heap.size,1,none⟩ (.bool false)).setCell ⟨w.heap.size,2,none⟩ (.int .i64 0)).setCell ⟨w.heap.size,3,none⟩ (W 0#32)).setCell ⟨w.heap.size,4,none⟩ (W 0#32)).setCell ⟨w.heap.size,5,none⟩ (U 0#64)).setCell ⟨w.heap.size,6,none⟩ (U 0#64)).setCell ⟨w.heap.size,7,none⟩ (U 0#64)):=((((((((Chg.refl _ _).set qsm 0 _).set qsm 1 _).set qsm 2 _).set qsm 3 _).set qsm 4 _).set qsm 5 _).set qsm 6 _).set qsm 7 _
 have r0:=q.cell 0
 have r1:=q.cell 1
 have r2:=q.cell 2
 have r3:=q.cell 3
 have r4:=q.cell 4
 have r5:=q.cell 5
 have r6:=q.cell 6
 have r7:=q.cell 7
 clear g0 x0 g1 x1 g2 x2 g3 x3 g4 x4 g5 x5 g6 x6 g7 x7
 generalize (((((((((N.alloc (.cells #[W 0#32,W 0#32,U 0#64] 113)).setCell ⟨w.heap.size,0,none⟩ (.int .i64 0)).setCell ⟨w.heap.size,1,none⟩ (.bool false)).setCell ⟨w.heap.size,2,none⟩ (.int .i64 0)).setCell ⟨w.heap.size,3,none⟩ (W 0#32)).setCell ⟨w.heap.size,4,none⟩ (W 0#32)).setCell ⟨w.heap.size,5,none⟩ (U 0#64)).setCell ⟨w.heap.size,6,none⟩ (U 0#64)).setCell ⟨w.heap.size,7,none⟩ (U 0#64))=wE at *
 refine bodyPost_ret (v:=.tuple #[.int .i64 (-1),.agg #[.int .i64 0,.bool false,.int .i64 0,W 0#32,W 0#32,U 0#64,U 0#64,U 0#64],.int .i64 6]) (by simp[results,results122,go_sem,r0,r1,r2,r3,r4,r5,r6,r7];done) rfl ⟨rfl,b3.chg0 O (h.top _ qle),e5.newset O qle⟩
def SlC (col:Nat→Nat)(w:World)(u:Value)(bs:List UInt8):Prop:=Sl w u bs.length (qA1 bs)∧∀a n c,u= .slice (some a) n c→0<bs.length→col a.block=0
theorem SlC.nil {col:Nat→Nat}{w:World}:SlC col w (.slice none 0 0) []:=⟨.inl ⟨rfl,rfl,rfl⟩,fun a n c e=>by cases e⟩
theorem SlC.ext {m:Nat}{col col':Nat→Nat}{w w':World}{u:Value}{bs:List UInt8}(h:SlC col w u bs)(e:Ext m col col' w w'):SlC col' w' u bs:=by
 obtain⟨f,G⟩:=h
 rcases f with f|⟨a,cap,rfl,k1,k2,k3⟩
 · refine⟨.inl f,fun a n c l=>?_⟩
   rw[f.1]at l;cases l
 · have I:∀j v,(qA1 bs)[j]? = some v→w'.cell? (a.add j)=some v:=fun j v q=>by
    have hl:0<bs.length:=by
     have:=(List.getElem?_eq_some_iff.1 q).1
     rw[qA7]at this
     omega
    have:=G a _ cap rfl hl
    refine e.cell0 (k3 j v q) ?_
    rw[show(a.add j).block=a.block by unfold Addr.add;split<;>rfl]
    exact this
   refine⟨.inr ⟨a,cap,rfl,k1,k2,I⟩,fun N V O l hl=>?_⟩
   cases l
   have J:=qBT bs 0 hl
   have F:=k3 0 _ J
   rw[Addr.add_zero']at F
   rw[e.old _ (World.block_lt_of_cell? w _ F)]
   exact G a _ cap rfl hl
theorem SlC.of_own {col:Nat→Nat}{w0 w:World}{B:Nat}{e:TypeId}{v:Value}{bs:List UInt8}(h:w.ownsRow B e 1 v bs.length (qA1 bs))(ht:Top col w0)(hB:w0.heap.size≤B):SlC col w v bs:=
 ⟨Sl.of_own h,fun a n c e hl=>qES h ht hB a.block (by rw[e];rfl)⟩
theorem Ext.row0 {m:Nat}{col col':Nat→Nat}{w w':World}{B n:Nat}{t:TypeId}{v:Value}{xs:List Value}(e:Ext m col col' w w')(h:w.ownsRow B t 1 v n xs∧∀g,v.ownBlock=some g→col g=0):w'.ownsRow B t 1 v n xs∧∀g,v.ownBlock=some g→col' g=0:=
 ⟨e.own0 h.1 h.2,fun g c=>(e.old g (qAp h.1 c)).trans (h.2 g c)⟩
theorem qGt {g:Nat}{w w':World}{B n:Nat}{t:TypeId}{v:Value}{xs:List Value}(h:w.ownsRow B t 1 v n xs)(hc:Chg [g] w w')(hg:g<B):w'.ownsRow B t 1 v n xs:=
 qAO h hc (fun k f c=>by rw[List.mem_singleton]at c;have:=qAN h f;omega)
def qC4 (col:Nat→Nat)(w:World)(B:Nat)(v:Value)(bs:List UInt8):Prop:=w.ownsRow B 5 1 v bs.length (qA1 bs)∧∀g,v.ownBlock=some g→col g=0
theorem qC4.nil {col:Nat→Nat}{w:World}{B:Nat}:qC4 col w B (.slice none 0 0) []:=⟨⟨rfl,.inl ⟨rfl,rfl⟩⟩,fun g e=>by cases e⟩
theorem qC4.chg {g B:Nat}{col:Nat→Nat}{w w':World}{v:Value}{bs:List UInt8}(h:qC4 col w B v bs)(hc:Chg [g] w w')(hg:g<B):qC4 col w' B v bs:=⟨qGt h.1 hc hg,h.2⟩
theorem qC4.base {B B':Nat}{col:Nat→Nat}{w:World}{v:Value}{bs:List UInt8}(h:qC4 col w B v bs)(hg:B'≤B):qC4 col w B' v bs:=⟨qAh h.1 hg,h.2⟩
theorem qLq {b:Bx}{s:Nat}{lba:Int}{data:List UInt8}{dirty:Bool}(h:b.x.p.spend.1=true){F:Lf}(hF:F=b.layF s lba data dirty):b.layT s lba data dirty= .tuple #[.int .i64 (s:Int),.agg #[.int .i64 F.kind,.bool F.dirty,.int .i64 F.lba,W F.ep,W F.sl,U F.ver,U F.tag.1,U F.tag.2],.int .i64 0]:=by
 unfold Bx.layT
 rw[h,hF]
 rfl
theorem qO8 {b:Bx}{s:Nat}{lba:Int}{data:List UInt8}{dirty:Bool}(h:b.x.p.spend.1=false):b.layT s lba data dirty= .tuple #[.int .i64 (-1),.agg #[.int .i64 0,.bool false,.int .i64 0,W 0#32,W 0#32,U 0#64,U 0#64,U 0#64],.int .i64 7]:=by
 unfold Bx.layT
 rw[h]
 rfl
theorem qPM {col:Nat→Nat}{w:World}{P:qAU}{M C:Nat}{b:Bx}(h:qCM col w P M C b){m:Nat}(g:b.good m)(hm:m≤39000)(kd lba:Int)(a:Option Addr)(n c:Nat)(data:List UInt8)(a3:data.length=32)(b8:isD lba=true)(sd:SlC col w (.slice a n c) data):Calls prog 78 #[.pointer (some ⟨C,0,none⟩),.agg #[.int .i64 kd,.int .i64 lba,.slice a n c]] w fun e w'=>e= .returned (.agg #[.int .i64 (b.write lba data).1,.slice none 0 0])∧qGo col w P M C (b.write lba data).2 w':=by
 obtain⟨A,vn,vw,h0⟩:=h
 obtain⟨wA,a2⟩:∃y,y=((w.alloc (.cells #[.int .i64 kd,.int .i64 lba,.slice a n c] 34)).alloc (.cells #[.int .i64 0,.slice none 0 0] 39)):=⟨_,rfl⟩
 have b6:qA4 w wA:=by rw[a2];exact(qal _).alloc (by simp) _
 have bX:Blk wA w.heap.size #[.int .i64 kd,.int .i64 lba,.slice a n c] 34:=by
  rw[a2]
  exact(Blk.new w _ _).kept ((Below.refl _ _).alloc (by simp) _)
 have bT:Blk wA (w.heap.size+1) #[.int .i64 0,.slice none 0 0] 39:=by
  rw[a2]
  have:=Blk.new (w.alloc (.cells #[.int .i64 kd,.int .i64 lba,.slice a n c] 34)) #[.int .i64 0,.slice none 0 0] 39
  rw[World.size_alloc]at this
  exact this
 have c3:Ext 11 col col w wA:=Ext.kept h0.top b6
 have cX:col w.heap.size=0:=h0.top _ qle
 have cT:col (w.heap.size+1)=0:=h0.top _ (by omega)
 have CR:=qO1 ⟨A,vn,vw,h0.kept b6⟩ g.f (by omega) g.hev
 obtain⟨R,hR⟩:∃R,R=b.write lba data:=⟨_,rfl⟩
 rw[←hR]
 have Z:R=if b.room.1≠0 then b.room else b.room.2.lays lba data true:=hR
 have gc:=g.room
 have a5:=qCW g
 obtain⟨E,hE⟩:∃E,E=b.room.1:=⟨_,rfl⟩
 obtain⟨B,hB⟩:∃B,B=b.room.2:=⟨_,rfl⟩
 rw[show b.room=(E,B) by rw[hE,hB]]at CR gc a5 Z
 replace Z:=qh Z
 replace a5:=qh a5
 replace a3:=qh a3
 replace b8:=qh b8
 clear hR hE hB
 go_enter func78,ntmps78
 go_wp2_with fail
 rw[←a2]
 clear a2
 refine CR.mono ?_
 rintro e w2 ⟨rfl,a9,⟨A2,d2,c8,h2⟩,e2⟩
 obtain⟨b5,d1⟩:=e2.blk0 bX cX
 obtain⟨I,a8⟩:=e2.blk0 bT cT
 have c7:=e2.size
 have c6:=bT.lt
 have a4:=c3.trans e2
 by_cases b4:E=0
 · obtain⟨s,hs⟩:=Option.isSome_iff_exists.1 (a5.out b4)
   have a6:R=B.lays lba data true:=by rw[Z.out,if_neg (by rw[b4];decide)]
   replace a6:=qh a6
   have l1:=b5.cell 1
   have l2:=b5.cell 2
   have c5:=sd.ext a4
   have b7:=qDH hs
   by_cases hk:B.k=100
   · have CL:=qR8 h2 gc.f (by omega) hk s hs lba (.slice a n c) true
     have G:R=(6,B):=by rw[a6.out];unfold Bx.lays;rw[if_pos hk]
     replace G:=qh G
     replace hs:=qh hs
     replace hk:=qh hk
     go_wp2_with fail
     refine CL.mono ?_
     rintro e J ⟨rfl,h3,e3⟩
     obtain⟨V,Y⟩:=e3.blk0 I a8
     have q:qA4 J (J.alloc (.cells #[.int .i64 0,.bool false,.int .i64 0,W 0#32,W 0#32,U 0#64,U 0#64,U 0#64] 117)):=qal _
     have j:=V.kept q
     have a0:=(a4.trans e3).trans (Ext.kept (m:=11) h3.top q)
     have hL:=h3.kept q
     clear l1 l2
     have f0:=(j).free 0
     have f1:=(j).free 1
     have x0:=(j).cell 0
     have x1:=(j).cell 1
     go_wp2_with fail
     have N:=((j).set 0 (.int .i64 (6))).set 1 (.slice none 0 0)
     have l:Chg [w.heap.size+1] (J.alloc (.cells #[.int .i64 0,.bool false,.int .i64 0,W 0#32,W 0#32,U 0#64,U 0#64,U 0#64] 117)) (((J.alloc (.cells #[.int .i64 0,.bool false,.int .i64 0,W 0#32,W 0#32,U 0#64,U 0#64,U 0#64] 117)).setCell ⟨w.heap.size+1,0,none⟩ (.int .i64 (6))).setCell ⟨w.heap.size+1,1,none⟩ (.slice none 0 0)):=((Chg.refl _ _).set qsm 0 _).set qsm 1 _
     have r0:=N.cell 0
     have r1:=N.cell 1
     clear f0 f1 x0 x1
     generalize (((J.alloc (.cells #[.int .i64 0,.bool false,.int .i64 0,W 0#32,W 0#32,U 0#64,U 0#64,U 0#64] 117)).setCell ⟨w.heap.size+1,0,none⟩ (.int .i64 (6))).setCell ⟨w.heap.size+1,1,none⟩ (.slice none 0 0))=wE at *
     refine bodyPost_ret (v:=.agg #[.int .i64 (6),.slice none 0 0]) (by simp[results,results78,go_sem,r0,r1];try exact⟨rfl,rfl⟩) rfl ⟨by rw[G.out],a9,by rw[G.out];exact⟨_,_,_,hL.chg0 l Y⟩,a0.newset l (by omega)⟩
   · have a1:B.k<100:=by have:=gc.f.k;omega
     have CL:=qQn h2 gc.f (by omega) a1 s hs lba (.slice a n c) data a3.out true (by have:=c5.1;rw[a3.out]at this;exact this)
     have g3:=gc.lay (s:=s) (lba:=lba) (data:=data) b7 a3.out a1
     have a7:R=if B.x.p.spend.1 then(0,(B.lay s lba data).puts s (B.layF s lba data true)) else(7,B.lay s lba data):=by
      rw[a6.out];unfold Bx.lays;rw[if_neg hk,hs];rfl
     replace a7:=qh a7
     have c9:=g3.qlen
     have c4:=g3.n16
     have d0:=g3.tk
     obtain⟨S,hS⟩:∃S,S=B.x.p.spend.1:=⟨_,rfl⟩
     have HS:=qh hS
     have c2:s<(B.lay s lba data).c.now.length:=b7
     replace hs:=qh hs
     cases S with
     | false =>
      rw[qO8 hS.symm]at CL
      have G:R=(7,B.lay s lba data):=by rw[a7.out,←HS.out];rfl
      replace G:=qh G
      clear hS
      go_wp2_with fail
      refine CL.mono ?_
      rintro e J ⟨rfl,b3,h3,e3⟩
      obtain⟨V,Y⟩:=e3.blk0 I a8
      have q:qA4 J (J.alloc (.cells #[.int .i64 0,.bool false,.int .i64 0,W 0#32,W 0#32,U 0#64,U 0#64,U 0#64] 117)):=qal _
      have j:=V.kept q
      have a0:=(a4.trans e3).trans (Ext.kept (m:=11) h3.top q)
      have hL:=h3.kept q
      clear l1 l2
      have f0:=(j).free 0
      have f1:=(j).free 1
      have x0:=(j).cell 0
      have x1:=(j).cell 1
      go_wp2_with fail
      have N:=((j).set 0 (.int .i64 (7))).set 1 (.slice none 0 0)
      have l:Chg [w.heap.size+1] (J.alloc (.cells #[.int .i64 0,.bool false,.int .i64 0,W 0#32,W 0#32,U 0#64,U 0#64,U 0#64] 117)) (((J.alloc (.cells #[.int .i64 0,.bool false,.int .i64 0,W 0#32,W 0#32,U 0#64,U 0#64,U 0#64] 117)).setCell ⟨w.heap.size+1,0,none⟩ (.int .i64 (7))).setCell ⟨w.heap.size+1,1,none⟩ (.slice none 0 0)):=((Chg.refl _ _).set qsm 0 _).set qsm 1 _
      have r0:=N.cell 0
      have r1:=N.cell 1
      clear f0 f1 x0 x1
      generalize (((J.alloc (.cells #[.int .i64 0,.bool false,.int .i64 0,W 0#32,W 0#32,U 0#64,U 0#64,U 0#64] 117)).setCell ⟨w.heap.size+1,0,none⟩ (.int .i64 (7))).setCell ⟨w.heap.size+1,1,none⟩ (.slice none 0 0))=wE at *
      refine bodyPost_ret (v:=.agg #[.int .i64 (7),.slice none 0 0]) (by simp[results,results78,go_sem,r0,r1];try exact⟨rfl,rfl⟩) rfl ⟨by rw[G.out],b3,by rw[G.out];exact⟨_,_,_,hL.chg0 l Y⟩,a0.newset l (by omega)⟩
     | true =>
      obtain⟨F,hF⟩:∃F,F=B.layF s lba data true:=⟨_,rfl⟩
      rw[qLq hS.symm hF]at CL
      have G:R=(0,(B.lay s lba data).puts s F):=by rw[a7.out,←HS.out,hF];rfl
      replace G:=qh G
      clear hS hF
      go_wp2_with fail
      refine CL.mono ?_
      rintro e J ⟨rfl,b3,h3,e3⟩
      obtain⟨V,Y⟩:=e3.blk0 I a8
      have q:qA4 J (J.alloc (.cells #[.int .i64 F.kind,.bool F.dirty,.int .i64 F.lba,W F.ep,W F.sl,U F.ver,U F.tag.1,U F.tag.2] 117)):=qal _
      have j:=V.kept q
      have a0:=(a4.trans e3).trans (Ext.kept (m:=11) h3.top q)
      have hL:=h3.kept q
      have CP:=qKF hL s c2 c4.1 (by omega) (by omega) F
      clear l1 l2
      go_wp2_with fail
      refine CP.mono ?_
      rintro e w4 ⟨rfl,b9,h4,e4⟩
      obtain⟨O,c0⟩:=e4.blk0 j Y
      have c1:=a0.trans e4
      have f0:=(O).free 0
      have f1:=(O).free 1
      have x0:=(O).cell 0
      have x1:=(O).cell 1
      go_wp2_with fail
      have N:=((O).set 0 (.int .i64 (0))).set 1 (.slice none 0 0)
      have l:Chg [w.heap.size+1] w4 ((w4.setCell ⟨w.heap.size+1,0,none⟩ (.int .i64 (0))).setCell ⟨w.heap.size+1,1,none⟩ (.slice none 0 0)):=((Chg.refl _ _).set qsm 0 _).set qsm 1 _
      have r0:=N.cell 0
      have r1:=N.cell 1
      clear f0 f1 x0 x1
      generalize ((w4.setCell ⟨w.heap.size+1,0,none⟩ (.int .i64 (0))).setCell ⟨w.heap.size+1,1,none⟩ (.slice none 0 0))=wE at *
      refine bodyPost_ret (v:=.agg #[.int .i64 (0),.slice none 0 0]) (by simp[results,results78,go_sem,r0,r1];try exact⟨rfl,rfl⟩) rfl ⟨by rw[G.out],b9,by rw[G.out];exact⟨_,_,_,h4.chg0 l c0⟩,c1.newset l (by omega)⟩
 · have G:R=(E,B):=by rw[Z.out,if_pos b4]
   replace G:=qh G
   have f0:=(I).free 0
   have f1:=(I).free 1
   have x0:=(I).cell 0
   have x1:=(I).cell 1
   go_wp2_with fail
   have N:=((I).set 0 (.int .i64 (E))).set 1 (.slice none 0 0)
   have l:Chg [w.heap.size+1] w2 ((w2.setCell ⟨w.heap.size+1,0,none⟩ (.int .i64 (E))).setCell ⟨w.heap.size+1,1,none⟩ (.slice none 0 0)):=((Chg.refl _ _).set qsm 0 _).set qsm 1 _
   have r0:=N.cell 0
   have r1:=N.cell 1
   clear f0 f1 x0 x1
   generalize ((w2.setCell ⟨w.heap.size+1,0,none⟩ (.int .i64 (E))).setCell ⟨w.heap.size+1,1,none⟩ (.slice none 0 0))=wE at *
   refine bodyPost_ret (v:=.agg #[.int .i64 (E),.slice none 0 0]) (by simp[results,results78,go_sem,r0,r1];try exact⟨rfl,rfl⟩) rfl ⟨by rw[G.out],a9,by rw[G.out];exact⟨_,_,_,h2.chg0 l a8⟩,a4.newset l (by omega)⟩
theorem qMw {col:Nat→Nat}{w:World}{P:qAU}{M C:Nat}{b:Bx}(h:qCM col w P M C b){m:Nat}(g:b.good m)(hm:m≤39000)(kd lba:Int)(a:Option Addr)(n c:Nat):Calls prog 80 #[.pointer (some ⟨C,0,none⟩),.agg #[.int .i64 kd,.int .i64 lba,.slice a n c]] w fun e w'=>e= .returned (.agg #[.int .i64 (b.discard lba).1,.slice none 0 0])∧qGo col w P M C (b.discard lba).2 w':=by
 obtain⟨A,vn,vw,h0⟩:=h
 obtain⟨wA,N⟩:∃y,y=((w.alloc (.cells #[.int .i64 kd,.int .i64 lba,.slice a n c] 34)).alloc (.cells #[.int .i64 0,.slice none 0 0] 39)):=⟨_,rfl⟩
 have a2:qA4 w wA:=by rw[N];exact(qal _).alloc (by simp) _
 have bX:Blk wA w.heap.size #[.int .i64 kd,.int .i64 lba,.slice a n c] 34:=by
  rw[N]
  exact(Blk.new w _ _).kept ((Below.refl _ _).alloc (by simp) _)
 have bT:Blk wA (w.heap.size+1) #[.int .i64 0,.slice none 0 0] 39:=by
  rw[N]
  have:=Blk.new (w.alloc (.cells #[.int .i64 kd,.int .i64 lba,.slice a n c] 34)) #[.int .i64 0,.slice none 0 0] 39
  rw[World.size_alloc]at this
  exact this
 have a9:Ext 11 col col w wA:=Ext.kept h0.top a2
 have cX:col w.heap.size=0:=h0.top _ qle
 have cT:col (w.heap.size+1)=0:=h0.top _ (by omega)
 have CR:=qO1 ⟨A,vn,vw,h0.kept a2⟩ g.f (by omega) g.hev
 obtain⟨R,hR⟩:∃R,R=b.discard lba:=⟨_,rfl⟩
 rw[←hR]
 have J:R=if b.room.1≠0 then b.room else(0,b.room.2.puts (b.room.2.c.free.getD 0) (Lf.nought lba)):=hR
 have gc:=g.room
 have Z:=qCW g
 obtain⟨E,hE⟩:∃E,E=b.room.1:=⟨_,rfl⟩
 obtain⟨B,hB⟩:∃B,B=b.room.2:=⟨_,rfl⟩
 rw[show b.room=(E,B) by rw[hE,hB]]at CR gc Z J
 replace J:=qh J
 replace Z:=qh Z
 clear hR hE hB
 go_enter func80,ntmps80
 go_wp2_with fail
 rw[←N]
 clear N
 refine CR.mono ?_
 rintro e w2 ⟨rfl,j,⟨A2,b7,b3,h2⟩,e2⟩
 obtain⟨a1,b6⟩:=e2.blk0 bX cX
 obtain⟨F,a4⟩:=e2.blk0 bT cT
 have c0:=e2.size
 have b8:=bT.lt
 have a5:=a9.trans e2
 by_cases a0:E=0
 · obtain⟨s,hs⟩:=Option.isSome_iff_exists.1 (Z.out a0)
   have V:R=(0,B.puts s (Lf.nought lba)):=by rw[J.out,if_neg (by rw[a0];decide),hs];rfl
   replace V:=qh V
   have b5:=qDH hs
   have n16:=gc.n16
   have CF:∀G,qA4 w2 G→Calls prog 120 #[.pointer (some ⟨C,0,none⟩)] G fun e w''=>e= .returned (.int .i64 (s:Int))∧G=w'':=fun G hz=>by
    have:=qFn (h2.kept hz) (by omega) (by rw[gc.f.wl,gc.f.nl]) (by omega)
    rw[hs]at this
    exact this
   have CP:∀G,qA4 w2 G→Calls prog 123 #[.pointer (some ⟨C,0,none⟩),.int .i64 (s:Int),.agg #[.int .i64 2,.bool true,.int .i64 lba,W 0#32,W 0#32,U 0#64,U 0#64,U 0#64]] G fun e w''=>e= .returned (.tuple #[])∧∃col',qBm col' w'' P M C A2 b7 b3 (B.puts s (Lf.nought lba))∧Ext 11 j col' G w'':=fun G hz=>qKF (h2.kept hz) s b5 n16.1 (by have:=gc.qlen;omega) (by have:=gc.tk;omega) (Lf.nought lba)
   replace hs:=qh hs
   go_wp2_with fail
   refine qAf (qA8 (fun k=>k<w2.heap.size∧(j k=0∨11<j k))) [(0,0),(1,0),(3,0),(4,0),(5,0),(2,1),(6,1)] (by kernel_rfl) (by kernel_rfl) ?_ ?_ ?_
   · exact fun _=>qA8.refl _
   · exact fun _ _ _ h1 h2=>h1.trans h2
   intro G l
   have a3:=a1.kept l
   repeat
    refine qA0 _ rfl (fun K Y=>?_)
    first
     | (refine qqP (by rfl) ?_;apply Exists.intro;refine⟨fun w' b4=>?_,Y _ ?_⟩;(have q:=(b4.block _ a3.lt ⟨a1.lt,.inl b6⟩).trans a3;have q1:=Blk.cell q 1;clear q;go_simp;first|done|rfl))
     | refine qqN (by rfl) (Y _ ?_)
    clear Y K;simp only[Act.put,qqB]
   refine qqH _ rfl (by rfl) (fun K Y=>?_)
   go_wp2_with fail
   refine(CF G l).mono ?_
   rintro e z2 ⟨rfl,rfl⟩
   go_wp2
   refine Y _ _ (qA8.refl _) ?_
   clear Y K
   try simp only[Act.put,qqB]
   refine qqH _ rfl (by rfl) (fun K Y=>?_)
   go_wp2_with fail
   refine(CP G l).mono ?_
   rintro e z3 ⟨rfl,a6,h3,e3⟩
   have S3:=e3.sameOn (w0:=w2) (col0:=j) (fun k hk=>rfl)
   go_wp2
   refine Y _ _ (S3) ?_
   clear Y K
   try simp only[Act.put,qqB]
   refine qA6 ?_
   have a8:=(a5.trans (Ext.kept (m:=11) h2.top l)).trans e3
   obtain⟨I,a7⟩:=e3.blk0 (F.kept l) a4
   have b9:=l.size
   have f0:=(I).free 0
   have f1:=(I).free 1
   have x0:=(I).cell 0
   have x1:=(I).cell 1
   go_wp2_with fail
   have bR:=((I).set 0 (.int .i64 (0))).set 1 (.slice none 0 0)
   have O:Chg [w.heap.size+1] z3 ((z3.setCell ⟨w.heap.size+1,0,none⟩ (.int .i64 (0))).setCell ⟨w.heap.size+1,1,none⟩ (.slice none 0 0)):=((Chg.refl _ _).set qsm 0 _).set qsm 1 _
   have r0:=bR.cell 0
   have r1:=bR.cell 1
   clear f0 f1 x0 x1
   generalize ((z3.setCell ⟨w.heap.size+1,0,none⟩ (.int .i64 (0))).setCell ⟨w.heap.size+1,1,none⟩ (.slice none 0 0))=wE at *
   refine bodyPost_ret (v:=.agg #[.int .i64 (0),.slice none 0 0]) (by simp[results,results80,go_sem,r0,r1];try exact⟨rfl,rfl⟩) rfl ⟨by rw[V.out],a6,by rw[V.out];exact⟨_,_,_,h3.chg0 O a7⟩,a8.newset O (by omega)⟩
 · have V:R=(E,B):=by rw[J.out,if_pos a0]
   replace V:=qh V
   have f0:=(F).free 0
   have f1:=(F).free 1
   have x0:=(F).cell 0
   have x1:=(F).cell 1
   go_wp2_with fail
   have bR:=((F).set 0 (.int .i64 (E))).set 1 (.slice none 0 0)
   have O:Chg [w.heap.size+1] w2 ((w2.setCell ⟨w.heap.size+1,0,none⟩ (.int .i64 (E))).setCell ⟨w.heap.size+1,1,none⟩ (.slice none 0 0)):=((Chg.refl _ _).set qsm 0 _).set qsm 1 _
   have r0:=bR.cell 0
   have r1:=bR.cell 1
   clear f0 f1 x0 x1
   generalize ((w2.setCell ⟨w.heap.size+1,0,none⟩ (.int .i64 (E))).setCell ⟨w.heap.size+1,1,none⟩ (.slice none 0 0))=wE at *
   refine bodyPost_ret (v:=.agg #[.int .i64 (E),.slice none 0 0]) (by simp[results,results80,go_sem,r0,r1];try exact⟨rfl,rfl⟩) rfl ⟨by rw[V.out],j,by rw[V.out];exact⟨_,_,_,h2.chg0 O a4⟩,a5.newset O (by omega)⟩
theorem qO9 {col:Nat→Nat}{w:World}{P:qAU}{M C:Nat}{b:Bx}(h:qCM col w P M C b){m:Nat}(g:b.good m)(hm:m≤39000)(kd lba:Int)(a:Option Addr)(n c:Nat):Calls prog 81 #[.pointer (some ⟨C,0,none⟩),.agg #[.int .i64 kd,.int .i64 lba,.slice a n c]] w fun e w'=>e= .returned (.agg #[.int .i64 b.rotate.1,.slice none 0 0])∧qGo col w P M C b.rotate.2 w':=by
 obtain⟨A,vn,vw,h0⟩:=h
 obtain⟨wA,N⟩:∃y,y=((w.alloc (.cells #[.int .i64 kd,.int .i64 lba,.slice a n c] 34)).alloc (.cells #[.int .i64 0,.slice none 0 0] 39)):=⟨_,rfl⟩
 have a3:qA4 w wA:=by rw[N];exact(qal _).alloc (by simp) _
 have bX:Blk wA w.heap.size #[.int .i64 kd,.int .i64 lba,.slice a n c] 34:=by
  rw[N]
  exact(Blk.new w _ _).kept ((Below.refl _ _).alloc (by simp) _)
 have bT:Blk wA (w.heap.size+1) #[.int .i64 0,.slice none 0 0] 39:=by
  rw[N]
  have:=Blk.new (w.alloc (.cells #[.int .i64 kd,.int .i64 lba,.slice a n c] 34)) #[.int .i64 0,.slice none 0 0] 39
  rw[World.size_alloc]at this
  exact this
 have b9:Ext 11 col col w wA:=Ext.kept h0.top a3
 have cX:col w.heap.size=0:=h0.top _ qle
 have cT:col (w.heap.size+1)=0:=h0.top _ (by omega)
 have CR:=qCV (h0.kept a3) g.f (by omega)
 obtain⟨R,hR⟩:∃R,R=b.rotate:=⟨_,rfl⟩
 rw[←hR]
 have J:R=if b.commit.1≠0 then b.commit else Bx.rotE b.commit.2.empty:=hR
 have gc:=g.commit
 have hon:=qCa (b:=b)
 obtain⟨E,hE⟩:∃E,E=b.commit.1:=⟨_,rfl⟩
 obtain⟨B,hB⟩:∃B,B=b.commit.2:=⟨_,rfl⟩
 rw[show b.commit=(E,B) by rw[hE,hB]]at CR gc J hon
 replace J:=qh J
 replace hon:=qh hon
 clear hR hE hB
 go_enter func81,ntmps81
 go_wp2_with fail
 rw[←N]
 clear N
 refine CR.mono ?_
 rintro e w2 ⟨rfl,b5,⟨A2,c4,c0,h2⟩,e2⟩
 obtain⟨G,b4⟩:=e2.blk0 bT cT
 have d0:=e2.size
 have c9:=bT.lt
 have b6:=b9.trans e2
 by_cases a0:E=0
 · have CY:=qLp ⟨A2,c4,c0,h2⟩ gc.f (by omega) (hon.out a0)
   have O:R=Bx.rotE B.empty:=by rw[J.out,if_neg (by rw[a0];decide)]
   have gd:=gc.empty
   obtain⟨E3,a9⟩:∃E,E=B.empty.1:=⟨_,rfl⟩
   obtain⟨c3,a4⟩:∃B',B'=B.empty.2:=⟨_,rfl⟩
   rw[show B.empty=(E3,c3) by rw[a9,a4]]at CY gd O
   replace O:=qh O
   clear a9 a4
   go_wp2_with fail
   refine CY.mono ?_
   rintro e w3 ⟨rfl,b7,⟨A3,c2,b8,h3⟩,e3⟩
   obtain⟨q,a5⟩:=e3.blk0 G b4
   have c8:=e3.size
   have a7:=b6.trans e3
   by_cases a2:E3=0
   · have CK:=qR0 h3.wm.wd gd.f.x.ok (by omega)
     have Z:R=if c3.x.p.spend.1=false then(7,c3.setX c3.x.kAdd) else(c3.setX c3.x.kAdd).forget:=by rw[O.out];unfold Bx.rotE;rw[if_neg (fun e=>e a2)]
     have q0:=h3.blk.cell 0
     have q5:=h3.wm.wd.blk.cell 5
     obtain⟨S,hS⟩:∃S,S=c3.x.p.spend.1:=⟨_,rfl⟩
     rw[←hS]at CK
     have HS:=qh hS
     replace Z:=qh Z
     clear hS
     go_wp2_with fail
     refine CK.mono ?_
     rintro e w4 ⟨rfl,b3,c5,e4⟩
     have h4:=h3.world (h3.wm.ext6 c5 e4) (e4.mono (show 6≤8 by decide))
     have a6:=a7.trans (e4.mono (show 6≤11 by decide))
     obtain⟨F,a1⟩:=e4.blk0 q a5
     have c7:=e4.size
     clear q0 q5
     cases S with
     | false =>
      have l:R=(7,c3.setX c3.x.kAdd):=by rw[Z.out,if_pos HS.out.symm]
      replace l:=qh l
      have f0:=(F).free 0
      have f1:=(F).free 1
      have x0:=(F).cell 0
      have x1:=(F).cell 1
      go_wp2_with fail
      have I:=((F).set 0 (.int .i64 (7))).set 1 (.slice none 0 0)
      have j:Chg [w.heap.size+1] w4 ((w4.setCell ⟨w.heap.size+1,0,none⟩ (.int .i64 (7))).setCell ⟨w.heap.size+1,1,none⟩ (.slice none 0 0)):=((Chg.refl _ _).set qsm 0 _).set qsm 1 _
      have r0:=I.cell 0
      have r1:=I.cell 1
      clear f0 f1 x0 x1
      generalize ((w4.setCell ⟨w.heap.size+1,0,none⟩ (.int .i64 (7))).setCell ⟨w.heap.size+1,1,none⟩ (.slice none 0 0))=wE at *
      refine bodyPost_ret (v:=.agg #[.int .i64 (7),.slice none 0 0]) (by simp[results,results81,go_sem,r0,r1];try exact⟨rfl,rfl⟩) rfl ⟨by rw[l.out],b3,by rw[l.out];exact⟨_,_,_,qBm.chg0 h4 j a1⟩,a6.newset j (by omega)⟩
     | true =>
      have l:R=(c3.setX c3.x.kAdd).forget:=by rw[Z.out,if_neg (by rw[←HS.out];decide)]
      have CF:=qJf (b:=c3.setX c3.x.kAdd) ⟨A3,c2,b8,h4⟩ (gd.kAdd (by omega)).f (by omega)
      obtain⟨V,hV⟩:∃V,V=(c3.setX c3.x.kAdd).forget.1:=⟨_,rfl⟩
      rw[←hV]at CF
      have HV:=qh hV
      replace l:=qh l
      clear hV
      go_wp2_with fail
      refine CF.mono ?_
      rintro e w5 ⟨rfl,a8,⟨A5,d2,d1,h5⟩,e5⟩
      obtain⟨Y,c1⟩:=e5.blk0 F a1
      have c6:=a6.trans e5
      have f0:=(Y).free 0
      have f1:=(Y).free 1
      have x0:=(Y).cell 0
      have x1:=(Y).cell 1
      go_wp2_with fail
      have I:=((Y).set 0 (.int .i64 (V))).set 1 (.slice none 0 0)
      have j:Chg [w.heap.size+1] w5 ((w5.setCell ⟨w.heap.size+1,0,none⟩ (.int .i64 (V))).setCell ⟨w.heap.size+1,1,none⟩ (.slice none 0 0)):=((Chg.refl _ _).set qsm 0 _).set qsm 1 _
      have r0:=I.cell 0
      have r1:=I.cell 1
      clear f0 f1 x0 x1
      generalize ((w5.setCell ⟨w.heap.size+1,0,none⟩ (.int .i64 (V))).setCell ⟨w.heap.size+1,1,none⟩ (.slice none 0 0))=wE at *
      refine bodyPost_ret (v:=.agg #[.int .i64 (V),.slice none 0 0]) (by simp[results,results81,go_sem,r0,r1];try exact⟨rfl,rfl⟩) rfl ⟨by rw[l.out,HV.out],a8,by rw[l.out];exact⟨_,_,_,h5.chg0 j c1⟩,c6.newset j (by omega)⟩
   · have l:R=(E3,c3):=by rw[O.out];unfold Bx.rotE;rw[if_pos a2]
     replace l:=qh l
     have f0:=(q).free 0
     have f1:=(q).free 1
     have x0:=(q).cell 0
     have x1:=(q).cell 1
     go_wp2_with fail
     have I:=((q).set 0 (.int .i64 (E3))).set 1 (.slice none 0 0)
     have j:Chg [w.heap.size+1] w3 ((w3.setCell ⟨w.heap.size+1,0,none⟩ (.int .i64 (E3))).setCell ⟨w.heap.size+1,1,none⟩ (.slice none 0 0)):=((Chg.refl _ _).set qsm 0 _).set qsm 1 _
     have r0:=I.cell 0
     have r1:=I.cell 1
     clear f0 f1 x0 x1
     generalize ((w3.setCell ⟨w.heap.size+1,0,none⟩ (.int .i64 (E3))).setCell ⟨w.heap.size+1,1,none⟩ (.slice none 0 0))=wE at *
     refine bodyPost_ret (v:=.agg #[.int .i64 (E3),.slice none 0 0]) (by simp[results,results81,go_sem,r0,r1];try exact⟨rfl,rfl⟩) rfl ⟨by rw[l.out],b7,by rw[l.out];exact⟨_,_,_,h3.chg0 j a5⟩,a7.newset j (by omega)⟩
 · have l:R=(E,B):=by rw[J.out,if_pos a0]
   replace l:=qh l
   have f0:=(G).free 0
   have f1:=(G).free 1
   have x0:=(G).cell 0
   have x1:=(G).cell 1
   go_wp2_with fail
   have I:=((G).set 0 (.int .i64 (E))).set 1 (.slice none 0 0)
   have j:Chg [w.heap.size+1] w2 ((w2.setCell ⟨w.heap.size+1,0,none⟩ (.int .i64 (E))).setCell ⟨w.heap.size+1,1,none⟩ (.slice none 0 0)):=((Chg.refl _ _).set qsm 0 _).set qsm 1 _
   have r0:=I.cell 0
   have r1:=I.cell 1
   clear f0 f1 x0 x1
   generalize ((w2.setCell ⟨w.heap.size+1,0,none⟩ (.int .i64 (E))).setCell ⟨w.heap.size+1,1,none⟩ (.slice none 0 0))=wE at *
   refine bodyPost_ret (v:=.agg #[.int .i64 (E),.slice none 0 0]) (by simp[results,results81,go_sem,r0,r1];try exact⟨rfl,rfl⟩) rfl ⟨by rw[l.out],b5,by rw[l.out];exact⟨_,_,_,h2.chg0 j b4⟩,b6.newset j (by omega)⟩
theorem qR9 {col:Nat→Nat}{w:World}{P:qAU}{M C:Nat}{b:Bx}(h:qCM col w P M C b){m:Nat}(g:b.good m)(hm:m≤39000)(hg:b.x.p.gone=false)(kd lba:Int)(hlb0:isD lba=true)(a:Option Addr)(n c:Nat):Calls prog 77 #[.pointer (some ⟨C,0,none⟩),.agg #[.int .i64 kd,.int .i64 lba,.slice a n c]] w fun e w'=>∃v col',e= .returned (.agg #[.int .i64 (b.read lba).1.1,v])∧qC4 col' w' w.heap.size v (b.read lba).1.2∧qCM col' w' P M C (b.read lba).2∧Ext 11 col col' w w':=by
 obtain⟨A,vn,vw,h0⟩:=h
 obtain⟨wA,a5⟩:∃y,y=((w.alloc (.cells #[.int .i64 kd,.int .i64 lba,.slice a n c] 34)).alloc (.cells #[.int .i64 0,.slice none 0 0] 39)):=⟨_,rfl⟩
 have a9:qA4 w wA:=by rw[a5];exact(qal _).alloc (by simp) _
 have bX:Blk wA w.heap.size #[.int .i64 kd,.int .i64 lba,.slice a n c] 34:=by
  rw[a5]
  exact(Blk.new w _ _).kept ((Below.refl _ _).alloc (by simp) _)
 have bT:Blk wA (w.heap.size+1) #[.int .i64 0,.slice none 0 0] 39:=by
  rw[a5]
  have:=Blk.new (w.alloc (.cells #[.int .i64 kd,.int .i64 lba,.slice a n c] 34)) #[.int .i64 0,.slice none 0 0] 39
  rw[World.size_alloc]at this
  exact this
 have f2:Ext 11 col col w wA:=Ext.kept h0.top a9
 have cX:col w.heap.size=0:=h0.top _ qle
 have cT:col (w.heap.size+1)=0:=h0.top _ (by omega)
 have gn:=g.n16
 have gq:=g.qlen
 have gt:=g.tk
 have d0:b.c.was.length=b.c.now.length:=by rw[g.f.wl,g.f.nl]
 have CS:=qNY (h0.kept a9) lba (by omega) (by omega)
 obtain⟨R,hR⟩:∃R,R=b.read lba:=⟨_,rfl⟩
 rw[←hR]
 have b7:R=b.readS lba (b.c.slot lba):=hR
 obtain⟨o,ho⟩:∃o,o=lba.toNat:=⟨_,rfl⟩
 have c7:lba=(o:Int)∧o<32:=by
  have:=hlb0
  unfold isD at this
  simp at this
  omega
 have c2:=c7.1
 have d8:=c7.2
 have f3:=qh hlb0
 replace b7:=qh b7
 clear hR c7 hlb0
 cases N:b.c.slot lba with
 | some s =>
  have d2:=qIi N
  have f6:=(qEX N).1
  have d5:s<16:=by omega
  rw[N]at CS
  unfold qDG at CS
  simp only at CS
  have CV:=fun c (z:World) (hz:qBm c z P M C A vn vw b)=>qLn hz g.f (by omega) hg s d2
  have J:R=b.readV s (b.valD s):=by rw[b7.out,N];rfl
  have c0:=fun d (hd:b.valD s=some d)=>qEp g.f d2 hd
  obtain⟨V,hV⟩:∃V,V=b.valD s:=⟨_,rfl⟩
  have c9:b.valX s=if V.isSome then b else b.setBad:=by unfold Bx.valX;rw[←hV]
  rw[←hV]at CV J c0
  rw[c9]at CV
  replace J:=qh J
  have i0:(0:Int)≤(s:Int):=by omega
  clear N hV c9 c2 d0
  go_enter func77,ntmps77
  go_wp2_with fail
  rw[←a5]
  clear a5
  refine CS.mono ?_
  rintro e w1 ⟨rfl,a0⟩
  have h1:=(h0.kept a9).kept a0
  have b6:=bT.kept a0
  have d1:=a0.size
  have d4:=bT.lt
  have c1:Ext 11 col col w w1:=Ext.kept h0.top (a9.of a0)
  have CW:=CV _ _ h1
  clear CV
  cases V with
  | none =>
   have G:R=((3,[]),b.setBad):=J.out
   replace G:=qh G
   have b5:Calls prog 118 #[.pointer (some ⟨C,0,none⟩),.int .i64 (s:Int)] w1 fun e w'=>∃v,e= .returned (.tuple #[v,.int .i64 3])∧qBm col w' P M C A vn vw b.setBad∧Ext 11 col col w1 w':=CW.mono (by rintro e w' ⟨v,h1,_,h2,h3⟩;exact⟨v,h1,h2,h3⟩)
   clear CW c0
   go_wp2_with fail
   refine b5.mono ?_
   rintro e w2 ⟨v,rfl,h2,e2⟩
   obtain⟨l,d7⟩:=e2.blk0 b6 cT
   have a2:=c1.trans e2
   have f0:=(l).free 0
   have f1:=(l).free 1
   have x0:=(l).cell 0
   have x1:=(l).cell 1
   go_wp2_with fail
   have bR:=((l).set 0 (.int .i64 (3))).set 1 (.slice none 0 0)
   have j:Chg [w.heap.size+1] w2 ((w2.setCell ⟨w.heap.size+1,0,none⟩ (.int .i64 (3))).setCell ⟨w.heap.size+1,1,none⟩ (.slice none 0 0)):=((Chg.refl _ _).set qsm 0 _).set qsm 1 _
   have r0:=bR.cell 0
   have r1:=bR.cell 1
   clear f0 f1 x0 x1
   generalize ((w2.setCell ⟨w.heap.size+1,0,none⟩ (.int .i64 (3))).setCell ⟨w.heap.size+1,1,none⟩ (.slice none 0 0))=wE at *
   refine bodyPost_ret (v:=.agg #[.int .i64 (3),.slice none 0 0]) (by simp[results,results77,go_sem,r0,r1];try exact⟨rfl,rfl⟩) rfl ⟨_,col,by rw[G.out],by rw[G.out];exact qC4.nil,by rw[G.out];exact⟨_,_,_,qBm.chg0 h2 j (by assumption)⟩,(a2).newset j (by omega)⟩
  | some d =>
   have a3:=qh (c0 d rfl)
   have G:R=((0,d),b.touch s):=J.out
   replace G:=qh G
   have b5:Calls prog 118 #[.pointer (some ⟨C,0,none⟩),.int .i64 (s:Int)] w1 fun e w'=>∃v,e= .returned (.tuple #[v,.int .i64 0])∧w'.ownsRow w1.heap.size 5 1 v d.length (qA1 d)∧qBm col w' P M C A vn vw b∧Ext 11 col col w1 w':=CW.mono (by rintro e w' ⟨v,h1,h2,h3,h4⟩;exact⟨v,h1,h2 d rfl,h3,h4⟩)
   rw[a3.out]at b5
   clear CW c0
   go_wp2_with fail
   refine b5.mono ?_
   rintro e w2 ⟨v,rfl,hv,h2,e2⟩
   obtain⟨O,Y,rfl⟩:=(Sl.of_own hv).len
   have I:w2.ownsRow w1.heap.size 5 1 (.slice O 32 Y) 32 (qA1 d)∧∀g,(Value.slice O 32 Y).ownBlock=some g→col g=0:=⟨hv,qES hv h1.top qle⟩
   obtain⟨l,d7⟩:=e2.blk0 b6 cT
   have a2:=c1.trans e2
   have q4:=h2.blk.cell 4
   have CA:=qFo h2.age h2.top s d5 (by omega) (by omega)
   go_wp2_with fail
   refine CA.mono ?_
   rintro e w3 ⟨rfl,a7,ha,o3⟩
   have h3:=h2.aged ha o3
   have e3:=o3.ext (m:=11) (by decide) (by decide)
   obtain⟨a1,c5⟩:=e3.blk0 l d7
   have c4:=e3.row0 I
   have e5:=a2.trans e3
   clear q4
   have f0:=(a1).free 0
   have f1:=(a1).free 1
   have x0:=(a1).cell 0
   have x1:=(a1).cell 1
   go_wp2_with fail
   have bR:=((a1).set 0 (.int .i64 (0))).set 1 (.slice O 32 Y)
   have j:Chg [w.heap.size+1] w3 ((w3.setCell ⟨w.heap.size+1,0,none⟩ (.int .i64 (0))).setCell ⟨w.heap.size+1,1,none⟩ (.slice O 32 Y)):=((Chg.refl _ _).set qsm 0 _).set qsm 1 _
   have r0:=bR.cell 0
   have r1:=bR.cell 1
   clear f0 f1 x0 x1
   generalize ((w3.setCell ⟨w.heap.size+1,0,none⟩ (.int .i64 (0))).setCell ⟨w.heap.size+1,1,none⟩ (.slice O 32 Y))=wE at *
   refine bodyPost_ret (v:=.agg #[.int .i64 (0),.slice O 32 Y]) (by simp[results,results77,go_sem,r0,r1];try exact⟨rfl,rfl⟩) rfl ⟨_,a7,by rw[G.out],by rw[G.out];exact qC4.base ⟨by rw[a3.out];exact qGt (c4).1 j (by omega),(c4).2⟩ (by omega),by rw[G.out];exact⟨_,_,_,qBm.chg0 h3 j (by assumption)⟩,(e5).newset j (by omega)⟩
 | none =>
  rw[N]at CS
  unfold qDG at CS
  simp only at CS
  subst c2
  have J:R=b.readD (o:Int) (b.x.dk.read o):=by rw[b7.out,N];unfold Bx.readS;simp only[Int.toNat_natCast]
  obtain⟨d,hd⟩:∃d,d=b.x.dk.read o:=⟨_,rfl⟩
  rw[←hd]at J
  replace J:=qh J
  have HD:=qh hd
  clear N hd ho
  go_enter func77,ntmps77
  go_wp2_with fail
  rw[←a5]
  clear a5
  refine CS.mono ?_
  rintro e w1 ⟨rfl,a0⟩
  have h1:=(h0.kept a9).kept a0
  have b6:=bT.kept a0
  have c8:=bX.kept a0
  have d1:=a0.size
  have d4:=bT.lt
  have c1:Ext 11 col col w w1:=Ext.kept h0.top (a9.of a0)
  go_wp2_with fail
  refine qA3 [(0,0),(1,0),(2,0),(3,0),(4,0),(5,0),(6,0),(7,0),(8,0),(9,1),(10,0),(11,0),(12,0),(13,0),(14,0)] (by kernel_rfl) (by kernel_rfl) ?_
  intro z1 Z
  repeat
   refine qA0 _ rfl (fun K hK=>?_)
   first
    | (refine qqP (by rfl) ?_;apply Exists.intro;refine⟨fun w' b8=>?_,hK _ ?_⟩;(have q:=h1.blk.kept (Z.of b8);have q0:=Blk.cell q 0;clear q;have d:=h1.wm.wd.blk.kept (Z.of b8);have d3:=Blk.cell d 3;clear d;have p:=c8.kept (Z.of b8);have p1:=Blk.cell p 1;clear p;go_simp;first|done|rfl))
    | refine qqN (by rfl) (hK _ ?_)
   clear hK K;simp only[Act.put,qqB]
  refine qqH _ rfl (by rfl) (fun K hK=>?_)
  go_wp2_with fail
  refine(qPj (h1.wm.wd.kept Z) g.f.x.ok (by omega) o d8 hg).mono ?_
  rintro e z2 ⟨v,rfl,hv,a8⟩
  obtain⟨O,Y,rfl⟩:=(Sl.of_own hv).len
  go_wp2
  refine hK _ _ (a8) ?_
  clear hK K
  try simp only[Act.put,qqB]
  repeat
   refine qA0 _ rfl (fun K hK=>?_)
   first
    | (refine qqP (by rfl) ?_;apply Exists.intro;refine⟨fun w' b8=>?_,hK _ ?_⟩;go_simp;first|done|rfl)
    | refine qqN (by rfl) (hK _ ?_)
   clear hK K;simp only[Act.put,qqB]
  refine qA6 ?_
  rw[←HD.out]at hv
  have a3:Hid (d.length=32):=qh (by have:=hv.1;rw[qA7]at this;omega)
  have h2:=(h1.kept Z).kept a8
  have l:=b6.kept (Z.of a8)
  have e0:=c8.kept (Z.of a8)
  have I:z2.ownsRow z1.heap.size 5 1 (.slice O 32 Y) 32 (qA1 d)∧∀g,(Value.slice O 32 Y).ownBlock=some g→col g=0:=⟨hv,qES hv (h1.kept Z).top qle⟩
  have a2:=c1.trans (Ext.kept (m:=11) h1.top (Z.of a8))
  have e8:=Z.size
  have e9:=a8.size
  have CF:=qFn h2 (by omega) d0 (by omega)
  have CM:=qF9 M b.boot b.k g.f.k _ h2.wm.mkr
  have q1:=h2.blk.cell 1
  cases hf:b.c.free with
  | none =>
   rw[hf]at CF
   unfold qDG at CF
   simp only at CF
   have G:R=((0,d),b):=by rw[J.out];unfold Bx.readD;rw[hf];rfl
   replace G:=qh G
   clear hf CM
   go_wp2_with fail
   refine CF.mono ?_
   rintro e w3 ⟨rfl,rfl⟩
   have f0:=(l).free 0
   have f1:=(l).free 1
   have x0:=(l).cell 0
   have x1:=(l).cell 1
   go_wp2_with fail
   have bR:=((l).set 0 (.int .i64 (0))).set 1 (.slice O 32 Y)
   have j:Chg [w.heap.size+1] z2 ((z2.setCell ⟨w.heap.size+1,0,none⟩ (.int .i64 (0))).setCell ⟨w.heap.size+1,1,none⟩ (.slice O 32 Y)):=((Chg.refl _ _).set qsm 0 _).set qsm 1 _
   have r0:=bR.cell 0
   have r1:=bR.cell 1
   clear f0 f1 x0 x1
   generalize ((z2.setCell ⟨w.heap.size+1,0,none⟩ (.int .i64 (0))).setCell ⟨w.heap.size+1,1,none⟩ (.slice O 32 Y))=wE at *
   refine bodyPost_ret (v:=.agg #[.int .i64 (0),.slice O 32 Y]) (by simp[results,results77,go_sem,r0,r1];try exact⟨rfl,rfl⟩) rfl ⟨_,col,by rw[G.out],by rw[G.out];exact qC4.base ⟨by rw[a3.out];exact qGt (I).1 j (by omega),(I).2⟩ (by omega),by rw[G.out];exact⟨_,_,_,qBm.chg0 h2 j (by assumption)⟩,(a2).newset j (by omega)⟩
  | some s =>
   rw[hf]at CF
   unfold qDG at CF
   simp only at CF
   have i0:¬(s:Int)<0:=by omega
   by_cases hk:b.k=100
   · have G:R=((0,d),b):=by rw[J.out];unfold Bx.readD;rw[hf,hk];rfl
     rw[show((100 - b.k:Nat):Int)=0 by omega]at CM
     replace G:=qh G
     clear hf hk
     go_wp2_with fail
     refine CF.mono ?_
     rintro e w3 ⟨rfl,rfl⟩
     go_wp2_with fail
     refine CM.mono ?_
     rintro e w4 ⟨rfl,rfl⟩
     clear q1
     have f0:=(l).free 0
     have f1:=(l).free 1
     have x0:=(l).cell 0
     have x1:=(l).cell 1
     go_wp2_with fail
     have bR:=((l).set 0 (.int .i64 (0))).set 1 (.slice O 32 Y)
     have j:Chg [w.heap.size+1] z2 ((z2.setCell ⟨w.heap.size+1,0,none⟩ (.int .i64 (0))).setCell ⟨w.heap.size+1,1,none⟩ (.slice O 32 Y)):=((Chg.refl _ _).set qsm 0 _).set qsm 1 _
     have r0:=bR.cell 0
     have r1:=bR.cell 1
     clear f0 f1 x0 x1
     generalize ((z2.setCell ⟨w.heap.size+1,0,none⟩ (.int .i64 (0))).setCell ⟨w.heap.size+1,1,none⟩ (.slice O 32 Y))=wE at *
     refine bodyPost_ret (v:=.agg #[.int .i64 (0),.slice O 32 Y]) (by simp[results,results77,go_sem,r0,r1];try exact⟨rfl,rfl⟩) rfl ⟨_,col,by rw[G.out],by rw[G.out];exact qC4.base ⟨by rw[a3.out];exact qGt (I).1 j (by omega),(I).2⟩ (by omega),by rw[G.out];exact⟨_,_,_,qBm.chg0 h2 j (by assumption)⟩,(a2).newset j (by omega)⟩
   · obtain⟨K,hK⟩:∃K:Int,K=((100 - b.k:Nat):Int):=⟨_,rfl⟩
     rw[←hK]at CM
     have b3:b.k<100:=by have:=g.f.k;omega
     have iK:¬K=0:=by omega
     have f9:(K==0)=false:=by simpa using iK
     have f8:decide (K=0)=false:=by simpa using iK
     have N:=qDH hf
     have CL:=qQn h2 g.f (by omega) b3 s hf (o:Int) (.slice O 32 Y) d a3.out false (Sl.of_own I.1)
     have g3:=g.lay (s:=s) (lba:=(o:Int)) (data:=d) N a3.out b3
     have b9:R=if b.x.p.spend.1 then((0,d),(b.lay s (o:Int) d).puts s (b.layF s (o:Int) d false)) else((7,[]),b.lay s (o:Int) d):=by
      rw[J.out];unfold Bx.readD;rw[hf,show(b.k==100)=false by simpa using hk];unfold Bx.readN Bx.lays;rw[if_neg hk,hf]
      cases b.x.p.spend.1<;>rfl
     replace b9:=qh b9
     have f7:=g3.qlen
     have e7:=g3.n16
     have f4:=g3.tk
     obtain⟨S,hS⟩:∃S,S=b.x.p.spend.1:=⟨_,rfl⟩
     have HS:=qh hS
     have e6:s<(b.lay s (o:Int) d).c.now.length:=N
     have l1:=e0.cell 1
     clear hf hK
     cases S with
     | false =>
      rw[qO8 hS.symm]at CL
      have G:R=((7,[]),b.lay s (o:Int) d):=by rw[b9.out,←HS.out];rfl
      replace G:=qh G
      clear hS
      go_wp2_with fail
      refine CF.mono ?_
      rintro e w3 ⟨rfl,rfl⟩
      go_wp2_with fail
      refine CM.mono ?_
      rintro e w4 ⟨rfl,rfl⟩
      go_wp2_with fail
      refine CL.mono ?_
      rintro e w3 ⟨rfl,a7,h3,e3⟩
      obtain⟨a1,c5⟩:=e3.blk0 l cT
      have a4:qA4 w3 (w3.alloc (.cells #[.int .i64 0,.bool false,.int .i64 0,W 0#32,W 0#32,U 0#64,U 0#64,U 0#64] 117)):=qal _
      have a6:=a1.kept a4
      have c6:=(a2.trans e3).trans (Ext.kept (m:=11) h3.top a4)
      have hL:=h3.kept a4
      clear l1 q1
      have f0:=(a6).free 0
      have f1:=(a6).free 1
      have x0:=(a6).cell 0
      have x1:=(a6).cell 1
      go_wp2_with fail
      have bR:=((a6).set 0 (.int .i64 (7))).set 1 (.slice none 0 0)
      have j:Chg [w.heap.size+1] (w3.alloc (.cells #[.int .i64 0,.bool false,.int .i64 0,W 0#32,W 0#32,U 0#64,U 0#64,U 0#64] 117)) (((w3.alloc (.cells #[.int .i64 0,.bool false,.int .i64 0,W 0#32,W 0#32,U 0#64,U 0#64,U 0#64] 117)).setCell ⟨w.heap.size+1,0,none⟩ (.int .i64 (7))).setCell ⟨w.heap.size+1,1,none⟩ (.slice none 0 0)):=((Chg.refl _ _).set qsm 0 _).set qsm 1 _
      have r0:=bR.cell 0
      have r1:=bR.cell 1
      clear f0 f1 x0 x1
      generalize (((w3.alloc (.cells #[.int .i64 0,.bool false,.int .i64 0,W 0#32,W 0#32,U 0#64,U 0#64,U 0#64] 117)).setCell ⟨w.heap.size+1,0,none⟩ (.int .i64 (7))).setCell ⟨w.heap.size+1,1,none⟩ (.slice none 0 0))=wE at *
      refine bodyPost_ret (v:=.agg #[.int .i64 (7),.slice none 0 0]) (by simp[results,results77,go_sem,r0,r1];try exact⟨rfl,rfl⟩) rfl ⟨_,a7,by rw[G.out],by rw[G.out];exact qC4.nil,by rw[G.out];exact⟨_,_,_,qBm.chg0 hL j (by assumption)⟩,(c6).newset j (by omega)⟩
     | true =>
      obtain⟨F,hF⟩:∃F,F=b.layF s (o:Int) d false:=⟨_,rfl⟩
      rw[qLq hS.symm hF]at CL
      have G:R=((0,d),(b.lay s (o:Int) d).puts s F):=by rw[b9.out,←HS.out,hF];rfl
      replace G:=qh G
      clear hS hF
      go_wp2_with fail
      refine CF.mono ?_
      rintro e w3 ⟨rfl,rfl⟩
      go_wp2_with fail
      refine CM.mono ?_
      rintro e w4 ⟨rfl,rfl⟩
      go_wp2_with fail
      refine CL.mono ?_
      rintro e w3 ⟨rfl,a7,h3,e3⟩
      obtain⟨a1,c5⟩:=e3.blk0 l cT
      have a4:qA4 w3 (w3.alloc (.cells #[.int .i64 F.kind,.bool F.dirty,.int .i64 F.lba,W F.ep,W F.sl,U F.ver,U F.tag.1,U F.tag.2] 117)):=qal _
      have a6:=a1.kept a4
      have eL:=e3.trans (Ext.kept (m:=11) h3.top a4)
      have c6:=a2.trans eL
      have d9:=eL.row0 I
      have hL:=h3.kept a4
      have CP:=qKF hL s e6 e7.1 (by omega) (by omega) F
      clear l1 q1
      go_wp2_with fail
      refine CP.mono ?_
      rintro e w4 ⟨rfl,d6,h4,e4⟩
      obtain⟨b4,f5⟩:=e4.blk0 a6 c5
      have e1:=c6.trans e4
      have c3:=e4.row0 d9
      have f0:=(b4).free 0
      have f1:=(b4).free 1
      have x0:=(b4).cell 0
      have x1:=(b4).cell 1
      go_wp2_with fail
      have bR:=((b4).set 0 (.int .i64 (0))).set 1 (.slice O 32 Y)
      have j:Chg [w.heap.size+1] w4 ((w4.setCell ⟨w.heap.size+1,0,none⟩ (.int .i64 (0))).setCell ⟨w.heap.size+1,1,none⟩ (.slice O 32 Y)):=((Chg.refl _ _).set qsm 0 _).set qsm 1 _
      have r0:=bR.cell 0
      have r1:=bR.cell 1
      clear f0 f1 x0 x1
      generalize ((w4.setCell ⟨w.heap.size+1,0,none⟩ (.int .i64 (0))).setCell ⟨w.heap.size+1,1,none⟩ (.slice O 32 Y))=wE at *
      refine bodyPost_ret (v:=.agg #[.int .i64 (0),.slice O 32 Y]) (by simp[results,results77,go_sem,r0,r1];try exact⟨rfl,rfl⟩) rfl ⟨_,d6,by rw[G.out],by rw[G.out];exact qC4.base ⟨by rw[a3.out];exact qGt (c3).1 j (by omega),(c3).2⟩ (by omega),by rw[G.out];exact⟨_,_,_,qBm.chg0 h4 j (by assumption)⟩,(e1).newset j (by omega)⟩
theorem qPN {col:Nat→Nat}{w:World}{P:qAU}{M C:Nat}{b:Bx}(h:qCM col w P M C b){m:Nat}(f:b.fine m)(hm:m≤40000)(kd lba:Int)(a:Option Addr)(n c:Nat):Calls prog 79 #[.pointer (some ⟨C,0,none⟩),.agg #[.int .i64 kd,.int .i64 lba,.slice a n c]] w fun e w'=>e= .returned (.agg #[.int .i64 b.commit.1,.slice none 0 0])∧qGo col w P M C b.commit.2 w':=by
 obtain⟨A,vn,vw,N⟩:=h
 obtain⟨Z,j⟩:∃y,y=((w.alloc (.cells #[.int .i64 kd,.int .i64 lba,.slice a n c] 34)).alloc (.cells #[.int .i64 0,.slice none 0 0] 39)):=⟨_,rfl⟩
 have F:qA4 w Z:=by rw[j];exact(qal _).alloc (by simp) _
 have bT:Blk Z (w.heap.size+1) #[.int .i64 0,.slice none 0 0] 39:=by
  rw[j]
  have:=Blk.new (w.alloc (.cells #[.int .i64 kd,.int .i64 lba,.slice a n c] 34)) #[.int .i64 0,.slice none 0 0] 39
  rw[World.size_alloc]at this
  exact this
 have CC:=qCV (N.kept F) f (by omega)
 obtain⟨E,hE⟩:∃E,E=b.commit.1:=⟨_,rfl⟩
 rw[←hE]at CC ⊢
 clear hE
 go_enter func79,ntmps79
 go_wp2_with fail
 rw[←j]
 clear j
 refine CC.mono ?_
 rintro e I ⟨rfl,q,⟨A2,J,V,h2⟩,e2⟩
 obtain⟨G,O⟩:=e2.blk0 bT (N.top _ (by omega))
 have f0:=G.free 0
 have f1:=G.free 1
 have x0:=G.cell 0
 have x1:=G.cell 1
 go_wp2_with fail
 have Y:=(G.set 0 (.int .i64 E)).set 1 (.slice none 0 0)
 have l:Chg [w.heap.size+1] I ((I.setCell ⟨w.heap.size+1,0,none⟩ (.int .i64 E)).setCell ⟨w.heap.size+1,1,none⟩ (.slice none 0 0)):=((Chg.refl _ _).set qsm 0 _).set qsm 1 _
 have r0:=Y.cell 0
 have r1:=Y.cell 1
 generalize ((I.setCell ⟨w.heap.size+1,0,none⟩ (.int .i64 E)).setCell ⟨w.heap.size+1,1,none⟩ (.slice none 0 0))=w3 at *
 refine bodyPost_ret (v:=.agg #[.int .i64 E,.slice none 0 0]) (by simp[results,results79,go_sem,r0,r1];try exact⟨rfl,rfl⟩) rfl ⟨rfl,q,⟨A2,J,V,h2.chg0 l O⟩,((Ext.kept (m:=11) N.top F).trans e2).newset l (by omega)⟩
end Go.Proofs.YtdlgihbpiakebaaGreat
