import Derived.Test.YtdlgihbpiakebaaGreatMk14
import Derived.Test.YtdlgihbpiakebaaGreatMk17
import Derived.Test.YtdlgihbpiakebaaGreatMk19
import Derived.Test.YtdlgihbpiakebaaGreatMk20
set_option maxRecDepth 100000
set_option maxHeartbeats 4000000
namespace Go.Proofs.YtdlgihbpiakebaaGreat
open Go Go.RowKit Go.Shelf
attribute [local go_sem] Oper.semAt_some
theorem qL3 (l:List UInt8)(p:Nat):∀m,m≤p+1→(qN8 (fx p) m).foldl (fun (s:qAD) (x:Fin (p+1))=>qGR s (qAr (qG6 l x.val))) iv=qSK l m
 | 0,_=>rfl
 | m+1,h=>by
  rw[qG9,List.foldl_append,qL3 l p m (by omega),List.foldl_cons,List.foldl_nil,qQh p m (by omega)]
  rfl
theorem qQL (bs:List UInt8)(k:Nat):qA1 (bs++ [128]++List.replicate k 0)++ [V8 0]=qA1 (bs++ [128]++List.replicate (k+1) 0):=by
 rw[List.replicate_succ',←List.append_assoc]
 simp[qA1]
theorem qQM (v:Value)(rows:List (List UInt8))(hn:rows.length≤1000)(hl:rows.flatten.length≤60000)(w:World)(h:qBG w v rows) :
 Calls Tryz.prog 60 #[v] w fun e w'=>e= .returned (Pr (qRG rows.flatten))∧qA4 w w':=by
 obtain⟨bs,d0⟩:∃bs,bs=rows.flatten:=⟨_,rfl⟩
 rw[←d0]at hl ⊢
 have f2:=qh d0
 clear d0
 refine(callsIn_wide (n:=10)).1 ?_
 refine callsIn_of_wp_marks Tryz.func60 rfl trivial ?_ rfl
 simp only[Tryz.ntmps60,List.size_toArray,List.length_cons,List.length_nil,Nat.reduceAdd,Nat.reduceSub,Array.replicate_succ,Array.replicate_zero,List.push_toArray,List.append_toArray,List.nil_append,List.cons_append]
 refine wpIn_wide.2 ?_
 have e5:qA4 w (w.alloc (.cells #[U 0#64,U 0#64] 115)):=qal _
 have hR:=Blk.new w #[U 0#64,U 0#64] 115
 have i9:(w.alloc (.cells #[U 0#64,U 0#64] 115)).heap.size=w.heap.size+1:=by simp
 replace h:=h.kept e5
 go_wp2_with fail
 generalize (w.alloc (.cells #[U 0#64,U 0#64] 115))=W1 at *
 refine(qCj v rows hn (by rw[←f2.out];omega) _ h).mono ?_
 rintro e w2 ⟨r,rfl,a5,f5⟩
 rw[←f2.out]at a5
 have c7:qA4 W1 (w2.alloc (.cells #[V8 128] 5)):=qA4.of f5 (qal _)
 have d1:=qA5 a5 (show qA4 w2 (w2.alloc (.cells #[V8 128] 5)) from qal _)
 have d5:=c7.size
 go_wp2_with (at_builtin;refine qAw qAx rfl (by rfl) (by rfl) (by rfl) d1 (Sl.one w2 (V8 128) 5) (by simp) (by intro u hu;simp at hu;subst hu;rfl) (by unfold maxLen;omega) (by omega) d5 ?_;intro v4 w4 F g3 e8;obtain⟨a4,c4,e4⟩:=(Sl.of_own F).len;subst e4)
 have e2:qA4 W1 w4:=qAF c7 d1 g3 d5
 replace F:w4.ownsRow W1.heap.size 5 1 (.slice a4 (bs.length+1) c4) (bs.length+1) (qA1 (bs++ [128]++List.replicate 0 0)):=by
  have:qA1 bs++ [V8 128]=qA1 (bs++ [128]++List.replicate 0 0):=by simp[qA1]
  rw[←this];exact F
 have HR:=hR.kept e2
 clear g3 e8 d1 a5 f5 c7 d5
 obtain⟨N,hN⟩:∃N,N=bs.length:=⟨_,rfl⟩
 rw[←hN]at hl F ⊢
 have i0:(N:Int)≤60000:=by omega
 have HN:=qh hN
 clear hN
 go_loopw [3] (fun bv wr=>∃k:Nat,k≤qMK N∧wr.ownsRow W1.heap.size 5 1 bv (N+1+k) (qA1 (bs++ [128]++List.replicate k 0))∧qA4 W1 wr) (fun bv _=>N+17 - qT5 bv)
 case atStart=>exact⟨0,Nat.zero_le _,F,e2⟩
 case round =>
  obtain⟨k,hk,G,d2⟩:=hrel
  have j5:=qQE N
  obtain⟨ak,ck,ek⟩:=(Sl.of_own G).len
  subst ek
  obtain⟨L,hL⟩:∃L,L=N+1+k:=⟨_,rfl⟩
  rw[←hL]at G ⊢
  have e7:(L:Int).tmod 16=((L % 16:Nat):Int):=by rw[Int.tmod_eq_emod_of_nonneg (by omega)];omega
  obtain⟨q,hq⟩:∃q,q=L % 16:=⟨_,rfl⟩
  rw[←hq]at e7
  have i1:(L:Int)≤60020:=by omega
  have HL:=qh hL
  have HQ:=qh hq
  clear hL hq
  by_cases g8:k<qMK N
  · have q1:((q:Int) != 8)=true:=by
     have:=qQD N k g8
     rw[←HL.out,←HQ.out]at this
     simp;omega
    have f6:qA4 W1 (wr.alloc (.cells #[V8 0] 5)):=qA4.of d2 (qal _)
    have g6:=qA5 G (show qA4 wr (wr.alloc (.cells #[V8 0] 5)) from qal _)
    have f0:=f6.size
    go_wp2_with (at_builtin;refine qAw qAx rfl (by rfl) (by rfl) (by rfl) g6 (Sl.one wr (V8 0) 5) (by simp) (by intro u hu;simp at hu;subst hu;rfl) (by unfold maxLen;omega) (by omega) f0 ?_;intro v6 w6 a7 h9 i4;obtain⟨a6,c6,e6⟩:=(Sl.of_own a7).len;subst e6)
    refine⟨⟨k+1,by omega,?_,qAF f6 g6 h9 f0⟩,by simp[qT5];have:=HL.out;omega⟩
    rw[←qQL,show N+1+(k+1)=L+1 by have:=HL.out;omega]
    exact a7
  · obtain rfl:k=qMK N:=by omega
    have q1:((q:Int) != 8)=false:=by
     have:=qKY N
     rw[←HL.out,←HQ.out]at this
     simp;omega
    go_wp2_with fail
    rw[show Value.int IntKind.u64 (N:Int)=U (BitVec.ofInt 64 (N:Int)) from qT0 _ (by omega) (by omega)]
    refine(qAS _ 8 (by omega) (by omega) _).mono ?_
    rintro e w7 ⟨x7,rfl,a1,b9⟩
    have s7:=Sl.of_own a1
    have d4:=qA5 G b9
    have c5:=qA4.of d2 b9
    have c2:=c5.size
    clear a1 b9
    go_wp2_with (at_builtin;refine qAw qAx rfl (by rfl) (by rfl) (by rfl) d4 s7 (by simp[qA1,qA9]) (qAP _) (by unfold maxLen;omega) (by omega) c2 ?_;intro v9 w9 Y d9 f3;obtain⟨a9,V,e9⟩:=(Sl.of_own Y).len;subst e9)
    have a8:qA4 W1 w9:=qAF c5 d4 d9 c2
    have a0:w9.ownsRow W1.heap.size 5 1 (.slice a9 (L+8) V) (L+8) (qA1 (qHI bs)):=by
     have:qA1 (bs++ [128]++List.replicate (qMK N) 0)++qA1 (qAI (BitVec.ofInt 64 (N:Int)) 8)=qA1 (qHI bs):=by
      rw[HN.out,←qBk];rfl
     rw[←this];exact Y
    clear d9 f3 Y d4 G c5 d2 c2 s7
    obtain⟨m,hm⟩:=qQF bs
    have c3:16*m=L+8:=by rw[←hm,qG5,←HN.out];have:=HL.out;omega
    obtain⟨g,gc,cur,h8,j6,hG,j7,i3,j1,c8⟩:∃g cap cur,(Value.slice a9 (L+8) V)= .slice (some ⟨g,0,none⟩) (L+8) cap∧W1.heap.size≤g∧Blk w9 g cur 5∧L+8≤cap∧cap≤maxLen∧cur.size=cap*1∧cur.toList.take ((L+8)*1)=qA1 (qHI bs):=by
     rcases a0.2 with ⟨_,h⟩|⟨g,cap,cur,h1',h2,h3,h4,h5,h6,h7⟩
     · omega
     · exact⟨g,cap,cur,h1',h2,h3,h4,h5,h6,h7⟩
    cases h8
    clear a0
    obtain⟨S,hS⟩:∃S,S=w9.heap.size:=⟨_,rfl⟩
    have d6:=Blk.new w9 #[U 7640891576956012808#64,U 13503953896175478587#64] 115
    have d7:=hG.alloc (.cells #[U 7640891576956012808#64,U 13503953896175478587#64] 115)
    have d8:=(hR.kept a8).alloc (.cells #[U 7640891576956012808#64,U 13503953896175478587#64] 115)
    have f1:qA4 W1 (w9.alloc (.cells #[U 7640891576956012808#64,U 13503953896175478587#64] 115)):=qA4.of a8 (qal _)
    have b4:(w9.alloc (.cells #[U 7640891576956012808#64,U 13503953896175478587#64] 115)).heap.size=S+1:=by rw[hS];simp
    have j2:g<S:=by rw[hS];exact hG.lt
    have i8:W1.heap.size≤S:=by rw[hS];exact a8.size
    generalize w9.alloc (.cells #[U 7640891576956012808#64,U 13503953896175478587#64] 115)=w10 at *
    rw[←hS]at d6
    simp only[←hS]
    clear hS hG a8
    refine(qNa _ _ _ _).mono ?_
    rintro e j3 ⟨rfl,rfl⟩
    have J:=(d6.alloc (.cells #[.slice (some ⟨g,0,none⟩) (L+8) V] 32)).alloc (.cells #[.int .i64 16] 3)
    have hG:=(d7.alloc (.cells #[.slice (some ⟨g,0,none⟩) (L+8) V] 32)).alloc (.cells #[.int .i64 16] 3)
    have hZ:=(d8.alloc (.cells #[.slice (some ⟨g,0,none⟩) (L+8) V] 32)).alloc (.cells #[.int .i64 16] 3)
    have hX:Blk ((w10.alloc (.cells #[.slice (some ⟨g,0,none⟩) (L+8) V] 32)).alloc (.cells #[.int .i64 16] 3)) (S+1) #[.slice (some ⟨g,0,none⟩) (L+8) V] 32:=by rw[←b4];exact(Blk.new _ _ _).alloc _
    have hY:Blk ((w10.alloc (.cells #[.slice (some ⟨g,0,none⟩) (L+8) V] 32)).alloc (.cells #[.int .i64 16] 3)) (S+2) #[.int .i64 16] 3:=by
     have:=Blk.new (w10.alloc (.cells #[.slice (some ⟨g,0,none⟩) (L+8) V] 32)) #[.int .i64 16] 3
     simpa [b4] using this
    have e0:Below w.heap.size w ((w10.alloc (.cells #[.slice (some ⟨g,0,none⟩) (L+8) V] 32)).alloc (.cells #[.int .i64 16] 3)):=(((e5.of f1).alloc (by omega) _).alloc (by simp;omega) _)
    have i5:((w10.alloc (.cells #[.slice (some ⟨g,0,none⟩) (L+8) V] 32)).alloc (.cells #[.int .i64 16] 3)).heap.size=S+3:=by simp[b4]
    rw[b4]
    clear d6 d7 d8 f1
    go_wp2_with fail
    generalize (w10.alloc (.cells #[.slice (some ⟨g,0,none⟩) (L+8) V] 32)).alloc (.cells #[.int .i64 16] 3)=W11 at *
    obtain⟨p,hp⟩:∃p,m=p+1:=⟨m - 1,by omega⟩
    have b7:(qHI bs).length=L+8:=by rw[hm,c3]
    have HM:=qh hm
    have b3:=qh c3
    have i6:=qh b7
    clear hm c3 b7
    refine(wpIn_wide (n:=10)).1 ?_
    refine wpIn_rangeFunc_ownG rfl (by omega) (gf:=133) (lb:=#[.pointer (some ⟨S+1,0,none⟩),.pointer (some ⟨S+1+1,0,none⟩)]) rfl trivial (enters_of Tryz.func133 (by kernel_rfl) rfl)
     (qK6 9 (by omega) (S+1) (S+1+1) g 0 p m V hp (by have:=b3.out;omega) (by have:=b3.out;omega) i3 W11 (by omega) (by omega) (by rw[b3.out];exact hX.cell 0) (hY.cell 0)) (fun h k=>h.trans k) (qQK (by simp;omega)) (Below.refl _ _) (fun _=>rfl)
     (fun a3 W=>(Blk W S #[U (a3.foldl (fun (s:qAD) (x:Fin (p+1))=>qGR s (qAr (qG6 (qHI bs) x.val))) iv).1,U (a3.foldl (fun (s:qAD) (x:Fin (p+1))=>qGR s (qAr (qG6 (qHI bs) x.val))) iv).2] 115∧Blk W w.heap.size #[U 0#64,U 0#64] 115∧Blk W g cur 5)∧Below w.heap.size w W∧S+3≤W.heap.size)
     (fun _ _ _=>False)
     (OwnFrom.and (Own.from (fun s A C row hs hg hr=>⟨qK5 hs.1 hg hr,qK5 hs.2.1 hg hr,qK5 hs.2.2 hg hr⟩) _) (OwnFrom.and (ownFrom_below qle (by omega)) (fun s A C row hs hg hr=>Nat.le_trans hs hg.size)))
     (fun _ _ _ _ _ hs _ _=>hs)
     ⟨⟨J,hZ,hG⟩,e0,by omega⟩
     (fun x=>{ tmps:=#[v,undef,.pointer (some ⟨w.heap.size,0,none⟩),.slice (some ⟨g,0,none⟩) (L+8) V,.int .i64 N,.pointer (some ⟨S,0,none⟩),.slice (some ⟨g,0+16*x.val,none⟩) 16 16,undef,undef,v,r,.slice (some ⟨w2.heap.size,0,none⟩) 1 1,.slice a4 (N+1) c4,.slice a4 (N+1) c4,.int .i64 (N+1),.int .i64 N,.slice ak L ck,.int .i64 L,.int .i64 q,.bool false,u20,u21,u22,.slice ak L ck,.int .i64 N,U (BitVec.ofNat 64 N),x7,.slice (some ⟨g,0,none⟩) (L+8) V,.agg #[U 7640891576956012808#64,U 13503953896175478587#64],.slice (some ⟨g,0,none⟩) (L+8) V,.func (.func 133) #[] #[.pointer (some ⟨S+1,0,none⟩),.pointer (some ⟨S+1+1,0,none⟩)],.slice (some ⟨g,0+16*x.val,none⟩) 16 16,undef,undef,undef,undef,undef,undef,undef,undef,undef],defers:=[] }) ?assign ?body ?done ?stop
    case assign =>
     intro l x W K hK
     gi_wp2
     simp only[Nat.zero_add]at hK
     exact hK
    case body =>
     rintro l a3 x W ⟨⟨J,hZ,hG⟩,b5,h0⟩ _
     obtain⟨s,hs⟩:∃s:qAD,s=a3.foldl (fun (s:qAD) (x:Fin (p+1))=>qGR s (qAr (qG6 (qHI bs) x.val))) iv:=⟨_,rfl⟩
     rw[←hs]at J
     have g9:=qh hs
     have hx:=x.isLt
     obtain⟨k,hk⟩:∃k,k=x.val:=⟨_,rfl⟩
     simp only[←hk]at hx ⊢
     have b6:=qIH (qHI bs) k m HM.out (by omega)
     have b8:Sl W (.slice (some ⟨g,16*k,none⟩) 16 16) (qG6 (qHI bs) k).length (qA1 (qG6 (qHI bs) k)):=by
      rw[b6]
      refine Sl.mk qle (by decide) fun j u hj=>?_
      rw[hG.cell]
      have g2:=(List.getElem?_eq_some_iff.1 hj).1
      rw[qA7,b6]at g2
      unfold qG6 at hj
      rw[←qEc,←qEd,List.getElem?_take,if_pos g2,List.getElem?_drop,←c8,List.getElem?_take,if_pos (by have:=b3.out;omega)]at hj
      simpa using hj
     have HK:=qh hk
     have h1:=qh b6
     clear hs hk b6
     gi_wp2_with fail
     refine⟨trivial,?_⟩
     refine(CallsIn.inRound l (callsIn_wide.2 (qCo _ _ _ b8 h1.out))).mono ?_
     rintro e g4 ⟨rfl,a2⟩
     obtain⟨M,hM⟩:∃M,M=qAr (qG6 (qHI bs) k):=⟨_,rfl⟩
     rw[←hM]
     have hP:=Blk.new g4 #[U M.1,U M.2] 115
     have O:qA4 W (g4.alloc (.cells #[U M.1,U M.2] 115)):=a2.alloc (by have:=a2.size;omega) _
     replace J:=J.kept O
     replace hZ:=hZ.kept O
     replace hG:=hG.kept O
     have I:=b5.trans (O.mono b5.size)
     have Z:=Nat.le_trans h0 O.size
     have f7:=O.from W11.heap.size
     have f4:=O.stays (bs:=[S+1,S+1+1]) (by simp;omega)
     have i2:=qh hM
     clear a2 b8 O hM
     have t0:=J.cell 0
     have t1:=J.cell 1
     have p0:=hP.cell 0
     have p1:=hP.cell 1
     gi_wp2_with fail
     refine⟨trivial,?_⟩
     refine(CallsIn.inRound l (callsIn_wide.2 (qP7 _ _ _ _ _))).mono ?_
     rintro e j0 ⟨rfl,f⟩
     replace J:=J.kept f
     replace hZ:=hZ.kept f
     replace hG:=hG.kept f
     have e1:=f7.trans (f.from W11.heap.size)
     have f9:=f4.trans (f.stays (bs:=[S+1,S+1+1]) (by simp;simp at Z;omega))
     replace I:=I.trans (f.mono I.size)
     replace Z:=Nat.le_trans Z f.size
     obtain⟨E,hE⟩:∃E,E=qGR (s.1,s.2) (M.1,M.2):=⟨_,rfl⟩
     rw[←hE]
     have HE:=qh hE
     clear t0 t1 p0 p1 f hP hE f7 f4
     have t0:=J.cell 0
     have t1:=J.cell 1
     have j4:=J.free 0
     have i7:=J.free 1
     gi_wp2
     refine⟨e1.trans (((KeepsOthers.setCell _ _ _).trans (KeepsOthers.setCell _ _ _)).from _),f9.trans (((qDp.refl _ _).set (by simp;omega) _).set (by simp;omega) _),⟨?_,?_,?_⟩,(I.setCell (by show _≤S;omega) _).setCell (by show _≤S;omega) _,by simpa using Z⟩
     · rw[List.foldl_append,List.foldl_cons,List.foldl_nil,←g9.out,←HK.out,←i2.out]
       have:=(J.set 0 (U E.1)).set 1 (U E.2)
       rw[show qGR s M=E from HE.out.symm]
       simpa using this
     · exact(hZ.other (a:=⟨S,0,none⟩) (by show w.heap.size≠S;omega) _).other (a:=⟨S,1,none⟩) (by show w.heap.size≠S;omega) _
     · exact(hG.other (a:=⟨S,0,none⟩) (by show g≠S;omega) _).other (a:=⟨S,1,none⟩) (by show g≠S;omega) _
    case done =>
     rintro D ys W hD rfl ⟨⟨J,hZ,_⟩,b5,_⟩ hK
     have hf:=qL3 (qHI bs) p m (by omega)
     rw[hf]at J
     obtain⟨X,hX⟩:∃X,X=qSK (qHI bs) m:=⟨_,rfl⟩
     rw[←hX]at J
     have f8:X=qRG bs:=by
      rw[hX,qRG,HM.out]
      congr 1;omega
     have HX:=qh f8
     have c0:=J.cell 0
     have c1:=J.cell 1
     have r0:=hZ.cell 0
     have r1:=hZ.cell 1
     have g0:=hZ.free 0
     have g1:=hZ.free 1
     clear hf hX f8
     go_wp2
     have d3:D≠w.heap.size:=by omega
     have e3:((W.setCell ⟨w.heap.size,0,none⟩ (U X.1)).setCell ⟨w.heap.size,1,none⟩ (U X.2)).heap[D]? = some (.deferred (some [])):=(Below.heap_setCell _ _ _ _ d3).trans ((Below.heap_setCell _ _ _ _ d3).trans hK)
     have g7:Blk ((W.setCell ⟨w.heap.size,0,none⟩ (U X.1)).setCell ⟨w.heap.size,1,none⟩ (U X.2)) w.heap.size #[U X.1,U X.2] 115:=by
      have:=(hZ.set 0 (U X.1)).set 1 (U X.2)
      simpa using this
     have I:Below w.heap.size w ((W.setCell ⟨w.heap.size,0,none⟩ (U X.1)).setCell ⟨w.heap.size,1,none⟩ (U X.2)):=(b5.setCell qle _).setCell qle _
     generalize ((W.setCell ⟨w.heap.size,0,none⟩ (U X.1)).setCell ⟨w.heap.size,1,none⟩ (U X.2))=W9 at *
     have g5:Blk (W9.putObj D (.deferred none)) w.heap.size #[U X.1,U X.2] 115:=(World.putObj_heap_other (Ne.symm d3)).trans g7
     have q0:=g5.cell 0
     have q1:=g5.cell 1
     refine⟨by simp,.inl ⟨_,_,rfl,run_takeDeferred e3,?_⟩⟩
     refine⟨Pr X,?_,?_⟩
     · simp[results,Tryz.results60,go_sem,q0,q1]
       try exact⟨rfl,rfl⟩
     · refine⟨by rw[←HX.out],?_⟩
       exact I.trans (belowK_b (w:=w) qle W9 D _ _ (by omega) e3 rfl rfl)
    case stop =>
     rintro D c a3 W _ _ h _
     exact h.elim
end Go.Proofs.YtdlgihbpiakebaaGreat
