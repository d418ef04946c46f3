import Derived.Test.YtdlgihbpiakebaaGreatMd17
import Derived.Test.YtdlgihbpiakebaaGreatMd19
import Derived.Test.YtdlgihbpiakebaaGreatMd20
import Derived.Test.YtdlgihbpiakebaaGreatMd21
set_option maxRecDepth 100000
set_option maxHeartbeats 4000000
namespace Go.Proofs.YtdlgihbpiakebaaGreat
open Go Go.RowKit Go.Shelf
attribute [local go_sem] Oper.semAt_some
theorem qKd (l : List UInt8) (p : Nat) : ∀ m,m ≤ p + 1 → (qMd (fx p) m).foldl (fun (s : qAB) (x : Fin (p + 1))=>qGt s (qAq (qFL l x.val))) iv = qRt l m
 | 0,_=>rfl
 | m + 1,h=>by
  rw [qFM,List.foldl_append,qKd l p m (by omega),List.foldl_cons,List.foldl_nil,qPh p m (by omega)]
  rfl
theorem qPJ (bs : List UInt8) (k : Nat) : qA1 (bs ++ [128] ++ List.replicate k 0) ++ [V8 0] = qA1 (bs ++ [128] ++ List.replicate (k + 1) 0):=by
 rw [List.replicate_succ',← List.append_assoc]
 simp [qA1]
theorem qPK (v : Value) (rows : List (List UInt8)) (hn : rows.length ≤ 1000) (hl : rows.flatten.length ≤ 60000) (w : World) (h : qBE w v rows) :
 Calls Tryz.prog 60 #[v] w fun e w'=>e = .returned (Pr (qQu rows.flatten)) ∧ qA4 w w':=by
 obtain ⟨bs,hbs⟩ : ∃ bs,bs = rows.flatten:=⟨_,rfl⟩
 rw [← hbs] at hl ⊢
 have HBS:=qh hbs
 clear hbs
 refine (callsIn_wide (n:=10)).1 ?_
 refine callsIn_of_wp_marks Tryz.func60 rfl trivial ?_ rfl
 simp only [Tryz.ntmps60,List.size_toArray,List.length_cons,List.length_nil,Nat.reduceAdd,Nat.reduceSub,Array.replicate_succ,Array.replicate_zero,List.push_toArray,List.append_toArray,List.nil_append,List.cons_append]
 refine wpIn_wide.2 ?_
 have hk1 : qA4 w (w.alloc (.cells #[U 0#64,U 0#64] 115)):=qal _
 have hR:=Blk.new w #[U 0#64,U 0#64] 115
 have hs1 : (w.alloc (.cells #[U 0#64,U 0#64] 115)).heap.size = w.heap.size + 1:=by simp
 replace h:=h.kept hk1
 go_wp2_with fail
 generalize (w.alloc (.cells #[U 0#64,U 0#64] 115)) = W1 at *
 refine (qCb v rows hn (by rw [← HBS.out];omega) _ h).mono ?_
 rintro e w2 ⟨r,rfl,hown,hk2⟩
 rw [← HBS.out] at hown
 have hk3 : qA4 W1 (w2.alloc (.cells #[V8 128] 5)):=qA4.of hk2 (qal _)
 have ho2:=qA3 hown (show qA4 w2 (w2.alloc (.cells #[V8 128] 5)) from qal _)
 have hz3:=hk3.size
 go_wp2_with (at_builtin;refine qAv qAw rfl (by rfl) (by rfl) (by rfl) ho2 (Sl.one w2 (V8 128) 5) (by simp) (by intro u hu;simp at hu;subst hu;rfl) (by unfold maxLen;omega) (by omega) hz3 ?_;intro v4 w4 hown4 hg4 hat4;obtain ⟨a4,c4,e4⟩:=(Sl.of_own hown4).len;subst e4)
 have hk4 : qA4 W1 w4:=qAD hk3 ho2 hg4 hz3
 replace hown4 : w4.ownsRow W1.heap.size 5 1 (.slice a4 (bs.length + 1) c4) (bs.length + 1) (qA1 (bs ++ [128] ++ List.replicate 0 0)):=by
  have : qA1 bs ++ [V8 128] = qA1 (bs ++ [128] ++ List.replicate 0 0):=by simp [qA1]
  rw [← this];exact hown4
 have HR:=hR.kept hk4
 clear hg4 hat4 ho2 hown hk2 hk3 hz3
 obtain ⟨N,hN⟩ : ∃ N,N = bs.length:=⟨_,rfl⟩
 rw [← hN] at hl hown4 ⊢
 have i0 : (N : Int) ≤ 60000:=by omega
 have HN:=qh hN
 clear hN
 go_loopw [3] (fun bv wr=>∃ k : Nat,k ≤ qLR N ∧ wr.ownsRow W1.heap.size 5 1 bv (N + 1 + k) (qA1 (bs ++ [128] ++ List.replicate k 0)) ∧ qA4 W1 wr) (fun bv _=>N + 17 - qRN bv)
 case atStart=>exact ⟨0,Nat.zero_le _,hown4,hk4⟩
 case round =>
  obtain ⟨k,hk,hownk,hkk⟩:=hrel
  have hpl:=qPD N
  obtain ⟨ak,ck,ek⟩:=(Sl.of_own hownk).len
  subst ek
  obtain ⟨L,hL⟩ : ∃ L,L = N + 1 + k:=⟨_,rfl⟩
  rw [← hL] at hownk ⊢
  have hmod : (L : Int).tmod 16 = ((L % 16 : Nat) : Int):=by rw [Int.tmod_eq_emod_of_nonneg (by omega)];omega
  obtain ⟨q,hq⟩ : ∃ q,q = L % 16:=⟨_,rfl⟩
  rw [← hq] at hmod
  have i1 : (L : Int) ≤ 60020:=by omega
  have HL:=qh hL
  have HQ:=qh hq
  clear hL hq
  by_cases hlt : k < qLR N
  · have q1 : ((q : Int) != 8) = true:=by
     have:=qPC N k hlt
     rw [← HL.out,← HQ.out] at this
     simp;omega
    have hk5 : qA4 W1 (wr.alloc (.cells #[V8 0] 5)):=qA4.of hkk (qal _)
    have ho5:=qA3 hownk (show qA4 wr (wr.alloc (.cells #[V8 0] 5)) from qal _)
    have hz5:=hk5.size
    go_wp2_with (at_builtin;refine qAv qAw rfl (by rfl) (by rfl) (by rfl) ho5 (Sl.one wr (V8 0) 5) (by simp) (by intro u hu;simp at hu;subst hu;rfl) (by unfold maxLen;omega) (by omega) hz5 ?_;intro v6 w6 hown6 hg6 hat6;obtain ⟨a6,c6,e6⟩:=(Sl.of_own hown6).len;subst e6)
    refine ⟨⟨k + 1,by omega,?_,qAD hk5 ho5 hg6 hz5⟩,by simp [qRN];have:=HL.out;omega⟩
    rw [← qPJ,show N + 1 + (k + 1) = L + 1 by have:=HL.out;omega]
    exact hown6
  · obtain rfl : k = qLR N:=by omega
    have q1 : ((q : Int) != 8) = false:=by
     have:=qK9 N
     rw [← HL.out,← HQ.out] at this
     simp;omega
    go_wp2_with fail
    rw [show Value.int IntKind.u64 (N : Int) = U (BitVec.ofInt 64 (N : Int)) from qRI _ (by omega) (by omega)]
    refine (qAO _ 8 (by omega) (by omega) _).mono ?_
    rintro e w7 ⟨x7,rfl,hown7,hk7⟩
    have s7:=Sl.of_own hown7
    have ho7:=qA3 hownk hk7
    have hk8:=qA4.of hkk hk7
    have hz8:=hk8.size
    clear hown7 hk7
    go_wp2_with (at_builtin;refine qAv qAw rfl (by rfl) (by rfl) (by rfl) ho7 s7 (by simp [qA1,qAb]) (qAI _) (by unfold maxLen;omega) (by omega) hz8 ?_;intro v9 w9 hown9 hg9 hat9;obtain ⟨a9,c9,e9⟩:=(Sl.of_own hown9).len;subst e9)
    have hk9 : qA4 W1 w9:=qAD hk8 ho7 hg9 hz8
    have hown9' : w9.ownsRow W1.heap.size 5 1 (.slice a9 (L + 8) c9) (L + 8) (qA1 (qHe bs)):=by
     have : qA1 (bs ++ [128] ++ List.replicate (qLR N) 0) ++ qA1 (qB2 (BitVec.ofInt 64 (N : Int)) 8) = qA1 (qHe bs):=by
      rw [HN.out,← qBf];rfl
     rw [← this];exact hown9
    clear hg9 hat9 hown9 ho7 hownk hk8 hkk hz8 s7
    obtain ⟨m,hm⟩:=qPE bs
    have hm2 : 16 * m = L + 8:=by rw [← hm,qFK,← HN.out];have:=HL.out;omega
    obtain ⟨g,gc,cur,hg1,hg0,hG,hgc,hgm,hgs,htake⟩ : ∃ g cap cur,(Value.slice a9 (L + 8) c9) = .slice (some ⟨g,0,none⟩) (L + 8) cap ∧ W1.heap.size ≤ g ∧ Blk w9 g cur 5 ∧ L + 8 ≤ cap ∧ cap ≤ maxLen ∧ cur.size = cap * 1 ∧ cur.toList.take ((L + 8) * 1) = qA1 (qHe bs):=by
     rcases hown9'.2 with ⟨_,h⟩ | ⟨g,cap,cur,h1',h2,h3,h4,h5,h6,h7⟩
     · omega
     · exact ⟨g,cap,cur,h1',h2,h3,h4,h5,h6,h7⟩
    cases hg1
    clear hown9'
    obtain ⟨S,hS⟩ : ∃ S,S = w9.heap.size:=⟨_,rfl⟩
    have hT0:=Blk.new w9 #[U 7640891576956012808#64,U 13503953896175478587#64] 115
    have hG0:=hG.alloc (.cells #[U 7640891576956012808#64,U 13503953896175478587#64] 115)
    have hZ0:=(hR.kept hk9).alloc (.cells #[U 7640891576956012808#64,U 13503953896175478587#64] 115)
    have hb0 : qA4 W1 (w9.alloc (.cells #[U 7640891576956012808#64,U 13503953896175478587#64] 115)):=qA4.of hk9 (qal _)
    have hz0 : (w9.alloc (.cells #[U 7640891576956012808#64,U 13503953896175478587#64] 115)).heap.size = S + 1:=by rw [hS];simp
    have hgS : g < S:=by rw [hS];exact hG.lt
    have hWS : W1.heap.size ≤ S:=by rw [hS];exact hk9.size
    generalize w9.alloc (.cells #[U 7640891576956012808#64,U 13503953896175478587#64] 115) = w10 at *
    rw [← hS] at hT0
    simp only [← hS]
    clear hS hG hk9
    refine (qMf _ _ _ _).mono ?_
    rintro e w11 ⟨rfl,rfl⟩
    have hT:=(hT0.alloc (.cells #[.slice (some ⟨g,0,none⟩) (L + 8) c9] 32)).alloc (.cells #[.int .i64 16] 3)
    have hG:=(hG0.alloc (.cells #[.slice (some ⟨g,0,none⟩) (L + 8) c9] 32)).alloc (.cells #[.int .i64 16] 3)
    have hZ:=(hZ0.alloc (.cells #[.slice (some ⟨g,0,none⟩) (L + 8) c9] 32)).alloc (.cells #[.int .i64 16] 3)
    have hX : Blk ((w10.alloc (.cells #[.slice (some ⟨g,0,none⟩) (L + 8) c9] 32)).alloc (.cells #[.int .i64 16] 3)) (S + 1) #[.slice (some ⟨g,0,none⟩) (L + 8) c9] 32:=by rw [← hz0];exact (Blk.new _ _ _).alloc _
    have hY : Blk ((w10.alloc (.cells #[.slice (some ⟨g,0,none⟩) (L + 8) c9] 32)).alloc (.cells #[.int .i64 16] 3)) (S + 2) #[.int .i64 16] 3:=by
     have:=Blk.new (w10.alloc (.cells #[.slice (some ⟨g,0,none⟩) (L + 8) c9] 32)) #[.int .i64 16] 3
     simpa [hz0] using this
    have hbel : Below w.heap.size w ((w10.alloc (.cells #[.slice (some ⟨g,0,none⟩) (L + 8) c9] 32)).alloc (.cells #[.int .i64 16] 3)):=(((hk1.of hb0).alloc (by omega) _).alloc (by simp;omega) _)
    have hz11 : ((w10.alloc (.cells #[.slice (some ⟨g,0,none⟩) (L + 8) c9] 32)).alloc (.cells #[.int .i64 16] 3)).heap.size = S + 3:=by simp [hz0]
    rw [hz0]
    clear hT0 hG0 hZ0 hb0
    go_wp2_with fail
    generalize (w10.alloc (.cells #[.slice (some ⟨g,0,none⟩) (L + 8) c9] 32)).alloc (.cells #[.int .i64 16] 3) = W11 at *
    obtain ⟨p,hp⟩ : ∃ p,m = p + 1:=⟨m - 1,by omega⟩
    have hpad : (qHe bs).length = L + 8:=by rw [hm,hm2]
    have HM:=qh hm
    have HM2:=qh hm2
    have HPAD:=qh hpad
    clear hm hm2 hpad
    refine (wpIn_wide (n:=10)).1 ?_
    refine wpIn_rangeFunc_ownG rfl (by omega) (gf:=133) (lb:=#[.pointer (some ⟨S + 1,0,none⟩),.pointer (some ⟨S + 1 + 1,0,none⟩)]) rfl trivial (enters_of Tryz.func133 (by kernel_rfl) rfl)
     (qJk 9 (by omega) (S + 1) (S + 1 + 1) g 0 p m c9 hp (by have:=HM2.out;omega) (by have:=HM2.out;omega) hgm W11 (by omega) (by omega) (by rw [HM2.out];exact hX.cell 0) (hY.cell 0)) (fun h k=>h.trans k) (qPI (by simp;omega)) (Below.refl _ _) (fun _=>rfl)
     (fun pre W=>(Blk W S #[U (pre.foldl (fun (s : qAB) (x : Fin (p + 1))=>qGt s (qAq (qFL (qHe bs) x.val))) iv).1,U (pre.foldl (fun (s : qAB) (x : Fin (p + 1))=>qGt s (qAq (qFL (qHe bs) x.val))) iv).2] 115 ∧ Blk W w.heap.size #[U 0#64,U 0#64] 115 ∧ Blk W g cur 5) ∧ Below w.heap.size w W ∧ S + 3 ≤ W.heap.size)
     (fun _ _ _=>False)
     (OwnFrom.and (Own.from (fun s A C row hs hg hr=>⟨qJj hs.1 hg hr,qJj hs.2.1 hg hr,qJj hs.2.2 hg hr⟩) _) (OwnFrom.and (ownFrom_below qle (by omega)) (fun s A C row hs hg hr=>Nat.le_trans hs hg.size)))
     (fun _ _ _ _ _ hs _ _=>hs)
     ⟨⟨hT,hZ,hG⟩,hbel,by omega⟩
     (fun x=>{ tmps:=#[v,undef,.pointer (some ⟨w.heap.size,0,none⟩),.slice (some ⟨g,0,none⟩) (L + 8) c9,.int .i64 N,.pointer (some ⟨S,0,none⟩),.slice (some ⟨g,0 + 16 * x.val,none⟩) 16 16,undef,undef,v,r,.slice (some ⟨w2.heap.size,0,none⟩) 1 1,.slice a4 (N + 1) c4,.slice a4 (N + 1) c4,.int .i64 (N + 1),.int .i64 N,.slice ak L ck,.int .i64 L,.int .i64 q,.bool false,u20,u21,u22,.slice ak L ck,.int .i64 N,U (BitVec.ofNat 64 N),x7,.slice (some ⟨g,0,none⟩) (L + 8) c9,.agg #[U 7640891576956012808#64,U 13503953896175478587#64],.slice (some ⟨g,0,none⟩) (L + 8) c9,.func (.func 133) #[] #[.pointer (some ⟨S + 1,0,none⟩),.pointer (some ⟨S + 1 + 1,0,none⟩)],.slice (some ⟨g,0 + 16 * x.val,none⟩) 16 16,undef,undef,undef,undef,undef,undef,undef,undef,undef],defers:=[] }) ?assign ?body ?done ?stop
    case assign =>
     intro l x W K hK
     gi_wp2
     simp only [Nat.zero_add] at hK
     exact hK
    case body =>
     rintro l pre x W ⟨⟨hT,hZ,hG⟩,hBl,hSz⟩ _
     obtain ⟨s,hs⟩ : ∃ s : qAB,s = pre.foldl (fun (s : qAB) (x : Fin (p + 1))=>qGt s (qAq (qFL (qHe bs) x.val))) iv:=⟨_,rfl⟩
     rw [← hs] at hT
     have HSS:=qh hs
     have hx:=x.isLt
     obtain ⟨k,hk⟩ : ∃ k,k = x.val:=⟨_,rfl⟩
     simp only [← hk] at hx ⊢
     have hrl:=qI8 (qHe bs) k m HM.out (by omega)
     have hrow : Sl W (.slice (some ⟨g,16 * k,none⟩) 16 16) (qFL (qHe bs) k).length (qA1 (qFL (qHe bs) k)):=by
      rw [hrl]
      refine Sl.mk qle (by decide) fun j u hj=>?_
      rw [hG.cell]
      have hj1:=(List.getElem?_eq_some_iff.1 hj).1
      rw [qA6,hrl] at hj1
      unfold qFL at hj
      rw [← qE2,← qE3,List.getElem?_take,if_pos hj1,List.getElem?_drop,← htake,List.getElem?_take,if_pos (by have:=HM2.out;omega)] at hj
      simpa using hj
     have HK:=qh hk
     have HRL:=qh hrl
     clear hs hk hrl
     gi_wp2_with fail
     refine ⟨trivial,?_⟩
     refine (CallsIn.inRound l (callsIn_wide.2 (qCh _ _ _ hrow HRL.out))).mono ?_
     rintro e w12 ⟨rfl,hk12⟩
     obtain ⟨M,hM⟩ : ∃ M,M = qAq (qFL (qHe bs) k):=⟨_,rfl⟩
     rw [← hM]
     have hP:=Blk.new w12 #[U M.1,U M.2] 115
     have hka : qA4 W (w12.alloc (.cells #[U M.1,U M.2] 115)):=hk12.alloc (by have:=hk12.size;omega) _
     replace hT:=hT.kept hka
     replace hZ:=hZ.kept hka
     replace hG:=hG.kept hka
     have hBl2:=hBl.trans (hka.mono hBl.size)
     have hSz2:=Nat.le_trans hSz hka.size
     have hgK:=hka.from W11.heap.size
     have hst:=hka.stays (bs:=[S + 1,S + 1 + 1]) (by simp;omega)
     have HMM:=qh hM
     clear hk12 hrow hka hM
     have t0:=hT.cell 0
     have t1:=hT.cell 1
     have p0:=hP.cell 0
     have p1:=hP.cell 1
     gi_wp2_with fail
     refine ⟨trivial,?_⟩
     refine (CallsIn.inRound l (callsIn_wide.2 (qOd _ _ _ _ _))).mono ?_
     rintro e w13 ⟨rfl,hk13⟩
     replace hT:=hT.kept hk13
     replace hZ:=hZ.kept hk13
     replace hG:=hG.kept hk13
     have hgK2:=hgK.trans (hk13.from W11.heap.size)
     have hst2:=hst.trans (hk13.stays (bs:=[S + 1,S + 1 + 1]) (by simp;simp at hSz2;omega))
     replace hBl2:=hBl2.trans (hk13.mono hBl2.size)
     replace hSz2:=Nat.le_trans hSz2 hk13.size
     obtain ⟨E,hE⟩ : ∃ E,E = qGt (s.1,s.2) (M.1,M.2):=⟨_,rfl⟩
     rw [← hE]
     have HE:=qh hE
     clear t0 t1 p0 p1 hk13 hP hE hgK hst
     have t0:=hT.cell 0
     have t1:=hT.cell 1
     have tf0:=hT.free 0
     have tf1:=hT.free 1
     gi_wp2
     refine ⟨hgK2.trans (((KeepsOthers.setCell _ _ _).trans (KeepsOthers.setCell _ _ _)).from _),hst2.trans (((qDb.refl _ _).set (by simp;omega) _).set (by simp;omega) _),⟨?_,?_,?_⟩,(hBl2.setCell (by show _ ≤ S;omega) _).setCell (by show _ ≤ S;omega) _,by simpa using hSz2⟩
     · rw [List.foldl_append,List.foldl_cons,List.foldl_nil,← HSS.out,← HK.out,← HMM.out]
       have:=(hT.set 0 (U E.1)).set 1 (U E.2)
       rw [show qGt s M = E from HE.out.symm]
       simpa using this
     · exact (hZ.other (a:=⟨S,0,none⟩) (by show w.heap.size ≠ S;omega) _).other (a:=⟨S,1,none⟩) (by show w.heap.size ≠ S;omega) _
     · exact (hG.other (a:=⟨S,0,none⟩) (by show g ≠ S;omega) _).other (a:=⟨S,1,none⟩) (by show g ≠ S;omega) _
    case done =>
     rintro D ys W hD rfl ⟨⟨hT,hZ,_⟩,hBl,_⟩ hK
     have hf:=qKd (qHe bs) p m (by omega)
     rw [hf] at hT
     obtain ⟨X,hX⟩ : ∃ X,X = qRt (qHe bs) m:=⟨_,rfl⟩
     rw [← hX] at hT
     have hXs : X = qQu bs:=by
      rw [hX,qQu,HM.out]
      congr 1;omega
     have HX:=qh hXs
     have c0:=hT.cell 0
     have c1:=hT.cell 1
     have r0:=hZ.cell 0
     have r1:=hZ.cell 1
     have g0:=hZ.free 0
     have g1:=hZ.free 1
     clear hf hX hXs
     go_wp2
     have hD2 : D ≠ w.heap.size:=by omega
     have hK2 : ((W.setCell ⟨w.heap.size,0,none⟩ (U X.1)).setCell ⟨w.heap.size,1,none⟩ (U X.2)).heap[D]? = some (.deferred (some [])):=(Below.heap_setCell _ _ _ _ hD2).trans ((Below.heap_setCell _ _ _ _ hD2).trans hK)
     have hr2 : Blk ((W.setCell ⟨w.heap.size,0,none⟩ (U X.1)).setCell ⟨w.heap.size,1,none⟩ (U X.2)) w.heap.size #[U X.1,U X.2] 115:=by
      have:=(hZ.set 0 (U X.1)).set 1 (U X.2)
      simpa using this
     have hBl2 : Below w.heap.size w ((W.setCell ⟨w.heap.size,0,none⟩ (U X.1)).setCell ⟨w.heap.size,1,none⟩ (U X.2)):=(hBl.setCell qle _).setCell qle _
     generalize ((W.setCell ⟨w.heap.size,0,none⟩ (U X.1)).setCell ⟨w.heap.size,1,none⟩ (U X.2)) = W9 at *
     have hr3 : Blk (W9.putObj D (.deferred none)) w.heap.size #[U X.1,U X.2] 115:=(World.putObj_heap_other (Ne.symm hD2)).trans hr2
     have q0:=hr3.cell 0
     have q1:=hr3.cell 1
     refine ⟨by simp,.inl ⟨_,_,rfl,run_takeDeferred hK2,?_⟩⟩
     refine ⟨Pr X,?_,?_⟩
     · simp [results,Tryz.results60,go_sem,q0,q1]
       try exact ⟨rfl,rfl⟩
     · refine ⟨by rw [← HX.out],?_⟩
       exact hBl2.trans (belowK_b (w:=w) qle W9 D _ _ (by omega) hK2 rfl rfl)
    case stop =>
     rintro D c pre W _ _ h _
     exact h.elim
end Go.Proofs.YtdlgihbpiakebaaGreat
