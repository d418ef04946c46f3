import Derived.Test.YtdlgihbpiakebaaGreatMk07
import Derived.Test.YtdlgihbpiakebaaGreatMk14
import Derived.Test.YtdlgihbpiakebaaGreatMk30
import Derived.Test.YtdlgihbpiakebaaGreatMk45
set_option maxRecDepth 100000
set_option maxHeartbeats 4000000
namespace Go.Proofs.YtdlgihbpiakebaaGreat
open Go Go.RowKit Tryz
structure qId (w:World)(A Q:Nat)(v:Value)(a:Ag):Prop where
 len:a.last.length=16
 slots:∀x∈a.q,x<16
 age:Blk w A (qCf a.last a.ticks Q).toArray 157
 que:Blk w Q #[v,.func (.func 71) #[.pointer (some ⟨A,0,none⟩)] #[]] 160
 row:w.ownsRow 0 3 1 v a.q.length (qBw a.q)
theorem qEl.in {w:World}{A Q g cap:Nat}{a:Ag}(h:qEl w A Q g cap a):qId w A Q (.slice (some ⟨g,0,none⟩) a.q.length cap) a:=⟨h.len,h.slots,h.age,h.que,h.row⟩
theorem qId.hp {w:World}{A Q:Nat}{v:Value}{a:Ag}(h:qId w A Q v a)(hq:0<a.q.length):∃g cap,v= .slice (some ⟨g,0,none⟩) a.q.length cap∧qEl w A Q g cap a:=by
 obtain⟨g,cap,rfl⟩:=qAy h.row hq
 exact⟨g,cap,rfl,h.len,h.slots,h.age,h.que,h.row⟩
theorem qNR {v:Value}{w w':World}(h:w.grownBy w' v.ownBlock):Chg v.ownBlock.toList w w':=⟨h.os,h.tape,h.output,h.size,fun k c hn=>h.block k c fun e=>hn (by rw[qAt];exact e.symm)⟩
theorem qMl (x:Int)(w:World):(Instr.typeAssert (.iface 3 (.int .i64 x)) 20 3 true).run prog w= .ok (.tuple #[.int .i64 x,.bool true]) w:=by kernel_rfl
theorem qNS (l:List Nat):∀u∈qBw l,u.oneCell'=true:=by
 intro u c;simp[qBw]at c;obtain⟨x,_,rfl⟩:=c;rfl
theorem qNT (A Q:Nat)(v:Value)(a:Ag)(w:World)(h0:qId w A Q v a)(x:Nat)(hx:x<16)(hm:a.q.length≤1000):Calls prog 213 #[.pointer (some ⟨Q,0,none⟩),.iface 3 (.int .i64 (x:Int))] w fun e w'=>∃v',e= .returned (.tuple #[])∧qId w' A Q v' (a.setq (a.q++ [x]))∧Chg (Q::v.ownBlock.toList) w w'∧(∀g,v'.ownBlock=some g→v.ownBlock=some g∨w.heap.size≤g):=by
 have c0:=h0.que.cell 0
 have a0:=qMl (x:Int)
 have c:qA4 w (w.alloc (.cells #[.int .i64 (x:Int)] 3)):=qal _
 have ho:=qA5 h0.row c
 go_enter func213,ntmps213
 go_wp2_with (at_builtin;refine qAw qR1 rfl (by rfl) (by rfl) (by rfl) ho (Sl.one _ _ _) (by rfl) (qNS [x]) (by unfold maxLen;omega) (by omega) (Nat.zero_le _) ?_;intro v5 V j Z J;obtain⟨Y,f,rfl⟩:=qAy j (by omega);have F:=qNR Z;have l:=F.blk (h0.que.kept c) (qBX ho (h0.que.kept c) (by decide));have e5:=l.cell 0;have f5:=l.free 0;clear c0)
 refine bodyPost_end (results_none rfl _ _ _) rfl ⟨.slice (some ⟨Y,0,none⟩) (a.q.length+1) f,rfl,?_,?_,?_⟩
 · have O:Chg [Q] V (V.setCell ⟨Q,0,none⟩ (.slice (some ⟨Y,0,none⟩) (a.q.length+1) f)):=Chg.step (by simp) _
   have hb:=l.set 0 (.slice (some ⟨Y,0,none⟩) (a.q.length+1) f)
   have I:=O.blk (F.blk (h0.age.kept c) (qBX ho (h0.age.kept c) (by decide))) (by simpa using qAE h0.age h0.que (by decide))
   have G:=qAu j O l (by decide)
   have hl:(a.q++ [x]).length=a.q.length+1:=by simp
   refine⟨h0.len,?_,I,by simpa using hb,?_⟩
   · intro y N
     rcases List.mem_append.1 N with N|N
     · exact h0.slots y N
     · simp at N;omega
   · show World.ownsRow _ _ _ _ _ (a.q++ [x]).length (qBw (a.q++ [x]))
     rw[hl,qIb]
     exact G
 · have O:Chg [Q] V (V.setCell ⟨Q,0,none⟩ (.slice (some ⟨Y,0,none⟩) (a.q.length+1) f)):=Chg.step (by simp) _
   exact(Chg.of_kept c).trans ((F.mono (fun b hb=>List.mem_cons_of_mem _ hb)).trans (O.mono (by simp)))
 · intro g hg
   rcases J with h|h
   · exact .inl (h ▸ hg)
   · rw[h]at hg
     exact .inr (by have:=Option.some.inj hg;have:=c.size;simp at *;omega)
theorem qIe (A Q g cap:Nat)(a:Ag)(w:World)(h0:qEl w A Q g cap a)(f:0<a.q.length)(hm:a.q.length≤1000):Calls prog 212 #[.pointer (some ⟨Q,0,none⟩)] w fun e w'=>∃x,e= .returned x∧qEl w' A Q g cap (a.setq a.q.dropLast)∧Chg [Q] w w':=by
 obtain⟨n,hn⟩:∃n,a.q.length=n+1:=⟨a.q.length - 1,by omega⟩
 have J:=h0.que.cell 0
 have f0:=h0.que.free 0
 have c1:=h0.cell n (by omega)
 have c:=h0.row
 have G:=h0.sl.le
 obtain⟨L,F⟩:∃L,L=a.q.length:=⟨_,rfl⟩
 rw[←F]at J c hn hm G
 have Y:=qh F
 clear F f
 have hcap:n+1≤cap:=by
  rcases c.2 with ⟨h,_⟩|⟨_,_,_,h,_,_,h2,_⟩
  · cases h
  · cases h;omega
 subst hn
 have i1:(n:Int)+1≤1000:=by omega
 have Z:((n+1:Nat):Int) - 1=(n:Int):=by omega
 go_enter func212,ntmps212
 go_wp2_with fail
 go_ret
 have f:Chg [Q] w (w.setCell ⟨Q,0,none⟩ (.slice (some ⟨g,0,none⟩) n cap)):=Chg.step (by simp) _
 have V:=h0.que.set 0 (.slice (some ⟨g,0,none⟩) n cap)
 have O:=qAu (qN5 c (Nat.le_succ n)) f h0.que (by decide)
 have I:a.q.dropLast=a.q.take n:=by rw[List.dropLast_eq_take,hn];rfl
 have j:(a.q.take n).length=n:=by rw[List.length_take,hn];omega
 have l:qBw (a.q.take n)=(qBw a.q).take n:=by simp[qBw,List.map_take]
 refine⟨_,rfl,?_,f⟩
 refine⟨h0.len,fun y N=>h0.slots y ((List.dropLast_subset _) N),f.blk h0.age (by simpa using qAE h0.age h0.que (by decide)),?_,?_⟩
 · show Blk _ Q #[.slice (some ⟨g,0,none⟩) a.q.dropLast.length cap,_] _
   rw[I,j]
   simpa using V
 · show World.ownsRow _ _ _ _ (.slice (some ⟨g,0,none⟩) a.q.dropLast.length cap) a.q.dropLast.length (qBw a.q.dropLast)
   rw[I,j,l]
   exact O
def qMm (l:List Int)(q:List Nat)(x:Nat):List Nat:=upQ l (q++ [x]) q.length
theorem qMn (l:List Int)(q:List Nat)(x:Nat):(qMm l q x).Perm (x::q):=
 (qLj l _ _ (by simp)).trans (List.perm_append_singleton x q)
def rmQ (l:List Int)(q:List Nat)(i:Nat):List Nat:=
 (if q.length - 1=i then q
  else if i<(qB9 l (swp q i (q.length - 1)) i (q.length - 1)).2 then(qB9 l (swp q i (q.length - 1)) i (q.length - 1)).1
  else upQ l (qB9 l (swp q i (q.length - 1)) i (q.length - 1)).1 i).dropLast
theorem qGn {q r:List Nat}{x:Nat}(h:r.Perm q)(hl:r[r.length - 1]? = some x):(x::r.dropLast).Perm q:=by
 have c:r≠ []:=fun e=>by subst e;simp at hl
 have e:r=r.dropLast++ [x]:=by
  have j:=List.dropLast_concat_getLast c
  have l:r.getLast c=x:=by
   rw[List.getLast_eq_getElem]
   have:=List.getElem?_eq_some_iff.1 hl
   exact this.2
  rw[l]at j
  exact j.symm
 have f:(x::r.dropLast).Perm (r.dropLast++ [x]):=(List.perm_append_singleton x _).symm
 rw[←e]at f
 exact f.trans h
theorem qLk (l:List Int)(q:List Nat)(i:Nat)(hi:i<q.length):(q[i]::rmQ l q i).Perm q:=by
 unfold rmQ
 split
 · rename_i h
   exact qGn (.refl _) (by rw[h];exact List.getElem?_eq_getElem hi)
 · rename_i h
   have j:i<q.length - 1:=by omega
   have c:(swp q i (q.length - 1)).length=q.length:=qB4 _ _ _
   have G:=qFW q i (q.length - 1) hi (by omega)
   have J:(swp q i (q.length - 1))[q.length - 1]? = some q[i]:=by
    unfold swp
    rw[List.getElem?_set_self (by simp;omega),List.getElem?_eq_getElem hi];rfl
   have I:=qHo l (swp q i (q.length - 1)) i (q.length - 1) j (by rw[c];omega)
   have f:=I.length_eq
   have F:=qMj l (swp q i (q.length - 1)) i (q.length - 1) j
   split
   · exact qGn (I.trans G) (by rw[f,c,F,J])
   · have N:=qLj l (qB9 l (swp q i (q.length - 1)) i (q.length - 1)).1 i (by rw[f,c];exact hi)
     exact qGn (N.trans (I.trans G)) (by rw[qFl,f,c,qPF _ _ _ _ j,F,J])
theorem qNU (A Q:Nat)(v:Value)(a:Ag)(w:World)(h0:qId w A Q v a)(x:Nat)(hx:x<16)(hm:a.q.length≤900):Calls prog 73 #[.iface 155 (.pointer (some ⟨Q,0,none⟩)),.iface 3 (.int .i64 (x:Int))] w fun e w'=>∃v',e= .returned (.tuple #[])∧qId w' A Q v' (a.setq (qMm a.last a.q x))∧Chg (Q::v.ownBlock.toList) w w'∧(∀g,v'.ownBlock=some g→v.ownBlock=some g∨w.heap.size≤g):=by
 go_enter func73,ntmps73
 go_wp2_with fail
 refine(qNT A Q v a w h0 x hx (by omega)).mono ?_
 rintro e w1 ⟨v1,rfl,J,h,f⟩
 have c:(a.q++ [x]).length=a.q.length+1:=by simp
 obtain⟨g,cap,rfl,G⟩:=J.hp (by show 0<(a.q++ [x]).length;omega)
 go_wp2_with fail
 refine(qLi A Q g cap _ w1 G).mono ?_
 rintro e Z ⟨rfl,rfl⟩
 have hl:(((a.setq (a.q++ [x])).q.length:Nat):Int)=(a.q.length:Int)+1:=by show(((a.q++ [x]).length:Nat):Int)=_;rw[c];omega
 rw[hl]
 have i1:(a.q.length:Int)≤900:=by omega
 have N:=qQl A Q g cap _ w1 G a.q.length (by show a.q.length<(a.q++ [x]).length;omega) (by show(a.q++ [x]).length≤1000;omega)
 have HX:=qh hl
 have Y:=qh c
 clear hl c
 go_wp2_with fail
 refine N.mono ?_
 rintro e w3 ⟨rfl,F,j⟩
 go_wp2
 have V:(a.setq (a.q++ [x])).setq (upQ (a.setq (a.q++ [x])).last (a.setq (a.q++ [x])).q a.q.length)=a.setq (qMm a.last a.q x):=rfl
 rw[V]at F
 have O:(a.setq (qMm a.last a.q x)).q.length=(a.q++ [x]).length:=qFl _ _ _
 refine bodyPost_end (results_none rfl _ _ _) rfl ⟨_,rfl,F.in,?_,?_⟩
 · rcases f g rfl with hg|hg
   · exact h.trans (j.mono (by intro b I;rw[List.mem_singleton]at I;subst I;exact List.mem_cons_of_mem _ (qAt.2 hg)))
   · exact qDt h j hg
 · intro g' l
   cases l
   exact f g rfl
theorem qPH (A Q g cap:Nat)(a:Ag)(w:World)(h0:qEl w A Q g cap a)(i:Nat)(hi:i<a.q.length)(hm:a.q.length≤1000):Calls prog 109 #[.iface 155 (.pointer (some ⟨Q,0,none⟩)),.int .i64 (i:Int)] w fun e w'=>∃x,e= .returned x∧qEl w' A Q g cap (a.setq (rmQ a.last a.q i))∧Chg [Q,g] w w':=by
 obtain⟨n,hn⟩:∃n,a.q.length=n+1:=⟨a.q.length - 1,by omega⟩
 have Z:a.q.length - 1=n:=by omega
 have f:((a.q.length:Nat):Int) - 1=(n:Int):=by omega
 have i1:(a.q.length:Int)≤1000:=by omega
 have i3:(n:Int)<1000:=by omega
 have N:=qLi A Q g cap a w h0
 have HC:=qh f
 have HN:=qh hn
 have I:=qh Z
 have HM:=qh hm
 go_enter func109,ntmps109
 go_wp2_with fail
 refine N.mono ?_
 rintro e w1 ⟨rfl,rfl⟩
 rw[show((a.q.length:Nat):Int)=(n:Int)+1 by omega]
 clear f hn Z i1
 by_cases G:i=n
 · have e1:(i:Int)=(n:Int):=by omega
   subst G
   go_wp2_with fail
   refine(qIe A Q g cap a w h0 (by omega) (by omega)).mono ?_
   rintro e w2 ⟨x,rfl,H2,j⟩
   go_wp2
   go_ret
   refine⟨_,rfl,?_,j.mono (by simp)⟩
   rw[show rmQ a.last a.q i=a.q.dropLast by unfold rmQ;rw[if_pos I.out]]
   exact H2
 · have V:i<n:=by have:=HN.out;omega
   have n1:¬(n:Int)=(i:Int):=by omega
   have n2:((n:Int)==(i:Int))=false:=by simpa using n1
   have O:=HN.out
   have a2:(swp a.q i n).length=a.q.length:=qB4 _ _ _
   have CS:=qDF A Q g cap a w h0 i n hi (by omega)
   have l:=qh a2
   have HQ:=qh O
   clear a2 O
   go_wp2_with fail
   refine CS.mono ?_
   rintro e w2 ⟨rfl,H2,j⟩
   have CD:=qPG A Q g cap (a.setq (swp a.q i n)) w2 H2 i n V (by show n≤(swp a.q i n).length;rw[l.out];have:=HQ.out;omega) (by show(swp a.q i n).length≤1000;rw[l.out];exact HM.out)
   go_wp2_with fail
   refine CD.mono ?_
   rintro e w3 ⟨rfl,H3,Y⟩
   obtain⟨B,hB⟩:∃B,B=decide (i<(qB9 a.last (swp a.q i n) i n).2):=⟨_,rfl⟩
   have J:decide (i<(qB9 (a.setq (swp a.q i n)).last (a.setq (swp a.q i n)).q i n).2)=B:=hB.symm
   rw[J]
   have HB:=qh hB
   clear hB J
   have a1:(qB9 a.last (swp a.q i n) i n).1.length=a.q.length:=(qJb _ _ _ _ V (by rw[l.out];have:=HQ.out;omega)).trans l.out
   have c:=qh a1
   clear a1
   cases B
   · have CU:=qQl A Q g cap (a.setq (qB9 a.last (swp a.q i n) i n).1) w3 H3 i (by show i<(qB9 a.last (swp a.q i n) i n).1.length;rw[c.out];exact hi) (by show(qB9 a.last (swp a.q i n) i n).1.length≤1000;rw[c.out];exact HM.out)
     go_wp2_with fail
     refine CU.mono ?_
     rintro e w4 ⟨rfl,H4,a3⟩
     have a0:(upQ a.last (qB9 a.last (swp a.q i n) i n).1 i).length=a.q.length:=(qFl _ _ _).trans c.out
     have CP:=qIe A Q g cap (a.setq (upQ a.last (qB9 a.last (swp a.q i n) i n).1 i)) w4 H4 (by show 0<(upQ a.last (qB9 a.last (swp a.q i n) i n).1 i).length;omega) (by show(upQ a.last (qB9 a.last (swp a.q i n) i n).1 i).length≤1000;have:=HM.out;omega)
     have a4:=qh a0
     clear a0
     go_wp2_with fail
     refine CP.mono ?_
     rintro e w5 ⟨x,rfl,H5,F⟩
     go_wp2
     go_ret
     refine⟨_,rfl,?_,((((j.trans Y).trans a3).mono (by simp))).trans (F.mono (by simp))⟩
     rw[show rmQ a.last a.q i=(upQ a.last (qB9 a.last (swp a.q i n) i n).1 i).dropLast by
      unfold rmQ
      rw[I.out,if_neg (fun e=>G e.symm),if_neg (by intro h;have h2:=HB.out;rw[decide_eq_true h]at h2;cases h2)]]
     exact H5
   · have CP:=qIe A Q g cap (a.setq (qB9 a.last (swp a.q i n) i n).1) w3 H3 (by show 0<(qB9 a.last (swp a.q i n) i n).1.length;rw[c.out];omega) (by show(qB9 a.last (swp a.q i n) i n).1.length≤1000;rw[c.out];exact HM.out)
     go_wp2_with fail
     refine CP.mono ?_
     rintro e w5 ⟨x,rfl,H5,F⟩
     go_wp2
     go_ret
     refine⟨_,rfl,?_,((j.trans Y).mono (by simp)).trans (F.mono (by simp))⟩
     rw[show rmQ a.last a.q i=(qB9 a.last (swp a.q i n) i n).1.dropLast by
      unfold rmQ
      rw[I.out,if_neg (fun e=>G e.symm),if_pos (of_decide_eq_true HB.out.symm)]]
     exact H5
theorem qSk {q:List Nat}{x k:Nat}(hk:k<q.length)(h1:x∉q.take k)(h2:q[k]=x):q.idxOf x=k:=by
 have e:q=q.take k++(x::q.drop (k+1)):=by
  rw[←h2,←List.drop_eq_getElem_cons hk,List.take_append_drop]
 rw[e,List.idxOf_append,if_neg h1]
 simp;omega
def qSl (q:List Nat)(x:Nat):Int:=if x∈q then(q.idxOf x:Int) else -1
theorem qMo (a:Option Addr)(cap:Nat)(q:List Nat)(x:Nat)(hl:q.length≤100000)(w:World)(hs:Sl w (.slice a q.length cap) q.length (qBw q)):Calls prog 108 #[.slice a q.length cap,.int .i64 (x:Int)] w fun e w'=>e= .returned (.int .i64 (qSl q x))∧w=w':=by
 obtain⟨L,N⟩:∃L,L=q.length:=⟨_,rfl⟩
 rw[←N]at hs hl ⊢
 have i0:(L:Int)≤100000:=by omega
 have Z:=qh N
 clear N
 go_enter func108,ntmps108
 go_wp2_with fail
 go_loopw [8] (fun i wr=>∃k:Nat,k≤L∧i= .int .i64 k∧x∉q.take k∧w=wr) (fun i _=>L - (intOf i).toNat)
 case atStart=>exact⟨0,by omega,rfl,by simp,rfl⟩
 case round =>
  obtain⟨k,hk,rfl,G,rfl⟩:=hrel
  by_cases V:k<L
  · obtain⟨b,off,a2,e',_,_,_,Y⟩:=hs.at (by rw[qEU,←Z.out];omega)
    cases e'
    have c:k<q.length:=by rw[←Z.out];exact V
    obtain⟨y,J⟩:∃y,y=q[k]:=⟨_,rfl⟩
    have c0:=Y k (.int .i64 (y:Int)) (by rw[J];exact qHm q k c)
    have l:q.take (k+1)=q.take k++ [y]:=by rw[List.take_succ_eq_append_getElem c,J]
    have n3:(k:Int)<(L:Int):=by omega
    have HY:=qh J
    have I:=qh G
    have a0:=qh l
    have HX:=qh Y
    clear G J l Y
    by_cases f:x=y
    · have F:=qh f
      have O:((x:Int)==(y:Int))=true:=by simp[f]
      have h:(x:Int)=(y:Int):=by omega
      clear f
      go_wp2
      try rw[Exit.noGoto_ret]
      go_ret
      refine⟨?_,rfl⟩
      have a1:=qSk c I.out (HY.out.symm.trans F.out.symm)
      have j:x∈q:=by rw[F.out,HY.out];exact List.getElem_mem c
      unfold qSl
      rw[if_pos j,a1]
      rfl
    · have O:((x:Int)==(y:Int))=false:=by simp;omega
      have h:¬(x:Int)=(y:Int):=by omega
      go_wp2
      refine⟨⟨k+1,by omega,by go_num,?_,trivial⟩,by simp[intOf];omega⟩
      rw[a0.out]
      simp only[List.mem_append,List.mem_singleton,not_or]
      exact⟨I.out,f⟩
  · have:k=L:=by omega
    have HK:=qh this
    have I:=qh G
    clear this G
    go_wp2
    go_ret
    refine⟨?_,rfl⟩
    have:=I.out
    rw[List.take_of_length_le (by rw[HK.out,Z.out];exact Nat.le_refl _)]at this
    unfold qSl
    rw[if_neg this]
    rfl
theorem qEV {l:List Int}(h:l.length=16)(t Q:Nat):(qCf l t Q).toArray[17]? = some (.pointer (some ⟨Q,0,none⟩)):=by
 rw[List.getElem?_toArray,qCf,List.getElem?_append_right (by rw[qB8];omega),qB8,h];rfl
theorem qJd {l:List Int}(h:l.length=16)(t Q:Nat):(qCf l t Q).toArray[16]? = some (.int .i64 (t:Int)):=by
 rw[List.getElem?_toArray,qCf,List.getElem?_append_right (by rw[qB8];omega),qB8,h];rfl
theorem qKy {l:List Int}(h:l.length=16)(t Q:Nat):(qCf l t Q).toArray.setIfInBounds 16 (.int .i64 ((t:Int)+1))=(qCf l (t+1) Q).toArray:=by
 rw[List.setIfInBounds_toArray,qCf,List.set_append,if_neg (by rw[qB8];omega),qB8,h];rfl
theorem qMp {l:List Int}(t Q x:Nat)(v:Int)(hx:x<l.length):(qCf l t Q).toArray.setIfInBounds x (.int .i64 v)=(qCf (l.set x v) t Q).toArray:=by
 rw[List.setIfInBounds_toArray,qCf,List.set_append,if_pos (by rw[qB8];omega)]
 simp[qCf,qBg,List.map_set]
def Ag.drop (a:Ag)(x:Nat):Ag:=if x∈a.q then a.setq (rmQ a.last a.q (a.q.idxOf x)) else a
def Ag.tick (a:Ag)(x:Nat):Ag:=⟨a.last.set x ((a.ticks:Int)+1),a.ticks+1,a.q⟩
def Ag.touch (a:Ag)(x:Nat):Ag:=((a.drop x).tick x).setq (qMm ((a.drop x).tick x).last (a.drop x).q x)
theorem qR5 (w:World):Calls prog 48 #[] w fun e w'=>∃A Q,e= .returned (.pointer (some ⟨A,0,none⟩))∧qId w' A Q (.slice none 0 0) ⟨List.replicate 16 0,0,[]⟩∧qA4 w w'∧w.heap.size≤A∧w.heap.size≤Q:=by
 go_enter func48,ntmps48
 go_wp2_with fail
 go_ret
 have q:=Blk.new w #[.int .i64 0,.int .i64 0,.int .i64 0,.int .i64 0,.int .i64 0,.int .i64 0,.int .i64 0,.int .i64 0,.int .i64 0,.int .i64 0,.int .i64 0,.int .i64 0,.int .i64 0,.int .i64 0,.int .i64 0,.int .i64 0,.int .i64 0,.pointer (some ⟨w.heap.size+1,0,none⟩)] 157
 have h:qA4 w (w.alloc (.cells #[.int .i64 0,.int .i64 0,.int .i64 0,.int .i64 0,.int .i64 0,.int .i64 0,.int .i64 0,.int .i64 0,.int .i64 0,.int .i64 0,.int .i64 0,.int .i64 0,.int .i64 0,.int .i64 0,.int .i64 0,.int .i64 0,.int .i64 0,.pointer (some ⟨w.heap.size+1,0,none⟩)] 157)):=qal _
 have c:=h.alloc (o:=.cells #[.slice none 0 0,.func (.func 71) #[.pointer (some ⟨w.heap.size,0,none⟩)] #[]] 160) (by simp)
 have j:=Blk.new (w.alloc (.cells #[.int .i64 0,.int .i64 0,.int .i64 0,.int .i64 0,.int .i64 0,.int .i64 0,.int .i64 0,.int .i64 0,.int .i64 0,.int .i64 0,.int .i64 0,.int .i64 0,.int .i64 0,.int .i64 0,.int .i64 0,.int .i64 0,.int .i64 0,.pointer (some ⟨w.heap.size+1,0,none⟩)] 157)) #[.slice none 0 0,.func (.func 71) #[.pointer (some ⟨w.heap.size,0,none⟩)] #[]] 160
 have l:(w.alloc (.cells #[.int .i64 0,.int .i64 0,.int .i64 0,.int .i64 0,.int .i64 0,.int .i64 0,.int .i64 0,.int .i64 0,.int .i64 0,.int .i64 0,.int .i64 0,.int .i64 0,.int .i64 0,.int .i64 0,.int .i64 0,.int .i64 0,.int .i64 0,.pointer (some ⟨w.heap.size+1,0,none⟩)] 157)).heap.size=w.heap.size+1:=by simp
 have f:=Blk.kept q (qal (.cells #[.slice none 0 0,.func (.func 71) #[.pointer (some ⟨w.heap.size,0,none⟩)] #[]] 160))
 rw[l]at j
 exact⟨w.heap.size,w.heap.size+1,rfl,⟨by simp,by simp,f,j,⟨rfl,.inl ⟨rfl,rfl⟩⟩⟩,c,Nat.le_refl _,by omega⟩
theorem qLl (A Q:Nat)(v:Value)(a:Ag)(w:World)(h0:qId w A Q v a)(x:Nat)(hm:a.q.length≤900):Calls prog 72 #[.pointer (some ⟨A,0,none⟩),.int .i64 (x:Int)] w fun e w'=>∃v',e= .returned (.bool (decide (x∈a.q)))∧qId w' A Q v' (a.drop x)∧Chg (Q::v.ownBlock.toList) w w'∧v'.ownBlock=v.ownBlock:=by
 have l:=h0.age.cell 17
 rw[qEV h0.len]at l
 have Y:=h0.que.cell 0
 obtain⟨I,h,rfl⟩:=(Sl.of_own h0.row).len
 have G:=qMo I h a.q x (by omega) w (Sl.of_own h0.row)
 go_enter func72,ntmps72
 go_wp2_with fail
 refine G.mono ?_
 rintro e w1 ⟨rfl,rfl⟩
 by_cases f:x∈a.q
 · have N:a.q.idxOf x<a.q.length:=List.idxOf_lt_length_iff.2 f
   have c:qSl a.q x=(a.q.idxOf x:Int):=if_pos f
   rw[c]
   obtain⟨g,cap,e,H⟩:=h0.hp (by omega)
   obtain⟨rfl,rfl⟩:I=some ⟨g,0,none⟩∧h=cap:=by cases e;exact⟨rfl,rfl⟩
   have O:=qPH A Q g h a w H (a.q.idxOf x) N (by omega)
   have n1:¬((a.q.idxOf x:Nat):Int)<0:=by omega
   have HX:=qh f
   have HM:=qh hm
   clear c G
   go_wp2_with fail
   refine O.mono ?_
   rintro e Z ⟨y,rfl,V,F⟩
   go_wp2
   go_ret
   have j:∀b∈ [Q,g],b∈Q::(Value.slice (some ⟨g,0,none⟩) a.q.length h).ownBlock.toList:=by
    intro b J
    simp only[List.mem_cons,List.not_mem_nil,or_false]at J
    rcases J with rfl|rfl
    · exact List.mem_cons_self
    · exact List.mem_cons_of_mem _ (qAt.2 rfl)
   refine⟨.slice (some ⟨g,0,none⟩) (rmQ a.last a.q (a.q.idxOf x)).length h,?_,?_,F.mono j,?_⟩
   · show Ending.returned (Value.bool true)=_
     rw[decide_eq_true f]
   · rw[show a.drop x=a.setq (rmQ a.last a.q (a.q.idxOf x)) from if_pos f]
     exact V.in
   · rfl
 · have c:qSl a.q x= -1:=if_neg f
   rw[c]
   clear c G
   go_wp2
   go_ret
   refine⟨.slice I a.q.length h,?_,?_,Chg.refl _ _,rfl⟩
   · show Ending.returned (Value.bool false)=_
     rw[decide_eq_false f]
   · rw[show a.drop x=a from if_neg f]
     exact h0
theorem qR6 (A Q:Nat)(v:Value)(a:Ag)(w:World)(h0:qId w A Q v a):Calls prog 188 #[.pointer (some ⟨A,0,none⟩)] w fun e w'=>e= .returned (.int .i64 a.q.length)∧w=w':=by
 have c:=h0.age.cell 17
 rw[qEV h0.len]at c
 have h:=h0.que.cell 0
 obtain⟨l,j,rfl⟩:=(Sl.of_own h0.row).len
 have f:Calls prog 190 #[.pointer (some ⟨Q,0,none⟩)] w fun e w'=>e= .returned (.int .i64 a.q.length)∧w=w':=by
  clear c
  go_enter func190,ntmps190
  go_wp2
  go_ret
  exact⟨rfl,rfl⟩
 go_enter func188,ntmps188
 go_wp2_with fail
 refine f.mono ?_
 rintro e w1 ⟨rfl,rfl⟩
 go_wp2
 go_ret
 exact⟨rfl,rfl⟩
theorem qMq (A Q:Nat)(v:Value)(a:Ag)(w:World)(h0:qId w A Q v a)(hq:0<a.q.length):Calls prog 180 #[.pointer (some ⟨A,0,none⟩)] w fun e w'=>e= .returned (.tuple #[.int .i64 ((a.q[0]:Nat):Int),.bool true])∧w=w':=by
 have c:=h0.age.cell 17
 rw[qEV h0.len]at c
 have j:=h0.que.cell 0
 obtain⟨g,cap,rfl,H⟩:=h0.hp hq
 have l:=H.cell 0 hq
 have f:=qR6 A Q _ a w h0
 have h:¬((a.q.length:Nat):Int)=0:=by omega
 have G:(((a.q.length:Nat):Int)==0)=false:=by simpa using h
 have F:(0:Int)<(a.q.length:Int):=by omega
 go_enter func180,ntmps180
 go_wp2_with fail
 refine f.mono ?_
 rintro e w1 ⟨rfl,rfl⟩
 go_wp2
 go_ret2
 exact⟨rfl,rfl⟩
theorem qNV (A Q:Nat)(v:Value)(a:Ag)(w:World)(h0:qId w A Q v a)(x:Nat)(hx:x<16)(hm:a.q.length≤800)(ht:a.ticks≤1000000000):Calls prog 49 #[.pointer (some ⟨A,0,none⟩),.int .i64 (x:Int)] w fun e w'=>∃v',e= .returned (.bool true)∧qId w' A Q v' (a.touch x)∧Chg (A::Q::v.ownBlock.toList) w w'∧(∀g,v'.ownBlock=some g→v.ownBlock=some g∨w.heap.size≤g):=by
 have n1:¬(x:Int)<0:=by omega
 have n2:¬16≤(x:Int):=by omega
 have n3:(x:Int)<16:=by omega
 have n4:(0:Int)≤(x:Int):=by omega
 have i1:(a.ticks:Int)≤1000000000:=by omega
 have HT:=qh ht
 have HM:=qh hm
 go_enter func49,ntmps49
 go_wp2_with fail
 refine(qLl A Q v a w h0 x (by omega)).mono ?_
 rintro e w1 ⟨v1,rfl,j,a4,a1⟩
 have V:(a.drop x).last=a.last:=by unfold Ag.drop;split<;>rfl
 have J:(a.drop x).ticks=a.ticks:=by unfold Ag.drop;split<;>rfl
 have f:(a.drop x).q.length≤a.q.length:=by
  unfold Ag.drop
  split
  · rename_i hx
    have:=(qLk a.last a.q (a.q.idxOf x) (List.idxOf_lt_length_iff.2 hx)).length_eq
    simp only[List.length_cons]at this
    show(rmQ a.last a.q (a.q.idxOf x)).length≤_
    omega
  · exact Nat.le_refl _
 obtain⟨b,G⟩:∃b,b=a.drop x:=⟨_,rfl⟩
 rw[←G]at j V J f
 have HB:=qh G
 have c1:=qh V
 have a8:=qh f
 clear G V f
 have i2:(b.ticks:Int)≤1000000000:=by rw[J];exact i1
 have b9:=qh J
 clear J
 have I:=j.age.cell 16
 rw[qJd j.len]at I
 have a9:=j.age.free 16
 go_wp2_with fail
 have Y:Chg [A] w1 (w1.setCell ⟨A,16,none⟩ (.int .i64 ((b.ticks:Int)+1))):=Chg.step (by simp) _
 have F:=j.age.set 16 (.int .i64 ((b.ticks:Int)+1))
 rw[qKy j.len]at F
 have N:=j.len
 have b5:=Y.blk j.que (by simpa using qAE j.que j.age (by decide))
 have b7:=qAu j.row Y j.age (by decide)
 clear I a9
 generalize (w1.setCell ⟨A,16,none⟩ (.int .i64 ((b.ticks:Int)+1)))=w3 at *
 refine qA3 [(0,0),(1,0),(2,0),(3,0),(4,0),(5,0),(6,1),(7,1),(8,0),(9,2)] (by kernel_rfl) (by kernel_rfl) ?_
 intro w4 c
 repeat
  refine qA0 _ rfl (fun K l=>?_)
  first
   | (refine qqP (by rfl) ?_;apply Exists.intro;refine⟨fun w' a5=>?_,l _ ?_⟩;(have I:=((F.kept c).kept a5).cell 16;rw[qJd N]at I;go_simp;first|done|rfl))
   | refine qqN (by rfl) (l _ ?_)
  clear l K;simp only[Act.put,qqB]
 refine qqH _ rfl (by rfl) (fun K l=>?_)
 go_wp2
 refine l _ _ (Below.refl _ _) ?_
 clear l K
 try simp only[Act.put,qqB]
 refine qqH _ rfl (by rfl) (fun K l=>?_)
 go_wp2
 refine l _ _ (Below.refl _ _) ?_
 clear l K
 try simp only[Act.put,qqB]
 repeat
  refine qA0 _ rfl (fun K l=>?_)
  first
   | (refine qqP (by rfl) ?_;apply Exists.intro;refine⟨fun w' a5=>?_,l _ ?_⟩;go_simp;first|done|rfl)
   | refine qqN (by rfl) (l _ ?_)
  clear l K;simp only[Act.put,qqB]
 refine qAg _ rfl (fun K l=>?_)
 refine qqP (by rfl) ?_
 have fx:=(F.kept c).free x
 obtain⟨u,hu⟩:∃u,w4.cell? ⟨A,x,none⟩=some u:=⟨_,by rw[(F.kept c).cell x];exact qFk _ _ _ x (by rw[N];exact hx)⟩
 go_wp2
 refine qA6 ?_
 have Z:Chg [A] w4 (w4.setCell ⟨A,x,none⟩ (.int .i64 ((b.ticks:Int)+1))):=Chg.step (by simp) _
 have a6:=(F.kept c).set x (.int .i64 ((b.ticks:Int)+1))
 rw[qMp _ _ _ _ (by rw[N];exact hx)]at a6
 have b4:=Z.blk (b5.kept c) (by simpa using qAE j.que j.age (by decide))
 have b6:=qAu (qA5 b7 c) Z (F.kept c) (by decide)
 have H5:qId (w4.setCell ⟨A,x,none⟩ (.int .i64 ((b.ticks:Int)+1))) A Q v1 (b.tick x):=⟨by simp[Ag.tick,N],j.slots,a6,b4,b6⟩
 clear hu fx
 generalize (w4.setCell ⟨A,x,none⟩ (.int .i64 ((b.ticks:Int)+1)))=w5 at *
 have b8:=H5.age.cell 17
 rw[qEV H5.len]at b8
 have a0:(b.tick x).q=b.q:=rfl
 have CP:=qNU A Q v1 (b.tick x) w5 H5 x hx (by rw[a0];have:=a8.out;have:=HM.out;omega)
 have c0:=qh a0
 clear a0
 go_wp2_with fail
 refine CP.mono ?_
 rintro e w6 ⟨v6,rfl,H6,b3,a7⟩
 go_wp2
 go_ret
 have O:Chg [A] w1 w5:=(Y.trans (Chg.of_kept c)).trans Z
 refine⟨v6,rfl,?_,?_,?_⟩
 · have e6:(b.tick x).setq (qMm (b.tick x).last (b.tick x).q x)=a.touch x:=by unfold Ag.touch;rw[←HB.out];rfl
   rw[e6]at H6
   exact H6
 · have a3:Chg (A::Q::v.ownBlock.toList) w w1:=a4.mono (fun b G=>List.mem_cons_of_mem _ G)
   have a2:Chg (A::Q::v.ownBlock.toList) w5 w6:=by rw[←a1];exact b3.mono (fun b G=>List.mem_cons_of_mem _ G)
   exact(a3.trans (O.mono (by intro b G;rw[List.mem_singleton]at G;subst G;exact List.mem_cons_self))).trans a2
 · intro g hg
   rcases a7 g hg with h|h
   · exact .inl (a1 ▸ h)
   · exact .inr (Nat.le_trans (Nat.le_trans a4.size O.size) h)
end Go.Proofs.YtdlgihbpiakebaaGreat
