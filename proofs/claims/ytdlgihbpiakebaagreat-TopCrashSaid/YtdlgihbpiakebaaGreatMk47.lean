import Derived.Test.YtdlgihbpiakebaaGreatMk43
import Derived.Test.YtdlgihbpiakebaaGreatMk46
import Derived.Handy
set_option maxRecDepth 100000
set_option maxHeartbeats 4000000
namespace Go.Proofs.YtdlgihbpiakebaaGreat
open Go Go.RowKit Tryz
structure Ca where
 now:List Lf
 was:List Lf
 age:Ag
 bad:Bool
structure Bx where
 x:Wd
 boot:BitVec 64
 k:Nat
 c:Ca
def qKz (col:Nat→Nat)(w:World)(A:Nat)(a:Ag):Prop:=∃Q v,qId w A Q v a∧col A=11∧col Q=11∧(∀g,v.ownBlock=some g→col g=11)
structure qBm (col:Nat→Nat)(w:World)(P:qAU)(M C A:Nat)(vn vw:Value)(b:Bx):Prop where
 wm:WM col w P b.x M b.boot b.k
 blk:Blk w C #[.pointer (some ⟨P.W,0,none⟩),.pointer (some ⟨M,0,none⟩),vn,vw,.pointer (some ⟨A,0,none⟩),.bool b.c.bad] 121
 cC:col C=9
 now:w.ownsRow 0 117 8 vn b.c.now.length (qAv b.c.now)
 was:w.ownsRow 0 117 8 vw b.c.was.length (qAv b.c.was)
 cn:∀g,vn.ownBlock=some g→col g=10
 cw:∀g,vw.ownBlock=some g→col g=10
 ne:∀g,vn.ownBlock=some g→vw.ownBlock≠some g
 age:qKz col w A b.c.age
def qCM (col:Nat→Nat)(w:World)(P:qAU)(M C:Nat)(b:Bx):Prop:=∃A vn vw,qBm col w P M C A vn vw b
def qGo (col:Nat→Nat)(w:World)(P:qAU)(M C:Nat)(b:Bx)(w':World):Prop:=∃col',qCM col' w' P M C b∧Ext 11 col col' w w'
structure Bx.fine (b:Bx)(m:Nat):Prop where
 x:b.x.fine m
 k:b.k≤100
 nl:b.c.now.length=b.x.n
 wl:b.c.was.length=b.x.n
 nok:qB7 b.c.now
 wok:qB7 b.c.was
section
variable {col col':Nat→Nat} {w w':World} {P:qAU} {M C A:Nat} {vn vw:Value} {b:Bx}
theorem qId.same {A Q:Nat}{v:Value}{a:Ag}(h:qId w A Q v a)(hs:qB0 11 col col' w w')(cA:col A=11)(cQ:col Q=11)(cv:∀g,v.ownBlock=some g→col g=11):qId w' A Q v a:=
 ⟨h.len,h.slots,(hs.blk h.age cA).1,(hs.blk h.que cQ).1,hs.own h.row cv⟩
theorem qKz.frame {A:Nat}{a:Ag}(h:qKz col w A a)(hs:qB0 11 col col' w w'):qKz col' w' A a:=by
 obtain⟨Q,v,c,j,f,c3⟩:=h
 exact⟨Q,v,c.same hs j f c3,(hs.blk c.age j).2,(hs.blk c.que f).2,fun g l=>hs.old g (qAp c.row l) (c3 g l)⟩
theorem qBm.world (h:qBm col w P M C A vn vw b){x':Wd}{boot':BitVec 64}{k':Nat}(hw:WM col' w' P x' M boot' k')(e:Ext 8 col col' w w'):qBm col' w' P M C A vn vw ⟨x',boot',k',b.c⟩:=by
 obtain⟨l,q⟩:=(e.same (i:=9) (by omega)).blk h.blk h.cC
 have f:=e.same (i:=10) (by omega)
 exact⟨hw,l,q,f.own h.now h.cn,f.own h.was h.cw,fun g j=>f.old g (qAp h.now j) (h.cn g j),fun g j=>f.old g (qAp h.was j) (h.cw g j),h.ne,h.age.frame (e.same (by omega))⟩
theorem qBm.kept (h:qBm col w P M C A vn vw b)(hk:qA4 w w'):qBm col w' P M C A vn vw b:=
 h.world (h.wm.kept hk) (Ext.kept h.wm.wd.top hk)
theorem qBm.top (h:qBm col w P M C A vn vw b):Top col w:=h.wm.wd.top
theorem Bx.fine.up {m n:Nat}(f:b.fine m)(hm:m≤n):b.fine n:=⟨f.x.up hm,f.k,f.nl,f.wl,f.nok,f.wok⟩
theorem qBm.chg0 {g:Nat}(h:qBm col w P M C A vn vw b)(hc:Chg [g] w w')(hg:col g=0):qBm col w' P M C A vn vw b:=by
 have f:∀x∈ [g],col x=0:=fun x c=>by rw[List.mem_singleton.1 c];exact hg
 have s:∀j,0≠j→qB0 j col col w w':=fun j q=>qB0.chg hc fun x c=>by rw[f x c];exact q
 obtain⟨l,F⟩:=(s 9 (by decide)).blk h.blk h.cC
 exact⟨⟨h.wm.wd.chg hc (fun x c=>.inl (f x c)),((s 8 (by decide)).blk h.wm.mkr h.wm.cM).1,h.wm.cM⟩,l,F,(s 10 (by decide)).own h.now h.cn,(s 10 (by decide)).own h.was h.cw,h.cn,h.cw,h.ne,h.age.frame (s 11 (by decide))⟩
theorem qBQ {B n g cap:Nat}{ls:List Lf}(h:w.ownsRow B 117 8 (.slice (some ⟨g,0,none⟩) n cap) n (qAv ls))(i:Nat)(y:Lf)(hy:ls[i]? = some y):∀j u,y.cells[j]? = some u→w.cell? ⟨g,i*8+j,none⟩=some u:=fun j u q=>by
 have f:=qDR ls i y hy j u q
 have hl:=(List.getElem?_eq_some_iff.1 f).1
 obtain⟨b',off,c,e,_,_,_,l⟩:=(Sl.of_own h).at (by omega)
 cases e
 have:=l _ u f
 rw[Nat.zero_add]at this
 exact this
end
def Ca.isFree (c:Ca)(s:Nat):Bool:=((c.now[s]?.getD Lf.zero).kind==0)&&((c.was[s]?.getD Lf.zero).kind==0)
def Ca.free (c:Ca):Option Nat:=(List.range c.now.length).find? c.isFree
def Ca.slot (c:Ca)(lba:Int):Option Nat:=(List.range c.now.length).find? fun s=>((c.now[s]?.getD Lf.zero).kind != 0)&&((c.now[s]?.getD Lf.zero).lba==lba)
def qDG (o:Option Nat):Int:=match o with|none=>-1|some s=>(s:Int)
theorem qNW {col:Nat→Nat}{w:World}{P:qAU}{M C A:Nat}{vn vw:Value}{b:Bx}(h:qBm col w P M C A vn vw b)(s:Nat)(hn:s<b.c.now.length)(hw:s<b.c.was.length):Calls prog 157 #[.pointer (some ⟨C,0,none⟩),.int .i64 (s:Int)] w fun e w'=>e= .returned (.bool (b.c.isFree s))∧w=w':=by
 have q2:=h.blk.cell 2
 have q3:=h.blk.cell 3
 obtain⟨g1,c1,Z⟩:=qAy h.now (by omega)
 obtain⟨g2,c2,Y⟩:=qAy h.was (by omega)
 have l:=h.now
 have q:=h.was
 subst Z
 subst Y
 obtain⟨F,N⟩:∃y,y=b.c.now[s]:=⟨_,rfl⟩
 obtain⟨G,J⟩:∃y,y=b.c.was[s]:=⟨_,rfl⟩
 have e1:b.c.now[s]? = some F:=by rw[List.getElem?_eq_getElem hn,N]
 have V:b.c.was[s]? = some G:=by rw[List.getElem?_eq_getElem hw,J]
 have d1:w.cell? ⟨g1,s*8,none⟩=some (.int .i64 F.kind):=qBQ l s F e1 0 _ rfl
 have d2:w.cell? ⟨g2,s*8,none⟩=some (.int .i64 G.kind):=qBQ q s G V 0 _ rfl
 have hr:b.c.isFree s=((F.kind==0)&&(G.kind==0)):=by unfold Ca.isFree;rw[e1,V];rfl
 rw[hr]
 obtain⟨n1,O⟩:∃n,n=b.c.now.length:=⟨_,rfl⟩
 obtain⟨n2,I⟩:∃n,n=b.c.was.length:=⟨_,rfl⟩
 rw[←O]at hn q2
 rw[←I]at hw q3
 have i1:(s:Int)<(n1:Int):=by omega
 have i2:(s:Int)<(n2:Int):=by omega
 have i3:(0:Int)≤(s:Int):=by omega
 clear N J e1 V hr O I l q
 by_cases f:F.kind=0
 · by_cases j:G.kind=0
   · rw[f]at d1 ⊢
     rw[j]at d2 ⊢
     clear f j
     go_enter func157,ntmps157
     go_wp2
     go_ret
     exact⟨rfl,rfl⟩
   · rw[f]at d1 ⊢
     clear f
     have hb:(G.kind==0)=false:=by simpa using j
     go_enter func157,ntmps157
     go_wp2
     go_ret
     refine⟨?_,rfl⟩
     simp[j]
 · have hb:(F.kind==0)=false:=by simpa using f
   go_enter func157,ntmps157
   go_wp2
   go_ret
   refine⟨?_,rfl⟩
   simp[f]
theorem qFn {col:Nat→Nat}{w:World}{P:qAU}{M C A:Nat}{vn vw:Value}{b:Bx}(h:qBm col w P M C A vn vw b)(hn:0<b.c.now.length)(hw:b.c.was.length=b.c.now.length)(hm:b.c.now.length≤100):Calls prog 120 #[.pointer (some ⟨C,0,none⟩)] w fun e w'=>e= .returned (.int .i64 (qDG b.c.free))∧w=w':=by
 have q2:=h.blk.cell 2
 obtain⟨g1,c1,G⟩:=qAy h.now (by omega)
 have J:=fun s hs=>qNW h s hs (by rw[hw];exact hs)
 obtain⟨N,I⟩:∃N,N=b.c.now.length:=⟨_,rfl⟩
 rw[←I]at hn hm J
 rw[G]at q2
 rw[←I]at q2
 have i1:(N:Int)≤100:=by omega
 have HN:=qh I
 clear I hw G
 obtain⟨R,V⟩:∃y,y=qDG b.c.free:=⟨_,rfl⟩
 rw[←V]
 have HR:=qh V
 clear V
 go_enter func120,ntmps120
 go_wp2_with fail
 go_loopw [9] (fun i wr=>∃k:Nat,i= .int .i64 k∧k≤N∧w=wr∧∀j,j<k→b.c.isFree j=false) (fun i _=>N - (intOf i).toNat)
 case atStart=>exact⟨0,rfl,by omega,(by first|trivial|rfl),fun j F=>by omega⟩
 case round =>
  obtain⟨k,rfl,hk,rfl,f⟩:=hrel
  by_cases q:k<N
  · have m1:(k:Int)<(N:Int):=by omega
    have m2:(0:Int)≤(k:Int):=by omega
    have CC:=J k q
    obtain⟨B,O⟩:∃y,y=b.c.isFree k:=⟨_,rfl⟩
    rw[←O]at CC
    have Z:=qh O
    clear O J
    go_wp2_with fail
    refine CC.mono ?_
    rintro e w2 ⟨rfl,rfl⟩
    cases B with
    | true =>
     have l:R=(k:Int):=by
      rw[HR.out]
      have:b.c.free=some k:=List.find?_range_eq_some.2 ⟨Z.out.symm,List.mem_range.2 (by rw[←HN.out];exact q),fun j F=>by rw[f j F];rfl⟩
      rw[this];rfl
     replace l:=qh l
     go_wp2_with fail
     refine bodyPost_ret (v:=.int .i64 (k:Int)) (by simp[results,results120,go_sem];done) rfl ⟨by rw[l.out],rfl⟩
    | false =>
     go_wp2_with fail
     refine⟨⟨k+1,rfl,by omega,(by first|trivial|rfl),fun j F=>?_⟩,by simp[intOf];omega⟩
     by_cases Y:j=k
     · subst Y;exact Z.out.symm
     · exact f j (by omega)
  · have l:R= -1:=by
     rw[HR.out]
     have:b.c.free=none:=List.find?_range_eq_none.2 (fun j F=>by rw[f j (by rw[←HN.out]at F;omega)];rfl)
     rw[this];rfl
    replace l:=qh l
    have m3:¬(k:Int)<(N:Int):=by omega
    clear q J
    go_wp2_with fail
    refine bodyPost_ret (v:=.int .i64 (-1)) (by simp[results,results120,go_sem];done) rfl ⟨by rw[l.out],rfl⟩
def Lf.has (y:Lf)(lba:Int):Bool:=(y.kind != 0)&&(y.lba==lba)
def qNX (ls:List Lf)(lba:Int):Option Nat:=(List.range ls.length).find? fun s=>(ls[s]?.getD Lf.zero).has lba
theorem qMr (c:Ca)(lba:Int):qNX c.now lba=c.slot lba:=rfl
theorem qPI (y:Lf)(G:Nat)(lba:Int)(w:World)(hG:Blk w G #[.int .i64 lba] 3):Calls prog 153 #[.agg #[.int .i64 y.kind,.bool y.dirty,.int .i64 y.lba,W y.ep,W y.sl,U y.ver,U y.tag.1,U y.tag.2],.pointer (some ⟨G,0,none⟩)] w fun e w'=>e= .returned (.bool (y.has lba))∧qA4 w w':=by
 have c:qA4 w (w.alloc (.cells #[.int .i64 y.kind,.bool y.dirty,.int .i64 y.lba,W y.ep,W y.sl,U y.ver,U y.tag.1,U y.tag.2] 117)):=qal _
 have h:=Blk.new w #[.int .i64 y.kind,.bool y.dirty,.int .i64 y.lba,W y.ep,W y.sl,U y.ver,U y.tag.1,U y.tag.2] 117
 have J:=h.cell 0
 have q:=h.cell 2
 have l:=(hG.kept c).cell 0
 unfold Lf.has
 obtain⟨k,j⟩:∃k,k=y.kind:=⟨_,rfl⟩
 by_cases f:y.kind=0
 · rw[f]at J c h q l ⊢
   clear f j
   go_enter func153,ntmps153
   go_wp2
   go_ret
   exact⟨rfl,c⟩
 · have F:(y.kind != 0)=true:=by simpa using f
   have I:(y.kind==0)=false:=by simpa using f
   rw[F]
   clear j
   go_enter func153,ntmps153
   go_wp2
   go_ret
   exact⟨by simp,c⟩
theorem qSm (g cap:Nat)(ls:List Lf)(hm:ls.length≤100)(hn:0<ls.length)(G:Nat)(lba:Int)(w:World)(hG:Blk w G #[.int .i64 lba] 3)(h:w.ownsRow 0 117 8 (.slice (some ⟨g,0,none⟩) ls.length cap) ls.length (qAv ls)) :
 Calls prog 152 #[.slice (some ⟨g,0,none⟩) ls.length cap,(.func (.func 153) #[] #[.pointer (some ⟨G,0,none⟩)])] w fun e w'=>e= .returned (.int .i64 (qDG (qNX ls lba)))∧qA4 w w':=by
 obtain⟨N,Z⟩:∃N,N=ls.length:=⟨_,rfl⟩
 rw[←Z]at hn hm h ⊢
 have HN:=qh Z
 have i1:(N:Int)≤100:=by omega
 obtain⟨R,hR⟩:∃y,y=qDG (qNX ls lba):=⟨_,rfl⟩
 rw[←hR]
 have HR:=qh hR
 clear Z hR
 go_enter func152,ntmps152
 go_wp2_with fail
 go_loopw [8] (fun i wr=>∃k:Nat,i= .int .i64 k∧k≤N∧qA4 w wr∧∀j,j<k→(ls[j]?.getD Lf.zero).has lba=false) (fun i _=>N - (intOf i).toNat)
 case atStart=>exact⟨0,rfl,by omega,Below.refl _ _,fun j J=>by omega⟩
 case round =>
  obtain⟨k,rfl,hk,c,f⟩:=hrel
  by_cases F:k<N
  · have m1:(k:Int)<(N:Int):=by omega
    have m2:(0:Int)≤(k:Int):=by omega
    have Y:k<ls.length:=by rw[←HN.out];exact F
    obtain⟨y,hy⟩:∃y,y=ls[k]:=⟨_,rfl⟩
    have I:ls[k]? = some y:=by rw[List.getElem?_eq_getElem Y,hy]
    have l:=qBQ (qA5 h c) k y I
    have d0:wr.cell? ⟨g,k*8,none⟩=some (.int .i64 y.kind):=l 0 _ rfl
    have d1:wr.cell? ⟨g,k*8+1,none⟩=some (.bool y.dirty):=l 1 _ rfl
    have d2:wr.cell? ⟨g,k*8+2,none⟩=some (.int .i64 y.lba):=l 2 _ rfl
    have d3:wr.cell? ⟨g,k*8+3,none⟩=some (W y.ep):=l 3 _ rfl
    have d4:wr.cell? ⟨g,k*8+4,none⟩=some (W y.sl):=l 4 _ rfl
    have d5:wr.cell? ⟨g,k*8+5,none⟩=some (U y.ver):=l 5 _ rfl
    have d6:wr.cell? ⟨g,k*8+6,none⟩=some (U y.tag.1):=l 6 _ rfl
    have d7:wr.cell? ⟨g,k*8+7,none⟩=some (U y.tag.2):=l 7 _ rfl
    have a1:=qh I
    clear l hy I
    go_wp2_with fail
    refine(qPI y G lba wr (hG.kept c)).mono ?_
    rintro e w2 ⟨rfl,O⟩
    obtain⟨B,V⟩:∃b,b=y.has lba:=⟨_,rfl⟩
    rw[←V]
    have HB:=qh V
    clear V
    have hgd:ls[k]?.getD Lf.zero=y:=by rw[a1.out];rfl
    replace hgd:=qh hgd
    cases B with
    | true =>
     have q:R=(k:Int):=by
      rw[HR.out]
      have:qNX ls lba=some k:=List.find?_range_eq_some.2 ⟨by rw[hgd.out];exact HB.out.symm,List.mem_range.2 (by rw[←HN.out];exact F),fun j J=>by rw[f j J];rfl⟩
      rw[this];rfl
     replace q:=qh q
     go_wp2_with fail
     refine bodyPost_ret (v:=.int .i64 (k:Int)) (by simp[results,results152,go_sem];done) rfl ⟨by rw[q.out],c.of O⟩
    | false =>
     go_wp2_with fail
     refine⟨⟨k+1,rfl,by omega,c.of O,fun j J=>?_⟩,by simp[intOf];omega⟩
     by_cases a0:j=k
     · subst a0;rw[hgd.out];exact HB.out.symm
     · exact f j (by omega)
  · have q:R= -1:=by
     rw[HR.out]
     have:qNX ls lba=none:=List.find?_range_eq_none.2 (fun j J=>by rw[f j (by rw[←HN.out]at J;omega)];rfl)
     rw[this];rfl
    replace q:=qh q
    have m3:¬(k:Int)<(N:Int):=by omega
    clear F
    go_wp2_with fail
    refine bodyPost_ret (v:=.int .i64 (-1)) (by simp[results,results152,go_sem];done) rfl ⟨by rw[q.out],c⟩
theorem qNY {col:Nat→Nat}{w:World}{P:qAU}{M C A:Nat}{vn vw:Value}{b:Bx}(h:qBm col w P M C A vn vw b)(lba:Int)(hn:0<b.c.now.length)(hm:b.c.now.length≤100):Calls prog 117 #[.pointer (some ⟨C,0,none⟩),.int .i64 lba] w fun e w'=>e= .returned (.int .i64 (qDG (b.c.slot lba)))∧qA4 w w':=by
 have j:qA4 w (w.alloc (.cells #[.int .i64 lba] 3)):=qal _
 have N:=Blk.new w #[.int .i64 lba] 3
 have G:=(h.blk.kept j).cell 2
 obtain⟨I,J,l⟩:=qAy h.now hn
 have f:=qA5 h.now j
 rw[l]at f G
 have F:=qSm I J b.c.now hm hn w.heap.size lba (w.alloc (.cells #[.int .i64 lba] 3)) N f
 rw[qMr]at F
 clear l f
 go_enter func117,ntmps117
 go_wp2_with fail
 refine F.mono ?_
 rintro e O ⟨rfl,q⟩
 go_wp2
 go_ret
 exact⟨rfl,j.of q⟩
theorem qKA {w:World}{g:Nat}(h:Blk w g #[] 117):w.ownsRow g 117 8 (.slice (some ⟨g,0,none⟩) 0 0) 0 []:=
 ⟨rfl,.inr ⟨g,0,#[],rfl,Nat.le_refl _,h,Nat.le_refl _,Nat.zero_le _,rfl,rfl⟩⟩
theorem qB0.paint {i j:Nat}{col:Nat→Nat}{w w':World}(hk:qA4 w w'):qB0 j col (qAi col i w w') w w':=
 ⟨hk.size,fun k hl c=>by rw[qAd hl];exact c,fun k hl _=>hk.block k hl⟩
theorem Ext.paint {i m:Nat}{col:Nat→Nat}{w w':World}(ht:Top col w)(hk:qA4 w w')(hi:i≤m):Ext m col (qAi col i w w') w w':=
 ⟨hk.os,hk.tape,hk.output,hk.size,fun k hl=>qAd hl,fun k hl=>by
  unfold Go.Proofs.YtdlgihbpiakebaaGreat.qAi
  split
  · exact hi
  · rw[ht k hl];omega,fun k hl=>by
  unfold Go.Proofs.YtdlgihbpiakebaaGreat.qAi
  rw[if_neg (by omega)]
  exact ht k (Nat.le_trans hk.size hl),fun k hl _=>hk.block k hl⟩
theorem WM.paint {i:Nat}{col:Nat→Nat}{w w':World}{P:qAU}{x:Wd}{M:Nat}{boot:BitVec 64}{k:Nat}(h:WM col w P x M boot k)(hk:qA4 w w')(hi:8<i):WM (qAi col i w w') w' P x M boot k:=by
 refine⟨h.wd.free (fun j _ _=>qB0.paint hk) (Ext.paint (m:=i) h.wd.top hk qle).top (fun j hl c=>?_),Blk.kept h.mkr hk,?_⟩
 · by_cases f:j<w.heap.size
   · rw[qAd f]at c;exact⟨f,c⟩
   · rw[qAk (by omega) hl]at c;omega
 · rw[qAd (Blk.lt h.mkr)];exact h.cM
theorem qLm (g cap:Nat)(ls:List Lf)(hm:ls.length≤1000)(w:World)(h:w.ownsRow 0 117 8 (.slice (some ⟨g,0,none⟩) ls.length cap) ls.length (qAv ls)) :
 Calls prog 47 #[.slice (some ⟨g,0,none⟩) ls.length cap] w fun e w'=>∃v,e= .returned v∧w'.ownsRow w.heap.size 117 8 v ls.length (qAv ls)∧qA4 w w':=by
 obtain⟨N,q⟩:∃N,N=ls.length:=⟨_,rfl⟩
 rw[←q]at hm h ⊢
 have HN:=qh q
 have l:qA4 w (w.alloc (.cells #[] 117)):=qal _
 have J:=qKA (Blk.new w #[] 117)
 have O:=(Sl.of_own h).kept l
 have j:(qAv ls).length=N*8:=by rw[qBl,q]
 replace j:=qh j
 clear q
 have G:=fun (wx:World) a n c=>Lib.run_eql_slice_nil (P:=prog) wx 105 117 a n c 0 0 underlying105
 go_enter func47,ntmps47
 go_wp2_with (at_builtin;refine qBb qEP rfl (by rfl) (by rfl) (by rfl) J O j.out (qHl ls) (by unfold maxLen;omega) (by omega) (by simp) ?_;intro Y Z f F I _)
 go_ret
 refine⟨_,rfl,?_,l.trans (F.below (fun i V=>(J.lt i V).1) l.size)⟩
 have e:(0+N)=N:=by omega
 rw[e,List.nil_append]at f
 exact f
def Bx.commit (b:Bx):Int×Bx:=
 ((b.x.commit b.boot b.k b.c.now).1,⟨(b.x.commit b.boot b.k b.c.now).2.1,b.boot,(b.x.commit b.boot b.k b.c.now).2.2,if(b.x.commit b.boot b.k b.c.now).1=0 then { b.c with was:=b.c.now } else b.c⟩)
theorem qCF {x:Wd}{boot:BitVec 64}{k:Nat}{ls:List Lf}:(x.commit boot k ls).2.1.n=x.n:=by
 unfold Wd.commit
 split
 · exact qCE.1
 split
 · exact qAG.1
 split
 · exact qAY.1
 split
 · exact qAY.1
 split
 · exact qAY.1
 · exact qAY.1
theorem qMs {x:Wd}{boot:BitVec 64}{k:Nat}{ls:List Lf}(hk:k≤100):(x.commit boot k ls).2.2≤100:=by
 unfold Wd.commit
 split
 · exact hk
 split
 · exact hk
 split
 · exact qIa hk
 split
 · exact qIa hk
 split
 · exact qIa hk
 · exact qIa hk
theorem Bx.fine.commit {b:Bx}{m:Nat}(f:b.fine m):b.commit.2.fine (m+39):=by
 refine⟨f.x.commit f.nl,qMs f.k,?_,?_,?_,?_⟩
 · show(if _ then { b.c with was:=b.c.now } else b.c:Ca).now.length=_
   rw[show(b.commit.2).x.n=b.x.n from qCF]
   split<;>exact f.nl
 · show(if _ then { b.c with was:=b.c.now } else b.c:Ca).was.length=_
   rw[show(b.commit.2).x.n=b.x.n from qCF]
   split
   · exact f.nl
   · exact f.wl
 · show qB7 (if _ then { b.c with was:=b.c.now } else b.c:Ca).now
   split<;>exact f.nok
 · show qB7 (if _ then { b.c with was:=b.c.now } else b.c:Ca).was
   split
   · exact f.nok
   · exact f.wok
theorem Ext.sameOn8 {m:Nat}{col0 col col':Nat→Nat}{w0 w w':World}(h:Ext m col col' w w')(hc:∀k,k<w0.heap.size→col k=col0 k):qA8 (fun k=>k<w0.heap.size∧(col0 k=0∨m<col0 k)) w w':=h.sameOn hc
theorem Ext.sameC {m:Nat}{col:Nat→Nat}{w w':World}(_:Ext m col col w w')(j C:Nat)(hC:col C=9)(hc:Chg [C] w w')(hj:9≠j):qB0 j col col w w':=
 qB0.chg hc (fun b c=>by rw[List.mem_singleton]at c;subst c;rw[hC];exact hj)
theorem qCV {col:Nat→Nat}{w:World}{P:qAU}{M C A:Nat}{vn vw:Value}{b:Bx}(h:qBm col w P M C A vn vw b){m:Nat}(f:b.fine m)(hm:m≤60000):Calls prog 113 #[.pointer (some ⟨C,0,none⟩)] w fun e w'=>e= .returned (.int .i64 b.commit.1)∧qGo col w P M C b.commit.2 w':=by
 have b7:=qAo f.x.ok.sl
 have a7:=f.nl
 have a4:0<b.c.now.length:=by omega
 have b8:b.c.now.length≤100:=by omega
 replace a7:=qh a7
 obtain⟨g1,c1,a9⟩:=qAy h.now a4
 subst a9
 obtain⟨E,hE⟩:∃y,y=(b.x.commit b.boot b.k b.c.now).1:=⟨_,rfl⟩
 have HE:=qh hE
 rw[show b.commit.1=E from hE.symm]
 clear hE
 go_enter func113,ntmps113
 go_wp2_with fail
 refine qAf (qA8 (fun k=>k<w.heap.size∧(col k=0∨8<col k))) [(0,0),(1,0),(2,0),(3,0),(4,0),(5,0),(6,0),(7,0),(8,0),(9,0),(10,0),(11,0),(12,1),(13,0)] (by kernel_rfl) (by kernel_rfl) ?_ ?_ ?_
 · exact fun _=>qA8.refl _
 · exact fun _ _ _ h1 q=>h1.trans q
 intro z1 a1
 have h1:=h.kept a1
 have bC:=h1.blk
 repeat
  refine qA0 _ rfl (fun K V=>?_)
  first
   | (refine qqP (by rfl) ?_;apply Exists.intro;refine⟨fun w' a8=>?_,V _ ?_⟩;(have c:=(a8.block _ bC.lt ⟨h.blk.lt,.inr (by rw[h.cC];decide)⟩).trans bC;have c0:=Blk.cell c 0;have c1:=Blk.cell c 1;have c2:=Blk.cell c 2;clear c;go_simp;first|done|rfl))
   | refine qqN (by rfl) (V _ ?_)
  clear V K;simp only[Act.put,qqB]
 refine qqH _ rfl (by rfl) (fun K V=>?_)
 go_wp2_with fail
 refine(qNM h1.wm f.x (by omega) f.k _ b.c.now f.nl f.nok (Sl.of_own h1.now)).mono ?_
 rintro e z2 ⟨rfl,j,a3,e2⟩
 rw[←HE.out]
 have S2:=e2.sameOn8 (w0:=w) (col0:=col) (fun k hk=>rfl)
 go_wp2
 refine V _ _ (S2) ?_
 clear V K
 try simp only[Act.put,qqB]
 repeat
  refine qA0 _ rfl (fun K V=>?_)
  first
   | (refine qqP (by rfl) ?_;apply Exists.intro;refine⟨fun w' a8=>?_,V _ ?_⟩;go_simp;first|done|rfl)
   | refine qqN (by rfl) (V _ ?_)
  clear V K;simp only[Act.put,qqB]
 refine qA6 ?_
 have q:=h1.world a3 e2
 have J:=q.blk
 have a5:Ext 11 col j w z2:=((Ext.kept (m:=8) h.top a1).trans e2).mono (by decide)
 by_cases h0:E=0
 · have a2:=J.cell 2
   have f3:=J.free 3
   have x3:=J.cell 3
   have CL:=qLm g1 c1 b.c.now (by omega) z2 q.now
   go_wp2_with fail
   refine CL.mono ?_
   rintro e F ⟨v,rfl,hv,N⟩
   obtain⟨gv,cv,rfl⟩:=qAy hv a4
   have O:=J.kept N
   clear a2 f3 x3
   have f3:=O.free 3
   have x3:=O.cell 3
   go_wp2_with fail
   have l:Chg [C] F (F.setCell ⟨C,3,none⟩ (.slice (some ⟨gv,0,none⟩) b.c.now.length cv)):=(Chg.refl _ _).set qsm 3 _
   have a6:=O.set 3 (.slice (some ⟨gv,0,none⟩) b.c.now.length cv)
   simp only[qqA,qq0,qq1]at a6
   clear f3 x3
   generalize (F.setCell ⟨C,3,none⟩ (.slice (some ⟨gv,0,none⟩) b.c.now.length cv))=z4 at *
   have Y:=a3.paint (i:=10) N (by decide)
   have a0:Ext 11 j (qAi j 10 z2 F) z2 F:=Ext.paint q.top N (by decide)
   have G:qAi j 10 z2 F C=9:=by rw[qAd J.lt];exact q.cC
   have b3:=Y.wd.chg l (fun b hb=>by rw[List.mem_singleton]at hb;subst hb;rw[G];exact .inr (by decide))
   have b4:qJS z4 M b.boot (b.x.commit b.boot b.k b.c.now).2.2:=l.blk Y.mkr (by rw[List.mem_singleton];intro e;have:=Y.cM;rw[e,G]at this;cases this)
   have e4:Ext 11 (qAi j 10 z2 F) (qAi j 10 z2 F) F z4:=⟨l.os,l.tape,l.output,l.size,fun _ _=>rfl,fun k hk=>by rw[a0.top k hk];omega,fun k hk=>a0.top k (Nat.le_trans l.size hk),fun k hk b5=>l.block k hk (by rw[List.mem_singleton];intro e;rw[e,G]at b5;omega)⟩
   have I:b.commit.2=⟨(b.x.commit b.boot b.k b.c.now).2.1,b.boot,(b.x.commit b.boot b.k b.c.now).2.2,{ b.c with was:=b.c.now }⟩:=by
    unfold Bx.commit
    rw[←HE.out,if_pos h0]
   have b6:∀ {e:TypeId},e≠121→True:=fun _=>trivial
   have n3:=qAu (qA5 q.now N) l O (by decide)
   have w3:=qAu hv l O (by decide)
   refine bodyPost_ret (v:=.int .i64 0) (by simp[results,results113,go_sem];done) rfl ⟨by rw[h0],qAi j 10 z2 F,?_,(a5.trans a0).trans e4⟩
   rw[I]
   refine⟨A,.slice (some ⟨g1,0,none⟩) b.c.now.length c1,(.slice (some ⟨gv,0,none⟩) b.c.now.length cv),⟨b3,b4,Y.cM⟩,a6,G,n3,qAh w3 (Nat.zero_le _),fun g Z=>?_,fun g Z=>?_,fun g Z e=>?_,?_⟩
   · rw[qAd (qAp q.now Z)];exact q.cn g Z
   · exact qAk (qAN hv Z) (qAp hv Z)
   · have h3:=qAp q.now Z
     have h4:=qAN hv e
     omega
   · have ha:=(q.age.frame (qB0.paint (i:=10) N:qB0 11 j (qAi j 10 z2 F) z2 F))
     exact ha.frame (e4.sameC 11 C G l (by decide))
 · have I:b.commit.2=⟨(b.x.commit b.boot b.k b.c.now).2.1,b.boot,(b.x.commit b.boot b.k b.c.now).2.2,b.c⟩:=by
    unfold Bx.commit
    rw[←HE.out,if_neg h0]
   replace I:=qh I
   go_wp2_with fail
   refine bodyPost_ret (v:=.int .i64 E) (by simp[results,results113,go_sem];done) rfl ⟨rfl,j,?_,a5⟩
   rw[I.out]
   exact⟨A,_,vw,q⟩
section
variable {col col':Nat→Nat} {w w':World} {P:qAU} {M C A:Nat} {vn vw:Value} {b:Bx} {a:Ag}
theorem WM.one {i:Nat}{x:Wd}{boot:BitVec 64}{k:Nat}(h:WM col w P x M boot k)(o:One i col col' w w')(hi:8<i):WM col' w' P x M boot k:=by
 obtain⟨l,q⟩:=(o.same (j:=8) (by omega)).blk h.mkr h.cM
 refine⟨h.wd.free (fun j _ c=>o.same (by omega)) o.top (fun j hl f=>?_),l,q⟩
 by_cases c:j<w.heap.size
 · rw[o.old j c]at f;exact⟨c,f⟩
 · have:=o.new j (by omega);omega
theorem qBm.aged (h:qBm col w P M C A vn vw b)(ha:qKz col' w' A a)(o:One 11 col col' w w'):qBm col' w' P M C A vn vw ⟨b.x,b.boot,b.k,{ b.c with age:=a }⟩:=by
 obtain⟨q,F⟩:=(o.same (j:=9) (by omega)).blk h.blk h.cC
 have f:=o.same (j:=10) (by omega)
 exact⟨h.wm.one o (by decide),q,F,f.own h.now h.cn,f.own h.was h.cw,fun g l=>f.old g (qAp h.now l) (h.cn g l),fun g l=>f.old g (qAp h.was l) (h.cw g l),h.ne,ha⟩
theorem qNZ (h:qKz col w A a)(ht:Top col w)(x:Nat)(hm:a.q.length≤900):Calls prog 72 #[.pointer (some ⟨A,0,none⟩),.int .i64 (x:Int)] w fun e w'=>e= .returned (.bool (decide (x∈a.q)))∧qKz col w' A (a.drop x)∧One 11 col col w w':=by
 obtain⟨Q,v,l,F,f,c3⟩:=h
 refine(qLl A Q v a w l x hm).mono ?_
 rintro e w' ⟨v',rfl,j,G,I⟩
 refine⟨rfl,⟨Q,v',j,F,f,fun g c=>c3 g (by rw[←I];exact c)⟩,One.chg ht G fun g c=>?_⟩
 rcases List.mem_cons.1 c with rfl|hm
 · exact f
 · exact c3 g (qAt.1 hm)
theorem One.paint {i:Nat}(ht:Top col w){bs:List Nat}(hc:Chg bs w w')(hb:∀g∈bs,col g=i):One i col (qAi col i w w') w w':=
 ⟨hc.os,hc.tape,hc.output,hc.size,fun k c=>qAd c,fun k c=>by
  by_cases h:k<w'.heap.size
  · exact .inr (qAk c h)
  · left;unfold Go.Proofs.YtdlgihbpiakebaaGreat.qAi;rw[if_neg (by omega)];exact ht k c,fun k c=>by
  unfold Go.Proofs.YtdlgihbpiakebaaGreat.qAi;rw[if_neg (by omega)];exact ht k (Nat.le_trans hc.size c),fun k c hn=>hc.block k c fun f=>hn (hb k f)⟩
theorem qFo (h:qKz col w A a)(ht:Top col w)(x:Nat)(hx:x<16)(hm:a.q.length≤800)(hk:a.ticks≤1000000000):Calls prog 49 #[.pointer (some ⟨A,0,none⟩),.int .i64 (x:Int)] w fun e w'=>e= .returned (.bool true)∧∃col',qKz col' w' A (a.touch x)∧One 11 col col' w w':=by
 obtain⟨Q,v,f,F,l,c3⟩:=h
 refine(qNV A Q v a w f x hx hm hk).mono ?_
 rintro e w' ⟨v',rfl,j,G,I⟩
 refine⟨rfl,qAi col 11 w w',⟨Q,v',j,?_,?_,fun g c=>?_⟩,One.paint ht G fun g c=>?_⟩
 · rw[qAd (Blk.lt f.age)];exact F
 · rw[qAd (Blk.lt f.que)];exact l
 · rcases I g c with h3|h3
   · rw[qAd (qAp f.row h3)];exact c3 g h3
   · exact qAk h3 (qAp j.row c)
 · rcases List.mem_cons.1 c with rfl|c
   · exact F
   · rcases List.mem_cons.1 c with rfl|c
     · exact l
     · exact c3 g (qAt.1 c)
theorem qIf (ht:Top col w):Calls prog 48 #[] w fun e w'=>∃A col',e= .returned (.pointer (some ⟨A,0,none⟩))∧qKz col' w' A ⟨List.replicate 16 0,0,[]⟩∧One 11 col col' w w'∧w.heap.size≤A∧qA4 w w':=by
 refine(qR5 w).mono ?_
 rintro e w' ⟨A,Q,rfl,c,f,h,j⟩
 refine⟨A,qAi col 11 w w',rfl,⟨Q,_,c,qAk h (Blk.lt c.age),qAk j (Blk.lt c.que),fun g l=>by cases l⟩,One.paint (bs:=[]) ht (Chg.of_kept f) (by simp),h,f⟩
theorem qKB (h:qKz col w A a)(hq:0<a.q.length):Calls prog 180 #[.pointer (some ⟨A,0,none⟩)] w fun e w'=>e= .returned (.tuple #[.int .i64 ((a.q[0]:Nat):Int),.bool true])∧w=w':=by
 obtain⟨Q,v,c,j,f,c3⟩:=h
 exact qMq A Q v a w c hq
end
theorem qCG {w:World}{B g cap n size:Nat}{e:TypeId}{xs:List Value}(h:w.ownsRow B e size (.slice (some ⟨g,0,none⟩) n cap) n xs)(i:Nat)(v:Value):(w.setCell ⟨g,i,none⟩ v).ownsRow B e size (.slice (some ⟨g,0,none⟩) n cap) n (xs.set i v):=by
 obtain⟨c,f⟩:=h
 refine⟨by simpa using c,?_⟩
 rcases f with ⟨h0,_⟩|⟨g',cap',cur,hv,hg,hh,hn,hcap,hsz,htake⟩
 · cases h0
 · cases hv
   have j:Blk w g cur e:=hh
   refine .inr ⟨g,cap,cur.setIfInBounds i v,rfl,hg,j.set i v,hn,hcap,by simpa using hsz,?_⟩
   rw[Array.toList_setIfInBounds,List.take_set,htake]
theorem qKC (l:List Lf)(i:Nat)(x:Lf)(hi:i<l.length) :
 ((((((((qAv l).set (i*8) (.int .i64 x.kind)).set (i*8+1) (.bool x.dirty)).set (i*8+2) (.int .i64 x.lba)).set (i*8+3) (W x.ep)).set (i*8+4) (W x.sl)).set (i*8+5) (U x.ver)).set (i*8+6) (U x.tag.1)).set (i*8+7) (U x.tag.2)=qAv (l.set i x):=by
 have:=congrArg Array.toList (qHk l i x hi)
 simpa only[Array.toList_setIfInBounds] using this
theorem qGp {w:World}{B g cap n:Nat}{ls:List Lf}(h:w.ownsRow B 117 8 (.slice (some ⟨g,0,none⟩) n cap) n (qAv ls))(s:Nat)(x:Lf)(hs:s<ls.length) :
 ((((((((w.setCell ⟨g,s*8,none⟩ (.int .i64 x.kind)).setCell ⟨g,s*8+1,none⟩ (.bool x.dirty)).setCell ⟨g,s*8+2,none⟩ (.int .i64 x.lba)).setCell ⟨g,s*8+3,none⟩ (W x.ep)).setCell ⟨g,s*8+4,none⟩ (W x.sl)).setCell ⟨g,s*8+5,none⟩ (U x.ver)).setCell ⟨g,s*8+6,none⟩ (U x.tag.1)).setCell ⟨g,s*8+7,none⟩ (U x.tag.2)).ownsRow B 117 8 (.slice (some ⟨g,0,none⟩) n cap) n (qAv (ls.set s x)):=by
 rw[←qKC ls s x hs]
 exact qCG (qCG (qCG (qCG (qCG (qCG (qCG (qCG h _ _) _ _) _ _) _ _) _ _) _ _) _ _) _ _
theorem qGq (w:World)(g s:Nat)(x:Lf):Chg [g] w ((((((((w.setCell ⟨g,s*8,none⟩ (.int .i64 x.kind)).setCell ⟨g,s*8+1,none⟩ (.bool x.dirty)).setCell ⟨g,s*8+2,none⟩ (.int .i64 x.lba)).setCell ⟨g,s*8+3,none⟩ (W x.ep)).setCell ⟨g,s*8+4,none⟩ (W x.sl)).setCell ⟨g,s*8+5,none⟩ (U x.ver)).setCell ⟨g,s*8+6,none⟩ (U x.tag.1)).setCell ⟨g,s*8+7,none⟩ (U x.tag.2)):=
 (((((((((Chg.refl _ _).set qsm _ _).set qsm _ _).set qsm _ _).set qsm _ _).set qsm _ _).set qsm _ _).set qsm _ _).set qsm _ _)
theorem qBm.setNow {col:Nat→Nat}{w w':World}{P:qAU}{M C A g n cap:Nat}{vw:Value}{b:Bx}(h:qBm col w P M C A (.slice (some ⟨g,0,none⟩) n cap) vw b){ls:List Lf}(hl:ls.length=b.c.now.length)(hc:Chg [g] w w')(hr:w'.ownsRow 0 117 8 (.slice (some ⟨g,0,none⟩) n cap) b.c.now.length (qAv ls)) :
 qBm col w' P M C A (.slice (some ⟨g,0,none⟩) n cap) vw ⟨b.x,b.boot,b.k,{ b.c with now:=ls }⟩∧Ext 11 col col w w':=by
 have F:col g=10:=h.cn g rfl
 have o:One 10 col col w w':=One.chg h.top hc (fun b l=>by rw[List.mem_singleton]at l;subst l;exact F)
 obtain⟨q,G⟩:=(o.same (j:=9) (by omega)).blk h.blk h.cC
 refine⟨⟨h.wm.one o (by decide),q,G,by show w'.ownsRow 0 _ 8 _ ls.length _;rw[hl];exact hr,qAO h.was hc (fun k I f=>?_),h.cn,h.cw,h.ne,h.age.frame (o.same (by decide))⟩,o.ext (by decide) (by decide)⟩
 rw[List.mem_singleton]at f
 subst f
 exact h.ne k rfl I
def Bx.drops (b:Bx)(s:Nat):Bx:=⟨b.x,b.boot,b.k,{ b.c with now:=b.c.now.set s Lf.zero,age:=b.c.age.drop s }⟩
theorem qIg {col:Nat→Nat}{w:World}{P:qAU}{M C A:Nat}{vn vw:Value}{b:Bx}(h:qBm col w P M C A vn vw b)(s:Nat)(hs:s<b.c.now.length)(hm:b.c.age.q.length≤900):Calls prog 162 #[.pointer (some ⟨C,0,none⟩),.int .i64 (s:Int)] w fun e w'=>e= .returned (.tuple #[])∧qBm col w' P M C A vn vw (b.drops s)∧Ext 11 col col w w':=by
 have q2:=h.blk.cell 2
 obtain⟨j,c1,J⟩:=qAy h.now (by omega)
 subst J
 obtain⟨y,Y⟩:∃y,y=b.c.now[s]:=⟨_,rfl⟩
 have G:b.c.now[s]? = some y:=by rw[List.getElem?_eq_getElem hs,Y]
 have l:=qBQ h.now s y G
 obtain⟨cur,f⟩:=qAq h.now rfl
 have d0:w.cell? ⟨j,s*8,none⟩=some (.int .i64 y.kind):=l 0 _ rfl
 have d1:w.cell? ⟨j,s*8+1,none⟩=some (.bool y.dirty):=l 1 _ rfl
 have d2:w.cell? ⟨j,s*8+2,none⟩=some (.int .i64 y.lba):=l 2 _ rfl
 have d3:w.cell? ⟨j,s*8+3,none⟩=some (W y.ep):=l 3 _ rfl
 have d4:w.cell? ⟨j,s*8+4,none⟩=some (W y.sl):=l 4 _ rfl
 have d5:w.cell? ⟨j,s*8+5,none⟩=some (U y.ver):=l 5 _ rfl
 have d6:w.cell? ⟨j,s*8+6,none⟩=some (U y.tag.1):=l 6 _ rfl
 have d7:w.cell? ⟨j,s*8+7,none⟩=some (U y.tag.2):=l 7 _ rfl
 have f0:=f.free (s*8)
 have f1:=f.free (s*8+1)
 have f2:=f.free (s*8+2)
 have f3:=f.free (s*8+3)
 have f4:=f.free (s*8+4)
 have f5:=f.free (s*8+5)
 have f6:=f.free (s*8+6)
 have f7:=f.free (s*8+7)
 have HS:=qGq w j s Lf.zero
 have HR:=qGp h.now s Lf.zero hs
 obtain⟨F,O⟩:=h.setNow (ls:=b.c.now.set s Lf.zero) (by simp) HS HR
 obtain⟨N,V⟩:∃N,N=b.c.now.length:=⟨_,rfl⟩
 rw[←V]at hs q2
 have i1:(s:Int)<(N:Int):=by omega
 have i2:(0:Int)≤(s:Int):=by omega
 have q4:=F.blk.cell 4
 have I:=qNZ F.age F.top s hm
 obtain⟨R,Z⟩:∃y,y=decide (s∈b.c.age.q):=⟨_,rfl⟩
 rw[show decide (s∈(({ b.c with now:=b.c.now.set s Lf.zero }:Ca).age).q)=R from Z.symm]at I
 unfold Lf.zero at q4 I O
 simp only at q4 I O
 have H2:=qh F
 have HH:=qh h
 clear l G Y V HS HR f F h Z
 go_enter func162,ntmps162
 go_wp2_with fail
 refine I.mono ?_
 rintro e w2 ⟨rfl,ha,o⟩
 go_wp2_with fail
 refine bodyPost_end (results_none rfl _ _ _) rfl ⟨rfl,?_,O.trans (o.ext (by decide) (by decide))⟩
 have:=H2.out.aged ha o
 exact this
theorem qO0 (a:Ag)(x:Nat):if x∈a.q then(x::(a.drop x).q).Perm a.q else a.drop x=a:=by
 by_cases h:x∈a.q
 · rw[if_pos h]
   unfold Ag.drop
   rw[if_pos h]
   have c:a.q.idxOf x<a.q.length:=List.idxOf_lt_length_iff.2 h
   have:=qLk a.last a.q (a.q.idxOf x) c
   rw[List.getElem_idxOf c]at this
   exact this
 · rw[if_neg h]
   unfold Ag.drop
   rw[if_neg h]
theorem qKD (a:Ag)(x:Nat):((a.touch x).q).Perm (x::(a.drop x).q):=qMn _ _ _
theorem qKE (a:Ag)(x:Nat):(a.drop x).q.length≤a.q.length:=by
 have:=qO0 a x
 by_cases h:x∈a.q
 · rw[if_pos h]at this
   have:=this.length_eq
   simp at this;omega
 · rw[if_neg h]at this
   rw[this];exact Nat.le_refl _
theorem qJe (a:Ag)(x:Nat):(a.touch x).q.length≤a.q.length+1:=by
 have:=(qKD a x).length_eq
 have c:=qKE a x
 simp at this;omega
theorem qHp (a:Ag)(x:Nat):(a.drop x).ticks=a.ticks:=by
 unfold Ag.drop;split<;>rfl
theorem qEm (a:Ag)(x:Nat):(a.touch x).ticks=a.ticks+1:=by
 show(a.drop x).ticks+1=_
 rw[qHp]
theorem qHq {a:Ag}(h:a.q.Nodup)(x:Nat):(a.drop x).q.Nodup:=by
 have:=qO0 a x
 by_cases c:x∈a.q
 · rw[if_pos c]at this
   exact(List.nodup_cons.1 (this.nodup_iff.2 h)).2
 · rw[if_neg c]at this
   rw[this];exact h
theorem qIh {a:Ag}(h:a.q.Nodup)(x y:Nat):y∈(a.drop x).q↔y∈a.q∧y≠x:=by
 have:=qO0 a x
 by_cases f:x∈a.q
 · rw[if_pos f]at this
   have hn:=List.nodup_cons.1 (this.nodup_iff.2 h)
   constructor
   · intro c
     exact⟨this.mem_iff.1 (List.mem_cons_of_mem _ c),fun e=>hn.1 (e ▸ c)⟩
   · rintro⟨c,j⟩
     rcases List.mem_cons.1 (this.mem_iff.2 c) with e|e
     · exact absurd e j
     · exact e
 · rw[if_neg f]at this
   rw[this]
   exact⟨fun c=>⟨c,fun e=>f (e ▸ c)⟩,fun c=>c.1⟩
theorem qEn {a:Ag}(h:a.q.Nodup)(x:Nat):(a.touch x).q.Nodup:=by
 refine(qKD a x).nodup_iff.2 (List.nodup_cons.2 ⟨fun c=>?_,qHq h x⟩)
 exact((qIh h x x).1 c).2 rfl
theorem qGr {a:Ag}(h:a.q.Nodup)(x y:Nat):y∈(a.touch x).q↔y=x∨y∈a.q:=by
 rw[(qKD a x).mem_iff,List.mem_cons,qIh h]
 constructor
 · rintro(e|⟨e,_⟩)
   · exact .inl e
   · exact .inr e
 · rintro(e|e)
   · exact .inl e
   · by_cases c:y=x
     · exact .inl c
     · exact .inr ⟨e,c⟩
def Bx.put1 (b:Bx)(s:Nat)(l:Lf):Bx:=⟨b.x,b.boot,b.k,{ b.c with now:=b.c.now.set s l,age:=b.c.age.touch s }⟩
def Bx.puts (b:Bx)(s:Nat)(l:Lf):Bx:=match b.c.slot l.lba with
 | none=>b.put1 s l
 | some o=>(b.put1 s l).drops o
theorem qIi {c:Ca}{lba:Int}{o:Nat}(h:c.slot lba=some o):o<c.now.length:=by
 unfold Ca.slot at h
 exact List.mem_range.1 (List.find?_range_eq_some.1 h).2.1
theorem qKF {col:Nat→Nat}{w:World}{P:qAU}{M C A:Nat}{vn vw:Value}{b:Bx}(h:qBm col w P M C A vn vw b)(s:Nat)(hs:s<b.c.now.length)(hn16:b.c.now.length≤16)(hm:b.c.age.q.length≤700)(htk:b.c.age.ticks≤1000000000)(l:Lf):Calls prog 123 #[.pointer (some ⟨C,0,none⟩),.int .i64 (s:Int),.agg #[.int .i64 l.kind,.bool l.dirty,.int .i64 l.lba,W l.ep,W l.sl,U l.ver,U l.tag.1,U l.tag.2]] w fun e w'=>e= .returned (.tuple #[])∧∃col',qBm col' w' P M C A vn vw (b.puts s l)∧Ext 11 col col' w w':=by
 obtain⟨j,c1,a6⟩:=qAy h.now (by omega)
 subst a6
 have V:qA4 w (w.alloc (.cells #[.int .i64 l.kind,.bool l.dirty,.int .i64 l.lba,W l.ep,W l.sl,U l.ver,U l.tag.1,U l.tag.2] 117)):=qal _
 have bL:=Blk.new w #[.int .i64 l.kind,.bool l.dirty,.int .i64 l.lba,W l.ep,W l.sl,U l.ver,U l.tag.1,U l.tag.2] 117
 have a2:=bL.cell 2
 have CS:=qNY (h.kept V) l.lba (by omega) (by omega)
 obtain⟨o,ho⟩:∃o,o=b.c.slot l.lba:=⟨_,rfl⟩
 rw[←ho]at CS
 have HO:=qh ho
 obtain⟨y,hy⟩:∃y,y=b.c.now[s]:=⟨_,rfl⟩
 have a7:Hid (b.c.now[s]? = some y):=qh (by rw[List.getElem?_eq_getElem hs,hy])
 obtain⟨N,hN⟩:∃N,N=b.c.now.length:=⟨_,rfl⟩
 have HN:=qh hN
 have HS:=qh hs
 rw[←hN]at hs
 have i1:(s:Int)<(N:Int):=by omega
 have i2:(0:Int)≤(s:Int):=by omega
 have i3:(s:Int)<16:=by omega
 clear ho hy hN
 go_enter func123,ntmps123
 go_wp2_with fail
 generalize (w.alloc (.cells #[.int .i64 l.kind,.bool l.dirty,.int .i64 l.lba,W l.ep,W l.sl,U l.ver,U l.tag.1,U l.tag.2] 117))=wA at *
 refine CS.mono ?_
 rintro e w1 ⟨rfl,Y⟩
 have h1:=h.kept (V.of Y)
 have a5:=h1.blk
 rw[←HN.out]at a5
 clear a2
 obtain⟨oi,F⟩:∃i,i=qDG o:=⟨_,rfl⟩
 rw[←F]
 have a4:=qh F
 clear F
 go_wp2_with fail
 refine qA3 [(0,0),(1,0),(2,0),(3,0),(4,0),(5,0),(6,0),(7,2)] (by kernel_rfl) (by kernel_rfl) ?_
 intro I J
 have Z:=h1.kept J
 have O:=qBQ Z.now s y a7.out
 obtain⟨cur,f⟩:=qAq Z.now rfl
 repeat
  refine qA0 _ rfl (fun K hK=>?_)
  first
   | (refine qqP (by rfl) ?_;apply Exists.intro;refine⟨fun w' a3=>?_,hK _ ?_⟩;(have c:=h1.blk.kept (J.of a3);have c2:=c.cell 2;clear c;have d:=bL.kept (Y.of (J.of a3));have d0:=d.cell 0;have d1:=d.cell 1;have d2:=d.cell 2;have d3:=d.cell 3;have d4:=d.cell 4;have d5:=d.cell 5;have d6:=d.cell 6;have d7:=d.cell 7;clear d;go_simp;first|done|rfl))
   | refine qqN (by rfl) (hK _ ?_)
  clear hK K;simp only[Act.put,qqB]
 refine qAg _ rfl (fun K hK=>?_)
 refine qqP (by rfl) ?_
 have e0:I.cell? ⟨j,s*8,none⟩=some (.int .i64 y.kind):=O 0 _ rfl
 have f0:=f.free (s*8)
 have e1:I.cell? ⟨j,s*8+1,none⟩=some (.bool y.dirty):=O 1 _ rfl
 have f1:=f.free (s*8+1)
 have e2:I.cell? ⟨j,s*8+2,none⟩=some (.int .i64 y.lba):=O 2 _ rfl
 have f2:=f.free (s*8+2)
 have e3:I.cell? ⟨j,s*8+3,none⟩=some (W y.ep):=O 3 _ rfl
 have f3:=f.free (s*8+3)
 have e4:I.cell? ⟨j,s*8+4,none⟩=some (W y.sl):=O 4 _ rfl
 have f4:=f.free (s*8+4)
 have e5:I.cell? ⟨j,s*8+5,none⟩=some (U y.ver):=O 5 _ rfl
 have f5:=f.free (s*8+5)
 have e6:I.cell? ⟨j,s*8+6,none⟩=some (U y.tag.1):=O 6 _ rfl
 have f6:=f.free (s*8+6)
 have e7:I.cell? ⟨j,s*8+7,none⟩=some (U y.tag.2):=O 7 _ rfl
 have f7:=f.free (s*8+7)
 go_wp2
 refine qA6 ?_
 have HC:=qGq I j s l
 have HR:=qGp Z.now s l HS.out
 obtain⟨h3,e3⟩:=Z.setNow (ls:=b.c.now.set s l) (by simp) HC HR
 generalize ((((((((I.setCell ⟨j,s*8,none⟩ (.int .i64 l.kind)).setCell ⟨j,s*8+1,none⟩ (.bool l.dirty)).setCell ⟨j,s*8+2,none⟩ (.int .i64 l.lba)).setCell ⟨j,s*8+3,none⟩ (W l.ep)).setCell ⟨j,s*8+4,none⟩ (W l.sl)).setCell ⟨j,s*8+5,none⟩ (U l.ver)).setCell ⟨j,s*8+6,none⟩ (U l.tag.1)).setCell ⟨j,s*8+7,none⟩ (U l.tag.2))=z2 at *
 have q4:=h3.blk.cell 4
 have CT:=qFo h3.age h3.top s (by omega) (by show b.c.age.q.length≤800;omega) htk
 clear O f Z HC HR
 go_wp2_with fail
 refine CT.mono ?_
 rintro e z3 ⟨rfl,G,ha,o3⟩
 have h4:=h3.aged ha o3
 replace h4:qBm G z3 P M C A (.slice (some ⟨j,0,none⟩) b.c.now.length c1) vw (b.put1 s l):=h4
 have a0:=(((Ext.kept (m:=11) h.top (V.of Y)).trans (Ext.kept h1.top J)).trans e3).trans (o3.ext (by decide) (by decide))
 cases o with
 | none =>
  have F:oi= -1:=a4.out
  have hp:b.puts s l=b.put1 s l:=by unfold Bx.puts;rw[←HO.out]
  replace hp:=qh hp
  subst F
  go_wp2_with fail
  refine bodyPost_end (results_none rfl _ _ _) rfl ⟨rfl,G,by rw[hp.out];exact h4,a0⟩
 | some o =>
  have F:oi=(o:Int):=a4.out
  have hp:b.puts s l=(b.put1 s l).drops o:=by unfold Bx.puts;rw[←HO.out]
  replace hp:=qh hp
  subst F
  have a1:o<b.c.now.length:=qIi HO.out.symm
  have j1:(0:Int)≤(o:Int):=by omega
  have CD:=qIg h4 o (by show o<(b.c.now.set s l).length;simpa using a1) (by have:=qJe b.c.age s;show(b.c.age.touch s).q.length≤900;omega)
  clear a1
  go_wp2_with fail
  refine CD.mono ?_
  rintro e z4 ⟨rfl,h5,e5⟩
  go_wp2_with fail
  refine bodyPost_end (results_none rfl _ _ _) rfl ⟨rfl,G,by rw[hp.out];exact h5,a0.trans e5⟩
end Go.Proofs.YtdlgihbpiakebaaGreat
