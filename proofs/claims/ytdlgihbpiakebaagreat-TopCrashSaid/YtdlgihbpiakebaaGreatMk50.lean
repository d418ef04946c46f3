import Derived.Test.YtdlgihbpiakebaaGreatMk07
import Derived.Test.YtdlgihbpiakebaaGreatMk15
import Derived.Test.YtdlgihbpiakebaaGreatMk27
import Derived.Test.YtdlgihbpiakebaaGreatMk30
import Derived.Test.YtdlgihbpiakebaaGreatMk49
import Derived.Deep.Slices
set_option maxRecDepth 100000
set_option maxHeartbeats 4000000
namespace Go.Proofs.YtdlgihbpiakebaaGreat
open Go Go.RowKit Tryz
theorem qRc {col:Nat→Nat}{w:World}{P:qAU}{x:Wd}{m:Nat}(h:qAW col w P x)(ok:x.ok m)(hm:m≤100000):Calls prog 29 #[.pointer (some ⟨P.s,0,none⟩)] w fun e w'=>∃g c,e= .returned (.slice (some ⟨g,0,none⟩) (gSize x.n) c)∧w'.ownsRow w.heap.size 5 1 (.slice (some ⟨g,0,none⟩) (gSize x.n) c) (gSize x.n) (qA1 x.sd.snap)∧qA4 w w':=
 qL6 _ P.s P.b x.sd (gSize x.n) m ok.size.1 (by have:=ok.size;omega) hm w h.sdAt ok.s
theorem qKH {col:Nat→Nat}{w:World}{P:qAU}{x:Wd}{m:Nat}(h:qAW col w P x)(ok:x.ok m)(off:Int)(a:Option Addr)(L c:Nat)(hno:isB (gSize x.n) off (L:Int)=false):Calls prog 28 #[.pointer (some ⟨P.s,0,none⟩),.int .i64 off,.slice a L c] w fun e w'=>e= .returned (.bool false)∧w=w':=by
 obtain⟨gl,cap,ex,vw,vt,us,ut,X,_⟩:=h.ssd
 have j:=X.blk.cell 1
 have hl:x.s.lasts.length=gSize x.n:=ok.s.len
 have f:=ok.size
 have l:=qCT P.s (some ⟨gl,0,none⟩) (gSize x.n) cap (by omega) off (L:Int) w (by rw[j];show some (Value.slice _ x.s.lasts.length _)=_;rw[hl])
 rw[hno]at l
 clear j hl f
 go_enter func28,ntmps28
 go_wp2_with fail
 refine l.mono ?_
 rintro e w1 ⟨rfl,rfl⟩
 go_wp2_with fail
 go_ret
 exact⟨rfl,rfl⟩
theorem qOg (A:Nat→Prop)(K b:Nat)(s:Sd)(n m:Nat)(h0:0<n)(hn:n≤65536)(hm:m≤100000)(w:World)(h:qGP A w K b s)(ok:s.ok n m)(a:Option Addr)(c:Nat)(_:Sl w (.slice a 0 c) 0 (qA1 [])) :
 Calls prog 28 #[.pointer (some ⟨K,0,none⟩),.int .i64 (n:Int),.slice a 0 c] w fun e w'=>e= .returned (.bool true)∧qGP A w' K b { s with lasts:=qBV s.snap ((n:Int),[]),waits:=[] }∧qA8 A w w':=by
 obtain⟨gl,cap,ex,vw,vt,us,ut,X,O,a0⟩:=h
 have c1:w.cell? ⟨K,1,none⟩=some (.slice (some ⟨gl,0,none⟩) n cap):=by have:=X.blk.cell 1;rw[ok.len]at this;exact this
 have q:isB n (n:Int) 0=true:=by unfold isB;simp
 have l:=Sd.snap_length ok
 have hcap:=X.hcap
 rw[ok.len]at hcap
 have N:=X.most
 go_enter func28,ntmps28
 go_wp2_with fail
 refine(qCT K _ n _ (by omega) n 0 _ c1).mono ?_
 rintro e w1 ⟨rfl,rfl⟩
 rw[q]
 have a4:=qh q
 have Z:=qh ok
 clear q ok
 go_wp2_with fail
 refine(qFf K b gl cap ex vw vt us ut s n m h0 hn hm (fun _=>true) _ X Z.out rfl).mono ?_
 rintro e F ⟨rfl,J,c2⟩
 rw[qEB _ _ _ qle,List.take_length]at J
 have G:qA8 A _ F:=qA8.of_chg c2 (by intro x hx;simp at hx;rcases hx with rfl|rfl;exact O.gl;exact O.K)
 have j:qBV s.snap ((n:Int),[])=s.snap:=by unfold qBV;rw[List.append_nil];simp
 have X3:qFe F K b gl cap ex (.slice none 0 0) vt [] ut { s with lasts:=qBV s.snap ((n:Int),[]),waits:=[] }:=by rw[j];exact J
 have k1:F.cell? ⟨K,1,none⟩=some (.slice (some ⟨gl,0,none⟩) n cap):=by
  have:=J.blk.cell 1
  rw[show({ s with lasts:=qB5 s.lasts s.waits,waits:=[] }:Sd).lasts.length=n from l]at this
  exact this
 have f:Ending.returned (Value.bool true)=Ending.returned (Value.bool true)∧qGP A F K b { s with lasts:=qBV s.snap ((n:Int),[]),waits:=[] }∧qA8 A w F:=⟨rfl,⟨gl,cap,ex,_,_,_,_,X3,⟨O.K,O.b,O.gl,(by intro g hg;cases hg),O.vt,by simp,O.ut⟩,fun k ha=>Nat.lt_of_lt_of_le (a0 k ha) G.size⟩,G⟩
 replace f:=qh f
 have a3:=qh l
 clear l j
 have m5:(n:Int)≤(n:Int):=Int.le_refl _
 have m6:(n:Int)≤(cap:Int):=by omega
 have m7:(0:Int)≤(n:Int):=by omega
 obtain⟨i,hi,hz,Y,a1⟩:=qAx.info
 have V:(prog.info? 5).map (·.size)=some 1:=by rw[hi];simp[Y]
 have a2:=fun (base:Option Addr) (dc:Nat)=>run_copy_none (P:=prog) F 32 32 3 5 base a 0 dc 0 c qAx.under V rfl
 by_cases I:cap=n
 · subst I
   go_wp2
   go_ret
   exact⟨rfl,f.out.2⟩
 · have m8:¬cap=n:=I
   have m9:¬cap - n=0:=by omega
   go_wp2
   go_ret
   exact⟨rfl,f.out.2⟩
theorem qJj {col:Nat→Nat}{w:World}{P:qAU}{x:Wd}{m:Nat}(h:qAW col w P x)(ok:x.ok m)(hm:m≤100000)(a:Option Addr)(c:Nat)(hsv:Sl w (.slice a 0 c) 0 (qA1 [])) :
 Calls prog 28 #[.pointer (some ⟨P.s,0,none⟩),.int .i64 (gSize x.n:Nat),.slice a 0 c] w fun e w'=>e= .returned (.bool true)∧qHd 6 col w P (x.sSmash ((gSize x.n:Nat),[])) w':=by
 refine(qOg _ P.s P.b x.sd (gSize x.n) m ok.size.1 (by have:=ok.size;omega) hm w h.sdAt ok.s a c hsv).mono ?_
 rintro e w' ⟨rfl,j,f⟩
 exact⟨rfl,_,h.stepS j f⟩
theorem qRd {n:Nat}{off:Int}{L:Nat}{bs:List UInt8}(hb:bs.length=L)(h0:0<L∨off<(n:Int))(h:isB n off (L:Int)=true):inB n (off,bs)∧off=((off.toNat:Nat):Int):=by
 unfold isB at h
 simp only[Bool.and_eq_true,decide_eq_true_eq]at h
 have hl:0<L∨off<(n:Int):=h0
 exact⟨⟨by show 0≤off;omega,by show off.toNat<n;omega,by show off.toNat+bs.length≤n;omega⟩,by omega⟩
structure Bo where
 x:Wd
 c:Option Bx
 snaps:List (List UInt8)
def Bo.cur (o:Bo):Wd:=match o.c with
 | none=>o.x
 | some B=>B.x
def Bo.setX (o:Bo)(x:Wd):Bo:=⟨x,o.c.map (fun B=>B.setX x),o.snaps⟩
theorem Bo.cur_setX (o:Bo)(x:Wd):(o.setX x).cur=x:=by
 unfold Bo.cur Bo.setX
 cases o.c<;>rfl
def Bo.open_ (s:List (List UInt8))(r:Int×Wd×Option Bx):(Int×List UInt8)×Bo:=((r.1,[]),⟨r.2.1,r.2.2,s⟩)
def Bo.call (o:Bo)(c:Cl):(Int×List UInt8)×Bo:=match o.c with
 | none=>((8,[]),o)
 | some B=>((B.doC c).1,⟨(B.doC c).2.x,some (B.doC c).2,o.snaps⟩)
def Bo.crash (o:Bo)(ks:List Bool):(Int×List UInt8)×Bo:=Bo.open_ o.snaps (o.cur.crash ks).opens
def Bo.smash (o:Bo)(off:Int)(d:List UInt8):(Int×List UInt8)×Bo:=if isB (gSize o.cur.n) off (d.length:Int) then((0,[]),o.setX (o.cur.sSmash (off,d))) else((1,[]),o)
def Bo.snap (o:Bo):Bo:=⟨o.x,o.c,o.snaps++ [o.cur.sd.snap]⟩
def Bo.back (o:Bo)(n:Int):(Int×List UInt8)×Bo:=if 0≤n∧n<(o.snaps.length:Int) then((0,[]),o.setX (o.cur.sBack (o.snaps[n.toNat]?.getD []))) else((1,[]),o)
def Bo.act (o:Bo)(a:Ac):(Int×List UInt8)×Bo:=
 if a.kind=1 then o.call a.call
 else if a.kind=2 then((0,[]),o.setX (o.cur.setP (o.cur.p.setFuse a.n)))
 else if a.kind=3 then o.crash a.keep
 else if a.kind=4 then o.smash a.off a.data
 else if a.kind=5 then((0,[]),o.snap)
 else if a.kind=6 then o.back a.n
 else if a.kind=7 then((0,[]),o.setX (o.cur.dRefuse (decide (a.n≠0))))
 else((1,[]),o)
structure Bo.good (o:Bo)(m:Nat):Prop where
 f:o.cur.fine m
 ep:0#32<qAl o.cur.eps
 bx:∀B,o.c=some B→B.good m
 sn:∀s∈o.snaps,s.length=gSize o.cur.n
 few:o.snaps.length≤m
structure qKI (col:Nat→Nat)(w:World)(sv:Value)(snaps:List (List UInt8))(us:List Value):Prop where
 len:us.length=snaps.length
 row:w.ownsRow 0 32 1 sv snaps.length us
 one:∀u∈us,u.oneCell'=true
 cs:∀g,sv.ownBlock=some g→col g=12
 each:∀(i:Nat) (bs:List UInt8) (u:Value),snaps[i]? = some bs→us[i]? = some u→w.ownsRow 0 5 1 u bs.length (qA1 bs)∧∀g,u.ownBlock=some g→col g=12
theorem qKI.nil {col:Nat→Nat}{w:World}:qKI col w (.slice none 0 0) [] []:=⟨rfl,⟨rfl,.inl ⟨rfl,rfl⟩⟩,fun u c=>(by cases c),fun g f=>(by cases f),fun i bs u h=>(by cases i<;>cases h)⟩
theorem qKI.frame {col col':Nat→Nat}{w w':World}{sv:Value}{snaps:List (List UInt8)}{us:List Value}(h:qKI col w sv snaps us)(s:qB0 12 col col' w w'):qKI col' w' sv snaps us:=
 ⟨h.len,s.own h.row h.cs,h.one,fun g c=>s.old g (qAp h.row c) (h.cs g c),fun i bs u q l=>by
  obtain⟨f,j⟩:=h.each i bs u q l
  exact⟨s.own f j,fun g c=>s.old g (qAp f c) (j g c)⟩⟩
structure qCi (col:Nat→Nat)(w:World)(P:qAU)(X:Nat)(cv sv:Value)(us:List Value)(o:Bo):Prop where
 blk:Blk w X #[.pointer (some ⟨P.W,0,none⟩),cv,sv] 83
 cX:col X=12
 bc:qF4 col w P o.c o.x cv
 sn:qKI col w sv o.snaps us
def qAL (col:Nat→Nat)(w:World)(P:qAU)(X:Nat)(o:Bo):Prop:=∃cv sv us,qCi col w P X cv sv us o
section
variable {col col':Nat→Nat} {w w':World} {P:qAU} {X:Nat} {cv sv:Value} {us:List Value} {o:Bo} {m:Nat}
theorem qF4.wd {c:Option Bx}{x:Wd}(h:qF4 col w P c x cv):qAW col w P (Bo.cur ⟨x,c,[]⟩):=by
 cases c with
 | none=>exact h.2
 | some B =>
  obtain⟨M,C,_,A,vn,vw,f⟩:=h
  exact f.wm.wd
theorem qCi.wd (h:qCi col w P X cv sv us o):qAW col w P o.cur:=qF4.wd h.bc
theorem qCi.top (h:qCi col w P X cv sv us o):Top col w:=h.wd.top
theorem qF4.kept {c:Option Bx}{x:Wd}(h:qF4 col w P c x cv)(hk:qA4 w w'):qF4 col w' P c x cv:=by
 cases c with
 | none=>exact⟨h.1,h.2.kept hk⟩
 | some B =>
  obtain⟨M,C,e,A,vn,vw,f⟩:=h
  exact⟨M,C,e,A,vn,vw,f.kept hk⟩
theorem qCi.kept (h:qCi col w P X cv sv us o)(hk:qA4 w w'):qCi col w' P X cv sv us o:=
 ⟨h.blk.kept hk,h.cX,h.bc.kept hk,h.sn.frame (qB0.kept hk 12)⟩
theorem qF4.next {c:Option Bx}{x x':Wd}(h:qF4 col w P c x cv)(hw:qAW col' w' P x')(e:Ext 6 col col' w w'):qF4 col' w' P (c.map fun B=>B.setX x') x' cv:=by
 cases c with
 | none=>exact⟨h.1,hw⟩
 | some B =>
  obtain⟨M,C,j,A,vn,vw,f⟩:=h
  exact⟨M,C,j,A,vn,vw,f.world (f.wm.ext6 hw e) (e.mono (by decide))⟩
theorem qCi.next (h:qCi col w P X cv sv us o){x':Wd}(hw:qAW col' w' P x')(e:Ext 6 col col' w w'):qCi col' w' P X cv sv us (o.setX x'):=by
 obtain⟨b1,c⟩:=(e.same (i:=12) (by decide)).blk h.blk h.cX
 exact⟨b1,c,h.bc.next hw e,h.sn.frame (e.same (by decide))⟩
theorem qCi.cache (h:qCi col w P X cv sv us o){B:Bx}{M C:Nat}(hcv:cv= .pointer (some ⟨C,0,none⟩))(hc:qCM col' w' P M C B)(e:Ext 11 col col' w w'):qCi col' w' P X cv sv us ⟨B.x,some B,o.snaps⟩:=by
 obtain⟨b1,c⟩:=(e.same (i:=12) (by decide)).blk h.blk h.cX
 exact⟨b1,c,⟨M,C,hcv,hc⟩,h.sn.frame (e.same (by decide))⟩
theorem qF4.chg0 {c:Option Bx}{x:Wd}{g:Nat}(h:qF4 col w P c x cv)(hc:Chg [g] w w')(hg:col g=0):qF4 col w' P c x cv:=by
 cases c with
 | none=>exact⟨h.1,h.2.chg hc (fun b f=>by rw[List.mem_singleton]at f;subst f;exact .inl hg)⟩
 | some B =>
  obtain⟨M,C,e,A,vn,vw,j⟩:=h
  exact⟨M,C,e,A,vn,vw,j.chg0 hc hg⟩
theorem qCi.chg0 {g:Nat}(h:qCi col w P X cv sv us o)(hc:Chg [g] w w')(hg:col g=0):qCi col w' P X cv sv us o:=by
 have s:qB0 12 col col w w':=qB0.chg hc fun b c=>by rw[List.mem_singleton]at c;subst c;rw[hg];decide
 obtain⟨b1,f⟩:=s.blk h.blk h.cX
 exact⟨b1,f,h.bc.chg0 hc hg,h.sn.frame s⟩
theorem Bo.good.up {k:Nat}(g:o.good m)(h:m≤k):o.good k:=⟨g.f.up h,g.ep,fun B c=>(g.bx B c).up h,g.sn,Nat.le_trans g.few h⟩
theorem Bo.good.setX (g:o.good m){x:Wd}{k:Nat}(f:x.fine k)(hk:m≤k)(hn:x.n=o.cur.n)(he:x.eps=o.cur.eps):(o.setX x).good k:=by
 refine⟨by rw[Bo.cur_setX];exact f,by rw[Bo.cur_setX,he];exact g.ep,fun B l=>?_,fun s q=>by rw[Bo.cur_setX,hn];exact g.sn s q,Nat.le_trans g.few hk⟩
 unfold Bo.setX at l
 cases hc:o.c with
 | none=>rw[hc]at l;cases l
 | some B0 =>
  rw[hc]at l
  cases l
  have j:=g.bx B0 hc
  have h:o.cur=B0.x:=by unfold Bo.cur;rw[hc]
  exact j.as ⟨f,j.f.k,by rw[show(B0.setX x).x.n=x.n from rfl,hn,h];exact j.f.nl,by rw[show(B0.setX x).x.n=x.n from rfl,hn,h];exact j.f.wl,j.f.nok,j.f.wok⟩ hk rfl rfl (by show qAl x.eps=_;rw[he,h])
end
theorem qPU {col:Nat→Nat}{w:World}{P:qAU}{X:Nat}{o:Bo}(h:qAL col w P X o){m:Nat}(g:o.good m)(hm:m≤39000)(cl:Cl)(a:Option Addr)(c:Nat)(hn:cl.data.length≤1000000)(sd:SlC col w (.slice a cl.data.length c) cl.data):Calls prog 25 #[.pointer (some ⟨X,0,none⟩),.agg #[.int .i64 cl.kind,.int .i64 cl.lba,.slice a cl.data.length c]] w fun e w'=>∃v col',e= .returned (.agg #[.int .i64 (o.call cl).1.1,v])∧qC4 col' w' w.heap.size v (o.call cl).1.2∧qAL col' w' P X (o.call cl).2∧Ext 12 col col' w w':=by
 obtain⟨cv,sv,us,Z⟩:=h
 obtain⟨kd,hkd⟩:∃k,k=cl.kind:=⟨_,rfl⟩
 obtain⟨lba,l⟩:∃k,k=cl.lba:=⟨_,rfl⟩
 obtain⟨n,N⟩:∃k,k=cl.data.length:=⟨_,rfl⟩
 obtain⟨Y,f⟩:∃y,y=((w.alloc (.cells #[.int .i64 kd,.int .i64 lba,.slice a n c] 34)).alloc (.cells #[.int .i64 0,.slice none 0 0] 39)):=⟨_,rfl⟩
 have a0:qA4 w Y:=by rw[f];exact(qal _).alloc (by simp) _
 have a4:Blk Y w.heap.size #[.int .i64 kd,.int .i64 lba,.slice a n c] 34:=by
  rw[f]
  exact(Blk.new w _ _).kept ((Below.refl _ _).alloc (by simp) _)
 have bT:Blk Y (w.heap.size+1) #[.int .i64 0,.slice none 0 0] 39:=by
  rw[f]
  have:=Blk.new (w.alloc (.cells #[.int .i64 kd,.int .i64 lba,.slice a n c] 34)) #[.int .i64 0,.slice none 0 0] 39
  rw[World.size_alloc]at this
  exact this
 have V:=Z.kept a0
 have b3:Ext 12 col col w Y:=Ext.kept Z.top a0
 have cT:col (w.heap.size+1)=0:=Z.top _ (by omega)
 have q1:=V.blk.cell 1
 obtain⟨R,hR⟩:∃R,R=o.call cl:=⟨_,rfl⟩
 rw[←hR]
 obtain⟨oc,I⟩:∃oc,oc=o.c:=⟨_,rfl⟩
 have O:=V.bc
 rw[←I]at O
 replace hR:=qh hR
 cases oc with
 | none =>
  have G:R=((8,[]),o):=by rw[hR.out];unfold Bo.call;rw[←I]
  replace G:=qh G
  have a2:=O.1
  subst a2
  rw[←hkd,←l,←N]
  clear I hkd l N sd hn O
  rw[f]at q1
  go_enter func25,ntmps25
  go_wp2_with fail
  have a6:qA4 w ((w.alloc (.cells #[.int .i64 kd,.int .i64 lba,.slice a n c] 34)).alloc (.cells #[.int .i64 8,.slice none 0 0] 39)):=(qal _).alloc (by simp) _
  refine bodyPost_ret (v:=.agg #[.int .i64 8,.slice none 0 0]) (by simp[results,results25,go_sem];try exact⟨rfl,rfl⟩) rfl ⟨_,col,by rw[G.out],by rw[G.out];exact qC4.nil,by rw[G.out];exact⟨_,_,_,Z.kept a6⟩,Ext.kept Z.top a6⟩
 | some b =>
  have G:R=((b.doC cl).1,⟨(b.doC cl).2.x,some (b.doC cl).2,o.snaps⟩):=by rw[hR.out];unfold Bo.call;rw[←I]
  obtain⟨M,C,a2,b4⟩:=O
  subst a2
  have gb:=g.bx b I.symm
  have CD:=fun z (hz:qA4 Y z)=>qT9 (w:=z) (by obtain⟨A,vn,vw,h9⟩:=b4;exact⟨A,vn,vw,h9.kept hz⟩) gb hm cl a c hn (sd.ext (Ext.kept (m:=11) Z.top (a0.of hz)))
  obtain⟨F,hF⟩:∃F,F=b.doC cl:=⟨_,rfl⟩
  rw[←hF]at CD G
  obtain⟨⟨E,D⟩,B⟩:=F
  simp only at CD G
  rw[←hkd,←l,←N]at CD ⊢
  replace G:=qh G
  replace CD:∀z,qA4 Y z→Calls prog 51 #[.pointer (some ⟨C,0,none⟩),.agg #[.int .i64 kd,.int .i64 lba,.slice a n c]] z fun e w'=>∃v col',e= .returned (.agg #[.int .i64 E,v])∧qC4 col' w' z.heap.size v D∧qCM col' w' P M C B∧Ext 11 col col' z w':=CD
  clear I hkd l N sd hn hF gb
  have b5:=bT.lt
  rw[f]at q1
  go_enter func25,ntmps25
  go_wp2_with fail
  rw[←f]
  rw[←f]at q1
  clear f
  refine qAf (qA8 (fun k=>k<Y.heap.size∧(col k=0∨11<col k))) [(0,0),(1,0),(2,0),(3,0),(4,0),(5,1),(6,2)] (by kernel_rfl) (by kernel_rfl) ?_ ?_ ?_
  · exact fun _=>qA8.refl _
  · exact fun _ _ _ V h2=>V.trans h2
  intro z1 j
  have a3:=V.blk.kept j
  have a5:=a4.kept j
  repeat
   refine qA0 _ rfl (fun K hK=>?_)
   first
    | (refine qqP (by rfl) ?_;apply Exists.intro;refine⟨fun w' a7=>?_,hK _ ?_⟩;(have q:=(a7.block _ a3.lt ⟨V.blk.lt,.inr (by rw[V.cX];decide)⟩).trans a3;have q1:=Blk.cell q 1;clear q;have d:=(a7.block _ a5.lt ⟨a4.lt,.inl (Z.top _ qle)⟩).trans a5;have d0:=Blk.cell d 0;have d1:=Blk.cell d 1;have d2:=Blk.cell d 2;clear d;go_simp;first|done|rfl))
    | refine qqN (by rfl) (hK _ ?_)
   clear hK K;simp only[Act.put,qqB]
  refine qqH _ rfl (by rfl) (fun K hK=>?_)
  go_wp2_with fail
  refine(CD z1 j).mono ?_
  rintro e w4 ⟨v,a8,rfl,hv,h4,e4⟩
  obtain⟨va,vc,rfl⟩:=(Sl.of_own hv.1).len
  obtain⟨J,a9⟩:=e4.blk0 (bT.kept j) cT
  have S4:=e4.sameOn (w0:=Y) (col0:=col) (fun k hk=>rfl)
  go_wp2
  refine hK _ _ (S4) ?_
  clear hK K
  try simp only[Act.put,qqB]
  refine qAg _ rfl (fun K hK=>?_)
  refine qqP (by rfl) ?_
  have f0:=J.free 0
  have f1:=J.free 1
  have y0:=J.cell 0
  have y1:=J.cell 1
  go_wp2_with fail
  have bR:=(J.set 0 (.int .i64 E)).set 1 (.slice va D.length vc)
  have a1:Chg [w.heap.size+1] w4 ((w4.setCell ⟨w.heap.size+1,0,none⟩ (.int .i64 E)).setCell ⟨w.heap.size+1,1,none⟩ (.slice va D.length vc)):=((Chg.refl _ _).set qsm 0 _).set qsm 1 _
  have r0:=bR.cell 0
  have r1:=bR.cell 1
  clear f0 f1 y0 y1
  generalize ((w4.setCell ⟨w.heap.size+1,0,none⟩ (.int .i64 E)).setCell ⟨w.heap.size+1,1,none⟩ (.slice va D.length vc))=wE at *
  go_wp2
  refine qA6 ?_
  go_wp2_with fail
  have b6:=j.size
  refine bodyPost_ret (v:=.agg #[.int .i64 E,.slice va D.length vc]) (by simp[results,results25,go_sem,r0,r1];try exact⟨rfl,rfl⟩) rfl ⟨_,a8,by rw[G.out],by rw[G.out];exact(hv.chg a1 (by omega)).base (by omega),by rw[G.out];exact⟨_,_,_,qCi.chg0 (qCi.cache (V.kept j) rfl h4 e4) a1 a9⟩,((b3.trans (Ext.kept (m:=12) V.top j)).trans (e4.mono (show 11≤12 by decide))).newset a1 (by omega)⟩
theorem qBm.paintI {i:Nat}{col:Nat→Nat}{w w1:World}{P:qAU}{M C A:Nat}{vn vw:Value}{b:Bx}(h:qBm col w P M C A vn vw b)(hk:qA4 w w1)(hi:11<i):qBm (qAi col i w w1) w1 P M C A vn vw b:=by
 refine⟨h.wm.paint hk (by omega),h.blk.kept hk,by rw[qAd h.blk.lt];exact h.cC,qA5 h.now hk,qA5 h.was hk,fun g c=>?_,fun g c=>?_,h.ne,h.age.frame (qB0.paint hk)⟩
 · rw[qAd (qAp h.now c)];exact h.cn g c
 · rw[qAd (qAp h.was c)];exact h.cw g c
theorem qF4.paintI {i:Nat}{col:Nat→Nat}{w w1:World}{P:qAU}{c:Option Bx}{x:Wd}{cv:Value}(h:qF4 col w P c x cv)(hk:qA4 w w1)(hi:11<i):qF4 (qAi col i w w1) w1 P c x cv:=by
 cases c with
 | none=>exact⟨h.1,h.2.paint hk (by omega)⟩
 | some B =>
  obtain⟨M,C,e,A,vn,vw,f⟩:=h
  exact⟨M,C,e,A,vn,vw,f.paintI hk hi⟩
def Bo.newB (n:Nat)(seed:BitVec 64)(ideal:Bool):Bx:=(Wd.new n seed ideal).boot.fresh (List.replicate n Lf.zero)
def Bo.new (n:Nat)(seed:BitVec 64)(ideal:Bool):Bo:=⟨(Bo.newB n seed ideal).x,some (Bo.newB n seed ideal),[]⟩
theorem qOh (n:Nat)(seed:BitVec 64)(ideal:Bool):(Wd.new n seed ideal).opens=(0,(Bo.new n seed ideal).x,(Bo.new n seed ideal).c):=by
 have f:(Wd.new n seed ideal).boot.loadO=some (List.replicate n Lf.zero):=by
  unfold Wd.loadO
  rw[if_pos (show(Wd.new n seed ideal).boot.c.value=0#64 from rfl)]
  rfl
 have j:(Wd.new n seed ideal).boot.loadX=(Wd.new n seed ideal).boot:=by
  unfold Wd.loadX
  rw[if_pos (show(Wd.new n seed ideal).boot.c.value=0#64 from rfl)]
 unfold Wd.opens
 rw[if_neg (show ¬(Wd.new n seed ideal).p.gone=true by show ¬false=true;decide),if_neg (show ¬(Wd.new n seed ideal).p.spend.1=false by show ¬true=false;decide),f]
 show Bx.openR ((Wd.new n seed ideal).boot.loadX.fresh (List.replicate n Lf.zero)).finish=_
 rw[j]
 have h:((Wd.new n seed ideal).boot.fresh (List.replicate n Lf.zero)).finish=(0,(Wd.new n seed ideal).boot.fresh (List.replicate n Lf.zero)):=by
  unfold Bx.finish
  rw[if_pos (show((Wd.new n seed ideal).boot.fresh (List.replicate n Lf.zero)).x.eps.length<2 by show [1#32].length<2;decide)]
 rw[h]
 rfl
theorem Bo.new_good (n:Nat)(seed:BitVec 64)(ideal:Bool)(hs:qD9 (n:Int)=true):(Bo.new n seed ideal).good 17:=by
 have hn:=qAo hs
 have f:=(Wd.new_fine n seed ideal hs).boot
 have g:(Bo.newB n seed ideal).good (0+1+16):=qDT f (by show 0#32<qAl [1#32];decide) (by show(List.replicate n Lf.zero).length=n;exact List.length_replicate) (qLr n (by omega))
 exact⟨f.up (by omega),by show 0#32<qAl [1#32];decide,fun B c=>(by cases c;exact g),fun s h=>(by cases h),Nat.zero_le _⟩
theorem qIn (n:Nat)(hsl:qD9 (n:Int)=true)(seed:BitVec 64)(ideal:Bool)(w:World) :
 Calls prog 9 #[.int .i64 (n:Int),U seed,.bool ideal] w fun e w'=>∃P X col',e= .returned (.tuple #[.pointer (some ⟨X,0,none⟩),.int .i64 0])∧qAL col' w' P X (Bo.new n seed ideal)∧Ext 12 (fun _=>0) col' w w':=by
 have V:=qOf n hsl seed ideal w
 have ff:=Wd.new_fine n seed ideal hsl
 have f:=qOh n seed ideal
 obtain⟨x,G⟩:∃x,x=Wd.new n seed ideal:=⟨_,rfl⟩
 have hp:0#32<qAl x.eps:=by rw[G];show 0#32<qAl [1#32];decide
 rw[←G]at V ff f
 obtain⟨o,F⟩:∃o,o=Bo.new n seed ideal:=⟨_,rfl⟩
 have h:o.snaps= []:=by rw[F];rfl
 have j:o.c=some (Bo.newB n seed ideal):=by rw[F];rfl
 rw[←F]at f ⊢
 replace f:=qh f
 replace h:=qh h
 replace j:=qh j
 clear G F
 go_enter func9,ntmps9
 go_wp2_with fail
 refine V.mono ?_
 rintro e w1 ⟨P,Y,rfl,h1,e1⟩
 have Z:=qOe h1 ff (by omega) hp
 rw[f.out]at Z
 go_wp2_with fail
 refine Z.mono ?_
 rintro e l ⟨v,q,rfl,I,N⟩
 have hv:∃C,v= .pointer (some ⟨C,0,none⟩):=by rw[j.out]at I;obtain⟨M,C,e,_⟩:=I;exact⟨C,e⟩
 obtain⟨C,rfl⟩:=hv
 go_wp2_with fail
 have O:qA4 l (l.alloc (.cells #[.pointer (some ⟨P.W,0,none⟩),.pointer (some ⟨C,0,none⟩),.slice none 0 0] 83)):=qal _
 have J:=Blk.new l #[.pointer (some ⟨P.W,0,none⟩),.pointer (some ⟨C,0,none⟩),.slice none 0 0] 83
 refine bodyPost_ret (v:=.tuple #[.pointer (some ⟨l.heap.size,0,none⟩),.int .i64 0]) (by simp[results,results9,go_sem];done) rfl ⟨P,l.heap.size,qAi q 12 l _,rfl,⟨_,_,[],J,qAk qle J.lt,I.paintI O (by decide),by rw[h.out];exact qKI.nil⟩,((e1.mono (show 7≤12 by decide)).trans (N.mono (show 11≤12 by decide))).trans (Ext.paint N.top O (by decide))⟩
theorem qBm.chgI {col:Nat→Nat}{w w':World}{P:qAU}{M C A g:Nat}{vn vw:Value}{b:Bx}(h:qBm col w P M C A vn vw b)(hc:Chg [g] w w')(hg:11<col g):qBm col w' P M C A vn vw b:=by
 have f:∀x∈ [g],11<col x:=fun x c=>by rw[List.mem_singleton.1 c];exact hg
 have s:∀j,j≤11→qB0 j col col w w':=fun j F=>qB0.chg hc fun x c=>by have:=f x c;omega
 obtain⟨l,q⟩:=(s 9 (by decide)).blk h.blk h.cC
 exact⟨⟨h.wm.wd.chg hc (fun x c=>.inr (by have:=f x c;omega)),((s 8 (by decide)).blk h.wm.mkr h.wm.cM).1,h.wm.cM⟩,l,q,(s 10 (by decide)).own h.now h.cn,(s 10 (by decide)).own h.was h.cw,h.cn,h.cw,h.ne,h.age.frame (s 11 (by decide))⟩
section
variable {col col':Nat→Nat} {w w1 w':World} {P:qAU} {X:Nat} {cv sv:Value} {us:List Value} {o:Bo}
theorem qF4.chgI {c:Option Bx}{x:Wd}{g:Nat}(h:qF4 col w P c x cv)(hc:Chg [g] w w')(hg:11<col g):qF4 col w' P c x cv:=by
 cases c with
 | none=>exact⟨h.1,h.2.chg hc (fun b f=>by rw[List.mem_singleton]at f;subst f;exact .inr (by omega))⟩
 | some B =>
  obtain⟨M,C,e,A,vn,vw,j⟩:=h
  exact⟨M,C,e,A,vn,vw,j.chgI hc hg⟩
theorem qF4.ptr {c:Option Bx}{x:Wd}(h:qF4 col w P c x cv):∃p,cv= .pointer p:=by
 cases c with
 | none=>exact⟨_,h.1⟩
 | some B =>
  obtain⟨M,C,e,_⟩:=h
  exact⟨_,e⟩
theorem qTa (ht:Top col w)(hX:col X=12)(hc:Chg [X] w w'):Ext 12 col col w w':=
 ⟨hc.os,hc.tape,hc.output,hc.size,fun _ _=>rfl,fun k c=>by rw[ht k c];omega,fun k c=>ht k (Nat.le_trans hc.size c),fun k c f=>hc.block k c (by rw[List.mem_singleton];intro e;rw[e,hX]at f;omega)⟩
theorem qCi.setC (h:qCi col w P X cv sv us o){c:Option Bx}{x:Wd}{p:Option Addr}(j:qF4 col' w1 P c x (.pointer p))(e:Ext 11 col col' w w1) :
 qCi col' (w1.setCell ⟨X,1,none⟩ (.pointer p)) P X (.pointer p) sv us ⟨x,c,o.snaps⟩∧Ext 12 col col' w (w1.setCell ⟨X,1,none⟩ (.pointer p)):=by
 obtain⟨b1,l⟩:=(e.same (i:=12) (by decide)).blk h.blk h.cX
 have f:Chg [X] w1 (w1.setCell ⟨X,1,none⟩ (.pointer p)):=(Chg.refl _ _).set qsm 1 _
 have b2:=b1.set 1 (.pointer p)
 simp only[qqA,qq0,qq1]at b2
 have I:Top col' w1:=qF4.wd j |>.top
 have J:=qTa I l f
 have sn:=h.sn.frame (e.same (i:=12) (by decide))
 refine⟨⟨b2,l,j.chgI f (by rw[l];decide),⟨sn.len,qAu sn.row f b1 (by decide),sn.one,sn.cs,fun i bs u j q=>?_⟩⟩,(e.mono (show 11≤12 by decide)).trans J⟩
 obtain⟨G,F⟩:=sn.each i bs u j q
 exact⟨qAu G f b1 (by decide),F⟩
end
theorem qOi {col:Nat→Nat}{w:World}{P:qAU}{X:Nat}{o:Bo}(h:qAL col w P X o){m:Nat}(g:o.good m)(hm:m≤37000)(v:Value)(ks:List Bool)(kl:ks.length≤100000)(hks:Sl w v ks.length (qBe ks))(hu:∀a c,v= .slice (some a) ks.length c→0<(qBe ks).length→col a.block=0) :
 Calls prog 27 #[.pointer (some ⟨X,0,none⟩),v] w fun e w'=>∃col',e= .returned (.int .i64 (o.crash ks).1.1)∧qAL col' w' P X (o.crash ks).2∧Ext 12 col col' w w':=by
 obtain⟨cv,sv,us,V⟩:=h
 have q0:=V.blk.cell 0
 have CC:=qPT V.wd g.f (by omega) v ks kl hks hu
 have fc:=g.f.crash ks
 have q:0#32<qAl (o.cur.crash ks).eps:=g.ep
 obtain⟨R,Z⟩:∃R,R=o.crash ks:=⟨_,rfl⟩
 rw[←Z]
 have N:R=Bo.open_ o.snaps (o.cur.crash ks).opens:=Z
 obtain⟨y,hy⟩:∃y,y=o.cur.crash ks:=⟨_,rfl⟩
 rw[←hy]at CC fc q N
 replace N:=qh N
 clear Z hy hks hu
 go_enter func27,ntmps27
 go_wp2_with fail
 refine CC.mono ?_
 rintro e w1 ⟨rfl,a0,I,e1⟩
 have O:=V.next I e1
 have p0:=O.blk.cell 0
 have Y:=qOe I fc (by omega) q
 obtain⟨F,hF⟩:∃F,F=y.opens:=⟨_,rfl⟩
 rw[←hF]at Y
 have G:R=Bo.open_ o.snaps F:=by rw[N.out,hF]
 obtain⟨E,x2,c2⟩:=F
 simp only at Y
 have j:R=((E,[]),⟨x2,c2,o.snaps⟩):=G
 replace j:=qh j
 clear q0 G hF
 go_wp2_with fail
 refine Y.mono ?_
 rintro e w2 ⟨v2,l,rfl,J,e2⟩
 obtain⟨p,rfl⟩:=J.ptr
 obtain⟨h3,e3⟩:=O.setC J e2
 obtain⟨b1,d1⟩:=(e2.same (i:=12) (by decide)).blk O.blk O.cX
 have y1:=b1.free 1
 have x1:=b1.cell 1
 clear p0
 go_wp2_with fail
 refine bodyPost_ret (v:=.int .i64 E) (by simp[results,results27,go_sem];done) rfl ⟨l,by rw[j.out],by rw[j.out];exact⟨_,_,_,h3⟩,(e1.mono (show 6≤12 by decide)).trans e3⟩
theorem qKJ {col:Nat→Nat}{w:World}{P:qAU}{X:Nat}{o:Bo}(h:qAL col w P X o)(n:Int)(hn:¬(0≤n∧n<(o.snaps.length:Int))) :
 Calls prog 30 #[.pointer (some ⟨X,0,none⟩),.int .i64 n] w fun e w'=>∃col',e= .returned (.int .i64 (o.back n).1.1)∧qAL col' w' P X (o.back n).2∧Ext 12 col col' w w':=by
 obtain⟨cv,sv,us,q⟩:=h
 have I:o.back n=((1,[]),o):=by unfold Bo.back;rw[if_neg hn]
 rw[I]
 replace I:=qh I
 obtain⟨Y,V,rfl⟩:=(Sl.of_own q.sn.row).len
 obtain⟨L,G⟩:∃L,L=o.snaps.length:=⟨_,rfl⟩
 rw[←G]at q hn
 replace G:=qh G
 by_cases F:n<0
 · clear hn
   go_enter func30,ntmps30
   go_wp2_with fail
   refine qA3 [(0,0),(1,0),(2,0),(3,0),(4,0),(5,0),(6,0),(7,0),(8,0),(9,0),(10,0),(11,0),(12,0),(13,0),(14,0),(15,0),(16,0),(17,0),(18,0),(19,0),(20,0),(21,0),(22,0),(23,0),(24,0),(25,0),(26,1),(27,0),(28,0)] (by kernel_rfl) (by kernel_rfl) ?_
   intro N f
   repeat
    refine qA0 _ rfl (fun K c=>?_)
    first
     | (refine qqP (by rfl) ?_;apply Exists.intro;refine⟨fun w' l=>?_,c _ ?_⟩;(have b:=q.blk.kept (f.of l);have b0:=Blk.cell b 0;have b2:=Blk.cell b 2;clear b;go_simp;first|done|rfl))
     | refine qqN (by rfl) (c _ ?_)
    clear c K;simp only[Act.put,qqB]
   refine qBa _ rfl (fun K c=>?_)
   refine qqN (by rfl) ?_
   intro j
   refine j _ _ ?_
   clear c j K
   simp only[Act.put,qqB]
   repeat
    refine qA0 _ rfl (fun K c=>?_)
    first
     | (refine qqP (by rfl) ?_;apply Exists.intro;refine⟨fun w' l=>?_,c _ ?_⟩;go_simp;first|done|rfl)
     | refine qqN (by rfl) (c _ ?_)
    clear c K;simp only[Act.put,qqB]
   refine qA6 ?_
   go_wp2_with fail
   refine bodyPost_ret (v:=.int .i64 1) (by simp[results,results30,go_sem];done) rfl ⟨col,rfl,⟨_,_,_,q.kept f⟩,Ext.kept q.top f⟩
 · have J:(L:Int)≤n:=by omega
   have Z:decide (n<0)=false:=by simpa using F
   have O:decide ((L:Int)≤n)=true:=by simpa using J
   clear hn
   go_enter func30,ntmps30
   go_wp2_with fail
   refine qA3 [(0,0),(1,0),(2,0),(3,0),(4,0),(5,0),(6,0),(7,0),(8,0),(9,0),(10,0),(11,0),(12,0),(13,0),(14,0),(15,0),(16,0),(17,0),(18,0),(19,0),(20,0),(21,0),(22,0),(23,0),(24,0),(25,0),(26,1),(27,0),(28,0)] (by kernel_rfl) (by kernel_rfl) ?_
   intro N f
   repeat
    refine qA0 _ rfl (fun K c=>?_)
    first
     | (refine qqP (by rfl) ?_;apply Exists.intro;refine⟨fun w' l=>?_,c _ ?_⟩;(have b:=q.blk.kept (f.of l);have b0:=Blk.cell b 0;have b2:=Blk.cell b 2;clear b;go_simp;first|done|rfl))
     | refine qqN (by rfl) (c _ ?_)
    clear c K;simp only[Act.put,qqB]
   refine qBa _ rfl (fun K c=>?_)
   refine qqN (by rfl) ?_
   intro j
   refine j _ _ ?_
   clear c j K
   simp only[Act.put,qqB]
   repeat
    refine qA0 _ rfl (fun K c=>?_)
    first
     | (refine qqP (by rfl) ?_;apply Exists.intro;refine⟨fun w' l=>?_,c _ ?_⟩;go_simp;first|done|rfl)
     | refine qqN (by rfl) (c _ ?_)
    clear c K;simp only[Act.put,qqB]
   refine qA6 ?_
   go_wp2_with fail
   refine bodyPost_ret (v:=.int .i64 1) (by simp[results,results30,go_sem];done) rfl ⟨col,rfl,⟨_,_,_,q.kept f⟩,Ext.kept q.top f⟩
theorem qJk {col:Nat→Nat}{w:World}{P:qAU}{X:Nat}{o:Bo}(h:qAL col w P X o){m:Nat}(g:o.good m)(k:Nat)(N:k<o.snaps.length)(hl9:o.snaps.length≤100000) :
 Calls prog 30 #[.pointer (some ⟨X,0,none⟩),.int .i64 (k:Int)] w fun e w'=>∃col',e= .returned (.int .i64 (o.back (k:Int)).1.1)∧qAL col' w' P X (o.back (k:Int)).2∧Ext 12 col col' w w':=by
 obtain⟨cv,sv,us,c⟩:=h
 obtain⟨bs,J⟩:∃bs,bs=o.snaps[k]:=⟨_,rfl⟩
 have G:o.snaps[k]? = some bs:=by rw[List.getElem?_eq_getElem N,J]
 have hr:o.back (k:Int)=((0,[]),o.setX (o.cur.sBack bs)):=by
  unfold Bo.back
  rw[if_pos ⟨by omega,by omega⟩]
  simp only[Int.toNat_natCast]
  rw[G]
  rfl
 rw[hr]
 replace hr:=qh hr
 have V:bs.length=gSize o.cur.n:=g.sn bs (by rw[J];exact List.getElem_mem N)
 have a1:k<us.length:=by rw[c.sn.len];exact N
 obtain⟨u,hu⟩:∃u,u=us[k]:=⟨_,rfl⟩
 have F:us[k]? = some u:=by rw[List.getElem?_eq_getElem a1,hu]
 have a5:=(c.sn.each k bs u G F).1
 obtain⟨g1,c1,a3⟩:=qAy c.sn.row (by omega)
 subst a3
 have a2:w.cell? ⟨g1,k,none⟩=some u:=by
  obtain⟨b',a9,a7,e,_,_,_,hx⟩:=(Sl.of_own c.sn.row).at (by rw[c.sn.len];omega)
  cases e
  have:=hx k u F
  simpa using this
 obtain⟨L,hL⟩:∃L,L=o.snaps.length:=⟨_,rfl⟩
 rw[←hL]at c N
 have i1:(k:Int)<(L:Int):=by omega
 have i2:¬(k:Int)<0:=by omega
 have i3:¬(L:Int)≤(k:Int):=by omega
 have i4:(0:Int)≤(k:Int):=by omega
 have e1:decide ((k:Int)<0)=false:=decide_eq_false i2
 have e2:decide ((L:Int)≤(k:Int))=false:=decide_eq_false i3
 have e3:decide (L≤k)=false:=decide_eq_false (by omega)
 have i5:¬L≤k:=by omega
 have i6:k<L:=by omega
 obtain⟨cur,I⟩:=qAq c.sn.row rfl
 have a6:cur[k]? = some u:=(I.cell k).symm.trans a2
 replace hL:=qh hL
 replace a8:=qh V
 clear G J a1 hu F hl9 N
 go_enter func30,ntmps30
 go_wp2_with fail
 refine qAf (qA8 (fun k=>k<w.heap.size∧(col k=0∨6<col k))) [(0,0),(1,0),(2,0),(3,0),(4,0),(5,0),(6,0),(7,0),(8,0),(9,0),(10,0),(11,0),(12,0),(13,0),(14,0),(15,0),(16,0),(17,0),(18,0),(19,0),(20,0),(21,0),(22,0),(23,0),(24,0),(25,0),(26,1),(27,0),(28,0)] (by kernel_rfl) (by kernel_rfl) ?_ ?_ ?_
 · exact fun _=>qA8.refl _
 · exact fun _ _ _ h1 h2=>h1.trans h2
 intro z1 j
 have O:=c.blk.kept j
 have Z:=c.wd.blk.kept j
 have a0:=I.kept j
 repeat
  refine qA0 _ rfl (fun K l=>?_)
  first
   | (refine qqP (by rfl) ?_;apply Exists.intro;refine⟨fun w' q=>?_,l _ ?_⟩;(have b:=(q.block _ O.lt ⟨c.blk.lt,.inr (by rw[c.cX];decide)⟩).trans O;have b0:=Blk.cell b 0;have b2:=Blk.cell b 2;clear b;have d:=(q.block _ Z.lt ⟨c.wd.blk.lt,.inr (by rw[c.wd.cW];decide)⟩).trans Z;have d2:=Blk.cell d 2;clear d;have v:=(q.block _ a0.lt ⟨I.lt,.inr (by rw[c.sn.cs g1 rfl];decide)⟩).trans a0;have u0:=(Blk.cell v k).trans a6;clear v;go_simp;first|done|rfl))
   | refine qqN (by rfl) (l _ ?_)
  clear l K;simp only[Act.put,qqB]
 refine qqH _ rfl (by rfl) (fun K l=>?_)
 go_wp2_with fail
 refine(qQW (c.wd.kept j) g.f.ok u bs V (Sl.of_own (qA5 a5 j))).mono ?_
 rintro e w2 ⟨rfl,Y,a4,e2⟩
 have S2:=e2.sameOn (w0:=w) (col0:=col) (fun k N=>rfl)
 go_wp2
 refine l _ _ (S2) ?_
 clear l K
 try simp only[Act.put,qqB]
 repeat
  refine qA0 _ rfl (fun K l=>?_)
  first
   | (refine qqP (by rfl) ?_;apply Exists.intro;refine⟨fun w' q=>?_,l _ ?_⟩;go_simp;first|done|rfl)
   | refine qqN (by rfl) (l _ ?_)
  clear l K;simp only[Act.put,qqB]
 refine qA6 ?_
 have h2:=(c.kept j).next a4 e2
 go_wp2_with fail
 refine bodyPost_ret (v:=.int .i64 0) (by simp[results,results30,go_sem];done) rfl ⟨Y,rfl,⟨_,_,_,h2⟩,(Ext.kept (m:=12) c.top j).trans (e2.mono (show 6≤12 by decide))⟩
structure qHt (col:Nat→Nat)(w:World)(a:Ac)(v1 v2 v3:Value):Prop where
 s1:SlC col w v1 a.call.data
 s2:SlC col w v2 a.data
 s3:Sl w v3 a.keep.length (qBe a.keep)
 c3:∀a' c,v3= .slice (some a') a.keep.length c→0<(qBe a.keep).length→col a'.block=0
 l1:a.call.data.length≤1000
 l2:a.data.length≤1000
 l3:a.keep.length≤1000
theorem qHt.ext {m:Nat}{col col':Nat→Nat}{w w':World}{a:Ac}{v1 v2 v3:Value}(h:qHt col w a v1 v2 v3)(e:Ext m col col' w w'):qHt col' w' a v1 v2 v3:=
 ⟨h.s1.ext e,h.s2.ext e,(e.sl0c h.s3 h.c3).1,(e.sl0c h.s3 h.c3).2,h.l1,h.l2,h.l3⟩
theorem qAL.kept {col:Nat→Nat}{w w':World}{P:qAU}{X:Nat}{o:Bo}(h:qAL col w P X o)(hk:qA4 w w'):qAL col w' P X o:=by
 obtain⟨cv,sv,us,c⟩:=h
 exact⟨cv,sv,us,c.kept hk⟩
theorem qAL.chg0 {col:Nat→Nat}{w w':World}{P:qAU}{X g:Nat}{o:Bo}(h:qAL col w P X o)(hc:Chg [g] w w')(hg:col g=0):qAL col w' P X o:=by
 obtain⟨cv,sv,us,c⟩:=h
 exact⟨cv,sv,us,c.chg0 hc hg⟩
theorem qAL.top {col:Nat→Nat}{w:World}{P:qAU}{X:Nat}{o:Bo}(h:qAL col w P X o):Top col w:=by
 obtain⟨cv,sv,us,c⟩:=h
 exact c.top
theorem qRe {col:Nat→Nat}{w:World}{P:qAU}{X:Nat}{o:Bo}(h:qAL col w P X o){m:Nat}(_:o.good m)(_:m≤36000)(a:Ac)(kd:Int)(hnk:kd≠1∧kd≠2∧kd≠3∧kd≠4∧kd≠5∧kd≠6∧kd≠7)(hkd:a.kind=kd)(a1 a2 a3:Option Addr)(c1 c2 c3:Nat)(_:qHt col w a (.slice a1 a.call.data.length c1) (.slice a2 a.data.length c2) (.slice a3 a.keep.length c3)):Calls prog 11 #[.pointer (some ⟨X,0,none⟩),.agg #[.int .i64 a.kind,.int .i64 a.call.kind,.int .i64 a.call.lba,.slice a1 a.call.data.length c1,.int .i64 a.n,.int .i64 a.off,.slice a2 a.data.length c2,.slice a3 a.keep.length c3]] w fun e w'=>∃v col',e= .returned (.agg #[.int .i64 (o.act a).1.1,v])∧qC4 col' w' w.heap.size v (o.act a).1.2∧qAL col' w' P X (o.act a).2∧Ext 12 col col' w w':=by
 obtain⟨ck,I⟩:∃k,k=a.call.kind:=⟨_,rfl⟩
 obtain⟨lba,f⟩:∃k,k=a.call.lba:=⟨_,rfl⟩
 obtain⟨n1,l⟩:∃k,k=a.call.data.length:=⟨_,rfl⟩
 obtain⟨n2,G⟩:∃k,k=a.data.length:=⟨_,rfl⟩
 obtain⟨V,O⟩:∃k,k=a.keep.length:=⟨_,rfl⟩
 obtain⟨Y,q⟩:∃k,k=a.n:=⟨_,rfl⟩
 obtain⟨off,c⟩:∃k,k=a.off:=⟨_,rfl⟩
 obtain⟨R,hR⟩:∃R,R=o.act a:=⟨_,rfl⟩
 obtain⟨Z,j⟩:∃y,y=((w.alloc (.cells #[.int .i64 kd,.int .i64 ck,.int .i64 lba,.slice a1 n1 c1,.int .i64 Y,.int .i64 off,.slice a2 n2 c2,.slice a3 V c3] 37)).alloc (.cells #[.int .i64 0,.slice none 0 0] 39)):=⟨_,rfl⟩
 have J:qA4 w Z:=by rw[j];exact(qal _).alloc (by simp) _
 have bX:Blk Z w.heap.size #[.int .i64 kd,.int .i64 ck,.int .i64 lba,.slice a1 n1 c1,.int .i64 Y,.int .i64 off,.slice a2 n2 c2,.slice a3 V c3] 37:=by
  rw[j]
  exact(Blk.new w _ _).kept ((Below.refl _ _).alloc (by simp) _)
 have bT:Blk Z (w.heap.size+1) #[.int .i64 0,.slice none 0 0] 39:=by
  rw[j]
  have:=Blk.new (w.alloc (.cells #[.int .i64 kd,.int .i64 ck,.int .i64 lba,.slice a1 n1 c1,.int .i64 Y,.int .i64 off,.slice a2 n2 c2,.slice a3 V c3] 37)) #[.int .i64 0,.slice none 0 0] 39
  rw[World.size_alloc]at this
  exact this
 have hA:=h.kept J
 have a4:Ext 12 col col w Z:=Ext.kept h.top J
 have cX:col w.heap.size=0:=h.top _ qle
 have cT:col (w.heap.size+1)=0:=h.top _ (by omega)
 have a0:=bT.lt
 have N:R=((1,[]),o):=by
  rw[hR];unfold Bo.act;rw[if_neg (by rw[hkd];omega),if_neg (by rw[hkd];omega),if_neg (by rw[hkd];omega),if_neg (by rw[hkd];omega),if_neg (by rw[hkd];omega),if_neg (by rw[hkd];omega),if_neg (by rw[hkd];omega)]
 rw[hkd,←I,←f,←l,←G,←O,←q,←c,←hR]
 replace N:=qh N
 clear I f l G O q c hR
 have e1:(kd==1)=false:=by simp;omega
 have e2:(kd==2)=false:=by simp;omega
 have e3:(kd==3)=false:=by simp;omega
 have e4:(kd==4)=false:=by simp;omega
 have e5:(kd==5)=false:=by simp;omega
 have e6:(kd==6)=false:=by simp;omega
 have e7:(kd==7)=false:=by simp;omega
 clear hnk
 go_enter func11,ntmps11
 go_wp2_with fail
 have F:qA4 w ((w.alloc (.cells #[.int .i64 kd,.int .i64 ck,.int .i64 lba,.slice a1 n1 c1,.int .i64 Y,.int .i64 off,.slice a2 n2 c2,.slice a3 V c3] 37)).alloc (.cells #[.int .i64 1,.slice none 0 0] 39)):=(qal _).alloc (by simp) _
 refine bodyPost_ret (v:=.agg #[.int .i64 1,.slice none 0 0]) (by simp[results,results11,go_sem];try exact⟨rfl,rfl⟩) rfl ⟨_,col,by rw[N.out],by rw[N.out];exact qC4.nil,by rw[N.out];exact h.kept F,Ext.kept h.top F⟩
theorem qRf {col:Nat→Nat}{w:World}{P:qAU}{X:Nat}{o:Bo}(h:qAL col w P X o){m:Nat}(g:o.good m)(hm:m≤36000)(a:Ac)(hkd:a.kind=1)(a1 a2 a3:Option Addr)(c1 c2 c3:Nat)(ha:qHt col w a (.slice a1 a.call.data.length c1) (.slice a2 a.data.length c2) (.slice a3 a.keep.length c3)):Calls prog 11 #[.pointer (some ⟨X,0,none⟩),.agg #[.int .i64 a.kind,.int .i64 a.call.kind,.int .i64 a.call.lba,.slice a1 a.call.data.length c1,.int .i64 a.n,.int .i64 a.off,.slice a2 a.data.length c2,.slice a3 a.keep.length c3]] w fun e w'=>∃v col',e= .returned (.agg #[.int .i64 (o.act a).1.1,v])∧qC4 col' w' w.heap.size v (o.act a).1.2∧qAL col' w' P X (o.act a).2∧Ext 12 col col' w w':=by
 obtain⟨ck,G⟩:∃k,k=a.call.kind:=⟨_,rfl⟩
 obtain⟨lba,j⟩:∃k,k=a.call.lba:=⟨_,rfl⟩
 obtain⟨n1,I⟩:∃k,k=a.call.data.length:=⟨_,rfl⟩
 obtain⟨n2,J⟩:∃k,k=a.data.length:=⟨_,rfl⟩
 obtain⟨n3,O⟩:∃k,k=a.keep.length:=⟨_,rfl⟩
 obtain⟨an,V⟩:∃k,k=a.n:=⟨_,rfl⟩
 obtain⟨off,l⟩:∃k,k=a.off:=⟨_,rfl⟩
 obtain⟨R,hR⟩:∃R,R=o.act a:=⟨_,rfl⟩
 obtain⟨wA,f⟩:∃y,y=((w.alloc (.cells #[.int .i64 1,.int .i64 ck,.int .i64 lba,.slice a1 n1 c1,.int .i64 an,.int .i64 off,.slice a2 n2 c2,.slice a3 n3 c3] 37)).alloc (.cells #[.int .i64 0,.slice none 0 0] 39)):=⟨_,rfl⟩
 have F:qA4 w wA:=by rw[f];exact(qal _).alloc (by simp) _
 have bX:Blk wA w.heap.size #[.int .i64 1,.int .i64 ck,.int .i64 lba,.slice a1 n1 c1,.int .i64 an,.int .i64 off,.slice a2 n2 c2,.slice a3 n3 c3] 37:=by
  rw[f]
  exact(Blk.new w _ _).kept ((Below.refl _ _).alloc (by simp) _)
 have bT:Blk wA (w.heap.size+1) #[.int .i64 0,.slice none 0 0] 39:=by
  rw[f]
  have:=Blk.new (w.alloc (.cells #[.int .i64 1,.int .i64 ck,.int .i64 lba,.slice a1 n1 c1,.int .i64 an,.int .i64 off,.slice a2 n2 c2,.slice a3 n3 c3] 37)) #[.int .i64 0,.slice none 0 0] 39
  rw[World.size_alloc]at this
  exact this
 have hA:=h.kept F
 have a4:Ext 12 col col w wA:=Ext.kept h.top F
 have cX:col w.heap.size=0:=h.top _ qle
 have cT:col (w.heap.size+1)=0:=h.top _ (by omega)
 have a5:=bT.lt
 have CB:=qPU hA g (by omega) a.call a1 c1 (by have:=ha.l1;omega) ((ha.ext (Ext.kept (m:=12) h.top F)).s1)
 have hr:R=o.call a.call:=by rw[hR];unfold Bo.act;rw[if_pos hkd]
 rw[hkd,←G,←j,←I,←J,←O,←V,←l,←hR]
 rw[←hr,←G,←j,←I]at CB
 replace hr:=qh hr
 rw[f]at CB
 clear G j I J O V l hR
 obtain⟨⟨E,D⟩,o2⟩:=R
 simp only at CB ⊢
 go_enter func11,ntmps11
 go_wp2_with fail
 refine CB.mono ?_
 rintro e w2 ⟨v,N,rfl,hv,h2,e2⟩
 rw[←f]at e2 hv
 obtain⟨Z,Y,rfl⟩:=(Sl.of_own hv.1).len
 obtain⟨c,a0⟩:=e2.blk0 bT cT
 have a6:Hid (((E,D),o2)=((E,D),o2)):=qh rfl
 have f0:=(c).free 0
 have f1:=(c).free 1
 have y0:=(c).cell 0
 have y1:=(c).cell 1
 go_wp2_with fail
 have bR:=((c).set 0 (.int .i64 (E))).set 1 (.slice Z D.length Y)
 have q:Chg [w.heap.size+1] w2 ((w2.setCell ⟨w.heap.size+1,0,none⟩ (.int .i64 (E))).setCell ⟨w.heap.size+1,1,none⟩ (.slice Z D.length Y)):=((Chg.refl _ _).set qsm 0 _).set qsm 1 _
 have r0:=bR.cell 0
 have r1:=bR.cell 1
 clear f0 f1 y0 y1
 generalize ((w2.setCell ⟨w.heap.size+1,0,none⟩ (.int .i64 (E))).setCell ⟨w.heap.size+1,1,none⟩ (.slice Z D.length Y))=wE at *
 refine bodyPost_ret (v:=.agg #[.int .i64 (E),.slice Z D.length Y]) (by simp[results,results11,go_sem,r0,r1];try exact⟨rfl,rfl⟩) rfl ⟨_,N,rfl,(hv.chg q (by omega)).base (by omega),qAL.chg0 h2 q a0,(a4.trans e2).newset q (by omega)⟩
theorem qRg {col:Nat→Nat}{w:World}{P:qAU}{X:Nat}{o:Bo}(h:qAL col w P X o){m:Nat}(_:o.good m)(_:m≤36000)(a:Ac)(hkd:a.kind=2)(a1 a2 a3:Option Addr)(c1 c2 c3:Nat)(_:qHt col w a (.slice a1 a.call.data.length c1) (.slice a2 a.data.length c2) (.slice a3 a.keep.length c3)):Calls prog 11 #[.pointer (some ⟨X,0,none⟩),.agg #[.int .i64 a.kind,.int .i64 a.call.kind,.int .i64 a.call.lba,.slice a1 a.call.data.length c1,.int .i64 a.n,.int .i64 a.off,.slice a2 a.data.length c2,.slice a3 a.keep.length c3]] w fun e w'=>∃v col',e= .returned (.agg #[.int .i64 (o.act a).1.1,v])∧qC4 col' w' w.heap.size v (o.act a).1.2∧qAL col' w' P X (o.act a).2∧Ext 12 col col' w w':=by
 obtain⟨ck,a8⟩:∃k,k=a.call.kind:=⟨_,rfl⟩
 obtain⟨lba,G⟩:∃k,k=a.call.lba:=⟨_,rfl⟩
 obtain⟨n1,a9⟩:∃k,k=a.call.data.length:=⟨_,rfl⟩
 obtain⟨n2,a0⟩:∃k,k=a.data.length:=⟨_,rfl⟩
 obtain⟨n3,a7⟩:∃k,k=a.keep.length:=⟨_,rfl⟩
 obtain⟨N,I⟩:∃k,k=a.n:=⟨_,rfl⟩
 obtain⟨off,F⟩:∃k,k=a.off:=⟨_,rfl⟩
 obtain⟨R,hR⟩:∃R,R=o.act a:=⟨_,rfl⟩
 obtain⟨V,l⟩:∃y,y=((w.alloc (.cells #[.int .i64 2,.int .i64 ck,.int .i64 lba,.slice a1 n1 c1,.int .i64 N,.int .i64 off,.slice a2 n2 c2,.slice a3 n3 c3] 37)).alloc (.cells #[.int .i64 0,.slice none 0 0] 39)):=⟨_,rfl⟩
 have a6:qA4 w V:=by rw[l];exact(qal _).alloc (by simp) _
 have bX:Blk V w.heap.size #[.int .i64 2,.int .i64 ck,.int .i64 lba,.slice a1 n1 c1,.int .i64 N,.int .i64 off,.slice a2 n2 c2,.slice a3 n3 c3] 37:=by
  rw[l]
  exact(Blk.new w _ _).kept ((Below.refl _ _).alloc (by simp) _)
 have bT:Blk V (w.heap.size+1) #[.int .i64 0,.slice none 0 0] 39:=by
  rw[l]
  have:=Blk.new (w.alloc (.cells #[.int .i64 2,.int .i64 ck,.int .i64 lba,.slice a1 n1 c1,.int .i64 N,.int .i64 off,.slice a2 n2 c2,.slice a3 n3 c3] 37)) #[.int .i64 0,.slice none 0 0] 39
  rw[World.size_alloc]at this
  exact this
 have hA:=h.kept a6
 have b6:Ext 12 col col w V:=Ext.kept h.top a6
 have cX:col w.heap.size=0:=h.top _ qle
 have cT:col (w.heap.size+1)=0:=h.top _ (by omega)
 have b7:=bT.lt
 obtain⟨cv,sv,us,c⟩:=hA
 have hr:R=((0,[]),o.setX (o.cur.setP (o.cur.p.setFuse N))):=by
  rw[hR];unfold Bo.act;rw[if_neg (by rw[hkd];decide),if_pos hkd,←I]
 rw[hkd,←a8,←G,←a9,←a0,←a7,←I,←F,←hR]
 replace hr:=qh hr
 clear a8 G a9 a0 a7 I F hR
 go_enter func11,ntmps11
 go_wp2_with fail
 rw[←l]
 clear l
 refine qAf (qA8 (fun k=>k<V.heap.size∧(col k=0∨6<col k))) [(0,0),(1,0),(2,0),(3,0),(4,0),(5,0),(6,0),(7,0),(8,0),(9,1)] (by kernel_rfl) (by kernel_rfl) ?_ ?_ ?_
 · exact fun _=>qA8.refl _
 · exact fun _ _ _ h1 h2=>h1.trans h2
 intro z1 f
 have Z:=c.blk.kept f
 have a4:=c.wd.blk.kept f
 have a5:=bX.kept f
 repeat
  refine qA0 _ rfl (fun K O=>?_)
  first
   | (refine qqP (by rfl) ?_;apply Exists.intro;refine⟨fun w' J=>?_,O _ ?_⟩;(have b:=(J.block _ Z.lt ⟨c.blk.lt,.inr (by rw[c.cX];decide)⟩).trans Z;have b0:=Blk.cell b 0;clear b;have d:=(J.block _ a4.lt ⟨c.wd.blk.lt,.inr (by rw[c.wd.cW];decide)⟩).trans a4;have d1:=Blk.cell d 1;clear d;have x:=(J.block _ a5.lt ⟨bX.lt,.inl cX⟩).trans a5;have x4:=Blk.cell x 4;clear x;go_simp;first|done|rfl))
   | refine qqN (by rfl) (O _ ?_)
  clear O K;simp only[Act.put,qqB]
 refine qqH _ rfl (by rfl) (fun K O=>?_)
 go_wp2_with fail
 refine(qQZ (c.wd.kept f) N).mono ?_
 rintro e w2 ⟨rfl,q,b4,e2⟩
 have S2:=e2.sameOn (w0:=V) (col0:=col) (fun k hk=>rfl)
 go_wp2
 refine O _ _ (S2) ?_
 clear O K
 try simp only[Act.put,qqB]
 refine qA6 ?_
 have h2:qAL q w2 P X (o.setX (o.cur.setP (o.cur.p.setFuse N))):=⟨_,_,_,(c.kept f).next b4 e2⟩
 have b5:=(b6.trans (Ext.kept (m:=12) c.top f)).trans (e2.mono (show 6≤12 by decide))
 have b8:=f.size
 obtain⟨j,b3⟩:=e2.blk0 (bT.kept f) cT
 have f0:=(j).free 0
 have f1:=(j).free 1
 have y0:=(j).cell 0
 have y1:=(j).cell 1
 go_wp2_with fail
 have bR:=((j).set 0 (.int .i64 (0))).set 1 (.slice none 0 0)
 have Y:Chg [w.heap.size+1] w2 ((w2.setCell ⟨w.heap.size+1,0,none⟩ (.int .i64 (0))).setCell ⟨w.heap.size+1,1,none⟩ (.slice none 0 0)):=((Chg.refl _ _).set qsm 0 _).set qsm 1 _
 have r0:=bR.cell 0
 have r1:=bR.cell 1
 clear f0 f1 y0 y1
 generalize ((w2.setCell ⟨w.heap.size+1,0,none⟩ (.int .i64 (0))).setCell ⟨w.heap.size+1,1,none⟩ (.slice none 0 0))=wE at *
 refine bodyPost_ret (v:=.agg #[.int .i64 (0),.slice none 0 0]) (by simp[results,results11,go_sem,r0,r1];try exact⟨rfl,rfl⟩) rfl ⟨_,q,by rw[hr.out],by rw[hr.out];exact qC4.nil,by rw[hr.out];exact qAL.chg0 h2 Y b3,(b5).newset Y (by omega)⟩
theorem qRh {col:Nat→Nat}{w:World}{P:qAU}{X:Nat}{o:Bo}(h:qAL col w P X o){m:Nat}(g:o.good m)(hm:m≤36000)(a:Ac)(hkd:a.kind=3)(a1 a2 a3:Option Addr)(c1 c2 c3:Nat)(ha:qHt col w a (.slice a1 a.call.data.length c1) (.slice a2 a.data.length c2) (.slice a3 a.keep.length c3)):Calls prog 11 #[.pointer (some ⟨X,0,none⟩),.agg #[.int .i64 a.kind,.int .i64 a.call.kind,.int .i64 a.call.lba,.slice a1 a.call.data.length c1,.int .i64 a.n,.int .i64 a.off,.slice a2 a.data.length c2,.slice a3 a.keep.length c3]] w fun e w'=>∃v col',e= .returned (.agg #[.int .i64 (o.act a).1.1,v])∧qC4 col' w' w.heap.size v (o.act a).1.2∧qAL col' w' P X (o.act a).2∧Ext 12 col col' w w':=by
 obtain⟨ck,Y⟩:∃k,k=a.call.kind:=⟨_,rfl⟩
 obtain⟨lba,q⟩:∃k,k=a.call.lba:=⟨_,rfl⟩
 obtain⟨n1,Z⟩:∃k,k=a.call.data.length:=⟨_,rfl⟩
 obtain⟨n2,N⟩:∃k,k=a.data.length:=⟨_,rfl⟩
 obtain⟨n3,I⟩:∃k,k=a.keep.length:=⟨_,rfl⟩
 obtain⟨an,a0⟩:∃k,k=a.n:=⟨_,rfl⟩
 obtain⟨off,l⟩:∃k,k=a.off:=⟨_,rfl⟩
 obtain⟨R,hR⟩:∃R,R=o.act a:=⟨_,rfl⟩
 obtain⟨wA,f⟩:∃y,y=((w.alloc (.cells #[.int .i64 3,.int .i64 ck,.int .i64 lba,.slice a1 n1 c1,.int .i64 an,.int .i64 off,.slice a2 n2 c2,.slice a3 n3 c3] 37)).alloc (.cells #[.int .i64 0,.slice none 0 0] 39)):=⟨_,rfl⟩
 have G:qA4 w wA:=by rw[f];exact(qal _).alloc (by simp) _
 have bX:Blk wA w.heap.size #[.int .i64 3,.int .i64 ck,.int .i64 lba,.slice a1 n1 c1,.int .i64 an,.int .i64 off,.slice a2 n2 c2,.slice a3 n3 c3] 37:=by
  rw[f]
  exact(Blk.new w _ _).kept ((Below.refl _ _).alloc (by simp) _)
 have bT:Blk wA (w.heap.size+1) #[.int .i64 0,.slice none 0 0] 39:=by
  rw[f]
  have:=Blk.new (w.alloc (.cells #[.int .i64 3,.int .i64 ck,.int .i64 lba,.slice a1 n1 c1,.int .i64 an,.int .i64 off,.slice a2 n2 c2,.slice a3 n3 c3] 37)) #[.int .i64 0,.slice none 0 0] 39
  rw[World.size_alloc]at this
  exact this
 have hA:=h.kept G
 have a6:Ext 12 col col w wA:=Ext.kept h.top G
 have cX:col w.heap.size=0:=h.top _ qle
 have cT:col (w.heap.size+1)=0:=h.top _ (by omega)
 have a7:=bT.lt
 have a4:=(ha.ext (Ext.kept (m:=12) h.top G))
 have CB:=qOi hA g (by omega) (.slice a3 a.keep.length c3) a.keep (by have:=ha.l3;omega) a4.s3 a4.c3
 obtain⟨E,hE⟩:∃E,E=(o.crash a.keep).1.1:=⟨_,rfl⟩
 obtain⟨o2,F⟩:∃o2,o2=(o.crash a.keep).2:=⟨_,rfl⟩
 rw[←hE,←F]at CB
 have j:(o.crash a.keep).1.2= []:=by unfold Bo.crash Bo.open_;rfl
 have V:R=((E,[]),o2):=by
  rw[hR,hE,F];unfold Bo.act;rw[if_neg (by rw[hkd];decide),if_neg (by rw[hkd];decide)];rw[if_pos hkd,←j]
 rw[hkd,←Y,←q,←Z,←N,←I,←a0,←l,←hR]
 replace V:=qh V
 rw[←I]at CB
 rw[f]at CB
 clear hE F j
 clear Y q Z N I a0 l hR
 go_enter func11,ntmps11
 go_wp2_with fail
 refine CB.mono ?_
 rintro e w2 ⟨O,rfl,h2,e2⟩
 rw[←f]at e2
 obtain⟨c,a5⟩:=e2.blk0 bT cT
 have f0:=(c).free 0
 have f1:=(c).free 1
 have y0:=(c).cell 0
 have y1:=(c).cell 1
 go_wp2_with fail
 have bR:=((c).set 0 (.int .i64 (E))).set 1 (.slice none 0 0)
 have J:Chg [w.heap.size+1] w2 ((w2.setCell ⟨w.heap.size+1,0,none⟩ (.int .i64 (E))).setCell ⟨w.heap.size+1,1,none⟩ (.slice none 0 0)):=((Chg.refl _ _).set qsm 0 _).set qsm 1 _
 have r0:=bR.cell 0
 have r1:=bR.cell 1
 clear f0 f1 y0 y1
 generalize ((w2.setCell ⟨w.heap.size+1,0,none⟩ (.int .i64 (E))).setCell ⟨w.heap.size+1,1,none⟩ (.slice none 0 0))=wE at *
 refine bodyPost_ret (v:=.agg #[.int .i64 (E),.slice none 0 0]) (by simp[results,results11,go_sem,r0,r1];try exact⟨rfl,rfl⟩) rfl ⟨_,O,by rw[V.out],by rw[V.out];exact qC4.nil,by rw[V.out];exact qAL.chg0 h2 J a5,(a6.trans e2).newset J (by omega)⟩
theorem qRi {col:Nat→Nat}{w:World}{P:qAU}{X:Nat}{o:Bo}(h:qAL col w P X o){m:Nat}(g:o.good m)(hm:m≤36000)(a:Ac)(hkd:a.kind=4)(a1 a2 a3:Option Addr)(c1 c2 c3:Nat)(ha:qHt col w a (.slice a1 a.call.data.length c1) (.slice a2 a.data.length c2) (.slice a3 a.keep.length c3)):Calls prog 11 #[.pointer (some ⟨X,0,none⟩),.agg #[.int .i64 a.kind,.int .i64 a.call.kind,.int .i64 a.call.lba,.slice a1 a.call.data.length c1,.int .i64 a.n,.int .i64 a.off,.slice a2 a.data.length c2,.slice a3 a.keep.length c3]] w fun e w'=>∃v col',e= .returned (.agg #[.int .i64 (o.act a).1.1,v])∧qC4 col' w' w.heap.size v (o.act a).1.2∧qAL col' w' P X (o.act a).2∧Ext 12 col col' w w':=by
 obtain⟨ck,a9⟩:∃k,k=a.call.kind:=⟨_,rfl⟩
 obtain⟨lba,a4⟩:∃k,k=a.call.lba:=⟨_,rfl⟩
 obtain⟨n1,b4⟩:∃k,k=a.call.data.length:=⟨_,rfl⟩
 obtain⟨n2,I⟩:∃k,k=a.data.length:=⟨_,rfl⟩
 obtain⟨n3,a8⟩:∃k,k=a.keep.length:=⟨_,rfl⟩
 obtain⟨an,b3⟩:∃k,k=a.n:=⟨_,rfl⟩
 obtain⟨off,N⟩:∃k,k=a.off:=⟨_,rfl⟩
 obtain⟨R,hR⟩:∃R,R=o.act a:=⟨_,rfl⟩
 obtain⟨wA,J⟩:∃y,y=((w.alloc (.cells #[.int .i64 4,.int .i64 ck,.int .i64 lba,.slice a1 n1 c1,.int .i64 an,.int .i64 off,.slice a2 n2 c2,.slice a3 n3 c3] 37)).alloc (.cells #[.int .i64 0,.slice none 0 0] 39)):=⟨_,rfl⟩
 have a7:qA4 w wA:=by rw[J];exact(qal _).alloc (by simp) _
 have bX:Blk wA w.heap.size #[.int .i64 4,.int .i64 ck,.int .i64 lba,.slice a1 n1 c1,.int .i64 an,.int .i64 off,.slice a2 n2 c2,.slice a3 n3 c3] 37:=by
  rw[J]
  exact(Blk.new w _ _).kept ((Below.refl _ _).alloc (by simp) _)
 have bT:Blk wA (w.heap.size+1) #[.int .i64 0,.slice none 0 0] 39:=by
  rw[J]
  have:=Blk.new (w.alloc (.cells #[.int .i64 4,.int .i64 ck,.int .i64 lba,.slice a1 n1 c1,.int .i64 an,.int .i64 off,.slice a2 n2 c2,.slice a3 n3 c3] 37)) #[.int .i64 0,.slice none 0 0] 39
  rw[World.size_alloc]at this
  exact this
 have hA:=h.kept a7
 have b6:Ext 12 col col w wA:=Ext.kept h.top a7
 have cX:col w.heap.size=0:=h.top _ qle
 have cT:col (w.heap.size+1)=0:=h.top _ (by omega)
 have c8:=bT.lt
 obtain⟨cv,sv,us,j⟩:=hA
 have a5:R=o.smash off a.data:=by
  rw[hR];unfold Bo.act;rw[if_neg (by rw[hkd];decide),if_neg (by rw[hkd];decide),if_neg (by rw[hkd];decide),if_pos hkd,←N]
 have has:=ha.ext (Ext.kept (m:=12) h.top a7)
 rw[hkd,←a9,←a4,←b4,←I,←a8,←b3,←N,←hR]
 cases his:isB (gSize o.cur.n) off (n2:Int) with
 | false =>
  have Z:R=((1,[]),o):=by rw[a5];unfold Bo.smash;rw[←I,his];rfl
  replace Z:=qh Z
  clear a5 a9 a4 b4 I a8 b3 N hR
  go_enter func11,ntmps11
  go_wp2_with fail
  rw[←J]
  clear J
  refine qAf (qA8 (fun k=>k<wA.heap.size∧(col k=0∨6<col k))) [(0,0),(1,0),(2,0),(3,0),(4,0),(5,0),(6,0),(7,0),(8,0),(9,0),(10,0),(11,1),(12,0)] (by kernel_rfl) (by kernel_rfl) ?_ ?_ ?_
  · exact fun _=>qA8.refl _
  · exact fun _ _ _ h1 h2=>h1.trans h2
  intro z1 l
  have O:=j.blk.kept l
  have V:=j.wd.blk.kept l
  have Y:=bX.kept l
  repeat
   refine qA0 _ rfl (fun K F=>?_)
   first
    | (refine qqP (by rfl) ?_;apply Exists.intro;refine⟨fun w' G=>?_,F _ ?_⟩;(have b:=(G.block _ O.lt ⟨j.blk.lt,.inr (by rw[j.cX];decide)⟩).trans O;have b0:=Blk.cell b 0;clear b;have d:=(G.block _ V.lt ⟨j.wd.blk.lt,.inr (by rw[j.wd.cW];decide)⟩).trans V;have d2:=Blk.cell d 2;clear d;have x:=(G.block _ Y.lt ⟨bX.lt,.inl cX⟩).trans Y;have x5:=Blk.cell x 5;have x6:=Blk.cell x 6;clear x;go_simp;first|done|rfl))
    | refine qqN (by rfl) (F _ ?_)
   clear F K;simp only[Act.put,qqB]
  refine qqH _ rfl (by rfl) (fun K F=>?_)
  go_wp2_with fail
  refine(qKH (j.wd.kept l) g.f.ok off a2 n2 c2 his).mono ?_
  rintro e w2 ⟨rfl,rfl⟩
  go_wp2
  refine F _ _ (qA8.refl _) ?_
  clear F K
  try simp only[Act.put,qqB]
  repeat
   refine qA0 _ rfl (fun K F=>?_)
   first
    | (refine qqP (by rfl) ?_;apply Exists.intro;refine⟨fun w' G=>?_,F _ ?_⟩;go_simp;first|done|rfl)
    | refine qqN (by rfl) (F _ ?_)
   clear F K;simp only[Act.put,qqB]
  refine qA6 ?_
  have h2:qAL col z1 P X o:=⟨_,_,_,j.kept l⟩
  have b5:=b6.trans (Ext.kept (m:=12) j.top l)
  have b8:=l.size
  have q:=bT.kept l
  have f0:=(q).free 0
  have f1:=(q).free 1
  have y0:=(q).cell 0
  have y1:=(q).cell 1
  go_wp2_with fail
  have bR:=((q).set 0 (.int .i64 (1))).set 1 (.slice none 0 0)
  have a0:Chg [w.heap.size+1] z1 ((z1.setCell ⟨w.heap.size+1,0,none⟩ (.int .i64 (1))).setCell ⟨w.heap.size+1,1,none⟩ (.slice none 0 0)):=((Chg.refl _ _).set qsm 0 _).set qsm 1 _
  have r0:=bR.cell 0
  have r1:=bR.cell 1
  clear f0 f1 y0 y1
  generalize ((z1.setCell ⟨w.heap.size+1,0,none⟩ (.int .i64 (1))).setCell ⟨w.heap.size+1,1,none⟩ (.slice none 0 0))=wE at *
  refine bodyPost_ret (v:=.agg #[.int .i64 (1),.slice none 0 0]) (by simp[results,results11,go_sem,r0,r1];try exact⟨rfl,rfl⟩) rfl ⟨_,col,by rw[Z.out],by rw[Z.out];exact qC4.nil,by rw[Z.out];exact qAL.chg0 h2 a0 cT,(b5).newset a0 (by omega)⟩
 | true =>
  have Z:R=((0,[]),o.setX (o.cur.sSmash (off,a.data))):=by rw[a5];unfold Bo.smash;rw[←I,his];rfl
  have CS:∀z,qA4 wA z→Calls prog 28 #[.pointer (some ⟨P.s,0,none⟩),.int .i64 off,.slice a2 n2 c2] z fun e w'=>e= .returned (.bool true)∧qHd 6 col z P (o.cur.sSmash (off,a.data)) w':=fun z hz=>by
   have sz:=has.s2.ext (Ext.kept (m:=12) j.top hz)
   by_cases h0:0<n2∨off<(gSize o.cur.n:Int)
   · obtain⟨c6,b7⟩:=qRd I.symm h0 his
     have:=qPi (j.wd.kept hz) g.f.ok (by omega) off.toNat (.slice a2 a.data.length c2) a.data (by rw[←b7];exact c6) sz.1 (fun a c e hl=>sz.2 a _ c e (by rw[qA7]at hl;exact hl))
     rw[←b7,←I]at this
     exact this
   · have c0:n2=0:=by omega
     have c7:off=(gSize o.cur.n:Int):=by
      unfold isB at his
      simp only[Bool.and_eq_true,decide_eq_true_eq]at his
      omega
     have c5:a.data= []:=List.eq_nil_of_length_eq_zero (by omega)
     subst c0
     have s1:=sz.1
     rw[c5]at s1 ⊢
     rw[c7]
     exact qJj (j.wd.kept hz) g.f.ok (by omega) a2 c2 s1
  replace Z:=qh Z
  clear his a5 a9 a4 b4 I a8 b3 N hR
  go_enter func11,ntmps11
  go_wp2_with fail
  rw[←J]
  clear J
  refine qAf (qA8 (fun k=>k<wA.heap.size∧(col k=0∨6<col k))) [(0,0),(1,0),(2,0),(3,0),(4,0),(5,0),(6,0),(7,0),(8,0),(9,0),(10,0),(11,1),(12,0)] (by kernel_rfl) (by kernel_rfl) ?_ ?_ ?_
  · exact fun _=>qA8.refl _
  · exact fun _ _ _ h1 h2=>h1.trans h2
  intro z1 l
  have O:=j.blk.kept l
  have V:=j.wd.blk.kept l
  have Y:=bX.kept l
  repeat
   refine qA0 _ rfl (fun K F=>?_)
   first
    | (refine qqP (by rfl) ?_;apply Exists.intro;refine⟨fun w' G=>?_,F _ ?_⟩;(have b:=(G.block _ O.lt ⟨j.blk.lt,.inr (by rw[j.cX];decide)⟩).trans O;have b0:=Blk.cell b 0;clear b;have d:=(G.block _ V.lt ⟨j.wd.blk.lt,.inr (by rw[j.wd.cW];decide)⟩).trans V;have d2:=Blk.cell d 2;clear d;have x:=(G.block _ Y.lt ⟨bX.lt,.inl cX⟩).trans Y;have x5:=Blk.cell x 5;have x6:=Blk.cell x 6;clear x;go_simp;first|done|rfl))
    | refine qqN (by rfl) (F _ ?_)
   clear F K;simp only[Act.put,qqB]
  refine qqH _ rfl (by rfl) (fun K F=>?_)
  go_wp2_with fail
  refine(CS z1 l).mono ?_
  rintro e w2 ⟨rfl,a6,b9,e2⟩
  have S2:=e2.sameOn (w0:=wA) (col0:=col) (fun k hk=>rfl)
  go_wp2
  refine F _ _ (S2) ?_
  clear F K
  try simp only[Act.put,qqB]
  repeat
   refine qA0 _ rfl (fun K F=>?_)
   first
    | (refine qqP (by rfl) ?_;apply Exists.intro;refine⟨fun w' G=>?_,F _ ?_⟩;go_simp;first|done|rfl)
    | refine qqN (by rfl) (F _ ?_)
   clear F K;simp only[Act.put,qqB]
  refine qA6 ?_
  have h2:qAL a6 w2 P X (o.setX (o.cur.sSmash (off,a.data))):=⟨_,_,_,(j.kept l).next b9 e2⟩
  have b5:=(b6.trans (Ext.kept (m:=12) j.top l)).trans (e2.mono (show 6≤12 by decide))
  have b8:=l.size
  obtain⟨q,c4⟩:=e2.blk0 (bT.kept l) cT
  have f0:=(q).free 0
  have f1:=(q).free 1
  have y0:=(q).cell 0
  have y1:=(q).cell 1
  go_wp2_with fail
  have bR:=((q).set 0 (.int .i64 (0))).set 1 (.slice none 0 0)
  have a0:Chg [w.heap.size+1] w2 ((w2.setCell ⟨w.heap.size+1,0,none⟩ (.int .i64 (0))).setCell ⟨w.heap.size+1,1,none⟩ (.slice none 0 0)):=((Chg.refl _ _).set qsm 0 _).set qsm 1 _
  have r0:=bR.cell 0
  have r1:=bR.cell 1
  clear f0 f1 y0 y1
  generalize ((w2.setCell ⟨w.heap.size+1,0,none⟩ (.int .i64 (0))).setCell ⟨w.heap.size+1,1,none⟩ (.slice none 0 0))=wE at *
  refine bodyPost_ret (v:=.agg #[.int .i64 (0),.slice none 0 0]) (by simp[results,results11,go_sem,r0,r1];try exact⟨rfl,rfl⟩) rfl ⟨_,a6,by rw[Z.out],by rw[Z.out];exact qC4.nil,by rw[Z.out];exact qAL.chg0 h2 a0 c4,(b5).newset a0 (by omega)⟩
section
variable {col col':Nat→Nat} {w w':World} {P:qAU} {X:Nat} {cv sv:Value} {us:List Value} {o:Bo}
theorem qBm.same {M C A:Nat}{vn vw:Value}{b:Bx}(h:qBm col w P M C A vn vw b)(hs:∀j,1≤j→j≤11→qB0 j col col' w w')(ht:Top col' w')(h6:∀k,k<w'.heap.size→col' k=6→k<w.heap.size∧col k=6):qBm col' w' P M C A vn vw b:=by
 obtain⟨l,F⟩:=(hs 9 (by decide) (by decide)).blk h.blk h.cC
 obtain⟨G,I⟩:=(hs 8 (by decide) (by decide)).blk h.wm.mkr h.wm.cM
 have c:=hs 10 (by decide) (by decide)
 exact⟨⟨h.wm.wd.free (fun j q J=>hs j q (by omega)) ht h6,G,I⟩,l,F,c.own h.now h.cn,c.own h.was h.cw,fun g f=>c.old g (qAp h.now f) (h.cn g f),fun g f=>c.old g (qAp h.was f) (h.cw g f),h.ne,h.age.frame (hs 11 (by decide) (by decide))⟩
theorem qF4.same {c:Option Bx}{x:Wd}(h:qF4 col w P c x cv)(hs:∀j,1≤j→j≤11→qB0 j col col' w w')(ht:Top col' w')(h6:∀k,k<w'.heap.size→col' k=6→k<w.heap.size∧col k=6):qF4 col' w' P c x cv:=by
 cases c with
 | none=>exact⟨h.1,h.2.free (fun j f q=>hs j f (by omega)) ht h6⟩
 | some B =>
  obtain⟨M,C,e,A,vn,vw,l⟩:=h
  exact⟨M,C,e,A,vn,vw,l.same hs ht h6⟩
theorem qMy {z2 z3 z4:World}{ob:Obj}{v u:Value}{s:List UInt8}(h:qCi col w P X cv sv us o)(k2:qA4 w z2)(h3:z3=z2.alloc ob)(hu:z2.ownsRow w.heap.size 5 1 u s.length (qA1 s))
 (hown:z4.ownsRow 0 32 1 v (o.snaps.length+1) (us++ [u])) (J:z3.grownBy z4 sv.ownBlock) (hv:v.ownBlock=sv.ownBlock∨v.ownBlock=some z3.heap.size) :
 qCi (qAi col 12 w z4) (z4.setCell ⟨X,2,none⟩ v) P X cv v (us++ [u]) ⟨o.x,o.c,o.snaps++ [s]⟩∧Ext 12 col (qAi col 12 w z4) w (z4.setCell ⟨X,2,none⟩ v):=by
 have O:qA4 w z3:=by rw[h3];exact k2.of (qal _)
 have a7:=O.size
 have a4:=J.size
 have hX:=h.blk.lt
 have a3:∀g,sv.ownBlock=some g→g≠X:=fun g J e=>by
  obtain⟨a,c,a0⟩:=(Sl.of_own h.sn.row).len
  subst a0
  rcases h.sn.row.2 with ⟨h0,_⟩|⟨g',cap',cur,hv',_,G,_⟩
  · rw[h0]at J;cases J
  · cases hv'
    have e2:g'=g:=by simpa [Value.ownBlock] using J
    subst e2
    subst e
    have N:=h.blk
    unfold Blk at N
    rw[G]at N
    cases N
 have b4:∀k,k<w.heap.size→sv.ownBlock≠some k→z4.heap[k]? = w.heap[k]?:=fun k l hn=>(J.block k (by omega) (fun e=>hn e.symm)).trans (O.block k l)
 have Z:Blk z4 X #[.pointer (some ⟨P.W,0,none⟩),cv,sv] 83:=(b4 X hX (fun e=>a3 X e rfl)).trans h.blk
 have q:Chg [X] z4 (z4.setCell ⟨X,2,none⟩ v):=(Chg.refl _ _).set qsm 2 _
 have a6:=q.size
 have Y:(z4.setCell ⟨X,2,none⟩ v).heap.size=z4.heap.size:=by simp
 have b5:∀k,k<w.heap.size→sv.ownBlock≠some k→k≠X→(z4.setCell ⟨X,2,none⟩ v).heap[k]? = w.heap[k]?:=fun k l hn F=>(q.block k (by omega) (by rw[List.mem_singleton];exact F)).trans (b4 k l hn)
 have a2:∀j,1≤j→j≤11→qB0 j col (qAi col 12 w z4) w (z4.setCell ⟨X,2,none⟩ v):=fun j h1 a5 =>
  ⟨by omega,fun k l I=>by rw[qAd l];exact I,fun k l I=>b5 k l (fun e=>by have:=h.sn.cs k e;omega) (fun e=>by have:=h.cX;rw[e]at I;omega)⟩
 have ht:Top (qAi col 12 w z4) (z4.setCell ⟨X,2,none⟩ v):=fun k l=>by
  rw[Y]at l
  unfold qAi
  rw[if_neg (by omega)]
  exact h.top k (by omega)
 have h6:∀k,k<(z4.setCell ⟨X,2,none⟩ v).heap.size→qAi col 12 w z4 k=6→k<w.heap.size∧col k=6:=fun k l I=>by
  by_cases V:k<w.heap.size
  · rw[qAd V]at I;exact⟨V,I⟩
  · rw[qAk (by omega) (by rw[Y]at l;exact l)]at I;cases I
 have b2:=Z.set 2 v
 simp only[qqA,qq0,qq1]at b2
 have kk:∀ {B:Nat} {x:Value} {bs:List UInt8},z2.ownsRow B 5 1 x bs.length (qA1 bs)→z4.ownsRow B 5 1 x bs.length (qA1 bs):=fun {B x bs} F=>by
  have h9:z3.ownsRow B 5 1 x bs.length (qA1 bs):=by rw[h3];exact qA5 F (qal _)
  refine⟨h9.1,?_⟩
  rcases h9.2 with h0|⟨g',cap',cur,rfl,hB,G,r⟩
  · exact .inl h0
  · refine .inr ⟨g',cap',cur,rfl,hB,?_,r⟩
    refine(J.block g' (Blk.lt G) (fun e=>?_)).trans G
    rcases h.sn.row.2 with ⟨h0,_⟩|⟨g2,cap2,cur2,hv2,_,hb2,_⟩
    · rw[h0]at e;cases e
    · rw[hv2]at e
      have e2:g'=g2:=by simpa [Value.ownBlock] using e
      subst e2
      have N:z3.heap[g']? = w.heap[g']?:=O.block g' (Blk.lt hb2)
      rw[G]at N
      have h5:w.heap[g']? = _:=hb2
      rw[h5]at N
      cases N
 refine⟨⟨b2,by rw[qAd hX];exact h.cX,h.bc.same a2 ht h6,⟨by simp[h.sn.len],?_,?_,?_,?_⟩⟩,⟨q.os.trans (J.os.trans O.os),q.tape.trans (J.tape.trans O.tape),q.output.trans (J.output.trans O.output),by omega,fun k l=>qAd l,fun k l=>?_,ht,fun k l I=>?_⟩⟩
 · rw[List.length_append]
   exact qAu hown q Z (by decide)
 · intro x F
   rcases List.mem_append.1 F with F|F
   · exact h.sn.one x F
   · rw[List.mem_singleton.1 F];exact qD5 hu
 · intro g f
   rcases hv with e|e
   · rw[e]at f
     rw[qAd (qAp h.sn.row f)]
     exact h.sn.cs g f
   · rw[e]at f
     cases f
     refine qAk (by omega) ?_
     have:=qAp hown e
     exact this
 · intro i bs x G F
   by_cases hi:i<o.snaps.length
   · rw[List.getElem?_append_left hi]at G
     rw[List.getElem?_append_left (by rw[h.sn.len];exact hi)]at F
     obtain⟨h1,h2⟩:=h.sn.each i bs x G F
     refine⟨qAu (kk (qA5 h1 k2)) q Z (by decide),fun g f=>?_⟩
     rw[qAd (qAp h1 f)]
     exact h2 g f
   · have a1:i=o.snaps.length:=by
      have:=(List.getElem?_eq_some_iff.1 G).1
      simp at this
      omega
     subst a1
     rw[List.getElem?_append_right qle]at G
     rw[←h.sn.len,List.getElem?_append_right qle]at F
     simp at G F
     subst G
     subst F
     refine⟨qAh (qAu (kk hu) q Z (by decide)) (Nat.zero_le _),fun g f=>qAk (qAN hu f) ?_⟩
     have:=qAp hu f
     have:z2.heap.size≤z3.heap.size:=by rw[h3];simp
     omega
 · unfold qAi
   split
   · decide
   · rw[h.top k l];decide
 · exact b5 k l (fun e=>by have:=h.sn.cs k e;omega) (fun e=>by have:=h.cX;rw[e]at I;omega)
end
theorem qRj {col:Nat→Nat}{w:World}{P:qAU}{X:Nat}{o:Bo}(h:qAL col w P X o){m:Nat}(g:o.good m)(hm:m≤36000)(a:Ac)(hkd:a.kind=5)(a1 a2 a3:Option Addr)(Z c2 c3:Nat)(_:qHt col w a (.slice a1 a.call.data.length Z) (.slice a2 a.data.length c2) (.slice a3 a.keep.length c3)):Calls prog 11 #[.pointer (some ⟨X,0,none⟩),.agg #[.int .i64 a.kind,.int .i64 a.call.kind,.int .i64 a.call.lba,.slice a1 a.call.data.length Z,.int .i64 a.n,.int .i64 a.off,.slice a2 a.data.length c2,.slice a3 a.keep.length c3]] w fun e w'=>∃v col',e= .returned (.agg #[.int .i64 (o.act a).1.1,v])∧qC4 col' w' w.heap.size v (o.act a).1.2∧qAL col' w' P X (o.act a).2∧Ext 12 col col' w w':=by
 obtain⟨ck,a8⟩:∃k,k=a.call.kind:=⟨_,rfl⟩
 obtain⟨lba,O⟩:∃k,k=a.call.lba:=⟨_,rfl⟩
 obtain⟨n1,b7⟩:∃k,k=a.call.data.length:=⟨_,rfl⟩
 obtain⟨n2,a4⟩:∃k,k=a.data.length:=⟨_,rfl⟩
 obtain⟨n3,a7⟩:∃k,k=a.keep.length:=⟨_,rfl⟩
 obtain⟨an,a9⟩:∃k,k=a.n:=⟨_,rfl⟩
 obtain⟨off,J⟩:∃k,k=a.off:=⟨_,rfl⟩
 obtain⟨R,hR⟩:∃R,R=o.act a:=⟨_,rfl⟩
 obtain⟨wA,I⟩:∃y,y=((w.alloc (.cells #[.int .i64 5,.int .i64 ck,.int .i64 lba,.slice a1 n1 Z,.int .i64 an,.int .i64 off,.slice a2 n2 c2,.slice a3 n3 c3] 37)).alloc (.cells #[.int .i64 0,.slice none 0 0] 39)):=⟨_,rfl⟩
 have a6:qA4 w wA:=by rw[I];exact(qal _).alloc (by simp) _
 have bX:Blk wA w.heap.size #[.int .i64 5,.int .i64 ck,.int .i64 lba,.slice a1 n1 Z,.int .i64 an,.int .i64 off,.slice a2 n2 c2,.slice a3 n3 c3] 37:=by
  rw[I]
  exact(Blk.new w _ _).kept ((Below.refl _ _).alloc (by simp) _)
 have bT:Blk wA (w.heap.size+1) #[.int .i64 0,.slice none 0 0] 39:=by
  rw[I]
  have:=Blk.new (w.alloc (.cells #[.int .i64 5,.int .i64 ck,.int .i64 lba,.slice a1 n1 Z,.int .i64 an,.int .i64 off,.slice a2 n2 c2,.slice a3 n3 c3] 37)) #[.int .i64 0,.slice none 0 0] 39
  rw[World.size_alloc]at this
  exact this
 have hA:=h.kept a6
 have c4:Ext 12 col col w wA:=Ext.kept h.top a6
 have cX:col w.heap.size=0:=h.top _ qle
 have cT:col (w.heap.size+1)=0:=h.top _ (by omega)
 have c8:=bT.lt
 obtain⟨cv,sv,us,j⟩:=hA
 have hr:R=((0,[]),o.snap):=by
  rw[hR];unfold Bo.act;rw[if_neg (by rw[hkd];decide),if_neg (by rw[hkd];decide),if_neg (by rw[hkd];decide),if_neg (by rw[hkd];decide),if_pos hkd]
 rw[hkd,←a8,←O,←b7,←a4,←a7,←a9,←J,←hR]
 replace hr:=qh hr
 clear a8 O b7 a4 a7 a9 J hR
 have b8:sv.ownBlock≠some X∧sv.ownBlock≠some P.W:=by
  obtain⟨a,c,d0⟩:=(Sl.of_own j.sn.row).len
  refine⟨fun e=>?_,fun e=>by have:=j.sn.cs _ e;rw[j.wd.cW]at this;cases this⟩
  rcases j.sn.row.2 with ⟨h0,_⟩|⟨g',cap',cur,hv',_,hb,_⟩
  · rw[h0]at e;cases e
  · rw[hv']at e
    have e2:g'=X:=by simpa [Value.ownBlock] using e
    subst e2
    have h4:=j.blk
    unfold Blk at h4
    rw[hb]at h4
    cases h4
 have b3:=b8.1
 have c0:=b8.2
 have c7:=g.few
 have Y:o.cur.sd.snap.length=gSize o.cur.n:=Sd.snap_length g.f.ok.s
 replace Y:=qh Y
 go_enter func11,ntmps11
 go_wp2_with fail
 rw[←I]
 clear I
 refine qAf (qA8 (fun k=>k<wA.heap.size∧sv.ownBlock≠some k)) [(0,0),(1,0),(2,0),(3,0),(4,0),(5,0),(6,0),(7,0),(8,0),(9,0),(10,0),(11,0),(12,1),(13,1),(14,1),(15,2),(16,2),(17,2)] (by kernel_rfl) (by kernel_rfl) ?_ ?_ ?_
 · exact fun _=>qA8.refl _
 · exact fun _ _ _ h1 h2=>h1.trans h2
 intro z1 l
 have a0:=j.blk.kept l
 have a5:=j.wd.blk.kept l
 repeat
  refine qA0 _ rfl (fun K q=>?_)
  first
   | (refine qqP (by rfl) ?_;apply Exists.intro;refine⟨fun w' b4=>?_,q _ ?_⟩;(have b:=(b4.block _ a0.lt ⟨j.blk.lt,b3⟩).trans a0;have b0:=Blk.cell b 0;have b2:=Blk.cell b 2;clear b;have d:=(b4.block _ a5.lt ⟨j.wd.blk.lt,c0⟩).trans a5;have d2:=Blk.cell d 2;clear d;go_simp;first|done|rfl))
   | refine qqN (by rfl) (q _ ?_)
  clear q K;simp only[Act.put,qqB]
 refine qqH _ rfl (by rfl) (fun K q=>?_)
 go_wp2_with fail
 refine(qRc (j.wd.kept l) g.f.ok (by omega)).mono ?_
 rintro e z2 ⟨g1,Z,rfl,hu,F⟩
 go_wp2
 refine q _ _ (qA8.of_kept F) ?_
 clear q K
 try simp only[Act.put,qqB]
 refine qqH _ rfl (by rfl) (fun K q=>?_)
 go_wp2
 refine q _ _ (qA8.of_kept (qal _)) ?_
 clear q K
 try simp only[Act.put,qqB]
 refine qqH _ rfl (by rfl) (fun K q=>?_)
 refine qIB qHR (by rfl) (by rfl) (by rfl) ((qA5 (qA5 j.sn.row l) F).alloc _) (Sl.one _ _ _) (by rfl) (fun x hx=>by rw[List.mem_singleton.1 hx];rfl) (by unfold maxLen;omega) (by omega) (Nat.zero_le _) ?_
 intro v z4 N V hv
 refine q _ _ ((⟨V.os,V.tape,V.output,V.size,fun k hk hA=>V.block k hk (fun e=>hA.2 e.symm)⟩:qA8 (fun k=>k<wA.heap.size∧sv.ownBlock≠some k) _ z4)) ?_
 clear q K
 try simp only[Act.put,qqB]
 refine qAg _ rfl (fun K q=>?_)
 refine qqP (by rfl) ?_
 go_wp2
 refine qAg _ rfl (fun K q=>?_)
 refine qqP (by rfl) ?_
 go_wp2
 refine qAg _ rfl (fun K q=>?_)
 refine qqP (by rfl) ?_
 have b6:Blk z4 X #[.pointer (some ⟨P.W,0,none⟩),cv,sv] 83:=(V.block X ((((j.blk.kept l).kept F).kept (qal _)).lt) (fun e=>b3 e.symm)).trans (((j.blk.kept l).kept F).kept (qal _))
 have hfr:=qMy (j.kept l) F rfl (s:=o.cur.sd.snap) (by rw[Y.out];exact hu) N V hv
 have f2:=b6.free 2
 have y2:=b6.cell 2
 obtain⟨gv,b9,rfl⟩:=qAy N (by omega)
 go_wp2
 refine qA6 ?_
 generalize (z4.setCell ⟨X,2,none⟩ (.slice (some ⟨gv,0,none⟩) (o.snaps.length+1) b9))=z5 at *
 have h2:qAL (qAi col 12 z1 z4) z5 P X o.snap:=⟨_,_,_,hfr.1⟩
 have c6:=(c4.trans (Ext.kept (m:=12) j.top l)).trans hfr.2
 have c9:=l.size
 obtain⟨G,c5⟩:=hfr.2.blk0 (bT.kept l) cT
 have f0:=(G).free 0
 have f1:=(G).free 1
 have y0:=(G).cell 0
 have y1:=(G).cell 1
 go_wp2_with fail
 have bR:=((G).set 0 (.int .i64 (0))).set 1 (.slice none 0 0)
 have b5:Chg [w.heap.size+1] z5 ((z5.setCell ⟨w.heap.size+1,0,none⟩ (.int .i64 (0))).setCell ⟨w.heap.size+1,1,none⟩ (.slice none 0 0)):=((Chg.refl _ _).set qsm 0 _).set qsm 1 _
 have r0:=bR.cell 0
 have r1:=bR.cell 1
 clear f0 f1 y0 y1
 generalize ((z5.setCell ⟨w.heap.size+1,0,none⟩ (.int .i64 (0))).setCell ⟨w.heap.size+1,1,none⟩ (.slice none 0 0))=wE at *
 refine bodyPost_ret (v:=.agg #[.int .i64 (0),.slice none 0 0]) (by simp[results,results11,go_sem,r0,r1];try exact⟨rfl,rfl⟩) rfl ⟨_,(qAi col 12 z1 z4),by rw[hr.out],by rw[hr.out];exact qC4.nil,by rw[hr.out];exact qAL.chg0 h2 b5 c5,(c6).newset b5 (by omega)⟩
theorem qRk {col:Nat→Nat}{w:World}{P:qAU}{X:Nat}{o:Bo}(h:qAL col w P X o){m:Nat}(g:o.good m)(hm:m≤36000)(a:Ac)(hkd:a.kind=6)(a1 a2 a3:Option Addr)(c1 c2 c3:Nat)(_:qHt col w a (.slice a1 a.call.data.length c1) (.slice a2 a.data.length c2) (.slice a3 a.keep.length c3)):Calls prog 11 #[.pointer (some ⟨X,0,none⟩),.agg #[.int .i64 a.kind,.int .i64 a.call.kind,.int .i64 a.call.lba,.slice a1 a.call.data.length c1,.int .i64 a.n,.int .i64 a.off,.slice a2 a.data.length c2,.slice a3 a.keep.length c3]] w fun e w'=>∃v col',e= .returned (.agg #[.int .i64 (o.act a).1.1,v])∧qC4 col' w' w.heap.size v (o.act a).1.2∧qAL col' w' P X (o.act a).2∧Ext 12 col col' w w':=by
 obtain⟨ck,a0⟩:∃k,k=a.call.kind:=⟨_,rfl⟩
 obtain⟨lba,q⟩:∃k,k=a.call.lba:=⟨_,rfl⟩
 obtain⟨n1,a4⟩:∃k,k=a.call.data.length:=⟨_,rfl⟩
 obtain⟨n2,N⟩:∃k,k=a.data.length:=⟨_,rfl⟩
 obtain⟨n3,Z⟩:∃k,k=a.keep.length:=⟨_,rfl⟩
 obtain⟨an,G⟩:∃k,k=a.n:=⟨_,rfl⟩
 obtain⟨off,l⟩:∃k,k=a.off:=⟨_,rfl⟩
 obtain⟨R,hR⟩:∃R,R=o.act a:=⟨_,rfl⟩
 obtain⟨I,f⟩:∃y,y=((w.alloc (.cells #[.int .i64 6,.int .i64 ck,.int .i64 lba,.slice a1 n1 c1,.int .i64 an,.int .i64 off,.slice a2 n2 c2,.slice a3 n3 c3] 37)).alloc (.cells #[.int .i64 0,.slice none 0 0] 39)):=⟨_,rfl⟩
 have V:qA4 w I:=by rw[f];exact(qal _).alloc (by simp) _
 have bX:Blk I w.heap.size #[.int .i64 6,.int .i64 ck,.int .i64 lba,.slice a1 n1 c1,.int .i64 an,.int .i64 off,.slice a2 n2 c2,.slice a3 n3 c3] 37:=by
  rw[f]
  exact(Blk.new w _ _).kept ((Below.refl _ _).alloc (by simp) _)
 have bT:Blk I (w.heap.size+1) #[.int .i64 0,.slice none 0 0] 39:=by
  rw[f]
  have:=Blk.new (w.alloc (.cells #[.int .i64 6,.int .i64 ck,.int .i64 lba,.slice a1 n1 c1,.int .i64 an,.int .i64 off,.slice a2 n2 c2,.slice a3 n3 c3] 37)) #[.int .i64 0,.slice none 0 0] 39
  rw[World.size_alloc]at this
  exact this
 have hA:=h.kept V
 have a7:Ext 12 col col w I:=Ext.kept h.top V
 have cX:col w.heap.size=0:=h.top _ qle
 have cT:col (w.heap.size+1)=0:=h.top _ (by omega)
 have a8:=bT.lt
 have CB:Calls prog 30 #[.pointer (some ⟨X,0,none⟩),.int .i64 a.n] I fun e w'=>∃col',e= .returned (.int .i64 (o.back a.n).1.1)∧qAL col' w' P X (o.back a.n).2∧Ext 12 col col' I w':=by
  by_cases hb:0≤a.n∧a.n<(o.snaps.length:Int)
  · have a6:a.n=((a.n.toNat:Nat):Int):=by omega
    have:=qJk hA g a.n.toNat (by omega) (by have:=g.few;omega)
    rw[←a6]at this
    exact this
  · exact qKJ hA a.n hb
 obtain⟨E,hE⟩:∃E,E=(o.back a.n).1.1:=⟨_,rfl⟩
 obtain⟨o2,F⟩:∃o2,o2=(o.back a.n).2:=⟨_,rfl⟩
 rw[←hE,←F]at CB
 have j:(o.back a.n).1.2= []:=by unfold Bo.back;split<;>rfl
 have Y:R=((E,[]),o2):=by
  rw[hR,hE,F];unfold Bo.act;rw[if_neg (by rw[hkd];decide),if_neg (by rw[hkd];decide),if_neg (by rw[hkd];decide),if_neg (by rw[hkd];decide),if_neg (by rw[hkd];decide)];rw[if_pos hkd,←j]
 rw[hkd,←a0,←q,←a4,←N,←Z,←G,←l,←hR]
 replace Y:=qh Y
 rw[←G]at CB
 rw[f]at CB
 clear hE F j
 clear a0 q a4 N Z G l hR
 go_enter func11,ntmps11
 go_wp2_with fail
 refine CB.mono ?_
 rintro e w2 ⟨O,rfl,h2,e2⟩
 rw[←f]at e2
 obtain⟨c,a5⟩:=e2.blk0 bT cT
 have f0:=(c).free 0
 have f1:=(c).free 1
 have y0:=(c).cell 0
 have y1:=(c).cell 1
 go_wp2_with fail
 have bR:=((c).set 0 (.int .i64 (E))).set 1 (.slice none 0 0)
 have J:Chg [w.heap.size+1] w2 ((w2.setCell ⟨w.heap.size+1,0,none⟩ (.int .i64 (E))).setCell ⟨w.heap.size+1,1,none⟩ (.slice none 0 0)):=((Chg.refl _ _).set qsm 0 _).set qsm 1 _
 have r0:=bR.cell 0
 have r1:=bR.cell 1
 clear f0 f1 y0 y1
 generalize ((w2.setCell ⟨w.heap.size+1,0,none⟩ (.int .i64 (E))).setCell ⟨w.heap.size+1,1,none⟩ (.slice none 0 0))=wE at *
 refine bodyPost_ret (v:=.agg #[.int .i64 (E),.slice none 0 0]) (by simp[results,results11,go_sem,r0,r1];try exact⟨rfl,rfl⟩) rfl ⟨_,O,by rw[Y.out],by rw[Y.out];exact qC4.nil,by rw[Y.out];exact qAL.chg0 h2 J a5,(a7.trans e2).newset J (by omega)⟩
theorem qRl {col:Nat→Nat}{w:World}{P:qAU}{X:Nat}{o:Bo}(h:qAL col w P X o){m:Nat}(g:o.good m)(_:m≤36000)(a:Ac)(hkd:a.kind=7)(a1 a2 a3:Option Addr)(c1 c2 c3:Nat)(_:qHt col w a (.slice a1 a.call.data.length c1) (.slice a2 a.data.length c2) (.slice a3 a.keep.length c3)):Calls prog 11 #[.pointer (some ⟨X,0,none⟩),.agg #[.int .i64 a.kind,.int .i64 a.call.kind,.int .i64 a.call.lba,.slice a1 a.call.data.length c1,.int .i64 a.n,.int .i64 a.off,.slice a2 a.data.length c2,.slice a3 a.keep.length c3]] w fun e w'=>∃v col',e= .returned (.agg #[.int .i64 (o.act a).1.1,v])∧qC4 col' w' w.heap.size v (o.act a).1.2∧qAL col' w' P X (o.act a).2∧Ext 12 col col' w w':=by
 obtain⟨ck,a9⟩:∃k,k=a.call.kind:=⟨_,rfl⟩
 obtain⟨lba,J⟩:∃k,k=a.call.lba:=⟨_,rfl⟩
 obtain⟨n1,b3⟩:∃k,k=a.call.data.length:=⟨_,rfl⟩
 obtain⟨n2,a4⟩:∃k,k=a.data.length:=⟨_,rfl⟩
 obtain⟨n3,a8⟩:∃k,k=a.keep.length:=⟨_,rfl⟩
 obtain⟨F,N⟩:∃k,k=a.n:=⟨_,rfl⟩
 obtain⟨off,I⟩:∃k,k=a.off:=⟨_,rfl⟩
 obtain⟨R,hR⟩:∃R,R=o.act a:=⟨_,rfl⟩
 obtain⟨Y,q⟩:∃y,y=((w.alloc (.cells #[.int .i64 7,.int .i64 ck,.int .i64 lba,.slice a1 n1 c1,.int .i64 F,.int .i64 off,.slice a2 n2 c2,.slice a3 n3 c3] 37)).alloc (.cells #[.int .i64 0,.slice none 0 0] 39)):=⟨_,rfl⟩
 have a7:qA4 w Y:=by rw[q];exact(qal _).alloc (by simp) _
 have bX:Blk Y w.heap.size #[.int .i64 7,.int .i64 ck,.int .i64 lba,.slice a1 n1 c1,.int .i64 F,.int .i64 off,.slice a2 n2 c2,.slice a3 n3 c3] 37:=by
  rw[q]
  exact(Blk.new w _ _).kept ((Below.refl _ _).alloc (by simp) _)
 have bT:Blk Y (w.heap.size+1) #[.int .i64 0,.slice none 0 0] 39:=by
  rw[q]
  have:=Blk.new (w.alloc (.cells #[.int .i64 7,.int .i64 ck,.int .i64 lba,.slice a1 n1 c1,.int .i64 F,.int .i64 off,.slice a2 n2 c2,.slice a3 n3 c3] 37)) #[.int .i64 0,.slice none 0 0] 39
  rw[World.size_alloc]at this
  exact this
 have hA:=h.kept a7
 have b7:Ext 12 col col w Y:=Ext.kept h.top a7
 have cX:col w.heap.size=0:=h.top _ qle
 have cT:col (w.heap.size+1)=0:=h.top _ (by omega)
 have b8:=bT.lt
 obtain⟨cv,sv,us,c⟩:=hA
 have hr:R=((0,[]),o.setX (o.cur.dRefuse (F != 0))):=by
  rw[hR];unfold Bo.act;rw[if_neg (by rw[hkd];decide),if_neg (by rw[hkd];decide),if_neg (by rw[hkd];decide),if_neg (by rw[hkd];decide),if_neg (by rw[hkd];decide),if_neg (by rw[hkd];decide),if_pos hkd,←N,show decide (F≠0)=(F != 0) by by_cases h:F=0<;>simp[h]]
 rw[hkd,←a9,←J,←b3,←a4,←a8,←N,←I,←hR]
 replace hr:=qh hr
 clear a9 J b3 a4 a8 N I hR
 go_enter func11,ntmps11
 go_wp2_with fail
 rw[←q]
 clear q
 refine qAf (qA8 (fun k=>k<Y.heap.size∧(col k=0∨6<col k))) [(0,0),(1,0),(2,0),(3,0),(4,0),(5,0),(6,0),(7,0),(8,0),(9,0),(10,1)] (by kernel_rfl) (by kernel_rfl) ?_ ?_ ?_
 · exact fun _=>qA8.refl _
 · exact fun _ _ _ h1 h2=>h1.trans h2
 intro z1 j
 have a0:=c.blk.kept j
 have a5:=c.wd.blk.kept j
 have a6:=bX.kept j
 repeat
  refine qA0 _ rfl (fun K V=>?_)
  first
   | (refine qqP (by rfl) ?_;apply Exists.intro;refine⟨fun w' O=>?_,V _ ?_⟩;(have b:=(O.block _ a0.lt ⟨c.blk.lt,.inr (by rw[c.cX];decide)⟩).trans a0;have b0:=Blk.cell b 0;clear b;have d:=(O.block _ a5.lt ⟨c.wd.blk.lt,.inr (by rw[c.wd.cW];decide)⟩).trans a5;have d3:=Blk.cell d 3;clear d;have x:=(O.block _ a6.lt ⟨bX.lt,.inl cX⟩).trans a6;have x4:=Blk.cell x 4;clear x;go_simp;first|done|rfl))
   | refine qqN (by rfl) (V _ ?_)
  clear V K;simp only[Act.put,qqB]
 refine qqH _ rfl (by rfl) (fun K V=>?_)
 go_wp2_with fail
 refine(qM6 (c.wd.kept j) g.f.ok (F != 0)).mono ?_
 rintro e w2 ⟨rfl,G,b5,e2⟩
 have S2:=e2.sameOn (w0:=Y) (col0:=col) (fun k hk=>rfl)
 go_wp2
 refine V _ _ (S2) ?_
 clear V K
 try simp only[Act.put,qqB]
 refine qA6 ?_
 have h2:qAL G w2 P X (o.setX (o.cur.dRefuse (F != 0))):=⟨_,_,_,(c.kept j).next b5 e2⟩
 have b6:=(b7.trans (Ext.kept (m:=12) c.top j)).trans (e2.mono (show 6≤12 by decide))
 have b9:=j.size
 obtain⟨l,b4⟩:=e2.blk0 (bT.kept j) cT
 have f0:=(l).free 0
 have f1:=(l).free 1
 have y0:=(l).cell 0
 have y1:=(l).cell 1
 go_wp2_with fail
 have bR:=((l).set 0 (.int .i64 (0))).set 1 (.slice none 0 0)
 have Z:Chg [w.heap.size+1] w2 ((w2.setCell ⟨w.heap.size+1,0,none⟩ (.int .i64 (0))).setCell ⟨w.heap.size+1,1,none⟩ (.slice none 0 0)):=((Chg.refl _ _).set qsm 0 _).set qsm 1 _
 have r0:=bR.cell 0
 have r1:=bR.cell 1
 clear f0 f1 y0 y1
 generalize ((w2.setCell ⟨w.heap.size+1,0,none⟩ (.int .i64 (0))).setCell ⟨w.heap.size+1,1,none⟩ (.slice none 0 0))=wE at *
 refine bodyPost_ret (v:=.agg #[.int .i64 (0),.slice none 0 0]) (by simp[results,results11,go_sem,r0,r1];try exact⟨rfl,rfl⟩) rfl ⟨_,G,by rw[hr.out],by rw[hr.out];exact qC4.nil,by rw[hr.out];exact qAL.chg0 h2 Z b4,(b6).newset Z (by omega)⟩
theorem qOj {col:Nat→Nat}{w:World}{P:qAU}{X:Nat}{o:Bo}(h:qAL col w P X o){m:Nat}(g:o.good m)(hm:m≤36000)(a:Ac)(a1 a2 a3:Option Addr)(c1 c2 c3:Nat)(ha:qHt col w a (.slice a1 a.call.data.length c1) (.slice a2 a.data.length c2) (.slice a3 a.keep.length c3)):Calls prog 11 #[.pointer (some ⟨X,0,none⟩),.agg #[.int .i64 a.kind,.int .i64 a.call.kind,.int .i64 a.call.lba,.slice a1 a.call.data.length c1,.int .i64 a.n,.int .i64 a.off,.slice a2 a.data.length c2,.slice a3 a.keep.length c3]] w fun e w'=>∃v col',e= .returned (.agg #[.int .i64 (o.act a).1.1,v])∧qC4 col' w' w.heap.size v (o.act a).1.2∧qAL col' w' P X (o.act a).2∧Ext 12 col col' w w':=by
 by_cases l:a.kind=1
 · exact qRf h g hm a l a1 a2 a3 c1 c2 c3 ha
 by_cases G:a.kind=2
 · exact qRg h g hm a G a1 a2 a3 c1 c2 c3 ha
 by_cases j:a.kind=3
 · exact qRh h g hm a j a1 a2 a3 c1 c2 c3 ha
 by_cases F:a.kind=4
 · exact qRi h g hm a F a1 a2 a3 c1 c2 c3 ha
 by_cases c:a.kind=5
 · exact qRj h g hm a c a1 a2 a3 c1 c2 c3 ha
 by_cases f:a.kind=6
 · exact qRk h g hm a f a1 a2 a3 c1 c2 c3 ha
 by_cases q:a.kind=7
 · exact qRl h g hm a q a1 a2 a3 c1 c2 c3 ha
 exact qRe h g hm a a.kind ⟨l,G,j,F,c,f,q⟩ rfl a1 a2 a3 c1 c2 c3 ha
theorem Bx.good.doC {b:Bx}{m:Nat}(g:b.good m)(hm:m≤100000)(c:Cl):(b.doC c).2.good (m+97):=by
 unfold Bx.doC
 split
 · exact g.up (by omega)
 split
 · exact g.up (by omega)
 split
 · exact g.up (by omega)
 rename_i J N I
 have h:c.is=true:=by simpa using I
 unfold Cl.is at h
 split
 · rename_i G
   rw[if_pos G]at h
   have hl:c.lba.toNat<32:=by
    unfold isD at h
    simp at h
    omega
   exact(g.read h (Dk.read_length g.f.x.ok.d hl)).up (by omega)
 rename_i l
 rw[if_neg l]at h
 split
 · rename_i j
   rw[if_neg (by omega),if_pos j]at h
   simp only[Bool.and_eq_true,decide_eq_true_eq]at h
   exact(g.write h.2 h.1).up (by omega)
 rename_i j
 split
 · exact g.commit.up (by omega)
 split
 · rename_i F q
   rw[if_pos q]at h
   exact(g.discard h).up (by omega)
 · exact(g.rotate (by omega)).up (by omega)
theorem qOk (F:Int×Bx):Bo.cur ⟨(Bx.openR F).2.1,(Bx.openR F).2.2,[]⟩=F.2.x∧∀B,(Bx.openR F).2.2=some B→B=F.2:=by
 unfold Bx.openR
 split
 · exact⟨rfl,fun B h=>(by cases h)⟩
 · exact⟨rfl,fun B h=>(by cases h;rfl)⟩
theorem qGB (b:Bx)(s:Nat):(b.spillX s).x.n=b.x.n:=by
 unfold Bx.spillX
 cases b.valD s with
 | none=>rfl
 | some d =>
  show(b.x.dPut _ d).n=_
  unfold Wd.dPut;split<;>rfl
theorem qBz (b:Bx):b.commit.2.x.n=b.x.n:=qCF
theorem qHu:∀(k s:Nat) (b:Bx) (d:Bool),(Bx.empF k s b d).2.1.x.n=b.x.n
 | 0,_,_,_=>rfl
 | k+1,s,b,d=>by
  unfold Bx.empF
  split
  · split
    · exact qGB b s
    · rw[qHu k (s+1)];exact qGB b s
  · exact qHu k (s+1) b d
theorem qGC (b:Bx):b.empty.2.x.n=b.x.n:=by
 unfold Bx.empty Bx.empR
 split
 · exact qHu _ _ _ _
 · unfold Bx.empD
   split
   · exact qHu _ _ _ _
   · show(if _ then _ else _:Bx).x.n=_
     split
     · exact qHu _ _ _ _
     · exact qHu _ _ _ _
theorem qLs (b:Bx):b.forget.2.x.n=b.x.n:=by
 unfold Bx.forget
 split
 · exact qBz b
 · exact qBz b
theorem qPV (b:Bx):b.finish.2.x.n=b.x.n:=by
 unfold Bx.finish
 split
 · rfl
 split
 · exact qGC b
 · rw[qLs];exact qGC b
theorem qOl (b:Bx)(s:Nat)(l:Lf):(b.puts s l).x=b.x:=by
 unfold Bx.puts;split<;>rfl
theorem qQo (b:Bx)(lba:Int)(d:List UInt8)(y:Bool):(b.lays lba d y).2.x.n=b.x.n:=by
 unfold Bx.lays
 split
 · rfl
 split
 · rw[qOl];rfl
 · rfl
theorem qRm (b:Bx):b.evict.2.x.n=b.x.n:=by
 unfold Bx.evict
 split
 · split
   · exact qGB _ _
   split
   · exact qGB _ _
   · rw[qBz];exact qGB b b.oldest
 · rw[qBz];rfl
theorem qLt (b:Bx):b.room.2.x.n=b.x.n:=by
 unfold Bx.room
 split
 · rfl
 split
 · exact qBz b
 split
 · exact qBz b
 · rw[qRm];exact qBz b
theorem qTb (b:Bx)(c:Cl):(b.doC c).2.x.n=b.x.n:=by
 unfold Bx.doC
 split
 · rfl
 split
 · rfl
 split
 · rfl
 split
 · unfold Bx.read
   cases b.c.slot c.lba with
   | some s =>
    show(b.readV s (b.valD s)).2.x.n=_
    cases b.valD s<;>rfl
   | none =>
    show(b.readD c.lba _).2.x.n=_
    unfold Bx.readD
    split
    · rfl
    · unfold Bx.readN
      split<;>exact qQo _ _ _ _
 split
 · show(b.write c.lba c.data).2.x.n=_
   unfold Bx.write
   split
   · exact qLt b
   · rw[qQo];exact qLt b
 split
 · exact qBz b
 split
 · show(b.discard c.lba).2.x.n=_
   unfold Bx.discard
   split
   · exact qLt b
   · show(Bx.puts _ _ _).x.n=_
     rw[qOl];exact qLt b
 · show b.rotate.2.x.n=_
   unfold Bx.rotate
   split
   · exact qBz b
   · unfold Bx.rotE
     split
     · rw[qGC];exact qBz b
     split
     · show b.commit.2.empty.2.x.n=_
       rw[qGC];exact qBz b
     · rw[qLs]
       show b.commit.2.empty.2.x.n=_
       rw[qGC];exact qBz b
theorem Wd.opens_good {x:Wd}{m:Nat}(f:x.fine m)(hp:0#32<qAl x.eps):∀r,r=x.opens→(Bo.cur ⟨r.2.1,r.2.2,[]⟩).fine (m+106)∧0#32<qAl (Bo.cur ⟨r.2.1,r.2.2,[]⟩).eps∧(Bo.cur ⟨r.2.1,r.2.2,[]⟩).n=x.n∧∀B,r.2.2=some B→B.good (m+106):=by
 rintro r rfl
 unfold Wd.opens
 split
 · exact⟨f.up (by omega),hp,rfl,fun B h=>(by cases h)⟩
 split
 · exact⟨f.boot.up (by omega),hp,rfl,fun B h=>(by cases h)⟩
 have hn:=qAo f.ok.sl
 cases hl:x.boot.loadO with
 | none =>
  refine⟨f.boot.loadX.up (by omega),?_,?_,fun B h=>(by cases h)⟩
  · show 0#32<qAl x.boot.loadX.eps
    rw[qBu.2.1];exact hp
  · show x.boot.loadX.n=x.n
    rw[qBu.1];rfl
 | some ls =>
  have j:=qIm (x:=x.boot) (by show x.n≤16;omega) hl
  have g:=qDT (x:=x.boot.loadX) f.boot.loadX (by rw[qBu.2.1];exact hp) (by rw[qBu.1];exact j.1) j.2
  have gf:=g.finish
  have c:(x.boot.loadX.fresh ls).finish.2.x.n=x.n:=by
   rw[qPV]
   show x.boot.loadX.n=x.n
   rw[qBu.1];rfl
  obtain⟨G,F⟩:=qOk (x.boot.loadX.fresh ls).finish
  have q:∀(r:Int×Wd×Option Bx),r=Bx.openR (x.boot.loadX.fresh ls).finish→(Bo.cur ⟨r.2.1,r.2.2,[]⟩).fine (m+106)∧0#32<qAl (Bo.cur ⟨r.2.1,r.2.2,[]⟩).eps∧(Bo.cur ⟨r.2.1,r.2.2,[]⟩).n=x.n∧∀B,r.2.2=some B→B.good (m+106):=by
   rintro r rfl
   rw[G]
   exact⟨gf.f.x.up (by omega),gf.ep,c,fun B l=>by rw[F B l];exact gf.up (by omega)⟩
  exact q _ rfl
theorem Wd.fine.sBack {x:Wd}{m:Nat}(f:x.fine m){bs:List UInt8}(hb:bs.length=gSize x.n):(x.sBack bs).fine (m+1):=by
 refine f.setS ?_
 exact⟨hb,fun y c=>(by cases c),fun y c=>f.ok.s.fitp y c,Nat.zero_le _,Nat.le_succ_of_le f.ok.s.done,qE9 f.ok.s.pw (by omega)⟩
theorem Wd.fine.sSmash {x:Wd}{m:Nat}(f:x.fine m){off:Int}{bs:List UInt8}(hb:isB (gSize x.n) off (bs.length:Int)=true):(x.sSmash (off,bs)).fine (m+1):=by
 refine f.setS ?_
 refine⟨?_,fun y c=>(by cases c),fun y c=>f.ok.s.fitp y c,Nat.zero_le _,Nat.le_succ_of_le f.ok.s.done,qE9 f.ok.s.pw (by omega)⟩
 show(qBV x.sd.snap (off,bs)).length=_
 have h:x.sd.snap.length=gSize x.n:=Sd.snap_length f.ok.s
 unfold isB at hb
 simp only[Bool.and_eq_true,decide_eq_true_eq]at hb
 unfold qBV
 simp only[List.length_append,List.length_take,List.length_drop,h]
 omega
theorem Bo.good.act {o:Bo}{m:Nat}(g:o.good m)(hm:m≤90000)(a:Ac)(hl:a.n≤9223372036854775807):(o.act a).2.good (m+110):=by
 unfold Bo.act
 split
 · unfold Bo.call
   cases hc:o.c with
   | none=>exact g.up (by omega)
   | some B =>
    have Z:=g.bx B hc
    have I:=Z.doC (by omega) a.call
    have J:o.cur=B.x:=by unfold Bo.cur;rw[hc]
    exact⟨I.f.x.up (by omega),I.ep,fun B2 F=>(by cases F;exact I.up (by omega)),fun s l=>by
     show s.length=gSize (B.doC a.call).2.x.n
     rw[qTb,←J]
     exact g.sn s l,Nat.le_trans g.few (by omega)⟩
 split
 · refine g.setX ((g.f.setP ?_).up (by omega)) (by omega) rfl rfl
   obtain⟨j,F,O⟩:=g.f.ok.s.pw
   refine⟨j,?_,fun Y=>?_⟩
   · show o.cur.p.steps≤_
     have:o.cur.p.steps≤(m:Int):=F
     omega
   · have N:decide (0≤a.n)=true:=Y
     exact⟨of_decide_eq_true N,hl⟩
 split
 · unfold Bo.crash Bo.open_
   obtain⟨j,F,O,V⟩:=Wd.opens_good (g.f.crash a.keep) (show 0#32<qAl (o.cur.crash a.keep).eps from g.ep) _ rfl
   exact⟨j.up (by omega),F,fun B G=>(V B G).up (by omega),fun s l=>by
    show s.length=gSize (Bo.cur ⟨(o.cur.crash a.keep).opens.2.1,(o.cur.crash a.keep).opens.2.2,[]⟩).n
    rw[O]
    exact g.sn s l,Nat.le_trans g.few (by omega)⟩
 split
 · unfold Bo.smash
   split
   · rename_i j
     exact g.setX ((g.f.sSmash j).up (by omega)) (by omega) rfl rfl
   · exact g.up (by omega)
 split
 · have l:o.cur.sd.snap.length=gSize o.cur.n:=Sd.snap_length g.f.ok.s
   exact⟨g.f.up (by omega),g.ep,fun B G=>(g.bx B G).up (by omega),fun s h=>by
    rcases List.mem_append.1 h with h|h
    · exact g.sn s h
    · rw[List.mem_singleton.1 h];exact l,by
    show(o.snaps++ [o.cur.sd.snap]).length≤_
    have:=g.few
    simp;omega⟩
 split
 · unfold Bo.back
   split
   · rename_i j
     refine g.setX ((g.f.sBack ?_).up (by omega)) (by omega) rfl rfl
     have q:a.n.toNat<o.snaps.length:=by omega
     rw[List.getElem?_eq_getElem q]
     exact g.sn _ (List.getElem_mem q)
   · exact g.up (by omega)
 split
 · exact g.setX ((g.f.dRefuse _).up (by omega)) (by omega) rfl rfl
 · exact g.up (by omega)
def Lk.numb:Lk→Prop
 | .real=>True
 | .ideal iss _=>∀(i:Nat) (x:Iss),iss[i]? = some x→x.tag=(18446744073709551615#64,BitVec.ofNat 64 (i+1))
theorem Lk.numb_seal {l:Lk}(h:l.numb)(key:qAD)(n:Nn)(head data:List UInt8):(l.sealL key n head data).numb:=by
 cases l with
 | real=>trivial
 | ideal iss sums =>
  intro i x q
  have c:(iss++ [qEN iss key n head data])[i]? = some x:=q
  by_cases j:i<iss.length
  · rw[List.getElem?_append_left j]at c
    exact h i x c
  · rw[List.getElem?_append_right (by omega)]at c
    have f:i - iss.length=0:=by
     have:=(List.getElem?_eq_some_iff.1 c).1
     simp at this
     omega
    rw[f]at c
    simp at c
    subst c
    rw[show i=iss.length by omega]
    rfl
theorem Lk.numb_sum {l:Lk}(h:l.numb)(row:List UInt8):(l.sumL row).numb:=by
 cases l with
 | real=>trivial
 | ideal iss sums=>exact h
theorem qIo {iss:List Iss}{key:qAD}{n:Nn}{head out:List UInt8}{tag:qAD}(h:∀x∈iss,x.tag≠tag):iss.find? (fun x=>x.opens key n head out tag)=none:=by
 rw[List.find?_eq_none]
 intro x f c
 unfold Iss.opens at c
 simp only[Bool.and_eq_true,beq_iff_eq]at c
 exact h x f c.2.2.1
theorem Lk.open_seal {l:Lk}(h:l.numb)(hf:l.few 1000000)(key:qAD)(n:Nn)(head data:List UInt8):(l.sealL key n head data).openP key n head (l.sealP key n head data).1 (l.sealP key n head data).2=some data:=by
 cases l with
 | real =>
  show(if qHY key n head (qH5 key n data) ((qEb key n head data).1,(qEb key n head data).2) then some (qH5 key n (qH5 key n data)) else none)=some data
  rw[qMb,if_pos rfl,qN4]
 | ideal iss sums =>
  show qEL (iss++ [qEN iss key n head data]) key n head (qE2 (iss.length+1) data.length) (18446744073709551615#64,BitVec.ofNat 64 (iss.length+1))=some data
  unfold qEL
  have hn:=qIo (iss:=iss) (key:=key) (n:=n) (head:=head) (out:=qE2 (iss.length+1) data.length) (tag:=(18446744073709551615#64,BitVec.ofNat 64 (iss.length+1))) (fun x f e=>by
   obtain⟨i,G,c⟩:=List.getElem_of_mem f
   have F:=h i x (by rw[List.getElem?_eq_getElem G,c])
   rw[F]at e
   have J:BitVec.ofNat 64 (i+1)=BitVec.ofNat 64 (iss.length+1):=(Prod.mk.inj e).2
   have q:=congrArg BitVec.toNat J
   have I:iss.length≤1000000:=hf.1
   rw[BitVec.toNat_ofNat,BitVec.toNat_ofNat,Nat.mod_eq_of_lt (by omega),Nat.mod_eq_of_lt (by omega)]at q
   omega)
  rw[List.find?_append,hn]
  have j:(qEN iss key n head data).opens key n head (qE2 (iss.length+1) data.length) (18446744073709551615#64,BitVec.ofNat 64 (iss.length+1))=true:=by
   unfold Iss.opens qEN
   simp
  simp[j]
  rfl
theorem qPW (b:List UInt8)(x:Wr)(h:inB b.length x):((qBV b x).drop x.1.toNat).take x.2.length=x.2:=by
 obtain⟨c,j,f⟩:=h
 unfold qBV
 rw[List.append_assoc,List.drop_append_of_le_length (by rw[List.length_take];omega)]
 rw[List.drop_of_length_le (by rw[List.length_take];omega),List.nil_append,List.take_left]
theorem qKK {l:List (BitVec 32)}(h:0<l.length):l.contains (qAl l)=true:=by
 have:=qIE l h
 rw[List.contains_iff_mem]
 exact List.mem_of_getElem? this
theorem qJl {b:Bx}{m:Nat}(f:b.fine m)(hm:m≤1000000)(hnb:b.x.l.numb)(s:Nat)(hs:s<b.c.now.length)(lba:Int)(data:List UInt8)(hd:data.length=32)(hsp:b.x.p.spend.1=true)(c:Bx)(hx:c.x=b.layX s lba data)(dirty:Bool)(hl:c.leaf s=b.layF s lba data dirty):c.valD s=some data:=by
 have hn:s<b.x.n:=by have:=f.nl;omega
 have G:=qIk b s lba data hn hd
 have h:b.x.sd.snap.length=gSize b.x.n:=Sd.snap_length f.x.ok.s
 have F:c.x.sd.snap=qBV b.x.sd.snap ((gData b.x.n s:Nat),(b.layS s lba data).1):=by
  rw[hx]
  show((b.layL s lba data).sd.wrote (b.layL s lba data).p.spend.1 _ _).snap=_
  rw[show(b.layL s lba data).p.spend.1=true from hsp]
  show qB5 b.x.s.lasts (b.x.s.waits++ [_])=_
  rw[qCr]
  rfl
 have j:c.dataAt s=(b.layS s lba data).1:=by
  unfold Bx.dataAt
  rw[F,show c.x.n=b.x.n by rw[hx];rfl]
  have:=qPW b.x.sd.snap ((gData b.x.n s:Nat),(b.layS s lba data).1) (by rw[h];exact G)
  rw[show(((gData b.x.n s:Nat),(b.layS s lba data).1):Wr).2.length=32 by show(b.layS s lba data).1.length=32;rw[qDe];exact hd]at this
  simpa using this
 unfold Bx.valD
 rw[hl,if_neg (show ¬(b.layF s lba data dirty).kind=2 by show ¬(1:Int)=2;decide),j]
 unfold Bx.openL
 have I:c.x.eps=b.x.eps:=by rw[hx];rfl
 rw[I,if_pos (show b.x.eps.contains (b.layF s lba data dirty).ep=true from qKK f.x.ok.ep)]
 have q:c.x.l=b.x.l.sealL b.x.logK (b.layN s) (qCI lba) data:=by rw[hx];rfl
 have J:qFd c.x.seed b.x.eps (b.layF s lba data dirty).ep=b.x.logK:=by rw[hx];rfl
 rw[q,J]
 exact Lk.open_seal hnb (Lk.few_mono f.x.few hm) b.x.logK (b.layN s) (qCI lba) data
def kW:Ac:=⟨1,⟨2,3,List.replicate 32 5⟩,0,0,[],[]⟩
def kR:Ac:=⟨1,⟨1,3,[]⟩,0,0,[],[]⟩
def kB (ideal:Bool):Bx:=(((Bo.newB 4 1#64 ideal).lay 0 3 (List.replicate 32 5)).puts 0 ((Bo.newB 4 1#64 ideal).layF 0 3 (List.replicate 32 5) true))
theorem qGD (ideal:Bool):((Bo.new 4 1#64 ideal).act kW)=((0,[]),⟨(kB ideal).x,some (kB ideal),[]⟩):=by
 have f:(Bo.newB 4 1#64 ideal).doC ⟨2,3,List.replicate 32 5⟩=((0,[]),kB ideal):=by
  have j:(Bo.newB 4 1#64 ideal).write 3 (List.replicate 32 5)=(0,kB ideal):=by
   unfold Bx.write
   have h:(Bo.newB 4 1#64 ideal).room=(0,Bo.newB 4 1#64 ideal):=by
    unfold Bx.room
    rw[if_pos (show(Bo.newB 4 1#64 ideal).c.free.isSome=true from rfl)]
   rw[h,if_neg (fun e=>e rfl)]
   unfold Bx.lays
   rw[if_neg (show ¬(Bo.newB 4 1#64 ideal).k=100 by show ¬(0:Nat)=100;decide),if_pos (show(Bo.newB 4 1#64 ideal).x.p.spend.1=true from rfl)]
   rfl
  unfold Bx.doC
  rw[if_neg (show ¬(Bo.newB 4 1#64 ideal).x.p.gone=true by show ¬false=true;decide),if_neg (show ¬(Bo.newB 4 1#64 ideal).c.bad=true by show ¬false=true;decide),if_neg (by decide),if_neg (by decide),if_pos rfl]
  rw[j]
 show(Bo.new 4 1#64 ideal).call ⟨2,3,List.replicate 32 5⟩=_
 unfold Bo.call
 show((Bx.doC _ _).1,(⟨(Bx.doC _ _).2.x,some (Bx.doC _ _).2,_⟩:Bo))=_
 rw[f]
 rfl
theorem qMz (ideal:Bool):((⟨(kB ideal).x,some (kB ideal),[]⟩:Bo).act kR).1=(0,List.replicate 32 5):=by
 have g:=(Bo.new_good 4 1#64 ideal (by decide)).bx (Bo.newB 4 1#64 ideal) rfl
 have h:kB ideal=((Bo.newB 4 1#64 ideal).lay 0 3 (List.replicate 32 5)).put1 0 ((Bo.newB 4 1#64 ideal).layF 0 3 (List.replicate 32 5) true):=by
  unfold kB Bx.puts
  rw[show((Bo.newB 4 1#64 ideal).lay 0 3 (List.replicate 32 5)).c.slot ((Bo.newB 4 1#64 ideal).layF 0 3 (List.replicate 32 5) true).lba=none from rfl]
 have hnb:(Bo.newB 4 1#64 ideal).x.l.numb:=by
  cases ideal
  · trivial
  · intro i x q
    cases q
 have j:(kB ideal).valD 0=some (List.replicate 32 5):=
  qJl g.f (by decide) hnb 0 (by show 0<4;decide) 3 (List.replicate 32 5) (by decide) rfl (kB ideal) (by rw[h];rfl) true (by rw[h];rfl)
 have F:(kB ideal).read 3=((0,List.replicate 32 5),(kB ideal).touch 0):=by
  unfold Bx.read
  rw[show(kB ideal).c.slot 3=some 0 by rw[h];rfl]
  show(kB ideal).readV 0 ((kB ideal).valD 0)=_
  rw[j]
  rfl
 have G:((kB ideal).doC ⟨1,3,[]⟩).1=(0,List.replicate 32 5):=by
  unfold Bx.doC
  rw[if_neg (show ¬(kB ideal).x.p.gone=true by rw[h];show ¬false=true;decide),if_neg (show ¬(kB ideal).c.bad=true by rw[h];show ¬false=true;decide),if_neg (by decide),if_pos rfl]
  rw[F]
 exact G
def Pw.ez (p:Pw):Prop:=p.gone=false∧p.fuse=false
theorem Pw.ez.spend {p:Pw}(h:p.ez):p.spend.1=true∧p.spend.2.ez:=by
 obtain⟨c,f⟩:=h
 unfold Pw.spend
 rw[if_neg (by rw[c];decide),if_neg (by rw[f];simp)]
 exact⟨rfl,c,f⟩
def Lk.le (l l':Lk):Prop:=∀key n head out tag d,l.openP key n head out tag=some d→l'.openP key n head out tag=some d
theorem Lk.le.refl (l:Lk):l.le l:=fun _ _ _ _ _ _ h=>h
theorem Lk.le.trans {l l' l'':Lk}(h:l.le l')(k:l'.le l''):l.le l'':=fun _ _ _ _ _ _ c=>k _ _ _ _ _ _ (h _ _ _ _ _ _ c)
theorem Lk.le_seal (l:Lk)(key:qAD)(n:Nn)(head data:List UInt8):l.le (l.sealL key n head data):=by
 cases l with
 | real=>exact Lk.le.refl _
 | ideal iss sums =>
  intro q F G f j d h
  have c:qEL iss q F G f j=some d:=h
  show qEL (iss++ [qEN iss key n head data]) q F G f j=some d
  unfold qEL at c ⊢
  rw[List.find?_append]
  cases hf:iss.find? (fun x=>x.opens q F G f j) with
  | none=>rw[hf]at c;cases c
  | some y=>rw[hf]at c;exact c
theorem Lk.le_sum (l:Lk)(row:List UInt8):l.le (l.sumL row):=by
 cases l with
 | real=>exact Lk.le.refl _
 | ideal iss sums=>exact fun _ _ _ _ _ _ h=>h
theorem qHv (l:Lk)(rows:List (List UInt8)):∀i,l.le (qAB l rows i).2
 | 0=>Lk.le.refl _
 | i+1=>(qHv l rows i).trans (Lk.le_sum _ _)
theorem qDU (l:Lk)(rows:List (List UInt8)):∀i,l.le (qAz l rows i).2
 | 0=>qHv l rows _
 | i+1=>(qDU l rows i).trans (Lk.le_sum _ _)
theorem qFF {l:Lk}(h:l.numb)(rows:List (List UInt8)):∀i,(qAB l rows i).2.numb
 | 0=>h
 | i+1=>Lk.numb_sum (qFF h rows i) _
theorem qCH {l:Lk}(h:l.numb)(rows:List (List UInt8)):∀i,(qAz l rows i).2.numb
 | 0=>qFF h rows _
 | i+1=>Lk.numb_sum (qCH h rows i) _
def Wd.dat (x:Wd)(s:Nat):List UInt8:=(x.sd.snap.drop (gData x.n s)).take 32
theorem qPX {b:List UInt8}{x:Wr}(h:inB b.length x){o:Nat}(hf:o+32≤x.1.toNat∨x.1.toNat+x.2.length≤o):((qBV b x).drop o).take 32=(b.drop o).take 32:=by
 obtain⟨c,j,l⟩:=h
 apply List.ext_getElem?
 intro i
 simp only[List.getElem?_take,List.getElem?_drop]
 split
 · rename_i f
   unfold qBV
   rcases hf with hf|hf
   · rw[List.append_assoc,List.getElem?_append_left (by rw[List.length_take];omega),List.getElem?_take,if_pos (by omega)]
   · rw[List.getElem?_append_right (by simp;omega),List.getElem?_drop]
     congr 1
     simp
     omega
 · rfl
structure Wd.calm (x x':Wd):Prop where
 n:x'.n=x.n
 seed:x'.seed=x.seed
 eps:x'.eps=x.eps
 d:x'.d=x.d
 le:x.l.le x'.l
 nb:x.l.numb→x'.l.numb
 ez:x.p.ez→x'.p.ez
 dat:∀m,x.fine m→∀s,s<x.n→x'.dat s=x.dat s
theorem Wd.calm.refl (x:Wd):x.calm x:=⟨rfl,rfl,rfl,rfl,Lk.le.refl _,id,id,fun _ _ _ _=>rfl⟩
theorem Wd.calm.trans {x y z:Wd}(h:x.calm y)(k:y.calm z)(hy:∀m,x.fine m→∃c,y.fine c):x.calm z:=
 ⟨k.n.trans h.n,k.seed.trans h.seed,k.eps.trans h.eps,k.d.trans h.d,h.le.trans k.le,fun q=>k.nb (h.nb q),fun q=>k.ez (h.ez q),fun m f s j=>by
  obtain⟨c,l⟩:=hy m f
  rw[k.dat c l s (by rw[h.n];exact j),h.dat m f s j]⟩
theorem qOm (x:Wd)(key:qAD)(n:Nn)(head data:List UInt8):x.calm (x.setL (x.l.sealL key n head data)):=
 ⟨rfl,rfl,rfl,rfl,Lk.le_seal _ _ _ _ _,fun h=>Lk.numb_seal h _ _ _ _,id,fun _ _ _ _=>rfl⟩
theorem qMA (x:Wd)(rows:List (List UInt8)):x.calm (x.setL (qAX x.l rows).2):=
 ⟨rfl,rfl,rfl,rfl,qDU _ _ _,fun h=>qCH h _ _,id,fun _ _ _ _=>rfl⟩
theorem qJm {x:Wd}{y:Wr}{m:Nat}(f:x.fine m)(hy:inB (gSize x.n) y){s:Nat}(hf:gData x.n s+32≤y.1.toNat∨y.1.toNat+y.2.length≤gData x.n s):(x.sWrite y).dat s=x.dat s:=by
 have c:x.sd.snap.length=gSize x.n:=Sd.snap_length f.ok.s
 unfold Wd.dat
 show(((x.sd.wrote x.p.spend.1 x.p.spend.2 y).snap).drop _).take 32=_
 cases hsp:x.p.spend.1 with
 | false=>rfl
 | true =>
  show((qB5 x.s.lasts (x.s.waits++ [y])).drop _).take 32=_
  rw[qCr]
  exact qPX (by show inB x.sd.snap.length y;rw[c];exact hy) hf
theorem qFq {x:Wd}{y:Wr}(hy:inB (gSize x.n) y)(hf:x.n*32≤y.1.toNat):x.calm (x.sWrite y):=
 ⟨rfl,rfl,rfl,rfl,Lk.le.refl _,id,fun h=>by
  have:=h.spend.2
  show(x.sd.wrote x.p.spend.1 x.p.spend.2 y).p.ez
  unfold Sd.wrote
  split<;>exact this,fun m f s c=>qJm f hy (.inl (by unfold gData;omega))⟩
theorem qFG (x:Wd):x.calm x.sBarrier:=
 ⟨rfl,rfl,rfl,rfl,Lk.le.refl _,id,fun h=>by
  have:=h.spend.2
  show(x.sd.barred x.p.spend.1 x.p.spend.2).p.ez
  unfold Sd.barred
  split<;>exact this,fun m f s c=>by
  unfold Wd.dat
  show(((x.sd.barred x.p.spend.1 x.p.spend.2).snap).drop _).take 32=_
  unfold Sd.barred
  split<;>rfl⟩
theorem qOn (x:Wd):x.calm x.bump:=
 ⟨rfl,rfl,rfl,rfl,Lk.le.refl _,id,fun h=>h.spend.2,fun _ _ _ _=>rfl⟩
section
variable {x:Wd} {ls:List Lf} {boot:BitVec 64} {k:Nat}
theorem qOo (a:Nat)(ha:a<2)(hl:ls.length=x.n)(h0:0<x.n):x.calm (x.areaW a ls):=by
 have c:x.calm (x.areaW1 a ls):=(qMA x (qAe ls)).trans (qFq (x:=x.setL (x.areaB ls).2) (qEQ ha hl h0) (by show x.n*32≤(((gLeaf x.n a 0:Nat):Int)).toNat;unfold gLeaf;rw[Int.toNat_natCast];omega)) (fun m f=>⟨_,f.build _⟩)
 unfold Wd.areaW
 split
 · refine c.trans (qFq (x:=x.areaW1 a ls) (qER ha hl h0) ?_) (fun m f=>⟨_,f.areaW1 ha hl h0⟩)
   show x.n*32≤(((gNode x.n a 0:Nat):Int)).toNat
   unfold gNode;rw[Int.toNat_natCast];omega
 · exact c
theorem qSs (hl:ls.length=x.n)(h0:0<x.n):x.calm (x.commit1 ls):=qOo _ (qC1 _) hl h0
theorem qRn (hl:ls.length=x.n)(h0:0<x.n):x.calm (x.commit2 ls):=(qSs hl h0).trans (qFG _) (fun _ f=>⟨_,f.commit1 hl⟩)
theorem qPY (r:Rt)(h0:0<x.n):x.calm (x.logX boot k r):=by
 unfold Wd.logX
 split
 · refine(qOm x x.logK (x.logN boot k) [] (qCU r)).trans (qFq (x:=x.logL boot k r) (qI9 x boot k r h0) ?_) (fun m f=>⟨_,f.seal _ _ _ _ (by rw[qB6];decide)⟩)
   show x.n*32≤(((gRec x.n (qCY r.count):Nat):Int)).toNat
   unfold gRec;rw[Int.toNat_natCast];omega
 · exact Wd.calm.refl x
theorem qSt (hl:ls.length=x.n)(h0:0<x.n):x.calm (x.commit3 boot k ls):=(qRn hl h0).trans (qPY _ (by rw[qAG.1];exact h0)) (fun m f=>⟨_,f.commit2 hl⟩)
theorem qSu (hl:ls.length=x.n)(h0:0<x.n):x.calm (x.commit4 boot k ls):=(qSt hl h0).trans (qFG _) (fun _ f=>⟨_,f.commit3 hl⟩)
theorem qKL (hl:ls.length=x.n)(h0:0<x.n):x.calm (x.commit5 boot k ls):=(qSu hl h0).trans (qOn _) (fun _ f=>⟨_,f.commit4 hl⟩)
theorem qGE (hl:ls.length=x.n)(h0:0<x.n):x.calm (x.commit boot k ls).2.1:=by
 unfold Wd.commit
 split
 · exact qSs hl h0
 split
 · exact qRn hl h0
 split
 · exact qSt hl h0
 split
 · exact qSu hl h0
 split
 · exact qKL hl h0
 · exact qKL hl h0
end
structure Hon (b:Bx)(B:Nat→List UInt8):Prop where
 ez:b.x.p.ez
 no:b.x.d.no=false
 bad:b.c.bad=false
 nb:b.x.l.numb
 val:∀s,(b.leaf s).kind≠0→b.valD s=some (B (b.leaf s).lba.toNat)
 uniq:∀s t,(b.leaf s).kind≠0→(b.leaf t).kind≠0→(b.leaf s).lba=(b.leaf t).lba→s=t
 dsk:∀i:Nat,i<32→(∀s,(b.leaf s).kind≠0→(b.leaf s).lba=(i:Int)→(b.leaf s).dirty=false)→b.x.dk.read i=B i
theorem qOp {b b':Bx}{s:Nat}(_:b'.x.n=b.x.n)(hse:b'.x.seed=b.x.seed)(he:b'.x.eps=b.x.eps)(hle:b.x.l.le b'.x.l)(hd:b'.x.dat s=b.x.dat s)(hl:b'.leaf s=b.leaf s){v:List UInt8}(h:b.valD s=some v):b'.valD s=some v:=by
 unfold Bx.valD at h ⊢
 rw[hl]
 split
 · rename_i f
   rw[if_pos f]at h
   exact h
 · rename_i f
   rw[if_neg f]at h
   unfold Bx.openL at h ⊢
   rw[he]
   split
   · rename_i c
     rw[if_pos c]at h
     have j:b'.dataAt s=b.dataAt s:=hd
     rw[j,hse]
     exact hle _ _ _ _ _ _ h
   · rename_i c
     rw[if_neg c]at h
     cases h
section
variable {b b':Bx} {B:Nat→List UInt8} {m:Nat}
theorem qOq {x x':Wd}(h:x'.d=x.d)(i:Nat):x'.dk.read i=x.dk.read i:=by
 unfold Wd.dk Dk.read
 rw[h]
theorem qFr (s t:Nat):(b.drops s).leaf t=if t=s∧s<b.c.now.length then Lf.zero else b.leaf t:=qEW b s t Lf.zero
theorem qJn (s t:Nat)(l:Lf):(b.put1 s l).leaf t=if t=s∧s<b.c.now.length then l else b.leaf t:=qEW b s t l
theorem Hon.drops (H:Hon b B)(s:Nat)(hr:(b.leaf s).kind≠0→b.x.dk.read (b.leaf s).lba.toNat=B (b.leaf s).lba.toNat):Hon (b.drops s) B:=by
 have F:∀t,((b.drops s).leaf t).kind≠0→(b.drops s).leaf t=b.leaf t:=fun t f=>by
  rw[qFr]at f ⊢
  split
  · rename_i h;rw[if_pos h]at f;exact absurd rfl f
  · rfl
 refine⟨H.ez,H.no,H.bad,H.nb,fun t f=>?_,fun t u j l I=>?_,fun i J h=>?_⟩
 · have e:=F t f
   rw[e]at f ⊢
   exact qOp (b:=b) (b':=b.drops s) rfl rfl rfl (Lk.le.refl _) rfl e (H.val t f)
 · have N:=F t j
   have O:=F u l
   rw[N]at j I
   rw[O]at l I
   exact H.uniq t u j l I
 · by_cases q:(b.leaf s).kind≠0∧(b.leaf s).lba=(i:Int)
   · have:=hr q.1
     rw[q.2]at this
     exact this
   · refine H.dsk i J (fun t j l=>?_)
     have G:¬(t=s∧s<b.c.now.length):=fun e=>q (by rw[←e.1];exact⟨j,l⟩)
     have e:(b.drops s).leaf t=b.leaf t:=by rw[qFr,if_neg G]
     have:=h t (by rw[e];exact j) (by rw[e];exact l)
     rw[e]at this
     exact this
theorem qMB (c:List UInt8)(l:List Wr)(x:Wr)(o:Int):qC8 c (l++ [x]) o (l++ [x]).length=if x.1=o then x.2 else qC8 c l o l.length:=by
 have f:∀k,k≤l.length→qC8 c (l++ [x]) o k=qC8 c l o k:=by
  intro k
  induction k with
  | zero=>intro _;rfl
  | succ k ih =>
   intro h
   unfold qC8
   rw[List.getElem?_append_left (by omega),ih (by omega)]
 rw[List.length_append]
 show qC8 c (l++ [x]) o (l.length+1)=_
 conv=>lhs;unfold qC8
 rw[List.getElem?_append_right qle,f _ qle]
 simp
theorem qHw (x:Wd)(y:Wr)(hs:x.p.spend.1=true)(i:Nat):(x.dWrite y).dk.read i=if y.1=(i:Int) then y.2 else x.dk.read i:=by
 have e:(x.dWrite y).dk=x.dk.wrote true x.p.spend.2 y:=by
  unfold Wd.dWrite
  rw[hs]
  rfl
 rw[e]
 exact qMB _ _ _ _
theorem qJo (c:List (List UInt8))(l:List Wr)(o:Nat)(ho:o<c.length)(hl:∀x∈l,inD x):∀k,k≤l.length→(qF3 c l (fun _=>true) k)[o]?.getD []=qC8 (c[o]?.getD []) l (o:Int) k
 | 0,_=>rfl
 | k+1,hk=>by
  have ih:=qJo c l o ho hl k (by omega)
  unfold qF3 qC8
  rw[if_pos rfl]
  have j:l[k]? = some l[k]:=List.getElem?_eq_getElem (by omega)
  have f:=hl l[k] (List.getElem_mem (by omega))
  rw[j]
  simp only[Option.getD_some]
  rw[List.getElem?_set]
  by_cases h:l[k].1.toNat=o
  · have q:l[k].1=(o:Int):=by have:=f.1;omega
    have F:o<(qF3 c l (fun _=>true) k).length:=by rw[qD8];exact ho
    rw[if_pos h,if_pos q,h,if_pos F]
    rfl
  · rw[if_neg h,if_neg (by intro e;rw[e]at h;simp at h)]
    exact ih
theorem qDI {x:Wd}{m:Nat}(f:x.fine m)(i:Nat)(hi:i<32):x.dBarrier.dk.read i=x.dk.read i:=by
 have e:x.dBarrier.dk=x.dk.barred x.p.spend.1 x.p.spend.2:=by unfold Wd.dBarrier;rfl
 rw[e]
 unfold Dk.barred
 split
 · show qC8 ((qF3 x.d.lasts x.d.waits (fun _=>true) x.d.waits.length)[i]?.getD []) [] i 0=_
   have:=qJo x.d.lasts x.d.waits i (by have:=f.ok.d.len;show i<x.d.lasts.length;rw[show x.d.lasts.length=32 from this];exact hi) f.ok.d.fit x.d.waits.length qle
   exact this
 · rfl
end
def upd (B:Nat→List UInt8)(i:Nat)(d:List UInt8):Nat→List UInt8:=fun j=>if j=i then d else B j
theorem qFZ (B:Nat→List UInt8)(i:Nat)(d:List UInt8):upd B i d i=d:=if_pos rfl
theorem qLu {B:Nat→List UInt8}{i j:Nat}{d:List UInt8}(h:j≠i):upd B i d j=B j:=if_neg h
section
variable {b b':Bx} {B:Nat→List UInt8} {m:Nat}
theorem qJp {lba:Int}(h:b.c.slot lba=none)(t:Nat)(hk:(b.leaf t).kind≠0):(b.leaf t).lba≠lba:=fun e=>by
 unfold Ca.slot at h
 have j:=List.find?_range_eq_none.1 h t (qDf hk)
 have f:(b.leaf t).kind≠0∧(b.leaf t).lba=lba:=⟨hk,e⟩
 unfold Bx.leaf at f
 simp[f.1,f.2]at j
theorem qJq {s:Nat}(h:b.c.free=some s):(b.leaf s).kind=0:=by
 unfold Ca.free at h
 have f:=(List.find?_range_eq_some.1 h).1
 unfold Ca.isFree at f
 simp only[Bool.and_eq_true,beq_iff_eq]at f
 exact f.1
theorem qOr (c:Bx)(hc:c.c.now=b.c.now)(s:Nat)(hs:s<b.c.now.length)(hfr:(b.leaf s).kind=0)(l:Lf)(_:l.kind≠0)(hu:∀s t,(b.leaf s).kind≠0→(b.leaf t).kind≠0→(b.leaf s).lba=(b.leaf t).lba→s=t)(t:Nat) :
 (c.puts s l).leaf t=if t=s then l else if(b.leaf t).kind≠0∧(b.leaf t).lba=l.lba then Lf.zero else b.leaf t:=by
 have q:∀t,c.leaf t=b.leaf t:=qDg hc
 have I:c.c.slot l.lba=b.c.slot l.lba:=by unfold Ca.slot;rw[hc]
 have j:s<c.c.now.length:=by rw[hc];exact hs
 unfold Bx.puts
 rw[I]
 cases ho:b.c.slot l.lba with
 | none =>
  show(c.put1 s l).leaf t=_
  rw[qJn,q]
  by_cases h:t=s
  · rw[if_pos ⟨h,j⟩,if_pos h]
  · rw[if_neg (fun e=>h e.1),if_neg h,if_neg (fun e=>qJp ho t e.1 e.2)]
 | some o =>
  show((c.put1 s l).drops o).leaf t=_
  obtain⟨ok,J⟩:=qEX ho
  have G:o≠s:=fun e=>by rw[e]at ok;exact ok hfr
  have F:o<c.c.now.length:=by rw[hc];exact qIi ho
  rw[qFr,qJn,q,qGs]
  by_cases f:t=o
  · rw[if_pos ⟨f,F⟩,if_neg (by rw[f];exact G),if_pos (by rw[f];exact⟨ok,J⟩)]
  · rw[if_neg (fun e=>f e.1)]
    by_cases h:t=s
    · rw[if_pos ⟨h,j⟩,if_pos h]
    · rw[if_neg (fun e=>h e.1),if_neg h,if_neg (fun e=>f (hu t o e.1 ok (by rw[e.2,J])))]
theorem Hon.puts (H:Hon b B)(g:b.good m)(c:Bx)(hc:c.c.now=b.c.now)(hbad:c.c.bad=b.c.bad)(s:Nat)(hs:s<b.c.now.length)(hfr:(b.leaf s).kind=0)(l:Lf)(hk:l.kind≠0)(hlb:0≤l.lba∧l.lba<32)(d:List UInt8)
 (hn:c.x.n=b.x.n) (hse:c.x.seed=b.x.seed) (he:c.x.eps=b.x.eps) (hle:b.x.l.le c.x.l) (hnb:c.x.l.numb) (hz:c.x.p.ez) (hdd:c.x.d=b.x.d)
 (hdat:∀t,t<b.c.now.length→t≠s→c.x.dat t=b.x.dat t) (hval:∀c':Bx,c'.x=c.x→c'.leaf s=l→c'.valD s=some d)
 (hdk:l.dirty=true∨b.x.dk.read l.lba.toNat=d):Hon (c.puts s l) (upd B l.lba.toNat d):=by
 have hL:=qOr (b:=b) c hc s hs hfr l hk H.uniq
 have I:(c.puts s l).x=c.x:=qOl c s l
 have hb:(c.puts s l).c.bad=false:=by
  rw[←H.bad,←hbad]
  unfold Bx.puts
  split<;>rfl
 have old:∀t,t≠s→((c.puts s l).leaf t).kind≠0→(c.puts s l).leaf t=b.leaf t∧(b.leaf t).kind≠0∧(b.leaf t).lba≠l.lba:=fun t Z h=>by
  rw[hL,if_neg Z]at h ⊢
  split
  · rename_i q;rw[if_pos q]at h;exact absurd rfl h
  · rename_i q
    rw[if_neg q]at h
    exact⟨rfl,h,fun e=>q ⟨h,e⟩⟩
 have new:(c.puts s l).leaf s=l:=by rw[hL,if_pos rfl]
 refine⟨by rw[I];exact hz,by rw[I,hdd];exact H.no,hb,by rw[I];exact hnb,fun t Z=>?_,fun t u F q J=>?_,fun i hi h=>?_⟩
 · by_cases j:t=s
   · subst j
     rw[new,qFZ]
     exact hval _ I new
   · obtain⟨F,q,J⟩:=old t j Z
     have O:=qDf q
     have hv:=H.val t q
     have h0:=qDd g.f O q
     rw[F,qLu (by omega)]
     exact qOp (b:=b) (b':=c.puts s l) (by rw[I];exact hn) (by rw[I];exact hse) (by rw[I];exact he) (by rw[I];exact hle) (by rw[I];exact hdat t O j) F hv
 · by_cases j:t=s
   · by_cases G:u=s
     · rw[j,G]
     · obtain⟨V,k2,k3⟩:=old u G q
       rw[j,new,V]at J
       exact absurd J.symm k3
   · obtain⟨V,k2,k3⟩:=old t j F
     by_cases G:u=s
     · rw[G,new,V]at J
       exact absurd J k3
     · obtain⟨j1,j2,j3⟩:=old u G q
       rw[V,j1]at J
       exact H.uniq t u k2 j2 J
 · rw[I,qOq hdd]
   by_cases N:(i:Int)=l.lba
   · have Y:i=l.lba.toNat:=by omega
     rw[Y,qFZ]
     rcases hdk with F|F
     · have:=h s (by rw[new];exact hk) (by rw[new];exact N.symm)
       rw[new,F]at this
       cases this
     · exact F
   · rw[qLu (by omega)]
     refine H.dsk i hi (fun t F q=>?_)
     have j:t≠s:=fun e=>by rw[e]at F;exact F hfr
     have e:(c.puts s l).leaf t=b.leaf t:=by rw[hL,if_neg j,if_neg (fun e=>N (by rw[←q];exact e.2))]
     have:=h t (by rw[e];exact F) (by rw[e];exact q)
     rw[e]at this
     exact this
theorem Hon.as (H:Hon b B){c:Bx}(hx:c.x=b.x)(hn:c.c.now=b.c.now)(hb:c.c.bad=b.c.bad):Hon c B:=by
 have hl:=qDg hn
 have f:∀s,c.valD s=b.valD s:=fun s=>by unfold Bx.valD Bx.openL Bx.dataAt;rw[hx,hl]
 exact⟨by rw[hx];exact H.ez,by rw[hx];exact H.no,by rw[hb];exact H.bad,by rw[hx];exact H.nb,fun s=>by rw[f,hl];exact H.val s,fun s t=>by rw[hl,hl];exact H.uniq s t,fun i l h=>by
  rw[hx]
  exact H.dsk i l (fun s j q=>by
   have:=h s (by rw[hl];exact j) (by rw[hl];exact q)
   rw[hl]at this
   exact this)⟩
theorem qPZ {i:Nat}:upd B i (B i)=B:=by
 funext j
 unfold upd
 split
 · rename_i h;rw[h]
 · rfl
end
section
variable {b b':Bx} {B:Nat→List UInt8} {m:Nat}
def qRo (b:Bx)(B:Nat→List UInt8)(s:Nat):Prop:=∀t,t<s→(b.leaf t).kind≠0→(b.leaf t).dirty=true→b.x.dk.read (b.leaf t).lba.toNat=B (b.leaf t).lba.toNat
theorem qDV (b:Bx)(t:Nat):(b.clear.leaf t).kind=0:=by
 show((List.replicate b.c.now.length Lf.zero)[t]?.getD Lf.zero).kind=0
 rw[List.getElem?_replicate]
 split<;>rfl
theorem Hon.bare {c:Bx}(hz:c.x.p.ez)(hno:c.x.d.no=false)(hb:c.c.bad=false)(hnb:c.x.l.numb)(hk:∀t,(c.leaf t).kind=0)(hr:∀i:Nat,i<32→c.x.dk.read i=B i):Hon c B:=
 ⟨hz,hno,hb,hnb,fun s h=>absurd (hk s) h,fun s _ h=>absurd (hk s) h,fun i f _=>hr i f⟩
theorem Hon.spilt_all (H:Hon b B)(hs:qRo b B b.c.now.length):∀i:Nat,i<32→b.x.dk.read i=B i:=fun i l=>by
 by_cases h:∃s,(b.leaf s).kind≠0∧(b.leaf s).lba=(i:Int)∧(b.leaf s).dirty=true
 · obtain⟨s,f,j,q⟩:=h
   have:=hs s (qDf f) f q
   rw[j]at this
   simpa using this
 · refine H.dsk i l (fun s f j=>?_)
   cases hd:(b.leaf s).dirty with
   | false=>rfl
   | true=>exact absurd ⟨s,f,j,hd⟩ h
def mdo (B:Nat→List UInt8)(c:Cl):(Int×List UInt8)×(Nat→List UInt8):=
 if c.is=false then((1,[]),B)
 else if c.kind=1 then((0,B c.lba.toNat),B)
 else if c.kind=2 then((0,[]),upd B c.lba.toNat c.data)
 else if c.kind=4 then((0,[]),upd B c.lba.toNat (List.replicate 32 0))
 else((0,[]),B)
theorem Hon.new (n:Nat)(_:qD9 (n:Int)=true)(ideal:Bool):Hon (Bo.newB n 1#64 ideal) (fun _=>List.replicate 32 0):=by
 have h:∀t,((Bo.newB n 1#64 ideal).leaf t).kind=0:=fun t=>by
  show((List.replicate n Lf.zero)[t]?.getD Lf.zero).kind=0
  rw[List.getElem?_replicate]
  split<;>rfl
 refine Hon.bare ⟨rfl,rfl⟩ rfl rfl ?_ h (fun i f=>?_)
 · cases ideal
   · trivial
   · intro i x c;cases c
 · show qC8 ((List.replicate 32 (List.replicate 32 (0:UInt8)))[i]?.getD []) [] i 0=_
   rw[List.getElem?_replicate,if_pos f]
   rfl
end
theorem qGF (w:World)(b o:Nat)(d:List UInt8){v:Value}(hc:w.cell? ⟨b,o,none⟩=some v)(hf:w.frozen? ⟨b,o,none⟩=false):(storeCells ⟨b,o,none⟩ [Str d]).run prog w= .ok () (w.setCell ⟨b,o,none⟩ (Str d)):=
 run_storeCells_cells b o [Str d] 0 w (fun j c=>by simp at c;subst c;simp[hc]) (fun j c=>by simp at c;subst c;simp[hf]) (fun v f=>by simp at f;subst f;rfl)
def qAV (B:Nat→List UInt8):List Value:=(List.range 32).map fun i=>Str (B i)
def qAC (B L:Nat→List UInt8):Array Value:=(qAV B++qAV L).toArray
theorem qAm (B:Nat→List UInt8):(qAV B).length=32:=by simp[qAV]
theorem qCb (B:Nat→List UInt8)(i:Nat)(hi:i<32):(qAV B)[i]? = some (Str (B i)):=by simp[qAV,hi]
theorem qC7 {B L:Nat→List UInt8}{i:Nat}(hi:i<32):(qAC B L)[i]? = some (Str (B i)):=by
 unfold qAC
 rw[List.getElem?_toArray,List.getElem?_append_left (by rw[qAm];exact hi),qCb B i hi]
theorem qQ0 {B L:Nat→List UInt8}{i:Nat}(h0:32≤i)(hi:i<64):(qAC B L)[i]? = some (Str (L (i - 32))):=by
 unfold qAC
 rw[List.getElem?_toArray,List.getElem?_append_right (by rw[qAm];exact h0),qAm,qCb L (i - 32) (by omega)]
theorem qOs (B:Nat→List UInt8)(i:Nat)(d:List UInt8)(hi:i<32):(qAV B).set i (Str d)=qAV (upd B i d):=by
 apply List.ext_getElem?
 intro j
 rw[List.getElem?_set,qAm]
 by_cases c:i=j
 · subst c
   rw[if_pos rfl,if_pos hi,qCb _ _ hi,qFZ]
 · rw[if_neg c]
   by_cases h:j<32
   · rw[qCb _ _ h,qCb _ _ h,qLu (fun e=>c e.symm)]
   · rw[List.getElem?_eq_none (by rw[qAm];omega),List.getElem?_eq_none (by rw[qAm];omega)]
theorem qFs (B L:Nat→List UInt8)(i:Nat)(d:List UInt8)(hi:i<32):(qAC B L).setIfInBounds i (Str d)=qAC (upd B i d) L:=by
 unfold qAC
 rw[List.setIfInBounds_toArray,List.set_append_left _ _ (by rw[qAm];exact hi),qOs B i d hi]
theorem qDW {w:World}{X:Nat}{cs:Array Value}{t:TypeId}(h:Blk w X cs t)(cs':Array Value):Blk (w.setRow X cs') X cs' t∧Chg [X] w (w.setRow X cs'):=
 ⟨setRow_heap w X cs cs' t _ h,rfl,rfl,rfl,by unfold World.setRow;simp,fun k _ c=>by
  rw[List.mem_singleton]at c
  unfold World.setRow
  show(w.heap.modify X _)[k]? = w.heap[k]?
  rw[Array.getElem?_modify,if_neg (fun e=>c e.symm)]⟩
theorem qFt (B:Nat→List UInt8):(qAV B).toArray.size=32:=by simp[qAV]
theorem qSv {w:World}{X:Nat}{B L:Nat→List UInt8}(h:Blk w X (qAC B L) 72):(loadCells ⟨X,0,none⟩ 32).run prog w= .ok (qAV B).toArray w:=by
 have:=run_loadCells_list (P:=prog) w ⟨X,0,none⟩ (qAV B) (fun j v f=>by
  have l:j<32:=by
   have:=(List.getElem?_eq_some_iff.1 f).1
   rw[qAm]at this
   exact this
  rw[qCb B j l]at f
  have c:(⟨X,0,none⟩:Addr).add j=⟨X,0+j,none⟩:=by unfold Addr.add;split<;>simp_all
  rw[c,Nat.zero_add,←f]
  exact(h.cell j).trans (qC7 l))
 rw[qAm]at this
 exact this
theorem qRp {w:World}{X:Nat}{B L:Nat→List UInt8}(h:Blk w X (qAC B L) 72):(storeCells ⟨X,32,none⟩ (qAV B).toArray.toList).run prog w= .ok () (w.setRow X (qAC B B)):=by
 have:=run_storeCells_at (P:=prog) X 32 72 (qAV B) 0 (qAC B L) w h (by unfold qAC;simp[qAm]) (fun v c=>by
  unfold qAV at c
  obtain⟨i,_,rfl⟩:=List.mem_map.1 c
  rfl)
 rw[List.toList_toArray,this]
 have e:((qAC B L).toList.take (32+0)++qAV B++(qAC B L).toList.drop (32+0+(qAV B).length)).toArray=qAC B B:=by
  unfold qAC
  show((qAV B++qAV L).take (32+0)++qAV B++(qAV B++qAV L).drop (32+0+(qAV B).length)).toArray=_
  rw[List.take_left' (by rw[qAm]),List.drop_of_length_le (by simp[qAm]),List.append_nil]
 rw[e]
theorem qQp {w:World}{X:Nat}{B L:Nat→List UInt8}(h:Blk w X (qAC B L) 72):∃(A:Array Value) (w':World),A.size=32∧(loadCells ⟨X,0,none⟩ 32).run prog w= .ok A w∧(storeCells ⟨X,32,none⟩ A.toList).run prog w= .ok () w'∧Blk w' X (qAC B B) 72∧Chg [X] w w':=
 ⟨_,_,qFt B,qSv h,qRp h,(qDW h _).1,(qDW h _).2⟩
theorem qMC {B B' L L':Nat→List UInt8}(h:∀i,i<32→B i=B' i)(k:∀i,i<32→L i=L' i):qAC B L=qAC B' L':=by
 have c:∀ {B B':Nat→List UInt8},(∀i,i<32→B i=B' i)→qAV B=qAV B':=fun {B B'} h=>by
  unfold qAV
  apply List.map_congr_left
  intro i f
  rw[h i (List.mem_range.1 f)]
 unfold qAC
 rw[c h,c k]
section
attribute [-go_sem] storeCells loadCells
end
def Lk.sle:Lk→Lk→Prop
 | .real,.real=>True
 | .ideal _ s,.ideal _ s'=>∃t,s'=s++t
 | _,_=>False
theorem Lk.sle.refl (l:Lk):l.sle l:=by
 cases l with
 | real=>trivial
 | ideal iss s=>exact⟨[],by simp⟩
theorem Lk.sle.trans {l l' l'':Lk}(h:l.sle l')(k:l'.sle l''):l.sle l'':=by
 cases l with
 | real =>
  cases l' with
  | real=>exact k
  | ideal _ _=>exact h.elim
 | ideal i s =>
  cases l' with
  | real=>exact h.elim
  | ideal i' s' =>
   cases l'' with
   | real=>exact k.elim
   | ideal i'' s'' =>
    obtain⟨t,rfl⟩:=h
    obtain⟨u,rfl⟩:=k
    exact⟨t++u,by simp⟩
theorem Lk.sle_seal (l:Lk)(key:qAD)(n:Nn)(head data:List UInt8):l.sle (l.sealL key n head data):=by
 cases l with
 | real=>trivial
 | ideal iss s=>exact⟨[],by simp⟩
theorem Lk.sle_sum (l:Lk)(row:List UInt8):l.sle (l.sumL row):=by
 cases l with
 | real=>trivial
 | ideal iss s =>
  show ∃t,qB1 s row=s++t
  unfold qB1
  split
  · exact⟨[],by simp⟩
  · exact⟨[row],rfl⟩
theorem qMD (s:List (List UInt8))(row:List UInt8):(qB1 s row).contains row=true:=by
 unfold qB1
 split
 · rename_i h;exact h
 · simp
theorem qJr {s t:List (List UInt8)}{row:List UInt8}(h:s.contains row=true):sumNo (s++t) row=sumNo s row:=by
 unfold sumNo
 rw[List.findIdx_append,if_pos]
 rw[List.findIdx_lt_length]
 exact⟨row,List.contains_iff_mem.1 h,by simp⟩
theorem Lk.again {l l':Lk}{row:List UInt8}(h:(l.sumL row).sle l'):l'.sumL row=l'∧l'.sumP row=l.sumP row:=by
 cases l with
 | real =>
  cases l' with
  | real=>exact⟨rfl,rfl⟩
  | ideal _ _=>exact h.elim
 | ideal i s =>
  cases l' with
  | real=>exact h.elim
  | ideal i' s' =>
   have q:∃t,s'=qB1 s row++t:=h
   obtain⟨t,rfl⟩:=q
   have c:=qMD s row
   have f:(qB1 s row++t).contains row=true:=by
    rw[List.contains_iff_mem]at c ⊢
    exact List.mem_append_left _ c
   have j:qB1 (qB1 s row++t) row=qB1 s row++t:=by
    rw[qB1,if_pos f]
   refine⟨?_,?_⟩
   · show Lk.ideal i' (qB1 (qB1 s row++t) row)=_
     rw[j]
   · show(_,BitVec.ofNat 64 (sumNo (qB1 (qB1 s row++t) row) row))=(_,BitVec.ofNat 64 (sumNo (qB1 s row) row))
     rw[j,qJr c]
theorem qF0 {l l':Lk}{rows:List (List UInt8)}:∀i,(qAB l rows i).2.sle l'→qAB l' rows i=((qAB l rows i).1,l')
 | 0,_=>rfl
 | i+1,h=>by
  have c:((qAB l rows i).2.sumL (0::rows[i]?.getD [])).sle l':=h
  have q:=qF0 i ((Lk.sle_sum _ _).trans c)
  obtain⟨j,f⟩:=Lk.again c
  show((qAB l' rows i).1.set (rows.length+i) ((qAB l' rows i).2.sumP (0::rows[i]?.getD [])),(qAB l' rows i).2.sumL (0::rows[i]?.getD []))=_
  rw[q]
  show((qAB l rows i).1.set (rows.length+i) (l'.sumP (0::rows[i]?.getD [])),l'.sumL (0::rows[i]?.getD []))=_
  rw[j,f]
  rfl
theorem qF1 {l l':Lk}{rows:List (List UInt8)}:∀k,(qAz l rows k).2.sle l'→qAz l' rows k=((qAz l rows k).1,l')
 | 0,h=>qF0 _ h
 | k+1,h=>by
  have c:((qAz l rows k).2.sumL (qCu (qAz l rows k).1 (rows.length - 1 - k))).sle l':=h
  have q:=qF1 k ((Lk.sle_sum _ _).trans c)
  obtain⟨j,f⟩:=Lk.again c
  show((qAz l' rows k).1.set (rows.length - 1 - k) ((qAz l' rows k).2.sumP (qCu (qAz l' rows k).1 (rows.length - 1 - k))),(qAz l' rows k).2.sumL (qCu (qAz l' rows k).1 (rows.length - 1 - k)))=_
  rw[q]
  show((qAz l rows k).1.set (rows.length - 1 - k) (l'.sumP (qCu (qAz l rows k).1 (rows.length - 1 - k))),l'.sumL (qCu (qAz l rows k).1 (rows.length - 1 - k)))=_
  rw[j,f]
  rfl
theorem qKM {l l':Lk}{rows:List (List UInt8)}(h:(qAX l rows).2.sle l'):qAX l' rows=((qAX l rows).1,l'):=qF1 _ h
theorem qJs (l:Lk)(rows:List (List UInt8)):l.sle (qAX l rows).2:=by
 have c:∀i,l.sle (qAB l rows i).2:=fun i=>by
  induction i with
  | zero=>exact Lk.sle.refl _
  | succ i ih=>exact ih.trans (Lk.sle_sum _ _)
 have f:∀k,l.sle (qAz l rows k).2:=fun k=>by
  induction k with
  | zero=>exact c _
  | succ k ih=>exact ih.trans (Lk.sle_sum _ _)
 exact f _
theorem qF2 {b:List UInt8}{x:Wr}(h:inB b.length x){o n:Nat}(hf:o+n≤x.1.toNat∨x.1.toNat+x.2.length≤o):((qBV b x).drop o).take n=(b.drop o).take n:=by
 obtain⟨c,j,l⟩:=h
 apply List.ext_getElem?
 intro i
 simp only[List.getElem?_take,List.getElem?_drop]
 split
 · rename_i f
   unfold qBV
   rcases hf with hf|hf
   · rw[List.append_assoc,List.getElem?_append_left (by rw[List.length_take];omega),List.getElem?_take,if_pos (by omega)]
   · rw[List.getElem?_append_right (by simp;omega),List.getElem?_drop]
     congr 1
     simp
     omega
 · rfl
theorem qLv {b:List UInt8}{x:Wr}(h:inB b.length x){o n:Nat}(h1:x.1.toNat≤o)(h2:o+n≤x.1.toNat+x.2.length):((qBV b x).drop o).take n=(x.2.drop (o - x.1.toNat)).take n:=by
 obtain⟨c,l,j⟩:=h
 apply List.ext_getElem?
 intro i
 simp only[List.getElem?_take,List.getElem?_drop]
 split
 · rename_i f
   unfold qBV
   rw[List.append_assoc,List.getElem?_append_right (by rw[List.length_take];omega),List.length_take,List.getElem?_append_left (by omega)]
   congr 1
   omega
 · rfl
theorem qLw:∀(rows:List (List UInt8)) (i:Nat),(∀r∈rows,r.length=32)→i<rows.length→(rows.flatten.drop (i*32)).take 32=rows[i]?.getD []
 | [],i,_,h=>by simp at h
 | r::rows,0,h,_=>by
  have c:=h r (by simp)
  simp[List.take_append_of_le_length (Nat.le_of_eq c.symm),List.take_of_length_le (Nat.le_of_eq c)]
 | r::rows,i+1,h,hi=>by
  have c:=h r (by simp)
  have:=qLw rows i (fun x f=>h x (by simp[f])) (by simpa using hi)
  simp only[List.flatten_cons,List.getElem?_cons_succ]
  rw[←this,show(i+1)*32=r.length+i*32 by rw[c];omega,←List.drop_drop,List.drop_left]
def qRq (n:Nat)(b:List UInt8)(c:BitVec 64):List UInt8:=(b.drop (gRec n (qCY c))).take 60
def qHx (n:Nat)(b:List UInt8)(a:Nat):List (List UInt8):=(List.range n).map fun i=>(b.drop (gLeaf n a i)).take 32
structure Wd.holds (x:Wd)(b:List UInt8)(ls:List Lf)(e:BitVec 32):Prop where
 ln:ls.length=x.n
 ok:qB7 ls
 z:x.c.value=0#64→ls=List.replicate x.n Lf.zero
 rc:x.c.value≠0#64→∃(nn:Nn) (out:List UInt8) (tag:qAD) (ep:BitVec 32) (top:qAD),qRq x.n b x.c.value=qFV nn out tag∧out.length=32∧nn.slot=65535#32∧(nn.epoch=e∧x.eps.contains e=true)∧nn.version>>>32=x.c.at_∧x.l.openP (qFd x.seed x.eps nn.epoch) nn [] out tag=some (qCU ⟨x.c.value,ep,(x.n:Int),top⟩)∧qHx x.n b (qCY x.c.value)=qAe ls∧∀l',x.l.sle l'→(qAX l' (qAe ls)).1[1]?.getD (0#64,0#64)=top
theorem Wd.holds.as {x y:Wd}{b:List UInt8}{ls:List Lf}{e:BitVec 32}(h:x.holds b ls e)(hn:y.n=x.n)(hse:y.seed=x.seed)(he:x.eps.contains e=true→y.eps.contains e=true)(hv:y.c.value=x.c.value)(ha:y.c.at_=x.c.at_)(hle:x.l.le y.l)(hsl:x.l.sle y.l):y.holds b ls e:=by
 refine⟨by rw[hn];exact h.ln,h.ok,fun j=>by rw[hn];exact h.z (by rw[←hv];exact j),fun j=>?_⟩
 obtain⟨nn,out,tag,ep,top,I,J,Y,f,Z,N,O,F⟩:=h.rc (by rw[←hv];exact j)
 have V:qFd y.seed y.eps nn.epoch=qFd x.seed x.eps nn.epoch:=by
  unfold qFd
  rw[f.1,if_pos (he f.2),if_pos f.2,hse]
 refine⟨nn,out,tag,ep,top,by rw[hn,hv];exact I,J,Y,⟨f.1,he f.2⟩,by rw[ha];exact Z,?_,by rw[hn,hv];exact O,fun G q=>F G (hsl.trans q)⟩
 rw[V,hn,hv]
 exact hle _ _ _ _ _ _ N
theorem qJt:∀(ls:List Lf) (i:Nat),(∀(k:Nat) (l:Lf),ls[k]? = some l→qAM l ((i+k:Nat):Int)=true)→qCc (qAe ls) i=some ls:=fun ls i h =>
 qEj (qAe ls) i ls (by simp[qAe]) (fun k r l c hl=>by
  have f:(qAe ls)[k]? = some (qBr l):=by unfold qAe;rw[List.getElem?_map,hl];rfl
  rw[f]at c
  cases c
  exact qKf l _ (h k l hl))
theorem Wd.holds.load {x y:Wd}{b:List UInt8}{ls:List Lf}{e:BitVec 32}(h:x.holds b ls e)(hs:qD9 (x.n:Int)=true)(hn:y.n=x.n)(hse:y.seed=x.seed)(he:y.eps=x.eps)(hv:y.c.value=x.c.value)(ha:y.c.at_=x.c.at_)(hle:x.l.le y.l)(hsl:x.l.sle y.l)(hb:y.sd.snap=b):y.loadO=some ls:=by
 unfold Wd.loadO
 rw[hv,hn]
 split
 · rename_i q
   rw[h.z q]
 · rename_i q
   obtain⟨nn,out,tag,ep,top,G,V,h3,F,O,J,h7,Y⟩:=h.rc q
   obtain⟨I,g2,Z,N⟩:=qSf nn out tag h3 V
   have f:y.logBytes x.c.value=qFV nn out tag:=by
    unfold Wd.logBytes
    rw[hb,hn]
    exact G
   have j:y.opened (y.logBytes x.c.value)=some ⟨x.c.value,ep,(x.n:Int),top⟩:=by
    unfold Wd.opened
    rw[f,I,g2,Z,N,he,hse,ha,if_pos ⟨rfl,by rw[F.1];exact F.2,by rw[O];simp⟩,hle _ _ _ _ _ _ J]
    exact qKg _ hs
   have hg:y.logGet x.c.value=some ⟨x.c.value,ep,(x.n:Int),top⟩:=by
    unfold Wd.logGet
    rw[j]
    show(if((x.c.value != x.c.value)=false∧(x.n:Int)=(y.n:Int)) then some (⟨x.c.value,ep,(x.n:Int),top⟩:Rt) else none)=_
    rw[if_pos ⟨by simp,by rw[hn]⟩]
   rw[hg]
   show y.areaGet _ top=some ls
   have hr:y.areaRows (qCY x.c.value)=qAe ls:=by
    unfold Wd.areaRows
    rw[hb,hn]
    exact h7
   unfold Wd.areaGet
   rw[hr,Y _ hsl,if_pos rfl]
   exact qJt ls 0 (fun k l hl=>by rw[Nat.zero_add];exact h.ok k l hl)
theorem qFu {x:Wd}(h:x.p.spend.1=true)(y:Wr):(x.sWrite y).sd.snap=qBV x.sd.snap y:=by
 show(x.sd.wrote x.p.spend.1 x.p.spend.2 y).snap=_
 rw[h]
 show qB5 x.s.lasts (x.s.waits++ [y])=_
 rw[qCr]
 rfl
theorem qFH (x:Wd):x.sBarrier.sd.snap=x.sd.snap:=by
 show(x.sd.barred x.p.spend.1 x.p.spend.2).snap=_
 unfold Sd.barred
 split<;>rfl
theorem qIp {x:Wd}(h:x.p.spend.1=true):x.sBarrier.s.waits= []:=by
 show(x.sd.barred x.p.spend.1 x.p.spend.2).waits=_
 rw[h]
 rfl
theorem qQ1 (boot:BitVec 64)(k:Nat)(hb:boot.toNat<2147483648)(hk:k≤1000):(boot<<<32+BitVec.ofInt 64 (k:Int))>>>32=boot:=by
 apply BitVec.eq_of_toNat_eq
 rw[BitVec.toNat_ushiftRight,BitVec.toNat_add,BitVec.toNat_shiftLeft,BitVec.toNat_ofInt,Nat.shiftRight_eq_div_pow,Nat.shiftLeft_eq]
 have c:((k:Int) % ((2^64:Nat):Int)).toNat=k:=by
  rw[Int.emod_eq_of_lt (by omega) (by rw[show((2^64:Nat):Int)=18446744073709551616 by decide];omega)]
  rfl
 rw[c]
 have h:(2:Nat)^32=4294967296:=by decide
 have f:(2:Nat)^64=18446744073709551616:=by decide
 rw[h,f]
 omega
section
variable {x:Wd} {m k:Nat} {boot:BitVec 64} {ls:List Lf}
theorem qKN {n a:Nat}(hn:n=4∨n=8∨n=16)(ha:a<2){S:List UInt8}(hS:S.length=gSize n)(hl:ls.length=n)(nb rb:List UInt8)(q:Nat)(hq:q<2)(h2:inB (gSize n) ((gNode n a 0:Nat),nb))(h3:inB (gSize n) ((gRec n q:Nat),rb))(h1:inB (gSize n) ((gLeaf n a 0:Nat),(qAe ls).flatten)) :
 qHx n (qBV (qBV (qBV S ((gLeaf n a 0:Nat),(qAe ls).flatten)) ((gNode n a 0:Nat),nb)) ((gRec n q:Nat),rb)) a=qAe ls:=by
 have c:∀r∈qAe ls,r.length=32:=fun r f=>by
  unfold qAe at f
  obtain⟨l,_,rfl⟩:=List.mem_map.1 f
  exact qBi l
 have F:(qAe ls).length=n:=by unfold qAe;simpa using hl
 have G:(qAe ls).flatten.length=n*32:=by rw[qDb];omega
 have l1:(qBV S ((gLeaf n a 0:Nat),(qAe ls).flatten)).length=gSize n:=(qBW _ _ (by rw[hS];exact h1)).trans hS
 have l2:(qBV (qBV S ((gLeaf n a 0:Nat),(qAe ls).flatten)) ((gNode n a 0:Nat),nb)).length=gSize n:=(qBW _ _ (by rw[l1];exact h2)).trans l1
 apply List.ext_getElem?
 intro i
 unfold qHx
 rw[List.getElem?_map]
 by_cases h:i<n
 · rw[List.getElem?_range h]
   show some _=_
   have j:gLeaf n a i+32≤gNode n a 0∧gNode n a 0≤gRec n q∧gLeaf n a 0≤gLeaf n a i∧gLeaf n a i - gLeaf n a 0=i*32∧gLeaf n a i+32≤gLeaf n a 0+n*32:=by
    unfold gLeaf gNode gRec
    have:a=0∨a=1:=by omega
    rcases this with rfl|rfl<;>rcases hn with rfl|rfl|rfl<;>omega
   show some (((qBV (qBV (qBV S ((gLeaf n a 0:Nat),(qAe ls).flatten)) ((gNode n a 0:Nat),nb)) ((gRec n q:Nat),rb)).drop (gLeaf n a i)).take 32)=_
   rw[qF2 (x:=((gRec n q:Nat),rb)) (by rw[l2];exact h3) (.inl (by rw[Int.toNat_natCast];omega)),qF2 (x:=((gNode n a 0:Nat),nb)) (by rw[l1];exact h2) (.inl (by rw[Int.toNat_natCast];omega)),qLv (x:=((gLeaf n a 0:Nat),(qAe ls).flatten)) (by rw[hS];exact h1) (by rw[Int.toNat_natCast];omega) (by rw[Int.toNat_natCast];show _≤_+(qAe ls).flatten.length;omega)]
   rw[Int.toNat_natCast,j.2.2.2.1]
   show some (((qAe ls).flatten.drop (i*32)).take 32)=_
   rw[qLw _ _ c (by omega),List.getElem?_eq_getElem (by omega)]
   rfl
 · rw[List.getElem?_eq_none (by simpa using h),List.getElem?_eq_none (by omega)]
   rfl
end
theorem qLx (a b:Value)(w:World):(Instr.field 39 (.agg #[a,b]) 0).run prog w= .ok a w:=by kernel_rfl
theorem Ext.kept0 {m:Nat}{col':Nat→Nat}{w w':World}(e:Ext m (fun _=>0) col' w w'):qA4 w w':=⟨e.os,e.tape,e.output,e.size,fun k c=>e.block k c (.inl rfl)⟩
theorem qHt.nil {col:Nat→Nat}{w:World}(k ck lba n off:Int):qHt col w ⟨k,⟨ck,lba,[]⟩,n,off,[],[]⟩ (.slice none 0 0) (.slice none 0 0) (.slice none 0 0):=
 ⟨SlC.nil,SlC.nil,.inl ⟨rfl,rfl,rfl⟩,fun a c e=>(by cases e),Nat.zero_le _,Nat.zero_le _,Nat.zero_le _⟩
theorem qHt.wr {col:Nat→Nat}{w:World}(ck lba:Int){v:Value}{d:List UInt8}(h:SlC col w v d)(hl:d.length≤1000):qHt col w ⟨1,⟨ck,lba,d⟩,0,0,[],[]⟩ v (.slice none 0 0) (.slice none 0 0):=
 ⟨h,SlC.nil,.inl ⟨rfl,rfl,rfl⟩,fun a c e=>(by cases e),hl,by show(0:Nat)≤1000;decide,by show(0:Nat)≤1000;decide⟩
theorem qGG (ideal:Bool){col:Nat→Nat}{w:World}{P:qAU}{X:Nat}(h:qAL col w P X (Bo.new 4 1#64 ideal))(w1:World)(k1:qA4 w w1)(hd:SlC col w1 (.slice (some ⟨w.heap.size,0,none⟩) 32 32) (List.replicate 32 5)) :
 Calls prog 11 #[.pointer (some ⟨X,0,none⟩),.agg #[.int .i64 1,.int .i64 2,.int .i64 3,.slice (some ⟨w.heap.size,0,none⟩) 32 32,.int .i64 0,.int .i64 0,.slice none 0 0,.slice none 0 0]] w1 fun e w'=>∃v col',e= .returned (.agg #[.int .i64 0,v])∧qAL col' w' P X ⟨(kB ideal).x,some (kB ideal),[]⟩∧Ext 12 col col' w1 w':=by
 have g:=Bo.new_good 4 1#64 ideal (by decide)
 have:=qOj (h.kept k1) g (by decide) kW (some ⟨w.heap.size,0,none⟩) none none 32 0 0 (qHt.wr 2 3 hd (by decide))
 rw[qGD]at this
 refine this.mono ?_
 rintro e w' ⟨v,col',f,_,j,c⟩
 exact⟨v,col',f,j,c⟩
theorem qFI (ideal:Bool){col:Nat→Nat}{w:World}{P:qAU}{X:Nat}(h:qAL col w P X ⟨(kB ideal).x,some (kB ideal),[]⟩) :
 Calls prog 11 #[.pointer (some ⟨X,0,none⟩),.agg #[.int .i64 1,.int .i64 1,.int .i64 3,.slice none 0 0,.int .i64 0,.int .i64 0,.slice none 0 0,.slice none 0 0]] w fun e w'=>∃v col',e= .returned (.agg #[.int .i64 0,v])∧w'.ownsRow w.heap.size 5 1 v (List.replicate 32 (5:UInt8)).length (qA1 (List.replicate 32 5))∧Ext 12 col col' w w':=by
 have c:=(Bo.new_good 4 1#64 ideal (by decide)).act (by decide) kW (by decide)
 rw[qGD]at c
 have:=qOj h c (by decide) kR none none none 0 0 0 (qHt.nil 1 1 3 0 0)
 rw[qMz]at this
 refine this.mono ?_
 rintro e w' ⟨v,col',j,l,q,f⟩
 exact⟨v,col',j,l.1,f⟩
theorem qOt (w:World):Calls prog 12 #[] w fun e w'=>e= .returned (.bool true)∧qA4 w w':=by
 go_enter func12,ntmps12
 go_wp2_with fail
 go_loopw [1] (fun i wr=>∃k:Nat,i= .int .i64 k∧k≤2∧qA4 w wr) (fun i _=>2 - (intOf i).toNat)
 case atStart=>exact⟨0,rfl,by omega,Below.refl _ _⟩
 case round =>
  obtain⟨k,rfl,hk,Z⟩:=hrel
  match k,hk with
  | 0,_ =>
   have CN:Calls prog 9 #[.int .i64 4,.int .u64 1,.bool true] wr fun e w'=>∃P X col',e= .returned (.tuple #[.pointer (some ⟨X,0,none⟩),.int .i64 0])∧qAL col' w' P X (Bo.new 4 1#64 true)∧Ext 12 (fun _=>0) col' wr w':=qIn 4 rfl 1#64 true wr
   go_wp2_with fail
   refine CN.mono ?_
   rintro e w1 ⟨P,X,a2,rfl,h1,e1⟩
   go_wp2_with fail
   refine(qDQ 5 w1).mono ?_
   rintro e w2 ⟨rfl,ho,k2⟩
   go_wp2_with fail
   refine(qEF 2 3 (some ⟨w1.heap.size,0,none⟩) 32 32 w2).mono ?_
   rintro e w3 ⟨rfl,k3⟩
   have CW:=qGG true h1 w3 (k2.of k3) (SlC.of_own (qA5 ho k3) h1.top qle)
   go_wp2_with fail
   refine CW.mono ?_
   rintro e w4 ⟨v,a3,rfl,h4,e4⟩
   have a4:=qLx (.int .i64 0) v w4
   go_wp2_with fail
   refine(qEF 1 3 none 0 0 w4).mono ?_
   rintro e w5 ⟨rfl,J⟩
   have CR:=qFI true (h4.kept J)
   go_wp2_with fail
   refine CR.mono ?_
   rintro e w6 ⟨v6,a1,rfl,I,e6⟩
   obtain⟨V,O,rfl⟩:=(Sl.of_own I).len
   have Y:qA4 wr w6:=by
    have e7:=((e1.trans (Ext.kept (m:=12) h1.top (k2.of k3))).trans (e4.trans (Ext.kept (m:=12) h4.top J))).trans e6
    exact e7.kept0
   have N:=Blk.new w6 #[.int .i64 0,.slice V (List.replicate 32 (5:UInt8)).length O] 39
   have f:qA4 w6 (w6.alloc (.cells #[.int .i64 0,.slice V (List.replicate 32 (5:UInt8)).length O] 39)):=qal _
   have l:=qA5 I f
   obtain⟨dd,h⟩:∃d,d=List.replicate 32 (5:UInt8):=⟨_,rfl⟩
   have c:dd.length=32:=by rw[h];rfl
   rw[←h]at l N f
   rw[c]at l N f
   replace h:=qh h
   replace c:=qh c
   go_wp2_with fail
   obtain⟨w7,G⟩:∃y,y=(w6.alloc (.cells #[.int .i64 0,.slice V 32 O] 39)):=⟨_,rfl⟩
   rw[←G]at l N f ⊢
   clear G
   refine qA3 [(0,0),(1,0),(2,0),(3,0),(4,0),(5,0),(6,0),(7,1),(8,0),(9,0),(10,0)] (by kernel_rfl) (by kernel_rfl) ?_
   intro z1 F
   repeat
    refine qA0 _ rfl (fun K j=>?_)
    first
     | (refine qqP (by rfl) ?_;apply Exists.intro;refine⟨fun w' q=>?_,j _ ?_⟩;(have hb:=(N.kept (F.of q));have b0:=Blk.cell hb 0;have b1:=Blk.cell hb 1;clear hb;have s1:=qDu (v:=.slice V 32 O) (bs:=dd) (by rw[c.out];exact Sl.of_own (qA5 l (F.of q)));go_simp;first|done|rfl))
     | refine qqN (by rfl) (j _ ?_)
    clear j K;simp only[Act.put,qqB]
   refine qqH _ rfl (by rfl) (fun K j=>?_)
   go_wp2_with fail
   refine(qDQ 5 z1).mono ?_
   rintro e z2 ⟨rfl,a0,J⟩
   go_wp2
   refine j _ _ (J) ?_
   clear j K
   try simp only[Act.put,qqB]
   repeat
    refine qA0 _ rfl (fun K j=>?_)
    first
     | (refine qqP (by rfl) ?_;apply Exists.intro;refine⟨fun w' q=>?_,j _ ?_⟩;(have s2:=qDu (v:=.slice (some ⟨z1.heap.size,0,none⟩) 32 32) (bs:=List.replicate 32 5) (Sl.of_own (qA5 a0 q));rw[←h.out]at s2;go_simp;first|done|rfl))
     | refine qqN (by rfl) (j _ ?_)
    clear j K;simp only[Act.put,qqB]
   refine qA6 ?_
   go_wp2_with fail
   have kz:=(Y.of f).of (F.of J)
   exact⟨⟨1,rfl,by omega,Z.of kz⟩,by simp[intOf]⟩
  | 1,_ =>
   have CN:Calls prog 9 #[.int .i64 4,.int .u64 1,.bool false] wr fun e w'=>∃P X col',e= .returned (.tuple #[.pointer (some ⟨X,0,none⟩),.int .i64 0])∧qAL col' w' P X (Bo.new 4 1#64 false)∧Ext 12 (fun _=>0) col' wr w':=qIn 4 rfl 1#64 false wr
   go_wp2_with fail
   refine CN.mono ?_
   rintro e w1 ⟨P,X,a2,rfl,h1,e1⟩
   go_wp2_with fail
   refine(qDQ 5 w1).mono ?_
   rintro e w2 ⟨rfl,ho,k2⟩
   go_wp2_with fail
   refine(qEF 2 3 (some ⟨w1.heap.size,0,none⟩) 32 32 w2).mono ?_
   rintro e w3 ⟨rfl,k3⟩
   have CW:=qGG false h1 w3 (k2.of k3) (SlC.of_own (qA5 ho k3) h1.top qle)
   go_wp2_with fail
   refine CW.mono ?_
   rintro e w4 ⟨v,a3,rfl,h4,e4⟩
   have a4:=qLx (.int .i64 0) v w4
   go_wp2_with fail
   refine(qEF 1 3 none 0 0 w4).mono ?_
   rintro e w5 ⟨rfl,J⟩
   have CR:=qFI false (h4.kept J)
   go_wp2_with fail
   refine CR.mono ?_
   rintro e w6 ⟨v6,a1,rfl,I,e6⟩
   obtain⟨V,O,rfl⟩:=(Sl.of_own I).len
   have Y:qA4 wr w6:=by
    have e7:=((e1.trans (Ext.kept (m:=12) h1.top (k2.of k3))).trans (e4.trans (Ext.kept (m:=12) h4.top J))).trans e6
    exact e7.kept0
   have N:=Blk.new w6 #[.int .i64 0,.slice V (List.replicate 32 (5:UInt8)).length O] 39
   have f:qA4 w6 (w6.alloc (.cells #[.int .i64 0,.slice V (List.replicate 32 (5:UInt8)).length O] 39)):=qal _
   have l:=qA5 I f
   obtain⟨dd,h⟩:∃d,d=List.replicate 32 (5:UInt8):=⟨_,rfl⟩
   have c:dd.length=32:=by rw[h];rfl
   rw[←h]at l N f
   rw[c]at l N f
   replace h:=qh h
   replace c:=qh c
   go_wp2_with fail
   obtain⟨w7,G⟩:∃y,y=(w6.alloc (.cells #[.int .i64 0,.slice V 32 O] 39)):=⟨_,rfl⟩
   rw[←G]at l N f ⊢
   clear G
   refine qA3 [(0,0),(1,0),(2,0),(3,0),(4,0),(5,0),(6,0),(7,1),(8,0),(9,0),(10,0)] (by kernel_rfl) (by kernel_rfl) ?_
   intro z1 F
   repeat
    refine qA0 _ rfl (fun K j=>?_)
    first
     | (refine qqP (by rfl) ?_;apply Exists.intro;refine⟨fun w' q=>?_,j _ ?_⟩;(have hb:=(N.kept (F.of q));have b0:=Blk.cell hb 0;have b1:=Blk.cell hb 1;clear hb;have s1:=qDu (v:=.slice V 32 O) (bs:=dd) (by rw[c.out];exact Sl.of_own (qA5 l (F.of q)));go_simp;first|done|rfl))
     | refine qqN (by rfl) (j _ ?_)
    clear j K;simp only[Act.put,qqB]
   refine qqH _ rfl (by rfl) (fun K j=>?_)
   go_wp2_with fail
   refine(qDQ 5 z1).mono ?_
   rintro e z2 ⟨rfl,a0,J⟩
   go_wp2
   refine j _ _ (J) ?_
   clear j K
   try simp only[Act.put,qqB]
   repeat
    refine qA0 _ rfl (fun K j=>?_)
    first
     | (refine qqP (by rfl) ?_;apply Exists.intro;refine⟨fun w' q=>?_,j _ ?_⟩;(have s2:=qDu (v:=.slice (some ⟨z1.heap.size,0,none⟩) 32 32) (bs:=List.replicate 32 5) (Sl.of_own (qA5 a0 q));rw[←h.out]at s2;go_simp;first|done|rfl))
     | refine qqN (by rfl) (j _ ?_)
    clear j K;simp only[Act.put,qqB]
   refine qA6 ?_
   go_wp2_with fail
   have kz:=(Y.of f).of (F.of J)
   exact⟨⟨2,rfl,by omega,Z.of kz⟩,by simp[intOf]⟩
  | 2,_ =>
   go_wp2_with fail
   refine bodyPost_ret (v:=.bool true) (by simp[results,results12,go_sem];done) rfl ⟨rfl,Z⟩
end Go.Proofs.YtdlgihbpiakebaaGreat
namespace Go.Proofs.YtdlgihbpiakebaaGreat
open Go Go.RowKit Go.ChangeShapes Go.WideShapes Go.ChangeAt Go.Deep
def qGH (x:Ac)(r:Value×Value×Value):List Value:=[.int .i64 x.kind,.int .i64 x.call.kind,.int .i64 x.call.lba,r.1,.int .i64 x.n,.int .i64 x.off,r.2.1,r.2.2]
structure qHy (w:World)(x:Ac)(r:Value×Value×Value):Prop where
 s1:Sl w r.1 x.call.data.length (qA1 x.call.data)
 s2:Sl w r.2.1 x.data.length (qA1 x.data)
 s3:Sl w r.2.2 x.keep.length (qBe x.keep)
 hn:x.n≤9223372036854775807
structure qFJ (w:World)(v:Value)(l:List Ac)(rs:List (Value×Value×Value)):Prop where
 len:rs.length=l.length
 sl:∃a cap,v= .slice a l.length cap∧∀(i:Nat) (x:Ac) (r:Value×Value×Value),l[i]? = some x→rs[i]? = some r→∃b off,a=some ⟨b,off,none⟩∧b<w.heap.size∧∀(j:Nat) (u:Value),(qGH x r)[j]? = some u→w.cell? ⟨b,off+i*8+j,none⟩=some u
 each:∀(i:Nat) (x:Ac) (r:Value×Value×Value),l[i]? = some x→rs[i]? = some r→qHy w x r
section
variable {H:Type} {enc:TypeId×Value→H} {w:World} {base:Nat} {spare:Nat→Bool} {held:Bool} {r:Reach} {b0:Nat}
theorem qRr {m:Nat}{v:Value}{y:DataW H×List MemPlace}(h:DataW.trod enc Tryz.prog w base spare held m 35 [v]=some y):∃ks:List Bool,Sl w v ks.length (qBe ks):=by
 rcases open_slice Tryz.underlying35 h with ⟨hcs,_⟩|⟨a,len,cap,m,n,D,Pl,hcs,hb,hl,hm,hmm,hx,hi⟩
 · simp at hcs
   subst hcs
   exact⟨[],.inl ⟨rfl,rfl,rfl⟩⟩
 · simp at hcs
   subst hcs
   have J:len≤m:=by rw[hmm];split<;>omega
   obtain⟨ks,I,F⟩:=qPg (w:=w) (a:=a) hl hm (fun i h=>by
    obtain⟨f,j,c⟩:=hi i (by omega)
    rw[show Tryz.prog.cellsOf 4=1 by kernel_rfl,Nat.mul_one]at j
    obtain⟨_,l,_⟩:=World.cells?_some j
    match f,l with
    | [v],_ =>
     obtain⟨q,G⟩:=qQJ Tryz.underlying4 c
     exact⟨q,by rw[←G];exact cell_of_cells?_one j⟩)
   exact⟨ks,I⟩
theorem qQ2 {fuel:Nat}{cs:List Value}{y:DataW H×List MemPlace}(hl:cs.length=8)(h:DataW.trod enc Tryz.prog w base spare held fuel 37 cs=some y):∃(x:Ac) (r:Value×Value×Value),cs=qGH x r∧qHy w x r:=by
 have c:=Tryz.underlying37
 have l:=Tryz.underlying34
 have c8:Tryz.prog.cellsOf 37=8:=by kernel_rfl
 match cs,hl with
 | [c0,c1,c2,c3,c4,c5,c6,c7],_ =>
  have len:([c0,c1,c2,c3,c4,c5,c6,c7]:List Value).length≤Tryz.prog.cellsOf 37:=by rw[c8];simp
  have k0:qFA Tryz.prog 37 0 3:=qFA.field (j:=0) c rfl .here (by kernel_rfl)
  have k1:qFA Tryz.prog 37 1 3:=qFA.field (j:=1) (i:=0) c rfl (qFA.field (j:=0) l rfl .here (by kernel_rfl)) (by kernel_rfl)
  have k2:qFA Tryz.prog 37 2 3:=qFA.field (j:=1) (i:=1) c rfl (qFA.field (j:=1) l rfl .here (by kernel_rfl)) (by kernel_rfl)
  have k3:qFA Tryz.prog 37 3 32:=qFA.field (j:=1) (i:=2) c rfl (qFA.field (j:=2) l rfl .here (by kernel_rfl)) (by kernel_rfl)
  have k4:qFA Tryz.prog 37 4 3:=qFA.field (j:=2) c rfl .here (by kernel_rfl)
  have k5:qFA Tryz.prog 37 5 3:=qFA.field (j:=3) c rfl .here (by kernel_rfl)
  have k6:qFA Tryz.prog 37 6 32:=qFA.field (j:=4) c rfl .here (by kernel_rfl)
  have k7:qFA Tryz.prog 37 7 35:=qFA.field (j:=5) c rfl .here (by kernel_rfl)
  obtain⟨m0,y0,G⟩:=k0.get fuel _ _ len h
  obtain⟨m1,y1,I⟩:=k1.get fuel _ _ len h
  obtain⟨m2,y2,J⟩:=k2.get fuel _ _ len h
  obtain⟨m3,y3,Y⟩:=k3.get fuel _ _ len h
  obtain⟨m4,y4,V⟩:=k4.get fuel _ _ len h
  obtain⟨m5,y5,N⟩:=k5.get fuel _ _ len h
  obtain⟨m6,y6,O⟩:=k6.get fuel _ _ len h
  obtain⟨m7,y7,Z⟩:=k7.get fuel _ _ len h
  have si:Tryz.prog.cellsOf 3=1:=by kernel_rfl
  have sb:Tryz.prog.cellsOf 32=1:=by kernel_rfl
  have sk:Tryz.prog.cellsOf 35=1:=by kernel_rfl
  rw[si]at G I J V N
  rw[sb]at Y O
  rw[sk]at Z
  obtain⟨x0,rfl,_⟩:=qG8 Tryz.underlying3 G
  obtain⟨x1,rfl,_⟩:=qG8 Tryz.underlying3 I
  obtain⟨x2,rfl,_⟩:=qG8 Tryz.underlying3 J
  obtain⟨x4,rfl,_,h4⟩:=qG8 Tryz.underlying3 V
  obtain⟨x5,rfl,_⟩:=qG8 Tryz.underlying3 N
  obtain⟨b3,F⟩:=qN6 Tryz.underlying32 Tryz.underlying5 (by kernel_rfl) Y
  obtain⟨b6,q⟩:=qN6 Tryz.underlying32 Tryz.underlying5 (by kernel_rfl) O
  obtain⟨b7,f⟩:=qRr Z
  exact⟨⟨x0,⟨x1,x2,b3⟩,x4,x5,b6,b7⟩,(c3,c6,c7),rfl,⟨F,q,f,h4⟩⟩
theorem qJu {v:Value}{d:DataW H}{ps:List MemPlace}(hval:Value.okWide Tryz.prog w r b0 22 v)(hd:DataW.Trod enc Tryz.prog w base spare held 22 v d ps):∃l rs,qFJ w v l rs:=by
 obtain⟨a0,c,N,rfl⟩:=okWide_slice Tryz.underlying22 hval
 obtain⟨a5,hf⟩:=hd
 rcases open_slice Tryz.underlying22 hf with ⟨hcs,_⟩|⟨a,len,cap,m,n,D,Pl,hcs,hb,hl,hm,hmm,hx,hi⟩
 · simp[Value.cells]at hcs
   obtain⟨rfl,rfl,rfl⟩:=hcs
   exact⟨[],[],rfl,⟨none,0,rfl,fun i x r h=>(by cases i<;>cases h)⟩,fun i x r h=>(by cases i<;>cases h)⟩
 · simp[Value.cells]at hcs
   obtain⟨rfl,rfl,rfl⟩:=hcs
   have a9:c≤m:=by rw[hmm];split<;>omega
   have c8:Tryz.prog.cellsOf 37=8:=by kernel_rfl
   have each:∀i,∃p:Ac×(Value×Value×Value),i<c→(∃b off,a=⟨b,off,none⟩∧b<w.heap.size∧∀(j:Nat) (u:Value),(qGH p.1 p.2)[j]? = some u→w.cell? ⟨b,off+i*8+j,none⟩=some u)∧qHy w p.1 p.2:=by
    intro i
    by_cases h:i<c
    · obtain⟨b3,Z,a4⟩:=hi i (by omega)
      rw[c8]at Z
      obtain⟨_,a3,V⟩:=World.cells?_some Z
      obtain⟨x,q,he,hr⟩:=qQ2 a3 a4
      refine⟨(x,q),fun _=>⟨?_,hr⟩⟩
      obtain⟨b,off,f⟩:=a
      have h0:=V 0 (by omega)
      rw[he]at h0
      have O:w.cell? ((⟨b,off,f⟩:Addr).add (i*8))=some (.int .i64 x.kind):=by
       have:=h0
       rw[Addr.add_zero']at this
       exact this
      have hs:f=none:=by
       obtain⟨a7,Y,a8⟩:=hi 0 (by omega)
       rw[c8]at Y
       obtain⟨_,a6,F⟩:=World.cells?_some Y
       have h9:=F 0 (by omega)
       rw[Nat.zero_mul,Addr.add_zero',Addr.add_zero']at h9
       rw[List.getElem?_eq_getElem (by omega)]at h9
       exact World.cell?_spot h9
      subst hs
      rw[qF6]at O
      refine⟨b,off,rfl,World.block_lt_of_cell? w _ O,fun j u hj=>?_⟩
      have a1:j<8:=(List.getElem?_eq_some_iff.1 hj).1
      have h1:=V j a1
      rw[he,qF6,qF6]at h1
      rw[h1]
      exact hj
    · exact⟨(⟨0,⟨0,0,[]⟩,0,0,[],[]⟩,(undef,undef,undef)),fun h'=>absurd h' h⟩
   refine⟨(List.range c).map fun i=>(each i).choose.1,(List.range c).map fun i=>(each i).choose.2,by simp,⟨some a,N,by simp,fun i x q hx hq=>?_⟩,fun i x q hx hq=>?_⟩
   · obtain⟨G,J⟩:=List.getElem?_eq_some_iff.1 hx
     obtain⟨k3,I⟩:=List.getElem?_eq_some_iff.1 hq
     simp at G J I
     obtain⟨⟨b,off,e,a2,Z⟩,_⟩:=(each i).choose_spec G
     rw[←J,←I]
     exact⟨b,off,by rw[e],a2,Z⟩
   · obtain⟨G,J⟩:=List.getElem?_eq_some_iff.1 hx
     obtain⟨k3,I⟩:=List.getElem?_eq_some_iff.1 hq
     simp at G J I
     rw[←J,←I]
     exact((each i).choose_spec G).2
end
end Go.Proofs.YtdlgihbpiakebaaGreat
namespace Go.Proofs.YtdlgihbpiakebaaGreat
open Go Go.RowKit Tryz
def qOu (x:Ac):Prop:=x.data.length≤300∧x.call.data.length≤100∧x.keep.length≤100
def qGI (l:List Ac):Prop:=l.length≤200∧∀(i:Nat) (x:Ac),l[i]? = some x→qOu x
theorem qFJ.at {w:World}{a:Option Addr}{n cap:Nat}{l:List Ac}{rs:List (Value×Value×Value)}(h:qFJ w (.slice a n cap) l rs)(hn:n=l.length)(k:Nat)(hk:k<l.length) :
 ∃x r b off,l[k]? = some x∧rs[k]? = some r∧a=some ⟨b,off,none⟩∧b<w.heap.size∧(∀(j:Nat) (u:Value),(qGH x r)[j]? = some u→w.cell? ⟨b,off+k*8+j,none⟩=some u)∧qHy w x r:=by
 have c:l[k]? = some l[k]:=List.getElem?_eq_getElem hk
 have f:rs[k]? = some (rs[k]'(by rw[h.len];exact hk)):=List.getElem?_eq_getElem (by rw[h.len];exact hk)
 obtain⟨N,q,e,J⟩:=h.sl
 cases e
 obtain⟨b,off,I,F,G⟩:=J k _ _ c f
 exact⟨_,_,b,off,c,f,I,F,G,h.each k _ _ c f⟩
theorem qLy (a:Option Addr)(cap:Nat)(l:List Ac)(rs:List (Value×Value×Value))(w:World)(h:qFJ w (.slice a l.length cap) l rs):Calls prog 8 #[.slice a l.length cap] w fun e w'=>((e= .returned (.bool false)∧qGI l)∨(e= .returned (.bool true)∧¬qGI l))∧w=w':=by
 obtain⟨N,hN⟩:∃N,N=l.length:=⟨_,rfl⟩
 rw[←hN]at h ⊢
 have J:=qh hN
 clear hN
 go_enter func8,ntmps8
 go_wp2_with fail
 go_loopw [3] (fun i wr=>∃k:Nat,i= .int .i64 k∧k≤N∧k≤200∧w=wr∧∀(j:Nat) (x:Ac),j<k→l[j]? = some x→qOu x) (fun i _=>N - (intOf i).toNat)
 case atStart=>exact⟨0,rfl,by omega,by omega,(by first|trivial|rfl),fun j x hj=>absurd hj (by omega)⟩
 case round =>
  obtain⟨k,rfl,hk,a5,rfl,Z⟩:=hrel
  replace Z:=qh Z
  by_cases O:k<N
  · have m1:(k:Int)<(N:Int):=by omega
    by_cases a4:k<200
    · have m2:(k:Int)<200:=by omega
      have m3:(0:Int)≤(k:Int):=by omega
      obtain⟨x,r,b,off,I,hr,rfl,a6,V,Y⟩:=h.at J.out k (by rw[←J.out];exact O)
      obtain⟨a1,c1,e1⟩:=Y.s1.len
      obtain⟨a2,c2,e2⟩:=Y.s2.len
      obtain⟨a3,c3,e3⟩:=Y.s3.len
      have d3:w.cell? ⟨b,off+k*8+3,none⟩=some (.slice a1 x.call.data.length c1):=by rw[←e1];exact V 3 _ rfl
      have d6:w.cell? ⟨b,off+k*8+6,none⟩=some (.slice a2 x.data.length c2):=by rw[←e2];exact V 6 _ rfl
      have d7:w.cell? ⟨b,off+k*8+7,none⟩=some (.slice a3 x.keep.length c3):=by rw[←e3];exact V 7 _ rfl
      obtain⟨L1,G⟩:∃n,n=x.call.data.length:=⟨_,rfl⟩
      obtain⟨L2,f⟩:∃n,n=x.data.length:=⟨_,rfl⟩
      obtain⟨L3,q⟩:∃n,n=x.keep.length:=⟨_,rfl⟩
      rw[←G]at d3
      rw[←f]at d6
      rw[←q]at d7
      replace I:=qh I
      replace G:=qh G
      replace f:=qh f
      replace q:=qh q
      clear V e1 e2 e3 Y hr h
      by_cases g2:300<L2
      · have n2:(300:Int)<(L2:Int):=by omega
        go_wp2_with fail
        refine bodyPost_ret (v:=.bool true) (by simp[results,results8,go_sem];done) rfl ⟨.inr ⟨rfl,fun c=>absurd (c.2 k x I.out).1 (by rw[←f.out];omega)⟩,rfl⟩
      · have n2:¬(300:Int)<(L2:Int):=by omega
        by_cases g1:100<L1
        · have n1:(100:Int)<(L1:Int):=by omega
          go_wp2_with fail
          refine bodyPost_ret (v:=.bool true) (by simp[results,results8,go_sem];done) rfl ⟨.inr ⟨rfl,fun c=>absurd (c.2 k x I.out).2.1 (by rw[←G.out];omega)⟩,rfl⟩
        · have n1:¬(100:Int)<(L1:Int):=by omega
          by_cases g3:100<L3
          · have n3:(100:Int)<(L3:Int):=by omega
            go_wp2_with fail
            refine bodyPost_ret (v:=.bool true) (by simp[results,results8,go_sem];done) rfl ⟨.inr ⟨rfl,fun c=>absurd (c.2 k x I.out).2.2 (by rw[←q.out];omega)⟩,rfl⟩
          · have n3:¬(100:Int)<(L3:Int):=by omega
            go_wp2_with fail
            refine⟨⟨k+1,rfl,by omega,by omega,(by first|trivial|rfl),fun j y hj hy=>?_⟩,by simp[intOf];omega⟩
            by_cases a0:j=k
            · subst a0
              have:y=x:=Option.some.inj (hy.symm.trans I.out)
              subst this
              exact⟨by rw[←f.out];omega,by rw[←G.out];omega,by rw[←q.out];omega⟩
            · exact Z.out j y (by omega) hy
    · have m2:¬(k:Int)<200:=by omega
      have m4:¬N=200∨True:=.inr trivial
      clear m4
      by_cases g:200<N
      · have n2:(200:Int)<(N:Int):=by omega
        go_wp2_with fail
        refine bodyPost_ret (v:=.bool true) (by simp[results,results8,go_sem];done) rfl ⟨.inr ⟨rfl,fun c=>absurd c.1 (by rw[←J.out];omega)⟩,rfl⟩
      · exact absurd O (by omega)
  · have m1:¬(k:Int)<(N:Int):=by omega
    have n2:¬(200:Int)<(N:Int):=by omega
    have F:qGI l:=⟨by rw[←J.out];omega,fun i x I=>Z.out i x (by have:=(List.getElem?_eq_some_iff.1 I).1;rw[←J.out]at this;omega) I⟩
    replace F:=qh F
    go_wp2_with fail
    refine bodyPost_ret (v:=.bool false) (by simp[results,results8,go_sem];done) rfl ⟨.inl ⟨rfl,F.out⟩,rfl⟩
theorem qRs {a:Option Addr}{cap:Nat}{l:List Ac}{rs:List (Value×Value×Value)}{w:World}(h:qFJ w (.slice a l.length cap) l rs)(hs:qGI l):Calls prog 8 #[.slice a l.length cap] w fun e w'=>e= .returned (.bool false)∧w=w':=
 (qLy a cap l rs w h).mono (by
  rintro e w' ⟨⟨f,_⟩|⟨_,j⟩,c⟩
  · exact⟨f,c⟩
  · exact absurd hs j)
theorem qQ3 {a:Option Addr}{cap:Nat}{l:List Ac}{rs:List (Value×Value×Value)}{w:World}(h:qFJ w (.slice a l.length cap) l rs)(hs:¬qGI l):Calls prog 8 #[.slice a l.length cap] w fun e w'=>e= .returned (.bool true)∧w=w':=
 (qLy a cap l rs w h).mono (by
  rintro e w' ⟨⟨_,j⟩|⟨f,_⟩,c⟩
  · exact absurd j hs
  · exact⟨f,c⟩)
section
attribute [-go_sem] storeCells loadCells
theorem qSw (w:World):Calls prog 10 #[] w fun e w'=>∃X,e= .returned (.pointer (some ⟨X,0,none⟩))∧Blk w' X (qAC (fun _=>List.replicate 32 0) (fun _=>List.replicate 32 0)) 72∧qA4 w w'∧w.heap.size≤X:=by
 obtain⟨Z,hZ⟩:∃Z,Z=List.replicate 32 (0:UInt8):=⟨_,rfl⟩
 have b6:∀w:World,(Instr.makeSlice 32 (.int .i64 32) (.int .i64 32)).run prog w= .ok (.slice (some ⟨w.heap.size,0,none⟩) 32 32) (w.alloc (.cells (qA1 Z).toArray 5)):=fun w=>by rw[hZ];exact qEo w
 have a0:Z.length=32:=by rw[hZ];simp
 rw[←hZ]
 have a4:=qh a0
 have HZ:=qh hZ
 clear hZ a0
 have a2:=Blk.new w (qAC (fun _=>[]) (fun _=>[])) 72
 have J:qA4 w (w.alloc (.cells (qAC (fun _=>[]) (fun _=>[])) 72)):=qal _
 go_enter func10,ntmps10
 go_wp2_with fail
 go_loopw [2] (fun i wr=>∃(k:Nat) (B:Nat→List UInt8),i= .int .i64 k∧k≤32∧Blk wr w.heap.size (qAC B (fun _=>[])) 72∧qA4 w wr∧∀j,j<k→B j=Z) (fun i _=>32 - (intOf i).toNat)
 case atStart=>exact⟨0,fun _=>[],rfl,by omega,a2,J,fun j h=>absurd h (by omega)⟩
 case round =>
  obtain⟨k,B,rfl,hk,hB,G,N⟩:=hrel
  clear a2 J
  replace N:=qh N
  by_cases a7:k<32
  · have m1:(k:Int)<32:=by omega
    have m2:(0:Int)≤(k:Int):=by omega
    have f:=a7
    have b5:=hB.lt
    go_wp2_with fail
    refine qAb [w.heap.size] [(0,0),(1,0),(4,0),(5,0),(2,1),(3,0),(6,0),(7,1)] (by kernel_rfl) (by kernel_rfl) ?_
    intro I q
    have Y:=hB.kept q
    have b7:=q.size
    repeat
     refine qA0 _ rfl (fun K c=>?_)
     first
      | (refine qqP (by rfl) ?_;apply Exists.intro;refine⟨fun w' a1=>?_,c _ ?_⟩;go_simp;first|done|rfl)
      | refine qqN (by rfl) (c _ ?_)
     clear c K;simp only[Act.put,qqB]
    refine qqH _ rfl (by rfl) (fun K c=>?_)
    have l:(I.alloc (.cells (qA1 Z).toArray 5)).ownsRow I.heap.size 5 1 (.slice (some ⟨I.heap.size,0,none⟩) 32 32) 32 (qA1 Z):=by rw[HZ.out];exact qFp I
    go_wp2
    refine c _ _ (Chg.of_kept (qal _)) ?_
    clear c K
    try simp only[Act.put,qqB]
    repeat
     refine qA0 _ rfl (fun K c=>?_)
     first
      | (refine qqP (by rfl) ?_;apply Exists.intro;refine⟨fun w' a1=>?_,c _ ?_⟩;(have s1:=qDu (v:=.slice (some ⟨I.heap.size,0,none⟩) 32 32) (bs:=Z) (by rw[a4.out];exact Sl.of_own (qAO l a1 (fun g hg hm=>by rw[List.mem_singleton]at hm;have:=qAN l hg;omega)));go_simp;first|done|rfl))
      | refine qqN (by rfl) (c _ ?_)
     clear c K;simp only[Act.put,qqB]
    refine qqH _ rfl (by rfl) (fun K c=>?_)
    have F:=(Blk.kept Y (qal (.cells (qA1 Z).toArray 5)))
    have f0:=F.free k
    have x0:=F.cell k
    rw[qC7 f]at x0
    have a5:=qGF _ w.heap.size k Z x0 f0
    go_wp2
    rw[a5]
    go_wp2
    refine c _ _ ((Chg.refl _ _).set qsm k _) ?_
    clear c K
    try simp only[Act.put,qqB]
    refine qA6 ?_
    go_wp2_with fail
    have V:=F.set k (Str Z)
    rw[qFs B _ k Z f]at V
    exact⟨⟨k+1,upd B k Z,rfl,by omega,V,(G.of (q.of (qal _))).setCell qle _,fun j hj=>by
     by_cases O:j=k
     · rw[O,qFZ]
     · rw[qLu O];exact N.out j (by omega)⟩,by simp[intOf];omega⟩
  · have m1:¬(k:Int)<32:=by omega
    obtain⟨A,wE,a9,b4,b3,a6,a3⟩:=qQp hB
    have a8:=G.trans (a3.below (by simp) G.size)
    go_wp2_with fail
    refine bodyPost_ret (v:=.pointer (some ⟨w.heap.size,0,none⟩)) (by simp[results,results10,go_sem];done) rfl ⟨w.heap.size,rfl,?_,a8,Nat.le_refl _⟩
    rw[qMC (B:=fun _=>Z) (B':=B) (L:=fun _=>Z) (L':=B) (fun i hi=>(N.out i (by omega)).symm) (fun i hi=>(N.out i (by omega)).symm)]
    exact a6
end
end Go.Proofs.YtdlgihbpiakebaaGreat
