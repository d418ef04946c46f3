import Derived.Test.YtdlgihbpiakebaaGreatMk07
import Derived.Test.YtdlgihbpiakebaaGreatMk30
import Derived.Test.YtdlgihbpiakebaaGreatMk34
import Derived.Test.YtdlgihbpiakebaaGreatMk36
import Derived.Test.YtdlgihbpiakebaaGreatMk40
import Derived.Test.YtdlgihbpiakebaaGreatMk41
set_option maxRecDepth 100000
set_option maxHeartbeats 4000000
namespace Go.Proofs.YtdlgihbpiakebaaGreat
open Go Go.RowKit Tryz
def Lf.cells (x:Lf):List Value:=[.int .i64 x.kind,.bool x.dirty,.int .i64 x.lba,W x.ep,W x.sl,U x.ver,U x.tag.1,U x.tag.2]
def qAv (l:List Lf):List Value:=l.flatMap Lf.cells
theorem qC0 (x:Lf)(l:List Lf):qAv (x::l)= .int .i64 x.kind:: .bool x.dirty:: .int .i64 x.lba::W x.ep::W x.sl::U x.ver::U x.tag.1::U x.tag.2::qAv l:=by simp[qAv,Lf.cells]
theorem qI2 (a b:List Lf):qAv (a++b)=qAv a++qAv b:=by simp[qAv]
theorem qBl:∀(l:List Lf),(qAv l).length=l.length*8
 | []=>rfl
 | x::l=>by rw[qC0];simp[qBl l];omega
theorem qDR:∀(l:List Lf) (i:Nat) (x:Lf),l[i]? = some x→∀j u,x.cells[j]? = some u→(qAv l)[i*8+j]? = some u
 | [],i,x,h=>by simp at h
 | y::l,0,x,h=>by
  simp at h
  subst h
  intro j u c
  have hl:=(List.getElem?_eq_some_iff.1 c).1
  rw[Nat.zero_mul,Nat.zero_add]
  unfold qAv
  rw[List.flatMap_cons,List.getElem?_append_left hl]
  exact c
 | y::l,i+1,x,h=>by
  intro j u c
  have:=qDR l i x (by simpa using h) j u c
  rw[qC0,show(i+1)*8+j=i*8+j+8 by omega]
  simpa using this
theorem qHk:∀(l:List Lf) (i:Nat) (x:Lf),i<l.length →
 (((((((((qAv l).toArray.setIfInBounds (i*8) (.int .i64 x.kind)).setIfInBounds (i*8+1) (.bool x.dirty)).setIfInBounds (i*8+2) (.int .i64 x.lba)).setIfInBounds (i*8+3) (W x.ep)).setIfInBounds (i*8+4) (W x.sl)).setIfInBounds (i*8+5) (U x.ver)).setIfInBounds (i*8+6) (U x.tag.1)).setIfInBounds (i*8+7) (U x.tag.2))=(qAv (l.set i x)).toArray
 | [],i,x,h=>by simp at h
 | y::l,0,x,h=>by
  apply Array.ext'
  simp only[Array.toList_setIfInBounds]
  rw[List.set_cons_zero,qC0,qC0]
  simp
 | y::l,i+1,x,h=>by
  have:=congrArg Array.toList (qHk l i x (by simpa using h))
  simp only[Array.toList_setIfInBounds]at this
  apply Array.ext'
  simp only[Array.toList_setIfInBounds]
  rw[List.set_cons_succ,qC0,qC0,show(i+1)*8=(((((((i*8+1)+1)+1)+1)+1)+1)+1)+1 by omega]
  simp only[show ∀a b:Nat,a+1+1+1+1+1+1+1+1+b=(a+b)+1+1+1+1+1+1+1+1 by omega,List.set_cons_succ]
  rw[this]
theorem qHl (l:List Lf):∀u∈qAv l,u.oneCell'=true:=by
 intro u c
 unfold qAv at c
 rw[List.mem_flatMap]at c
 obtain⟨x,_,f⟩:=c
 simp only[Lf.cells,List.mem_cons,List.not_mem_nil,or_false]at f
 rcases f with rfl|rfl|rfl|rfl|rfl|rfl|rfl|rfl<;>rfl
theorem qEP:SlT prog 105 117 8 56 (.agg #[.int .i64 0,.bool false,.int .i64 0,W 0#32,W 0#32,U 0#64,U 0#64,U 0#64]):=SlT.mk' underlying105 (by kernel_rfl) rfl (by omega)
def qB7 (l:List Lf):Prop:=∀(i:Nat) (x:Lf),l[i]? = some x→qAM x (i:Int)=true
theorem qB7.set {l:List Lf}(h:qB7 l){i:Nat}{x:Lf}(hx:qAM x (i:Int)=true):qB7 (l.set i x):=fun j y c=>by
 rw[List.getElem?_set]at c
 split at c
 · rename_i e
   subst e
   split at c
   · cases c;exact hx
   · cases c
 · exact h j y c
def qAe (l:List Lf):List (List UInt8):=l.map qBr
theorem qDb (l:List Lf):(qAe l).flatten.length=l.length*32:=by
 induction l with
 | nil=>rfl
 | cons x l ih=>simp only[qAe,List.map_cons,List.flatten_cons,List.length_append,qBi]at *;rw[ih];simp;omega
def qBS (l:List qAD):List UInt8:=(l.map qAJ).flatten
theorem qDc (l:List qAD):(qBS l).length=l.length*16:=by
 unfold qBS
 induction l with
 | nil=>rfl
 | cons x l ih=>simp only[List.map_cons,List.flatten_cons,List.length_append,qAs,ih];simp;omega
theorem qKr (l:List qAD)(p:qAD):qBS (l++ [p])=qBS l++qAJ p:=by simp[qBS]
theorem qI3 (l:List Lf)(x:Lf):qAe (l++ [x])=qAe l++ [qBr x]:=by simp[qAe]
theorem qNH (W0:Nat)(a:Nat)(ha:a<2)(w:World):Calls prog 104 #[.pointer (some ⟨W0,0,none⟩),.int .i64 (a:Int)] w fun e w'=>e= .returned (.bool true)∧w=w':=by
 have c:(0:Int)≤(a:Int):=by omega
 have f:(a:Int)<2:=by omega
 go_enter func104,ntmps104
 go_wp2
 go_ret
 exact⟨rfl,rfl⟩
def Wd.areaB (x:Wd)(ls:List Lf):List qAD×Lk:=qAX x.l (qAe ls)
def Wd.areaW1 (x:Wd)(a:Nat)(ls:List Lf):Wd:=(x.setL (x.areaB ls).2).sWrite ((gLeaf x.n a 0:Nat),(qAe ls).flatten)
def Wd.areaW2 (x:Wd)(a:Nat)(ls:List Lf):Wd:=(x.areaW1 a ls).sWrite ((gNode x.n a 0:Nat),qBS (x.areaB ls).1)
def Wd.areaW (x:Wd)(a:Nat)(ls:List Lf):Wd:=if x.p.spend.1 then x.areaW2 a ls else x.areaW1 a ls
def Wd.areaOk (x:Wd)(a:Nat)(ls:List Lf):Bool:=x.p.spend.1&&(x.areaW1 a ls).p.spend.1
def Wd.areaTop (x:Wd)(ls:List Lf):qAD:=(x.areaB ls).1[1]?.getD (0#64,0#64)
def Wd.areaE (x:Wd)(a:Nat)(ls:List Lf):Int:=if x.areaOk a ls then 0 else 7
def Wd.areaP (x:Wd)(a:Nat)(ls:List Lf):qAD:=if x.areaOk a ls then x.areaTop ls else(0#64,0#64)
theorem qB2 (ls:List Lf):(qAe ls).length=ls.length:=by simp[qAe]
theorem qFD (x:Wd)(ls:List Lf):(x.areaB ls).1.length=2*ls.length:=by unfold Wd.areaB;rw[qDa,qB2]
theorem qEQ {x:Wd}{a:Nat}{ls:List Lf}(ha:a<2)(hl:ls.length=x.n)(h0:0<x.n):inB (gSize x.n) ((gLeaf x.n a 0:Nat),(qAe ls).flatten):=by
 refine⟨by omega,?_,?_⟩<;>simp only[qDb,hl,Int.toNat_natCast,gLeaf,gSize]<;>(have:a=0∨a=1:=by omega)<;>rcases this with rfl|rfl<;>omega
theorem qER {x:Wd}{a:Nat}{ls:List Lf}(ha:a<2)(hl:ls.length=x.n)(h0:0<x.n):inB (gSize x.n) ((gNode x.n a 0:Nat),qBS (x.areaB ls).1):=by
 refine⟨by omega,?_,?_⟩<;>simp only[qDc,qFD,hl,Int.toNat_natCast,gNode,gSize]<;>(have:a=0∨a=1:=by omega)<;>rcases this with rfl|rfl<;>omega
theorem Wd.fine.build {x:Wd}{m:Nat}(f:x.fine m)(rows:List (List UInt8)):(x.setL (qAX x.l rows).2).fine (m+rows.length+rows.length):=by
 have g:=f.up (k:=m+rows.length+rows.length) (by omega)
 exact⟨⟨g.ok.sl,g.ok.s,g.ok.d,g.ok.ep,g.ok.el,g.ok.er,g.ok.en,g.ok.cv,g.ok.cb⟩,Lk.few_mono (qEi f.few rows _) (by omega),qGi f.dat rows _⟩
theorem Wd.fine.areaW1 {x:Wd}{m a:Nat}{ls:List Lf}(f:x.fine m)(ha:a<2)(hl:ls.length=x.n)(h0:0<x.n):(x.areaW1 a ls).fine (m+ls.length+ls.length+1):=by
 have:=(f.build (qAe ls)).sWrite (qEQ (ls:=ls) ha hl h0)
 rw[qB2]at this
 exact this
theorem Wd.fine.areaW2 {x:Wd}{m a:Nat}{ls:List Lf}(f:x.fine m)(ha:a<2)(hl:ls.length=x.n)(h0:0<x.n):(x.areaW2 a ls).fine (m+ls.length+ls.length+1+1):=
 (f.areaW1 (a:=a) (ls:=ls) ha hl h0).sWrite (qER (ls:=ls) ha hl h0)
structure qSU (w:World)(B:Nat)(v8 v9:Value)(rows:List (List UInt8)):Prop where
 own:qBx 32 5 w B v8 rows
 each:∀r∈rows,r.length=32
 all:w.ownsRow B 5 1 v9 rows.flatten.length (qA1 rows.flatten)
 nil:rows= []→v9.ownBlock=none
theorem qSU.empty (w:World)(B:Nat):qSU w B (.slice none 0 0) (.slice none 0 0) []:=
 ⟨⟨[],rfl,⟨rfl,.inl ⟨rfl,rfl⟩⟩,by simp,by simp⟩,by simp,⟨rfl,.inl ⟨rfl,rfl⟩⟩,fun _=>rfl⟩
theorem qSh {rows:List (List UInt8)}(h:∀r∈rows,r.length=32):rows.flatten.length=rows.length*32:=by
 induction rows with
 | nil=>rfl
 | cons r rows ih=>simp only[List.flatten_cons,List.length_append,List.length_cons];rw[h r (by simp),ih (fun r c=>h r (by simp[c]))];omega
theorem qNI (rows:List (List UInt8))(b:List UInt8):(rows++ [b]).flatten=rows.flatten++b:=by simp
theorem qBx.one {T E:TypeId}{col:Nat→Nat}{w0 w w':World}{B:Nat}{v:Value}{rows:List (List UInt8)}(h:qBx T E w B v rows)(ht:Top col w0)(hB:w0.heap.size≤B)(o:One 5 col col w w'):qBx T E w' B v rows:=by
 obtain⟨us,F,N,J,q⟩:=h
 have f:=o.same (j:=0) (by omega)
 have z:∀ {u:Value} {n size:Nat} {e:TypeId} {xs:List Value},w.ownsRow B e size u n xs→w'.ownsRow B e size u n xs:=fun c=>f.own c fun g G=>ht g (Nat.le_trans hB (qAN c G))
 exact⟨us,F,z N,J,fun i bs u I l=>z (q i bs u I l)⟩
theorem Ext.newset {m g:Nat}{col col':Nat→Nat}{w w1 w2:World}(h:Ext m col col' w w1)(hc:Chg [g] w1 w2)(hg:w.heap.size≤g):Ext m col col' w w2:=
 ⟨hc.os.trans h.os,hc.tape.trans h.tape,hc.output.trans h.output,Nat.le_trans h.size hc.size,h.old,h.new,fun k c=>h.top k (Nat.le_trans hc.size c),fun k c f=>(hc.block k (Nat.lt_of_lt_of_le c h.size) (by rw[List.mem_singleton];omega)).trans (h.block k c f)⟩
theorem Ext.sameOn {m:Nat}{col0 col col':Nat→Nat}{w0 w w':World}(h:Ext m col col' w w')(hc:∀k,k<w0.heap.size→col k=col0 k):qA8 (fun k=>k<w0.heap.size∧(col0 k=0∨m<col0 k)) w w':=
 ⟨h.os,h.tape,h.output,h.size,fun k f c=>h.block k f (by rw[hc k c.1];exact c.2)⟩
theorem qES {col:Nat→Nat}{w0 w:World}{B n size:Nat}{e:TypeId}{v:Value}{xs:List Value}(h:w.ownsRow B e size v n xs)(ht:Top col w0)(hB:w0.heap.size≤B):∀g,v.ownBlock=some g→col g=0:=fun g c=>ht g (Nat.le_trans hB (qAN h c))
theorem qI4 {col:Nat→Nat}{w0 w:World}{B n:Nat}{e:TypeId}{v:Value}{xs:List Value}(h:w.ownsRow B e 1 v n xs)(ht:Top col w0)(hB:w0.heap.size≤B):∀a c,v= .slice (some a) n c→0<xs.length→col a.block=0:=fun a c e hl=>by
 have hn:0<n:=by have:=h.1;omega
 obtain⟨g,cap,f⟩:=qAy h hn
 rw[f]at e
 cases e
 exact ht g (Nat.le_trans hB (qAN h (by rw[f];rfl)))
theorem qLe {A:Nat→Prop}{w w':World}{B n size:Nat}{e:TypeId}{v:Value}{xs:List Value}(h:w.ownsRow B e size v n xs)(s:qA8 A w w')(hA:∀g,v.ownBlock=some g→A g):w'.ownsRow B e size v n xs:=by
 refine⟨h.1,?_⟩
 rcases h.2 with h0|⟨g',cap',cur,rfl,hB,hb,r⟩
 · exact .inl h0
 · exact .inr ⟨g',cap',cur,rfl,hB,(s.block g' (Blk.lt hb) (hA g' rfl)).trans hb,r⟩
theorem qMe {col:Nat→Nat}{w:World}{P:qAU}{x:Wd}{m:Nat}(hW:qAW col w P x)(fi:x.fine m)(hm:m≤60000)(a:Nat)(ha:a<2)(vl:Value)(ls:List Lf)(hl:ls.length=x.n)(hok:qB7 ls)(hs:Sl w vl ls.length (qAv ls)) :
 Calls prog 174 #[.pointer (some ⟨P.W,0,none⟩),.int .i64 (a:Int),vl] w fun e w'=>e= .returned (.tuple #[Pr (x.areaP a ls),.int .i64 (x.areaE a ls)])∧qHd 6 col w P (x.areaW a ls) w':=by
 obtain⟨va,vc,rfl⟩:=hs.len
 have k3:=qAo fi.ok.sl
 obtain⟨N,hN⟩:∃N,N=ls.length:=⟨_,rfl⟩
 have g8:x.n=N:=by rw[hN,hl]
 rw[←hN]at hs
 have HN:=qh hN
 have h9:=hW.blk
 rw[g8]at h9 k3
 have HX:=qh g8
 rw[←hN]
 have i1:(N:Int)≤16:=by omega
 have i2:(0:Int)<(N:Int):=by omega
 have d8:qA4 w (w.alloc (.cells #[U 0#64,U 0#64] 115)):=qal _
 have bZ:=Blk.new w #[U 0#64,U 0#64] 115
 have q0:=(h9.kept d8).cell 0
 clear hN g8 hl
 go_enter func174,ntmps174
 go_wp2_with fail
 refine(qNH P.W a ha _).mono ?_
 rintro e w1 ⟨rfl,rfl⟩
 go_wp2_with fail
 obtain⟨wA,k4⟩:∃wA,wA=(w.alloc (.cells #[U 0#64,U 0#64] 115)):=⟨_,rfl⟩
 rw[←k4]at d8 bZ q0 ⊢
 clear k4
 go_loopw [36,8,9] (fun i v8 v9 wr=>∃k:Nat,i= .int .i64 k∧k≤N∧qA4 wA wr∧qSU wr wA.heap.size v8 v9 (qAe (ls.take k))) (fun i _ _ _=>N - (intOf i).toNat)
 case atStart=>exact⟨0,rfl,by omega,Below.refl _ _,qSU.empty _ _⟩
 case round =>
  obtain⟨k,rfl,hk,b4,hL⟩:=hrel
  have n3:=b4.size
  by_cases j2:k<N
  · have m1:(k:Int)<(N:Int):=by omega
    have m2:(0:Int)≤(k:Int):=by omega
    have o1:k<ls.length:=by rw[←HN.out];exact j2
    obtain⟨y,hy⟩:∃y,y=ls[k]:=⟨_,rfl⟩
    have f6:ls[k]? = some y:=by rw[List.getElem?_eq_getElem o1,hy]
    have j6:=hok k y f6
    obtain⟨bA,oA,cA,e,_,_,_,j0⟩:=((hs.kept d8).kept b4).at (by rw[qBl];omega)
    cases e
    have hw:∀j u,y.cells[j]? = some u→wr.cell? ⟨bA,oA+(k*8+j),none⟩=some u:=fun j u hj=>j0 _ u (qDR ls k y f6 j u hj)
    have d0:wr.cell? ⟨bA,oA+k*8,none⟩=some (.int .i64 y.kind):=hw 0 _ rfl
    have d1:wr.cell? ⟨bA,oA+k*8+1,none⟩=some (.bool y.dirty):=hw 1 _ rfl
    have d2:wr.cell? ⟨bA,oA+k*8+2,none⟩=some (.int .i64 y.lba):=hw 2 _ rfl
    have d3:wr.cell? ⟨bA,oA+k*8+3,none⟩=some (W y.ep):=hw 3 _ rfl
    have d4:wr.cell? ⟨bA,oA+k*8+4,none⟩=some (W y.sl):=hw 4 _ rfl
    have d5:wr.cell? ⟨bA,oA+k*8+5,none⟩=some (U y.ver):=hw 5 _ rfl
    have d6:wr.cell? ⟨bA,oA+k*8+6,none⟩=some (U y.tag.1):=hw 6 _ rfl
    have d7:wr.cell? ⟨bA,oA+k*8+7,none⟩=some (U y.tag.2):=hw 7 _ rfl
    have G:qAe (ls.take (k+1))=qAe (ls.take k)++ [qBr y]:=by rw[List.take_add_one,f6];exact qI3 _ _
    have i0:(qAe (ls.take k)).length=k:=by rw[qB2,List.length_take];omega
    obtain⟨rows,b7⟩:∃r,r=qAe (ls.take k):=⟨_,rfl⟩
    rw[←b7]at hL G i0
    obtain⟨⟨us,u1,u2,u3,u4⟩,k6,k1,o9⟩:=hL
    have l6:=qSh k6
    have m6:=qh G
    have f2:=qh i0
    have j7:=qh l6
    have U1:=qh u1
    have CC:=qDD y.kind y.dirty y.lba y.ep y.sl y.ver y.tag.1 y.tag.2 (k:Int) (by omega) (by omega) j6
    obtain⟨Fl,h6⟩:∃n,n=rows.flatten.length:=⟨_,rfl⟩
    obtain⟨Rl,i7⟩:∃n,n=rows.length:=⟨_,rfl⟩
    rw[←h6]at k1
    rw[←i7]at u2
    have HF:=qh h6
    have HR:=qh i7
    obtain⟨lb,e5⟩:∃b,b=qBr y:=⟨_,rfl⟩
    have g3:lb.length=32:=by rw[e5];exact qBi y
    have o2:∀wx,Calls prog 146 #[.agg #[.int .i64 y.kind,.bool y.dirty,.int .i64 y.lba,W y.ep,W y.sl,U y.ver,U y.tag.1,U y.tag.2],.int .i64 (k:Int)] wx fun e' w'=>∃x,e'= .returned (.tuple #[x,.bool true])∧w'.ownsRow wx.heap.size 5 1 x 32 (qA1 lb)∧qA4 wx w':=fun wx=>by rw[e5];exact CC wx
    have m0:=qh e5
    have e7:=qh g3
    clear hw j0 hy b7 G i0 l6 u1 CC h6 i7 e5 g3 f6 j6
    have j9:qA4 wr (wr.alloc (.cells #[.int .i64 y.kind,.bool y.dirty,.int .i64 y.lba,W y.ep,W y.sl,U y.ver,U y.tag.1,U y.tag.2] 117)):=qal _
    go_wp2_with fail
    refine(o2 _).mono ?_
    rintro e w2 ⟨u,rfl,hu,q⟩
    have a8:qA4 wr w2:=j9.of q
    have a3:=a8.size
    obtain⟨ua,uc,rfl⟩:=(Sl.of_own hu).len
    have q1:Rl+1≤100:=by rw[HR.out,f2.out];omega
    have q3:Fl+32≤4000:=by rw[HF.out,j7.out];have:=f2.out;omega
    have c8:=qA5 u2 a8
    have q2:=qAh hu (Nat.zero_le _)
    go_wp2_with (first|(at_builtin;refine qAw qHR rfl (by rfl) (by rfl) (by rfl) (c8.alloc _) (Sl.one _ _ _) (by rfl) (fun x hx=>by rw[List.mem_singleton.1 hx];exact qD5 hu) (by unfold maxLen;omega) (by omega) (by simp;omega) ?_;intro v3 w3 h4 c7 p3;have b9:qA4 w2 (w2.alloc (.cells #[.slice ua 32 uc] 32)):=qal _;have m3:qA4 wA w3:=qAF ((b4.of a8).alloc (by omega) _) (c8.alloc _) c7 (by simp;omega);have o4:=qEy (qA5 hu b9) (c8.alloc _) (by decide) c7;have h8:=qEy (qA5 (qA5 k1 a8) b9) (c8.alloc _) (by decide) c7;have f4:w2.heap.size≤w3.heap.size:=Nat.le_trans b9.size c7.size)|(at_builtin;refine qBb qAx rfl (by rfl) (by rfl) (by rfl) h8 (show Sl w3 (.slice ua 32 uc) 32 (qA1 lb) from Sl.of_own o4) (by rw[qA7,e7.out]) (qAP _) (by unfold maxLen;omega) (by omega) (by omega) ?_;intro v4 w4 h3 b5 p4 _))
    have g7:=b5.size
    have el:∀(u:Value) (bs:List UInt8),bs.length=32→w3.ownsRow wA.heap.size 5 1 u bs.length (qA1 bs)→w4.ownsRow wA.heap.size 5 1 u bs.length (qA1 bs):=fun u bs hb ho=>by
     by_cases l8:k=0
     · have n4:rows= []:=List.eq_nil_of_length_eq_zero (by rw[f2.out,l8])
       have l3:=o9 n4
       rw[l3]at b5
       exact qAO ho b5.chgL (fun g hg hm=>by cases hm)
     · exact b5.own ho (by rw[hb,HF.out,j7.out];have:=f2.out;omega)
    have Y:qA4 wA w4:=m3.trans (b5.below (fun i hi=>(h8.lt i hi).1) (by omega))
    refine⟨⟨k+1,rfl,by omega,Y,?_⟩,by simp[intOf];omega⟩
    rw[m6.out,←m0.out]
    have R3:qBx 32 5 w3 wA.heap.size v3 (rows++ [lb]):=
     qBx.snoc U1.out (by rw[←HR.out];exact c8.alloc _) u3 (fun i bs x hi hx=>qA5 (qA5 (u4 i bs x hi hx) a8) b9) (by rw[e7.out];exact qAh (qA5 hu b9) (Nat.le_trans n3 j9.size)) (by decide) c7 (by rw[←HR.out];exact h4)
    obtain⟨n9,r1,r2,r3,r4⟩:=R3
    have j4:∀r∈rows++ [lb],r.length=32:=fun r hr=>by
     rcases List.mem_append.1 hr with hr|hr
     · exact k6 r hr
     · rw[List.mem_singleton.1 hr];exact e7.out
    refine⟨⟨n9,r1,qAO r2 b5.chgL (fun g hg hm=>?_),r3,fun i bs u hi hx=>el u bs (j4 bs (List.mem_of_getElem? hi)) (r4 i bs u hi hx)⟩,j4,?_,fun e=>by simp at e⟩
    · obtain⟨c1,m4⟩:=qAq r2 hg
      obtain⟨c2,l9⟩:=qAq h8 (qAt.1 hm)
      exact qAE m4 l9 (by decide) rfl
    · rw[qNI,List.length_append,qBk,e7.out,←HF.out]
      exact h3
  · have m9:k=N:=by omega
    have k7:ls.take k=ls:=List.take_of_length_le (by rw[←HN.out];omega)
    rw[k7]at hL
    have p6:¬(k:Int)<(N:Int):=by omega
    clear m9 k7 j2 hk
    obtain⟨o3,n7,i6,_⟩:=hL
    have c6:=d8.of b4
    have h7:=d8.size
    have e6:=hW.kept c6
    have CB:=qHj col P.l x.l _ (qAe ls) (by rw[qB2,←HN.out,←HX.out];exact fi.ok.sl) (fun r hr=>by rw[n7 r hr];omega) (Lk.few_mono fi.few (by omega)) wr e6.lock e6.top (fun w' o=>(o3.one hW.top h7 o).sl)
    rw[qB2,←HN.out]at CB
    have qW:=e6.blk.cell 6
    have q4:=h9.kept c6
    go_wp2_with fail
    refine CB.mono ?_
    rintro e wB ⟨g,rfl,f7,p9,o8,o5⟩
    have p8:=f7.lt
    obtain⟨l1,eB⟩:=e6.stepL o8 o5
    have j3:wB.ownsRow wA.heap.size 5 1 _ (qAe ls).flatten.length (qA1 (qAe ls).flatten):=(o5.same (j:=0) (by omega)).own i6 (qES i6 hW.top h7)
    have e2:(qAX x.l (qAe ls)).1.length=2*N:=by rw[qDa,qB2,←HN.out]
    obtain⟨nd,g6⟩:∃n,n=(qAX x.l (qAe ls)).1:=⟨_,rfl⟩
    rw[←g6]at f7 e2
    have g9:=qh g6
    have f8:=qh e2
    clear g6 e2 qW
    have j1:2*(N:Int)≤32:=by omega
    go_wp2_with fail
    go_loopw [69,10] (fun i o0 wr=>∃k:Nat,i= .int .i64 k∧k≤2*N∧qA4 wB wr∧wr.ownsRow wB.heap.size 5 1 o0 (k*16) (qA1 (qBS (nd.take k)))) (fun i _ _=>2*N - (intOf i).toNat)
    case atStart=>exact⟨0,rfl,by omega,Below.refl _ _,⟨rfl,.inl ⟨rfl,rfl⟩⟩⟩
    case round =>
     obtain⟨k2,rfl,q,J,Z⟩:=hrel
     have p7:=J.size
     by_cases g4:k2<2*N
     · have m1:(k2:Int)<2*(N:Int):=by omega
       have m2:(0:Int)≤(k2:Int):=by omega
       have d9:k2<nd.length:=by rw[f8.out];exact g4
       have e1:=qCv nd k2 d9
       have k8:=f7.kept J
       have c0:=(k8.cell (k2*2)).trans e1.1
       have c1:=(k8.cell (k2*2+1)).trans e1.2
       have G:qBS (nd.take (k2+1))=qBS (nd.take k2)++qAJ (nd[k2]?.getD (0#64,0#64)):=by rw[List.take_add_one,List.getElem?_eq_getElem d9];exact qKr _ _
       obtain⟨p,hp⟩:∃p,p=nd[k2]?.getD (0#64,0#64):=⟨_,rfl⟩
       rw[←hp]at c0 c1 G
       have g1:=qh G
       obtain⟨p1,p2⟩:=p
       have o7:qA4 wr (wr.alloc (.cells #[U p1,U p2] 115)):=qal _
       have CY:=fun wx=>qBs p1 p2 wx
       obtain⟨pb,i4⟩:∃b,b=qAJ (p1,p2):=⟨_,rfl⟩
       have l4:pb.length=16:=by rw[i4];exact qAs _
       rw[←i4]at CY g1
       have n8:=qh l4
       clear hp G e1 d9 i4 l4
       simp only at c0 c1
       go_wp2_with fail
       refine(CY _).mono ?_
       rintro e w5 ⟨u5,rfl,m5,n2⟩
       have c4:=o7.of n2
       have f9:=qA5 Z c4
       have m8:=c4.size
       go_wp2_with (at_builtin;refine qBb qAx rfl (by rfl) (by rfl) (by rfl) f9 (Sl.of_own m5) (by rw[qA7,n8.out]) (qAP _) (by unfold maxLen;omega) (by omega) (by omega) ?_;intro v6 w6 i3 n6 p5 _)
       refine⟨⟨k2+1,rfl,by omega,(J.of c4).trans (n6.below (fun i hi=>(f9.lt i hi).1) (by omega)),?_⟩,by simp[intOf];omega⟩
       rw[g1.out,qBk,show(k2+1)*16=k2*16+16 by omega]
       exact i3
     · have g2:k2=2*N:=by omega
       have g0:nd.take k2=nd:=List.take_of_length_le (by rw[f8.out];omega)
       rw[g0,g2]at Z
       have o6:¬(k2:Int)<2*(N:Int):=by omega
       clear g2 g0 g4 q
       have e0:=l1.kept J
       have eC:Ext 6 col col w wr:=((Ext.kept hW.top c6).trans eB).trans (Ext.kept l1.top J)
       have i9:w.heap.size≤wr.heap.size:=eC.size
       have I:Blk wr w.heap.size #[U 0#64,U 0#64] 115:=Blk.kept ((o5.block _ (bZ.kept b4).lt (by rw[hW.top _ qle];decide)).trans (bZ.kept b4)) J
       have l5:w.heap.size≤wB.heap.size:=((Ext.kept (m:=6) hW.top c6).trans eB).size
       have p0:col g=0:=hW.top g (by have:=c6.size;omega)
       have i5:=f7.kept J
       have l7:=(Sl.of_own j3).kept J
       have j8:=qI4 i6 hW.top h7
       have f5:qD9 (N:Int)=true:=by rw[←HX.out];exact fi.ok.sl
       have e3:ls.length=x.n:=by rw[←HN.out,HX.out]
       have e4:0<x.n:=by rw[HX.out];omega
       have l2:(x.setL (qAX x.l (qAe ls)).2).fine (m+N+N):=by have:=fi.build (qAe ls);rw[qB2,←HN.out]at this;exact this
       have n5:(x.areaW1 a ls).fine (m+N+N+1):=by have:=fi.areaW1 (ls:=ls) ha e3 e4;rw[←HN.out]at this;exact this
       have g5:inB (gSize (x.setL (qAX x.l (qAe ls)).2).n) ((gLeaf N a 0:Nat),(qAe ls).flatten):=by
        have:=qEQ (x:=x) (ls:=ls) ha e3 e4
        rw[HX.out]at this
        show inB (gSize x.n) _
        rw[HX.out];exact this
       have l0:inB (gSize (x.areaW1 a ls).n) ((gNode N a 0:Nat),qBS nd):=by
        have:=qER (x:=x) (ls:=ls) ha e3 e4
        unfold Wd.areaB at this
        rw[HX.out,←g9.out]at this
        show inB (gSize x.n) _
        rw[HX.out];exact this
       have CL:∀z,Calls prog 105 #[.agg #[.int .i64 (N:Int)],.int .i64 (a:Int),.int .i64 0] z fun e z'=>e= .returned (.int .i64 (gLeaf N a 0:Nat))∧qA4 z z':=fun z=>qGc N f5 a 0 ha (by omega) z
       have CN:∀z,Calls prog 185 #[.agg #[.int .i64 (N:Int)],.int .i64 (a:Int),.int .i64 0] z fun e z'=>e= .returned (.int .i64 (gNode N a 0:Nat))∧qA4 z z':=fun z=>qNq N f5 a 0 ha (by omega) z
       obtain⟨B1,j5⟩:∃b,b=x.p.spend.1:=⟨_,rfl⟩
       obtain⟨B2,k5⟩:∃b,b=(x.areaW1 a ls).p.spend.1:=⟨_,rfl⟩
       have a6:=qh j5
       have h5:=qh k5
       replace e4:=qh e4
       replace e3:=qh e3
       replace f5:=qh f5
       clear j5 k5
       go_wp2_with fail
       cases B1 with
       | false =>
        refine qAf (qA8 (fun k=>k<wr.heap.size∧(col k=0∨6<col k))) [(0,0),(1,0),(2,0),(3,0),(4,0),(5,0),(6,0),(7,0),(8,0),(10,0),(9,1),(11,1),(12,0),(13,0),(14,0),(15,0),(16,0),(17,0),(18,0),(19,0),(20,0),(21,0),(22,0),(24,0),(23,1),(25,1),(26,0),(27,0)] (by kernel_rfl) (by kernel_rfl) ?_ ?_ ?_
        · exact fun _=>qA8.refl _
        · exact fun _ _ _ h1 h2=>h1.trans h2
        intro z1 f
        have O:=e0.kept f
        have a9:=O.blk
        rw[show(x.setL (qAX x.l (qAe ls)).2).n=N from HX.out]at a9
        have a7:=Nat.lt_of_lt_of_le hW.blk.lt i9
        repeat
         refine qA0 _ rfl (fun K h=>?_)
         first
          | (refine qqP (by rfl) ?_;apply Exists.intro;refine⟨fun w' a2=>?_,h _ ?_⟩;(have c:=(a2.block _ (a9).lt ⟨a7,.inr (by rw[hW.cW];decide)⟩).trans (a9);have c0:=Blk.cell c 0;have c2:=Blk.cell c 2;clear c;go_simp;first|done|rfl))
          | refine qqN (by rfl) (h _ ?_)
         clear h K;simp only[Act.put,qqB]
        refine qqH _ rfl (by rfl) (fun K h=>?_)
        go_wp2_with fail
        refine(CL z1).mono ?_
        rintro e z2 ⟨rfl,q⟩
        have a3:=q.size
        go_wp2
        refine h _ _ (qA8.of_kept q) ?_
        clear h K
        try simp only[Act.put,qqB]
        refine qqH _ rfl (by rfl) (fun K h=>?_)
        go_wp2_with fail
        refine(qEK (O.kept q) l2.ok (by omega) (gLeaf N a 0:Nat) _ (qAe ls).flatten g5 ((l7.kept f).kept q) j8).mono ?_
        rintro e z3 ⟨rfl,a1,a0,E3⟩
        rw[show(x.setL (qAX x.l (qAe ls)).2).p.spend.1=_ from a6.out.symm]
        have S3:=E3.sameOn (w0:=wr) (col0:=col) (fun k hk=>rfl)
        have f4:=E3.size
        have b3:=a0.blk
        rw[show(((x.setL (qAX x.l (qAe ls)).2).sWrite ((gLeaf N a 0:Nat),(qAe ls).flatten)).n)=N from HX.out]at b3
        replace a0:qAW a1 z3 P (x.areaW1 a ls):=by unfold Wd.areaW1 Wd.areaB;rw[HX.out];exact a0
        go_wp2
        refine h _ _ (S3) ?_
        clear h K
        try simp only[Act.put,qqB]
        repeat
         refine qA0 _ rfl (fun K h=>?_)
         first
          | (refine qqP (by rfl) ?_;apply Exists.intro;refine⟨fun w' a2=>?_,h _ ?_⟩;(have c:=(a2.block _ (b3).lt ⟨a7,.inr (by rw[hW.cW];decide)⟩).trans (b3);have c0:=Blk.cell c 0;have c2:=Blk.cell c 2;clear c;go_simp;first|done|rfl))
          | refine qqN (by rfl) (h _ ?_)
         clear h K;simp only[Act.put,qqB]
        refine qBa _ rfl (fun K h=>?_)
        refine qqN (by rfl) ?_
        intro c5
        refine c5 _ _ ?_
        clear h c5 K
        simp only[Act.put,qqB]
        refine qBa _ rfl (fun K h=>?_)
        refine qqN (by rfl) ?_
        intro c5
        refine c5 _ _ ?_
        clear h c5 K
        simp only[Act.put,qqB]
        repeat
         refine qA0 _ rfl (fun K h=>?_)
         first
          | (refine qqP (by rfl) ?_;apply Exists.intro;refine⟨fun w' a2=>?_,h _ ?_⟩;go_simp;first|done|rfl)
          | refine qqN (by rfl) (h _ ?_)
         clear h K;simp only[Act.put,qqB]
        refine qA6 ?_
        have ex:Ext 6 col a1 w z3:=((eC.trans (Ext.kept e0.top f)).trans (Ext.kept O.top q)).trans E3
        have F:Blk z3 w.heap.size #[U 0#64,U 0#64] 115:=(((qA8.of_kept q).trans S3).block _ (I.kept f).lt ⟨I.lt,.inl (hW.top _ qle)⟩).trans (I.kept f)
        have b8:a1 w.heap.size=0:=(E3.old _ (Nat.lt_of_lt_of_le I.lt (Nat.le_trans f.size a3))).trans (hW.top _ qle)
        have f0:=F.free 0
        have f1:=F.free 1
        have x0:=F.cell 0
        have x1:=F.cell 1
        go_wp2_with fail
        have bR:=(F.set 0 (U 0#64)).set 1 (U 0#64)
        have a4:Chg [w.heap.size] z3 ((z3.setCell ⟨w.heap.size,0,none⟩ (U 0#64)).setCell ⟨w.heap.size,1,none⟩ (U 0#64)):=((Chg.refl _ _).set qsm 0 _).set qsm 1 _
        have r0:=bR.cell 0
        have r1:=bR.cell 1
        generalize ((z3.setCell ⟨w.heap.size,0,none⟩ (U 0#64)).setCell ⟨w.heap.size,1,none⟩ (U 0#64))=zF at *
        have c3:=a0.chg a4 (fun b hb=>by rw[List.mem_singleton]at hb;subst hb;exact .inl b8)
        have a5:x.areaOk a ls=false:=by unfold Wd.areaOk;rw[←a6.out];rfl
        have b6:x.areaW a ls=x.areaW1 a ls:=by unfold Wd.areaW;rw[←a6.out];rfl
        refine bodyPost_ret (v:=.tuple #[.agg #[U 0#64,U 0#64],.int .i64 7]) (by simp[results,results174,go_sem,r0,r1];done) rfl ⟨by unfold Wd.areaP Wd.areaE;rw[a5];rfl,a1,by rw[b6];exact c3,ex.newset a4 qle⟩
       | true =>
        refine qAf (qA8 (fun k=>k<wr.heap.size∧(col k=0∨6<col k))) [(0,0),(1,0),(2,0),(3,0),(4,0),(5,0),(6,0),(7,0),(8,0),(10,0),(9,1),(11,1),(12,0),(13,0),(14,0),(15,0),(16,0),(17,0),(18,0),(19,0),(20,0),(21,0),(22,0),(24,0),(23,1),(25,1),(26,0),(27,0)] (by kernel_rfl) (by kernel_rfl) ?_ ?_ ?_
        · exact fun _=>qA8.refl _
        · exact fun _ _ _ h1 h2=>h1.trans h2
        intro z1 f
        have O:=e0.kept f
        have a9:=O.blk
        rw[show(x.setL (qAX x.l (qAe ls)).2).n=N from HX.out]at a9
        have a7:=Nat.lt_of_lt_of_le hW.blk.lt i9
        repeat
         refine qA0 _ rfl (fun K h=>?_)
         first
          | (refine qqP (by rfl) ?_;apply Exists.intro;refine⟨fun w' a2=>?_,h _ ?_⟩;(have c:=(a2.block _ (a9).lt ⟨a7,.inr (by rw[hW.cW];decide)⟩).trans (a9);have c0:=Blk.cell c 0;have c2:=Blk.cell c 2;clear c;go_simp;first|done|rfl))
          | refine qqN (by rfl) (h _ ?_)
         clear h K;simp only[Act.put,qqB]
        refine qqH _ rfl (by rfl) (fun K h=>?_)
        go_wp2_with fail
        refine(CL z1).mono ?_
        rintro e z2 ⟨rfl,q⟩
        have a3:=q.size
        go_wp2
        refine h _ _ (qA8.of_kept q) ?_
        clear h K
        try simp only[Act.put,qqB]
        refine qqH _ rfl (by rfl) (fun K h=>?_)
        go_wp2_with fail
        refine(qEK (O.kept q) l2.ok (by omega) (gLeaf N a 0:Nat) _ (qAe ls).flatten g5 ((l7.kept f).kept q) j8).mono ?_
        rintro e z3 ⟨rfl,a1,a0,E3⟩
        rw[show(x.setL (qAX x.l (qAe ls)).2).p.spend.1=_ from a6.out.symm]
        have S3:=E3.sameOn (w0:=wr) (col0:=col) (fun k hk=>rfl)
        have f4:=E3.size
        have b3:=a0.blk
        rw[show(((x.setL (qAX x.l (qAe ls)).2).sWrite ((gLeaf N a 0:Nat),(qAe ls).flatten)).n)=N from HX.out]at b3
        replace a0:qAW a1 z3 P (x.areaW1 a ls):=by unfold Wd.areaW1 Wd.areaB;rw[HX.out];exact a0
        go_wp2
        refine h _ _ (S3) ?_
        clear h K
        try simp only[Act.put,qqB]
        repeat
         refine qA0 _ rfl (fun K h=>?_)
         first
          | (refine qqP (by rfl) ?_;apply Exists.intro;refine⟨fun w' a2=>?_,h _ ?_⟩;(have c:=(a2.block _ (b3).lt ⟨a7,.inr (by rw[hW.cW];decide)⟩).trans (b3);have c0:=Blk.cell c 0;have c2:=Blk.cell c 2;clear c;go_simp;first|done|rfl))
          | refine qqN (by rfl) (h _ ?_)
         clear h K;simp only[Act.put,qqB]
        refine qqH _ rfl (by rfl) (fun K h=>?_)
        go_wp2_with fail
        refine(CN z3).mono ?_
        rintro e z4 ⟨rfl,Y⟩
        have g7:=Y.size
        go_wp2
        refine h _ _ (qA8.of_kept Y) ?_
        clear h K
        try simp only[Act.put,qqB]
        refine qqH _ rfl (by rfl) (fun K h=>?_)
        go_wp2_with fail
        have k9:=qA5 Z f
        have k0:=qLe k9 ((qA8.of_kept q).trans S3) (fun g hg=>⟨qAp Z hg,.inl (qES Z hW.top l5 g hg)⟩)
        have m7:=qA5 k0 Y
        have c9:(qBS nd).length=2*N*16:=by rw[qDc,f8.out]
        refine(qEK (a0.kept Y) n5.ok (by omega) (gNode N a 0:Nat) _ (qBS nd) l0 (by rw[c9];exact Sl.of_own m7) (fun a c e hl=>by
         rw[c9]at e
         have h0:=qI4 Z hW.top l5 a c e hl
         have h1:=(Sl.of_own Z).low a c e hl
         rw[E3.old _ (Nat.lt_of_lt_of_le h1 (Nat.le_trans f.size a3))]
         exact h0)).mono ?_
        rintro e z5 ⟨rfl,V,e9,E5⟩
        rw[←h5.out]
        have S5:=E5.sameOn (w0:=wr) (col0:=col) (fun k hk=>E3.old k (Nat.lt_of_lt_of_le hk (Nat.le_trans f.size a3)))
        have m8:=E5.size
        replace e9:qAW V z5 P (x.areaW2 a ls):=by unfold Wd.areaW2 Wd.areaB;rw[HX.out,←g9.out];exact e9
        go_wp2
        refine h _ _ (S5) ?_
        clear h K
        try simp only[Act.put,qqB]
        repeat
         refine qA0 _ rfl (fun K h=>?_)
         first
          | (refine qqP (by rfl) ?_;apply Exists.intro;refine⟨fun w' a2=>?_,h _ ?_⟩;go_simp;first|done|rfl)
          | refine qqN (by rfl) (h _ ?_)
         clear h K;simp only[Act.put,qqB]
        refine qA6 ?_
        cases B2 with
        | false =>
         have ex:Ext 6 col V w z5:=((((eC.trans (Ext.kept e0.top f)).trans (Ext.kept O.top q)).trans E3).trans (Ext.kept a0.top Y)).trans E5
         have F:Blk z5 w.heap.size #[U 0#64,U 0#64] 115:=(((((qA8.of_kept q).trans S3).trans (qA8.of_kept Y)).trans S5).block _ (I.kept f).lt ⟨I.lt,.inl (hW.top _ qle)⟩).trans (I.kept f)
         have b8:V w.heap.size=0:=((E5.old _ (Nat.lt_of_lt_of_le I.lt (Nat.le_trans f.size (Nat.le_trans a3 (Nat.le_trans f4 g7))))).trans (E3.old _ (Nat.lt_of_lt_of_le I.lt (Nat.le_trans f.size a3)))).trans (hW.top _ qle)
         have f0:=F.free 0
         have f1:=F.free 1
         have x0:=F.cell 0
         have x1:=F.cell 1
         go_wp2_with fail
         have bR:=(F.set 0 (U 0#64)).set 1 (U 0#64)
         have a4:Chg [w.heap.size] z5 ((z5.setCell ⟨w.heap.size,0,none⟩ (U 0#64)).setCell ⟨w.heap.size,1,none⟩ (U 0#64)):=((Chg.refl _ _).set qsm 0 _).set qsm 1 _
         have r0:=bR.cell 0
         have r1:=bR.cell 1
         generalize ((z5.setCell ⟨w.heap.size,0,none⟩ (U 0#64)).setCell ⟨w.heap.size,1,none⟩ (U 0#64))=zF at *
         have c3:=e9.chg a4 (fun b hb=>by rw[List.mem_singleton]at hb;subst hb;exact .inl b8)
         have a5:x.areaOk a ls=false:=by unfold Wd.areaOk;rw[←a6.out,←h5.out];rfl
         have b6:x.areaW a ls=x.areaW2 a ls:=by unfold Wd.areaW;rw[←a6.out];rfl
         refine bodyPost_ret (v:=.tuple #[.agg #[U 0#64,U 0#64],.int .i64 7]) (by simp[results,results174,go_sem,r0,r1];done) rfl ⟨by unfold Wd.areaP Wd.areaE;rw[a5];rfl,V,by rw[b6];exact c3,ex.newset a4 qle⟩
        | true =>
         have ex:Ext 6 col V w z5:=((((eC.trans (Ext.kept e0.top f)).trans (Ext.kept O.top q)).trans E3).trans (Ext.kept a0.top Y)).trans E5
         have F:Blk z5 w.heap.size #[U 0#64,U 0#64] 115:=(((((qA8.of_kept q).trans S3).trans (qA8.of_kept Y)).trans S5).block _ (I.kept f).lt ⟨I.lt,.inl (hW.top _ qle)⟩).trans (I.kept f)
         have b8:V w.heap.size=0:=((E5.old _ (Nat.lt_of_lt_of_le I.lt (Nat.le_trans f.size (Nat.le_trans a3 (Nat.le_trans f4 g7))))).trans (E3.old _ (Nat.lt_of_lt_of_le I.lt (Nat.le_trans f.size a3)))).trans (hW.top _ qle)
         have f0:=F.free 0
         have f1:=F.free 1
         have x0:=F.cell 0
         have x1:=F.cell 1
         have i8:Blk z5 g (qAA nd).toArray 115:=(((((qA8.of_kept q).trans S3).trans (qA8.of_kept Y)).trans S5).block _ (i5.kept f).lt ⟨i5.lt,.inl p0⟩).trans (i5.kept f)
         have t1:=qCv nd 1 (by rw[f8.out];omega)
         obtain⟨T1,e8⟩:∃y,y=(nd[1]?.getD (0#64,0#64)).1:=⟨_,rfl⟩
         obtain⟨T2,f3⟩:∃y,y=(nd[1]?.getD (0#64,0#64)).2:=⟨_,rfl⟩
         rw[←e8,←f3]at t1
         have n0:=(i8.cell 2).trans t1.1
         have n1:=(i8.cell 3).trans t1.2
         replace e8:=qh e8
         replace f3:=qh f3
         go_wp2_with fail
         have bR:=(F.set 0 (U T1)).set 1 (U T2)
         have a4:Chg [w.heap.size] z5 ((z5.setCell ⟨w.heap.size,0,none⟩ (U T1)).setCell ⟨w.heap.size,1,none⟩ (U T2)):=((Chg.refl _ _).set qsm 0 _).set qsm 1 _
         have r0:=bR.cell 0
         have r1:=bR.cell 1
         generalize ((z5.setCell ⟨w.heap.size,0,none⟩ (U T1)).setCell ⟨w.heap.size,1,none⟩ (U T2))=zF at *
         have c3:=e9.chg a4 (fun b hb=>by rw[List.mem_singleton]at hb;subst hb;exact .inl b8)
         have a5:x.areaOk a ls=true:=by unfold Wd.areaOk;rw[←a6.out,←h5.out];rfl
         have b6:x.areaW a ls=x.areaW2 a ls:=by unfold Wd.areaW;rw[←a6.out];rfl
         refine bodyPost_ret (v:=.tuple #[.agg #[U T1,U T2],.int .i64 0]) (by simp[results,results174,go_sem,r0,r1];done) rfl ⟨by unfold Wd.areaP Wd.areaE;rw[a5];rw[if_pos rfl,if_pos rfl];unfold Wd.areaTop Wd.areaB Pr;rw[←g9.out,e8.out,f3.out],V,by rw[b6];exact c3,ex.newset a4 qle⟩
def Wd.areaRows (x:Wd)(a:Nat):List (List UInt8):=(List.range x.n).map fun i=>(x.sd.snap.drop (gLeaf x.n a i)).take 32
def qCc:List (List UInt8)→Nat→Option (List Lf)
 | [],_=>some []
 | r::rs,i=>match qBO r (i:Int) with
  | none=>none
  | some l=>(qCc rs (i+1)).map (l:: ·)
def Wd.areaGet (x:Wd)(a:Nat)(top:qAD):Option (List Lf):=if(qAX x.l (x.areaRows a)).1[1]?.getD (0#64,0#64)=top then qCc (x.areaRows a) 0 else none
def qI5 (b:Bool)(e:Int):Int:=if b then 0 else e
theorem qBf (x:Wd)(a:Nat):(x.areaRows a).length=x.n:=by simp[Wd.areaRows]
theorem qEj:∀(rows:List (List UInt8)) (i:Nat) (ls:List Lf),ls.length=rows.length→(∀(k:Nat) (r:List UInt8) (l:Lf),rows[k]? = some r→ls[k]? = some l→qBO r ((i+k:Nat):Int)=some l)→qCc rows i=some ls
 | [],_,[],_,_=>rfl
 | [],_,_::_,h,_=>by simp at h
 | r::rs,i,[],h,_=>by simp at h
 | r::rs,i,l::ls,h,k=>by
  have c:=k 0 r l rfl rfl
  have q:=qEj rs (i+1) ls (by simpa using h) (fun j F f G hl=>by
   have:=k (j+1) F f G hl
   rw[show i+(j+1)=i+1+j by omega]at this
   exact this)
  unfold qCc
  rw[Nat.add_zero]at c
  rw[c,q]
  rfl
theorem qFE:∀(rows:List (List UInt8)) (i k:Nat) (r:List UInt8),rows[k]? = some r→qBO r ((i+k:Nat):Int)=none→qCc rows i=none
 | [],_,k,r,h,_=>by simp at h
 | r'::rs,i,0,r,h,e=>by
  simp at h
  subst h
  unfold qCc
  rw[Nat.add_zero]at e
  rw[e]
 | r'::rs,i,k+1,r,h,e=>by
  have:=qFE rs (i+1) k r (by simpa using h) (by rw[show i+1+k=i+(k+1) by omega];exact e)
  unfold qCc
  rw[this]
  split<;>rfl
theorem qGj:∀(rows:List (List UInt8)) (i:Nat) (ls:List Lf),qCc rows i=some ls→ls.length=rows.length∧∀(k:Nat) (r:List UInt8) (l:Lf),rows[k]? = some r→ls[k]? = some l→qBO r ((i+k:Nat):Int)=some l
 | [],i,ls,h=>by
  cases h
  exact⟨rfl,fun k r l c=>by simp at c⟩
 | r0::rs,i,ls,h=>by
  unfold qCc at h
  split at h
  · cases h
  · rename_i F f
    cases hrec:qCc rs (i+1) with
    | none=>rw[hrec]at h;cases h
    | some ls' =>
     rw[hrec]at h
     cases h
     obtain⟨j,q⟩:=qGj rs (i+1) ls' hrec
     refine⟨by simp[j],fun k r l c hl=>?_⟩
     match k with
     | 0=>cases c;cases hl;exact f
     | k+1 =>
      have:=q k r l c hl
      rw[show i+1+k=i+(k+1) by omega]at this
      exact this
structure qI6 (w:World)(B:Nat)(v:Value)(bs:List UInt8):Prop where
 sl:Sl w v bs.length (qA1 bs)
 blk:∀a n c,v= .slice (some a) n c→0<n→B≤a.block∧∃cur,Blk w a.block cur 5
section
variable {w w':World} {B:Nat} {v:Value} {bs:List UInt8}
theorem qI6.kept (h:qI6 w B v bs)(hk:qA4 w w'):qI6 w' B v bs:=
 ⟨h.sl.kept hk,fun a n c e hn=>by obtain⟨f,cur,j⟩:=h.blk a n c e hn;exact⟨f,cur,j.kept hk⟩⟩
theorem qI6.base {B':Nat}(h:qI6 w B v bs)(hb:B'≤B):qI6 w B' v bs:=
 ⟨h.sl,fun a n c e hn=>by obtain⟨f,j⟩:=h.blk a n c e hn;exact⟨Nat.le_trans hb f,j⟩⟩
theorem qI6.chg {gs:List Nat}(h:qI6 w B v bs)(hc:Chg gs w w')(hg:∀g∈gs,∀cur,¬Blk w g cur 5):qI6 w' B v bs:=by
 refine⟨Chg.sl h.sl hc fun a c e hl j=>?_,fun a n c e hn=>?_⟩
 · obtain⟨_,cur,f⟩:=h.blk a _ c e (by rw[qA7]at hl;exact hl)
   exact hg _ j cur f
 · obtain⟨l,cur,f⟩:=h.blk a n c e hn
   exact⟨l,cur,hc.blk f fun j=>hg _ j cur f⟩
theorem qI6.on {A:Nat→Prop}(h:qI6 w B v bs)(s:qA8 A w w')(hA:∀g,B≤g→g<w.heap.size→A g):qI6 w' B v bs:=
 ⟨s.sl h.sl fun a c e hl=>by
  obtain⟨j,cur,f⟩:=h.blk a _ c e (by rw[qA7]at hl;exact hl)
  exact hA _ j f.lt,fun a n c e hn=>by
  obtain⟨j,cur,f⟩:=h.blk a n c e hn
  exact⟨j,cur,(s.block _ f.lt (hA _ j f.lt)).trans f⟩⟩
end
def qEk (w:World)(B:Nat)(v:Value)(rows:List (List UInt8)):Prop:=
 ∃us:List Value,us.length=rows.length∧w.ownsRow B 32 1 v rows.length us∧∀(i:Nat) (bs:List UInt8) (u:Value),rows[i]? = some bs→us[i]? = some u→qI6 w B u bs
section
variable {w w':World} {B:Nat} {v:Value} {rows:List (List UInt8)}
theorem qEk.nil (w:World)(B:Nat):qEk w B (.slice none 0 0) []:=⟨[],rfl,⟨rfl,.inl ⟨rfl,rfl⟩⟩,fun i bs u h=>by simp at h⟩
theorem qEk.sl (h:qEk w B v rows):qBG w v rows:=by
 obtain⟨us,f,q,l⟩:=h
 exact⟨us,f,Sl.of_own q,fun i bs u j c=>(l i bs u j c).sl⟩
theorem qEk.kept (h:qEk w B v rows)(hk:qA4 w w'):qEk w' B v rows:=by
 obtain⟨us,f,q,l⟩:=h
 exact⟨us,f,qA5 q hk,fun i bs u j c=>(l i bs u j c).kept hk⟩
theorem qEk.on {A:Nat→Prop}(h:qEk w B v rows)(s:qA8 A w w')(hA:∀g,B≤g→g<w.heap.size→A g):qEk w' B v rows:=by
 obtain⟨us,l,c,F⟩:=h
 exact⟨us,l,qLe c s fun g f=>hA g (qAN c f) (qAp c f),fun i bs u q j=>(F i bs u q j).on s hA⟩
theorem qEk.snoc {us:List Value}{u v':Value}{bs:List UInt8}(hl:us.length=rows.length)(h2:w.ownsRow B 32 1 v rows.length us)(h3:∀(i:Nat) (bs:List UInt8) (u:Value),rows[i]? = some bs→us[i]? = some u→qI6 w B u bs)(hu:qI6 w B u bs)(hc:Chg v.ownBlock.toList w w')(h':w'.ownsRow B 32 1 v' (rows.length+1) (us++ [u])):qEk w' B v' (rows++ [bs]):=by
 have j:∀g∈v.ownBlock.toList,∀cur,¬Blk w g cur 5:=fun g q cur c=>by
  obtain⟨G,h⟩:=qAq h2 (qAt.1 q)
  exact qAE c h (by decide) rfl
 refine⟨us++ [u],by simp[hl],by simpa using h',fun i b x c f=>?_⟩
 by_cases l:i<rows.length
 · rw[List.getElem?_append_left l]at c
   rw[List.getElem?_append_left (by omega)]at f
   exact(h3 i b x c f).chg hc j
 · rw[List.getElem?_append_right (by omega)]at c
   rw[List.getElem?_append_right (by omega)]at f
   have F:i - rows.length=0:=by
    have:=(List.getElem?_eq_some_iff.1 c).1
    simp at this;omega
   rw[hl]at f
   rw[F]at c f
   simp at c f
   subst c;subst f
   exact hu.chg hc j
end
theorem qI7 {col:Nat→Nat}{w:World}{P:qAU}{x:Wd}{m:Nat}(h:qAW col w P x)(ok:x.ok m)(hm:m≤100000)(o len:Nat)(hol:o+len≤gSize x.n)(ho:o<gSize x.n)(hg:x.p.gone=false) :
 Calls prog 101 #[.pointer (some ⟨P.s,0,none⟩),.int .i64 o,.int .i64 len] w fun e w'=>∃u c,e= .returned (.tuple #[.slice u len c,.bool true])∧qI6 w' w.heap.size (.slice u len c) ((x.sd.snap.drop o).take len)∧((x.sd.snap.drop o).take len).length=len∧qA4 w w':=by
 refine(qPe _ P.s P.b x.sd (gSize x.n) m ok.size.1 (by have:=ok.size;omega) hm w h.sdAt ok.s o len hol ho hg).mono ?_
 rintro e w' ⟨g,c,ex,rfl,G,O,F,J,N⟩
 have hl:=Sd.snap_length ok.s
 have f:((x.sd.snap.drop o).take len).length=len:=by simp;omega
 refine⟨some ⟨g,o,none⟩,c - o,rfl,⟨?_,fun a n c e hn=>?_⟩,f,N⟩
 · rw[f]
   refine Sl.mk (by omega) (by omega) fun j u q=>?_
   have l:=(List.getElem?_eq_some_iff.1 q).1
   rw[qA7,f]at l
   rw[G.cell (o+j)]
   have I:(qA1 x.sd.snap)[o+j]? = some u:=by
    simp only[qA1,List.map_take,List.map_drop]at q
    rw[List.getElem?_take_of_lt l,List.getElem?_drop]at q
    exact q
   rw[List.getElem?_toArray,List.getElem?_append_left (by rw[qA7,hl];omega)]
   exact I
 · cases e
   exact⟨F,_,G⟩
theorem One.onA {i:Nat}{col col':Nat→Nat}{w w':World}(h:One i col col' w w'):qA8 (fun k=>col k≠i) w w':=⟨h.os,h.tape,h.output,h.size,fun k f c=>h.block k f c⟩
theorem qLf {n a k:Nat}(ha:a<2)(hk:k<n):gLeaf n a k+32≤gSize n∧gLeaf n a k<gSize n:=by
 have:a=0∨a=1:=by omega
 unfold gLeaf gSize
 rcases this with rfl|rfl<;>omega
theorem qKs {x:Wd}{m a:Nat}(ok:x.ok m)(ha:a<2):∀r∈x.areaRows a,r.length=32:=fun r f=>by
 unfold Wd.areaRows at f
 obtain⟨i,c,rfl⟩:=List.mem_map.1 f
 rw[List.mem_range]at c
 have j:=qLf ha c
 have h:=Sd.snap_length ok.s
 rw[List.length_take,List.length_drop,h]
 omega
theorem qNJ {col:Nat→Nat}{w:World}{P:qAU}{x:Wd}{m:Nat}(hW:qAW col w P x)(fi:x.fine m)(hm:m≤60000)(hg:x.p.gone=false)(a:Nat)(ha:a<2)(top:qAD) :
 Calls prog 70 #[.pointer (some ⟨P.W,0,none⟩),.int .i64 (a:Int),.agg #[U top.1,U top.2]] w fun e w'=>∃v,e= .returned (.tuple #[v,.int .i64 (qI5 (x.areaGet a top).isSome 3)])∧(∀ls,x.areaGet a top=some ls→w'.ownsRow w.heap.size 117 8 v ls.length (qAv ls))∧qAW col w' P (x.setL (qAX x.l (x.areaRows a)).2)∧Ext 6 col col w w':=by
 have f8:=qAo fi.ok.sl
 obtain⟨N,hN⟩:∃N,N=x.n:=⟨_,rfl⟩
 rw[←hN]at f8
 have HX:Hid (x.n=N):=qh hN.symm
 have d9:=hW.blk
 rw[←hN]at d9
 have h7:qD9 (N:Int)=true:=by rw[hN];exact fi.ok.sl
 have g7:∀k,k<N→gLeaf N a k+32≤gSize x.n∧gLeaf N a k<gSize x.n:=fun k hk=>by rw[←hN];exact qLf ha hk
 have i1:(N:Int)≤16:=by omega
 have i2:(0:Int)<(N:Int):=by omega
 have a7:qA4 w (w.alloc (.cells #[U top.1,U top.2] 115)):=qal _
 have bZ:=Blk.new w #[U top.1,U top.2] 115
 have q0:=(d9.kept a7).cell 0
 clear hN
 go_enter func70,ntmps70
 go_wp2_with fail
 refine(qNH P.W a ha _).mono ?_
 rintro e w1 ⟨rfl,rfl⟩
 go_wp2_with fail
 obtain⟨wA,g1⟩:∃wA,wA=(w.alloc (.cells #[U top.1,U top.2] 115)):=⟨_,rfl⟩
 rw[←g1]at a7 bZ q0 ⊢
 clear g1
 go_loopw [28,8] (fun i v8 wr=>∃k:Nat,i= .int .i64 k∧k≤N∧qA4 wA wr∧qEk wr wA.heap.size v8 ((x.areaRows a).take k)) (fun i _ _=>N - (intOf i).toNat)
 case atStart=>exact⟨0,rfl,by omega,Below.refl _ _,qEk.nil _ _⟩
 case round =>
  obtain⟨k,rfl,hk,J,hL⟩:=hrel
  have h5:=J.size
  by_cases a6:k<N
  · have m1:(k:Int)<(N:Int):=by omega
    have m2:(0:Int)≤(k:Int):=by omega
    have a4:=a7.of J
    have CL:=fun z=>qGc N h7 a k ha a6 z
    have CR:∀z,qA4 w z→Calls prog 101 #[.pointer (some ⟨P.s,0,none⟩),.int .i64 (gLeaf N a k:Nat),.int .i64 32] z fun e w'=>∃u c,e= .returned (.tuple #[.slice u 32 c,.bool true])∧qI6 w' z.heap.size (.slice u 32 c) ((x.sd.snap.drop (gLeaf N a k)).take 32)∧((x.sd.snap.drop (gLeaf N a k)).take 32).length=32∧qA4 z w':=fun z hz=>qI7 (hW.kept hz) fi.ok (by omega) (gLeaf N a k) 32 (g7 k a6).1 (g7 k a6).2 hg
    obtain⟨row,G⟩:∃r,r=(x.sd.snap.drop (gLeaf N a k)).take 32:=⟨_,rfl⟩
    have b4:(x.areaRows a).take (k+1)=(x.areaRows a).take k++ [row]:=by
     rw[List.take_add_one]
     congr 1
     unfold Wd.areaRows
     rw[HX.out,List.getElem?_map,List.getElem?_range a6,G]
     rfl
    rw[←G]at CR
    have f2:=qh b4
    have e0:((x.areaRows a).take k).length=k:=by rw[List.length_take,qBf,HX.out];omega
    obtain⟨rows,q⟩:∃r,r=(x.areaRows a).take k:=⟨_,rfl⟩
    rw[←q]at hL e0 f2
    have Y:=qh e0
    clear G b4 e0 q
    go_wp2_with fail
    refine qA3 [(0,0),(1,0),(2,0),(3,0),(4,0),(5,0),(6,0),(7,0),(8,0),(9,0),(10,1),(11,1),(12,0),(13,0),(14,0),(15,0),(16,0)] (by kernel_rfl) (by kernel_rfl) ?_
    intro z1 f
    repeat
     refine qA0 _ rfl (fun K O=>?_)
     first
      | (refine qqP (by rfl) ?_;apply Exists.intro;refine⟨fun w' a0=>?_,O _ ?_⟩;(have c:=(d9.kept (a4.of f)).kept a0;have c0:=c.cell 0;have c2:=c.cell 2;clear c;go_simp;first|done|rfl))
      | refine qqN (by rfl) (O _ ?_)
     clear O K;simp only[Act.put,qqB]
    refine qqH _ rfl (by rfl) (fun K O=>?_)
    go_wp2_with fail
    refine(CL z1).mono ?_
    rintro e z2 ⟨rfl,a2⟩
    go_wp2
    refine O _ _ (a2) ?_
    clear O K
    try simp only[Act.put,qqB]
    refine qqH _ rfl (by rfl) (fun K O=>?_)
    go_wp2_with fail
    refine(CR z2 ((a4.of f).of a2)).mono ?_
    rintro e z3 ⟨u,uc,rfl,e3,j3,b9⟩
    go_wp2
    refine O _ _ (b9) ?_
    clear O K
    try simp only[Act.put,qqB]
    repeat
     refine qA0 _ rfl (fun K O=>?_)
     first
      | (refine qqP (by rfl) ?_;apply Exists.intro;refine⟨fun w' a0=>?_,O _ ?_⟩;go_simp;first|done|rfl)
      | refine qqN (by rfl) (O _ ?_)
     clear O K;simp only[Act.put,qqB]
    refine qA6 ?_
    obtain⟨us,u1,u2,u3⟩:=hL.kept ((f.of a2).of b9)
    rw[Y.out]at u2
    have U1:=qh u1
    have i7:=((f.of a2).of b9).size
    replace e3:=e3.base (Nat.le_trans h5 (f.of a2).size)
    clear u1
    go_wp2_with (at_builtin;refine qBb qHR rfl (by rfl) (by rfl) (by rfl) (u2.alloc _) (Sl.one _ _ _) (by rfl) (fun x hx=>by rw[List.mem_singleton.1 hx];rfl) (by unfold maxLen;omega) (by omega) (by simp;omega) ?_;intro v4 w4 d8 g4 i3 _)
    have b8:qA4 z3 (z3.alloc (.cells #[.slice u 32 uc] 32)):=qal _
    have f0:=u2.alloc (.cells #[.slice u 32 uc] 32)
    refine⟨⟨k+1,rfl,by omega,(J.of (((f.of a2).of b9).of b8)).trans (g4.below (fun i hi=>(f0.lt i hi).1) (by have:=b8.size;omega)),?_⟩,by simp[intOf];omega⟩
    rw[f2.out]
    exact qEk.snoc U1.out (by rw[Y.out];exact f0) (fun i b x hb hx=>(u3 i b x hb hx).kept b8) (e3.kept b8) g4.chgL (by rw[Y.out];exact d8)
  · have h4:k=N:=by omega
    have g2:(x.areaRows a).take k=x.areaRows a:=List.take_of_length_le (by rw[qBf,HX.out];omega)
    rw[g2]at hL
    have i5:¬(k:Int)<(N:Int):=by omega
    clear h4 g2 a6 hk
    have a4:=a7.of J
    have j2:=a7.size
    have c3:=hW.kept a4
    have F:=qBf x a
    obtain⟨rows,q⟩:∃r,r=x.areaRows a:=⟨_,rfl⟩
    rw[←q]at F hL
    rw[HX.out]at F
    have f6:∀r∈rows,r.length=32:=fun r hr=>by rw[q]at hr;exact qKs fi.ok ha r hr
    have CB:=qHj col P.l x.l _ rows (by rw[F,←HX.out];exact fi.ok.sl) (fun r hr=>by rw[f6 r hr];omega) (Lk.few_mono fi.few (by omega)) wr c3.lock c3.top (fun w' o=>(hL.on (o.onA) (fun g h1 _=>by rw[hW.top g (by omega)];decide)).sl)
    rw[F]at CB
    have qW:=c3.blk.cell 6
    have I:=qh q
    have Y:=qh F
    clear q F
    go_wp2_with fail
    refine CB.mono ?_
    rintro e wB ⟨g,rfl,b6,i9,i0,o5⟩
    have i6:=b6.lt
    obtain⟨c5,eB⟩:=c3.stepL i0 o5
    have g6:=hL.on (o5.onA) (fun g h1 _=>by rw[hW.top g (by omega)];decide)
    have b3:(qAX x.l rows).1.length=2*N:=by rw[qDa,Y.out]
    obtain⟨nd,d6⟩:∃n,n=(qAX x.l rows).1:=⟨_,rfl⟩
    rw[←d6]at b6 b3
    have e5:1<nd.length:=by omega
    have e1:=qCv nd 1 e5
    obtain⟨p,hp⟩:∃p,p=nd[1]?.getD (0#64,0#64):=⟨_,rfl⟩
    rw[←hp]at e1
    have e9:=qh d6
    have j4:=qh b3
    have HP:=qh hp
    obtain⟨p1,p2⟩:=p
    have e4:Blk wB w.heap.size #[U top.1,U top.2] 115:=(o5.block _ (bZ.kept J).lt (by rw[hW.top _ qle];decide)).trans (bZ.kept J)
    clear d6 b3 qW hp e5
    have j1:(1:Int)<2*(N:Int):=by omega
    go_wp2_with fail
    cases hB:((p1,p2)==(top.1,top.2)) with
    | false =>
     have a1:x.areaGet a top=none:=by
      unfold Wd.areaGet
      rw[←I.out,←e9.out,←HP.out,if_neg]
      intro e
      rw[e]at hB
      simp at hB
     refine qA3 [(0,0),(1,0),(2,0),(3,0),(4,0),(5,0),(6,0),(7,0),(8,0)] (by kernel_rfl) (by kernel_rfl) ?_
     intro z1 f
     repeat
      refine qA0 _ rfl (fun K O=>?_)
      first
       | (refine qqP (by rfl) ?_;apply Exists.intro;refine⟨fun w' a0=>?_,O _ ?_⟩;(have c:=(b6.kept f).kept a0;have c0:w'.cell? ⟨g,2,none⟩=some (U p1):=(c.cell (1*2)).trans e1.1;have c1:w'.cell? ⟨g,3,none⟩=some (U p2):=(c.cell (1*2+1)).trans e1.2;clear c;have d:=(e4.kept f).kept a0;have d0:=d.cell 0;have d1:=d.cell 1;clear d;go_simp;first|done|rfl))
       | refine qqN (by rfl) (O _ ?_)
      clear O K;simp only[Act.put,qqB]
     refine qA6 ?_
     go_wp2_with fail
     refine bodyPost_ret (v:=.tuple #[.slice none 0 0,.int .i64 3]) (by simp[results,results70,go_sem];done) rfl ⟨_,by rw[a1];rfl,(fun ls h=>by rw[a1]at h;cases h),?_,?_⟩
     · rw[←I.out];exact c5.kept f
     · exact((Ext.kept hW.top a4).trans eB).trans (Ext.kept c5.top f)
    | true =>
     have a3:x.areaGet a top=qCc rows 0:=by
      unfold Wd.areaGet
      rw[←I.out,←e9.out,←HP.out,if_pos]
      have:=beq_iff_eq.1 hB
      exact this
     replace a3:=qh a3
     refine qA3 [(0,0),(1,0),(2,0),(3,0),(4,0),(5,0),(6,0),(7,0),(8,0)] (by kernel_rfl) (by kernel_rfl) ?_
     intro z1 f
     repeat
      refine qA0 _ rfl (fun K O=>?_)
      first
       | (refine qqP (by rfl) ?_;apply Exists.intro;refine⟨fun w' a0=>?_,O _ ?_⟩;(have c:=(b6.kept f).kept a0;have c0:w'.cell? ⟨g,2,none⟩=some (U p1):=(c.cell (1*2)).trans e1.1;have c1:w'.cell? ⟨g,3,none⟩=some (U p2):=(c.cell (1*2+1)).trans e1.2;clear c;have d:=(e4.kept f).kept a0;have d0:=d.cell 0;have d1:=d.cell 1;clear d;go_simp;first|done|rfl))
       | refine qqN (by rfl) (O _ ?_)
      clear O K;simp only[Act.put,qqB]
     refine qA6 ?_
     clear hB
     have eC:=((Ext.kept hW.top a4).trans eB).trans (Ext.kept c5.top f)
     have b7:=c5.kept f
     have e7:=g6.kept f
     have h2:=eC.size
     have a9:=(Sl.of_own e7.choose_spec.2.1).len
     rw[Y.out]at a9
     obtain⟨a8,c8,h8⟩:=a9
     clear e4 e1 b6 hL q0 g6
     subst h8
     go_wp2_with fail
     go_loopw [73,14] (fun i h3 wr=>∃k:Nat,i= .int .i64 k∧k≤N∧qA4 z1 wr∧∃ls:List Lf,ls.length=k∧(∀(j:Nat) (r:List UInt8) (l:Lf),rows[j]? = some r→ls[j]? = some l→qBO r (j:Int)=some l)∧wr.ownsRow z1.heap.size 117 8 h3 k (qAv ls)) (fun i _ _=>N - (intOf i).toNat)
     case atStart=>exact⟨0,rfl,by omega,Below.refl _ _,[],rfl,by simp,⟨rfl,.inl ⟨rfl,rfl⟩⟩⟩
     case round =>
      obtain⟨k2,rfl,a2,V,ls,b5,f3,c9⟩:=hrel
      have g8:=V.size
      by_cases d5:k2<N
      · have m1:(k2:Int)<(N:Int):=by omega
        have m2:(0:Int)≤(k2:Int):=by omega
        have J:k2<rows.length:=by rw[Y.out];exact d5
        obtain⟨us,u1,u2,u3⟩:=e7.kept V
        have f9:k2<us.length:=by rw[u1];exact J
        have S2:=Sl.of_own u2
        rw[Y.out]at S2
        obtain⟨bA,oA,cA,e,_,_,_,e6⟩:=S2.at (by omega)
        cases e
        have c0:=e6 k2 _ (List.getElem?_eq_getElem f9)
        have c6:=(u3 k2 _ _ (List.getElem?_eq_getElem J) (List.getElem?_eq_getElem f9)).sl
        obtain⟨row,G⟩:∃r,r=rows[k2]:=⟨_,rfl⟩
        have e8:rows[k2]? = some row:=by rw[List.getElem?_eq_getElem J,G]
        have d2:row.length=32:=by rw[G];exact f6 _ (List.getElem_mem _)
        rw[←G]at c6
        obtain⟨u,hu⟩:∃u,u=us[k2]:=⟨_,rfl⟩
        rw[←hu]at c0 c6
        obtain⟨ua,uc,rfl⟩:=c6.len
        have CG:=qJ6 _ row (k2:Int) (by omega) (by omega) (by omega) wr c6
        obtain⟨gl,d7⟩:∃g,g=qBO row (k2:Int):=⟨_,rfl⟩
        rw[←d7]at CG
        have g0:=qh d7
        have g9:=qh e8
        have c4:=qh b5
        replace d2:=qh d2
        clear G e8 hu d7 e6 u3 b5 S2
        cases gl with
        | none =>
         go_wp2_with fail
         refine CG.mono ?_
         rintro e w5 ⟨rfl,a5⟩
         simp only[Option.getD_none,Option.isSome_none,Lf.val,Lf.zero]
         have a1:x.areaGet a top=none:=by rw[a3.out];exact qFE rows 0 k2 row g9.out (by rw[Nat.zero_add];exact g0.out.symm)
         replace a1:=qh a1
         go_wp2_with fail
         have g3:qA4 z1 (w5.alloc (.cells #[.int .i64 0,.bool false,.int .i64 0,W 0#32,W 0#32,U 0#64,U 0#64,U 0#64] 117)):=(V.of a5).alloc (Nat.le_trans g8 a5.size) _
         refine bodyPost_ret (v:=.tuple #[.slice none 0 0,.int .i64 3]) (by simp[results,results70,go_sem];done) rfl ⟨_,by rw[a1.out];rfl,(fun ls h=>by rw[a1.out]at h;cases h),?_,?_⟩
         · rw[←I.out];exact b7.kept g3
         · exact eC.trans (Ext.kept b7.top g3)
        | some y =>
         go_wp2_with fail
         refine CG.mono ?_
         rintro e w5 ⟨rfl,a5⟩
         simp only[Option.getD_some,Option.isSome_some,Lf.val]
         have g5:=qA5 c9 a5
         have j0:=a5.size
         have f5:qA4 w5 (w5.alloc (.cells #[.int .i64 y.kind,.bool y.dirty,.int .i64 y.lba,W y.ep,W y.sl,U y.ver,U y.tag.1,U y.tag.2] 117)):=qal _
         have f7:=qA5 g5 f5
         have f1:qA4 (w5.alloc (.cells #[.int .i64 y.kind,.bool y.dirty,.int .i64 y.lba,W y.ep,W y.sl,U y.ver,U y.tag.1,U y.tag.2] 117)) ((w5.alloc (.cells #[.int .i64 y.kind,.bool y.dirty,.int .i64 y.lba,W y.ep,W y.sl,U y.ver,U y.tag.1,U y.tag.2] 117)).alloc (.cells #[.int .i64 y.kind,.bool y.dirty,.int .i64 y.lba,W y.ep,W y.sl,U y.ver,U y.tag.1,U y.tag.2] 117)):=qal _
         have d4:=qA5 f7 f1
         have c7:=Sl.lit (w5.alloc (.cells #[.int .i64 y.kind,.bool y.dirty,.int .i64 y.lba,W y.ep,W y.sl,U y.ver,U y.tag.1,U y.tag.2] 117)) #[.int .i64 y.kind,.bool y.dirty,.int .i64 y.lba,W y.ep,W y.sl,U y.ver,U y.tag.1,U y.tag.2] 117 1 (by decide)
         rw[World.size_alloc]at c7
         go_wp2_with (at_builtin;(refine qBb qEP rfl (by rfl) (by rfl) (by rfl) d4 c7 (by rfl) (qHl [y]) (by unfold maxLen;omega) (by omega) (by simp;omega) ?_);intro v6 w6 e2 h6 i4 _)
         have f4:=((V.of a5).of f5).of f1
         refine⟨⟨k2+1,rfl,by omega,f4.trans (h6.below (fun i hi=>(d4.lt i hi).1) f4.size),ls++ [y],by rw[List.length_append,c4.out];rfl,fun j r l hr hl=>?_,?_⟩,by simp[intOf];omega⟩
         · by_cases hj:j<ls.length
           · rw[List.getElem?_append_left hj]at hl
             exact f3 j r l hr hl
           · have h0:j=ls.length:=by
              have:=(List.getElem?_eq_some_iff.1 hl).1
              simp at this;omega
             subst h0
             rw[List.getElem?_append_right qle]at hl
             simp at hl
             subst hl
             rw[c4.out]at hr ⊢
             rw[g9.out]at hr
             cases hr
             exact g0.out.symm
         · rw[qI2]
           have e1:qAv [y]= [.int .i64 y.kind,.bool y.dirty,.int .i64 y.lba,W y.ep,W y.sl,U y.ver,U y.tag.1,U y.tag.2]:=rfl
           rw[e1]
           exact e2
      · have d3:k2=N:=by omega
        have Z:x.areaGet a top=some ls:=by rw[a3.out];exact qEj rows 0 ls (by rw[b5,Y.out,d3]) (fun k r l hr hl=>by rw[Nat.zero_add];exact f3 k r l hr hl)
        have h9:¬(k2:Int)<(N:Int):=by omega
        replace Z:=qh Z
        have c4:=qh b5
        clear b5 d5 d3
        go_wp2_with fail
        refine bodyPost_ret (v:=.tuple #[u14,.int .i64 0]) (by simp[results,results70,go_sem];done) rfl ⟨_,by rw[Z.out];rfl,(fun i8 h=>?_),?_,?_⟩
        · rw[Z.out]at h
          cases h
          rw[c4.out]
          exact qAh c9 h2
        · rw[←I.out];exact b7.kept V
        · exact eC.trans (Ext.kept b7.top V)
theorem qI8 {col:Nat→Nat}{w:World}{P:qAU}{x:Wd}(hW:qAW col w P x):Calls prog 20 #[.pointer (some ⟨P.c,0,none⟩)] w fun e w'=>e= .returned (U x.c.value)∧w=w':=by
 have q:=(qHM.cells hW.cnt)
 obtain⟨j,l,h,f⟩:=q
 go_enter func20,ntmps20
 go_wp2
 go_ret
 exact⟨rfl,rfl⟩
theorem qPD {col:Nat→Nat}{w:World}{P:qAU}{x:Wd}(hW:qAW col w P x):Calls prog 46 #[.pointer (some ⟨P.c,0,none⟩)] w fun e w'=>e= .returned (U x.c.boots)∧w=w':=by
 have q:=(qHM.cells hW.cnt)
 obtain⟨j,l,h,f⟩:=q
 go_enter func46,ntmps46
 go_wp2
 go_ret
 exact⟨rfl,rfl⟩
theorem qSi {col:Nat→Nat}{w:World}{P:qAU}{x:Wd}(hW:qAW col w P x):Calls prog 140 #[.pointer (some ⟨P.c,0,none⟩)] w fun e w'=>e= .returned (U x.c.at_)∧w=w':=by
 have q:=(qHM.cells hW.cnt)
 obtain⟨j,l,h,f⟩:=q
 go_enter func140,ntmps140
 go_wp2
 go_ret
 exact⟨rfl,rfl⟩
theorem qLg {col:Nat→Nat}{w:World}{P:qAU}{x:Wd}{m:Nat}(hW:qAW col w P x)(fi:x.fine m)(hm:m≤80000):Calls prog 158 #[.pointer (some ⟨P.W,0,none⟩)] w fun e w'=>e= .returned (.tuple #[W (qAl x.eps),Pr (qFd x.seed x.eps (qAl x.eps))])∧qA4 w w':=by
 have f:qA4 w (w.alloc (.cells #[U 0#64,U 0#64] 115)):=qal _
 have bZ:=Blk.new w #[U 0#64,U 0#64] 115
 have I:=hW.blk
 have q5:=(I.kept f).cell 5
 have CC:=qLc (hW.kept f) fi.ok hm
 obtain⟨ep,J⟩:∃y,y=qAl x.eps:=⟨_,rfl⟩
 have Z:=fun wx (hx:qA4 w wx)=>qIY (hW.kept hx) fi.ok hm ep
 rw[←J]at CC ⊢
 obtain⟨k,hk⟩:∃y,y=qFd x.seed x.eps ep:=⟨_,rfl⟩
 rw[←hk]at Z ⊢
 obtain⟨q,F⟩:=k
 obtain⟨B,hB⟩:∃y,y=x.eps.contains ep:=⟨_,rfl⟩
 rw[←hB]at Z
 clear J hk hB
 go_enter func158,ntmps158
 go_wp2_with fail
 generalize (w.alloc (.cells #[U 0#64,U 0#64] 115))=wA at *
 refine CC.mono ?_
 rintro e w1 ⟨rfl,l⟩
 replace q5:=(I.kept (f.of l)).cell 5
 go_wp2_with fail
 refine(Z _ (f.of l)).mono ?_
 rintro e w2 ⟨rfl,G⟩
 have h:=bZ.kept (l.of G)
 have f0:=h.free 0
 have f1:=h.free 1
 have x0:=h.cell 0
 have x1:=h.cell 1
 unfold Pr
 go_wp2_with fail
 have N:=(h.set 0 (U q)).set 1 (U F)
 simp only[qqA,qq0,qq1]at N
 have Y:qA4 w ((w2.setCell ⟨w.heap.size,0,none⟩ (U q)).setCell ⟨w.heap.size,1,none⟩ (U F)):=qAa (qAa ((f.of l).of G) 0 _) 1 _
 clear f0 f1 x0 x1
 generalize ((w2.setCell ⟨w.heap.size,0,none⟩ (U q)).setCell ⟨w.heap.size,1,none⟩ (U F))=w3 at *
 refine qA3 [(0,0),(1,0),(2,0),(3,2)] (by kernel_rfl) (by kernel_rfl) ?_
 intro z1 j
 repeat
  refine qA0 _ rfl (fun K O=>?_)
  first
   | (refine qqP (by rfl) ?_;apply Exists.intro;refine⟨fun w' a0=>?_,O _ ?_⟩;(have c:=(N.kept j).kept a0;have c0:=c.cell 0;have c1:=c.cell 1;clear c;go_simp;first|done|rfl))
   | refine qqN (by rfl) (O _ ?_)
  clear O K;simp only[Act.put,qqB]
 refine qAg _ rfl (fun K O=>?_)
 refine qqP (by rfl) ?_
 have c:=N.kept j
 have c0:=c.cell 0
 have c1:=c.cell 1
 have f0:=c.free 0
 have f1:=c.free 1
 clear c
 go_wp2
 refine qA6 ?_
 have V:=((N.kept j).set 0 (U q)).set 1 (U F)
 simp only[qqA,qq0,qq1]at V
 have a1:qA4 w ((z1.setCell ⟨w.heap.size,0,none⟩ (U q)).setCell ⟨w.heap.size,1,none⟩ (U F)):=qAa (qAa (Y.of j) 0 _) 1 _
 generalize ((z1.setCell ⟨w.heap.size,0,none⟩ (U q)).setCell ⟨w.heap.size,1,none⟩ (U F))=w4 at *
 go_wp2_with fail
 have r0:=V.cell 0
 have r1:=V.cell 1
 refine bodyPost_ret (v:=.tuple #[W ep,.agg #[U q,U F]]) (by simp[results,results158,go_sem,r0,r1];done) rfl ⟨rfl,a1⟩
theorem qGk (ty:TypeId)(c:BitVec 64)(w:World):(binOp .rem ty (U c) (U 2#64)).run prog w= .ok (.int .u64 ((c.toNat % 2:Nat):Int)) w:=by
 have h:Op.intDiv .rem .u64 (c.toNat:Int) 2=pure (Value.int .u64 ((c.toNat:Int).tmod 2)):=rfl
 have f:U 2#64= .int .u64 2:=rfl
 rw[f]
 unfold U
 rw[binOp_rem,h,Int.tmod_eq_emod_of_nonneg (by omega)]
 rfl
def qCY (c:BitVec 64):Nat:=c.toNat % 2
theorem qC1 (c:BitVec 64):qCY c<2:=Nat.mod_lt _ (by omega)
theorem qJ8 {col:Nat→Nat}{w:World}{P:qAU}{x:Wd}{m:Nat}(hW:qAW col w P x)(fi:x.fine m)(c:BitVec 64):Calls prog 102 #[.pointer (some ⟨P.W,0,none⟩),U c] w fun e w'=>e= .returned (.int .i64 (gRec x.n (qCY c):Nat))∧qA4 w w':=by
 have I:=hW.blk.cell 0
 have j:=fun f=>qGk 29 c f
 have l:=qLa x.n fi.ok.sl (qCY c) (qC1 c) w
 have h:=qC1 c
 rw[show c.toNat % 2=qCY c from rfl]at j
 obtain⟨p,hp⟩:∃p,p=qCY c:=⟨_,rfl⟩
 rw[←hp]at j l h ⊢
 have G:∀f:World,(convert 29 3 (.int .u64 (p:Int))).run prog f= .ok (.int .i64 (p:Int)) f:=fun f=>by
  have q:IntKind.i64.wrap (p:Int)=(p:Int):=by rw[IntKind.wrap_i64];omega
  rw[qAH f 29 3 _ .i64 _ (by kernel_rfl) underlying3,q]
 clear hp
 go_enter func102,ntmps102
 go_wp2_with fail
 refine l.mono ?_
 rintro e w1 ⟨rfl,F⟩
 go_wp2
 go_ret
 exact⟨rfl,F⟩
structure WM (col:Nat→Nat)(w:World)(P:qAU)(x:Wd)(M:Nat)(boot:BitVec 64)(k:Nat):Prop where
 wd:qAW col w P x
 mkr:qJS w M boot k
 cM:col M=8
def qPE (col:Nat→Nat)(w:World)(P:qAU)(M:Nat)(x:Wd)(boot:BitVec 64)(k:Nat)(w':World):Prop:=∃col',WM col' w' P x M boot k∧Ext 8 col col' w w'
theorem WM.kept {col:Nat→Nat}{w w':World}{P:qAU}{x:Wd}{M:Nat}{boot:BitVec 64}{k:Nat}(h:WM col w P x M boot k)(hk:qA4 w w'):WM col w' P x M boot k:=⟨h.wd.kept hk,Blk.kept h.mkr hk,h.cM⟩
theorem WM.ext6 {col col':Nat→Nat}{w w':World}{P:qAU}{x x':Wd}{M:Nat}{boot:BitVec 64}{k:Nat}(h:WM col w P x M boot k)(hw:qAW col' w' P x')(e:Ext 6 col col' w w'):WM col' w' P x' M boot k:=
 ⟨hw,(e.block M (Blk.lt h.mkr) (.inr (by rw[h.cM];decide))).trans h.mkr,(e.old M (Blk.lt h.mkr)).trans h.cM⟩
theorem WM.next {col:Nat→Nat}{w w':World}{P:qAU}{x:Wd}{M:Nat}{boot:BitVec 64}{k k':Nat}(h:WM col w P x M boot k)(f:qJS w' M boot k')(hc:Chg [M] w w'):WM col w' P x M boot k'∧Ext 8 col col w w':=
 ⟨⟨h.wd.chg hc (fun b q=>by rw[List.mem_singleton]at q;subst q;rw[h.cM];exact .inr (by decide)),f,h.cM⟩,
  ⟨hc.os,hc.tape,hc.output,hc.size,fun _ _=>rfl,fun j c=>by rw[h.wd.top j c];omega,fun j c=>h.wd.top j (Nat.le_trans hc.size c),fun j c l=>hc.block j c fun f=>by rw[List.mem_singleton]at f;subst f;rw[h.cM]at l;omega⟩⟩
def Wd.logN (x:Wd)(boot:BitVec 64)(k:Nat):Nn:=qOG (qAl x.eps) 65535 boot (k+1)
def Wd.logK (x:Wd):qAD:=qFd x.seed x.eps (qAl x.eps)
def Wd.logS (x:Wd)(boot:BitVec 64)(k:Nat)(r:Rt):List UInt8×qAD:=x.l.sealP x.logK (x.logN boot k) [] (qCU r)
def Wd.logR (x:Wd)(boot:BitVec 64)(k:Nat)(r:Rt):List UInt8:=qFV (x.logN boot k) (x.logS boot k r).1 (x.logS boot k r).2
def Wd.logL (x:Wd)(boot:BitVec 64)(k:Nat)(r:Rt):Wd:=x.setL (x.l.sealL x.logK (x.logN boot k) [] (qCU r))
def Wd.logW (x:Wd)(boot:BitVec 64)(k:Nat)(r:Rt):Wd:=(x.logL boot k r).sWrite ((gRec x.n (qCY r.count):Nat),x.logR boot k r)
def Wd.logX (x:Wd)(boot:BitVec 64)(k:Nat)(r:Rt):Wd:=if k<100 then x.logW boot k r else x
def qIt (k:Nat):Nat:=if k<100 then k+1 else k
def Wd.logE (x:Wd)(k:Nat):Int:=if k<100 then(if x.p.spend.1 then 0 else 7) else 6
theorem qGl (x:Wd)(boot:BitVec 64)(k:Nat)(r:Rt):(x.logR boot k r).length=60:=qCt _ _ _ (by unfold Wd.logS;rw[Lk.sealP_length,qB6])
theorem qNK {n i:Nat}(hi:i<2)(_:0<n):gRec n i+60≤gSize n∧gRec n i<gSize n:=by
 have:i=0∨i=1:=by omega
 unfold gRec gSize
 rcases this with rfl|rfl<;>omega
theorem qI9 (x:Wd)(boot:BitVec 64)(k:Nat)(r:Rt)(h0:0<x.n):inB (gSize x.n) ((gRec x.n (qCY r.count):Nat),x.logR boot k r):=by
 have:=qNK (n:=x.n) (qC1 r.count) h0
 refine⟨by omega,?_,?_⟩<;>simp only[Int.toNat_natCast,qGl]<;>omega
theorem Wd.fine.logL {x:Wd}{m:Nat}(f:x.fine m)(boot:BitVec 64)(k:Nat)(r:Rt):(x.logL boot k r).fine (m+1):=f.seal _ _ _ _ (by rw[qB6];omega)
theorem Wd.fine.logX {x:Wd}{m:Nat}(f:x.fine m)(boot:BitVec 64)(k:Nat)(r:Rt)(h0:0<x.n):(x.logX boot k r).fine (m+2):=by
 unfold Wd.logX
 split
 · exact(f.logL boot k r).sWrite (qI9 x boot k r h0)
 · exact f.up (by omega)
theorem qMf {col:Nat→Nat}{w:World}{P:qAU}{x:Wd}{m M k:Nat}{boot:BitVec 64}(hW:WM col w P x M boot k)(fi:x.fine m)(hm:m≤70000)(hk100:k<100)(r:Rt)(hr:r.slots=(x.n:Int)) :
 Calls prog 176 #[.pointer (some ⟨P.W,0,none⟩),.pointer (some ⟨M,0,none⟩),.agg #[U r.count,W r.epoch,.int .i64 (x.n:Int),U r.hash.1,U r.hash.2]] w fun e w'=>e= .returned (.int .i64 (if x.p.spend.1 then 0 else 7))∧qPE col w P M (x.logW boot k r) boot (k+1) w':=by
 have h5:=qAo fi.ok.sl
 obtain⟨N,hN⟩:∃N,N=x.n:=⟨_,rfl⟩
 rw[←hN]at h5 hr ⊢
 have HX:Hid (x.n=N):=qh hN.symm
 have i0:=hW.wd.blk
 rw[←hN]at i0
 clear hN
 have d6:qA4 w (w.alloc (.cells #[U r.count,W r.epoch,.int .i64 (N:Int),U r.hash.1,U r.hash.2] 148)):=qal _
 have bR:=Blk.new w #[U r.count,W r.epoch,.int .i64 (N:Int),U r.hash.1,U r.hash.2] 148
 have a0:=bR.cell 0
 have a1:=bR.cell 1
 have a2:=bR.cell 2
 have a3:=bR.cell 3
 have a4:=bR.cell 4
 have CP:=fun wx=>qFC (N:Int) (by omega) r.count r.epoch r.hash.1 r.hash.2 wx
 have h7:qCU ⟨r.count,r.epoch,(N:Int),(r.hash.1,r.hash.2)⟩=qCU r:=by rw[←hr]
 rw[h7]at CP
 obtain⟨rb,d3⟩:∃b,b=qCU r:=⟨_,rfl⟩
 have i2:rb.length=32:=by rw[d3];exact qB6 r
 rw[←d3]at CP
 have g1:=qh d3
 have O:=qh i2
 obtain⟨E,hE⟩:∃E:Int,E=if x.p.spend.1 then 0 else 7:=⟨_,rfl⟩
 rw[←hE]
 have HE:=qh hE
 clear h7 d3 i2 hr hE
 go_enter func176,ntmps176
 go_wp2_with fail
 generalize (w.alloc (.cells #[U r.count,W r.epoch,.int .i64 (N:Int),U r.hash.1,U r.hash.2] 148))=wA at *
 refine(CP _).mono ?_
 rintro e w1 ⟨b,rfl,ob,c8⟩
 clear a0 a1 a2 a3 a4
 obtain⟨ba,bc,rfl⟩:=(Sl.of_own ob).len
 go_wp2_with fail
 refine qA3 [(0,0),(1,0),(2,0),(3,0),(4,0),(5,0),(6,0),(7,0),(8,0),(9,0),(10,0),(11,0),(12,0),(13,0),(14,0),(15,0)] (by kernel_rfl) (by kernel_rfl) ?_
 intro z1 b7
 repeat
  refine qA0 _ rfl (fun K Y=>?_)
  first
   | (refine qqP (by rfl) ?_;apply Exists.intro;refine⟨fun w' h=>?_,Y _ ?_⟩;(have c:=(bR.kept (c8.of b7)).kept h;have c2:=c.cell 2;clear c;have d:=(i0.kept ((d6.of c8).of b7)).kept h;have d0:=d.cell 0;clear d;go_simp;first|done|rfl))
   | refine qqN (by rfl) (Y _ ?_)
  clear Y K;simp only[Act.put,qqB]
 refine qA6 ?_
 go_wp2_with fail
 have f3:=(d6.of c8).of b7
 have CK:=qLg (hW.wd.kept f3) fi (by omega)
 obtain⟨ep,e1⟩:∃y,y=qAl x.eps:=⟨_,rfl⟩
 obtain⟨ky,f8⟩:∃y,y=x.logK:=⟨_,rfl⟩
 rw[show qFd x.seed x.eps (qAl x.eps)=ky from f8.symm,←e1]at CK
 have j2:=qh e1
 have h9:=qh f8
 obtain⟨G,I⟩:=ky
 clear e1 f8
 refine CK.mono ?_
 rintro e w2 ⟨rfl,d5⟩
 unfold Pr
 go_wp2_with fail
 have c7:qA4 w2 (w2.alloc (.cells #[U G,U I] 115)):=qal _
 have h0:=Blk.new w2 #[U G,U I] 115
 have b4:=(f3.of d5).of c7
 obtain⟨w3,i3⟩:∃y,y=(w2.alloc (.cells #[U G,U I] 115)):=⟨_,rfl⟩
 rw[←i3]at c7 h0 b4 ⊢
 clear i3
 have g5:=hW.kept b4
 have CM:Calls prog 159 #[.pointer (some ⟨M,0,none⟩),W ep,.int .i64 65535] w3 fun e w'=>e= .returned (.tuple #[(qOG ep 65535 boot (k+1)).val,.int .i64 0])∧qJS w' M boot (k+1)∧Chg [M] w3 w':=qH4 M boot k hk100 ep 65535 (by omega) w3 g5.mkr
 obtain⟨n,hn⟩:∃n,n=qOG ep 65535 boot (k+1):=⟨_,rfl⟩
 have f7:Hid (n=x.logN boot k):=qh (by unfold Wd.logN;rw[hn,j2.out])
 have e4:n.slot=65535#32:=by rw[hn];rfl
 rw[←hn]at CM
 replace e4:=qh e4
 clear hn
 obtain⟨T,hT⟩:∃t,t=x.l.sealP (G,I) n [] rb:=⟨_,rfl⟩
 have i8:Hid (T=x.logS boot k r):=qh (by unfold Wd.logS;rw[hT,h9.out,f7.out,g1.out])
 obtain⟨SB,T1,T2⟩:=T
 have f4:Hid (SB=(x.l.sealP (G,I) n [] rb).1):=qh (by rw[←hT])
 have g8:Hid (T1=(x.l.sealP (G,I) n [] rb).2.1):=qh (by rw[←hT])
 have g4:Hid (T2=(x.l.sealP (G,I) n [] rb).2.2):=qh (by rw[←hT])
 have a9:SB.length=32:=by rw[f4.out,Lk.sealP_length];exact O.out
 replace a9:=qh a9
 clear hT
 refine CM.mono ?_
 rintro e w4 ⟨rfl,j0,j3⟩
 obtain⟨i4,E4⟩:=g5.next j0 j3
 unfold Nn.val
 have b5:qA4 w4 (w4.alloc (.cells #[W n.epoch,W n.slot,U n.version] 113)):=qal _
 have d7:=Blk.new w4 #[W n.epoch,W n.slot,U n.version] 113
 go_wp2_with fail
 obtain⟨w5,f5⟩:∃y,y=(w4.alloc (.cells #[W n.epoch,W n.slot,U n.version] 113)):=⟨_,rfl⟩
 rw[←f5]at b5 d7 ⊢
 clear f5
 have e9:=i4.kept b5
 have E5:Ext 8 col col w w5:=((Ext.kept hW.wd.top b4).trans E4).trans (Ext.kept i4.wd.top b5)
 have k2:=d6.size
 have g9:=(f3.of d5).size
 have k0:=b4.size
 have k1:=E4.size
 have i9:∀g,(Value.slice ba 32 bc).ownBlock=some g→col g=0:=fun g hg=>hW.wd.top g (by have:=qAN ob hg;have:=d6.size;omega)
 have i6:=qA5 (E4.own0 (qA5 ob ((b7.of d5).of c7)) i9) b5
 have h3:col w2.heap.size=0:=hW.wd.top _ g9
 have g2:col w4.heap.size=0:=hW.wd.top _ (by omega)
 have h4:=(E4.blk0 h0 h3).1.kept b5
 have h6:col w.heap.size=0:=hW.wd.top _ qle
 have j5:=(E4.blk0 (bR.kept (((c8.of b7).of d5).of c7)) h6).1.kept b5
 go_wp2_with fail
 refine qBZ (qA8 (fun k=>k<w5.heap.size∧(col k=0∨6<col k))) [(0,0),(1,0),(2,0),(3,0),(4,0),(5,0),(6,0),(8,0),(9,0),(10,0),(13,0)] ((.light 0 (.light 1 (.light 2 (.light 3 (.light 4 (.light 5 (.light 6 (.two 7 11 (.light 8 (.light 9 (.light 10 (.heavy 11 (.heavy 12 (.light 13 .nil)))))) (.heavy 7 (.light 8 (.light 9 (.light 10 (.heavy 12 (.light 13 .nil))))))))))))))) (by kernel_rfl) (by kernel_rfl) (fun _=>qA8.refl _) (fun _ _ _ h1 h2=>h1.trans h2) ?_
 intro z0 b6
 have Z:=e9.kept b6
 have c9:=qA5 i6 b6
 have e0:=Z.wd.blk
 rw[HX.out]at e0
 have g3:=h4.kept b6
 have f9:=d7.kept b6
 have Ec:Ext 8 col col w5 z0:=Ext.kept e9.wd.top b6
 have f5:=E5.size
 have k7:=b6.size
 refine qA2 _ rfl (fun J f=>?_)
 refine qqP (by rfl) ?_;apply Exists.intro;refine⟨fun w' h=>?_,f _ ?_⟩
 · go_simp;first|done|rfl
 clear f J;simp only[Act.put,qqB]
 refine qA2 _ rfl (fun J f=>?_)
 refine qqP (by rfl) ?_;apply Exists.intro;refine⟨fun w' h=>?_,f _ ?_⟩
 · go_simp;first|done|rfl
 clear f J;simp only[Act.put,qqB]
 refine qA2 _ rfl (fun J f=>?_)
 refine qqP (by rfl) ?_;apply Exists.intro;refine⟨fun w' h=>?_,f _ ?_⟩
 · go_simp;first|done|rfl
 clear f J;simp only[Act.put,qqB]
 refine qA2 _ rfl (fun J f=>?_)
 refine qqP (by rfl) ?_;apply Exists.intro;refine⟨fun w' h=>?_,f _ ?_⟩
 · have c:=(h.block _ e0.lt ⟨e9.wd.blk.lt,.inr (by rw[hW.wd.cW];decide)⟩).trans e0;have c6:=Blk.cell c 6;clear c;go_simp;first|done|rfl
 clear f J;simp only[Act.put,qqB]
 refine qA2 _ rfl (fun J f=>?_)
 refine qqP (by rfl) ?_;apply Exists.intro;refine⟨fun w' h=>?_,f _ ?_⟩
 · have c:=(h.block _ g3.lt ⟨h4.lt,.inl h3⟩).trans g3;have c0:=Blk.cell c 0;have c1:=Blk.cell c 1;clear c;go_simp;first|done|rfl
 clear f J;simp only[Act.put,qqB]
 refine qA2 _ rfl (fun J f=>?_)
 refine qqP (by rfl) ?_;apply Exists.intro;refine⟨fun w' h=>?_,f _ ?_⟩
 · have c:=(h.block _ f9.lt ⟨d7.lt,.inl g2⟩).trans f9;have c0:=Blk.cell c 0;have c1:=Blk.cell c 1;have c2:=Blk.cell c 2;clear c;go_simp;first|done|rfl
 clear f J;simp only[Act.put,qqB]
 refine qA2 _ rfl (fun J f=>?_)
 refine qqP (by rfl) ?_;apply Exists.intro;refine⟨fun w' h=>?_,f _ ?_⟩
 · go_simp;first|done|rfl
 clear f J;simp only[Act.put,qqB]
 refine qC2 ?_ ?_
 focus
  refine qAc _ rfl (fun J f=>?_)
  refine qqP (by rfl) ?_
  go_wp2_with fail
  refine(qGg Z.wd fi (by omega) (G,I) n _ _ [] rb (by simp) (by rw[O.out];omega) (Sl.nil _) (by rw[O.out];exact Sl.of_own c9)).mono ?_
  rintro e y1 ⟨u,j,rfl,ou,j7,e6,E6⟩
  obtain⟨ua,uc,rfl⟩:=(Sl.of_own ou).len
  rw[O.out]at ou
  rw[←g8.out,←g4.out]
  rw[←f4.out]at ou
  rw[O.out]
  have a5:=Z.ext6 e6 E6
  have S6:=E6.sameOn (w0:=w5) (col0:=col) (fun k hk=>rfl)
  have j4:=E6.size
  replace Ec:=Ec.trans (E6.mono (show 6≤8 by decide))
  go_wp2
  refine f _ _ (S6) ?_
  clear f J
  try simp only[Act.put,qqB]
  refine qA2 _ rfl (fun J f=>?_)
  refine qqP (by rfl) ?_;apply Exists.intro;refine⟨fun w' h=>?_,f _ ?_⟩
  · go_simp;first|done|rfl
  clear f J;simp only[Act.put,qqB]
  refine qA2 _ rfl (fun J f=>?_)
  refine qqP (by rfl) ?_;apply Exists.intro;refine⟨fun w' h=>?_,f _ ?_⟩
  · go_simp;first|done|rfl
  clear f J;simp only[Act.put,qqB]
  refine qA2 _ rfl (fun J f=>?_)
  refine qqP (by rfl) ?_;apply Exists.intro;refine⟨fun w' h=>?_,f _ ?_⟩
  · go_simp;first|done|rfl
  clear f J;simp only[Act.put,qqB]
  refine qAc _ rfl (fun J f=>?_)
  refine qqP (by rfl) ?_
  have ka:qA4 y1 (y1.alloc (.cells #[.slice none 0 0,U 0#64,U 0#64] 165)):=qal _
  have F:=Blk.new y1 #[.slice none 0 0,U 0#64,U 0#64] 165
  obtain⟨V,q⟩:∃g,g=y1.heap.size:=⟨_,rfl⟩
  rw[←q]at F
  go_wp2
  refine f _ _ (qA8.of_kept ka) ?_
  clear f J
  try simp only[Act.put,qqB]
  rw[←q]
  have i1:=Nat.le_of_eq q
  have g6:=Nat.le_of_eq q.symm
  clear q
  generalize (y1.alloc (.cells #[.slice none 0 0,U 0#64,U 0#64] 165))=y2 at *
  replace Ec:=Ec.trans (Ext.kept (m:=8) a5.wd.top ka)
  replace a5:=a5.kept ka
  replace ou:=qA5 ou ka
  have k3:=ka.size
  have d9:j V=0:=E6.top _ (by omega)
  refine qAc _ rfl (fun J f=>?_)
  refine qqP (by rfl) ?_
  have f0:=F.free 0
  have f1:=F.free 1
  have f2:=F.free 2
  have x0:=F.cell 0
  have x1:=F.cell 1
  have x2:=F.cell 2
  have a8:Chg [V] y2 (((y2.setCell ⟨V,0,none⟩ (.slice ua 32 uc)).setCell ⟨V,1,none⟩ (U T1)).setCell ⟨V,2,none⟩ (U T2)):=(((Chg.refl _ _).set qsm 0 _).set qsm 1 _).set qsm 2 _
  have bF:=((F.set 0 (.slice ua 32 uc)).set 1 (U T1)).set 2 (U T2)
  simp only[qqA,qq0,qq1]at bF
  go_wp2
  refine f _ _ (qA8.of_chg a8 fun b hb hA=>by have h1:=hA.1;rw[List.mem_singleton.1 hb]at h1;omega) ?_
  clear f J
  try simp only[Act.put,qqB]
  clear f0 f1 f2 x0 x1 x2
  generalize (((y2.setCell ⟨V,0,none⟩ (.slice ua 32 uc)).setCell ⟨V,1,none⟩ (U T1)).setCell ⟨V,2,none⟩ (U T2))=zF at *
 rotate_left
 focus
  refine qAc _ rfl (fun J f=>?_)
  refine qqP (by rfl) ?_
  have ka:qA4 z0 (z0.alloc (.cells #[.slice none 0 0,U 0#64,U 0#64] 165)):=qal _
  have F:=Blk.new z0 #[.slice none 0 0,U 0#64,U 0#64] 165
  obtain⟨V,q⟩:∃g,g=z0.heap.size:=⟨_,rfl⟩
  rw[←q]at F
  go_wp2
  refine f _ _ (qA8.of_kept ka) ?_
  clear f J
  try simp only[Act.put,qqB]
  rw[←q]
  have i1:=Nat.le_of_eq q
  have g6:=Nat.le_of_eq q.symm
  clear q
  generalize (z0.alloc (.cells #[.slice none 0 0,U 0#64,U 0#64] 165))=y0 at *
  replace Ec:=Ec.trans (Ext.kept (m:=8) Z.wd.top ka)
  replace Z:=Z.kept ka
  replace c9:=qA5 c9 ka
  have k6:=ka.size
  refine qAc _ rfl (fun J f=>?_)
  refine qqP (by rfl) ?_
  go_wp2_with fail
  refine(qGg Z.wd fi (by omega) (G,I) n _ _ [] rb (by simp) (by rw[O.out];omega) (Sl.nil _) (by rw[O.out];exact Sl.of_own c9)).mono ?_
  rintro e y1 ⟨u,j,rfl,ou,j7,e6,E6⟩
  obtain⟨ua,uc,rfl⟩:=(Sl.of_own ou).len
  rw[O.out]at ou
  rw[←g8.out,←g4.out]
  rw[←f4.out]at ou
  rw[O.out]
  have a5:=Z.ext6 e6 E6
  have S6:=E6.sameOn (w0:=w5) (col0:=col) (fun k hk=>rfl)
  have j4:=E6.size
  replace Ec:=Ec.trans (E6.mono (show 6≤8 by decide))
  go_wp2
  refine f _ _ (S6) ?_
  clear f J
  try simp only[Act.put,qqB]
  have i7:=F.lt
  replace F:=(E6.blk0 F (hW.wd.top _ (by omega))).1
  have d9:j V=0:=by rw[E6.old _ i7];exact hW.wd.top _ (by omega)
  refine qA2 _ rfl (fun J f=>?_)
  refine qqP (by rfl) ?_;apply Exists.intro;refine⟨fun w' h=>?_,f _ ?_⟩
  · go_simp;first|done|rfl
  clear f J;simp only[Act.put,qqB]
  refine qA2 _ rfl (fun J f=>?_)
  refine qqP (by rfl) ?_;apply Exists.intro;refine⟨fun w' h=>?_,f _ ?_⟩
  · go_simp;first|done|rfl
  clear f J;simp only[Act.put,qqB]
  refine qA2 _ rfl (fun J f=>?_)
  refine qqP (by rfl) ?_;apply Exists.intro;refine⟨fun w' h=>?_,f _ ?_⟩
  · go_simp;first|done|rfl
  clear f J;simp only[Act.put,qqB]
  refine qAc _ rfl (fun J f=>?_)
  refine qqP (by rfl) ?_
  have f0:=F.free 0
  have f1:=F.free 1
  have f2:=F.free 2
  have x0:=F.cell 0
  have x1:=F.cell 1
  have x2:=F.cell 2
  have a8:Chg [V] y1 (((y1.setCell ⟨V,0,none⟩ (.slice ua 32 uc)).setCell ⟨V,1,none⟩ (U T1)).setCell ⟨V,2,none⟩ (U T2)):=(((Chg.refl _ _).set qsm 0 _).set qsm 1 _).set qsm 2 _
  have bF:=((F.set 0 (.slice ua 32 uc)).set 1 (U T1)).set 2 (U T2)
  simp only[qqA,qq0,qq1]at bF
  go_wp2
  refine f _ _ (qA8.of_chg a8 fun b hb hA=>by have h1:=hA.1;rw[List.mem_singleton.1 hb]at h1;omega) ?_
  clear f J
  try simp only[Act.put,qqB]
  clear f0 f1 f2 x0 x1 x2
  generalize (((y1.setCell ⟨V,0,none⟩ (.slice ua 32 uc)).setCell ⟨V,1,none⟩ (U T1)).setCell ⟨V,2,none⟩ (U T2))=zF at *
 all_goals
  have j6:=qAu ou a8 F (by decide)
  have e5:j V=0:=d9
  have f6:WM j zF P (x.logL boot k r) M boot (k+1):=by
   have hx:x.logL boot k r=x.setL (x.l.sealL (G,I) n [] rb):=by unfold Wd.logL;rw[←h9.out,←f7.out,←g1.out]
   rw[hx]
   exact⟨a5.wd.chg a8 (fun b hb=>by rw[List.mem_singleton]at hb;subst hb;exact .inl e5),a8.blk a5.mkr (by rw[List.mem_singleton];intro e;rw[←e,a5.cM]at e5;cases e5),a5.cM⟩
  have EF:=Ec.newset a8 (by omega)
  refine qA2 _ rfl (fun J f=>?_)
  refine qqP (by rfl) ?_;apply Exists.intro;refine⟨fun w' h=>?_,f _ ?_⟩
  · go_simp;first|done|rfl
  clear f J;simp only[Act.put,qqB]
  refine qCZ ?_
  have e8:=(EF.blk0 d7 g2).1
  obtain⟨j1,i5⟩:=EF.blk0 j5 h6
  have EE:=E5.trans EF
  have d0:=e8.cell 0
  have d1:=e8.cell 1
  have d2:=e8.cell 2
  have s0:=bF.cell 0
  have s1:=bF.cell 1
  have s2:=bF.cell 2
  have e7:=qKk n T1 T2 (.slice ua 32 uc) SB a9.out e4.out zF (by rw[a9.out];exact Sl.of_own j6)
  unfold Nn.val at e7
  obtain⟨d4,b9⟩:∃y,y=qFV n SB (T1,T2):=⟨_,rfl⟩
  have c5:Hid (d4=x.logR boot k r):=qh (by unfold Wd.logR;rw[b9,←f7.out,←i8.out])
  have b3:d4.length=60:=by rw[c5.out];exact qGl _ _ _ _
  rw[←b9]at e7
  replace b3:=qh b3
  clear b9
  go_wp2_with fail
  refine e7.mono ?_
  rintro e v1 ⟨b2,rfl,o2,e2⟩
  obtain⟨k4,k5,rfl⟩:=(Sl.of_own o2).len
  have a6:=f6.kept e2
  have c3:=a6.wd.blk
  rw[show(x.logL boot k r).n=N from HX.out]at c3
  have d8:=j1.kept e2
  have fL:=fi.logL boot k r
  have j9:∀z,qA4 v1 z→Calls prog 102 #[.pointer (some ⟨P.W,0,none⟩),U r.count] z fun e w'=>e= .returned (.int .i64 (gRec N (qCY r.count):Nat))∧qA4 z w':=fun z hz=>by
   have:=qJ8 (a6.wd.kept hz) fL r.count
   rw[show(x.logL boot k r).n=N from HX.out]at this
   exact this
  have j8:inB (gSize (x.logL boot k r).n) ((gRec N (qCY r.count):Nat),d4):=by
   have:=qI9 x boot k r (by rw[HX.out];omega)
   rw[HX.out]at this
   rw[c5.out,show(x.logL boot k r).n=N from HX.out]
   exact this
  obtain⟨B,hB⟩:∃y,y=x.p.spend.1:=⟨_,rfl⟩
  have HB:=qh hB
  clear hB d0 d1 d2 s0 s1 s2
  go_wp2_with fail
  refine qAf (qA8 (fun k=>k<v1.heap.size∧(j k=0∨6<j k))) [(0,0),(1,0),(2,0),(3,0),(4,0),(5,0),(6,0),(8,0),(7,1),(9,1),(10,0)] (by kernel_rfl) (by kernel_rfl) ?_ ?_ ?_
  · exact fun _=>qA8.refl _
  · exact fun _ _ _ h1 h2=>h1.trans h2
  intro v2 a7
  have g0:=c3.kept a7
  have h8:=d8.kept a7
  repeat
   refine qA0 _ rfl (fun K Y=>?_)
   first
    | (refine qqP (by rfl) ?_;apply Exists.intro;refine⟨fun w' h=>?_,Y _ ?_⟩;(have c:=(h.block _ g0.lt ⟨c3.lt,.inr (by rw[a6.wd.cW];decide)⟩).trans g0;have c2:=Blk.cell c 2;clear c;have d:=(h.block _ h8.lt ⟨d8.lt,.inl i5⟩).trans h8;have d0:=Blk.cell d 0;clear d;go_simp;first|done|rfl))
    | refine qqN (by rfl) (Y _ ?_)
   clear Y K;simp only[Act.put,qqB]
  refine qqH _ rfl (by rfl) (fun K Y=>?_)
  go_wp2_with fail
  refine(j9 v2 a7).mono ?_
  rintro e v3 ⟨rfl,b8⟩
  go_wp2
  refine Y _ _ (qA8.of_kept b8) ?_
  clear Y K
  try simp only[Act.put,qqB]
  refine qqH _ rfl (by rfl) (fun K Y=>?_)
  go_wp2_with fail
  refine(qEK ((a6.wd.kept a7).kept b8) fL.ok (by omega) (gRec N (qCY r.count):Nat) _ d4 j8 (by rw[b3.out];exact Sl.of_own (qA5 (qA5 o2 a7) b8)) (fun a c e hl=>by rw[b3.out]at e;exact qI4 o2 f6.wd.top qle a c e hl)).mono ?_
  rintro e v4 ⟨rfl,c4,e3,E9⟩
  rw[show(x.logL boot k r).p.spend.1=_ from HB.out.symm]
  have S9:=E9.sameOn (w0:=v1) (col0:=j) (fun k hk=>rfl)
  go_wp2
  refine Y _ _ (S9) ?_
  clear Y K
  try simp only[Act.put,qqB]
  repeat
   refine qA0 _ rfl (fun K Y=>?_)
   first
    | (refine qqP (by rfl) ?_;apply Exists.intro;refine⟨fun w' h=>?_,Y _ ?_⟩;go_simp;first|done|rfl)
    | refine qqN (by rfl) (Y _ ?_)
   clear Y K;simp only[Act.put,qqB]
  refine qA6 ?_
  replace e3:qAW c4 v4 P (x.logW boot k r):=by
   unfold Wd.logW
   rw[HX.out,←c5.out]
   exact e3
  have g7:=a6.ext6 e3 ((Ext.kept (m:=6) a6.wd.top (a7.of b8)).trans E9)
  have EZ:=(EE.trans (Ext.kept (m:=8) f6.wd.top e2)).trans (((Ext.kept (m:=6) a6.wd.top (a7.of b8)).trans E9).mono (show 6≤8 by decide))
  cases B with
  | false =>
   go_wp2_with fail
   refine bodyPost_ret (v:=.int .i64 7) (by simp[results,results176,go_sem];done) rfl ⟨by rw[HE.out,←HB.out];rfl,c4,g7,EZ⟩
  | true =>
   go_wp2_with fail
   refine bodyPost_ret (v:=.int .i64 0) (by simp[results,results176,go_sem];done) rfl ⟨by rw[HE.out,←HB.out];rfl,c4,g7,EZ⟩
theorem qMg {col:Nat→Nat}{w:World}{P:qAU}{x:Wd}{m M k:Nat}{boot:BitVec 64}(hW:WM col w P x M boot k)(fi:x.fine m)(hm:m≤70000)(hk100:k=100)(r:Rt)(hr:r.slots=(x.n:Int)) :
 Calls prog 176 #[.pointer (some ⟨P.W,0,none⟩),.pointer (some ⟨M,0,none⟩),.agg #[U r.count,W r.epoch,.int .i64 (x.n:Int),U r.hash.1,U r.hash.2]] w fun e w'=>e= .returned (.int .i64 6)∧qA4 w w':=by
 have a6:=qAo fi.ok.sl
 obtain⟨N,hN⟩:∃N,N=x.n:=⟨_,rfl⟩
 rw[←hN]at a6 hr ⊢
 have HX:Hid (x.n=N):=qh hN.symm
 have J:=hW.wd.blk
 rw[←hN]at J
 clear hN
 have O:qA4 w (w.alloc (.cells #[U r.count,W r.epoch,.int .i64 (N:Int),U r.hash.1,U r.hash.2] 148)):=qal _
 have G:=Blk.new w #[U r.count,W r.epoch,.int .i64 (N:Int),U r.hash.1,U r.hash.2] 148
 have a0:=G.cell 0
 have a1:=G.cell 1
 have a2:=G.cell 2
 have a3:=G.cell 3
 have a4:=G.cell 4
 have CP:=fun wx=>qFC (N:Int) (by omega) r.count r.epoch r.hash.1 r.hash.2 wx
 have a8:qCU ⟨r.count,r.epoch,(N:Int),(r.hash.1,r.hash.2)⟩=qCU r:=by rw[←hr]
 rw[a8]at CP
 obtain⟨rb,h⟩:∃b,b=qCU r:=⟨_,rfl⟩
 have Y:rb.length=32:=by rw[h];exact qB6 r
 rw[←h]at CP
 have b7:=qh h
 have b8:=qh Y
 clear a8 h Y hr
 go_enter func176,ntmps176
 go_wp2_with fail
 generalize (w.alloc (.cells #[U r.count,W r.epoch,.int .i64 (N:Int),U r.hash.1,U r.hash.2] 148))=wA at *
 refine(CP _).mono ?_
 rintro e w1 ⟨b,rfl,ob,F⟩
 clear a0 a1 a2 a3 a4
 obtain⟨ba,bc,rfl⟩:=(Sl.of_own ob).len
 go_wp2_with fail
 refine qA3 [(0,0),(1,0),(2,0),(3,0),(4,0),(5,0),(6,0),(7,0),(8,0),(9,0),(10,0),(11,0),(12,0),(13,0),(14,0),(15,0)] (by kernel_rfl) (by kernel_rfl) ?_
 intro z1 j
 repeat
  refine qA0 _ rfl (fun K hK=>?_)
  first
   | (refine qqP (by rfl) ?_;apply Exists.intro;refine⟨fun w' a9=>?_,hK _ ?_⟩;(have c:=(G.kept (F.of j)).kept a9;have c2:=c.cell 2;clear c;have d:=(J.kept ((O.of F).of j)).kept a9;have d0:=d.cell 0;clear d;go_simp;first|done|rfl))
   | refine qqN (by rfl) (hK _ ?_)
  clear hK K;simp only[Act.put,qqB]
 refine qA6 ?_
 go_wp2_with fail
 have Z:=(O.of F).of j
 have CK:=qLg (hW.wd.kept Z) fi (by omega)
 obtain⟨ep,l⟩:∃y,y=qAl x.eps:=⟨_,rfl⟩
 obtain⟨ky,q⟩:∃y,y=x.logK:=⟨_,rfl⟩
 rw[show qFd x.seed x.eps (qAl x.eps)=ky from q.symm,←l]at CK
 have b9:=qh l
 have c0:=qh q
 obtain⟨V,I⟩:=ky
 clear l q
 refine CK.mono ?_
 rintro e w2 ⟨rfl,b4⟩
 unfold Pr
 go_wp2_with fail
 have a7:qA4 w2 (w2.alloc (.cells #[U V,U I] 115)):=qal _
 have f:=(Z.of b4).of a7
 obtain⟨w3,a5⟩:∃y,y=(w2.alloc (.cells #[U V,U I] 115)):=⟨_,rfl⟩
 rw[←a5]at a7 f ⊢
 clear a5
 have b3:=hW.kept f
 have CM:Calls prog 159 #[.pointer (some ⟨M,0,none⟩),W ep,.int .i64 65535] w3 fun e w'=>e= .returned (.tuple #[.agg #[W 0#32,W 0#32,U 0#64],.int .i64 6])∧qA4 w3 w':=qH3 M boot ep 65535 (by omega) w3 (by rw[←hk100];exact b3.mkr)
 clear hk100
 refine CM.mono ?_
 rintro e w4 ⟨rfl,b6⟩
 have b5:qA4 w4 (w4.alloc (.cells #[W 0#32,W 0#32,U 0#64] 113)):=qal _
 go_wp2_with fail
 refine bodyPost_ret (v:=.int .i64 6) (by simp[results,results176,go_sem];done) rfl ⟨rfl,(f.of b6).of b5⟩
theorem qR3 {col:Nat→Nat}{w:World}{P:qAU}{x:Wd}{m M k:Nat}{boot:BitVec 64}(hW:WM col w P x M boot k)(fi:x.fine m)(hm:m≤70000)(hk:k≤100)(r:Rt)(hr:r.slots=(x.n:Int)) :
 Calls prog 176 #[.pointer (some ⟨P.W,0,none⟩),.pointer (some ⟨M,0,none⟩),.agg #[U r.count,W r.epoch,.int .i64 (x.n:Int),U r.hash.1,U r.hash.2]] w fun e w'=>e= .returned (.int .i64 (x.logE k))∧qPE col w P M (x.logX boot k r) boot (qIt k) w':=by
 by_cases h:k<100
 · have j:x.logE k=if x.p.spend.1 then 0 else 7:=if_pos h
   have l:x.logX boot k r=x.logW boot k r:=if_pos h
   have f:qIt k=k+1:=if_pos h
   rw[j,l,f]
   exact qMf hW fi hm h r hr
 · have j:x.logE k=6:=if_neg h
   have l:x.logX boot k r=x:=if_neg h
   have f:qIt k=k:=if_neg h
   rw[j,l,f]
   refine(qMg hW fi hm (by omega) r hr).mono ?_
   rintro e w' ⟨rfl,c⟩
   exact⟨rfl,col,hW.kept c,Ext.kept hW.wd.top c⟩
end Go.Proofs.YtdlgihbpiakebaaGreat
