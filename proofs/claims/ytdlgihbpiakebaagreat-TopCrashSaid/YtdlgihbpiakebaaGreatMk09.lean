import Derived.Test.YtdlgihbpiakebaaGreatMk01
import Derived.Test.YtdlgihbpiakebaaGreatMk05
import Derived.Test.YtdlgihbpiakebaaGreatProg
import Derived.Outline
import Derived.Lib.Hide
set_option maxRecDepth 100000
set_option maxHeartbeats 4000000
namespace Go.Proofs.YtdlgihbpiakebaaGreat
open Go Go.RowKit Tryz
theorem qAx:SlT prog 32 5 1 1 (.int .u8 0):=SlT.mk' underlying32 (by kernel_rfl) rfl (by omega)
theorem qSJ (v:BitVec 64)(n:Int)(lo: -9223372036854775808≤n)(hi:n≤9223372036854775807)(h:n<1∨8<n)(w:World) :
 Calls prog 92 #[U v,.int .i64 n] w fun e w'=>e= .returned (.slice none 0 0)∧w=w':=by
 by_cases c:n<1
 · clear h
   go_enter func92,ntmps92
   go_wp2
   go_ret
   exact⟨rfl,rfl⟩
 · have f:8<n:=by omega
   clear h
   go_enter func92,ntmps92
   go_wp2
   go_ret
   exact⟨rfl,rfl⟩
theorem qAS (v:BitVec 64)(n:Nat)(h1:1≤n)(h8:n≤8)(w:World) :
 Calls prog 92 #[U v,.int .i64 n] w fun e w'=>∃r,e= .returned r∧w'.ownsRow w.heap.size 5 1 r n (qA1 (qAI v n))∧qA4 w w':=by
 have G:=fun Z=>qBU (P:=prog) Z qAx .i64 .i64 n (by omega)
 have i1:(1:Int)≤(n:Int):=by omega
 have i8:(n:Int)≤8:=by omega
 have l:=qA9 v n
 go_enter func92,ntmps92
 go_wp2_with fail
 clear G
 go_loopw [17] (fun i wr=>∃k:Nat,k≤n∧i= .int .i64 k∧Blk wr w.heap.size (qA1 (qJP (qAI v n) 0 k)).toArray 5∧Below w.heap.size w wr)
  (fun i _=>n - (intOf i).toNat)
 case atStart=>exact⟨0,by omega,rfl,by rw[qIA,l];exact Blk.new _ _ _,qal _⟩
 case round =>
  obtain⟨k,hk,rfl,q,V⟩:=hrel
  by_cases I:k<n
  · have j:k<(qAI v n).length:=by rw[l];exact I
    have h:=qKV (qAI v n) 0 k j
    rw[qOT]at h
    have c:=q.cell k
    rw[show(qA1 (qJP (qAI v n) 0 k)).toArray[k]? = some (V8 0) by simp[qA1,qKW _ _ _ j]]at c
    have f:=q.free k
    obtain⟨m,J⟩:∃m:Nat,m=8*(n - 1 - k):=⟨_,rfl⟩
    have Y:(8:Int)*((n:Int) - 1 - (k:Int))=(m:Int):=by omega
    have i2:(k:Int)<(n:Int):=by omega
    have i3:(0:Int)≤(k:Int):=by omega
    have F:UInt8.ofNat (v.toNat>>>m)=qE3 v n k:=by rw[J];rfl
    have HS:=qh h
    have HM:=qh J
    have N:=qh l
    clear h J l j
    go_wp2
    refine⟨⟨k+1,by omega,by go_num,?_,V.setCell qle _⟩,by simp[intOf];omega⟩
    have:=q.set k (V8 (qE3 v n k))
    rw[qF7,HS.out]at this
    exact this
  · have:k=n:=by omega
    subst this
    have O:qJP (qAI v k) 0 k=qAI v k:=by have:=qKU (qAI v k) 0;rwa [l]at this
    rw[O]at q
    have N:=qh l
    clear l O
    go_wp2
    go_ret
    exact⟨_,rfl,qCB k (by unfold maxLen;omega) 5 _ N.out q qle,V⟩
theorem qAT (bv:Value)(bs:List UInt8)(w:World)(hs:Sl w bv bs.length (qA1 bs))(h1:1≤bs.length)(h8:bs.length≤8) :
 Calls prog 134 #[bv] w fun e w'=>e= .returned (.tuple #[U (qAn bs),.bool true])∧w=w':=by
 obtain⟨b,off,cap,rfl,I,J,N,j⟩:=hs.at (by rw[qA7];omega)
 have i1:(1:Int)≤(bs.length:Int):=by omega
 have Y:(bs.length:Int)≤8:=by omega
 generalize hn:bs.length=n at *
 have F:=qh hn
 clear hn
 go_enter func134,ntmps134
 go_wp2_with fail
 go_loop [4,17] (fun v i=>∃k:Nat,k≤n∧i= .int .i64 k∧v=U (qAn (bs.take k)))
  (fun _ i=>n - (intOf i).toNat)
 case atStart=>exact⟨0,by omega,rfl,rfl⟩
 case round =>
  obtain⟨k,O,rfl,rfl⟩:=hrel
  by_cases l:k<n
  · have h:k<bs.length:=by rw[F.out];exact l
    have f:qAn (bs.take (k+1))=qAn (bs.take k)<<<8 ||| BitVec.ofNat 64 bs[k].toNat:=by rw[List.take_succ_eq_append_getElem h,qIv]
    have c:=j k (V8 bs[k]) (qBT bs k h)
    have q:=qh f
    generalize bs[k]=x at c q
    clear f h j
    have Z:(k:Int)<(n:Int):=by omega
    have V:(0:Int)≤(k:Int):=by omega
    go_wp2
    go_round
    case rel=>exact⟨k+1,by omega,by go_num,by rw[q.out]⟩
    case measure=>simp[intOf];omega
  · have:k=n:=by omega
    subst this
    have G:bs.take k=bs:=List.take_of_length_le (by rw[F.out];exact Nat.le_refl _)
    rw[G]
    clear G j
    go_wp2
    go_ret2
    exact⟨rfl,rfl⟩
structure Pw where
 gone:Bool
 fuse:Bool
 left:Int
 steps:Int
def qQC (p:Pw):Array Value:=#[.bool p.gone,.bool p.fuse,.int .i64 p.left,.int .i64 p.steps]
def qD1 (w:World)(b:Nat)(p:Pw):Prop:=Blk w b (qQC p) 124
def Pw.ok (p:Pw)(most:Int):Prop:=0≤p.steps∧p.steps≤most∧(p.fuse=true→0≤p.left∧p.left≤9223372036854775807)
def Pw.new:Pw:=⟨false,false,0,0⟩
def Pw.setFuse (p:Pw)(n:Int):Pw:={ p with fuse:=decide (0≤n),left:=n }
def Pw.spend (p:Pw):Bool×Pw:=
 if p.gone then(false,p)
 else if p.fuse&&p.left==0 then(false,{ p with gone:=true })
 else(true,{ p with left:=if p.fuse then p.left - 1 else p.left,steps:=p.steps+1 })
def Pw.back (p:Pw):Pw:={ p with gone:=false,fuse:=false }
theorem qFQ {w:World}{b:Nat}{p:Pw}(h:qD1 w b p) :
 w.cell? ⟨b,0,none⟩=some (.bool p.gone)∧w.cell? ⟨b,1,none⟩=some (.bool p.fuse)∧w.cell? ⟨b,2,none⟩=some (.int .i64 p.left)∧w.cell? ⟨b,3,none⟩=some (.int .i64 p.steps):=
 ⟨Blk.cell h 0,Blk.cell h 1,Blk.cell h 2,Blk.cell h 3⟩
theorem qJT {w:World}{b:Nat}{p:Pw}(h:qD1 w b p) :
 w.frozen? ⟨b,0,none⟩=false∧w.frozen? ⟨b,1,none⟩=false∧w.frozen? ⟨b,2,none⟩=false∧w.frozen? ⟨b,3,none⟩=false:=
 ⟨Blk.free h 0,Blk.free h 1,Blk.free h 2,Blk.free h 3⟩
theorem qCQ (w:World)(b:Nat):w.grownBy w (some b):=⟨rfl,rfl,rfl,Nat.le_refl _,fun _ _ _=>rfl⟩
theorem qCC {w0 w:World}{b:Nat}(h:w0.grownBy w (some b))(o:Nat)(v:Value):w0.grownBy (w.setCell ⟨b,o,none⟩ v) (some b):=
 ⟨h.os,h.tape,h.output,Nat.le_trans h.size (by simp[World.setCell]),fun k f c=>(Below.heap_setCell _ _ _ _ (fun e=>c (by rw[e]))).trans (h.block k f c)⟩
theorem qFR {w w':World}{b c:Nat}{cs:Array Value}{t:TypeId}(h:w.grownBy w' (some b))(hc:Blk w c cs t)(hne:c≠b):Blk w' c cs t:=
 (h.block c hc.lt (fun e=>hne (Option.some.inj e))).trans hc
theorem qMX (w:World):Calls prog 34 #[] w fun e w'=>e= .returned (.pointer (some ⟨w.heap.size,0,none⟩))∧qD1 w' w.heap.size Pw.new∧qA4 w w'∧w'.heap.size=w.heap.size+1:=by
 go_enter func34,ntmps34
 go_wp2
 go_ret
 exact⟨rfl,Blk.new _ _ _,qal _,by simp⟩
theorem qLM (b:Nat)(p:Pw)(n:Int)(w:World)(h:qD1 w b p):Calls prog 26 #[.pointer (some ⟨b,0,none⟩),.int .i64 n] w fun e w'=>e= .returned (.tuple #[])∧qD1 w' b (p.setFuse n)∧w.grownBy w' (some b):=by
 obtain⟨q,l,F,c3⟩:=qFQ h
 obtain⟨j,f,c,G⟩:=qJT h
 go_enter func26,ntmps26
 go_wp2
 go_end0
 exact⟨rfl,(Blk.set h 1 _).set 2 _,qCC (qCC (qCQ w b) 1 _) 2 _⟩
theorem qLN (b:Nat)(p:Pw)(w:World)(h:qD1 w b p):Calls prog 84 #[.pointer (some ⟨b,0,none⟩)] w fun e w'=>e= .returned (.tuple #[])∧qD1 w' b p.back∧w.grownBy w' (some b):=by
 obtain⟨q,l,F,c3⟩:=qFQ h
 obtain⟨j,f,c,G⟩:=qJT h
 go_enter func84,ntmps84
 go_wp2
 go_end0
 exact⟨rfl,(Blk.set h 0 _).set 1 _,qCC (qCC (qCQ w b) 0 _) 1 _⟩
theorem qD2 (b:Nat)(p:Pw)(w:World)(h:qD1 w b p):Calls prog 42 #[.pointer (some ⟨b,0,none⟩)] w fun e w'=>e= .returned (.bool (!p.gone))∧w=w':=by
 obtain⟨f,c,j,c3⟩:=qFQ h
 go_enter func42,ntmps42
 go_wp2
 go_ret
 exact⟨rfl,rfl⟩
theorem qJU (b:Nat)(p:Pw)(w:World)(h:qD1 w b p)(hok:p.ok 9223372036854775806):Calls prog 68 #[.pointer (some ⟨b,0,none⟩)] w fun e w'=>e= .returned (.bool p.spend.1)∧qD1 w' b p.spend.2∧w.grownBy w' (some b):=by
 obtain⟨l,G,j,c3⟩:=qFQ h
 obtain⟨N,I,J,O⟩:=qJT h
 obtain⟨gone,fuse,left,steps⟩:=p
 simp only at l G j c3
 obtain⟨q,s1,hl⟩:=hok
 simp only at q s1 hl
 cases gone
 · cases fuse
   · have hp:Pw.spend ⟨false,false,left,steps⟩=(true,⟨false,false,left,steps+1⟩):=by simp[Pw.spend]
     rw[hp]
     have f:=qh hp
     clear hp hl
     go_enter func68,ntmps68
     go_wp2_with (go_at_call 42;refine(qD2 b _ _ h).mono ?_;rintro e w1 ⟨rfl,rfl⟩)
     go_ret
     exact⟨rfl,Blk.set h 3 _,qCC (qCQ w b) 3 _⟩
   · obtain⟨V,l1⟩:=hl rfl
     clear hl
     by_cases c:left=0
     · subst c
       have hp:Pw.spend ⟨false,true,0,steps⟩=(false,⟨true,true,0,steps⟩):=by simp[Pw.spend]
       rw[hp]
       have f:=qh hp
       clear hp
       go_enter func68,ntmps68
       go_wp2_with (go_at_call 42;refine(qD2 b _ _ h).mono ?_;rintro e w1 ⟨rfl,rfl⟩)
       go_ret
       exact⟨rfl,Blk.set h 0 _,qCC (qCQ w b) 0 _⟩
     · have F:(left==0)=false:=by simpa using c
       have hp:Pw.spend ⟨false,true,left,steps⟩=(true,⟨false,true,left - 1,steps+1⟩):=by simp[Pw.spend,c]
       rw[hp]
       have f:=qh hp
       clear hp
       go_enter func68,ntmps68
       go_wp2_with (go_at_call 42;refine(qD2 b _ _ h).mono ?_;rintro e w1 ⟨rfl,rfl⟩)
       go_ret
       exact⟨rfl,(Blk.set h 2 _).set 3 _,qCC (qCC (qCQ w b) 2 _) 3 _⟩
 · have hp:Pw.spend ⟨true,fuse,left,steps⟩=(false,⟨true,fuse,left,steps⟩):=by simp[Pw.spend]
   rw[hp]
   have f:=qh hp
   clear hp
   go_enter func68,ntmps68
   go_wp2_with (go_at_call 42;refine(qD2 b _ _ h).mono ?_;rintro e w1 ⟨rfl,rfl⟩)
   go_ret
   exact⟨rfl,h,qCQ w b⟩
theorem qAK (b:Nat)(p p':Pw)(r:Bool)(w:World)(h:qD1 w b p)(hok:p.ok 9223372036854775806)(hs:p.spend=(r,p')):Calls prog 68 #[.pointer (some ⟨b,0,none⟩)] w fun e w'=>e= .returned (.bool r)∧qD1 w' b p'∧w.grownBy w' (some b):=by
 have:=qJU b p w h hok
 rw[hs]at this
 exact this
theorem qHH {p:Pw}{most:Int}(h:p.ok most):p.spend.2.ok (most+1):=by
 obtain⟨j,G,f⟩:=h
 unfold Pw.spend
 split
 · exact⟨j,by show p.steps≤most+1;omega,f⟩
 · split
   · exact⟨j,by show p.steps≤most+1;omega,f⟩
   · rename_i F
     refine⟨by show 0≤p.steps+1;omega,by show p.steps+1≤most+1;omega,fun l=>?_⟩
     have c:p.fuse=true:=l
     have:=f c
     have q:p.left≠0:=by intro e;apply F;simp[c,e]
     show 0≤(if p.fuse=true then p.left - 1 else p.left)∧(if p.fuse=true then p.left - 1 else p.left)≤9223372036854775807
     rw[if_pos c];omega
theorem qE9 {p:Pw}{a b:Int}(h:p.ok a)(hab:a≤b):p.ok b:=⟨h.1,by have:=h.2.1;omega,h.2.2⟩
end Go.Proofs.YtdlgihbpiakebaaGreat
