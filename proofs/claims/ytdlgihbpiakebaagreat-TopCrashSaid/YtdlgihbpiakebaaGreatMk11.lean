import Derived.Test.YtdlgihbpiakebaaGreatMk01
import Derived.Test.YtdlgihbpiakebaaGreatMk03
import Derived.Test.YtdlgihbpiakebaaGreatMk05
import Derived.Test.YtdlgihbpiakebaaGreatMk09
import Derived.Test.YtdlgihbpiakebaaGreatMk10
set_option maxRecDepth 100000
set_option maxHeartbeats 4000000
namespace Go.Proofs.YtdlgihbpiakebaaGreat
open Go Go.RowKit Tryz
def qAJ (p:qAD):List UInt8:=qAI p.1 8++qAI p.2 8
def qAr (bs:List UInt8):qAD:=(qAn (bs.take 8),qAn (bs.drop 8))
theorem qAs (p:qAD):(qAJ p).length=16:=by simp[qAJ,qA9]
theorem qEa (p:qAD):qAr (qAJ p)=p:=by
 unfold qAr qAJ
 rw[List.take_left' (qA9 _ _),List.drop_left' (qA9 _ _),qCR,qCR]
theorem Sl.sub {w:World}{b off cap n:Nat}{cs:List Value}(h:Sl w (.slice (some ⟨b,off,none⟩) n cap) n cs)(i m cap':Nat)(hm:m≤cap')(hc:cap'≤maxLen) :
 Sl w (.slice (some ⟨b,off+i,none⟩) m cap') m ((cs.drop i).take m):=by
 rcases h with ⟨h,_⟩|⟨a,c,ha,h1,h2,h3⟩
 · cases h
 · cases ha
   refine Sl.mk hm hc fun j u f=>?_
   rw[List.getElem?_take]at f
   split at f
   · rw[List.getElem?_drop]at f
     have:=h3 _ _ f
     rw[qF6]at this
     rw[show off+i+j=off+(i+j) by omega]
     exact this
   · cases f
theorem qBs (a b:BitVec 64)(w:World):Calls prog 128 #[.agg #[U a,U b]] w fun e w'=>∃r,e= .returned r∧w'.ownsRow w.heap.size 5 1 r 16 (qA1 (qAJ (a,b)))∧qA4 w w':=by
 have Y:Blk (w.alloc (.cells #[U a,U b] 115)) w.heap.size #[U a,U b] 115:=Blk.new _ _ _
 go_enter func128,ntmps128
 go_wp2_with fail
 have q:∀(i:Nat) (v:Value) (w1 Z:World),((fun i (vv:Value) w'=>match i with|0=>vv= .pointer (some ⟨w.heap.size,0,none⟩)|1=>vv=U a|2=>w'.ownsRow (w.alloc (.cells #[U a,U b] 115)).heap.size 5 1 vv 8 (qA1 (qAI a 8))|3=>vv= .pointer (some ⟨w.heap.size,1,none⟩)|4=>vv=U b|5=>w'.ownsRow (w.alloc (.cells #[U a,U b] 115)).heap.size 5 1 vv 8 (qA1 (qAI b 8))|6=>w'.ownsRow (w.alloc (.cells #[U a,U b] 115)).heap.size 5 1 vv 16 (qA1 (qAJ (a,b)))|_=>True):Nat→Value→World→Prop) i v w1→qA4 w1 Z→((fun i (vv:Value) w'=>match i with|0=>vv= .pointer (some ⟨w.heap.size,0,none⟩)|1=>vv=U a|2=>w'.ownsRow (w.alloc (.cells #[U a,U b] 115)).heap.size 5 1 vv 8 (qA1 (qAI a 8))|3=>vv= .pointer (some ⟨w.heap.size,1,none⟩)|4=>vv=U b|5=>w'.ownsRow (w.alloc (.cells #[U a,U b] 115)).heap.size 5 1 vv 8 (qA1 (qAI b 8))|6=>w'.ownsRow (w.alloc (.cells #[U a,U b] 115)).heap.size 5 1 vv 16 (qA1 (qAJ (a,b)))|_=>True):Nat→Value→World→Prop) i v Z:=by
  intro i v w1 Z h hk
  match i,h with
  | 0,h=>exact h
  | 1,h=>exact h
  | 2,h=>exact qA5 h hk
  | 3,h=>exact h
  | 4,h=>exact h
  | 5,h=>exact qA5 h hk
  | 6,h=>exact qA5 h hk
  | _+7,_=>trivial
 refine qDk 7 (fun i (vv:Value) w'=>match i with|0=>vv= .pointer (some ⟨w.heap.size,0,none⟩)|1=>vv=U a|2=>w'.ownsRow (w.alloc (.cells #[U a,U b] 115)).heap.size 5 1 vv 8 (qA1 (qAI a 8))|3=>vv= .pointer (some ⟨w.heap.size,1,none⟩)|4=>vv=U b|5=>w'.ownsRow (w.alloc (.cells #[U a,U b] 115)).heap.size 5 1 vv 8 (qA1 (qAI b 8))|6=>w'.ownsRow (w.alloc (.cells #[U a,U b] 115)).heap.size 5 1 vv 16 (qA1 (qAJ (a,b)))|_=>True) (by kernel_rfl) (by kernel_rfl) ?_ ?_
 · intro i o hi J x w1 N l K O
   match i,hi,J with
   | 0,_,J =>
    have e:=Option.some.inj J;subst e
    have f:∀(vv:Value) (w'':World),qA4 w1 w''→(vv= .pointer (some ⟨w.heap.size,0,none⟩))→K _ w'':=fun v w'' G V=>O v w'' (N.of G) (fun j _ _ h=>q j _ _ _ h G) V
    clear O l q
    simp only[qAQ,qBp,List.getElem?_toArray,List.getElem?_cons_zero,List.getElem?_cons_succ,Option.bind_some,Act.put,qqB]at f ⊢
    refine qqP (by rfl) ?_
    go_wp2
    exact f _ _ (Below.refl _ _) rfl
   | 1,_,J =>
    have e:=Option.some.inj J;subst e
    have p0:x 0= .pointer (some ⟨w.heap.size,0,none⟩):=l 0 (by kernel_rfl)
    have f:∀(vv:Value) (w'':World),qA4 w1 w''→(vv=U a)→K _ w'':=fun v w'' G V=>O v w'' (N.of G) (fun j _ _ h=>q j _ _ _ h G) V
    clear O l q
    simp only[qAQ,qBp,List.getElem?_toArray,List.getElem?_cons_zero,List.getElem?_cons_succ,Option.bind_some,Act.put,qqB]at f ⊢
    simp only[p0]at f ⊢
    clear p0
    refine qqP (by rfl) ?_
    have c:=Y.kept N;have c0:=c.cell 0;have c1:=c.cell 1;clear c
    go_wp2
    exact f _ _ (Below.refl _ _) rfl
   | 2,_,J =>
    have e:=Option.some.inj J;subst e
    have p1:x 1=U a:=l 1 (by kernel_rfl)
    have f:∀(vv:Value) (w'':World),qA4 w1 w''→(w''.ownsRow (w.alloc (.cells #[U a,U b] 115)).heap.size 5 1 vv 8 (qA1 (qAI a 8)))→K _ w'':=fun v w'' G V=>O v w'' (N.of G) (fun j _ _ h=>q j _ _ _ h G) V
    clear O l q
    simp only[qAQ,qBp,List.getElem?_toArray,List.getElem?_cons_zero,List.getElem?_cons_succ,Option.bind_some,Act.put,qqB]at f ⊢
    simp only[p1]at f ⊢
    clear p1
    refine qqP (by rfl) ?_
    go_wp2_with fail
    refine(qAS _ 8 (by omega) (by omega) _).mono ?_
    rintro e Z ⟨r,rfl,I,a0⟩
    go_wp2
    exact f _ _ a0 (qAh I N.size)
   | 3,_,J =>
    have e:=Option.some.inj J;subst e
    have f:∀(vv:Value) (w'':World),qA4 w1 w''→(vv= .pointer (some ⟨w.heap.size,1,none⟩))→K _ w'':=fun v w'' G V=>O v w'' (N.of G) (fun j _ _ h=>q j _ _ _ h G) V
    clear O l q
    simp only[qAQ,qBp,List.getElem?_toArray,List.getElem?_cons_zero,List.getElem?_cons_succ,Option.bind_some,Act.put,qqB]at f ⊢
    refine qqP (by rfl) ?_
    go_wp2
    exact f _ _ (Below.refl _ _) rfl
   | 4,_,J =>
    have e:=Option.some.inj J;subst e
    have p3:x 3= .pointer (some ⟨w.heap.size,1,none⟩):=l 3 (by kernel_rfl)
    have f:∀(vv:Value) (w'':World),qA4 w1 w''→(vv=U b)→K _ w'':=fun v w'' G V=>O v w'' (N.of G) (fun j _ _ h=>q j _ _ _ h G) V
    clear O l q
    simp only[qAQ,qBp,List.getElem?_toArray,List.getElem?_cons_zero,List.getElem?_cons_succ,Option.bind_some,Act.put,qqB]at f ⊢
    simp only[p3]at f ⊢
    clear p3
    refine qqP (by rfl) ?_
    have c:=Y.kept N;have c0:=c.cell 0;have c1:=c.cell 1;clear c
    go_wp2
    exact f _ _ (Below.refl _ _) rfl
   | 5,_,J =>
    have e:=Option.some.inj J;subst e
    have p4:x 4=U b:=l 4 (by kernel_rfl)
    have f:∀(vv:Value) (w'':World),qA4 w1 w''→(w''.ownsRow (w.alloc (.cells #[U a,U b] 115)).heap.size 5 1 vv 8 (qA1 (qAI b 8)))→K _ w'':=fun v w'' G V=>O v w'' (N.of G) (fun j _ _ h=>q j _ _ _ h G) V
    clear O l q
    simp only[qAQ,qBp,List.getElem?_toArray,List.getElem?_cons_zero,List.getElem?_cons_succ,Option.bind_some,Act.put,qqB]at f ⊢
    simp only[p4]at f ⊢
    clear p4
    refine qqP (by rfl) ?_
    go_wp2_with fail
    refine(qAS _ 8 (by omega) (by omega) _).mono ?_
    rintro e Z ⟨r,rfl,I,a0⟩
    go_wp2
    exact f _ _ a0 (qAh I N.size)
   | 6,_,J =>
    have e:=Option.some.inj J;subst e
    have p2:w1.ownsRow (w.alloc (.cells #[U a,U b] 115)).heap.size 5 1 (x 2) 8 (qA1 (qAI a 8)):=l 2 (by kernel_rfl)
    have p5:w1.ownsRow (w.alloc (.cells #[U a,U b] 115)).heap.size 5 1 (x 5) 8 (qA1 (qAI b 8)):=l 5 (by kernel_rfl)
    have f:∀(vv:Value) (w'':World),qA4 _ w''→((w1.ownsRow (w.alloc (.cells #[U a,U b] 115)).heap.size 5 1 (x 2) 8 (qA1 (qAI a 8)))→(w''.ownsRow (w.alloc (.cells #[U a,U b] 115)).heap.size 5 1 (x 2) 8 (qA1 (qAI a 8))))→((w1.ownsRow (w.alloc (.cells #[U a,U b] 115)).heap.size 5 1 (x 5) 8 (qA1 (qAI b 8)))→(w''.ownsRow (w.alloc (.cells #[U a,U b] 115)).heap.size 5 1 (x 5) 8 (qA1 (qAI b 8))))→(w''.ownsRow (w.alloc (.cells #[U a,U b] 115)).heap.size 5 1 vv 16 (qA1 (qAJ (a,b))))→K _ w'':=fun v w'' h0 s2 s5 V=>O v w'' h0 (fun j hj F h=>by
     match j,hj,F,h with
     | 0,_,F,h=>exact h
     | 1,_,F,h=>exact h
     | 2,_,F,h=>exact s2 h
     | 3,_,F,h=>exact h
     | 4,_,F,h=>exact h
     | 5,_,F,h=>exact s5 h
     | 6,_,F,h=>exact absurd rfl F
     | j+7,hj,_,_=>exact absurd hj (by omega)) V
    clear O l q
    simp only[qAQ,qBp,List.getElem?_toArray,List.getElem?_cons_zero,List.getElem?_cons_succ,Option.bind_some,Act.put,qqB]at f ⊢
    refine qqP (by rfl) ?_
    refine qBE qAx (by rfl) (by rfl) (by rfl) p2 (Sl.of_own p5) (by simp[qA7,qA9]) (qAP _) (by unfold maxLen;omega) (by omega) N.size ?_
    intro v2 Z I hg _ _
    exact f v2 Z (Below.trans N (hg.below (fun i hi=>(p2.lt i hi).1) N.size)) (fun h=>hg.own h (by omega)) (fun h=>hg.own h (by omega)) (by rw[qAJ,qBk];exact I)
   | i+7,hi,_=>exact absurd hi (by omega)
 · intro x w1 N Y
   have p0:x 0= .pointer (some ⟨w.heap.size,0,none⟩):=Y 0 (by omega)
   have p1:x 1=U a:=Y 1 (by omega)
   have p2:w1.ownsRow (w.alloc (.cells #[U a,U b] 115)).heap.size 5 1 (x 2) 8 (qA1 (qAI a 8)):=Y 2 (by omega)
   have p3:x 3= .pointer (some ⟨w.heap.size,1,none⟩):=Y 3 (by omega)
   have p4:x 4=U b:=Y 4 (by omega)
   have p5:w1.ownsRow (w.alloc (.cells #[U a,U b] 115)).heap.size 5 1 (x 5) 8 (qA1 (qAI b 8)):=Y 5 (by omega)
   have p6:w1.ownsRow (w.alloc (.cells #[U a,U b] 115)).heap.size 5 1 (x 6) 16 (qA1 (qAJ (a,b))):=Y 6 (by omega)
   clear Y q
   simp only[List.drop_succ_cons,List.drop_zero,qAQ,qBp,List.getElem?_toArray,List.getElem?_cons_zero,List.getElem?_cons_succ,Option.bind_some,Act.put,qqB]
   simp only[p0,p1,p3,p4]
   clear p0 p1 p3 p4
   go_wp2
   go_ret
   exact⟨_,rfl,qAh p6 (by simp),(qal _).trans (N.mono (by simp))⟩
theorem qCo (bv:Value)(bs:List UInt8)(w:World)(hs:Sl w bv bs.length (qA1 bs))(h:bs.length=16) :
 Calls prog 94 #[bv] w fun e w'=>e= .returned (.tuple #[Pr (qAr bs),.bool true])∧qA4 w w':=by
 obtain⟨b,off,cap,rfl,j,c,q,l⟩:=hs.at (by rw[qA7];omega)
 rw[h]at hs j ⊢
 have F:qA4 w (w.alloc (.cells #[U 0#64,U 0#64] 115)):=qal _
 have s1:=(hs.sub 0 8 cap (by omega) c).kept F
 have s2:=(hs.sub 8 8 (cap - 8) (by omega) (by omega)).kept F
 have f:=Blk.new w #[U 0#64,U 0#64] 115
 have I:(qA1 bs).take 8=qA1 (bs.take 8):=by simp[qA1]
 have N:((qA1 bs).drop 8).take 8=qA1 (bs.drop 8):=by
  rw[List.take_of_length_le (by simp[qA1];omega)]
  simp[qA1]
 rw[List.drop_zero,I,Nat.add_zero]at s1
 rw[N]at s2
 have l1:(bs.take 8).length=8:=by simp;omega
 have l2:(bs.drop 8).length=8:=by simp;omega
 have S1:=qh (show Sl (w.alloc (.cells #[U 0#64,U 0#64] 115)) (.slice (some ⟨b,off,none⟩) 8 cap) (bs.take 8).length (qA1 (bs.take 8)) by rw[l1];exact s1)
 have Z:=qh (show Sl (w.alloc (.cells #[U 0#64,U 0#64] 115)) (.slice (some ⟨b,off+8,none⟩) 8 (cap - 8)) (bs.drop 8).length (qA1 (bs.drop 8)) by rw[l2];exact s2)
 have G:=qh l1
 have J:=qh l2
 have c8:(8:Int)≤(cap:Int):=by omega
 have Y:(16:Int)≤(cap:Int):=by omega
 have cm:(cap:Int)≤9223372036854775807:=by unfold maxLen at c;omega
 have f0:=f.free 0
 have f1:=f.free 1
 have V:=f.cell 0
 have r1:=f.cell 1
 clear hs F s1 s2 f I N l1 l2 j c l q h
 go_enter func94,ntmps94
 go_wp2_with fail
 refine(qAT _ (bs.take 8) _ S1.out (by rw[G.out];omega) (by rw[G.out];omega)).mono ?_
 rintro e O ⟨rfl,rfl⟩
 go_wp2_with fail
 refine(qAT _ (bs.drop 8) _ Z.out (by rw[J.out];omega) (by rw[J.out];omega)).mono ?_
 rintro e O ⟨rfl,rfl⟩
 go_wp2
 refine bodyPost_ret (v:=.tuple #[Pr (qAr bs),.bool true]) (by simp[results,results94,go_sem,qAr];done) rfl ⟨rfl,?_⟩
 first|exact qal _|exact(((qal _).setCell (by simp) _).setCell (by simp) _)
end Go.Proofs.YtdlgihbpiakebaaGreat
namespace Go.Proofs.YtdlgihbpiakebaaGreat
open Go
def Nn.block (n:Nn):qAD:=(BitVec.setWidth 64 n.epoch<<<32 ||| BitVec.setWidth 64 n.slot,n.version)
def qOH (key:qAD)(n:Nn):qAD:=qLK key n.block
def qG4 (sub:qAD):Nat→List UInt8
 | 0=>[]
 | k+1=>qG4 sub k++qAJ (qLK sub (BitVec.ofNat 64 (k+1),0#64))
def qE1 (sub:qAD)(n:Nat):List UInt8:=(qG4 sub ((n+15) / 16)).take n
theorem qD3 (sub:qAD):∀k,(qG4 sub k).length=16*k
 | 0=>rfl
 | k+1=>by rw[qG4,List.length_append,qD3 sub k,qAs];omega
theorem qBF (sub:qAD)(n:Nat):(qE1 sub n).length=n:=by
 unfold qE1;rw[List.length_take,qD3];omega
def qFM (a b:List UInt8):List UInt8:=List.zipWith (· ^^^ ·) a b
theorem qN1 (a b:List UInt8):qFM (qFM a b) b=a.take (min a.length b.length):=by
 induction a generalizing b with
 | nil=>simp[qFM]
 | cons x a ih =>
  cases b with
  | nil=>simp[qFM]
  | cons y b =>
   have:=ih b
   unfold qFM at this ⊢
   simp only[List.zipWith_cons_cons,this,List.length_cons,Nat.succ_min_succ,List.take_succ_cons]
   congr 1
   rw[UInt8.xor_assoc,UInt8.xor_self,UInt8.xor_zero]
def qGR (s m:qAD):qAD:=((qLK m s).1 ^^^ s.1,(qLK m s).2 ^^^ s.2)
def qMK (n:Nat):Nat:=(7+15*n) % 16
theorem qKY (n:Nat):(n+1+qMK n) % 16=8:=by unfold qMK;omega
theorem qQD (n k:Nat)(h:k<qMK n):(n+1+k) % 16≠8:=by unfold qMK at h;omega
theorem qQE (n:Nat):qMK n≤15:=by unfold qMK;omega
def qHI (bs:List UInt8):List UInt8:=bs++ [128]++List.replicate (qMK bs.length) 0++qAI (BitVec.ofInt 64 (bs.length:Int)) 8
theorem qG5 (bs:List UInt8):(qHI bs).length=bs.length+1+qMK bs.length+8:=by simp[qHI,qA9];omega
theorem qQF (bs:List UInt8):∃m,(qHI bs).length=16*m:=by
 have:=qKY bs.length
 exact⟨(qHI bs).length / 16,by rw[qG5];omega⟩
def iv:qAD:=(7640891576956012808#64,13503953896175478587#64)
def qG6 (l:List UInt8)(k:Nat):List UInt8:=(l.drop (16*k)).take 16
theorem qIH (l:List UInt8)(k m:Nat)(h:l.length=16*m)(hk:k<m):(qG6 l k).length=16:=by
 unfold qG6;rw[List.length_take,List.length_drop];omega
def qSK (l:List UInt8):Nat→qAD
 | 0=>iv
 | k+1=>qGR (qSK l k) (qAr (qG6 l k))
def qRG (bs:List UInt8):qAD:=qSK (qHI bs) ((qHI bs).length / 16)
end Go.Proofs.YtdlgihbpiakebaaGreat
