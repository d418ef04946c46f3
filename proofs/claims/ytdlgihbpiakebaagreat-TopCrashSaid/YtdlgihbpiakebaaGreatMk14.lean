import Derived.Test.YtdlgihbpiakebaaGreatMk11
import Derived.Test.YtdlgihbpiakebaaGreatMk13
set_option maxRecDepth 100000
set_option maxHeartbeats 4000000
namespace Go.Proofs.YtdlgihbpiakebaaGreat
open Go
def qSM (l:List UInt8):List UInt8:=l++List.replicate (16 - l.length) 0
def nP (n:Nat):Nat:=(n+15) / 16
def qML (bs:List UInt8)(k:Nat):List UInt8:=qSM ((bs.drop (16*k)).take 16)
def qCq (bs:List UInt8):List qAD:=(List.range (nP bs.length)).map fun k=>qAr (qML bs k)
theorem qJY (l:List UInt8)(h:l.length≤16):(qSM l).length=16:=by simp[qSM];omega
theorem qJZ (bs:List UInt8)(k:Nat):(qML bs k).length=16:=qJY _ (by simp;omega)
theorem qBN (bs:List UInt8):(qCq bs).length=nP bs.length:=by simp[qCq]
theorem qK0 (bs:List UInt8)(k:Nat)(h:k<nP bs.length):(qCq bs).take (k+1)=(qCq bs).take k++ [qAr (qML bs k)]:=by
 rw[List.take_succ_eq_append_getElem (by rw[qBN];exact h)]
 simp[qCq]
theorem qQI (n k:Nat)(h:k<nP n):16*k<n:=by unfold nP at h;omega
theorem qT3 (n k:Nat)(h:nP n≤k):n≤16*k:=by unfold nP at h;omega
def qP6 (head bytes:List UInt8):List qAD:=qCq head++qCq bytes++ [(BitVec.ofNat 64 head.length,BitVec.ofNat 64 bytes.length)]
def qMM (sub:qAD)(head bytes:List UInt8):qAD:=qJF (qCp (qLK sub (0#64,1#64)) (qP6 head bytes)) (qLK sub (0#64,0#64))
def qH5 (key:qAD)(n:Nn)(data:List UInt8):List UInt8:=qFM data (qE1 (qOH key n) data.length)
def qEb (key:qAD)(n:Nn)(head data:List UInt8):qAD:=qMM (qOH key n) head (qH5 key n data)
theorem qD4 (a b:List UInt8):(qFM a b).length=min a.length b.length:=by simp[qFM]
theorem qBB (key:qAD)(n:Nn)(data:List UInt8):(qH5 key n data).length=data.length:=by
 rw[qH5,qD4,qBF,Nat.min_self]
theorem qN4 (key:qAD)(n:Nn)(data:List UInt8):qH5 key n (qH5 key n data)=data:=by
 have h:=qBB key n data
 unfold qH5 at *
 rw[h,qN1,qBF,Nat.min_self,List.take_length]
end Go.Proofs.YtdlgihbpiakebaaGreat
namespace Go.Proofs.YtdlgihbpiakebaaGreat
open Go Go.RowKit Tryz
theorem qP7 (s1 s2 m1 m2:BitVec 64)(w:World):Calls prog 95 #[.agg #[U s1,U s2],.agg #[U m1,U m2]] w fun e w'=>e= .returned (Pr (qGR (s1,s2) (m1,m2)))∧qA4 w w':=by
 have h:Blk (((w.alloc (.cells #[U s1,U s2] 115)).alloc (.cells #[U m1,U m2] 115)).alloc (.cells #[U 0#64,U 0#64] 115)) w.heap.size #[U s1,U s2] 115:=((Blk.new _ _ _).alloc _).alloc _
 have G:Blk (((w.alloc (.cells #[U s1,U s2] 115)).alloc (.cells #[U m1,U m2] 115)).alloc (.cells #[U 0#64,U 0#64] 115)) (w.heap.size+1) #[U m1,U m2] 115:=Blk.alloc (by simpa using Blk.new (w.alloc (.cells #[U s1,U s2] 115)) #[U m1,U m2] 115) _
 have c:Blk (((w.alloc (.cells #[U s1,U s2] 115)).alloc (.cells #[U m1,U m2] 115)).alloc (.cells #[U 0#64,U 0#64] 115)) (w.heap.size+2) #[U 0#64,U 0#64] 115:=by simpa using Blk.new ((w.alloc (.cells #[U s1,U s2] 115)).alloc (.cells #[U m1,U m2] 115)) #[U 0#64,U 0#64] 115
 have j:qA4 w (((w.alloc (.cells #[U s1,U s2] 115)).alloc (.cells #[U m1,U m2] 115)).alloc (.cells #[U 0#64,U 0#64] 115)):=((qal _).alloc (by simp) _).alloc (by simp;omega) _
 have N:=h.cell 0
 have l:=h.cell 1
 have m0:=G.cell 0
 have I:=G.cell 1
 go_enter func95,ntmps95
 go_wp2_with fail
 refine(qFb _ _ _ _ _).mono ?_
 rintro e F ⟨rfl,f⟩
 replace h:=h.kept f
 replace c:=c.kept f
 replace j:=qA4.of j f
 clear N l m0 I G f
 obtain⟨E,J⟩:∃E,E=qLK (m1,m2) (s1,s2):=⟨_,rfl⟩
 rw[←J]
 have q:=Blk.new F #[U E.1,U E.2] 115
 replace h:=h.alloc (.cells #[U E.1,U E.2] 115)
 replace c:=c.alloc (.cells #[U E.1,U E.2] 115)
 replace j:=qA4.of j (show qA4 F (F.alloc (.cells #[U E.1,U E.2] 115)) from qal _)
 have N:=h.cell 0
 have l:=h.cell 1
 have V:=c.cell 0
 have Y:=c.cell 1
 have Z:=c.free 0
 have a0:=c.free 1
 have x0:=q.cell 0
 have x1:=q.cell 1
 have O:=qh J
 clear J q c h
 go_wp2
 refine bodyPost_ret (v:=Pr (qGR (s1,s2) (m1,m2))) (by simp[results,results95,go_sem,qGR,←O.out,V,Y];done) rfl ⟨rfl,?_⟩
 exact(j.setCell (by show _≤w.heap.size+2;omega) _).setCell (by show _≤w.heap.size+2;omega) _
theorem qK1 (k1 k2:BitVec 64)(n:Nn)(w:World):Calls prog 87 #[.agg #[U k1,U k2],n.val] w fun e w'=>e= .returned (Pr (qOH (k1,k2) n))∧qA4 w w':=by
 unfold Nn.val
 have l:qA4 w (((w.alloc (.cells #[U k1,U k2] 115)).alloc (.cells #[W n.epoch,W n.slot,U n.version] 113)).alloc (.cells #[U 0#64,U 0#64] 115)):=(((qal _).alloc (by simp) _).alloc (by simp;omega) _)
 have j:Blk (((w.alloc (.cells #[U k1,U k2] 115)).alloc (.cells #[W n.epoch,W n.slot,U n.version] 113)).alloc (.cells #[U 0#64,U 0#64] 115)) (w.heap.size+1+1) #[U 0#64,U 0#64] 115:=by simpa using Blk.new ((w.alloc (.cells #[U k1,U k2] 115)).alloc (.cells #[W n.epoch,W n.slot,U n.version] 113)) #[U 0#64,U 0#64] 115
 go_enter func87,ntmps87
 go_wp2_with fail
 refine(qFb _ _ _ _ _).mono ?_
 rintro e J ⟨rfl,f⟩
 have c:=j.kept f
 have F:=c.cell 0
 have q:=c.cell 1
 have I:=c.free 0
 have G:=c.free 1
 have h:=l.of f
 clear l f j c
 go_wp2
 refine bodyPost_ret (v:=Pr (qOH (k1,k2) n)) (by simp[results,results87,go_sem,F,q];try exact⟨rfl,rfl⟩) rfl ⟨rfl,?_⟩
 exact((Below.setCell h (by simp;omega) _).setCell (by simp;omega) _)
def qKZ:Value→Nat| .slice _ n _=>n|_=>0
theorem qN5 {w:World}{B e g q cap n:Nat}{xs:List Value}(h:w.ownsRow B e 1 (.slice (some ⟨g,0,none⟩) q cap) q xs)(hn:n≤q):w.ownsRow B e 1 (.slice (some ⟨g,0,none⟩) n cap) n (xs.take n):=by
 obtain⟨hl,l|⟨g',c,cur,f,N,F,G,I,j,J⟩⟩:=h
 · cases l.1
 · cases f
   refine⟨by rw[List.length_take,hl];omega,.inr ⟨g,cap,cur,rfl,N,F,by omega,I,j,?_⟩⟩
   rw[←J,List.take_take,Nat.mul_one,Nat.mul_one,Nat.min_eq_left hn]
theorem ownsRow_forms' {w:World}{base size n:Nat}{e:TypeId}{v:Value}{xs:List Value}(h:w.ownsRow base e size v n xs):(v= .slice none 0 0∧n=0)∨∃g cap,v= .slice (some ⟨g,0,none⟩) n cap∧n≤cap∧cap≤maxLen:=by
 obtain⟨_,j|⟨g,c,cur,f,_,_,hn,l,_,_⟩⟩:=h
 · exact .inl j
 · exact .inr ⟨g,c,f,hn,l⟩
theorem qG7 (s1 s2:BitVec 64)(n:Nat)(hn:n≤4000)(w:World):Calls prog 89 #[.agg #[U s1,U s2],.int .i64 n] w fun e w'=>∃r,e= .returned r∧w'.ownsRow w.heap.size 5 1 r n (qA1 (qE1 (s1,s2) n))∧qA4 w w':=by
 have i0:(0:Int)≤(n:Int):=by omega
 have i1:(n:Int)≤4000:=by omega
 have a6:=Blk.new w #[U s1,U s2] 115
 have a5:qA4 w (w.alloc (.cells #[U s1,U s2] 115)):=qal _
 go_enter func89,ntmps89
 go_wp2_with fail
 go_loopw [5,6] (fun o i wr=>∃k:Nat,16*k<n+16∧i=U (BitVec.ofNat 64 (k+1))∧wr.ownsRow (w.heap.size+1) 5 1 o (16*k) (qA1 (qG4 (s1,s2) k))∧Below (w.heap.size+1) (w.alloc (.cells #[U s1,U s2] 115)) wr) (fun o _ _=>n+16 - qKZ o)
 case atStart=>exact⟨0,by omega,rfl,World.ownsRow_nil _ _ _ _,Below.refl _ _⟩
 case round =>
  obtain⟨k,hk,rfl,c,J⟩:=hrel
  have hA:=a6.below J (by omega)
  have a0:=hA.cell 0
  have a1:=hA.cell 1
  have F:w.heap.size+1≤wr.heap.size:=by have:=J.size;simpa using this
  obtain⟨q,hq⟩:∃q,q=16*k:=⟨_,rfl⟩
  rw[←hq]at c hk
  have HQ:=qh hq
  have Z:=qD3 (s1,s2) k
  have V:=qAs (qLK (s1,s2) (BitVec.ofNat 64 (k+1),0#64))
  have HF:=qh Z
  have HP:=qh V
  clear hq Z V hA
  obtain⟨a,cap,rfl⟩:=(Sl.of_own c).len
  by_cases O:q<n
  · have i2:(q:Int)<(n:Int):=by omega
    go_wp2_with fail
    refine(qFb _ _ _ _ _).mono ?_
    rintro e w1 ⟨rfl,h⟩
    clear a0 a1
    go_wp2_with fail
    refine(qBs _ _ _).mono ?_
    rintro e w2 ⟨r,rfl,I,l⟩
    have f:=qA5 (qA5 c h) l
    have a8:=(J.trans (h.mono F)).trans (l.mono (Nat.le_trans F h.size))
    have a2:=Nat.le_trans (Nat.le_trans F h.size) l.size
    clear c h l J F
    go_wp2_with (at_builtin;refine qAw qAx rfl (by rfl) (by rfl) (by rfl) f (Sl.of_own I) (by simp[qA7,HP.out]) (qAP _) (by unfold maxLen;omega) (by omega) a2 ?_;intro b' w4 j a7 b3)
    refine⟨⟨k+1,by have:=HQ.out;omega,by simp[BitVec.ofNat_add],?_,qAF a8 f a7 a2⟩,?_⟩
    · have e:16*(k+1)=q+16:=by have:=HQ.out;omega
      rw[e,qG4,qBk]
      exact j
    · obtain⟨a4,c4,rfl⟩:=(Sl.of_own j).len
      simp[qKZ]
      omega
  · have Y:k=(n+15) / 16:=by have:=HQ.out;omega
    have a9:n≤q:=by omega
    have i2:(n:Int)≤(q:Int):=by omega
    have N:qA4 w wr:=a5.trans (J.mono (by omega))
    rcases ownsRow_forms' c with ⟨hv,hq0⟩|⟨g,cap',hv,hqc,hcm⟩
    · cases hv
      have a3:n=0:=by omega
      subst a3
      clear c J hk O HF a0 a1
      go_wp2
      go_ret
      exact⟨_,rfl,World.ownsRow_nil _ _ _ _,N⟩
    · cases hv
      have i3:(n:Int)≤(cap:Int):=by omega
      have i4:(cap:Int)≤9223372036854775807:=by unfold maxLen at hcm;omega
      have G:=qAh (qN5 c a9) (show w.heap.size≤w.heap.size+1 by omega)
      have e:(qA1 (qG4 (s1,s2) k)).take n=qA1 (qE1 (s1,s2) n):=by rw[Y];simp[qA1,qE1]
      rw[e]at G
      clear c J hk O HF a0 a1 hqc hcm e Y
      go_wp2
      go_ret
      exact⟨_,rfl,G,N⟩
end Go.Proofs.YtdlgihbpiakebaaGreat
