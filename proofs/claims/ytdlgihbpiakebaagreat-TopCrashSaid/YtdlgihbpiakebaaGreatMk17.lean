import Derived.Test.YtdlgihbpiakebaaGreatMk06
import Derived.Test.YtdlgihbpiakebaaGreatMk07
import Derived.Test.YtdlgihbpiakebaaGreatMk08
import Derived.Test.YtdlgihbpiakebaaGreatMk09
import Derived.Test.YtdlgihbpiakebaaGreatMk14
import Derived.Test.YtdlgihbpiakebaaGreatMk16
set_option maxRecDepth 100000
set_option maxHeartbeats 4000000
namespace Go.Proofs.YtdlgihbpiakebaaGreat
open Go Go.RowKit Tryz
theorem qK3:SlT prog 198 115 2 16 (.agg #[.int .u64 0,.int .u64 0]):=SlT.mk' underlying198 (by kernel_rfl) rfl (by omega)
def qT5:Value→Nat| .slice _ n _=>n|_=>0
theorem qH6 (p:qAD):qAA [p]= [U p.1,U p.2]:=by simp[qAA]
theorem qIL (v:Value)(bs:List UInt8)(hl:bs.length≤5000)(w:World)(hb:Sl w v bs.length (qA1 bs)) :
 Calls prog 129 #[v] w fun e w'=>∃r,e= .returned r∧w'.ownsRow w.heap.size 115 2 r (nP bs.length) (qAA (qCq bs))∧qA4 w w':=by
 obtain⟨va,vc,hv⟩:=hb.len
 subst hv
 obtain⟨N,hN⟩:∃N,N=bs.length:=⟨_,rfl⟩
 rw[←hN]at hl
 have b5:Sl w (.slice va N vc) (bs.drop (16*0)).length (qA1 (bs.drop (16*0))):=by rw[hN];exact hb
 rw[←hN]
 have HN:=qh hN
 clear hN hb
 obtain⟨Z,hZ⟩:∃Z,Z=List.replicate 16 (0:UInt8):=⟨_,rfl⟩
 have HZ:=qh hZ
 clear hZ
 go_enter func129,ntmps129
 go_wp2_with fail
 go_loopw [0,3] (fun bv lv wr=>∃k:Nat,k≤nP N∧Sl w bv (bs.drop (16*k)).length (qA1 (bs.drop (16*k)))∧wr.ownsRow w.heap.size 115 2 lv k (qAA ((qCq bs).take k))∧qA4 w wr) (fun bv _ _=>qT5 bv)
 case atStart=>exact⟨0,Nat.zero_le _,b5,World.ownsRow_nil _ _ _ _,Below.refl _ _⟩
 case round =>
  obtain⟨k,hk,hs,f,G⟩:=hrel
  clear b5
  obtain⟨S,hS⟩:∃S,S=bs.drop (16*k):=⟨_,rfl⟩
  rw[←hS]at hs
  obtain⟨ba,bc,eb⟩:=hs.len
  subst eb
  obtain⟨n,hn⟩:∃n,n=S.length:=⟨_,rfl⟩
  have a5:n=N - 16*k:=by rw[hn,hS,List.length_drop,HN.out]
  rw[←hn]at hs ⊢
  have HS:=qh hS
  have j:=qh hn
  have I:=qh a5
  have d0:=G.size
  clear hS hn a5
  by_cases a0:k<nP N
  · have j0:(0:Int)<(n:Int):=by have:=qQI _ _ a0;have:=I.out;omega
    have c5:(Instr.makeSlice 32 (.int .i64 16) (.int .i64 16)).run prog wr= .ok (.slice (some ⟨wr.heap.size,0,none⟩) 16 16) (wr.alloc (.cells (qA1 Z).toArray 5)):=by rw[HZ.out];exact qBU (P:=prog) wr qAx .i64 .i64 16 (by omega)
    have a9:=Blk.new wr (qA1 Z).toArray 5
    have l:qA4 wr (wr.alloc (.cells (qA1 Z).toArray 5)):=qal _
    have b4:=hs.kept (G.of l)
    have c4:=qA5 f l
    obtain⟨M,hM⟩:∃M,M=min n 16:=⟨_,rfl⟩
    have HM:=qh hM
    clear hM
    go_wp2_with (refine qIF (o:=⟨some 14,_,_,_,_,_⟩) qAx rfl (by rfl) (by rfl) (by rfl) a9 b4 (by rw[qA7,j.out]) (qAP _) (by rw[qA7,HZ.out,List.length_replicate];omega) ?_;intro w2 a2 a6;rw[←HM.out]at a2 ⊢;refine hold ?_)
    have O:(bs.drop (16*k)).take 16=S.take M:=by
     rw[←HS.out]
     by_cases c1:16≤n
     · congr 1;have:=HM.out;omega
     · rw[List.take_of_length_le (by rw[←j.out];omega),List.take_of_length_le (by rw[←j.out];have:=HM.out;omega)]
    have b3:Blk w2 wr.heap.size (qA1 (qML bs k)).toArray 5:=by
     have e:(qA1 Z).take 0++(qA1 S).take M++(qA1 Z).drop (0+M)=qA1 (qML bs k):=by
      unfold qML qSM
      rw[O,qBk,List.take_zero,List.nil_append,Nat.zero_add,qEc,qEd,HZ.out,List.drop_replicate,List.length_take,←j.out]
      congr 3
      have:=HM.out;omega
     rw[←e];exact a2
    have V:qA4 wr w2:=l.trans (a6.below (B:=wr.heap.size) (by simp) (by simp))
    have b6:Sl w (.slice ba n bc) S.length (qA1 S):=by rw[←j.out];exact hs
    obtain⟨v2,a7,J⟩:=qL1 (P:=prog) (w:=w) qAx b6 (k:=M) (by rw[←j.out,HM.out];exact Nat.min_le_left _ _) .i64
    have a3:S.drop M=bs.drop (16*(k+1)):=by
     rw[HS.out,List.drop_drop]
     by_cases c1:16≤n
     · congr 1;have:=HM.out;omega
     · have e1:=HM.out
       have e2:=I.out
       rw[List.drop_of_length_le (by rw[←HN.out];omega),List.drop_of_length_le (by rw[←HN.out];omega)]
    rw[a3]at J
    have F:(qML bs k).length=16:=qJZ bs k
    have b9:Sl w2 (.slice (some ⟨wr.heap.size,0,none⟩) 16 16) (qML bs k).length (qA1 (qML bs k)):=by
     rw[F]
     exact Sl.of_own (qCB 16 (by decide) 5 (qML bs k) F b3 qle)
    obtain⟨d2,d1,c6⟩:=J.len
    subst c6
    obtain⟨q,hq⟩:∃q,q=(bs.drop (16*(k+1))).length:=⟨_,rfl⟩
    rw[←hq]at J a7
    have HQ:=qh hq
    have c2:=qh F
    have c8:=qh a3
    have h:=qA5 f V
    have c:=qA4.of G V
    clear hq F a3 b6 c5 a9 l b4 c4 a6 a2 b3 O f hs V
    unfold qSF
    go_wp2_with fail
    refine(qCo _ (qML bs k) _ b9 c2.out).mono ?_
    rintro e w3 ⟨rfl,a8⟩
    obtain⟨X,hX⟩:∃X,X=qAr (qML bs k):=⟨_,rfl⟩
    rw[←hX]
    have HX:=qh hX
    clear hX
    have hP:=Blk.new w3 #[U X.1,U X.2] 115
    have a1:qA4 w2 (w3.alloc (.cells #[U X.1,U X.2] 115)):=qA4.of a8 (qal _)
    have p0:=hP.cell 0
    have p1:=hP.cell 1
    replace h:=qA5 h a1
    replace c:=qA4.of c a1
    have Y:qA4 (w3.alloc (.cells #[U X.1,U X.2] 115)) ((w3.alloc (.cells #[U X.1,U X.2] 115)).alloc (.cells #[U X.1,U X.2] 115)):=qal _
    replace h:=qA5 h Y
    replace c:=qA4.of c Y
    have b8:=c.size
    have c9:k≤400:=by have:=qQI _ _ a0;omega
    have hL:Sl ((w3.alloc (.cells #[U X.1,U X.2] 115)).alloc (.cells #[U X.1,U X.2] 115)) (.slice (some ⟨w3.heap.size+1,0,none⟩) 1 1) 1 [U X.1,U X.2]:=by simpa using Sl.lit (w3.alloc (.cells #[U X.1,U X.2] 115)) #[U X.1,U X.2] 115 1 (by decide)
    clear b9 a8 a1 Y
    go_wp2_with (at_builtin;refine qAw qK3 rfl (by rfl) (by rfl) (by rfl) h hL (by rfl) (by intro u hu;simp at hu;rcases hu with rfl|rfl<;>rfl) (by unfold maxLen;omega) (by omega) b8 ?_;intro v6 w6 a4 c3 c7)
    refine⟨⟨k+1,by omega,by rw[←HQ.out];exact J,?_,qAF c h c3 b8⟩,?_⟩
    · rw[qK0 bs k (by rw[←HN.out];omega),qD0,qH6,←HX.out]
      exact a4
    · show q<n
      rw[HQ.out,List.length_drop,←HN.out,I.out]
      have:=qQI _ _ a0
      omega
  · have b7:k=nP N:=by omega
    have c0:n=0:=by have:=qT3 N k (by omega);have:=I.out;omega
    subst c0
    have HK:=qh b7
    clear b7
    go_wp2
    go_ret
    refine⟨_,rfl,?_,G⟩
    rw[←HK.out,show qAA (qCq bs)=qAA ((qCq bs).take k) by rw[List.take_of_length_le (by rw[qBN,←HN.out,HK.out];exact Nat.le_refl _)]]
    exact f
theorem qAZ (v:Value)(bs:List UInt8)(hl:bs.length≤70000)(w:World)(h:Sl w v bs.length (qA1 bs)) :
 Calls prog 56 #[v] w fun e w'=>∃r,e= .returned r∧w'.ownsRow w.heap.size 5 1 r bs.length (qA1 bs)∧qA4 w w':=by
 have q:=fun (wx:World) a n c=>Lib.run_eql_slice_nil (P:=prog) wx 32 5 a n c 0 0 underlying32
 rcases h.form with ⟨rfl,h0,h1⟩|⟨a,cap,hv⟩
 · rw[h0,h1]
   go_enter func56,ntmps56
   go_wp2
   go_ret
   exact⟨_,rfl,World.ownsRow_nil _ _ _ _,Below.refl _ _⟩
 · subst hv
   have G:qA4 w (w.alloc (.cells #[] 5)):=qal _
   have l:(w.alloc (.cells #[] 5)).ownsRow w.heap.size 5 1 (.slice (some ⟨w.heap.size,0,none⟩) 0 0) 0 (qA1 []):=qCB 0 (by decide) 5 [] rfl (Blk.new _ _ _) qle
   have I:=h.kept G
   go_enter func56,ntmps56
   go_wp2_with (at_builtin;refine qAw qAx rfl (by rfl) (by rfl) (by rfl) l I (by simp[qA1]) (qAP bs) (by unfold maxLen;omega) (by omega) (by simp) ?_;intro v' w1 f j F)
   go_ret
   exact⟨_,rfl,by simpa [qA1] using f,qAF G l j (by simp)⟩
end Go.Proofs.YtdlgihbpiakebaaGreat
