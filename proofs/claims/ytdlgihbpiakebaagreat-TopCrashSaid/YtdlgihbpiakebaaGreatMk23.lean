import Derived.Test.YtdlgihbpiakebaaGreatMk05
import Derived.Test.YtdlgihbpiakebaaGreatMk06
import Derived.Test.YtdlgihbpiakebaaGreatMk07
import Derived.Test.YtdlgihbpiakebaaGreatMk13
import Derived.Lib.SliceRun
set_option maxRecDepth 100000
set_option maxHeartbeats 4000000
namespace Go.Proofs.YtdlgihbpiakebaaGreat
open Go Go.RowKit Tryz
theorem qHL:SlT prog 74 94 1 4 (.int .u32 0):=SlT.mk' underlying74 (by kernel_rfl) rfl (by omega)
@[go_sem] theorem qSO (t:TypeId) (x y:BitVec 32):binOp .lss t (W x) (W y)=pure (.bool (decide (x<y))):=(binOp_lss ..).trans (by congr 2;simp[BitVec.lt_def])
theorem qL4 (t:TypeId)(x y:BitVec 32):binOp .add t (W x) (W y)=pure (W (x+y)):=by
 refine(binOp_add ..).trans ?_
 show pure (Value.int .u32 (IntKind.u32.wrap _))=_
 rw[qHC,W,BitVec.toNat_add];congr 2
theorem qH7 (e below now:BitVec 32)(B1 B2:Nat)(w:World)(h1:w.cell? ⟨B1,0,none⟩=some (W below))(h2:w.cell? ⟨B2,0,none⟩=some (W now)):Calls prog 151 #[W e,.pointer (some ⟨B1,0,none⟩),.pointer (some ⟨B2,0,none⟩)] w fun e' w'=>e'= .returned (.bool (gone below now e))∧w=w':=by
 unfold gone
 cases hl:decide (e<below)
 · go_enter func151,ntmps151
   go_wp2
   go_ret
   exact⟨rfl,rfl⟩
 · go_enter func151,ntmps151
   go_wp2
   go_ret
   exact⟨rfl,rfl⟩
theorem qNd (a:Option Addr)(cap:Nat)(l:List (BitVec 32))(x:BitVec 32)(hl:l.length≤100000)(w:World)(hs:Sl w (.slice a l.length cap) l.length (qBd l)):Calls prog 183 #[.slice a l.length cap,W x] w fun e w'=>∃n:Int,e= .returned (.int .i64 n)∧decide (0≤n)=l.contains x∧w=w':=by
 obtain⟨L,V⟩:∃L,L=l.length:=⟨_,rfl⟩
 rw[←V]at hs hl ⊢
 have i0:(L:Int)≤100000:=by omega
 have I:=qh V
 clear V
 go_enter func183,ntmps183
 go_wp2_with fail
 go_loopw [8] (fun i wr=>∃k:Nat,k≤L∧i= .int .i64 k∧(l.take k).contains x=false∧w=wr) (fun i _=>L - (intOf i).toNat)
 case atStart=>exact⟨0,by omega,rfl,by simp,rfl⟩
 case round =>
  obtain⟨k,hk,rfl,q,rfl⟩:=hrel
  by_cases Y:k<L
  · obtain⟨b,off,Z,e',_,_,_,G⟩:=hs.at (by rw[qBM,←I.out];omega)
    cases e'
    have f:k<l.length:=by rw[←I.out];exact Y
    obtain⟨y,F⟩:∃y,y=l[k]:=⟨_,rfl⟩
    have c0:=G k (W y) (by rw[F];exact qDN l k f)
    have j:l.take (k+1)=l.take k++ [y]:=by rw[List.take_succ_eq_append_getElem f,F]
    have n3:(k:Int)<(L:Int):=by omega
    have n4:(0:Int)≤(k:Int):=by omega
    have N:=qh q
    have HY:=qh F
    have O:=qh j
    have HX:=qh G
    clear q F j G
    cases hxy:(x==y)
    · go_wp2
      refine⟨⟨k+1,by omega,by go_num,?_,trivial⟩,by simp[intOf];omega⟩
      rw[O.out]
      simp only[List.contains_append,N.out,Bool.false_or]
      simpa using hxy
    · have c:x=y:=by simpa using hxy
      have J:=qh c
      clear c
      go_wp2
      try rw[Exit.noGoto_ret]
      go_ret
      refine⟨_,rfl,?_,rfl⟩
      have h:x∈l:=by rw[J.out,HY.out];exact List.getElem_mem f
      have:decide ((0:Int)≤(k:Int))=true:=decide_eq_true (by omega)
      rw[this]
      simpa using h
  · have:k=L:=by omega
    have HK:=qh this
    have N:=qh q
    clear this q
    go_wp2
    go_ret
    refine⟨_,rfl,?_,rfl⟩
    have:=N.out
    rw[List.take_of_length_le (by rw[HK.out,I.out];exact Nat.le_refl _)]at this
    rw[this];rfl
theorem qIM (a:Option Addr)(cap:Nat)(l:List (BitVec 32))(x:BitVec 32)(hl:l.length≤100000)(w:World)(hs:Sl w (.slice a l.length cap) l.length (qBd l)):Calls prog 169 #[.slice a l.length cap,W x] w fun e w'=>e= .returned (.bool (l.contains x))∧w=w':=by
 go_enter func169,ntmps169
 go_wp2_with fail
 refine(qNd _ _ _ _ hl _ hs).mono ?_
 rintro e w' ⟨n,rfl,hn,rfl⟩
 have c:=qh hn
 clear hn
 go_wp2
 go_ret
 refine⟨?_,rfl⟩
 show Ending.returned (Value.bool (decide (0≤n)))=_
 rw[c.out]
theorem qLV (v:Value)(l:List (BitVec 32))(h0:0<l.length)(hl:l.length≤100000)(w:World)(hs:Sl w v l.length (qBd l)):Calls prog 32 #[v] w fun e w'=>∃r,e= .returned r∧w'.ownsRow w.heap.size 94 1 r l.length (qBd l)∧qA4 w w':=by
 obtain⟨b,off,cap,e',_,_,_,I⟩:=hs.at (by rw[qBM];exact h0)
 subst e'
 have F:=fun (wx:World) a n c=>Lib.run_eql_slice_nil (P:=prog) wx 74 94 a n c 0 0 underlying74
 have h:qA4 w (w.alloc (.cells #[] 94)):=qal _
 have q:(w.alloc (.cells #[] 94)).ownsRow w.heap.size 94 1 (.slice (some ⟨w.heap.size,0,none⟩) 0 0) 0 (qBd []):=⟨rfl,.inr ⟨w.heap.size,0,#[],rfl,Nat.le_refl _,Blk.new w _ _,Nat.le_refl _,Nat.zero_le _,rfl,rfl⟩⟩
 go_enter func32,ntmps32
 go_wp2_with (at_builtin;refine qAw qHL rfl (by rfl) (by rfl) (by rfl) q (hs.kept h) (by simp[qBd]) (qID l) (by unfold maxLen;omega) (by omega) (by simp) ?_;intro v0 w1 f j G)
 go_ret
 refine⟨_,rfl,?_,qAF h q j (by simp)⟩
 simpa [qBd] using f
theorem qLW (below now:BitVec 32)(B1 B2:Nat)(a:Option Addr)(cap:Nat)(l:List (BitVec 32))(hl:l.length≤100000)(w:World)(h1:w.cell? ⟨B1,0,none⟩=some (W below))(h2:w.cell? ⟨B2,0,none⟩=some (W now))(hs:Sl w (.slice a l.length cap) l.length (qBd l)) :
 Calls prog 178 #[.slice a l.length cap,.func (.func 151) #[] #[.pointer (some ⟨B1,0,none⟩),.pointer (some ⟨B2,0,none⟩)]] w fun e w'=>((e= .returned (.int .i64 (-1))∧∀x∈l,gone below now x=false)∨(∃k:Nat,e= .returned (.int .i64 k)∧k<l.length∧(∀x∈l.take k,gone below now x=false)∧∀x,l[k]? = some x→gone below now x=true))∧w=w':=by
 obtain⟨L,V⟩:∃L,L=l.length:=⟨_,rfl⟩
 rw[←V]at hs hl ⊢
 have i0:(L:Int)≤100000:=by omega
 have N:=qh V
 clear V
 go_enter func178,ntmps178
 go_wp2_with fail
 go_loopw [8] (fun i wr=>∃k:Nat,k≤L∧i= .int .i64 k∧(∀x∈l.take k,gone below now x=false)∧w=wr) (fun i _=>L - (intOf i).toNat)
 case atStart=>exact⟨0,by omega,rfl,by simp,rfl⟩
 case round =>
  obtain⟨k,hk,rfl,F,rfl⟩:=hrel
  by_cases q:k<L
  · obtain⟨b,off,Y,e',_,_,_,h⟩:=hs.at (by rw[qBM,←N.out];omega)
    cases e'
    have f:k<l.length:=by rw[←N.out];exact q
    obtain⟨y,I⟩:∃y,y=l[k]:=⟨_,rfl⟩
    have c0:=h k (W y) (by rw[I];exact qDN l k f)
    have j:l.take (k+1)=l.take k++ [y]:=by rw[List.take_succ_eq_append_getElem f,I]
    have n3:(k:Int)<(L:Int):=by omega
    have n4:(0:Int)≤(k:Int):=by omega
    have G:=qh F
    have HY:=qh I
    have O:=qh j
    have HX:=qh h
    clear F I j h
    go_wp2_with fail
    refine(qH7 y below now B1 B2 _ h1 h2).mono ?_
    rintro e w' ⟨rfl,rfl⟩
    cases hg:gone below now y
    · have J:=qh hg
      clear hg
      go_wp2
      refine⟨⟨k+1,by omega,by go_num,?_,trivial⟩,by simp[intOf];omega⟩
      rw[O.out]
      intro z c
      rcases List.mem_append.1 c with c|c
      · exact G.out z c
      · rw[List.mem_singleton.1 c];exact J.out
    · have J:=qh hg
      clear hg
      go_wp2
      try rw[Exit.noGoto_ret]
      go_ret
      refine⟨.inr ⟨k,rfl,q,G.out,fun z c=>?_⟩,rfl⟩
      rw[List.getElem?_eq_getElem f,←HY.out]at c
      cases c
      exact J.out
  · have:k=L:=by omega
    have Z:=qh this
    have G:=qh F
    clear this F
    go_wp2
    go_ret
    refine⟨.inl ⟨rfl,fun x h=>G.out x ?_⟩,rfl⟩
    rw[List.take_of_length_le (by rw[Z.out,N.out];exact Nat.le_refl _)]
    exact h
theorem qDn (below now:BitVec 32)(l:List (BitVec 32))(j:Nat)(h:j<l.length)(hg:gone below now l[j]=true):(l.take (j+1)).filter (fun e=>!gone below now e)=(l.take j).filter (fun e=>!gone below now e):=by
 rw[List.take_succ_eq_append_getElem h,List.filter_append];simp[hg]
theorem qFN (below now:BitVec 32)(l:List (BitVec 32))(j:Nat)(h:j<l.length)(hg:gone below now l[j]=false):(l.take (j+1)).filter (fun e=>!gone below now e)=(l.take j).filter (fun e=>!gone below now e)++ [l[j]]:=by
 rw[List.take_succ_eq_append_getElem h,List.filter_append];simp[hg]
theorem qDy (below now:BitVec 32)(l:List (BitVec 32))(h:∀x∈l,gone below now x=false):l.filter (fun e=>!gone below now e)=l:=by
 rw[List.filter_eq_self];intro a c;rw[h a c];rfl
def Mid (w:World)(g:Nat)(cap:Nat)(orig:List Value)(i j:Nat)(A:List (BitVec 32)):Prop:=
 ∃C:List Value,Blk w g C.toArray 94∧C.length=cap∧C.take i=qBd A∧C.drop j=orig.drop j
theorem Mid.step {w:World}{g cap:Nat}{orig:List Value}{i j:Nat}{A:List (BitVec 32)}(h:Mid w g cap orig i j A)(hij:i≤j)(hj:j<cap)(y:BitVec 32):Mid (w.setCell ⟨g,i,none⟩ (W y)) g cap orig (i+1) (j+1) (A++ [y]):=by
 obtain⟨C,c,hl,f,l⟩:=h
 refine⟨C.set i (W y),by simpa using Blk.set c i (W y),by rw[List.length_set,hl],?_,?_⟩
 · rw[List.take_succ_eq_append_getElem (by rw[List.length_set];omega),List.getElem_set_self,List.take_set_of_le qle,f,qEu];rfl
 · rw[List.drop_set_of_lt (by omega),←List.drop_drop,←List.drop_drop,l]
theorem Mid.skip {w:World}{g cap:Nat}{orig:List Value}{i j:Nat}{A:List (BitVec 32)}(h:Mid w g cap orig i j A):Mid w g cap orig i (j+1) A:=by
 obtain⟨C,c,hl,f,l⟩:=h
 refine⟨C,c,hl,f,?_⟩
 rw[←List.drop_drop,←List.drop_drop,l]
theorem Mid.read {w:World}{g cap:Nat}{orig:List Value}{i j:Nat}{A:List (BitVec 32)}(h:Mid w g cap orig i j A){v:Value}(hv:orig[j]? = some v):w.cell? ⟨g,j,none⟩=some v:=by
 obtain⟨C,f,hl,q,l⟩:=h
 have:C[j]? = some v:=by
  have c:(C.drop j)[0]? = (orig.drop j)[0]?:=by rw[l]
  rw[List.getElem?_drop,List.getElem?_drop,Nat.add_zero]at c
  rw[c,hv]
 have F:j<C.length:=(List.getElem?_eq_some_iff.1 this).1
 rw[Blk.cell f j]
 simpa using this
theorem Mid.free {w:World}{g cap:Nat}{orig:List Value}{i j:Nat}{A:List (BitVec 32)}(h:Mid w g cap orig i j A)(o:Nat):w.frozen? ⟨g,o,none⟩=false:=by
 obtain⟨C,c,hl,f,l⟩:=h
 exact Blk.free c o
theorem Mid.cell {w:World}{g cap:Nat}{orig:List Value}{i j:Nat}{A:List (BitVec 32)}(h:Mid w g cap orig i j A)(o:Nat)(ho:o<cap):(w.cell? ⟨g,o,none⟩).isSome=true:=by
 obtain⟨C,c,hl,f,l⟩:=h
 rw[Blk.cell c o]
 simpa [hl] using ho
theorem Mid.clear {w:World}{g cap:Nat}{orig:List Value}{i j:Nat}{A:List (BitVec 32)}(h:Mid w g cap orig i j A)(hA:A.length=i)(m:Nat)(him:i+m≤cap)(hm:cap≤maxLen)(z:Value) :
 (w.setCells g i (List.replicate m z)).ownsRow 0 94 1 (.slice (some ⟨g,0,none⟩) i cap) i (qBd A)∧Chg [g] w (w.setCells g i (List.replicate m z)):=by
 obtain⟨C,c,hl,f,F⟩:=h
 obtain⟨l,q⟩:=qFz (List.replicate m z) C i w c (by simp;omega)
 refine⟨⟨by rw[qBM,hA,Nat.mul_one],.inr ⟨g,cap,_,rfl,Nat.zero_le _,l,by omega,hm,?_,?_⟩⟩,q⟩
 · simp;omega
 · simp only[Nat.mul_one]
   rw[List.append_assoc,List.take_append_of_le_length (by simp;omega),List.take_take,Nat.min_self,f]
theorem qK8 (below now:BitVec 32)(B1 B2 g cap:Nat)(l:List (BitVec 32))(hl:l.length≤100000)(w:World)(h1:w.cell? ⟨B1,0,none⟩=some (W below))(h2:w.cell? ⟨B2,0,none⟩=some (W now))(d1:B1≠g)(d2:B2≠g)
 (hs:w.ownsRow 0 94 1 (.slice (some ⟨g,0,none⟩) l.length cap) l.length (qBd l)) :
 Calls prog 150 #[.slice (some ⟨g,0,none⟩) l.length cap,.func (.func 151) #[] #[.pointer (some ⟨B1,0,none⟩),.pointer (some ⟨B2,0,none⟩)]] w fun e w'=>e= .returned (.slice (some ⟨g,0,none⟩) (l.filter fun e=>!gone below now e).length cap) ∧
  w'.ownsRow 0 94 1 (.slice (some ⟨g,0,none⟩) (l.filter fun e=>!gone below now e).length cap) (l.filter fun e=>!gone below now e).length (qBd (l.filter fun e=>!gone below now e))∧Chg [g] w w':=by
 have a6:Sl w (.slice (some ⟨g,0,none⟩) l.length cap) l.length (qBd l):=Sl.of_own hs
 obtain⟨R,hR⟩:∃R,R=l.filter fun e=>!gone below now e:=⟨_,rfl⟩
 rw[←hR]
 go_enter func150,ntmps150
 go_wp2_with fail
 refine(qLW below now B1 B2 _ _ l hl _ h1 h2 a6).mono ?_
 rintro e w' ⟨O,rfl⟩
 rcases O with ⟨rfl,hall⟩|⟨k,rfl,hk,hno,hyes⟩
 · have hf:=qDy below now l hall
   rw[hf]at hR
   clear hf hall
   subst hR
   go_wp2
   go_ret
   exact⟨rfl,hs,Chg.refl _ _⟩
 · obtain⟨L,hL⟩:∃L,L=l.length:=⟨_,rfl⟩
   have hcap:cap≤maxLen:=by
    rcases hs.2 with ⟨h0,_⟩|⟨_,_,_,e',_,_,_,h,_⟩
    · cases h0
    · cases e';exact h
   obtain⟨_,b5⟩:=hs
   rcases b5 with ⟨h0,_⟩|⟨g',cap',cur,e',_,hblk,hnc,hcm,hcs,htake⟩
   · cases h0
   cases e'
   rw[Nat.mul_one]at hcs htake
   have I:cur.toList.length=cap:=by simpa using hcs
   have G:∀(j:Nat) (y:BitVec 32),l[j]? = some y→cur.toList[j]? = some (W y):=by
    intro j y Y
    obtain⟨hj,rfl⟩:=List.getElem?_eq_some_iff.1 Y
    rw[←qDN l j hj,←htake,List.getElem?_take_of_lt hj]
   have F:Mid w g cap cur.toList k (k+1) (l.take k):=by
    refine⟨cur.toList,hblk,I,?_,rfl⟩
    have:=congrArg (List.take k) htake
    rw[List.take_take,Nat.min_eq_left (by omega)]at this
    rw[this]
    simp[qBd,List.map_take]
   have Z:(l.take (k+1)).filter (fun e=>!gone below now e)=l.take k:=by
    rw[qDn below now l k hk (hyes _ (List.getElem?_eq_getElem hk)),qDy below now _ hno]
   have a3:(l.take k).length=k:=by simp;omega
   simp only[←hL]at hl hk hnc a6 ⊢
   have i0:(L:Int)≤100000:=by omega
   have i1:(k:Int)<L:=by omega
   have HL:=qh hL
   have HT:=qh htake
   have HC:=qh hcs
   have HR:=qh G
   have b6:=qh Z
   have a9:=qh a3
   clear hL htake hcs G Z a3 hyes hno I
   have a0:Chg [g] w w:=Chg.refl _ _
   go_wp2_with fail
   go_loopw [5,6,7] (fun i j _ wr=>∃(a b:Nat) (A:List (BitVec 32)),i= .int .i64 a∧j= .int .i64 b∧a<b∧b≤L∧A=(l.take b).filter (fun e=>!gone below now e)∧A.length=a∧Mid wr g cap cur.toList a b A∧Chg [g] w wr) (fun _ j _ _=>L - (intOf j).toNat)
   case atStart=>exact⟨k,k+1,l.take k,rfl,by go_num,by omega,by omega,b6.out.symm,a9.out,F,a0⟩
   case round =>
    obtain⟨a,b,A,rfl,rfl,b9,c0,hA,a5,c,f⟩:=hrel
    have n1:(a:Int)<b:=by omega
    have n2:(0:Int)≤a:=by omega
    have V:=qh hA
    have q:=qh a5
    clear hA a5 F a0
    have c1:=f.cell h1 (by simpa using d1)
    have c2:=f.cell h2 (by simpa using d2)
    by_cases a8:b<L
    · have n3:(b:Int)<L:=by omega
      have N:b<l.length:=by rw[←HL.out];exact a8
      obtain⟨y,Y⟩:∃y,y=l[b]:=⟨_,rfl⟩
      have r0:=c.read (HR.out b y (by rw[Y];exact List.getElem?_eq_getElem N))
      have f0:=c.free a
      obtain⟨u0,s0⟩:=Option.isSome_iff_exists.1 (c.cell a (by omega))
      have HY:=qh Y
      clear Y
      go_wp2_with fail
      refine(qH7 y below now B1 B2 _ c1 c2).mono ?_
      rintro e w' ⟨rfl,rfl⟩
      cases hg:gone below now y
      · have HG:=qh hg
        clear hg
        go_wp2
        refine⟨⟨_,_,_,_,_,_,_,_,_,_,_,_,_,_,_,_,_,_,_,_,_,_,_,⟨a+1,b+1,A++ [y],by go_num,by go_num,by omega,by omega,?_,by simp[q.out],c.step (by omega) (by omega) y,f.set qsm a _⟩,rfl⟩,by simp[intOf];omega⟩
        rw[qFN below now l b N (by rw[←HY.out];exact HG.out),←V.out,←HY.out]
      · have HG:=qh hg
        clear hg
        go_wp2
        refine⟨⟨_,_,_,_,_,_,_,_,_,_,_,_,_,_,_,_,_,_,_,_,_,_,_,⟨a,b+1,A,rfl,by go_num,by omega,by omega,?_,q.out,c.skip,f⟩,rfl⟩,by simp[intOf];omega⟩
        rw[qDn below now l b N (by rw[←HY.out];exact HG.out),←V.out]
    · have a4:b=L:=by omega
      have a7:=qh a4
      clear a4
      have c3:a<L:=by omega
      have a1:∀wx:World,(zeroValue 94).run prog wx= .ok (.int .u32 0) wx:=fun wx=>by
       obtain⟨i,hi,hz,_,_⟩:=qHL.info
       simp[zeroValue,typeInfo,hi,hz]
      have b7:=Lib.run_clear_slice (P:=prog) wr 74 94 0 (.int .u32 0) underlying74 a1 rfl rfl g a (L - a) (cap - a) (by omega) (fun j hj=>c.cell _ (by omega)) (fun j _=>c.free _)
      obtain⟨q1,q2⟩:=c.clear q.out (L - a) (by omega) hcap (.int .u32 0)
      generalize b4:wr.setCells g a (List.replicate (L - a) (.int .u32 0))=w2 at *
      have J:A=R:=by rw[V.out,hR,a7.out,HL.out,List.take_length]
      rw[J]at q1
      have a2:R.length=a:=by rw[←J,q.out]
      have b3:=qh a2
      have b8:=qh J
      have n5:(a:Int)≤L:=by omega
      have n6:(L:Int)≤cap:=by omega
      clear a2 J b4
      go_wp2
      go_ret
      rw[b3.out]
      exact⟨rfl,q1,f.trans q2⟩
end Go.Proofs.YtdlgihbpiakebaaGreat
