import Derived.Test.YtdlgihbpiakebaaGreatMk06
import Derived.Test.YtdlgihbpiakebaaGreatMk07
import Derived.Test.YtdlgihbpiakebaaGreatMk09
import Derived.Test.YtdlgihbpiakebaaGreatMk18
import Derived.RegionTactic
set_option maxRecDepth 100000
set_option maxHeartbeats 4000000
namespace Go.Proofs.YtdlgihbpiakebaaGreat
open Go Go.RowKit Go.Shelf
attribute [local go_sem] Oper.semAt_some
def fx (p k:Nat):Fin (p+1):=⟨min k p,by omega⟩
theorem qQh (p k:Nat)(h:k<p+1):(fx p k).val=k:=by unfold fx;simp;omega
theorem qN9 (n:Nat)(hn:1≤n)(l Bs Bn b off p m cap:Nat)(hp:m=p+1)(hm:m≤10000)(hcap:16*m≤cap)(hcx:cap≤maxLen)(J Jx:List (Fin (p+1))→World→Prop)(hJd:∀s A,J s A→J s A.drew)
 (hY:∀pre x W,J pre W→pre.length<m→YieldAt Fence.wide (n - 1) Tryz.prog l #[.slice (some ⟨b,off+16*x.val,none⟩) 16 16] W fun e W' =>
  (e= .returned (.bool true)∧J (pre++ [x]) W'∧qDp [Bs,Bn] W W')∨(e= .returned (.bool false)∧Jx (pre++ [x]) W'))
 (W:World) (hBs:W.cell? ⟨Bs,0,none⟩=some (.slice (some ⟨b,off,none⟩) (16*m) cap)) (hBn:W.cell? ⟨Bn,0,none⟩=some (.int .i64 16)) (h0:J [] W) :
 CallsIn Fence.wide n Tryz.prog 133 #[.func (.yield l) #[] #[],.pointer (some ⟨Bs,0,none⟩),.pointer (some ⟨Bn,0,none⟩)] W fun e W'=>(∃v,e= .returned v) ∧
  ((∃ys,ys=qN8 (fx p) m∧J ys W')∨(∃pre,(∃k,k≤m∧pre=qN8 (fx p) k)∧Jx pre W')):=by
 refine callsIn_of_wp Tryz.func133 rfl trivial ?_ rfl
 simp only[Tryz.ntmps133,List.size_toArray,List.length_cons,List.length_nil,Nat.reduceAdd,Nat.reduceSub,Array.replicate_succ,Array.replicate_zero,List.push_toArray,List.append_toArray,List.nil_append,List.cons_append]
 obtain⟨len,c⟩:∃len,len=16*m:=⟨_,rfl⟩
 rw[←c]at hcap hBs
 have i0:(len:Int)≤160000:=by omega
 have i9:(cap:Int)≤9223372036854775807:=by unfold maxLen at hcx;omega
 have i8:(len:Int)≤(cap:Int):=by omega
 have j:=qh c
 clear c
 gi_wp2
 gi_loopw [4] (fun i wr=>∃k:Nat,k≤m∧i= .int .i64 ((16*k:Nat):Int)∧J (qN8 (fx p) k) wr∧qDp [Bs,Bn] W wr)
  (fun i _=>((len:Int) - intOf i).toNat)
 case atStart=>exact⟨0,Nat.zero_le _,by simp,h0,qDp.refl _ _⟩
 case round =>
  obtain⟨k,hk,rfl,N,G⟩:=hrel
  have I:=(G.cell (p:=⟨Bs,0,none⟩) (by simp)).trans hBs
  have h:=(G.cell (p:=⟨Bn,0,none⟩) (by simp)).trans hBn
  by_cases a0:k<m
  · obtain⟨fn,tmps,V,a1,Z,hR⟩:=hY _ (fx p k) wr.drew (hJd _ _ N) (by rw[qK4];exact a0)
    try dsimp only at Z
    rw[qQh p k (by omega)]at Z
    obtain⟨q,Y⟩:∃q:Nat,q=16*k:=⟨_,rfl⟩
    rw[←Y]at Z ⊢
    have i1:(0:Int)≤(q:Int):=by omega
    have i2:(q:Int)<(len:Int):=by have:=j.out;omega
    have i3:(q:Int)+16≤(len:Int):=by have:=j.out;omega
    have i4:¬cap=q:=by omega
    have i5:(16:Int)≤((len - q:Nat):Int):=by omega
    have i6:q≤len:=by omega
    have HQ:=qh Y
    clear Y
    gi_wp2_with fail
    refine wpIn_wide.2 ?_
    refine qFL [(0,0),(1,0),(2,0),(3,0),(4,0),(5,0),(6,0)] (by kernel_rfl) (by kernel_rfl) ?_
    obtain⟨w1,f⟩:∃x,x=wr.drew:=⟨_,rfl⟩
    rw[←f]
    have F:qA4 wr w1:=by rw[f];exact qA4.drawn wr
    repeat
     refine qA0 _ rfl (fun K hK=>?_)
     first
      | (refine qqP (by rfl) ?_;apply Exists.intro;refine⟨fun w' O=>?_,hK _ ?_⟩;(have bx:=O.at (F.at I);have a2:=O.at (F.at h);go_simp;first|done|rfl))
      | refine qqN (by rfl) (hK _ ?_)
     clear hK K;simp only[Act.put,qqB]
    refine qA6 ?_
    rw[if_neg (show ¬((len - q:Nat):Int)<16 by omega)]
    subst f
    replace I:=F.at I
    replace h:=F.at h
    clear F
    gi_wp2_with fail
    refine hR.mono ?_
    rintro e W3 (⟨rfl,hJ3,hk3⟩|⟨rfl,hJx3⟩)
    · replace h:=(hk3.cell (p:=⟨Bn,0,none⟩) (by simp)).trans h
      gi_wp2
      go_roundw
      case rel=>exact⟨k+1,by omega,by have:=HQ.out;congr 1;omega,by rw[qG9];exact hJ3,G.trans hk3⟩
      case measure=>simp[intOf]<;>omega
    · gi_wp2
      refine bodyPost_ret (results_none rfl _ _ _) rfl ?_
      exact⟨⟨_,rfl⟩,.inr ⟨_,⟨k+1,by omega,by rw[qG9]⟩,hJx3⟩⟩
  · obtain rfl:k=m:=by omega
    rw[←j.out]
    gi_wp2
    go_end0
    exact⟨⟨_,rfl⟩,.inl ⟨_,rfl,N⟩⟩
theorem qNa (a:Option Addr)(len cap:Nat)(w:World) :
 Calls Tryz.prog 93 #[.slice a len cap,.int .i64 16] w fun e w'=>e= .returned (.func (.func 133) #[] #[.pointer (some ⟨w.heap.size,0,none⟩),.pointer (some ⟨w.heap.size+1,0,none⟩)])∧w'=(w.alloc (.cells #[.slice a len cap] 32)).alloc (.cells #[.int .i64 16] 3):=by
 go_enter Tryz.func93,Tryz.ntmps93
 go_wp2
 go_ret
 exact⟨rfl,rfl⟩
theorem qK6 (n:Nat)(hn:1≤n)(Bs Bn b off p m cap:Nat)(hp:m=p+1)(hm:m≤10000)(hcap:16*m≤cap)(hcx:cap≤maxLen)(w:World)(hBs:Bs<w.heap.size)(hBn:Bn<w.heap.size)
 (hc:w.cell? ⟨Bs,0,none⟩=some (.slice (some ⟨b,off,none⟩) (16*m) cap)) (hd:w.cell? ⟨Bn,0,none⟩=some (.int .i64 16)) :
 SeqStopsK Fence.wide n Tryz.prog 133 #[.pointer (some ⟨Bs,0,none⟩),.pointer (some ⟨Bn,0,none⟩)] (fun x:Fin (p+1)=>#[.slice (some ⟨b,off+16*x.val,none⟩) 16 16]) (qDp [Bs,Bn]) (fun ys=>ys=qN8 (fx p) m)
  (fun c=>∃k,k≤m∧c=qN8 (fx p) k) m w:=fun l J j W hW F _ f q =>
 qN9 n hn l Bs Bn b off p m cap hp hm hcap hcx J j (fun s A h=>F s A A.drew none h ⟨rfl,rfl,rfl,Nat.le_refl _,fun _ _ _=>rfl⟩ (fun r e=>by cases e)) f W
  ((hW.cell (p:=⟨Bs,0,none⟩) hBs).trans hc) ((hW.cell (p:=⟨Bn,0,none⟩) hBn).trans hd) q
end Go.Proofs.YtdlgihbpiakebaaGreat
namespace Go.Proofs.YtdlgihbpiakebaaGreat
open Go Go.RowKit Tryz
def qCI (lba:Int):List UInt8:=qAI (BitVec.ofInt 64 lba) 2
theorem qL2 (lba:Int)(w:World):Calls prog 155 #[.int .i64 lba] w fun e w'=>∃r,e= .returned r∧w'.ownsRow w.heap.size 5 1 r 2 (qA1 (qCI lba))∧qA4 w w':=by
 unfold qCI
 obtain⟨z,f⟩:∃z,z=BitVec.ofInt 64 lba:=⟨_,rfl⟩
 have l:∀(c:World),(convert 3 29 (.int .i64 lba)).run prog c= .ok (U z) c:=fun c=>by
  rw[qAH c 3 29 _ .u64 _ (by kernel_rfl) underlying29,qDq,f]
 rw[←f]
 clear f
 go_enter func155,ntmps155
 go_wp2_with fail
 refine(qAS z 2 (by omega) (by omega) w).mono ?_
 rintro e w1 ⟨r,rfl,h,j⟩
 go_wp2
 go_ret
 exact⟨r,rfl,h,j⟩
end Go.Proofs.YtdlgihbpiakebaaGreat
