import Derived.Test.YtdlgihbpiakebaaGreatMd06
import Derived.Test.YtdlgihbpiakebaaGreatMd07
import Derived.Test.YtdlgihbpiakebaaGreatMd09
import Derived.Test.YtdlgihbpiakebaaGreatMd18
import Derived.RegionTactic
set_option maxRecDepth 100000
set_option maxHeartbeats 4000000
namespace Go.Proofs.YtdlgihbpiakebaaGreat
open Go Go.RowKit Go.Shelf
attribute [local go_sem] Oper.semAt_some
def fx (p k : Nat) : Fin (p + 1):=⟨min k p,by omega⟩
theorem qPh (p k : Nat) (h : k < p + 1) : (fx p k).val = k:=by unfold fx;simp;omega
theorem qMe (n : Nat) (hn : 1 ≤ n) (l Bs Bn b off p m cap : Nat) (hp : m = p + 1) (hm : m ≤ 10000) (hcap : 16 * m ≤ cap) (hcx : cap ≤ maxLen) (J Jx : List (Fin (p + 1)) → World → Prop) (hJd : ∀ s A,J s A → J s A.drew)
 (hY : ∀ pre x W,J pre W → pre.length < m → YieldAt Fence.wide (n - 1) Tryz.prog l #[.slice (some ⟨b,off + 16 * x.val,none⟩) 16 16] W fun e W' =>
  (e = .returned (.bool true) ∧ J (pre ++ [x]) W' ∧ qDb [Bs,Bn] W W') ∨ (e = .returned (.bool false) ∧ Jx (pre ++ [x]) W'))
 (W : World) (hBs : W.cell? ⟨Bs,0,none⟩ = some (.slice (some ⟨b,off,none⟩) (16 * m) cap)) (hBn : W.cell? ⟨Bn,0,none⟩ = some (.int .i64 16)) (h0 : J [] W) :
 CallsIn Fence.wide n Tryz.prog 133 #[.func (.yield l) #[] #[],.pointer (some ⟨Bs,0,none⟩),.pointer (some ⟨Bn,0,none⟩)] W fun e W'=>(∃ v,e = .returned v) ∧
  ((∃ ys,ys = qMd (fx p) m ∧ J ys W') ∨ (∃ pre,(∃ k,k ≤ m ∧ pre = qMd (fx p) k) ∧ Jx pre W')):=by
 refine callsIn_of_wp Tryz.func133 rfl trivial ?_ rfl
 simp only [Tryz.ntmps133,List.size_toArray,List.length_cons,List.length_nil,Nat.reduceAdd,Nat.reduceSub,Array.replicate_succ,Array.replicate_zero,List.push_toArray,List.append_toArray,List.nil_append,List.cons_append]
 obtain ⟨len,hlen⟩ : ∃ len,len = 16 * m:=⟨_,rfl⟩
 rw [← hlen] at hcap hBs
 have i0 : (len : Int) ≤ 160000:=by omega
 have i9 : (cap : Int) ≤ 9223372036854775807:=by unfold maxLen at hcx;omega
 have i8 : (len : Int) ≤ (cap : Int):=by omega
 have HLEN:=qh hlen
 clear hlen
 gi_wp2
 gi_loopw [4] (fun i wr=>∃ k : Nat,k ≤ m ∧ i = .int .i64 ((16 * k : Nat) : Int) ∧ J (qMd (fx p) k) wr ∧ qDb [Bs,Bn] W wr)
  (fun i _=>((len : Int) - intOf i).toNat)
 case atStart=>exact ⟨0,Nat.zero_le _,by simp,h0,qDb.refl _ _⟩
 case round =>
  obtain ⟨k,hk,rfl,hJs,hst⟩:=hrel
  have hbx:=(hst.cell (p:=⟨Bs,0,none⟩) (by simp)).trans hBs
  have hby:=(hst.cell (p:=⟨Bn,0,none⟩) (by simp)).trans hBn
  by_cases hlt : k < m
  · obtain ⟨fn,tmps,assign,body,hy,hR⟩:=hY _ (fx p k) wr.drew (hJd _ _ hJs) (by rw [qJi];exact hlt)
    try dsimp only at hy
    rw [qPh p k (by omega)] at hy
    obtain ⟨q,hq⟩ : ∃ q : Nat,q = 16 * k:=⟨_,rfl⟩
    rw [← hq] at hy ⊢
    have i1 : (0 : Int) ≤ (q : Int):=by omega
    have i2 : (q : Int) < (len : Int):=by have:=HLEN.out;omega
    have i3 : (q : Int) + 16 ≤ (len : Int):=by have:=HLEN.out;omega
    have i4 : ¬ cap = q:=by omega
    have i5 : (16 : Int) ≤ ((len - q : Nat) : Int):=by omega
    have i6 : q ≤ len:=by omega
    have HQ:=qh hq
    clear hq
    gi_wp2_with fail
    refine wpIn_wide.2 ?_
    refine qFp [(0,0),(1,0),(2,0),(3,0),(4,0),(5,0),(6,0)] (by kernel_rfl) (by kernel_rfl) ?_
    obtain ⟨w1,hw1e⟩ : ∃ x,x = wr.drew:=⟨_,rfl⟩
    rw [← hw1e]
    have hw1 : qA4 wr w1:=by rw [hw1e];exact qA4.drawn wr
    repeat
     refine qA0 _ rfl (fun K hK=>?_)
     first
      | (refine qqP (by rfl) ?_;apply Exists.intro;refine ⟨fun w' hw'=>?_,hK _ ?_⟩;(have bx:=hw'.at (hw1.at hbx);have by':=hw'.at (hw1.at hby);go_simp;first|done|rfl))
      | refine qqN (by rfl) (hK _ ?_)
     clear hK K;simp only [Act.put,qqB]
    refine qA7 ?_
    rw [if_neg (show ¬ ((len - q : Nat) : Int) < 16 by omega)]
    subst hw1e
    replace hbx:=hw1.at hbx
    replace hby:=hw1.at hby
    clear hw1
    gi_wp2_with fail
    refine hR.mono ?_
    rintro e W3 (⟨rfl,hJ3,hk3⟩ | ⟨rfl,hJx3⟩)
    · replace hby:=(hk3.cell (p:=⟨Bn,0,none⟩) (by simp)).trans hby
      gi_wp2
      go_roundw
      case rel=>exact ⟨k + 1,by omega,by have:=HQ.out;congr 1;omega,by rw [qFM];exact hJ3,hst.trans hk3⟩
      case measure=>simp [intOf] <;> omega
    · gi_wp2
      refine bodyPost_ret (results_none rfl _ _ _) rfl ?_
      exact ⟨⟨_,rfl⟩,.inr ⟨_,⟨k + 1,by omega,by rw [qFM]⟩,hJx3⟩⟩
  · obtain rfl : k = m:=by omega
    rw [← HLEN.out]
    gi_wp2
    go_end0
    exact ⟨⟨_,rfl⟩,.inl ⟨_,rfl,hJs⟩⟩
theorem qMf (a : Option Addr) (len cap : Nat) (w : World) :
 Calls Tryz.prog 93 #[.slice a len cap,.int .i64 16] w fun e w'=>e = .returned (.func (.func 133) #[] #[.pointer (some ⟨w.heap.size,0,none⟩),.pointer (some ⟨w.heap.size + 1,0,none⟩)]) ∧ w' = (w.alloc (.cells #[.slice a len cap] 32)).alloc (.cells #[.int .i64 16] 3):=by
 go_enter Tryz.func93,Tryz.ntmps93
 go_wp2
 go_ret
 exact ⟨rfl,rfl⟩
theorem qJk (n : Nat) (hn : 1 ≤ n) (Bs Bn b off p m cap : Nat) (hp : m = p + 1) (hm : m ≤ 10000) (hcap : 16 * m ≤ cap) (hcx : cap ≤ maxLen) (w : World) (hBs : Bs < w.heap.size) (hBn : Bn < w.heap.size)
 (hc : w.cell? ⟨Bs,0,none⟩ = some (.slice (some ⟨b,off,none⟩) (16 * m) cap)) (hd : w.cell? ⟨Bn,0,none⟩ = some (.int .i64 16)) :
 SeqStopsK Fence.wide n Tryz.prog 133 #[.pointer (some ⟨Bs,0,none⟩),.pointer (some ⟨Bn,0,none⟩)] (fun x : Fin (p + 1)=>#[.slice (some ⟨b,off + 16 * x.val,none⟩) 16 16]) (qDb [Bs,Bn]) (fun ys=>ys = qMd (fx p) m)
  (fun pre=>∃ k,k ≤ m ∧ pre = qMd (fx p) k) m w:=fun l J Jx W hW hJ _ hY h0 =>
 qMe n hn l Bs Bn b off p m cap hp hm hcap hcx J Jx (fun s A h=>hJ s A A.drew none h ⟨rfl,rfl,rfl,Nat.le_refl _,fun _ _ _=>rfl⟩ (fun r e=>by cases e)) hY W
  ((hW.cell (p:=⟨Bs,0,none⟩) hBs).trans hc) ((hW.cell (p:=⟨Bn,0,none⟩) hBn).trans hd) h0
end Go.Proofs.YtdlgihbpiakebaaGreat
namespace Go.Proofs.YtdlgihbpiakebaaGreat
open Go Go.RowKit Tryz
def qCO (lba : Int) : List UInt8:=qB2 (BitVec.ofInt 64 lba) 2
theorem qKb (lba : Int) (w : World) : Calls prog 155 #[.int .i64 lba] w fun e w'=>∃ r,e = .returned r ∧ w'.ownsRow w.heap.size 5 1 r 2 (qA1 (qCO lba)) ∧ qA4 w w':=by
 unfold qCO
 obtain ⟨z,hz⟩ : ∃ z,z = BitVec.ofInt 64 lba:=⟨_,rfl⟩
 have hu : ∀ (wx : World),(convert 3 29 (.int .i64 lba)).run prog wx = .ok (U z) wx:=fun wx=>by
  rw [qAF wx 3 29 _ .u64 _ (by kernel_rfl) underlying29,qDd,hz]
 rw [← hz]
 clear hz
 go_enter func155,ntmps155
 go_wp2_with fail
 refine (qAO z 2 (by omega) (by omega) w).mono ?_
 rintro e w1 ⟨r,rfl,ho,hk⟩
 go_wp2
 go_ret
 exact ⟨r,rfl,ho,hk⟩
end Go.Proofs.YtdlgihbpiakebaaGreat
