import Derived.Test.YtdlgihbpiakebaaGreatMk06
import Derived.Test.YtdlgihbpiakebaaGreatMk07
import Derived.Test.YtdlgihbpiakebaaGreatMk08
import Derived.Test.YtdlgihbpiakebaaGreatMk14
import Derived.Test.YtdlgihbpiakebaaGreatMk21
import Derived.Lib.RepeatB
import Derived.Lib.MakeNoZero
set_option maxRecDepth 100000
set_option maxHeartbeats 4000000
namespace Go.Proofs.YtdlgihbpiakebaaGreat
open Go Go.RowKit Tryz
theorem qLT (n:Nat)(h:n<9223372036854775808):IntKind.i64.wrap (n:Int)=(n:Int):=by rw[IntKind.wrap_i64];omega
theorem qDx (x:List UInt8)(c:Nat)(hx:x.length=8):(Lib.repeatL x c).length=c*8:=by rw[Lib.repeatL_length,hx]
theorem qEz (a b:List UInt8)(n:Nat):qA1 (a++b.take n)=qA1 a++(qA1 b).take n:=by simp[qA1,List.map_take]
theorem _root_.Go.Proofs.YtdlgihbpiakebaaGreat.Chg.kept_new {w w':World}(h:Chg [w.heap.size] w w'):qA4 w w':=⟨h.os,h.tape,h.output,h.size,fun k c=>h.block k c (by simp;omega)⟩
theorem qK7 (a:Nat)(h:a<4294967296):(BitVec.ofNat 64 a) &&& 4294967295#64=BitVec.ofNat 64 a∧(BitVec.ofNat 64 a)>>>32=0#64:=by
 constructor
 · apply BitVec.eq_of_toNat_eq
   rw[BitVec.toNat_and,BitVec.toNat_ofNat,BitVec.toNat_ofNat,Nat.mod_eq_of_lt (by omega),show 4294967295 % 2^64=2^32 - 1 by decide,Nat.and_two_pow_sub_one_eq_mod,Nat.mod_eq_of_lt (by omega)]
 · apply BitVec.eq_of_toNat_eq
   rw[BitVec.toNat_ushiftRight,BitVec.toNat_ofNat,Nat.mod_eq_of_lt (by omega),Nat.shiftRight_eq_div_pow]
   simp;omega
theorem qT6 (a b:Nat):BitVec.ofNat 64 a*BitVec.ofNat 64 b=BitVec.ofNat 64 (a*b):=by
 rw[←BitVec.ofNat_mul]
theorem qQN (x y:BitVec 64):Op.intArith .mul .u64 (x.toNat:Int) (y.toNat:Int)=pure (U (x*y)):=by
 show pure (Value.int .u64 (IntKind.u64.wrap _))=_
 rw[qCy,U,BitVec.toNat_mul];congr 2
@[go_sem] theorem qSN (t:TypeId) (x y:BitVec 64):binOp .mul t (U x) (U y)=pure (U (x*y)):=(binOp_mul ..).trans (qQN x y)
theorem qNc (a b:Nat)(ha:a<65536)(hb:b<65536)(w:World):Calls prog 168 #[U (BitVec.ofNat 64 a),U (BitVec.ofNat 64 b)] w fun e w'=>e= .returned (.tuple #[U 0#64,U (BitVec.ofNat 64 (a*b))])∧w=w':=by
 obtain⟨F,G⟩:=qK7 a (by omega)
 obtain⟨b1,b2⟩:=qK7 b (by omega)
 obtain⟨N,q⟩:=qK7 (a*b) (by have:=Nat.mul_lt_mul'' ha hb;omega)
 have f:=qT6 a b
 obtain⟨x,h⟩:∃x,x=BitVec.ofNat 64 a:=⟨_,rfl⟩
 obtain⟨y,j⟩:∃y,y=BitVec.ofNat 64 b:=⟨_,rfl⟩
 obtain⟨z,l⟩:∃z,z=BitVec.ofNat 64 (a*b):=⟨_,rfl⟩
 rw[←h]at F G f
 rw[←j]at b1 b2 f
 rw[←l]at N q f
 rw[←h,←j,←l]
 have I:=qh f
 clear h j l f
 have c:z>>>64+(z>>>32 &&& 4294967295#64)>>>32=0#64:=by
  rw[q,BitVec.ushiftRight_eq_zero (by omega)];simp
 have J:=qh c
 clear c
 go_enter func168,ntmps168
 go_wp2
 rw[I.out,J.out]
 go_ret2
 exact⟨rfl,rfl⟩
theorem qPb (a b:Nat)(ha:a<65536)(hb:b<65536)(w:World):Calls prog 135 #[U (BitVec.ofNat 64 a),U (BitVec.ofNat 64 b)] w fun e w'=>e= .returned (.tuple #[U 0#64,U (BitVec.ofNat 64 (a*b))])∧w=w':=by
 have C:=qNc a b ha hb w
 obtain⟨x,c⟩:∃x,x=BitVec.ofNat 64 a:=⟨_,rfl⟩
 obtain⟨y,f⟩:∃y,y=BitVec.ofNat 64 b:=⟨_,rfl⟩
 obtain⟨z,h⟩:∃z,z=BitVec.ofNat 64 (a*b):=⟨_,rfl⟩
 rw[←c,←f,←h]at C
 rw[←c,←f,←h]
 clear c f h
 go_enter func135,ntmps135
 go_wp2_with fail
 refine C.mono ?_
 rintro e w1 ⟨rfl,rfl⟩
 go_wp2
 go_ret2
 exact⟨rfl,rfl⟩
theorem qLU (v:Value)(x:List UInt8)(c:Nat)(hx:x.length=8)(hc:1≤c)(hm:c≤1000)(w:World)(hs:Sl w v x.length (qA1 x)):Calls prog 97 #[v,.int .i64 (c:Int)] w fun e w'=>∃g,e= .returned (.slice (some ⟨g,0,none⟩) (c*8) (c*8))∧Sl w' (.slice (some ⟨g,0,none⟩) (c*8) (c*8)) (c*8) (qA1 (Lib.repeatL x c))∧w.heap.size≤g∧qA4 w w':=by
 obtain⟨a,cap,rfl⟩:=hs.len
 rw[hx]at hs ⊢
 have n1:¬(c:Int)=0:=by omega
 have n2:((c:Int)==0)=false:=by simpa using n1
 have n3:¬(c:Int)<0:=by omega
 have c4:∀F:World,(convert 3 28 (.int .i64 8)).run prog F= .ok (U (BitVec.ofNat 64 8)) F:=fun F=>by kernel_rfl
 have c5:∀F:World,(convert 3 28 (.int .i64 (c:Int))).run prog F= .ok (U (BitVec.ofNat 64 c)) F:=fun F=>by
  rw[qAH F 3 28 _ .u64 _ (by kernel_rfl) underlying28,qDq]
  rfl
 have C:=qPb 8 c (by omega) (by omega)
 obtain⟨z8,a1⟩:∃z,z=BitVec.ofNat 64 8:=⟨_,rfl⟩
 obtain⟨zc,a2⟩:∃z,z=BitVec.ofNat 64 c:=⟨_,rfl⟩
 obtain⟨zz,Z⟩:∃z,z=BitVec.ofNat 64 (8*c):=⟨_,rfl⟩
 have g2:¬9223372036854775807#64<zz:=by rw[Z,BitVec.lt_def,BitVec.toNat_ofNat,Nat.mod_eq_of_lt (by omega)];simp;omega
 have g1:decide (9223372036854775807#64<zz)=false:=decide_eq_false g2
 have c9:∀F:World,(convert 28 3 (U zz)).run prog F= .ok (.int .i64 ((c*8:Nat):Int)) F:=fun F=>by
  unfold U
  rw[qAH F 28 3 _ .i64 _ (by kernel_rfl) underlying3,Z,BitVec.toNat_ofNat,Nat.mod_eq_of_lt (by omega),qLT _ (by omega),Nat.mul_comm]
 rw[←a1]at c4
 rw[←a2]at c5
 rw[←a1,←a2,←Z]at C
 clear a1 a2 Z
 obtain⟨N,hN⟩:∃N,N=c*8:=⟨_,rfl⟩
 have a5:=qDx x c hx
 rw[←hN]at c9 a5 ⊢
 have i1:(N:Int)≤8000:=by omega
 have i2:(0:Int)≤(N:Int):=by omega
 have n4:¬(8192:Int)<(N:Int):=by omega
 obtain⟨cs,G,b9,b6⟩:=Lib.run_makeNoZero (P:=prog) w #[3] 32 5 underlying32 N (by omega)
 have a4:(callFunc 136 #[.int .i64 (N:Int)]).run prog w= .ok (.value (.slice (some ⟨w.heap.size,0,none⟩) N cs.size)) (w.drew.drew.alloc (.cells cs 5)):=by
  rw[run_callFunc_extern func136 (by kernel_rfl) (by kernel_rfl) (by kernel_rfl) (e:=Extern.BytealgMakeNoZero.makeNoZero #[3] #[32]) (by kernel_rfl),G]
  rfl
 clear G
 have i3:(N:Int)≤(cs.size:Int):=by omega
 obtain⟨w0,Y⟩:∃w0,w0=w.drew.drew.alloc (.cells cs 5):=⟨_,rfl⟩
 have a9:qA4 w w0:=by rw[Y];exact Below.alloc (Below.drew (Below.drew (Below.refl _ _))) qle _
 have d1:Blk w0 w.heap.size cs.toList.toArray 5:=by rw[Y];exact Blk.new w.drew.drew cs _
 have a7:cs.toList.length=cs.size:=by simp
 rw[←Y]at a4
 clear Y
 obtain⟨w1,c8,b4,c6⟩:=qCn (P:=prog) (w:=w0) (dl:=N) (dc:=N) (off:=0) qAx 3 d1 (hs.kept a9) (by rw[qA7];exact hx) (qAP _) (by rw[a7];omega)
 have h:min 8 N=8:=by omega
 rw[h]at c8 b4
 have HN:=qh hN
 have d0:=qh a5
 have HX:=qh hx
 have d4:=qh a7
 have a0:=qh b9
 have d5:=qh b6
 clear hN a5 hx a7 h b9 b6
 go_enter func97,ntmps97
 go_wp2_with fail
 refine(C _).mono ?_
 rintro e w2 ⟨rfl,rfl⟩
 go_wp2_with fail
 go_loopw [10] (fun i wr=>∃(M q:Nat) (D:List Value),i= .int .i64 (M:Int)∧Hid (M=q*8∧1≤q∧q≤c)∧Blk wr w.heap.size D.toArray 5∧Hid (D.length=cs.size)∧Hid (D.take M=qA1 (Lib.repeatL x q))∧Chg [w.heap.size] w0 wr) (fun i _=>N - (intOf i).toNat)
 case atStart =>
  refine⟨8,1,_,rfl,qh ⟨rfl,by omega,hc⟩,b4,qh ?_,qh ?_,c6⟩
  · have:=a0.out;have:=HN.out;have:=HX.out
    simp[qA7];omega
  · have:=HX.out
    rw[Lib.repeatL_one,List.take_of_length_le (l:=qA1 x) (by rw[qA7];omega)]
    simp only[List.take_zero,List.nil_append]
    rw[List.take_append_of_le_length (by rw[qA7];omega),List.take_of_length_le (by rw[qA7];omega)]
 case round =>
  obtain⟨M,q,D,rfl,f,hB,a3,V,b3⟩:=hrel
  have d3:M≤N:=by have:=f.out;have:=HN.out;omega
  by_cases d2:M<N
  · have m1:(M:Int)<(N:Int):=by omega
    have m2:(0:Int)≤(M:Int):=by omega
    have m3:(M:Int)≤(N:Int):=by omega
    go_wp2_with fail
    refine qAb [w.heap.size] [(0,0),(1,0),(2,0),(3,0),(4,0),(5,0),(6,0),(7,1),(8,0),(9,0)] (by kernel_rfl) (by kernel_rfl) ?_
    intro w3 a6
    repeat
     refine qA0 _ rfl (fun K O=>?_)
     first
      | (refine qqP (by rfl) ?_;apply Exists.intro;refine⟨fun w' c7=>?_,O _ ?_⟩;go_simp;first|done|rfl)
      | refine qqN (by rfl) (O _ ?_)
     clear O K;simp only[Act.put,qqB]
    refine qqH _ rfl (by rfl) (fun K O=>?_)
    obtain⟨k,k1,k2,k3,k4⟩:=Lib.chunk_ok c q c 8 f.out.2.1 (by have:=f.out;have:=HN.out;omega) (by omega)
    obtain⟨J,b7⟩:∃J,J=k*8:=⟨_,rfl⟩
    have hk:Hid (1≤k∧k≤q∧q+k≤c):=qh ⟨k1,k2,k3⟩
    have hJ:Hid (J=k*8∧M+J≤N):=qh ⟨b7,by have:=f.out;have:=HN.out;omega⟩
    have h:min M (N - M)=J:=by have:=f.out;have:=HN.out;omega
    have b5:Sl w3 (.slice (some ⟨w.heap.size,0,none⟩) M N) M (qA1 (Lib.repeatL x q)):=Sl.mk (by omega) (by unfold maxLen;omega) (fun j u hj=>by
     rw[Nat.zero_add,(hB.kept a6).cell j,List.getElem?_toArray]
     have I:=(List.getElem?_eq_some_iff.1 hj).1
     rw[qA7,Lib.repeatL_length,HX.out,←f.out.1]at I
     rw[←V.out,List.getElem?_take_of_lt I]at hj
     exact hj)
    obtain⟨w4,c2,c0,a8⟩:=qCn (P:=prog) (w:=w3) (dl:=N - M) (dc:=N - M) (off:=M) qAx 3 (hB.kept a6) b5 (by rw[qA7,Lib.repeatL_length,HX.out,←f.out.1]) (qAP _) (by rw[h,a3.out];have:=hJ.out;have:=a0.out;omega)
    rw[h]at c2 c0
    have i4:(J:Int)≤8000:=by have:=hJ.out;omega
    have b8:IntKind.i64.wrap ((M:Int)+(J:Int))=((M+J:Nat):Int):=by have:=hJ.out;rw[IntKind.wrap_i64];omega
    clear k1 k2 k3 k4 b7 h b5
    go_wp2
    refine O _ _ (a8) ?_
    clear O K
    try simp only[Act.put,qqB]
    repeat
     refine qA0 _ rfl (fun K O=>?_)
     first
      | (refine qqP (by rfl) ?_;apply Exists.intro;refine⟨fun w' c7=>?_,O _ ?_⟩;go_simp;first|done|rfl)
      | refine qqN (by rfl) (O _ ?_)
     clear O K;simp only[Act.put,qqB]
    refine qA6 ?_
    go_wp2
    refine⟨⟨M+J,q+k,D.take M++(qA1 (Lib.repeatL x q)).take J++D.drop (M+J),?_,qh ?_,c0,qh ?_,qh ?_,(b3.trans (Chg.of_kept a6)).trans a8⟩,?_⟩
    · first|rfl|rw[b8]
    · have:=f.out;have:=hk.out;have:=hJ.out;omega
    · have h1:=a3.out
      have h2:=congrArg List.length V.out
      have h3:=hJ.out
      simp only[List.length_append,List.length_take,List.length_drop,qA7]at h2 ⊢
      rw[Lib.repeatL_length,HX.out]at h2 ⊢
      have:=f.out
      have:=a0.out
      have:=hk.out
      omega
    · have h1:=a3.out
      have h2:=hJ.out
      have h3:=f.out
      have h4:=hk.out
      rw[List.take_append_of_le_length,List.take_of_length_le]
      · rw[V.out,←qEz,h2.1]
        have:=Lib.step_ok x q k (by omega)
        rw[HX.out]at this
        rw[this]
      · simp only[List.length_append,List.length_take,qA7,Lib.repeatL_length,HX.out];omega
      · simp only[List.length_append,List.length_take,qA7,Lib.repeatL_length,HX.out,h1];have:=a0.out;omega
    · have:=hJ.out;have:=hk.out
      simp only[intOf];omega
  · have:M=N:=by omega
    have m1:¬(M:Int)<(N:Int):=by omega
    have c1:=qh this
    clear this
    go_wp2
    go_ret
    have c3:q=c:=by have:=f.out;have:=HN.out;have:=c1.out;omega
    refine⟨w.heap.size,rfl,Sl.mk qle (by unfold maxLen;omega) fun j u hj=>?_,Nat.le_refl _,?_⟩
    · rw[Nat.zero_add,hB.cell j]
      have h1:=V.out
      rw[c3]at h1
      have I:=(List.getElem?_eq_some_iff.1 hj).1
      rw[qA7,d0.out]at I
      rw[←h1,c1.out,List.getElem?_take_of_lt I]at hj
      rw[List.getElem?_toArray]
      exact hj
    · exact(Chg.of_kept a9).trans b3 |>.kept_new
end Go.Proofs.YtdlgihbpiakebaaGreat
