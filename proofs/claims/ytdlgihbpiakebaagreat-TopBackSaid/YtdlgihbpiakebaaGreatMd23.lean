import Derived.Test.YtdlgihbpiakebaaGreatMd06
import Derived.Test.YtdlgihbpiakebaaGreatMd07
import Derived.Test.YtdlgihbpiakebaaGreatMd08
import Derived.Test.YtdlgihbpiakebaaGreatMd20
import Derived.Test.YtdlgihbpiakebaaGreatMd22
import Derived.Lib.RepeatB
import Derived.Lib.MakeNoZero
set_option maxRecDepth 100000
set_option maxHeartbeats 4000000
namespace Go.Proofs.YtdlgihbpiakebaaGreat
open Go Go.RowKit Tryz
theorem qKZ (n : Nat) (h : n < 9223372036854775808) : IntKind.i64.wrap (n : Int) = (n : Int):=by rw [IntKind.wrap_i64];omega
theorem qDj (x : List UInt8) (c : Nat) (hx : x.length = 8) : (Lib.repeatL x c).length = c * 8:=by rw [Lib.repeatL_length,hx]
theorem qEn (a b : List UInt8) (n : Nat) : qA1 (a ++ b.take n) = qA1 a ++ (qA1 b).take n:=by simp [qA1,List.map_take]
theorem _root_.Go.Proofs.YtdlgihbpiakebaaGreat.Chg.kept_new {w w' : World} (h : Chg [w.heap.size] w w') : qA4 w w':=⟨h.os,h.tape,h.output,h.size,fun k hk=>h.block k hk (by simp;omega)⟩
theorem qJm (a : Nat) (h : a < 4294967296) : (BitVec.ofNat 64 a) &&& 4294967295#64 = BitVec.ofNat 64 a ∧ (BitVec.ofNat 64 a) >>> 32 = 0#64:=by
 constructor
 · apply BitVec.eq_of_toNat_eq
   rw [BitVec.toNat_and,BitVec.toNat_ofNat,BitVec.toNat_ofNat,Nat.mod_eq_of_lt (by omega),show 4294967295 % 2 ^ 64 = 2 ^ 32 - 1 by decide,Nat.and_two_pow_sub_one_eq_mod,Nat.mod_eq_of_lt (by omega)]
 · apply BitVec.eq_of_toNat_eq
   rw [BitVec.toNat_ushiftRight,BitVec.toNat_ofNat,Nat.mod_eq_of_lt (by omega),Nat.shiftRight_eq_div_pow]
   simp;omega
theorem qRO (a b : Nat) : BitVec.ofNat 64 a * BitVec.ofNat 64 b = BitVec.ofNat 64 (a * b):=by
 rw [← BitVec.ofNat_mul]
theorem qPL (x y : BitVec 64) : Op.intArith .mul .u64 (x.toNat : Int) (y.toNat : Int) = pure (U (x * y)):=by
 show pure (Value.int .u64 (IntKind.u64.wrap _)) = _
 rw [qCs,U,BitVec.toNat_mul];congr 2
@[go_sem] theorem qRw (t : TypeId) (x y : BitVec 64) : binOp .mul t (U x) (U y) = pure (U (x * y)):=(binOp_mul ..).trans (qPL x y)
theorem qMi (a b : Nat) (ha : a < 65536) (hb : b < 65536) (w : World) : Calls prog 168 #[U (BitVec.ofNat 64 a),U (BitVec.ofNat 64 b)] w fun e w'=>e = .returned (.tuple #[U 0#64,U (BitVec.ofNat 64 (a * b))]) ∧ w = w':=by
 obtain ⟨a1,a2⟩:=qJm a (by omega)
 obtain ⟨b1,b2⟩:=qJm b (by omega)
 obtain ⟨c1,c2⟩:=qJm (a * b) (by have:=Nat.mul_lt_mul'' ha hb;omega)
 have hm:=qRO a b
 obtain ⟨x,hx⟩ : ∃ x,x = BitVec.ofNat 64 a:=⟨_,rfl⟩
 obtain ⟨y,hy⟩ : ∃ y,y = BitVec.ofNat 64 b:=⟨_,rfl⟩
 obtain ⟨z,hz⟩ : ∃ z,z = BitVec.ofNat 64 (a * b):=⟨_,rfl⟩
 rw [← hx] at a1 a2 hm
 rw [← hy] at b1 b2 hm
 rw [← hz] at c1 c2 hm
 rw [← hx,← hy,← hz]
 have HM:=qh hm
 clear hx hy hz hm
 have hhi : z >>> 64 + (z >>> 32 &&& 4294967295#64) >>> 32 = 0#64:=by
  rw [c2,BitVec.ushiftRight_eq_zero (by omega)];simp
 have HH:=qh hhi
 clear hhi
 go_enter func168,ntmps168
 go_wp2
 rw [HM.out,HH.out]
 go_ret2
 exact ⟨rfl,rfl⟩
theorem qOf (a b : Nat) (ha : a < 65536) (hb : b < 65536) (w : World) : Calls prog 135 #[U (BitVec.ofNat 64 a),U (BitVec.ofNat 64 b)] w fun e w'=>e = .returned (.tuple #[U 0#64,U (BitVec.ofNat 64 (a * b))]) ∧ w = w':=by
 have C:=qMi a b ha hb w
 obtain ⟨x,hx⟩ : ∃ x,x = BitVec.ofNat 64 a:=⟨_,rfl⟩
 obtain ⟨y,hy⟩ : ∃ y,y = BitVec.ofNat 64 b:=⟨_,rfl⟩
 obtain ⟨z,hz⟩ : ∃ z,z = BitVec.ofNat 64 (a * b):=⟨_,rfl⟩
 rw [← hx,← hy,← hz] at C
 rw [← hx,← hy,← hz]
 clear hx hy hz
 go_enter func135,ntmps135
 go_wp2_with fail
 refine C.mono ?_
 rintro e w1 ⟨rfl,rfl⟩
 go_wp2
 go_ret2
 exact ⟨rfl,rfl⟩
theorem qL0 (v : Value) (x : List UInt8) (c : Nat) (hx : x.length = 8) (hc : 1 ≤ c) (hm : c ≤ 1000) (w : World) (hs : Sl w v x.length (qA1 x)) : Calls prog 97 #[v,.int .i64 (c : Int)] w fun e w'=>∃ g,e = .returned (.slice (some ⟨g,0,none⟩) (c * 8) (c * 8)) ∧ Sl w' (.slice (some ⟨g,0,none⟩) (c * 8) (c * 8)) (c * 8) (qA1 (Lib.repeatL x c)) ∧ w.heap.size ≤ g ∧ qA4 w w':=by
 obtain ⟨a,cap,rfl⟩:=hs.len
 rw [hx] at hs ⊢
 have n1 : ¬ (c : Int) = 0:=by omega
 have n2 : ((c : Int) == 0) = false:=by simpa using n1
 have n3 : ¬ (c : Int) < 0:=by omega
 have hu8 : ∀ wx : World,(convert 3 28 (.int .i64 8)).run prog wx = .ok (U (BitVec.ofNat 64 8)) wx:=fun wx=>by kernel_rfl
 have huc : ∀ wx : World,(convert 3 28 (.int .i64 (c : Int))).run prog wx = .ok (U (BitVec.ofNat 64 c)) wx:=fun wx=>by
  rw [qAF wx 3 28 _ .u64 _ (by kernel_rfl) underlying28,qDd]
  rfl
 have C:=qOf 8 c (by omega) (by omega)
 obtain ⟨z8,hz8⟩ : ∃ z,z = BitVec.ofNat 64 8:=⟨_,rfl⟩
 obtain ⟨zc,hzc⟩ : ∃ z,z = BitVec.ofNat 64 c:=⟨_,rfl⟩
 obtain ⟨zz,hzz⟩ : ∃ z,z = BitVec.ofNat 64 (8 * c):=⟨_,rfl⟩
 have g2 : ¬ 9223372036854775807#64 < zz:=by rw [hzz,BitVec.lt_def,BitVec.toNat_ofNat,Nat.mod_eq_of_lt (by omega)];simp;omega
 have g1 : decide (9223372036854775807#64 < zz) = false:=decide_eq_false g2
 have hcv : ∀ wx : World,(convert 28 3 (U zz)).run prog wx = .ok (.int .i64 ((c * 8 : Nat) : Int)) wx:=fun wx=>by
  unfold U
  rw [qAF wx 28 3 _ .i64 _ (by kernel_rfl) underlying3,hzz,BitVec.toNat_ofNat,Nat.mod_eq_of_lt (by omega),qKZ _ (by omega),Nat.mul_comm]
 rw [← hz8] at hu8
 rw [← hzc] at huc
 rw [← hz8,← hzc,← hzz] at C
 clear hz8 hzc hzz
 obtain ⟨N,hN⟩ : ∃ N,N = c * 8:=⟨_,rfl⟩
 have hxl:=qDj x c hx
 rw [← hN] at hcv hxl ⊢
 have i1 : (N : Int) ≤ 8000:=by omega
 have i2 : (0 : Int) ≤ (N : Int):=by omega
 have n4 : ¬ (8192 : Int) < (N : Int):=by omega
 obtain ⟨cs,hrunM,hle,hmx⟩:=Lib.run_makeNoZero (P:=prog) w #[3] 32 5 underlying32 N (by omega)
 have hcall : (callFunc 136 #[.int .i64 (N : Int)]).run prog w = .ok (.value (.slice (some ⟨w.heap.size,0,none⟩) N cs.size)) (w.drew.drew.alloc (.cells cs 5)):=by
  rw [run_callFunc_extern func136 (by kernel_rfl) (by kernel_rfl) (by kernel_rfl) (e:=Extern.BytealgMakeNoZero.makeNoZero #[3] #[32]) (by kernel_rfl),hrunM]
  rfl
 clear hrunM
 have i3 : (N : Int) ≤ (cs.size : Int):=by omega
 obtain ⟨w0,hw0⟩ : ∃ w0,w0 = w.drew.drew.alloc (.cells cs 5):=⟨_,rfl⟩
 have hk0 : qA4 w w0:=by rw [hw0];exact Below.alloc (Below.drew (Below.drew (Below.refl _ _))) qle _
 have hB0 : Blk w0 w.heap.size cs.toList.toArray 5:=by rw [hw0];exact Blk.new w.drew.drew cs _
 have hl0 : cs.toList.length = cs.size:=by simp
 rw [← hw0] at hcall
 clear hw0
 obtain ⟨w1,hr1,hB1,hc1⟩:=qCg (P:=prog) (w:=w0) (dl:=N) (dc:=N) (off:=0) qAw 3 hB0 (hs.kept hk0) (by rw [qA6];exact hx) (qAI _) (by rw [hl0];omega)
 have hmin : min 8 N = 8:=by omega
 rw [hmin] at hr1 hB1
 have HN:=qh hN
 have HXL:=qh hxl
 have HX:=qh hx
 have HL0:=qh hl0
 have HLE:=qh hle
 have HMX:=qh hmx
 clear hN hxl hx hl0 hmin hle hmx
 go_enter func97,ntmps97
 go_wp2_with fail
 refine (C _).mono ?_
 rintro e w2 ⟨rfl,rfl⟩
 go_wp2_with fail
 go_loopw [10] (fun i wr=>∃ (M q : Nat) (D : List Value),i = .int .i64 (M : Int) ∧ Hid (M = q * 8 ∧ 1 ≤ q ∧ q ≤ c) ∧ Blk wr w.heap.size D.toArray 5 ∧ Hid (D.length = cs.size) ∧ Hid (D.take M = qA1 (Lib.repeatL x q)) ∧ Chg [w.heap.size] w0 wr) (fun i _=>N - (intOf i).toNat)
 case atStart =>
  refine ⟨8,1,_,rfl,qh ⟨rfl,by omega,hc⟩,hB1,qh ?_,qh ?_,hc1⟩
  · have:=HLE.out;have:=HN.out;have:=HX.out
    simp [qA6];omega
  · have:=HX.out
    rw [Lib.repeatL_one,List.take_of_length_le (l:=qA1 x) (by rw [qA6];omega)]
    simp only [List.take_zero,List.nil_append]
    rw [List.take_append_of_le_length (by rw [qA6];omega),List.take_of_length_le (by rw [qA6];omega)]
 case round =>
  obtain ⟨M,q,D,rfl,hMq,hB,hDl,hDt,hcr⟩:=hrel
  have hMN : M ≤ N:=by have:=hMq.out;have:=HN.out;omega
  by_cases hlt : M < N
  · have m1 : (M : Int) < (N : Int):=by omega
    have m2 : (0 : Int) ≤ (M : Int):=by omega
    have m3 : (M : Int) ≤ (N : Int):=by omega
    go_wp2_with fail
    refine qAf [w.heap.size] [(0,0),(1,0),(2,0),(3,0),(4,0),(5,0),(6,0),(7,1),(8,0),(9,0)] (by kernel_rfl) (by kernel_rfl) ?_
    intro w3 hw3
    repeat
     refine qA0 _ rfl (fun K hK=>?_)
     first
      | (refine qqP (by rfl) ?_;apply Exists.intro;refine ⟨fun w' hw'=>?_,hK _ ?_⟩;go_simp;first|done|rfl)
      | refine qqN (by rfl) (hK _ ?_)
     clear hK K;simp only [Act.put,qqB]
    refine qqH _ rfl (by rfl) (fun K hK=>?_)
    obtain ⟨k,k1,k2,k3,k4⟩:=Lib.chunk_ok c q c 8 hMq.out.2.1 (by have:=hMq.out;have:=HN.out;omega) (by omega)
    obtain ⟨J,hJ0⟩ : ∃ J,J = k * 8:=⟨_,rfl⟩
    have hk : Hid (1 ≤ k ∧ k ≤ q ∧ q + k ≤ c):=qh ⟨k1,k2,k3⟩
    have hJ : Hid (J = k * 8 ∧ M + J ≤ N):=qh ⟨hJ0,by have:=hMq.out;have:=HN.out;omega⟩
    have hmin : min M (N - M) = J:=by have:=hMq.out;have:=HN.out;omega
    have hsl : Sl w3 (.slice (some ⟨w.heap.size,0,none⟩) M N) M (qA1 (Lib.repeatL x q)):=Sl.mk (by omega) (by unfold maxLen;omega) (fun j u hj=>by
     rw [Nat.zero_add,(hB.kept hw3).cell j,List.getElem?_toArray]
     have hjl:=(List.getElem?_eq_some_iff.1 hj).1
     rw [qA6,Lib.repeatL_length,HX.out,← hMq.out.1] at hjl
     rw [← hDt.out,List.getElem?_take_of_lt hjl] at hj
     exact hj)
    obtain ⟨w4,hr4,hB4,hc4⟩:=qCg (P:=prog) (w:=w3) (dl:=N - M) (dc:=N - M) (off:=M) qAw 3 (hB.kept hw3) hsl (by rw [qA6,Lib.repeatL_length,HX.out,← hMq.out.1]) (qAI _) (by rw [hmin,hDl.out];have:=hJ.out;have:=HLE.out;omega)
    rw [hmin] at hr4 hB4
    have i4 : (J : Int) ≤ 8000:=by have:=hJ.out;omega
    have hwr : IntKind.i64.wrap ((M : Int) + (J : Int)) = ((M + J : Nat) : Int):=by have:=hJ.out;rw [IntKind.wrap_i64];omega
    clear k1 k2 k3 k4 hJ0 hmin hsl
    go_wp2
    refine hK _ _ (hc4) ?_
    clear hK K
    try simp only [Act.put,qqB]
    repeat
     refine qA0 _ rfl (fun K hK=>?_)
     first
      | (refine qqP (by rfl) ?_;apply Exists.intro;refine ⟨fun w' hw'=>?_,hK _ ?_⟩;go_simp;first|done|rfl)
      | refine qqN (by rfl) (hK _ ?_)
     clear hK K;simp only [Act.put,qqB]
    refine qA7 ?_
    go_wp2
    refine ⟨⟨M + J,q + k,D.take M ++ (qA1 (Lib.repeatL x q)).take J ++ D.drop (M + J),?_,qh ?_,hB4,qh ?_,qh ?_,(hcr.trans (Chg.of_kept hw3)).trans hc4⟩,?_⟩
    · first | rfl | rw [hwr]
    · have:=hMq.out;have:=hk.out;have:=hJ.out;omega
    · have h1:=hDl.out
      have h2:=congrArg List.length hDt.out
      have h3:=hJ.out
      simp only [List.length_append,List.length_take,List.length_drop,qA6] at h2 ⊢
      rw [Lib.repeatL_length,HX.out] at h2 ⊢
      have:=hMq.out
      have:=HLE.out
      have:=hk.out
      omega
    · have h1:=hDl.out
      have h2:=hJ.out
      have h3:=hMq.out
      have h4:=hk.out
      rw [List.take_append_of_le_length,List.take_of_length_le]
      · rw [hDt.out,← qEn,h2.1]
        have:=Lib.step_ok x q k (by omega)
        rw [HX.out] at this
        rw [this]
      · simp only [List.length_append,List.length_take,qA6,Lib.repeatL_length,HX.out];omega
      · simp only [List.length_append,List.length_take,qA6,Lib.repeatL_length,HX.out,h1];have:=HLE.out;omega
    · have:=hJ.out;have:=hk.out
      simp only [intOf];omega
  · have : M = N:=by omega
    have m1 : ¬ (M : Int) < (N : Int):=by omega
    have HMN:=qh this
    clear this
    go_wp2
    go_ret
    have hqc : q = c:=by have:=hMq.out;have:=HN.out;have:=HMN.out;omega
    refine ⟨w.heap.size,rfl,Sl.mk qle (by unfold maxLen;omega) fun j u hj=>?_,Nat.le_refl _,?_⟩
    · rw [Nat.zero_add,hB.cell j]
      have h1:=hDt.out
      rw [hqc] at h1
      have hjl:=(List.getElem?_eq_some_iff.1 hj).1
      rw [qA6,HXL.out] at hjl
      rw [← h1,HMN.out,List.getElem?_take_of_lt hjl] at hj
      rw [List.getElem?_toArray]
      exact hj
    · exact (Chg.of_kept hk0).trans hcr |>.kept_new
end Go.Proofs.YtdlgihbpiakebaaGreat
