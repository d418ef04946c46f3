import Derived.Test.YtldmebjnklmpfaaGreatMh06
import Derived.Test.YtldmebjnklmpfaaGreatMh07
import Derived.Test.YtldmebjnklmpfaaGreatMh08
import Derived.Test.YtldmebjnklmpfaaGreatMh20
import Derived.Test.YtldmebjnklmpfaaGreatMh22
import Derived.Lib.RepeatB
import Derived.Lib.MakeNoZero
set_option maxRecDepth 100000
set_option maxHeartbeats 4000000
namespace Go.Proofs.YtldmebjnklmpfaaGreat
open Go Go.RowKit
theorem wrap64_nat (n : Nat) (h : n < 9223372036854775808) : IntKind.i64.wrap (n : Int) = (n : Int):=by rw [IntKind.wrap_i64];omega
theorem repeatL_len8 (x : List UInt8) (c : Nat) (hx : x.length = 8) : (Lib.repeatL x c).length = c * 8:=by rw [Lib.repeatL_length,hx]
theorem bcells_append_take (a b : List UInt8) (n : Nat) : bcells (a ++ b.take n) = bcells a ++ (bcells b).take n:=by simp [bcells,List.map_take]
theorem _root_.Go.Proofs.YtldmebjnklmpfaaGreat.Chg.kept_new {w w' : World} (h : Chg [w.heap.size] w w') : Kept w w':=⟨h.os,h.tape,h.output,h.size,fun k hk=>h.block k hk (by simp;omega)⟩
theorem u_small (a : Nat) (h : a < 4294967296) : (BitVec.ofNat 64 a) &&& 4294967295#64 = BitVec.ofNat 64 a ∧ (BitVec.ofNat 64 a) >>> 32 = 0#64:=by
 constructor
 · apply BitVec.eq_of_toNat_eq
   rw [BitVec.toNat_and,BitVec.toNat_ofNat,BitVec.toNat_ofNat,Nat.mod_eq_of_lt (by omega),show 4294967295 % 2 ^ 64 = 2 ^ 32 - 1 by decide,Nat.and_two_pow_sub_one_eq_mod,Nat.mod_eq_of_lt (by omega)]
 · apply BitVec.eq_of_toNat_eq
   rw [BitVec.toNat_ushiftRight,BitVec.toNat_ofNat,Nat.mod_eq_of_lt (by omega),Nat.shiftRight_eq_div_pow]
   simp;omega
theorem u_mul (a b : Nat) : BitVec.ofNat 64 a * BitVec.ofNat 64 b = BitVec.ofNat 64 (a * b):=by
 rw [← BitVec.ofNat_mul]
theorem opU_mul (x y : BitVec 64) : Op.intArith .mul .u64 (x.toNat : Int) (y.toNat : Int) = pure (U (x * y)):=by
 show pure (Value.int .u64 (IntKind.u64.wrap _)) = _
 rw [wrap_u64,U,BitVec.toNat_mul];congr 2
@[go_sem] theorem binU_mul (t : TypeId) (x y : BitVec 64) : binOp .mul t (U x) (U y) = pure (U (x * y)):=(binOp_mul ..).trans (opU_mul x y)
theorem mul64_any (a b : Nat) (ha : a < 65536) (hb : b < 65536) (w : World) : Calls Tryz.prog 168 #[U (BitVec.ofNat 64 a),U (BitVec.ofNat 64 b)] w fun e w'=>e = .returned (.tuple #[U 0#64,U (BitVec.ofNat 64 (a * b))]) ∧ w = w':=by
 obtain ⟨a1,a2⟩:=u_small a (by omega)
 obtain ⟨b1,b2⟩:=u_small b (by omega)
 obtain ⟨c1,c2⟩:=u_small (a * b) (by have:=Nat.mul_lt_mul'' ha hb;omega)
 have hm:=u_mul a b
 obtain ⟨x,hx⟩ : ∃ x,x = BitVec.ofNat 64 a:=⟨_,rfl⟩
 obtain ⟨y,hy⟩ : ∃ y,y = BitVec.ofNat 64 b:=⟨_,rfl⟩
 obtain ⟨z,hz⟩ : ∃ z,z = BitVec.ofNat 64 (a * b):=⟨_,rfl⟩
 rw [← hx] at a1 a2 hm
 rw [← hy] at b1 b2 hm
 rw [← hz] at c1 c2 hm
 rw [← hx,← hy,← hz]
 have HM:=Lib.hid hm
 clear hx hy hz hm
 have hhi : z >>> 64 + (z >>> 32 &&& 4294967295#64) >>> 32 = 0#64:=by
  rw [c2,BitVec.ushiftRight_eq_zero (by omega)];simp
 have HH:=Lib.hid hhi
 clear hhi
 go_enter Tryz.func168,Tryz.ntmps168
 go_wp2
 rw [HM.out,HH.out]
 go_ret2
 exact ⟨rfl,rfl⟩
theorem bmul_any (a b : Nat) (ha : a < 65536) (hb : b < 65536) (w : World) : Calls Tryz.prog 135 #[U (BitVec.ofNat 64 a),U (BitVec.ofNat 64 b)] w fun e w'=>e = .returned (.tuple #[U 0#64,U (BitVec.ofNat 64 (a * b))]) ∧ w = w':=by
 have C:=mul64_any a b ha hb w
 obtain ⟨x,hx⟩ : ∃ x,x = BitVec.ofNat 64 a:=⟨_,rfl⟩
 obtain ⟨y,hy⟩ : ∃ y,y = BitVec.ofNat 64 b:=⟨_,rfl⟩
 obtain ⟨z,hz⟩ : ∃ z,z = BitVec.ofNat 64 (a * b):=⟨_,rfl⟩
 rw [← hx,← hy,← hz] at C
 rw [← hx,← hy,← hz]
 clear hx hy hz
 go_enter Tryz.func135,Tryz.ntmps135
 go_wp2_with fail
 refine C.mono ?_
 rintro e w1 ⟨rfl,rfl⟩
 go_wp2
 go_ret2
 exact ⟨rfl,rfl⟩
theorem repeat_any (v : Value) (x : List UInt8) (c : Nat) (hx : x.length = 8) (hc : 1 ≤ c) (hm : c ≤ 1000) (w : World) (hs : Sl w v x.length (bcells x)) : Calls Tryz.prog 97 #[v,.int .i64 (c : Int)] w fun e w'=>∃ g,e = .returned (.slice (some ⟨g,0,none⟩) (c * 8) (c * 8)) ∧ Sl w' (.slice (some ⟨g,0,none⟩) (c * 8) (c * 8)) (c * 8) (bcells (Lib.repeatL x c)) ∧ w.heap.size ≤ g ∧ Kept w w':=by
 obtain ⟨a,cap,rfl⟩:=hs.len
 rw [hx] at hs ⊢
 have n1 : ¬ (c : Int) = 0:=by omega
 have n2 : ((c : Int) == 0) = false:=by simpa using n1
 have n3 : ¬ (c : Int) < 0:=by omega
 have hu8 : ∀ wx : World,(convert 3 28 (.int .i64 8)).run Tryz.prog wx = .ok (U (BitVec.ofNat 64 8)) wx:=fun wx=>by kernel_rfl
 have huc : ∀ wx : World,(convert 3 28 (.int .i64 (c : Int))).run Tryz.prog wx = .ok (U (BitVec.ofNat 64 c)) wx:=fun wx=>by
  rw [conv_int wx 3 28 _ .u64 _ (by kernel_rfl) Tryz.underlying28,U_ofInt]
  rfl
 have C:=bmul_any 8 c (by omega) (by omega)
 obtain ⟨z8,hz8⟩ : ∃ z,z = BitVec.ofNat 64 8:=⟨_,rfl⟩
 obtain ⟨zc,hzc⟩ : ∃ z,z = BitVec.ofNat 64 c:=⟨_,rfl⟩
 obtain ⟨zz,hzz⟩ : ∃ z,z = BitVec.ofNat 64 (8 * c):=⟨_,rfl⟩
 have g2 : ¬ 9223372036854775807#64 < zz:=by rw [hzz,BitVec.lt_def,BitVec.toNat_ofNat,Nat.mod_eq_of_lt (by omega)];simp;omega
 have g1 : decide (9223372036854775807#64 < zz) = false:=decide_eq_false g2
 have hcv : ∀ wx : World,(convert 28 3 (U zz)).run Tryz.prog wx = .ok (.int .i64 ((c * 8 : Nat) : Int)) wx:=fun wx=>by
  unfold U
  rw [conv_int wx 28 3 _ .i64 _ (by kernel_rfl) Tryz.underlying3,hzz,BitVec.toNat_ofNat,Nat.mod_eq_of_lt (by omega),wrap64_nat _ (by omega),Nat.mul_comm]
 rw [← hz8] at hu8
 rw [← hzc] at huc
 rw [← hz8,← hzc,← hzz] at C
 clear hz8 hzc hzz
 obtain ⟨N,hN⟩ : ∃ N,N = c * 8:=⟨_,rfl⟩
 have hxl:=repeatL_len8 x c hx
 rw [← hN] at hcv hxl ⊢
 have i1 : (N : Int) ≤ 8000:=by omega
 have i2 : (0 : Int) ≤ (N : Int):=by omega
 have n4 : ¬ (8192 : Int) < (N : Int):=by omega
 obtain ⟨cs,hrunM,hle,hmx⟩:=Lib.run_makeNoZero (P:=Tryz.prog) w #[3] 32 5 Tryz.underlying32 N (by omega)
 have hcall : (callFunc 136 #[.int .i64 (N : Int)]).run Tryz.prog w = .ok (.value (.slice (some ⟨w.heap.size,0,none⟩) N cs.size)) (w.drew.drew.alloc (.cells cs 5)):=by
  rw [run_callFunc_extern Tryz.func136 (by kernel_rfl) (by kernel_rfl) (by kernel_rfl) (e:=Extern.BytealgMakeNoZero.makeNoZero #[3] #[32]) (by kernel_rfl),hrunM]
  rfl
 clear hrunM
 have i3 : (N : Int) ≤ (cs.size : Int):=by omega
 obtain ⟨w0,hw0⟩ : ∃ w0,w0 = w.drew.drew.alloc (.cells cs 5):=⟨_,rfl⟩
 have hk0 : Kept w w0:=by rw [hw0];exact Below.alloc (Below.drew (Below.drew (Below.refl _ _))) (Nat.le_refl _) _
 have hB0 : Blk w0 w.heap.size cs.toList.toArray 5:=by rw [hw0];exact Blk.new w.drew.drew cs _
 have hl0 : cs.toList.length = cs.size:=by simp
 rw [← hw0] at hcall
 clear hw0
 obtain ⟨w1,hr1,hB1,hc1⟩:=run_copyB (P:=Tryz.prog) (w:=w0) (dl:=N) (dc:=N) (off:=0) sl_bytes 3 hB0 (hs.kept hk0) (by rw [bcells_length];exact hx) (oneCell_V8 _) (by rw [hl0];omega)
 have hmin : min 8 N = 8:=by omega
 rw [hmin] at hr1 hB1
 have HN:=Lib.hid hN
 have HXL:=Lib.hid hxl
 have HX:=Lib.hid hx
 have HL0:=Lib.hid hl0
 have HLE:=Lib.hid hle
 have HMX:=Lib.hid hmx
 clear hN hxl hx hl0 hmin hle hmx
 go_enter Tryz.func97,Tryz.ntmps97
 go_wp2_with fail
 refine (C _).mono ?_
 rintro e w2 ⟨rfl,rfl⟩
 go_wp2_with fail
 go_loopw [10] (fun i wr=>∃ (M q : Nat) (D : List Value),i = .int .i64 (M : Int) ∧ Hid (M = q * 8 ∧ 1 ≤ q ∧ q ≤ c) ∧ Blk wr w.heap.size D.toArray 5 ∧ Hid (D.length = cs.size) ∧ Hid (D.take M = bcells (Lib.repeatL x q)) ∧ Chg [w.heap.size] w0 wr) (fun i _=>N - (intOf i).toNat)
 case atStart =>
  refine ⟨8,1,_,rfl,Lib.hid ⟨rfl,by omega,hc⟩,hB1,Lib.hid ?_,Lib.hid ?_,hc1⟩
  · have:=HLE.out;have:=HN.out;have:=HX.out
    simp [bcells_length];omega
  · have:=HX.out
    rw [Lib.repeatL_one,List.take_of_length_le (l:=bcells x) (by rw [bcells_length];omega)]
    simp only [List.take_zero,List.nil_append]
    rw [List.take_append_of_le_length (by rw [bcells_length];omega),List.take_of_length_le (by rw [bcells_length];omega)]
 case round =>
  obtain ⟨M,q,D,rfl,hMq,hB,hDl,hDt,hcr⟩:=hrel
  have hMN : M ≤ N:=by have:=hMq.out;have:=HN.out;omega
  by_cases hlt : M < N
  · have m1 : (M : Int) < (N : Int):=by omega
    have m2 : (0 : Int) ≤ (M : Int):=by omega
    have m3 : (M : Int) ≤ (N : Int):=by omega
    go_wp2_with fail
    refine wp_region_chainChg [w.heap.size] [(0,0),(1,0),(2,0),(3,0),(4,0),(5,0),(6,0),(7,1),(8,0),(9,0)] (by kernel_rfl) (by kernel_rfl) ?_
    intro w3 hw3
    repeat
     refine chain_light _ rfl (fun K hK=>?_)
     first
      | (refine qqP (by rfl) ?_;apply Exists.intro;refine ⟨fun w' hw'=>?_,hK _ ?_⟩;(first | (go_simp;done) | (go_simp;rfl)))
      | refine qqN (by rfl) (hK _ ?_)
     clear hK K;simp only [Act.put,qqA,qq0,qq1]
    refine chain_heavy _ rfl (fun K hK=>?_)
    refine qqP (by rfl) ?_
    obtain ⟨k,k1,k2,k3,k4⟩:=Lib.chunk_ok c q c 8 hMq.out.2.1 (by have:=hMq.out;have:=HN.out;omega) (by omega)
    obtain ⟨J,hJ0⟩ : ∃ J,J = k * 8:=⟨_,rfl⟩
    have hk : Hid (1 ≤ k ∧ k ≤ q ∧ q + k ≤ c):=Lib.hid ⟨k1,k2,k3⟩
    have hJ : Hid (J = k * 8 ∧ M + J ≤ N):=Lib.hid ⟨hJ0,by have:=hMq.out;have:=HN.out;omega⟩
    have hmin : min M (N - M) = J:=by have:=hMq.out;have:=HN.out;omega
    have hsl : Sl w3 (.slice (some ⟨w.heap.size,0,none⟩) M N) M (bcells (Lib.repeatL x q)):=Sl.mk (by omega) (by unfold maxLen;omega) (fun j u hj=>by
     rw [Nat.zero_add,(hB.kept hw3).cell j,List.getElem?_toArray]
     have hjl:=(List.getElem?_eq_some_iff.1 hj).1
     rw [bcells_length,Lib.repeatL_length,HX.out,← hMq.out.1] at hjl
     rw [← hDt.out,List.getElem?_take_of_lt hjl] at hj
     exact hj)
    obtain ⟨w4,hr4,hB4,hc4⟩:=run_copyB (P:=Tryz.prog) (w:=w3) (dl:=N - M) (dc:=N - M) (off:=M) sl_bytes 3 (hB.kept hw3) hsl (by rw [bcells_length,Lib.repeatL_length,HX.out,← hMq.out.1]) (oneCell_V8 _) (by rw [hmin,hDl.out];have:=hJ.out;have:=HLE.out;omega)
    rw [hmin] at hr4 hB4
    have i4 : (J : Int) ≤ 8000:=by have:=hJ.out;omega
    have hwr : IntKind.i64.wrap ((M : Int) + (J : Int)) = ((M + J : Nat) : Int):=by have:=hJ.out;rw [IntKind.wrap_i64];omega
    clear k1 k2 k3 k4 hJ0 hmin hsl
    go_wp2
    refine hK _ _ (hc4) ?_
    clear hK K
    try simp only [Act.put,qqA,qq0,qq1]
    repeat
     refine chain_light _ rfl (fun K hK=>?_)
     first
      | (refine qqP (by rfl) ?_;apply Exists.intro;refine ⟨fun w' hw'=>?_,hK _ ?_⟩;(first | (go_simp;done) | (go_simp;rfl)))
      | refine qqN (by rfl) (hK _ ?_)
     clear hK K;simp only [Act.put,qqA,qq0,qq1]
    refine chain_nil ?_
    go_wp2
    refine ⟨⟨M + J,q + k,D.take M ++ (bcells (Lib.repeatL x q)).take J ++ D.drop (M + J),?_,Lib.hid ?_,hB4,Lib.hid ?_,Lib.hid ?_,(hcr.trans (Chg.of_kept hw3)).trans hc4⟩,?_⟩
    · first | rfl | rw [hwr]
    · have:=hMq.out;have:=hk.out;have:=hJ.out;omega
    · have h1:=hDl.out
      have h2:=congrArg List.length hDt.out
      have h3:=hJ.out
      simp only [List.length_append,List.length_take,List.length_drop,bcells_length] at h2 ⊢
      rw [Lib.repeatL_length,HX.out] at h2 ⊢
      have:=hMq.out
      have:=HLE.out
      have:=hk.out
      omega
    · have h1:=hDl.out
      have h2:=hJ.out
      have h3:=hMq.out
      have h4:=hk.out
      rw [List.take_append_of_le_length,List.take_of_length_le]
      · rw [hDt.out,← bcells_append_take,h2.1]
        have:=Lib.step_ok x q k (by omega)
        rw [HX.out] at this
        rw [this]
      · simp only [List.length_append,List.length_take,bcells_length,Lib.repeatL_length,HX.out];omega
      · simp only [List.length_append,List.length_take,bcells_length,Lib.repeatL_length,HX.out,h1];have:=HLE.out;omega
    · have:=hJ.out;have:=hk.out
      simp only [intOf,hwr];omega
  · have : M = N:=by omega
    have m1 : ¬ (M : Int) < (N : Int):=by omega
    have HMN:=Lib.hid this
    clear this
    go_wp2
    go_ret
    have hqc : q = c:=by have:=hMq.out;have:=HN.out;have:=HMN.out;omega
    refine ⟨w.heap.size,rfl,Sl.mk (Nat.le_refl _) (by unfold maxLen;omega) fun j u hj=>?_,Nat.le_refl _,?_⟩
    · rw [Nat.zero_add,hB.cell j]
      have h1:=hDt.out
      rw [hqc] at h1
      have hjl:=(List.getElem?_eq_some_iff.1 hj).1
      rw [bcells_length,HXL.out] at hjl
      rw [← h1,HMN.out,List.getElem?_take_of_lt hjl] at hj
      rw [List.getElem?_toArray]
      exact hj
    · exact (Chg.of_kept hk0).trans hcr |>.kept_new
end Go.Proofs.YtldmebjnklmpfaaGreat
