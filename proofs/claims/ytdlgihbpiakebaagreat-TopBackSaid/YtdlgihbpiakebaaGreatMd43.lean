import Derived.Test.YtdlgihbpiakebaaGreatMd06
import Derived.Test.YtdlgihbpiakebaaGreatMd15
import Derived.Test.YtdlgihbpiakebaaGreatMd31
import Derived.Test.YtdlgihbpiakebaaGreatMd36
set_option maxRecDepth 100000
set_option maxHeartbeats 4000000
namespace Go.Proofs.YtdlgihbpiakebaaGreat
open Go Go.RowKit Tryz
theorem qDq (k : Int) (b : Bool) (z : Int) (e q : BitVec 32) (v t1 t2 : BitVec 64) (s : Int) (lo : -9223372036854775808 ≤ s) (hi : s ≤ 9223372036854775807) (h : qAR (⟨k,b,z,e,q,v,(t1,t2)⟩ : Lf) s = true) (w : World) : Calls prog 146 #[.agg #[.int .i64 k,.bool b,.int .i64 z,W e,W q,U v,U t1,U t2],.int .i64 s] w fun e' w'=>∃ x,e' = .returned (.tuple #[x,.bool true]) ∧ w'.ownsRow w.heap.size 5 1 x 32 (qA1 (qDc (⟨k,b,z,e,q,v,(t1,t2)⟩ : Lf))) ∧ qA4 w w':=by
 cases b
 · exact qGw k z e q v t1 t2 s lo hi h w
 · exact qHr k z e q v t1 t2 s lo hi h w
section
open Go.ChangeShapes Go.WideShapes Go.ChangeAt
variable {H : Type} {enc : TypeId × Value → H} {w : World} {base : Nat} {spare : Nat → Bool} {held : Bool} {r : Reach} {b0 : Nat}
end
theorem qIr (va vb : Value) (xs ys : List UInt8) (w : World) (ha : Sl w va xs.length (qA1 xs)) (hb : Sl w vb ys.length (qA1 ys)) : Calls prog 98 #[va,vb] w fun e w'=>e = .returned (.bool (xs == ys)) ∧ w = w':=by
 have c1:=qFd ha
 have c2:=qFd hb
 clear ha hb
 go_enter func98,ntmps98
 go_wp2
 go_ret
 exact ⟨rfl,rfl⟩
theorem qHv (vb : Value) (bs : List UInt8) (s : Int) (hl : bs.length ≤ 4000) (w : World) (hb : Sl w vb bs.length (qA1 bs)) (h : bs.length ≠ 32) : Calls prog 107 #[vb,.int .i64 s] w fun e w'=>e = .returned (.tuple #[Lf.zero.val,.bool false]) ∧ qA4 w w':=by
 have hk1 : qA4 w (w.alloc (.cells #[.int .i64 0,.bool false,.int .i64 0,W 0#32,W 0#32,U 0#64,U 0#64,U 0#64] 117)):=qal _
 have hk2 : qA4 w ((w.alloc (.cells #[.int .i64 0,.bool false,.int .i64 0,W 0#32,W 0#32,U 0#64,U 0#64,U 0#64] 117)).alloc (.cells #[.int .i64 1,.int .i64 1,.int .i64 2,.int .i64 4,.int .i64 8,.int .i64 16] 3)):=hk1.alloc (by simp) _
 have hZ1 : Blk (w.alloc (.cells #[.int .i64 0,.bool false,.int .i64 0,W 0#32,W 0#32,U 0#64,U 0#64,U 0#64] 117)) w.heap.size #[.int .i64 0,.bool false,.int .i64 0,W 0#32,W 0#32,U 0#64,U 0#64,U 0#64] 117:=Blk.new _ _ _
 have hZ2 : Blk ((w.alloc (.cells #[.int .i64 0,.bool false,.int .i64 0,W 0#32,W 0#32,U 0#64,U 0#64,U 0#64] 117)).alloc (.cells #[.int .i64 1,.int .i64 1,.int .i64 2,.int .i64 4,.int .i64 8,.int .i64 16] 3)) w.heap.size #[.int .i64 0,.bool false,.int .i64 0,W 0#32,W 0#32,U 0#64,U 0#64,U 0#64] 117:=hZ1.alloc _
 have hb2:=hb.kept hk2
 have hsz : Sl ((w.alloc (.cells #[.int .i64 0,.bool false,.int .i64 0,W 0#32,W 0#32,U 0#64,U 0#64,U 0#64] 117)).alloc (.cells #[.int .i64 1,.int .i64 1,.int .i64 2,.int .i64 4,.int .i64 8,.int .i64 16] 3)) (.slice (some ⟨w.heap.size + 1,0,none⟩) 6 6) ([1,1,2,4,8,16] : List Int).length (qBb [1,1,2,4,8,16]):=by simpa [qBb] using Sl.lit (w.alloc (.cells #[.int .i64 0,.bool false,.int .i64 0,W 0#32,W 0#32,U 0#64,U 0#64,U 0#64] 117)) #[.int .i64 1,.int .i64 1,.int .i64 2,.int .i64 4,.int .i64 8,.int .i64 16] 3 6 (by decide)
 go_enter func107,ntmps107
 go_wp2_with fail
 refine (qDn _ _ bs [1,1,2,4,8,16] hl (by simp) _ hb2 hsz).mono ?_
 rintro e w3 ⟨hk3,v,rfl,hr⟩
 have hZ:=hZ2.kept hk3
 have hk:=hk2.of hk3
 rw [qEu,if_neg h]
 unfold qOo
 have z0:=hZ.cell 0
 have y0:=hZ.free 0
 have z1:=hZ.cell 1
 have y1:=hZ.free 1
 have z2:=hZ.cell 2
 have y2:=hZ.free 2
 have z3:=hZ.cell 3
 have y3:=hZ.free 3
 have z4:=hZ.cell 4
 have y4:=hZ.free 4
 have z5:=hZ.cell 5
 have y5:=hZ.free 5
 have z6:=hZ.cell 6
 have y6:=hZ.free 6
 have z7:=hZ.cell 7
 have y7:=hZ.free 7
 clear hr hk1 hk2 hk3 hZ1 hZ2 hb2 hb hsz h
 go_wp2
 refine bodyPost_ret (v:=.tuple #[.agg #[.int .i64 0,.bool false,.int .i64 0,W 0#32,W 0#32,U 0#64,U 0#64,U 0#64],.bool false]) (by simp [results,results107,go_sem,z0,z1,z2,z3,z4,z5,z6,z7];done) rfl ⟨rfl,?_⟩
 exact ((((((((hk.setCell qle _).setCell qle _).setCell qle _).setCell qle _).setCell qle _).setCell qle _).setCell qle _).setCell qle _)
set_option maxHeartbeats 16000000 in
theorem qHw (vb : Value) (bs : List UInt8) (s : Int) (lo : -9223372036854775808 ≤ s) (hi : s ≤ 9223372036854775807) (hl : bs.length ≤ 4000) (w : World) (hb : Sl w vb bs.length (qA1 bs)) (h : bs.length = 32) (hq : decide (((qAn (bs.take 1)).toNat : Int) = 1) = true) : Calls prog 107 #[vb,.int .i64 s] w fun e w'=>e = .returned (.tuple #[((qBU bs s).getD Lf.zero).val,.bool (qBU bs s).isSome]) ∧ qA4 w w':=by
 have hk1 : qA4 w (w.alloc (.cells #[.int .i64 0,.bool false,.int .i64 0,W 0#32,W 0#32,U 0#64,U 0#64,U 0#64] 117)):=qal _
 have hk2 : qA4 w ((w.alloc (.cells #[.int .i64 0,.bool false,.int .i64 0,W 0#32,W 0#32,U 0#64,U 0#64,U 0#64] 117)).alloc (.cells #[.int .i64 1,.int .i64 1,.int .i64 2,.int .i64 4,.int .i64 8,.int .i64 16] 3)):=hk1.alloc (by simp) _
 have hZ1 : Blk (w.alloc (.cells #[.int .i64 0,.bool false,.int .i64 0,W 0#32,W 0#32,U 0#64,U 0#64,U 0#64] 117)) w.heap.size #[.int .i64 0,.bool false,.int .i64 0,W 0#32,W 0#32,U 0#64,U 0#64,U 0#64] 117:=Blk.new _ _ _
 have hZ2 : Blk ((w.alloc (.cells #[.int .i64 0,.bool false,.int .i64 0,W 0#32,W 0#32,U 0#64,U 0#64,U 0#64] 117)).alloc (.cells #[.int .i64 1,.int .i64 1,.int .i64 2,.int .i64 4,.int .i64 8,.int .i64 16] 3)) w.heap.size #[.int .i64 0,.bool false,.int .i64 0,W 0#32,W 0#32,U 0#64,U 0#64,U 0#64] 117:=hZ1.alloc _
 have hb2:=hb.kept hk2
 have hsz : Sl ((w.alloc (.cells #[.int .i64 0,.bool false,.int .i64 0,W 0#32,W 0#32,U 0#64,U 0#64,U 0#64] 117)).alloc (.cells #[.int .i64 1,.int .i64 1,.int .i64 2,.int .i64 4,.int .i64 8,.int .i64 16] 3)) (.slice (some ⟨w.heap.size + 1,0,none⟩) 6 6) ([1,1,2,4,8,16] : List Int).length (qBb [1,1,2,4,8,16]):=by simpa [qBb] using Sl.lit (w.alloc (.cells #[.int .i64 0,.bool false,.int .i64 0,W 0#32,W 0#32,U 0#64,U 0#64,U 0#64] 117)) #[.int .i64 1,.int .i64 1,.int .i64 2,.int .i64 4,.int .i64 8,.int .i64 16] 3 6 (by decide)
 go_enter func107,ntmps107
 go_wp2_with fail
 refine (qDn _ _ bs [1,1,2,4,8,16] hl (by simp) _ hb2 hsz).mono ?_
 rintro e w3 ⟨hk3,v,rfl,hr⟩
 have hZ:=hZ2.kept hk3
 have hk:=hk2.of hk3
 rw [qEu,if_pos h]
 unfold qOo
 have hrs:=(hr _ (by rw [qEu,if_pos h])).sl
 have m0 : (bs.take 1).length = 1:=by simp;omega
 have m1 : ((bs.drop 1).take 1).length = 1:=by simp;omega
 have m2 : ((bs.drop 2).take 2).length = 2:=by simp;omega
 have m3 : ((bs.drop 4).take 4).length = 4:=by simp;omega
 have m4 : ((bs.drop 8).take 8).length = 8:=by simp;omega
 have m5 : (bs.drop 16).length = 16:=by simp;omega
 have hof : qFQ bs s = ⟨((qAn (bs.take 1)).toNat : Int),qAn ((bs.drop 1).take 1) == 1#64,((qAn ((bs.drop 2).take 2)).toNat : Int),(qAn ((bs.drop 4).take 4)).setWidth 32,BitVec.ofInt 32 s,qAn ((bs.drop 8).take 8),qAq (bs.drop 16)⟩:=by
  unfold qFQ
  rw [if_pos (by simpa using hq)]
 obtain ⟨r0,e0⟩ : ∃ r,r = bs.take 1:=⟨_,rfl⟩
 obtain ⟨r1,e1⟩ : ∃ r,r = (bs.drop 1).take 1:=⟨_,rfl⟩
 obtain ⟨r2,e2⟩ : ∃ r,r = (bs.drop 2).take 2:=⟨_,rfl⟩
 obtain ⟨r3,e3⟩ : ∃ r,r = (bs.drop 4).take 4:=⟨_,rfl⟩
 obtain ⟨r4,e4⟩ : ∃ r,r = (bs.drop 8).take 8:=⟨_,rfl⟩
 obtain ⟨r5,e5⟩ : ∃ r,r = bs.drop 16:=⟨_,rfl⟩
 rw [← e0,← e1,← e2,← e3,← e4,← e5] at hrs hof
 rw [← e0] at hq
 rw [← e0] at m0
 rw [← e1] at m1
 rw [← e2] at m2
 rw [← e3] at m3
 rw [← e4] at m4
 rw [← e5] at m5
 have L0:=qHl r0 1 m0 (by omega)
 have L2:=qHl r2 2 m2 (by omega)
 have cv0 : ∀ wx : World,(convert 29 3 (U (qAn r0))).run prog wx = .ok (.int .i64 ((qAn r0).toNat : Int)) wx:=fun wx=>by
  rw [U,qAF wx 29 3 _ .i64 _ (by kernel_rfl) underlying3,IntWalk.i64_in _ (by omega)]
 have cv2 : ∀ wx : World,(convert 29 3 (U (qAn r2))).run prog wx = .ok (.int .i64 ((qAn r2).toNat : Int)) wx:=fun wx=>by
  rw [U,qAF wx 29 3 _ .i64 _ (by kernel_rfl) underlying3,IntWalk.i64_in _ (by omega)]
 obtain ⟨k0,ek⟩ : ∃ k : Int,k = ((qAn r0).toNat : Int):=⟨_,rfl⟩
 obtain ⟨z0',ez⟩ : ∃ k : Int,k = ((qAn r2).toNat : Int):=⟨_,rfl⟩
 rw [← ek] at hof hq cv0
 rw [← ez] at hof cv2
 obtain ⟨us,hv,hall⟩:=hrs.all
 obtain ⟨u0,u1,u2,u3,u4,u5,rfl⟩ : ∃ a b c d e f,us = [a,b,c,d,e,f]:=by
  match us,hall.len with
  | [a,b,c,d,e,f],_=>exact ⟨a,b,c,d,e,f,rfl⟩
 obtain ⟨s0,s1,s2,s3,s4,s5,_⟩:=hall
 obtain ⟨q,qo,qc,rfl,hq1,hq2,_,hqx⟩:=hv.at (by simp)
 have x0:=hqx 0 u0 rfl
 have x1:=hqx 1 u1 rfl
 have x2:=hqx 2 u2 rfl
 have x3:=hqx 3 u3 rfl
 have x4:=hqx 4 u4 rfl
 have x5:=hqx 5 u5 rfl
 rw [Nat.add_zero] at x0
 have hqm : (6 : Int) ≤ (qc : Int):=by simp at hq1;omega
 have M0:=qh m0
 have M1:=qh m1
 have M2:=qh m2
 have M3:=qh m3
 have M4:=qh m4
 have M5:=qh m5
 have H:=qh h
 have HOF:=qh hof
 have HQ:=qh hq
 have CV0:=qh cv0
 have CV2:=qh cv2
 have E:=qh (And.intro e0 (And.intro e1 (And.intro e2 (And.intro e3 (And.intro e4 e5)))))
 clear hr hrs hv hqx hq1 hq2 hk1 hk2 hk3 hZ1 hZ2 hb2 hsz h hof hq cv0 cv2 ek ez L0 L2 m0 m1 m2 m3 m4 m5 e0 e1 e2 e3 e4 e5
 go_wp2_with fail
 refine wp_loop_rounds 6 ?_
 rw [rounds_succ]
 go_wp2_with fail
 refine (qAP _ r0 _ (s0.kept ((qal _).alloc (by simp) _)) (by rw [M0.out];omega) (by rw [M0.out];omega)).mono ?_
 rintro e w4 ⟨rfl,rfl⟩
 go_wp2_with fail
 rw [rounds_succ]
 go_wp2_with fail
 refine (qAP _ r1 _ (s1.kept ((qal _).alloc (by simp) _)) (by rw [M1.out];omega) (by rw [M1.out];omega)).mono ?_
 rintro e w4 ⟨rfl,rfl⟩
 go_wp2_with fail
 rw [rounds_succ]
 go_wp2_with fail
 refine (qAP _ r2 _ (s2.kept ((qal _).alloc (by simp) _)) (by rw [M2.out];omega) (by rw [M2.out];omega)).mono ?_
 rintro e w4 ⟨rfl,rfl⟩
 go_wp2_with fail
 rw [rounds_succ]
 go_wp2_with fail
 refine (qAP _ r3 _ (s3.kept ((qal _).alloc (by simp) _)) (by rw [M3.out];omega) (by rw [M3.out];omega)).mono ?_
 rintro e w4 ⟨rfl,rfl⟩
 go_wp2_with fail
 rw [rounds_succ]
 go_wp2_with fail
 refine (qAP _ r4 _ (s4.kept ((qal _).alloc (by simp) _)) (by rw [M4.out];omega) (by rw [M4.out];omega)).mono ?_
 rintro e w4 ⟨rfl,rfl⟩
 go_wp2_with fail
 rw [rounds_succ]
 go_wp2_with fail
 obtain ⟨Z8,h8⟩ : ∃ Z,Z = w3.heap.size:=⟨_,rfl⟩
 have hA : Blk ((w3.alloc (.cells #[.int .i64 0,.bool false,.int .i64 0,W 0#32,W 0#32,U 0#64,U 0#64,U 0#64] 117)).alloc (.cells #[U (qAn r0),U (qAn r1),U (qAn r2),U (qAn r3),U (qAn r4)] 233)) (w3.heap.size + 1) #[U (qAn r0),U (qAn r1),U (qAn r2),U (qAn r3),U (qAn r4)] 233:=by simpa using Blk.new (w3.alloc (.cells #[.int .i64 0,.bool false,.int .i64 0,W 0#32,W 0#32,U 0#64,U 0#64,U 0#64] 117)) #[U (qAn r0),U (qAn r1),U (qAn r2),U (qAn r3),U (qAn r4)] 233
 have hL : Blk ((w3.alloc (.cells #[.int .i64 0,.bool false,.int .i64 0,W 0#32,W 0#32,U 0#64,U 0#64,U 0#64] 117)).alloc (.cells #[U (qAn r0),U (qAn r1),U (qAn r2),U (qAn r3),U (qAn r4)] 233)) w3.heap.size #[.int .i64 0,.bool false,.int .i64 0,W 0#32,W 0#32,U 0#64,U 0#64,U 0#64] 117:=(Blk.new _ _ _).alloc _
 have hk4 : qA4 w3 ((w3.alloc (.cells #[.int .i64 0,.bool false,.int .i64 0,W 0#32,W 0#32,U 0#64,U 0#64,U 0#64] 117)).alloc (.cells #[U (qAn r0),U (qAn r1),U (qAn r2),U (qAn r3),U (qAn r4)] 233)):=(qal _).alloc (by simp) _
 have hz8 : w.heap.size < Z8:=by rw [h8];exact hZ.lt
 replace hZ:=hZ.kept hk4
 replace x5:=hk4.at x5
 have qlt : q < Z8:=by rw [h8];assumption
 have s5b:=s5.low
 rw [← h8] at s5b
 have hbb0:=hb.low
 have hbb : ∀ a c,vb = .slice (some a) bs.length c → 0 < (qA1 bs).length → a.block < Z8:=fun a c h1 h2=>Nat.lt_trans (hbb0 a c h1 h2) hz8
 replace s5:=s5.kept hk4
 replace hb:=(hb.kept hk).kept hk4
 replace hk:=qA4.of hk hk4
 generalize ((w3.alloc (.cells #[.int .i64 0,.bool false,.int .i64 0,W 0#32,W 0#32,U 0#64,U 0#64,U 0#64] 117)).alloc (.cells #[U (qAn r0),U (qAn r1),U (qAn r2),U (qAn r3),U (qAn r4)] 233)) = W5 at *
 rw [← h8] at hA hL
 simp only [← h8]
 clear h8 hk4 s0 s1 s2 s3 s4 x0 x1 x2 x3 x4
 refine qAf [Z8] [(0,0),(1,0),(2,0),(3,0),(4,0),(5,0),(6,0),(7,0),(8,0),(9,0),(10,1),(11,0),(12,1),(13,0),(14,2)] (by kernel_rfl) (by kernel_rfl) ?_
 intro w6 hw6
 replace hA:=hA.kept hw6
 replace hL:=hL.kept hw6
 replace hZ:=hZ.kept hw6
 replace s5:=s5.kept hw6
 replace hb:=hb.kept hw6
 replace x5:=hw6.at x5
 replace hk:=qA4.of hk hw6
 clear hw6
 repeat
  refine qA0 _ rfl (fun K hK=>?_)
  first
   | (refine qqP (by rfl) ?_;apply Exists.intro;refine ⟨fun w' hw'=>?_,hK _ ?_⟩;(have c:=hA.chg hw';have a0:=c.cell 0;have a1:=c.cell 1;have a2:=c.cell 2;have a3:=c.cell 3;have a4:=c.cell 4;clear c;have f0:=CV0.out;have f2:=CV2.out;go_simp;first|done|rfl))
   | refine qqN (by rfl) (hK _ ?_)
  clear hK K;simp only [Act.put,qqB]
 refine qqH _ rfl (by rfl) (fun K hK=>?_)
 have l0:=hL.cell 0
 have l1:=hL.cell 1
 have l2:=hL.cell 2
 have lf0:=hL.free 0
 have lf1:=hL.free 1
 have lf2:=hL.free 2
 go_wp2
 refine hK _ _ (Chg.step (by simp) _) ?_
 clear hK K
 try simp only [Act.put,qqB]
 repeat
  refine qA0 _ rfl (fun K hK=>?_)
  first
   | (refine qqP (by rfl) ?_;apply Exists.intro;refine ⟨fun w' hw'=>?_,hK _ ?_⟩;go_simp;first|done|rfl)
   | refine qqN (by rfl) (hK _ ?_)
  clear hK K;simp only [Act.put,qqB]
 refine qqH _ rfl (by rfl) (fun K hK=>?_)
 go_wp2
 refine hK _ _ (Chg.step (by simp) _) ?_
 clear hK K
 try simp only [Act.put,qqB]
 repeat
  refine qA0 _ rfl (fun K hK=>?_)
  first
   | (refine qqP (by rfl) ?_;apply Exists.intro;refine ⟨fun w' hw'=>?_,hK _ ?_⟩;go_simp;first|done|rfl)
   | refine qqN (by rfl) (hK _ ?_)
  clear hK K;simp only [Act.put,qqB]
 refine qAh _ rfl (fun K hK=>?_)
 refine qqP (by rfl) ?_
 go_wp2
 refine qA7 ?_
 clear l0 l1 l2 lf0 lf1 lf2
 have hbl : Below Z8 w6 (((w6.setCell ⟨Z8,0,none⟩ (.int .i64 k0)).setCell ⟨Z8,1,none⟩ (.bool (qAn r1 == 1#64))).setCell ⟨Z8,2,none⟩ ((.int .i64 z0'))):=(qA9 (qA9 (qA9 (Below.refl _ _) 0 (.int .i64 k0)) 1 (.bool (qAn r1 == 1#64))) 2 ((.int .i64 z0')))
 have hch : Chg [Z8] w6 (((w6.setCell ⟨Z8,0,none⟩ (.int .i64 k0)).setCell ⟨Z8,1,none⟩ (.bool (qAn r1 == 1#64))).setCell ⟨Z8,2,none⟩ ((.int .i64 z0'))):=(qCf (qCf (qCf (Chg.refl _ _) 0 (.int .i64 k0)) 1 (.bool (qAn r1 == 1#64))) 2 ((.int .i64 z0')))
 have hL7 : Blk (((w6.setCell ⟨Z8,0,none⟩ (.int .i64 k0)).setCell ⟨Z8,1,none⟩ (.bool (qAn r1 == 1#64))).setCell ⟨Z8,2,none⟩ ((.int .i64 z0'))) Z8 #[.int .i64 k0,.bool (qAn r1 == 1#64),.int .i64 z0',W 0#32,W 0#32,U 0#64,U 0#64,U 0#64] 117:=by
  have:=(((hL.set 0 (.int .i64 k0)).set 1 (.bool (qAn r1 == 1#64))).set 2 ((.int .i64 z0')))
  simpa using this
 replace hA:=hA.chg hch
 replace hZ:=hZ.below hbl hz8
 replace x5:=qDC hbl x5 qlt
 replace s5:=s5.below hbl s5b
 replace hb:=hb.below hbl hbb
 replace hk:=hk.trans (hbl.mono (by omega))
 clear hL hch hbl
 generalize (((w6.setCell ⟨Z8,0,none⟩ (.int .i64 k0)).setCell ⟨Z8,1,none⟩ (.bool (qAn r1 == 1#64))).setCell ⟨Z8,2,none⟩ ((.int .i64 z0'))) = W7 at *
 have hL:=hL7
 clear hL7
 have q1 : (k0 == 1) = true:=by have:=HQ.out;simpa using this
 have l0:=hL.cell 0
 have l4:=hL.cell 4
 have lf4:=hL.free 4
 have cvs:=fun wx=>qFa (P:=prog) wx 3 94 s (by kernel_rfl) underlying94
 go_wp2_with fail
 clear q1 l0 l4 lf4 cvs
 have hbl : Below Z8 W7 (W7.setCell ⟨Z8,4,none⟩ (W (BitVec.ofInt 32 s))):=(qA9 (Below.refl _ _) 4 (W (BitVec.ofInt 32 s)))
 have hch : Chg [Z8] W7 (W7.setCell ⟨Z8,4,none⟩ (W (BitVec.ofInt 32 s))):=(qCf (Chg.refl _ _) 4 (W (BitVec.ofInt 32 s)))
 have hL7 : Blk (W7.setCell ⟨Z8,4,none⟩ (W (BitVec.ofInt 32 s))) Z8 #[.int .i64 k0,.bool (qAn r1 == 1#64),.int .i64 z0',W 0#32,W (BitVec.ofInt 32 s),U 0#64,U 0#64,U 0#64] 117:=by
  have:=(hL.set 4 (W (BitVec.ofInt 32 s)))
  simpa using this
 replace hA:=hA.chg hch
 replace hZ:=hZ.below hbl hz8
 replace x5:=qDC hbl x5 qlt
 replace s5:=s5.below hbl s5b
 replace hb:=hb.below hbl hbb
 replace hk:=hk.trans (hbl.mono (by omega))
 clear hL hch hbl
 generalize (W7.setCell ⟨Z8,4,none⟩ (W (BitVec.ofInt 32 s))) = W8 at *
 have hL:=hL7
 clear hL7
 refine qAf [Z8] [(0,0),(1,0),(2,0),(3,0),(4,0),(5,0),(6,0),(7,1),(8,0),(9,0),(10,1)] (by kernel_rfl) (by kernel_rfl) ?_
 intro w6 hw6
 replace hA:=hA.kept hw6
 replace hL:=hL.kept hw6
 replace hZ:=hZ.kept hw6
 replace s5:=s5.kept hw6
 replace hb:=hb.kept hw6
 replace x5:=hw6.at x5
 replace hk:=qA4.of hk hw6
 clear hw6
 repeat
  refine qA0 _ rfl (fun K hK=>?_)
  first
   | (refine qqP (by rfl) ?_;apply Exists.intro;refine ⟨fun w' hw'=>?_,hK _ ?_⟩;(have c:=hA.chg hw';have a3:=c.cell 3;have a4:=c.cell 4;clear c;go_simp;first|done|rfl))
   | refine qqN (by rfl) (hK _ ?_)
  clear hK K;simp only [Act.put,qqB]
 refine qqH _ rfl (by rfl) (fun K hK=>?_)
 have l3:=hL.cell 3
 have l5:=hL.cell 5
 have lf3:=hL.free 3
 have lf5:=hL.free 5
 go_wp2
 refine hK _ _ (Chg.step (by simp) _) ?_
 clear hK K
 try simp only [Act.put,qqB]
 repeat
  refine qA0 _ rfl (fun K hK=>?_)
  first
   | (refine qqP (by rfl) ?_;apply Exists.intro;refine ⟨fun w' hw'=>?_,hK _ ?_⟩;go_simp;first|done|rfl)
   | refine qqN (by rfl) (hK _ ?_)
  clear hK K;simp only [Act.put,qqB]
 refine qqH _ rfl (by rfl) (fun K hK=>?_)
 go_wp2
 refine hK _ _ (Chg.step (by simp) _) ?_
 clear hK K
 try simp only [Act.put,qqB]
 refine qA7 ?_
 clear l3 l5 lf3 lf5
 have hbl : Below Z8 w6 ((w6.setCell ⟨Z8,3,none⟩ (W (BitVec.setWidth 32 (qAn r3)))).setCell ⟨Z8,5,none⟩ (U (qAn r4))):=(qA9 (qA9 (Below.refl _ _) 3 (W (BitVec.setWidth 32 (qAn r3)))) 5 (U (qAn r4)))
 have hch : Chg [Z8] w6 ((w6.setCell ⟨Z8,3,none⟩ (W (BitVec.setWidth 32 (qAn r3)))).setCell ⟨Z8,5,none⟩ (U (qAn r4))):=(qCf (qCf (Chg.refl _ _) 3 (W (BitVec.setWidth 32 (qAn r3)))) 5 (U (qAn r4)))
 have hL7 : Blk ((w6.setCell ⟨Z8,3,none⟩ (W (BitVec.setWidth 32 (qAn r3)))).setCell ⟨Z8,5,none⟩ (U (qAn r4))) Z8 #[.int .i64 k0,.bool (qAn r1 == 1#64),.int .i64 z0',W (BitVec.setWidth 32 (qAn r3)),W (BitVec.ofInt 32 s),U (qAn r4),U 0#64,U 0#64] 117:=by
  have:=((hL.set 3 (W (BitVec.setWidth 32 (qAn r3)))).set 5 (U (qAn r4)))
  simpa using this
 replace hA:=hA.chg hch
 replace hZ:=hZ.below hbl hz8
 replace x5:=qDC hbl x5 qlt
 replace s5:=s5.below hbl s5b
 replace hb:=hb.below hbl hbb
 replace hk:=hk.trans (hbl.mono (by omega))
 clear hL hch hbl
 generalize ((w6.setCell ⟨Z8,3,none⟩ (W (BitVec.setWidth 32 (qAn r3)))).setCell ⟨Z8,5,none⟩ (U (qAn r4))) = W9 at *
 have hL:=hL7
 clear hL7
 go_wp2_with fail
 refine (qCh _ r5 _ s5 M5.out).mono ?_
 rintro e w6 ⟨rfl,hw6⟩
 replace hL:=hL.kept hw6
 replace hZ:=hZ.kept hw6
 replace hb:=hb.kept hw6
 replace hk:=qA4.of hk hw6
 clear hw6 x5 s5 hA
 have l6:=hL.cell 6
 have l7:=hL.cell 7
 have lf6:=hL.free 6
 have lf7:=hL.free 7
 have l0:=hL.cell 0
 have l1:=hL.cell 1
 have l2:=hL.cell 2
 have l3:=hL.cell 3
 have l4:=hL.cell 4
 have l5:=hL.cell 5
 go_wp2_with fail
 clear l0 l1 l2 l3 l4 l5 l6 l7 lf6 lf7
 have hbl : Below Z8 w6 ((w6.setCell ⟨Z8,6,none⟩ (U (qAq r5).1)).setCell ⟨Z8,7,none⟩ (U (qAq r5).2)):=(qA9 (qA9 (Below.refl _ _) 6 (U (qAq r5).1)) 7 (U (qAq r5).2))
 have hL7 : Blk ((w6.setCell ⟨Z8,6,none⟩ (U (qAq r5).1)).setCell ⟨Z8,7,none⟩ (U (qAq r5).2)) Z8 #[.int .i64 k0,.bool (qAn r1 == 1#64),.int .i64 z0',W (BitVec.setWidth 32 (qAn r3)),W (BitVec.ofInt 32 s),U (qAn r4),U (qAq r5).1,U (qAq r5).2] 117:=by
  have:=((hL.set 6 (U (qAq r5).1)).set 7 (U (qAq r5).2))
  simpa using this
 replace hZ:=hZ.below hbl hz8
 replace hb:=hb.below hbl hbb
 replace hk:=hk.trans (hbl.mono (by omega))
 clear hL hbl
 generalize ((w6.setCell ⟨Z8,6,none⟩ (U (qAq r5).1)).setCell ⟨Z8,7,none⟩ (U (qAq r5).2)) = WC at *
 have hL:=hL7
 clear hL7
 obtain ⟨lf,hlf⟩ : ∃ l,l = qDc (⟨k0,qAn r1 == 1#64,z0',BitVec.setWidth 32 (qAn r3),BitVec.ofInt 32 s,qAn r4,((qAq r5).1,(qAq r5).2)⟩ : Lf):=⟨_,rfl⟩
 cases hI : qAR (⟨k0,qAn r1 == 1#64,z0',BitVec.setWidth 32 (qAn r3),BitVec.ofInt 32 s,qAn r4,((qAq r5).1,(qAq r5).2)⟩ : Lf) s
 · have hG : qBU bs s = none:=by
    unfold qBU
    rw [if_neg (fun hh=>by have:=hh.2.1;rw [HOF.out] at this;rw [hI] at this;cases this)]
   refine (qEx _ _ _ _ _ _ _ _ s lo hi hI _).mono ?_
   rintro e w7 ⟨rfl,hk7⟩
   replace hL:=hL.kept hk7
   replace hZ:=hZ.kept hk7
   replace hb:=hb.kept hk7
   replace hk:=qA4.of hk hk7
   have z0:=hZ.cell 0
   have y0:=hZ.free 0
   have z1:=hZ.cell 1
   have y1:=hZ.free 1
   have z2:=hZ.cell 2
   have y2:=hZ.free 2
   have z3:=hZ.cell 3
   have y3:=hZ.free 3
   have z4:=hZ.cell 4
   have y4:=hZ.free 4
   have z5:=hZ.cell 5
   have y5:=hZ.free 5
   have z6:=hZ.cell 6
   have y6:=hZ.free 6
   have z7:=hZ.cell 7
   have y7:=hZ.free 7
   have HI:=qh hI
   have HG:=qh hG
   clear hk7 hL hb hlf hI hG
   go_wp2
   refine bodyPost_ret (v:=.tuple #[.agg #[.int .i64 0,.bool false,.int .i64 0,W 0#32,W 0#32,U 0#64,U 0#64,U 0#64],.bool false]) (by simp [results,results107,go_sem,z0,z1,z2,z3,z4,z5,z6,z7];done) rfl ⟨by rw [HG.out];rfl,?_⟩
   exact ((((((((hk.setCell qle _).setCell qle _).setCell qle _).setCell qle _).setCell qle _).setCell qle _).setCell qle _).setCell qle _)
 · refine (qDq _ _ _ _ _ _ _ _ s lo hi hI _).mono ?_
   rintro e w7 ⟨x7,rfl,hown7,hk7⟩
   have sx:=Sl.of_own hown7
   rw [← hlf] at sx
   have sxl : lf.length = 32:=by rw [hlf];exact qBp _
   rw [← sxl] at sx
   clear sxl
   replace hL:=hL.kept hk7
   replace hZ:=hZ.kept hk7
   replace hb:=hb.kept hk7
   replace hk:=qA4.of hk hk7
   have HI:=qh hI
   have HLF:=qh hlf
   clear hown7 hk7 hI hlf
   go_wp2_with fail
   refine (qIr _ _ lf bs _ sx hb).mono ?_
   rintro e w8 ⟨rfl,rfl⟩
   clear sx
   cases hE : (lf == bs)
   · have hG : qBU bs s = none:=by
      unfold qBU
      rw [if_neg (fun hh=>by
       have:=hh.2.2
       rw [HOF.out] at this
       rw [HLF.out,this] at hE
       simp at hE)]
     have HG:=qh hG
     clear hE hG hL hb
     have z0:=hZ.cell 0
     have y0:=hZ.free 0
     have z1:=hZ.cell 1
     have y1:=hZ.free 1
     have z2:=hZ.cell 2
     have y2:=hZ.free 2
     have z3:=hZ.cell 3
     have y3:=hZ.free 3
     have z4:=hZ.cell 4
     have y4:=hZ.free 4
     have z5:=hZ.cell 5
     have y5:=hZ.free 5
     have z6:=hZ.cell 6
     have y6:=hZ.free 6
     have z7:=hZ.cell 7
     have y7:=hZ.free 7
     go_wp2
     refine bodyPost_ret (v:=.tuple #[.agg #[.int .i64 0,.bool false,.int .i64 0,W 0#32,W 0#32,U 0#64,U 0#64,U 0#64],.bool false]) (by simp [results,results107,go_sem,z0,z1,z2,z3,z4,z5,z6,z7];done) rfl ⟨by rw [HG.out];rfl,?_⟩
     exact ((((((((hk.setCell qle _).setCell qle _).setCell qle _).setCell qle _).setCell qle _).setCell qle _).setCell qle _).setCell qle _)
   · have hG : qBU bs s = some (⟨k0,qAn r1 == 1#64,z0',BitVec.setWidth 32 (qAn r3),BitVec.ofInt 32 s,qAn r4,((qAq r5).1,(qAq r5).2)⟩ : Lf):=by
      unfold qBU
      have e1 : qDc (⟨k0,qAn r1 == 1#64,z0',BitVec.setWidth 32 (qAn r3),BitVec.ofInt 32 s,qAn r4,((qAq r5).1,(qAq r5).2)⟩ : Lf) = bs:=by rw [← HLF.out];simpa using hE
      rw [if_pos ⟨H.out,by rw [HOF.out];exact HI.out,by rw [HOF.out];exact e1⟩,HOF.out]
     have HG:=qh hG
     clear hE hG hb
     have z0:=hZ.cell 0
     have y0:=hZ.free 0
     have z1:=hZ.cell 1
     have y1:=hZ.free 1
     have z2:=hZ.cell 2
     have y2:=hZ.free 2
     have z3:=hZ.cell 3
     have y3:=hZ.free 3
     have z4:=hZ.cell 4
     have y4:=hZ.free 4
     have z5:=hZ.cell 5
     have y5:=hZ.free 5
     have z6:=hZ.cell 6
     have y6:=hZ.free 6
     have z7:=hZ.cell 7
     have y7:=hZ.free 7
     have l0:=hL.cell 0
     have l1:=hL.cell 1
     have l2:=hL.cell 2
     have l3:=hL.cell 3
     have l4:=hL.cell 4
     have l5:=hL.cell 5
     have l6:=hL.cell 6
     have l7:=hL.cell 7
     go_wp2
     refine bodyPost_ret (v:=.tuple #[.agg #[.int .i64 k0,.bool (qAn r1 == 1#64),.int .i64 z0',W (BitVec.setWidth 32 (qAn r3)),W (BitVec.ofInt 32 s),U (qAn r4),U (qAq r5).1,U (qAq r5).2],.bool true]) (by simp [results,results107,go_sem,z0,z1,z2,z3,z4,z5,z6,z7];done) rfl ⟨by rw [HG.out];rfl,?_⟩
     exact ((((((((hk.setCell qle _).setCell qle _).setCell qle _).setCell qle _).setCell qle _).setCell qle _).setCell qle _).setCell qle _)
set_option maxHeartbeats 16000000 in
theorem qGx (vb : Value) (bs : List UInt8) (s : Int) (lo : -9223372036854775808 ≤ s) (hi : s ≤ 9223372036854775807) (hl : bs.length ≤ 4000) (w : World) (hb : Sl w vb bs.length (qA1 bs)) (h : bs.length = 32) (hq : decide (((qAn (bs.take 1)).toNat : Int) = 1) = false) : Calls prog 107 #[vb,.int .i64 s] w fun e w'=>e = .returned (.tuple #[((qBU bs s).getD Lf.zero).val,.bool (qBU bs s).isSome]) ∧ qA4 w w':=by
 have hk1 : qA4 w (w.alloc (.cells #[.int .i64 0,.bool false,.int .i64 0,W 0#32,W 0#32,U 0#64,U 0#64,U 0#64] 117)):=qal _
 have hk2 : qA4 w ((w.alloc (.cells #[.int .i64 0,.bool false,.int .i64 0,W 0#32,W 0#32,U 0#64,U 0#64,U 0#64] 117)).alloc (.cells #[.int .i64 1,.int .i64 1,.int .i64 2,.int .i64 4,.int .i64 8,.int .i64 16] 3)):=hk1.alloc (by simp) _
 have hZ1 : Blk (w.alloc (.cells #[.int .i64 0,.bool false,.int .i64 0,W 0#32,W 0#32,U 0#64,U 0#64,U 0#64] 117)) w.heap.size #[.int .i64 0,.bool false,.int .i64 0,W 0#32,W 0#32,U 0#64,U 0#64,U 0#64] 117:=Blk.new _ _ _
 have hZ2 : Blk ((w.alloc (.cells #[.int .i64 0,.bool false,.int .i64 0,W 0#32,W 0#32,U 0#64,U 0#64,U 0#64] 117)).alloc (.cells #[.int .i64 1,.int .i64 1,.int .i64 2,.int .i64 4,.int .i64 8,.int .i64 16] 3)) w.heap.size #[.int .i64 0,.bool false,.int .i64 0,W 0#32,W 0#32,U 0#64,U 0#64,U 0#64] 117:=hZ1.alloc _
 have hb2:=hb.kept hk2
 have hsz : Sl ((w.alloc (.cells #[.int .i64 0,.bool false,.int .i64 0,W 0#32,W 0#32,U 0#64,U 0#64,U 0#64] 117)).alloc (.cells #[.int .i64 1,.int .i64 1,.int .i64 2,.int .i64 4,.int .i64 8,.int .i64 16] 3)) (.slice (some ⟨w.heap.size + 1,0,none⟩) 6 6) ([1,1,2,4,8,16] : List Int).length (qBb [1,1,2,4,8,16]):=by simpa [qBb] using Sl.lit (w.alloc (.cells #[.int .i64 0,.bool false,.int .i64 0,W 0#32,W 0#32,U 0#64,U 0#64,U 0#64] 117)) #[.int .i64 1,.int .i64 1,.int .i64 2,.int .i64 4,.int .i64 8,.int .i64 16] 3 6 (by decide)
 go_enter func107,ntmps107
 go_wp2_with fail
 refine (qDn _ _ bs [1,1,2,4,8,16] hl (by simp) _ hb2 hsz).mono ?_
 rintro e w3 ⟨hk3,v,rfl,hr⟩
 have hZ:=hZ2.kept hk3
 have hk:=hk2.of hk3
 rw [qEu,if_pos h]
 unfold qOo
 have hrs:=(hr _ (by rw [qEu,if_pos h])).sl
 have m0 : (bs.take 1).length = 1:=by simp;omega
 have m1 : ((bs.drop 1).take 1).length = 1:=by simp;omega
 have m2 : ((bs.drop 2).take 2).length = 2:=by simp;omega
 have m3 : ((bs.drop 4).take 4).length = 4:=by simp;omega
 have m4 : ((bs.drop 8).take 8).length = 8:=by simp;omega
 have m5 : (bs.drop 16).length = 16:=by simp;omega
 have hof : qFQ bs s = ⟨((qAn (bs.take 1)).toNat : Int),qAn ((bs.drop 1).take 1) == 1#64,((qAn ((bs.drop 2).take 2)).toNat : Int),(qAn ((bs.drop 4).take 4)).setWidth 32,0#32,qAn ((bs.drop 8).take 8),qAq (bs.drop 16)⟩:=by
  unfold qFQ
  rw [if_neg (by simpa using hq)]
 obtain ⟨r0,e0⟩ : ∃ r,r = bs.take 1:=⟨_,rfl⟩
 obtain ⟨r1,e1⟩ : ∃ r,r = (bs.drop 1).take 1:=⟨_,rfl⟩
 obtain ⟨r2,e2⟩ : ∃ r,r = (bs.drop 2).take 2:=⟨_,rfl⟩
 obtain ⟨r3,e3⟩ : ∃ r,r = (bs.drop 4).take 4:=⟨_,rfl⟩
 obtain ⟨r4,e4⟩ : ∃ r,r = (bs.drop 8).take 8:=⟨_,rfl⟩
 obtain ⟨r5,e5⟩ : ∃ r,r = bs.drop 16:=⟨_,rfl⟩
 rw [← e0,← e1,← e2,← e3,← e4,← e5] at hrs hof
 rw [← e0] at hq
 rw [← e0] at m0
 rw [← e1] at m1
 rw [← e2] at m2
 rw [← e3] at m3
 rw [← e4] at m4
 rw [← e5] at m5
 have L0:=qHl r0 1 m0 (by omega)
 have L2:=qHl r2 2 m2 (by omega)
 have cv0 : ∀ wx : World,(convert 29 3 (U (qAn r0))).run prog wx = .ok (.int .i64 ((qAn r0).toNat : Int)) wx:=fun wx=>by
  rw [U,qAF wx 29 3 _ .i64 _ (by kernel_rfl) underlying3,IntWalk.i64_in _ (by omega)]
 have cv2 : ∀ wx : World,(convert 29 3 (U (qAn r2))).run prog wx = .ok (.int .i64 ((qAn r2).toNat : Int)) wx:=fun wx=>by
  rw [U,qAF wx 29 3 _ .i64 _ (by kernel_rfl) underlying3,IntWalk.i64_in _ (by omega)]
 obtain ⟨k0,ek⟩ : ∃ k : Int,k = ((qAn r0).toNat : Int):=⟨_,rfl⟩
 obtain ⟨z0',ez⟩ : ∃ k : Int,k = ((qAn r2).toNat : Int):=⟨_,rfl⟩
 rw [← ek] at hof hq cv0
 rw [← ez] at hof cv2
 obtain ⟨us,hv,hall⟩:=hrs.all
 obtain ⟨u0,u1,u2,u3,u4,u5,rfl⟩ : ∃ a b c d e f,us = [a,b,c,d,e,f]:=by
  match us,hall.len with
  | [a,b,c,d,e,f],_=>exact ⟨a,b,c,d,e,f,rfl⟩
 obtain ⟨s0,s1,s2,s3,s4,s5,_⟩:=hall
 obtain ⟨q,qo,qc,rfl,hq1,hq2,_,hqx⟩:=hv.at (by simp)
 have x0:=hqx 0 u0 rfl
 have x1:=hqx 1 u1 rfl
 have x2:=hqx 2 u2 rfl
 have x3:=hqx 3 u3 rfl
 have x4:=hqx 4 u4 rfl
 have x5:=hqx 5 u5 rfl
 rw [Nat.add_zero] at x0
 have hqm : (6 : Int) ≤ (qc : Int):=by simp at hq1;omega
 have M0:=qh m0
 have M1:=qh m1
 have M2:=qh m2
 have M3:=qh m3
 have M4:=qh m4
 have M5:=qh m5
 have H:=qh h
 have HOF:=qh hof
 have HQ:=qh hq
 have CV0:=qh cv0
 have CV2:=qh cv2
 have E:=qh (And.intro e0 (And.intro e1 (And.intro e2 (And.intro e3 (And.intro e4 e5)))))
 clear hr hrs hv hqx hq1 hq2 hk1 hk2 hk3 hZ1 hZ2 hb2 hsz h hof hq cv0 cv2 ek ez L0 L2 m0 m1 m2 m3 m4 m5 e0 e1 e2 e3 e4 e5
 go_wp2_with fail
 refine wp_loop_rounds 6 ?_
 rw [rounds_succ]
 go_wp2_with fail
 refine (qAP _ r0 _ (s0.kept ((qal _).alloc (by simp) _)) (by rw [M0.out];omega) (by rw [M0.out];omega)).mono ?_
 rintro e w4 ⟨rfl,rfl⟩
 go_wp2_with fail
 rw [rounds_succ]
 go_wp2_with fail
 refine (qAP _ r1 _ (s1.kept ((qal _).alloc (by simp) _)) (by rw [M1.out];omega) (by rw [M1.out];omega)).mono ?_
 rintro e w4 ⟨rfl,rfl⟩
 go_wp2_with fail
 rw [rounds_succ]
 go_wp2_with fail
 refine (qAP _ r2 _ (s2.kept ((qal _).alloc (by simp) _)) (by rw [M2.out];omega) (by rw [M2.out];omega)).mono ?_
 rintro e w4 ⟨rfl,rfl⟩
 go_wp2_with fail
 rw [rounds_succ]
 go_wp2_with fail
 refine (qAP _ r3 _ (s3.kept ((qal _).alloc (by simp) _)) (by rw [M3.out];omega) (by rw [M3.out];omega)).mono ?_
 rintro e w4 ⟨rfl,rfl⟩
 go_wp2_with fail
 rw [rounds_succ]
 go_wp2_with fail
 refine (qAP _ r4 _ (s4.kept ((qal _).alloc (by simp) _)) (by rw [M4.out];omega) (by rw [M4.out];omega)).mono ?_
 rintro e w4 ⟨rfl,rfl⟩
 go_wp2_with fail
 rw [rounds_succ]
 go_wp2_with fail
 obtain ⟨Z8,h8⟩ : ∃ Z,Z = w3.heap.size:=⟨_,rfl⟩
 have hA : Blk ((w3.alloc (.cells #[.int .i64 0,.bool false,.int .i64 0,W 0#32,W 0#32,U 0#64,U 0#64,U 0#64] 117)).alloc (.cells #[U (qAn r0),U (qAn r1),U (qAn r2),U (qAn r3),U (qAn r4)] 233)) (w3.heap.size + 1) #[U (qAn r0),U (qAn r1),U (qAn r2),U (qAn r3),U (qAn r4)] 233:=by simpa using Blk.new (w3.alloc (.cells #[.int .i64 0,.bool false,.int .i64 0,W 0#32,W 0#32,U 0#64,U 0#64,U 0#64] 117)) #[U (qAn r0),U (qAn r1),U (qAn r2),U (qAn r3),U (qAn r4)] 233
 have hL : Blk ((w3.alloc (.cells #[.int .i64 0,.bool false,.int .i64 0,W 0#32,W 0#32,U 0#64,U 0#64,U 0#64] 117)).alloc (.cells #[U (qAn r0),U (qAn r1),U (qAn r2),U (qAn r3),U (qAn r4)] 233)) w3.heap.size #[.int .i64 0,.bool false,.int .i64 0,W 0#32,W 0#32,U 0#64,U 0#64,U 0#64] 117:=(Blk.new _ _ _).alloc _
 have hk4 : qA4 w3 ((w3.alloc (.cells #[.int .i64 0,.bool false,.int .i64 0,W 0#32,W 0#32,U 0#64,U 0#64,U 0#64] 117)).alloc (.cells #[U (qAn r0),U (qAn r1),U (qAn r2),U (qAn r3),U (qAn r4)] 233)):=(qal _).alloc (by simp) _
 have hz8 : w.heap.size < Z8:=by rw [h8];exact hZ.lt
 replace hZ:=hZ.kept hk4
 replace x5:=hk4.at x5
 have qlt : q < Z8:=by rw [h8];assumption
 have s5b:=s5.low
 rw [← h8] at s5b
 have hbb0:=hb.low
 have hbb : ∀ a c,vb = .slice (some a) bs.length c → 0 < (qA1 bs).length → a.block < Z8:=fun a c h1 h2=>Nat.lt_trans (hbb0 a c h1 h2) hz8
 replace s5:=s5.kept hk4
 replace hb:=(hb.kept hk).kept hk4
 replace hk:=qA4.of hk hk4
 generalize ((w3.alloc (.cells #[.int .i64 0,.bool false,.int .i64 0,W 0#32,W 0#32,U 0#64,U 0#64,U 0#64] 117)).alloc (.cells #[U (qAn r0),U (qAn r1),U (qAn r2),U (qAn r3),U (qAn r4)] 233)) = W5 at *
 rw [← h8] at hA hL
 simp only [← h8]
 clear h8 hk4 s0 s1 s2 s3 s4 x0 x1 x2 x3 x4
 refine qAf [Z8] [(0,0),(1,0),(2,0),(3,0),(4,0),(5,0),(6,0),(7,0),(8,0),(9,0),(10,1),(11,0),(12,1),(13,0),(14,2)] (by kernel_rfl) (by kernel_rfl) ?_
 intro w6 hw6
 replace hA:=hA.kept hw6
 replace hL:=hL.kept hw6
 replace hZ:=hZ.kept hw6
 replace s5:=s5.kept hw6
 replace hb:=hb.kept hw6
 replace x5:=hw6.at x5
 replace hk:=qA4.of hk hw6
 clear hw6
 repeat
  refine qA0 _ rfl (fun K hK=>?_)
  first
   | (refine qqP (by rfl) ?_;apply Exists.intro;refine ⟨fun w' hw'=>?_,hK _ ?_⟩;(have c:=hA.chg hw';have a0:=c.cell 0;have a1:=c.cell 1;have a2:=c.cell 2;have a3:=c.cell 3;have a4:=c.cell 4;clear c;have f0:=CV0.out;have f2:=CV2.out;go_simp;first|done|rfl))
   | refine qqN (by rfl) (hK _ ?_)
  clear hK K;simp only [Act.put,qqB]
 refine qqH _ rfl (by rfl) (fun K hK=>?_)
 have l0:=hL.cell 0
 have l1:=hL.cell 1
 have l2:=hL.cell 2
 have lf0:=hL.free 0
 have lf1:=hL.free 1
 have lf2:=hL.free 2
 go_wp2
 refine hK _ _ (Chg.step (by simp) _) ?_
 clear hK K
 try simp only [Act.put,qqB]
 repeat
  refine qA0 _ rfl (fun K hK=>?_)
  first
   | (refine qqP (by rfl) ?_;apply Exists.intro;refine ⟨fun w' hw'=>?_,hK _ ?_⟩;go_simp;first|done|rfl)
   | refine qqN (by rfl) (hK _ ?_)
  clear hK K;simp only [Act.put,qqB]
 refine qqH _ rfl (by rfl) (fun K hK=>?_)
 go_wp2
 refine hK _ _ (Chg.step (by simp) _) ?_
 clear hK K
 try simp only [Act.put,qqB]
 repeat
  refine qA0 _ rfl (fun K hK=>?_)
  first
   | (refine qqP (by rfl) ?_;apply Exists.intro;refine ⟨fun w' hw'=>?_,hK _ ?_⟩;go_simp;first|done|rfl)
   | refine qqN (by rfl) (hK _ ?_)
  clear hK K;simp only [Act.put,qqB]
 refine qAh _ rfl (fun K hK=>?_)
 refine qqP (by rfl) ?_
 go_wp2
 refine qA7 ?_
 clear l0 l1 l2 lf0 lf1 lf2
 have hbl : Below Z8 w6 (((w6.setCell ⟨Z8,0,none⟩ (.int .i64 k0)).setCell ⟨Z8,1,none⟩ (.bool (qAn r1 == 1#64))).setCell ⟨Z8,2,none⟩ ((.int .i64 z0'))):=(qA9 (qA9 (qA9 (Below.refl _ _) 0 (.int .i64 k0)) 1 (.bool (qAn r1 == 1#64))) 2 ((.int .i64 z0')))
 have hch : Chg [Z8] w6 (((w6.setCell ⟨Z8,0,none⟩ (.int .i64 k0)).setCell ⟨Z8,1,none⟩ (.bool (qAn r1 == 1#64))).setCell ⟨Z8,2,none⟩ ((.int .i64 z0'))):=(qCf (qCf (qCf (Chg.refl _ _) 0 (.int .i64 k0)) 1 (.bool (qAn r1 == 1#64))) 2 ((.int .i64 z0')))
 have hL7 : Blk (((w6.setCell ⟨Z8,0,none⟩ (.int .i64 k0)).setCell ⟨Z8,1,none⟩ (.bool (qAn r1 == 1#64))).setCell ⟨Z8,2,none⟩ ((.int .i64 z0'))) Z8 #[.int .i64 k0,.bool (qAn r1 == 1#64),.int .i64 z0',W 0#32,W 0#32,U 0#64,U 0#64,U 0#64] 117:=by
  have:=(((hL.set 0 (.int .i64 k0)).set 1 (.bool (qAn r1 == 1#64))).set 2 ((.int .i64 z0')))
  simpa using this
 replace hA:=hA.chg hch
 replace hZ:=hZ.below hbl hz8
 replace x5:=qDC hbl x5 qlt
 replace s5:=s5.below hbl s5b
 replace hb:=hb.below hbl hbb
 replace hk:=hk.trans (hbl.mono (by omega))
 clear hL hch hbl
 generalize (((w6.setCell ⟨Z8,0,none⟩ (.int .i64 k0)).setCell ⟨Z8,1,none⟩ (.bool (qAn r1 == 1#64))).setCell ⟨Z8,2,none⟩ ((.int .i64 z0'))) = W7 at *
 have hL:=hL7
 clear hL7
 have q1 : (k0 == 1) = false:=by have:=HQ.out;simpa using this
 have l0:=hL.cell 0
 have l4:=hL.cell 4
 have lf4:=hL.free 4
 have cvs:=fun wx=>qFa (P:=prog) wx 3 94 s (by kernel_rfl) underlying94
 go_wp2_with fail
 clear q1 l0 l4 lf4 cvs
 refine qAf [Z8] [(0,0),(1,0),(2,0),(3,0),(4,0),(5,0),(6,0),(7,1),(8,0),(9,0),(10,1)] (by kernel_rfl) (by kernel_rfl) ?_
 intro w6 hw6
 replace hA:=hA.kept hw6
 replace hL:=hL.kept hw6
 replace hZ:=hZ.kept hw6
 replace s5:=s5.kept hw6
 replace hb:=hb.kept hw6
 replace x5:=hw6.at x5
 replace hk:=qA4.of hk hw6
 clear hw6
 repeat
  refine qA0 _ rfl (fun K hK=>?_)
  first
   | (refine qqP (by rfl) ?_;apply Exists.intro;refine ⟨fun w' hw'=>?_,hK _ ?_⟩;(have c:=hA.chg hw';have a3:=c.cell 3;have a4:=c.cell 4;clear c;go_simp;first|done|rfl))
   | refine qqN (by rfl) (hK _ ?_)
  clear hK K;simp only [Act.put,qqB]
 refine qqH _ rfl (by rfl) (fun K hK=>?_)
 have l3:=hL.cell 3
 have l5:=hL.cell 5
 have lf3:=hL.free 3
 have lf5:=hL.free 5
 go_wp2
 refine hK _ _ (Chg.step (by simp) _) ?_
 clear hK K
 try simp only [Act.put,qqB]
 repeat
  refine qA0 _ rfl (fun K hK=>?_)
  first
   | (refine qqP (by rfl) ?_;apply Exists.intro;refine ⟨fun w' hw'=>?_,hK _ ?_⟩;go_simp;first|done|rfl)
   | refine qqN (by rfl) (hK _ ?_)
  clear hK K;simp only [Act.put,qqB]
 refine qqH _ rfl (by rfl) (fun K hK=>?_)
 go_wp2
 refine hK _ _ (Chg.step (by simp) _) ?_
 clear hK K
 try simp only [Act.put,qqB]
 refine qA7 ?_
 clear l3 l5 lf3 lf5
 have hbl : Below Z8 w6 ((w6.setCell ⟨Z8,3,none⟩ (W (BitVec.setWidth 32 (qAn r3)))).setCell ⟨Z8,5,none⟩ (U (qAn r4))):=(qA9 (qA9 (Below.refl _ _) 3 (W (BitVec.setWidth 32 (qAn r3)))) 5 (U (qAn r4)))
 have hch : Chg [Z8] w6 ((w6.setCell ⟨Z8,3,none⟩ (W (BitVec.setWidth 32 (qAn r3)))).setCell ⟨Z8,5,none⟩ (U (qAn r4))):=(qCf (qCf (Chg.refl _ _) 3 (W (BitVec.setWidth 32 (qAn r3)))) 5 (U (qAn r4)))
 have hL7 : Blk ((w6.setCell ⟨Z8,3,none⟩ (W (BitVec.setWidth 32 (qAn r3)))).setCell ⟨Z8,5,none⟩ (U (qAn r4))) Z8 #[.int .i64 k0,.bool (qAn r1 == 1#64),.int .i64 z0',W (BitVec.setWidth 32 (qAn r3)),W (0#32),U (qAn r4),U 0#64,U 0#64] 117:=by
  have:=((hL.set 3 (W (BitVec.setWidth 32 (qAn r3)))).set 5 (U (qAn r4)))
  simpa using this
 replace hA:=hA.chg hch
 replace hZ:=hZ.below hbl hz8
 replace x5:=qDC hbl x5 qlt
 replace s5:=s5.below hbl s5b
 replace hb:=hb.below hbl hbb
 replace hk:=hk.trans (hbl.mono (by omega))
 clear hL hch hbl
 generalize ((w6.setCell ⟨Z8,3,none⟩ (W (BitVec.setWidth 32 (qAn r3)))).setCell ⟨Z8,5,none⟩ (U (qAn r4))) = W9 at *
 have hL:=hL7
 clear hL7
 go_wp2_with fail
 refine (qCh _ r5 _ s5 M5.out).mono ?_
 rintro e w6 ⟨rfl,hw6⟩
 replace hL:=hL.kept hw6
 replace hZ:=hZ.kept hw6
 replace hb:=hb.kept hw6
 replace hk:=qA4.of hk hw6
 clear hw6 x5 s5 hA
 have l6:=hL.cell 6
 have l7:=hL.cell 7
 have lf6:=hL.free 6
 have lf7:=hL.free 7
 have l0:=hL.cell 0
 have l1:=hL.cell 1
 have l2:=hL.cell 2
 have l3:=hL.cell 3
 have l4:=hL.cell 4
 have l5:=hL.cell 5
 go_wp2_with fail
 clear l0 l1 l2 l3 l4 l5 l6 l7 lf6 lf7
 have hbl : Below Z8 w6 ((w6.setCell ⟨Z8,6,none⟩ (U (qAq r5).1)).setCell ⟨Z8,7,none⟩ (U (qAq r5).2)):=(qA9 (qA9 (Below.refl _ _) 6 (U (qAq r5).1)) 7 (U (qAq r5).2))
 have hL7 : Blk ((w6.setCell ⟨Z8,6,none⟩ (U (qAq r5).1)).setCell ⟨Z8,7,none⟩ (U (qAq r5).2)) Z8 #[.int .i64 k0,.bool (qAn r1 == 1#64),.int .i64 z0',W (BitVec.setWidth 32 (qAn r3)),W (0#32),U (qAn r4),U (qAq r5).1,U (qAq r5).2] 117:=by
  have:=((hL.set 6 (U (qAq r5).1)).set 7 (U (qAq r5).2))
  simpa using this
 replace hZ:=hZ.below hbl hz8
 replace hb:=hb.below hbl hbb
 replace hk:=hk.trans (hbl.mono (by omega))
 clear hL hbl
 generalize ((w6.setCell ⟨Z8,6,none⟩ (U (qAq r5).1)).setCell ⟨Z8,7,none⟩ (U (qAq r5).2)) = WC at *
 have hL:=hL7
 clear hL7
 obtain ⟨lf,hlf⟩ : ∃ l,l = qDc (⟨k0,qAn r1 == 1#64,z0',BitVec.setWidth 32 (qAn r3),0#32,qAn r4,((qAq r5).1,(qAq r5).2)⟩ : Lf):=⟨_,rfl⟩
 cases hI : qAR (⟨k0,qAn r1 == 1#64,z0',BitVec.setWidth 32 (qAn r3),0#32,qAn r4,((qAq r5).1,(qAq r5).2)⟩ : Lf) s
 · have hG : qBU bs s = none:=by
    unfold qBU
    rw [if_neg (fun hh=>by have:=hh.2.1;rw [HOF.out] at this;rw [hI] at this;cases this)]
   refine (qEx _ _ _ _ _ _ _ _ s lo hi hI _).mono ?_
   rintro e w7 ⟨rfl,hk7⟩
   replace hL:=hL.kept hk7
   replace hZ:=hZ.kept hk7
   replace hb:=hb.kept hk7
   replace hk:=qA4.of hk hk7
   have z0:=hZ.cell 0
   have y0:=hZ.free 0
   have z1:=hZ.cell 1
   have y1:=hZ.free 1
   have z2:=hZ.cell 2
   have y2:=hZ.free 2
   have z3:=hZ.cell 3
   have y3:=hZ.free 3
   have z4:=hZ.cell 4
   have y4:=hZ.free 4
   have z5:=hZ.cell 5
   have y5:=hZ.free 5
   have z6:=hZ.cell 6
   have y6:=hZ.free 6
   have z7:=hZ.cell 7
   have y7:=hZ.free 7
   have HI:=qh hI
   have HG:=qh hG
   clear hk7 hL hb hlf hI hG
   go_wp2
   refine bodyPost_ret (v:=.tuple #[.agg #[.int .i64 0,.bool false,.int .i64 0,W 0#32,W 0#32,U 0#64,U 0#64,U 0#64],.bool false]) (by simp [results,results107,go_sem,z0,z1,z2,z3,z4,z5,z6,z7];done) rfl ⟨by rw [HG.out];rfl,?_⟩
   exact ((((((((hk.setCell qle _).setCell qle _).setCell qle _).setCell qle _).setCell qle _).setCell qle _).setCell qle _).setCell qle _)
 · refine (qDq _ _ _ _ _ _ _ _ s lo hi hI _).mono ?_
   rintro e w7 ⟨x7,rfl,hown7,hk7⟩
   have sx:=Sl.of_own hown7
   rw [← hlf] at sx
   have sxl : lf.length = 32:=by rw [hlf];exact qBp _
   rw [← sxl] at sx
   clear sxl
   replace hL:=hL.kept hk7
   replace hZ:=hZ.kept hk7
   replace hb:=hb.kept hk7
   replace hk:=qA4.of hk hk7
   have HI:=qh hI
   have HLF:=qh hlf
   clear hown7 hk7 hI hlf
   go_wp2_with fail
   refine (qIr _ _ lf bs _ sx hb).mono ?_
   rintro e w8 ⟨rfl,rfl⟩
   clear sx
   cases hE : (lf == bs)
   · have hG : qBU bs s = none:=by
      unfold qBU
      rw [if_neg (fun hh=>by
       have:=hh.2.2
       rw [HOF.out] at this
       rw [HLF.out,this] at hE
       simp at hE)]
     have HG:=qh hG
     clear hE hG hL hb
     have z0:=hZ.cell 0
     have y0:=hZ.free 0
     have z1:=hZ.cell 1
     have y1:=hZ.free 1
     have z2:=hZ.cell 2
     have y2:=hZ.free 2
     have z3:=hZ.cell 3
     have y3:=hZ.free 3
     have z4:=hZ.cell 4
     have y4:=hZ.free 4
     have z5:=hZ.cell 5
     have y5:=hZ.free 5
     have z6:=hZ.cell 6
     have y6:=hZ.free 6
     have z7:=hZ.cell 7
     have y7:=hZ.free 7
     go_wp2
     refine bodyPost_ret (v:=.tuple #[.agg #[.int .i64 0,.bool false,.int .i64 0,W 0#32,W 0#32,U 0#64,U 0#64,U 0#64],.bool false]) (by simp [results,results107,go_sem,z0,z1,z2,z3,z4,z5,z6,z7];done) rfl ⟨by rw [HG.out];rfl,?_⟩
     exact ((((((((hk.setCell qle _).setCell qle _).setCell qle _).setCell qle _).setCell qle _).setCell qle _).setCell qle _).setCell qle _)
   · have hG : qBU bs s = some (⟨k0,qAn r1 == 1#64,z0',BitVec.setWidth 32 (qAn r3),0#32,qAn r4,((qAq r5).1,(qAq r5).2)⟩ : Lf):=by
      unfold qBU
      have e1 : qDc (⟨k0,qAn r1 == 1#64,z0',BitVec.setWidth 32 (qAn r3),0#32,qAn r4,((qAq r5).1,(qAq r5).2)⟩ : Lf) = bs:=by rw [← HLF.out];simpa using hE
      rw [if_pos ⟨H.out,by rw [HOF.out];exact HI.out,by rw [HOF.out];exact e1⟩,HOF.out]
     have HG:=qh hG
     clear hE hG hb
     have z0:=hZ.cell 0
     have y0:=hZ.free 0
     have z1:=hZ.cell 1
     have y1:=hZ.free 1
     have z2:=hZ.cell 2
     have y2:=hZ.free 2
     have z3:=hZ.cell 3
     have y3:=hZ.free 3
     have z4:=hZ.cell 4
     have y4:=hZ.free 4
     have z5:=hZ.cell 5
     have y5:=hZ.free 5
     have z6:=hZ.cell 6
     have y6:=hZ.free 6
     have z7:=hZ.cell 7
     have y7:=hZ.free 7
     have l0:=hL.cell 0
     have l1:=hL.cell 1
     have l2:=hL.cell 2
     have l3:=hL.cell 3
     have l4:=hL.cell 4
     have l5:=hL.cell 5
     have l6:=hL.cell 6
     have l7:=hL.cell 7
     go_wp2
     refine bodyPost_ret (v:=.tuple #[.agg #[.int .i64 k0,.bool (qAn r1 == 1#64),.int .i64 z0',W (BitVec.setWidth 32 (qAn r3)),W (0#32),U (qAn r4),U (qAq r5).1,U (qAq r5).2],.bool true]) (by simp [results,results107,go_sem,z0,z1,z2,z3,z4,z5,z6,z7];done) rfl ⟨by rw [HG.out];rfl,?_⟩
     exact ((((((((hk.setCell qle _).setCell qle _).setCell qle _).setCell qle _).setCell qle _).setCell qle _).setCell qle _).setCell qle _)
theorem qIs (vb : Value) (bs : List UInt8) (s : Int) (lo : -9223372036854775808 ≤ s) (hi : s ≤ 9223372036854775807) (hl : bs.length ≤ 4000) (w : World) (hb : Sl w vb bs.length (qA1 bs)) : Calls prog 107 #[vb,.int .i64 s] w fun e w'=>e = .returned (.tuple #[((qBU bs s).getD Lf.zero).val,.bool (qBU bs s).isSome]) ∧ qA4 w w':=by
 by_cases h : bs.length = 32
 · cases hq : decide (((qAn (bs.take 1)).toNat : Int) = 1)
   · exact qGx vb bs s lo hi hl w hb h hq
   · exact qHw vb bs s lo hi hl w hb h hq
 · have hG : qBU bs s = none:=by unfold qBU;rw [if_neg (fun hh=>h hh.1)]
   rw [hG]
   exact qHv vb bs s hl w hb h
theorem qIt (vb : Value) (bs : List UInt8) (hl : bs.length ≤ 4000) (w : World) (hb : Sl w vb bs.length (qA1 bs)) : Calls prog 142 #[vb] w fun e w'=>e = .returned (.tuple #[((qLb bs).getD Rt.zero).val,.bool (qLb bs).isSome]) ∧ qA4 w w':=by
 unfold qLb
 by_cases h : bs.length = 32
 · cases hs : qDR (qCy bs).slots
   · rw [if_neg (by simp)];exact qGv vb bs hl w hb h hs
   · rw [if_pos ⟨h,rfl⟩];exact qHp vb bs hl w hb h hs
 · rw [if_neg (fun k=>h k.1)];exact qHo vb bs hl w hb h
section
open Go.ChangeShapes Go.WideShapes Go.ChangeAt
variable {H : Type} {enc : TypeId × Value → H} {w : World} {base : Nat} {spare : Nat → Bool} {held : Bool} {r : Reach} {b0 : Nat}
end
end Go.Proofs.YtdlgihbpiakebaaGreat
