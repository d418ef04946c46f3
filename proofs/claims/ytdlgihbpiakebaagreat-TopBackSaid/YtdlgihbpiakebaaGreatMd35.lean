import Derived.Test.YtdlgihbpiakebaaGreatMd07
import Derived.Test.YtdlgihbpiakebaaGreatMd21
import Derived.Test.YtdlgihbpiakebaaGreatMd29
import Derived.Test.YtdlgihbpiakebaaGreatMd31
import Derived.IntWalk
set_option maxRecDepth 100000
set_option maxHeartbeats 4000000
namespace Go.Proofs.YtdlgihbpiakebaaGreat
open Go Go.RowKit Tryz
theorem qE6 (n : Int) (w : World) : Calls prog 171 #[.int .i64 n] w fun e w'=>e = .returned (.bool (qDR n)) ∧ w = w':=by
 by_cases h4 : n = 4
 · subst h4;go_enter func171,ntmps171;go_wp2;go_ret;exact ⟨rfl,rfl⟩
 by_cases h8 : n = 8
 · subst h8;go_enter func171,ntmps171;go_wp2;go_ret;exact ⟨rfl,rfl⟩
 by_cases h16 : n = 16
 · subst h16;go_enter func171,ntmps171;go_wp2;go_ret;exact ⟨rfl,rfl⟩
 have e : qDR n = false:=by simp [qDR,h4,h8,h16]
 rw [e]
 have a4 : (n == 4) = false:=by simpa using h4
 have a8 : (n == 8) = false:=by simpa using h8
 have a16 : (n == 16) = false:=by simpa using h16
 clear e h4 h8 h16
 go_enter func171,ntmps171
 go_wp2
 go_ret
 exact ⟨rfl,rfl⟩
theorem qFf (n : Int) (hn : n = 4 ∨ n = 8 ∨ n = 16) (c : BitVec 64) (e : BitVec 32) (h1 h2 : BitVec 64) (w : World) : Calls prog 186 #[.agg #[U c,W e,.int .i64 n,U h1,U h2]] w fun e' w'=>∃ b,e' = .returned (.tuple #[b,.bool true]) ∧ w'.ownsRow w.heap.size 5 1 b 32 (qA1 (qDm ⟨c,e,n,(h1,h2)⟩)) ∧ qA4 w w':=by
 have hR : Blk (w.alloc (.cells #[U c,W e,.int .i64 n,U h1,U h2] 148)) w.heap.size #[U c,W e,.int .i64 n,U h1,U h2] 148:=Blk.new _ _ _
 have hk0 : qA4 w (w.alloc (.cells #[U c,W e,.int .i64 n,U h1,U h2] 148)):=qal _
 have hsl : qDR n = true:=by rcases hn with rfl | rfl | rfl <;> rfl
 have hu : ∀ wx : World,(convert 3 29 (.int .i64 n)).run prog wx = .ok (U (BitVec.ofInt 64 n)) wx:=fun wx=>by
  rw [qAF wx 3 29 _ .u64 _ (by kernel_rfl) underlying29,qDd]
 have q2:=hR.cell 2
 clear hn
 go_enter func186,ntmps186
 go_wp2_with fail
 refine (qE6 _ _).mono ?_
 rintro e' w0 ⟨rfl,rfl⟩
 rw [hsl]
 clear q2
 go_wp2_with fail
 refine qA5 [(0,0),(1,0),(3,0),(4,0),(5,0),(7,0),(8,0),(9,0),(11,0),(12,0),(2,1),(6,1),(10,1),(13,1),(14,1),(15,1),(16,0),(17,0)] (by kernel_rfl) (by kernel_rfl) ?_
 intro w1 hw1
 replace hR:=hR.kept hw1
 repeat
  refine qA0 _ rfl (fun K hK=>?_)
  first
   | (refine qqP (by rfl) ?_;apply Exists.intro;refine ⟨fun w' hw'=>?_,hK _ ?_⟩;(have c:=hR.kept hw';have r0:=c.cell 0;have r1:=c.cell 1;have r2:=c.cell 2;have r3:=c.cell 3;have r4:=c.cell 4;clear c;go_simp;first|done|rfl))
   | refine qqN (by rfl) (hK _ ?_)
  clear hK K;simp only [Act.put,qqB]
 refine qqH _ rfl (by rfl) (fun K hK=>?_)
 go_wp2_with fail
 refine (qAO _ 8 (by omega) (by omega) _).mono ?_
 rintro e w2 ⟨x2,rfl,hown2,hk2⟩
 obtain ⟨a2,c2,he2⟩:=(Sl.of_own hown2).len
 subst he2
 have s2:=Sl.of_own hown2
 clear hown2
 replace hR:=hR.kept hk2
 go_wp2
 refine hK _ _ (hk2) ?_
 clear hK K
 try simp only [Act.put,qqB]
 refine qqH _ rfl (by rfl) (fun K hK=>?_)
 go_wp2_with fail
 refine (qAO _ 4 (by omega) (by omega) _).mono ?_
 rintro e w3 ⟨x3,rfl,hown3,hk3⟩
 obtain ⟨a3,c3,he3⟩:=(Sl.of_own hown3).len
 subst he3
 have s3:=Sl.of_own hown3
 clear hown3
 replace hR:=hR.kept hk3
 replace s2:=s2.kept hk3
 go_wp2
 refine hK _ _ (hk3) ?_
 clear hK K
 try simp only [Act.put,qqB]
 refine qqH _ rfl (by rfl) (fun K hK=>?_)
 go_wp2_with fail
 refine (qAO _ 4 (by omega) (by omega) _).mono ?_
 rintro e w4 ⟨x4,rfl,hown4,hk4⟩
 obtain ⟨a4,c4,he4⟩:=(Sl.of_own hown4).len
 subst he4
 have s4:=Sl.of_own hown4
 clear hown4
 replace hR:=hR.kept hk4
 replace s2:=s2.kept hk4
 replace s3:=s3.kept hk4
 go_wp2
 refine hK _ _ (hk4) ?_
 clear hK K
 try simp only [Act.put,qqB]
 refine qqH _ rfl (by rfl) (fun K hK=>?_)
 go_wp2_with fail
 refine (qBl _ _ _).mono ?_
 rintro e w5 ⟨x5,rfl,hown5,hk5⟩
 obtain ⟨a5,c5,he5⟩:=(Sl.of_own hown5).len
 subst he5
 have s5:=Sl.of_own hown5
 clear hown5
 replace hR:=hR.kept hk5
 replace s2:=s2.kept hk5
 replace s3:=s3.kept hk5
 replace s4:=s4.kept hk5
 go_wp2
 refine hK _ _ (hk5) ?_
 clear hK K
 try simp only [Act.put,qqB]
 refine qqH _ rfl (by rfl) (fun K hK=>?_)
 go_wp2
 refine hK _ _ (qal _) ?_
 clear hK K
 try simp only [Act.put,qqB]
 refine qqH _ rfl (by rfl) (fun K hK=>?_)
 go_wp2_with fail
 refine (qCb _ [qB2 c 8,qB2 (e.setWidth 64) 4,qB2 (BitVec.ofInt 64 n) 4,qAN (h1,h2)] (by simp) (by simp [qAb,qAr]) _ (qBE.lit (us:=[.slice a2 8 c2,.slice a3 4 c3,.slice a4 4 c4,.slice a5 16 c5]) (.cons (by rw [qAb];exact s2) (.cons (by rw [qAb];exact s3) (.cons (by rw [qAb];exact s4) (.cons (by rw [qAr];exact s5) .nil)))) 32 4 rfl (by decide))).mono ?_
 rintro e w6 ⟨x6,rfl,hown6,hk6⟩
 go_wp2
 refine hK _ _ (hk6) ?_
 clear hK K
 try simp only [Act.put,qqB]
 repeat
  refine qA0 _ rfl (fun K hK=>?_)
  first
   | (refine qqP (by rfl) ?_;apply Exists.intro;refine ⟨fun w' hw'=>?_,hK _ ?_⟩;go_simp;first|done|rfl)
   | refine qqN (by rfl) (hK _ ?_)
  clear hK K;simp only [Act.put,qqB]
 refine qA7 ?_
 go_wp2
 go_ret2
 have hfl : [qB2 c 8,qB2 (e.setWidth 64) 4,qB2 (BitVec.ofInt 64 n) 4,qAN (h1,h2)].flatten = qDm ⟨c,e,n,(h1,h2)⟩:=by simp [qDm]
 rw [hfl,qBd] at hown6
 have hk9:=((((hk0.of hw1).of hk2).of hk3).of hk4).of hk5
 refine ⟨x6,rfl,qAg hown6 ?_,(hk9.of (qal _)).of hk6⟩
 have:=hk9.size
 simp
 omega
theorem qHo (vb : Value) (bs : List UInt8) (hl : bs.length ≤ 4000) (w : World) (hb : Sl w vb bs.length (qA1 bs)) (h : bs.length ≠ 32) : Calls prog 142 #[vb] w fun e w'=>e = .returned (.tuple #[Rt.zero.val,.bool false]) ∧ qA4 w w':=by
 have hk1 : qA4 w (w.alloc (.cells #[U 0#64,W 0#32,.int .i64 0,U 0#64,U 0#64] 148)):=qal _
 have hk2 : qA4 w ((w.alloc (.cells #[U 0#64,W 0#32,.int .i64 0,U 0#64,U 0#64] 148)).alloc (.cells #[.int .i64 8,.int .i64 4,.int .i64 4,.int .i64 16] 3)):=hk1.alloc (by simp) _
 have hZ1 : Blk (w.alloc (.cells #[U 0#64,W 0#32,.int .i64 0,U 0#64,U 0#64] 148)) w.heap.size #[U 0#64,W 0#32,.int .i64 0,U 0#64,U 0#64] 148:=Blk.new _ _ _
 have hZ2 : Blk ((w.alloc (.cells #[U 0#64,W 0#32,.int .i64 0,U 0#64,U 0#64] 148)).alloc (.cells #[.int .i64 8,.int .i64 4,.int .i64 4,.int .i64 16] 3)) w.heap.size #[U 0#64,W 0#32,.int .i64 0,U 0#64,U 0#64] 148:=hZ1.alloc _
 have hb2:=hb.kept hk2
 have hsz : Sl ((w.alloc (.cells #[U 0#64,W 0#32,.int .i64 0,U 0#64,U 0#64] 148)).alloc (.cells #[.int .i64 8,.int .i64 4,.int .i64 4,.int .i64 16] 3)) (.slice (some ⟨w.heap.size + 1,0,none⟩) 4 4) ([8,4,4,16] : List Int).length (qBb [8,4,4,16]):=by simpa [qBb] using Sl.lit (w.alloc (.cells #[U 0#64,W 0#32,.int .i64 0,U 0#64,U 0#64] 148)) #[.int .i64 8,.int .i64 4,.int .i64 4,.int .i64 16] 3 4 (by decide)
 go_enter func142,ntmps142
 go_wp2_with fail
 refine (qDn _ _ bs [8,4,4,16] hl (by simp) _ hb2 hsz).mono ?_
 rintro e w3 ⟨hk3,v,rfl,hr⟩
 have hZ:=hZ2.kept hk3
 have hk:=hk2.of hk3
 rw [qEv,if_neg h]
 unfold qOo
 have z0:=hZ.cell 0
 have y0:=hZ.free 0
 have z1:=hZ.cell 1
 have y1:=hZ.free 1
 have z2:=hZ.cell 2
 have y2:=hZ.free 2
 have z3:=hZ.cell 3
 have y3:=hZ.free 3
 have z4:=hZ.cell 4
 have y4:=hZ.free 4
 clear hr hk1 hk2 hk3 hZ1 hZ2 hb2 hb hsz h
 go_wp2
 refine bodyPost_ret (v:=.tuple #[.agg #[U 0#64,W 0#32,.int .i64 0,U 0#64,U 0#64],.bool false]) (by simp [results,results142,go_sem,z0,z1,z2,z3,z4];done) rfl ⟨rfl,?_⟩
 exact ((((hk.setCell qle _).setCell qle _).setCell qle _).setCell qle _).setCell qle _
theorem qGv (vb : Value) (bs : List UInt8) (hl : bs.length ≤ 4000) (w : World) (hb : Sl w vb bs.length (qA1 bs)) (h : bs.length = 32) (hs : qDR (qCy bs).slots = false) : Calls prog 142 #[vb] w fun e w'=>e = .returned (.tuple #[Rt.zero.val,.bool false]) ∧ qA4 w w':=by
 have hk1 : qA4 w (w.alloc (.cells #[U 0#64,W 0#32,.int .i64 0,U 0#64,U 0#64] 148)):=qal _
 have hk2 : qA4 w ((w.alloc (.cells #[U 0#64,W 0#32,.int .i64 0,U 0#64,U 0#64] 148)).alloc (.cells #[.int .i64 8,.int .i64 4,.int .i64 4,.int .i64 16] 3)):=hk1.alloc (by simp) _
 have hZ1 : Blk (w.alloc (.cells #[U 0#64,W 0#32,.int .i64 0,U 0#64,U 0#64] 148)) w.heap.size #[U 0#64,W 0#32,.int .i64 0,U 0#64,U 0#64] 148:=Blk.new _ _ _
 have hZ2 : Blk ((w.alloc (.cells #[U 0#64,W 0#32,.int .i64 0,U 0#64,U 0#64] 148)).alloc (.cells #[.int .i64 8,.int .i64 4,.int .i64 4,.int .i64 16] 3)) w.heap.size #[U 0#64,W 0#32,.int .i64 0,U 0#64,U 0#64] 148:=hZ1.alloc _
 have hb2:=hb.kept hk2
 have hsz : Sl ((w.alloc (.cells #[U 0#64,W 0#32,.int .i64 0,U 0#64,U 0#64] 148)).alloc (.cells #[.int .i64 8,.int .i64 4,.int .i64 4,.int .i64 16] 3)) (.slice (some ⟨w.heap.size + 1,0,none⟩) 4 4) ([8,4,4,16] : List Int).length (qBb [8,4,4,16]):=by simpa [qBb] using Sl.lit (w.alloc (.cells #[U 0#64,W 0#32,.int .i64 0,U 0#64,U 0#64] 148)) #[.int .i64 8,.int .i64 4,.int .i64 4,.int .i64 16] 3 4 (by decide)
 go_enter func142,ntmps142
 go_wp2_with fail
 refine (qDn _ _ bs [8,4,4,16] hl (by simp) _ hb2 hsz).mono ?_
 rintro e w3 ⟨hk3,v,rfl,hr⟩
 have hZ:=hZ2.kept hk3
 have hk:=hk2.of hk3
 rw [qEv,if_pos h]
 unfold qOo
 have hrs:=(hr _ (by rw [qEv,if_pos h])).sl
 have n0 : (bs.take 8).length = 8:=by rw [List.length_take];omega
 have n1 : ((bs.drop 8).take 4).length = 4:=by rw [List.length_take,List.length_drop];omega
 have n2 : ((bs.drop 12).take 4).length = 4:=by rw [List.length_take,List.length_drop];omega
 have n3 : (bs.drop 16).length = 16:=by rw [List.length_drop];omega
 obtain ⟨us,hv,hall⟩:=hrs.all
 obtain ⟨u0,u1,u2,u3,rfl⟩ : ∃ a b c d,us = [a,b,c,d]:=by
  match us,hall.len with
  | [a,b,c,d],_=>exact ⟨a,b,c,d,rfl⟩
 obtain ⟨s0,s1,s2,s3,_⟩:=hall
 obtain ⟨q,qo,qc,rfl,hq1,hq2,_,hqx⟩:=hv.at (by simp)
 have x0:=hqx 0 u0 rfl
 have x1:=hqx 1 u1 rfl
 have x2:=hqx 2 u2 rfl
 have x3:=hqx 3 u3 rfl
 rw [Nat.add_zero] at x0
 obtain ⟨row2,hrow2⟩ : ∃ row2,row2 = (bs.drop 12).take 4:=⟨_,rfl⟩
 have hlt:=qMw ((bs.drop 12).take 4) n2
 have hci : ∀ wx : World,(convert 29 3 (U (qAn row2))).run prog wx = .ok (.int .i64 (qCy bs).slots) wx:=fun wx=>by
  rw [hrow2,U,qAF wx 29 3 _ .i64 _ (by kernel_rfl) underlying3,IntWalk.i64_in _ (by omega)]
  rfl
 rw [← hrow2] at s2 n2
 have hqm : (4 : Int) ≤ (qc : Int):=by simp at hq1;omega
 have z0:=hZ.cell 0
 have y0:=hZ.free 0
 have z1:=hZ.cell 1
 have y1:=hZ.free 1
 have z2:=hZ.cell 2
 have y2:=hZ.free 2
 have z3:=hZ.cell 3
 have y3:=hZ.free 3
 have z4:=hZ.cell 4
 have y4:=hZ.free 4
 have HS:=qh hs
 have N0:=qh n0
 have N1:=qh n1
 have N2:=qh n2
 have N3:=qh n3
 have H:=qh h
 have HR:=qh hrow2
 clear hr hk1 hk2 hk3 hZ1 hZ2 hb2 hb hsz h hs n0 n1 n2 n3 hrs hv hq1 hq2 hqx hlt hrow2
 go_wp2_with fail
 refine (qAP _ _ _ s0 (by rw [N0.out];omega) (by rw [N0.out];omega)).mono ?_
 rintro e w4 ⟨rfl,rfl⟩
 go_wp2_with fail
 refine (qAP _ _ _ s1 (by rw [N1.out];omega) (by rw [N1.out];omega)).mono ?_
 rintro e w4 ⟨rfl,rfl⟩
 go_wp2_with fail
 refine (qAP _ row2 _ s2 (by rw [N2.out];omega) (by rw [N2.out];omega)).mono ?_
 rintro e w4 ⟨rfl,rfl⟩
 go_wp2_with fail
 refine (qCh _ _ _ s3 N3.out).mono ?_
 rintro e w4 ⟨rfl,hk4⟩
 replace hZ:=hZ.kept hk4
 replace hk:=qA4.of hk hk4
 clear x0 x1 x2 x3 s0 s1 s2 s3 hk4 z0 z1 z2 z3 z4 y0 y1 y2 y3 y4
 go_wp2_with fail
 have hP:=Blk.new w4 #[U (qAq (bs.drop 16)).1,U (qAq (bs.drop 16)).2] 115
 replace hZ:=hZ.alloc (.cells #[U (qAq (bs.drop 16)).1,U (qAq (bs.drop 16)).2] 115)
 replace hk:=hk.alloc (by have:=hk.size;omega) (.cells #[U (qAq (bs.drop 16)).1,U (qAq (bs.drop 16)).2] 115)
 generalize w4.alloc (.cells #[U (qAq (bs.drop 16)).1,U (qAq (bs.drop 16)).2] 115) = W5 at *
 have p0:=hP.cell 0
 have p1:=hP.cell 1
 have z0:=hZ.cell 0
 have y0:=hZ.free 0
 have z1:=hZ.cell 1
 have y1:=hZ.free 1
 have z2:=hZ.cell 2
 have y2:=hZ.free 2
 have z3:=hZ.cell 3
 have y3:=hZ.free 3
 have z4:=hZ.cell 4
 have y4:=hZ.free 4
 refine (qE6 _ _).mono ?_
 rintro e w5 ⟨rfl,rfl⟩
 rw [HS.out]
 go_wp2
 refine bodyPost_ret (v:=.tuple #[.agg #[U 0#64,W 0#32,.int .i64 0,U 0#64,U 0#64],.bool false]) (by simp [results,results142,go_sem,z0,z1,z2,z3,z4];done) rfl ⟨rfl,?_⟩
 exact ((((hk.setCell qle _).setCell qle _).setCell qle _).setCell qle _).setCell qle _
theorem qHp (vb : Value) (bs : List UInt8) (hl : bs.length ≤ 4000) (w : World) (hb : Sl w vb bs.length (qA1 bs)) (h : bs.length = 32) (hs : qDR (qCy bs).slots = true) : Calls prog 142 #[vb] w fun e w'=>e = .returned (.tuple #[(qCy bs).val,.bool true]) ∧ qA4 w w':=by
 have hk1 : qA4 w (w.alloc (.cells #[U 0#64,W 0#32,.int .i64 0,U 0#64,U 0#64] 148)):=qal _
 have hk2 : qA4 w ((w.alloc (.cells #[U 0#64,W 0#32,.int .i64 0,U 0#64,U 0#64] 148)).alloc (.cells #[.int .i64 8,.int .i64 4,.int .i64 4,.int .i64 16] 3)):=hk1.alloc (by simp) _
 have hZ1 : Blk (w.alloc (.cells #[U 0#64,W 0#32,.int .i64 0,U 0#64,U 0#64] 148)) w.heap.size #[U 0#64,W 0#32,.int .i64 0,U 0#64,U 0#64] 148:=Blk.new _ _ _
 have hZ2 : Blk ((w.alloc (.cells #[U 0#64,W 0#32,.int .i64 0,U 0#64,U 0#64] 148)).alloc (.cells #[.int .i64 8,.int .i64 4,.int .i64 4,.int .i64 16] 3)) w.heap.size #[U 0#64,W 0#32,.int .i64 0,U 0#64,U 0#64] 148:=hZ1.alloc _
 have hb2:=hb.kept hk2
 have hsz : Sl ((w.alloc (.cells #[U 0#64,W 0#32,.int .i64 0,U 0#64,U 0#64] 148)).alloc (.cells #[.int .i64 8,.int .i64 4,.int .i64 4,.int .i64 16] 3)) (.slice (some ⟨w.heap.size + 1,0,none⟩) 4 4) ([8,4,4,16] : List Int).length (qBb [8,4,4,16]):=by simpa [qBb] using Sl.lit (w.alloc (.cells #[U 0#64,W 0#32,.int .i64 0,U 0#64,U 0#64] 148)) #[.int .i64 8,.int .i64 4,.int .i64 4,.int .i64 16] 3 4 (by decide)
 go_enter func142,ntmps142
 go_wp2_with fail
 refine (qDn _ _ bs [8,4,4,16] hl (by simp) _ hb2 hsz).mono ?_
 rintro e w3 ⟨hk3,v,rfl,hr⟩
 have hZ:=hZ2.kept hk3
 have hk:=hk2.of hk3
 rw [qEv,if_pos h]
 unfold qOo
 have hrs:=(hr _ (by rw [qEv,if_pos h])).sl
 have n0 : (bs.take 8).length = 8:=by rw [List.length_take];omega
 have n1 : ((bs.drop 8).take 4).length = 4:=by rw [List.length_take,List.length_drop];omega
 have n2 : ((bs.drop 12).take 4).length = 4:=by rw [List.length_take,List.length_drop];omega
 have n3 : (bs.drop 16).length = 16:=by rw [List.length_drop];omega
 obtain ⟨us,hv,hall⟩:=hrs.all
 obtain ⟨u0,u1,u2,u3,rfl⟩ : ∃ a b c d,us = [a,b,c,d]:=by
  match us,hall.len with
  | [a,b,c,d],_=>exact ⟨a,b,c,d,rfl⟩
 obtain ⟨s0,s1,s2,s3,_⟩:=hall
 obtain ⟨q,qo,qc,rfl,hq1,hq2,_,hqx⟩:=hv.at (by simp)
 have x0:=hqx 0 u0 rfl
 have x1:=hqx 1 u1 rfl
 have x2:=hqx 2 u2 rfl
 have x3:=hqx 3 u3 rfl
 rw [Nat.add_zero] at x0
 obtain ⟨row2,hrow2⟩ : ∃ row2,row2 = (bs.drop 12).take 4:=⟨_,rfl⟩
 have hlt:=qMw ((bs.drop 12).take 4) n2
 have hci : ∀ wx : World,(convert 29 3 (U (qAn row2))).run prog wx = .ok (.int .i64 (qCy bs).slots) wx:=fun wx=>by
  rw [hrow2,U,qAF wx 29 3 _ .i64 _ (by kernel_rfl) underlying3,IntWalk.i64_in _ (by omega)]
  rfl
 rw [← hrow2] at s2 n2
 have hqm : (4 : Int) ≤ (qc : Int):=by simp at hq1;omega
 have z0:=hZ.cell 0
 have y0:=hZ.free 0
 have z1:=hZ.cell 1
 have y1:=hZ.free 1
 have z2:=hZ.cell 2
 have y2:=hZ.free 2
 have z3:=hZ.cell 3
 have y3:=hZ.free 3
 have z4:=hZ.cell 4
 have y4:=hZ.free 4
 have HS:=qh hs
 have N0:=qh n0
 have N1:=qh n1
 have N2:=qh n2
 have N3:=qh n3
 have H:=qh h
 have HR:=qh hrow2
 clear hr hk1 hk2 hk3 hZ1 hZ2 hb2 hb hsz h hs n0 n1 n2 n3 hrs hv hq1 hq2 hqx hlt hrow2
 go_wp2_with fail
 refine (qAP _ _ _ s0 (by rw [N0.out];omega) (by rw [N0.out];omega)).mono ?_
 rintro e w4 ⟨rfl,rfl⟩
 go_wp2_with fail
 refine (qAP _ _ _ s1 (by rw [N1.out];omega) (by rw [N1.out];omega)).mono ?_
 rintro e w4 ⟨rfl,rfl⟩
 go_wp2_with fail
 refine (qAP _ row2 _ s2 (by rw [N2.out];omega) (by rw [N2.out];omega)).mono ?_
 rintro e w4 ⟨rfl,rfl⟩
 go_wp2_with fail
 refine (qCh _ _ _ s3 N3.out).mono ?_
 rintro e w4 ⟨rfl,hk4⟩
 replace hZ:=hZ.kept hk4
 replace hk:=qA4.of hk hk4
 clear x0 x1 x2 x3 s0 s1 s2 s3 hk4 z0 z1 z2 z3 z4 y0 y1 y2 y3 y4
 go_wp2_with fail
 have hP:=Blk.new w4 #[U (qAq (bs.drop 16)).1,U (qAq (bs.drop 16)).2] 115
 replace hZ:=hZ.alloc (.cells #[U (qAq (bs.drop 16)).1,U (qAq (bs.drop 16)).2] 115)
 replace hk:=hk.alloc (by have:=hk.size;omega) (.cells #[U (qAq (bs.drop 16)).1,U (qAq (bs.drop 16)).2] 115)
 generalize w4.alloc (.cells #[U (qAq (bs.drop 16)).1,U (qAq (bs.drop 16)).2] 115) = W5 at *
 have p0:=hP.cell 0
 have p1:=hP.cell 1
 have z0:=hZ.cell 0
 have y0:=hZ.free 0
 have z1:=hZ.cell 1
 have y1:=hZ.free 1
 have z2:=hZ.cell 2
 have y2:=hZ.free 2
 have z3:=hZ.cell 3
 have y3:=hZ.free 3
 have z4:=hZ.cell 4
 have y4:=hZ.free 4
 refine (qE6 _ _).mono ?_
 rintro e w5 ⟨rfl,rfl⟩
 rw [HS.out]
 go_wp2
 refine bodyPost_ret (v:=.tuple #[.agg #[U (qCy bs).count,W (qCy bs).epoch,.int .i64 ((qCy bs).slots),U (qCy bs).hash.1,U (qCy bs).hash.2],.bool true]) (by simp [qCy,HR.out,results,results142,go_sem,z0,z1,z2,z3,z4];done) rfl ⟨rfl,?_⟩
 exact ((((hk.setCell qle _).setCell qle _).setCell qle _).setCell qle _).setCell qle _

end Go.Proofs.YtdlgihbpiakebaaGreat
