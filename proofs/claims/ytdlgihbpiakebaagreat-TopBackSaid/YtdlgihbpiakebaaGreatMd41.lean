import Derived.Test.YtdlgihbpiakebaaGreatMd04
import Derived.Test.YtdlgihbpiakebaaGreatMd15
import Derived.Test.YtdlgihbpiakebaaGreatMd37
import Derived.Test.YtdlgihbpiakebaaGreatMd38
import Derived.Test.YtdlgihbpiakebaaGreatMd40
set_option maxRecDepth 100000
set_option maxHeartbeats 4000000
namespace Go.Proofs.YtdlgihbpiakebaaGreat
open Go Go.RowKit Tryz
theorem qJD (vh vb : Value) (h b : Nat) (ch cb : List Value) (w : World) (hh : Sl w vh h ch) (hb : Sl w vb b cb) : Calls prog 86 #[vh,vb] w fun e w'=>e = .returned (.bool (decide (h ≤ 4000) && decide (b ≤ 4000))) ∧ w = w':=by
 obtain ⟨ha,hc,hv⟩:=hh.len
 subst hv
 obtain ⟨ba,bc,hv⟩:=hb.len
 subst hv
 have i0:=hh.le
 have i1:=hb.le
 unfold maxLen at i0 i1
 clear hh hb
 by_cases h1 : h ≤ 4000
 · have j1 : (h : Int) ≤ 4000:=by omega
   have e1 : decide ((h : Int) ≤ 4000) = true:=decide_eq_true (by omega)
   by_cases h2 : b ≤ 4000
   · have j2 : decide ((b : Int) ≤ 4000) = true:=decide_eq_true (by omega)
     rw [decide_eq_true h1,decide_eq_true h2]
     clear h1 h2 i0 i1
     go_enter func86,ntmps86
     go_wp2
     go_ret
     exact ⟨rfl,rfl⟩
   · have j2 : decide ((b : Int) ≤ 4000) = false:=decide_eq_false (by omega)
     rw [decide_eq_true h1,decide_eq_false h2]
     clear h1 h2 i0 i1
     go_enter func86,ntmps86
     go_wp2
     go_ret
     exact ⟨rfl,rfl⟩
 · have j1 : decide ((h : Int) ≤ 4000) = false:=decide_eq_false (by omega)
   rw [decide_eq_false h1]
   clear h1 i0 i1
   go_enter func86,ntmps86
   go_wp2
   go_ret
   exact ⟨rfl,rfl⟩
theorem qOA (k1 k2 : BitVec 64) (n : Nn) (vh vd : Value) (head data : List UInt8) (hl : head.length ≤ 4000) (dl : data.length ≤ 4000) (w : World) (hh : Sl w vh head.length (qA1 head)) (hd : Sl w vd data.length (qA1 data)) :
 Calls prog 58 #[.agg #[U k1,U k2],n.val,vh,vd] w fun e w'=>∃ u,e = .returned (.tuple #[.agg #[u,U (qE1 (k1,k2) n head data).1,U (qE1 (k1,k2) n head data).2],.bool true]) ∧ w'.ownsRow w.heap.size 5 1 u data.length (qA1 (qGF (k1,k2) n data)) ∧ qA4 w w':=by
 obtain ⟨ha,hc,hv⟩:=hh.len
 subst hv
 obtain ⟨da,dc,hv⟩:=hd.len
 subst hv
 obtain ⟨H,hH⟩ : ∃ H,H = head.length:=⟨_,rfl⟩
 obtain ⟨D,hD⟩ : ∃ D,D = data.length:=⟨_,rfl⟩
 have hh1 : Sl w (.slice ha H hc) head.length (qA1 head):=by rw [hH];exact hh
 have hd1 : Sl w (.slice da D dc) data.length (qA1 data):=by rw [hD];exact hd
 rw [← hH] at hl ⊢
 rw [← hD] at dl ⊢
 have HH:=qh hH
 have HD:=qh hD
 clear hh hd hH hD
 have i0 : (H : Int) ≤ 4000:=by omega
 have i1 : (D : Int) ≤ 4000:=by omega
 unfold Nn.val
 have hk0 : qA4 w (((w.alloc (.cells #[U k1,U k2] 115)).alloc (.cells #[W n.epoch,W n.slot,U n.version] 113)).alloc (.cells #[.slice none 0 0,U 0#64,U 0#64] 165)):=((qal _).alloc (by simp) _).alloc (by simp;omega) _
 have hK : Blk (((w.alloc (.cells #[U k1,U k2] 115)).alloc (.cells #[W n.epoch,W n.slot,U n.version] 113)).alloc (.cells #[.slice none 0 0,U 0#64,U 0#64] 165)) w.heap.size #[U k1,U k2] 115:=((Blk.new _ _ _).alloc _).alloc _
 have hN : Blk (((w.alloc (.cells #[U k1,U k2] 115)).alloc (.cells #[W n.epoch,W n.slot,U n.version] 113)).alloc (.cells #[.slice none 0 0,U 0#64,U 0#64] 165)) (w.heap.size + 1) #[W n.epoch,W n.slot,U n.version] 113:=Blk.alloc (by simpa using Blk.new (w.alloc (.cells #[U k1,U k2] 115)) #[W n.epoch,W n.slot,U n.version] 113) _
 have hR : Blk (((w.alloc (.cells #[U k1,U k2] 115)).alloc (.cells #[W n.epoch,W n.slot,U n.version] 113)).alloc (.cells #[.slice none 0 0,U 0#64,U 0#64] 165)) (w.heap.size + 2) #[.slice none 0 0,U 0#64,U 0#64] 165:=by simpa using Blk.new ((w.alloc (.cells #[U k1,U k2] 115)).alloc (.cells #[W n.epoch,W n.slot,U n.version] 113)) #[.slice none 0 0,U 0#64,U 0#64] 165
 have q0:=hK.cell 0
 have q1:=hK.cell 1
 have n0:=hN.cell 0
 have n1:=hN.cell 1
 have n2:=hN.cell 2
 go_enter func58,ntmps58
 go_wp2_with fail
 have z0 : w.heap.size + 3 ≤ (((w.alloc (.cells #[U k1,U k2] 115)).alloc (.cells #[W n.epoch,W n.slot,U n.version] 113)).alloc (.cells #[.slice none 0 0,U 0#64,U 0#64] 165)).heap.size:=by simp
 generalize (((w.alloc (.cells #[U k1,U k2] 115)).alloc (.cells #[W n.epoch,W n.slot,U n.version] 113)).alloc (.cells #[.slice none 0 0,U 0#64,U 0#64] 165)) = w0 at *
 refine (qJD _ _ H D _ _ _ (by rw [HH.out];rw [HH.out] at hh1;exact hh1.kept hk0) (by rw [HD.out];rw [HD.out] at hd1;exact hd1.kept hk0)).mono ?_
 rintro e w1 ⟨rfl,rfl⟩
 rw [decide_eq_true hl,decide_eq_true dl]
 go_wp2_with fail
 refine (qJl _ _ n _).mono ?_
 rintro e w2 ⟨rfl,hk2⟩
 obtain ⟨s,hs⟩ : ∃ s,s = qNL (k1,k2) n:=⟨_,rfl⟩
 rw [← hs]
 have HS:=qh hs
 have hS:=Blk.new w2 #[U s.1,U s.2] 115
 have hk3 : qA4 w0 (w2.alloc (.cells #[U s.1,U s.2] 115)):=qA4.of hk2 (qal _)
 replace hR:=hR.kept hk3
 replace hk0:=qA4.of hk0 hk3
 replace z0:=Nat.le_trans z0 hk3.size
 have s0:=hS.cell 0
 have s1:=hS.cell 1
 clear q0 q1 n0 n1 n2 hs hk2 hk3 hK hN
 go_wp2_with fail
 generalize w2.alloc (.cells #[U s.1,U s.2] 115) = w3 at *
 refine (qFN _ _ D dl _).mono ?_
 rintro e w4 ⟨r4,rfl,o4,hk4⟩
 have sl4 : Sl w4 r4 (qDQ (s.1,s.2) D).length (qA1 (qDQ (s.1,s.2) D)):=by rw [qBD];exact Sl.of_own o4
 replace hR:=hR.kept hk4
 replace hS:=hS.kept hk4
 replace hk0:=qA4.of hk0 hk4
 replace z0:=Nat.le_trans z0 hk4.size
 clear s0 s1 hk4 o4
 go_wp2_with fail
 refine (qMH _ _ data (qDQ (s.1,s.2) D) (by rw [← HD.out];exact dl) (by rw [qBD];exact dl) _ (hd1.kept hk0) sl4).mono ?_
 rintro e w5 ⟨r5,rfl,o5,hk5⟩
 have hcl : (qFq data (qDQ (s.1,s.2) D)) = qGF (k1,k2) n data:=by
  unfold qGF;rw [← HS.out,HD.out]
 have hln : (qFq data (qDQ (s.1,s.2) D)).length = D:=by rw [hcl,qBy,HD.out]
 rw [hcl] at o5
 rw [hcl] at hln
 obtain ⟨C,hC⟩ : ∃ C,C = qGF (k1,k2) n data:=⟨_,rfl⟩
 rw [← hC] at o5 hln
 have o5' : w5.ownsRow w4.heap.size 5 1 r5 D (qA1 C):=by rw [← hln];simpa using o5
 have hw4 : w.heap.size ≤ w4.heap.size:=hk0.size
 have HC:=qh hC
 have HLN:=qh hln
 replace hR:=hR.kept hk5
 replace hS:=hS.kept hk5
 replace hk0:=qA4.of hk0 hk5
 obtain ⟨ra,rc,he⟩:=(Sl.of_own o5').len
 subst he
 clear hk5 o5 sl4 hC hcl hln
 have s0:=hS.cell 0
 have s1:=hS.cell 1
 go_wp2_with fail
 refine (qJB _ _ _ _ head C (by rw [← HH.out];exact hl) (by rw [HLN.out];exact dl) _ (hh1.kept hk0) (by rw [HLN.out];exact Sl.of_own o5')).mono ?_
 rintro e w6 ⟨rfl,hk6⟩
 replace hR:=hR.kept hk6
 replace hk0:=qA4.of hk0 hk6
 have o6:=qA3 o5' hk6
 have htt : qLT (s.1,s.2) head C = qE1 (k1,k2) n head data:=by
  unfold qE1;rw [← HC.out,← HS.out]
 rw [htt]
 have r0:=hR.cell 0
 have r1:=hR.cell 1
 have r2:=hR.cell 2
 have rf0:=hR.free 0
 have rf1:=hR.free 1
 have rf2:=hR.free 2
 clear s0 s1 hk6 htt o5' hS
 go_wp2
 refine bodyPost_ret (v:=.tuple #[.agg #[.slice ra D rc,U (qE1 (k1,k2) n head data).1,U (qE1 (k1,k2) n head data).2],.bool true]) (by simp [results,results58,go_sem,r0,r1,r2];done) rfl ⟨_,rfl,?_,?_⟩
 · rw [← HC.out]
   have o7:=qAg o6 (show w.heap.size + 3 ≤ w4.heap.size from z0)
   refine qAg ?_ (show w.heap.size ≤ w.heap.size + 3 by omega)
   exact qHY o7 (((qBk.refl _ _).trans (qBk.setCell (a:=⟨w.heap.size + 2,0,none⟩) (show w.heap.size + 2 < w.heap.size + 3 by omega) _)).trans (qBk.setCell (a:=⟨w.heap.size + 2,1,none⟩) (show w.heap.size + 2 < w.heap.size + 3 by omega) _) |>.trans (qBk.setCell (a:=⟨w.heap.size + 2,2,none⟩) (show w.heap.size + 2 < w.heap.size + 3 by omega) _))
 · exact ((hk0.setCell (by show _ ≤ w.heap.size + 2;omega) _).setCell (by show _ ≤ w.heap.size + 2;omega) _).setCell (by show _ ≤ w.heap.size + 2;omega) _
theorem qOB (k1 k2 : BitVec 64) (n : Nn) (vh vd : Value) (head data : List UInt8) (t1 t2 : BitVec 64) (hl : head.length ≤ 4000) (dl : data.length ≤ 4000) (ht : (qLT (qNL (k1,k2) n) head data == (t1,t2)) = true) (w : World) (hh : Sl w vh head.length (qA1 head)) (hd : Sl w vd data.length (qA1 data)) :
 Calls prog 59 #[.agg #[U k1,U k2],n.val,vh,.agg #[vd,U t1,U t2]] w fun e w'=>∃ u,e = .returned (.tuple #[u,.bool true]) ∧ w'.ownsRow w.heap.size 5 1 u data.length (qA1 (qGF (k1,k2) n data)) ∧ qA4 w w':=by
 obtain ⟨ha,hc,hv⟩:=hh.len
 subst hv
 obtain ⟨da,dc,hv⟩:=hd.len
 subst hv
 obtain ⟨H,hH⟩ : ∃ H,H = head.length:=⟨_,rfl⟩
 obtain ⟨D,hD⟩ : ∃ D,D = data.length:=⟨_,rfl⟩
 have hh1 : Sl w (.slice ha H hc) head.length (qA1 head):=by rw [hH];exact hh
 have hd1 : Sl w (.slice da D dc) data.length (qA1 data):=by rw [hD];exact hd
 rw [← hH] at hl ⊢
 rw [← hD] at dl ⊢
 have HH:=qh hH
 have HD:=qh hD
 clear hh hd hH hD
 have i0 : (H : Int) ≤ 4000:=by omega
 have i1 : (D : Int) ≤ 4000:=by omega
 unfold Nn.val
 have HT:=qh ht
 clear ht
 have hk0 : qA4 w (((w.alloc (.cells #[U k1,U k2] 115)).alloc (.cells #[W n.epoch,W n.slot,U n.version] 113)).alloc (.cells #[.slice da D dc,U t1,U t2] 165)):=((qal _).alloc (by simp) _).alloc (by simp;omega) _
 have hK : Blk (((w.alloc (.cells #[U k1,U k2] 115)).alloc (.cells #[W n.epoch,W n.slot,U n.version] 113)).alloc (.cells #[.slice da D dc,U t1,U t2] 165)) w.heap.size #[U k1,U k2] 115:=((Blk.new _ _ _).alloc _).alloc _
 have hN : Blk (((w.alloc (.cells #[U k1,U k2] 115)).alloc (.cells #[W n.epoch,W n.slot,U n.version] 113)).alloc (.cells #[.slice da D dc,U t1,U t2] 165)) (w.heap.size + 1) #[W n.epoch,W n.slot,U n.version] 113:=Blk.alloc (by simpa using Blk.new (w.alloc (.cells #[U k1,U k2] 115)) #[W n.epoch,W n.slot,U n.version] 113) _
 have hX : Blk (((w.alloc (.cells #[U k1,U k2] 115)).alloc (.cells #[W n.epoch,W n.slot,U n.version] 113)).alloc (.cells #[.slice da D dc,U t1,U t2] 165)) (w.heap.size + 2) #[.slice da D dc,U t1,U t2] 165:=by simpa using Blk.new ((w.alloc (.cells #[U k1,U k2] 115)).alloc (.cells #[W n.epoch,W n.slot,U n.version] 113)) #[.slice da D dc,U t1,U t2] 165
 have q0:=hK.cell 0
 have q1:=hK.cell 1
 have n0:=hN.cell 0
 have n1:=hN.cell 1
 have n2:=hN.cell 2
 have x0:=hX.cell 0
 go_enter func59,ntmps59
 go_wp2_with fail
 generalize (((w.alloc (.cells #[U k1,U k2] 115)).alloc (.cells #[W n.epoch,W n.slot,U n.version] 113)).alloc (.cells #[.slice da D dc,U t1,U t2] 165)) = w0 at *
 refine (qJl _ _ n _).mono ?_
 rintro e w2 ⟨rfl,hk2⟩
 obtain ⟨s,hs⟩ : ∃ s,s = qNL (k1,k2) n:=⟨_,rfl⟩
 rw [← hs]
 have hnt : (qLT (s.1,s.2) head data == (t1,t2)) = true:=by rw [hs];exact HT.out
 have HS:=qh hs
 have HNT:=qh hnt
 have hS:=Blk.new w2 #[U s.1,U s.2] 115
 have hk3 : qA4 w0 (w2.alloc (.cells #[U s.1,U s.2] 115)):=qA4.of hk2 (qal _)
 replace hX:=hX.kept hk3
 replace hk0:=qA4.of hk0 hk3
 clear q0 q1 n0 n1 n2 hs hnt hk2 hk3 hK hN x0
 go_wp2_with fail
 generalize w2.alloc (.cells #[U s.1,U s.2] 115) = w3 at *
 refine qA5 [(0,0),(1,0),(2,0),(3,1),(4,0),(5,0),(6,0),(7,0),(8,0),(9,0),(11,0),(12,0),(10,1),(13,0),(14,0)] (by kernel_rfl) (by kernel_rfl) ?_
 intro w4 hw4
 replace hX:=hX.kept hw4
 replace hS:=hS.kept hw4
 replace hk0:=qA4.of hk0 hw4
 clear hw4
 repeat
  refine qA0 _ rfl (fun K hK=>?_)
  first
   | (refine qqP (by rfl) ?_;apply Exists.intro;refine ⟨fun w' hw'=>?_,hK _ ?_⟩;(have c:=hX.kept hw';have c0:=c.cell 0;have c1:=c.cell 1;have c2:=c.cell 2;have d:=hS.kept hw';have d0:=d.cell 0;have d1:=d.cell 1;clear c d;go_simp;first|done|rfl))
   | refine qqN (by rfl) (hK _ ?_)
  clear hK K;simp only [Act.put,qqB]
 refine qqH _ rfl (by rfl) (fun K hK=>?_)
 go_wp2_with fail
 refine (qJD _ _ H D _ _ _ (by rw [HH.out];rw [HH.out] at hh1;exact hh1.kept hk0) (by rw [HD.out];rw [HD.out] at hd1;exact hd1.kept hk0)).mono ?_
 rintro e w5 ⟨rfl,rfl⟩
 rw [decide_eq_true hl,decide_eq_true dl]
 go_wp2
 refine hK _ _ (Below.refl _ _) ?_
 clear hK K
 try simp only [Act.put,qqB]
 repeat
  refine qA0 _ rfl (fun K hK=>?_)
  first
   | (refine qqP (by rfl) ?_;apply Exists.intro;refine ⟨fun w' hw'=>?_,hK _ ?_⟩;(have c:=hX.kept hw';have c0:=c.cell 0;have c1:=c.cell 1;have c2:=c.cell 2;have d:=hS.kept hw';have d0:=d.cell 0;have d1:=d.cell 1;clear c d;go_simp;first|done|rfl))
   | refine qqN (by rfl) (hK _ ?_)
  clear hK K;simp only [Act.put,qqB]
 refine qqH _ rfl (by rfl) (fun K hK=>?_)
 go_wp2_with fail
 refine (qJB _ _ _ _ head data (by rw [← HH.out];exact hl) (by rw [← HD.out];exact dl) _ (hh1.kept hk0) (hd1.kept hk0)).mono ?_
 rintro e w5 ⟨rfl,hk5⟩
 obtain ⟨T,hT⟩ : ∃ T,T = qLT (s.1,s.2) head data:=⟨_,rfl⟩
 rw [← hT]
 have hTT : ((T.1,T.2) == (t1,t2)) = true:=by rw [hT];exact HNT.out
 have hTN : ((T.1,T.2) != (t1,t2)) = false:=by rw [bne,hTT];rfl
 clear hT
 replace hX:=hX.kept hk5
 replace hS:=hS.kept hk5
 have hk9:=qA4.of hk0 hk5
 go_wp2
 refine hK _ _ (hk5) ?_
 clear hK K
 try simp only [Act.put,qqB]
 repeat
  refine qA0 _ rfl (fun K hK=>?_)
  first
   | (refine qqP (by rfl) ?_;apply Exists.intro;refine ⟨fun w' hw'=>?_,hK _ ?_⟩;go_simp;first|done|rfl)
   | refine qqN (by rfl) (hK _ ?_)
  clear hK K;simp only [Act.put,qqB]
 refine qA7 ?_
 go_wp2_with fail
 refine qA5 [(0,0),(1,0),(2,0),(3,0),(4,0),(5,0),(6,1),(7,1),(8,0),(9,0)] (by kernel_rfl) (by kernel_rfl) ?_
 intro w6 hw6
 replace hX:=hX.kept hw6
 replace hS:=hS.kept hw6
 repeat
  refine qA0 _ rfl (fun K hK=>?_)
  first
   | (refine qqP (by rfl) ?_;apply Exists.intro;refine ⟨fun w' hw'=>?_,hK _ ?_⟩;(have c:=hX.kept hw';have c0:=c.cell 0;have c1:=c.cell 1;have c2:=c.cell 2;have d:=hS.kept hw';have d0:=d.cell 0;have d1:=d.cell 1;clear c d;go_simp;first|done|rfl))
   | refine qqN (by rfl) (hK _ ?_)
  clear hK K;simp only [Act.put,qqB]
 refine qqH _ rfl (by rfl) (fun K hK=>?_)
 go_wp2_with fail
 refine (qFN _ _ D dl _).mono ?_
 rintro e w7 ⟨r7,rfl,o7,hk7⟩
 have sl7 : Sl w7 r7 (qDQ (s.1,s.2) D).length (qA1 (qDQ (s.1,s.2) D)):=by rw [qBD];exact Sl.of_own o7
 clear o7
 replace hX:=hX.kept hk7
 replace hS:=hS.kept hk7
 go_wp2
 refine hK _ _ (hk7) ?_
 clear hK K
 try simp only [Act.put,qqB]
 refine qqH _ rfl (by rfl) (fun K hK=>?_)
 go_wp2_with fail
 refine (qMH _ _ data (qDQ (s.1,s.2) D) (by rw [← HD.out];exact dl) (by rw [qBD];exact dl) _ (hd1.kept ((hk9.of hw6).of hk7)) sl7).mono ?_
 rintro e w8 ⟨r8,rfl,o8,hk8⟩
 go_wp2
 refine hK _ _ (hk8) ?_
 clear hK K
 try simp only [Act.put,qqB]
 repeat
  refine qA0 _ rfl (fun K hK=>?_)
  first
   | (refine qqP (by rfl) ?_;apply Exists.intro;refine ⟨fun w' hw'=>?_,hK _ ?_⟩;go_simp;first|done|rfl)
   | refine qqN (by rfl) (hK _ ?_)
  clear hK K;simp only [Act.put,qqB]
 refine qA7 ?_
 have hcl : (qFq data (qDQ (s.1,s.2) D)) = qGF (k1,k2) n data:=by
  unfold qGF;rw [← HS.out,HD.out]
 have hln : (qFq data (qDQ (s.1,s.2) D)).length = D:=by rw [hcl,qBy,HD.out]
 rw [hcl] at hln
 rw [hcl] at o8
 have hz0:=((hk9.of hw6).of hk7).size
 have o9:=qAg o8 hz0
 rw [hln] at o9
 have HCL:=qh hcl
 clear hcl hln o8
 go_wp2
 go_ret2
 exact ⟨_,rfl,o9,((hk9.of hw6).of hk7).of hk8⟩
theorem qPZ (k1 k2 : BitVec 64) (n : Nn) (vh vd : Value) (head data : List UInt8) (t1 t2 : BitVec 64) (hl : head.length ≤ 4000) (dl : data.length ≤ 4000) (ht : (qLT (qNL (k1,k2) n) head data == (t1,t2)) = false) (w : World) (hh : Sl w vh head.length (qA1 head)) (hd : Sl w vd data.length (qA1 data)) :
 Calls prog 59 #[.agg #[U k1,U k2],n.val,vh,.agg #[vd,U t1,U t2]] w fun e w'=>e = .returned (.tuple #[.slice none 0 0,.bool false]) ∧ qA4 w w':=by
 obtain ⟨ha,hc,hv⟩:=hh.len
 subst hv
 obtain ⟨da,dc,hv⟩:=hd.len
 subst hv
 obtain ⟨H,hH⟩ : ∃ H,H = head.length:=⟨_,rfl⟩
 obtain ⟨D,hD⟩ : ∃ D,D = data.length:=⟨_,rfl⟩
 have hh1 : Sl w (.slice ha H hc) head.length (qA1 head):=by rw [hH];exact hh
 have hd1 : Sl w (.slice da D dc) data.length (qA1 data):=by rw [hD];exact hd
 rw [← hH] at hl ⊢
 rw [← hD] at dl ⊢
 have HH:=qh hH
 have HD:=qh hD
 clear hh hd hH hD
 have i0 : (H : Int) ≤ 4000:=by omega
 have i1 : (D : Int) ≤ 4000:=by omega
 unfold Nn.val
 have HT:=qh ht
 clear ht
 have hk0 : qA4 w (((w.alloc (.cells #[U k1,U k2] 115)).alloc (.cells #[W n.epoch,W n.slot,U n.version] 113)).alloc (.cells #[.slice da D dc,U t1,U t2] 165)):=((qal _).alloc (by simp) _).alloc (by simp;omega) _
 have hK : Blk (((w.alloc (.cells #[U k1,U k2] 115)).alloc (.cells #[W n.epoch,W n.slot,U n.version] 113)).alloc (.cells #[.slice da D dc,U t1,U t2] 165)) w.heap.size #[U k1,U k2] 115:=((Blk.new _ _ _).alloc _).alloc _
 have hN : Blk (((w.alloc (.cells #[U k1,U k2] 115)).alloc (.cells #[W n.epoch,W n.slot,U n.version] 113)).alloc (.cells #[.slice da D dc,U t1,U t2] 165)) (w.heap.size + 1) #[W n.epoch,W n.slot,U n.version] 113:=Blk.alloc (by simpa using Blk.new (w.alloc (.cells #[U k1,U k2] 115)) #[W n.epoch,W n.slot,U n.version] 113) _
 have hX : Blk (((w.alloc (.cells #[U k1,U k2] 115)).alloc (.cells #[W n.epoch,W n.slot,U n.version] 113)).alloc (.cells #[.slice da D dc,U t1,U t2] 165)) (w.heap.size + 2) #[.slice da D dc,U t1,U t2] 165:=by simpa using Blk.new ((w.alloc (.cells #[U k1,U k2] 115)).alloc (.cells #[W n.epoch,W n.slot,U n.version] 113)) #[.slice da D dc,U t1,U t2] 165
 have q0:=hK.cell 0
 have q1:=hK.cell 1
 have n0:=hN.cell 0
 have n1:=hN.cell 1
 have n2:=hN.cell 2
 have x0:=hX.cell 0
 go_enter func59,ntmps59
 go_wp2_with fail
 generalize (((w.alloc (.cells #[U k1,U k2] 115)).alloc (.cells #[W n.epoch,W n.slot,U n.version] 113)).alloc (.cells #[.slice da D dc,U t1,U t2] 165)) = w0 at *
 refine (qJl _ _ n _).mono ?_
 rintro e w2 ⟨rfl,hk2⟩
 obtain ⟨s,hs⟩ : ∃ s,s = qNL (k1,k2) n:=⟨_,rfl⟩
 rw [← hs]
 have hnt : (qLT (s.1,s.2) head data == (t1,t2)) = false:=by rw [hs];exact HT.out
 have HS:=qh hs
 have HNT:=qh hnt
 have hS:=Blk.new w2 #[U s.1,U s.2] 115
 have hk3 : qA4 w0 (w2.alloc (.cells #[U s.1,U s.2] 115)):=qA4.of hk2 (qal _)
 replace hX:=hX.kept hk3
 replace hk0:=qA4.of hk0 hk3
 clear q0 q1 n0 n1 n2 hs hnt hk2 hk3 hK hN x0
 go_wp2_with fail
 generalize w2.alloc (.cells #[U s.1,U s.2] 115) = w3 at *
 refine qA5 [(0,0),(1,0),(2,0),(3,1),(4,0),(5,0),(6,0),(7,0),(8,0),(9,0),(11,0),(12,0),(10,1),(13,0),(14,0)] (by kernel_rfl) (by kernel_rfl) ?_
 intro w4 hw4
 replace hX:=hX.kept hw4
 replace hS:=hS.kept hw4
 replace hk0:=qA4.of hk0 hw4
 clear hw4
 repeat
  refine qA0 _ rfl (fun K hK=>?_)
  first
   | (refine qqP (by rfl) ?_;apply Exists.intro;refine ⟨fun w' hw'=>?_,hK _ ?_⟩;(have c:=hX.kept hw';have c0:=c.cell 0;have c1:=c.cell 1;have c2:=c.cell 2;have d:=hS.kept hw';have d0:=d.cell 0;have d1:=d.cell 1;clear c d;go_simp;first|done|rfl))
   | refine qqN (by rfl) (hK _ ?_)
  clear hK K;simp only [Act.put,qqB]
 refine qqH _ rfl (by rfl) (fun K hK=>?_)
 go_wp2_with fail
 refine (qJD _ _ H D _ _ _ (by rw [HH.out];rw [HH.out] at hh1;exact hh1.kept hk0) (by rw [HD.out];rw [HD.out] at hd1;exact hd1.kept hk0)).mono ?_
 rintro e w5 ⟨rfl,rfl⟩
 rw [decide_eq_true hl,decide_eq_true dl]
 go_wp2
 refine hK _ _ (Below.refl _ _) ?_
 clear hK K
 try simp only [Act.put,qqB]
 repeat
  refine qA0 _ rfl (fun K hK=>?_)
  first
   | (refine qqP (by rfl) ?_;apply Exists.intro;refine ⟨fun w' hw'=>?_,hK _ ?_⟩;(have c:=hX.kept hw';have c0:=c.cell 0;have c1:=c.cell 1;have c2:=c.cell 2;have d:=hS.kept hw';have d0:=d.cell 0;have d1:=d.cell 1;clear c d;go_simp;first|done|rfl))
   | refine qqN (by rfl) (hK _ ?_)
  clear hK K;simp only [Act.put,qqB]
 refine qqH _ rfl (by rfl) (fun K hK=>?_)
 go_wp2_with fail
 refine (qJB _ _ _ _ head data (by rw [← HH.out];exact hl) (by rw [← HD.out];exact dl) _ (hh1.kept hk0) (hd1.kept hk0)).mono ?_
 rintro e w5 ⟨rfl,hk5⟩
 obtain ⟨T,hT⟩ : ∃ T,T = qLT (s.1,s.2) head data:=⟨_,rfl⟩
 rw [← hT]
 have hTT : ((T.1,T.2) == (t1,t2)) = false:=by rw [hT];exact HNT.out
 have hTN : ((T.1,T.2) != (t1,t2)) = true:=by rw [bne,hTT];rfl
 clear hT
 replace hX:=hX.kept hk5
 replace hS:=hS.kept hk5
 have hk9:=qA4.of hk0 hk5
 go_wp2
 refine hK _ _ (hk5) ?_
 clear hK K
 try simp only [Act.put,qqB]
 repeat
  refine qA0 _ rfl (fun K hK=>?_)
  first
   | (refine qqP (by rfl) ?_;apply Exists.intro;refine ⟨fun w' hw'=>?_,hK _ ?_⟩;go_simp;first|done|rfl)
   | refine qqN (by rfl) (hK _ ?_)
  clear hK K;simp only [Act.put,qqB]
 refine qA7 ?_
 go_wp2
 go_ret2
 exact ⟨rfl,hk9⟩
def qHt (key : qAB) (n : Nn) (head data : List UInt8) (t : qAB) : Bool:=qLT (qNL key n) head data == t
def qOC (key : qAB) (n : Nn) (head data : List UInt8) (t : qAB) : List UInt8:=if qHt key n head data t then qGF key n data else []
theorem qOD (k1 k2 : BitVec 64) (n : Nn) (vh vd : Value) (head data : List UInt8) (t1 t2 : BitVec 64) (hl : head.length ≤ 4000) (dl : data.length ≤ 4000) (w : World) (hh : Sl w vh head.length (qA1 head)) (hd : Sl w vd data.length (qA1 data)) :
 Calls prog 59 #[.agg #[U k1,U k2],n.val,vh,.agg #[vd,U t1,U t2]] w fun e w'=>∃ u,e = .returned (.tuple #[u,.bool (qHt (k1,k2) n head data (t1,t2))]) ∧ w'.ownsRow w.heap.size 5 1 u (qOC (k1,k2) n head data (t1,t2)).length (qA1 (qOC (k1,k2) n head data (t1,t2))) ∧ qA4 w w':=by
 unfold qOC
 cases h : qHt (k1,k2) n head data (t1,t2)
 · refine (qPZ k1 k2 n vh vd head data t1 t2 hl dl h w hh hd).mono ?_
   rintro e w' ⟨rfl,hk⟩
   exact ⟨_,rfl,⟨rfl,.inl ⟨rfl,rfl⟩⟩,hk⟩
 · refine (qOB k1 k2 n vh vd head data t1 t2 hl dl h w hh hd).mono ?_
   rintro e w' ⟨u,rfl,hs,hk⟩
   refine ⟨_,rfl,?_,hk⟩
   simp only [if_true,qBy]
   exact hs
theorem qLj (key : qAB) (n : Nn) (head data : List UInt8) : qHt key n head (qGF key n data) ((qE1 key n head data).1,(qE1 key n head data).2) = true:=by
 unfold qHt qE1
 exact beq_self_eq_true _
section
open Go.ChangeShapes Go.WideShapes Go.ChangeAt
variable {H : Type} {enc : TypeId × Value → H} {w : World} {base : Nat} {spare : Nat → Bool} {held : Bool} {r : Reach} {b0 : Nat}
end
def gN (bs : List UInt8) : Nn:=if bs.length = 60 then qQv bs else ⟨0#32,0#32,0#64⟩
def gS (bs : List UInt8) : List UInt8:=if bs.length = 60 then qQw bs else []
def gT (bs : List UInt8) : qAB:=if bs.length = 60 then qPj bs else (0#64,0#64)
def gK (bs : List UInt8) : Bool:=decide (bs.length = 60)
theorem qLk (vb : Value) (bs : List UInt8) (hl : bs.length ≤ 4000) (w : World) (hb : Sl w vb bs.length (qA1 bs)) : Calls prog 137 #[vb] w fun e w'=>∃ u,e = .returned (.tuple #[(gN bs).val,.agg #[u,U (gT bs).1,U (gT bs).2],.bool (gK bs)]) ∧ Sl w' u (gS bs).length (qA1 (gS bs)) ∧ qA4 w w':=by
 unfold gN gS gT gK
 by_cases h : bs.length = 60
 · rw [if_pos h,if_pos h,if_pos h,decide_eq_true h]
   exact qJz vb bs hl w hb h
 · rw [if_neg h,if_neg h,if_neg h,decide_eq_false h]
   refine (qJy vb bs hl w hb h).mono ?_
   rintro e w' ⟨rfl,hk⟩
   exact ⟨_,rfl,Sl.nil w',hk⟩
theorem qR3 (n : Nn) (bs : List UInt8) (t : qAB) (hs : n.slot = 65535#32) (h : bs.length = 32) : gN (qFA n bs t) = n ∧ gS (qFA n bs t) = bs ∧ gT (qFA n bs t) = t ∧ gK (qFA n bs t) = true:=by
 have hl:=qCn n bs t h
 obtain ⟨h1,h2,h3⟩:=qOk n bs t hs h
 unfold gN gS gT gK
 rw [if_pos hl,if_pos hl,if_pos hl,decide_eq_true hl]
 exact ⟨h1,h2,h3,rfl⟩
end Go.Proofs.YtdlgihbpiakebaaGreat
