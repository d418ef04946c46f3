import Derived.Test.YtdlgihbpiakebaaGreatMd17
import Derived.Test.YtdlgihbpiakebaaGreatMd23
import Derived.Test.YtdlgihbpiakebaaGreatMd31
set_option maxRecDepth 100000
set_option maxHeartbeats 4000000
namespace Go.Proofs.YtdlgihbpiakebaaGreat
open Go Go.RowKit Tryz
def qEZ (x : Iss) (r1 r2 r3 : Value) : Array Value:=#[U x.key.1,U x.key.2,W x.nonce.epoch,W x.nonce.slot,U x.nonce.version,r1,r2,r3,U x.tag.1,U x.tag.2]
theorem qOp (x : Iss) (r1 r2 r3 : Value) (w : World) (hl1 : x.head.length ≤ 4000) (hl2 : x.data.length ≤ 4000) (hl3 : x.out.length ≤ 4000) (h1 : Sl w r1 x.head.length (qA1 x.head)) (h2 : Sl w r2 x.data.length (qA1 x.data)) (h3 : Sl w r3 x.out.length (qA1 x.out)) :
 Calls prog 96 #[.agg (qEZ x r1 r2 r3)] w fun e w'=>∃ u1 u2 u3,e = .returned (.agg (qEZ x u1 u2 u3)) ∧ w'.ownsRow w.heap.size 5 1 u3 x.out.length (qA1 x.out) ∧ qA4 w w':=by
 obtain ⟨a1,c1,rfl⟩:=h1.len
 obtain ⟨a2,c2,rfl⟩:=h2.len
 obtain ⟨a3,c3,rfl⟩:=h3.len
 unfold qEZ
 obtain ⟨w0,hw0⟩ : ∃ w0,w0 = (w.alloc (.cells #[U x.key.1,U x.key.2,W x.nonce.epoch,W x.nonce.slot,U x.nonce.version,.slice a1 x.head.length c1,.slice a2 x.data.length c2,.slice a3 x.out.length c3,U x.tag.1,U x.tag.2] 184)).alloc (.cells #[U 0#64,U 0#64,W 0#32,W 0#32,U 0#64,.slice none 0 0,.slice none 0 0,.slice none 0 0,U 0#64,U 0#64] 184):=⟨_,rfl⟩
 have hkB : qA4 w w0:=by rw [hw0];exact (qal _).alloc (by simp) _
 have bB : Blk w0 w.heap.size #[U x.key.1,U x.key.2,W x.nonce.epoch,W x.nonce.slot,U x.nonce.version,.slice a1 x.head.length c1,.slice a2 x.data.length c2,.slice a3 x.out.length c3,U x.tag.1,U x.tag.2] 184:=by rw [hw0];exact (Blk.new w _ _).kept (qal _)
 have bZ : Blk w0 (w.heap.size + 1) #[U 0#64,U 0#64,W 0#32,W 0#32,U 0#64,.slice none 0 0,.slice none 0 0,.slice none 0 0,U 0#64,U 0#64] 184:=by rw [hw0];simpa using Blk.new (w.alloc (.cells #[U x.key.1,U x.key.2,W x.nonce.epoch,W x.nonce.slot,U x.nonce.version,.slice a1 x.head.length c1,.slice a2 x.data.length c2,.slice a3 x.out.length c3,U x.tag.1,U x.tag.2] 184)) #[U 0#64,U 0#64,W 0#32,W 0#32,U 0#64,.slice none 0 0,.slice none 0 0,.slice none 0 0,U 0#64,U 0#64] 184
 go_enter func96,ntmps96
 go_wp2_with fail
 rw [← hw0]
 clear hw0
 refine qA5 [(0,0),(1,0),(3,0),(4,0),(6,0),(7,0),(8,0),(2,1),(10,0),(5,1),(9,1),(11,2),(12,2),(13,2),(14,2),(15,2),(16,2)] (by kernel_rfl) (by kernel_rfl) ?_
 intro w1 hk1
 replace bB:=bB.kept hk1
 replace bZ:=bZ.kept hk1
 repeat
  refine qA0 _ rfl (fun K hK=>?_)
  first
   | (refine qqP (by rfl) ?_;apply Exists.intro;refine ⟨fun w' hw'=>?_,hK _ ?_⟩;(have Hb:=bB.kept hw';have q5:=Hb.cell 5;have q6:=Hb.cell 6;have q7:=Hb.cell 7;clear Hb;go_simp;first|done|rfl))
   | refine qqN (by rfl) (hK _ ?_)
  clear hK K;simp only [Act.put,qqB]
 refine qqH _ rfl (by rfl) (fun K hK=>?_)
 go_wp2_with fail
 refine (qAV _ x.head (by omega) _ ((h1.kept hkB).kept hk1)).mono ?_
 rintro e w2 ⟨r,rfl,o1,hk2⟩
 obtain ⟨b1,d1,rfl⟩:=(Sl.of_own o1).len
 replace bB:=bB.kept hk2
 replace bZ:=bZ.kept hk2
 go_wp2
 refine hK _ _ (hk2) ?_
 clear hK K
 try simp only [Act.put,qqB]
 repeat
  refine qA0 _ rfl (fun K hK=>?_)
  first
   | (refine qqP (by rfl) ?_;apply Exists.intro;refine ⟨fun w' hw'=>?_,hK _ ?_⟩;go_simp;first|done|rfl)
   | refine qqN (by rfl) (hK _ ?_)
  clear hK K;simp only [Act.put,qqB]
 refine qqH _ rfl (by rfl) (fun K hK=>?_)
 go_wp2_with fail
 refine (qAV _ x.data (by omega) _ (((h2.kept hkB).kept hk1).kept hk2)).mono ?_
 rintro e w3 ⟨r,rfl,o2,hk3⟩
 obtain ⟨b2,d2,rfl⟩:=(Sl.of_own o2).len
 replace bB:=bB.kept hk3
 replace bZ:=bZ.kept hk3
 go_wp2
 refine hK _ _ (hk3) ?_
 clear hK K
 try simp only [Act.put,qqB]
 refine qqH _ rfl (by rfl) (fun K hK=>?_)
 go_wp2_with fail
 refine (qAV _ x.out (by omega) _ ((((h3.kept hkB).kept hk1).kept hk2).kept hk3)).mono ?_
 rintro e w4 ⟨r,rfl,o3,hk4⟩
 obtain ⟨b3,d3,rfl⟩:=(Sl.of_own o3).len
 replace bB:=bB.kept hk4
 replace bZ:=bZ.kept hk4
 have bB0:=bB
 go_wp2
 refine hK _ _ (hk4) ?_
 clear hK K
 try simp only [Act.put,qqB]
 refine qAh _ rfl (fun K hK=>?_)
 refine qqP (by rfl) ?_
 have f5:=bB.free 5
 have e5:=bB.cell 5
 go_wp2
 replace bB:=bB.set 5 (.slice b1 x.head.length d1)
 simp only [qqA,qq0,qq1] at bB
 replace bZ:=(Chg.step (b:=w.heap.size) (o:=5) qsm (.slice b1 x.head.length d1) : Chg [w.heap.size] _ _).blk bZ (by simp)
 refine qAh _ rfl (fun K hK=>?_)
 refine qqP (by rfl) ?_
 go_wp2
 refine qAh _ rfl (fun K hK=>?_)
 refine qqP (by rfl) ?_
 have f6:=bB.free 6
 have e6:=bB.cell 6
 go_wp2
 replace bB:=bB.set 6 (.slice b2 x.data.length d2)
 simp only [qqA,qq0,qq1] at bB
 replace bZ:=(Chg.step (b:=w.heap.size) (o:=6) qsm (.slice b2 x.data.length d2) : Chg [w.heap.size] _ _).blk bZ (by simp)
 refine qAh _ rfl (fun K hK=>?_)
 refine qqP (by rfl) ?_
 go_wp2
 refine qAh _ rfl (fun K hK=>?_)
 refine qqP (by rfl) ?_
 go_wp2
 refine qAh _ rfl (fun K hK=>?_)
 refine qqP (by rfl) ?_
 have f7:=bB.free 7
 have e7:=bB.cell 7
 go_wp2
 replace bB:=bB.set 7 (.slice b3 x.out.length d3)
 simp only [qqA,qq0,qq1] at bB
 replace bZ:=(Chg.step (b:=w.heap.size) (o:=7) qsm (.slice b3 x.out.length d3) : Chg [w.heap.size] _ _).blk bZ (by simp)
 refine qA7 ?_
 have bB4:=bB0
 have hcB : Chg [w.heap.size] w4 (((w4.setCell ⟨w.heap.size,5,none⟩ (.slice b1 x.head.length d1)).setCell ⟨w.heap.size,6,none⟩ (.slice b2 x.data.length d2)).setCell ⟨w.heap.size,7,none⟩ (.slice b3 x.out.length d3)):=((Chg.refl _ _).set (by simp) _ _ |>.set (by simp) _ _ |>.set (by simp) _ _)
 clear f5 e5 f6 e6 f7 e7
 generalize (((w4.setCell ⟨w.heap.size,5,none⟩ (.slice b1 x.head.length d1)).setCell ⟨w.heap.size,6,none⟩ (.slice b2 x.data.length d2)).setCell ⟨w.heap.size,7,none⟩ (.slice b3 x.out.length d3)) = w5 at *
 have g0:=bB.cell 0
 have z0:=bZ.cell 0
 have y0:=bZ.free 0
 have g1:=bB.cell 1
 have z1:=bZ.cell 1
 have y1:=bZ.free 1
 have g2:=bB.cell 2
 have z2:=bZ.cell 2
 have y2:=bZ.free 2
 have g3:=bB.cell 3
 have z3:=bZ.cell 3
 have y3:=bZ.free 3
 have g4:=bB.cell 4
 have z4:=bZ.cell 4
 have y4:=bZ.free 4
 have g5:=bB.cell 5
 have z5:=bZ.cell 5
 have y5:=bZ.free 5
 have g6:=bB.cell 6
 have z6:=bZ.cell 6
 have y6:=bZ.free 6
 have g7:=bB.cell 7
 have z7:=bZ.cell 7
 have y7:=bZ.free 7
 have g8:=bB.cell 8
 have z8:=bZ.cell 8
 have y8:=bZ.free 8
 have g9:=bB.cell 9
 have z9:=bZ.cell 9
 have y9:=bZ.free 9
 go_wp2
 have bR:=((((((((((bZ.set 0 (U x.key.1)).set 1 (U x.key.2)).set 2 (W x.nonce.epoch)).set 3 (W x.nonce.slot)).set 4 (U x.nonce.version)).set 5 (.slice b1 x.head.length d1)).set 6 (.slice b2 x.data.length d2)).set 7 (.slice b3 x.out.length d3)).set 8 (U x.tag.1)).set 9 (U x.tag.2))
 simp only [qqA,qq0,qq1] at bR
 have hcZ : Chg [w.heap.size + 1] w5 ((((((((((w5.setCell ⟨w.heap.size + 1,0,none⟩ (U x.key.1)).setCell ⟨w.heap.size + 1,1,none⟩ (U x.key.2)).setCell ⟨w.heap.size + 1,2,none⟩ (W x.nonce.epoch)).setCell ⟨w.heap.size + 1,3,none⟩ (W x.nonce.slot)).setCell ⟨w.heap.size + 1,4,none⟩ (U x.nonce.version)).setCell ⟨w.heap.size + 1,5,none⟩ (.slice b1 x.head.length d1)).setCell ⟨w.heap.size + 1,6,none⟩ (.slice b2 x.data.length d2)).setCell ⟨w.heap.size + 1,7,none⟩ (.slice b3 x.out.length d3)).setCell ⟨w.heap.size + 1,8,none⟩ (U x.tag.1)).setCell ⟨w.heap.size + 1,9,none⟩ (U x.tag.2)):=(((((((((((Chg.refl _ _).set qsm 0 _).set qsm 1 _).set qsm 2 _).set qsm 3 _).set qsm 4 _).set qsm 5 _).set qsm 6 _).set qsm 7 _).set qsm 8 _).set qsm 9 _)
 clear g0 z0 y0 g1 z1 y1 g2 z2 y2 g3 z3 y3 g4 z4 y4 g5 z5 y5 g6 z6 y6 g7 z7 y7 g8 z8 y8 g9 z9 y9
 have r0:=bR.cell 0
 have r1:=bR.cell 1
 have r2:=bR.cell 2
 have r3:=bR.cell 3
 have r4:=bR.cell 4
 have r5:=bR.cell 5
 have r6:=bR.cell 6
 have r7:=bR.cell 7
 have r8:=bR.cell 8
 have r9:=bR.cell 9
 generalize ((((((((((w5.setCell ⟨w.heap.size + 1,0,none⟩ (U x.key.1)).setCell ⟨w.heap.size + 1,1,none⟩ (U x.key.2)).setCell ⟨w.heap.size + 1,2,none⟩ (W x.nonce.epoch)).setCell ⟨w.heap.size + 1,3,none⟩ (W x.nonce.slot)).setCell ⟨w.heap.size + 1,4,none⟩ (U x.nonce.version)).setCell ⟨w.heap.size + 1,5,none⟩ (.slice b1 x.head.length d1)).setCell ⟨w.heap.size + 1,6,none⟩ (.slice b2 x.data.length d2)).setCell ⟨w.heap.size + 1,7,none⟩ (.slice b3 x.out.length d3)).setCell ⟨w.heap.size + 1,8,none⟩ (U x.tag.1)).setCell ⟨w.heap.size + 1,9,none⟩ (U x.tag.2)) = w6 at *
 have hk : qA4 w w4:=(((hkB.of hk1).of hk2).of hk3).of hk4
 refine bodyPost_ret (v:=.agg #[U x.key.1,U x.key.2,W x.nonce.epoch,W x.nonce.slot,U x.nonce.version,.slice b1 x.head.length d1,.slice b2 x.data.length d2,.slice b3 x.out.length d3,U x.tag.1,U x.tag.2]) (by simp [results,results96,go_sem,r0,r1,r2,r3,r4,r5,r6,r7,r8,r9];try exact ⟨rfl,rfl,rfl⟩) rfl ⟨_,_,_,rfl,?_,?_⟩
 · exact qAt (qAt (qAg o3 (Nat.le_trans hkB.size (Nat.le_trans hk1.size (Nat.le_trans hk2.size hk3.size)))) hcB bB4 (by decide)) hcZ bZ (by decide)
 · have h1 : Chg [] w w5:=qDg (Chg.of_kept hk) hcB qle
   have h2 : Chg [] w w6:=qDg h1 hcZ (by omega)
   exact ⟨h2.os,h2.tape,h2.output,h2.size,fun k hk=>h2.block k hk (by simp)⟩
theorem qOq (w : World) : qC5 (w.alloc (.map #[] 0)) w.heap.size []:=⟨_,w.ownsMap_made _ _ _,Maps.tidy_empty,rfl,fun row=>⟨rfl,fun h=>by cases h⟩⟩
theorem qC5.kept {w w' : World} {m : Nat} {sums : List (List UInt8)} (h : qC5 w m sums) (hk : qA4 w w') : qC5 w' m sums:=by
 obtain ⟨D,h1,h2,h3,h4⟩:=h
 have hl:=h1.lt
 obtain ⟨es,clock,hb,r⟩:=h1
 exact ⟨D,⟨es,clock,(hk.block m hl).trans hb,r⟩,h2,h3,h4⟩
theorem qLf (w : World) : Calls prog 63 #[] w fun e w'=>∃ O m,e = .returned (.pointer (some ⟨O,0,none⟩)) ∧ Blk w' O #[.slice none 0 0,.map (some m)] 182 ∧ qC5 w' m [] ∧ qA4 w w' ∧ w.heap.size ≤ O ∧ w.heap.size ≤ m:=by
 have hmm:=@run_makeMap prog
 go_enter func63,ntmps63
 go_wp2
 go_ret
 have hs:=qOq w
 have hk : qA4 (w.alloc (.map #[] 0)) ((w.alloc (.map #[] 0)).alloc (.cells #[.slice none 0 0,.map (some w.heap.size)] 182)):=qal _
 have hz : (w.alloc (.map #[] 0)).heap.size = w.heap.size + 1:=by simp
 have hb:=Blk.new (w.alloc (.map #[] 0)) #[.slice none 0 0,.map (some w.heap.size)] 182
 rw [hz] at hb
 exact ⟨w.heap.size + 1,w.heap.size,rfl,hb,hs.kept hk,qA4.of (qal _) hk,by omega,Nat.le_refl _⟩
theorem qLg (w : World) : Calls prog 36 #[] w fun e w'=>∃ L O m f3 f4,e = .returned (.pointer (some ⟨L,0,none⟩)) ∧ Blk w' L #[.func (.func 64) #[.pointer (some ⟨O,0,none⟩)] #[],.func (.func 65) #[.pointer (some ⟨O,0,none⟩)] #[],.func (.func 66) #[.pointer (some ⟨O,0,none⟩)] #[],f3,f4] 144 ∧ Blk w' O #[.slice none 0 0,.map (some m)] 182 ∧ qC5 w' m [] ∧ qA4 w w' ∧ w.heap.size ≤ L ∧ w.heap.size ≤ O ∧ w.heap.size ≤ m:=by
 go_enter func36,ntmps36
 go_wp2_with fail
 refine (qLf w).mono ?_
 rintro e w1 ⟨O,m,rfl,h1,h2,h3,h4,h5⟩
 go_wp2
 go_ret
 have hk : ∀ o,qA4 w1 (w1.alloc o):=fun o=>qal o
 exact ⟨w1.heap.size,O,m,_,_,rfl,Blk.new _ _ _,h1.kept (hk _),h2.kept (hk _),h3.of (hk _),h3.size,h4,h5⟩
theorem qIl (w : World) : Calls prog 35 #[] w fun e w'=>∃ L f3 f4,e = .returned (.pointer (some ⟨L,0,none⟩)) ∧ Blk w' L #[.func (.func 58) #[] #[],.func (.func 59) #[] #[],.func (.func 60) #[] #[],f3,f4] 144 ∧ qA4 w w' ∧ w.heap.size ≤ L:=by
 go_enter func35,ntmps35
 go_wp2
 go_ret
 exact ⟨w.heap.size,_,_,rfl,Blk.new _ _ _,qal _,Nat.le_refl _⟩
end Go.Proofs.YtdlgihbpiakebaaGreat
