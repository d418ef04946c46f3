import Derived.Test.YtdlgihbpiakebaaGreatMd04
import Derived.Test.YtdlgihbpiakebaaGreatMd36
set_option maxRecDepth 100000
set_option maxHeartbeats 4000000
namespace Go.Proofs.YtdlgihbpiakebaaGreat
open Go Go.RowKit Tryz
theorem qJy (vb : Value) (bs : List UInt8) (hl : bs.length ≤ 4000) (w : World) (hb : Sl w vb bs.length (qA1 bs)) (h : bs.length ≠ 60) : Calls prog 137 #[vb] w fun e w'=>e = .returned (.tuple #[.agg #[W 0#32,W 0#32,U 0#64],.agg #[.slice none 0 0,U 0#64,U 0#64],.bool false]) ∧ qA4 w w':=by
 have hk1 : qA4 w ((w.alloc (.cells #[W 0#32,W 0#32,U 0#64] 113)).alloc (.cells #[.slice none 0 0,U 0#64,U 0#64] 165)):=(qal _).alloc (by simp) _
 have hk2 : qA4 w (((w.alloc (.cells #[W 0#32,W 0#32,U 0#64] 113)).alloc (.cells #[.slice none 0 0,U 0#64,U 0#64] 165)).alloc (.cells #[.int .i64 4,.int .i64 8,.int .i64 32,.int .i64 16] 3)):=hk1.alloc (by simp;omega) _
 have hZ1 : Blk ((w.alloc (.cells #[W 0#32,W 0#32,U 0#64] 113)).alloc (.cells #[.slice none 0 0,U 0#64,U 0#64] 165)) w.heap.size #[W 0#32,W 0#32,U 0#64] 113:=(Blk.new _ _ _).alloc _
 have hY1 : Blk ((w.alloc (.cells #[W 0#32,W 0#32,U 0#64] 113)).alloc (.cells #[.slice none 0 0,U 0#64,U 0#64] 165)) (w.heap.size + 1) #[.slice none 0 0,U 0#64,U 0#64] 165:=by simpa using Blk.new (w.alloc (.cells #[W 0#32,W 0#32,U 0#64] 113)) #[.slice none 0 0,U 0#64,U 0#64] 165
 have hZ2 : Blk (((w.alloc (.cells #[W 0#32,W 0#32,U 0#64] 113)).alloc (.cells #[.slice none 0 0,U 0#64,U 0#64] 165)).alloc (.cells #[.int .i64 4,.int .i64 8,.int .i64 32,.int .i64 16] 3)) w.heap.size #[W 0#32,W 0#32,U 0#64] 113:=hZ1.alloc _
 have hY2 : Blk (((w.alloc (.cells #[W 0#32,W 0#32,U 0#64] 113)).alloc (.cells #[.slice none 0 0,U 0#64,U 0#64] 165)).alloc (.cells #[.int .i64 4,.int .i64 8,.int .i64 32,.int .i64 16] 3)) (w.heap.size + 1) #[.slice none 0 0,U 0#64,U 0#64] 165:=hY1.alloc _
 have hb2:=hb.kept hk2
 have hs3 : w.heap.size + 3 = (((w.alloc (.cells #[W 0#32,W 0#32,U 0#64] 113)).alloc (.cells #[.slice none 0 0,U 0#64,U 0#64] 165)).alloc (.cells #[.int .i64 4,.int .i64 8,.int .i64 32,.int .i64 16] 3)).heap.size:=by simp
 have hsz : Sl (((w.alloc (.cells #[W 0#32,W 0#32,U 0#64] 113)).alloc (.cells #[.slice none 0 0,U 0#64,U 0#64] 165)).alloc (.cells #[.int .i64 4,.int .i64 8,.int .i64 32,.int .i64 16] 3)) (.slice (some ⟨w.heap.size + 2,0,none⟩) 4 4) ([4,8,32,16] : List Int).length (qBb [4,8,32,16]):=by simpa [qBb] using Sl.lit ((w.alloc (.cells #[W 0#32,W 0#32,U 0#64] 113)).alloc (.cells #[.slice none 0 0,U 0#64,U 0#64] 165)) #[.int .i64 4,.int .i64 8,.int .i64 32,.int .i64 16] 3 4 (by decide)
 go_enter func137,ntmps137
 go_wp2_with fail
 refine (qDn _ _ bs [4,8,32,16] hl (by simp) _ hb2 hsz).mono ?_
 rintro e w3 ⟨hk3,v,rfl,hr⟩
 have hZ:=hZ2.kept hk3
 have hY:=hY2.kept hk3
 have hk:=hk2.of hk3
 rw [qJu,if_neg h]
 unfold qOo
 have z0:=hZ.cell 0
 have zf0:=hZ.free 0
 have z1:=hZ.cell 1
 have zf1:=hZ.free 1
 have z2:=hZ.cell 2
 have zf2:=hZ.free 2
 have y0:=hY.cell 0
 have yf0:=hY.free 0
 have y1:=hY.cell 1
 have yf1:=hY.free 1
 have y2:=hY.cell 2
 have yf2:=hY.free 2
 clear hr hk1 hk2 hk3 hZ1 hZ2 hY1 hY2 hb2 hb hsz h hs3
 go_wp2
 refine bodyPost_ret (v:=.tuple #[.agg #[W 0#32,W 0#32,U 0#64],.agg #[.slice none 0 0,U 0#64,U 0#64],.bool false]) (by simp [results,results137,go_sem,z0,z1,z2,y0,y1,y2];done) rfl ⟨rfl,?_⟩
 exact ((((((hk.setCell qle _).setCell qle _).setCell qle _).setCell (Nat.le_succ _) _).setCell (Nat.le_succ _) _).setCell (Nat.le_succ _) _)
theorem qJz (vb : Value) (bs : List UInt8) (hl : bs.length ≤ 4000) (w : World) (hb : Sl w vb bs.length (qA1 bs)) (h : bs.length = 60) : Calls prog 137 #[vb] w fun e w'=>∃ u,e = .returned (.tuple #[(qQv bs).val,.agg #[u,U (qPj bs).1,U (qPj bs).2],.bool true]) ∧ Sl w' u (qQw bs).length (qA1 (qQw bs)) ∧ qA4 w w':=by
 have hk1 : qA4 w ((w.alloc (.cells #[W 0#32,W 0#32,U 0#64] 113)).alloc (.cells #[.slice none 0 0,U 0#64,U 0#64] 165)):=(qal _).alloc (by simp) _
 have hk2 : qA4 w (((w.alloc (.cells #[W 0#32,W 0#32,U 0#64] 113)).alloc (.cells #[.slice none 0 0,U 0#64,U 0#64] 165)).alloc (.cells #[.int .i64 4,.int .i64 8,.int .i64 32,.int .i64 16] 3)):=hk1.alloc (by simp;omega) _
 have hZ1 : Blk ((w.alloc (.cells #[W 0#32,W 0#32,U 0#64] 113)).alloc (.cells #[.slice none 0 0,U 0#64,U 0#64] 165)) w.heap.size #[W 0#32,W 0#32,U 0#64] 113:=(Blk.new _ _ _).alloc _
 have hY1 : Blk ((w.alloc (.cells #[W 0#32,W 0#32,U 0#64] 113)).alloc (.cells #[.slice none 0 0,U 0#64,U 0#64] 165)) (w.heap.size + 1) #[.slice none 0 0,U 0#64,U 0#64] 165:=by simpa using Blk.new (w.alloc (.cells #[W 0#32,W 0#32,U 0#64] 113)) #[.slice none 0 0,U 0#64,U 0#64] 165
 have hZ2 : Blk (((w.alloc (.cells #[W 0#32,W 0#32,U 0#64] 113)).alloc (.cells #[.slice none 0 0,U 0#64,U 0#64] 165)).alloc (.cells #[.int .i64 4,.int .i64 8,.int .i64 32,.int .i64 16] 3)) w.heap.size #[W 0#32,W 0#32,U 0#64] 113:=hZ1.alloc _
 have hY2 : Blk (((w.alloc (.cells #[W 0#32,W 0#32,U 0#64] 113)).alloc (.cells #[.slice none 0 0,U 0#64,U 0#64] 165)).alloc (.cells #[.int .i64 4,.int .i64 8,.int .i64 32,.int .i64 16] 3)) (w.heap.size + 1) #[.slice none 0 0,U 0#64,U 0#64] 165:=hY1.alloc _
 have hb2:=hb.kept hk2
 have hs3 : w.heap.size + 3 = (((w.alloc (.cells #[W 0#32,W 0#32,U 0#64] 113)).alloc (.cells #[.slice none 0 0,U 0#64,U 0#64] 165)).alloc (.cells #[.int .i64 4,.int .i64 8,.int .i64 32,.int .i64 16] 3)).heap.size:=by simp
 have hsz : Sl (((w.alloc (.cells #[W 0#32,W 0#32,U 0#64] 113)).alloc (.cells #[.slice none 0 0,U 0#64,U 0#64] 165)).alloc (.cells #[.int .i64 4,.int .i64 8,.int .i64 32,.int .i64 16] 3)) (.slice (some ⟨w.heap.size + 2,0,none⟩) 4 4) ([4,8,32,16] : List Int).length (qBb [4,8,32,16]):=by simpa [qBb] using Sl.lit ((w.alloc (.cells #[W 0#32,W 0#32,U 0#64] 113)).alloc (.cells #[.slice none 0 0,U 0#64,U 0#64] 165)) #[.int .i64 4,.int .i64 8,.int .i64 32,.int .i64 16] 3 4 (by decide)
 go_enter func137,ntmps137
 go_wp2_with fail
 refine (qDn _ _ bs [4,8,32,16] hl (by simp) _ hb2 hsz).mono ?_
 rintro e w3 ⟨hk3,v,rfl,hr⟩
 have hZ:=hZ2.kept hk3
 have hY:=hY2.kept hk3
 have hk:=hk2.of hk3
 rw [qJu,if_pos h]
 unfold qOo
 have n0 : (bs.take 4).length = 4:=by rw [List.length_take];omega
 have n1 : ((bs.drop 4).take 8).length = 8:=by rw [List.length_take,List.length_drop];omega
 have n3 : (bs.drop 44).length = 16:=by rw [List.length_drop];omega
 obtain ⟨us,hul,hvo,_,hin⟩:=hr _ (by rw [qJu,if_pos h])
 obtain ⟨u0,u1,u2,u3,rfl⟩ : ∃ a b c d,us = [a,b,c,d]:=by
  match us,hul with
  | [a,b,c,d],_=>exact ⟨a,b,c,d,rfl⟩
 have hv:=Sl.of_own hvo
 have s0:=Sl.of_own (hin 0 _ u0 rfl rfl)
 have s1:=Sl.of_own (hin 1 _ u1 rfl rfl)
 have s3:=Sl.of_own (hin 3 _ u3 rfl rfl)
 have o2:=qAg (hin 2 _ u2 rfl rfl) (show w.heap.size + 3 ≤ _ by omega)
 obtain ⟨q,qo,qc,rfl,hq1,hq2,_,hqx⟩:=hv.at (by simp)
 have hq0 : w.heap.size + 3 ≤ q:=by
  obtain ⟨_,hoo⟩:=hvo
  rcases hoo with ⟨e1,_⟩ | ⟨g,_,_,e1,hbg,_⟩
  · cases e1
  · cases e1;rw [hs3];exact hbg
 obtain ⟨r2,hr2⟩ : ∃ r,r = qQw bs:=⟨_,rfl⟩
 have HR:=qh hr2
 rw [show (bs.drop 12).take 32 = r2 from hr2.symm] at o2
 obtain ⟨ua,uc,hu2⟩:=(Sl.of_own o2).len
 subst hu2
 clear hr2
 have x0:=hqx 0 u0 rfl
 have x1:=hqx 1 u1 rfl
 have x2:=hqx 2 _ rfl
 have x3:=hqx 3 u3 rfl
 rw [Nat.add_zero] at x0
 have hqm : (4 : Int) ≤ (qc : Int):=by simp at hq1;omega
 have z0:=hZ.cell 0
 have zf0:=hZ.free 0
 have z1:=hZ.cell 1
 have zf1:=hZ.free 1
 have z2:=hZ.cell 2
 have zf2:=hZ.free 2
 have y0:=hY.cell 0
 have yf0:=hY.free 0
 have y1:=hY.cell 1
 have yf1:=hY.free 1
 have y2:=hY.cell 2
 have yf2:=hY.free 2
 have z3 : w.heap.size + 3 ≤ w3.heap.size:=by rw [hs3];exact hk3.size
 have N0:=qh n0
 have N1:=qh n1
 have N3:=qh n3
 have H:=qh h
 clear hr hin hvo hul hk1 hk2 hk3 hZ1 hZ2 hY1 hY2 hb2 hb hsz h n0 n1 n3 hv hq1 hq2 hqx hs3
 go_wp2_with fail
 refine (qAP _ _ _ s0 (by rw [N0.out];omega) (by rw [N0.out];omega)).mono ?_
 rintro e w4 ⟨rfl,rfl⟩
 go_wp2_with fail
 refine (qAP _ _ _ s1 (by rw [N1.out];omega) (by rw [N1.out];omega)).mono ?_
 rintro e w4 ⟨rfl,rfl⟩
 go_wp2_with fail
 refine (qCh _ _ _ s3 N3.out).mono ?_
 rintro e w4 ⟨rfl,hk4⟩
 replace hZ:=hZ.kept hk4
 replace hY:=hY.kept hk4
 replace x2:=hk4.at x2
 replace hk:=qA4.of hk hk4
 have z4:=hk4.size
 replace o2:=qA3 o2 hk4
 clear x0 x1 x3 s0 s1 s3 hk4
 clear z0 z1 z2 y0 y1 y2 zf0 zf1 zf2 yf0 yf1 yf2
 go_wp2_with fail
 have hP:=Blk.new w4 #[U (qAq (bs.drop 44)).1,U (qAq (bs.drop 44)).2] 115
 replace hZ:=hZ.alloc (.cells #[U (qAq (bs.drop 44)).1,U (qAq (bs.drop 44)).2] 115)
 replace hY:=hY.alloc (.cells #[U (qAq (bs.drop 44)).1,U (qAq (bs.drop 44)).2] 115)
 have hka : qA4 w4 (w4.alloc (.cells #[U (qAq (bs.drop 44)).1,U (qAq (bs.drop 44)).2] 115)):=qal _
 replace x2:=hka.at x2
 replace o2:=qA3 o2 hka
 replace hk:=qA4.of hk hka
 have hPb : w.heap.size + 3 ≤ w4.heap.size:=by omega
 clear hka
 generalize w4.alloc (.cells #[U (qAq (bs.drop 44)).1,U (qAq (bs.drop 44)).2] 115) = W5 at *
 refine qDP (w.heap.size + 3) [(0,0),(1,0),(2,0),(3,0),(4,0),(5,0),(6,0),(7,0),(8,0),(9,1),(10,1),(11,0)] (by kernel_rfl) (by kernel_rfl) ?_
 intro w6 hw6
 replace hP:=hP.kept hw6
 replace x2:=hw6.at x2
 replace hZ:=hZ.kept hw6
 replace hY:=hY.kept hw6
 repeat
  refine qA0 _ rfl (fun K hK=>?_)
  first
   | (refine qqP (by rfl) ?_;apply Exists.intro;refine ⟨fun w' hw'=>?_,hK _ ?_⟩;(have k2:=hw'.cell x2 hq0;have k0:=(hP.above hw' hPb).cell 0;have k1:=(hP.above hw' hPb).cell 1;go_simp;first|done|rfl))
   | refine qqN (by rfl) (hK _ ?_)
  clear hK K;simp only [Act.put,qqB]
 refine qqH _ rfl (by rfl) (fun K hK=>?_)
 have z0:=hZ.cell 0
 have zf0:=hZ.free 0
 have z1:=hZ.cell 1
 have zf1:=hZ.free 1
 have z2:=hZ.cell 2
 have zf2:=hZ.free 2
 have y0:=hY.cell 0
 have yf0:=hY.free 0
 have y1:=hY.cell 1
 have yf1:=hY.free 1
 have y2:=hY.cell 2
 have yf2:=hY.free 2
 go_wp2
 refine hK _ _ ((((qBk.refl _ _).trans (qBk.setCell (a:=⟨w.heap.size,0,none⟩) (show w.heap.size < w.heap.size + 3 by omega) _)).trans (qBk.setCell (a:=⟨w.heap.size,1,none⟩) (show w.heap.size < w.heap.size + 3 by omega) _)).trans (qBk.setCell (a:=⟨w.heap.size,2,none⟩) (show w.heap.size < w.heap.size + 3 by omega) _)) ?_
 clear hK K
 try simp only [Act.put,qqB]
 refine qqH _ rfl (by rfl) (fun K hK=>?_)
 go_wp2
 refine hK _ _ ((((qBk.refl _ _).trans (qBk.setCell (a:=⟨w.heap.size + 1,0,none⟩) (show w.heap.size + 1 < w.heap.size + 3 by omega) _)).trans (qBk.setCell (a:=⟨w.heap.size + 1,1,none⟩) (show w.heap.size + 1 < w.heap.size + 3 by omega) _)).trans (qBk.setCell (a:=⟨w.heap.size + 1,2,none⟩) (show w.heap.size + 1 < w.heap.size + 3 by omega) _)) ?_
 clear hK K
 try simp only [Act.put,qqB]
 repeat
  refine qA0 _ rfl (fun K hK=>?_)
  first
   | (refine qqP (by rfl) ?_;apply Exists.intro;refine ⟨fun w' hw'=>?_,hK _ ?_⟩;go_simp;first|done|rfl)
   | refine qqN (by rfl) (hK _ ?_)
  clear hK K;simp only [Act.put,qqB]
 refine qA7 ?_
 go_wp2
 have hk9:=qA4.of hk hw6
 refine bodyPost_ret (v:=.tuple #[(qQv bs).val,.agg #[.slice ua r2.length uc,U (qPj bs).1,U (qPj bs).2],.bool true]) (by simp [results,results137,go_sem,Nn.val,qQv,qPj,z0,z1,z2,y0,y1,y2];done) rfl ⟨_,rfl,?_,?_⟩
 · rw [← HR.out]
   exact Sl.of_own (qHY (qA3 o2 hw6) (qBk.trans ((((qBk.refl _ _).trans (qBk.setCell (a:=⟨w.heap.size,0,none⟩) (show w.heap.size < w.heap.size + 3 by omega) _)).trans (qBk.setCell (a:=⟨w.heap.size,1,none⟩) (show w.heap.size < w.heap.size + 3 by omega) _)).trans (qBk.setCell (a:=⟨w.heap.size,2,none⟩) (show w.heap.size < w.heap.size + 3 by omega) _)) ((((qBk.refl _ _).trans (qBk.setCell (a:=⟨w.heap.size + 1,0,none⟩) (show w.heap.size + 1 < w.heap.size + 3 by omega) _)).trans (qBk.setCell (a:=⟨w.heap.size + 1,1,none⟩) (show w.heap.size + 1 < w.heap.size + 3 by omega) _)).trans (qBk.setCell (a:=⟨w.heap.size + 1,2,none⟩) (show w.heap.size + 1 < w.heap.size + 3 by omega) _))))
 · exact ((((((hk9.setCell qle _).setCell qle _).setCell qle _).setCell (Nat.le_succ _) _).setCell (Nat.le_succ _) _).setCell (Nat.le_succ _) _)

def qR0 (m n : Nn) : Bool:=decide (m = n)
@[go_sem high] theorem qR1 (a b c d : BitVec 32) (x y : BitVec 64) (w : World) : (Op.equalIn 10000 113 (.agg #[W a,W b,U x]) (.agg #[W c,W d,U y])).run prog w = .ok (qR0 ⟨a,b,x⟩ ⟨c,d,y⟩) w:=by
 unfold qR0
 rw [run_equalIn_struct (P:=prog) w 9999 113 _ _ (by kernel_rfl) (by kernel_rfl)]
 have h0:=underlying113
 have u32:=underlying94
 have u64:=underlying29
 unfold Program.fieldsOf
 rw [h0]
 have n0 : ("Epoch" ≠ "_") = True:=by decide
 have n1 : ("Slot" ≠ "_") = True:=by decide
 have n2 : ("Version" ≠ "_") = True:=by decide
 have p0 : ∀ (w : World) (a b : BitVec 32) (x : BitVec 64),(part 94 #[W a,W b,U x] 0).run prog w = .ok (W a) w:=fun w a b x=>qBN w _ .u32 u32 _ 0 _ rfl
 have p1 : ∀ (w : World) (a b : BitVec 32) (x : BitVec 64),(part 94 #[W a,W b,U x] 1).run prog w = .ok (W b) w:=fun w a b x=>qBN w _ .u32 u32 _ 1 _ rfl
 have p2 : ∀ (w : World) (a b : BitVec 32) (x : BitVec 64),(part 29 #[W a,W b,U x] 2).run prog w = .ok (U x) w:=fun w a b x=>qBN w _ .u64 u64 _ 2 _ rfl
 simp only [Op.eqFields,Sem.run_bind,Sem.run_ite,n0,n1,n2,if_true,p0,p1,p2,Result.andThen_ok,fun w=>qFU (P:=prog) w 9998 94 u32,fun w=>qDe (P:=prog) w 9998 29 u64,Sem.run_pure]
 by_cases h1 : a = c
 · by_cases h2 : b = d
   · by_cases h3 : x = y
     · simp [h1,h2,h3]
     · simp [h1,h2,h3]
   · simp [h1,h2]
 · simp [h1]
end Go.Proofs.YtdlgihbpiakebaaGreat
