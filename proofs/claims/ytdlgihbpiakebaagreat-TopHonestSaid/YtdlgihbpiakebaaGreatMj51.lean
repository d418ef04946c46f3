import Derived.Test.YtdlgihbpiakebaaGreatMj50
import Derived.Laws.IdiomStrings
set_option maxRecDepth 100000
set_option maxHeartbeats 4000000
namespace Go.Proofs.YtdlgihbpiakebaaGreat
open Go Go.RowKit Tryz
theorem qMx (w : World) (Y : List UInt8) (hl : Y.length ≤ 1000000) : ∃ c w',(convert 9 32 (Str Y)).run prog w = .ok (.slice (some ⟨w.heap.size,0,none⟩) Y.length c) w' ∧ Sl w' (.slice (some ⟨w.heap.size,0,none⟩) Y.length c) Y.length (qA1 Y) ∧ Kept w w':=by
 have h:=run_bytes_of_string (P:=prog) w 9 32 5 ⟨Y.toArray⟩ underlying9 underlying32 underlying5
 have hs : (⟨Y.toArray⟩ : ByteArray).size = Y.length:=rfl
 rw [hs] at h
 refine ⟨_,_,h,?_,?_⟩
 · refine Sl.mk (grownCap_ge w Y.length 0 _) (grownCap_le_maxLen w _ 0 _ (by unfold maxLen;omega)) fun j u hj=>?_
   have hjl:=(List.getElem?_eq_some_iff.1 hj).1
   rw [qA5] at hjl
   rw [qBx Y j hjl] at hj
   have : (bytesRow ⟨Y.toArray⟩ (grownCap w Y.length 0 5))[0 + j]? = some u:=by
    rw [← hj]
    simp [bytesRow,Array.getElem?_append,hjl,V8]
   generalize bytesRow ⟨Y.toArray⟩ (grownCap w Y.length 0 5) = C at *
   have hh : (w.drew.alloc (.cells C 5 (C.size,C.size + 1))).heap[w.heap.size]? = some (.cells C 5 (C.size,C.size + 1)):=by
    show (w.heap.push _)[w.heap.size]? = _
    simp
   unfold World.cell?
   rw [hh]
   exact this
 · exact Below.alloc (Kept.drawn w : Kept w w.drew) qle _
theorem Chg.new {X n : Nat} {w z : World} (h : Chg [X,n] w z) (hn : w.heap.size ≤ n) : Chg [X] w z :=
 ⟨h.os,h.tape,h.output,h.size,fun k hk hx=>h.block k hk (fun hm=>by
  rcases List.mem_cons.1 hm with e | e
  · exact hx (List.mem_singleton.2 e)
  · rw [List.mem_singleton] at e;omega)⟩
theorem MoAt.kept {w w' : World} {X : Nat} {B : Nat → List UInt8} (h : MoAt w X B) (c : Kept w w') : MoAt w' X B:=by
 obtain ⟨L,h⟩:=h
 exact ⟨L,h.kept c⟩
theorem qMy {w : World} {X : Nat} {B : Nat → List UInt8} (h : MoAt w X B) (k lb : Int) (dt : List UInt8) (his : Cl.is ⟨k,lb,dt⟩ = false) (a : Option Addr) (cap : Nat) (hs : Sl w (.slice a dt.length cap) dt.length (qA1 dt)) (hl : dt.length ≤ 1000000) : Calls prog 14 #[.pointer (some ⟨X,0,none⟩),.agg #[.int .i64 k,.int .i64 lb,.slice a dt.length cap]] w fun e w'=>∃ v,e = .returned (.agg #[.int .i64 1,v]) ∧ MoAt w' X B ∧ Sl w' v 0 [] ∧ Chg [X] w w':=by
 obtain ⟨L,h⟩:=h
 have CI:=fun z=>qF1 ⟨k,lb,dt⟩ a cap hl z
 rw [his] at CI
 have hl0 : dt.length ≤ 1000000:=hl
 have hW0 : Kept w ((w.alloc (.cells #[.int .i64 k,.int .i64 lb,.slice a dt.length cap] 34)).alloc (.cells #[.int .i64 0,.slice none 0 0] 44)):=(qal _).alloc (by simp) _
 have bB:=(Blk.new w #[.int .i64 k,.int .i64 lb,.slice a dt.length cap] 34).kept (w':=((w.alloc (.cells #[.int .i64 k,.int .i64 lb,.slice a dt.length cap] 34)).alloc (.cells #[.int .i64 0,.slice none 0 0] 44))) (qal _)
 have bT : Blk ((w.alloc (.cells #[.int .i64 k,.int .i64 lb,.slice a dt.length cap] 34)).alloc (.cells #[.int .i64 0,.slice none 0 0] 44)) (w.heap.size + 1) #[.int .i64 0,.slice none 0 0] 44:=by simpa using Blk.new (w.alloc (.cells #[.int .i64 k,.int .i64 lb,.slice a dt.length cap] 34)) #[.int .i64 0,.slice none 0 0] 44
 have hX:=h.kept hW0
 have hXw:=h.lt
 have hs0:=hs.kept hW0
 have q0:=bB.cell 0
 have q1:=bB.cell 1
 have q2:=bB.cell 2
 go_enter func14,ntmps14
 go_wp2_with fail
 refine (CI _).mono ?_
 rintro e w1 ⟨rfl,k1⟩
 clear CI
 replace hX:=hX.kept k1
 replace bB:=bB.kept k1
 replace bT:=bT.kept k1
 replace hs0:=hs0.kept k1
 have k01:=hW0.of k1
 clear hW0
 have q0:=bB.cell 0
 have q1:=bB.cell 1
 have q2:=bB.cell 2
 have x0:=bT.cell 0
 have x1:=bT.cell 1
 have f0:=bT.free 0
 have f1:=bT.free 1
 go_wp2_with fail
 have bR:=((bT).set 0 (.int .i64 1)).set 1 (.slice none 0 0)
 have hcE : Chg [X,w.heap.size + 1] w ((w1.setCell ⟨w.heap.size + 1,0,none⟩ (.int .i64 1)).setCell ⟨w.heap.size + 1,1,none⟩ (.slice none 0 0)):=((Chg.mono (bs:=[X]) (cs:=[X,w.heap.size + 1]) (Chg.of_kept k01) (by simp)).set (b:=w.heap.size + 1) (by simp) 0 _).set (b:=w.heap.size + 1) (by simp) 1 _
 have hcT : Chg [w.heap.size + 1] w1 ((w1.setCell ⟨w.heap.size + 1,0,none⟩ (.int .i64 1)).setCell ⟨w.heap.size + 1,1,none⟩ (.slice none 0 0)):=((Chg.refl _ _).set qsm 0 _).set qsm 1 _
 have r0:=bR.cell 0
 have r1:=bR.cell 1
 clear f0 f1 x0 x1
 generalize ((w1.setCell ⟨w.heap.size + 1,0,none⟩ (.int .i64 1)).setCell ⟨w.heap.size + 1,1,none⟩ (.slice none 0 0)) = wE at *
 refine bodyPost_ret (v:=.agg #[.int .i64 1,.slice none 0 0]) (by simp [results,results14,go_sem,r0,r1];try exact ⟨rfl,rfl⟩) rfl ⟨_,rfl,⟨L,hcT.blk hX (by rw [List.mem_singleton];omega)⟩,Sl.nil _,hcE.new (by omega)⟩
theorem qJ5 {w : World} {X : Nat} {B : Nat → List UInt8} (h : MoAt w X B) (lb : Int) (hd : isD lb = true) (h32 : (B lb.toNat).length = 32) (dt : List UInt8) (a : Option Addr) (cap : Nat) (hs : Sl w (.slice a dt.length cap) dt.length (qA1 dt)) (hl : dt.length ≤ 1000000) : Calls prog 14 #[.pointer (some ⟨X,0,none⟩),.agg #[.int .i64 1,.int .i64 lb,.slice a dt.length cap]] w fun e w'=>∃ v,e = .returned (.agg #[.int .i64 0,v]) ∧ MoAt w' X B ∧ Sl w' v (B lb.toNat).length (qA1 (B lb.toNat)) ∧ Chg [X] w w':=by
 obtain ⟨o,rfl,ho⟩ : ∃ o : Nat,lb = (o : Int) ∧ o < 32:=⟨lb.toNat,by have h1:=hd;simp [isD] at h1;omega,by have h1:=hd;simp [isD] at h1;omega⟩
 have n0 : (0 : Int) ≤ (o : Int):=by omega
 have n1 : (o : Int) < 32:=by omega
 have his : Cl.is ⟨1,(o : Int),dt⟩ = true:=by unfold Cl.is;rw [if_pos rfl];exact hd
 rw [Int.toNat_natCast] at h32 ⊢
 obtain ⟨L,h⟩:=h
 have CI:=fun z=>qF1 ⟨1,(o : Int),dt⟩ a cap hl z
 rw [his] at CI
 have hl0 : dt.length ≤ 1000000:=hl
 have hW0 : Kept w ((w.alloc (.cells #[.int .i64 1,.int .i64 (o : Int),.slice a dt.length cap] 34)).alloc (.cells #[.int .i64 0,.slice none 0 0] 44)):=(qal _).alloc (by simp) _
 have bB:=(Blk.new w #[.int .i64 1,.int .i64 (o : Int),.slice a dt.length cap] 34).kept (w':=((w.alloc (.cells #[.int .i64 1,.int .i64 (o : Int),.slice a dt.length cap] 34)).alloc (.cells #[.int .i64 0,.slice none 0 0] 44))) (qal _)
 have bT : Blk ((w.alloc (.cells #[.int .i64 1,.int .i64 (o : Int),.slice a dt.length cap] 34)).alloc (.cells #[.int .i64 0,.slice none 0 0] 44)) (w.heap.size + 1) #[.int .i64 0,.slice none 0 0] 44:=by simpa using Blk.new (w.alloc (.cells #[.int .i64 1,.int .i64 (o : Int),.slice a dt.length cap] 34)) #[.int .i64 0,.slice none 0 0] 44
 have hX:=h.kept hW0
 have hXw:=h.lt
 have hs0:=hs.kept hW0
 have q0:=bB.cell 0
 have q1:=bB.cell 1
 have q2:=bB.cell 2
 go_enter func14,ntmps14
 go_wp2_with fail
 refine (CI _).mono ?_
 rintro e w1 ⟨rfl,k1⟩
 clear CI
 replace hX:=hX.kept k1
 replace bB:=bB.kept k1
 replace bT:=bT.kept k1
 replace hs0:=hs0.kept k1
 have k01:=hW0.of k1
 clear hW0
 have q0:=bB.cell 0
 have q1:=bB.cell 1
 have q2:=bB.cell 2
 have x0:=bT.cell 0
 have x1:=bT.cell 1
 have f0:=bT.free 0
 have f1:=bT.free 1
 go_wp2_with fail
 refine qA3 [(0,0),(1,0),(2,0),(3,0),(4,0),(5,0),(6,0),(7,1),(8,0),(9,2)] (by kernel_rfl) (by kernel_rfl) ?_
 intro z1 hz1
 replace hX:=hX.kept hz1
 replace bB:=bB.kept hz1
 replace bT:=bT.kept hz1
 replace hs0:=hs0.kept hz1
 replace k01:=k01.of hz1
 clear q0 q1 q2 x0 x1 f0 f1
 repeat
  refine qA0 _ rfl (fun K hK=>?_)
  first
   | (refine qqP (by rfl) ?_;apply Exists.intro;refine ⟨fun w' hw'=>?_,hK _ ?_⟩;(have y1:=(bB.kept hw').cell 1;have y2:=(bB.kept hw').cell 2;have yo:=((hX.kept hw').cell o).trans (qCC ho);go_simp;first|done|rfl))
   | refine qqN (by rfl) (hK _ ?_)
  clear hK K;simp only [Act.put,qqB]
 refine qqH _ rfl (by rfl) (fun K hK=>?_)
 obtain ⟨cc,z7,hc7,sl7,k7⟩:=qMx z1 (B o) (by rw [h32];decide)
 have H32:=qh h32
 clear h32
 go_wp2
 refine hK _ _ (k7) ?_
 clear hK K
 try simp only [Act.put,qqB]
 repeat
  refine qA0 _ rfl (fun K hK=>?_)
  first
   | (refine qqP (by rfl) ?_;apply Exists.intro;refine ⟨fun w' hw'=>?_,hK _ ?_⟩;go_simp;first|done|rfl)
   | refine qqN (by rfl) (hK _ ?_)
  clear hK K;simp only [Act.put,qqB]
 refine qAc _ rfl (fun K hK=>?_)
 refine qqP (by rfl) ?_
 have x0:=(bT.kept k7).cell 0
 have x1:=(bT.kept k7).cell 1
 have f0:=(bT.kept k7).free 0
 have f1:=(bT.kept k7).free 1
 go_wp2
 refine qA6 ?_
 go_wp2_with fail
 have hX7:=hX.kept k7
 have bR:=((bT.kept k7).set 0 (.int .i64 0)).set 1 (.slice (some ⟨z1.heap.size,0,none⟩) (B o).length cc)
 have hcE : Chg [X,w.heap.size + 1] w ((z7.setCell ⟨w.heap.size + 1,0,none⟩ (.int .i64 0)).setCell ⟨w.heap.size + 1,1,none⟩ (.slice (some ⟨z1.heap.size,0,none⟩) (B o).length cc)):=((Chg.mono (bs:=[X]) (cs:=[X,w.heap.size + 1]) (Chg.of_kept (k01.of k7)) (by simp)).set (b:=w.heap.size + 1) (by simp) 0 _).set (b:=w.heap.size + 1) (by simp) 1 _
 have hcT : Chg [w.heap.size + 1] z7 ((z7.setCell ⟨w.heap.size + 1,0,none⟩ (.int .i64 0)).setCell ⟨w.heap.size + 1,1,none⟩ (.slice (some ⟨z1.heap.size,0,none⟩) (B o).length cc)):=((Chg.refl _ _).set qsm 0 _).set qsm 1 _
 have r0:=bR.cell 0
 have r1:=bR.cell 1
 clear f0 f1 x0 x1
 generalize ((z7.setCell ⟨w.heap.size + 1,0,none⟩ (.int .i64 0)).setCell ⟨w.heap.size + 1,1,none⟩ (.slice (some ⟨z1.heap.size,0,none⟩) (B o).length cc)) = wE at *
 refine bodyPost_ret (v:=.agg #[.int .i64 0,.slice (some ⟨z1.heap.size,0,none⟩) (B o).length cc]) (by simp [results,results14,go_sem,r0,r1];try exact ⟨rfl,rfl⟩) rfl ⟨_,rfl,⟨L,hcT.blk hX7 (by rw [List.mem_singleton];omega)⟩,hcT.sl sl7 (fun a c e _=>by simp at e;have h1:=hz1.size;have h2:=bT.lt;rw [← e.1,List.mem_singleton];show ¬ z1.heap.size = _;omega),hcE.new (by omega)⟩
theorem qI1 {w : World} {X : Nat} {B : Nat → List UInt8} (h : MoAt w X B) (lb : Int) (hd : isD lb = true) (dt : List UInt8) (hdt : dt.length = 32) (a : Option Addr) (cap : Nat) (hs : Sl w (.slice a dt.length cap) dt.length (qA1 dt)) (hl : dt.length ≤ 1000000) : Calls prog 14 #[.pointer (some ⟨X,0,none⟩),.agg #[.int .i64 2,.int .i64 lb,.slice a dt.length cap]] w fun e w'=>∃ v,e = .returned (.agg #[.int .i64 0,v]) ∧ MoAt w' X (upd B lb.toNat dt) ∧ Sl w' v 0 [] ∧ Chg [X] w w':=by
 obtain ⟨o,rfl,ho⟩ : ∃ o : Nat,lb = (o : Int) ∧ o < 32:=⟨lb.toNat,by have h1:=hd;simp [isD] at h1;omega,by have h1:=hd;simp [isD] at h1;omega⟩
 have n0 : (0 : Int) ≤ (o : Int):=by omega
 have n1 : (o : Int) < 32:=by omega
 have his : Cl.is ⟨2,(o : Int),dt⟩ = true:=by unfold Cl.is;rw [if_neg (show ¬ (2 : Int) = 1 by decide),if_neg (show ¬ (2 : Int) = 4 by decide),if_pos rfl];simp [hd,hdt]
 rw [Int.toNat_natCast]
 clear hdt
 obtain ⟨L,h⟩:=h
 have CI:=fun z=>qF1 ⟨2,(o : Int),dt⟩ a cap hl z
 rw [his] at CI
 have hl0 : dt.length ≤ 1000000:=hl
 have hW0 : Kept w ((w.alloc (.cells #[.int .i64 2,.int .i64 (o : Int),.slice a dt.length cap] 34)).alloc (.cells #[.int .i64 0,.slice none 0 0] 44)):=(qal _).alloc (by simp) _
 have bB:=(Blk.new w #[.int .i64 2,.int .i64 (o : Int),.slice a dt.length cap] 34).kept (w':=((w.alloc (.cells #[.int .i64 2,.int .i64 (o : Int),.slice a dt.length cap] 34)).alloc (.cells #[.int .i64 0,.slice none 0 0] 44))) (qal _)
 have bT : Blk ((w.alloc (.cells #[.int .i64 2,.int .i64 (o : Int),.slice a dt.length cap] 34)).alloc (.cells #[.int .i64 0,.slice none 0 0] 44)) (w.heap.size + 1) #[.int .i64 0,.slice none 0 0] 44:=by simpa using Blk.new (w.alloc (.cells #[.int .i64 2,.int .i64 (o : Int),.slice a dt.length cap] 34)) #[.int .i64 0,.slice none 0 0] 44
 have hX:=h.kept hW0
 have hXw:=h.lt
 have hs0:=hs.kept hW0
 have q0:=bB.cell 0
 have q1:=bB.cell 1
 have q2:=bB.cell 2
 go_enter func14,ntmps14
 go_wp2_with fail
 refine (CI _).mono ?_
 rintro e w1 ⟨rfl,k1⟩
 clear CI
 replace hX:=hX.kept k1
 replace bB:=bB.kept k1
 replace bT:=bT.kept k1
 replace hs0:=hs0.kept k1
 have k01:=hW0.of k1
 clear hW0
 have q0:=bB.cell 0
 have q1:=bB.cell 1
 have q2:=bB.cell 2
 have x0:=bT.cell 0
 have x1:=bT.cell 1
 have f0:=bT.free 0
 have f1:=bT.free 1
 go_wp2_with fail
 refine qA3 [(0,0),(1,0),(2,0),(3,0),(4,0),(5,0),(6,1),(7,1),(8,0),(9,2)] (by kernel_rfl) (by kernel_rfl) ?_
 intro z1 hz1
 replace hX:=hX.kept hz1
 replace bB:=bB.kept hz1
 replace bT:=bT.kept hz1
 replace hs0:=hs0.kept hz1
 replace k01:=k01.of hz1
 clear q0 q1 q2 x0 x1 f0 f1
 repeat
  refine qA0 _ rfl (fun K hK=>?_)
  first
   | (refine qqP (by rfl) ?_;apply Exists.intro;refine ⟨fun w' hw'=>?_,hK _ ?_⟩;(have s1:=qDE (v:=.slice a dt.length cap) (bs:=dt) (hs0.kept hw');have y1:=(bB.kept hw').cell 1;have y2:=(bB.kept hw').cell 2;have yo:=((hX.kept hw').cell o).trans (qCC ho);go_simp;first|done|rfl))
   | refine qqN (by rfl) (hK _ ?_)
  clear hK K;simp only [Act.put,qqB]
 refine qqH _ rfl (by rfl) (fun K hK=>?_)
 go_wp2
 refine hK _ _ (Below.refl _ _) ?_
 clear hK K
 try simp only [Act.put,qqB]
 refine qqH _ rfl (by rfl) (fun K hK=>?_)
 go_wp2
 refine hK _ _ (Below.refl _ _) ?_
 clear hK K
 try simp only [Act.put,qqB]
 repeat
  refine qA0 _ rfl (fun K hK=>?_)
  first
   | (refine qqP (by rfl) ?_;apply Exists.intro;refine ⟨fun w' hw'=>?_,hK _ ?_⟩;(have y1:=(bB.kept hw').cell 1;have y2:=(bB.kept hw').cell 2;have yo:=((hX.kept hw').cell o).trans (qCC ho);go_simp;first|done|rfl))
   | refine qqN (by rfl) (hK _ ?_)
  clear hK K;simp only [Act.put,qqB]
 refine qAc _ rfl (fun K hK=>?_)
 refine qqP (by rfl) ?_
 have fo:=hX.free o
 have xo:=(hX.cell o).trans (qCC ho)
 have hsc:=qFz _ X o dt xo fo
 go_wp2
 rw [hsc]
 go_wp2
 refine qA6 ?_
 have hXn:=hX.set o (Str dt)
 rw [qEp _ _ _ _ ho] at hXn
 have hcX : Chg [X] z1 (z1.setCell ⟨X,o,none⟩ (Str dt)):=Chg.step qsm _
 have bTn:=hcX.blk bT (by rw [List.mem_singleton];omega)
 have x0:=bTn.cell 0
 have x1:=bTn.cell 1
 have f0:=bTn.free 0
 have f1:=bTn.free 1
 generalize (z1.setCell ⟨X,o,none⟩ (Str dt)) = wX at *
 go_wp2_with fail
 have bR:=((bTn).set 0 (.int .i64 0)).set 1 (.slice none 0 0)
 have hcE : Chg [X,w.heap.size + 1] w ((wX.setCell ⟨w.heap.size + 1,0,none⟩ (.int .i64 0)).setCell ⟨w.heap.size + 1,1,none⟩ (.slice none 0 0)):=((Chg.mono (bs:=[X]) (cs:=[X,w.heap.size + 1]) ((Chg.of_kept k01).trans hcX) (by simp)).set (b:=w.heap.size + 1) (by simp) 0 _).set (b:=w.heap.size + 1) (by simp) 1 _
 have hcT : Chg [w.heap.size + 1] wX ((wX.setCell ⟨w.heap.size + 1,0,none⟩ (.int .i64 0)).setCell ⟨w.heap.size + 1,1,none⟩ (.slice none 0 0)):=((Chg.refl _ _).set qsm 0 _).set qsm 1 _
 have r0:=bR.cell 0
 have r1:=bR.cell 1
 clear f0 f1 x0 x1
 generalize ((wX.setCell ⟨w.heap.size + 1,0,none⟩ (.int .i64 0)).setCell ⟨w.heap.size + 1,1,none⟩ (.slice none 0 0)) = wE at *
 refine bodyPost_ret (v:=.agg #[.int .i64 0,.slice none 0 0]) (by simp [results,results14,go_sem,r0,r1];try exact ⟨rfl,rfl⟩) rfl ⟨_,rfl,⟨L,hcT.blk hXn (by rw [List.mem_singleton];omega)⟩,Sl.nil _,hcE.new (by omega)⟩
theorem qFJ {w : World} {X : Nat} {B : Nat → List UInt8} (h : MoAt w X B) (lb : Int) (hd : isD lb = true) (dt : List UInt8) (a : Option Addr) (cap : Nat) (hs : Sl w (.slice a dt.length cap) dt.length (qA1 dt)) (hl : dt.length ≤ 1000000) : Calls prog 14 #[.pointer (some ⟨X,0,none⟩),.agg #[.int .i64 4,.int .i64 lb,.slice a dt.length cap]] w fun e w'=>∃ v,e = .returned (.agg #[.int .i64 0,v]) ∧ MoAt w' X (upd B lb.toNat (List.replicate 32 0)) ∧ Sl w' v 0 [] ∧ Chg [X] w w':=by
 obtain ⟨Z,hZ⟩ : ∃ Z,Z = List.replicate 32 (0 : UInt8):=⟨_,rfl⟩
 have hmk : ∀ w : World,(Instr.makeSlice 32 (.int .i64 32) (.int .i64 32)).run prog w = .ok (.slice (some ⟨w.heap.size,0,none⟩) 32 32) (w.alloc (.cells (qA1 Z).toArray 5)):=fun w=>by rw [hZ];exact qDx w
 have hzl : Z.length = 32:=by rw [hZ];simp
 rw [← hZ]
 have HZL:=qh hzl
 have HZ:=qh hZ
 clear hZ hzl
 obtain ⟨o,rfl,ho⟩ : ∃ o : Nat,lb = (o : Int) ∧ o < 32:=⟨lb.toNat,by have h1:=hd;simp [isD] at h1;omega,by have h1:=hd;simp [isD] at h1;omega⟩
 have n0 : (0 : Int) ≤ (o : Int):=by omega
 have n1 : (o : Int) < 32:=by omega
 have his : Cl.is ⟨4,(o : Int),dt⟩ = true:=by unfold Cl.is;rw [if_neg (show ¬ (4 : Int) = 1 by decide),if_pos rfl];exact hd
 rw [Int.toNat_natCast]
 obtain ⟨L,h⟩:=h
 have CI:=fun z=>qF1 ⟨4,(o : Int),dt⟩ a cap hl z
 rw [his] at CI
 have hl0 : dt.length ≤ 1000000:=hl
 have hW0 : Kept w ((w.alloc (.cells #[.int .i64 4,.int .i64 (o : Int),.slice a dt.length cap] 34)).alloc (.cells #[.int .i64 0,.slice none 0 0] 44)):=(qal _).alloc (by simp) _
 have bB:=(Blk.new w #[.int .i64 4,.int .i64 (o : Int),.slice a dt.length cap] 34).kept (w':=((w.alloc (.cells #[.int .i64 4,.int .i64 (o : Int),.slice a dt.length cap] 34)).alloc (.cells #[.int .i64 0,.slice none 0 0] 44))) (qal _)
 have bT : Blk ((w.alloc (.cells #[.int .i64 4,.int .i64 (o : Int),.slice a dt.length cap] 34)).alloc (.cells #[.int .i64 0,.slice none 0 0] 44)) (w.heap.size + 1) #[.int .i64 0,.slice none 0 0] 44:=by simpa using Blk.new (w.alloc (.cells #[.int .i64 4,.int .i64 (o : Int),.slice a dt.length cap] 34)) #[.int .i64 0,.slice none 0 0] 44
 have hX:=h.kept hW0
 have hXw:=h.lt
 have hs0:=hs.kept hW0
 have q0:=bB.cell 0
 have q1:=bB.cell 1
 have q2:=bB.cell 2
 go_enter func14,ntmps14
 go_wp2_with fail
 refine (CI _).mono ?_
 rintro e w1 ⟨rfl,k1⟩
 clear CI
 replace hX:=hX.kept k1
 replace bB:=bB.kept k1
 replace bT:=bT.kept k1
 replace hs0:=hs0.kept k1
 have k01:=hW0.of k1
 clear hW0
 have q0:=bB.cell 0
 have q1:=bB.cell 1
 have q2:=bB.cell 2
 have x0:=bT.cell 0
 have x1:=bT.cell 1
 have f0:=bT.free 0
 have f1:=bT.free 1
 go_wp2_with fail
 refine qA9 [X] [(0,0),(1,0),(2,0),(5,0),(6,0),(3,1),(4,0),(7,0),(8,1)] (by kernel_rfl) (by kernel_rfl) ?_
 intro z1 hz1
 replace hX:=hX.kept hz1
 replace bB:=bB.kept hz1
 replace bT:=bT.kept hz1
 replace hs0:=hs0.kept hz1
 replace k01:=k01.of hz1
 clear q0 q1 q2 x0 x1 f0 f1
 have hnB : w.heap.size ∉ [X]:=by rw [List.mem_singleton];omega
 have hnz : ¬ z1.heap.size = X:=by have:=hX.lt;omega
 repeat
  refine qA0 _ rfl (fun K hK=>?_)
  first
   | (refine qqP (by rfl) ?_;apply Exists.intro;refine ⟨fun w' hw'=>?_,hK _ ?_⟩;(have y1:=(hw'.blk bB hnB).cell 1;have y2:=(hw'.blk bB hnB).cell 2;go_simp;first|done|rfl))
   | refine qqN (by rfl) (hK _ ?_)
  clear hK K;simp only [Act.put,qqB]
 refine qqH _ rfl (by rfl) (fun K hK=>?_)
 have hown : (z1.alloc (.cells (qA1 Z).toArray 5)).ownsRow z1.heap.size 5 1 (.slice (some ⟨z1.heap.size,0,none⟩) 32 32) 32 (qA1 Z):=by rw [HZ.out];exact qEl z1
 have kz : Kept z1 (z1.alloc (.cells (qA1 Z).toArray 5)):=qal _
 go_wp2
 refine hK _ _ (Chg.of_kept kz) ?_
 clear hK K
 try simp only [Act.put,qqB]
 repeat
  refine qA0 _ rfl (fun K hK=>?_)
  first
   | (refine qqP (by rfl) ?_;apply Exists.intro;refine ⟨fun w' hw'=>?_,hK _ ?_⟩;(have s1:=qDE (v:=.slice (some ⟨z1.heap.size,0,none⟩) 32 32) (bs:=Z) (by rw [HZL.out];exact hw'.sl (Sl.of_own hown) (fun a c e _=>by simp at e;rw [← e.1,List.mem_singleton];exact hnz));have y1:=(hw'.blk (bB.kept kz) hnB).cell 1;go_simp;first|done|rfl))
   | refine qqN (by rfl) (hK _ ?_)
  clear hK K;simp only [Act.put,qqB]
 refine qqH _ rfl (by rfl) (fun K hK=>?_)
 have hXz:=hX.kept kz
 have fo:=hXz.free o
 have xo:=(hXz.cell o).trans (qCC ho)
 have hsc:=qFz _ X o Z xo fo
 go_wp2
 rw [hsc]
 go_wp2
 refine hK _ _ (Chg.step qsm _) ?_
 clear hK K
 try simp only [Act.put,qqB]
 refine qA6 ?_
 have bTz:=bT.kept kz
 have hXn:=hXz.set o (Str Z)
 rw [qEp _ _ _ _ ho] at hXn
 have hcX : Chg [X] (z1.alloc (.cells (qA1 Z).toArray 5)) ((z1.alloc (.cells (qA1 Z).toArray 5)).setCell ⟨X,o,none⟩ (Str Z)):=Chg.step qsm _
 have bTn:=hcX.blk bTz (by rw [List.mem_singleton];omega)
 have x0:=bTn.cell 0
 have x1:=bTn.cell 1
 have f0:=bTn.free 0
 have f1:=bTn.free 1
 generalize ((z1.alloc (.cells (qA1 Z).toArray 5)).setCell ⟨X,o,none⟩ (Str Z)) = wX at *
 go_wp2_with fail
 have bR:=((bTn).set 0 (.int .i64 0)).set 1 (.slice none 0 0)
 have hcE : Chg [X,w.heap.size + 1] w ((wX.setCell ⟨w.heap.size + 1,0,none⟩ (.int .i64 0)).setCell ⟨w.heap.size + 1,1,none⟩ (.slice none 0 0)):=((Chg.mono (bs:=[X]) (cs:=[X,w.heap.size + 1]) ((Chg.of_kept (k01.of kz)).trans hcX) (by simp)).set (b:=w.heap.size + 1) (by simp) 0 _).set (b:=w.heap.size + 1) (by simp) 1 _
 have hcT : Chg [w.heap.size + 1] wX ((wX.setCell ⟨w.heap.size + 1,0,none⟩ (.int .i64 0)).setCell ⟨w.heap.size + 1,1,none⟩ (.slice none 0 0)):=((Chg.refl _ _).set qsm 0 _).set qsm 1 _
 have r0:=bR.cell 0
 have r1:=bR.cell 1
 clear f0 f1 x0 x1
 generalize ((wX.setCell ⟨w.heap.size + 1,0,none⟩ (.int .i64 0)).setCell ⟨w.heap.size + 1,1,none⟩ (.slice none 0 0)) = wE at *
 refine bodyPost_ret (v:=.agg #[.int .i64 0,.slice none 0 0]) (by simp [results,results14,go_sem,r0,r1];try exact ⟨rfl,rfl⟩) rfl ⟨_,rfl,⟨L,hcT.blk hXn (by rw [List.mem_singleton];omega)⟩,Sl.nil _,hcE.new (by omega)⟩
theorem qI2 {w : World} {X : Nat} {a b c : Value} {t : TypeId} (h : Blk w X #[a,b,c] t) : (loadCells ⟨X,0,none⟩ 3).run prog w = .ok #[a,b,c] w:=by
 have:=run_loadCells_list (P:=prog) w ⟨X,0,none⟩ [a,b,c] (fun j v hv=>by
  have hadd : (⟨X,0,none⟩ : Addr).add j = ⟨X,0 + j,none⟩:=by unfold Addr.add;split <;> simp_all
  rw [hadd,Nat.zero_add,h.cell j]
  simpa using hv)
 exact this
theorem qKP {w : World} {X : Nat} {a b c d : Value} {t : TypeId} (h : Blk w X #[a,b] t) (hc : c.oneCell' = true) (hd : d.oneCell' = true) : (storeCells ⟨X,0,none⟩ [c,d]).run prog w = .ok () ((w.setCell ⟨X,0,none⟩ c).setCell ⟨X,1,none⟩ d):=by
 have:=run_storeCells_cells (P:=prog) X 0 [c,d] 0 w (fun j hj=>by
  have : j = 0 ∨ j = 1:=by simp at hj;omega
  rcases this with rfl | rfl
  · rw [h.cell];rfl
  · rw [h.cell];rfl) (fun j _=>h.free _) (fun v hv=>by
  simp at hv
  rcases hv with rfl | rfl
  · exact hc
  · exact hd)
 exact this
section
attribute [-go_sem] storeCells loadCells
theorem qJ6 {w : World} {X : Nat} {B : Nat → List UInt8} (h : MoAt w X B) (k lb : Int) (hk : k = 3 ∨ k = 5) (dt : List UInt8) (a : Option Addr) (cap : Nat) (hs : Sl w (.slice a dt.length cap) dt.length (qA1 dt)) (hl : dt.length ≤ 1000000) : Calls prog 14 #[.pointer (some ⟨X,0,none⟩),.agg #[.int .i64 k,.int .i64 lb,.slice a dt.length cap]] w fun e w'=>∃ v,e = .returned (.agg #[.int .i64 0,v]) ∧ MoAt w' X B ∧ Sl w' v 0 [] ∧ Chg [X] w w':=by
 have i1 : (k == 1) = false:=by rcases hk with rfl | rfl <;> rfl
 have i2 : (k == 2) = false:=by rcases hk with rfl | rfl <;> rfl
 have i4 : (k == 4) = false:=by rcases hk with rfl | rfl <;> rfl
 have his : Cl.is ⟨k,lb,dt⟩ = true:=by rcases hk with rfl | rfl <;> rfl
 clear hk
 obtain ⟨L,h⟩:=h
 have CI:=fun z=>qF1 ⟨k,lb,dt⟩ a cap hl z
 rw [his] at CI
 have hl0 : dt.length ≤ 1000000:=hl
 have hW0 : Kept w ((w.alloc (.cells #[.int .i64 k,.int .i64 lb,.slice a dt.length cap] 34)).alloc (.cells #[.int .i64 0,.slice none 0 0] 44)):=(qal _).alloc (by simp) _
 have bB:=(Blk.new w #[.int .i64 k,.int .i64 lb,.slice a dt.length cap] 34).kept (w':=((w.alloc (.cells #[.int .i64 k,.int .i64 lb,.slice a dt.length cap] 34)).alloc (.cells #[.int .i64 0,.slice none 0 0] 44))) (qal _)
 have bT : Blk ((w.alloc (.cells #[.int .i64 k,.int .i64 lb,.slice a dt.length cap] 34)).alloc (.cells #[.int .i64 0,.slice none 0 0] 44)) (w.heap.size + 1) #[.int .i64 0,.slice none 0 0] 44:=by simpa using Blk.new (w.alloc (.cells #[.int .i64 k,.int .i64 lb,.slice a dt.length cap] 34)) #[.int .i64 0,.slice none 0 0] 44
 have hX:=h.kept hW0
 have hXw:=h.lt
 have hs0:=hs.kept hW0
 have q0:=bB.cell 0
 have q1:=bB.cell 1
 have q2:=bB.cell 2
 have hl3:=qI2 bB
 go_enter func14,ntmps14
 go_wp2_with fail
 refine (CI _).mono ?_
 rintro e w1 ⟨rfl,k1⟩
 clear CI hl3
 replace hX:=hX.kept k1
 replace bB:=bB.kept k1
 replace bT:=bT.kept k1
 replace hs0:=hs0.kept k1
 have hl3:=qI2 bB
 obtain ⟨A,wX,hAs,hld,hst,hXn,hcX⟩:=qO6 hX
 have bTn:=hcX.blk bT (by rw [List.mem_singleton];omega)
 have hs2:=qKP bTn (c:=.int .i64 0) (d:=.slice none 0 0) rfl rfl
 have k01:=hW0.of k1
 clear hW0
 have q0:=bB.cell 0
 have q1:=bB.cell 1
 have q2:=bB.cell 2
 have x0:=bT.cell 0
 have x1:=bT.cell 1
 have f0:=bT.free 0
 have f1:=bT.free 1
 go_wp2_with fail
 have bR:=((bTn).set 0 (.int .i64 0)).set 1 (.slice none 0 0)
 have hcE : Chg [X,w.heap.size + 1] w ((wX.setCell ⟨w.heap.size + 1,0,none⟩ (.int .i64 0)).setCell ⟨w.heap.size + 1,1,none⟩ (.slice none 0 0)):=((Chg.mono (bs:=[X]) (cs:=[X,w.heap.size + 1]) ((Chg.of_kept k01).trans hcX) (by simp)).set (b:=w.heap.size + 1) (by simp) 0 _).set (b:=w.heap.size + 1) (by simp) 1 _
 have hcT : Chg [w.heap.size + 1] wX ((wX.setCell ⟨w.heap.size + 1,0,none⟩ (.int .i64 0)).setCell ⟨w.heap.size + 1,1,none⟩ (.slice none 0 0)):=((Chg.refl _ _).set qsm 0 _).set qsm 1 _
 have r0:=bR.cell 0
 have r1:=bR.cell 1
 clear f0 f1 x0 x1
 generalize ((wX.setCell ⟨w.heap.size + 1,0,none⟩ (.int .i64 0)).setCell ⟨w.heap.size + 1,1,none⟩ (.slice none 0 0)) = wE at *
 refine bodyPost_ret (v:=.agg #[.int .i64 0,.slice none 0 0]) (by simp [results,results14,go_sem,loadCells,r0,r1];try exact ⟨rfl,rfl⟩) rfl ⟨_,rfl,⟨_,hcT.blk hXn (by rw [List.mem_singleton];omega)⟩,Sl.nil _,hcE.new (by omega)⟩
end
end Go.Proofs.YtdlgihbpiakebaaGreat
