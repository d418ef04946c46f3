import Derived.Test.YtdlgihbpiakebaaGreatMk39
import Derived.Test.YtdlgihbpiakebaaGreatMk41
import Derived.Test.YtdlgihbpiakebaaGreatMk42
set_option maxRecDepth 100000
set_option maxHeartbeats 4000000
namespace Go.Proofs.YtdlgihbpiakebaaGreat
open Go Go.RowKit Tryz
def Wd.opened (x:Wd)(rec:List UInt8):Option Rt:=
 if gK rec=true∧x.eps.contains (gN rec).epoch=true∧((gN rec).version>>>32 != x.c.at_)=false then
  match x.l.openP (qFd x.seed x.eps (gN rec).epoch) (gN rec) [] (gS rec) (gT rec) with
  | none=>none
  | some b=>qIS b
 else none
def qSj (o:Option Rt):Rt:=o.getD Rt.zero
theorem qJ9 (bs:List UInt8):(gS bs).length≤32:=by
 unfold gS
 split
 · unfold qRI;rw[List.length_take];omega
 · simp
theorem qKt {x:Wd}(hd:x.l.dataOk){key:qAD}{n:Nn}{head out:List UInt8}{tag:qAD}{b:List UInt8}(h:x.l.openP key n head out tag=some b)(ho:out.length≤4000):b.length≤4000:=by
 cases hl:x.l with
 | real =>
  rw[hl]at h
  unfold Lk.openP at h
  simp only at h
  split at h
  · cases h;rw[qBB];exact ho
  · cases h
 | ideal iss sums =>
  rw[hl]at h hd
  unfold Lk.openP qEL at h
  simp only at h
  cases hf:iss.find? (fun x=>x.opens key n head out tag) with
  | none=>rw[hf]at h;cases h
  | some y =>
   rw[hf]at h
   cases h
   exact(hd y (List.mem_of_find?_eq_some hf)).1
theorem qMh {col:Nat→Nat}{w:World}{P:qAU}{x:Wd}{m:Nat}(hW:qAW col w P x)(fi:x.fine m)(hm:m≤70000)(vr:Value)(rec:List UInt8)(hrl:rec.length≤4000)(hs:Sl w vr rec.length (qA1 rec)) :
 Calls prog 103 #[.pointer (some ⟨P.W,0,none⟩),vr] w fun e w'=>e= .returned (.tuple #[(qSj (x.opened rec)).val,.bool (x.opened rec).isSome])∧qA4 w w':=by
 obtain⟨ra,rc,rfl⟩:=hs.len
 obtain⟨N,hN⟩:∃N,N=x.n:=⟨_,rfl⟩
 have e7:=hW.blk
 rw[←hN]at e7
 have e3:qA4 w (w.alloc (.cells #[U 0#64,W 0#32,.int .i64 0,U 0#64,U 0#64] 148)):=qal _
 have bZ:=Blk.new w #[U 0#64,W 0#32,.int .i64 0,U 0#64,U 0#64] 148
 have CR:=qMc _ rec hrl (w.alloc (.cells #[U 0#64,W 0#32,.int .i64 0,U 0#64,U 0#64] 148)) (hs.kept e3)
 obtain⟨n,hn⟩:∃n,n=gN rec:=⟨_,rfl⟩
 obtain⟨T,hT⟩:∃y,y=gT rec:=⟨_,rfl⟩
 obtain⟨B1,c9⟩:∃b,b=gK rec:=⟨_,rfl⟩
 rw[←hn,←hT,←c9]at CR
 unfold Nn.val at CR
 have b5:=qh hn
 have g3:=qh hT
 have e1:=qh c9
 obtain⟨T1,T2⟩:=T
 obtain⟨ky,e9⟩:∃y,y=qFd x.seed x.eps n.epoch:=⟨_,rfl⟩
 have d8:=qh e9
 obtain⟨k1,k2⟩:=ky
 obtain⟨B2,e5⟩:∃b,b=x.eps.contains n.epoch:=⟨_,rfl⟩
 have b8:=qh e5
 clear hn hT c9 e9 e5 hN
 go_enter func103,ntmps103
 go_wp2_with fail
 generalize (w.alloc (.cells #[U 0#64,W 0#32,.int .i64 0,U 0#64,U 0#64] 148))=wA at *
 refine CR.mono ?_
 rintro e w1 ⟨u,rfl,su,g4⟩
 obtain⟨ua,uc,rfl⟩:=su.len
 obtain⟨ul,b9⟩:∃l,l=(gS rec).length:=⟨_,rfl⟩
 rw[←b9]
 have f7:Sl w1 (.slice ua ul uc) (gS rec).length (qA1 (gS rec)):=by rw[b9];exact su
 have g7:=qh b9
 clear b9 su
 have b6:qA4 w1 ((w1.alloc (.cells #[W n.epoch,W n.slot,U n.version] 113)).alloc (.cells #[.slice ua ul uc,U T1,U T2] 165)):=(qal _).alloc (by simp) _
 have e2:=(Blk.new w1 #[W n.epoch,W n.slot,U n.version] 113).alloc (.cells #[.slice ua ul uc,U T1,U T2] 165)
 have c8:=Blk.new (w1.alloc (.cells #[W n.epoch,W n.slot,U n.version] 113)) #[.slice ua ul uc,U T1,U T2] 165
 rw[World.size_alloc]at c8
 go_wp2_with fail
 obtain⟨w3,e8⟩:∃y,y=((w1.alloc (.cells #[W n.epoch,W n.slot,U n.version] 113)).alloc (.cells #[.slice ua ul uc,U T1,U T2] 165)):=⟨_,rfl⟩
 rw[←e8]at b6 e2 c8 ⊢
 clear e8
 have d6:=e2
 have g6:=c8
 have b3:=g4.of b6
 have a1:=e3.of b3
 have d5:=e7.kept a1
 have f9:=f7.kept b6
 go_wp2_with fail
 refine qBj w3.heap.size [(0,0),(1,0),(2,0),(3,0),(4,0),(5,0),(7,0),(8,0),(9,0),(12,0)] ((.light 0 (.light 1 (.light 2 (.light 3 (.light 4 (.light 5 (.two 6 10 (.light 7 (.light 8 (.light 9 (.heavy 10 (.heavy 11 (.light 12 .nil)))))) (.heavy 6 (.light 7 (.light 8 (.light 9 (.heavy 11 (.light 12 .nil)))))))))))))) (by kernel_rfl) (by kernel_rfl) ?_
 intro z0 a5
 have V:qA4 z0 z0:=Below.refl _ _
 have f6:=d5.kept a5
 have f8:=d6.kept a5
 refine qA2 _ rfl (fun J G=>?_)
 refine qqP (by rfl) ?_;apply Exists.intro;refine⟨fun w' j=>?_,G _ ?_⟩
 · go_simp;first|done|rfl
 clear G J;simp only[Act.put,qqB]
 refine qA2 _ rfl (fun J G=>?_)
 refine qqP (by rfl) ?_;apply Exists.intro;refine⟨fun w' j=>?_,G _ ?_⟩
 · go_simp;first|done|rfl
 clear G J;simp only[Act.put,qqB]
 refine qA2 _ rfl (fun J G=>?_)
 refine qqP (by rfl) ?_;apply Exists.intro;refine⟨fun w' j=>?_,G _ ?_⟩
 · go_simp;first|done|rfl
 clear G J;simp only[Act.put,qqB]
 refine qA2 _ rfl (fun J G=>?_)
 refine qqP (by rfl) ?_;apply Exists.intro;refine⟨fun w' j=>?_,G _ ?_⟩
 · have c:=(f6.below j d5.lt);have c5:=c.cell 5;clear c;go_simp;first|done|rfl
 clear G J;simp only[Act.put,qqB]
 refine qA2 _ rfl (fun J G=>?_)
 refine qqP (by rfl) ?_;apply Exists.intro;refine⟨fun w' j=>?_,G _ ?_⟩
 · go_simp;first|done|rfl
 clear G J;simp only[Act.put,qqB]
 refine qA2 _ rfl (fun J G=>?_)
 refine qqP (by rfl) ?_;apply Exists.intro;refine⟨fun w' j=>?_,G _ ?_⟩
 · have c:=(f8.below j d6.lt);have c0:=c.cell 0;clear c;go_simp;first|done|rfl
 clear G J;simp only[Act.put,qqB]
 refine qC2 ?_ ?_
 focus
  refine qAc _ rfl (fun J G=>?_)
  refine qqP (by rfl) ?_
  go_wp2_with fail
  refine(qIY (hW.kept (a1.of (a5.of V))) fi.ok (by omega) n.epoch).mono ?_
  rintro e y1 ⟨rfl,ka⟩
  rw[←d8.out,←b8.out]
  have a0:=Nat.le_trans a5.size V.size
  replace V:=V.of ka
  unfold Pr
  go_wp2
  refine G _ _ (ka.mono a0) ?_
  clear G J
  try simp only[Act.put,qqB]
  clear a0
  refine qA2 _ rfl (fun J G=>?_)
  refine qqP (by rfl) ?_;apply Exists.intro;refine⟨fun w' j=>?_,G _ ?_⟩
  · go_simp;first|done|rfl
  clear G J;simp only[Act.put,qqB]
  refine qA2 _ rfl (fun J G=>?_)
  refine qqP (by rfl) ?_;apply Exists.intro;refine⟨fun w' j=>?_,G _ ?_⟩
  · go_simp;first|done|rfl
  clear G J;simp only[Act.put,qqB]
  refine qA2 _ rfl (fun J G=>?_)
  refine qqP (by rfl) ?_;apply Exists.intro;refine⟨fun w' j=>?_,G _ ?_⟩
  · go_simp;first|done|rfl
  clear G J;simp only[Act.put,qqB]
  refine qAc _ rfl (fun J G=>?_)
  refine qqP (by rfl) ?_
  have kb:qA4 y1 (y1.alloc (.cells #[U 0#64,U 0#64] 115)):=qal _
  have bY:=Blk.new y1 #[U 0#64,U 0#64] 115
  have a0:=Nat.le_trans a5.size V.size
  obtain⟨gk,a6⟩:∃g,g=y1.heap.size:=⟨_,rfl⟩
  rw[←a6]at bY
  replace V:=V.of kb
  go_wp2
  refine G _ _ (kb.mono a0) ?_
  clear G J
  try simp only[Act.put,qqB]
  rw[←a6]
  have d7:w3.heap.size≤gk:=by rw[a6];exact a0
  clear a6
  generalize (y1.alloc (.cells #[U 0#64,U 0#64] 115))=y2 at *
  clear a0
 rotate_left
 focus
  refine qAc _ rfl (fun J G=>?_)
  refine qqP (by rfl) ?_
  have kb:qA4 z0 (z0.alloc (.cells #[U 0#64,U 0#64] 115)):=qal _
  have bY:=Blk.new z0 #[U 0#64,U 0#64] 115
  have a0:=Nat.le_trans a5.size V.size
  obtain⟨gk,a6⟩:∃g,g=z0.heap.size:=⟨_,rfl⟩
  rw[←a6]at bY
  replace V:=V.of kb
  go_wp2
  refine G _ _ (kb.mono a0) ?_
  clear G J
  try simp only[Act.put,qqB]
  rw[←a6]
  have d7:w3.heap.size≤gk:=by rw[a6];exact a0
  clear a6
  generalize (z0.alloc (.cells #[U 0#64,U 0#64] 115))=y1 at *
  clear a0
  refine qAc _ rfl (fun J G=>?_)
  refine qqP (by rfl) ?_
  go_wp2_with fail
  refine(qIY (hW.kept (a1.of (a5.of V))) fi.ok (by omega) n.epoch).mono ?_
  rintro e y2 ⟨rfl,ka⟩
  rw[←d8.out,←b8.out]
  have a0:=Nat.le_trans a5.size V.size
  replace V:=V.of ka
  unfold Pr
  go_wp2
  refine G _ _ (ka.mono a0) ?_
  clear G J
  try simp only[Act.put,qqB]
  replace bY:=bY.kept ka
  clear a0
  refine qA2 _ rfl (fun J G=>?_)
  refine qqP (by rfl) ?_;apply Exists.intro;refine⟨fun w' j=>?_,G _ ?_⟩
  · go_simp;first|done|rfl
  clear G J;simp only[Act.put,qqB]
  refine qA2 _ rfl (fun J G=>?_)
  refine qqP (by rfl) ?_;apply Exists.intro;refine⟨fun w' j=>?_,G _ ?_⟩
  · go_simp;first|done|rfl
  clear G J;simp only[Act.put,qqB]
  refine qA2 _ rfl (fun J G=>?_)
  refine qqP (by rfl) ?_;apply Exists.intro;refine⟨fun w' j=>?_,G _ ?_⟩
  · go_simp;first|done|rfl
  clear G J;simp only[Act.put,qqB]
 all_goals
  refine qAc _ rfl (fun J G=>?_)
  refine qqP (by rfl) ?_
  have f0:=bY.free 0
  have f1:=bY.free 1
  have x0:=bY.cell 0
  have x1:=bY.cell 1
  have bK:=(bY.set 0 (U k1)).set 1 (U k2)
  simp only[qqA,qq0,qq1]at bK
  have c3:Below w3.heap.size y2 ((y2.setCell ⟨gk,0,none⟩ (U k1)).setCell ⟨gk,1,none⟩ (U k2)):=((Below.refl _ _).setCell (p:=⟨gk,0,none⟩) d7 _).setCell (p:=⟨gk,1,none⟩) d7 _
  have O:qA4 w3 ((y2.setCell ⟨gk,0,none⟩ (U k1)).setCell ⟨gk,1,none⟩ (U k2)):=Below.trans (a5.of V) c3
  go_wp2
  refine G _ _ (c3) ?_
  clear G J
  try simp only[Act.put,qqB]
  clear f0 f1 x0 x1
  generalize ((y2.setCell ⟨gk,0,none⟩ (U k1)).setCell ⟨gk,1,none⟩ (U k2))=zF at *
  refine qA2 _ rfl (fun J G=>?_)
  refine qqP (by rfl) ?_;apply Exists.intro;refine⟨fun w' j=>?_,G _ ?_⟩
  · go_simp;first|done|rfl
  clear G J;simp only[Act.put,qqB]
  refine qCZ ?_
  have a8:=d6.kept O
  have g1:=g6.kept O
  have a4:=d5.kept O
  have g2:=f9.kept O
  have CB:=fun z=>qLL n z
  unfold Nn.val at CB
  go_wp2_with fail
  cases B1 with
  | false =>
   have Y:x.opened rec=none:=by unfold Wd.opened;rw[if_neg];rintro⟨h,_⟩;rw[←e1.out]at h;cases h
   replace Y:=qh Y
   refine qA3 [(0,0),(1,0),(2,0),(3,0),(4,0),(5,0),(6,0),(7,0),(9,0),(10,0),(11,0),(12,0),(8,1),(13,1),(14,0),(15,0)] (by kernel_rfl) (by kernel_rfl) ?_
   intro z3 q
   repeat
    refine qA0 _ rfl (fun K F=>?_)
    first
     | (refine qqP (by rfl) ?_;apply Exists.intro;refine⟨fun w' j=>?_,F _ ?_⟩;(have c:=a8.kept (q.of j);have c0:=c.cell 0;have c1:=c.cell 1;have c2:=c.cell 2;clear c;have d:=a4.kept (q.of j);have d4:=d.cell 4;clear d;go_simp;first|done|rfl))
     | refine qqN (by rfl) (F _ ?_)
    clear F K;simp only[Act.put,qqB]
   refine qBa _ rfl (fun K F=>?_)
   refine qqN (by rfl) ?_
   intro a2
   refine a2 _ _ ?_
   clear F a2 K
   simp only[Act.put,qqB]
   refine qBa _ rfl (fun K F=>?_)
   refine qqN (by rfl) ?_
   intro a2
   refine a2 _ _ ?_
   clear F a2 K
   simp only[Act.put,qqB]
   repeat
    refine qA0 _ rfl (fun K F=>?_)
    first
     | (refine qqP (by rfl) ?_;apply Exists.intro;refine⟨fun w' j=>?_,F _ ?_⟩;(have c:=a8.kept (q.of j);have c0:=c.cell 0;have c1:=c.cell 1;have c2:=c.cell 2;clear c;have d:=a4.kept (q.of j);have d4:=d.cell 4;clear d;go_simp;first|done|rfl))
     | refine qqN (by rfl) (F _ ?_)
    clear F K;simp only[Act.put,qqB]
   refine qA6 ?_
   have f:=bZ.kept ((b3.of O).of q)
   have f0:=f.free 0
   have f1:=f.free 1
   have f2:=f.free 2
   have f3:=f.free 3
   have f4:=f.free 4
   have x0:=f.cell 0
   have x1:=f.cell 1
   have x2:=f.cell 2
   have x3:=f.cell 3
   have x4:=f.cell 4
   go_wp2_with fail
   have Z:=((((f.set 0 (U 0#64)).set 1 (W 0#32)).set 2 (.int .i64 0)).set 3 (U 0#64)).set 4 (U 0#64)
   have a7:qA4 w (((((z3.setCell ⟨w.heap.size,0,none⟩ (U 0#64)).setCell ⟨w.heap.size,1,none⟩ (W 0#32)).setCell ⟨w.heap.size,2,none⟩ (.int .i64 0)).setCell ⟨w.heap.size,3,none⟩ (U 0#64)).setCell ⟨w.heap.size,4,none⟩ (U 0#64)):=qAa (qAa (qAa (qAa (qAa ((a1.of O).of q) 0 _) 1 _) 2 _) 3 _) 4 _
   have r0:=Z.cell 0
   have r1:=Z.cell 1
   have r2:=Z.cell 2
   have r3:=Z.cell 3
   have r4:=Z.cell 4
   generalize (((((z3.setCell ⟨w.heap.size,0,none⟩ (U 0#64)).setCell ⟨w.heap.size,1,none⟩ (W 0#32)).setCell ⟨w.heap.size,2,none⟩ (.int .i64 0)).setCell ⟨w.heap.size,3,none⟩ (U 0#64)).setCell ⟨w.heap.size,4,none⟩ (U 0#64))=zE at *
   refine bodyPost_ret (v:=.tuple #[.agg #[U 0#64,W 0#32,.int .i64 0,U 0#64,U 0#64],.bool false]) (by simp[results,results103,go_sem,r0,r1,r2,r3,r4];done) rfl ⟨by rw[show x.opened rec=none from Y.out];rfl,a7⟩
  | true =>
   cases B2 with
   | false =>
    have Y:x.opened rec=none:=by unfold Wd.opened;rw[if_neg];rintro⟨_,h,_⟩;rw[←b5.out]at h;rw[←b8.out]at h;cases h
    replace Y:=qh Y
    refine qA3 [(0,0),(1,0),(2,0),(3,0),(4,0),(5,0),(6,0),(7,0),(9,0),(10,0),(11,0),(12,0),(8,1),(13,1),(14,0),(15,0)] (by kernel_rfl) (by kernel_rfl) ?_
    intro z3 q
    repeat
     refine qA0 _ rfl (fun K F=>?_)
     first
      | (refine qqP (by rfl) ?_;apply Exists.intro;refine⟨fun w' j=>?_,F _ ?_⟩;(have c:=a8.kept (q.of j);have c0:=c.cell 0;have c1:=c.cell 1;have c2:=c.cell 2;clear c;have d:=a4.kept (q.of j);have d4:=d.cell 4;clear d;go_simp;first|done|rfl))
      | refine qqN (by rfl) (F _ ?_)
     clear F K;simp only[Act.put,qqB]
    refine qBa _ rfl (fun K F=>?_)
    refine qqN (by rfl) ?_
    intro a2
    refine a2 _ _ ?_
    clear F a2 K
    simp only[Act.put,qqB]
    refine qBa _ rfl (fun K F=>?_)
    refine qqN (by rfl) ?_
    intro a2
    refine a2 _ _ ?_
    clear F a2 K
    simp only[Act.put,qqB]
    repeat
     refine qA0 _ rfl (fun K F=>?_)
     first
      | (refine qqP (by rfl) ?_;apply Exists.intro;refine⟨fun w' j=>?_,F _ ?_⟩;(have c:=a8.kept (q.of j);have c0:=c.cell 0;have c1:=c.cell 1;have c2:=c.cell 2;clear c;have d:=a4.kept (q.of j);have d4:=d.cell 4;clear d;go_simp;first|done|rfl))
      | refine qqN (by rfl) (F _ ?_)
     clear F K;simp only[Act.put,qqB]
    refine qA6 ?_
    have f:=bZ.kept ((b3.of O).of q)
    have f0:=f.free 0
    have f1:=f.free 1
    have f2:=f.free 2
    have f3:=f.free 3
    have f4:=f.free 4
    have x0:=f.cell 0
    have x1:=f.cell 1
    have x2:=f.cell 2
    have x3:=f.cell 3
    have x4:=f.cell 4
    go_wp2_with fail
    have Z:=((((f.set 0 (U 0#64)).set 1 (W 0#32)).set 2 (.int .i64 0)).set 3 (U 0#64)).set 4 (U 0#64)
    have a7:qA4 w (((((z3.setCell ⟨w.heap.size,0,none⟩ (U 0#64)).setCell ⟨w.heap.size,1,none⟩ (W 0#32)).setCell ⟨w.heap.size,2,none⟩ (.int .i64 0)).setCell ⟨w.heap.size,3,none⟩ (U 0#64)).setCell ⟨w.heap.size,4,none⟩ (U 0#64)):=qAa (qAa (qAa (qAa (qAa ((a1.of O).of q) 0 _) 1 _) 2 _) 3 _) 4 _
    have r0:=Z.cell 0
    have r1:=Z.cell 1
    have r2:=Z.cell 2
    have r3:=Z.cell 3
    have r4:=Z.cell 4
    generalize (((((z3.setCell ⟨w.heap.size,0,none⟩ (U 0#64)).setCell ⟨w.heap.size,1,none⟩ (W 0#32)).setCell ⟨w.heap.size,2,none⟩ (.int .i64 0)).setCell ⟨w.heap.size,3,none⟩ (U 0#64)).setCell ⟨w.heap.size,4,none⟩ (U 0#64))=zE at *
    refine bodyPost_ret (v:=.tuple #[.agg #[U 0#64,W 0#32,.int .i64 0,U 0#64,U 0#64],.bool false]) (by simp[results,results103,go_sem,r0,r1,r2,r3,r4];done) rfl ⟨by rw[show x.opened rec=none from Y.out];rfl,a7⟩
   | true =>
    cases hB3:(n.version>>>32 != x.c.at_) with
    | true =>
     have Y:x.opened rec=none:=by unfold Wd.opened;rw[if_neg];rintro⟨_,_,h⟩;rw[←b5.out,hB3]at h;cases h
     replace Y:=qh Y
     refine qA3 [(0,0),(1,0),(2,0),(3,0),(4,0),(5,0),(6,0),(7,0),(9,0),(10,0),(11,0),(12,0),(8,1),(13,1),(14,0),(15,0)] (by kernel_rfl) (by kernel_rfl) ?_
     intro z3 q
     repeat
      refine qA0 _ rfl (fun K F=>?_)
      first
       | (refine qqP (by rfl) ?_;apply Exists.intro;refine⟨fun w' j=>?_,F _ ?_⟩;(have c:=a8.kept (q.of j);have c0:=c.cell 0;have c1:=c.cell 1;have c2:=c.cell 2;clear c;have d:=a4.kept (q.of j);have d4:=d.cell 4;clear d;go_simp;first|done|rfl))
       | refine qqN (by rfl) (F _ ?_)
      clear F K;simp only[Act.put,qqB]
     refine qqH _ rfl (by rfl) (fun K F=>?_)
     go_wp2_with fail
     refine(CB z3).mono ?_
     rintro e z4 ⟨rfl,I⟩
     go_wp2
     refine F _ _ (I) ?_
     clear F K
     try simp only[Act.put,qqB]
     refine qqH _ rfl (by rfl) (fun K F=>?_)
     go_wp2_with fail
     refine(qSi ((hW.kept (a1.of O)).kept (q.of I))).mono ?_
     rintro e z5 ⟨rfl,rfl⟩
     go_wp2
     refine F _ _ (Below.refl _ _) ?_
     clear F K
     try simp only[Act.put,qqB]
     repeat
      refine qA0 _ rfl (fun K F=>?_)
      first
       | (refine qqP (by rfl) ?_;apply Exists.intro;refine⟨fun w' j=>?_,F _ ?_⟩;(have d:=a4.kept ((q.of I).of j);have d4:=d.cell 4;clear d;go_simp;first|done|rfl))
       | refine qqN (by rfl) (F _ ?_)
      clear F K;simp only[Act.put,qqB]
     refine qA6 ?_
     have f:=bZ.kept ((b3.of O).of (q.of I))
     have f0:=f.free 0
     have f1:=f.free 1
     have f2:=f.free 2
     have f3:=f.free 3
     have f4:=f.free 4
     have x0:=f.cell 0
     have x1:=f.cell 1
     have x2:=f.cell 2
     have x3:=f.cell 3
     have x4:=f.cell 4
     go_wp2_with fail
     have Z:=((((f.set 0 (U 0#64)).set 1 (W 0#32)).set 2 (.int .i64 0)).set 3 (U 0#64)).set 4 (U 0#64)
     have a7:qA4 w (((((z4.setCell ⟨w.heap.size,0,none⟩ (U 0#64)).setCell ⟨w.heap.size,1,none⟩ (W 0#32)).setCell ⟨w.heap.size,2,none⟩ (.int .i64 0)).setCell ⟨w.heap.size,3,none⟩ (U 0#64)).setCell ⟨w.heap.size,4,none⟩ (U 0#64)):=qAa (qAa (qAa (qAa (qAa ((a1.of O).of (q.of I)) 0 _) 1 _) 2 _) 3 _) 4 _
     have r0:=Z.cell 0
     have r1:=Z.cell 1
     have r2:=Z.cell 2
     have r3:=Z.cell 3
     have r4:=Z.cell 4
     generalize (((((z4.setCell ⟨w.heap.size,0,none⟩ (U 0#64)).setCell ⟨w.heap.size,1,none⟩ (W 0#32)).setCell ⟨w.heap.size,2,none⟩ (.int .i64 0)).setCell ⟨w.heap.size,3,none⟩ (U 0#64)).setCell ⟨w.heap.size,4,none⟩ (U 0#64))=zE at *
     refine bodyPost_ret (v:=.tuple #[.agg #[U 0#64,W 0#32,.int .i64 0,U 0#64,U 0#64],.bool false]) (by simp[results,results103,go_sem,r0,r1,r2,r3,r4];done) rfl ⟨by rw[show x.opened rec=none from Y.out];rfl,a7⟩
    | false =>
     have c7:x.opened rec=match x.l.openP (k1,k2) n [] (gS rec) (T1,T2) with|none=>none|some b=>qIS b:=by
      unfold Wd.opened
      rw[if_pos ⟨e1.out.symm,by rw[←b5.out];exact b8.out.symm,by rw[←b5.out];exact hB3⟩,←b5.out,←d8.out,←g3.out]
     obtain⟨op,a9⟩:∃o,o=x.l.openP (k1,k2) n [] (gS rec) (T1,T2):=⟨_,rfl⟩
     have e4:∀b,op=some b→b.length≤4000:=fun b h=>qKt fi.dat (by rw[←a9];exact h) (by have:=qJ9 rec;omega)
     rw[←a9]at c7
     have e6:=qh a9
     have c4:=qh c7
     clear c7 a9
     refine qA3 [(0,0),(1,0),(2,0),(3,0),(4,0),(5,0),(6,0),(7,0),(9,0),(10,0),(11,0),(12,0),(8,1),(13,1),(14,0),(15,0)] (by kernel_rfl) (by kernel_rfl) ?_
     intro z3 q
     repeat
      refine qA0 _ rfl (fun K F=>?_)
      first
       | (refine qqP (by rfl) ?_;apply Exists.intro;refine⟨fun w' j=>?_,F _ ?_⟩;(have c:=a8.kept (q.of j);have c0:=c.cell 0;have c1:=c.cell 1;have c2:=c.cell 2;clear c;have d:=a4.kept (q.of j);have d4:=d.cell 4;clear d;go_simp;first|done|rfl))
       | refine qqN (by rfl) (F _ ?_)
      clear F K;simp only[Act.put,qqB]
     refine qqH _ rfl (by rfl) (fun K F=>?_)
     go_wp2_with fail
     refine(CB z3).mono ?_
     rintro e z4 ⟨rfl,I⟩
     go_wp2
     refine F _ _ (I) ?_
     clear F K
     try simp only[Act.put,qqB]
     refine qqH _ rfl (by rfl) (fun K F=>?_)
     go_wp2_with fail
     refine(qSi ((hW.kept (a1.of O)).kept (q.of I))).mono ?_
     rintro e z5 ⟨rfl,rfl⟩
     go_wp2
     refine F _ _ (Below.refl _ _) ?_
     clear F K
     try simp only[Act.put,qqB]
     repeat
      refine qA0 _ rfl (fun K F=>?_)
      first
       | (refine qqP (by rfl) ?_;apply Exists.intro;refine⟨fun w' j=>?_,F _ ?_⟩;(have d:=a4.kept ((q.of I).of j);have d4:=d.cell 4;clear d;go_simp;first|done|rfl))
       | refine qqN (by rfl) (F _ ?_)
      clear F K;simp only[Act.put,qqB]
     refine qA6 ?_
     go_wp2_with fail
     refine qA3 [(0,0),(1,0),(2,0),(3,0),(4,0),(5,0),(6,0),(7,1),(8,0),(9,0),(10,0),(11,0),(12,0)] (by kernel_rfl) (by kernel_rfl) ?_
     intro z6 a3
     repeat
      refine qA0 _ rfl (fun K F=>?_)
      first
       | (refine qqP (by rfl) ?_;apply Exists.intro;refine⟨fun w' j=>?_,F _ ?_⟩;(have c:=a4.kept ((q.of I).of (a3.of j));have c6:=c.cell 6;clear c;have d:=bK.kept ((q.of I).of (a3.of j));have d0:=d.cell 0;have d1:=d.cell 1;clear d;have n:=a8.kept ((q.of I).of (a3.of j));have n0:=n.cell 0;have n1:=n.cell 1;have n2:=n.cell 2;clear n;have s:=g1.kept ((q.of I).of (a3.of j));have s0:=s.cell 0;have s1:=s.cell 1;have s2:=s.cell 2;clear s;go_simp;first|done|rfl))
       | refine qqN (by rfl) (F _ ?_)
      clear F K;simp only[Act.put,qqB]
     refine qqH _ rfl (by rfl) (fun K F=>?_)
     go_wp2_with fail
     refine(qNE (hW.kept ((a1.of O).of ((q.of I).of a3))) fi (by omega) (k1,k2) (T1,T2) n (.slice none 0 0) (.slice ua ul uc) [] (gS rec) (by simp) (by have:=qJ9 rec;omega) (Sl.nil _) (g2.kept ((q.of I).of a3))).mono ?_
     rintro e z7 ⟨v,rfl,f5,b4⟩
     rw[e6.out.symm]
     go_wp2
     refine F _ _ (b4) ?_
     clear F K
     try simp only[Act.put,qqB]
     repeat
      refine qA0 _ rfl (fun K F=>?_)
      first
       | (refine qqP (by rfl) ?_;apply Exists.intro;refine⟨fun w' j=>?_,F _ ?_⟩;go_simp;first|done|rfl)
       | refine qqN (by rfl) (F _ ?_)
      clear F K;simp only[Act.put,qqB]
     refine qA6 ?_
     cases op with
     | none =>
      simp only[Option.isSome_none]
      have Y:x.opened rec=none:=c4.out
      replace Y:=qh Y
      have f:=bZ.kept (((b3.of O).of (q.of I)).of (a3.of b4))
      have f0:=f.free 0
      have f1:=f.free 1
      have f2:=f.free 2
      have f3:=f.free 3
      have f4:=f.free 4
      have x0:=f.cell 0
      have x1:=f.cell 1
      have x2:=f.cell 2
      have x3:=f.cell 3
      have x4:=f.cell 4
      go_wp2_with fail
      have Z:=((((f.set 0 (U 0#64)).set 1 (W 0#32)).set 2 (.int .i64 0)).set 3 (U 0#64)).set 4 (U 0#64)
      have a7:qA4 w (((((z7.setCell ⟨w.heap.size,0,none⟩ (U 0#64)).setCell ⟨w.heap.size,1,none⟩ (W 0#32)).setCell ⟨w.heap.size,2,none⟩ (.int .i64 0)).setCell ⟨w.heap.size,3,none⟩ (U 0#64)).setCell ⟨w.heap.size,4,none⟩ (U 0#64)):=qAa (qAa (qAa (qAa (qAa (((a1.of O).of (q.of I)).of (a3.of b4)) 0 _) 1 _) 2 _) 3 _) 4 _
      have r0:=Z.cell 0
      have r1:=Z.cell 1
      have r2:=Z.cell 2
      have r3:=Z.cell 3
      have r4:=Z.cell 4
      generalize (((((z7.setCell ⟨w.heap.size,0,none⟩ (U 0#64)).setCell ⟨w.heap.size,1,none⟩ (W 0#32)).setCell ⟨w.heap.size,2,none⟩ (.int .i64 0)).setCell ⟨w.heap.size,3,none⟩ (U 0#64)).setCell ⟨w.heap.size,4,none⟩ (U 0#64))=zE at *
      refine bodyPost_ret (v:=.tuple #[.agg #[U 0#64,W 0#32,.int .i64 0,U 0#64,U 0#64],.bool false]) (by simp[results,results103,go_sem,r0,r1,r2,r3,r4];done) rfl ⟨by rw[show x.opened rec=none from Y.out];rfl,a7⟩
     | some b =>
      simp only[Option.isSome_some]
      have b7:=qJ7 v b (e4 b rfl) z7 (Sl.of_own (f5 b e6.out.symm))
      have d9:qIS b=x.opened rec:=c4.out.symm
      rw[d9]at b7
      obtain⟨ro,d2⟩:∃y,y=(x.opened rec).getD Rt.zero:=⟨_,rfl⟩
      obtain⟨rb,d3⟩:∃y,y=(x.opened rec).isSome:=⟨_,rfl⟩
      rw[←d2,←d3]at b7
      unfold Rt.val at b7
      have g5:=qh d2
      have g0:=qh d3
      clear d2 d3 d9 f5 e4
      go_wp2_with fail
      refine b7.mono ?_
      rintro e z8 ⟨rfl,e0⟩
      have f:=bZ.kept ((((b3.of O).of (q.of I)).of (a3.of b4)).of e0)
      have f0:=f.free 0
      have f1:=f.free 1
      have f2:=f.free 2
      have f3:=f.free 3
      have f4:=f.free 4
      have x0:=f.cell 0
      have x1:=f.cell 1
      have x2:=f.cell 2
      have x3:=f.cell 3
      have x4:=f.cell 4
      go_wp2_with fail
      have Z:=((((f.set 0 (U ro.count)).set 1 (W ro.epoch)).set 2 (.int .i64 ro.slots)).set 3 (U ro.hash.1)).set 4 (U ro.hash.2)
      have a7:qA4 w (((((z8.setCell ⟨w.heap.size,0,none⟩ (U ro.count)).setCell ⟨w.heap.size,1,none⟩ (W ro.epoch)).setCell ⟨w.heap.size,2,none⟩ (.int .i64 ro.slots)).setCell ⟨w.heap.size,3,none⟩ (U ro.hash.1)).setCell ⟨w.heap.size,4,none⟩ (U ro.hash.2)):=qAa (qAa (qAa (qAa (qAa ((((a1.of O).of (q.of I)).of (a3.of b4)).of e0) 0 _) 1 _) 2 _) 3 _) 4 _
      have r0:=Z.cell 0
      have r1:=Z.cell 1
      have r2:=Z.cell 2
      have r3:=Z.cell 3
      have r4:=Z.cell 4
      generalize (((((z8.setCell ⟨w.heap.size,0,none⟩ (U ro.count)).setCell ⟨w.heap.size,1,none⟩ (W ro.epoch)).setCell ⟨w.heap.size,2,none⟩ (.int .i64 ro.slots)).setCell ⟨w.heap.size,3,none⟩ (U ro.hash.1)).setCell ⟨w.heap.size,4,none⟩ (U ro.hash.2))=zE at *
      refine bodyPost_ret (v:=.tuple #[.agg #[U ro.count,W ro.epoch,.int .i64 ro.slots,U ro.hash.1,U ro.hash.2],.bool rb]) (by simp[results,results103,go_sem,r0,r1,r2,r3,r4];done) rfl ⟨by rw[g0.out];unfold qSj;rw[←g5.out];rfl,a7⟩
def Wd.logBytes (x:Wd)(count:BitVec 64):List UInt8:=(x.sd.snap.drop (gRec x.n (qCY count))).take 60
def qKu (count:BitVec 64)(n:Nat):Option Rt→Option Rt
 | none=>none
 | some r=>if(r.count != count)=false∧r.slots=(n:Int) then some r else none
theorem qDE (count:BitVec 64)(n:Nat)(r:Rt):qKu count n (some r)=if(r.count != count)=false∧r.slots=(n:Int) then some r else none:=rfl
def Wd.logGet (x:Wd)(count:BitVec 64):Option Rt:=qKu count x.n (x.opened (x.logBytes count))
theorem qR4 {col:Nat→Nat}{w:World}{P:qAU}{x:Wd}{m:Nat}(hW:qAW col w P x)(fi:x.fine m)(hm:m≤70000)(hg:x.p.gone=false)(count:BitVec 64) :
 Calls prog 69 #[.pointer (some ⟨P.W,0,none⟩),U count] w fun e w'=>e= .returned (.tuple #[(qSj (x.logGet count)).val,.int .i64 (qI5 (x.logGet count).isSome 3)])∧qA4 w w':=by
 have b4:=qAo fi.ok.sl
 obtain⟨N,hN⟩:∃N,N=x.n:=⟨_,rfl⟩
 have a3:=hW.blk
 rw[←hN]at a3 b4
 have HX:Hid (x.n=N):=qh hN.symm
 have Z:qA4 w (w.alloc (.cells #[U 0#64,W 0#32,.int .i64 0,U 0#64,U 0#64] 148)):=qal _
 have bZ:=Blk.new w #[U 0#64,W 0#32,.int .i64 0,U 0#64,U 0#64] 148
 have b3:=qNK (n:=N) (qC1 count) (by omega)
 have c1:∀z,qA4 w z→Calls prog 102 #[.pointer (some ⟨P.W,0,none⟩),U count] z fun e w'=>e= .returned (.int .i64 (gRec N (qCY count):Nat))∧qA4 z w':=fun z hz=>by
  have:=qJ8 (hW.kept hz) fi count
  rw[←hN]at this
  exact this
 have CR:∀z,qA4 w z→Calls prog 101 #[.pointer (some ⟨P.s,0,none⟩),.int .i64 (gRec N (qCY count):Nat),.int .i64 60] z fun e w'=>∃u c,e= .returned (.tuple #[.slice u 60 c,.bool true])∧qI6 w' z.heap.size (.slice u 60 c) ((x.sd.snap.drop (gRec N (qCY count))).take 60)∧((x.sd.snap.drop (gRec N (qCY count))).take 60).length=60∧qA4 z w':=fun z hz=>qI7 (hW.kept hz) fi.ok (by omega) (gRec N (qCY count)) 60 (by rw[←hN];exact b3.1) (by rw[←hN];exact b3.2) hg
 have a7:(x.sd.snap.drop (gRec N (qCY count))).take 60=x.logBytes count:=by unfold Wd.logBytes;rw[←hN]
 rw[a7]at CR
 obtain⟨b6,a5⟩:∃y,y=x.logBytes count:=⟨_,rfl⟩
 rw[←a5]at CR
 have c3:=qh a5
 obtain⟨o,ho⟩:∃y,y=x.opened b6:=⟨_,rfl⟩
 have b5:x.logGet count=qKu count x.n o:=by unfold Wd.logGet;rw[←a5,←ho]
 have HO:=qh ho
 have a6:=qh b5
 clear hN a7 a5 ho b5 b3
 go_enter func69,ntmps69
 go_wp2_with fail
 generalize (w.alloc (.cells #[U 0#64,W 0#32,.int .i64 0,U 0#64,U 0#64] 148))=wA at *
 refine qA3 [(0,0),(1,0),(2,0),(3,0),(4,0),(5,0),(6,1),(7,1),(8,0),(9,0),(10,0),(11,0),(12,0)] (by kernel_rfl) (by kernel_rfl) ?_
 intro z1 G
 repeat
  refine qA0 _ rfl (fun K l=>?_)
  first
   | (refine qqP (by rfl) ?_;apply Exists.intro;refine⟨fun w' F=>?_,l _ ?_⟩;(have c:=(a3.kept (Z.of G)).kept F;have c2:=c.cell 2;clear c;go_simp;first|done|rfl))
   | refine qqN (by rfl) (l _ ?_)
  clear l K;simp only[Act.put,qqB]
 refine qqH _ rfl (by rfl) (fun K l=>?_)
 go_wp2_with fail
 refine(c1 z1 (Z.of G)).mono ?_
 rintro e z2 ⟨rfl,I⟩
 go_wp2
 refine l _ _ (I) ?_
 clear l K
 try simp only[Act.put,qqB]
 refine qqH _ rfl (by rfl) (fun K l=>?_)
 go_wp2_with fail
 refine(CR z2 ((Z.of G).of I)).mono ?_
 rintro e z3 ⟨u,uc,rfl,b9,a9,V⟩
 go_wp2
 refine l _ _ (V) ?_
 clear l K
 try simp only[Act.put,qqB]
 repeat
  refine qA0 _ rfl (fun K l=>?_)
  first
   | (refine qqP (by rfl) ?_;apply Exists.intro;refine⟨fun w' F=>?_,l _ ?_⟩;go_simp;first|done|rfl)
   | refine qqN (by rfl) (l _ ?_)
  clear l K;simp only[Act.put,qqB]
 refine qA6 ?_
 have b7:=qMh (hW.kept ((Z.of ((G.of I).of V)))) fi hm _ b6 (by rw[a9];omega) b9.sl
 rw[←HO.out]at b7
 replace a9:=qh a9
 go_wp2_with fail
 refine b7.mono ?_
 rintro e z5 ⟨rfl,Y⟩
 obtain⟨q,hq⟩:∃q,q=qSj o:=⟨_,rfl⟩
 rw[←hq]
 have HQ:=qh hq
 clear hq
 unfold Rt.val
 have a0:qA4 z5 (z5.alloc (.cells #[U q.count,W q.epoch,.int .i64 q.slots,U q.hash.1,U q.hash.2] 148)):=qal _
 have bQ:=Blk.new z5 #[U q.count,W q.epoch,.int .i64 q.slots,U q.hash.1,U q.hash.2] 148
 have a2:=(Z.of ((G.of I).of V)).of (Y.of a0)
 go_wp2_with fail
 generalize z5.alloc (.cells #[U q.count,W q.epoch,.int .i64 q.slots,U q.hash.1,U q.hash.2] 148)=z6 at *
 cases o with
 | none =>
  have J:x.logGet count=none:=a6.out
  replace J:=qh J
  simp only[Option.isSome_none]
  refine qA3 [(0,0),(1,0),(2,0),(3,0),(4,0),(5,0),(6,0),(7,0),(8,0),(9,0),(10,0),(11,0),(12,0),(13,0),(14,0),(15,0),(16,0),(17,0)] (by kernel_rfl) (by kernel_rfl) ?_
  intro z7 j
  repeat
   refine qA0 _ rfl (fun K l=>?_)
   first
    | (refine qqP (by rfl) ?_;apply Exists.intro;refine⟨fun w' F=>?_,l _ ?_⟩;(have c:=bQ.kept (j.of F);have c0:=c.cell 0;have c2:=c.cell 2;clear c;have d:=a3.kept (a2.of (j.of F));have d0:=d.cell 0;clear d;go_simp;first|done|rfl))
    | refine qqN (by rfl) (l _ ?_)
   clear l K;simp only[Act.put,qqB]
  refine qA6 ?_
  have f:=bZ.kept (((G.of I).of V).of (Y.of (a0.of j)))
  have f0:=f.free 0
  have f1:=f.free 1
  have f2:=f.free 2
  have f3:=f.free 3
  have f4:=f.free 4
  have x0:=f.cell 0
  have x1:=f.cell 1
  have x2:=f.cell 2
  have x3:=f.cell 3
  have x4:=f.cell 4
  go_wp2_with fail
  have O:=((((f.set 0 (U 0#64)).set 1 (W 0#32)).set 2 (.int .i64 0)).set 3 (U 0#64)).set 4 (U 0#64)
  have a1:qA4 w (((((z7.setCell ⟨w.heap.size,0,none⟩ (U 0#64)).setCell ⟨w.heap.size,1,none⟩ (W 0#32)).setCell ⟨w.heap.size,2,none⟩ (.int .i64 0)).setCell ⟨w.heap.size,3,none⟩ (U 0#64)).setCell ⟨w.heap.size,4,none⟩ (U 0#64)):=qAa (qAa (qAa (qAa (qAa (Z.of (((G.of I).of V).of (Y.of (a0.of j)))) 0 _) 1 _) 2 _) 3 _) 4 _
  have r0:=O.cell 0
  have r1:=O.cell 1
  have r2:=O.cell 2
  have r3:=O.cell 3
  have r4:=O.cell 4
  generalize (((((z7.setCell ⟨w.heap.size,0,none⟩ (U 0#64)).setCell ⟨w.heap.size,1,none⟩ (W 0#32)).setCell ⟨w.heap.size,2,none⟩ (.int .i64 0)).setCell ⟨w.heap.size,3,none⟩ (U 0#64)).setCell ⟨w.heap.size,4,none⟩ (U 0#64))=zE at *
  refine bodyPost_ret (v:=.tuple #[.agg #[U 0#64,W 0#32,.int .i64 0,U 0#64,U 0#64],.int .i64 3]) (by simp[results,results69,go_sem,r0,r1,r2,r3,r4];done) rfl ⟨by rw[show x.logGet count=none from J.out];rfl,a1⟩
 | some q0 =>
  have b8:q=q0:=HQ.out
  subst b8
  simp only[Option.isSome_some]
  cases hc:(q.count != count) with
  | true =>
   have J:x.logGet count=none:=by rw[a6.out];rw[qDE,if_neg];rintro⟨h,_⟩;rw[hc]at h;cases h
   replace J:=qh J
   refine qA3 [(0,0),(1,0),(2,0),(3,0),(4,0),(5,0),(6,0),(7,0),(8,0),(9,0),(10,0),(11,0),(12,0),(13,0),(14,0),(15,0),(16,0),(17,0)] (by kernel_rfl) (by kernel_rfl) ?_
   intro z7 j
   repeat
    refine qA0 _ rfl (fun K l=>?_)
    first
     | (refine qqP (by rfl) ?_;apply Exists.intro;refine⟨fun w' F=>?_,l _ ?_⟩;(have c:=bQ.kept (j.of F);have c0:=c.cell 0;have c2:=c.cell 2;clear c;have d:=a3.kept (a2.of (j.of F));have d0:=d.cell 0;clear d;go_simp;first|done|rfl))
     | refine qqN (by rfl) (l _ ?_)
    clear l K;simp only[Act.put,qqB]
   refine qA6 ?_
   have f:=bZ.kept (((G.of I).of V).of (Y.of (a0.of j)))
   have f0:=f.free 0
   have f1:=f.free 1
   have f2:=f.free 2
   have f3:=f.free 3
   have f4:=f.free 4
   have x0:=f.cell 0
   have x1:=f.cell 1
   have x2:=f.cell 2
   have x3:=f.cell 3
   have x4:=f.cell 4
   go_wp2_with fail
   have O:=((((f.set 0 (U 0#64)).set 1 (W 0#32)).set 2 (.int .i64 0)).set 3 (U 0#64)).set 4 (U 0#64)
   have a1:qA4 w (((((z7.setCell ⟨w.heap.size,0,none⟩ (U 0#64)).setCell ⟨w.heap.size,1,none⟩ (W 0#32)).setCell ⟨w.heap.size,2,none⟩ (.int .i64 0)).setCell ⟨w.heap.size,3,none⟩ (U 0#64)).setCell ⟨w.heap.size,4,none⟩ (U 0#64)):=qAa (qAa (qAa (qAa (qAa (Z.of (((G.of I).of V).of (Y.of (a0.of j)))) 0 _) 1 _) 2 _) 3 _) 4 _
   have r0:=O.cell 0
   have r1:=O.cell 1
   have r2:=O.cell 2
   have r3:=O.cell 3
   have r4:=O.cell 4
   generalize (((((z7.setCell ⟨w.heap.size,0,none⟩ (U 0#64)).setCell ⟨w.heap.size,1,none⟩ (W 0#32)).setCell ⟨w.heap.size,2,none⟩ (.int .i64 0)).setCell ⟨w.heap.size,3,none⟩ (U 0#64)).setCell ⟨w.heap.size,4,none⟩ (U 0#64))=zE at *
   refine bodyPost_ret (v:=.tuple #[.agg #[U 0#64,W 0#32,.int .i64 0,U 0#64,U 0#64],.int .i64 3]) (by simp[results,results69,go_sem,r0,r1,r2,r3,r4];done) rfl ⟨by rw[show x.logGet count=none from J.out];rfl,a1⟩
  | false =>
   by_cases a8:q.slots=(N:Int)
   · have a4:x.logGet count=some q:=by rw[a6.out];rw[qDE,if_pos ⟨hc,by rw[HX.out];exact a8⟩]
     replace a4:=qh a4
     refine qA3 [(0,0),(1,0),(2,0),(3,0),(4,0),(5,0),(6,0),(7,0),(8,0),(9,0),(10,0),(11,0),(12,0),(13,0),(14,0),(15,0),(16,0),(17,0)] (by kernel_rfl) (by kernel_rfl) ?_
     intro z7 j
     repeat
      refine qA0 _ rfl (fun K l=>?_)
      first
       | (refine qqP (by rfl) ?_;apply Exists.intro;refine⟨fun w' F=>?_,l _ ?_⟩;(have c:=bQ.kept (j.of F);have c0:=c.cell 0;have c2:=c.cell 2;clear c;have d:=a3.kept (a2.of (j.of F));have d0:=d.cell 0;clear d;go_simp;first|done|rfl))
       | refine qqN (by rfl) (l _ ?_)
      clear l K;simp only[Act.put,qqB]
     refine qA6 ?_
     have g:=bQ.kept j
     have g0:=g.cell 0
     have g1:=g.cell 1
     have g2:=g.cell 2
     have g3:=g.cell 3
     have g4:=g.cell 4
     clear g
     have f:=bZ.kept (((G.of I).of V).of (Y.of (a0.of j)))
     have f0:=f.free 0
     have f1:=f.free 1
     have f2:=f.free 2
     have f3:=f.free 3
     have f4:=f.free 4
     have x0:=f.cell 0
     have x1:=f.cell 1
     have x2:=f.cell 2
     have x3:=f.cell 3
     have x4:=f.cell 4
     go_wp2_with fail
     have O:=((((f.set 0 (U q.count)).set 1 (W q.epoch)).set 2 (.int .i64 (N:Int))).set 3 (U q.hash.1)).set 4 (U q.hash.2)
     have a1:qA4 w (((((z7.setCell ⟨w.heap.size,0,none⟩ (U q.count)).setCell ⟨w.heap.size,1,none⟩ (W q.epoch)).setCell ⟨w.heap.size,2,none⟩ (.int .i64 (N:Int))).setCell ⟨w.heap.size,3,none⟩ (U q.hash.1)).setCell ⟨w.heap.size,4,none⟩ (U q.hash.2)):=qAa (qAa (qAa (qAa (qAa (Z.of (((G.of I).of V).of (Y.of (a0.of j)))) 0 _) 1 _) 2 _) 3 _) 4 _
     have r0:=O.cell 0
     have r1:=O.cell 1
     have r2:=O.cell 2
     have r3:=O.cell 3
     have r4:=O.cell 4
     generalize (((((z7.setCell ⟨w.heap.size,0,none⟩ (U q.count)).setCell ⟨w.heap.size,1,none⟩ (W q.epoch)).setCell ⟨w.heap.size,2,none⟩ (.int .i64 (N:Int))).setCell ⟨w.heap.size,3,none⟩ (U q.hash.1)).setCell ⟨w.heap.size,4,none⟩ (U q.hash.2))=zE at *
     refine bodyPost_ret (v:=.tuple #[.agg #[U q.count,W q.epoch,.int .i64 (N:Int),U q.hash.1,U q.hash.2],.int .i64 0]) (by simp[results,results69,go_sem,r0,r1,r2,r3,r4];done) rfl ⟨by rw[show x.logGet count=some q from a4.out];show _=Ending.returned (.tuple #[.agg #[U q.count,W q.epoch,.int .i64 q.slots,U q.hash.1,U q.hash.2],.int .i64 0]);rw[a8],a1⟩
   · have J:x.logGet count=none:=by rw[a6.out];rw[qDE,if_neg];rintro⟨_,h⟩;rw[HX.out]at h;exact a8 h
     replace J:=qh J
     refine qA3 [(0,0),(1,0),(2,0),(3,0),(4,0),(5,0),(6,0),(7,0),(8,0),(9,0),(10,0),(11,0),(12,0),(13,0),(14,0),(15,0),(16,0),(17,0)] (by kernel_rfl) (by kernel_rfl) ?_
     intro z7 j
     repeat
      refine qA0 _ rfl (fun K l=>?_)
      first
       | (refine qqP (by rfl) ?_;apply Exists.intro;refine⟨fun w' F=>?_,l _ ?_⟩;(have c:=bQ.kept (j.of F);have c0:=c.cell 0;have c2:=c.cell 2;clear c;have d:=a3.kept (a2.of (j.of F));have d0:=d.cell 0;clear d;go_simp;first|done|rfl))
       | refine qqN (by rfl) (l _ ?_)
      clear l K;simp only[Act.put,qqB]
     refine qA6 ?_
     have f:=bZ.kept (((G.of I).of V).of (Y.of (a0.of j)))
     have f0:=f.free 0
     have f1:=f.free 1
     have f2:=f.free 2
     have f3:=f.free 3
     have f4:=f.free 4
     have x0:=f.cell 0
     have x1:=f.cell 1
     have x2:=f.cell 2
     have x3:=f.cell 3
     have x4:=f.cell 4
     go_wp2_with fail
     have O:=((((f.set 0 (U 0#64)).set 1 (W 0#32)).set 2 (.int .i64 0)).set 3 (U 0#64)).set 4 (U 0#64)
     have a1:qA4 w (((((z7.setCell ⟨w.heap.size,0,none⟩ (U 0#64)).setCell ⟨w.heap.size,1,none⟩ (W 0#32)).setCell ⟨w.heap.size,2,none⟩ (.int .i64 0)).setCell ⟨w.heap.size,3,none⟩ (U 0#64)).setCell ⟨w.heap.size,4,none⟩ (U 0#64)):=qAa (qAa (qAa (qAa (qAa (Z.of (((G.of I).of V).of (Y.of (a0.of j)))) 0 _) 1 _) 2 _) 3 _) 4 _
     have r0:=O.cell 0
     have r1:=O.cell 1
     have r2:=O.cell 2
     have r3:=O.cell 3
     have r4:=O.cell 4
     generalize (((((z7.setCell ⟨w.heap.size,0,none⟩ (U 0#64)).setCell ⟨w.heap.size,1,none⟩ (W 0#32)).setCell ⟨w.heap.size,2,none⟩ (.int .i64 0)).setCell ⟨w.heap.size,3,none⟩ (U 0#64)).setCell ⟨w.heap.size,4,none⟩ (U 0#64))=zE at *
     refine bodyPost_ret (v:=.tuple #[.agg #[U 0#64,W 0#32,.int .i64 0,U 0#64,U 0#64],.int .i64 3]) (by simp[results,results69,go_sem,r0,r1,r2,r3,r4];done) rfl ⟨by rw[show x.logGet count=none from J.out];rfl,a1⟩
def Wd.commitA (x:Wd):Nat:=qCY (x.c.value+1#64)
def Wd.commitR (x:Wd)(ls:List Lf):Rt:=⟨x.c.value+1#64,qAl x.eps,(x.n:Int),x.areaTop ls⟩
def Wd.commit1 (x:Wd)(ls:List Lf):Wd:=x.areaW x.commitA ls
def Wd.commit2 (x:Wd)(ls:List Lf):Wd:=(x.commit1 ls).sBarrier
def Wd.commit3 (x:Wd)(boot:BitVec 64)(k:Nat)(ls:List Lf):Wd:=(x.commit2 ls).logX boot k (x.commitR ls)
def Wd.commit4 (x:Wd)(boot:BitVec 64)(k:Nat)(ls:List Lf):Wd:=(x.commit3 boot k ls).sBarrier
def Wd.commit5 (x:Wd)(boot:BitVec 64)(k:Nat)(ls:List Lf):Wd:=(x.commit4 boot k ls).bump
def Wd.commit (x:Wd)(boot:BitVec 64)(k:Nat)(ls:List Lf):Int×Wd×Nat:=
 if x.areaOk x.commitA ls=false then(7,x.commit1 ls,k)
 else if(x.commit1 ls).p.spend.1=false then(7,x.commit2 ls,k)
 else if(x.commit2 ls).logE k≠0 then((x.commit2 ls).logE k,x.commit3 boot k ls,qIt k)
 else if(x.commit3 boot k ls).p.spend.1=false then(7,x.commit4 boot k ls,qIt k)
 else if(x.commit4 boot k ls).p.spend.1=false then(7,x.commit5 boot k ls,qIt k)
 else(0,x.commit5 boot k ls,qIt k)
section
variable {x:Wd} {m k a:Nat} {boot:BitVec 64} {ls:List Lf}
theorem qMi:(x.areaW a ls).n=x.n∧(x.areaW a ls).eps=x.eps∧(x.areaW a ls).c=x.c∧(x.areaW a ls).seed=x.seed:=by
 unfold Wd.areaW;split<;>exact⟨rfl,rfl,rfl,rfl⟩
theorem qNL {r:Rt}:(x.logX boot k r).n=x.n∧(x.logX boot k r).eps=x.eps∧(x.logX boot k r).c=x.c∧(x.logX boot k r).seed=x.seed:=by
 unfold Wd.logX;split<;>exact⟨rfl,rfl,rfl,rfl⟩
theorem qCE:(x.commit1 ls).n=x.n∧(x.commit1 ls).eps=x.eps∧(x.commit1 ls).c=x.c∧(x.commit1 ls).seed=x.seed:=qMi
theorem qAG:(x.commit2 ls).n=x.n∧(x.commit2 ls).eps=x.eps∧(x.commit2 ls).c=x.c∧(x.commit2 ls).seed=x.seed:=qCE
theorem qAY:(x.commit3 boot k ls).n=x.n∧(x.commit3 boot k ls).eps=x.eps∧(x.commit3 boot k ls).c=x.c∧(x.commit3 boot k ls).seed=x.seed:=by
 obtain⟨j,I,G,f⟩:=qNL (x:=x.commit2 ls) (k:=k) (boot:=boot) (r:=x.commitR ls)
 obtain⟨q,h,l,F⟩:=qAG (x:=x) (ls:=ls)
 exact⟨j.trans q,I.trans h,G.trans l,f.trans F⟩
theorem Wd.fine.areaW (f:x.fine m)(ha:a<2)(hl:ls.length=x.n):(x.areaW a ls).fine (m+34):=by
 have c:=qAo f.ok.sl
 unfold Wd.areaW
 split
 · exact(f.areaW2 (ls:=ls) ha hl (by omega)).up (by omega)
 · exact(f.areaW1 (ls:=ls) ha hl (by omega)).up (by omega)
theorem Wd.fine.commit1 (f:x.fine m)(hl:ls.length=x.n):(x.commit1 ls).fine (m+34):=f.areaW (qC1 _) hl
theorem Wd.fine.commit2 (f:x.fine m)(hl:ls.length=x.n):(x.commit2 ls).fine (m+35):=(f.commit1 hl).sBarrier
theorem Wd.fine.commit3 (f:x.fine m)(hl:ls.length=x.n):(x.commit3 boot k ls).fine (m+37):=(f.commit2 hl).logX boot k _ (by rw[qAG.1];have:=qAo f.ok.sl;omega)
theorem Wd.fine.commit4 (f:x.fine m)(hl:ls.length=x.n):(x.commit4 boot k ls).fine (m+38):=(f.commit3 hl).sBarrier
theorem Wd.fine.commit5 (f:x.fine m)(hl:ls.length=x.n):(x.commit5 boot k ls).fine (m+39):=(f.commit4 hl).bump
theorem Wd.fine.commit (f:x.fine m)(hl:ls.length=x.n):(x.commit boot k ls).2.1.fine (m+39):=by
 unfold Wd.commit
 split
 · exact(f.commit1 hl).up (by omega)
 split
 · exact(f.commit2 hl).up (by omega)
 split
 · exact(f.commit3 hl).up (by omega)
 split
 · exact(f.commit4 hl).up (by omega)
 split
 · exact f.commit5 hl
 · exact f.commit5 hl
end
theorem qIa {k:Nat}(h:k≤100):qIt k≤100:=by unfold qIt;split<;>omega
theorem WM.nextM {col:Nat→Nat}{w w':World}{P:qAU}{x x':Wd}{M:Nat}{boot:BitVec 64}{k:Nat}(h:WM col w P x M boot k)(n:qHd 6 col w P x' w'):∃col',WM col' w' P x' M boot k∧Ext 8 col col' w w':=by
 obtain⟨col',f,c⟩:=n
 exact⟨col',h.ext6 f c,c.mono (by decide)⟩
theorem qLh (p:Nat)(hp:p<2)(wx:World):(convert 29 3 (.int .u64 (p:Int))).run prog wx= .ok (.int .i64 (p:Int)) wx:=by
 have c:IntKind.i64.wrap (p:Int)=(p:Int):=by rw[IntKind.wrap_i64];omega
 rw[qAH wx 29 3 _ .i64 _ (by kernel_rfl) underlying3,c]
theorem qNM {col:Nat→Nat}{w:World}{P:qAU}{x:Wd}{m M k:Nat}{boot:BitVec 64}(hW:WM col w P x M boot k)(fi:x.fine m)(hm:m≤60000)(hk:k≤100)(vl:Value)(ls:List Lf)(hl:ls.length=x.n)(hok:qB7 ls)(hs:Sl w vl ls.length (qAv ls)) :
 Calls prog 149 #[.pointer (some ⟨P.W,0,none⟩),.pointer (some ⟨M,0,none⟩),vl] w fun e w'=>e= .returned (.int .i64 (x.commit boot k ls).1)∧qPE col w P M (x.commit boot k ls).2.1 boot (x.commit boot k ls).2.2 w':=by
 obtain⟨la,lc,rfl⟩:=hs.len
 have f9:=qAo fi.ok.sl
 obtain⟨N,hN⟩:∃N,N=x.n:=⟨_,rfl⟩
 have HX:Hid (x.n=N):=qh hN.symm
 have d5:=hW.wd.blk
 rw[←hN]at d5 f9
 have q2:=d5.cell 2
 have q4:=d5.cell 4
 obtain⟨c,hc⟩:∃y,y=x.c.value+1#64:=⟨_,rfl⟩
 have h2:=fun wx=>qGk 29 c wx
 obtain⟨p,hp⟩:∃p,p=x.commitA:=⟨_,rfl⟩
 have f7:c.toNat % 2=p:=by rw[hp,hc];rfl
 have c7:p<2:=by rw[hp];exact qC1 _
 rw[f7]at h2
 have i5:=fun wx=>qLh p c7 wx
 have CV:=qI8 hW.wd
 obtain⟨cv,a7⟩:∃y,y=x.c.value:=⟨_,rfl⟩
 rw[←a7]at CV hc
 have CA:=qMe hW.wd fi hm p c7 (.slice la ls.length lc) ls hl hok hs
 obtain⟨E1,c4⟩:∃y,y=x.areaE p ls:=⟨_,rfl⟩
 obtain⟨T,hT⟩:∃y,y=x.areaP p ls:=⟨_,rfl⟩
 rw[←c4,←hT]at CA
 obtain⟨B0,b8⟩:∃y,y=x.areaOk p ls:=⟨_,rfl⟩
 have Z:E1=if B0=true then 0 else 7:=by rw[c4];unfold Wd.areaE;rw[←b8]
 have g4:B0=true→T=x.areaTop ls:=fun h=>by rw[hT];unfold Wd.areaP;rw[←b8,if_pos h]
 have HC:=qh hc
 have h1:=qh a7
 have HP:=qh hp
 have d8:=qh b8
 have b5:=qh hl
 have g2:=qh g4
 obtain⟨T1,T2⟩:=T
 clear hN hc hp f7 a7 hT b8 c4 hl c7 g4
 go_enter func149,ntmps149
 go_wp2_with fail
 refine CV.mono ?_
 rintro e w1 ⟨rfl,rfl⟩
 have i4:U (cv+1#64)=U c:=by rw[HC.out]
 go_wp2_with fail
 refine CA.mono ?_
 rintro e w1 ⟨rfl,i2⟩
 obtain⟨g1,a8,i3⟩:=hW.nextM i2
 replace a8:WM g1 w1 P (x.commit1 ls) M boot k:=by unfold Wd.commit1;rw[←HP.out];exact a8
 unfold Pr
 have f6:qA4 w1 (w1.alloc (.cells #[U T1,U T2] 115)):=qal _
 have bT:=Blk.new w1 #[U T1,U T2] 115
 have b7:=a8.kept f6
 have e1:=i3.trans (Ext.kept a8.wd.top f6)
 clear q2 q4
 cases B0 with
 | false =>
  have d6:E1=7:=Z
  clear Z
  subst d6
  have f:x.commit boot k ls=(7,x.commit1 ls,k):=by
   unfold Wd.commit
   rw[if_pos]
   rw[←HP.out];exact d8.out.symm
  replace f:=qh f
  go_wp2_with fail
  refine bodyPost_ret (v:=.int .i64 7) (by simp[results,results149,go_sem];done) rfl ⟨by rw[f.out],_,by rw[f.out];exact b7,e1⟩
 | true =>
  have d6:E1=0:=Z
  subst d6
  have a9:Hid (x.areaOk x.commitA ls=true):=qh (by rw[←HP.out];exact d8.out.symm)
  have h5:=b7.wd.blk
  have a2:=h5.cell 2
  have f1:=fi.commit1 (ls:=ls) b5.out
  have CB:=qHe b7.wd f1.ok (by omega)
  obtain⟨B1,c6⟩:∃y,y=(x.commit1 ls).p.spend.1:=⟨_,rfl⟩
  rw[←c6]at CB
  have a6:=qh c6
  clear c6 Z
  go_wp2_with fail
  generalize w1.alloc (.cells #[U T1,U T2] 115)=wT at *
  refine CB.mono ?_
  rintro e w3 ⟨rfl,i1⟩
  obtain⟨c1,V,e3⟩:=b7.nextM i1
  replace V:WM c1 w3 P (x.commit2 ls) M boot k:=V
  have g0:=e1.trans e3
  clear a2
  cases B1 with
  | false =>
   have f:x.commit boot k ls=(7,x.commit2 ls,k):=by
    unfold Wd.commit
    rw[if_neg (by rw[a9.out];decide),if_pos a6.out.symm]
   replace f:=qh f
   go_wp2_with fail
   refine bodyPost_ret (v:=.int .i64 7) (by simp[results,results149,go_sem];done) rfl ⟨by rw[f.out],_,by rw[f.out];exact V,g0⟩
  | true =>
   have d9:=(e3.blk0 bT (a8.wd.top _ qle)).1
   have b3:=V.wd.blk
   rw[show(x.commit2 ls).n=N from(qAG.1).trans HX.out]at b3
   have f2:=fi.commit2 (ls:=ls) b5.out
   obtain⟨r,hr⟩:∃r,r=x.commitR ls:=⟨_,rfl⟩
   have HR:=qh hr
   have i0:Hid (r.slots=(x.n:Int)):=qh (by rw[hr];rfl)
   have h3:c=r.count:=by rw[hr,HC.out,h1.out];rfl
   have d3:(T1,T2)=r.hash:=by rw[hr];first|exact g2.out rfl|exact g2.out trivial
   have e9:r.epoch=qAl (x.commit2 ls).eps:=by rw[hr,qAG.2.1];rfl
   have f5:=qh e9
   have h4:T1=r.hash.1:=by rw[←d3]
   have g9:T2=r.hash.2:=by rw[←d3]
   subst h3
   subst h4
   subst g9
   clear hr d3 e9
   go_wp2_with fail
   refine qBj w3.heap.size [(0,0),(1,0),(2,0),(3,0),(4,0),(6,0),(7,0),(8,0),(9,0),(10,0),(11,0),(12,0)] ((.light 0 (.light 1 (.light 2 (.light 3 (.light 4 (.light 6 (.light 7 (.light 8 (.light 9 (.light 10 (.light 11 (.two 5 13 (.light 12 (.heavy 13 (.heavy 14 .nil))) (.heavy 5 (.light 12 (.heavy 14 .nil)))))))))))))))) (by kernel_rfl) (by kernel_rfl) ?_
   intro z0 I
   have l:qA4 z0 z0:=Below.refl _ _
   have d7:=b3.kept I
   have h0:=d9.kept I
   refine qA2 _ rfl (fun J j=>?_)
   refine qqP (by rfl) ?_;apply Exists.intro;refine⟨fun w' q=>?_,j _ ?_⟩
   · go_simp;first|done|rfl
   clear j J;simp only[Act.put,qqB]
   refine qA2 _ rfl (fun J j=>?_)
   refine qqP (by rfl) ?_;apply Exists.intro;refine⟨fun w' q=>?_,j _ ?_⟩
   · go_simp;first|done|rfl
   clear j J;simp only[Act.put,qqB]
   refine qA2 _ rfl (fun J j=>?_)
   refine qqP (by rfl) ?_;apply Exists.intro;refine⟨fun w' q=>?_,j _ ?_⟩
   · go_simp;first|done|rfl
   clear j J;simp only[Act.put,qqB]
   refine qA2 _ rfl (fun J j=>?_)
   refine qqP (by rfl) ?_;apply Exists.intro;refine⟨fun w' q=>?_,j _ ?_⟩
   · go_simp;first|done|rfl
   clear j J;simp only[Act.put,qqB]
   refine qA2 _ rfl (fun J j=>?_)
   refine qqP (by rfl) ?_;apply Exists.intro;refine⟨fun w' q=>?_,j _ ?_⟩
   · have c:=(d7.below q b3.lt);have c0:=c.cell 0;have c5:=c.cell 5;clear c;go_simp;first|done|rfl
   clear j J;simp only[Act.put,qqB]
   refine qA2 _ rfl (fun J j=>?_)
   refine qqP (by rfl) ?_;apply Exists.intro;refine⟨fun w' q=>?_,j _ ?_⟩
   · go_simp;first|done|rfl
   clear j J;simp only[Act.put,qqB]
   refine qA2 _ rfl (fun J j=>?_)
   refine qqP (by rfl) ?_;apply Exists.intro;refine⟨fun w' q=>?_,j _ ?_⟩
   · go_simp;first|done|rfl
   clear j J;simp only[Act.put,qqB]
   refine qA2 _ rfl (fun J j=>?_)
   refine qqP (by rfl) ?_;apply Exists.intro;refine⟨fun w' q=>?_,j _ ?_⟩
   · go_simp;first|done|rfl
   clear j J;simp only[Act.put,qqB]
   refine qA2 _ rfl (fun J j=>?_)
   refine qqP (by rfl) ?_;apply Exists.intro;refine⟨fun w' q=>?_,j _ ?_⟩
   · go_simp;first|done|rfl
   clear j J;simp only[Act.put,qqB]
   refine qA2 _ rfl (fun J j=>?_)
   refine qqP (by rfl) ?_;apply Exists.intro;refine⟨fun w' q=>?_,j _ ?_⟩
   · have c:=(d7.below q b3.lt);have c0:=c.cell 0;have c5:=c.cell 5;clear c;go_simp;first|done|rfl
   clear j J;simp only[Act.put,qqB]
   refine qA2 _ rfl (fun J j=>?_)
   refine qqP (by rfl) ?_;apply Exists.intro;refine⟨fun w' q=>?_,j _ ?_⟩
   · have d:=(h0.below q d9.lt);have d0:=d.cell 0;have d1:=d.cell 1;clear d;go_simp;first|done|rfl
   clear j J;simp only[Act.put,qqB]
   refine qC2 ?_ ?_
   focus
    refine qAc _ rfl (fun J j=>?_)
    refine qqP (by rfl) ?_
    go_wp2_with fail
    refine(qLc (V.wd.kept (I.of l)) f2.ok (by omega)).mono ?_
    rintro e y1 ⟨rfl,ka⟩
    rw[←f5.out]
    have F:=Nat.le_trans I.size l.size
    replace l:=l.of ka
    go_wp2
    refine j _ _ (ka.mono F) ?_
    clear j J
    try simp only[Act.put,qqB]
    clear F
    refine qA2 _ rfl (fun J j=>?_)
    refine qqP (by rfl) ?_;apply Exists.intro;refine⟨fun w' q=>?_,j _ ?_⟩
    · go_simp;first|done|rfl
    clear j J;simp only[Act.put,qqB]
    refine qAc _ rfl (fun J j=>?_)
    refine qqP (by rfl) ?_
    have kb:qA4 y1 (y1.alloc (.cells #[U 0#64,W 0#32,.int .i64 0,U 0#64,U 0#64] 148)):=qal _
    have Y:=Blk.new y1 #[U 0#64,W 0#32,.int .i64 0,U 0#64,U 0#64] 148
    have F:=Nat.le_trans I.size l.size
    obtain⟨G,O⟩:∃g,g=y1.heap.size:=⟨_,rfl⟩
    rw[←O]at Y
    replace l:=l.of kb
    go_wp2
    refine j _ _ (kb.mono F) ?_
    clear j J
    try simp only[Act.put,qqB]
    rw[←O]
    have a3:w3.heap.size≤G:=by rw[O];exact F
    clear O
    generalize (y1.alloc (.cells #[U 0#64,W 0#32,.int .i64 0,U 0#64,U 0#64] 148))=y2 at *
    clear F
   rotate_left
   focus
    refine qAc _ rfl (fun J j=>?_)
    refine qqP (by rfl) ?_
    have kb:qA4 z0 (z0.alloc (.cells #[U 0#64,W 0#32,.int .i64 0,U 0#64,U 0#64] 148)):=qal _
    have Y:=Blk.new z0 #[U 0#64,W 0#32,.int .i64 0,U 0#64,U 0#64] 148
    have F:=Nat.le_trans I.size l.size
    obtain⟨G,O⟩:∃g,g=z0.heap.size:=⟨_,rfl⟩
    rw[←O]at Y
    replace l:=l.of kb
    go_wp2
    refine j _ _ (kb.mono F) ?_
    clear j J
    try simp only[Act.put,qqB]
    rw[←O]
    have a3:w3.heap.size≤G:=by rw[O];exact F
    clear O
    generalize (z0.alloc (.cells #[U 0#64,W 0#32,.int .i64 0,U 0#64,U 0#64] 148))=y1 at *
    clear F
    refine qAc _ rfl (fun J j=>?_)
    refine qqP (by rfl) ?_
    go_wp2_with fail
    refine(qLc (V.wd.kept (I.of l)) f2.ok (by omega)).mono ?_
    rintro e y2 ⟨rfl,ka⟩
    rw[←f5.out]
    have F:=Nat.le_trans I.size l.size
    replace l:=l.of ka
    go_wp2
    refine j _ _ (ka.mono F) ?_
    clear j J
    try simp only[Act.put,qqB]
    replace Y:=Y.kept ka
    clear F
    refine qA2 _ rfl (fun J j=>?_)
    refine qqP (by rfl) ?_;apply Exists.intro;refine⟨fun w' q=>?_,j _ ?_⟩
    · go_simp;first|done|rfl
    clear j J;simp only[Act.put,qqB]
   all_goals
    refine qAc _ rfl (fun J j=>?_)
    refine qqP (by rfl) ?_
    have f0:=Y.free 0
    have x0:=Y.cell 0
    have f1:=Y.free 1
    have x1:=Y.cell 1
    have f2:=Y.free 2
    have x2:=Y.cell 2
    have f3:=Y.free 3
    have x3:=Y.cell 3
    have f4:=Y.free 4
    have x4:=Y.cell 4
    have bK:=((((Y.set 0 (U r.count)).set 1 (W r.epoch)).set 2 (.int .i64 (N:Int))).set 3 (U r.hash.1)).set 4 (U r.hash.2)
    simp only[qqA,qq0,qq1]at bK
    have b9:Below w3.heap.size y2 (((((y2.setCell ⟨G,0,none⟩ (U r.count)).setCell ⟨G,1,none⟩ (W r.epoch)).setCell ⟨G,2,none⟩ (.int .i64 (N:Int))).setCell ⟨G,3,none⟩ (U r.hash.1)).setCell ⟨G,4,none⟩ (U r.hash.2)):=(((((Below.refl _ _).setCell (p:=⟨G,0,none⟩) a3 _).setCell (p:=⟨G,1,none⟩) a3 _).setCell (p:=⟨G,2,none⟩) a3 _).setCell (p:=⟨G,3,none⟩) a3 _).setCell (p:=⟨G,4,none⟩) a3 _
    have g8:qA4 w3 (((((y2.setCell ⟨G,0,none⟩ (U r.count)).setCell ⟨G,1,none⟩ (W r.epoch)).setCell ⟨G,2,none⟩ (.int .i64 (N:Int))).setCell ⟨G,3,none⟩ (U r.hash.1)).setCell ⟨G,4,none⟩ (U r.hash.2)):=Below.trans (I.of l) b9
    go_wp2
    refine j _ _ (b9) ?_
    clear j J
    try simp only[Act.put,qqB]
    clear f0 x0 f1 x1 f2 x2 f3 x3 f4 x4
    generalize (((((y2.setCell ⟨G,0,none⟩ (U r.count)).setCell ⟨G,1,none⟩ (W r.epoch)).setCell ⟨G,2,none⟩ (.int .i64 (N:Int))).setCell ⟨G,3,none⟩ (U r.hash.1)).setCell ⟨G,4,none⟩ (U r.hash.2))=zF at *
    refine qCZ ?_
    have g5:=V.kept g8
    have h7:=g5.wd.blk
    rw[show(x.commit2 ls).n=N from(qAG.1).trans HX.out]at h7
    have r0:=bK.cell 0
    have r1:=bK.cell 1
    have r2:=bK.cell 2
    have r3:=bK.cell 3
    have r4:=bK.cell 4
    have c2:Calls prog 176 #[.pointer (some ⟨P.W,0,none⟩),.pointer (some ⟨M,0,none⟩),.agg #[U r.count,W r.epoch,.int .i64 (N:Int),U r.hash.1,U r.hash.2]] zF fun e w'=>e= .returned (.int .i64 ((x.commit2 ls).logE k))∧qPE c1 zF P M ((x.commit2 ls).logX boot k r) boot (qIt k) w':=by
     have:=qR3 g5 f2 (by omega) hk r (by rw[i0.out,qAG.1,HX.out])
     rw[qAG.1,HX.out]at this
     exact this
    obtain⟨E3,d2⟩:∃y,y=(x.commit2 ls).logE k:=⟨_,rfl⟩
    rw[←d2]at c2
    have c8:=qh d2
    clear d2
    go_wp2_with fail
    refine c2.mono ?_
    rintro e w5 ⟨rfl,g6,a1,e5⟩
    replace a1:WM g6 w5 P (x.commit3 boot k ls) M boot (qIt k):=by unfold Wd.commit3;rw[←HR.out];exact a1
    have g7:=(g0.trans (Ext.kept (m:=8) V.wd.top g8)).trans e5
    clear r0 r1 r2 r3 r4
    by_cases hE:E3=0
    · have a5:(x.commit2 ls).logE k=0:=by rw[←c8.out,hE]
      have f3:=fi.commit3 (k:=k) (boot:=boot) (ls:=ls) b5.out
      have f8:=a1.wd.blk
      have a2:=f8.cell 2
      have a4:=f8.cell 4
      have CB:=qHe a1.wd f3.ok (by omega)
      obtain⟨B3,c3⟩:∃y,y=(x.commit3 boot k ls).p.spend.1:=⟨_,rfl⟩
      rw[←c3]at CB
      have d4:=qh c3
      replace a5:=qh a5
      clear c3
      go_wp2_with fail
      refine CB.mono ?_
      rintro e w6 ⟨rfl,h9⟩
      obtain⟨g3,a0,e6⟩:=a1.nextM h9
      replace a0:WM g3 w6 P (x.commit4 boot k ls) M boot (qIt k):=a0
      have e2:=g7.trans e6
      cases B3 with
      | false =>
       have f:x.commit boot k ls=(7,x.commit4 boot k ls,qIt k):=by
        unfold Wd.commit
        rw[if_neg (by rw[a9.out];decide),if_neg (by rw[←a6.out];decide),if_neg (by rw[a5.out];decide),if_pos d4.out.symm]
       replace f:=qh f
       clear a2 a4
       go_wp2_with fail
       refine bodyPost_ret (v:=.int .i64 7) (by simp[results,results149,go_sem];done) rfl ⟨by rw[f.out],_,by rw[f.out];exact a0,e2⟩
      | true =>
       have h6:=a0.wd.blk
       have b4:=h6.cell 4
       have f4:=fi.commit4 (k:=k) (boot:=boot) (ls:=ls) b5.out
       have CU:=qQX a0.wd f4.ok (by omega)
       obtain⟨B4,c9⟩:∃y,y=(x.commit4 boot k ls).p.spend.1:=⟨_,rfl⟩
       rw[←c9]at CU
       have e0:=qh c9
       clear c9 a2 a4
       go_wp2_with fail
       refine CU.mono ?_
       rintro e w7 ⟨rfl,h8⟩
       obtain⟨e4,b6,e7⟩:=a0.nextM h8
       replace b6:WM e4 w7 P (x.commit5 boot k ls) M boot (qIt k):=b6
       have e8:=e2.trans e7
       cases B4 with
       | false =>
        have f:x.commit boot k ls=(7,x.commit5 boot k ls,qIt k):=by
         unfold Wd.commit
         rw[if_neg (by rw[a9.out];decide),if_neg (by rw[←a6.out];decide),if_neg (by rw[a5.out];decide),if_neg (by rw[←d4.out];decide),if_pos e0.out.symm]
        replace f:=qh f
        clear b4
        go_wp2_with fail
        refine bodyPost_ret (v:=.int .i64 7) (by simp[results,results149,go_sem];done) rfl ⟨by rw[f.out],_,by rw[f.out];exact b6,e8⟩
       | true =>
        have f:x.commit boot k ls=(0,x.commit5 boot k ls,qIt k):=by
         unfold Wd.commit
         rw[if_neg (by rw[a9.out];decide),if_neg (by rw[←a6.out];decide),if_neg (by rw[a5.out];decide),if_neg (by rw[←d4.out];decide),if_neg (by rw[←e0.out];decide)]
        replace f:=qh f
        clear b4
        go_wp2_with fail
        refine bodyPost_ret (v:=.int .i64 0) (by simp[results,results149,go_sem];done) rfl ⟨by rw[f.out],_,by rw[f.out];exact b6,e8⟩
    · have f:x.commit boot k ls=(E3,x.commit3 boot k ls,qIt k):=by
       unfold Wd.commit
       rw[if_neg (by rw[a9.out];decide),if_neg (by rw[←a6.out];decide),if_pos (by rw[←c8.out];exact hE),←c8.out]
      replace f:=qh f
      go_wp2_with fail
      refine bodyPost_ret (v:=.int .i64 E3) (by simp[results,results149,go_sem];done) rfl ⟨by rw[f.out],_,by rw[f.out];exact a1,g7⟩
theorem qKv (n:Nat):madeCells #[.int .i64 0,.bool false,.int .i64 0,W 0#32,W 0#32,U 0#64,U 0#64,U 0#64] (n*8)=(qAv (List.replicate n Lf.zero)).toArray:=by
 apply Array.ext'
 apply List.ext_getElem
 · rw[Array.length_toList,size_madeCells,qBl,List.length_replicate]
 · intro j F V
   simp only[madeCells,Array.getElem_toList,Array.getElem_map,Array.getElem_range]
   have O:j<n*8:=by simpa [size_madeCells] using F
   have l:j / 8<n:=by omega
   have G:(List.replicate n Lf.zero)[j / 8]? = some Lf.zero:=by simp[l]
   have J:j % 8<8:=Nat.mod_lt _ (by omega)
   have key:∀r,r<8→∃u,Lf.zero.cells[r]? = some u∧(#[.int .i64 0,.bool false,.int .i64 0,W 0#32,W 0#32,U 0#64,U 0#64,U 0#64]:Array Value)[r]! = u:=fun r I=>by
    match r,I with
    | 0,_=>exact⟨_,rfl,rfl⟩
    | 1,_=>exact⟨_,rfl,rfl⟩
    | 2,_=>exact⟨_,rfl,rfl⟩
    | 3,_=>exact⟨_,rfl,rfl⟩
    | 4,_=>exact⟨_,rfl,rfl⟩
    | 5,_=>exact⟨_,rfl,rfl⟩
    | 6,_=>exact⟨_,rfl,rfl⟩
    | 7,_=>exact⟨_,rfl,rfl⟩
    | k+8,h=>omega
   obtain⟨u,c,f⟩:=key (j % 8) J
   have q:=qDR _ (j / 8) _ G (j % 8) u c
   rw[show j / 8*8+j % 8=j by omega]at q
   have N:=(List.getElem?_eq_some_iff.1 q).2
   rw[N,←f]
   rfl
theorem qGm (w:World)(n:Nat)(hn:n≤1000):(Instr.makeSlice 105 (.int .i64 (n:Int)) (.int .i64 (n:Int))).run prog w= .ok (.slice (some ⟨w.heap.size,0,none⟩) n n) (w.alloc (.cells (qAv (List.replicate n Lf.zero)).toArray 117)):=by
 obtain⟨i,f,j,c,h⟩:=qEP.info
 have:=run_make (P:=prog) w 105 117 i _ qEP.under f j .i64 .i64 n n (by omega) (Int.le_refl _) (by rw[h];omega) (by omega)
 rw[this,c]
 simp only[Int.toNat_natCast]
 rw[←qKv]
 rfl
theorem qFj (w:World)(ls:List Lf)(n:Nat)(hn:ls.length=n)(hm:n≤maxLen):(w.alloc (.cells (qAv ls).toArray 117)).ownsRow w.heap.size 117 8 (.slice (some ⟨w.heap.size,0,none⟩) n n) n (qAv ls):=by
 subst hn
 exact⟨qBl ls,.inr ⟨w.heap.size,ls.length,_,rfl,Nat.le_refl _,Blk.new w _ _,Nat.le_refl _,hm,by simp[qBl],List.take_of_length_le (by simp[qBl])⟩⟩
def Wd.loadO (x:Wd):Option (List Lf):=
 if x.c.value=0#64 then some (List.replicate x.n Lf.zero)
 else match x.logGet x.c.value with
  | none=>none
  | some r=>x.areaGet (qCY x.c.value) r.hash
def Wd.loadX (x:Wd):Wd:=
 if x.c.value=0#64 then x
 else match x.logGet x.c.value with
  | none=>x
  | some _=>x.setL (qAX x.l (x.areaRows (qCY x.c.value))).2
theorem Wd.fine.loadX {x:Wd}{m:Nat}(f:x.fine m):x.loadX.fine (m+32):=by
 have h:=qAo f.ok.sl
 unfold Wd.loadX
 split
 · exact f.up (by omega)
 split
 · exact f.up (by omega)
 · have:=f.build (x.areaRows (qCY x.c.value))
   rw[qBf]at this
   exact this.up (by omega)
theorem qBu {x:Wd}:x.loadX.n=x.n∧x.loadX.eps=x.eps∧x.loadX.c=x.c∧x.loadX.seed=x.seed∧x.loadX.p=x.p∧x.loadX.s=x.s∧x.loadX.d=x.d:=by
 unfold Wd.loadX
 split
 · exact⟨rfl,rfl,rfl,rfl,rfl,rfl,rfl⟩
 split
 · exact⟨rfl,rfl,rfl,rfl,rfl,rfl,rfl⟩
 · exact⟨rfl,rfl,rfl,rfl,rfl,rfl,rfl⟩
theorem qKw {col:Nat→Nat}{w:World}{P:qAU}{x:Wd}{m:Nat}(hW:qAW col w P x)(fi:x.fine m)(hm:m≤60000)(hg:x.p.gone=false) :
 Calls prog 44 #[.pointer (some ⟨P.W,0,none⟩)] w fun e w'=>∃v,e= .returned (.tuple #[v,.int .i64 (qI5 x.loadO.isSome 3)])∧(∀ls,x.loadO=some ls→w'.ownsRow w.heap.size 117 8 v ls.length (qAv ls))∧qAW col w' P x.loadX∧Ext 6 col col w w':=by
 have a1:=qAo fi.ok.sl
 obtain⟨N,hN⟩:∃N,N=x.n:=⟨_,rfl⟩
 have HX:Hid (x.n=N):=qh hN.symm
 have J:=hW.blk
 rw[←hN]at J a1
 have q1:=J.cell 1
 have q4:=J.cell 4
 have q0:=J.cell 0
 have CO:=qFO hW
 rw[hg]at CO
 simp only[Bool.not_false]at CO
 have CV:=qI8 hW
 obtain⟨cv,Y⟩:∃y,y=x.c.value:=⟨_,rfl⟩
 rw[←Y]at CV
 have O:=qh Y
 have i1:(N:Int)≤16:=by omega
 have i2:(0:Int)≤(N:Int):=by omega
 have a9:=qGm w N (by omega)
 have a5:=fun wx=>qGk 29 cv wx
 obtain⟨p,hp⟩:∃p,p=qCY cv:=⟨_,rfl⟩
 have a0:p<2:=by rw[hp];exact qC1 _
 rw[show cv.toNat % 2=p from hp.symm]at a5
 have a8:=fun wx=>qLh p a0 wx
 have HP:=qh hp
 clear hN Y hp
 go_enter func44,ntmps44
 go_wp2_with fail
 refine CO.mono ?_
 rintro e w1 ⟨rfl,rfl⟩
 go_wp2_with fail
 refine CV.mono ?_
 rintro e w1 ⟨rfl,rfl⟩
 cases hz:(cv==0#64) with
 | true =>
  have G:x.c.value=0#64:=by rw[←O.out];exact beq_iff_eq.1 hz
  have f:x.loadO=some (List.replicate N Lf.zero):=by unfold Wd.loadO;rw[if_pos G,HX.out]
  have j:x.loadX=x:=by unfold Wd.loadX;rw[if_pos G]
  replace f:=qh f
  replace j:=qh j
  have F:qA4 w (w.alloc (.cells (qAv (List.replicate N Lf.zero)).toArray 117)):=qal _
  have a2:=qFj w (List.replicate N Lf.zero) N (by simp) (by unfold maxLen;omega)
  clear G
  go_wp2_with fail
  refine bodyPost_ret (v:=.tuple #[.slice (some ⟨w.heap.size,0,none⟩) N N,.int .i64 0]) (by simp[results,results44,go_sem];done) rfl ⟨_,by rw[f.out];rfl,fun ls h=>?_,by rw[j.out];exact hW.kept F,Ext.kept hW.top F⟩
  rw[f.out]at h
  cases h
  rw[List.length_replicate]
  exact a2
 | false =>
  have G:¬x.c.value=0#64:=by rw[←O.out];exact beq_eq_false_iff_ne.1 hz
  have f:x.loadO=match x.logGet cv with|none=>none|some r=>x.areaGet p r.hash:=by unfold Wd.loadO;rw[if_neg G,HP.out,O.out]
  have j:x.loadX=match x.logGet cv with|none=>x|some _=>x.setL (qAX x.l (x.areaRows p)).2:=by unfold Wd.loadX;rw[if_neg G,HP.out,O.out]
  have CG:=qR4 hW fi (by omega) hg cv
  obtain⟨o,ho⟩:∃o,o=x.logGet cv:=⟨_,rfl⟩
  rw[←ho]at CG f j
  obtain⟨q,hq⟩:∃q,q=qSj o:=⟨_,rfl⟩
  rw[←hq]at CG
  unfold Rt.val at CG
  have HQ:=qh hq
  have HO:=qh ho
  clear G ho hq
  cases o with
  | none =>
   replace f:=qh (show x.loadO=none from f)
   replace j:=qh (show x.loadX=x from j)
   go_wp2_with fail
   refine CG.mono ?_
   rintro e Z ⟨rfl,I⟩
   simp only[Option.isSome_none,qI5]
   have F:qA4 Z (Z.alloc (.cells #[U q.count,W q.epoch,.int .i64 q.slots,U q.hash.1,U q.hash.2] 148)):=qal _
   go_wp2_with fail
   refine bodyPost_ret (v:=.tuple #[.slice none 0 0,.int .i64 3]) (by simp[results,results44,go_sem];done) rfl ⟨_,by rw[f.out];rfl,(fun ls h=>by rw[f.out]at h;cases h),by rw[j.out];exact hW.kept (I.of F),Ext.kept hW.top (I.of F)⟩
  | some q0 =>
   have a3:q=q0:=HQ.out
   subst a3
   replace f:=qh (show x.loadO=x.areaGet p q.hash from f)
   replace j:=qh (show x.loadX=x.setL (qAX x.l (x.areaRows p)).2 from j)
   go_wp2_with fail
   refine CG.mono ?_
   rintro e Z ⟨rfl,I⟩
   simp only[Option.isSome_some,qI5]
   have F:qA4 Z (Z.alloc (.cells #[U q.count,W q.epoch,.int .i64 q.slots,U q.hash.1,U q.hash.2] 148)):=qal _
   have bQ:=Blk.new Z #[U q.count,W q.epoch,.int .i64 q.slots,U q.hash.1,U q.hash.2] 148
   have b3:=bQ.cell 3
   have b4:=bQ.cell 4
   have CA:=qNJ (hW.kept (I.of F)) fi hm hg p a0 q.hash
   obtain⟨Er,V⟩:∃y,y=qI5 (x.areaGet p q.hash).isSome 3:=⟨_,rfl⟩
   rw[←V]at CA
   have a6:=qh V
   clear V
   go_wp2_with fail
   refine CA.mono ?_
   rintro e w3 ⟨v,rfl,a7,a4,e3⟩
   go_wp2_with fail
   refine bodyPost_ret (v:=.tuple #[v,.int .i64 Er]) (by simp[results,results44,go_sem];done) rfl ⟨_,by rw[f.out,a6.out],fun ls h=>qAh (a7 ls (by rw[←f.out];exact h)) (I.of F).size,by rw[j.out];exact a4,(Ext.kept hW.top (I.of F)).trans e3⟩
end Go.Proofs.YtdlgihbpiakebaaGreat
