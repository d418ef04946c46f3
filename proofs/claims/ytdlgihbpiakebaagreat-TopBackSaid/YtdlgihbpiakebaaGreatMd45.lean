import Derived.Test.YtdlgihbpiakebaaGreatMd41
import Derived.Test.YtdlgihbpiakebaaGreatMd43
import Derived.Test.YtdlgihbpiakebaaGreatMd44
set_option maxRecDepth 100000
set_option maxHeartbeats 4000000
namespace Go.Proofs.YtdlgihbpiakebaaGreat
open Go Go.RowKit Tryz
def Wd.opened (x : Wd) (rec : List UInt8) : Option Rt :=
 if gK rec = true ∧ x.eps.contains (gN rec).epoch = true ∧ ((gN rec).version >>> 32 != x.c.at_) = false then
  match x.l.openP (qFO x.seed x.eps (gN rec).epoch) (gN rec) [] (gS rec) (gT rec) with
  | none=>none
  | some b=>qLb b
 else none
def qR7 (o : Option Rt) : Rt:=o.getD Rt.zero
theorem qIv (bs : List UInt8) : (gS bs).length ≤ 32:=by
 unfold gS
 split
 · unfold qQw;rw [List.length_take];omega
 · simp
theorem qJG {x : Wd} (hd : x.l.dataOk) {key : qAB} {n : Nn} {head out : List UInt8} {tag : qAB} {b : List UInt8} (h : x.l.openP key n head out tag = some b) (ho : out.length ≤ 4000) : b.length ≤ 4000:=by
 cases hl : x.l with
 | real =>
  rw [hl] at h
  unfold Lk.openP at h
  simp only at h
  split at h
  · cases h;rw [qBy];exact ho
  · cases h
 | ideal iss sums =>
  rw [hl] at h hd
  unfold Lk.openP qDS at h
  simp only at h
  cases hf : iss.find? (fun x=>x.opens key n head out tag) with
  | none=>rw [hf] at h;cases h
  | some y =>
   rw [hf] at h
   cases h
   exact (hd y (List.mem_of_find?_eq_some hf)).1
theorem qLp {col : Nat → Nat} {w : World} {P : qAQ} {x : Wd} {m : Nat} (hW : qAS col w P x) (fi : x.fine m) (hm : m ≤ 70000) (vr : Value) (rec : List UInt8) (hrl : rec.length ≤ 4000) (hs : Sl w vr rec.length (qA1 rec)) :
 Calls prog 103 #[.pointer (some ⟨P.W,0,none⟩),vr] w fun e w'=>e = .returned (.tuple #[(qR7 (x.opened rec)).val,.bool (x.opened rec).isSome]) ∧ qA4 w w':=by
 obtain ⟨ra,rc,rfl⟩:=hs.len
 obtain ⟨N,hN⟩ : ∃ N,N = x.n:=⟨_,rfl⟩
 have hbW:=hW.blk
 rw [← hN] at hbW
 have hkA : qA4 w (w.alloc (.cells #[U 0#64,W 0#32,.int .i64 0,U 0#64,U 0#64] 148)):=qal _
 have bZ:=Blk.new w #[U 0#64,W 0#32,.int .i64 0,U 0#64,U 0#64] 148
 have CR:=qLk _ rec hrl (w.alloc (.cells #[U 0#64,W 0#32,.int .i64 0,U 0#64,U 0#64] 148)) (hs.kept hkA)
 obtain ⟨n,hn⟩ : ∃ n,n = gN rec:=⟨_,rfl⟩
 obtain ⟨T,hT⟩ : ∃ y,y = gT rec:=⟨_,rfl⟩
 obtain ⟨B1,hB1⟩ : ∃ b,b = gK rec:=⟨_,rfl⟩
 rw [← hn,← hT,← hB1] at CR
 unfold Nn.val at CR
 have HNN:=qh hn
 have HTT:=qh hT
 have HB1:=qh hB1
 obtain ⟨T1,T2⟩:=T
 obtain ⟨ky,hky⟩ : ∃ y,y = qFO x.seed x.eps n.epoch:=⟨_,rfl⟩
 have HKY:=qh hky
 obtain ⟨k1,k2⟩:=ky
 obtain ⟨B2,hB2⟩ : ∃ b,b = x.eps.contains n.epoch:=⟨_,rfl⟩
 have HB2:=qh hB2
 clear hn hT hB1 hky hB2 hN
 go_enter func103,ntmps103
 go_wp2_with fail
 generalize (w.alloc (.cells #[U 0#64,W 0#32,.int .i64 0,U 0#64,U 0#64] 148)) = wA at *
 refine CR.mono ?_
 rintro e w1 ⟨u,rfl,su,hk1⟩
 obtain ⟨ua,uc,rfl⟩:=su.len
 obtain ⟨ul,hul⟩ : ∃ l,l = (gS rec).length:=⟨_,rfl⟩
 rw [← hul]
 have su1 : Sl w1 (.slice ua ul uc) (gS rec).length (qA1 (gS rec)):=by rw [hul];exact su
 have HUL:=qh hul
 clear hul su
 have hk13 : qA4 w1 ((w1.alloc (.cells #[W n.epoch,W n.slot,U n.version] 113)).alloc (.cells #[.slice ua ul uc,U T1,U T2] 165)):=(qal _).alloc (by simp) _
 have bN1:=(Blk.new w1 #[W n.epoch,W n.slot,U n.version] 113).alloc (.cells #[.slice ua ul uc,U T1,U T2] 165)
 have bS1:=Blk.new (w1.alloc (.cells #[W n.epoch,W n.slot,U n.version] 113)) #[.slice ua ul uc,U T1,U T2] 165
 rw [World.size_alloc] at bS1
 go_wp2_with fail
 obtain ⟨w3,hw3⟩ : ∃ y,y = ((w1.alloc (.cells #[W n.epoch,W n.slot,U n.version] 113)).alloc (.cells #[.slice ua ul uc,U T1,U T2] 165)):=⟨_,rfl⟩
 rw [← hw3] at hk13 bN1 bS1 ⊢
 clear hw3
 have bN3:=bN1
 have bS3:=bS1
 have k1w:=hk1.of hk13
 have hk3:=hkA.of k1w
 have bW3:=hbW.kept hk3
 have su3:=su1.kept hk13
 go_wp2_with fail
 refine qBe w3.heap.size [(0,0),(1,0),(2,0),(3,0),(4,0),(5,0),(7,0),(8,0),(9,0),(12,0)] ((.light 0 (.light 1 (.light 2 (.light 3 (.light 4 (.light 5 (.two 6 10 (.light 7 (.light 8 (.light 9 (.heavy 10 (.heavy 11 (.light 12 .nil)))))) (.heavy 6 (.light 7 (.light 8 (.light 9 (.heavy 11 (.light 12 .nil)))))))))))))) (by kernel_rfl) (by kernel_rfl) ?_
 intro z0 hz0
 have hkS : qA4 z0 z0:=Below.refl _ _
 have bWz:=bW3.kept hz0
 have bNz:=bN3.kept hz0
 refine qA2 _ rfl (fun J hJ=>?_)
 refine qqP (by rfl) ?_;apply Exists.intro;refine ⟨fun w' hw'=>?_,hJ _ ?_⟩
 · go_simp;first|done|rfl
 clear hJ J;simp only [Act.put,qqB]
 refine qA2 _ rfl (fun J hJ=>?_)
 refine qqP (by rfl) ?_;apply Exists.intro;refine ⟨fun w' hw'=>?_,hJ _ ?_⟩
 · go_simp;first|done|rfl
 clear hJ J;simp only [Act.put,qqB]
 refine qA2 _ rfl (fun J hJ=>?_)
 refine qqP (by rfl) ?_;apply Exists.intro;refine ⟨fun w' hw'=>?_,hJ _ ?_⟩
 · go_simp;first|done|rfl
 clear hJ J;simp only [Act.put,qqB]
 refine qA2 _ rfl (fun J hJ=>?_)
 refine qqP (by rfl) ?_;apply Exists.intro;refine ⟨fun w' hw'=>?_,hJ _ ?_⟩
 · have c:=(bWz.below hw' bW3.lt);have c5:=c.cell 5;clear c;go_simp;first|done|rfl
 clear hJ J;simp only [Act.put,qqB]
 refine qA2 _ rfl (fun J hJ=>?_)
 refine qqP (by rfl) ?_;apply Exists.intro;refine ⟨fun w' hw'=>?_,hJ _ ?_⟩
 · go_simp;first|done|rfl
 clear hJ J;simp only [Act.put,qqB]
 refine qA2 _ rfl (fun J hJ=>?_)
 refine qqP (by rfl) ?_;apply Exists.intro;refine ⟨fun w' hw'=>?_,hJ _ ?_⟩
 · have c:=(bNz.below hw' bN3.lt);have c0:=c.cell 0;clear c;go_simp;first|done|rfl
 clear hJ J;simp only [Act.put,qqB]
 refine qBY ?_ ?_
 focus
  refine qAa _ rfl (fun J hJ=>?_)
  refine qqP (by rfl) ?_
  go_wp2_with fail
  refine (qIk (hW.kept (hk3.of (hz0.of hkS))) fi.ok (by omega) n.epoch).mono ?_
  rintro e y1 ⟨rfl,ka⟩
  rw [← HKY.out,← HB2.out]
  have hsz:=Nat.le_trans hz0.size hkS.size
  replace hkS:=hkS.of ka
  unfold Pr
  go_wp2
  refine hJ _ _ (ka.mono hsz) ?_
  clear hJ J
  try simp only [Act.put,qqB]
  clear hsz
  refine qA2 _ rfl (fun J hJ=>?_)
  refine qqP (by rfl) ?_;apply Exists.intro;refine ⟨fun w' hw'=>?_,hJ _ ?_⟩
  · go_simp;first|done|rfl
  clear hJ J;simp only [Act.put,qqB]
  refine qA2 _ rfl (fun J hJ=>?_)
  refine qqP (by rfl) ?_;apply Exists.intro;refine ⟨fun w' hw'=>?_,hJ _ ?_⟩
  · go_simp;first|done|rfl
  clear hJ J;simp only [Act.put,qqB]
  refine qA2 _ rfl (fun J hJ=>?_)
  refine qqP (by rfl) ?_;apply Exists.intro;refine ⟨fun w' hw'=>?_,hJ _ ?_⟩
  · go_simp;first|done|rfl
  clear hJ J;simp only [Act.put,qqB]
  refine qAa _ rfl (fun J hJ=>?_)
  refine qqP (by rfl) ?_
  have kb : qA4 y1 (y1.alloc (.cells #[U 0#64,U 0#64] 115)):=qal _
  have bY:=Blk.new y1 #[U 0#64,U 0#64] 115
  have hsz:=Nat.le_trans hz0.size hkS.size
  obtain ⟨gk,hgk⟩ : ∃ g,g = y1.heap.size:=⟨_,rfl⟩
  rw [← hgk] at bY
  replace hkS:=hkS.of kb
  go_wp2
  refine hJ _ _ (kb.mono hsz) ?_
  clear hJ J
  try simp only [Act.put,qqB]
  rw [← hgk]
  have hg1 : w3.heap.size ≤ gk:=by rw [hgk];exact hsz
  clear hgk
  generalize (y1.alloc (.cells #[U 0#64,U 0#64] 115)) = y2 at *
  clear hsz
 rotate_left
 focus
  refine qAa _ rfl (fun J hJ=>?_)
  refine qqP (by rfl) ?_
  have kb : qA4 z0 (z0.alloc (.cells #[U 0#64,U 0#64] 115)):=qal _
  have bY:=Blk.new z0 #[U 0#64,U 0#64] 115
  have hsz:=Nat.le_trans hz0.size hkS.size
  obtain ⟨gk,hgk⟩ : ∃ g,g = z0.heap.size:=⟨_,rfl⟩
  rw [← hgk] at bY
  replace hkS:=hkS.of kb
  go_wp2
  refine hJ _ _ (kb.mono hsz) ?_
  clear hJ J
  try simp only [Act.put,qqB]
  rw [← hgk]
  have hg1 : w3.heap.size ≤ gk:=by rw [hgk];exact hsz
  clear hgk
  generalize (z0.alloc (.cells #[U 0#64,U 0#64] 115)) = y1 at *
  clear hsz
  refine qAa _ rfl (fun J hJ=>?_)
  refine qqP (by rfl) ?_
  go_wp2_with fail
  refine (qIk (hW.kept (hk3.of (hz0.of hkS))) fi.ok (by omega) n.epoch).mono ?_
  rintro e y2 ⟨rfl,ka⟩
  rw [← HKY.out,← HB2.out]
  have hsz:=Nat.le_trans hz0.size hkS.size
  replace hkS:=hkS.of ka
  unfold Pr
  go_wp2
  refine hJ _ _ (ka.mono hsz) ?_
  clear hJ J
  try simp only [Act.put,qqB]
  replace bY:=bY.kept ka
  clear hsz
  refine qA2 _ rfl (fun J hJ=>?_)
  refine qqP (by rfl) ?_;apply Exists.intro;refine ⟨fun w' hw'=>?_,hJ _ ?_⟩
  · go_simp;first|done|rfl
  clear hJ J;simp only [Act.put,qqB]
  refine qA2 _ rfl (fun J hJ=>?_)
  refine qqP (by rfl) ?_;apply Exists.intro;refine ⟨fun w' hw'=>?_,hJ _ ?_⟩
  · go_simp;first|done|rfl
  clear hJ J;simp only [Act.put,qqB]
  refine qA2 _ rfl (fun J hJ=>?_)
  refine qqP (by rfl) ?_;apply Exists.intro;refine ⟨fun w' hw'=>?_,hJ _ ?_⟩
  · go_simp;first|done|rfl
  clear hJ J;simp only [Act.put,qqB]
 all_goals
  refine qAa _ rfl (fun J hJ=>?_)
  refine qqP (by rfl) ?_
  have f0:=bY.free 0
  have f1:=bY.free 1
  have x0:=bY.cell 0
  have x1:=bY.cell 1
  have bK:=(bY.set 0 (U k1)).set 1 (U k2)
  simp only [qqA,qq0,qq1] at bK
  have hbel : Below w3.heap.size y2 ((y2.setCell ⟨gk,0,none⟩ (U k1)).setCell ⟨gk,1,none⟩ (U k2)):=((Below.refl _ _).setCell (p:=⟨gk,0,none⟩) hg1 _).setCell (p:=⟨gk,1,none⟩) hg1 _
  have hkF : qA4 w3 ((y2.setCell ⟨gk,0,none⟩ (U k1)).setCell ⟨gk,1,none⟩ (U k2)):=Below.trans (hz0.of hkS) hbel
  go_wp2
  refine hJ _ _ (hbel) ?_
  clear hJ J
  try simp only [Act.put,qqB]
  clear f0 f1 x0 x1
  generalize ((y2.setCell ⟨gk,0,none⟩ (U k1)).setCell ⟨gk,1,none⟩ (U k2)) = zF at *
  refine qA2 _ rfl (fun J hJ=>?_)
  refine qqP (by rfl) ?_;apply Exists.intro;refine ⟨fun w' hw'=>?_,hJ _ ?_⟩
  · go_simp;first|done|rfl
  clear hJ J;simp only [Act.put,qqB]
  refine qCS ?_
  have bNF:=bN3.kept hkF
  have bSF:=bS3.kept hkF
  have bWF:=bW3.kept hkF
  have suF:=su3.kept hkF
  have CB:=fun z=>qKR n z
  unfold Nn.val at CB
  go_wp2_with fail
  cases B1 with
  | false =>
   have hno : x.opened rec = none:=by unfold Wd.opened;rw [if_neg];rintro ⟨h,_⟩;rw [← HB1.out] at h;cases h
   replace hno:=qh hno
   refine qA5 [(0,0),(1,0),(2,0),(3,0),(4,0),(5,0),(6,0),(7,0),(9,0),(10,0),(11,0),(12,0),(8,1),(13,1),(14,0),(15,0)] (by kernel_rfl) (by kernel_rfl) ?_
   intro z3 hz3
   repeat
    refine qA0 _ rfl (fun K hK=>?_)
    first
     | (refine qqP (by rfl) ?_;apply Exists.intro;refine ⟨fun w' hw'=>?_,hK _ ?_⟩;(have c:=bNF.kept (hz3.of hw');have c0:=c.cell 0;have c1:=c.cell 1;have c2:=c.cell 2;clear c;have d:=bWF.kept (hz3.of hw');have d4:=d.cell 4;clear d;go_simp;first|done|rfl))
     | refine qqN (by rfl) (hK _ ?_)
    clear hK K;simp only [Act.put,qqB]
   refine qB5 _ rfl (fun K hK=>?_)
   refine qqN (by rfl) ?_
   intro hK'
   refine hK' _ _ ?_
   clear hK hK' K
   simp only [Act.put,qqB]
   refine qB5 _ rfl (fun K hK=>?_)
   refine qqN (by rfl) ?_
   intro hK'
   refine hK' _ _ ?_
   clear hK hK' K
   simp only [Act.put,qqB]
   repeat
    refine qA0 _ rfl (fun K hK=>?_)
    first
     | (refine qqP (by rfl) ?_;apply Exists.intro;refine ⟨fun w' hw'=>?_,hK _ ?_⟩;(have c:=bNF.kept (hz3.of hw');have c0:=c.cell 0;have c1:=c.cell 1;have c2:=c.cell 2;clear c;have d:=bWF.kept (hz3.of hw');have d4:=d.cell 4;clear d;go_simp;first|done|rfl))
     | refine qqN (by rfl) (hK _ ?_)
    clear hK K;simp only [Act.put,qqB]
   refine qA7 ?_
   have bZe:=bZ.kept ((k1w.of hkF).of hz3)
   have f0:=bZe.free 0
   have f1:=bZe.free 1
   have f2:=bZe.free 2
   have f3:=bZe.free 3
   have f4:=bZe.free 4
   have x0:=bZe.cell 0
   have x1:=bZe.cell 1
   have x2:=bZe.cell 2
   have x3:=bZe.cell 3
   have x4:=bZe.cell 4
   go_wp2_with fail
   have bE:=((((bZe.set 0 (U 0#64)).set 1 (W 0#32)).set 2 (.int .i64 0)).set 3 (U 0#64)).set 4 (U 0#64)
   have hkE : qA4 w (((((z3.setCell ⟨w.heap.size,0,none⟩ (U 0#64)).setCell ⟨w.heap.size,1,none⟩ (W 0#32)).setCell ⟨w.heap.size,2,none⟩ (.int .i64 0)).setCell ⟨w.heap.size,3,none⟩ (U 0#64)).setCell ⟨w.heap.size,4,none⟩ (U 0#64)):=qA9 (qA9 (qA9 (qA9 (qA9 ((hk3.of hkF).of hz3) 0 _) 1 _) 2 _) 3 _) 4 _
   have r0:=bE.cell 0
   have r1:=bE.cell 1
   have r2:=bE.cell 2
   have r3:=bE.cell 3
   have r4:=bE.cell 4
   generalize (((((z3.setCell ⟨w.heap.size,0,none⟩ (U 0#64)).setCell ⟨w.heap.size,1,none⟩ (W 0#32)).setCell ⟨w.heap.size,2,none⟩ (.int .i64 0)).setCell ⟨w.heap.size,3,none⟩ (U 0#64)).setCell ⟨w.heap.size,4,none⟩ (U 0#64)) = zE at *
   refine bodyPost_ret (v:=.tuple #[.agg #[U 0#64,W 0#32,.int .i64 0,U 0#64,U 0#64],.bool false]) (by simp [results,results103,go_sem,r0,r1,r2,r3,r4];done) rfl ⟨by rw [show x.opened rec = none from hno.out];rfl,hkE⟩
  | true =>
   cases B2 with
   | false =>
    have hno : x.opened rec = none:=by unfold Wd.opened;rw [if_neg];rintro ⟨_,h,_⟩;rw [← HNN.out] at h;rw [← HB2.out] at h;cases h
    replace hno:=qh hno
    refine qA5 [(0,0),(1,0),(2,0),(3,0),(4,0),(5,0),(6,0),(7,0),(9,0),(10,0),(11,0),(12,0),(8,1),(13,1),(14,0),(15,0)] (by kernel_rfl) (by kernel_rfl) ?_
    intro z3 hz3
    repeat
     refine qA0 _ rfl (fun K hK=>?_)
     first
      | (refine qqP (by rfl) ?_;apply Exists.intro;refine ⟨fun w' hw'=>?_,hK _ ?_⟩;(have c:=bNF.kept (hz3.of hw');have c0:=c.cell 0;have c1:=c.cell 1;have c2:=c.cell 2;clear c;have d:=bWF.kept (hz3.of hw');have d4:=d.cell 4;clear d;go_simp;first|done|rfl))
      | refine qqN (by rfl) (hK _ ?_)
     clear hK K;simp only [Act.put,qqB]
    refine qB5 _ rfl (fun K hK=>?_)
    refine qqN (by rfl) ?_
    intro hK'
    refine hK' _ _ ?_
    clear hK hK' K
    simp only [Act.put,qqB]
    refine qB5 _ rfl (fun K hK=>?_)
    refine qqN (by rfl) ?_
    intro hK'
    refine hK' _ _ ?_
    clear hK hK' K
    simp only [Act.put,qqB]
    repeat
     refine qA0 _ rfl (fun K hK=>?_)
     first
      | (refine qqP (by rfl) ?_;apply Exists.intro;refine ⟨fun w' hw'=>?_,hK _ ?_⟩;(have c:=bNF.kept (hz3.of hw');have c0:=c.cell 0;have c1:=c.cell 1;have c2:=c.cell 2;clear c;have d:=bWF.kept (hz3.of hw');have d4:=d.cell 4;clear d;go_simp;first|done|rfl))
      | refine qqN (by rfl) (hK _ ?_)
     clear hK K;simp only [Act.put,qqB]
    refine qA7 ?_
    have bZe:=bZ.kept ((k1w.of hkF).of hz3)
    have f0:=bZe.free 0
    have f1:=bZe.free 1
    have f2:=bZe.free 2
    have f3:=bZe.free 3
    have f4:=bZe.free 4
    have x0:=bZe.cell 0
    have x1:=bZe.cell 1
    have x2:=bZe.cell 2
    have x3:=bZe.cell 3
    have x4:=bZe.cell 4
    go_wp2_with fail
    have bE:=((((bZe.set 0 (U 0#64)).set 1 (W 0#32)).set 2 (.int .i64 0)).set 3 (U 0#64)).set 4 (U 0#64)
    have hkE : qA4 w (((((z3.setCell ⟨w.heap.size,0,none⟩ (U 0#64)).setCell ⟨w.heap.size,1,none⟩ (W 0#32)).setCell ⟨w.heap.size,2,none⟩ (.int .i64 0)).setCell ⟨w.heap.size,3,none⟩ (U 0#64)).setCell ⟨w.heap.size,4,none⟩ (U 0#64)):=qA9 (qA9 (qA9 (qA9 (qA9 ((hk3.of hkF).of hz3) 0 _) 1 _) 2 _) 3 _) 4 _
    have r0:=bE.cell 0
    have r1:=bE.cell 1
    have r2:=bE.cell 2
    have r3:=bE.cell 3
    have r4:=bE.cell 4
    generalize (((((z3.setCell ⟨w.heap.size,0,none⟩ (U 0#64)).setCell ⟨w.heap.size,1,none⟩ (W 0#32)).setCell ⟨w.heap.size,2,none⟩ (.int .i64 0)).setCell ⟨w.heap.size,3,none⟩ (U 0#64)).setCell ⟨w.heap.size,4,none⟩ (U 0#64)) = zE at *
    refine bodyPost_ret (v:=.tuple #[.agg #[U 0#64,W 0#32,.int .i64 0,U 0#64,U 0#64],.bool false]) (by simp [results,results103,go_sem,r0,r1,r2,r3,r4];done) rfl ⟨by rw [show x.opened rec = none from hno.out];rfl,hkE⟩
   | true =>
    cases hB3 : (n.version >>> 32 != x.c.at_) with
    | true =>
     have hno : x.opened rec = none:=by unfold Wd.opened;rw [if_neg];rintro ⟨_,_,h⟩;rw [← HNN.out,hB3] at h;cases h
     replace hno:=qh hno
     refine qA5 [(0,0),(1,0),(2,0),(3,0),(4,0),(5,0),(6,0),(7,0),(9,0),(10,0),(11,0),(12,0),(8,1),(13,1),(14,0),(15,0)] (by kernel_rfl) (by kernel_rfl) ?_
     intro z3 hz3
     repeat
      refine qA0 _ rfl (fun K hK=>?_)
      first
       | (refine qqP (by rfl) ?_;apply Exists.intro;refine ⟨fun w' hw'=>?_,hK _ ?_⟩;(have c:=bNF.kept (hz3.of hw');have c0:=c.cell 0;have c1:=c.cell 1;have c2:=c.cell 2;clear c;have d:=bWF.kept (hz3.of hw');have d4:=d.cell 4;clear d;go_simp;first|done|rfl))
       | refine qqN (by rfl) (hK _ ?_)
      clear hK K;simp only [Act.put,qqB]
     refine qqH _ rfl (by rfl) (fun K hK=>?_)
     go_wp2_with fail
     refine (CB z3).mono ?_
     rintro e z4 ⟨rfl,hk4⟩
     go_wp2
     refine hK _ _ (hk4) ?_
     clear hK K
     try simp only [Act.put,qqB]
     refine qqH _ rfl (by rfl) (fun K hK=>?_)
     go_wp2_with fail
     refine (qR6 ((hW.kept (hk3.of hkF)).kept (hz3.of hk4))).mono ?_
     rintro e z5 ⟨rfl,rfl⟩
     go_wp2
     refine hK _ _ (Below.refl _ _) ?_
     clear hK K
     try simp only [Act.put,qqB]
     repeat
      refine qA0 _ rfl (fun K hK=>?_)
      first
       | (refine qqP (by rfl) ?_;apply Exists.intro;refine ⟨fun w' hw'=>?_,hK _ ?_⟩;(have d:=bWF.kept ((hz3.of hk4).of hw');have d4:=d.cell 4;clear d;go_simp;first|done|rfl))
       | refine qqN (by rfl) (hK _ ?_)
      clear hK K;simp only [Act.put,qqB]
     refine qA7 ?_
     have bZe:=bZ.kept ((k1w.of hkF).of (hz3.of hk4))
     have f0:=bZe.free 0
     have f1:=bZe.free 1
     have f2:=bZe.free 2
     have f3:=bZe.free 3
     have f4:=bZe.free 4
     have x0:=bZe.cell 0
     have x1:=bZe.cell 1
     have x2:=bZe.cell 2
     have x3:=bZe.cell 3
     have x4:=bZe.cell 4
     go_wp2_with fail
     have bE:=((((bZe.set 0 (U 0#64)).set 1 (W 0#32)).set 2 (.int .i64 0)).set 3 (U 0#64)).set 4 (U 0#64)
     have hkE : qA4 w (((((z4.setCell ⟨w.heap.size,0,none⟩ (U 0#64)).setCell ⟨w.heap.size,1,none⟩ (W 0#32)).setCell ⟨w.heap.size,2,none⟩ (.int .i64 0)).setCell ⟨w.heap.size,3,none⟩ (U 0#64)).setCell ⟨w.heap.size,4,none⟩ (U 0#64)):=qA9 (qA9 (qA9 (qA9 (qA9 ((hk3.of hkF).of (hz3.of hk4)) 0 _) 1 _) 2 _) 3 _) 4 _
     have r0:=bE.cell 0
     have r1:=bE.cell 1
     have r2:=bE.cell 2
     have r3:=bE.cell 3
     have r4:=bE.cell 4
     generalize (((((z4.setCell ⟨w.heap.size,0,none⟩ (U 0#64)).setCell ⟨w.heap.size,1,none⟩ (W 0#32)).setCell ⟨w.heap.size,2,none⟩ (.int .i64 0)).setCell ⟨w.heap.size,3,none⟩ (U 0#64)).setCell ⟨w.heap.size,4,none⟩ (U 0#64)) = zE at *
     refine bodyPost_ret (v:=.tuple #[.agg #[U 0#64,W 0#32,.int .i64 0,U 0#64,U 0#64],.bool false]) (by simp [results,results103,go_sem,r0,r1,r2,r3,r4];done) rfl ⟨by rw [show x.opened rec = none from hno.out];rfl,hkE⟩
    | false =>
     have hop : x.opened rec = match x.l.openP (k1,k2) n [] (gS rec) (T1,T2) with | none=>none | some b=>qLb b:=by
      unfold Wd.opened
      rw [if_pos ⟨HB1.out.symm,by rw [← HNN.out];exact HB2.out.symm,by rw [← HNN.out];exact hB3⟩,← HNN.out,← HKY.out,← HTT.out]
     obtain ⟨op,hop2⟩ : ∃ o,o = x.l.openP (k1,k2) n [] (gS rec) (T1,T2):=⟨_,rfl⟩
     have hdl : ∀ b,op = some b → b.length ≤ 4000:=fun b h=>qJG fi.dat (by rw [← hop2];exact h) (by have:=qIv rec;omega)
     rw [← hop2] at hop
     have HOP:=qh hop2
     have HOPN:=qh hop
     clear hop hop2
     refine qA5 [(0,0),(1,0),(2,0),(3,0),(4,0),(5,0),(6,0),(7,0),(9,0),(10,0),(11,0),(12,0),(8,1),(13,1),(14,0),(15,0)] (by kernel_rfl) (by kernel_rfl) ?_
     intro z3 hz3
     repeat
      refine qA0 _ rfl (fun K hK=>?_)
      first
       | (refine qqP (by rfl) ?_;apply Exists.intro;refine ⟨fun w' hw'=>?_,hK _ ?_⟩;(have c:=bNF.kept (hz3.of hw');have c0:=c.cell 0;have c1:=c.cell 1;have c2:=c.cell 2;clear c;have d:=bWF.kept (hz3.of hw');have d4:=d.cell 4;clear d;go_simp;first|done|rfl))
       | refine qqN (by rfl) (hK _ ?_)
      clear hK K;simp only [Act.put,qqB]
     refine qqH _ rfl (by rfl) (fun K hK=>?_)
     go_wp2_with fail
     refine (CB z3).mono ?_
     rintro e z4 ⟨rfl,hk4⟩
     go_wp2
     refine hK _ _ (hk4) ?_
     clear hK K
     try simp only [Act.put,qqB]
     refine qqH _ rfl (by rfl) (fun K hK=>?_)
     go_wp2_with fail
     refine (qR6 ((hW.kept (hk3.of hkF)).kept (hz3.of hk4))).mono ?_
     rintro e z5 ⟨rfl,rfl⟩
     go_wp2
     refine hK _ _ (Below.refl _ _) ?_
     clear hK K
     try simp only [Act.put,qqB]
     repeat
      refine qA0 _ rfl (fun K hK=>?_)
      first
       | (refine qqP (by rfl) ?_;apply Exists.intro;refine ⟨fun w' hw'=>?_,hK _ ?_⟩;(have d:=bWF.kept ((hz3.of hk4).of hw');have d4:=d.cell 4;clear d;go_simp;first|done|rfl))
       | refine qqN (by rfl) (hK _ ?_)
      clear hK K;simp only [Act.put,qqB]
     refine qA7 ?_
     go_wp2_with fail
     refine qA5 [(0,0),(1,0),(2,0),(3,0),(4,0),(5,0),(6,0),(7,1),(8,0),(9,0),(10,0),(11,0),(12,0)] (by kernel_rfl) (by kernel_rfl) ?_
     intro z6 hz6
     repeat
      refine qA0 _ rfl (fun K hK=>?_)
      first
       | (refine qqP (by rfl) ?_;apply Exists.intro;refine ⟨fun w' hw'=>?_,hK _ ?_⟩;(have c:=bWF.kept ((hz3.of hk4).of (hz6.of hw'));have c6:=c.cell 6;clear c;have d:=bK.kept ((hz3.of hk4).of (hz6.of hw'));have d0:=d.cell 0;have d1:=d.cell 1;clear d;have n:=bNF.kept ((hz3.of hk4).of (hz6.of hw'));have n0:=n.cell 0;have n1:=n.cell 1;have n2:=n.cell 2;clear n;have s:=bSF.kept ((hz3.of hk4).of (hz6.of hw'));have s0:=s.cell 0;have s1:=s.cell 1;have s2:=s.cell 2;clear s;go_simp;first|done|rfl))
       | refine qqN (by rfl) (hK _ ?_)
      clear hK K;simp only [Act.put,qqB]
     refine qqH _ rfl (by rfl) (fun K hK=>?_)
     go_wp2_with fail
     refine (qML (hW.kept ((hk3.of hkF).of ((hz3.of hk4).of hz6))) fi (by omega) (k1,k2) (T1,T2) n (.slice none 0 0) (.slice ua ul uc) [] (gS rec) (by simp) (by have:=qIv rec;omega) (Sl.nil _) (suF.kept ((hz3.of hk4).of hz6))).mono ?_
     rintro e z7 ⟨v,rfl,hov,hk7⟩
     rw [HOP.out.symm]
     go_wp2
     refine hK _ _ (hk7) ?_
     clear hK K
     try simp only [Act.put,qqB]
     repeat
      refine qA0 _ rfl (fun K hK=>?_)
      first
       | (refine qqP (by rfl) ?_;apply Exists.intro;refine ⟨fun w' hw'=>?_,hK _ ?_⟩;go_simp;first|done|rfl)
       | refine qqN (by rfl) (hK _ ?_)
      clear hK K;simp only [Act.put,qqB]
     refine qA7 ?_
     cases op with
     | none =>
      simp only [Option.isSome_none]
      have hno : x.opened rec = none:=HOPN.out
      replace hno:=qh hno
      have bZe:=bZ.kept (((k1w.of hkF).of (hz3.of hk4)).of (hz6.of hk7))
      have f0:=bZe.free 0
      have f1:=bZe.free 1
      have f2:=bZe.free 2
      have f3:=bZe.free 3
      have f4:=bZe.free 4
      have x0:=bZe.cell 0
      have x1:=bZe.cell 1
      have x2:=bZe.cell 2
      have x3:=bZe.cell 3
      have x4:=bZe.cell 4
      go_wp2_with fail
      have bE:=((((bZe.set 0 (U 0#64)).set 1 (W 0#32)).set 2 (.int .i64 0)).set 3 (U 0#64)).set 4 (U 0#64)
      have hkE : qA4 w (((((z7.setCell ⟨w.heap.size,0,none⟩ (U 0#64)).setCell ⟨w.heap.size,1,none⟩ (W 0#32)).setCell ⟨w.heap.size,2,none⟩ (.int .i64 0)).setCell ⟨w.heap.size,3,none⟩ (U 0#64)).setCell ⟨w.heap.size,4,none⟩ (U 0#64)):=qA9 (qA9 (qA9 (qA9 (qA9 (((hk3.of hkF).of (hz3.of hk4)).of (hz6.of hk7)) 0 _) 1 _) 2 _) 3 _) 4 _
      have r0:=bE.cell 0
      have r1:=bE.cell 1
      have r2:=bE.cell 2
      have r3:=bE.cell 3
      have r4:=bE.cell 4
      generalize (((((z7.setCell ⟨w.heap.size,0,none⟩ (U 0#64)).setCell ⟨w.heap.size,1,none⟩ (W 0#32)).setCell ⟨w.heap.size,2,none⟩ (.int .i64 0)).setCell ⟨w.heap.size,3,none⟩ (U 0#64)).setCell ⟨w.heap.size,4,none⟩ (U 0#64)) = zE at *
      refine bodyPost_ret (v:=.tuple #[.agg #[U 0#64,W 0#32,.int .i64 0,U 0#64,U 0#64],.bool false]) (by simp [results,results103,go_sem,r0,r1,r2,r3,r4];done) rfl ⟨by rw [show x.opened rec = none from hno.out];rfl,hkE⟩
     | some b =>
      simp only [Option.isSome_some]
      have CGt:=qIt v b (hdl b rfl) z7 (Sl.of_own (hov b HOP.out.symm))
      have hgo : qLb b = x.opened rec:=HOPN.out.symm
      rw [hgo] at CGt
      obtain ⟨ro,hro⟩ : ∃ y,y = (x.opened rec).getD Rt.zero:=⟨_,rfl⟩
      obtain ⟨rb,hrb⟩ : ∃ y,y = (x.opened rec).isSome:=⟨_,rfl⟩
      rw [← hro,← hrb] at CGt
      unfold Rt.val at CGt
      have HRO:=qh hro
      have HRB:=qh hrb
      clear hro hrb hgo hov hdl
      go_wp2_with fail
      refine CGt.mono ?_
      rintro e z8 ⟨rfl,hk8⟩
      have bZe:=bZ.kept ((((k1w.of hkF).of (hz3.of hk4)).of (hz6.of hk7)).of hk8)
      have f0:=bZe.free 0
      have f1:=bZe.free 1
      have f2:=bZe.free 2
      have f3:=bZe.free 3
      have f4:=bZe.free 4
      have x0:=bZe.cell 0
      have x1:=bZe.cell 1
      have x2:=bZe.cell 2
      have x3:=bZe.cell 3
      have x4:=bZe.cell 4
      go_wp2_with fail
      have bE:=((((bZe.set 0 (U ro.count)).set 1 (W ro.epoch)).set 2 (.int .i64 ro.slots)).set 3 (U ro.hash.1)).set 4 (U ro.hash.2)
      have hkE : qA4 w (((((z8.setCell ⟨w.heap.size,0,none⟩ (U ro.count)).setCell ⟨w.heap.size,1,none⟩ (W ro.epoch)).setCell ⟨w.heap.size,2,none⟩ (.int .i64 ro.slots)).setCell ⟨w.heap.size,3,none⟩ (U ro.hash.1)).setCell ⟨w.heap.size,4,none⟩ (U ro.hash.2)):=qA9 (qA9 (qA9 (qA9 (qA9 ((((hk3.of hkF).of (hz3.of hk4)).of (hz6.of hk7)).of hk8) 0 _) 1 _) 2 _) 3 _) 4 _
      have r0:=bE.cell 0
      have r1:=bE.cell 1
      have r2:=bE.cell 2
      have r3:=bE.cell 3
      have r4:=bE.cell 4
      generalize (((((z8.setCell ⟨w.heap.size,0,none⟩ (U ro.count)).setCell ⟨w.heap.size,1,none⟩ (W ro.epoch)).setCell ⟨w.heap.size,2,none⟩ (.int .i64 ro.slots)).setCell ⟨w.heap.size,3,none⟩ (U ro.hash.1)).setCell ⟨w.heap.size,4,none⟩ (U ro.hash.2)) = zE at *
      refine bodyPost_ret (v:=.tuple #[.agg #[U ro.count,W ro.epoch,.int .i64 ro.slots,U ro.hash.1,U ro.hash.2],.bool rb]) (by simp [results,results103,go_sem,r0,r1,r2,r3,r4];done) rfl ⟨by rw [HRB.out];unfold qR7;rw [← HRO.out];rfl,hkE⟩
def Wd.logBytes (x : Wd) (count : BitVec 64) : List UInt8:=(x.sd.snap.drop (gRec x.n (qDt count))).take 60
def qJH (count : BitVec 64) (n : Nat) : Option Rt → Option Rt
 | none=>none
 | some r=>if (r.count != count) = false ∧ r.slots = (n : Int) then some r else none
theorem qDu (count : BitVec 64) (n : Nat) (r : Rt) : qJH count n (some r) = if (r.count != count) = false ∧ r.slots = (n : Int) then some r else none:=rfl
def Wd.logGet (x : Wd) (count : BitVec 64) : Option Rt:=qJH count x.n (x.opened (x.logBytes count))
theorem qQ1 {col : Nat → Nat} {w : World} {P : qAQ} {x : Wd} {m : Nat} (hW : qAS col w P x) (fi : x.fine m) (hm : m ≤ 70000) (hg : x.p.gone = false) (count : BitVec 64) :
 Calls prog 69 #[.pointer (some ⟨P.W,0,none⟩),U count] w fun e w'=>e = .returned (.tuple #[(qR7 (x.logGet count)).val,.int .i64 (qHA (x.logGet count).isSome 3)]) ∧ qA4 w w':=by
 have hn16:=qAm fi.ok.sl
 obtain ⟨N,hN⟩ : ∃ N,N = x.n:=⟨_,rfl⟩
 have hbW:=hW.blk
 rw [← hN] at hbW hn16
 have HX : Hid (x.n = N):=qh hN.symm
 have hkA : qA4 w (w.alloc (.cells #[U 0#64,W 0#32,.int .i64 0,U 0#64,U 0#64] 148)):=qal _
 have bZ:=Blk.new w #[U 0#64,W 0#32,.int .i64 0,U 0#64,U 0#64] 148
 have hin:=qMR (n:=N) (qBO count) (by omega)
 have CPl : ∀ z,qA4 w z → Calls prog 102 #[.pointer (some ⟨P.W,0,none⟩),U count] z fun e w'=>e = .returned (.int .i64 (gRec N (qDt count) : Nat)) ∧ qA4 z w':=fun z hz=>by
  have:=qIu (hW.kept hz) fi count
  rw [← hN] at this
  exact this
 have CR : ∀ z,qA4 w z → Calls prog 101 #[.pointer (some ⟨P.s,0,none⟩),.int .i64 (gRec N (qDt count) : Nat),.int .i64 60] z fun e w'=>∃ u c,e = .returned (.tuple #[.slice u 60 c,.bool true]) ∧ qHB w' z.heap.size (.slice u 60 c) ((x.sd.snap.drop (gRec N (qDt count))).take 60) ∧ ((x.sd.snap.drop (gRec N (qDt count))).take 60).length = 60 ∧ qA4 z w':=fun z hz=>qHC (hW.kept hz) fi.ok (by omega) (gRec N (qDt count)) 60 (by rw [← hN];exact hin.1) (by rw [← hN];exact hin.2) hg
 have hrec : (x.sd.snap.drop (gRec N (qDt count))).take 60 = x.logBytes count:=by unfold Wd.logBytes;rw [← hN]
 rw [hrec] at CR
 obtain ⟨rec,hrc⟩ : ∃ y,y = x.logBytes count:=⟨_,rfl⟩
 rw [← hrc] at CR
 have HRC:=qh hrc
 obtain ⟨o,ho⟩ : ∃ y,y = x.opened rec:=⟨_,rfl⟩
 have hlg : x.logGet count = qJH count x.n o:=by unfold Wd.logGet;rw [← hrc,← ho]
 have HO:=qh ho
 have HLG:=qh hlg
 clear hN hrec hrc ho hlg hin
 go_enter func69,ntmps69
 go_wp2_with fail
 generalize (w.alloc (.cells #[U 0#64,W 0#32,.int .i64 0,U 0#64,U 0#64] 148)) = wA at *
 refine qA5 [(0,0),(1,0),(2,0),(3,0),(4,0),(5,0),(6,1),(7,1),(8,0),(9,0),(10,0),(11,0),(12,0)] (by kernel_rfl) (by kernel_rfl) ?_
 intro z1 hz1
 repeat
  refine qA0 _ rfl (fun K hK=>?_)
  first
   | (refine qqP (by rfl) ?_;apply Exists.intro;refine ⟨fun w' hw'=>?_,hK _ ?_⟩;(have c:=(hbW.kept (hkA.of hz1)).kept hw';have c2:=c.cell 2;clear c;go_simp;first|done|rfl))
   | refine qqN (by rfl) (hK _ ?_)
  clear hK K;simp only [Act.put,qqB]
 refine qqH _ rfl (by rfl) (fun K hK=>?_)
 go_wp2_with fail
 refine (CPl z1 (hkA.of hz1)).mono ?_
 rintro e z2 ⟨rfl,hk2⟩
 go_wp2
 refine hK _ _ (hk2) ?_
 clear hK K
 try simp only [Act.put,qqB]
 refine qqH _ rfl (by rfl) (fun K hK=>?_)
 go_wp2_with fail
 refine (CR z2 ((hkA.of hz1).of hk2)).mono ?_
 rintro e z3 ⟨u,uc,rfl,ho3,hl3,hk3⟩
 go_wp2
 refine hK _ _ (hk3) ?_
 clear hK K
 try simp only [Act.put,qqB]
 repeat
  refine qA0 _ rfl (fun K hK=>?_)
  first
   | (refine qqP (by rfl) ?_;apply Exists.intro;refine ⟨fun w' hw'=>?_,hK _ ?_⟩;go_simp;first|done|rfl)
   | refine qqN (by rfl) (hK _ ?_)
  clear hK K;simp only [Act.put,qqB]
 refine qA7 ?_
 have COp:=qLp (hW.kept ((hkA.of ((hz1.of hk2).of hk3)))) fi hm _ rec (by rw [hl3];omega) ho3.sl
 rw [← HO.out] at COp
 replace hl3:=qh hl3
 go_wp2_with fail
 refine COp.mono ?_
 rintro e z5 ⟨rfl,hk5⟩
 obtain ⟨q,hq⟩ : ∃ q,q = qR7 o:=⟨_,rfl⟩
 rw [← hq]
 have HQ:=qh hq
 clear hq
 unfold Rt.val
 have hk6 : qA4 z5 (z5.alloc (.cells #[U q.count,W q.epoch,.int .i64 q.slots,U q.hash.1,U q.hash.2] 148)):=qal _
 have bQ:=Blk.new z5 #[U q.count,W q.epoch,.int .i64 q.slots,U q.hash.1,U q.hash.2] 148
 have hk6w:=(hkA.of ((hz1.of hk2).of hk3)).of (hk5.of hk6)
 go_wp2_with fail
 generalize z5.alloc (.cells #[U q.count,W q.epoch,.int .i64 q.slots,U q.hash.1,U q.hash.2] 148) = z6 at *
 cases o with
 | none =>
  have hno : x.logGet count = none:=HLG.out
  replace hno:=qh hno
  simp only [Option.isSome_none]
  refine qA5 [(0,0),(1,0),(2,0),(3,0),(4,0),(5,0),(6,0),(7,0),(8,0),(9,0),(10,0),(11,0),(12,0),(13,0),(14,0),(15,0),(16,0),(17,0)] (by kernel_rfl) (by kernel_rfl) ?_
  intro z7 hz7
  repeat
   refine qA0 _ rfl (fun K hK=>?_)
   first
    | (refine qqP (by rfl) ?_;apply Exists.intro;refine ⟨fun w' hw'=>?_,hK _ ?_⟩;(have c:=bQ.kept (hz7.of hw');have c0:=c.cell 0;have c2:=c.cell 2;clear c;have d:=hbW.kept (hk6w.of (hz7.of hw'));have d0:=d.cell 0;clear d;go_simp;first|done|rfl))
    | refine qqN (by rfl) (hK _ ?_)
   clear hK K;simp only [Act.put,qqB]
  refine qA7 ?_
  have bZe:=bZ.kept (((hz1.of hk2).of hk3).of (hk5.of (hk6.of hz7)))
  have f0:=bZe.free 0
  have f1:=bZe.free 1
  have f2:=bZe.free 2
  have f3:=bZe.free 3
  have f4:=bZe.free 4
  have x0:=bZe.cell 0
  have x1:=bZe.cell 1
  have x2:=bZe.cell 2
  have x3:=bZe.cell 3
  have x4:=bZe.cell 4
  go_wp2_with fail
  have bE:=((((bZe.set 0 (U 0#64)).set 1 (W 0#32)).set 2 (.int .i64 0)).set 3 (U 0#64)).set 4 (U 0#64)
  have hkE : qA4 w (((((z7.setCell ⟨w.heap.size,0,none⟩ (U 0#64)).setCell ⟨w.heap.size,1,none⟩ (W 0#32)).setCell ⟨w.heap.size,2,none⟩ (.int .i64 0)).setCell ⟨w.heap.size,3,none⟩ (U 0#64)).setCell ⟨w.heap.size,4,none⟩ (U 0#64)):=qA9 (qA9 (qA9 (qA9 (qA9 (hkA.of (((hz1.of hk2).of hk3).of (hk5.of (hk6.of hz7)))) 0 _) 1 _) 2 _) 3 _) 4 _
  have r0:=bE.cell 0
  have r1:=bE.cell 1
  have r2:=bE.cell 2
  have r3:=bE.cell 3
  have r4:=bE.cell 4
  generalize (((((z7.setCell ⟨w.heap.size,0,none⟩ (U 0#64)).setCell ⟨w.heap.size,1,none⟩ (W 0#32)).setCell ⟨w.heap.size,2,none⟩ (.int .i64 0)).setCell ⟨w.heap.size,3,none⟩ (U 0#64)).setCell ⟨w.heap.size,4,none⟩ (U 0#64)) = zE at *
  refine bodyPost_ret (v:=.tuple #[.agg #[U 0#64,W 0#32,.int .i64 0,U 0#64,U 0#64],.int .i64 3]) (by simp [results,results69,go_sem,r0,r1,r2,r3,r4];done) rfl ⟨by rw [show x.logGet count = none from hno.out];rfl,hkE⟩
 | some q0 =>
  have hqq : q = q0:=HQ.out
  subst hqq
  simp only [Option.isSome_some]
  cases hc : (q.count != count) with
  | true =>
   have hno : x.logGet count = none:=by rw [HLG.out];rw [qDu,if_neg];rintro ⟨h,_⟩;rw [hc] at h;cases h
   replace hno:=qh hno
   refine qA5 [(0,0),(1,0),(2,0),(3,0),(4,0),(5,0),(6,0),(7,0),(8,0),(9,0),(10,0),(11,0),(12,0),(13,0),(14,0),(15,0),(16,0),(17,0)] (by kernel_rfl) (by kernel_rfl) ?_
   intro z7 hz7
   repeat
    refine qA0 _ rfl (fun K hK=>?_)
    first
     | (refine qqP (by rfl) ?_;apply Exists.intro;refine ⟨fun w' hw'=>?_,hK _ ?_⟩;(have c:=bQ.kept (hz7.of hw');have c0:=c.cell 0;have c2:=c.cell 2;clear c;have d:=hbW.kept (hk6w.of (hz7.of hw'));have d0:=d.cell 0;clear d;go_simp;first|done|rfl))
     | refine qqN (by rfl) (hK _ ?_)
    clear hK K;simp only [Act.put,qqB]
   refine qA7 ?_
   have bZe:=bZ.kept (((hz1.of hk2).of hk3).of (hk5.of (hk6.of hz7)))
   have f0:=bZe.free 0
   have f1:=bZe.free 1
   have f2:=bZe.free 2
   have f3:=bZe.free 3
   have f4:=bZe.free 4
   have x0:=bZe.cell 0
   have x1:=bZe.cell 1
   have x2:=bZe.cell 2
   have x3:=bZe.cell 3
   have x4:=bZe.cell 4
   go_wp2_with fail
   have bE:=((((bZe.set 0 (U 0#64)).set 1 (W 0#32)).set 2 (.int .i64 0)).set 3 (U 0#64)).set 4 (U 0#64)
   have hkE : qA4 w (((((z7.setCell ⟨w.heap.size,0,none⟩ (U 0#64)).setCell ⟨w.heap.size,1,none⟩ (W 0#32)).setCell ⟨w.heap.size,2,none⟩ (.int .i64 0)).setCell ⟨w.heap.size,3,none⟩ (U 0#64)).setCell ⟨w.heap.size,4,none⟩ (U 0#64)):=qA9 (qA9 (qA9 (qA9 (qA9 (hkA.of (((hz1.of hk2).of hk3).of (hk5.of (hk6.of hz7)))) 0 _) 1 _) 2 _) 3 _) 4 _
   have r0:=bE.cell 0
   have r1:=bE.cell 1
   have r2:=bE.cell 2
   have r3:=bE.cell 3
   have r4:=bE.cell 4
   generalize (((((z7.setCell ⟨w.heap.size,0,none⟩ (U 0#64)).setCell ⟨w.heap.size,1,none⟩ (W 0#32)).setCell ⟨w.heap.size,2,none⟩ (.int .i64 0)).setCell ⟨w.heap.size,3,none⟩ (U 0#64)).setCell ⟨w.heap.size,4,none⟩ (U 0#64)) = zE at *
   refine bodyPost_ret (v:=.tuple #[.agg #[U 0#64,W 0#32,.int .i64 0,U 0#64,U 0#64],.int .i64 3]) (by simp [results,results69,go_sem,r0,r1,r2,r3,r4];done) rfl ⟨by rw [show x.logGet count = none from hno.out];rfl,hkE⟩
  | false =>
   by_cases hsn : q.slots = (N : Int)
   · have hyes : x.logGet count = some q:=by rw [HLG.out];rw [qDu,if_pos ⟨hc,by rw [HX.out];exact hsn⟩]
     replace hyes:=qh hyes
     refine qA5 [(0,0),(1,0),(2,0),(3,0),(4,0),(5,0),(6,0),(7,0),(8,0),(9,0),(10,0),(11,0),(12,0),(13,0),(14,0),(15,0),(16,0),(17,0)] (by kernel_rfl) (by kernel_rfl) ?_
     intro z7 hz7
     repeat
      refine qA0 _ rfl (fun K hK=>?_)
      first
       | (refine qqP (by rfl) ?_;apply Exists.intro;refine ⟨fun w' hw'=>?_,hK _ ?_⟩;(have c:=bQ.kept (hz7.of hw');have c0:=c.cell 0;have c2:=c.cell 2;clear c;have d:=hbW.kept (hk6w.of (hz7.of hw'));have d0:=d.cell 0;clear d;go_simp;first|done|rfl))
       | refine qqN (by rfl) (hK _ ?_)
      clear hK K;simp only [Act.put,qqB]
     refine qA7 ?_
     have g:=bQ.kept hz7
     have g0:=g.cell 0
     have g1:=g.cell 1
     have g2:=g.cell 2
     have g3:=g.cell 3
     have g4:=g.cell 4
     clear g
     have bZe:=bZ.kept (((hz1.of hk2).of hk3).of (hk5.of (hk6.of hz7)))
     have f0:=bZe.free 0
     have f1:=bZe.free 1
     have f2:=bZe.free 2
     have f3:=bZe.free 3
     have f4:=bZe.free 4
     have x0:=bZe.cell 0
     have x1:=bZe.cell 1
     have x2:=bZe.cell 2
     have x3:=bZe.cell 3
     have x4:=bZe.cell 4
     go_wp2_with fail
     have bE:=((((bZe.set 0 (U q.count)).set 1 (W q.epoch)).set 2 (.int .i64 (N : Int))).set 3 (U q.hash.1)).set 4 (U q.hash.2)
     have hkE : qA4 w (((((z7.setCell ⟨w.heap.size,0,none⟩ (U q.count)).setCell ⟨w.heap.size,1,none⟩ (W q.epoch)).setCell ⟨w.heap.size,2,none⟩ (.int .i64 (N : Int))).setCell ⟨w.heap.size,3,none⟩ (U q.hash.1)).setCell ⟨w.heap.size,4,none⟩ (U q.hash.2)):=qA9 (qA9 (qA9 (qA9 (qA9 (hkA.of (((hz1.of hk2).of hk3).of (hk5.of (hk6.of hz7)))) 0 _) 1 _) 2 _) 3 _) 4 _
     have r0:=bE.cell 0
     have r1:=bE.cell 1
     have r2:=bE.cell 2
     have r3:=bE.cell 3
     have r4:=bE.cell 4
     generalize (((((z7.setCell ⟨w.heap.size,0,none⟩ (U q.count)).setCell ⟨w.heap.size,1,none⟩ (W q.epoch)).setCell ⟨w.heap.size,2,none⟩ (.int .i64 (N : Int))).setCell ⟨w.heap.size,3,none⟩ (U q.hash.1)).setCell ⟨w.heap.size,4,none⟩ (U q.hash.2)) = zE at *
     refine bodyPost_ret (v:=.tuple #[.agg #[U q.count,W q.epoch,.int .i64 (N : Int),U q.hash.1,U q.hash.2],.int .i64 0]) (by simp [results,results69,go_sem,r0,r1,r2,r3,r4];done) rfl ⟨by rw [show x.logGet count = some q from hyes.out];show _ = Ending.returned (.tuple #[.agg #[U q.count,W q.epoch,.int .i64 q.slots,U q.hash.1,U q.hash.2],.int .i64 0]);rw [hsn],hkE⟩
   · have hno : x.logGet count = none:=by rw [HLG.out];rw [qDu,if_neg];rintro ⟨_,h⟩;rw [HX.out] at h;exact hsn h
     replace hno:=qh hno
     refine qA5 [(0,0),(1,0),(2,0),(3,0),(4,0),(5,0),(6,0),(7,0),(8,0),(9,0),(10,0),(11,0),(12,0),(13,0),(14,0),(15,0),(16,0),(17,0)] (by kernel_rfl) (by kernel_rfl) ?_
     intro z7 hz7
     repeat
      refine qA0 _ rfl (fun K hK=>?_)
      first
       | (refine qqP (by rfl) ?_;apply Exists.intro;refine ⟨fun w' hw'=>?_,hK _ ?_⟩;(have c:=bQ.kept (hz7.of hw');have c0:=c.cell 0;have c2:=c.cell 2;clear c;have d:=hbW.kept (hk6w.of (hz7.of hw'));have d0:=d.cell 0;clear d;go_simp;first|done|rfl))
       | refine qqN (by rfl) (hK _ ?_)
      clear hK K;simp only [Act.put,qqB]
     refine qA7 ?_
     have bZe:=bZ.kept (((hz1.of hk2).of hk3).of (hk5.of (hk6.of hz7)))
     have f0:=bZe.free 0
     have f1:=bZe.free 1
     have f2:=bZe.free 2
     have f3:=bZe.free 3
     have f4:=bZe.free 4
     have x0:=bZe.cell 0
     have x1:=bZe.cell 1
     have x2:=bZe.cell 2
     have x3:=bZe.cell 3
     have x4:=bZe.cell 4
     go_wp2_with fail
     have bE:=((((bZe.set 0 (U 0#64)).set 1 (W 0#32)).set 2 (.int .i64 0)).set 3 (U 0#64)).set 4 (U 0#64)
     have hkE : qA4 w (((((z7.setCell ⟨w.heap.size,0,none⟩ (U 0#64)).setCell ⟨w.heap.size,1,none⟩ (W 0#32)).setCell ⟨w.heap.size,2,none⟩ (.int .i64 0)).setCell ⟨w.heap.size,3,none⟩ (U 0#64)).setCell ⟨w.heap.size,4,none⟩ (U 0#64)):=qA9 (qA9 (qA9 (qA9 (qA9 (hkA.of (((hz1.of hk2).of hk3).of (hk5.of (hk6.of hz7)))) 0 _) 1 _) 2 _) 3 _) 4 _
     have r0:=bE.cell 0
     have r1:=bE.cell 1
     have r2:=bE.cell 2
     have r3:=bE.cell 3
     have r4:=bE.cell 4
     generalize (((((z7.setCell ⟨w.heap.size,0,none⟩ (U 0#64)).setCell ⟨w.heap.size,1,none⟩ (W 0#32)).setCell ⟨w.heap.size,2,none⟩ (.int .i64 0)).setCell ⟨w.heap.size,3,none⟩ (U 0#64)).setCell ⟨w.heap.size,4,none⟩ (U 0#64)) = zE at *
     refine bodyPost_ret (v:=.tuple #[.agg #[U 0#64,W 0#32,.int .i64 0,U 0#64,U 0#64],.int .i64 3]) (by simp [results,results69,go_sem,r0,r1,r2,r3,r4];done) rfl ⟨by rw [show x.logGet count = none from hno.out];rfl,hkE⟩
def Wd.commitA (x : Wd) : Nat:=qDt (x.c.value + 1#64)
def Wd.commitR (x : Wd) (ls : List Lf) : Rt:=⟨x.c.value + 1#64,qAi x.eps,(x.n : Int),x.areaTop ls⟩
def Wd.commit1 (x : Wd) (ls : List Lf) : Wd:=x.areaW x.commitA ls
def Wd.commit2 (x : Wd) (ls : List Lf) : Wd:=(x.commit1 ls).sBarrier
def Wd.commit3 (x : Wd) (boot : BitVec 64) (k : Nat) (ls : List Lf) : Wd:=(x.commit2 ls).logX boot k (x.commitR ls)
def Wd.commit4 (x : Wd) (boot : BitVec 64) (k : Nat) (ls : List Lf) : Wd:=(x.commit3 boot k ls).sBarrier
def Wd.commit5 (x : Wd) (boot : BitVec 64) (k : Nat) (ls : List Lf) : Wd:=(x.commit4 boot k ls).bump
def Wd.commit (x : Wd) (boot : BitVec 64) (k : Nat) (ls : List Lf) : Int × Wd × Nat :=
 if x.areaOk x.commitA ls = false then (7,x.commit1 ls,k)
 else if (x.commit1 ls).p.spend.1 = false then (7,x.commit2 ls,k)
 else if (x.commit2 ls).logE k ≠ 0 then ((x.commit2 ls).logE k,x.commit3 boot k ls,qFB k)
 else if (x.commit3 boot k ls).p.spend.1 = false then (7,x.commit4 boot k ls,qFB k)
 else if (x.commit4 boot k ls).p.spend.1 = false then (7,x.commit5 boot k ls,qFB k)
 else (0,x.commit5 boot k ls,qFB k)
section
variable {x : Wd} {m k a : Nat} {boot : BitVec 64} {ls : List Lf}
theorem qLq : (x.areaW a ls).n = x.n ∧ (x.areaW a ls).eps = x.eps ∧ (x.areaW a ls).c = x.c ∧ (x.areaW a ls).seed = x.seed:=by
 unfold Wd.areaW;split <;> exact ⟨rfl,rfl,rfl,rfl⟩
theorem qMS {r : Rt} : (x.logX boot k r).n = x.n ∧ (x.logX boot k r).eps = x.eps ∧ (x.logX boot k r).c = x.c ∧ (x.logX boot k r).seed = x.seed:=by
 unfold Wd.logX;split <;> exact ⟨rfl,rfl,rfl,rfl⟩
theorem qCz : (x.commit1 ls).n = x.n ∧ (x.commit1 ls).eps = x.eps ∧ (x.commit1 ls).c = x.c ∧ (x.commit1 ls).seed = x.seed:=qLq
theorem qAE : (x.commit2 ls).n = x.n ∧ (x.commit2 ls).eps = x.eps ∧ (x.commit2 ls).c = x.c ∧ (x.commit2 ls).seed = x.seed:=qCz
theorem qAU : (x.commit3 boot k ls).n = x.n ∧ (x.commit3 boot k ls).eps = x.eps ∧ (x.commit3 boot k ls).c = x.c ∧ (x.commit3 boot k ls).seed = x.seed:=by
 obtain ⟨h1,h2,h3,h4⟩:=qMS (x:=x.commit2 ls) (k:=k) (boot:=boot) (r:=x.commitR ls)
 obtain ⟨g1,g2,g3,g4⟩:=qAE (x:=x) (ls:=ls)
 exact ⟨h1.trans g1,h2.trans g2,h3.trans g3,h4.trans g4⟩
theorem Wd.fine.areaW (f : x.fine m) (ha : a < 2) (hl : ls.length = x.n) : (x.areaW a ls).fine (m + 34):=by
 have h0:=qAm f.ok.sl
 unfold Wd.areaW
 split
 · exact (f.areaW2 (ls:=ls) ha hl (by omega)).up (by omega)
 · exact (f.areaW1 (ls:=ls) ha hl (by omega)).up (by omega)
theorem Wd.fine.commit1 (f : x.fine m) (hl : ls.length = x.n) : (x.commit1 ls).fine (m + 34):=f.areaW (qBO _) hl
theorem Wd.fine.commit2 (f : x.fine m) (hl : ls.length = x.n) : (x.commit2 ls).fine (m + 35):=(f.commit1 hl).sBarrier
theorem Wd.fine.commit3 (f : x.fine m) (hl : ls.length = x.n) : (x.commit3 boot k ls).fine (m + 37):=(f.commit2 hl).logX boot k _ (by rw [qAE.1];have:=qAm f.ok.sl;omega)
theorem Wd.fine.commit4 (f : x.fine m) (hl : ls.length = x.n) : (x.commit4 boot k ls).fine (m + 38):=(f.commit3 hl).sBarrier
theorem Wd.fine.commit5 (f : x.fine m) (hl : ls.length = x.n) : (x.commit5 boot k ls).fine (m + 39):=(f.commit4 hl).bump
theorem Wd.fine.commit (f : x.fine m) (hl : ls.length = x.n) : (x.commit boot k ls).2.1.fine (m + 39):=by
 unfold Wd.commit
 split
 · exact (f.commit1 hl).up (by omega)
 split
 · exact (f.commit2 hl).up (by omega)
 split
 · exact (f.commit3 hl).up (by omega)
 split
 · exact (f.commit4 hl).up (by omega)
 split
 · exact f.commit5 hl
 · exact f.commit5 hl
end
theorem qHD {k : Nat} (h : k ≤ 100) : qFB k ≤ 100:=by unfold qFB;split <;> omega
theorem WM.nextM {col : Nat → Nat} {w w' : World} {P : qAQ} {x x' : Wd} {M : Nat} {boot : BitVec 64} {k : Nat} (h : WM col w P x M boot k) (n : qGM 6 col w P x' w') : ∃ col',WM col' w' P x' M boot k ∧ Ext 8 col col' w w':=by
 obtain ⟨col',h1,h2⟩:=n
 exact ⟨col',h.ext6 h1 h2,h2.mono (by decide)⟩
theorem qKr (p : Nat) (hp : p < 2) (wx : World) : (convert 29 3 (.int .u64 (p : Int))).run prog wx = .ok (.int .i64 (p : Int)) wx:=by
 have hw : IntKind.i64.wrap (p : Int) = (p : Int):=by rw [IntKind.wrap_i64];omega
 rw [qAF wx 29 3 _ .i64 _ (by kernel_rfl) underlying3,hw]
theorem qMT {col : Nat → Nat} {w : World} {P : qAQ} {x : Wd} {m M k : Nat} {boot : BitVec 64} (hW : WM col w P x M boot k) (fi : x.fine m) (hm : m ≤ 60000) (hk : k ≤ 100) (vl : Value) (ls : List Lf) (hl : ls.length = x.n) (hok : qB7 ls) (hs : Sl w vl ls.length (qAu ls)) :
 Calls prog 149 #[.pointer (some ⟨P.W,0,none⟩),.pointer (some ⟨M,0,none⟩),vl] w fun e w'=>e = .returned (.int .i64 (x.commit boot k ls).1) ∧ qOH col w P M (x.commit boot k ls).2.1 boot (x.commit boot k ls).2.2 w':=by
 obtain ⟨la,lc,rfl⟩:=hs.len
 have hn16:=qAm fi.ok.sl
 obtain ⟨N,hN⟩ : ∃ N,N = x.n:=⟨_,rfl⟩
 have HX : Hid (x.n = N):=qh hN.symm
 have hbW:=hW.wd.blk
 rw [← hN] at hbW hn16
 have q2:=hbW.cell 2
 have q4:=hbW.cell 4
 obtain ⟨c,hc⟩ : ∃ y,y = x.c.value + 1#64:=⟨_,rfl⟩
 have hrm:=fun wx=>qG0 29 c wx
 obtain ⟨p,hp⟩ : ∃ p,p = x.commitA:=⟨_,rfl⟩
 have hpp : c.toNat % 2 = p:=by rw [hp,hc];rfl
 have hp2 : p < 2:=by rw [hp];exact qBO _
 rw [hpp] at hrm
 have hcv:=fun wx=>qKr p hp2 wx
 have CV:=qKp hW.wd
 obtain ⟨cv,hcvv⟩ : ∃ y,y = x.c.value:=⟨_,rfl⟩
 rw [← hcvv] at CV hc
 have CA:=qLm hW.wd fi hm p hp2 (.slice la ls.length lc) ls hl hok hs
 obtain ⟨E1,hE1⟩ : ∃ y,y = x.areaE p ls:=⟨_,rfl⟩
 obtain ⟨T,hT⟩ : ∃ y,y = x.areaP p ls:=⟨_,rfl⟩
 rw [← hE1,← hT] at CA
 obtain ⟨B0,hB0⟩ : ∃ y,y = x.areaOk p ls:=⟨_,rfl⟩
 have hE10 : E1 = if B0 = true then 0 else 7:=by rw [hE1];unfold Wd.areaE;rw [← hB0]
 have hT0 : B0 = true → T = x.areaTop ls:=fun h=>by rw [hT];unfold Wd.areaP;rw [← hB0,if_pos h]
 have HC:=qh hc
 have HCV:=qh hcvv
 have HP:=qh hp
 have HB0:=qh hB0
 have HLN:=qh hl
 have HT0:=qh hT0
 obtain ⟨T1,T2⟩:=T
 clear hN hc hp hpp hcvv hT hB0 hE1 hl hp2 hT0
 go_enter func149,ntmps149
 go_wp2_with fail
 refine CV.mono ?_
 rintro e w1 ⟨rfl,rfl⟩
 have hca : U (cv + 1#64) = U c:=by rw [HC.out]
 go_wp2_with fail
 refine CA.mono ?_
 rintro e w1 ⟨rfl,nx1⟩
 obtain ⟨col1,hW1,ex1⟩:=hW.nextM nx1
 replace hW1 : WM col1 w1 P (x.commit1 ls) M boot k:=by unfold Wd.commit1;rw [← HP.out];exact hW1
 unfold Pr
 have hkT : qA4 w1 (w1.alloc (.cells #[U T1,U T2] 115)):=qal _
 have bT:=Blk.new w1 #[U T1,U T2] 115
 have hWT:=hW1.kept hkT
 have exT:=ex1.trans (Ext.kept hW1.wd.top hkT)
 clear q2 q4
 cases B0 with
 | false =>
  have hE7 : E1 = 7:=hE10
  clear hE10
  subst hE7
  have hcm : x.commit boot k ls = (7,x.commit1 ls,k):=by
   unfold Wd.commit
   rw [if_pos]
   rw [← HP.out];exact HB0.out.symm
  replace hcm:=qh hcm
  go_wp2_with fail
  refine bodyPost_ret (v:=.int .i64 7) (by simp [results,results149,go_sem];done) rfl ⟨by rw [hcm.out],_,by rw [hcm.out];exact hWT,exT⟩
 | true =>
  have hE7 : E1 = 0:=hE10
  subst hE7
  have HOK : Hid (x.areaOk x.commitA ls = true):=qh (by rw [← HP.out];exact HB0.out.symm)
  have bW1:=hWT.wd.blk
  have a2:=bW1.cell 2
  have f1:=fi.commit1 (ls:=ls) HLN.out
  have CB:=qGN hWT.wd f1.ok (by omega)
  obtain ⟨B1,hB1⟩ : ∃ y,y = (x.commit1 ls).p.spend.1:=⟨_,rfl⟩
  rw [← hB1] at CB
  have HB1:=qh hB1
  clear hB1 hE10
  go_wp2_with fail
  generalize w1.alloc (.cells #[U T1,U T2] 115) = wT at *
  refine CB.mono ?_
  rintro e w3 ⟨rfl,nx3⟩
  obtain ⟨col2,hW3,e3⟩:=hWT.nextM nx3
  replace hW3 : WM col2 w3 P (x.commit2 ls) M boot k:=hW3
  have ex3:=exT.trans e3
  clear a2
  cases B1 with
  | false =>
   have hcm : x.commit boot k ls = (7,x.commit2 ls,k):=by
    unfold Wd.commit
    rw [if_neg (by rw [HOK.out];decide),if_pos HB1.out.symm]
   replace hcm:=qh hcm
   go_wp2_with fail
   refine bodyPost_ret (v:=.int .i64 7) (by simp [results,results149,go_sem];done) rfl ⟨by rw [hcm.out],_,by rw [hcm.out];exact hW3,ex3⟩
  | true =>
   have bT3:=(e3.blk0 bT (hW1.wd.top _ qle)).1
   have bW3:=hW3.wd.blk
   rw [show (x.commit2 ls).n = N from (qAE.1).trans HX.out] at bW3
   have f2:=fi.commit2 (ls:=ls) HLN.out
   obtain ⟨r,hr⟩ : ∃ r,r = x.commitR ls:=⟨_,rfl⟩
   have HR:=qh hr
   have HRS : Hid (r.slots = (x.n : Int)):=qh (by rw [hr];rfl)
   have hrc : c = r.count:=by rw [hr,HC.out,HCV.out];rfl
   have hrh : (T1,T2) = r.hash:=by rw [hr];first | exact HT0.out rfl | exact HT0.out trivial
   have hre : r.epoch = qAi (x.commit2 ls).eps:=by rw [hr,qAE.2.1];rfl
   have HEP:=qh hre
   have hr1 : T1 = r.hash.1:=by rw [← hrh]
   have hr2 : T2 = r.hash.2:=by rw [← hrh]
   subst hrc
   subst hr1
   subst hr2
   clear hr hrh hre
   go_wp2_with fail
   refine qBe w3.heap.size [(0,0),(1,0),(2,0),(3,0),(4,0),(6,0),(7,0),(8,0),(9,0),(10,0),(11,0),(12,0)] ((.light 0 (.light 1 (.light 2 (.light 3 (.light 4 (.light 6 (.light 7 (.light 8 (.light 9 (.light 10 (.light 11 (.two 5 13 (.light 12 (.heavy 13 (.heavy 14 .nil))) (.heavy 5 (.light 12 (.heavy 14 .nil)))))))))))))))) (by kernel_rfl) (by kernel_rfl) ?_
   intro z0 hz0
   have hkS : qA4 z0 z0:=Below.refl _ _
   have bWz:=bW3.kept hz0
   have bTz:=bT3.kept hz0
   refine qA2 _ rfl (fun J hJ=>?_)
   refine qqP (by rfl) ?_;apply Exists.intro;refine ⟨fun w' hw'=>?_,hJ _ ?_⟩
   · go_simp;first|done|rfl
   clear hJ J;simp only [Act.put,qqB]
   refine qA2 _ rfl (fun J hJ=>?_)
   refine qqP (by rfl) ?_;apply Exists.intro;refine ⟨fun w' hw'=>?_,hJ _ ?_⟩
   · go_simp;first|done|rfl
   clear hJ J;simp only [Act.put,qqB]
   refine qA2 _ rfl (fun J hJ=>?_)
   refine qqP (by rfl) ?_;apply Exists.intro;refine ⟨fun w' hw'=>?_,hJ _ ?_⟩
   · go_simp;first|done|rfl
   clear hJ J;simp only [Act.put,qqB]
   refine qA2 _ rfl (fun J hJ=>?_)
   refine qqP (by rfl) ?_;apply Exists.intro;refine ⟨fun w' hw'=>?_,hJ _ ?_⟩
   · go_simp;first|done|rfl
   clear hJ J;simp only [Act.put,qqB]
   refine qA2 _ rfl (fun J hJ=>?_)
   refine qqP (by rfl) ?_;apply Exists.intro;refine ⟨fun w' hw'=>?_,hJ _ ?_⟩
   · have c:=(bWz.below hw' bW3.lt);have c0:=c.cell 0;have c5:=c.cell 5;clear c;go_simp;first|done|rfl
   clear hJ J;simp only [Act.put,qqB]
   refine qA2 _ rfl (fun J hJ=>?_)
   refine qqP (by rfl) ?_;apply Exists.intro;refine ⟨fun w' hw'=>?_,hJ _ ?_⟩
   · go_simp;first|done|rfl
   clear hJ J;simp only [Act.put,qqB]
   refine qA2 _ rfl (fun J hJ=>?_)
   refine qqP (by rfl) ?_;apply Exists.intro;refine ⟨fun w' hw'=>?_,hJ _ ?_⟩
   · go_simp;first|done|rfl
   clear hJ J;simp only [Act.put,qqB]
   refine qA2 _ rfl (fun J hJ=>?_)
   refine qqP (by rfl) ?_;apply Exists.intro;refine ⟨fun w' hw'=>?_,hJ _ ?_⟩
   · go_simp;first|done|rfl
   clear hJ J;simp only [Act.put,qqB]
   refine qA2 _ rfl (fun J hJ=>?_)
   refine qqP (by rfl) ?_;apply Exists.intro;refine ⟨fun w' hw'=>?_,hJ _ ?_⟩
   · go_simp;first|done|rfl
   clear hJ J;simp only [Act.put,qqB]
   refine qA2 _ rfl (fun J hJ=>?_)
   refine qqP (by rfl) ?_;apply Exists.intro;refine ⟨fun w' hw'=>?_,hJ _ ?_⟩
   · have c:=(bWz.below hw' bW3.lt);have c0:=c.cell 0;have c5:=c.cell 5;clear c;go_simp;first|done|rfl
   clear hJ J;simp only [Act.put,qqB]
   refine qA2 _ rfl (fun J hJ=>?_)
   refine qqP (by rfl) ?_;apply Exists.intro;refine ⟨fun w' hw'=>?_,hJ _ ?_⟩
   · have d:=(bTz.below hw' bT3.lt);have d0:=d.cell 0;have d1:=d.cell 1;clear d;go_simp;first|done|rfl
   clear hJ J;simp only [Act.put,qqB]
   refine qBY ?_ ?_
   focus
    refine qAa _ rfl (fun J hJ=>?_)
    refine qqP (by rfl) ?_
    go_wp2_with fail
    refine (qKl (hW3.wd.kept (hz0.of hkS)) f2.ok (by omega)).mono ?_
    rintro e y1 ⟨rfl,ka⟩
    rw [← HEP.out]
    have hsz:=Nat.le_trans hz0.size hkS.size
    replace hkS:=hkS.of ka
    go_wp2
    refine hJ _ _ (ka.mono hsz) ?_
    clear hJ J
    try simp only [Act.put,qqB]
    clear hsz
    refine qA2 _ rfl (fun J hJ=>?_)
    refine qqP (by rfl) ?_;apply Exists.intro;refine ⟨fun w' hw'=>?_,hJ _ ?_⟩
    · go_simp;first|done|rfl
    clear hJ J;simp only [Act.put,qqB]
    refine qAa _ rfl (fun J hJ=>?_)
    refine qqP (by rfl) ?_
    have kb : qA4 y1 (y1.alloc (.cells #[U 0#64,W 0#32,.int .i64 0,U 0#64,U 0#64] 148)):=qal _
    have bY:=Blk.new y1 #[U 0#64,W 0#32,.int .i64 0,U 0#64,U 0#64] 148
    have hsz:=Nat.le_trans hz0.size hkS.size
    obtain ⟨gk,hgk⟩ : ∃ g,g = y1.heap.size:=⟨_,rfl⟩
    rw [← hgk] at bY
    replace hkS:=hkS.of kb
    go_wp2
    refine hJ _ _ (kb.mono hsz) ?_
    clear hJ J
    try simp only [Act.put,qqB]
    rw [← hgk]
    have hg1 : w3.heap.size ≤ gk:=by rw [hgk];exact hsz
    clear hgk
    generalize (y1.alloc (.cells #[U 0#64,W 0#32,.int .i64 0,U 0#64,U 0#64] 148)) = y2 at *
    clear hsz
   rotate_left
   focus
    refine qAa _ rfl (fun J hJ=>?_)
    refine qqP (by rfl) ?_
    have kb : qA4 z0 (z0.alloc (.cells #[U 0#64,W 0#32,.int .i64 0,U 0#64,U 0#64] 148)):=qal _
    have bY:=Blk.new z0 #[U 0#64,W 0#32,.int .i64 0,U 0#64,U 0#64] 148
    have hsz:=Nat.le_trans hz0.size hkS.size
    obtain ⟨gk,hgk⟩ : ∃ g,g = z0.heap.size:=⟨_,rfl⟩
    rw [← hgk] at bY
    replace hkS:=hkS.of kb
    go_wp2
    refine hJ _ _ (kb.mono hsz) ?_
    clear hJ J
    try simp only [Act.put,qqB]
    rw [← hgk]
    have hg1 : w3.heap.size ≤ gk:=by rw [hgk];exact hsz
    clear hgk
    generalize (z0.alloc (.cells #[U 0#64,W 0#32,.int .i64 0,U 0#64,U 0#64] 148)) = y1 at *
    clear hsz
    refine qAa _ rfl (fun J hJ=>?_)
    refine qqP (by rfl) ?_
    go_wp2_with fail
    refine (qKl (hW3.wd.kept (hz0.of hkS)) f2.ok (by omega)).mono ?_
    rintro e y2 ⟨rfl,ka⟩
    rw [← HEP.out]
    have hsz:=Nat.le_trans hz0.size hkS.size
    replace hkS:=hkS.of ka
    go_wp2
    refine hJ _ _ (ka.mono hsz) ?_
    clear hJ J
    try simp only [Act.put,qqB]
    replace bY:=bY.kept ka
    clear hsz
    refine qA2 _ rfl (fun J hJ=>?_)
    refine qqP (by rfl) ?_;apply Exists.intro;refine ⟨fun w' hw'=>?_,hJ _ ?_⟩
    · go_simp;first|done|rfl
    clear hJ J;simp only [Act.put,qqB]
   all_goals
    refine qAa _ rfl (fun J hJ=>?_)
    refine qqP (by rfl) ?_
    have f0:=bY.free 0
    have x0:=bY.cell 0
    have f1:=bY.free 1
    have x1:=bY.cell 1
    have f2:=bY.free 2
    have x2:=bY.cell 2
    have f3:=bY.free 3
    have x3:=bY.cell 3
    have f4:=bY.free 4
    have x4:=bY.cell 4
    have bK:=((((bY.set 0 (U r.count)).set 1 (W r.epoch)).set 2 (.int .i64 (N : Int))).set 3 (U r.hash.1)).set 4 (U r.hash.2)
    simp only [qqA,qq0,qq1] at bK
    have hbel : Below w3.heap.size y2 (((((y2.setCell ⟨gk,0,none⟩ (U r.count)).setCell ⟨gk,1,none⟩ (W r.epoch)).setCell ⟨gk,2,none⟩ (.int .i64 (N : Int))).setCell ⟨gk,3,none⟩ (U r.hash.1)).setCell ⟨gk,4,none⟩ (U r.hash.2)):=(((((Below.refl _ _).setCell (p:=⟨gk,0,none⟩) hg1 _).setCell (p:=⟨gk,1,none⟩) hg1 _).setCell (p:=⟨gk,2,none⟩) hg1 _).setCell (p:=⟨gk,3,none⟩) hg1 _).setCell (p:=⟨gk,4,none⟩) hg1 _
    have hkF : qA4 w3 (((((y2.setCell ⟨gk,0,none⟩ (U r.count)).setCell ⟨gk,1,none⟩ (W r.epoch)).setCell ⟨gk,2,none⟩ (.int .i64 (N : Int))).setCell ⟨gk,3,none⟩ (U r.hash.1)).setCell ⟨gk,4,none⟩ (U r.hash.2)):=Below.trans (hz0.of hkS) hbel
    go_wp2
    refine hJ _ _ (hbel) ?_
    clear hJ J
    try simp only [Act.put,qqB]
    clear f0 x0 f1 x1 f2 x2 f3 x3 f4 x4
    generalize (((((y2.setCell ⟨gk,0,none⟩ (U r.count)).setCell ⟨gk,1,none⟩ (W r.epoch)).setCell ⟨gk,2,none⟩ (.int .i64 (N : Int))).setCell ⟨gk,3,none⟩ (U r.hash.1)).setCell ⟨gk,4,none⟩ (U r.hash.2)) = zF at *
    refine qCS ?_
    have hWF:=hW3.kept hkF
    have bW4:=hWF.wd.blk
    rw [show (x.commit2 ls).n = N from (qAE.1).trans HX.out] at bW4
    have r0:=bK.cell 0
    have r1:=bK.cell 1
    have r2:=bK.cell 2
    have r3:=bK.cell 3
    have r4:=bK.cell 4
    have CPut : Calls prog 176 #[.pointer (some ⟨P.W,0,none⟩),.pointer (some ⟨M,0,none⟩),.agg #[U r.count,W r.epoch,.int .i64 (N : Int),U r.hash.1,U r.hash.2]] zF fun e w'=>e = .returned (.int .i64 ((x.commit2 ls).logE k)) ∧ qOH col2 zF P M ((x.commit2 ls).logX boot k r) boot (qFB k) w':=by
     have:=qQ0 hWF f2 (by omega) hk r (by rw [HRS.out,qAE.1,HX.out])
     rw [qAE.1,HX.out] at this
     exact this
    obtain ⟨E3,hE3⟩ : ∃ y,y = (x.commit2 ls).logE k:=⟨_,rfl⟩
    rw [← hE3] at CPut
    have HE3:=qh hE3
    clear hE3
    go_wp2_with fail
    refine CPut.mono ?_
    rintro e w5 ⟨rfl,col3,hW5,e5⟩
    replace hW5 : WM col3 w5 P (x.commit3 boot k ls) M boot (qFB k):=by unfold Wd.commit3;rw [← HR.out];exact hW5
    have ex5:=(ex3.trans (Ext.kept (m:=8) hW3.wd.top hkF)).trans e5
    clear r0 r1 r2 r3 r4
    by_cases hE : E3 = 0
    · have hE0 : (x.commit2 ls).logE k = 0:=by rw [← HE3.out,hE]
      have f3:=fi.commit3 (k:=k) (boot:=boot) (ls:=ls) HLN.out
      have bW5:=hW5.wd.blk
      have a2:=bW5.cell 2
      have a4:=bW5.cell 4
      have CB:=qGN hW5.wd f3.ok (by omega)
      obtain ⟨B3,hB3⟩ : ∃ y,y = (x.commit3 boot k ls).p.spend.1:=⟨_,rfl⟩
      rw [← hB3] at CB
      have HB3:=qh hB3
      replace hE0:=qh hE0
      clear hB3
      go_wp2_with fail
      refine CB.mono ?_
      rintro e w6 ⟨rfl,nx6⟩
      obtain ⟨col4,hW6,e6⟩:=hW5.nextM nx6
      replace hW6 : WM col4 w6 P (x.commit4 boot k ls) M boot (qFB k):=hW6
      have ex6:=ex5.trans e6
      cases B3 with
      | false =>
       have hcm : x.commit boot k ls = (7,x.commit4 boot k ls,qFB k):=by
        unfold Wd.commit
        rw [if_neg (by rw [HOK.out];decide),if_neg (by rw [← HB1.out];decide),if_neg (by rw [hE0.out];decide),if_pos HB3.out.symm]
       replace hcm:=qh hcm
       clear a2 a4
       go_wp2_with fail
       refine bodyPost_ret (v:=.int .i64 7) (by simp [results,results149,go_sem];done) rfl ⟨by rw [hcm.out],_,by rw [hcm.out];exact hW6,ex6⟩
      | true =>
       have bW6:=hW6.wd.blk
       have b4:=bW6.cell 4
       have f4:=fi.commit4 (k:=k) (boot:=boot) (ls:=ls) HLN.out
       have CU:=qPU hW6.wd f4.ok (by omega)
       obtain ⟨B4,hB4⟩ : ∃ y,y = (x.commit4 boot k ls).p.spend.1:=⟨_,rfl⟩
       rw [← hB4] at CU
       have HB4:=qh hB4
       clear hB4 a2 a4
       go_wp2_with fail
       refine CU.mono ?_
       rintro e w7 ⟨rfl,nx7⟩
       obtain ⟨col5,hW7,e7⟩:=hW6.nextM nx7
       replace hW7 : WM col5 w7 P (x.commit5 boot k ls) M boot (qFB k):=hW7
       have ex7:=ex6.trans e7
       cases B4 with
       | false =>
        have hcm : x.commit boot k ls = (7,x.commit5 boot k ls,qFB k):=by
         unfold Wd.commit
         rw [if_neg (by rw [HOK.out];decide),if_neg (by rw [← HB1.out];decide),if_neg (by rw [hE0.out];decide),if_neg (by rw [← HB3.out];decide),if_pos HB4.out.symm]
        replace hcm:=qh hcm
        clear b4
        go_wp2_with fail
        refine bodyPost_ret (v:=.int .i64 7) (by simp [results,results149,go_sem];done) rfl ⟨by rw [hcm.out],_,by rw [hcm.out];exact hW7,ex7⟩
       | true =>
        have hcm : x.commit boot k ls = (0,x.commit5 boot k ls,qFB k):=by
         unfold Wd.commit
         rw [if_neg (by rw [HOK.out];decide),if_neg (by rw [← HB1.out];decide),if_neg (by rw [hE0.out];decide),if_neg (by rw [← HB3.out];decide),if_neg (by rw [← HB4.out];decide)]
        replace hcm:=qh hcm
        clear b4
        go_wp2_with fail
        refine bodyPost_ret (v:=.int .i64 0) (by simp [results,results149,go_sem];done) rfl ⟨by rw [hcm.out],_,by rw [hcm.out];exact hW7,ex7⟩
    · have hcm : x.commit boot k ls = (E3,x.commit3 boot k ls,qFB k):=by
       unfold Wd.commit
       rw [if_neg (by rw [HOK.out];decide),if_neg (by rw [← HB1.out];decide),if_pos (by rw [← HE3.out];exact hE),← HE3.out]
      replace hcm:=qh hcm
      go_wp2_with fail
      refine bodyPost_ret (v:=.int .i64 E3) (by simp [results,results149,go_sem];done) rfl ⟨by rw [hcm.out],_,by rw [hcm.out];exact hW5,ex5⟩
theorem qJI (n : Nat) : madeCells #[.int .i64 0,.bool false,.int .i64 0,W 0#32,W 0#32,U 0#64,U 0#64,U 0#64] (n * 8) = (qAu (List.replicate n Lf.zero)).toArray:=by
 apply Array.ext'
 apply List.ext_getElem
 · rw [Array.length_toList,size_madeCells,qBg,List.length_replicate]
 · intro j h1 h2
   simp only [madeCells,Array.getElem_toList,Array.getElem_map,Array.getElem_range]
   have hj : j < n * 8:=by simpa [size_madeCells] using h1
   have hlt : j / 8 < n:=by omega
   have hz : (List.replicate n Lf.zero)[j / 8]? = some Lf.zero:=by simp [hlt]
   have hm : j % 8 < 8:=Nat.mod_lt _ (by omega)
   have key : ∀ r,r < 8 → ∃ u,Lf.zero.cells[r]? = some u ∧ (#[.int .i64 0,.bool false,.int .i64 0,W 0#32,W 0#32,U 0#64,U 0#64,U 0#64] : Array Value)[r]! = u:=fun r hr=>by
    match r,hr with
    | 0,_=>exact ⟨_,rfl,rfl⟩
    | 1,_=>exact ⟨_,rfl,rfl⟩
    | 2,_=>exact ⟨_,rfl,rfl⟩
    | 3,_=>exact ⟨_,rfl,rfl⟩
    | 4,_=>exact ⟨_,rfl,rfl⟩
    | 5,_=>exact ⟨_,rfl,rfl⟩
    | 6,_=>exact ⟨_,rfl,rfl⟩
    | 7,_=>exact ⟨_,rfl,rfl⟩
    | k + 8,h=>omega
   obtain ⟨u,hu1,hu2⟩:=key (j % 8) hm
   have hg:=qDH _ (j / 8) _ hz (j % 8) u hu1
   rw [show j / 8 * 8 + j % 8 = j by omega] at hg
   have h3:=(List.getElem?_eq_some_iff.1 hg).2
   rw [h3,← hu2]
   rfl
theorem qG3 (w : World) (n : Nat) (hn : n ≤ 1000) : (Instr.makeSlice 105 (.int .i64 (n : Int)) (.int .i64 (n : Int))).run prog w = .ok (.slice (some ⟨w.heap.size,0,none⟩) n n) (w.alloc (.cells (qAu (List.replicate n Lf.zero)).toArray 117)):=by
 obtain ⟨i,hi,hz,hs,hb⟩:=qEA.info
 have:=run_make (P:=prog) w 105 117 i _ qEA.under hi hz .i64 .i64 n n (by omega) (Int.le_refl _) (by rw [hb];omega) (by omega)
 rw [this,hs]
 simp only [Int.toNat_natCast]
 rw [← qJI]
 rfl
theorem qF0 (w : World) (ls : List Lf) (n : Nat) (hn : ls.length = n) (hm : n ≤ maxLen) : (w.alloc (.cells (qAu ls).toArray 117)).ownsRow w.heap.size 117 8 (.slice (some ⟨w.heap.size,0,none⟩) n n) n (qAu ls):=by
 subst hn
 exact ⟨qBg ls,.inr ⟨w.heap.size,ls.length,_,rfl,Nat.le_refl _,Blk.new w _ _,Nat.le_refl _,hm,by simp [qBg],List.take_of_length_le (by simp [qBg])⟩⟩
def Wd.loadO (x : Wd) : Option (List Lf) :=
 if x.c.value = 0#64 then some (List.replicate x.n Lf.zero)
 else match x.logGet x.c.value with
  | none=>none
  | some r=>x.areaGet (qDt x.c.value) r.hash
def Wd.loadX (x : Wd) : Wd :=
 if x.c.value = 0#64 then x
 else match x.logGet x.c.value with
  | none=>x
  | some _=>x.setL (qAT x.l (x.areaRows (qDt x.c.value))).2
theorem Wd.fine.loadX {x : Wd} {m : Nat} (f : x.fine m) : x.loadX.fine (m + 32):=by
 have h0:=qAm f.ok.sl
 unfold Wd.loadX
 split
 · exact f.up (by omega)
 split
 · exact f.up (by omega)
 · have:=f.build (x.areaRows (qDt x.c.value))
   rw [qBa] at this
   exact this.up (by omega)
theorem qBH {x : Wd} : x.loadX.n = x.n ∧ x.loadX.eps = x.eps ∧ x.loadX.c = x.c ∧ x.loadX.seed = x.seed ∧ x.loadX.p = x.p ∧ x.loadX.s = x.s ∧ x.loadX.d = x.d:=by
 unfold Wd.loadX
 split
 · exact ⟨rfl,rfl,rfl,rfl,rfl,rfl,rfl⟩
 split
 · exact ⟨rfl,rfl,rfl,rfl,rfl,rfl,rfl⟩
 · exact ⟨rfl,rfl,rfl,rfl,rfl,rfl,rfl⟩
theorem qJJ {col : Nat → Nat} {w : World} {P : qAQ} {x : Wd} {m : Nat} (hW : qAS col w P x) (fi : x.fine m) (hm : m ≤ 60000) (hg : x.p.gone = false) :
 Calls prog 44 #[.pointer (some ⟨P.W,0,none⟩)] w fun e w'=>∃ v,e = .returned (.tuple #[v,.int .i64 (qHA x.loadO.isSome 3)]) ∧ (∀ ls,x.loadO = some ls → w'.ownsRow w.heap.size 117 8 v ls.length (qAu ls)) ∧ qAS col w' P x.loadX ∧ Ext 6 col col w w':=by
 have hn16:=qAm fi.ok.sl
 obtain ⟨N,hN⟩ : ∃ N,N = x.n:=⟨_,rfl⟩
 have HX : Hid (x.n = N):=qh hN.symm
 have hbW:=hW.blk
 rw [← hN] at hbW hn16
 have q1:=hbW.cell 1
 have q4:=hbW.cell 4
 have q0:=hbW.cell 0
 have CO:=qFt hW
 rw [hg] at CO
 simp only [Bool.not_false] at CO
 have CV:=qKp hW
 obtain ⟨cv,hcv⟩ : ∃ y,y = x.c.value:=⟨_,rfl⟩
 rw [← hcv] at CV
 have HCV:=qh hcv
 have i1 : (N : Int) ≤ 16:=by omega
 have i2 : (0 : Int) ≤ (N : Int):=by omega
 have hmk:=qG3 w N (by omega)
 have hrm:=fun wx=>qG0 29 cv wx
 obtain ⟨p,hp⟩ : ∃ p,p = qDt cv:=⟨_,rfl⟩
 have hp2 : p < 2:=by rw [hp];exact qBO _
 rw [show cv.toNat % 2 = p from hp.symm] at hrm
 have hcn:=fun wx=>qKr p hp2 wx
 have HP:=qh hp
 clear hN hcv hp
 go_enter func44,ntmps44
 go_wp2_with fail
 refine CO.mono ?_
 rintro e w1 ⟨rfl,rfl⟩
 go_wp2_with fail
 refine CV.mono ?_
 rintro e w1 ⟨rfl,rfl⟩
 cases hz : (cv == 0#64) with
 | true =>
  have hz0 : x.c.value = 0#64:=by rw [← HCV.out];exact beq_iff_eq.1 hz
  have hlo : x.loadO = some (List.replicate N Lf.zero):=by unfold Wd.loadO;rw [if_pos hz0,HX.out]
  have hlx : x.loadX = x:=by unfold Wd.loadX;rw [if_pos hz0]
  replace hlo:=qh hlo
  replace hlx:=qh hlx
  have hkA : qA4 w (w.alloc (.cells (qAu (List.replicate N Lf.zero)).toArray 117)):=qal _
  have hown:=qF0 w (List.replicate N Lf.zero) N (by simp) (by unfold maxLen;omega)
  clear hz0
  go_wp2_with fail
  refine bodyPost_ret (v:=.tuple #[.slice (some ⟨w.heap.size,0,none⟩) N N,.int .i64 0]) (by simp [results,results44,go_sem];done) rfl ⟨_,by rw [hlo.out];rfl,fun ls h=>?_,by rw [hlx.out];exact hW.kept hkA,Ext.kept hW.top hkA⟩
  rw [hlo.out] at h
  cases h
  rw [List.length_replicate]
  exact hown
 | false =>
  have hz0 : ¬ x.c.value = 0#64:=by rw [← HCV.out];exact beq_eq_false_iff_ne.1 hz
  have hlo : x.loadO = match x.logGet cv with | none=>none | some r=>x.areaGet p r.hash:=by unfold Wd.loadO;rw [if_neg hz0,HP.out,HCV.out]
  have hlx : x.loadX = match x.logGet cv with | none=>x | some _=>x.setL (qAT x.l (x.areaRows p)).2:=by unfold Wd.loadX;rw [if_neg hz0,HP.out,HCV.out]
  have CG:=qQ1 hW fi (by omega) hg cv
  obtain ⟨o,ho⟩ : ∃ o,o = x.logGet cv:=⟨_,rfl⟩
  rw [← ho] at CG hlo hlx
  obtain ⟨q,hq⟩ : ∃ q,q = qR7 o:=⟨_,rfl⟩
  rw [← hq] at CG
  unfold Rt.val at CG
  have HQ:=qh hq
  have HO:=qh ho
  clear hz0 ho hq
  cases o with
  | none =>
   replace hlo:=qh (show x.loadO = none from hlo)
   replace hlx:=qh (show x.loadX = x from hlx)
   go_wp2_with fail
   refine CG.mono ?_
   rintro e w2 ⟨rfl,hk2⟩
   simp only [Option.isSome_none,qHA]
   have hkA : qA4 w2 (w2.alloc (.cells #[U q.count,W q.epoch,.int .i64 q.slots,U q.hash.1,U q.hash.2] 148)):=qal _
   go_wp2_with fail
   refine bodyPost_ret (v:=.tuple #[.slice none 0 0,.int .i64 3]) (by simp [results,results44,go_sem];done) rfl ⟨_,by rw [hlo.out];rfl,(fun ls h=>by rw [hlo.out] at h;cases h),by rw [hlx.out];exact hW.kept (hk2.of hkA),Ext.kept hW.top (hk2.of hkA)⟩
  | some q0 =>
   have hqq : q = q0:=HQ.out
   subst hqq
   replace hlo:=qh (show x.loadO = x.areaGet p q.hash from hlo)
   replace hlx:=qh (show x.loadX = x.setL (qAT x.l (x.areaRows p)).2 from hlx)
   go_wp2_with fail
   refine CG.mono ?_
   rintro e w2 ⟨rfl,hk2⟩
   simp only [Option.isSome_some,qHA]
   have hkA : qA4 w2 (w2.alloc (.cells #[U q.count,W q.epoch,.int .i64 q.slots,U q.hash.1,U q.hash.2] 148)):=qal _
   have bQ:=Blk.new w2 #[U q.count,W q.epoch,.int .i64 q.slots,U q.hash.1,U q.hash.2] 148
   have b3:=bQ.cell 3
   have b4:=bQ.cell 4
   have CA:=qMQ (hW.kept (hk2.of hkA)) fi hm hg p hp2 q.hash
   obtain ⟨Er,hEr⟩ : ∃ y,y = qHA (x.areaGet p q.hash).isSome 3:=⟨_,rfl⟩
   rw [← hEr] at CA
   have HER:=qh hEr
   clear hEr
   go_wp2_with fail
   refine CA.mono ?_
   rintro e w3 ⟨v,rfl,hov,hW3,e3⟩
   go_wp2_with fail
   refine bodyPost_ret (v:=.tuple #[v,.int .i64 Er]) (by simp [results,results44,go_sem];done) rfl ⟨_,by rw [hlo.out,HER.out],fun ls h=>qAg (hov ls (by rw [← hlo.out];exact h)) (hk2.of hkA).size,by rw [hlx.out];exact hW3,(Ext.kept hW.top (hk2.of hkA)).trans e3⟩
end Go.Proofs.YtdlgihbpiakebaaGreat
