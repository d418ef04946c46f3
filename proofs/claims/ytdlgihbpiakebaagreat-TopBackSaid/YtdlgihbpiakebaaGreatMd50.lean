import Derived.Test.YtdlgihbpiakebaaGreatMd19
import Derived.Test.YtdlgihbpiakebaaGreatMd49
set_option maxRecDepth 100000
set_option maxHeartbeats 4000000
namespace Go.Proofs.YtdlgihbpiakebaaGreat
open Go Go.RowKit Tryz
def Bx.leaf (b : Bx) (s : Nat) : Lf:=b.c.now[s]?.getD Lf.zero
def Bx.dataAt (b : Bx) (s : Nat) : List UInt8:=(b.x.sd.snap.drop (gData b.x.n s)).take 32
def Lf.nn (y : Lf) : Nn:=⟨y.ep,y.sl,y.ver⟩
def Bx.openL (b : Bx) (y : Lf) (out : List UInt8) : Option (List UInt8):=if b.x.eps.contains y.ep then b.x.l.openP (qFO b.x.seed b.x.eps y.ep) y.nn (qCO y.lba) out y.tag else none
def Bx.valD (b : Bx) (s : Nat) : Option (List UInt8):=if (b.leaf s).kind = 2 then some (List.replicate 32 0) else b.openL (b.leaf s) (b.dataAt s)
def Bx.setBad (b : Bx) : Bx:=⟨b.x,b.boot,b.k,{ b.c with bad:=true }⟩
def Bx.valX (b : Bx) (s : Nat) : Bx:=if (b.valD s).isSome then b else b.setBad
theorem qJT (w : World) : (Instr.makeSlice 32 (.int .i64 32) (.int .i64 32)).run prog w = .ok (.slice (some ⟨w.heap.size,0,none⟩) 32 32) (w.alloc (.cells (qA1 (List.replicate 32 0)).toArray 5)):=qBR (P:=prog) w qAw .i64 .i64 32 (by omega)
theorem qLB (w : World) : (w.alloc (.cells (qA1 (List.replicate 32 0)).toArray 5)).ownsRow w.heap.size 5 1 (.slice (some ⟨w.heap.size,0,none⟩) 32 32) 32 (qA1 (List.replicate 32 0)):=qCv 32 (by decide) 5 (List.replicate 32 0) List.length_replicate (Blk.new w _ _) qle
theorem qHM {n s : Nat} (hs : s < n) : gData n s + 32 ≤ gSize n ∧ gData n s < gSize n:=by unfold gData gSize;omega
theorem qBh.setBad {col : Nat → Nat} {w : World} {P : qAQ} {M C A : Nat} {vn vw : Value} {b : Bx} (h : qBh col w P M C A vn vw b) : qBh col (w.setCell ⟨C,5,none⟩ (.bool true)) P M C A vn vw b.setBad ∧ Ext 11 col col w (w.setCell ⟨C,5,none⟩ (.bool true)):=by
 have hc : Chg [C] w (w.setCell ⟨C,5,none⟩ (.bool true)):=(Chg.refl _ _).set qsm 5 _
 have o : One 9 col col w (w.setCell ⟨C,5,none⟩ (.bool true)):=One.chg h.top hc (fun b hb=>by rw [List.mem_singleton] at hb;subst hb;exact h.cC)
 have b9:=h.blk.set 5 (.bool true)
 simp only [qqA,qq0,qq1] at b9
 have s10:=o.same (j:=10) (by decide)
 exact ⟨⟨h.wm.one o (by decide),b9,h.cC,s10.own h.now h.cn,s10.own h.was h.cw,h.cn,h.cw,h.ne,h.age.frame (o.same (by decide))⟩,o.ext (by decide) (by decide)⟩
theorem qC3 (lba : Int) : (qCO lba).length = 2:=by unfold qCO;exact qAb _ _
theorem qKx {col : Nat → Nat} {w : World} {P : qAQ} {M C A : Nat} {vn vw : Value} {b : Bx} (h : qBh col w P M C A vn vw b) {m : Nat} (f : b.fine m) (hm : m ≤ 60000) (hg : b.x.p.gone = false) (s : Nat) (hs : s < b.c.now.length) : Calls prog 118 #[.pointer (some ⟨C,0,none⟩),.int .i64 (s : Int)] w fun e w'=>∃ v,e = .returned (.tuple #[v,.int .i64 (qHA (b.valD s).isSome 3)]) ∧ (∀ d,b.valD s = some d → w'.ownsRow w.heap.size 5 1 v d.length (qA1 d)) ∧ qBh col w' P M C A vn vw (b.valX s) ∧ Ext 11 col col w w':=by
 have hn16:=qAm f.x.ok.sl
 have hnl:=f.nl
 obtain ⟨N,hN⟩ : ∃ N,N = b.x.n:=⟨_,rfl⟩
 have hbW:=h.wm.wd.blk
 rw [← hN] at hbW hn16 hnl
 have bC:=h.blk
 obtain ⟨g1,c1,hv1⟩:=qAx h.now (by omega)
 have hnow:=h.now
 rw [hv1] at hnow
 have bC1:=bC
 rw [hv1] at bC1
 have q2:=bC1.cell 2
 obtain ⟨y,hy⟩ : ∃ y,y = b.c.now[s]:=⟨_,rfl⟩
 have hky : b.c.now[s]? = some y:=by rw [List.getElem?_eq_getElem hs,hy]
 have hyl : b.leaf s = y:=by unfold Bx.leaf;rw [hky];rfl
 have hw:=qBP hnow s y hky
 have d0 : w.cell? ⟨g1,s * 8,none⟩ = some (.int .i64 y.kind):=hw 0 _ rfl
 have d1 : w.cell? ⟨g1,s * 8 + 1,none⟩ = some (.bool y.dirty):=hw 1 _ rfl
 have d2 : w.cell? ⟨g1,s * 8 + 2,none⟩ = some (.int .i64 y.lba):=hw 2 _ rfl
 have d3 : w.cell? ⟨g1,s * 8 + 3,none⟩ = some (W y.ep):=hw 3 _ rfl
 have d4 : w.cell? ⟨g1,s * 8 + 4,none⟩ = some (W y.sl):=hw 4 _ rfl
 have d5 : w.cell? ⟨g1,s * 8 + 5,none⟩ = some (U y.ver):=hw 5 _ rfl
 have d6 : w.cell? ⟨g1,s * 8 + 6,none⟩ = some (U y.tag.1):=hw 6 _ rfl
 have d7 : w.cell? ⟨g1,s * 8 + 7,none⟩ = some (U y.tag.2):=hw 7 _ rfl
 rw [hnl] at q2
 have hsN : s < N:=by omega
 have i1 : (s : Int) < (N : Int):=by omega
 have i2 : (0 : Int) ≤ (s : Int):=by omega
 have hsl : qDR (N : Int) = true:=by rw [hN];exact f.x.ok.sl
 have CG:=fun z=>qIg N hsl s hsN z
 have hin:=qHM hsN
 have CR : ∀ z,qA4 w z → Calls prog 101 #[.pointer (some ⟨P.s,0,none⟩),.int .i64 (gData N s : Nat),.int .i64 32] z fun e w'=>∃ u c,e = .returned (.tuple #[.slice u 32 c,.bool true]) ∧ qHB w' z.heap.size (.slice u 32 c) ((b.x.sd.snap.drop (gData N s)).take 32) ∧ ((b.x.sd.snap.drop (gData N s)).take 32).length = 32 ∧ qA4 z w':=fun z hz=>qHC (h.wm.wd.kept hz) f.x.ok (by omega) (gData N s) 32 (by rw [← hN];exact hin.1) (by rw [← hN];exact hin.2) hg
 have hda : (b.x.sd.snap.drop (gData N s)).take 32 = b.dataAt s:=by unfold Bx.dataAt;rw [← hN]
 rw [hda] at CR
 have hvd0 : b.valD s = if y.kind = 2 then some (List.replicate 32 0) else b.openL y (b.dataAt s):=by unfold Bx.valD;rw [hyl]
 obtain ⟨ky,hkyp⟩ : ∃ k,k = qFO b.x.seed b.x.eps y.ep:=⟨_,rfl⟩
 have HKY:=qh hkyp
 obtain ⟨k1,k2⟩:=ky
 obtain ⟨B2,hB2⟩ : ∃ B,B = b.x.eps.contains y.ep:=⟨_,rfl⟩
 have HB2:=qh hB2
 replace hvd0:=qh hvd0
 have hkA : qA4 w (w.alloc (.cells #[.int .i64 y.kind,.bool y.dirty,.int .i64 y.lba,W y.ep,W y.sl,U y.ver,U y.tag.1,U y.tag.2] 117)):=qal _
 have bL:=Blk.new w #[.int .i64 y.kind,.bool y.dirty,.int .i64 y.lba,W y.ep,W y.sl,U y.ver,U y.tag.1,U y.tag.2] 117
 have bW:=hbW
 have a0:=bL.cell 0
 replace hsl:=qh hsl
 clear hN hnl hv1 hy hky hyl hw hda hkyp hB2 hnow hin bC1 hbW
 by_cases hk2 : y.kind = 2
 · have hyes : b.valD s = some (List.replicate 32 0):=by rw [hvd0.out,if_pos hk2]
   replace hyes:=qh hyes
   have hmk:=qJT (w.alloc (.cells #[.int .i64 y.kind,.bool y.dirty,.int .i64 y.lba,W y.ep,W y.sl,U y.ver,U y.tag.1,U y.tag.2] 117))
   have hkB : qA4 w ((w.alloc (.cells #[.int .i64 y.kind,.bool y.dirty,.int .i64 y.lba,W y.ep,W y.sl,U y.ver,U y.tag.1,U y.tag.2] 117)).alloc (.cells (qA1 (List.replicate 32 0)).toArray 5)):=hkA.alloc (by simp) _
   have hoz:=qLB (w.alloc (.cells #[.int .i64 y.kind,.bool y.dirty,.int .i64 y.lba,W y.ep,W y.sl,U y.ver,U y.tag.1,U y.tag.2] 117))
   rw [World.size_alloc] at hmk hoz
   have HK:=qh hk2
   have hb : (y.kind == 2) = true:=by rw [hk2];rfl
   clear hk2
   go_enter func118,ntmps118
   go_wp2_with fail
   refine bodyPost_ret (v:=.tuple #[.slice (some ⟨w.heap.size + 1,0,none⟩) 32 32,.int .i64 0]) (by simp [results,results118,go_sem];done) rfl ⟨_,by rw [hyes.out];rfl,fun d hd=>?_,?_,Ext.kept h.top hkB⟩
   · rw [hyes.out] at hd
     have hdd : List.replicate 32 0 = d:=Option.some.inj hd
     rw [← hdd,List.length_replicate]
     exact qAg hoz (by omega)
   · have : b.valX s = b:=by unfold Bx.valX;rw [hyes.out];rfl
     rw [this]
     exact h.kept hkB
 · have hvd : b.valD s = b.openL y (b.dataAt s):=by rw [hvd0.out,if_neg hk2]
   replace hvd:=qh hvd
   have hb : (y.kind == 2) = false:=by simpa using hk2
   go_enter func118,ntmps118
   go_wp2_with fail
   generalize (w.alloc (.cells #[.int .i64 y.kind,.bool y.dirty,.int .i64 y.lba,W y.ep,W y.sl,U y.ver,U y.tag.1,U y.tag.2] 117)) = wA at *
   refine qA5 [(0,0),(1,0),(2,0),(3,0),(4,0),(5,0),(6,0),(7,0),(8,0),(9,0),(10,0),(11,0),(12,0),(13,0),(14,0),(15,1),(16,1),(17,0),(18,0),(19,0),(20,0),(21,0)] (by kernel_rfl) (by kernel_rfl) ?_
   intro z1 hz1
   repeat
    refine qA0 _ rfl (fun K hK=>?_)
    first
     | (refine qqP (by rfl) ?_;apply Exists.intro;refine ⟨fun w' hw'=>?_,hK _ ?_⟩;(have c:=bC.kept (hkA.of (hz1.of hw'));have c0:=c.cell 0;clear c;have d:=bW.kept (hkA.of (hz1.of hw'));have d0:=d.cell 0;have d2:=d.cell 2;clear d;go_simp;first|done|rfl))
     | refine qqN (by rfl) (hK _ ?_)
    clear hK K;simp only [Act.put,qqB]
   refine qqH _ rfl (by rfl) (fun K hK=>?_)
   go_wp2_with fail
   refine (CG z1).mono ?_
   rintro e z2 ⟨rfl,hk2'⟩
   go_wp2
   refine hK _ _ (hk2') ?_
   clear hK K
   try simp only [Act.put,qqB]
   refine qqH _ rfl (by rfl) (fun K hK=>?_)
   go_wp2_with fail
   refine (CR z2 (hkA.of (hz1.of hk2'))).mono ?_
   rintro e z3 ⟨u,uc,rfl,ho3,hl3,hk3⟩
   go_wp2
   refine hK _ _ (hk3) ?_
   clear hK K
   try simp only [Act.put,qqB]
   repeat
    refine qA0 _ rfl (fun K hK=>?_)
    first
     | (refine qqP (by rfl) ?_;apply Exists.intro;refine ⟨fun w' hw'=>?_,hK _ ?_⟩;go_simp;first|done|rfl)
     | refine qqN (by rfl) (hK _ ?_)
    clear hK K;simp only [Act.put,qqB]
   refine qA7 ?_
   have hdl:=hl3
   have hsd:=ho3.sl
   rw [hl3] at hsd
   replace hdl:=qh hdl
   have hk3w:=hkA.of ((hz1.of hk2').of hk3)
   have bC3:=bC.kept hk3w
   have bW3:=bW.kept hk3w
   have bL3:=bL.kept ((hz1.of hk2').of hk3)
   clear hl3 a0
   go_wp2_with fail
   refine qBe z3.heap.size [(0,0),(1,0),(2,0),(3,0),(4,0),(5,0),(6,0),(7,0),(8,0),(9,0),(11,0),(12,0),(13,0),(16,0)] ((.light 0 (.light 1 (.light 2 (.light 3 (.light 4 (.light 5 (.light 6 (.light 7 (.light 8 (.light 9 (.two 10 14 (.light 11 (.light 12 (.light 13 (.heavy 14 (.heavy 15 (.light 16 .nil)))))) (.heavy 10 (.light 11 (.light 12 (.light 13 (.heavy 15 (.light 16 .nil)))))))))))))))))) (by kernel_rfl) (by kernel_rfl) ?_
   intro z0 hz0
   have hkS : qA4 z0 z0:=Below.refl _ _
   have bCz:=bC3.kept hz0
   have bWz:=bW3.kept hz0
   have bLz:=bL3.kept hz0
   refine qA2 _ rfl (fun J hJ=>?_)
   refine qqP (by rfl) ?_;apply Exists.intro;refine ⟨fun w' hw'=>?_,hJ _ ?_⟩
   · go_simp;first|done|rfl
   clear hJ J;simp only [Act.put,qqB]
   refine qA2 _ rfl (fun J hJ=>?_)
   refine qqP (by rfl) ?_;apply Exists.intro;refine ⟨fun w' hw'=>?_,hJ _ ?_⟩
   · go_simp;first|done|rfl
   clear hJ J;simp only [Act.put,qqB]
   refine qA2 _ rfl (fun J hJ=>?_)
   refine qqP (by rfl) ?_;apply Exists.intro;refine ⟨fun w' hw'=>?_,hJ _ ?_⟩
   · go_simp;first|done|rfl
   clear hJ J;simp only [Act.put,qqB]
   refine qA2 _ rfl (fun J hJ=>?_)
   refine qqP (by rfl) ?_;apply Exists.intro;refine ⟨fun w' hw'=>?_,hJ _ ?_⟩
   · have c:=(bCz.below hw' bC3.lt);have c0:=c.cell 0;clear c;have d:=(bWz.below hw' bW3.lt);have d5:=d.cell 5;clear d;go_simp;first|done|rfl
   clear hJ J;simp only [Act.put,qqB]
   refine qA2 _ rfl (fun J hJ=>?_)
   refine qqP (by rfl) ?_;apply Exists.intro;refine ⟨fun w' hw'=>?_,hJ _ ?_⟩
   · go_simp;first|done|rfl
   clear hJ J;simp only [Act.put,qqB]
   refine qA2 _ rfl (fun J hJ=>?_)
   refine qqP (by rfl) ?_;apply Exists.intro;refine ⟨fun w' hw'=>?_,hJ _ ?_⟩
   · go_simp;first|done|rfl
   clear hJ J;simp only [Act.put,qqB]
   refine qA2 _ rfl (fun J hJ=>?_)
   refine qqP (by rfl) ?_;apply Exists.intro;refine ⟨fun w' hw'=>?_,hJ _ ?_⟩
   · have c:=(bCz.below hw' bC3.lt);have c0:=c.cell 0;clear c;have d:=(bWz.below hw' bW3.lt);have d5:=d.cell 5;clear d;go_simp;first|done|rfl
   clear hJ J;simp only [Act.put,qqB]
   refine qA2 _ rfl (fun J hJ=>?_)
   refine qqP (by rfl) ?_;apply Exists.intro;refine ⟨fun w' hw'=>?_,hJ _ ?_⟩
   · go_simp;first|done|rfl
   clear hJ J;simp only [Act.put,qqB]
   refine qA2 _ rfl (fun J hJ=>?_)
   refine qqP (by rfl) ?_;apply Exists.intro;refine ⟨fun w' hw'=>?_,hJ _ ?_⟩
   · go_simp;first|done|rfl
   clear hJ J;simp only [Act.put,qqB]
   refine qA2 _ rfl (fun J hJ=>?_)
   refine qqP (by rfl) ?_;apply Exists.intro;refine ⟨fun w' hw'=>?_,hJ _ ?_⟩
   · have c:=(bLz.below hw' bL3.lt);have c3:=c.cell 3;clear c;go_simp;first|done|rfl
   clear hJ J;simp only [Act.put,qqB]
   refine qBY ?_ ?_
   focus
    refine qAa _ rfl (fun J hJ=>?_)
    refine qqP (by rfl) ?_
    go_wp2_with fail
    refine (qIk (h.wm.wd.kept (hk3w.of (hz0.of hkS))) f.x.ok (by omega) y.ep).mono ?_
    rintro e y1 ⟨rfl,ka⟩
    rw [← HKY.out,← HB2.out]
    have hsz:=Nat.le_trans hz0.size hkS.size
    replace hkS:=hkS.of ka
    unfold Pr
    go_wp2
    refine hJ _ _ (ka.mono hsz) ?_
    clear hJ J
    try simp only [Act.put,qqB]
    clear hsz
    refine qA2 _ rfl (fun J hJ=>?_)
    refine qqP (by rfl) ?_;apply Exists.intro;refine ⟨fun w' hw'=>?_,hJ _ ?_⟩
    · go_simp;first|done|rfl
    clear hJ J;simp only [Act.put,qqB]
    refine qA2 _ rfl (fun J hJ=>?_)
    refine qqP (by rfl) ?_;apply Exists.intro;refine ⟨fun w' hw'=>?_,hJ _ ?_⟩
    · go_simp;first|done|rfl
    clear hJ J;simp only [Act.put,qqB]
    refine qA2 _ rfl (fun J hJ=>?_)
    refine qqP (by rfl) ?_;apply Exists.intro;refine ⟨fun w' hw'=>?_,hJ _ ?_⟩
    · go_simp;first|done|rfl
    clear hJ J;simp only [Act.put,qqB]
    refine qAa _ rfl (fun J hJ=>?_)
    refine qqP (by rfl) ?_
    have kb : qA4 y1 (y1.alloc (.cells #[U 0#64,U 0#64] 115)):=qal _
    have bY:=Blk.new y1 #[U 0#64,U 0#64] 115
    have hsz:=Nat.le_trans hz0.size hkS.size
    obtain ⟨gk,hgk⟩ : ∃ g,g = y1.heap.size:=⟨_,rfl⟩
    rw [← hgk] at bY
    replace hkS:=hkS.of kb
    go_wp2
    refine hJ _ _ (kb.mono hsz) ?_
    clear hJ J
    try simp only [Act.put,qqB]
    rw [← hgk]
    have hg1 : z3.heap.size ≤ gk:=by rw [hgk];exact hsz
    clear hgk
    generalize (y1.alloc (.cells #[U 0#64,U 0#64] 115)) = y2 at *
    clear hsz
   rotate_left
   focus
    refine qAa _ rfl (fun J hJ=>?_)
    refine qqP (by rfl) ?_
    have kb : qA4 z0 (z0.alloc (.cells #[U 0#64,U 0#64] 115)):=qal _
    have bY:=Blk.new z0 #[U 0#64,U 0#64] 115
    have hsz:=Nat.le_trans hz0.size hkS.size
    obtain ⟨gk,hgk⟩ : ∃ g,g = z0.heap.size:=⟨_,rfl⟩
    rw [← hgk] at bY
    replace hkS:=hkS.of kb
    go_wp2
    refine hJ _ _ (kb.mono hsz) ?_
    clear hJ J
    try simp only [Act.put,qqB]
    rw [← hgk]
    have hg1 : z3.heap.size ≤ gk:=by rw [hgk];exact hsz
    clear hgk
    generalize (z0.alloc (.cells #[U 0#64,U 0#64] 115)) = y1 at *
    clear hsz
    refine qAa _ rfl (fun J hJ=>?_)
    refine qqP (by rfl) ?_
    go_wp2_with fail
    refine (qIk (h.wm.wd.kept (hk3w.of (hz0.of hkS))) f.x.ok (by omega) y.ep).mono ?_
    rintro e y2 ⟨rfl,ka⟩
    rw [← HKY.out,← HB2.out]
    have hsz:=Nat.le_trans hz0.size hkS.size
    replace hkS:=hkS.of ka
    unfold Pr
    go_wp2
    refine hJ _ _ (ka.mono hsz) ?_
    clear hJ J
    try simp only [Act.put,qqB]
    replace bY:=bY.kept ka
    clear hsz
    refine qA2 _ rfl (fun J hJ=>?_)
    refine qqP (by rfl) ?_;apply Exists.intro;refine ⟨fun w' hw'=>?_,hJ _ ?_⟩
    · go_simp;first|done|rfl
    clear hJ J;simp only [Act.put,qqB]
    refine qA2 _ rfl (fun J hJ=>?_)
    refine qqP (by rfl) ?_;apply Exists.intro;refine ⟨fun w' hw'=>?_,hJ _ ?_⟩
    · go_simp;first|done|rfl
    clear hJ J;simp only [Act.put,qqB]
    refine qA2 _ rfl (fun J hJ=>?_)
    refine qqP (by rfl) ?_;apply Exists.intro;refine ⟨fun w' hw'=>?_,hJ _ ?_⟩
    · go_simp;first|done|rfl
    clear hJ J;simp only [Act.put,qqB]
   all_goals
    refine qAa _ rfl (fun J hJ=>?_)
    refine qqP (by rfl) ?_
    have f0:=bY.free 0
    have f1:=bY.free 1
    have x0:=bY.cell 0
    have x1:=bY.cell 1
    have bK:=(bY.set 0 (U k1)).set 1 (U k2)
    simp only [qqA,qq0,qq1] at bK
    have hbel : Below z3.heap.size y2 ((y2.setCell ⟨gk,0,none⟩ (U k1)).setCell ⟨gk,1,none⟩ (U k2)):=((Below.refl _ _).setCell (p:=⟨gk,0,none⟩) hg1 _).setCell (p:=⟨gk,1,none⟩) hg1 _
    have hkF : qA4 z3 ((y2.setCell ⟨gk,0,none⟩ (U k1)).setCell ⟨gk,1,none⟩ (U k2)):=Below.trans (hz0.of hkS) hbel
    go_wp2
    refine hJ _ _ (hbel) ?_
    clear hJ J
    try simp only [Act.put,qqB]
    clear f0 f1 x0 x1
    generalize ((y2.setCell ⟨gk,0,none⟩ (U k1)).setCell ⟨gk,1,none⟩ (U k2)) = zF at *
    refine qA2 _ rfl (fun J hJ=>?_)
    refine qqP (by rfl) ?_;apply Exists.intro;refine ⟨fun w' hw'=>?_,hJ _ ?_⟩
    · go_simp;first|done|rfl
    clear hJ J;simp only [Act.put,qqB]
    refine qCS ?_
    have bCF:=bC3.kept hkF
    have bWF:=bW3.kept hkF
    have bLF:=bL3.kept hkF
    cases B2 with
    | false =>
     have hno : b.valD s = none:=by rw [hvd.out];unfold Bx.openL;rw [if_neg];rw [← HB2.out];decide
     replace hno:=qh hno
     have hbC:=bC.kept (hk3w.of hkF)
     have f5:=hbC.free 5
     have x5:=hbC.cell 5
     go_wp2_with fail
     obtain ⟨hb2,eb2⟩:=(h.kept (hk3w.of hkF)).setBad
     refine bodyPost_ret (v:=.tuple #[.slice none 0 0,.int .i64 3]) (by simp [results,results118,go_sem];done) rfl ⟨_,by rw [hno.out];rfl,(fun d hd=>by rw [hno.out] at hd;cases hd),?_,(Ext.kept (m:=11) h.top (hk3w.of hkF)).trans eb2⟩
     have : b.valX s = b.setBad:=by unfold Bx.valX;rw [hno.out];rfl
     rw [this]
     exact hb2
    | true =>
     obtain ⟨op,hop⟩ : ∃ o,o = b.x.l.openP (k1,k2) y.nn (qCO y.lba) (b.dataAt s) y.tag:=⟨_,rfl⟩
     have hvo : b.valD s = op:=by rw [hvd.out];unfold Bx.openL;rw [if_pos HB2.out.symm,← HKY.out,← hop]
     have HOP:=qh hop
     have HVO:=qh hvo
     clear hop hvo
     have CHd:=fun z=>qKb y.lba z
     go_wp2_with fail
     refine qA5 [(0,0),(1,0),(2,0),(3,0),(4,0),(5,0),(6,0),(7,0),(8,0),(9,0),(10,0),(11,0),(13,0),(14,0),(15,0),(16,0),(12,1),(17,1),(18,0),(19,0),(20,0),(21,0),(22,0)] (by kernel_rfl) (by kernel_rfl) ?_
     intro z5 hz5
     repeat
      refine qA0 _ rfl (fun K hK=>?_)
      first
       | (refine qqP (by rfl) ?_;apply Exists.intro;refine ⟨fun w' hw'=>?_,hK _ ?_⟩;(have c:=bCF.kept (hz5.of hw');have c0:=c.cell 0;clear c;have d:=bWF.kept (hz5.of hw');have d6:=d.cell 6;clear d;have k:=bK.kept (hz5.of hw');have kk0:=k.cell 0;have kk1:=k.cell 1;clear k;have l:=bLF.kept (hz5.of hw');have l2:=l.cell 2;have l3:=l.cell 3;have l4:=l.cell 4;have l5:=l.cell 5;have l6:=l.cell 6;have l7:=l.cell 7;clear l;go_simp;first|done|rfl))
       | refine qqN (by rfl) (hK _ ?_)
      clear hK K;simp only [Act.put,qqB]
     refine qqH _ rfl (by rfl) (fun K hK=>?_)
     go_wp2_with fail
     refine (CHd z5).mono ?_
     rintro e z6 ⟨hv,rfl,oh,hk6⟩
     obtain ⟨ha,hc,rfl⟩:=(Sl.of_own oh).len
     go_wp2
     refine hK _ _ (hk6) ?_
     clear hK K
     try simp only [Act.put,qqB]
     refine qqH _ rfl (by rfl) (fun K hK=>?_)
     go_wp2_with fail
     refine (qML (h.wm.wd.kept ((hk3w.of hkF).of (hz5.of hk6))) f.x (by omega) (k1,k2) y.tag y.nn _ _ (qCO y.lba) (b.dataAt s) (by rw [qC3];omega) (by rw [hdl.out];omega) (by rw [qC3];exact Sl.of_own oh) (by rw [hdl.out];exact (hsd.kept hkF).kept (hz5.of hk6))).mono ?_
     rintro e z7 ⟨v,rfl,hov,hk7⟩
     rw [HOP.out.symm]
     go_wp2
     refine hK _ _ (hk7) ?_
     clear hK K
     try simp only [Act.put,qqB]
     repeat
      refine qA0 _ rfl (fun K hK=>?_)
      first
       | (refine qqP (by rfl) ?_;apply Exists.intro;refine ⟨fun w' hw'=>?_,hK _ ?_⟩;go_simp;first|done|rfl)
       | refine qqN (by rfl) (hK _ ?_)
      clear hK K;simp only [Act.put,qqB]
     refine qA7 ?_
     cases op with
     | none =>
      simp only [Option.isSome_none]
      have hno : b.valD s = none:=HVO.out
      replace hno:=qh hno
      have hbC:=bC.kept ((hk3w.of hkF).of ((hz5.of hk6).of hk7))
      have f5:=hbC.free 5
      have x5:=hbC.cell 5
      go_wp2_with fail
      obtain ⟨hb2,eb2⟩:=(h.kept ((hk3w.of hkF).of ((hz5.of hk6).of hk7))).setBad
      refine bodyPost_ret (v:=.tuple #[.slice none 0 0,.int .i64 3]) (by simp [results,results118,go_sem];done) rfl ⟨_,by rw [hno.out];rfl,(fun d hd=>by rw [hno.out] at hd;cases hd),?_,(Ext.kept (m:=11) h.top ((hk3w.of hkF).of ((hz5.of hk6).of hk7))).trans eb2⟩
      have : b.valX s = b.setBad:=by unfold Bx.valX;rw [hno.out];rfl
      rw [this]
      exact hb2
     | some d =>
      simp only [Option.isSome_some]
      have hyes : b.valD s = some d:=HVO.out
      have ho:=hov d HOP.out.symm
      replace hyes:=qh hyes
      go_wp2_with fail
      have hkk:=(hk3w.of hkF).of ((hz5.of hk6).of hk7)
      refine bodyPost_ret (v:=.tuple #[v,.int .i64 0]) (by simp [results,results118,go_sem];done) rfl ⟨_,by rw [hyes.out];rfl,fun d' hd=>?_,?_,Ext.kept h.top hkk⟩
      · rw [hyes.out] at hd
        cases hd
        exact qAg ho ((hk3w.of hkF).of (hz5.of hk6)).size
      · have : b.valX s = b:=by unfold Bx.valX;rw [hyes.out];rfl
        rw [this]
        exact h.kept hkk
def Wd.dPut (x : Wd) (lba : Int) (d : List UInt8) : Wd:=if x.d.no then x else x.dWrite (lba,d)
def Wd.dOk (x : Wd) : Bool:=!x.d.no && x.p.spend.1
def Bx.spX (b : Bx) (s : Nat) : Option (List UInt8) → Bx
 | none=>b.setBad
 | some d=>⟨b.x.dPut (b.leaf s).lba d,b.boot,b.k,b.c⟩
def Bx.spE (b : Bx) (s : Nat) : Option (List UInt8) → Int
 | none=>3
 | some d=>if b.x.dOk then 0 else if (b.x.dPut (b.leaf s).lba d).p.gone then 7 else 5
def Bx.spillX (b : Bx) (s : Nat) : Bx:=b.spX s (b.valD s)
def Bx.spillE (b : Bx) (s : Nat) : Int:=b.spE s (b.valD s)
theorem qCC {b : Bx} {m : Nat} (f : b.fine m) {s : Nat} (hs : s < b.c.now.length) (hk : (b.leaf s).kind ≠ 0) : 0 ≤ (b.leaf s).lba ∧ (b.leaf s).lba < 32:=by
 have hl : qAR (b.leaf s) (s : Int) = true:=by
  unfold Bx.leaf
  rw [List.getElem?_eq_getElem hs]
  exact f.nok s _ (List.getElem?_eq_getElem hs)
 unfold qAR at hl
 simp only [Bool.and_eq_true] at hl
 have h2:=hl.2
 rw [if_neg hk] at h2
 split at h2
 · simp only [Bool.and_eq_true,qC4,decide_eq_true_eq] at h2
   exact h2.1
 · split at h2
   · simp only [Bool.and_eq_true,qC4,decide_eq_true_eq] at h2
     exact h2.1.1
   · cases h2
theorem qEd {b : Bx} {m : Nat} (f : b.fine m) {s : Nat} (hs : s < b.c.now.length) {d : List UInt8} (hd : b.valD s = some d) : d.length = 32:=by
 have hn : s < b.x.n:=by have:=f.nl;omega
 have hdl : (b.dataAt s).length = 32:=by
  have h1:=qHM hn
  have h2:=Sd.snap_length f.x.ok.s
  unfold Bx.dataAt
  rw [List.length_take,List.length_drop,h2]
  omega
 unfold Bx.valD at hd
 split at hd
 · cases hd;simp
 · unfold Bx.openL at hd
   split at hd
   · cases hl : b.x.l with
     | real =>
      rw [hl] at hd
      unfold Lk.openP at hd
      simp only at hd
      split at hd
      · cases hd;rw [qBy];exact hdl
      · cases hd
     | ideal iss sums =>
      rw [hl] at hd
      unfold Lk.openP qDS at hd
      simp only at hd
      cases hf : iss.find? (fun x=>x.opens (qFO b.x.seed b.x.eps (b.leaf s).ep) (b.leaf s).nn (qCO (b.leaf s).lba) (b.dataAt s) (b.leaf s).tag) with
      | none=>rw [hf] at hd;cases hd
      | some y =>
       rw [hf] at hd
       cases hd
       have ho:=List.find?_some hf
       unfold Iss.opens at ho
       simp only [Bool.and_eq_true,beq_iff_eq] at ho
       have hdd:=f.x.dat
       rw [hl] at hdd
       rw [(hdd y (List.mem_of_find?_eq_some hf)).2,ho.2.2.2.2,hdl]
   · cases hd
theorem qPl {lba : Int} (h : 0 ≤ lba ∧ lba < 32) : isD lba = true:=by
 unfold isD
 simp [h.1,h.2]
theorem qKy {col : Nat → Nat} {w : World} {P : qAQ} {M C A : Nat} {vn vw : Value} {b : Bx} (h : qBh col w P M C A vn vw b) {m : Nat} (f : b.fine m) (hm : m ≤ 60000) (hg : b.x.p.gone = false) (s : Nat) (hs : s < b.c.now.length) (hk0 : (b.leaf s).kind ≠ 0) : Calls prog 111 #[.pointer (some ⟨C,0,none⟩),.int .i64 (s : Int)] w fun e w'=>e = .returned (.int .i64 (b.spillE s)) ∧ ∃ col',qBh col' w' P M C A vn vw (b.spillX s) ∧ Ext 11 col col' w w':=by
 have hn16:=qAm f.x.ok.sl
 have hnl:=f.nl
 have hlb:=qCC f hs hk0
 have CV:=qKx h f hm hg s hs
 obtain ⟨o,ho⟩ : ∃ o,o = b.valD s:=⟨_,rfl⟩
 have hx : b.valX s = if o.isSome then b else b.setBad:=by unfold Bx.valX;rw [← ho]
 rw [← ho,hx] at CV
 have hE : b.spillE s = b.spE s o:=by unfold Bx.spillE;rw [← ho]
 have hX : b.spillX s = b.spX s o:=by unfold Bx.spillX;rw [← ho]
 have hdl0 : ∀ d,o = some d → d.length = 32:=fun d hd=>qEd f hs (by rw [← ho];exact hd)
 obtain ⟨N,hN⟩ : ∃ N,N = b.c.now.length:=⟨_,rfl⟩
 obtain ⟨y,hy⟩ : ∃ y,y = b.c.now[s]:=⟨_,rfl⟩
 have hky : b.c.now[s]? = some y:=by rw [List.getElem?_eq_getElem hs,hy]
 have hyl : b.leaf s = y:=by unfold Bx.leaf;rw [hky];rfl
 obtain ⟨g1,c1,hv1'⟩:=qAx h.now (by omega)
 subst hv1'
 rw [hyl] at hlb
 have HYL:=qh hyl
 have i1 : (s : Int) < (N : Int):=by omega
 have i2 : (0 : Int) ≤ (s : Int):=by omega
 replace hlb:=qh hlb
 replace hky:=qh hky
 have HN:=qh hN
 clear hx ho hnl hn16 hy hyl hN hs
 cases o with
 | none =>
  replace hE:=qh (show b.spillE s = 3 from hE)
  replace hX:=qh (show b.spillX s = b.setBad from hX)
  simp only [Option.isSome_none,qHA] at CV
  go_enter func111,ntmps111
  go_wp2_with fail
  refine CV.mono ?_
  rintro e w1 ⟨v,rfl,_,h1,e1⟩
  go_wp2_with fail
  refine bodyPost_ret (v:=.int .i64 3) (by simp [results,results111,go_sem];done) rfl ⟨by rw [hE.out],col,by rw [hX.out];exact h1,e1⟩
 | some d =>
  replace hE : b.spillE s = if b.x.dOk then 0 else if (b.x.dPut (b.leaf s).lba d).p.gone then 7 else 5:=hE
  replace hX : b.spillX s = ⟨b.x.dPut (b.leaf s).lba d,b.boot,b.k,b.c⟩:=hX
  rw [HYL.out] at hE hX
  replace hE:=qh hE
  replace hX:=qh hX
  have hdl:=hdl0 d rfl
  replace hdl:=qh hdl
  simp only [Option.isSome_some,qHA,if_true] at CV
  clear hdl0
  go_enter func111,ntmps111
  go_wp2_with fail
  refine CV.mono ?_
  rintro e w1 ⟨v,rfl,hov,h1,e1⟩
  have hv1:=hov d rfl
  rw [hdl.out] at hv1
  obtain ⟨va,vc,rfl⟩:=(Sl.of_own hv1).len
  have bC1:=h1.blk
  rw [← HN.out] at bC1
  have bW1:=h1.wm.wd.blk
  have hn1:=h1.now
  clear hov
  go_wp2_with fail
  cases hno : b.x.d.no with
  | true =>
   have hp : b.x.dPut y.lba d = b.x:=by unfold Wd.dPut;rw [hno];rfl
   have hok : b.x.dOk = false:=by unfold Wd.dOk;rw [hno];rfl
   rw [hp] at hE hX
   rw [hok,hg] at hE
   replace hE:=qh (show b.spillE s = 5 from hE.out)
   clear hp hok
   refine qAe (qA8 (fun k=>k < w1.heap.size ∧ (col k = 0 ∨ 6 < col k))) [(0,0),(1,0),(2,0),(3,0),(4,0),(5,0),(6,0),(7,0),(8,0),(9,0),(10,0),(11,0),(12,0),(13,0),(14,0),(15,0),(16,1),(17,0)] (by kernel_rfl) (by kernel_rfl) ?_ ?_ ?_
   · exact fun _=>qA8.refl _
   · exact fun _ _ _ h1 h2=>h1.trans h2
   intro z1 hz1
   have bCz:=bC1.kept hz1
   have bWz:=bW1.kept hz1
   repeat
    refine qA0 _ rfl (fun K hK=>?_)
    first
     | (refine qqP (by rfl) ?_;apply Exists.intro;refine ⟨fun w' hw'=>?_,hK _ ?_⟩;(have c:=(hw'.block _ bCz.lt ⟨bC1.lt,.inr (by rw [h1.cC];decide)⟩).trans bCz;have c0:=Blk.cell c 0;have c2:=Blk.cell c 2;clear c;have d:=(hw'.block _ bWz.lt ⟨bW1.lt,.inr (by rw [h1.wm.wd.cW];decide)⟩).trans bWz;have d3:=Blk.cell d 3;clear d;have l:=qBP (qKn (qA3 hn1 hz1) hw' (fun g hg=>⟨qAo hn1 hg,.inr (by rw [h1.cn g hg];decide)⟩)) s y hky.out;have l2 : w'.cell? ⟨g1,s * 8 + 2,none⟩ = some (.int .i64 y.lba):=l 2 _ rfl;clear l;go_simp;first|done|rfl))
     | refine qqN (by rfl) (hK _ ?_)
    clear hK K;simp only [Act.put,qqB]
   refine qqH _ rfl (by rfl) (fun K hK=>?_)
   go_wp2_with fail
   refine (qIj (h1.wm.wd.kept hz1) f.x.ok hno y.lba va vc (qPl hlb.out)).mono ?_
   rintro e z2 ⟨rfl,rfl⟩
   go_wp2
   refine hK _ _ (qA8.refl _) ?_
   clear hK K
   try simp only [Act.put,qqB]
   repeat
    refine qA0 _ rfl (fun K hK=>?_)
    first
     | (refine qqP (by rfl) ?_;apply Exists.intro;refine ⟨fun w' hw'=>?_,hK _ ?_⟩;go_simp;first|done|rfl)
     | refine qqN (by rfl) (hK _ ?_)
    clear hK K;simp only [Act.put,qqB]
   refine qA7 ?_
   have h2:=h1.kept hz1
   have bC2:=h2.blk
   have bW2:=h2.wm.wd.blk
   have p0:=bC2.cell 0
   have p1:=bW2.cell 1
   have CO:=qFt h2.wm.wd
   rw [hg] at CO
   simp only [Bool.not_false] at CO
   go_wp2_with fail
   refine CO.mono ?_
   rintro e z3 ⟨rfl,rfl⟩
   go_wp2_with fail
   refine bodyPost_ret (v:=.int .i64 5) (by simp [results,results111,go_sem];done) rfl ⟨by rw [hE.out],col,by rw [hX.out];exact h2,e1.trans (Ext.kept h1.top hz1)⟩
  | false =>
   have hp : b.x.dPut y.lba d = b.x.dWrite (y.lba,d):=by unfold Wd.dPut;rw [hno];rfl
   have hok : b.x.dOk = b.x.p.spend.1:=by unfold Wd.dOk;rw [hno];rfl
   rw [hp] at hE hX
   rw [hok] at hE
   obtain ⟨B,hB⟩ : ∃ B,B = b.x.p.spend.1:=⟨_,rfl⟩
   rw [← hB] at hE
   have HB:=qh hB
   clear hp hok hB
   refine qAe (qA8 (fun k=>k < w1.heap.size ∧ (col k = 0 ∨ 6 < col k))) [(0,0),(1,0),(2,0),(3,0),(4,0),(5,0),(6,0),(7,0),(8,0),(9,0),(10,0),(11,0),(12,0),(13,0),(14,0),(15,0),(16,1),(17,0)] (by kernel_rfl) (by kernel_rfl) ?_ ?_ ?_
   · exact fun _=>qA8.refl _
   · exact fun _ _ _ h1 h2=>h1.trans h2
   intro z1 hz1
   have bCz:=bC1.kept hz1
   have bWz:=bW1.kept hz1
   repeat
    refine qA0 _ rfl (fun K hK=>?_)
    first
     | (refine qqP (by rfl) ?_;apply Exists.intro;refine ⟨fun w' hw'=>?_,hK _ ?_⟩;(have c:=(hw'.block _ bCz.lt ⟨bC1.lt,.inr (by rw [h1.cC];decide)⟩).trans bCz;have c0:=Blk.cell c 0;have c2:=Blk.cell c 2;clear c;have d:=(hw'.block _ bWz.lt ⟨bW1.lt,.inr (by rw [h1.wm.wd.cW];decide)⟩).trans bWz;have d3:=Blk.cell d 3;clear d;have l:=qBP (qKn (qA3 hn1 hz1) hw' (fun g hg=>⟨qAo hn1 hg,.inr (by rw [h1.cn g hg];decide)⟩)) s y hky.out;have l2 : w'.cell? ⟨g1,s * 8 + 2,none⟩ = some (.int .i64 y.lba):=l 2 _ rfl;clear l;go_simp;first|done|rfl))
     | refine qqN (by rfl) (hK _ ?_)
    clear hK K;simp only [Act.put,qqB]
   refine qqH _ rfl (by rfl) (fun K hK=>?_)
   go_wp2_with fail
   refine (qMA (h1.wm.wd.kept hz1) f.x.ok (by omega) hno y.lba _ d (qPl hlb.out) hdl.out (by rw [hdl.out];exact (Sl.of_own hv1).kept hz1) (fun a c e hl=>by rw [hdl.out] at e;exact qHz hv1 h.top qle a c e hl)).mono ?_
   rintro e z2 ⟨rfl,nx2⟩
   obtain ⟨col2,hW2,e2⟩:=nx2
   rw [← HB.out]
   have S2:=e2.sameOn (w0:=w1) (col0:=col) (fun k hk=>rfl)
   go_wp2
   refine hK _ _ (S2) ?_
   clear hK K
   try simp only [Act.put,qqB]
   repeat
    refine qA0 _ rfl (fun K hK=>?_)
    first
     | (refine qqP (by rfl) ?_;apply Exists.intro;refine ⟨fun w' hw'=>?_,hK _ ?_⟩;go_simp;first|done|rfl)
     | refine qqN (by rfl) (hK _ ?_)
    clear hK K;simp only [Act.put,qqB]
   refine qA7 ?_
   have h2:=(h1.kept hz1).world ((h1.wm.kept hz1).ext6 hW2 e2) (e2.mono (show 6 ≤ 8 by decide))
   have ex2:=(e1.trans (Ext.kept h1.top hz1)).trans (e2.mono (show 6 ≤ 11 by decide))
   cases B with
   | true =>
    replace hE:=qh (show b.spillE s = 0 from hE.out)
    go_wp2_with fail
    refine bodyPost_ret (v:=.int .i64 0) (by simp [results,results111,go_sem];done) rfl ⟨by rw [hE.out],col2,by rw [hX.out];exact h2,ex2⟩
   | false =>
    have bC2:=h2.blk
    have bW2:=h2.wm.wd.blk
    have p0:=bC2.cell 0
    have p1:=bW2.cell 1
    have CO:=qFt h2.wm.wd
    obtain ⟨B3,hB3⟩ : ∃ B,B = (b.x.dWrite (y.lba,d)).p.gone:=⟨_,rfl⟩
    rw [← hB3] at CO hE
    have HB3:=qh hB3
    clear hB3
    cases B3 with
    | true =>
     replace hE:=qh (show b.spillE s = 7 from hE.out)
     simp only [Bool.not_true] at CO
     go_wp2_with fail
     refine CO.mono ?_
     rintro e z3 ⟨rfl,rfl⟩
     go_wp2_with fail
     refine bodyPost_ret (v:=.int .i64 7) (by simp [results,results111,go_sem];done) rfl ⟨by rw [hE.out],col2,by rw [hX.out];exact h2,ex2⟩
    | false =>
     replace hE:=qh (show b.spillE s = 5 from hE.out)
     simp only [Bool.not_false] at CO
     go_wp2_with fail
     refine CO.mono ?_
     rintro e z3 ⟨rfl,rfl⟩
     go_wp2_with fail
     refine bodyPost_ret (v:=.int .i64 5) (by simp [results,results111,go_sem];done) rfl ⟨by rw [hE.out],col2,by rw [hX.out];exact h2,ex2⟩
def Bx.oldest (b : Bx) : Nat:=b.c.age.q[0]?.getD 0
def Bx.setX (b : Bx) (x : Wd) : Bx:=⟨x,b.boot,b.k,b.c⟩
def Bx.evict (b : Bx) : Int × Bx :=
 if (b.leaf b.oldest).dirty then
  if b.spillE b.oldest ≠ 0 then (b.spillE b.oldest,b.spillX b.oldest)
  else if (b.spillX b.oldest).x.p.spend.1 = false then (7,(b.spillX b.oldest).setX (b.spillX b.oldest).x.dBarrier)
  else (((b.spillX b.oldest).setX (b.spillX b.oldest).x.dBarrier).drops b.oldest).commit
 else (b.drops b.oldest).commit
def Bx.room (b : Bx) : Int × Bx :=
 if b.c.free.isSome then (0,b)
 else if b.commit.1 ≠ 0 then b.commit
 else if b.commit.2.c.free.isSome then (0,b.commit.2)
 else b.commit.2.evict
theorem qHN {p : Pw} (h : p.spend.1 = true) : p.gone = false ∧ p.spend.2.gone = false:=by
 unfold Pw.spend at *
 split at h
 · cases h
 · rename_i hg
   have hg' : p.gone = false:=by simpa using hg
   split at h
   · cases h
   · rename_i h2
     rw [if_neg hg,if_neg h2]
     exact ⟨hg',hg'⟩
theorem Bx.fine.dBarrier {b : Bx} {m : Nat} (f : b.fine m) : (b.setX b.x.dBarrier).fine (m + 1):=⟨f.x.dBarrier,f.k,f.nl,f.wl,f.nok,f.wok⟩
theorem Bx.fine.drops {b : Bx} {m : Nat} (f : b.fine m) (s : Nat) (hs : s < 16) : (b.drops s).fine m :=
 ⟨f.x,f.k,by show (b.c.now.set s Lf.zero).length = _;rw [List.length_set];exact f.nl,f.wl,f.nok.set (by unfold qAR;simp [Lf.zero];omega),f.wok⟩
theorem Bx.fine.setBad {b : Bx} {m : Nat} (f : b.fine m) : b.setBad.fine m:=⟨f.x,f.k,f.nl,f.wl,f.nok,f.wok⟩
theorem Bx.fine.spill {b : Bx} {m : Nat} (f : b.fine m) {s : Nat} (hs : s < b.c.now.length) (hk : (b.leaf s).kind ≠ 0) : (b.spillX s).fine (m + 1):=by
 unfold Bx.spillX
 cases hd : b.valD s with
 | none=>exact f.setBad.up (by omega)
 | some d =>
  have hdl:=qEd f hs hd
  have hlb:=qCC f hs hk
  refine ⟨?_,f.k,?_,?_,f.nok,f.wok⟩
  · show (b.x.dPut _ d).fine _
    unfold Wd.dPut
    split
    · exact f.x.up (by omega)
    · exact f.x.dWrite ⟨hlb.1,by show (b.leaf s).lba.toNat < 32;omega,hdl⟩
  · show b.c.now.length = (b.x.dPut _ d).n
    unfold Wd.dPut;split <;> exact f.nl
  · show b.c.was.length = (b.x.dPut _ d).n
    unfold Wd.dPut;split <;> exact f.wl
theorem qOM {col : Nat → Nat} {w : World} {P : qAQ} {M C : Nat} {b : Bx} (h : qCG col w P M C b) {m : Nat} (f : b.fine m) (hm : m ≤ 50000) (hg : b.x.p.gone = false) (hq : 0 < b.c.age.q.length) (hq9 : b.c.age.q.length ≤ 900) (hs : b.oldest < b.c.now.length) (hk0 : (b.leaf b.oldest).dirty = true → (b.leaf b.oldest).kind ≠ 0) : Calls prog 163 #[.pointer (some ⟨C,0,none⟩)] w fun e w'=>e = .returned (.int .i64 b.evict.1) ∧ qG5 col w P M C b.evict.2 w':=by
 obtain ⟨A,vn,vw,h0⟩:=h
 have hn16:=qAm f.x.ok.sl
 have hnl:=f.nl
 have hs16 : b.oldest < 16:=by omega
 obtain ⟨g1,c1,hv1⟩:=qAx h0.now (by omega)
 subst hv1
 have CO:=qJO h0.age hq
 have ho : b.c.age.q[0] = b.oldest:=by unfold Bx.oldest;rw [List.getElem?_eq_getElem hq];rfl
 rw [ho] at CO
 obtain ⟨y,hy⟩ : ∃ y,y = b.c.now[b.oldest]:=⟨_,rfl⟩
 have hky : b.c.now[b.oldest]? = some y:=by rw [List.getElem?_eq_getElem hs,hy]
 have hyl : b.leaf b.oldest = y:=by unfold Bx.leaf;rw [hky];rfl
 replace hky:=qh hky
 have l:=qBP h0.now b.oldest y hky.out
 have l1 : w.cell? ⟨g1,b.oldest * 8 + 1,none⟩ = some (.bool y.dirty):=l 1 _ rfl
 clear l
 have bC:=h0.blk
 have q4:=bC.cell 4
 obtain ⟨N,hN⟩ : ∃ N,N = b.c.now.length:=⟨_,rfl⟩
 have q2:=bC.cell 2
 rw [← hN] at q2
 have HN:=qh hN
 have i1 : (b.oldest : Int) < (N : Int):=by omega
 have i2 : (0 : Int) ≤ (b.oldest : Int):=by omega
 obtain ⟨s,hsd⟩ : ∃ s,s = b.oldest:=⟨_,rfl⟩
 rw [← hsd] at CO l1 i1 i2 hs hk0 hyl hs16
 obtain ⟨Er,hEr⟩ : ∃ y,y = b.evict:=⟨_,rfl⟩
 rw [← hEr]
 have HER:=qh hEr
 have HSD:=qh hsd
 have HYL:=qh hyl
 clear ho hy hN hnl hn16 hsd hEr hyl bC
 cases hd : y.dirty with
 | false =>
  rw [hd] at l1
  have he : Er = (b.drops s).commit:=by rw [HER.out];unfold Bx.evict;rw [← HSD.out,HYL.out,hd];rfl
  subst he
  clear HER
  have CD:=qHJ h0 s hs hq9
  have fd:=f.drops s hs16
  obtain ⟨R,hR⟩ : ∃ y,y = (b.drops s).commit.1:=⟨_,rfl⟩
  rw [← hR]
  have HR:=qh hR
  clear hR
  go_enter func163,ntmps163
  go_wp2_with fail
  refine CO.mono ?_
  rintro e w1 ⟨rfl,rfl⟩
  go_wp2_with fail
  refine CD.mono ?_
  rintro e w2 ⟨rfl,h2,e2⟩
  have CC:=qCQ h2 fd (by omega)
  rw [← HR.out] at CC
  go_wp2_with fail
  refine CC.mono ?_
  rintro e w3 ⟨rfl,col3,h3,e3⟩
  go_wp2_with fail
  refine bodyPost_ret (v:=.int .i64 R) (by simp [results,results163,go_sem];done) rfl ⟨rfl,col3,h3,e2.trans e3⟩
 | true =>
  rw [hd] at l1
  have hk1 : (b.leaf s).kind ≠ 0:=hk0 (by rw [HYL.out,hd])
  have CS:=qKy h0 f (by omega) hg s hs hk1
  have fs:=f.spill hs hk1
  have he : Er = if b.spillE s ≠ 0 then (b.spillE s,b.spillX s) else if (b.spillX s).x.p.spend.1 = false then (7,(b.spillX s).setX (b.spillX s).x.dBarrier) else (((b.spillX s).setX (b.spillX s).x.dBarrier).drops s).commit:=by rw [HER.out];unfold Bx.evict;rw [← HSD.out,HYL.out,hd];rfl
  have hnow : (b.spillX s).c.now = b.c.now ∧ (b.spillX s).c.age = b.c.age:=by unfold Bx.spillX;cases b.valD s <;> exact ⟨rfl,rfl⟩
  obtain ⟨E1,hE1⟩ : ∃ y,y = b.spillE s:=⟨_,rfl⟩
  rw [← hE1] at he CS
  replace he:=qh he
  replace hnow:=qh hnow
  clear HER hE1
  go_enter func163,ntmps163
  go_wp2_with fail
  refine CO.mono ?_
  rintro e w1 ⟨rfl,rfl⟩
  go_wp2_with fail
  refine CS.mono ?_
  rintro e w2 ⟨rfl,col2,h2,e2⟩
  by_cases hE0 : E1 = 0
  · have b2:=h2.blk
    have p0:=b2.cell 0
    have b2w:=h2.wm.wd.blk
    have p3:=b2w.cell 3
    have CB:=qFT h2.wm.wd fs.x.ok (by omega)
    obtain ⟨B,hB⟩ : ∃ B,B = (b.spillX s).x.p.spend.1:=⟨_,rfl⟩
    rw [← hB] at CB
    have HB:=qh hB
    clear hB
    go_wp2_with fail
    refine CB.mono ?_
    rintro e w3 ⟨rfl,nx3⟩
    obtain ⟨col3,hW3,e3⟩:=nx3
    have h3:=h2.world (h2.wm.ext6 hW3 e3) (e3.mono (show 6 ≤ 8 by decide))
    have ex3:=e2.trans (e3.mono (show 6 ≤ 11 by decide))
    clear p0 p3
    cases B with
    | false =>
     have he2 : Er = (7,(b.spillX s).setX (b.spillX s).x.dBarrier):=by rw [he.out,if_neg (by rw [hE0];decide),if_pos HB.out.symm]
     subst he2
     go_wp2_with fail
     refine bodyPost_ret (v:=.int .i64 7) (by simp [results,results163,go_sem];done) rfl ⟨rfl,col3,⟨A,_,vw,h3⟩,ex3⟩
    | true =>
     have he2 : Er = (((b.spillX s).setX (b.spillX s).x.dBarrier).drops s).commit:=by rw [he.out,if_neg (by rw [hE0];decide),if_neg (by rw [← HB.out];decide)]
     subst he2
     have f3:=fs.dBarrier
     have CD:=qHJ (b:=(b.spillX s).setX (b.spillX s).x.dBarrier) h3 s (by show s < (b.spillX s).c.now.length;rw [hnow.out.1];exact hs) (by show (b.spillX s).c.age.q.length ≤ 900;rw [hnow.out.2];exact hq9)
     have f4:=f3.drops s hs16
     obtain ⟨R,hR⟩ : ∃ y,y = (((b.spillX s).setX (b.spillX s).x.dBarrier).drops s).commit.1:=⟨_,rfl⟩
     have HR:=qh hR
     go_wp2_with fail
     refine CD.mono ?_
     rintro e w4 ⟨rfl,h4,e4⟩
     have CC:=qCQ h4 f4 (by omega)
     rw [← hR] at CC
     clear hR
     go_wp2_with fail
     refine CC.mono ?_
     rintro e w5 ⟨rfl,col5,h5,e5⟩
     go_wp2_with fail
     refine bodyPost_ret (v:=.int .i64 R) (by simp [results,results163,go_sem];done) rfl ⟨by rw [HR.out],col5,h5,(ex3.trans e4).trans e5⟩
  · have he2 : Er = (E1,b.spillX s):=by rw [he.out,if_pos hE0]
    subst he2
    go_wp2_with fail
    refine bodyPost_ret (v:=.int .i64 E1) (by simp [results,results163,go_sem];done) rfl ⟨rfl,col2,⟨A,_,vw,h2⟩,e2⟩
theorem qN8 {col : Nat → Nat} {w : World} {P : qAQ} {M C : Nat} {b : Bx} (h : qCG col w P M C b) {m : Nat} (f : b.fine m) (hm : m ≤ 40000)
 (hev : ∀ c,c = b.commit.2 → b.c.free = none → b.commit.1 = 0 → c.c.free = none → c.x.p.gone = false ∧ 0 < c.c.age.q.length ∧ c.c.age.q.length ≤ 900 ∧ c.oldest < c.c.now.length ∧ ((c.leaf c.oldest).dirty = true → (c.leaf c.oldest).kind ≠ 0)) :
 Calls prog 124 #[.pointer (some ⟨C,0,none⟩)] w fun e w'=>e = .returned (.int .i64 b.room.1) ∧ qG5 col w P M C b.room.2 w':=by
 obtain ⟨A,vn,vw,h0⟩:=h
 have hn16:=qAm f.x.ok.sl
 have hnl:=f.nl
 have hwl:=f.wl
 have CF:=qF4 h0 (by omega) (by omega) (by omega)
 have CC:=qCQ h0 f (by omega)
 have fc:=f.commit
 have hnl2:=fc.nl
 have hwl2:=fc.wl
 have hn2 : b.commit.2.x.n = b.x.n:=qCA
 obtain ⟨R,hR⟩ : ∃ y,y = b.room:=⟨_,rfl⟩
 rw [← hR]
 have HR:=qh hR
 obtain ⟨o,ho⟩ : ∃ o,o = b.c.free:=⟨_,rfl⟩
 rw [← ho] at CF hev
 have HO:=qh ho
 obtain ⟨c,hc⟩ : ∃ c,c = b.commit.2:=⟨_,rfl⟩
 obtain ⟨E,hE⟩ : ∃ E,E = b.commit.1:=⟨_,rfl⟩
 have CF2 : ∀ {col' : Nat → Nat} {w' : World} {A' : Nat} {vn' vw' : Value},qBh col' w' P M C A' vn' vw' c → Calls prog 120 #[.pointer (some ⟨C,0,none⟩)] w' fun e w''=>e = .returned (.int .i64 (qDw c.c.free)) ∧ w' = w'':=fun h'=>qF4 h' (by rw [hc,hnl2,hn2];omega) (by rw [hc,hwl2,hnl2]) (by rw [hc,hnl2,hn2];omega)
 have hev2:=hev c hc
 rw [← hE] at CC hev2
 rw [← hc] at CC fc
 have HE:=qh hE
 have HC:=qh hc
 replace hev2:=qh hev2
 clear hn16 hnl hwl hnl2 hwl2 hn2 hR ho hE hc hev
 cases o with
 | some s =>
  have hr : R = (0,b):=by rw [HR.out];unfold Bx.room;rw [← HO.out];rfl
  subst hr
  unfold qDw at CF
  simp only at CF
  have i1 : (0 : Int) ≤ (s : Int):=by omega
  go_enter func124,ntmps124
  go_wp2_with fail
  refine CF.mono ?_
  rintro e w1 ⟨rfl,rfl⟩
  go_wp2_with fail
  refine bodyPost_ret (v:=.int .i64 0) (by simp [results,results124,go_sem];done) rfl ⟨rfl,col,⟨A,vn,vw,h0⟩,Ext.refl h0.top⟩
 | none =>
  unfold qDw at CF
  simp only at CF
  have hr0 : R = if E ≠ 0 then (E,c) else if c.c.free.isSome then (0,c) else c.evict:=by
   rw [HR.out];unfold Bx.room;rw [← HO.out,HE.out,HC.out];rfl
  replace hr0:=qh hr0
  go_enter func124,ntmps124
  go_wp2_with fail
  refine CF.mono ?_
  rintro e w1 ⟨rfl,rfl⟩
  go_wp2_with fail
  refine CC.mono ?_
  rintro e w2 ⟨rfl,col2,hc2,e2⟩
  by_cases h0E : E = 0
  · obtain ⟨A2,vn2,vw2,hc3⟩:=hc2
    have CF3:=CF2 hc3
    cases hfr : c.c.free with
    | some s =>
     have hr : R = (0,c):=by rw [hr0.out,if_neg (by rw [h0E];decide),hfr];rfl
     subst hr
     rw [hfr] at CF3
     unfold qDw at CF3
     simp only at CF3
     have i1 : (0 : Int) ≤ (s : Int):=by omega
     clear CF2 hfr
     go_wp2_with fail
     refine CF3.mono ?_
     rintro e w3 ⟨rfl,rfl⟩
     go_wp2_with fail
     refine bodyPost_ret (v:=.int .i64 0) (by simp [results,results124,go_sem];done) rfl ⟨rfl,col2,⟨A2,vn2,vw2,hc3⟩,e2⟩
    | none =>
     have hr : R = c.evict:=by rw [hr0.out,if_neg (by rw [h0E];decide),hfr];rfl
     subst hr
     obtain ⟨g1,g3,g4,g5,g6⟩:=hev2.out trivial h0E hfr
     have CE:=qOM ⟨A2,vn2,vw2,hc3⟩ fc (by omega) g1 g3 g4 g5 g6
     rw [hfr] at CF3
     unfold qDw at CF3
     simp only at CF3
     obtain ⟨V,hV⟩ : ∃ V,V = c.evict.1:=⟨_,rfl⟩
     rw [← hV] at CE
     have HV:=qh hV
     clear CF2 hfr hV g1 g3 g4 g5 g6
     go_wp2_with fail
     refine CF3.mono ?_
     rintro e w3 ⟨rfl,rfl⟩
     go_wp2_with fail
     refine CE.mono ?_
     rintro e w4 ⟨rfl,col4,h4,e4⟩
     go_wp2_with fail
     refine bodyPost_ret (v:=.int .i64 V) (by simp [results,results124,go_sem];done) rfl ⟨by rw [HV.out],col4,h4,e2.trans e4⟩
  · have hr : R = (E,c):=by rw [hr0.out,if_pos h0E]
    subst hr
    clear CF2
    go_wp2_with fail
    refine bodyPost_ret (v:=.int .i64 E) (by simp [results,results124,go_sem];done) rfl ⟨rfl,col2,hc2,e2⟩
def Bx.forget (b : Bx) : Int × Bx :=
 if b.commit.1 ≠ 0 then b.commit
 else (if b.commit.2.x.p.spend.1 then 0 else 7,b.commit.2.setX (b.commit.2.x.kErase (qAi b.commit.2.x.eps)))
theorem qIB {col : Nat → Nat} {w : World} {P : qAQ} {M C : Nat} {b : Bx} (h : qCG col w P M C b) {m : Nat} (f : b.fine m) (hm : m ≤ 40000) : Calls prog 75 #[.pointer (some ⟨C,0,none⟩)] w fun e w'=>e = .returned (.int .i64 b.forget.1) ∧ qG5 col w P M C b.forget.2 w':=by
 obtain ⟨A,vn,vw,h0⟩:=h
 have CC:=qCQ h0 f (by omega)
 have fc:=f.commit
 obtain ⟨R,hR⟩ : ∃ y,y = b.forget:=⟨_,rfl⟩
 rw [← hR]
 obtain ⟨c,hc⟩ : ∃ c,c = b.commit.2:=⟨_,rfl⟩
 obtain ⟨E,hE⟩ : ∃ E,E = b.commit.1:=⟨_,rfl⟩
 have hr0 : R = if E ≠ 0 then (E,c) else (if c.x.p.spend.1 then 0 else 7,c.setX (c.x.kErase (qAi c.x.eps))):=by rw [hR,hE,hc];rfl
 rw [← hE,← hc] at CC
 rw [← hc] at fc
 replace hr0:=qh hr0
 clear hR hE hc
 go_enter func75,ntmps75
 go_wp2_with fail
 refine CC.mono ?_
 rintro e w2 ⟨rfl,col2,⟨A2,vn2,vw2,h2⟩,e2⟩
 by_cases h0E : E = 0
 · have bC2:=h2.blk
   have bW2:=h2.wm.wd.blk
   obtain ⟨B,hB⟩ : ∃ B,B = c.x.p.spend.1:=⟨_,rfl⟩
   have hr : R = (if B then 0 else 7,c.setX (c.x.kErase (qAi c.x.eps))):=by rw [hr0.out,if_neg (by rw [h0E];decide),← hB]
   have HB:=qh hB
   replace hr:=qh hr
   clear hB
   go_wp2_with fail
   refine qAe (qA8 (fun k=>k < w2.heap.size ∧ (col2 k = 0 ∨ 6 < col2 k))) [(0,0),(1,0),(2,0),(3,0),(4,0),(5,0),(6,0),(7,0),(8,0),(9,0),(10,0),(11,0),(12,0),(13,0),(14,1),(15,1),(16,0)] (by kernel_rfl) (by kernel_rfl) ?_ ?_ ?_
   · exact fun _=>qA8.refl _
   · exact fun _ _ _ h1 h2=>h1.trans h2
   intro z1 hz1
   have bCz:=bC2.kept hz1
   have bWz:=bW2.kept hz1
   repeat
    refine qA0 _ rfl (fun K hK=>?_)
    first
     | (refine qqP (by rfl) ?_;apply Exists.intro;refine ⟨fun w' hw'=>?_,hK _ ?_⟩;(have q:=(hw'.block _ bCz.lt ⟨bC2.lt,.inr (by rw [h2.cC];decide)⟩).trans bCz;have q0:=Blk.cell q 0;clear q;have d:=(hw'.block _ bWz.lt ⟨bW2.lt,.inr (by rw [h2.wm.wd.cW];decide)⟩).trans bWz;have d5:=Blk.cell d 5;clear d;go_simp;first|done|rfl))
     | refine qqN (by rfl) (hK _ ?_)
    clear hK K;simp only [Act.put,qqB]
   refine qqH _ rfl (by rfl) (fun K hK=>?_)
   go_wp2_with fail
   refine (qKl (h2.wm.wd.kept hz1) fc.x.ok (by omega)).mono ?_
   rintro e z2 ⟨rfl,hk2⟩
   go_wp2
   refine hK _ _ (qA8.of_kept hk2) ?_
   clear hK K
   try simp only [Act.put,qqB]
   refine qqH _ rfl (by rfl) (fun K hK=>?_)
   go_wp2_with fail
   refine (qMC ((h2.wm.wd.kept hz1).kept hk2) fc.x.ok (by omega) (qAi c.x.eps)).mono ?_
   rintro e z3 ⟨rfl,col3,hx3,e3⟩
   rw [← HB.out]
   have S3:=e3.sameOn (w0:=w2) (col0:=col2) (fun k hk=>rfl)
   go_wp2
   refine hK _ _ (S3) ?_
   clear hK K
   try simp only [Act.put,qqB]
   repeat
    refine qA0 _ rfl (fun K hK=>?_)
    first
     | (refine qqP (by rfl) ?_;apply Exists.intro;refine ⟨fun w' hw'=>?_,hK _ ?_⟩;go_simp;first|done|rfl)
     | refine qqN (by rfl) (hK _ ?_)
    clear hK K;simp only [Act.put,qqB]
   refine qA7 ?_
   have h3:=((h2.kept hz1).kept hk2).world (((h2.wm.kept hz1).kept hk2).ext6 hx3 e3) (e3.mono (show 6 ≤ 8 by decide))
   have ex3:=(e2.trans (Ext.kept (m:=11) h2.top (hz1.of hk2))).trans (e3.mono (show 6 ≤ 11 by decide))
   cases B with
   | true =>
    go_wp2_with fail
    refine bodyPost_ret (v:=.int .i64 0) (by simp [results,results75,go_sem];done) rfl ⟨by rw [hr.out];rfl,col3,by rw [hr.out];exact ⟨A2,vn2,vw2,h3⟩,ex3⟩
   | false =>
    go_wp2_with fail
    refine bodyPost_ret (v:=.int .i64 7) (by simp [results,results75,go_sem];done) rfl ⟨by rw [hr.out];rfl,col3,by rw [hr.out];exact ⟨A2,vn2,vw2,h3⟩,ex3⟩
 · have hr : R = (E,c):=by rw [hr0.out,if_pos h0E]
   subst hr
   go_wp2_with fail
   refine bodyPost_ret (v:=.int .i64 E) (by simp [results,results75,go_sem];done) rfl ⟨rfl,col2,⟨A2,vn2,vw2,h2⟩,e2⟩
section
variable {col col' : Nat → Nat} {w w1 w' : World} {P : qAQ} {M C A : Nat} {vn vw : Value} {b : Bx}
theorem qBh.cell9 (h : qBh col w P M C A vn vw b) (hc : Chg [C] w w') : WM col w' P b.x M b.boot b.k ∧ w'.ownsRow 0 117 8 vn b.c.now.length (qAu b.c.now) ∧ w'.ownsRow 0 117 8 vw b.c.was.length (qAu b.c.was) ∧ qJM col w' A b.c.age ∧ Ext 11 col col w w':=by
 have e4 : Ext 11 col col w w':=⟨hc.os,hc.tape,hc.output,hc.size,fun _ _=>rfl,fun k hk=>by rw [h.top k hk];omega,fun k hk=>h.top k (Nat.le_trans hc.size hk),fun k hk hcc=>hc.block k hk (by rw [List.mem_singleton];intro e;rw [e,h.cC] at hcc;omega)⟩
 refine ⟨⟨h.wm.wd.chg hc (fun b hb=>by rw [List.mem_singleton] at hb;subst hb;rw [h.cC];exact .inr (by decide)),hc.blk h.wm.mkr (by rw [List.mem_singleton];intro e;have:=h.wm.cM;rw [e,h.cC] at this;cases this),h.wm.cM⟩,qAt h.now hc h.blk (by decide),qAt h.was hc h.blk (by decide),h.age.frame (e4.sameC 11 C h.cC hc (by decide)),e4⟩
theorem qBh.paint10 (h : qBh col w P M C A vn vw b) (hk : qA4 w w1) : qBh (qAj col 10 w w1) w1 P M C A vn vw b ∧ Ext 11 col (qAj col 10 w w1) w w1:=by
 refine ⟨⟨h.wm.paint hk (by decide),h.blk.kept hk,by rw [qAc h.blk.lt];exact h.cC,qA3 h.now hk,qA3 h.was hk,fun g hg=>?_,fun g hg=>?_,h.ne,h.age.frame (qAZ.paint hk)⟩,Ext.paint h.top hk (by decide)⟩
 · rw [qAc (qAo h.now hg)];exact h.cn g hg
 · rw [qAc (qAo h.was hg)];exact h.cw g hg
theorem qBh.rowNow (h : qBh col w P M C A vn vw b) (hk : qA4 w w1) {g n c : Nat} {ls : List Lf} (hr : w1.ownsRow w.heap.size 117 8 (.slice (some ⟨g,0,none⟩) n c) ls.length (qAu ls)) :
 qBh (qAj col 10 w w1) (w1.setCell ⟨C,2,none⟩ (.slice (some ⟨g,0,none⟩) n c)) P M C A (.slice (some ⟨g,0,none⟩) n c) vw ⟨b.x,b.boot,b.k,{ b.c with now:=ls }⟩ ∧ Ext 11 col (qAj col 10 w w1) w (w1.setCell ⟨C,2,none⟩ (.slice (some ⟨g,0,none⟩) n c)):=by
 obtain ⟨h1,e1⟩:=h.paint10 hk
 have hc : Chg [C] w1 (w1.setCell ⟨C,2,none⟩ (.slice (some ⟨g,0,none⟩) n c)):=(Chg.refl _ _).set qsm 2 _
 obtain ⟨p1,_,p3,p4,p5⟩:=h1.cell9 hc
 have b2:=h1.blk.set 2 (.slice (some ⟨g,0,none⟩) n c)
 simp only [qqA,qq0,qq1] at b2
 refine ⟨⟨p1,b2,h1.cC,qAg (qAt hr hc h1.blk (by decide)) (Nat.zero_le _),p3,fun k hk'=>qAl (qAM hr hk') (qAo hr hk'),h1.cw,fun k hk' e=>?_,p4⟩,e1.trans p5⟩
 have h3:=qAM hr hk'
 have h4:=qAo h.was e
 omega
theorem qBh.ageNew (h : qBh col w P M C A vn vw b) {A' : Nat} {a : Ag} (ha : qJM col' w1 A' a) (o : One 11 col col' w w1) : qBh col' (w1.setCell ⟨C,4,none⟩ (.pointer (some ⟨A',0,none⟩))) P M C A' vn vw ⟨b.x,b.boot,b.k,{ b.c with age:=a }⟩ ∧ Ext 11 col col' w (w1.setCell ⟨C,4,none⟩ (.pointer (some ⟨A',0,none⟩))):=by
 obtain ⟨b9,d9⟩:=(o.same (j:=9) (by omega)).blk h.blk h.cC
 have s10:=o.same (j:=10) (by omega)
 have hc : Chg [C] w1 (w1.setCell ⟨C,4,none⟩ (.pointer (some ⟨A',0,none⟩))):=(Chg.refl _ _).set qsm 4 _
 have hW:=h.wm.one o (by decide)
 have n1:=s10.own h.now h.cn
 have n2:=s10.own h.was h.cw
 have e4 : Ext 11 col' col' w1 (w1.setCell ⟨C,4,none⟩ (.pointer (some ⟨A',0,none⟩))):=⟨hc.os,hc.tape,hc.output,hc.size,fun _ _=>rfl,fun k hk=>by rw [hW.wd.top k hk];omega,fun k hk=>hW.wd.top k (Nat.le_trans hc.size hk),fun k hk hcc=>hc.block k hk (by rw [List.mem_singleton];intro e;rw [e,d9] at hcc;omega)⟩
 have b2:=b9.set 4 (.pointer (some ⟨A',0,none⟩))
 simp only [qqA,qq0,qq1] at b2
 refine ⟨⟨⟨hW.wd.chg hc (fun b hb=>by rw [List.mem_singleton] at hb;subst hb;rw [d9];exact .inr (by decide)),hc.blk hW.mkr (by rw [List.mem_singleton];intro e;have:=hW.cM;rw [e,d9] at this;cases this),hW.cM⟩,b2,d9,qAt n1 hc b9 (by decide),qAt n2 hc b9 (by decide),fun g hg=>s10.old g (qAo h.now hg) (h.cn g hg),fun g hg=>s10.old g (qAo h.was hg) (h.cw g hg),h.ne,ha.frame (e4.sameC 11 C d9 hc (by decide))⟩,(o.ext (by decide) (by decide)).trans e4⟩
end
theorem qCR {b : Bx} {m : Nat} (f : b.fine m) {s : Nat} (hd : (b.leaf s).dirty = true) : (b.leaf s).kind ≠ 0:=by
 intro hk
 unfold Bx.leaf at hd hk
 cases hs : b.c.now[s]? with
 | none=>rw [hs] at hd;cases hd
 | some y =>
  rw [hs] at hd hk
  have hl:=f.nok s y hs
  unfold qAR at hl
  simp only [Bool.and_eq_true] at hl
  have h2:=hl.2
  rw [if_pos (show y.kind = 0 from hk)] at h2
  have h3 : y = Lf.zero:=of_decide_eq_true h2
  rw [h3] at hd
  cases hd
def Bx.empF : Nat → Nat → Bx → Bool → Int × Bx × Bool
 | 0,_,b,d=>(0,b,d)
 | k + 1,s,b,d=>if (b.leaf s).dirty then (if b.spillE s ≠ 0 then (b.spillE s,b.spillX s,d) else Bx.empF k (s + 1) (b.spillX s) true) else Bx.empF k (s + 1) b d
def Ag.none : Ag:=⟨List.replicate 16 0,0,[]⟩
def Bx.clear (b : Bx) : Bx:=⟨b.x,b.boot,b.k,⟨List.replicate b.c.now.length Lf.zero,b.c.was,Ag.none,b.c.bad⟩⟩
def Bx.empD (b : Bx) (d : Bool) : Int × Bx:=if d && !b.x.p.spend.1 then (7,b.setX b.x.dBarrier) else (0,(if d then b.setX b.x.dBarrier else b).clear)
def Bx.empR (r : Int × Bx × Bool) : Int × Bx:=if r.1 ≠ 0 then (r.1,r.2.1) else r.2.1.empD r.2.2
def Bx.empty (b : Bx) : Int × Bx:=Bx.empR (Bx.empF b.c.now.length 0 b false)
theorem qB1 (b : Bx) (s : Nat) : (b.spillX s).c.now = b.c.now ∧ (b.spillX s).c.was = b.c.was ∧ (b.spillX s).c.age = b.c.age ∧ (b.spillX s).k = b.k ∧ (b.spillX s).boot = b.boot:=by
 unfold Bx.spillX;cases b.valD s <;> exact ⟨rfl,rfl,rfl,rfl,rfl⟩
theorem qON {b : Bx} {s : Nat} (h : b.spillE s = 0) : (b.spillX s).x.p.gone = false:=by
 unfold Bx.spillE at h
 unfold Bx.spillX
 cases hd : b.valD s with
 | none=>rw [hd] at h;cases h
 | some d =>
  rw [hd] at h
  unfold Bx.spE at h
  simp only at h
  split at h
  · rename_i h1
    unfold Wd.dOk at h1
    simp only [Bool.and_eq_true,Bool.not_eq_true'] at h1
    show (b.x.dPut _ d).p.gone = false
    unfold Wd.dPut
    rw [if_neg (by rw [h1.1];decide)]
    have e : ∀ y,(b.x.dWrite y).p = b.x.p.spend.2:=fun y=>by unfold Wd.dWrite Wd.setD Dk.wrote;split <;> rfl
    rw [e]
    exact (qHN h1.2).2
  · split at h <;> cases h
theorem Bx.fine.clear {b : Bx} {m : Nat} (f : b.fine m) : b.clear.fine m :=
 ⟨f.x,f.k,by show (List.replicate b.c.now.length Lf.zero).length = b.x.n;rw [List.length_replicate];exact f.nl,f.wl,fun s y hy=>by
  have h1 : (List.replicate b.c.now.length Lf.zero)[s]? = some y:=hy
  obtain ⟨h2,h3⟩:=List.getElem?_eq_some_iff.1 h1
  rw [List.getElem_replicate] at h3
  rw [List.length_replicate] at h2
  subst h3
  have:=f.nl
  have:=qAm f.x.ok.sl
  unfold qAR
  simp [Lf.zero]
  omega,f.wok⟩
theorem Bx.fine.empF {m : Nat} : ∀ (k s : Nat) (b : Bx) (d : Bool),b.fine m → k + s ≤ b.c.now.length → (Bx.empF k s b d).2.1.fine (m + k)
 | 0,_,_,_,f,_=>f
 | k + 1,s,b,d,f,h=>by
  unfold Bx.empF
  split
  · rename_i hd
    have fs:=f.spill (show s < b.c.now.length by omega) (qCR f hd)
    split
    · exact fs.up (by omega)
    · have:=Bx.fine.empF k (s + 1) (b.spillX s) true fs (by rw [(qB1 b s).1];omega)
      exact this.up (by omega)
  · exact (Bx.fine.empF k (s + 1) b d f (by omega)).up (by omega)
theorem Bx.fine.empty {b : Bx} {m : Nat} (f : b.fine m) : b.empty.2.fine (m + 17):=by
 have h1:=Bx.fine.empF b.c.now.length 0 b false f qle
 have h2:=f.nl
 have h3:=qAm f.x.ok.sl
 unfold Bx.empty Bx.empR
 split
 · exact h1.up (by omega)
 · unfold Bx.empD
   split
   · exact h1.dBarrier.up (by omega)
   · split
     · exact h1.dBarrier.clear.up (by omega)
     · exact h1.clear.up (by omega)
theorem qN9 {col : Nat → Nat} {w : World} {P : qAQ} {M C A : Nat} {vn vw : Value} {b : Bx} (h : qBh col w P M C A vn vw b) {N : Nat} (hn : b.c.now.length = N) (hN : N ≤ 100) (w3 : World) (A3 : Nat) (c3 : Nat → Nat) (ha : qJM c3 w3 A3 ⟨List.replicate 16 0,0,[]⟩) (o : One 11 (qAj col 10 w (w.alloc (.cells (qAu (List.replicate N Lf.zero)).toArray 117))) c3 ((w.alloc (.cells (qAu (List.replicate N Lf.zero)).toArray 117)).setCell ⟨C,2,none⟩ (.slice (some ⟨w.heap.size,0,none⟩) N N)) w3) :
 qCG c3 (w3.setCell ⟨C,4,none⟩ (.pointer (some ⟨A3,0,none⟩))) P M C b.clear ∧ Ext 11 col c3 w (w3.setCell ⟨C,4,none⟩ (.pointer (some ⟨A3,0,none⟩))):=by
 have hrow : (w.alloc (.cells (qAu (List.replicate N Lf.zero)).toArray 117)).ownsRow w.heap.size 117 8 (.slice (some ⟨w.heap.size,0,none⟩) N N) (List.replicate N Lf.zero).length (qAu (List.replicate N Lf.zero)):=by
  have:=qF0 w (List.replicate N Lf.zero) N (by simp) (by unfold maxLen;omega)
  rw [List.length_replicate]
  exact this
 obtain ⟨h4,e4⟩:=h.rowNow (qal _) hrow
 obtain ⟨h5,e5⟩:=h4.ageNew ha o
 refine ⟨⟨A3,.slice (some ⟨w.heap.size,0,none⟩) N N,vw,?_⟩,e4.trans e5⟩
 subst hn
 exact h5
theorem qIC {col : Nat → Nat} {w : World} {P : qAQ} {M C A : Nat} {vn vw : Value} {b : Bx} (h : qBh col w P M C A vn vw b) {N : Nat} (hN : N ≤ 100) : Top (qAj col 10 w (w.alloc (.cells (qAu (List.replicate N Lf.zero)).toArray 117))) ((w.alloc (.cells (qAu (List.replicate N Lf.zero)).toArray 117)).setCell ⟨C,2,none⟩ (.slice (some ⟨w.heap.size,0,none⟩) N N)) ∧ qAj col 10 w (w.alloc (.cells (qAu (List.replicate N Lf.zero)).toArray 117)) C = 9:=by
 have hrow : (w.alloc (.cells (qAu (List.replicate N Lf.zero)).toArray 117)).ownsRow w.heap.size 117 8 (.slice (some ⟨w.heap.size,0,none⟩) N N) (List.replicate N Lf.zero).length (qAu (List.replicate N Lf.zero)):=by
  have:=qF0 w (List.replicate N Lf.zero) N (by simp) (by unfold maxLen;omega)
  rw [List.length_replicate]
  exact this
 obtain ⟨h4,e4⟩:=h.rowNow (qal _) hrow
 exact ⟨h4.top,h4.cC⟩
theorem qKz {col : Nat → Nat} {w : World} {P : qAQ} {M C : Nat} {b : Bx} (h : qCG col w P M C b) {m : Nat} (f : b.fine m) (hm : m ≤ 40000) (hg : b.x.p.gone = false) : Calls prog 74 #[.pointer (some ⟨C,0,none⟩)] w fun e w'=>e = .returned (.int .i64 b.empty.1) ∧ qG5 col w P M C b.empty.2 w':=by
 obtain ⟨A,vn,vw,h0⟩:=h
 have hn16:=qAm f.x.ok.sl
 have hnl:=f.nl
 obtain ⟨g1,c1,hv1⟩:=qAx h0.now (by omega)
 subst hv1
 have bC:=h0.blk
 have q2:=bC.cell 2
 obtain ⟨N,hN⟩ : ∃ N,N = b.c.now.length:=⟨_,rfl⟩
 rw [← hN] at q2 h0
 obtain ⟨R,hR⟩ : ∃ R,R = b.empty:=⟨_,rfl⟩
 have hr0 : R = Bx.empR (Bx.empF N 0 b false):=by rw [hR,hN];rfl
 rw [← hR]
 have hN16 : N ≤ 16:=by omega
 have HN:=qh hN
 replace hr0:=qh hr0
 clear hnl hn16 hR hN bC
 go_enter func74,ntmps74
 go_wp2_with fail
 clear q2
 go_loopw [12,3] (fun i d wr=>∃ (k : Nat) (bk : Bx) (dk : Bool) (ck : Nat → Nat),i = .int .i64 k ∧ d = .bool dk ∧ k ≤ N ∧ qBh ck wr P M C A (.slice (some ⟨g1,0,none⟩) N c1) vw bk ∧ Ext 11 col ck w wr ∧ bk.fine (m + k) ∧ bk.c.now.length = N ∧ bk.x.p.gone = false ∧ R = Bx.empR (Bx.empF (N - k) k bk dk)) (fun i _ _=>N - (intOf i).toNat)
 case atStart=>exact ⟨0,b,false,col,rfl,rfl,by omega,h0,Ext.refl h0.top,f,HN.out.symm,hg,hr0.out⟩
 case round =>
  obtain ⟨k,bk,dk,ck,rfl,rfl,hk,hb,eb,fk,hnow,hgk,hrk⟩:=hrel
  replace hrk:=qh hrk
  by_cases hlt : k < N
  · have m1 : (k : Int) < (N : Int):=by omega
    have m2 : (0 : Int) ≤ (k : Int):=by omega
    have hkl : k < bk.c.now.length:=by rw [hnow];exact hlt
    obtain ⟨y,hy⟩ : ∃ y,y = bk.c.now[k]:=⟨_,rfl⟩
    have hky : bk.c.now[k]? = some y:=by rw [List.getElem?_eq_getElem hkl,hy]
    have hyl : bk.leaf k = y:=by unfold Bx.leaf;rw [hky];rfl
    have hrow:=hb.now
    rw [hnow] at hrow
    have hw:=qBP hrow k y hky
    replace hnow:=qh hnow
    have d0 : wr.cell? ⟨g1,k * 8,none⟩ = some (.int .i64 y.kind):=hw 0 _ rfl
    have d1 : wr.cell? ⟨g1,k * 8 + 1,none⟩ = some (.bool y.dirty):=hw 1 _ rfl
    have d2 : wr.cell? ⟨g1,k * 8 + 2,none⟩ = some (.int .i64 y.lba):=hw 2 _ rfl
    have d3 : wr.cell? ⟨g1,k * 8 + 3,none⟩ = some (W y.ep):=hw 3 _ rfl
    have d4 : wr.cell? ⟨g1,k * 8 + 4,none⟩ = some (W y.sl):=hw 4 _ rfl
    have d5 : wr.cell? ⟨g1,k * 8 + 5,none⟩ = some (U y.ver):=hw 5 _ rfl
    have d6 : wr.cell? ⟨g1,k * 8 + 6,none⟩ = some (U y.tag.1):=hw 6 _ rfl
    have d7 : wr.cell? ⟨g1,k * 8 + 7,none⟩ = some (U y.tag.2):=hw 7 _ rfl
    have hkA : qA4 wr (wr.alloc (.cells #[.int .i64 y.kind,.bool y.dirty,.int .i64 y.lba,W y.ep,W y.sl,U y.ver,U y.tag.1,U y.tag.2] 117)):=qal _
    have hbA:=hb.kept hkA
    have ebA:=eb.trans (Ext.kept (m:=11) hb.top hkA)
    have hst : Bx.empF (N - k) k bk dk = if y.dirty then (if bk.spillE k ≠ 0 then (bk.spillE k,bk.spillX k,dk) else Bx.empF (N - (k + 1)) (k + 1) (bk.spillX k) true) else Bx.empF (N - (k + 1)) (k + 1) bk dk:=by
     rw [show N - k = (N - (k + 1)) + 1 by omega]
     conv=>lhs;unfold Bx.empF
     rw [hyl]
    replace hst:=qh hst
    have HYL:=qh hyl
    have HKY:=qh hky
    clear hy hyl hky hw hb hrow
    cases hd : y.dirty with
    | false =>
     rw [hd] at d1 hbA ebA
     have hnx : Bx.empF (N - k) k bk dk = Bx.empF (N - (k + 1)) (k + 1) bk dk:=by rw [hst.out,if_neg (by rw [hd];decide)]
     replace hnx:=qh hnx
     clear hkA
     go_wp2_with fail
     exact ⟨⟨k + 1,bk,dk,ck,rfl,rfl,by omega,hbA,ebA,fk.up (by omega),hnow.out,hgk,by rw [hrk.out,hnx.out]⟩,by simp [intOf];omega⟩
    | true =>
     have hdl : (bk.leaf k).dirty = true:=by rw [HYL.out];exact hd
     rw [hd] at d1 hbA ebA
     have hk1:=qCR fk hdl
     have CS:=qKy hbA fk (by omega) hgk k hkl hk1
     have fs:=fk.spill hkl hk1
     obtain ⟨E,hE⟩ : ∃ E,E = bk.spillE k:=⟨_,rfl⟩
     rw [← hE] at CS
     have HE:=qh hE
     clear hkA hE
     go_wp2_with fail
     refine CS.mono ?_
     rintro e w2 ⟨rfl,c2,h2,e2⟩
     by_cases hE0 : E = 0
     · have hon:=qON (b:=bk) (s:=k) (by rw [← HE.out];exact hE0)
       have hnx : Bx.empF (N - k) k bk dk = Bx.empF (N - (k + 1)) (k + 1) (bk.spillX k) true:=by rw [hst.out,if_pos hd,if_neg (by rw [← HE.out,hE0];decide)]
       replace hnx:=qh hnx
       go_wp2_with fail
       exact ⟨⟨k + 1,bk.spillX k,true,c2,rfl,rfl,by omega,h2,ebA.trans e2,fs,by rw [(qB1 bk k).1];exact hnow.out,hon,by rw [hrk.out,hnx.out]⟩,by simp [intOf];omega⟩
     · have hr : R = (E,bk.spillX k):=by
        rw [hrk.out,hst.out,if_pos hd,if_pos (by rw [← HE.out];exact hE0),← HE.out]
        unfold Bx.empR
        rw [if_pos hE0]
       subst hr
       go_wp2_with fail
       refine bodyPost_ret (v:=.int .i64 E) (by simp [results,results74,go_sem];done) rfl ⟨rfl,c2,⟨A,_,vw,h2⟩,ebA.trans e2⟩
  · have m3 : ¬ (k : Int) < (N : Int):=by omega
    have hr : R = bk.empD dk:=by
     rw [hrk.out,show N - k = 0 by omega]
     rfl
    replace hr:=qh hr
    obtain ⟨h2,hh2⟩ : ∃ h : Nat,h = 0:=⟨_,rfl⟩
    clear hh2 h2 hlt
    have bW:=hb.wm.wd.blk
    have bC:=hb.blk
    have FIN:=fun (bz : Bx) (cz : Nat → Nat) (wz : World) (hn : bz.c.now.length = N) (hz : qBh cz wz P M C A (.slice (some ⟨g1,0,none⟩) N c1) vw bz)=>qN9 hz hn (by omega)
    have hmk:=fun wx=>qG3 wx N (by omega)
    cases dk with
    | false =>
     have hr2 : R = (0,bk.clear):=by rw [hr.out];unfold Bx.empD;rfl
     subst hr2
     have fin:=FIN bk ck wr hnow hb
     have ct:=qIC hb (show N ≤ 100 by omega)
     replace hnow:=qh hnow
     clear FIN
     have x2:=bC.cell 2
     have bC1:=bC.kept (show qA4 wr (wr.alloc (.cells (qAu (List.replicate N Lf.zero)).toArray 117)) from qal _)
     have x2':=bC1.cell 2
     have y2:=bC1.free 2
     have bM:=bC1.set 2 (.slice (some ⟨wr.heap.size,0,none⟩) N N)
     go_wp2_with fail
     refine (qHI ct.1).mono ?_
     rintro e w3 ⟨A3,c3,rfl,ha,o,_,_⟩
     have b3:=((o.same (j:=9) (by decide)).blk bM ct.2).1
     have y4:=b3.free 4
     have x4:=b3.cell 4
     obtain ⟨h5,e5⟩:=fin w3 A3 c3 ha o
     go_wp2_with fail
     refine bodyPost_ret (v:=.int .i64 0) (by simp [results,results74,go_sem];done) rfl ⟨rfl,c3,h5,(eb).trans e5⟩
    | true =>
     have p0:=bC.cell 0
     have p3:=bW.cell 3
     have CB:=qFT hb.wm.wd fk.x.ok (by omega)
     have hr1 : R = if bk.x.p.spend.1 = false then (7,bk.setX bk.x.dBarrier) else (0,(bk.setX bk.x.dBarrier).clear):=by
      rw [hr.out];unfold Bx.empD;cases bk.x.p.spend.1 <;> rfl
     obtain ⟨B,hB⟩ : ∃ B,B = bk.x.p.spend.1:=⟨_,rfl⟩
     rw [← hB] at CB
     have HB:=qh hB
     replace hr1:=qh hr1
     replace hnow:=qh hnow
     clear hB
     go_wp2_with fail
     refine CB.mono ?_
     rintro e w4 ⟨rfl,c4,hW4,e4⟩
     have h4:=hb.world (hb.wm.ext6 hW4 e4) (e4.mono (show 6 ≤ 8 by decide))
     have ex4:=eb.trans (e4.mono (show 6 ≤ 11 by decide))
     clear p0 p3
     cases B with
     | false =>
      have hr2 : R = (7,bk.setX bk.x.dBarrier):=by rw [hr1.out,if_pos HB.out.symm]
      subst hr2
      go_wp2_with fail
      refine bodyPost_ret (v:=.int .i64 7) (by simp [results,results74,go_sem];done) rfl ⟨rfl,c4,⟨A,_,vw,h4⟩,ex4⟩
     | true =>
      have hr2 : R = (0,(bk.setX bk.x.dBarrier).clear):=by rw [hr1.out,if_neg (by rw [← HB.out];decide)]
      subst hr2
      have bC:=h4.blk
      have fin:=FIN (bk.setX bk.x.dBarrier) c4 w4 hnow.out h4
      have ct:=qIC h4 (show N ≤ 100 by omega)
      clear FIN
      have x2:=bC.cell 2
      have bC1:=bC.kept (show qA4 w4 (w4.alloc (.cells (qAu (List.replicate N Lf.zero)).toArray 117)) from qal _)
      have x2':=bC1.cell 2
      have y2:=bC1.free 2
      have bM:=bC1.set 2 (.slice (some ⟨w4.heap.size,0,none⟩) N N)
      go_wp2_with fail
      refine (qHI ct.1).mono ?_
      rintro e w3 ⟨A3,c3,rfl,ha,o,_,_⟩
      have b3:=((o.same (j:=9) (by decide)).blk bM ct.2).1
      have y4:=b3.free 4
      have x4:=b3.cell 4
      obtain ⟨h5,e5⟩:=fin w3 A3 c3 ha o
      go_wp2_with fail
      refine bodyPost_ret (v:=.int .i64 0) (by simp [results,results74,go_sem];done) rfl ⟨rfl,c3,h5,(ex4).trans e5⟩
def Bx.layN (b : Bx) (s : Nat) : Nn:=qNK (qAi b.x.eps) (s : Int) b.boot (b.k + 1)
def Bx.layS (b : Bx) (s : Nat) (lba : Int) (data : List UInt8) : List UInt8 × qAB:=b.x.l.sealP b.x.logK (b.layN s) (qCO lba) data
def Bx.layL (b : Bx) (s : Nat) (lba : Int) (data : List UInt8) : Wd:=b.x.setL (b.x.l.sealL b.x.logK (b.layN s) (qCO lba) data)
def Bx.layX (b : Bx) (s : Nat) (lba : Int) (data : List UInt8) : Wd:=(b.layL s lba data).sWrite ((gData b.x.n s : Nat),(b.layS s lba data).1)
def Bx.lay (b : Bx) (s : Nat) (lba : Int) (data : List UInt8) : Bx:=⟨b.layX s lba data,b.boot,b.k + 1,b.c⟩
def Bx.layF (b : Bx) (s : Nat) (lba : Int) (data : List UInt8) (dirty : Bool) : Lf:=⟨1,dirty,lba,(b.layN s).epoch,(b.layN s).slot,(b.layN s).version,(b.layS s lba data).2⟩
theorem qD4 (b : Bx) (s : Nat) (lba : Int) (data : List UInt8) : (b.layS s lba data).1.length = data.length:=Lk.sealP_length _ _ _ _ _
theorem qG9 (b : Bx) (s : Nat) (lba : Int) (data : List UInt8) (hs : s < b.x.n) (hd : data.length = 32) : inB (gSize b.x.n) ((gData b.x.n s : Nat),(b.layS s lba data).1):=by
 have:=qHM hs
 refine ⟨by omega,?_,?_⟩ <;> simp only [Int.toNat_natCast,qD4,hd] <;> omega
def Bx.layT (b : Bx) (s : Nat) (lba : Int) (data : List UInt8) (dirty : Bool) : Value:=if b.x.p.spend.1 then .tuple #[.int .i64 (s : Int),.agg (b.layF s lba data dirty).cells.toArray,.int .i64 0] else .tuple #[.int .i64 (-1),.agg Lf.zero.cells.toArray,.int .i64 7]
theorem qID {w : World} {M k : Nat} {boot : BitVec 64} {u : Value} {n : Nat} {bs : List UInt8} (hM : qJ6 w M boot k) (h : Sl w u n (qA1 bs)) : ∀ a c,u = .slice (some a) n c → 0 < (qA1 bs).length → a.block ≠ M:=fun a c e hl he=>by
 rcases h with ⟨h0,_⟩ | ⟨a2,c2,h1,h2,h3,h4⟩
 · rw [h0] at e;cases e
 · rw [h1] at e
   cases e
   have hb:=qCa bs 0 (by rw [qA6] at hl;exact hl)
   have:=h4 0 _ hb
   rw [Addr.add_zero'] at this
   have hsp:=World.cell?_spot this
   obtain ⟨b,off,sp⟩:=a
   simp only at he hsp
   subst he
   subst hsp
   have hM' : Blk w b #[U boot,.int .i64 k] 153:=hM
   rw [hM'.cell off] at this
   match off with
   | 0=>simp [V8,U] at this
   | 1=>simp [V8] at this
   | k + 2=>simp at this
theorem Sl.chg1 {w w3 w4 w5 : World} {v : Value} {M k : Nat} {boot : BitVec 64} {bs : List UInt8} {n : Nat} (h : Sl w v n (qA1 bs)) (hk : qA4 w w3) (hc : Chg [M] w3 w4) (hM : qJ6 w M boot k) (hk5 : qA4 w4 w5) : Sl w5 v n (qA1 bs) :=
 (Chg.sl (h.kept hk) hc fun a c e hl hm=>qID (Blk.kept hM hk : qJ6 w3 M boot k) (h.kept hk) a c e hl (List.mem_singleton.1 hm)).kept hk5
theorem qPm {col : Nat → Nat} {w : World} {P : qAQ} {M C A : Nat} {vn vw : Value} {b : Bx} (h : qBh col w P M C A vn vw b) {m : Nat} (f : b.fine m) (hm : m ≤ 60000) (hk100 : b.k < 100) (s : Nat) (hfr : b.c.free = some s) (lba : Int) (vd : Value) (data : List UInt8) (hdl : data.length = 32) (dirty : Bool) (sd : Sl w vd 32 (qA1 data)) :
 Calls prog 122 #[.pointer (some ⟨C,0,none⟩),.int .i64 lba,vd,.bool dirty] w fun e w'=>e = .returned (b.layT s lba data dirty) ∧ ∃ col',qBh col' w' P M C A vn vw (b.lay s lba data) ∧ Ext 11 col col' w w':=by
 obtain ⟨da,dc,rfl⟩:=sd.len
 have hn16:=qAm f.x.ok.sl
 have hnl:=f.nl
 have hwl:=f.wl
 have hkA : qA4 w (w.alloc (.cells #[.int .i64 0,.bool false,.int .i64 0,W 0#32,W 0#32,U 0#64,U 0#64,U 0#64] 117)):=qal _
 have bZ:=Blk.new w #[.int .i64 0,.bool false,.int .i64 0,W 0#32,W 0#32,U 0#64,U 0#64,U 0#64] 117
 have CF:=qF4 (h.kept hkA) (by omega) (by omega) (by omega)
 rw [hfr] at CF
 have hsN0 : s < b.c.now.length:=by
  have h1:=hfr
  unfold Ca.free at h1
  exact List.mem_range.1 (List.find?_range_eq_some.1 h1).2.1
 obtain ⟨N,hN⟩ : ∃ N,N = b.x.n:=⟨_,rfl⟩
 have HX : Hid (b.x.n = N):=qh hN.symm
 have hsN : s < N:=by omega
 have hsl : qDR (N : Int) = true:=by rw [hN];exact f.x.ok.sl
 have CG:=fun z=>qIg N hsl s hsN z
 have CHd:=fun z=>qKb lba z
 have q0:=(h.blk.kept hkA).cell 0
 have i3 : (s : Int) ≤ 65535:=by omega
 replace hdl:=qh hdl
 replace hsl:=qh hsl
 replace hsN0:=qh hsN0
 have HFR:=qh hfr
 clear hN hnl hwl hfr
 unfold qDw at CF
 simp only at CF
 go_enter func122,ntmps122
 go_wp2_with fail
 generalize (w.alloc (.cells #[.int .i64 0,.bool false,.int .i64 0,W 0#32,W 0#32,U 0#64,U 0#64,U 0#64] 117)) = wA at *
 refine CF.mono ?_
 rintro e w1 ⟨rfl,rfl⟩
 have CK:=qKq (h.wm.kept hkA).wd f.x (by omega)
 obtain ⟨ep,hep⟩ : ∃ y,y = qAi b.x.eps:=⟨_,rfl⟩
 obtain ⟨ky,hky⟩ : ∃ y,y = b.x.logK:=⟨_,rfl⟩
 rw [show qFO b.x.seed b.x.eps (qAi b.x.eps) = ky from hky.symm,← hep] at CK
 have HEP:=qh hep
 have HKY:=qh hky
 obtain ⟨ky1,ky2⟩:=ky
 clear hep hky
 go_wp2_with fail
 refine CK.mono ?_
 rintro e w2 ⟨rfl,hk2⟩
 have q0b:=(h.blk.kept (hkA.of hk2))
 clear q0
 unfold Pr
 have hk3 : qA4 w2 (w2.alloc (.cells #[U ky1,U ky2] 115)):=qal _
 have bK3:=Blk.new w2 #[U ky1,U ky2] 115
 have hkw3:=(hkA.of hk2).of hk3
 have q1:=(q0b.kept hk3).cell 1
 go_wp2_with fail
 obtain ⟨w3,hw3⟩ : ∃ y,y = (w2.alloc (.cells #[U ky1,U ky2] 115)):=⟨_,rfl⟩
 rw [← hw3] at hk3 bK3 hkw3 q1 ⊢
 clear hw3 q0b
 have hW3:=h.wm.kept hkw3
 have CM : Calls prog 159 #[.pointer (some ⟨M,0,none⟩),W ep,.int .i64 (s : Int)] w3 fun e w'=>e = .returned (.tuple #[(qNK ep (s : Int) b.boot (b.k + 1)).val,.int .i64 0]) ∧ qJ6 w' M b.boot (b.k + 1) ∧ Chg [M] w3 w':=qGE M b.boot b.k hk100 ep s (by omega) w3 hW3.mkr
 obtain ⟨n,hn⟩ : ∃ n,n = qNK ep (s : Int) b.boot (b.k + 1):=⟨_,rfl⟩
 have HNN : Hid (n = b.layN s):=qh (by unfold Bx.layN;rw [hn,HEP.out])
 rw [← hn] at CM
 clear hn
 obtain ⟨T,hT⟩ : ∃ t,t = b.x.l.sealP (ky1,ky2) n (qCO lba) data:=⟨_,rfl⟩
 have HTT : Hid (T = b.layS s lba data):=qh (by unfold Bx.layS;rw [hT,HKY.out,HNN.out])
 obtain ⟨SB,T1,T2⟩:=T
 have HSB : Hid (SB = (b.x.l.sealP (ky1,ky2) n (qCO lba) data).1):=qh (by rw [← hT])
 have HT1 : Hid (T1 = (b.x.l.sealP (ky1,ky2) n (qCO lba) data).2.1):=qh (by rw [← hT])
 have HT2 : Hid (T2 = (b.x.l.sealP (ky1,ky2) n (qCO lba) data).2.2):=qh (by rw [← hT])
 have hSBl : SB.length = 32:=by rw [HSB.out,Lk.sealP_length];exact hdl.out
 replace hSBl:=qh hSBl
 clear hT
 refine CM.mono ?_
 rintro e w4 ⟨rfl,hM4,hc4⟩
 obtain ⟨hW4,E4⟩:=hW3.next hM4 hc4
 unfold Nn.val
 have hk5 : qA4 w4 (w4.alloc (.cells #[W n.epoch,W n.slot,U n.version] 113)):=qal _
 have bN5:=Blk.new w4 #[W n.epoch,W n.slot,U n.version] 113
 clear q1
 go_wp2_with fail
 obtain ⟨w5,hw5⟩ : ∃ y,y = (w4.alloc (.cells #[W n.epoch,W n.slot,U n.version] 113)):=⟨_,rfl⟩
 rw [← hw5] at hk5 bN5 ⊢
 clear hw5
 have hW5:=hW4.kept hk5
 have E5 : Ext 8 col col w w5:=((Ext.kept h.top hkw3).trans E4).trans (Ext.kept hW4.wd.top hk5)
 have hkA1:=hkA.size
 have hz2s:=(hkA.of hk2).size
 have hw3s:=hkw3.size
 have hw4s:=E4.size
 have hcK : col w2.heap.size = 0:=h.top _ hz2s
 have hcN : col w4.heap.size = 0:=h.top _ (by omega)
 have hcZ : col w.heap.size = 0:=h.top _ qle
 have bK5:=(E4.blk0 bK3 hcK).1.kept hk5
 have bZ5:=(E4.blk0 (bZ.kept (hk2.of hk3)) hcZ).1.kept hk5
 have bC5:=(h.world hW5 E5).blk
 have hlt4 : w.heap.size < w4.heap.size:=by have h1:=bZ.lt;have h2:=hk2.size;have h3:=hk3.size;omega
 have hlt5 : w.heap.size < w5.heap.size:=Nat.lt_of_lt_of_le hlt4 hk5.size
 have sd5 : Sl w5 (.slice da 32 dc) 32 (qA1 data):=sd.chg1 (hkw3) hc4 h.wm.mkr hk5
 go_wp2_with fail
 refine qBW (qA8 (fun k=>k < w5.heap.size ∧ (col k = 0 ∨ 6 < col k))) [(0,0),(1,0),(2,0),(3,0),(4,0),(5,0),(6,0),(7,0),(8,0),(9,0),(11,0),(13,0),(14,0),(15,0),(18,0)] ((.light 0 (.light 1 (.light 2 (.light 3 (.light 4 (.light 5 (.light 6 (.light 7 (.light 8 (.light 9 (.light 11 (.two 10 16 (.two 12 16 (.light 13 (.light 14 (.light 15 (.heavy 16 (.heavy 17 (.light 18 .nil)))))) (.heavy 12 (.light 13 (.light 14 (.light 15 (.heavy 17 (.light 18 .nil))))))) (.heavy 10 (.heavy 12 (.light 13 (.light 14 (.light 15 (.heavy 17 (.light 18 .nil)))))))))))))))))))) (by kernel_rfl) (by kernel_rfl) (fun _=>qA8.refl _) (fun _ _ _ h1 h2=>h1.trans h2) ?_
 intro z0 hz0
 have hWc:=hW5.kept hz0
 have hWz:=hWc.wd.blk
 rw [HX.out] at hWz
 have bCz:=bC5.kept hz0
 have bKz:=bK5.kept hz0
 have bNz:=bN5.kept hz0
 have sdc:=sd5.kept hz0
 have Ec : Ext 8 col col w5 z0:=Ext.kept hW5.wd.top hz0
 have hw5:=E5.size
 have hzs:=hz0.size
 refine qA2 _ rfl (fun J hJ=>?_)
 refine qqP (by rfl) ?_;apply Exists.intro;refine ⟨fun w' hw'=>?_,hJ _ ?_⟩
 · go_simp;first|done|rfl
 clear hJ J;simp only [Act.put,qqB]
 refine qA2 _ rfl (fun J hJ=>?_)
 refine qqP (by rfl) ?_;apply Exists.intro;refine ⟨fun w' hw'=>?_,hJ _ ?_⟩
 · go_simp;first|done|rfl
 clear hJ J;simp only [Act.put,qqB]
 refine qA2 _ rfl (fun J hJ=>?_)
 refine qqP (by rfl) ?_;apply Exists.intro;refine ⟨fun w' hw'=>?_,hJ _ ?_⟩
 · go_simp;first|done|rfl
 clear hJ J;simp only [Act.put,qqB]
 refine qA2 _ rfl (fun J hJ=>?_)
 refine qqP (by rfl) ?_;apply Exists.intro;refine ⟨fun w' hw'=>?_,hJ _ ?_⟩
 · have c:=(hw'.block _ bCz.lt ⟨bC5.lt,.inr (by rw [h.cC];decide)⟩).trans bCz;have c0:=Blk.cell c 0;clear c;go_simp;first|done|rfl
 clear hJ J;simp only [Act.put,qqB]
 refine qA2 _ rfl (fun J hJ=>?_)
 refine qqP (by rfl) ?_;apply Exists.intro;refine ⟨fun w' hw'=>?_,hJ _ ?_⟩
 · go_simp;first|done|rfl
 clear hJ J;simp only [Act.put,qqB]
 refine qA2 _ rfl (fun J hJ=>?_)
 refine qqP (by rfl) ?_;apply Exists.intro;refine ⟨fun w' hw'=>?_,hJ _ ?_⟩
 · go_simp;first|done|rfl
 clear hJ J;simp only [Act.put,qqB]
 refine qA2 _ rfl (fun J hJ=>?_)
 refine qqP (by rfl) ?_;apply Exists.intro;refine ⟨fun w' hw'=>?_,hJ _ ?_⟩
 · have c:=(hw'.block _ hWz.lt ⟨hW5.wd.blk.lt,.inr (by rw [h.wm.wd.cW];decide)⟩).trans hWz;have c6:=Blk.cell c 6;clear c;go_simp;first|done|rfl
 clear hJ J;simp only [Act.put,qqB]
 refine qA2 _ rfl (fun J hJ=>?_)
 refine qqP (by rfl) ?_;apply Exists.intro;refine ⟨fun w' hw'=>?_,hJ _ ?_⟩
 · have c:=(hw'.block _ bKz.lt ⟨bK5.lt,.inl hcK⟩).trans bKz;have c0:=Blk.cell c 0;have c1:=Blk.cell c 1;clear c;go_simp;first|done|rfl
 clear hJ J;simp only [Act.put,qqB]
 refine qA2 _ rfl (fun J hJ=>?_)
 refine qqP (by rfl) ?_;apply Exists.intro;refine ⟨fun w' hw'=>?_,hJ _ ?_⟩
 · have c:=(hw'.block _ bNz.lt ⟨bN5.lt,.inl hcN⟩).trans bNz;have c0:=Blk.cell c 0;have c1:=Blk.cell c 1;have c2:=Blk.cell c 2;clear c;go_simp;first|done|rfl
 clear hJ J;simp only [Act.put,qqB]
 refine qA2 _ rfl (fun J hJ=>?_)
 refine qqP (by rfl) ?_;apply Exists.intro;refine ⟨fun w' hw'=>?_,hJ _ ?_⟩
 · go_simp;first|done|rfl
 clear hJ J;simp only [Act.put,qqB]
 refine qA2 _ rfl (fun J hJ=>?_)
 refine qqP (by rfl) ?_;apply Exists.intro;refine ⟨fun w' hw'=>?_,hJ _ ?_⟩
 · go_simp;first|done|rfl
 clear hJ J;simp only [Act.put,qqB]
 refine qBY ?_ ?_
 focus
  refine qAa _ rfl (fun J hJ=>?_)
  refine qqP (by rfl) ?_
  go_wp2_with fail
  refine (CHd z0).mono ?_
  rintro e y1 ⟨hv,rfl,oh,ka⟩
  obtain ⟨hha,hhc,rfl⟩:=(Sl.of_own oh).len
  go_wp2
  refine hJ _ _ (qA8.of_kept ka) ?_
  clear hJ J
  try simp only [Act.put,qqB]
  replace Ec:=Ec.trans (Ext.kept (m:=8) hWc.wd.top ka)
  replace hWc:=hWc.kept ka
  replace sdc:=sdc.kept ka
  have hy1:=ka.size
  clear ka
  refine qBY ?_ ?_
  focus
   refine qAa _ rfl (fun J hJ=>?_)
   refine qqP (by rfl) ?_
   go_wp2_with fail
   refine (qFV hWc.wd f.x (by omega) (ky1,ky2) n _ _ (qCO lba) data (by rw [qC3];omega) (by rw [hdl.out];omega) (by rw [qC3];exact Sl.of_own oh) (by rw [hdl.out];exact sdc)).mono ?_
   rintro e y2 ⟨u,col1,rfl,ou,hus,hxs,E6⟩
   obtain ⟨ua,uc,rfl⟩:=(Sl.of_own ou).len
   rw [hdl.out] at ou hus
   rw [← HT1.out,← HT2.out]
   rw [← HSB.out] at ou
   rw [hdl.out]
   have hW1:=hWc.ext6 hxs E6
   have S6:=E6.sameOn (w0:=w5) (col0:=col) (fun k hk=>rfl)
   replace Ec:=Ec.trans (E6.mono (show 6 ≤ 8 by decide))
   go_wp2
   refine hJ _ _ (S6) ?_
   clear hJ J
   try simp only [Act.put,qqB]
   have hy2:=E6.size
   refine qA2 _ rfl (fun J hJ=>?_)
   refine qqP (by rfl) ?_;apply Exists.intro;refine ⟨fun w' hw'=>?_,hJ _ ?_⟩
   · go_simp;first|done|rfl
   clear hJ J;simp only [Act.put,qqB]
   refine qA2 _ rfl (fun J hJ=>?_)
   refine qqP (by rfl) ?_;apply Exists.intro;refine ⟨fun w' hw'=>?_,hJ _ ?_⟩
   · go_simp;first|done|rfl
   clear hJ J;simp only [Act.put,qqB]
   refine qA2 _ rfl (fun J hJ=>?_)
   refine qqP (by rfl) ?_;apply Exists.intro;refine ⟨fun w' hw'=>?_,hJ _ ?_⟩
   · go_simp;first|done|rfl
   clear hJ J;simp only [Act.put,qqB]
   refine qAa _ rfl (fun J hJ=>?_)
   refine qqP (by rfl) ?_
   have kb : qA4 y2 (y2.alloc (.cells #[.slice none 0 0,U 0#64,U 0#64] 165)):=qal _
   have bS:=Blk.new y2 #[.slice none 0 0,U 0#64,U 0#64] 165
   obtain ⟨gs,hgs⟩ : ∃ g,g = y2.heap.size:=⟨_,rfl⟩
   rw [← hgs] at bS
   go_wp2
   refine hJ _ _ (qA8.of_kept kb) ?_
   clear hJ J
   try simp only [Act.put,qqB]
   rw [← hgs]
   have hgs1:=Nat.le_of_eq hgs
   have hgs2:=Nat.le_of_eq hgs.symm
   clear hgs
   generalize (y2.alloc (.cells #[.slice none 0 0,U 0#64,U 0#64] 165)) = y3 at *
   replace Ec:=Ec.trans (Ext.kept (m:=8) hW1.wd.top kb)
   replace hW1:=hW1.kept kb
   replace ou:=qA3 ou kb
   have hcgs : col1 gs = 0:=E6.top _ (by omega)
   have hy3:=kb.size
   clear kb
  rotate_left
  focus
   refine qAa _ rfl (fun J hJ=>?_)
   refine qqP (by rfl) ?_
   have kb : qA4 y1 (y1.alloc (.cells #[.slice none 0 0,U 0#64,U 0#64] 165)):=qal _
   have bS:=Blk.new y1 #[.slice none 0 0,U 0#64,U 0#64] 165
   obtain ⟨gs,hgs⟩ : ∃ g,g = y1.heap.size:=⟨_,rfl⟩
   rw [← hgs] at bS
   go_wp2
   refine hJ _ _ (qA8.of_kept kb) ?_
   clear hJ J
   try simp only [Act.put,qqB]
   rw [← hgs]
   have hgs1:=Nat.le_of_eq hgs
   have hgs2:=Nat.le_of_eq hgs.symm
   clear hgs
   generalize (y1.alloc (.cells #[.slice none 0 0,U 0#64,U 0#64] 165)) = y2 at *
   replace Ec:=Ec.trans (Ext.kept (m:=8) hWc.wd.top kb)
   replace hWc:=hWc.kept kb
   replace sdc:=sdc.kept kb
   replace oh:=qA3 oh kb
   have hy2:=kb.size
   clear kb
   refine qAa _ rfl (fun J hJ=>?_)
   refine qqP (by rfl) ?_
   go_wp2_with fail
   refine (qFV hWc.wd f.x (by omega) (ky1,ky2) n _ _ (qCO lba) data (by rw [qC3];omega) (by rw [hdl.out];omega) (by rw [qC3];exact Sl.of_own oh) (by rw [hdl.out];exact sdc)).mono ?_
   rintro e y3 ⟨u,col1,rfl,ou,hus,hxs,E6⟩
   obtain ⟨ua,uc,rfl⟩:=(Sl.of_own ou).len
   rw [hdl.out] at ou hus
   rw [← HT1.out,← HT2.out]
   rw [← HSB.out] at ou
   rw [hdl.out]
   have hW1:=hWc.ext6 hxs E6
   have S6:=E6.sameOn (w0:=w5) (col0:=col) (fun k hk=>rfl)
   replace Ec:=Ec.trans (E6.mono (show 6 ≤ 8 by decide))
   go_wp2
   refine hJ _ _ (S6) ?_
   clear hJ J
   try simp only [Act.put,qqB]
   have hy3:=E6.size
   have hgl:=bS.lt
   replace bS:=(E6.blk0 bS (h.top _ (by omega))).1
   have hcgs : col1 gs = 0:=by rw [E6.old _ hgl];exact h.top _ (by omega)
   refine qA2 _ rfl (fun J hJ=>?_)
   refine qqP (by rfl) ?_;apply Exists.intro;refine ⟨fun w' hw'=>?_,hJ _ ?_⟩
   · go_simp;first|done|rfl
   clear hJ J;simp only [Act.put,qqB]
   refine qA2 _ rfl (fun J hJ=>?_)
   refine qqP (by rfl) ?_;apply Exists.intro;refine ⟨fun w' hw'=>?_,hJ _ ?_⟩
   · go_simp;first|done|rfl
   clear hJ J;simp only [Act.put,qqB]
   refine qA2 _ rfl (fun J hJ=>?_)
   refine qqP (by rfl) ?_;apply Exists.intro;refine ⟨fun w' hw'=>?_,hJ _ ?_⟩
   · go_simp;first|done|rfl
   clear hJ J;simp only [Act.put,qqB]
 rotate_left 2
 focus
  refine qAa _ rfl (fun J hJ=>?_)
  refine qqP (by rfl) ?_
  have kb : qA4 z0 (z0.alloc (.cells #[.slice none 0 0,U 0#64,U 0#64] 165)):=qal _
  have bS:=Blk.new z0 #[.slice none 0 0,U 0#64,U 0#64] 165
  obtain ⟨gs,hgs⟩ : ∃ g,g = z0.heap.size:=⟨_,rfl⟩
  rw [← hgs] at bS
  go_wp2
  refine hJ _ _ (qA8.of_kept kb) ?_
  clear hJ J
  try simp only [Act.put,qqB]
  rw [← hgs]
  have hgs1:=Nat.le_of_eq hgs
  have hgs2:=Nat.le_of_eq hgs.symm
  clear hgs
  generalize (z0.alloc (.cells #[.slice none 0 0,U 0#64,U 0#64] 165)) = y1 at *
  replace Ec:=Ec.trans (Ext.kept (m:=8) hWc.wd.top kb)
  replace hWc:=hWc.kept kb
  replace sdc:=sdc.kept kb
  have hy1:=kb.size
  clear kb
  refine qAa _ rfl (fun J hJ=>?_)
  refine qqP (by rfl) ?_
  go_wp2_with fail
  refine (CHd y1).mono ?_
  rintro e y2 ⟨hv,rfl,oh,ka⟩
  obtain ⟨hha,hhc,rfl⟩:=(Sl.of_own oh).len
  go_wp2
  refine hJ _ _ (qA8.of_kept ka) ?_
  clear hJ J
  try simp only [Act.put,qqB]
  replace Ec:=Ec.trans (Ext.kept (m:=8) hWc.wd.top ka)
  replace hWc:=hWc.kept ka
  replace sdc:=sdc.kept ka
  have hy2:=ka.size
  replace bS:=bS.kept ka
  clear ka
  refine qAa _ rfl (fun J hJ=>?_)
  refine qqP (by rfl) ?_
  go_wp2_with fail
  refine (qFV hWc.wd f.x (by omega) (ky1,ky2) n _ _ (qCO lba) data (by rw [qC3];omega) (by rw [hdl.out];omega) (by rw [qC3];exact Sl.of_own oh) (by rw [hdl.out];exact sdc)).mono ?_
  rintro e y3 ⟨u,col1,rfl,ou,hus,hxs,E6⟩
  obtain ⟨ua,uc,rfl⟩:=(Sl.of_own ou).len
  rw [hdl.out] at ou hus
  rw [← HT1.out,← HT2.out]
  rw [← HSB.out] at ou
  rw [hdl.out]
  have hW1:=hWc.ext6 hxs E6
  have S6:=E6.sameOn (w0:=w5) (col0:=col) (fun k hk=>rfl)
  replace Ec:=Ec.trans (E6.mono (show 6 ≤ 8 by decide))
  go_wp2
  refine hJ _ _ (S6) ?_
  clear hJ J
  try simp only [Act.put,qqB]
  have hy3:=E6.size
  have hgl:=bS.lt
  replace bS:=(E6.blk0 bS (h.top _ (by omega))).1
  have hcgs : col1 gs = 0:=by rw [E6.old _ hgl];exact h.top _ (by omega)
  refine qA2 _ rfl (fun J hJ=>?_)
  refine qqP (by rfl) ?_;apply Exists.intro;refine ⟨fun w' hw'=>?_,hJ _ ?_⟩
  · go_simp;first|done|rfl
  clear hJ J;simp only [Act.put,qqB]
  refine qA2 _ rfl (fun J hJ=>?_)
  refine qqP (by rfl) ?_;apply Exists.intro;refine ⟨fun w' hw'=>?_,hJ _ ?_⟩
  · go_simp;first|done|rfl
  clear hJ J;simp only [Act.put,qqB]
  refine qA2 _ rfl (fun J hJ=>?_)
  refine qqP (by rfl) ?_;apply Exists.intro;refine ⟨fun w' hw'=>?_,hJ _ ?_⟩
  · go_simp;first|done|rfl
  clear hJ J;simp only [Act.put,qqB]
 all_goals
  refine qAa _ rfl (fun J hJ=>?_)
  refine qqP (by rfl) ?_
  have f0:=bS.free 0
  have f1:=bS.free 1
  have f2:=bS.free 2
  have x0:=bS.cell 0
  have x1:=bS.cell 1
  have x2:=bS.cell 2
  have hcS : Chg [gs] y3 (((y3.setCell ⟨gs,0,none⟩ (.slice ua 32 uc)).setCell ⟨gs,1,none⟩ (U T1)).setCell ⟨gs,2,none⟩ (U T2)):=(((Chg.refl _ _).set qsm 0 _).set qsm 1 _).set qsm 2 _
  have bF:=((bS.set 0 (.slice ua 32 uc)).set 1 (U T1)).set 2 (U T2)
  simp only [qqA,qq0,qq1] at bF
  go_wp2
  refine hJ _ _ (qA8.of_chg hcS fun b hb hA=>by have h1:=hA.1;rw [List.mem_singleton.1 hb] at h1;omega) ?_
  clear hJ J
  try simp only [Act.put,qqB]
  clear f0 f1 f2 x0 x1 x2
  generalize (((y3.setCell ⟨gs,0,none⟩ (.slice ua 32 uc)).setCell ⟨gs,1,none⟩ (U T1)).setCell ⟨gs,2,none⟩ (U T2)) = zF at *
  have ouF:=qAt ou hcS bS (by decide)
  have hcg : col1 gs = 0:=hcgs
  have hWF : WM col1 zF P (b.layL s lba data) M b.boot (b.k + 1):=by
   have hx : b.layL s lba data = b.x.setL (b.x.l.sealL (ky1,ky2) n (qCO lba) data):=by unfold Bx.layL;rw [← HKY.out,← HNN.out]
   rw [hx]
   exact ⟨hW1.wd.chg hcS (fun b hb=>by rw [List.mem_singleton] at hb;subst hb;exact .inl hcg),hcS.blk hW1.mkr (by rw [List.mem_singleton];intro e;rw [← e,hW1.cM] at hcg;cases hcg),hW1.cM⟩
  have EF:=Ec.newset hcS (by omega)
  refine qA2 _ rfl (fun J hJ=>?_)
  refine qqP (by rfl) ?_;apply Exists.intro;refine ⟨fun w' hw'=>?_,hJ _ ?_⟩
  · go_simp;first|done|rfl
  clear hJ J;simp only [Act.put,qqB]
  refine qCS ?_
  have bNF:=(EF.blk0 bN5 hcN).1
  obtain ⟨bZF,hcZ1⟩:=EF.blk0 bZ5 hcZ
  have EE:=E5.trans EF
  have hCA:=h.world hWF EE
  have bCF:=hCA.blk
  have hC9:=hCA.cC
  have bWF:=hWF.wd.blk
  rw [show (b.layL s lba data).n = N from HX.out] at bWF
  have fL : (b.layL s lba data).fine (m + 1):=f.x.seal _ _ _ _ (by rw [hdl.out];omega)
  have hin : inB (gSize (b.layL s lba data).n) ((gData N s : Nat),SB):=by
   have:=qG9 b s lba data (by rw [HX.out];exact hsN) hdl.out
   rw [HX.out,← HTT.out] at this
   rw [show (b.layL s lba data).n = N from HX.out]
   exact this
  have hsl0 : ∀ a c,(Value.slice ua 32 uc) = .slice (some a) 32 c → 0 < (qA1 SB).length → col1 a.block = 0:=fun a c e hl=>by
   obtain ⟨gu,cu,e2⟩:=qAx ouF (by omega)
   rw [e2] at e
   cases e
   exact hus gu (by rw [e2];rfl)
  obtain ⟨B,hB⟩ : ∃ y,y = b.x.p.spend.1:=⟨_,rfl⟩
  have HB:=qh hB
  clear hB
  go_wp2_with fail
  refine qAe (qA8 (fun k=>k < zF.heap.size ∧ (col1 k = 0 ∨ 6 < col1 k))) [(0,0),(1,0),(2,0),(3,0),(4,0),(5,0),(6,0),(7,0),(8,0),(9,0),(10,0),(11,0),(12,0),(13,0),(14,0),(16,0),(17,0),(15,1),(18,1),(19,0)] (by kernel_rfl) (by kernel_rfl) ?_ ?_ ?_
  · exact fun _=>qA8.refl _
  · exact fun _ _ _ h1 h2=>h1.trans h2
  intro v2 hv2
  have bCv:=bCF.kept hv2
  have bWv:=bWF.kept hv2
  have bFv:=bF.kept hv2
  repeat
   refine qA0 _ rfl (fun K hK=>?_)
   first
    | (refine qqP (by rfl) ?_;apply Exists.intro;refine ⟨fun w' hw'=>?_,hK _ ?_⟩;(have q:=(hw'.block _ bCv.lt ⟨bCF.lt,.inr (by rw [hC9];decide)⟩).trans bCv;have q0:=Blk.cell q 0;clear q;have c:=(hw'.block _ bWv.lt ⟨bWF.lt,.inr (by rw [hWF.wd.cW];decide)⟩).trans bWv;have c0:=Blk.cell c 0;have c2:=Blk.cell c 2;clear c;have d:=(hw'.block _ bFv.lt ⟨bF.lt,.inl hcg⟩).trans bFv;have s0:=Blk.cell d 0;clear d;go_simp;first|done|rfl))
    | refine qqN (by rfl) (hK _ ?_)
   clear hK K;simp only [Act.put,qqB]
  refine qqH _ rfl (by rfl) (fun K hK=>?_)
  go_wp2_with fail
  refine (CG v2).mono ?_
  rintro e v3 ⟨rfl,kv3⟩
  go_wp2
  refine hK _ _ (qA8.of_kept kv3) ?_
  clear hK K
  try simp only [Act.put,qqB]
  refine qqH _ rfl (by rfl) (fun K hK=>?_)
  go_wp2_with fail
  refine (qEw ((hWF.wd.kept hv2).kept kv3) fL.ok (by omega) (gData N s : Nat) _ SB hin (by rw [hSBl.out];exact Sl.of_own (qA3 (qA3 ouF hv2) kv3)) (fun a c e hl=>by rw [hSBl.out] at e;exact hsl0 a c e hl)).mono ?_
  rintro e v4 ⟨rfl,col3,hx4,E9⟩
  rw [show (b.layL s lba data).p.spend.1 = _ from HB.out.symm]
  have S9:=E9.sameOn (w0:=zF) (col0:=col1) (fun k hk=>rfl)
  go_wp2
  refine hK _ _ (S9) ?_
  clear hK K
  try simp only [Act.put,qqB]
  repeat
   refine qA0 _ rfl (fun K hK=>?_)
   first
    | (refine qqP (by rfl) ?_;apply Exists.intro;refine ⟨fun w' hw'=>?_,hK _ ?_⟩;go_simp;first|done|rfl)
    | refine qqN (by rfl) (hK _ ?_)
   clear hK K;simp only [Act.put,qqB]
  refine qA7 ?_
  replace hx4 : qAS col3 v4 P (b.layX s lba data):=by
   unfold Bx.layX
   rw [HX.out,← HTT.out]
   exact hx4
  have hWM:=hWF.ext6 hx4 ((Ext.kept (m:=6) hWF.wd.top (hv2.of kv3)).trans E9)
  have EN : Ext 8 col1 col3 zF v4:=((Ext.kept (m:=6) hWF.wd.top (hv2.of kv3)).trans E9).mono (show 6 ≤ 8 by decide)
  have EZ:=EE.trans EN
  have hCB:=h.world hWM EZ
  obtain ⟨hbz,hcz⟩:=EN.blk0 bZF hcZ1
  cases B with
  | false =>
   have g0:=hbz.free 0
   have x0:=hbz.cell 0
   have g1:=hbz.free 1
   have x1:=hbz.cell 1
   have g2:=hbz.free 2
   have x2:=hbz.cell 2
   have g3:=hbz.free 3
   have x3:=hbz.cell 3
   have g4:=hbz.free 4
   have x4:=hbz.cell 4
   have g5:=hbz.free 5
   have x5:=hbz.cell 5
   have g6:=hbz.free 6
   have x6:=hbz.cell 6
   have g7:=hbz.free 7
   have x7:=hbz.cell 7
   go_wp2_with fail
   have bE:=((((((((hbz).set 0 (.int .i64 0)).set 1 (.bool false)).set 2 (.int .i64 0)).set 3 (W 0#32)).set 4 (W 0#32)).set 5 (U 0#64)).set 6 (U 0#64)).set 7 (U 0#64)
   have hcE : Chg [w.heap.size] v4 ((((((((v4.setCell ⟨w.heap.size,0,none⟩ (.int .i64 0)).setCell ⟨w.heap.size,1,none⟩ (.bool false)).setCell ⟨w.heap.size,2,none⟩ (.int .i64 0)).setCell ⟨w.heap.size,3,none⟩ (W 0#32)).setCell ⟨w.heap.size,4,none⟩ (W 0#32)).setCell ⟨w.heap.size,5,none⟩ (U 0#64)).setCell ⟨w.heap.size,6,none⟩ (U 0#64)).setCell ⟨w.heap.size,7,none⟩ (U 0#64)):=((((((((Chg.refl _ _).set qsm 0 _).set qsm 1 _).set qsm 2 _).set qsm 3 _).set qsm 4 _).set qsm 5 _).set qsm 6 _).set qsm 7 _
   have r0:=bE.cell 0
   have r1:=bE.cell 1
   have r2:=bE.cell 2
   have r3:=bE.cell 3
   have r4:=bE.cell 4
   have r5:=bE.cell 5
   have r6:=bE.cell 6
   have r7:=bE.cell 7
   clear g0 x0 g1 x1 g2 x2 g3 x3 g4 x4 g5 x5 g6 x6 g7 x7
   generalize ((((((((v4.setCell ⟨w.heap.size,0,none⟩ (.int .i64 0)).setCell ⟨w.heap.size,1,none⟩ (.bool false)).setCell ⟨w.heap.size,2,none⟩ (.int .i64 0)).setCell ⟨w.heap.size,3,none⟩ (W 0#32)).setCell ⟨w.heap.size,4,none⟩ (W 0#32)).setCell ⟨w.heap.size,5,none⟩ (U 0#64)).setCell ⟨w.heap.size,6,none⟩ (U 0#64)).setCell ⟨w.heap.size,7,none⟩ (U 0#64)) = vE at *
   have hCE:=hCB.chg0 hcE hcz
   refine bodyPost_ret (v:=.tuple #[.int .i64 (-1),.agg #[.int .i64 0,.bool false,.int .i64 0,W 0#32,W 0#32,U 0#64,U 0#64,U 0#64],.int .i64 7]) (by simp [results,results122,go_sem,r0,r1,r2,r3,r4,r5,r6,r7];done) rfl ⟨?_,col3,hCE,(EZ.newset hcE qle).mono (by decide)⟩
   unfold Bx.layT
   rw [← HB.out]
   rfl
  | true =>
   have bN4:=(EN.blk0 bNF (EF.blk0 bN5 hcN).2).1
   have bF4:=(EN.blk0 bF hcg).1
   have hbz4:=hbz
   go_wp2_with fail
   refine qAf [w.heap.size] [(0,0),(1,0),(2,0),(3,0),(4,0),(5,0),(6,0),(7,0),(8,1),(9,0)] (by kernel_rfl) (by kernel_rfl) ?_
   intro z9 hz9
   repeat
    refine qA0 _ rfl (fun K hK=>?_)
    first
     | (refine qqP (by rfl) ?_;apply Exists.intro;refine ⟨fun w' hw'=>?_,hK _ ?_⟩;(have c:=hw'.blk (bN4.kept hz9) (by rw [List.mem_singleton];omega);have n0:=c.cell 0;have n1:=c.cell 1;have n2:=c.cell 2;clear c;have d:=hw'.blk (bF4.kept hz9) (by rw [List.mem_singleton];omega);have d1:=d.cell 1;have d2:=d.cell 2;clear d;go_simp;first|done|rfl))
     | refine qqN (by rfl) (hK _ ?_)
    clear hK K;simp only [Act.put,qqB]
   refine qqH _ rfl (by rfl) (fun K hK=>?_)
   have hbz:=hbz4.kept hz9
   have g0:=hbz.free 0
   have x0:=hbz.cell 0
   have g1:=hbz.free 1
   have x1:=hbz.cell 1
   have g2:=hbz.free 2
   have x2:=hbz.cell 2
   have g3:=hbz.free 3
   have x3:=hbz.cell 3
   have g4:=hbz.free 4
   have x4:=hbz.cell 4
   have g5:=hbz.free 5
   have x5:=hbz.cell 5
   have g6:=hbz.free 6
   have x6:=hbz.cell 6
   have g7:=hbz.free 7
   have x7:=hbz.cell 7
   go_wp2
   refine hK _ _ ((((((((((Chg.refl _ _).set qsm 0 _).set qsm 1 _).set qsm 2 _).set qsm 3 _).set qsm 4 _).set qsm 5 _).set qsm 6 _).set qsm 7 _ : Chg [w.heap.size] z9 ((((((((z9.setCell ⟨w.heap.size,0,none⟩ (.int .i64 1)).setCell ⟨w.heap.size,1,none⟩ (.bool dirty)).setCell ⟨w.heap.size,2,none⟩ (.int .i64 lba)).setCell ⟨w.heap.size,3,none⟩ (W n.epoch)).setCell ⟨w.heap.size,4,none⟩ (W n.slot)).setCell ⟨w.heap.size,5,none⟩ (U n.version)).setCell ⟨w.heap.size,6,none⟩ (U T1)).setCell ⟨w.heap.size,7,none⟩ (U T2)))) ?_
   clear hK K
   try simp only [Act.put,qqB]
   repeat
    refine qA0 _ rfl (fun K hK=>?_)
    first
     | (refine qqP (by rfl) ?_;apply Exists.intro;refine ⟨fun w' hw'=>?_,hK _ ?_⟩;go_simp;first|done|rfl)
     | refine qqN (by rfl) (hK _ ?_)
    clear hK K;simp only [Act.put,qqB]
   refine qA7 ?_
   have hbz:=hbz4.kept hz9
   have bE:=((((((((hbz).set 0 (.int .i64 1)).set 1 (.bool dirty)).set 2 (.int .i64 lba)).set 3 (W n.epoch)).set 4 (W n.slot)).set 5 (U n.version)).set 6 (U T1)).set 7 (U T2)
   have hcE : Chg [w.heap.size] z9 ((((((((z9.setCell ⟨w.heap.size,0,none⟩ (.int .i64 1)).setCell ⟨w.heap.size,1,none⟩ (.bool dirty)).setCell ⟨w.heap.size,2,none⟩ (.int .i64 lba)).setCell ⟨w.heap.size,3,none⟩ (W n.epoch)).setCell ⟨w.heap.size,4,none⟩ (W n.slot)).setCell ⟨w.heap.size,5,none⟩ (U n.version)).setCell ⟨w.heap.size,6,none⟩ (U T1)).setCell ⟨w.heap.size,7,none⟩ (U T2)):=((((((((Chg.refl _ _).set qsm 0 _).set qsm 1 _).set qsm 2 _).set qsm 3 _).set qsm 4 _).set qsm 5 _).set qsm 6 _).set qsm 7 _
   have r0:=bE.cell 0
   have r1:=bE.cell 1
   have r2:=bE.cell 2
   have r3:=bE.cell 3
   have r4:=bE.cell 4
   have r5:=bE.cell 5
   have r6:=bE.cell 6
   have r7:=bE.cell 7
   clear g0 x0 g1 x1 g2 x2 g3 x3 g4 x4 g5 x5 g6 x6 g7 x7
   generalize ((((((((z9.setCell ⟨w.heap.size,0,none⟩ (.int .i64 1)).setCell ⟨w.heap.size,1,none⟩ (.bool dirty)).setCell ⟨w.heap.size,2,none⟩ (.int .i64 lba)).setCell ⟨w.heap.size,3,none⟩ (W n.epoch)).setCell ⟨w.heap.size,4,none⟩ (W n.slot)).setCell ⟨w.heap.size,5,none⟩ (U n.version)).setCell ⟨w.heap.size,6,none⟩ (U T1)).setCell ⟨w.heap.size,7,none⟩ (U T2)) = zE at *
   go_wp2_with fail
   have hCE:=(hCB.kept hz9).chg0 hcE hcz
   refine bodyPost_ret (v:=.tuple #[.int .i64 (s : Int),.agg #[.int .i64 1,.bool dirty,.int .i64 lba,W n.epoch,W n.slot,U n.version,U T1,U T2],.int .i64 0]) (by simp [results,results122,go_sem,r0,r1,r2,r3,r4,r5,r6,r7];done) rfl ⟨?_,col3,hCE,((EZ.trans (Ext.kept (m:=8) hCB.top hz9)).newset hcE qle).mono (by decide)⟩
   unfold Bx.layT Bx.layF
   rw [← HB.out,← HNN.out,← HTT.out]
   rfl
structure Bx.good (b : Bx) (m : Nat) : Prop where
 f : b.fine m
 nd : b.c.age.q.Nodup
 mem : ∀ s,s ∈ b.c.age.q ↔ (b.leaf s).kind ≠ 0
 tk : b.c.age.ticks ≤ m
 ep : 0#32 < qAi b.x.eps
theorem qCH {b : Bx} {s : Nat} (h : (b.leaf s).kind ≠ 0) : s < b.c.now.length:=by
 unfold Bx.leaf at h
 cases hs : b.c.now[s]? with
 | none=>rw [hs] at h;exact absurd rfl h
 | some y=>exact (List.getElem?_eq_some_iff.1 hs).1
theorem qFD : ∀ (n : Nat) (l : List Nat),l.Nodup → (∀ x ∈ l,x < n) → l.length ≤ n
 | 0,l,_,hx=>by
  cases l with
  | nil=>exact Nat.le_refl _
  | cons a l=>exact absurd (hx a List.mem_cons_self) (by omega)
 | n + 1,l,hl,hx=>by
  by_cases h : n ∈ l
  · have h1:=qFD n (l.erase n) (hl.erase n) (fun x hm=>by
     have h2:=(hl.mem_erase_iff).1 hm
     have h3:=hx x h2.2
     have h4:=h2.1
     omega)
    have h2:=List.length_erase_of_mem h
    have h3:=List.length_pos_of_mem h
    omega
  · have:=qFD n l hl (fun x hm=>by
     have h3:=hx x hm
     have h4 : x ≠ n:=fun e=>h (e ▸ hm)
     omega)
    omega
section
variable {b : Bx} {m : Nat}
theorem Bx.good.up {k : Nat} (g : b.good m) (h : m ≤ k) : b.good k:=⟨g.f.up h,g.nd,g.mem,Nat.le_trans g.tk h,g.ep⟩
theorem Bx.good.n16 (g : b.good m) : b.c.now.length ≤ 16 ∧ 4 ≤ b.c.now.length:=by
 have h1:=g.f.nl
 have h2:=qAm g.f.x.ok.sl
 omega
theorem Bx.good.qlen (g : b.good m) : b.c.age.q.length ≤ 16 :=
 Nat.le_trans (qFD _ _ g.nd (fun x hx=>qCH ((g.mem x).1 hx))) g.n16.1
theorem Bx.good.old (g : b.good m) (h : 0 < b.c.age.q.length) : b.oldest < b.c.now.length ∧ (b.leaf b.oldest).kind ≠ 0:=by
 have h1 : b.oldest ∈ b.c.age.q:=by
  unfold Bx.oldest
  rw [List.getElem?_eq_getElem h]
  exact List.getElem_mem h
 have h2:=(g.mem _).1 h1
 exact ⟨qCH h2,h2⟩
theorem Bx.good.full (g : b.good m) (hf : b.c.free = none) (hw : b.c.was = b.c.now) : 0 < b.c.age.q.length:=by
 have h1:=List.find?_range_eq_none.1 hf 0 (by have:=g.n16.2;omega)
 unfold Ca.isFree at h1
 rw [hw] at h1
 have h2 : (b.leaf 0).kind ≠ 0:=by
  intro e
  unfold Bx.leaf at e
  rw [e] at h1
  exact absurd h1 (by decide)
 have:=(g.mem 0).2 h2
 exact List.length_pos_of_mem this
theorem qBq (b : Bx) : b.commit.2.c.now = b.c.now ∧ b.commit.2.c.age = b.c.age ∧ b.commit.2.c.bad = b.c.bad ∧ b.commit.2.boot = b.boot:=by
 unfold Bx.commit
 split <;> exact ⟨rfl,rfl,rfl,rfl⟩
theorem qCc {b : Bx} (h : b.commit.1 = 0) : b.commit.2.c.was = b.c.now:=by
 have h0 : (b.x.commit b.boot b.k b.c.now).1 = 0:=h
 unfold Bx.commit
 rw [if_pos h0]
theorem qDI {b c : Bx} (h : c.c.now = b.c.now) (s : Nat) : c.leaf s = b.leaf s:=by unfold Bx.leaf;rw [h]
theorem Bx.good.as {c : Bx} {k : Nat} (g : b.good m) (f : c.fine k) (h : m ≤ k) (hn : c.c.now = b.c.now) (ha : c.c.age = b.c.age) (he : qAi c.x.eps = qAi b.x.eps) : c.good k :=
 ⟨f,by rw [ha];exact g.nd,fun s=>by rw [ha,qDI hn];exact g.mem s,by rw [ha];exact Nat.le_trans g.tk h,by rw [he];exact g.ep⟩
theorem qJU {x : Wd} {boot : BitVec 64} {k : Nat} {ls : List Lf} : (x.commit boot k ls).2.1.eps = x.eps:=by
 unfold Wd.commit
 split
 · exact qCz.2.1
 split
 · exact qAE.2.1
 split
 · exact qAU.2.1
 split
 · exact qAU.2.1
 split
 · exact qAU.2.1
 · exact qAU.2.1
theorem qLC (b : Bx) : b.commit.2.x.eps = b.x.eps:=qJU
theorem qNa (b : Bx) (s : Nat) : (b.spillX s).x.eps = b.x.eps:=by
 unfold Bx.spillX
 cases b.valD s with
 | none=>rfl
 | some d =>
  show (b.x.dPut _ d).eps = _
  unfold Wd.dPut;split <;> rfl
theorem Bx.good.commit (g : b.good m) : b.commit.2.good (m + 39):=g.as g.f.commit (by omega) (qBq b).1 (qBq b).2.1 (by rw [qLC])
theorem qNb {x : Wd} {boot : BitVec 64} {k : Nat} {ls : List Lf} (h : (x.commit boot k ls).1 = 0) : (x.commit boot k ls).2.1.p.gone = false:=by
 unfold Wd.commit at h ⊢
 split at h
 · cases h
 split at h
 · cases h
 split at h
 · rename_i h1;exact absurd h h1
 split at h
 · cases h
 split at h
 · cases h
 rename_i h1 h2 h3 h4 h5
 rw [if_neg h1,if_neg h2,if_neg h3,if_neg h4,if_neg h5]
 have h6 : (x.commit4 boot k ls).p.spend.1 = true:=by simpa using h5
 have e : (x.commit5 boot k ls).p = (x.commit4 boot k ls).p.spend.2:=by
  unfold Wd.commit5 Wd.bump
  rfl
 rw [e]
 exact (qHN h6).2
theorem qFi {b : Bx} (h : b.commit.1 = 0) : b.commit.2.x.p.gone = false:=qNb h
theorem Bx.good.spill (g : b.good m) {s : Nat} (hk : (b.leaf s).kind ≠ 0) : (b.spillX s).good (m + 1):=g.as (g.f.spill (qCH hk) hk) (by omega) (qB1 b s).1 (qB1 b s).2.2.1 (by rw [qNa])
theorem Bx.good.dBarrier (g : b.good m) : (b.setX b.x.dBarrier).good (m + 1):=g.as g.f.dBarrier (by omega) rfl rfl rfl
theorem qEF (b : Bx) (s i : Nat) (l : Lf) : ((b.c.now.set s l)[i]?.getD Lf.zero) = if i = s ∧ s < b.c.now.length then l else b.leaf i:=by
 unfold Bx.leaf
 rw [List.getElem?_set]
 by_cases h : s = i
 · subst h
   by_cases hs : s < b.c.now.length
   · simp [hs]
   · simp [hs]
 · rw [if_neg h,if_neg (fun e=>h e.1.symm)]
theorem Bx.good.drops (g : b.good m) (s : Nat) (hs : s < b.c.now.length) : (b.drops s).good m:=by
 refine ⟨g.f.drops s (Nat.lt_of_lt_of_le hs g.n16.1),qGZ g.nd s,fun i=>?_,by show (b.c.age.drop s).ticks ≤ m;rw [qGY];exact g.tk,g.ep⟩
 show i ∈ (b.c.age.drop s).q ↔ ((b.c.now.set s Lf.zero)[i]?.getD Lf.zero).kind ≠ 0
 rw [qHK g.nd,qEF]
 by_cases h : i = s
 · subst h
   rw [if_pos ⟨rfl,hs⟩]
   constructor
   · intro e;exact absurd rfl e.2
   · intro e;exact absurd rfl e
 · rw [if_neg (fun e=>h e.1),g.mem i]
   exact ⟨fun e=>e.1,fun e=>⟨e,h⟩⟩
theorem Bx.fine.put1 (f : b.fine m) {s : Nat} {l : Lf} (hl : qAR l (s : Int) = true) : (b.put1 s l).fine m :=
 ⟨f.x,f.k,by show (b.c.now.set s l).length = _;rw [List.length_set];exact f.nl,f.wl,f.nok.set hl,f.wok⟩
theorem Bx.good.put1 (g : b.good m) (s : Nat) (hs : s < b.c.now.length) {l : Lf} (hl : qAR l (s : Int) = true) (hk : l.kind ≠ 0) : (b.put1 s l).good (m + 1):=by
 refine ⟨(g.f.put1 hl).up (by omega),qEc g.nd s,fun i=>?_,by show (b.c.age.touch s).ticks ≤ m + 1;rw [qEb];have:=g.tk;omega,g.ep⟩
 show i ∈ (b.c.age.touch s).q ↔ ((b.c.now.set s l)[i]?.getD Lf.zero).kind ≠ 0
 rw [qG8 g.nd,qEF]
 by_cases h : i = s
 · subst h
   rw [if_pos ⟨rfl,hs⟩]
   exact ⟨fun _=>hk,fun _=>.inl rfl⟩
 · rw [if_neg (fun e=>h e.1),g.mem i]
   exact ⟨fun e=>e.resolve_left h,.inr⟩
theorem qGa (b : Bx) (s : Nat) (l : Lf) : (b.put1 s l).c.now.length = b.c.now.length:=List.length_set
theorem Bx.good.puts (g : b.good m) (s : Nat) (hs : s < b.c.now.length) {l : Lf} (hl : qAR l (s : Int) = true) (hk : l.kind ≠ 0) : (b.puts s l).good (m + 1):=by
 unfold Bx.puts
 split
 · exact g.put1 s hs hl hk
 · rename_i o ho
   exact (g.put1 s hs hl hk).drops o (by rw [qGa];exact qHL ho)
theorem Bx.good.touch (g : b.good m) (s : Nat) (hk : (b.leaf s).kind ≠ 0) : (⟨b.x,b.boot,b.k,{ b.c with age:=b.c.age.touch s }⟩ : Bx).good (m + 1):=by
 refine ⟨⟨g.f.x.up (by omega),g.f.k,g.f.nl,g.f.wl,g.f.nok,g.f.wok⟩,qEc g.nd s,fun i=>?_,by show (b.c.age.touch s).ticks ≤ m + 1;rw [qEb];have:=g.tk;omega,g.ep⟩
 show i ∈ (b.c.age.touch s).q ↔ (b.leaf i).kind ≠ 0
 rw [qG8 g.nd,g.mem i]
 constructor
 · rintro (e | e)
   · rw [e];exact hk
   · exact e
 · exact .inr
theorem Bx.good.clear (g : b.good m) : b.clear.good m:=by
 refine ⟨g.f.clear,List.nodup_nil,fun i=>?_,Nat.zero_le _,g.ep⟩
 show i ∈ ([] : List Nat) ↔ ((List.replicate b.c.now.length Lf.zero)[i]?.getD Lf.zero).kind ≠ 0
 constructor
 · intro e;cases e
 · intro e
   exfalso
   apply e
   rw [List.getElem?_replicate]
   split <;> rfl
theorem Bx.good.empF : ∀ (k s : Nat) (b : Bx) (d : Bool) (m : Nat),b.good m → k + s ≤ b.c.now.length → (Bx.empF k s b d).2.1.good (m + k)
 | 0,_,_,_,_,g,_=>g
 | k + 1,s,b,d,m,g,h=>by
  unfold Bx.empF
  split
  · rename_i hd
    have gs:=g.spill (qCR g.f hd)
    split
    · exact gs.up (by omega)
    · have:=Bx.good.empF k (s + 1) (b.spillX s) true _ gs (by rw [(qB1 b s).1];omega)
      exact this.up (by omega)
  · exact (Bx.good.empF k (s + 1) b d m g (by omega)).up (by omega)
theorem Bx.good.empty (g : b.good m) : b.empty.2.good (m + 17):=by
 have h1:=Bx.good.empF b.c.now.length 0 b false m g qle
 have h2:=g.n16.1
 unfold Bx.empty Bx.empR
 split
 · exact h1.up (by omega)
 · unfold Bx.empD
   split
   · exact h1.dBarrier.up (by omega)
   · split
     · exact h1.dBarrier.clear.up (by omega)
     · exact h1.clear.up (by omega)
theorem Bx.good.evict (g : b.good m) (hq : 0 < b.c.age.q.length) : b.evict.2.good (m + 41):=by
 obtain ⟨h1,h2⟩:=g.old hq
 unfold Bx.evict
 split
 · split
   · exact (g.spill h2).up (by omega)
   · split
     · exact ((g.spill h2).dBarrier).up (by omega)
     · exact ((((g.spill h2).dBarrier).drops _ (by show _ < (b.spillX b.oldest).c.now.length;rw [(qB1 b _).1];exact h1)).commit).up (by omega)
 · exact ((g.drops _ h1).commit).up (by omega)
theorem Bx.good.room (g : b.good m) : b.room.2.good (m + 80):=by
 unfold Bx.room
 split
 · exact g.up (by omega)
 split
 · exact g.commit.up (by omega)
 split
 · exact g.commit.up (by omega)
 · rename_i h1 h2 h3
   have h4 : b.commit.1 = 0:=by omega
   exact (g.commit.evict (g.commit.full (by simpa using h3) (by rw [qCc h4,(qBq b).1]))).up (by omega)
theorem Bx.good.hev (g : b.good m) : ∀ c,c = b.commit.2 → b.c.free = none → b.commit.1 = 0 → c.c.free = none → c.x.p.gone = false ∧ 0 < c.c.age.q.length ∧ c.c.age.q.length ≤ 900 ∧ c.oldest < c.c.now.length ∧ ((c.leaf c.oldest).dirty = true → (c.leaf c.oldest).kind ≠ 0):=by
 rintro c rfl _ h1 h2
 have g2:=g.commit
 have hq:=g2.full h2 (by rw [qCc h1,(qBq b).1])
 exact ⟨qFi h1,hq,Nat.le_trans g2.qlen (by omega),(g2.old hq).1,fun _=>(g2.old hq).2⟩
theorem qLD {x : Wd} (h : 0 < x.eps.length) (e : BitVec 32) : qAi (x.kErase e).eps = qAi x.eps:=by
 show qAi (qPO x.p.spend.1 x.eps e) = _
 unfold qPO
 split
 · exact (qEP _ _ h).2
 · rfl
theorem Bx.good.forget (g : b.good m) : b.forget.2.good (m + 40):=by
 unfold Bx.forget
 split
 · exact g.commit.up (by omega)
 · exact g.commit.as ⟨g.commit.f.x.kErase _,g.commit.f.k,g.commit.f.nl,g.commit.f.wl,g.commit.f.nok,g.commit.f.wok⟩ (by omega) rfl rfl (qLD g.commit.f.x.ok.ep _)
theorem qOO {x : Wd} {m : Nat} (ok : x.ok m) (hm : m ≤ 1000000) (h : 0#32 < qAi x.eps) : 0#32 < qAi x.kAdd.eps:=by
 show 0#32 < qAi (qMl x.p.spend.1 x.eps)
 unfold qMl
 split
 · have h1:=ok.en
   unfold qAi at *
   rw [List.length_append]
   simp only [List.length_singleton,Nat.add_sub_cancel,List.getElem?_append_right qle,Nat.sub_self,List.getElem?_singleton,if_true,Option.getD_some]
   rw [BitVec.lt_def,BitVec.toNat_add]
   simp
   omega
 · exact h
theorem Bx.good.kAdd (g : b.good m) (hm : m ≤ 1000000) : (b.setX b.x.kAdd).good (m + 1) :=
 ⟨⟨g.f.x.kAdd hm,g.f.k,g.f.nl,g.f.wl,g.f.nok,g.f.wok⟩,g.nd,g.mem,Nat.le_trans g.tk (by omega),qOO g.f.x.ok hm g.ep⟩
def Bx.lays (b : Bx) (lba : Int) (data : List UInt8) (dirty : Bool) : Int × Bx :=
 if b.k = 100 then (6,b)
 else if b.x.p.spend.1 then (0,(b.lay (b.c.free.getD 0) lba data).puts (b.c.free.getD 0) (b.layF (b.c.free.getD 0) lba data dirty))
 else (7,b.lay (b.c.free.getD 0) lba data)
def Bx.write (b : Bx) (lba : Int) (data : List UInt8) : Int × Bx:=if b.room.1 ≠ 0 then b.room else b.room.2.lays lba data true
def Lf.nought (lba : Int) : Lf:=⟨2,true,lba,0#32,0#32,0#64,(0#64,0#64)⟩
def Bx.discard (b : Bx) (lba : Int) : Int × Bx:=if b.room.1 ≠ 0 then b.room else (0,b.room.2.puts (b.room.2.c.free.getD 0) (Lf.nought lba))
def Bx.touch (b : Bx) (s : Nat) : Bx:=⟨b.x,b.boot,b.k,{ b.c with age:=b.c.age.touch s }⟩
def Bx.readV (b : Bx) (s : Nat) : Option (List UInt8) → (Int × List UInt8) × Bx
 | none=>((3,[]),b.setBad)
 | some d=>((0,d),b.touch s)
def Bx.readN (_ : Bx) (d : List UInt8) (r : Int × Bx) : (Int × List UInt8) × Bx:=if r.1 ≠ 0 then ((r.1,[]),r.2) else ((0,d),r.2)
def Bx.readD (b : Bx) (lba : Int) (d : List UInt8) : (Int × List UInt8) × Bx :=
 if b.c.free.isNone || b.k == 100 then ((0,d),b) else b.readN d (b.lays lba d false)
def Bx.readS (b : Bx) (lba : Int) : Option Nat → (Int × List UInt8) × Bx
 | some s=>b.readV s (b.valD s)
 | none=>b.readD lba (b.x.dk.read lba.toNat)
def Bx.read (b : Bx) (lba : Int) : (Int × List UInt8) × Bx:=b.readS lba (b.c.slot lba)
def Bx.rotE (r : Int × Bx) : Int × Bx:=if r.1 ≠ 0 then r else if r.2.x.p.spend.1 = false then (7,r.2.setX r.2.x.kAdd) else (r.2.setX r.2.x.kAdd).forget
def Bx.rotate (b : Bx) : Int × Bx:=if b.commit.1 ≠ 0 then b.commit else Bx.rotE b.commit.2.empty
def Bx.finish (b : Bx) : Int × Bx:=if b.x.eps.length < 2 then (0,b) else if b.empty.1 ≠ 0 then b.empty else b.empty.2.forget
theorem qDx {c : Ca} {s : Nat} (h : c.free = some s) : s < c.now.length:=by
 unfold Ca.free at h
 exact List.mem_range.1 (List.find?_range_eq_some.1 h).2.1
theorem Bx.fine.lay {s : Nat} {lba : Int} {data : List UInt8} (f : b.fine m) (hs : s < b.c.now.length) (hd : data.length = 32) (hk : b.k < 100) : (b.lay s lba data).fine (m + 2):=by
 refine ⟨?_,by show b.k + 1 ≤ 100;omega,f.nl,f.wl,f.nok,f.wok⟩
 show (b.layX s lba data).fine _
 have h1:=f.nl
 exact (f.x.seal _ _ _ _ (by omega)).sWrite (qG9 b s lba data (by omega) hd)
theorem Bx.good.lay {s : Nat} {lba : Int} {data : List UInt8} (g : b.good m) (hs : s < b.c.now.length) (hd : data.length = 32) (hk : b.k < 100) : (b.lay s lba data).good (m + 2) :=
 g.as (g.f.lay hs hd hk) (by omega) rfl rfl rfl
theorem qQ4 {s : Nat} {lba : Int} {data : List UInt8} {dirty : Bool} (g : b.good m) (hs : s < b.c.now.length) (hl : isD lba = true) : qAR (b.layF s lba data dirty) (s : Int) = true:=by
 have h1:=g.n16.1
 have h2:=g.ep
 unfold isD at hl
 unfold qAR Bx.layF Bx.layN qNK qC4
 simp at hl ⊢
 exact ⟨by omega,hl,h2⟩
theorem qNc {s : Nat} {lba : Int} (hs : s < 16) (hl : isD lba = true) : qAR (Lf.nought lba) (s : Int) = true:=by
 unfold isD at hl
 unfold qAR Lf.nought qC4
 simp at hl ⊢
 exact ⟨by omega,hl⟩
theorem Bx.good.lays {lba : Int} {data : List UInt8} {dirty : Bool} (g : b.good m) (hf : b.c.free.isSome = true) (hd : data.length = 32) (hl : isD lba = true) : (b.lays lba data dirty).2.good (m + 3):=by
 obtain ⟨s,hs⟩:=Option.isSome_iff_exists.1 hf
 have hlt:=qDx hs
 unfold Bx.lays
 rw [hs]
 split
 · exact g.up (by omega)
 · rename_i hk
   have hk2:=g.f.k
   have g1:=g.lay (lba:=lba) hlt hd (by omega)
   split
   · exact g1.puts s hlt (qQ4 g hlt hl) (by show (1 : Int) ≠ 0;decide)
   · exact g1.up (by omega)
theorem qNd {c : Ca} {s : Nat} (hs : s < c.now.length) (h : c.isFree s = true) : c.free.isSome = true:=by
 unfold Ca.free
 rw [List.find?_isSome]
 exact ⟨s,List.mem_range.2 hs,h⟩
theorem qH0 {b : Bx} {s : Nat} (hs : s < b.c.now.length) (hE : (b.drops s).commit.1 = 0) : (b.drops s).commit.2.c.free.isSome = true:=by
 have hn : (b.drops s).commit.2.c.now = b.c.now.set s Lf.zero:=(qBq (b.drops s)).1
 have hw : (b.drops s).commit.2.c.was = b.c.now.set s Lf.zero:=qCc hE
 refine qNd (s:=s) (by rw [hn,List.length_set];exact hs) ?_
 unfold Ca.isFree
 rw [hn,hw]
 have : ((b.c.now.set s Lf.zero)[s]?.getD Lf.zero) = Lf.zero:=by rw [qEF,if_pos ⟨rfl,hs⟩]
 rw [this]
 rfl
theorem qLE (g : b.good m) (hq : 0 < b.c.age.q.length) (hE : b.evict.1 = 0) : b.evict.2.c.free.isSome = true:=by
 obtain ⟨h1,h2⟩:=g.old hq
 unfold Bx.evict at hE ⊢
 split
 · rename_i hd
   rw [if_pos hd] at hE
   split
   · rename_i h3
     rw [if_pos h3] at hE
     exact absurd hE h3
   · rename_i h3
     rw [if_neg h3] at hE
     split
     · rename_i h4
       rw [if_pos h4] at hE
       cases hE
     · rename_i h4
       rw [if_neg h4] at hE
       exact qH0 (by show _ < (b.spillX b.oldest).c.now.length;rw [(qB1 b _).1];exact h1) hE
 · rename_i hd
   rw [if_neg hd] at hE
   exact qH0 h1 hE
theorem qDy (g : b.good m) (hE : b.room.1 = 0) : b.room.2.c.free.isSome = true:=by
 unfold Bx.room at hE ⊢
 split
 · rename_i h;exact h
 · rename_i h
   rw [if_neg h] at hE
   split
   · rename_i h2
     rw [if_pos h2] at hE
     exact absurd hE h2
   · rename_i h2
     rw [if_neg h2] at hE
     split
     · rename_i h3;exact h3
     · rename_i h3
       rw [if_neg h3] at hE
       have h4 : b.commit.1 = 0:=by omega
       exact qLE g.commit (g.commit.full (by simpa using h3) (by rw [qCc h4,(qBq b).1])) hE
theorem Bx.good.write {lba : Int} {data : List UInt8} (g : b.good m) (hd : data.length = 32) (hl : isD lba = true) : (b.write lba data).2.good (m + 83):=by
 unfold Bx.write
 split
 · exact g.room.up (by omega)
 · rename_i h
   exact (g.room.lays (qDy g (by omega)) hd hl).up (by omega)
theorem Bx.good.discard {lba : Int} (g : b.good m) (hl : isD lba = true) : (b.discard lba).2.good (m + 81):=by
 unfold Bx.discard
 split
 · exact g.room.up (by omega)
 · rename_i h
   obtain ⟨s,hs⟩:=Option.isSome_iff_exists.1 (qDy g (by omega))
   have hlt:=qDx hs
   rw [hs]
   exact g.room.puts s hlt (qNc (Nat.lt_of_lt_of_le hlt g.room.n16.1) hl) (by show (2 : Int) ≠ 0;decide)
theorem qEG {lba : Int} {s : Nat} (h : b.c.slot lba = some s) : (b.leaf s).kind ≠ 0 ∧ (b.leaf s).lba = lba:=by
 unfold Ca.slot at h
 have h1:=(List.find?_range_eq_some.1 h).1
 simp only [Bool.and_eq_true,bne_iff_ne,ne_eq,beq_iff_eq] at h1
 exact h1
theorem Bx.good.bad (g : b.good m) : b.setBad.good m:=g.as g.f.setBad qle rfl rfl rfl
theorem Bx.good.read {lba : Int} (g : b.good m) (hl : isD lba = true) (hd : (b.x.dk.read lba.toNat).length = 32) : (b.read lba).2.good (m + 3):=by
 unfold Bx.read
 cases hs : b.c.slot lba with
 | some s =>
  show (b.readV s (b.valD s)).2.good _
  cases hv : b.valD s with
  | none=>exact g.bad.up (by omega)
  | some d=>exact (g.touch s (qEG hs).1).up (by omega)
 | none =>
  show (b.readD lba (b.x.dk.read lba.toNat)).2.good _
  unfold Bx.readD
  split
  · exact g.up (by omega)
  · rename_i h
    have hf : b.c.free.isSome = true:=by
     cases hh : b.c.free with
     | none=>rw [hh] at h;exact absurd rfl h
     | some s=>rfl
    unfold Bx.readN
    split
    · exact g.lays hf hd hl
    · exact g.lays hf hd hl
theorem Bx.good.rotE {r : Int × Bx} (g : r.2.good m) (hm : m ≤ 1000000) : (Bx.rotE r).2.good (m + 41):=by
 unfold Bx.rotE
 split
 · exact g.up (by omega)
 split
 · exact (g.kAdd hm).up (by omega)
 · exact (g.kAdd hm).forget.up (by omega)
theorem Bx.good.rotate (g : b.good m) (hm : m ≤ 900000) : b.rotate.2.good (m + 97):=by
 unfold Bx.rotate
 split
 · exact g.commit.up (by omega)
 · exact (g.commit.empty.rotE (by omega)).up (by omega)
theorem Bx.good.finish (g : b.good m) : b.finish.2.good (m + 57):=by
 unfold Bx.finish
 split
 · exact g.up (by omega)
 split
 · exact g.empty.up (by omega)
 · exact g.empty.forget.up (by omega)
end
theorem qNe {col : Nat → Nat} {w : World} {P : qAQ} {M C : Nat} {b : Bx} (h : qCG col w P M C b) {m : Nat} (g : b.good m) (hm : m ≤ 39000) (hg : b.x.p.gone = false) : Calls prog 50 #[.pointer (some ⟨C,0,none⟩)] w fun e w'=>e = .returned (.int .i64 b.finish.1) ∧ qG5 col w P M C b.finish.2 w':=by
 obtain ⟨A,vn,vw,h0⟩:=h
 have bC:=h0.blk
 have q0:=bC.cell 0
 have bW:=h0.wm.wd.blk
 have q5:=bW.cell 5
 have CE:=qMD h0.wm.wd g.f.x.ok (by omega)
 obtain ⟨R,hR⟩ : ∃ R,R = b.finish:=⟨_,rfl⟩
 rw [← hR]
 obtain ⟨L,hL⟩ : ∃ L,L = b.x.eps.length:=⟨_,rfl⟩
 rw [← hL] at CE
 have hL2:=g.f.x.ok.el
 rw [← hL] at hL2
 obtain ⟨E,hE⟩ : ∃ E,E = b.empty.1:=⟨_,rfl⟩
 have hr0 : R = if L < 2 then (0,b) else if E ≠ 0 then b.empty else b.empty.2.forget:=by rw [hR,hL,hE];rfl
 have CY:=fun (c : Nat → Nat) (z : World) (hz : qCG c z P M C b)=>qKz hz g.f (by omega) hg
 rw [← hE] at CY
 replace hr0:=qh hr0
 have HE:=qh hE
 clear hR hL hE bC bW
 go_enter func50,ntmps50
 go_wp2_with fail
 refine CE.mono ?_
 rintro e w1 ⟨v,rfl,hv,hk1⟩
 obtain ⟨va,vc,rfl⟩:=(Sl.of_own hv).len
 have h1:=h0.kept hk1
 have ex1 : Ext 11 col col w w1:=Ext.kept h0.top hk1
 clear q0 q5
 by_cases hl : L < 2
 · have i1 : (L : Int) < 2:=by omega
   have hr : R = (0,b):=by rw [hr0.out,if_pos hl]
   subst hr
   clear CY
   go_wp2_with fail
   refine bodyPost_ret (v:=.int .i64 0) (by simp [results,results50,go_sem];done) rfl ⟨rfl,col,⟨A,vn,vw,h1⟩,ex1⟩
 · have i1 : ¬ (L : Int) < 2:=by omega
   have hr1 : R = if E ≠ 0 then b.empty else b.empty.2.forget:=by rw [hr0.out,if_neg hl]
   replace hr1:=qh hr1
   have CZ:=CY _ _ ⟨A,vn,vw,h1⟩
   clear CY
   go_wp2_with fail
   refine CZ.mono ?_
   rintro e w2 ⟨rfl,c2,h2,e2⟩
   by_cases h0E : E = 0
   · have hr : R = b.empty.2.forget:=by rw [hr1.out,if_neg (by rw [h0E];decide)]
     have CF:=qIB h2 g.f.empty (by omega)
     obtain ⟨V,hV⟩ : ∃ V,V = b.empty.2.forget.1:=⟨_,rfl⟩
     rw [← hV] at CF
     have HV:=qh hV
     replace hr:=qh hr
     clear hV
     go_wp2_with fail
     refine CF.mono ?_
     rintro e w3 ⟨rfl,c3,h3,e3⟩
     go_wp2_with fail
     refine bodyPost_ret (v:=.int .i64 V) (by simp [results,results50,go_sem];done) rfl ⟨by rw [hr.out,HV.out],c3,by rw [hr.out];exact h3,(ex1.trans e2).trans e3⟩
   · have hr : R = (E,b.empty.2):=by rw [hr1.out,if_pos h0E,HE.out]
     replace hr:=qh hr
     go_wp2_with fail
     refine bodyPost_ret (v:=.int .i64 E) (by simp [results,results50,go_sem];done) rfl ⟨by rw [hr.out],c2,by rw [hr.out];exact h2,ex1.trans e2⟩
theorem qQ5 {col : Nat → Nat} {w : World} {P : qAQ} {M C A : Nat} {vn vw : Value} {b : Bx} (h : qBh col w P M C A vn vw b) {m : Nat} (f : b.fine m) (hm : m ≤ 60000) (hk100 : b.k = 100) (s : Nat) (hfr : b.c.free = some s) (lba : Int) (vd : Value) (dirty : Bool) :
 Calls prog 122 #[.pointer (some ⟨C,0,none⟩),.int .i64 lba,vd,.bool dirty] w fun e w'=>e = .returned (.tuple #[.int .i64 (-1),.agg #[.int .i64 0,.bool false,.int .i64 0,W 0#32,W 0#32,U 0#64,U 0#64,U 0#64],.int .i64 6]) ∧ qBh col w' P M C A vn vw b ∧ Ext 11 col col w w':=by
 have hn16:=qAm f.x.ok.sl
 have hnl:=f.nl
 have hwl:=f.wl
 have hkA : qA4 w (w.alloc (.cells #[.int .i64 0,.bool false,.int .i64 0,W 0#32,W 0#32,U 0#64,U 0#64,U 0#64] 117)):=qal _
 have bZ:=Blk.new w #[.int .i64 0,.bool false,.int .i64 0,W 0#32,W 0#32,U 0#64,U 0#64,U 0#64] 117
 have CF:=qF4 (h.kept hkA) (by omega) (by omega) (by omega)
 rw [hfr] at CF
 have hsN0:=qDx hfr
 have i3 : (s : Int) ≤ 65535:=by omega
 have hs16 : s ≤ 65535:=by omega
 have q0:=(h.blk.kept hkA).cell 0
 clear hnl hwl hfr hn16
 unfold qDw at CF
 simp only at CF
 go_enter func122,ntmps122
 go_wp2_with fail
 generalize (w.alloc (.cells #[.int .i64 0,.bool false,.int .i64 0,W 0#32,W 0#32,U 0#64,U 0#64,U 0#64] 117)) = wA at *
 refine CF.mono ?_
 rintro e w1 ⟨rfl,rfl⟩
 have CK:=qKq (h.wm.kept hkA).wd f.x (by omega)
 obtain ⟨ep,hep⟩ : ∃ y,y = qAi b.x.eps:=⟨_,rfl⟩
 obtain ⟨ky,hky⟩ : ∃ y,y = b.x.logK:=⟨_,rfl⟩
 rw [show qFO b.x.seed b.x.eps (qAi b.x.eps) = ky from hky.symm,← hep] at CK
 obtain ⟨ky1,ky2⟩:=ky
 clear hep hky
 go_wp2_with fail
 refine CK.mono ?_
 rintro e w2 ⟨rfl,hk2⟩
 have q0b:=(h.blk.kept (hkA.of hk2))
 clear q0
 unfold Pr
 have hk3 : qA4 w2 (w2.alloc (.cells #[U ky1,U ky2] 115)):=qal _
 have hkw3:=(hkA.of hk2).of hk3
 have q1:=(q0b.kept hk3).cell 1
 go_wp2_with fail
 have hW3:=h.wm.kept hkw3
 have CM:=qGD M b.boot ep s hs16 _ (by have:=hW3.mkr;rw [hk100] at this;exact this)
 refine CM.mono ?_
 rintro e w4 ⟨rfl,hk4⟩
 have hk5 : qA4 w4 (w4.alloc (.cells #[W 0#32,W 0#32,U 0#64] 113)):=qal _
 have hkw5:=(hkw3.of hk4).of hk5
 have hkz:=((hk2.of hk3).of hk4).of hk5
 have bZ5:=bZ.kept hkz
 clear q1
 have hC5:=h.kept hkw5
 have e5 : Ext 11 col col w (w4.alloc (.cells #[W 0#32,W 0#32,U 0#64] 113)):=Ext.kept h.top hkw5
 have g0:=bZ5.free 0
 have x0:=bZ5.cell 0
 have g1:=bZ5.free 1
 have x1:=bZ5.cell 1
 have g2:=bZ5.free 2
 have x2:=bZ5.cell 2
 have g3:=bZ5.free 3
 have x3:=bZ5.cell 3
 have g4:=bZ5.free 4
 have x4:=bZ5.cell 4
 have g5:=bZ5.free 5
 have x5:=bZ5.cell 5
 have g6:=bZ5.free 6
 have x6:=bZ5.cell 6
 have g7:=bZ5.free 7
 have x7:=bZ5.cell 7
 go_wp2_with fail
 have bE:=((((((((bZ5).set 0 (.int .i64 0)).set 1 (.bool false)).set 2 (.int .i64 0)).set 3 (W 0#32)).set 4 (W 0#32)).set 5 (U 0#64)).set 6 (U 0#64)).set 7 (U 0#64)
 have hcE : Chg [w.heap.size] (w4.alloc (.cells #[W 0#32,W 0#32,U 0#64] 113)) (((((((((w4.alloc (.cells #[W 0#32,W 0#32,U 0#64] 113)).setCell ⟨w.heap.size,0,none⟩ (.int .i64 0)).setCell ⟨w.heap.size,1,none⟩ (.bool false)).setCell ⟨w.heap.size,2,none⟩ (.int .i64 0)).setCell ⟨w.heap.size,3,none⟩ (W 0#32)).setCell ⟨w.heap.size,4,none⟩ (W 0#32)).setCell ⟨w.heap.size,5,none⟩ (U 0#64)).setCell ⟨w.heap.size,6,none⟩ (U 0#64)).setCell ⟨w.heap.size,7,none⟩ (U 0#64)):=((((((((Chg.refl _ _).set qsm 0 _).set qsm 1 _).set qsm 2 _).set qsm 3 _).set qsm 4 _).set qsm 5 _).set qsm 6 _).set qsm 7 _
 have r0:=bE.cell 0
 have r1:=bE.cell 1
 have r2:=bE.cell 2
 have r3:=bE.cell 3
 have r4:=bE.cell 4
 have r5:=bE.cell 5
 have r6:=bE.cell 6
 have r7:=bE.cell 7
 clear g0 x0 g1 x1 g2 x2 g3 x3 g4 x4 g5 x5 g6 x6 g7 x7
 generalize (((((((((w4.alloc (.cells #[W 0#32,W 0#32,U 0#64] 113)).setCell ⟨w.heap.size,0,none⟩ (.int .i64 0)).setCell ⟨w.heap.size,1,none⟩ (.bool false)).setCell ⟨w.heap.size,2,none⟩ (.int .i64 0)).setCell ⟨w.heap.size,3,none⟩ (W 0#32)).setCell ⟨w.heap.size,4,none⟩ (W 0#32)).setCell ⟨w.heap.size,5,none⟩ (U 0#64)).setCell ⟨w.heap.size,6,none⟩ (U 0#64)).setCell ⟨w.heap.size,7,none⟩ (U 0#64)) = wE at *
 refine bodyPost_ret (v:=.tuple #[.int .i64 (-1),.agg #[.int .i64 0,.bool false,.int .i64 0,W 0#32,W 0#32,U 0#64,U 0#64,U 0#64],.int .i64 6]) (by simp [results,results122,go_sem,r0,r1,r2,r3,r4,r5,r6,r7];done) rfl ⟨rfl,hC5.chg0 hcE (h.top _ qle),e5.newset hcE qle⟩
def SlC (col : Nat → Nat) (w : World) (u : Value) (bs : List UInt8) : Prop:=Sl w u bs.length (qA1 bs) ∧ ∀ a n c,u = .slice (some a) n c → 0 < bs.length → col a.block = 0
theorem SlC.nil {col : Nat → Nat} {w : World} : SlC col w (.slice none 0 0) []:=⟨.inl ⟨rfl,rfl,rfl⟩,fun a n c e=>by cases e⟩
theorem SlC.ext {m : Nat} {col col' : Nat → Nat} {w w' : World} {u : Value} {bs : List UInt8} (h : SlC col w u bs) (e : Ext m col col' w w') : SlC col' w' u bs:=by
 obtain ⟨h1,h2⟩:=h
 rcases h1 with h1 | ⟨a,cap,rfl,k1,k2,k3⟩
 · refine ⟨.inl h1,fun a n c e2=>?_⟩
   rw [h1.1] at e2;cases e2
 · have hc : ∀ j v,(qA1 bs)[j]? = some v → w'.cell? (a.add j) = some v:=fun j v hj=>by
    have hl : 0 < bs.length:=by
     have:=(List.getElem?_eq_some_iff.1 hj).1
     rw [qA6] at this
     omega
    have:=h2 a _ cap rfl hl
    refine e.cell0 (k3 j v hj) ?_
    rw [show (a.add j).block = a.block by unfold Addr.add;split <;> rfl]
    exact this
   refine ⟨.inr ⟨a,cap,rfl,k1,k2,hc⟩,fun a2 n2 c2 e2 hl=>?_⟩
   cases e2
   have hb:=qCa bs 0 hl
   have h3:=k3 0 _ hb
   rw [Addr.add_zero'] at h3
   rw [e.old _ (World.block_lt_of_cell? w _ h3)]
   exact h2 a _ cap rfl hl
theorem SlC.of_own {col : Nat → Nat} {w0 w : World} {B : Nat} {e : TypeId} {v : Value} {bs : List UInt8} (h : w.ownsRow B e 1 v bs.length (qA1 bs)) (ht : Top col w0) (hB : w0.heap.size ≤ B) : SlC col w v bs :=
 ⟨Sl.of_own h,fun a n c e hl=>qEB h ht hB a.block (by rw [e];rfl)⟩
theorem Ext.row0 {m : Nat} {col col' : Nat → Nat} {w w' : World} {B n : Nat} {t : TypeId} {v : Value} {xs : List Value} (e : Ext m col col' w w') (h : w.ownsRow B t 1 v n xs ∧ ∀ g,v.ownBlock = some g → col g = 0) : w'.ownsRow B t 1 v n xs ∧ ∀ g,v.ownBlock = some g → col' g = 0 :=
 ⟨e.own0 h.1 h.2,fun g hg=>(e.old g (qAo h.1 hg)).trans (h.2 g hg)⟩
theorem qGb {g : Nat} {w w' : World} {B n : Nat} {t : TypeId} {v : Value} {xs : List Value} (h : w.ownsRow B t 1 v n xs) (hc : Chg [g] w w') (hg : g < B) : w'.ownsRow B t 1 v n xs :=
 qAK h hc (fun k hk hm=>by rw [List.mem_singleton] at hm;have:=qAM h hk;omega)
def qC0 (col : Nat → Nat) (w : World) (B : Nat) (v : Value) (bs : List UInt8) : Prop:=w.ownsRow B 5 1 v bs.length (qA1 bs) ∧ ∀ g,v.ownBlock = some g → col g = 0
theorem qC0.nil {col : Nat → Nat} {w : World} {B : Nat} : qC0 col w B (.slice none 0 0) []:=⟨⟨rfl,.inl ⟨rfl,rfl⟩⟩,fun g e=>by cases e⟩
theorem qC0.chg {g B : Nat} {col : Nat → Nat} {w w' : World} {v : Value} {bs : List UInt8} (h : qC0 col w B v bs) (hc : Chg [g] w w') (hg : g < B) : qC0 col w' B v bs:=⟨qGb h.1 hc hg,h.2⟩
theorem qC0.base {B B' : Nat} {col : Nat → Nat} {w : World} {v : Value} {bs : List UInt8} (h : qC0 col w B v bs) (hg : B' ≤ B) : qC0 col w B' v bs:=⟨qAg h.1 hg,h.2⟩
theorem qKA {b : Bx} {s : Nat} {lba : Int} {data : List UInt8} {dirty : Bool} (h : b.x.p.spend.1 = true) {F : Lf} (hF : F = b.layF s lba data dirty) : b.layT s lba data dirty = .tuple #[.int .i64 (s : Int),.agg #[.int .i64 F.kind,.bool F.dirty,.int .i64 F.lba,W F.ep,W F.sl,U F.ver,U F.tag.1,U F.tag.2],.int .i64 0]:=by
 unfold Bx.layT
 rw [h,hF]
 rfl
theorem qNf {b : Bx} {s : Nat} {lba : Int} {data : List UInt8} {dirty : Bool} (h : b.x.p.spend.1 = false) : b.layT s lba data dirty = .tuple #[.int .i64 (-1),.agg #[.int .i64 0,.bool false,.int .i64 0,W 0#32,W 0#32,U 0#64,U 0#64,U 0#64],.int .i64 7]:=by
 unfold Bx.layT
 rw [h]
 rfl
theorem qOP {col : Nat → Nat} {w : World} {P : qAQ} {M C : Nat} {b : Bx} (h : qCG col w P M C b) {m : Nat} (g : b.good m) (hm : m ≤ 39000) (kd lba : Int) (a : Option Addr) (n c : Nat) (data : List UInt8) (hdl : data.length = 32) (hlb : isD lba = true) (sd : SlC col w (.slice a n c) data) : Calls prog 78 #[.pointer (some ⟨C,0,none⟩),.agg #[.int .i64 kd,.int .i64 lba,.slice a n c]] w fun e w'=>e = .returned (.agg #[.int .i64 (b.write lba data).1,.slice none 0 0]) ∧ qG5 col w P M C (b.write lba data).2 w':=by
 obtain ⟨A,vn,vw,h0⟩:=h
 obtain ⟨wA,hwA⟩ : ∃ y,y = ((w.alloc (.cells #[.int .i64 kd,.int .i64 lba,.slice a n c] 34)).alloc (.cells #[.int .i64 0,.slice none 0 0] 39)):=⟨_,rfl⟩
 have hkA : qA4 w wA:=by rw [hwA];exact (qal _).alloc (by simp) _
 have bX : Blk wA w.heap.size #[.int .i64 kd,.int .i64 lba,.slice a n c] 34:=by
  rw [hwA]
  exact (Blk.new w _ _).kept ((Below.refl _ _).alloc (by simp) _)
 have bT : Blk wA (w.heap.size + 1) #[.int .i64 0,.slice none 0 0] 39:=by
  rw [hwA]
  have:=Blk.new (w.alloc (.cells #[.int .i64 kd,.int .i64 lba,.slice a n c] 34)) #[.int .i64 0,.slice none 0 0] 39
  rw [World.size_alloc] at this
  exact this
 have exA : Ext 11 col col w wA:=Ext.kept h0.top hkA
 have cX : col w.heap.size = 0:=h0.top _ qle
 have cT : col (w.heap.size + 1) = 0:=h0.top _ (by omega)
 have CR:=qN8 ⟨A,vn,vw,h0.kept hkA⟩ g.f (by omega) g.hev
 obtain ⟨R,hR⟩ : ∃ R,R = b.write lba data:=⟨_,rfl⟩
 rw [← hR]
 have hr0 : R = if b.room.1 ≠ 0 then b.room else b.room.2.lays lba data true:=hR
 have gc:=g.room
 have hfc:=qDy g
 obtain ⟨E,hE⟩ : ∃ E,E = b.room.1:=⟨_,rfl⟩
 obtain ⟨B,hB⟩ : ∃ B,B = b.room.2:=⟨_,rfl⟩
 rw [show b.room = (E,B) by rw [hE,hB]] at CR gc hfc hr0
 replace hr0:=qh hr0
 replace hfc:=qh hfc
 replace hdl:=qh hdl
 replace hlb:=qh hlb
 clear hR hE hB
 go_enter func78,ntmps78
 go_wp2_with fail
 rw [← hwA]
 clear hwA
 refine CR.mono ?_
 rintro e w2 ⟨rfl,col2,⟨A2,vn2,vw2,h2⟩,e2⟩
 obtain ⟨bX2,cX2⟩:=e2.blk0 bX cX
 obtain ⟨bT2,cT2⟩:=e2.blk0 bT cT
 have hsz:=e2.size
 have hszA:=bT.lt
 have ex2:=exA.trans e2
 by_cases h0E : E = 0
 · obtain ⟨s,hs⟩:=Option.isSome_iff_exists.1 (hfc.out h0E)
   have hr1 : R = B.lays lba data true:=by rw [hr0.out,if_neg (by rw [h0E];decide)]
   replace hr1:=qh hr1
   have l1:=bX2.cell 1
   have l2:=bX2.cell 2
   have sd2:=sd.ext ex2
   have hsl:=qDx hs
   by_cases hk : B.k = 100
   · have CL:=qQ5 h2 gc.f (by omega) hk s hs lba (.slice a n c) true
     have hr : R = (6,B):=by rw [hr1.out];unfold Bx.lays;rw [if_pos hk]
     replace hr:=qh hr
     replace hs:=qh hs
     replace hk:=qh hk
     go_wp2_with fail
     refine CL.mono ?_
     rintro e w3 ⟨rfl,h3,e3⟩
     obtain ⟨bT3,cT3⟩:=e3.blk0 bT2 cT2
     have hkL : qA4 w3 (w3.alloc (.cells #[.int .i64 0,.bool false,.int .i64 0,W 0#32,W 0#32,U 0#64,U 0#64,U 0#64] 117)):=qal _
     have bTL:=bT3.kept hkL
     have exL:=(ex2.trans e3).trans (Ext.kept (m:=11) h3.top hkL)
     have hL:=h3.kept hkL
     clear l1 l2
     have f0:=(bTL).free 0
     have f1:=(bTL).free 1
     have x0:=(bTL).cell 0
     have x1:=(bTL).cell 1
     go_wp2_with fail
     have bR:=((bTL).set 0 (.int .i64 (6))).set 1 (.slice none 0 0)
     have hcE : Chg [w.heap.size + 1] (w3.alloc (.cells #[.int .i64 0,.bool false,.int .i64 0,W 0#32,W 0#32,U 0#64,U 0#64,U 0#64] 117)) (((w3.alloc (.cells #[.int .i64 0,.bool false,.int .i64 0,W 0#32,W 0#32,U 0#64,U 0#64,U 0#64] 117)).setCell ⟨w.heap.size + 1,0,none⟩ (.int .i64 (6))).setCell ⟨w.heap.size + 1,1,none⟩ (.slice none 0 0)):=((Chg.refl _ _).set qsm 0 _).set qsm 1 _
     have r0:=bR.cell 0
     have r1:=bR.cell 1
     clear f0 f1 x0 x1
     generalize (((w3.alloc (.cells #[.int .i64 0,.bool false,.int .i64 0,W 0#32,W 0#32,U 0#64,U 0#64,U 0#64] 117)).setCell ⟨w.heap.size + 1,0,none⟩ (.int .i64 (6))).setCell ⟨w.heap.size + 1,1,none⟩ (.slice none 0 0)) = wE at *
     refine bodyPost_ret (v:=.agg #[.int .i64 (6),.slice none 0 0]) (by simp [results,results78,go_sem,r0,r1];try exact ⟨rfl,rfl⟩) rfl ⟨by rw [hr.out],col2,by rw [hr.out];exact ⟨_,_,_,hL.chg0 hcE cT3⟩,exL.newset hcE (by omega)⟩
   · have hk100 : B.k < 100:=by have:=gc.f.k;omega
     have CL:=qPm h2 gc.f (by omega) hk100 s hs lba (.slice a n c) data hdl.out true (by have:=sd2.1;rw [hdl.out] at this;exact this)
     have g3:=gc.lay (s:=s) (lba:=lba) (data:=data) hsl hdl.out hk100
     have hsp : R = if B.x.p.spend.1 then (0,(B.lay s lba data).puts s (B.layF s lba data true)) else (7,B.lay s lba data):=by
      rw [hr1.out];unfold Bx.lays;rw [if_neg hk,hs];rfl
     replace hsp:=qh hsp
     have g3q:=g3.qlen
     have g3n:=g3.n16
     have g3t:=g3.tk
     obtain ⟨S,hS⟩ : ∃ S,S = B.x.p.spend.1:=⟨_,rfl⟩
     have HS:=qh hS
     have hl3 : s < (B.lay s lba data).c.now.length:=hsl
     replace hs:=qh hs
     cases S with
     | false =>
      rw [qNf hS.symm] at CL
      have hr : R = (7,B.lay s lba data):=by rw [hsp.out,← HS.out];rfl
      replace hr:=qh hr
      clear hS
      go_wp2_with fail
      refine CL.mono ?_
      rintro e w3 ⟨rfl,col3,h3,e3⟩
      obtain ⟨bT3,cT3⟩:=e3.blk0 bT2 cT2
      have hkL : qA4 w3 (w3.alloc (.cells #[.int .i64 0,.bool false,.int .i64 0,W 0#32,W 0#32,U 0#64,U 0#64,U 0#64] 117)):=qal _
      have bTL:=bT3.kept hkL
      have exL:=(ex2.trans e3).trans (Ext.kept (m:=11) h3.top hkL)
      have hL:=h3.kept hkL
      clear l1 l2
      have f0:=(bTL).free 0
      have f1:=(bTL).free 1
      have x0:=(bTL).cell 0
      have x1:=(bTL).cell 1
      go_wp2_with fail
      have bR:=((bTL).set 0 (.int .i64 (7))).set 1 (.slice none 0 0)
      have hcE : Chg [w.heap.size + 1] (w3.alloc (.cells #[.int .i64 0,.bool false,.int .i64 0,W 0#32,W 0#32,U 0#64,U 0#64,U 0#64] 117)) (((w3.alloc (.cells #[.int .i64 0,.bool false,.int .i64 0,W 0#32,W 0#32,U 0#64,U 0#64,U 0#64] 117)).setCell ⟨w.heap.size + 1,0,none⟩ (.int .i64 (7))).setCell ⟨w.heap.size + 1,1,none⟩ (.slice none 0 0)):=((Chg.refl _ _).set qsm 0 _).set qsm 1 _
      have r0:=bR.cell 0
      have r1:=bR.cell 1
      clear f0 f1 x0 x1
      generalize (((w3.alloc (.cells #[.int .i64 0,.bool false,.int .i64 0,W 0#32,W 0#32,U 0#64,U 0#64,U 0#64] 117)).setCell ⟨w.heap.size + 1,0,none⟩ (.int .i64 (7))).setCell ⟨w.heap.size + 1,1,none⟩ (.slice none 0 0)) = wE at *
      refine bodyPost_ret (v:=.agg #[.int .i64 (7),.slice none 0 0]) (by simp [results,results78,go_sem,r0,r1];try exact ⟨rfl,rfl⟩) rfl ⟨by rw [hr.out],col3,by rw [hr.out];exact ⟨_,_,_,hL.chg0 hcE cT3⟩,exL.newset hcE (by omega)⟩
     | true =>
      obtain ⟨F,hF⟩ : ∃ F,F = B.layF s lba data true:=⟨_,rfl⟩
      rw [qKA hS.symm hF] at CL
      have hr : R = (0,(B.lay s lba data).puts s F):=by rw [hsp.out,← HS.out,hF];rfl
      replace hr:=qh hr
      clear hS hF
      go_wp2_with fail
      refine CL.mono ?_
      rintro e w3 ⟨rfl,col3,h3,e3⟩
      obtain ⟨bT3,cT3⟩:=e3.blk0 bT2 cT2
      have hkL : qA4 w3 (w3.alloc (.cells #[.int .i64 F.kind,.bool F.dirty,.int .i64 F.lba,W F.ep,W F.sl,U F.ver,U F.tag.1,U F.tag.2] 117)):=qal _
      have bTL:=bT3.kept hkL
      have exL:=(ex2.trans e3).trans (Ext.kept (m:=11) h3.top hkL)
      have hL:=h3.kept hkL
      have CP:=qJS hL s hl3 g3n.1 (by omega) (by omega) F
      clear l1 l2
      go_wp2_with fail
      refine CP.mono ?_
      rintro e w4 ⟨rfl,col4,h4,e4⟩
      obtain ⟨bT4,cT4⟩:=e4.blk0 bTL cT3
      have ex4:=exL.trans e4
      have f0:=(bT4).free 0
      have f1:=(bT4).free 1
      have x0:=(bT4).cell 0
      have x1:=(bT4).cell 1
      go_wp2_with fail
      have bR:=((bT4).set 0 (.int .i64 (0))).set 1 (.slice none 0 0)
      have hcE : Chg [w.heap.size + 1] w4 ((w4.setCell ⟨w.heap.size + 1,0,none⟩ (.int .i64 (0))).setCell ⟨w.heap.size + 1,1,none⟩ (.slice none 0 0)):=((Chg.refl _ _).set qsm 0 _).set qsm 1 _
      have r0:=bR.cell 0
      have r1:=bR.cell 1
      clear f0 f1 x0 x1
      generalize ((w4.setCell ⟨w.heap.size + 1,0,none⟩ (.int .i64 (0))).setCell ⟨w.heap.size + 1,1,none⟩ (.slice none 0 0)) = wE at *
      refine bodyPost_ret (v:=.agg #[.int .i64 (0),.slice none 0 0]) (by simp [results,results78,go_sem,r0,r1];try exact ⟨rfl,rfl⟩) rfl ⟨by rw [hr.out],col4,by rw [hr.out];exact ⟨_,_,_,h4.chg0 hcE cT4⟩,ex4.newset hcE (by omega)⟩
 · have hr : R = (E,B):=by rw [hr0.out,if_pos h0E]
   replace hr:=qh hr
   have f0:=(bT2).free 0
   have f1:=(bT2).free 1
   have x0:=(bT2).cell 0
   have x1:=(bT2).cell 1
   go_wp2_with fail
   have bR:=((bT2).set 0 (.int .i64 (E))).set 1 (.slice none 0 0)
   have hcE : Chg [w.heap.size + 1] w2 ((w2.setCell ⟨w.heap.size + 1,0,none⟩ (.int .i64 (E))).setCell ⟨w.heap.size + 1,1,none⟩ (.slice none 0 0)):=((Chg.refl _ _).set qsm 0 _).set qsm 1 _
   have r0:=bR.cell 0
   have r1:=bR.cell 1
   clear f0 f1 x0 x1
   generalize ((w2.setCell ⟨w.heap.size + 1,0,none⟩ (.int .i64 (E))).setCell ⟨w.heap.size + 1,1,none⟩ (.slice none 0 0)) = wE at *
   refine bodyPost_ret (v:=.agg #[.int .i64 (E),.slice none 0 0]) (by simp [results,results78,go_sem,r0,r1];try exact ⟨rfl,rfl⟩) rfl ⟨by rw [hr.out],col2,by rw [hr.out];exact ⟨_,_,_,h2.chg0 hcE cT2⟩,ex2.newset hcE (by omega)⟩
theorem qLF {col : Nat → Nat} {w : World} {P : qAQ} {M C : Nat} {b : Bx} (h : qCG col w P M C b) {m : Nat} (g : b.good m) (hm : m ≤ 39000) (kd lba : Int) (a : Option Addr) (n c : Nat) : Calls prog 80 #[.pointer (some ⟨C,0,none⟩),.agg #[.int .i64 kd,.int .i64 lba,.slice a n c]] w fun e w'=>e = .returned (.agg #[.int .i64 (b.discard lba).1,.slice none 0 0]) ∧ qG5 col w P M C (b.discard lba).2 w':=by
 obtain ⟨A,vn,vw,h0⟩:=h
 obtain ⟨wA,hwA⟩ : ∃ y,y = ((w.alloc (.cells #[.int .i64 kd,.int .i64 lba,.slice a n c] 34)).alloc (.cells #[.int .i64 0,.slice none 0 0] 39)):=⟨_,rfl⟩
 have hkA : qA4 w wA:=by rw [hwA];exact (qal _).alloc (by simp) _
 have bX : Blk wA w.heap.size #[.int .i64 kd,.int .i64 lba,.slice a n c] 34:=by
  rw [hwA]
  exact (Blk.new w _ _).kept ((Below.refl _ _).alloc (by simp) _)
 have bT : Blk wA (w.heap.size + 1) #[.int .i64 0,.slice none 0 0] 39:=by
  rw [hwA]
  have:=Blk.new (w.alloc (.cells #[.int .i64 kd,.int .i64 lba,.slice a n c] 34)) #[.int .i64 0,.slice none 0 0] 39
  rw [World.size_alloc] at this
  exact this
 have exA : Ext 11 col col w wA:=Ext.kept h0.top hkA
 have cX : col w.heap.size = 0:=h0.top _ qle
 have cT : col (w.heap.size + 1) = 0:=h0.top _ (by omega)
 have CR:=qN8 ⟨A,vn,vw,h0.kept hkA⟩ g.f (by omega) g.hev
 obtain ⟨R,hR⟩ : ∃ R,R = b.discard lba:=⟨_,rfl⟩
 rw [← hR]
 have hr0 : R = if b.room.1 ≠ 0 then b.room else (0,b.room.2.puts (b.room.2.c.free.getD 0) (Lf.nought lba)):=hR
 have gc:=g.room
 have hfc:=qDy g
 obtain ⟨E,hE⟩ : ∃ E,E = b.room.1:=⟨_,rfl⟩
 obtain ⟨B,hB⟩ : ∃ B,B = b.room.2:=⟨_,rfl⟩
 rw [show b.room = (E,B) by rw [hE,hB]] at CR gc hfc hr0
 replace hr0:=qh hr0
 replace hfc:=qh hfc
 clear hR hE hB
 go_enter func80,ntmps80
 go_wp2_with fail
 rw [← hwA]
 clear hwA
 refine CR.mono ?_
 rintro e w2 ⟨rfl,col2,⟨A2,vn2,vw2,h2⟩,e2⟩
 obtain ⟨bX2,cX2⟩:=e2.blk0 bX cX
 obtain ⟨bT2,cT2⟩:=e2.blk0 bT cT
 have hsz:=e2.size
 have hszA:=bT.lt
 have ex2:=exA.trans e2
 by_cases h0E : E = 0
 · obtain ⟨s,hs⟩:=Option.isSome_iff_exists.1 (hfc.out h0E)
   have hr : R = (0,B.puts s (Lf.nought lba)):=by rw [hr0.out,if_neg (by rw [h0E];decide),hs];rfl
   replace hr:=qh hr
   have hsl:=qDx hs
   have n16:=gc.n16
   have CF : ∀ z1,qA4 w2 z1 → Calls prog 120 #[.pointer (some ⟨C,0,none⟩)] z1 fun e w''=>e = .returned (.int .i64 (s : Int)) ∧ z1 = w'':=fun z1 hz=>by
    have:=qF4 (h2.kept hz) (by omega) (by rw [gc.f.wl,gc.f.nl]) (by omega)
    rw [hs] at this
    exact this
   have CP : ∀ z1,qA4 w2 z1 → Calls prog 123 #[.pointer (some ⟨C,0,none⟩),.int .i64 (s : Int),.agg #[.int .i64 2,.bool true,.int .i64 lba,W 0#32,W 0#32,U 0#64,U 0#64,U 0#64]] z1 fun e w''=>e = .returned (.tuple #[]) ∧ ∃ col',qBh col' w'' P M C A2 vn2 vw2 (B.puts s (Lf.nought lba)) ∧ Ext 11 col2 col' z1 w'':=fun z1 hz=>qJS (h2.kept hz) s hsl n16.1 (by have:=gc.qlen;omega) (by have:=gc.tk;omega) (Lf.nought lba)
   replace hs:=qh hs
   go_wp2_with fail
   refine qAe (qA8 (fun k=>k < w2.heap.size ∧ (col2 k = 0 ∨ 11 < col2 k))) [(0,0),(1,0),(3,0),(4,0),(5,0),(2,1),(6,1)] (by kernel_rfl) (by kernel_rfl) ?_ ?_ ?_
   · exact fun _=>qA8.refl _
   · exact fun _ _ _ h1 h2=>h1.trans h2
   intro z1 hz1
   have bXz:=bX2.kept hz1
   repeat
    refine qA0 _ rfl (fun K hK=>?_)
    first
     | (refine qqP (by rfl) ?_;apply Exists.intro;refine ⟨fun w' hw'=>?_,hK _ ?_⟩;(have q:=(hw'.block _ bXz.lt ⟨bX2.lt,.inl cX2⟩).trans bXz;have q1:=Blk.cell q 1;clear q;go_simp;first|done|rfl))
     | refine qqN (by rfl) (hK _ ?_)
    clear hK K;simp only [Act.put,qqB]
   refine qqH _ rfl (by rfl) (fun K hK=>?_)
   go_wp2_with fail
   refine (CF z1 hz1).mono ?_
   rintro e z2 ⟨rfl,rfl⟩
   go_wp2
   refine hK _ _ (qA8.refl _) ?_
   clear hK K
   try simp only [Act.put,qqB]
   refine qqH _ rfl (by rfl) (fun K hK=>?_)
   go_wp2_with fail
   refine (CP z1 hz1).mono ?_
   rintro e z3 ⟨rfl,col3,h3,e3⟩
   have S3:=e3.sameOn (w0:=w2) (col0:=col2) (fun k hk=>rfl)
   go_wp2
   refine hK _ _ (S3) ?_
   clear hK K
   try simp only [Act.put,qqB]
   refine qA7 ?_
   have ex3:=(ex2.trans (Ext.kept (m:=11) h2.top hz1)).trans e3
   obtain ⟨bT3,cT3⟩:=e3.blk0 (bT2.kept hz1) cT2
   have hz1s:=hz1.size
   have f0:=(bT3).free 0
   have f1:=(bT3).free 1
   have x0:=(bT3).cell 0
   have x1:=(bT3).cell 1
   go_wp2_with fail
   have bR:=((bT3).set 0 (.int .i64 (0))).set 1 (.slice none 0 0)
   have hcE : Chg [w.heap.size + 1] z3 ((z3.setCell ⟨w.heap.size + 1,0,none⟩ (.int .i64 (0))).setCell ⟨w.heap.size + 1,1,none⟩ (.slice none 0 0)):=((Chg.refl _ _).set qsm 0 _).set qsm 1 _
   have r0:=bR.cell 0
   have r1:=bR.cell 1
   clear f0 f1 x0 x1
   generalize ((z3.setCell ⟨w.heap.size + 1,0,none⟩ (.int .i64 (0))).setCell ⟨w.heap.size + 1,1,none⟩ (.slice none 0 0)) = wE at *
   refine bodyPost_ret (v:=.agg #[.int .i64 (0),.slice none 0 0]) (by simp [results,results80,go_sem,r0,r1];try exact ⟨rfl,rfl⟩) rfl ⟨by rw [hr.out],col3,by rw [hr.out];exact ⟨_,_,_,h3.chg0 hcE cT3⟩,ex3.newset hcE (by omega)⟩
 · have hr : R = (E,B):=by rw [hr0.out,if_pos h0E]
   replace hr:=qh hr
   have f0:=(bT2).free 0
   have f1:=(bT2).free 1
   have x0:=(bT2).cell 0
   have x1:=(bT2).cell 1
   go_wp2_with fail
   have bR:=((bT2).set 0 (.int .i64 (E))).set 1 (.slice none 0 0)
   have hcE : Chg [w.heap.size + 1] w2 ((w2.setCell ⟨w.heap.size + 1,0,none⟩ (.int .i64 (E))).setCell ⟨w.heap.size + 1,1,none⟩ (.slice none 0 0)):=((Chg.refl _ _).set qsm 0 _).set qsm 1 _
   have r0:=bR.cell 0
   have r1:=bR.cell 1
   clear f0 f1 x0 x1
   generalize ((w2.setCell ⟨w.heap.size + 1,0,none⟩ (.int .i64 (E))).setCell ⟨w.heap.size + 1,1,none⟩ (.slice none 0 0)) = wE at *
   refine bodyPost_ret (v:=.agg #[.int .i64 (E),.slice none 0 0]) (by simp [results,results80,go_sem,r0,r1];try exact ⟨rfl,rfl⟩) rfl ⟨by rw [hr.out],col2,by rw [hr.out];exact ⟨_,_,_,h2.chg0 hcE cT2⟩,ex2.newset hcE (by omega)⟩
theorem qNg {col : Nat → Nat} {w : World} {P : qAQ} {M C : Nat} {b : Bx} (h : qCG col w P M C b) {m : Nat} (g : b.good m) (hm : m ≤ 39000) (kd lba : Int) (a : Option Addr) (n c : Nat) : Calls prog 81 #[.pointer (some ⟨C,0,none⟩),.agg #[.int .i64 kd,.int .i64 lba,.slice a n c]] w fun e w'=>e = .returned (.agg #[.int .i64 b.rotate.1,.slice none 0 0]) ∧ qG5 col w P M C b.rotate.2 w':=by
 obtain ⟨A,vn,vw,h0⟩:=h
 obtain ⟨wA,hwA⟩ : ∃ y,y = ((w.alloc (.cells #[.int .i64 kd,.int .i64 lba,.slice a n c] 34)).alloc (.cells #[.int .i64 0,.slice none 0 0] 39)):=⟨_,rfl⟩
 have hkA : qA4 w wA:=by rw [hwA];exact (qal _).alloc (by simp) _
 have bX : Blk wA w.heap.size #[.int .i64 kd,.int .i64 lba,.slice a n c] 34:=by
  rw [hwA]
  exact (Blk.new w _ _).kept ((Below.refl _ _).alloc (by simp) _)
 have bT : Blk wA (w.heap.size + 1) #[.int .i64 0,.slice none 0 0] 39:=by
  rw [hwA]
  have:=Blk.new (w.alloc (.cells #[.int .i64 kd,.int .i64 lba,.slice a n c] 34)) #[.int .i64 0,.slice none 0 0] 39
  rw [World.size_alloc] at this
  exact this
 have exA : Ext 11 col col w wA:=Ext.kept h0.top hkA
 have cX : col w.heap.size = 0:=h0.top _ qle
 have cT : col (w.heap.size + 1) = 0:=h0.top _ (by omega)
 have CR:=qCQ (h0.kept hkA) g.f (by omega)
 obtain ⟨R,hR⟩ : ∃ R,R = b.rotate:=⟨_,rfl⟩
 rw [← hR]
 have hr0 : R = if b.commit.1 ≠ 0 then b.commit else Bx.rotE b.commit.2.empty:=hR
 have gc:=g.commit
 have hon:=qFi (b:=b)
 obtain ⟨E,hE⟩ : ∃ E,E = b.commit.1:=⟨_,rfl⟩
 obtain ⟨B,hB⟩ : ∃ B,B = b.commit.2:=⟨_,rfl⟩
 rw [show b.commit = (E,B) by rw [hE,hB]] at CR gc hr0 hon
 replace hr0:=qh hr0
 replace hon:=qh hon
 clear hR hE hB
 go_enter func81,ntmps81
 go_wp2_with fail
 rw [← hwA]
 clear hwA
 refine CR.mono ?_
 rintro e w2 ⟨rfl,col2,⟨A2,vn2,vw2,h2⟩,e2⟩
 obtain ⟨bT2,cT2⟩:=e2.blk0 bT cT
 have hsz:=e2.size
 have hszA:=bT.lt
 have ex2:=exA.trans e2
 by_cases h0E : E = 0
 · have CY:=qKz ⟨A2,vn2,vw2,h2⟩ gc.f (by omega) (hon.out h0E)
   have hr1 : R = Bx.rotE B.empty:=by rw [hr0.out,if_neg (by rw [h0E];decide)]
   have gd:=gc.empty
   obtain ⟨E3,hE3⟩ : ∃ E,E = B.empty.1:=⟨_,rfl⟩
   obtain ⟨c3,hc3⟩ : ∃ B',B' = B.empty.2:=⟨_,rfl⟩
   rw [show B.empty = (E3,c3) by rw [hE3,hc3]] at CY gd hr1
   replace hr1:=qh hr1
   clear hE3 hc3
   go_wp2_with fail
   refine CY.mono ?_
   rintro e w3 ⟨rfl,col3,⟨A3,vn3,vw3,h3⟩,e3⟩
   obtain ⟨bT3,cT3⟩:=e3.blk0 bT2 cT2
   have hsz3:=e3.size
   have ex3:=ex2.trans e3
   by_cases h3E : E3 = 0
   · have CK:=qPX h3.wm.wd gd.f.x.ok (by omega)
     have hr2 : R = if c3.x.p.spend.1 = false then (7,c3.setX c3.x.kAdd) else (c3.setX c3.x.kAdd).forget:=by rw [hr1.out];unfold Bx.rotE;rw [if_neg (fun e=>e h3E)]
     have q0:=h3.blk.cell 0
     have q5:=h3.wm.wd.blk.cell 5
     obtain ⟨S,hS⟩ : ∃ S,S = c3.x.p.spend.1:=⟨_,rfl⟩
     rw [← hS] at CK
     have HS:=qh hS
     replace hr2:=qh hr2
     clear hS
     go_wp2_with fail
     refine CK.mono ?_
     rintro e w4 ⟨rfl,col4,hW4,e4⟩
     have h4:=h3.world (h3.wm.ext6 hW4 e4) (e4.mono (show 6 ≤ 8 by decide))
     have ex4:=ex3.trans (e4.mono (show 6 ≤ 11 by decide))
     obtain ⟨bT4,cT4⟩:=e4.blk0 bT3 cT3
     have hsz4:=e4.size
     clear q0 q5
     cases S with
     | false =>
      have hr : R = (7,c3.setX c3.x.kAdd):=by rw [hr2.out,if_pos HS.out.symm]
      replace hr:=qh hr
      have f0:=(bT4).free 0
      have f1:=(bT4).free 1
      have x0:=(bT4).cell 0
      have x1:=(bT4).cell 1
      go_wp2_with fail
      have bR:=((bT4).set 0 (.int .i64 (7))).set 1 (.slice none 0 0)
      have hcE : Chg [w.heap.size + 1] w4 ((w4.setCell ⟨w.heap.size + 1,0,none⟩ (.int .i64 (7))).setCell ⟨w.heap.size + 1,1,none⟩ (.slice none 0 0)):=((Chg.refl _ _).set qsm 0 _).set qsm 1 _
      have r0:=bR.cell 0
      have r1:=bR.cell 1
      clear f0 f1 x0 x1
      generalize ((w4.setCell ⟨w.heap.size + 1,0,none⟩ (.int .i64 (7))).setCell ⟨w.heap.size + 1,1,none⟩ (.slice none 0 0)) = wE at *
      refine bodyPost_ret (v:=.agg #[.int .i64 (7),.slice none 0 0]) (by simp [results,results81,go_sem,r0,r1];try exact ⟨rfl,rfl⟩) rfl ⟨by rw [hr.out],col4,by rw [hr.out];exact ⟨_,_,_,qBh.chg0 h4 hcE cT4⟩,ex4.newset hcE (by omega)⟩
     | true =>
      have hr : R = (c3.setX c3.x.kAdd).forget:=by rw [hr2.out,if_neg (by rw [← HS.out];decide)]
      have CF:=qIB (b:=c3.setX c3.x.kAdd) ⟨A3,vn3,vw3,h4⟩ (gd.kAdd (by omega)).f (by omega)
      obtain ⟨V,hV⟩ : ∃ V,V = (c3.setX c3.x.kAdd).forget.1:=⟨_,rfl⟩
      rw [← hV] at CF
      have HV:=qh hV
      replace hr:=qh hr
      clear hV
      go_wp2_with fail
      refine CF.mono ?_
      rintro e w5 ⟨rfl,col5,⟨A5,vn5,vw5,h5⟩,e5⟩
      obtain ⟨bT5,cT5⟩:=e5.blk0 bT4 cT4
      have ex5:=ex4.trans e5
      have f0:=(bT5).free 0
      have f1:=(bT5).free 1
      have x0:=(bT5).cell 0
      have x1:=(bT5).cell 1
      go_wp2_with fail
      have bR:=((bT5).set 0 (.int .i64 (V))).set 1 (.slice none 0 0)
      have hcE : Chg [w.heap.size + 1] w5 ((w5.setCell ⟨w.heap.size + 1,0,none⟩ (.int .i64 (V))).setCell ⟨w.heap.size + 1,1,none⟩ (.slice none 0 0)):=((Chg.refl _ _).set qsm 0 _).set qsm 1 _
      have r0:=bR.cell 0
      have r1:=bR.cell 1
      clear f0 f1 x0 x1
      generalize ((w5.setCell ⟨w.heap.size + 1,0,none⟩ (.int .i64 (V))).setCell ⟨w.heap.size + 1,1,none⟩ (.slice none 0 0)) = wE at *
      refine bodyPost_ret (v:=.agg #[.int .i64 (V),.slice none 0 0]) (by simp [results,results81,go_sem,r0,r1];try exact ⟨rfl,rfl⟩) rfl ⟨by rw [hr.out,HV.out],col5,by rw [hr.out];exact ⟨_,_,_,h5.chg0 hcE cT5⟩,ex5.newset hcE (by omega)⟩
   · have hr : R = (E3,c3):=by rw [hr1.out];unfold Bx.rotE;rw [if_pos h3E]
     replace hr:=qh hr
     have f0:=(bT3).free 0
     have f1:=(bT3).free 1
     have x0:=(bT3).cell 0
     have x1:=(bT3).cell 1
     go_wp2_with fail
     have bR:=((bT3).set 0 (.int .i64 (E3))).set 1 (.slice none 0 0)
     have hcE : Chg [w.heap.size + 1] w3 ((w3.setCell ⟨w.heap.size + 1,0,none⟩ (.int .i64 (E3))).setCell ⟨w.heap.size + 1,1,none⟩ (.slice none 0 0)):=((Chg.refl _ _).set qsm 0 _).set qsm 1 _
     have r0:=bR.cell 0
     have r1:=bR.cell 1
     clear f0 f1 x0 x1
     generalize ((w3.setCell ⟨w.heap.size + 1,0,none⟩ (.int .i64 (E3))).setCell ⟨w.heap.size + 1,1,none⟩ (.slice none 0 0)) = wE at *
     refine bodyPost_ret (v:=.agg #[.int .i64 (E3),.slice none 0 0]) (by simp [results,results81,go_sem,r0,r1];try exact ⟨rfl,rfl⟩) rfl ⟨by rw [hr.out],col3,by rw [hr.out];exact ⟨_,_,_,h3.chg0 hcE cT3⟩,ex3.newset hcE (by omega)⟩
 · have hr : R = (E,B):=by rw [hr0.out,if_pos h0E]
   replace hr:=qh hr
   have f0:=(bT2).free 0
   have f1:=(bT2).free 1
   have x0:=(bT2).cell 0
   have x1:=(bT2).cell 1
   go_wp2_with fail
   have bR:=((bT2).set 0 (.int .i64 (E))).set 1 (.slice none 0 0)
   have hcE : Chg [w.heap.size + 1] w2 ((w2.setCell ⟨w.heap.size + 1,0,none⟩ (.int .i64 (E))).setCell ⟨w.heap.size + 1,1,none⟩ (.slice none 0 0)):=((Chg.refl _ _).set qsm 0 _).set qsm 1 _
   have r0:=bR.cell 0
   have r1:=bR.cell 1
   clear f0 f1 x0 x1
   generalize ((w2.setCell ⟨w.heap.size + 1,0,none⟩ (.int .i64 (E))).setCell ⟨w.heap.size + 1,1,none⟩ (.slice none 0 0)) = wE at *
   refine bodyPost_ret (v:=.agg #[.int .i64 (E),.slice none 0 0]) (by simp [results,results81,go_sem,r0,r1];try exact ⟨rfl,rfl⟩) rfl ⟨by rw [hr.out],col2,by rw [hr.out];exact ⟨_,_,_,h2.chg0 hcE cT2⟩,ex2.newset hcE (by omega)⟩
theorem qQ6 {col : Nat → Nat} {w : World} {P : qAQ} {M C : Nat} {b : Bx} (h : qCG col w P M C b) {m : Nat} (g : b.good m) (hm : m ≤ 39000) (hg : b.x.p.gone = false) (kd lba : Int) (hlb0 : isD lba = true) (a : Option Addr) (n c : Nat) : Calls prog 77 #[.pointer (some ⟨C,0,none⟩),.agg #[.int .i64 kd,.int .i64 lba,.slice a n c]] w fun e w'=>∃ v col',e = .returned (.agg #[.int .i64 (b.read lba).1.1,v]) ∧ qC0 col' w' w.heap.size v (b.read lba).1.2 ∧ qCG col' w' P M C (b.read lba).2 ∧ Ext 11 col col' w w':=by
 obtain ⟨A,vn,vw,h0⟩:=h
 obtain ⟨wA,hwA⟩ : ∃ y,y = ((w.alloc (.cells #[.int .i64 kd,.int .i64 lba,.slice a n c] 34)).alloc (.cells #[.int .i64 0,.slice none 0 0] 39)):=⟨_,rfl⟩
 have hkA : qA4 w wA:=by rw [hwA];exact (qal _).alloc (by simp) _
 have bX : Blk wA w.heap.size #[.int .i64 kd,.int .i64 lba,.slice a n c] 34:=by
  rw [hwA]
  exact (Blk.new w _ _).kept ((Below.refl _ _).alloc (by simp) _)
 have bT : Blk wA (w.heap.size + 1) #[.int .i64 0,.slice none 0 0] 39:=by
  rw [hwA]
  have:=Blk.new (w.alloc (.cells #[.int .i64 kd,.int .i64 lba,.slice a n c] 34)) #[.int .i64 0,.slice none 0 0] 39
  rw [World.size_alloc] at this
  exact this
 have exA : Ext 11 col col w wA:=Ext.kept h0.top hkA
 have cX : col w.heap.size = 0:=h0.top _ qle
 have cT : col (w.heap.size + 1) = 0:=h0.top _ (by omega)
 have gn:=g.n16
 have gq:=g.qlen
 have gt:=g.tk
 have hwl : b.c.was.length = b.c.now.length:=by rw [g.f.wl,g.f.nl]
 have CS:=qN5 (h0.kept hkA) lba (by omega) (by omega)
 obtain ⟨R,hR⟩ : ∃ R,R = b.read lba:=⟨_,rfl⟩
 rw [← hR]
 have hr0 : R = b.readS lba (b.c.slot lba):=hR
 obtain ⟨o,ho⟩ : ∃ o,o = lba.toNat:=⟨_,rfl⟩
 have hlo : lba = (o : Int) ∧ o < 32:=by
  have:=hlb0
  unfold isD at this
  simp at this
  omega
 have hlo1:=hlo.1
 have ho32:=hlo.2
 have hlb:=qh hlb0
 replace hr0:=qh hr0
 clear hR hlo hlb0
 cases hsl : b.c.slot lba with
 | some s =>
  have hss:=qHL hsl
  have hsk:=(qEG hsl).1
  have hs16 : s < 16:=by omega
  rw [hsl] at CS
  unfold qDw at CS
  simp only at CS
  have CV:=fun c (z : World) (hz : qBh c z P M C A vn vw b)=>qKx hz g.f (by omega) hg s hss
  have hr1 : R = b.readV s (b.valD s):=by rw [hr0.out,hsl];rfl
  have hvl:=fun d (hd : b.valD s = some d)=>qEd g.f hss hd
  obtain ⟨V,hV⟩ : ∃ V,V = b.valD s:=⟨_,rfl⟩
  have hvx : b.valX s = if V.isSome then b else b.setBad:=by unfold Bx.valX;rw [← hV]
  rw [← hV] at CV hr1 hvl
  rw [hvx] at CV
  replace hr1:=qh hr1
  have i0 : (0 : Int) ≤ (s : Int):=by omega
  clear hsl hV hvx hlo1 hwl
  go_enter func77,ntmps77
  go_wp2_with fail
  rw [← hwA]
  clear hwA
  refine CS.mono ?_
  rintro e w1 ⟨rfl,hk1⟩
  have h1:=(h0.kept hkA).kept hk1
  have bT1:=bT.kept hk1
  have hk1s:=hk1.size
  have hszA:=bT.lt
  have ex1 : Ext 11 col col w w1:=Ext.kept h0.top (hkA.of hk1)
  have CW:=CV _ _ h1
  clear CV
  cases V with
  | none =>
   have hr : R = ((3,[]),b.setBad):=hr1.out
   replace hr:=qh hr
   have CW2 : Calls prog 118 #[.pointer (some ⟨C,0,none⟩),.int .i64 (s : Int)] w1 fun e w'=>∃ v,e = .returned (.tuple #[v,.int .i64 3]) ∧ qBh col w' P M C A vn vw b.setBad ∧ Ext 11 col col w1 w':=CW.mono (by rintro e w' ⟨v,h1,_,h2,h3⟩;exact ⟨v,h1,h2,h3⟩)
   clear CW hvl
   go_wp2_with fail
   refine CW2.mono ?_
   rintro e w2 ⟨v,rfl,h2,e2⟩
   obtain ⟨bT2,cT2⟩:=e2.blk0 bT1 cT
   have ex2:=ex1.trans e2
   have f0:=(bT2).free 0
   have f1:=(bT2).free 1
   have x0:=(bT2).cell 0
   have x1:=(bT2).cell 1
   go_wp2_with fail
   have bR:=((bT2).set 0 (.int .i64 (3))).set 1 (.slice none 0 0)
   have hcE : Chg [w.heap.size + 1] w2 ((w2.setCell ⟨w.heap.size + 1,0,none⟩ (.int .i64 (3))).setCell ⟨w.heap.size + 1,1,none⟩ (.slice none 0 0)):=((Chg.refl _ _).set qsm 0 _).set qsm 1 _
   have r0:=bR.cell 0
   have r1:=bR.cell 1
   clear f0 f1 x0 x1
   generalize ((w2.setCell ⟨w.heap.size + 1,0,none⟩ (.int .i64 (3))).setCell ⟨w.heap.size + 1,1,none⟩ (.slice none 0 0)) = wE at *
   refine bodyPost_ret (v:=.agg #[.int .i64 (3),.slice none 0 0]) (by simp [results,results77,go_sem,r0,r1];try exact ⟨rfl,rfl⟩) rfl ⟨_,col,by rw [hr.out],by rw [hr.out];exact qC0.nil,by rw [hr.out];exact ⟨_,_,_,qBh.chg0 h2 hcE (by assumption)⟩,(ex2).newset hcE (by omega)⟩
  | some d =>
   have hdl:=qh (hvl d rfl)
   have hr : R = ((0,d),b.touch s):=hr1.out
   replace hr:=qh hr
   have CW2 : Calls prog 118 #[.pointer (some ⟨C,0,none⟩),.int .i64 (s : Int)] w1 fun e w'=>∃ v,e = .returned (.tuple #[v,.int .i64 0]) ∧ w'.ownsRow w1.heap.size 5 1 v d.length (qA1 d) ∧ qBh col w' P M C A vn vw b ∧ Ext 11 col col w1 w':=CW.mono (by rintro e w' ⟨v,h1,h2,h3,h4⟩;exact ⟨v,h1,h2 d rfl,h3,h4⟩)
   rw [hdl.out] at CW2
   clear CW hvl
   go_wp2_with fail
   refine CW2.mono ?_
   rintro e w2 ⟨v,rfl,hv,h2,e2⟩
   obtain ⟨va,vc,rfl⟩:=(Sl.of_own hv).len
   have row2 : w2.ownsRow w1.heap.size 5 1 (.slice va 32 vc) 32 (qA1 d) ∧ ∀ g,(Value.slice va 32 vc).ownBlock = some g → col g = 0:=⟨hv,qEB hv h1.top qle⟩
   obtain ⟨bT2,cT2⟩:=e2.blk0 bT1 cT
   have ex2:=ex1.trans e2
   have q4:=h2.blk.cell 4
   have CA:=qF5 h2.age h2.top s hs16 (by omega) (by omega)
   go_wp2_with fail
   refine CA.mono ?_
   rintro e w3 ⟨rfl,col3,ha,o3⟩
   have h3:=h2.aged ha o3
   have e3:=o3.ext (m:=11) (by decide) (by decide)
   obtain ⟨bT3,cT3⟩:=e3.blk0 bT2 cT2
   have row3:=e3.row0 row2
   have ex3:=ex2.trans e3
   clear q4
   have f0:=(bT3).free 0
   have f1:=(bT3).free 1
   have x0:=(bT3).cell 0
   have x1:=(bT3).cell 1
   go_wp2_with fail
   have bR:=((bT3).set 0 (.int .i64 (0))).set 1 (.slice va 32 vc)
   have hcE : Chg [w.heap.size + 1] w3 ((w3.setCell ⟨w.heap.size + 1,0,none⟩ (.int .i64 (0))).setCell ⟨w.heap.size + 1,1,none⟩ (.slice va 32 vc)):=((Chg.refl _ _).set qsm 0 _).set qsm 1 _
   have r0:=bR.cell 0
   have r1:=bR.cell 1
   clear f0 f1 x0 x1
   generalize ((w3.setCell ⟨w.heap.size + 1,0,none⟩ (.int .i64 (0))).setCell ⟨w.heap.size + 1,1,none⟩ (.slice va 32 vc)) = wE at *
   refine bodyPost_ret (v:=.agg #[.int .i64 (0),.slice va 32 vc]) (by simp [results,results77,go_sem,r0,r1];try exact ⟨rfl,rfl⟩) rfl ⟨_,col3,by rw [hr.out],by rw [hr.out];exact qC0.base ⟨by rw [hdl.out];exact qGb (row3).1 hcE (by omega),(row3).2⟩ (by omega),by rw [hr.out];exact ⟨_,_,_,qBh.chg0 h3 hcE (by assumption)⟩,(ex3).newset hcE (by omega)⟩
 | none =>
  rw [hsl] at CS
  unfold qDw at CS
  simp only at CS
  subst hlo1
  have hr1 : R = b.readD (o : Int) (b.x.dk.read o):=by rw [hr0.out,hsl];unfold Bx.readS;simp only [Int.toNat_natCast]
  obtain ⟨d,hd⟩ : ∃ d,d = b.x.dk.read o:=⟨_,rfl⟩
  rw [← hd] at hr1
  replace hr1:=qh hr1
  have HD:=qh hd
  clear hsl hd ho
  go_enter func77,ntmps77
  go_wp2_with fail
  rw [← hwA]
  clear hwA
  refine CS.mono ?_
  rintro e w1 ⟨rfl,hk1⟩
  have h1:=(h0.kept hkA).kept hk1
  have bT1:=bT.kept hk1
  have bX1:=bX.kept hk1
  have hk1s:=hk1.size
  have hszA:=bT.lt
  have ex1 : Ext 11 col col w w1:=Ext.kept h0.top (hkA.of hk1)
  go_wp2_with fail
  refine qA5 [(0,0),(1,0),(2,0),(3,0),(4,0),(5,0),(6,0),(7,0),(8,0),(9,1),(10,0),(11,0),(12,0),(13,0),(14,0)] (by kernel_rfl) (by kernel_rfl) ?_
  intro z1 hz1
  repeat
   refine qA0 _ rfl (fun K hK=>?_)
   first
    | (refine qqP (by rfl) ?_;apply Exists.intro;refine ⟨fun w' hw'=>?_,hK _ ?_⟩;(have q:=h1.blk.kept (hz1.of hw');have q0:=Blk.cell q 0;clear q;have d:=h1.wm.wd.blk.kept (hz1.of hw');have d3:=Blk.cell d 3;clear d;have p:=bX1.kept (hz1.of hw');have p1:=Blk.cell p 1;clear p;go_simp;first|done|rfl))
    | refine qqN (by rfl) (hK _ ?_)
   clear hK K;simp only [Act.put,qqB]
  refine qqH _ rfl (by rfl) (fun K hK=>?_)
  go_wp2_with fail
  refine (qOm (h1.wm.wd.kept hz1) g.f.x.ok (by omega) o ho32 hg).mono ?_
  rintro e z2 ⟨v,rfl,hv,hk2⟩
  obtain ⟨va,vc,rfl⟩:=(Sl.of_own hv).len
  go_wp2
  refine hK _ _ (hk2) ?_
  clear hK K
  try simp only [Act.put,qqB]
  repeat
   refine qA0 _ rfl (fun K hK=>?_)
   first
    | (refine qqP (by rfl) ?_;apply Exists.intro;refine ⟨fun w' hw'=>?_,hK _ ?_⟩;go_simp;first|done|rfl)
    | refine qqN (by rfl) (hK _ ?_)
   clear hK K;simp only [Act.put,qqB]
  refine qA7 ?_
  rw [← HD.out] at hv
  have hdl : Hid (d.length = 32):=qh (by have:=hv.1;rw [qA6] at this;omega)
  have h2:=(h1.kept hz1).kept hk2
  have bT2:=bT1.kept (hz1.of hk2)
  have bX2:=bX1.kept (hz1.of hk2)
  have row2 : z2.ownsRow z1.heap.size 5 1 (.slice va 32 vc) 32 (qA1 d) ∧ ∀ g,(Value.slice va 32 vc).ownBlock = some g → col g = 0:=⟨hv,qEB hv (h1.kept hz1).top qle⟩
  have ex2:=ex1.trans (Ext.kept (m:=11) h1.top (hz1.of hk2))
  have hz1s:=hz1.size
  have hk2s:=hk2.size
  have CF:=qF4 h2 (by omega) hwl (by omega)
  have CM:=qEQ M b.boot b.k g.f.k _ h2.wm.mkr
  have q1:=h2.blk.cell 1
  cases hf : b.c.free with
  | none =>
   rw [hf] at CF
   unfold qDw at CF
   simp only at CF
   have hr : R = ((0,d),b):=by rw [hr1.out];unfold Bx.readD;rw [hf];rfl
   replace hr:=qh hr
   clear hf CM
   go_wp2_with fail
   refine CF.mono ?_
   rintro e w3 ⟨rfl,rfl⟩
   have f0:=(bT2).free 0
   have f1:=(bT2).free 1
   have x0:=(bT2).cell 0
   have x1:=(bT2).cell 1
   go_wp2_with fail
   have bR:=((bT2).set 0 (.int .i64 (0))).set 1 (.slice va 32 vc)
   have hcE : Chg [w.heap.size + 1] z2 ((z2.setCell ⟨w.heap.size + 1,0,none⟩ (.int .i64 (0))).setCell ⟨w.heap.size + 1,1,none⟩ (.slice va 32 vc)):=((Chg.refl _ _).set qsm 0 _).set qsm 1 _
   have r0:=bR.cell 0
   have r1:=bR.cell 1
   clear f0 f1 x0 x1
   generalize ((z2.setCell ⟨w.heap.size + 1,0,none⟩ (.int .i64 (0))).setCell ⟨w.heap.size + 1,1,none⟩ (.slice va 32 vc)) = wE at *
   refine bodyPost_ret (v:=.agg #[.int .i64 (0),.slice va 32 vc]) (by simp [results,results77,go_sem,r0,r1];try exact ⟨rfl,rfl⟩) rfl ⟨_,col,by rw [hr.out],by rw [hr.out];exact qC0.base ⟨by rw [hdl.out];exact qGb (row2).1 hcE (by omega),(row2).2⟩ (by omega),by rw [hr.out];exact ⟨_,_,_,qBh.chg0 h2 hcE (by assumption)⟩,(ex2).newset hcE (by omega)⟩
  | some s =>
   rw [hf] at CF
   unfold qDw at CF
   simp only at CF
   have i0 : ¬ (s : Int) < 0:=by omega
   by_cases hk : b.k = 100
   · have hr : R = ((0,d),b):=by rw [hr1.out];unfold Bx.readD;rw [hf,hk];rfl
     rw [show ((100 - b.k : Nat) : Int) = 0 by omega] at CM
     replace hr:=qh hr
     clear hf hk
     go_wp2_with fail
     refine CF.mono ?_
     rintro e w3 ⟨rfl,rfl⟩
     go_wp2_with fail
     refine CM.mono ?_
     rintro e w4 ⟨rfl,rfl⟩
     clear q1
     have f0:=(bT2).free 0
     have f1:=(bT2).free 1
     have x0:=(bT2).cell 0
     have x1:=(bT2).cell 1
     go_wp2_with fail
     have bR:=((bT2).set 0 (.int .i64 (0))).set 1 (.slice va 32 vc)
     have hcE : Chg [w.heap.size + 1] z2 ((z2.setCell ⟨w.heap.size + 1,0,none⟩ (.int .i64 (0))).setCell ⟨w.heap.size + 1,1,none⟩ (.slice va 32 vc)):=((Chg.refl _ _).set qsm 0 _).set qsm 1 _
     have r0:=bR.cell 0
     have r1:=bR.cell 1
     clear f0 f1 x0 x1
     generalize ((z2.setCell ⟨w.heap.size + 1,0,none⟩ (.int .i64 (0))).setCell ⟨w.heap.size + 1,1,none⟩ (.slice va 32 vc)) = wE at *
     refine bodyPost_ret (v:=.agg #[.int .i64 (0),.slice va 32 vc]) (by simp [results,results77,go_sem,r0,r1];try exact ⟨rfl,rfl⟩) rfl ⟨_,col,by rw [hr.out],by rw [hr.out];exact qC0.base ⟨by rw [hdl.out];exact qGb (row2).1 hcE (by omega),(row2).2⟩ (by omega),by rw [hr.out];exact ⟨_,_,_,qBh.chg0 h2 hcE (by assumption)⟩,(ex2).newset hcE (by omega)⟩
   · obtain ⟨K,hK⟩ : ∃ K : Int,K = ((100 - b.k : Nat) : Int):=⟨_,rfl⟩
     rw [← hK] at CM
     have hk100 : b.k < 100:=by have:=g.f.k;omega
     have iK : ¬ K = 0:=by omega
     have iK2 : (K == 0) = false:=by simpa using iK
     have iK3 : decide (K = 0) = false:=by simpa using iK
     have hsl:=qDx hf
     have CL:=qPm h2 g.f (by omega) hk100 s hf (o : Int) (.slice va 32 vc) d hdl.out false (Sl.of_own row2.1)
     have g3:=g.lay (s:=s) (lba:=(o : Int)) (data:=d) hsl hdl.out hk100
     have hsp : R = if b.x.p.spend.1 then ((0,d),(b.lay s (o : Int) d).puts s (b.layF s (o : Int) d false)) else ((7,[]),b.lay s (o : Int) d):=by
      rw [hr1.out];unfold Bx.readD;rw [hf,show (b.k == 100) = false by simpa using hk];unfold Bx.readN Bx.lays;rw [if_neg hk,hf]
      cases b.x.p.spend.1 <;> rfl
     replace hsp:=qh hsp
     have g3q:=g3.qlen
     have g3n:=g3.n16
     have g3t:=g3.tk
     obtain ⟨S,hS⟩ : ∃ S,S = b.x.p.spend.1:=⟨_,rfl⟩
     have HS:=qh hS
     have hl3 : s < (b.lay s (o : Int) d).c.now.length:=hsl
     have l1:=bX2.cell 1
     clear hf hK
     cases S with
     | false =>
      rw [qNf hS.symm] at CL
      have hr : R = ((7,[]),b.lay s (o : Int) d):=by rw [hsp.out,← HS.out];rfl
      replace hr:=qh hr
      clear hS
      go_wp2_with fail
      refine CF.mono ?_
      rintro e w3 ⟨rfl,rfl⟩
      go_wp2_with fail
      refine CM.mono ?_
      rintro e w4 ⟨rfl,rfl⟩
      go_wp2_with fail
      refine CL.mono ?_
      rintro e w3 ⟨rfl,col3,h3,e3⟩
      obtain ⟨bT3,cT3⟩:=e3.blk0 bT2 cT
      have hkL : qA4 w3 (w3.alloc (.cells #[.int .i64 0,.bool false,.int .i64 0,W 0#32,W 0#32,U 0#64,U 0#64,U 0#64] 117)):=qal _
      have bTL:=bT3.kept hkL
      have exL:=(ex2.trans e3).trans (Ext.kept (m:=11) h3.top hkL)
      have hL:=h3.kept hkL
      clear l1 q1
      have f0:=(bTL).free 0
      have f1:=(bTL).free 1
      have x0:=(bTL).cell 0
      have x1:=(bTL).cell 1
      go_wp2_with fail
      have bR:=((bTL).set 0 (.int .i64 (7))).set 1 (.slice none 0 0)
      have hcE : Chg [w.heap.size + 1] (w3.alloc (.cells #[.int .i64 0,.bool false,.int .i64 0,W 0#32,W 0#32,U 0#64,U 0#64,U 0#64] 117)) (((w3.alloc (.cells #[.int .i64 0,.bool false,.int .i64 0,W 0#32,W 0#32,U 0#64,U 0#64,U 0#64] 117)).setCell ⟨w.heap.size + 1,0,none⟩ (.int .i64 (7))).setCell ⟨w.heap.size + 1,1,none⟩ (.slice none 0 0)):=((Chg.refl _ _).set qsm 0 _).set qsm 1 _
      have r0:=bR.cell 0
      have r1:=bR.cell 1
      clear f0 f1 x0 x1
      generalize (((w3.alloc (.cells #[.int .i64 0,.bool false,.int .i64 0,W 0#32,W 0#32,U 0#64,U 0#64,U 0#64] 117)).setCell ⟨w.heap.size + 1,0,none⟩ (.int .i64 (7))).setCell ⟨w.heap.size + 1,1,none⟩ (.slice none 0 0)) = wE at *
      refine bodyPost_ret (v:=.agg #[.int .i64 (7),.slice none 0 0]) (by simp [results,results77,go_sem,r0,r1];try exact ⟨rfl,rfl⟩) rfl ⟨_,col3,by rw [hr.out],by rw [hr.out];exact qC0.nil,by rw [hr.out];exact ⟨_,_,_,qBh.chg0 hL hcE (by assumption)⟩,(exL).newset hcE (by omega)⟩
     | true =>
      obtain ⟨F,hF⟩ : ∃ F,F = b.layF s (o : Int) d false:=⟨_,rfl⟩
      rw [qKA hS.symm hF] at CL
      have hr : R = ((0,d),(b.lay s (o : Int) d).puts s F):=by rw [hsp.out,← HS.out,hF];rfl
      replace hr:=qh hr
      clear hS hF
      go_wp2_with fail
      refine CF.mono ?_
      rintro e w3 ⟨rfl,rfl⟩
      go_wp2_with fail
      refine CM.mono ?_
      rintro e w4 ⟨rfl,rfl⟩
      go_wp2_with fail
      refine CL.mono ?_
      rintro e w3 ⟨rfl,col3,h3,e3⟩
      obtain ⟨bT3,cT3⟩:=e3.blk0 bT2 cT
      have hkL : qA4 w3 (w3.alloc (.cells #[.int .i64 F.kind,.bool F.dirty,.int .i64 F.lba,W F.ep,W F.sl,U F.ver,U F.tag.1,U F.tag.2] 117)):=qal _
      have bTL:=bT3.kept hkL
      have eL:=e3.trans (Ext.kept (m:=11) h3.top hkL)
      have exL:=ex2.trans eL
      have rowL:=eL.row0 row2
      have hL:=h3.kept hkL
      have CP:=qJS hL s hl3 g3n.1 (by omega) (by omega) F
      clear l1 q1
      go_wp2_with fail
      refine CP.mono ?_
      rintro e w4 ⟨rfl,col4,h4,e4⟩
      obtain ⟨bT4,cT4⟩:=e4.blk0 bTL cT3
      have ex4:=exL.trans e4
      have row4:=e4.row0 rowL
      have f0:=(bT4).free 0
      have f1:=(bT4).free 1
      have x0:=(bT4).cell 0
      have x1:=(bT4).cell 1
      go_wp2_with fail
      have bR:=((bT4).set 0 (.int .i64 (0))).set 1 (.slice va 32 vc)
      have hcE : Chg [w.heap.size + 1] w4 ((w4.setCell ⟨w.heap.size + 1,0,none⟩ (.int .i64 (0))).setCell ⟨w.heap.size + 1,1,none⟩ (.slice va 32 vc)):=((Chg.refl _ _).set qsm 0 _).set qsm 1 _
      have r0:=bR.cell 0
      have r1:=bR.cell 1
      clear f0 f1 x0 x1
      generalize ((w4.setCell ⟨w.heap.size + 1,0,none⟩ (.int .i64 (0))).setCell ⟨w.heap.size + 1,1,none⟩ (.slice va 32 vc)) = wE at *
      refine bodyPost_ret (v:=.agg #[.int .i64 (0),.slice va 32 vc]) (by simp [results,results77,go_sem,r0,r1];try exact ⟨rfl,rfl⟩) rfl ⟨_,col4,by rw [hr.out],by rw [hr.out];exact qC0.base ⟨by rw [hdl.out];exact qGb (row4).1 hcE (by omega),(row4).2⟩ (by omega),by rw [hr.out];exact ⟨_,_,_,qBh.chg0 h4 hcE (by assumption)⟩,(ex4).newset hcE (by omega)⟩
theorem qOQ {col : Nat → Nat} {w : World} {P : qAQ} {M C : Nat} {b : Bx} (h : qCG col w P M C b) {m : Nat} (f : b.fine m) (hm : m ≤ 40000) (kd lba : Int) (a : Option Addr) (n c : Nat) : Calls prog 79 #[.pointer (some ⟨C,0,none⟩),.agg #[.int .i64 kd,.int .i64 lba,.slice a n c]] w fun e w'=>e = .returned (.agg #[.int .i64 b.commit.1,.slice none 0 0]) ∧ qG5 col w P M C b.commit.2 w':=by
 obtain ⟨A,vn,vw,h0⟩:=h
 obtain ⟨wA,hwA⟩ : ∃ y,y = ((w.alloc (.cells #[.int .i64 kd,.int .i64 lba,.slice a n c] 34)).alloc (.cells #[.int .i64 0,.slice none 0 0] 39)):=⟨_,rfl⟩
 have hkA : qA4 w wA:=by rw [hwA];exact (qal _).alloc (by simp) _
 have bT : Blk wA (w.heap.size + 1) #[.int .i64 0,.slice none 0 0] 39:=by
  rw [hwA]
  have:=Blk.new (w.alloc (.cells #[.int .i64 kd,.int .i64 lba,.slice a n c] 34)) #[.int .i64 0,.slice none 0 0] 39
  rw [World.size_alloc] at this
  exact this
 have CC:=qCQ (h0.kept hkA) f (by omega)
 obtain ⟨E,hE⟩ : ∃ E,E = b.commit.1:=⟨_,rfl⟩
 rw [← hE] at CC ⊢
 clear hE
 go_enter func79,ntmps79
 go_wp2_with fail
 rw [← hwA]
 clear hwA
 refine CC.mono ?_
 rintro e w2 ⟨rfl,col2,⟨A2,vn2,vw2,h2⟩,e2⟩
 obtain ⟨hb,hc0⟩:=e2.blk0 bT (h0.top _ (by omega))
 have f0:=hb.free 0
 have f1:=hb.free 1
 have x0:=hb.cell 0
 have x1:=hb.cell 1
 go_wp2_with fail
 have bR:=(hb.set 0 (.int .i64 E)).set 1 (.slice none 0 0)
 have hcE : Chg [w.heap.size + 1] w2 ((w2.setCell ⟨w.heap.size + 1,0,none⟩ (.int .i64 E)).setCell ⟨w.heap.size + 1,1,none⟩ (.slice none 0 0)):=((Chg.refl _ _).set qsm 0 _).set qsm 1 _
 have r0:=bR.cell 0
 have r1:=bR.cell 1
 generalize ((w2.setCell ⟨w.heap.size + 1,0,none⟩ (.int .i64 E)).setCell ⟨w.heap.size + 1,1,none⟩ (.slice none 0 0)) = w3 at *
 refine bodyPost_ret (v:=.agg #[.int .i64 E,.slice none 0 0]) (by simp [results,results79,go_sem,r0,r1];try exact ⟨rfl,rfl⟩) rfl ⟨rfl,col2,⟨A2,vn2,vw2,h2.chg0 hcE hc0⟩,((Ext.kept (m:=11) h0.top hkA).trans e2).newset hcE (by omega)⟩
end Go.Proofs.YtdlgihbpiakebaaGreat
