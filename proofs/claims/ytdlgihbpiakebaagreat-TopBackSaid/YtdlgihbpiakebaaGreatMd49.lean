import Derived.Test.YtdlgihbpiakebaaGreatMd45
import Derived.Test.YtdlgihbpiakebaaGreatMd48
import Derived.Handy
set_option maxRecDepth 100000
set_option maxHeartbeats 4000000
namespace Go.Proofs.YtdlgihbpiakebaaGreat
open Go Go.RowKit Tryz
structure Ca where
 now : List Lf
 was : List Lf
 age : Ag
 bad : Bool
structure Bx where
 x : Wd
 boot : BitVec 64
 k : Nat
 c : Ca
def qJM (col : Nat → Nat) (w : World) (A : Nat) (a : Ag) : Prop:=∃ Q v,qHG w A Q v a ∧ col A = 11 ∧ col Q = 11 ∧ (∀ g,v.ownBlock = some g → col g = 11)
structure qBh (col : Nat → Nat) (w : World) (P : qAQ) (M C A : Nat) (vn vw : Value) (b : Bx) : Prop where
 wm : WM col w P b.x M b.boot b.k
 blk : Blk w C #[.pointer (some ⟨P.W,0,none⟩),.pointer (some ⟨M,0,none⟩),vn,vw,.pointer (some ⟨A,0,none⟩),.bool b.c.bad] 121
 cC : col C = 9
 now : w.ownsRow 0 117 8 vn b.c.now.length (qAu b.c.now)
 was : w.ownsRow 0 117 8 vw b.c.was.length (qAu b.c.was)
 cn : ∀ g,vn.ownBlock = some g → col g = 10
 cw : ∀ g,vw.ownBlock = some g → col g = 10
 ne : ∀ g,vn.ownBlock = some g → vw.ownBlock ≠ some g
 age : qJM col w A b.c.age
def qCG (col : Nat → Nat) (w : World) (P : qAQ) (M C : Nat) (b : Bx) : Prop:=∃ A vn vw,qBh col w P M C A vn vw b
def qG5 (col : Nat → Nat) (w : World) (P : qAQ) (M C : Nat) (b : Bx) (w' : World) : Prop:=∃ col',qCG col' w' P M C b ∧ Ext 11 col col' w w'
structure Bx.fine (b : Bx) (m : Nat) : Prop where
 x : b.x.fine m
 k : b.k ≤ 100
 nl : b.c.now.length = b.x.n
 wl : b.c.was.length = b.x.n
 nok : qB7 b.c.now
 wok : qB7 b.c.was
section
variable {col col' : Nat → Nat} {w w' : World} {P : qAQ} {M C A : Nat} {vn vw : Value} {b : Bx}
theorem qHG.same {A Q : Nat} {v : Value} {a : Ag} (h : qHG w A Q v a) (hs : qAZ 11 col col' w w') (cA : col A = 11) (cQ : col Q = 11) (cv : ∀ g,v.ownBlock = some g → col g = 11) : qHG w' A Q v a :=
 ⟨h.len,h.slots,(hs.blk h.age cA).1,(hs.blk h.que cQ).1,hs.own h.row cv⟩
theorem qJM.frame {A : Nat} {a : Ag} (h : qJM col w A a) (hs : qAZ 11 col col' w w') : qJM col' w' A a:=by
 obtain ⟨Q,v,h1,c1,c2,c3⟩:=h
 exact ⟨Q,v,h1.same hs c1 c2 c3,(hs.blk h1.age c1).2,(hs.blk h1.que c2).2,fun g hg=>hs.old g (qAo h1.row hg) (c3 g hg)⟩
theorem qBh.world (h : qBh col w P M C A vn vw b) {x' : Wd} {boot' : BitVec 64} {k' : Nat} (hw : WM col' w' P x' M boot' k') (e : Ext 8 col col' w w') : qBh col' w' P M C A vn vw ⟨x',boot',k',b.c⟩:=by
 obtain ⟨b9,d9⟩:=(e.same (i:=9) (by omega)).blk h.blk h.cC
 have s10:=e.same (i:=10) (by omega)
 exact ⟨hw,b9,d9,s10.own h.now h.cn,s10.own h.was h.cw,fun g hg=>s10.old g (qAo h.now hg) (h.cn g hg),fun g hg=>s10.old g (qAo h.was hg) (h.cw g hg),h.ne,h.age.frame (e.same (by omega))⟩
theorem qBh.kept (h : qBh col w P M C A vn vw b) (hk : qA4 w w') : qBh col w' P M C A vn vw b :=
 h.world (h.wm.kept hk) (Ext.kept h.wm.wd.top hk)
theorem qBh.top (h : qBh col w P M C A vn vw b) : Top col w:=h.wm.wd.top
theorem Bx.fine.up {m n : Nat} (f : b.fine m) (hm : m ≤ n) : b.fine n:=⟨f.x.up hm,f.k,f.nl,f.wl,f.nok,f.wok⟩
theorem qBh.chg0 {g : Nat} (h : qBh col w P M C A vn vw b) (hc : Chg [g] w w') (hg : col g = 0) : qBh col w' P M C A vn vw b:=by
 have hb : ∀ x ∈ [g],col x = 0:=fun x hx=>by rw [List.mem_singleton.1 hx];exact hg
 have s : ∀ j,0 ≠ j → qAZ j col col w w':=fun j hj=>qAZ.chg hc fun x hx=>by rw [hb x hx];exact hj
 obtain ⟨b9,d9⟩:=(s 9 (by decide)).blk h.blk h.cC
 exact ⟨⟨h.wm.wd.chg hc (fun x hx=>.inl (hb x hx)),((s 8 (by decide)).blk h.wm.mkr h.wm.cM).1,h.wm.cM⟩,b9,d9,(s 10 (by decide)).own h.now h.cn,(s 10 (by decide)).own h.was h.cw,h.cn,h.cw,h.ne,h.age.frame (s 11 (by decide))⟩
theorem qBP {B n g cap : Nat} {ls : List Lf} (h : w.ownsRow B 117 8 (.slice (some ⟨g,0,none⟩) n cap) n (qAu ls)) (i : Nat) (y : Lf) (hy : ls[i]? = some y) : ∀ j u,y.cells[j]? = some u → w.cell? ⟨g,i * 8 + j,none⟩ = some u:=fun j u hj=>by
 have hc:=qDH ls i y hy j u hj
 have hl:=(List.getElem?_eq_some_iff.1 hc).1
 obtain ⟨b',off,cap',e,_,_,_,hx⟩:=(Sl.of_own h).at (by omega)
 cases e
 have:=hx _ u hc
 rw [Nat.zero_add] at this
 exact this
end
def Ca.isFree (c : Ca) (s : Nat) : Bool:=((c.now[s]?.getD Lf.zero).kind == 0) && ((c.was[s]?.getD Lf.zero).kind == 0)
def Ca.free (c : Ca) : Option Nat:=(List.range c.now.length).find? c.isFree
def Ca.slot (c : Ca) (lba : Int) : Option Nat:=(List.range c.now.length).find? fun s=>((c.now[s]?.getD Lf.zero).kind != 0) && ((c.now[s]?.getD Lf.zero).lba == lba)
def qDw (o : Option Nat) : Int:=match o with | none=>-1 | some s=>(s : Int)
theorem qN3 {col : Nat → Nat} {w : World} {P : qAQ} {M C A : Nat} {vn vw : Value} {b : Bx} (h : qBh col w P M C A vn vw b) (s : Nat) (hn : s < b.c.now.length) (hw : s < b.c.was.length) : Calls prog 157 #[.pointer (some ⟨C,0,none⟩),.int .i64 (s : Int)] w fun e w'=>e = .returned (.bool (b.c.isFree s)) ∧ w = w':=by
 have q2:=h.blk.cell 2
 have q3:=h.blk.cell 3
 obtain ⟨g1,c1,hv1⟩:=qAx h.now (by omega)
 obtain ⟨g2,c2,hv2⟩:=qAx h.was (by omega)
 have hnow:=h.now
 have hwas:=h.was
 subst hv1
 subst hv2
 obtain ⟨y1,hy1⟩ : ∃ y,y = b.c.now[s]:=⟨_,rfl⟩
 obtain ⟨y2,hy2⟩ : ∃ y,y = b.c.was[s]:=⟨_,rfl⟩
 have e1 : b.c.now[s]? = some y1:=by rw [List.getElem?_eq_getElem hn,hy1]
 have e2 : b.c.was[s]? = some y2:=by rw [List.getElem?_eq_getElem hw,hy2]
 have d1 : w.cell? ⟨g1,s * 8,none⟩ = some (.int .i64 y1.kind):=qBP hnow s y1 e1 0 _ rfl
 have d2 : w.cell? ⟨g2,s * 8,none⟩ = some (.int .i64 y2.kind):=qBP hwas s y2 e2 0 _ rfl
 have hr : b.c.isFree s = ((y1.kind == 0) && (y2.kind == 0)):=by unfold Ca.isFree;rw [e1,e2];rfl
 rw [hr]
 obtain ⟨n1,hn1⟩ : ∃ n,n = b.c.now.length:=⟨_,rfl⟩
 obtain ⟨n2,hn2⟩ : ∃ n,n = b.c.was.length:=⟨_,rfl⟩
 rw [← hn1] at hn q2
 rw [← hn2] at hw q3
 have i1 : (s : Int) < (n1 : Int):=by omega
 have i2 : (s : Int) < (n2 : Int):=by omega
 have i3 : (0 : Int) ≤ (s : Int):=by omega
 clear hy1 hy2 e1 e2 hr hn1 hn2 hnow hwas
 by_cases hk1 : y1.kind = 0
 · by_cases hk2 : y2.kind = 0
   · rw [hk1] at d1 ⊢
     rw [hk2] at d2 ⊢
     clear hk1 hk2
     go_enter func157,ntmps157
     go_wp2
     go_ret
     exact ⟨rfl,rfl⟩
   · rw [hk1] at d1 ⊢
     clear hk1
     have hb : (y2.kind == 0) = false:=by simpa using hk2
     go_enter func157,ntmps157
     go_wp2
     go_ret
     refine ⟨?_,rfl⟩
     simp [hk2]
 · have hb : (y1.kind == 0) = false:=by simpa using hk1
   go_enter func157,ntmps157
   go_wp2
   go_ret
   refine ⟨?_,rfl⟩
   simp [hk1]
theorem qF4 {col : Nat → Nat} {w : World} {P : qAQ} {M C A : Nat} {vn vw : Value} {b : Bx} (h : qBh col w P M C A vn vw b) (hn : 0 < b.c.now.length) (hw : b.c.was.length = b.c.now.length) (hm : b.c.now.length ≤ 100) : Calls prog 120 #[.pointer (some ⟨C,0,none⟩)] w fun e w'=>e = .returned (.int .i64 (qDw b.c.free)) ∧ w = w':=by
 have q2:=h.blk.cell 2
 obtain ⟨g1,c1,hv1⟩:=qAx h.now (by omega)
 have CF:=fun s hs=>qN3 h s hs (by rw [hw];exact hs)
 obtain ⟨N,hN⟩ : ∃ N,N = b.c.now.length:=⟨_,rfl⟩
 rw [← hN] at hn hm CF
 rw [hv1] at q2
 rw [← hN] at q2
 have i1 : (N : Int) ≤ 100:=by omega
 have HN:=qh hN
 clear hN hw hv1
 obtain ⟨R,hR⟩ : ∃ y,y = qDw b.c.free:=⟨_,rfl⟩
 rw [← hR]
 have HR:=qh hR
 clear hR
 go_enter func120,ntmps120
 go_wp2_with fail
 go_loopw [9] (fun i wr=>∃ k : Nat,i = .int .i64 k ∧ k ≤ N ∧ w = wr ∧ ∀ j,j < k → b.c.isFree j = false) (fun i _=>N - (intOf i).toNat)
 case atStart=>exact ⟨0,rfl,by omega,(by first | trivial | rfl),fun j hj=>by omega⟩
 case round =>
  obtain ⟨k,rfl,hk,rfl,hall⟩:=hrel
  by_cases hlt : k < N
  · have m1 : (k : Int) < (N : Int):=by omega
    have m2 : (0 : Int) ≤ (k : Int):=by omega
    have CC:=CF k hlt
    obtain ⟨B,hB⟩ : ∃ y,y = b.c.isFree k:=⟨_,rfl⟩
    rw [← hB] at CC
    have HB:=qh hB
    clear hB CF
    go_wp2_with fail
    refine CC.mono ?_
    rintro e w2 ⟨rfl,rfl⟩
    cases B with
    | true =>
     have hr : R = (k : Int):=by
      rw [HR.out]
      have : b.c.free = some k:=List.find?_range_eq_some.2 ⟨HB.out.symm,List.mem_range.2 (by rw [← HN.out];exact hlt),fun j hj=>by rw [hall j hj];rfl⟩
      rw [this];rfl
     replace hr:=qh hr
     go_wp2_with fail
     refine bodyPost_ret (v:=.int .i64 (k : Int)) (by simp [results,results120,go_sem];done) rfl ⟨by rw [hr.out],rfl⟩
    | false =>
     go_wp2_with fail
     refine ⟨⟨k + 1,rfl,by omega,(by first | trivial | rfl),fun j hj=>?_⟩,by simp [intOf];omega⟩
     by_cases hjk : j = k
     · subst hjk;exact HB.out.symm
     · exact hall j (by omega)
  · have hr : R = -1:=by
     rw [HR.out]
     have : b.c.free = none:=List.find?_range_eq_none.2 (fun j hj=>by rw [hall j (by rw [← HN.out] at hj;omega)];rfl)
     rw [this];rfl
    replace hr:=qh hr
    have m3 : ¬ (k : Int) < (N : Int):=by omega
    clear hlt CF
    go_wp2_with fail
    refine bodyPost_ret (v:=.int .i64 (-1)) (by simp [results,results120,go_sem];done) rfl ⟨by rw [hr.out],rfl⟩
def Lf.has (y : Lf) (lba : Int) : Bool:=(y.kind != 0) && (y.lba == lba)
def qN4 (ls : List Lf) (lba : Int) : Option Nat:=(List.range ls.length).find? fun s=>(ls[s]?.getD Lf.zero).has lba
theorem qLz (c : Ca) (lba : Int) : qN4 c.now lba = c.slot lba:=rfl
theorem qOL (y : Lf) (G : Nat) (lba : Int) (w : World) (hG : Blk w G #[.int .i64 lba] 3) : Calls prog 153 #[.agg #[.int .i64 y.kind,.bool y.dirty,.int .i64 y.lba,W y.ep,W y.sl,U y.ver,U y.tag.1,U y.tag.2],.pointer (some ⟨G,0,none⟩)] w fun e w'=>e = .returned (.bool (y.has lba)) ∧ qA4 w w':=by
 have hkA : qA4 w (w.alloc (.cells #[.int .i64 y.kind,.bool y.dirty,.int .i64 y.lba,W y.ep,W y.sl,U y.ver,U y.tag.1,U y.tag.2] 117)):=qal _
 have bY:=Blk.new w #[.int .i64 y.kind,.bool y.dirty,.int .i64 y.lba,W y.ep,W y.sl,U y.ver,U y.tag.1,U y.tag.2] 117
 have d0:=bY.cell 0
 have d2:=bY.cell 2
 have g0:=(hG.kept hkA).cell 0
 unfold Lf.has
 obtain ⟨k,hk⟩ : ∃ k,k = y.kind:=⟨_,rfl⟩
 by_cases h0 : y.kind = 0
 · rw [h0] at d0 hkA bY d2 g0 ⊢
   clear h0 hk
   go_enter func153,ntmps153
   go_wp2
   go_ret
   exact ⟨rfl,hkA⟩
 · have hb : (y.kind != 0) = true:=by simpa using h0
   have hb2 : (y.kind == 0) = false:=by simpa using h0
   rw [hb]
   clear hk
   go_enter func153,ntmps153
   go_wp2
   go_ret
   exact ⟨by simp,hkA⟩
theorem qRa (g cap : Nat) (ls : List Lf) (hm : ls.length ≤ 100) (hn : 0 < ls.length) (G : Nat) (lba : Int) (w : World) (hG : Blk w G #[.int .i64 lba] 3) (h : w.ownsRow 0 117 8 (.slice (some ⟨g,0,none⟩) ls.length cap) ls.length (qAu ls)) :
 Calls prog 152 #[.slice (some ⟨g,0,none⟩) ls.length cap,(.func (.func 153) #[] #[.pointer (some ⟨G,0,none⟩)])] w fun e w'=>e = .returned (.int .i64 (qDw (qN4 ls lba))) ∧ qA4 w w':=by
 obtain ⟨N,hN⟩ : ∃ N,N = ls.length:=⟨_,rfl⟩
 rw [← hN] at hn hm h ⊢
 have HN:=qh hN
 have i1 : (N : Int) ≤ 100:=by omega
 obtain ⟨R,hR⟩ : ∃ y,y = qDw (qN4 ls lba):=⟨_,rfl⟩
 rw [← hR]
 have HR:=qh hR
 clear hN hR
 go_enter func152,ntmps152
 go_wp2_with fail
 go_loopw [8] (fun i wr=>∃ k : Nat,i = .int .i64 k ∧ k ≤ N ∧ qA4 w wr ∧ ∀ j,j < k → (ls[j]?.getD Lf.zero).has lba = false) (fun i _=>N - (intOf i).toNat)
 case atStart=>exact ⟨0,rfl,by omega,Below.refl _ _,fun j hj=>by omega⟩
 case round =>
  obtain ⟨k,rfl,hk,hkr,hall⟩:=hrel
  by_cases hlt : k < N
  · have m1 : (k : Int) < (N : Int):=by omega
    have m2 : (0 : Int) ≤ (k : Int):=by omega
    have hkl : k < ls.length:=by rw [← HN.out];exact hlt
    obtain ⟨y,hy⟩ : ∃ y,y = ls[k]:=⟨_,rfl⟩
    have hky : ls[k]? = some y:=by rw [List.getElem?_eq_getElem hkl,hy]
    have hw:=qBP (qA3 h hkr) k y hky
    have d0 : wr.cell? ⟨g,k * 8,none⟩ = some (.int .i64 y.kind):=hw 0 _ rfl
    have d1 : wr.cell? ⟨g,k * 8 + 1,none⟩ = some (.bool y.dirty):=hw 1 _ rfl
    have d2 : wr.cell? ⟨g,k * 8 + 2,none⟩ = some (.int .i64 y.lba):=hw 2 _ rfl
    have d3 : wr.cell? ⟨g,k * 8 + 3,none⟩ = some (W y.ep):=hw 3 _ rfl
    have d4 : wr.cell? ⟨g,k * 8 + 4,none⟩ = some (W y.sl):=hw 4 _ rfl
    have d5 : wr.cell? ⟨g,k * 8 + 5,none⟩ = some (U y.ver):=hw 5 _ rfl
    have d6 : wr.cell? ⟨g,k * 8 + 6,none⟩ = some (U y.tag.1):=hw 6 _ rfl
    have d7 : wr.cell? ⟨g,k * 8 + 7,none⟩ = some (U y.tag.2):=hw 7 _ rfl
    have HKY:=qh hky
    clear hw hy hky
    go_wp2_with fail
    refine (qOL y G lba wr (hG.kept hkr)).mono ?_
    rintro e w2 ⟨rfl,hk2⟩
    obtain ⟨B,hB⟩ : ∃ b,b = y.has lba:=⟨_,rfl⟩
    rw [← hB]
    have HB:=qh hB
    clear hB
    have hgd : ls[k]?.getD Lf.zero = y:=by rw [HKY.out];rfl
    replace hgd:=qh hgd
    cases B with
    | true =>
     have hr : R = (k : Int):=by
      rw [HR.out]
      have : qN4 ls lba = some k:=List.find?_range_eq_some.2 ⟨by rw [hgd.out];exact HB.out.symm,List.mem_range.2 (by rw [← HN.out];exact hlt),fun j hj=>by rw [hall j hj];rfl⟩
      rw [this];rfl
     replace hr:=qh hr
     go_wp2_with fail
     refine bodyPost_ret (v:=.int .i64 (k : Int)) (by simp [results,results152,go_sem];done) rfl ⟨by rw [hr.out],hkr.of hk2⟩
    | false =>
     go_wp2_with fail
     refine ⟨⟨k + 1,rfl,by omega,hkr.of hk2,fun j hj=>?_⟩,by simp [intOf];omega⟩
     by_cases hjk : j = k
     · subst hjk;rw [hgd.out];exact HB.out.symm
     · exact hall j (by omega)
  · have hr : R = -1:=by
     rw [HR.out]
     have : qN4 ls lba = none:=List.find?_range_eq_none.2 (fun j hj=>by rw [hall j (by rw [← HN.out] at hj;omega)];rfl)
     rw [this];rfl
    replace hr:=qh hr
    have m3 : ¬ (k : Int) < (N : Int):=by omega
    clear hlt
    go_wp2_with fail
    refine bodyPost_ret (v:=.int .i64 (-1)) (by simp [results,results152,go_sem];done) rfl ⟨by rw [hr.out],hkr⟩
theorem qN5 {col : Nat → Nat} {w : World} {P : qAQ} {M C A : Nat} {vn vw : Value} {b : Bx} (h : qBh col w P M C A vn vw b) (lba : Int) (hn : 0 < b.c.now.length) (hm : b.c.now.length ≤ 100) : Calls prog 117 #[.pointer (some ⟨C,0,none⟩),.int .i64 lba] w fun e w'=>e = .returned (.int .i64 (qDw (b.c.slot lba))) ∧ qA4 w w':=by
 have hkA : qA4 w (w.alloc (.cells #[.int .i64 lba] 3)):=qal _
 have bG:=Blk.new w #[.int .i64 lba] 3
 have q2:=(h.blk.kept hkA).cell 2
 obtain ⟨g1,c1,hv1⟩:=qAx h.now hn
 have hnow:=qA3 h.now hkA
 rw [hv1] at hnow q2
 have CI:=qRa g1 c1 b.c.now hm hn w.heap.size lba (w.alloc (.cells #[.int .i64 lba] 3)) bG hnow
 rw [qLz] at CI
 clear hv1 hnow
 go_enter func117,ntmps117
 go_wp2_with fail
 refine CI.mono ?_
 rintro e w2 ⟨rfl,hk2⟩
 go_wp2
 go_ret
 exact ⟨rfl,hkA.of hk2⟩
theorem qJN {w : World} {g : Nat} (h : Blk w g #[] 117) : w.ownsRow g 117 8 (.slice (some ⟨g,0,none⟩) 0 0) 0 [] :=
 ⟨rfl,.inr ⟨g,0,#[],rfl,Nat.le_refl _,h,Nat.le_refl _,Nat.zero_le _,rfl,rfl⟩⟩
theorem qAZ.paint {i j : Nat} {col : Nat → Nat} {w w' : World} (hk : qA4 w w') : qAZ j col (qAj col i w w') w w' :=
 ⟨hk.size,fun k hl hc=>by rw [qAc hl];exact hc,fun k hl _=>hk.block k hl⟩
theorem Ext.paint {i m : Nat} {col : Nat → Nat} {w w' : World} (ht : Top col w) (hk : qA4 w w') (hi : i ≤ m) : Ext m col (qAj col i w w') w w' :=
 ⟨hk.os,hk.tape,hk.output,hk.size,fun k hl=>qAc hl,fun k hl=>by
  unfold Go.Proofs.YtdlgihbpiakebaaGreat.qAj
  split
  · exact hi
  · rw [ht k hl];omega,fun k hl=>by
  unfold Go.Proofs.YtdlgihbpiakebaaGreat.qAj
  rw [if_neg (by omega)]
  exact ht k (Nat.le_trans hk.size hl),fun k hl _=>hk.block k hl⟩
theorem WM.paint {i : Nat} {col : Nat → Nat} {w w' : World} {P : qAQ} {x : Wd} {M : Nat} {boot : BitVec 64} {k : Nat} (h : WM col w P x M boot k) (hk : qA4 w w') (hi : 8 < i) : WM (qAj col i w w') w' P x M boot k:=by
 refine ⟨h.wd.free (fun j _ _=>qAZ.paint hk) (Ext.paint (m:=i) h.wd.top hk qle).top (fun j hl hc=>?_),Blk.kept h.mkr hk,?_⟩
 · by_cases hj : j < w.heap.size
   · rw [qAc hj] at hc;exact ⟨hj,hc⟩
   · rw [qAl (by omega) hl] at hc;omega
 · rw [qAc (Blk.lt h.mkr)];exact h.cM
theorem qKw (g cap : Nat) (ls : List Lf) (hm : ls.length ≤ 1000) (w : World) (h : w.ownsRow 0 117 8 (.slice (some ⟨g,0,none⟩) ls.length cap) ls.length (qAu ls)) :
 Calls prog 47 #[.slice (some ⟨g,0,none⟩) ls.length cap] w fun e w'=>∃ v,e = .returned v ∧ w'.ownsRow w.heap.size 117 8 v ls.length (qAu ls) ∧ qA4 w w':=by
 obtain ⟨N,hN⟩ : ∃ N,N = ls.length:=⟨_,rfl⟩
 rw [← hN] at hm h ⊢
 have HN:=qh hN
 have hkA : qA4 w (w.alloc (.cells #[] 117)):=qal _
 have h0:=qJN (Blk.new w #[] 117)
 have hs:=(Sl.of_own h).kept hkA
 have hlen : (qAu ls).length = N * 8:=by rw [qBg,hN]
 replace hlen:=qh hlen
 clear hN
 have hnil:=fun (wx : World) a n c=>Lib.run_eql_slice_nil (P:=prog) wx 105 117 a n c 0 0 underlying105
 go_enter func47,ntmps47
 go_wp2_with (at_builtin;refine qB6 qEA rfl (by rfl) (by rfl) (by rfl) h0 hs hlen.out (qGU ls) (by unfold maxLen;omega) (by omega) (by simp) ?_;intro v4 w4 hown4 hg4 hat4 _)
 go_ret
 refine ⟨_,rfl,?_,hkA.trans (hg4.below (fun i hi=>(h0.lt i hi).1) hkA.size)⟩
 have e : (0 + N) = N:=by omega
 rw [e,List.nil_append] at hown4
 exact hown4
def Bx.commit (b : Bx) : Int × Bx :=
 ((b.x.commit b.boot b.k b.c.now).1,⟨(b.x.commit b.boot b.k b.c.now).2.1,b.boot,(b.x.commit b.boot b.k b.c.now).2.2,if (b.x.commit b.boot b.k b.c.now).1 = 0 then { b.c with was:=b.c.now } else b.c⟩)
theorem qCA {x : Wd} {boot : BitVec 64} {k : Nat} {ls : List Lf} : (x.commit boot k ls).2.1.n = x.n:=by
 unfold Wd.commit
 split
 · exact qCz.1
 split
 · exact qAE.1
 split
 · exact qAU.1
 split
 · exact qAU.1
 split
 · exact qAU.1
 · exact qAU.1
theorem qLA {x : Wd} {boot : BitVec 64} {k : Nat} {ls : List Lf} (hk : k ≤ 100) : (x.commit boot k ls).2.2 ≤ 100:=by
 unfold Wd.commit
 split
 · exact hk
 split
 · exact hk
 split
 · exact qHD hk
 split
 · exact qHD hk
 split
 · exact qHD hk
 · exact qHD hk
theorem Bx.fine.commit {b : Bx} {m : Nat} (f : b.fine m) : b.commit.2.fine (m + 39):=by
 refine ⟨f.x.commit f.nl,qLA f.k,?_,?_,?_,?_⟩
 · show (if _ then { b.c with was:=b.c.now } else b.c : Ca).now.length = _
   rw [show (b.commit.2).x.n = b.x.n from qCA]
   split <;> exact f.nl
 · show (if _ then { b.c with was:=b.c.now } else b.c : Ca).was.length = _
   rw [show (b.commit.2).x.n = b.x.n from qCA]
   split
   · exact f.nl
   · exact f.wl
 · show qB7 (if _ then { b.c with was:=b.c.now } else b.c : Ca).now
   split <;> exact f.nok
 · show qB7 (if _ then { b.c with was:=b.c.now } else b.c : Ca).was
   split
   · exact f.nok
   · exact f.wok
theorem Ext.sameOn8 {m : Nat} {col0 col col' : Nat → Nat} {w0 w w' : World} (h : Ext m col col' w w') (hc : ∀ k,k < w0.heap.size → col k = col0 k) : qA8 (fun k=>k < w0.heap.size ∧ (col0 k = 0 ∨ m < col0 k)) w w':=h.sameOn hc
theorem Ext.sameC {m : Nat} {col : Nat → Nat} {w w' : World} (_ : Ext m col col w w') (j C : Nat) (hC : col C = 9) (hc : Chg [C] w w') (hj : 9 ≠ j) : qAZ j col col w w' :=
 qAZ.chg hc (fun b hb=>by rw [List.mem_singleton] at hb;subst hb;rw [hC];exact hj)
theorem qCQ {col : Nat → Nat} {w : World} {P : qAQ} {M C A : Nat} {vn vw : Value} {b : Bx} (h : qBh col w P M C A vn vw b) {m : Nat} (f : b.fine m) (hm : m ≤ 60000) : Calls prog 113 #[.pointer (some ⟨C,0,none⟩)] w fun e w'=>e = .returned (.int .i64 b.commit.1) ∧ qG5 col w P M C b.commit.2 w':=by
 have hn16:=qAm f.x.ok.sl
 have hnl:=f.nl
 have hn0 : 0 < b.c.now.length:=by omega
 have hn1 : b.c.now.length ≤ 100:=by omega
 replace hnl:=qh hnl
 obtain ⟨g1,c1,hv1⟩:=qAx h.now hn0
 subst hv1
 obtain ⟨E,hE⟩ : ∃ y,y = (b.x.commit b.boot b.k b.c.now).1:=⟨_,rfl⟩
 have HE:=qh hE
 rw [show b.commit.1 = E from hE.symm]
 clear hE
 go_enter func113,ntmps113
 go_wp2_with fail
 refine qAe (qA8 (fun k=>k < w.heap.size ∧ (col k = 0 ∨ 8 < col k))) [(0,0),(1,0),(2,0),(3,0),(4,0),(5,0),(6,0),(7,0),(8,0),(9,0),(10,0),(11,0),(12,1),(13,0)] (by kernel_rfl) (by kernel_rfl) ?_ ?_ ?_
 · exact fun _=>qA8.refl _
 · exact fun _ _ _ h1 h2=>h1.trans h2
 intro z1 hz1
 have h1:=h.kept hz1
 have bC:=h1.blk
 repeat
  refine qA0 _ rfl (fun K hK=>?_)
  first
   | (refine qqP (by rfl) ?_;apply Exists.intro;refine ⟨fun w' hw'=>?_,hK _ ?_⟩;(have c:=(hw'.block _ bC.lt ⟨h.blk.lt,.inr (by rw [h.cC];decide)⟩).trans bC;have c0:=Blk.cell c 0;have c1:=Blk.cell c 1;have c2:=Blk.cell c 2;clear c;go_simp;first|done|rfl))
   | refine qqN (by rfl) (hK _ ?_)
  clear hK K;simp only [Act.put,qqB]
 refine qqH _ rfl (by rfl) (fun K hK=>?_)
 go_wp2_with fail
 refine (qMT h1.wm f.x (by omega) f.k _ b.c.now f.nl f.nok (Sl.of_own h1.now)).mono ?_
 rintro e z2 ⟨rfl,col1,hW2,e2⟩
 rw [← HE.out]
 have S2:=e2.sameOn8 (w0:=w) (col0:=col) (fun k hk=>rfl)
 go_wp2
 refine hK _ _ (S2) ?_
 clear hK K
 try simp only [Act.put,qqB]
 repeat
  refine qA0 _ rfl (fun K hK=>?_)
  first
   | (refine qqP (by rfl) ?_;apply Exists.intro;refine ⟨fun w' hw'=>?_,hK _ ?_⟩;go_simp;first|done|rfl)
   | refine qqN (by rfl) (hK _ ?_)
  clear hK K;simp only [Act.put,qqB]
 refine qA7 ?_
 have h2:=h1.world hW2 e2
 have bC2:=h2.blk
 have ex2 : Ext 11 col col1 w z2:=((Ext.kept (m:=8) h.top hz1).trans e2).mono (by decide)
 by_cases h0 : E = 0
 · have a2:=bC2.cell 2
   have f3:=bC2.free 3
   have x3:=bC2.cell 3
   have CL:=qKw g1 c1 b.c.now (by omega) z2 h2.now
   go_wp2_with fail
   refine CL.mono ?_
   rintro e z3 ⟨v,rfl,hv,hk3⟩
   obtain ⟨gv,cv,rfl⟩:=qAx hv hn0
   have bC3:=bC2.kept hk3
   clear a2 f3 x3
   have f3:=bC3.free 3
   have x3:=bC3.cell 3
   go_wp2_with fail
   have hcS : Chg [C] z3 (z3.setCell ⟨C,3,none⟩ (.slice (some ⟨gv,0,none⟩) b.c.now.length cv)):=(Chg.refl _ _).set qsm 3 _
   have bC4:=bC3.set 3 (.slice (some ⟨gv,0,none⟩) b.c.now.length cv)
   simp only [qqA,qq0,qq1] at bC4
   clear f3 x3
   generalize (z3.setCell ⟨C,3,none⟩ (.slice (some ⟨gv,0,none⟩) b.c.now.length cv)) = z4 at *
   have hWp:=hW2.paint (i:=10) hk3 (by decide)
   have hep : Ext 11 col1 (qAj col1 10 z2 z3) z2 z3:=Ext.paint h2.top hk3 (by decide)
   have hc9 : qAj col1 10 z2 z3 C = 9:=by rw [qAc bC2.lt];exact h2.cC
   have hwd:=hWp.wd.chg hcS (fun b hb=>by rw [List.mem_singleton] at hb;subst hb;rw [hc9];exact .inr (by decide))
   have hmk : qJ6 z4 M b.boot (b.x.commit b.boot b.k b.c.now).2.2:=hcS.blk hWp.mkr (by rw [List.mem_singleton];intro e;have:=hWp.cM;rw [e,hc9] at this;cases this)
   have e4 : Ext 11 (qAj col1 10 z2 z3) (qAj col1 10 z2 z3) z3 z4:=⟨hcS.os,hcS.tape,hcS.output,hcS.size,fun _ _=>rfl,fun k hk=>by rw [hep.top k hk];omega,fun k hk=>hep.top k (Nat.le_trans hcS.size hk),fun k hk hcc=>hcS.block k hk (by rw [List.mem_singleton];intro e;rw [e,hc9] at hcc;omega)⟩
   have hcr : b.commit.2 = ⟨(b.x.commit b.boot b.k b.c.now).2.1,b.boot,(b.x.commit b.boot b.k b.c.now).2.2,{ b.c with was:=b.c.now }⟩:=by
    unfold Bx.commit
    rw [← HE.out,if_pos h0]
   have hcne : ∀ {e : TypeId},e ≠ 121 → True:=fun _=>trivial
   have n3:=qAt (qA3 h2.now hk3) hcS bC3 (by decide)
   have w3:=qAt hv hcS bC3 (by decide)
   refine bodyPost_ret (v:=.int .i64 0) (by simp [results,results113,go_sem];done) rfl ⟨by rw [h0],qAj col1 10 z2 z3,?_,(ex2.trans hep).trans e4⟩
   rw [hcr]
   refine ⟨A,.slice (some ⟨g1,0,none⟩) b.c.now.length c1,(.slice (some ⟨gv,0,none⟩) b.c.now.length cv),⟨hwd,hmk,hWp.cM⟩,bC4,hc9,n3,qAg w3 (Nat.zero_le _),fun g hg=>?_,fun g hg=>?_,fun g hg e=>?_,?_⟩
   · rw [qAc (qAo h2.now hg)];exact h2.cn g hg
   · exact qAl (qAM hv hg) (qAo hv hg)
   · have h3:=qAo h2.now hg
     have h4:=qAM hv e
     omega
   · have ha:=(h2.age.frame (qAZ.paint (i:=10) hk3 : qAZ 11 col1 (qAj col1 10 z2 z3) z2 z3))
     exact ha.frame (e4.sameC 11 C hc9 hcS (by decide))
 · have hcr : b.commit.2 = ⟨(b.x.commit b.boot b.k b.c.now).2.1,b.boot,(b.x.commit b.boot b.k b.c.now).2.2,b.c⟩:=by
    unfold Bx.commit
    rw [← HE.out,if_neg h0]
   replace hcr:=qh hcr
   go_wp2_with fail
   refine bodyPost_ret (v:=.int .i64 E) (by simp [results,results113,go_sem];done) rfl ⟨rfl,col1,?_,ex2⟩
   rw [hcr.out]
   exact ⟨A,_,vw,h2⟩
section
variable {col col' : Nat → Nat} {w w' : World} {P : qAQ} {M C A : Nat} {vn vw : Value} {b : Bx} {a : Ag}
theorem WM.one {i : Nat} {x : Wd} {boot : BitVec 64} {k : Nat} (h : WM col w P x M boot k) (o : One i col col' w w') (hi : 8 < i) : WM col' w' P x M boot k:=by
 obtain ⟨b8,d8⟩:=(o.same (j:=8) (by omega)).blk h.mkr h.cM
 refine ⟨h.wd.free (fun j _ hj=>o.same (by omega)) o.top (fun j hl hc=>?_),b8,d8⟩
 by_cases hj : j < w.heap.size
 · rw [o.old j hj] at hc;exact ⟨hj,hc⟩
 · have:=o.new j (by omega);omega
theorem qBh.aged (h : qBh col w P M C A vn vw b) (ha : qJM col' w' A a) (o : One 11 col col' w w') : qBh col' w' P M C A vn vw ⟨b.x,b.boot,b.k,{ b.c with age:=a }⟩:=by
 obtain ⟨b9,d9⟩:=(o.same (j:=9) (by omega)).blk h.blk h.cC
 have s10:=o.same (j:=10) (by omega)
 exact ⟨h.wm.one o (by decide),b9,d9,s10.own h.now h.cn,s10.own h.was h.cw,fun g hg=>s10.old g (qAo h.now hg) (h.cn g hg),fun g hg=>s10.old g (qAo h.was hg) (h.cw g hg),h.ne,ha⟩
theorem qN6 (h : qJM col w A a) (ht : Top col w) (x : Nat) (hm : a.q.length ≤ 900) : Calls prog 72 #[.pointer (some ⟨A,0,none⟩),.int .i64 (x : Int)] w fun e w'=>e = .returned (.bool (decide (x ∈ a.q))) ∧ qJM col w' A (a.drop x) ∧ One 11 col col w w':=by
 obtain ⟨Q,v,h1,c1,c2,c3⟩:=h
 refine (qKv A Q v a w h1 x hm).mono ?_
 rintro e w' ⟨v',rfl,h2,hc,hb⟩
 refine ⟨rfl,⟨Q,v',h2,c1,c2,fun g hg=>c3 g (by rw [← hb];exact hg)⟩,One.chg ht hc fun g hg=>?_⟩
 rcases List.mem_cons.1 hg with rfl | hm
 · exact c2
 · exact c3 g (qAs.1 hm)
theorem One.paint {i : Nat} (ht : Top col w) {bs : List Nat} (hc : Chg bs w w') (hb : ∀ g ∈ bs,col g = i) : One i col (qAj col i w w') w w' :=
 ⟨hc.os,hc.tape,hc.output,hc.size,fun k hk=>qAc hk,fun k hk=>by
  by_cases h : k < w'.heap.size
  · exact .inr (qAl hk h)
  · left;unfold Go.Proofs.YtdlgihbpiakebaaGreat.qAj;rw [if_neg (by omega)];exact ht k hk,fun k hk=>by
  unfold Go.Proofs.YtdlgihbpiakebaaGreat.qAj;rw [if_neg (by omega)];exact ht k (Nat.le_trans hc.size hk),fun k hk hn=>hc.block k hk fun hm=>hn (hb k hm)⟩
theorem qF5 (h : qJM col w A a) (ht : Top col w) (x : Nat) (hx : x < 16) (hm : a.q.length ≤ 800) (hk : a.ticks ≤ 1000000000) : Calls prog 49 #[.pointer (some ⟨A,0,none⟩),.int .i64 (x : Int)] w fun e w'=>e = .returned (.bool true) ∧ ∃ col',qJM col' w' A (a.touch x) ∧ One 11 col col' w w':=by
 obtain ⟨Q,v,h1,c1,c2,c3⟩:=h
 refine (qN2 A Q v a w h1 x hx hm hk).mono ?_
 rintro e w' ⟨v',rfl,h2,hc,hb⟩
 refine ⟨rfl,qAj col 11 w w',⟨Q,v',h2,?_,?_,fun g hg=>?_⟩,One.paint ht hc fun g hg=>?_⟩
 · rw [qAc (Blk.lt h1.age)];exact c1
 · rw [qAc (Blk.lt h1.que)];exact c2
 · rcases hb g hg with h3 | h3
   · rw [qAc (qAo h1.row h3)];exact c3 g h3
   · exact qAl h3 (qAo h2.row hg)
 · rcases List.mem_cons.1 hg with rfl | hg
   · exact c1
   · rcases List.mem_cons.1 hg with rfl | hg
     · exact c2
     · exact c3 g (qAs.1 hg)
theorem qHI (ht : Top col w) : Calls prog 48 #[] w fun e w'=>∃ A col',e = .returned (.pointer (some ⟨A,0,none⟩)) ∧ qJM col' w' A ⟨List.replicate 16 0,0,[]⟩ ∧ One 11 col col' w w' ∧ w.heap.size ≤ A ∧ qA4 w w':=by
 refine (qQ2 w).mono ?_
 rintro e w' ⟨A,Q,rfl,h1,hk,hA,hQ⟩
 refine ⟨A,qAj col 11 w w',rfl,⟨Q,_,h1,qAl hA (Blk.lt h1.age),qAl hQ (Blk.lt h1.que),fun g hg=>by cases hg⟩,One.paint (bs:=[]) ht (Chg.of_kept hk) (by simp),hA,hk⟩
theorem qJO (h : qJM col w A a) (hq : 0 < a.q.length) : Calls prog 180 #[.pointer (some ⟨A,0,none⟩)] w fun e w'=>e = .returned (.tuple #[.int .i64 ((a.q[0] : Nat) : Int),.bool true]) ∧ w = w':=by
 obtain ⟨Q,v,h1,c1,c2,c3⟩:=h
 exact qLy A Q v a w h1 hq
end
theorem qCB {w : World} {B g cap n size : Nat} {e : TypeId} {xs : List Value} (h : w.ownsRow B e size (.slice (some ⟨g,0,none⟩) n cap) n xs) (i : Nat) (v : Value) : (w.setCell ⟨g,i,none⟩ v).ownsRow B e size (.slice (some ⟨g,0,none⟩) n cap) n (xs.set i v):=by
 obtain ⟨h1,h2⟩:=h
 refine ⟨by simpa using h1,?_⟩
 rcases h2 with ⟨h0,_⟩ | ⟨g',cap',cur,hv,hg,hh,hn,hcap,hsz,htake⟩
 · cases h0
 · cases hv
   have hb : Blk w g cur e:=hh
   refine .inr ⟨g,cap,cur.setIfInBounds i v,rfl,hg,hb.set i v,hn,hcap,by simpa using hsz,?_⟩
   rw [Array.toList_setIfInBounds,List.take_set,htake]
theorem qJP (l : List Lf) (i : Nat) (x : Lf) (hi : i < l.length) :
 ((((((((qAu l).set (i * 8) (.int .i64 x.kind)).set (i * 8 + 1) (.bool x.dirty)).set (i * 8 + 2) (.int .i64 x.lba)).set (i * 8 + 3) (W x.ep)).set (i * 8 + 4) (W x.sl)).set (i * 8 + 5) (U x.ver)).set (i * 8 + 6) (U x.tag.1)).set (i * 8 + 7) (U x.tag.2) = qAu (l.set i x):=by
 have:=congrArg Array.toList (qGT l i x hi)
 simpa only [Array.toList_setIfInBounds] using this
theorem qG6 {w : World} {B g cap n : Nat} {ls : List Lf} (h : w.ownsRow B 117 8 (.slice (some ⟨g,0,none⟩) n cap) n (qAu ls)) (s : Nat) (x : Lf) (hs : s < ls.length) :
 ((((((((w.setCell ⟨g,s * 8,none⟩ (.int .i64 x.kind)).setCell ⟨g,s * 8 + 1,none⟩ (.bool x.dirty)).setCell ⟨g,s * 8 + 2,none⟩ (.int .i64 x.lba)).setCell ⟨g,s * 8 + 3,none⟩ (W x.ep)).setCell ⟨g,s * 8 + 4,none⟩ (W x.sl)).setCell ⟨g,s * 8 + 5,none⟩ (U x.ver)).setCell ⟨g,s * 8 + 6,none⟩ (U x.tag.1)).setCell ⟨g,s * 8 + 7,none⟩ (U x.tag.2)).ownsRow B 117 8 (.slice (some ⟨g,0,none⟩) n cap) n (qAu (ls.set s x)):=by
 rw [← qJP ls s x hs]
 exact qCB (qCB (qCB (qCB (qCB (qCB (qCB (qCB h _ _) _ _) _ _) _ _) _ _) _ _) _ _) _ _
theorem qG7 (w : World) (g s : Nat) (x : Lf) : Chg [g] w ((((((((w.setCell ⟨g,s * 8,none⟩ (.int .i64 x.kind)).setCell ⟨g,s * 8 + 1,none⟩ (.bool x.dirty)).setCell ⟨g,s * 8 + 2,none⟩ (.int .i64 x.lba)).setCell ⟨g,s * 8 + 3,none⟩ (W x.ep)).setCell ⟨g,s * 8 + 4,none⟩ (W x.sl)).setCell ⟨g,s * 8 + 5,none⟩ (U x.ver)).setCell ⟨g,s * 8 + 6,none⟩ (U x.tag.1)).setCell ⟨g,s * 8 + 7,none⟩ (U x.tag.2)) :=
 (((((((((Chg.refl _ _).set qsm _ _).set qsm _ _).set qsm _ _).set qsm _ _).set qsm _ _).set qsm _ _).set qsm _ _).set qsm _ _)
theorem qBh.setNow {col : Nat → Nat} {w w' : World} {P : qAQ} {M C A g n cap : Nat} {vw : Value} {b : Bx} (h : qBh col w P M C A (.slice (some ⟨g,0,none⟩) n cap) vw b) {ls : List Lf} (hl : ls.length = b.c.now.length) (hc : Chg [g] w w') (hr : w'.ownsRow 0 117 8 (.slice (some ⟨g,0,none⟩) n cap) b.c.now.length (qAu ls)) :
 qBh col w' P M C A (.slice (some ⟨g,0,none⟩) n cap) vw ⟨b.x,b.boot,b.k,{ b.c with now:=ls }⟩ ∧ Ext 11 col col w w':=by
 have hg : col g = 10:=h.cn g rfl
 have o : One 10 col col w w':=One.chg h.top hc (fun b hb=>by rw [List.mem_singleton] at hb;subst hb;exact hg)
 obtain ⟨b9,d9⟩:=(o.same (j:=9) (by omega)).blk h.blk h.cC
 refine ⟨⟨h.wm.one o (by decide),b9,d9,by show w'.ownsRow 0 _ 8 _ ls.length _;rw [hl];exact hr,qAK h.was hc (fun k hk hm=>?_),h.cn,h.cw,h.ne,h.age.frame (o.same (by decide))⟩,o.ext (by decide) (by decide)⟩
 rw [List.mem_singleton] at hm
 subst hm
 exact h.ne k rfl hk
def Bx.drops (b : Bx) (s : Nat) : Bx:=⟨b.x,b.boot,b.k,{ b.c with now:=b.c.now.set s Lf.zero,age:=b.c.age.drop s }⟩
theorem qHJ {col : Nat → Nat} {w : World} {P : qAQ} {M C A : Nat} {vn vw : Value} {b : Bx} (h : qBh col w P M C A vn vw b) (s : Nat) (hs : s < b.c.now.length) (hm : b.c.age.q.length ≤ 900) : Calls prog 162 #[.pointer (some ⟨C,0,none⟩),.int .i64 (s : Int)] w fun e w'=>e = .returned (.tuple #[]) ∧ qBh col w' P M C A vn vw (b.drops s) ∧ Ext 11 col col w w':=by
 have q2:=h.blk.cell 2
 obtain ⟨g1,c1,hv1⟩:=qAx h.now (by omega)
 subst hv1
 obtain ⟨y,hy⟩ : ∃ y,y = b.c.now[s]:=⟨_,rfl⟩
 have hky : b.c.now[s]? = some y:=by rw [List.getElem?_eq_getElem hs,hy]
 have hw:=qBP h.now s y hky
 obtain ⟨cur,hbk⟩:=qAp h.now rfl
 have d0 : w.cell? ⟨g1,s * 8,none⟩ = some (.int .i64 y.kind):=hw 0 _ rfl
 have d1 : w.cell? ⟨g1,s * 8 + 1,none⟩ = some (.bool y.dirty):=hw 1 _ rfl
 have d2 : w.cell? ⟨g1,s * 8 + 2,none⟩ = some (.int .i64 y.lba):=hw 2 _ rfl
 have d3 : w.cell? ⟨g1,s * 8 + 3,none⟩ = some (W y.ep):=hw 3 _ rfl
 have d4 : w.cell? ⟨g1,s * 8 + 4,none⟩ = some (W y.sl):=hw 4 _ rfl
 have d5 : w.cell? ⟨g1,s * 8 + 5,none⟩ = some (U y.ver):=hw 5 _ rfl
 have d6 : w.cell? ⟨g1,s * 8 + 6,none⟩ = some (U y.tag.1):=hw 6 _ rfl
 have d7 : w.cell? ⟨g1,s * 8 + 7,none⟩ = some (U y.tag.2):=hw 7 _ rfl
 have f0:=hbk.free (s * 8)
 have f1:=hbk.free (s * 8 + 1)
 have f2:=hbk.free (s * 8 + 2)
 have f3:=hbk.free (s * 8 + 3)
 have f4:=hbk.free (s * 8 + 4)
 have f5:=hbk.free (s * 8 + 5)
 have f6:=hbk.free (s * 8 + 6)
 have f7:=hbk.free (s * 8 + 7)
 have HS:=qG7 w g1 s Lf.zero
 have HR:=qG6 h.now s Lf.zero hs
 obtain ⟨h2,e2⟩:=h.setNow (ls:=b.c.now.set s Lf.zero) (by simp) HS HR
 obtain ⟨N,hN⟩ : ∃ N,N = b.c.now.length:=⟨_,rfl⟩
 rw [← hN] at hs q2
 have i1 : (s : Int) < (N : Int):=by omega
 have i2 : (0 : Int) ≤ (s : Int):=by omega
 have q4:=h2.blk.cell 4
 have CD:=qN6 h2.age h2.top s hm
 obtain ⟨R,hR⟩ : ∃ y,y = decide (s ∈ b.c.age.q):=⟨_,rfl⟩
 rw [show decide (s ∈ (({ b.c with now:=b.c.now.set s Lf.zero } : Ca).age).q) = R from hR.symm] at CD
 unfold Lf.zero at q4 CD e2
 simp only at q4 CD e2
 have H2:=qh h2
 have HH:=qh h
 clear hw hky hy hN HS HR hbk h2 h hR
 go_enter func162,ntmps162
 go_wp2_with fail
 refine CD.mono ?_
 rintro e w2 ⟨rfl,ha,o⟩
 go_wp2_with fail
 refine bodyPost_end (results_none rfl _ _ _) rfl ⟨rfl,?_,e2.trans (o.ext (by decide) (by decide))⟩
 have:=H2.out.aged ha o
 exact this
theorem qN7 (a : Ag) (x : Nat) : if x ∈ a.q then (x :: (a.drop x).q).Perm a.q else a.drop x = a:=by
 by_cases h : x ∈ a.q
 · rw [if_pos h]
   unfold Ag.drop
   rw [if_pos h]
   have hi : a.q.idxOf x < a.q.length:=List.idxOf_lt_length_iff.2 h
   have:=qKu a.last a.q (a.q.idxOf x) hi
   rw [List.getElem_idxOf hi] at this
   exact this
 · rw [if_neg h]
   unfold Ag.drop
   rw [if_neg h]
theorem qJQ (a : Ag) (x : Nat) : ((a.touch x).q).Perm (x :: (a.drop x).q):=qLv _ _ _
theorem qJR (a : Ag) (x : Nat) : (a.drop x).q.length ≤ a.q.length:=by
 have:=qN7 a x
 by_cases h : x ∈ a.q
 · rw [if_pos h] at this
   have:=this.length_eq
   simp at this;omega
 · rw [if_neg h] at this
   rw [this];exact Nat.le_refl _
theorem qIA (a : Ag) (x : Nat) : (a.touch x).q.length ≤ a.q.length + 1:=by
 have:=(qJQ a x).length_eq
 have h2:=qJR a x
 simp at this;omega
theorem qGY (a : Ag) (x : Nat) : (a.drop x).ticks = a.ticks:=by
 unfold Ag.drop;split <;> rfl
theorem qEb (a : Ag) (x : Nat) : (a.touch x).ticks = a.ticks + 1:=by
 show (a.drop x).ticks + 1 = _
 rw [qGY]
theorem qGZ {a : Ag} (h : a.q.Nodup) (x : Nat) : (a.drop x).q.Nodup:=by
 have:=qN7 a x
 by_cases hx : x ∈ a.q
 · rw [if_pos hx] at this
   exact (List.nodup_cons.1 (this.nodup_iff.2 h)).2
 · rw [if_neg hx] at this
   rw [this];exact h
theorem qHK {a : Ag} (h : a.q.Nodup) (x y : Nat) : y ∈ (a.drop x).q ↔ y ∈ a.q ∧ y ≠ x:=by
 have:=qN7 a x
 by_cases hx : x ∈ a.q
 · rw [if_pos hx] at this
   have hn:=List.nodup_cons.1 (this.nodup_iff.2 h)
   constructor
   · intro hy
     exact ⟨this.mem_iff.1 (List.mem_cons_of_mem _ hy),fun e=>hn.1 (e ▸ hy)⟩
   · rintro ⟨hy,hne⟩
     rcases List.mem_cons.1 (this.mem_iff.2 hy) with e | e
     · exact absurd e hne
     · exact e
 · rw [if_neg hx] at this
   rw [this]
   exact ⟨fun hy=>⟨hy,fun e=>hx (e ▸ hy)⟩,fun hy=>hy.1⟩
theorem qEc {a : Ag} (h : a.q.Nodup) (x : Nat) : (a.touch x).q.Nodup:=by
 refine (qJQ a x).nodup_iff.2 (List.nodup_cons.2 ⟨fun hx=>?_,qGZ h x⟩)
 exact ((qHK h x x).1 hx).2 rfl
theorem qG8 {a : Ag} (h : a.q.Nodup) (x y : Nat) : y ∈ (a.touch x).q ↔ y = x ∨ y ∈ a.q:=by
 rw [(qJQ a x).mem_iff,List.mem_cons,qHK h]
 constructor
 · rintro (e | ⟨e,_⟩)
   · exact .inl e
   · exact .inr e
 · rintro (e | e)
   · exact .inl e
   · by_cases hy : y = x
     · exact .inl hy
     · exact .inr ⟨e,hy⟩
def Bx.put1 (b : Bx) (s : Nat) (l : Lf) : Bx:=⟨b.x,b.boot,b.k,{ b.c with now:=b.c.now.set s l,age:=b.c.age.touch s }⟩
def Bx.puts (b : Bx) (s : Nat) (l : Lf) : Bx:=match b.c.slot l.lba with
 | none=>b.put1 s l
 | some o=>(b.put1 s l).drops o
theorem qHL {c : Ca} {lba : Int} {o : Nat} (h : c.slot lba = some o) : o < c.now.length:=by
 unfold Ca.slot at h
 exact List.mem_range.1 (List.find?_range_eq_some.1 h).2.1
theorem qJS {col : Nat → Nat} {w : World} {P : qAQ} {M C A : Nat} {vn vw : Value} {b : Bx} (h : qBh col w P M C A vn vw b) (s : Nat) (hs : s < b.c.now.length) (hn16 : b.c.now.length ≤ 16) (hm : b.c.age.q.length ≤ 700) (htk : b.c.age.ticks ≤ 1000000000) (l : Lf) : Calls prog 123 #[.pointer (some ⟨C,0,none⟩),.int .i64 (s : Int),.agg #[.int .i64 l.kind,.bool l.dirty,.int .i64 l.lba,W l.ep,W l.sl,U l.ver,U l.tag.1,U l.tag.2]] w fun e w'=>e = .returned (.tuple #[]) ∧ ∃ col',qBh col' w' P M C A vn vw (b.puts s l) ∧ Ext 11 col col' w w':=by
 obtain ⟨g1,c1,hv1⟩:=qAx h.now (by omega)
 subst hv1
 have hkA : qA4 w (w.alloc (.cells #[.int .i64 l.kind,.bool l.dirty,.int .i64 l.lba,W l.ep,W l.sl,U l.ver,U l.tag.1,U l.tag.2] 117)):=qal _
 have bL:=Blk.new w #[.int .i64 l.kind,.bool l.dirty,.int .i64 l.lba,W l.ep,W l.sl,U l.ver,U l.tag.1,U l.tag.2] 117
 have a2:=bL.cell 2
 have CS:=qN5 (h.kept hkA) l.lba (by omega) (by omega)
 obtain ⟨o,ho⟩ : ∃ o,o = b.c.slot l.lba:=⟨_,rfl⟩
 rw [← ho] at CS
 have HO:=qh ho
 obtain ⟨y,hy⟩ : ∃ y,y = b.c.now[s]:=⟨_,rfl⟩
 have hky : Hid (b.c.now[s]? = some y):=qh (by rw [List.getElem?_eq_getElem hs,hy])
 obtain ⟨N,hN⟩ : ∃ N,N = b.c.now.length:=⟨_,rfl⟩
 have HN:=qh hN
 have HS:=qh hs
 rw [← hN] at hs
 have i1 : (s : Int) < (N : Int):=by omega
 have i2 : (0 : Int) ≤ (s : Int):=by omega
 have i3 : (s : Int) < 16:=by omega
 clear ho hy hN
 go_enter func123,ntmps123
 go_wp2_with fail
 generalize (w.alloc (.cells #[.int .i64 l.kind,.bool l.dirty,.int .i64 l.lba,W l.ep,W l.sl,U l.ver,U l.tag.1,U l.tag.2] 117)) = wA at *
 refine CS.mono ?_
 rintro e w1 ⟨rfl,hk1⟩
 have h1:=h.kept (hkA.of hk1)
 have hbn:=h1.blk
 rw [← HN.out] at hbn
 clear a2
 obtain ⟨oi,hoi⟩ : ∃ i,i = qDw o:=⟨_,rfl⟩
 rw [← hoi]
 have HOI:=qh hoi
 clear hoi
 go_wp2_with fail
 refine qA5 [(0,0),(1,0),(2,0),(3,0),(4,0),(5,0),(6,0),(7,2)] (by kernel_rfl) (by kernel_rfl) ?_
 intro z1 hz1
 have h2:=h1.kept hz1
 have hw:=qBP h2.now s y hky.out
 obtain ⟨cur,hbk⟩:=qAp h2.now rfl
 repeat
  refine qA0 _ rfl (fun K hK=>?_)
  first
   | (refine qqP (by rfl) ?_;apply Exists.intro;refine ⟨fun w' hw'=>?_,hK _ ?_⟩;(have c:=h1.blk.kept (hz1.of hw');have c2:=c.cell 2;clear c;have d:=bL.kept (hk1.of (hz1.of hw'));have d0:=d.cell 0;have d1:=d.cell 1;have d2:=d.cell 2;have d3:=d.cell 3;have d4:=d.cell 4;have d5:=d.cell 5;have d6:=d.cell 6;have d7:=d.cell 7;clear d;go_simp;first|done|rfl))
   | refine qqN (by rfl) (hK _ ?_)
  clear hK K;simp only [Act.put,qqB]
 refine qAh _ rfl (fun K hK=>?_)
 refine qqP (by rfl) ?_
 have e0 : z1.cell? ⟨g1,s * 8,none⟩ = some (.int .i64 y.kind):=hw 0 _ rfl
 have f0:=hbk.free (s * 8)
 have e1 : z1.cell? ⟨g1,s * 8 + 1,none⟩ = some (.bool y.dirty):=hw 1 _ rfl
 have f1:=hbk.free (s * 8 + 1)
 have e2 : z1.cell? ⟨g1,s * 8 + 2,none⟩ = some (.int .i64 y.lba):=hw 2 _ rfl
 have f2:=hbk.free (s * 8 + 2)
 have e3 : z1.cell? ⟨g1,s * 8 + 3,none⟩ = some (W y.ep):=hw 3 _ rfl
 have f3:=hbk.free (s * 8 + 3)
 have e4 : z1.cell? ⟨g1,s * 8 + 4,none⟩ = some (W y.sl):=hw 4 _ rfl
 have f4:=hbk.free (s * 8 + 4)
 have e5 : z1.cell? ⟨g1,s * 8 + 5,none⟩ = some (U y.ver):=hw 5 _ rfl
 have f5:=hbk.free (s * 8 + 5)
 have e6 : z1.cell? ⟨g1,s * 8 + 6,none⟩ = some (U y.tag.1):=hw 6 _ rfl
 have f6:=hbk.free (s * 8 + 6)
 have e7 : z1.cell? ⟨g1,s * 8 + 7,none⟩ = some (U y.tag.2):=hw 7 _ rfl
 have f7:=hbk.free (s * 8 + 7)
 go_wp2
 refine qA7 ?_
 have HC:=qG7 z1 g1 s l
 have HR:=qG6 h2.now s l HS.out
 obtain ⟨h3,e3⟩:=h2.setNow (ls:=b.c.now.set s l) (by simp) HC HR
 generalize ((((((((z1.setCell ⟨g1,s * 8,none⟩ (.int .i64 l.kind)).setCell ⟨g1,s * 8 + 1,none⟩ (.bool l.dirty)).setCell ⟨g1,s * 8 + 2,none⟩ (.int .i64 l.lba)).setCell ⟨g1,s * 8 + 3,none⟩ (W l.ep)).setCell ⟨g1,s * 8 + 4,none⟩ (W l.sl)).setCell ⟨g1,s * 8 + 5,none⟩ (U l.ver)).setCell ⟨g1,s * 8 + 6,none⟩ (U l.tag.1)).setCell ⟨g1,s * 8 + 7,none⟩ (U l.tag.2)) = z2 at *
 have q4:=h3.blk.cell 4
 have CT:=qF5 h3.age h3.top s (by omega) (by show b.c.age.q.length ≤ 800;omega) htk
 clear hw hbk h2 HC HR
 go_wp2_with fail
 refine CT.mono ?_
 rintro e z3 ⟨rfl,col3,ha,o3⟩
 have h4:=h3.aged ha o3
 replace h4 : qBh col3 z3 P M C A (.slice (some ⟨g1,0,none⟩) b.c.now.length c1) vw (b.put1 s l):=h4
 have ex4:=(((Ext.kept (m:=11) h.top (hkA.of hk1)).trans (Ext.kept h1.top hz1)).trans e3).trans (o3.ext (by decide) (by decide))
 cases o with
 | none =>
  have hoi : oi = -1:=HOI.out
  have hp : b.puts s l = b.put1 s l:=by unfold Bx.puts;rw [← HO.out]
  replace hp:=qh hp
  subst hoi
  go_wp2_with fail
  refine bodyPost_end (results_none rfl _ _ _) rfl ⟨rfl,col3,by rw [hp.out];exact h4,ex4⟩
 | some o =>
  have hoi : oi = (o : Int):=HOI.out
  have hp : b.puts s l = (b.put1 s l).drops o:=by unfold Bx.puts;rw [← HO.out]
  replace hp:=qh hp
  subst hoi
  have hol : o < b.c.now.length:=qHL HO.out.symm
  have j1 : (0 : Int) ≤ (o : Int):=by omega
  have CD:=qHJ h4 o (by show o < (b.c.now.set s l).length;simpa using hol) (by have:=qIA b.c.age s;show (b.c.age.touch s).q.length ≤ 900;omega)
  clear hol
  go_wp2_with fail
  refine CD.mono ?_
  rintro e z4 ⟨rfl,h5,e5⟩
  go_wp2_with fail
  refine bodyPost_end (results_none rfl _ _ _) rfl ⟨rfl,col3,by rw [hp.out];exact h5,ex4.trans e5⟩
end Go.Proofs.YtdlgihbpiakebaaGreat
