import Derived.Test.YtdlgihbpiakebaaGreatMd24
import Derived.Test.YtdlgihbpiakebaaGreatMd26
set_option maxRecDepth 100000
set_option maxHeartbeats 4000000
namespace Go.Proofs.YtdlgihbpiakebaaGreat
open Go Go.RowKit Tryz
structure qBm (t : TypeId) (w : World) (K b g : Nat) (seed : BitVec 64) (l : List (BitVec 32)) (cap : Nat) : Prop where
 blk : Blk w K #[.pointer (some ⟨b,0,none⟩),U seed,.slice (some ⟨g,0,none⟩) l.length cap] t
 row : w.ownsRow 0 94 1 (.slice (some ⟨g,0,none⟩) l.length cap) l.length (qB9 l)
theorem qBm.blkg {t : TypeId} {w : World} {K b g : Nat} {seed : BitVec 64} {l : List (BitVec 32)} {cap : Nat} (h : qBm t w K b g seed l cap) : ∃ cur,Blk w g cur 94:=by
 rcases h.row.2 with ⟨h0,_⟩ | ⟨_,_,cur,e,_,hb,_⟩
 · cases h0
 · cases e;exact ⟨cur,hb⟩
theorem qAC {w : World} {a b : Nat} {cs ds : Array Value} {t u : TypeId} (h : Blk w a cs t) (k : Blk w b ds u) (hne : t ≠ u) : a ≠ b:=by
 intro e;subst e
 unfold Blk at h k
 rw [h] at k
 cases k;exact hne rfl
theorem qJo {w w' : World} {bs : List Nat} {B g n cap : Nat} {e : TypeId} {xs : List Value} (h : w.ownsRow B e 1 (.slice (some ⟨g,0,none⟩) n cap) n xs) (hc : Chg bs w w') (hn : g ∉ bs) : w'.ownsRow B e 1 (.slice (some ⟨g,0,none⟩) n cap) n xs:=by
 refine ⟨h.1,?_⟩
 rcases h.2 with ⟨h0,_⟩ | ⟨g',cap',cur,e',hB,hb,h1,h2,h3,h4⟩
 · cases h0
 · cases e'
   exact .inr ⟨g,cap,cur,rfl,hB,hc.blk hb hn,h1,h2,h3,h4⟩
theorem qFy {w : World} {B : Nat} {e : TypeId} {v : Value} {n : Nat} {xs : List Value} (h : w.ownsRow B e 1 v n xs) (hn : 0 < n) : ∃ g cap,v = .slice (some ⟨g,0,none⟩) n cap ∧ B ≤ g ∧ g < w.heap.size:=by
 rcases h.2 with ⟨_,h0⟩ | ⟨g',cap',cur,e',hB,hb,r⟩
 · omega
 · exact ⟨g',cap',e',hB,(Array.getElem?_eq_some_iff.1 hb).1⟩
theorem qBm.chg {t : TypeId} {w w' : World} {K b g : Nat} {seed : BitVec 64} {l : List (BitVec 32)} {cap : Nat} (h : qBm t w K b g seed l cap) {bs : List Nat} (hc : Chg bs w w') (h1 : K ∉ bs) (h2 : g ∉ bs) : qBm t w' K b g seed l cap :=
 ⟨hc.blk h.blk h1,qJo h.row hc h2⟩
theorem qBm.kept {t : TypeId} {w w' : World} {K b g : Nat} {seed : BitVec 64} {l : List (BitVec 32)} {cap : Nat} (h : qBm t w K b g seed l cap) (hk : qA4 w w') : qBm t w' K b g seed l cap :=
 h.chg (bs:=[]) (Chg.of_kept hk) (by simp) (by simp)
theorem qBm.cells {t : TypeId} {w : World} {K b g : Nat} {seed : BitVec 64} {l : List (BitVec 32)} {cap : Nat} (h : qBm t w K b g seed l cap) :
 w.cell? ⟨K,0,none⟩ = some (.pointer (some ⟨b,0,none⟩)) ∧ w.cell? ⟨K,1,none⟩ = some (U seed) ∧ w.cell? ⟨K,2,none⟩ = some (.slice (some ⟨g,0,none⟩) l.length cap) :=
 ⟨Blk.cell h.blk 0,Blk.cell h.blk 1,Blk.cell h.blk 2⟩
theorem qBm.get {t : TypeId} {w : World} {K b g : Nat} {seed : BitVec 64} {l : List (BitVec 32)} {cap : Nat} (h : qBm t w K b g seed l cap) (i : Nat) (y : BitVec 32) (hy : l[i]? = some y) : w.cell? ⟨g,i,none⟩ = some (W y):=by
 obtain ⟨hi,rfl⟩:=List.getElem?_eq_some_iff.1 hy
 obtain ⟨b0,off,cap',e,_,_,_,hx⟩:=(Sl.of_own h.row).at (by rw [qBL];omega)
 cases e
 have:=hx i _ (qDE l i hi)
 rwa [Nat.zero_add] at this
theorem qMk (seed : BitVec 64) (e : BitVec 32) (w : World) : Calls prog 170 #[U seed,W e] w fun r w'=>r = .returned (Pr (qO6 seed e)) ∧ qA4 w w':=by
 go_enter func170,ntmps170
 go_wp2_with fail
 refine (qET _ _ _ _ _).mono ?_
 rintro r w1 ⟨rfl,hk1⟩
 obtain ⟨q,hq⟩ : ∃ q,q = qO6 seed e:=⟨_,rfl⟩
 rw [show qKQ (seed,seed) (0#64,BitVec.setWidth 64 e) = q from hq.symm]
 have HQ:=qh hq
 clear hq
 have hb:=(Blk.new w #[U 0#64,U 0#64] 115).kept hk1
 have c0:=hb.cell 0
 have c1:=hb.cell 1
 have f0:=hb.free 0
 have f1:=hb.free 1
 have hk : qA4 w w1:=qA4.of (qal _) hk1
 clear hk1
 go_wp2
 have d:=(hb.set 0 (U q.1)).set 1 (U q.2)
 have d0:=d.cell 0
 have d1:=d.cell 1
 refine bodyPost_ret (v:=Pr q) (by simp [results,results170,go_sem,d0,d1];try exact ⟨rfl,rfl⟩) rfl ⟨by rw [HQ.out],?_⟩
 exact (hk.setCell qle _).setCell qle _
theorem qJp (K b g : Nat) (seed : BitVec 64) (l : List (BitVec 32)) (cap : Nat) (h0 : 0 < l.length) (hl : l.length ≤ 100000) (w : World) (h : qBm 96 w K b g seed l cap) : Calls prog 115 #[.pointer (some ⟨K,0,none⟩)] w fun r w'=>r = .returned (W (qAi l)) ∧ qA4 w w':=by
 obtain ⟨m,hm⟩ : ∃ m,l.length = m + 1:=⟨l.length - 1,by omega⟩
 obtain ⟨_,_,c2⟩:=h.cells
 have r0:=h.get m (qAi l) (by rw [← qFI l h0];congr 1;omega)
 have hcap : m < cap:=by
  rcases h.row.2 with ⟨e,_⟩ | ⟨_,_,_,e,_,_,hh,_⟩
  · cases e
  · cases e;omega
 rw [hm] at c2
 have i0 : (m : Int) ≤ 100000:=by omega
 have i1 : IntKind.i64.wrap (m : Int) = (m : Int):=IntWalk.i64_in _ (by omega)
 have i2 : (m : Int) < (m : Int) + 1:=by omega
 have i3 : ((m + 1 : Nat) : Int) - 1 = (m : Int):=by omega
 clear hm h0 hl h
 go_enter func115,ntmps115
 go_wp2_with fail
 refine qA5 [(0,0),(1,0),(2,0),(3,0),(4,0),(5,0),(6,0),(7,0),(8,0),(9,0),(10,0),(11,0),(12,0)] (by kernel_rfl) (by kernel_rfl) ?_
 intro w1 hw1
 repeat
  refine qA0 _ rfl (fun K hK=>?_)
  first
   | (refine qqP (by rfl) ?_;apply Exists.intro;refine ⟨fun w' hw'=>?_,hK _ ?_⟩;(have d2:=hw'.at (hw1.at c2);have d0:=hw'.at (hw1.at r0);go_simp;first|done|rfl))
   | refine qqN (by rfl) (hK _ ?_)
  clear hK K;simp only [Act.put,qqB]
 refine qA7 ?_
 go_wp2
 go_ret
 exact ⟨rfl,hw1⟩
theorem qGI (K b g : Nat) (seed : BitVec 64) (l : List (BitVec 32)) (cap : Nat) (h0 : 0 < l.length) (hl : l.length ≤ 100000) (w : World) (h : qBm 96 w K b g seed l cap) : Calls prog 22 #[.pointer (some ⟨K,0,none⟩)] w fun r w'=>∃ v,r = .returned v ∧ w'.ownsRow w.heap.size 94 1 v l.length (qB9 l) ∧ qA4 w w':=by
 obtain ⟨_,_,c2⟩:=h.cells
 have hs:=Sl.of_own h.row
 go_enter func22,ntmps22
 go_wp2_with fail
 refine (qL1 _ l h0 hl _ hs).mono ?_
 rintro r w1 ⟨v,rfl,hown,hk⟩
 go_wp2
 go_ret
 exact ⟨_,rfl,hown,hk⟩
def qFO (seed : BitVec 64) (l : List (BitVec 32)) (e : BitVec 32) : qAB:=if l.contains e then qO6 seed e else (0#64,0#64)
theorem qPM (K b g : Nat) (seed : BitVec 64) (l : List (BitVec 32)) (cap : Nat) (x : BitVec 32) (h0 : 0 < l.length) (hl : l.length ≤ 100000) (w : World) (h : qBm 96 w K b g seed l cap) : Calls prog 138 #[.pointer (some ⟨K,0,none⟩),W x] w fun r w'=>r = .returned (.tuple #[Pr (qFO seed l x),.bool (l.contains x)]) ∧ qA4 w w':=by
 have hka : qA4 w (w.alloc (.cells #[U 0#64,U 0#64] 115)):=qal _
 have hsz : w.heap.size < (w.alloc (.cells #[U 0#64,U 0#64] 115)).heap.size:=by simp
 have hbk:=Blk.new w #[U 0#64,U 0#64] 115
 go_enter func138,ntmps138
 go_wp2_with fail
 refine (qGI _ _ _ _ l _ h0 hl _ (h.kept hka)).mono ?_
 rintro r w1 ⟨v,rfl,hown,hk1⟩
 obtain ⟨g1,cap1,rfl,_,_⟩:=qFy hown h0
 have hs:=Sl.of_own hown
 have hb1:=hbk.kept hk1
 have k1 : qA4 w w1:=qA4.of hka hk1
 clear hbk hk1 hka hsz
 go_wp2_with fail
 refine (qIc _ _ l x hl _ hs).mono ?_
 rintro r w2 ⟨rfl,rfl⟩
 have c0:=hb1.cell 0
 have c1:=hb1.cell 1
 have f0:=hb1.free 0
 have f1:=hb1.free 1
 cases hc : l.contains x
 · have HC:=qh hc
   clear hc
   go_wp2
   have d:=(hb1.set 0 (U 0#64)).set 1 (U 0#64)
   have d0:=d.cell 0
   have d1:=d.cell 1
   refine bodyPost_ret (v:=.tuple #[Pr (0#64,0#64),.bool false]) (by simp [results,results138,go_sem,d0,d1];try exact ⟨rfl,rfl⟩) rfl ⟨by simp only [qFO,HC.out];rfl,?_⟩
   exact (k1.setCell qle _).setCell qle _
 · have HC:=qh hc
   clear hc
   obtain ⟨_,e1,_⟩:=(h.kept k1).cells
   go_wp2_with fail
   refine (qMk seed x _).mono ?_
   rintro r w3 ⟨rfl,hk3⟩
   obtain ⟨q,hq⟩ : ∃ q,q = qO6 seed x:=⟨_,rfl⟩
   rw [← hq]
   have HQ:=qh hq
   clear hq
   have hb3:=hb1.kept hk3
   have k3 : qA4 w w3:=qA4.of k1 hk3
   clear hb1 c0 c1 f0 f1 k1 hk3 e1
   have c0:=hb3.cell 0
   have c1:=hb3.cell 1
   have f0:=hb3.free 0
   have f1:=hb3.free 1
   go_wp2
   have d:=(hb3.set 0 (U q.1)).set 1 (U q.2)
   have d0:=d.cell 0
   have d1:=d.cell 1
   refine bodyPost_ret (v:=.tuple #[Pr q,.bool true]) (by simp [results,results138,go_sem,d0,d1];try exact ⟨rfl,rfl⟩) rfl ⟨by simp only [qFO,HC.out,HQ.out];rfl,?_⟩
   exact (k3.setCell qle _).setCell qle _
theorem qKf (seed : BitVec 64) (b : Nat) (w : World) : Calls prog 41 #[U seed,.pointer (some ⟨b,0,none⟩)] w fun r w'=>r = .returned (.pointer (some ⟨w.heap.size + 1,0,none⟩)) ∧ qBm 96 w' (w.heap.size + 1) b w.heap.size seed [1#32] 1 ∧ qA4 w w' ∧ w'.heap.size = w.heap.size + 2:=by
 go_enter func41,ntmps41
 go_wp2
 go_ret
 have h1:=(Blk.new w #[W 1#32] 94).alloc (.cells #[.pointer (some ⟨b,0,none⟩),U seed,.slice (some ⟨w.heap.size,0,none⟩) 1 1] 96)
 have h2:=Blk.new (w.alloc (.cells #[W 1#32] 94)) #[.pointer (some ⟨b,0,none⟩),U seed,.slice (some ⟨w.heap.size,0,none⟩) 1 1] 96
 rw [show (w.alloc (.cells #[W 1#32] 94)).heap.size = w.heap.size + 1 by simp] at h2
 refine ⟨rfl,⟨h2,⟨rfl,.inr ⟨w.heap.size,1,#[W 1#32],rfl,Nat.zero_le _,h1,Nat.le_refl _,by decide,rfl,rfl⟩⟩⟩,(qal _).alloc (by simp) _,by simp⟩
attribute [go_sem] qKe
@[go_sem] theorem qQV (t : TypeId) (x : BitVec 32) : binOp .add t (W x) (.int .u32 1) = pure (W (x + 1#32)):=qKe t x 1#32
theorem qK8.chg {g k : Nat} {e : TypeId} {w w' : World} {row : Option Nat} (h : qK8 row k e w w') (hr : ∀ i,row = some i → i = g) : Chg [g] w w' :=
 ⟨h.os,h.tape,h.output,h.size,fun i hi hn=>by
  rcases h.block i hi with hs | ⟨hr',_⟩
  · exact hs
  · exact absurd (hr i hr') (by simpa using hn)⟩
theorem qPN {w : World} {B g n cap : Nat} {e : TypeId} {xs : List Value} (h : w.ownsRow B e 1 (.slice (some ⟨g,0,none⟩) n cap) n xs) : ∃ cur,Blk w g cur e:=by
 rcases h.2 with ⟨h0,_⟩ | ⟨_,_,cur,e',_,hb,_⟩
 · cases h0
 · cases e';exact ⟨cur,hb⟩
def qMl (r : Bool) (l : List (BitVec 32)) : List (BitVec 32):=if r then l ++ [qAi l + 1#32] else l
def qPO (r : Bool) (l : List (BitVec 32)) (below : BitVec 32) : List (BitVec 32):=if r then qDX l below else l
theorem qOg (K b g : Nat) (seed : BitVec 64) (l : List (BitVec 32)) (cap : Nat) (p p' : Pw) (r : Bool) (h0 : 0 < l.length) (hl : l.length ≤ 90000) (w : World) (h : qBm 96 w K b g seed l cap) (hp : qCU w b p) (hok : p.ok 9223372036854775806) (hsp : p.spend = (r,p')) :
 Calls prog 125 #[.pointer (some ⟨K,0,none⟩)] w fun e w'=>∃ g' cap',e = .returned (.bool r) ∧ qCU w' b p' ∧ qBm 96 w' K b g' seed (qMl r l) cap' ∧ (g' = g ∨ w.heap.size ≤ g') ∧ Chg [b,K,g] w w':=by
 obtain ⟨cur,hcur⟩:=h.blkg
 have hbK : b ≠ K:=qAC hp h.blk (by decide)
 have hbg : b ≠ g:=qAC hp hcur (by decide)
 have hKg : K ≠ g:=qAC h.blk hcur (by decide)
 obtain ⟨e0,_,_⟩:=h.cells
 go_enter func125,ntmps125
 go_wp2_with fail
 refine (qAG b p p' r _ hp hok hsp).mono ?_
 rintro e w1 ⟨rfl,p1,g1⟩
 have g1:=Chg.of_grown g1
 have h1:=h.chg g1 (by simpa using hbK.symm) (by simpa using hbg.symm)
 cases r
 · go_wp2
   go_ret
   exact ⟨g,cap,rfl,p1,h1,.inl rfl,g1.mono (by simp)⟩
 · clear e0 hcur
   have s1:=g1.size
   go_wp2_with fail
   refine qAf [g] [(0,0),(1,0),(2,0),(3,0),(4,0),(5,0),(6,1),(7,0),(8,1),(9,1),(10,2),(11,2),(12,2)] (by kernel_rfl) (by kernel_rfl) ?_
   intro w2 hw2
   replace h1:=h1.kept hw2
   repeat
    refine qA0 _ rfl (fun K hK=>?_)
    first
     | (refine qqP (by rfl) ?_;apply Exists.intro;refine ⟨fun w' hw'=>?_,hK _ ?_⟩;(have d2:=hw'.cell h1.cells.2.2 (by simpa using hKg);go_simp;first|done|rfl))
     | refine qqN (by rfl) (hK _ ?_)
    clear hK K;simp only [Act.put,qqB]
   refine qqH _ rfl (by rfl) (fun K hK=>?_)
   go_wp2_with fail
   refine (qJp _ _ _ _ l _ h0 (by omega) _ h1).mono ?_
   rintro e w3 ⟨rfl,hk3⟩
   go_wp2
   refine hK _ _ (Chg.of_kept hk3) ?_
   clear hK K
   try simp only [Act.put,qqB]
   repeat
    refine qA0 _ rfl (fun K hK=>?_)
    first
     | (refine qqP (by rfl) ?_;apply Exists.intro;refine ⟨fun w' hw'=>?_,hK _ ?_⟩;go_simp;first|done|rfl)
     | refine qqN (by rfl) (hK _ ?_)
    clear hK K;simp only [Act.put,qqB]
   refine qqH _ rfl (by rfl) (fun K hK=>?_)
   go_wp2
   refine hK _ _ (Chg.of_kept (qal _)) ?_
   clear hK K
   try simp only [Act.put,qqB]
   refine qqH _ rfl (by rfl) (fun K hK=>?_)
   have h3:=h1.kept hk3
   have hro:=h3.row
   refine qBC qHh (by rfl) (by rfl) (by rfl) (hro.alloc _) (Sl.one _ _ _) (by rfl) (qI4 [qAi l + 1#32]) (by unfold maxLen;omega) (by omega) (Nat.zero_le _) ?_
   intro v5 w5 hown5 hgr5 hat5 _
   obtain ⟨g5,cap5,rfl,_,_⟩:=qFy hown5 (by omega)
   have c5 : Chg [g] (w3.alloc (.cells #[W (qAi l + 1#32)] 94)) w5:=hgr5.chg (fun i hi=>(Option.some.inj hi).symm)
   have ck : Chg [g] w1 w5:=(Chg.of_kept (qA4.of hw2 hk3)).trans ((Chg.of_kept (qal _)).trans c5)
   refine hK _ _ (c5) ?_
   clear hK K
   try simp only [Act.put,qqB]
   refine qAh _ rfl (fun K hK=>?_)
   refine qqP (by rfl) ?_
   go_wp2
   refine qAh _ rfl (fun K hK=>?_)
   refine qqP (by rfl) ?_
   go_wp2
   refine qAh _ rfl (fun K hK=>?_)
   refine qqP (by rfl) ?_
   have hb5:=ck.blk (h.chg g1 (by simpa using hbK.symm) (by simpa using hbg.symm)).blk (by simpa using hKg)
   have f2:=hb5.free 2
   have e2:=hb5.cell 2
   go_wp2
   refine qA7 ?_
   go_wp2
   go_ret
   obtain ⟨cur5,hcur5⟩:=qPN hown5
   have hK5 : K ≠ g5:=qAC hb5 hcur5 (by decide)
   have hq : Chg [K] w5 (w5.setCell ⟨K,2,none⟩ (.slice (some ⟨g5,0,none⟩) (l.length + 1) cap5)):=Chg.step (by simp) _
   refine ⟨g5,cap5,rfl,?_,⟨by simpa [qMl] using hb5.set 2 (.slice (some ⟨g5,0,none⟩) (l.length + 1) cap5),?_⟩,?_,?_⟩
   · exact hq.blk (ck.blk p1 (by simpa using hbg)) (by simpa using hbK)
   · have:=qJo hown5 hq (by simpa using hK5.symm)
     rw [qMl,if_pos rfl,qEi,List.length_append]
     exact this
   · rcases hat5 with h5 | h5
     · exact .inl (Option.some.inj h5)
     · refine .inr ?_
       have:=Option.some.inj h5
       have hz : (w3.alloc (.cells #[W (qAi l + 1#32)] 94)).heap.size = w3.heap.size + 1:=by simp
       have q2:=hw2.size
       have q3:=hk3.size
       have : g5 = (w3.alloc (.cells #[W (qAi l + 1#32)] 94)).heap.size:=this
       omega
   · exact (g1.mono (by simp)).trans ((ck.mono (by simp)).trans (hq.mono (by simp)))
theorem qMm (K b g : Nat) (seed : BitVec 64) (l : List (BitVec 32)) (cap : Nat) (below : BitVec 32) (p p' : Pw) (r : Bool) (h0 : 0 < l.length) (hl : l.length ≤ 90000) (w : World) (h : qBm 96 w K b g seed l cap) (hp : qCU w b p) (hok : p.ok 9223372036854775806) (hsp : p.spend = (r,p')) :
 Calls prog 114 #[.pointer (some ⟨K,0,none⟩),W below] w fun e w'=>∃ g' cap',e = .returned (.bool r) ∧ qCU w' b p' ∧ qBm 96 w' K b g' seed (qPO r l below) cap' ∧ (g' = g ∨ w.heap.size ≤ g') ∧ Chg [b,K,g] w w':=by
 obtain ⟨cur,hcur⟩:=h.blkg
 have hbK : b ≠ K:=qAC hp h.blk (by decide)
 have hbg : b ≠ g:=qAC hp hcur (by decide)
 have hKg : K ≠ g:=qAC h.blk hcur (by decide)
 have hgl:=hcur.lt
 have hKl:=h.blk.lt
 have hbl:=Blk.lt hp
 have hka : Chg [b] w (w.alloc (.cells #[W below] 94)):=Chg.of_kept (qal _)
 have ha:=h.kept ((qal _) : qA4 w (w.alloc (.cells #[W below] 94)))
 have pa:=Blk.kept hp ((qal _) : qA4 w (w.alloc (.cells #[W below] 94)))
 have hB1:=Blk.new w #[W below] 94
 obtain ⟨e0,_,_⟩:=ha.cells
 go_enter func114,ntmps114
 go_wp2_with fail
 generalize hwa : w.alloc (.cells #[W below] 94) = wa at *
 refine (qAG b p p' r _ pa hok hsp).mono ?_
 rintro e w1 ⟨rfl,p1,g1⟩
 have g1:=Chg.of_grown g1
 have h1:=ha.chg g1 (by simpa using hbK.symm) (by simpa using hbg.symm)
 have hB2:=g1.blk hB1 (by simp;omega)
 have g2:=hka.trans g1
 have s2:=g2.size
 clear hwa e0 hcur
 cases r
 · go_wp2
   go_ret
   exact ⟨g,cap,rfl,p1,h1,.inl rfl,g2.mono (by simp)⟩
 · go_wp2_with fail
   refine (qJp _ _ _ _ l _ h0 (by omega) _ h1).mono ?_
   rintro e w2 ⟨rfl,hk2⟩
   have hk3 : qA4 w2 (w2.alloc (.cells #[W (qAi l)] 94)):=qal _
   have h3:=(h1.kept hk2).kept hk3
   have b3:=(hB2.kept hk2).kept hk3
   have n3:=Blk.new w2 #[W (qAi l)] 94
   have c3 : Chg [b] w (w2.alloc (.cells #[W (qAi l)] 94)):=g2.trans (Chg.of_kept (qA4.of hk2 hk3))
   have p3:=Blk.kept (Blk.kept p1 hk2) hk3
   have s3:=hk2.size
   have d1 : w.heap.size ≠ g:=by omega
   have d2 : w2.heap.size ≠ g:=by omega
   obtain ⟨_,_,e2⟩:=h3.cells
   go_wp2_with fail
   refine (qJn below (qAi l) _ _ g cap l (by omega) _ (b3.cell 0) (n3.cell 0) d1 d2 h3.row).mono ?_
   rintro e w4 ⟨rfl,hown4,c4⟩
   have hb4:=c4.blk h3.blk (by simpa using hKg)
   have f2:=hb4.free 2
   have e3:=hb4.cell 2
   obtain ⟨R,hR⟩ : ∃ R,R = l.filter fun e=>!gone below (qAi l) e:=⟨_,rfl⟩
   rw [← hR] at hown4 ⊢
   have HR:=qh hR
   clear e2 hR
   go_wp2
   go_ret
   have hq : Chg [K] w4 (w4.setCell ⟨K,2,none⟩ (.slice (some ⟨g,0,none⟩) R.length cap)):=Chg.step (by simp) _
   have hd : qPO true l below = R:=HR.out.symm
   rw [hd]
   refine ⟨g,cap,rfl,?_,⟨by simpa using hb4.set 2 (.slice (some ⟨g,0,none⟩) R.length cap),qJo hown4 hq (by simpa using hKg.symm)⟩,.inl rfl,?_⟩
   · exact hq.blk (c4.blk p3 (by simpa using hbg)) (by simpa using hbK)
   · exact (c3.mono (by simp)).trans ((c4.mono (by simp)).trans (hq.mono (by simp)))
end Go.Proofs.YtdlgihbpiakebaaGreat
