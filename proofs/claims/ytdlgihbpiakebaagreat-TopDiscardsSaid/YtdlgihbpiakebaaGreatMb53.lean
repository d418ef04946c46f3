import Derived.Test.YtdlgihbpiakebaaGreatMb52
set_option maxRecDepth 100000
set_option maxHeartbeats 4000000
namespace Go.Proofs.YtdlgihbpiakebaaGreat
open Go Go.RowKit Tryz
theorem qNH {l : List (BitVec 32)} (hr : qEc l) (h0 : 0 < l.length) : (qDN l (qAi l)).length = 1:=by
 obtain ⟨m,hm⟩ : ∃ m,l = m ++ [qAi l]:=by
  refine ⟨l.dropLast,?_⟩
  have hne : l ≠ []:=fun e=>by rw [e] at h0;exact absurd h0 (by decide)
  have h1:=List.dropLast_concat_getLast hne
  have h2 : l.getLast hne = qAi l:=by
   unfold qAi
   rw [List.getLast_eq_getElem,List.getElem?_eq_getElem (by omega)]
   rfl
  rw [h2] at h1
  exact h1.symm
 have hlt : ∀ e ∈ m,e < qAi l:=by
  unfold qEc at hr
  rw [hm,List.pairwise_append] at hr
  intro e he
  have:=hr.2.2 e he (qAi (m ++ [qAi l])) (by simp [qAi])
  rw [← hm] at this
  exact this
 unfold qDN
 have h3 : ∀ now,l.filter (fun e=>!gone now now e) = (m.filter (fun e=>!gone now now e)) ++ ([qAi l].filter (fun e=>!gone now now e)):=fun now=>by
  conv=>lhs;rw [hm]
  rw [List.filter_append]
 rw [h3]
 have h4 : m.filter (fun e=>!gone (qAi l) (qAi l) e) = []:=by
  rw [List.filter_eq_nil_iff]
  intro e he
  have:=hlt e he
  have hne : e ≠ qAi l:=fun h=>by rw [h] at this;exact absurd this (by simp [BitVec.lt_def])
  unfold gone
  simp [this,hne]
 have h5 : [qAi l].filter (fun e=>!gone (qAi l) (qAi l) e) = [qAi l]:=by
  unfold gone
  simp
 rw [h4,h5]
 rfl
def Lk.isI : Lk → Bool
 | .real=>false
 | .ideal _ _=>true
theorem Lk.isI_seal (l : Lk) (key : qAB) (n : Nn) (head data : List UInt8) : (l.sealL key n head data).isI = l.isI:=by
 cases l <;> rfl
theorem Lk.isI_sum (l : Lk) (row : List UInt8) : (l.sumL row).isI = l.isI:=by
 cases l <;> rfl
theorem Lk.isI_build (l : Lk) (rows : List (List UInt8)) : (qAU l rows).2.isI = l.isI:=by
 have h1 : ∀ i,(qAA l rows i).2.isI = l.isI:=fun i=>by
  induction i with
  | zero=>rfl
  | succ i ih=>exact (Lk.isI_sum _ _).trans ih
 have h2 : ∀ k,(qAy l rows k).2.isI = l.isI:=fun k=>by
  induction k with
  | zero=>exact h1 _
  | succ k ih=>exact (Lk.isI_sum _ _).trans ih
 exact h2 _
structure Tr (b b' : Bx) (c : Nat) : Prop where
 boot : b'.boot = b.boot
 k : b'.k ≤ b.k + c
 k0 : b.k ≤ b'.k
 eps : b'.x.eps = b.x.eps
 bts : b'.x.c.boots = b.x.c.boots
 dw : b.x.d.waits = [] → b'.x.d.waits = []
 li : b'.x.l.isI = b.x.l.isI
theorem Tr.refl (b : Bx) (c : Nat) : Tr b b c:=⟨rfl,Nat.le_add_right _ _,Nat.le_refl _,rfl,rfl,id,rfl⟩
theorem Tr.trans {b b' b'' : Bx} {c d e : Nat} (h : Tr b b' c) (k : Tr b' b'' d) (he : c + d ≤ e) : Tr b b'' e :=
 ⟨k.boot.trans h.boot,by have:=h.k;have:=k.k;omega,Nat.le_trans h.k0 k.k0,k.eps.trans h.eps,k.bts.trans h.bts,fun w=>k.dw (h.dw w),k.li.trans h.li⟩
section
variable {x : Wd} {m k : Nat} {boot : BitVec 64} {ls : List Lf} {b : Bx} {B : Nat → List UInt8}
theorem qNI : (x.commit boot k ls).2.1.c.boots = x.c.boots ∧ (x.commit boot k ls).2.2 ≤ k + 1 ∧ k ≤ (x.commit boot k ls).2.2 ∧ ((x.commit boot k ls).1 = 6 → 100 ≤ (x.commit boot k ls).2.2) ∧ (x.commit boot k ls).2.1.l.isI = x.l.isI:=by
 have c3 : (x.commit3 boot k ls).c = x.c:=qAV.2.2.1
 have hl1 : qFD k ≤ k + 1:=by unfold qFD;split <;> omega
 have hl2 : k ≤ qFD k:=by unfold qFD;split <;> omega
 have c5 : (x.commit5 boot k ls).c.boots = x.c.boots:=by
  show (if _ then (x.commit4 boot k ls).c.bump else (x.commit4 boot k ls).c).boots = _
  have : (x.commit4 boot k ls).c = x.c:=c3
  rw [this]
  split <;> rfl
 have l1 : (x.commit1 ls).l.isI = x.l.isI:=by
  have ha : ∀ a,(x.areaW1 a ls).l.isI = x.l.isI:=fun a=>Lk.isI_build _ _
  unfold Wd.commit1 Wd.areaW
  split
  · exact ha x.commitA
  · exact ha x.commitA
 have l2 : (x.commit2 ls).l.isI = x.l.isI:=l1
 have l3 : (x.commit3 boot k ls).l.isI = x.l.isI:=by
  unfold Wd.commit3 Wd.logX
  split
  · exact (Lk.isI_seal _ _ _ _ _).trans l2
  · exact l2
 unfold Wd.commit
 split
 · exact ⟨by rw [qCw.2.2.1],by show k ≤ _;omega,Nat.le_refl _,fun h=>(by cases h),l1⟩
 split
 · exact ⟨by rw [qAG.2.2.1],by show k ≤ _;omega,Nat.le_refl _,fun h=>(by cases h),l2⟩
 split
 · refine ⟨by rw [c3],hl1,hl2,fun h=>?_,l3⟩
   have h' : (x.commit2 ls).logE k = 6:=h
   show 100 ≤ qFD k
   unfold Wd.logE at h'
   split at h'
   · split at h' <;> cases h'
   · unfold qFD;split <;> omega
 split
 · exact ⟨by show (x.commit3 boot k ls).c.boots = _;rw [c3],hl1,hl2,fun h=>(by cases h),l3⟩
 split
 · exact ⟨c5,hl1,hl2,fun h=>(by cases h),l3⟩
 · exact ⟨c5,hl1,hl2,fun h=>(by cases h),l3⟩
theorem qNJ (hz : x.p.ez) (hl : ls.length = x.n) (h0 : 0 < x.n) (hk : k < 100) : x.commit boot k ls = (0,x.commit5 boot k ls,k + 1):=by
 have hs:=hz.spend
 have c1 : (x.areaW1 (x.commitA) ls).p.ez:=qDx (x:=x.setL (x.areaB ls).2) hz _
 have ok : x.areaOk x.commitA ls = true:=by
  unfold Wd.areaOk
  rw [hs.1,c1.spend.1];rfl
 have hE : (x.commit2 ls).logE k = 0:=by
  unfold Wd.logE
  rw [if_pos hk,if_pos ((qK6 hl h0).ez hz).spend.1]
 unfold Wd.commit
 rw [if_neg (by rw [ok];decide),if_neg (by rw [((qP7 hl h0).ez hz).spend.1];decide),if_neg (by rw [hE];decide),if_neg (by rw [((qNz hl h0).ez hz).spend.1];decide),if_neg (by rw [((qNA hl h0).ez hz).spend.1];decide)]
 unfold qFD
 rw [if_pos hk]
theorem qCS (g : b.good m) : Tr b b.commit.2 1 ∧ (b.commit.1 = 6 → 100 ≤ b.commit.2.k):=by
 have h0 : 0 < b.x.n:=by have:=qAo g.f.x.ok.sl;omega
 have hc:=qGj (x:=b.x) (ls:=b.c.now) (boot:=b.boot) (k:=b.k) g.f.nl h0
 obtain ⟨h1,h2,h3,h4,h5⟩:=@qNI b.x b.k b.boot b.c.now
 exact ⟨⟨rfl,h2,h3,hc.eps,h1,fun w=>by show (b.x.commit b.boot b.k b.c.now).2.1.d.waits = [];rw [hc.d];exact w,h5⟩,h4⟩
theorem qPc (H : Hon b B) (g : b.good m) (hq : 0 < b.c.age.q.length) : Tr b b.evict.2 1 ∧ (b.evict.1 = 6 → 100 ≤ b.evict.2.k):=by
 obtain ⟨h1,h2⟩:=g.old hq
 unfold Bx.evict
 split
 · obtain ⟨e1,e2,H2,_⟩:=H.spill g b.oldest h2
   have gs:=g.spill h2
   obtain ⟨H3,hsp⟩:=H2.barrier gs
   rw [if_neg (by rw [e1];decide),if_neg (by rw [hsp];decide)]
   have T : Tr b (((b.spillX b.oldest).setX (b.spillX b.oldest).x.dBarrier).drops b.oldest) 0:=by
    have hw : (b.spillX b.oldest).x.dBarrier.d.waits = []:=by
     show ((b.spillX b.oldest).x.dk.barred (b.spillX b.oldest).x.p.spend.1 (b.spillX b.oldest).x.p.spend.2).waits = []
     rw [hsp]
     rfl
    refine ⟨?_,?_,?_,?_,?_,fun _=>hw,by show (b.spillX b.oldest).x.l.isI = _;rw [e2];rfl⟩
    · show (b.spillX b.oldest).boot = b.boot;rw [e2];rfl
    · show (b.spillX b.oldest).k ≤ b.k + 0;rw [e2];exact Nat.le_refl _
    · show b.k ≤ (b.spillX b.oldest).k;rw [e2];exact Nat.le_refl _
    · show (b.spillX b.oldest).x.eps = b.x.eps;rw [e2];rfl
    · show (b.spillX b.oldest).x.c.boots = b.x.c.boots;rw [e2];rfl
   obtain ⟨T2,h6⟩:=qCS ((gs.dBarrier).drops b.oldest (by show _ < (b.spillX b.oldest).c.now.length;rw [(qB2 b _).1];exact h1))
   exact ⟨T.trans T2 (by omega),h6⟩
 · have T : Tr b (b.drops b.oldest) 0:=⟨rfl,Nat.le_refl _,Nat.le_refl _,rfl,rfl,id,rfl⟩
   obtain ⟨T2,h6⟩:=qCS (g.drops _ h1)
   exact ⟨T.trans T2 (by omega),h6⟩
theorem qNK (H : Hon b B) (g : b.good m) : Tr b b.room.2 2 ∧ (b.room.1 = 6 → 100 ≤ b.room.2.k):=by
 unfold Bx.room
 split
 · exact ⟨Tr.refl _ _,fun h=>by cases h⟩
 · obtain ⟨H1,h1⟩:=H.commit g
   obtain ⟨T1,h6⟩:=qCS g
   split
   · exact ⟨T1.trans (Tr.refl _ 1) (by omega),h6⟩
   · rename_i h2 h3
     split
     · exact ⟨T1.trans (Tr.refl _ 1) (by omega),fun h=>by cases h⟩
     · rename_i h4
       have h5 : b.commit.1 = 0:=by omega
       obtain ⟨T2,h7⟩:=qPc H1 g.commit (g.commit.full (by simpa using h4) (by rw [qCc h5,(qBr b).1]))
       exact ⟨T1.trans T2 (by omega),h7⟩
theorem qRl (c : Bx) (s : Nat) (l : Lf) : (c.puts s l).x = c.x ∧ (c.puts s l).boot = c.boot ∧ (c.puts s l).k = c.k:=by
 unfold Bx.puts
 split <;> exact ⟨rfl,rfl,rfl⟩
theorem qNL (H : Hon b B) (lba : Int) (data : List UInt8) (dirty : Bool) : Tr b (b.lays lba data dirty).2 1 ∧ ((b.lays lba data dirty).1 = 6 → 100 ≤ (b.lays lba data dirty).2.k):=by
 unfold Bx.lays
 split
 · rename_i h;exact ⟨Tr.refl _ _,fun _=>by show 100 ≤ b.k;omega⟩
 · rw [if_pos H.ez.spend.1]
   obtain ⟨p1,p2,p3⟩:=qRl (b.lay (b.c.free.getD 0) lba data) (b.c.free.getD 0) (b.layF (b.c.free.getD 0) lba data dirty)
   exact ⟨⟨p2,by show Bx.k (Bx.puts _ _ _) ≤ _;rw [p3];exact Nat.le_refl _,by show _ ≤ Bx.k (Bx.puts _ _ _);rw [p3];exact Nat.le_succ _,by show (Bx.x (Bx.puts _ _ _)).eps = _;rw [p1];rfl,by show (Bx.x (Bx.puts _ _ _)).c.boots = _;rw [p1];rfl,fun w=>by show (Bx.x (Bx.puts _ _ _)).d.waits = _;rw [p1];exact w,by show (Bx.x (Bx.puts _ _ _)).l.isI = _;rw [p1];exact Lk.isI_seal _ _ _ _ _⟩,fun h=>by cases h⟩
theorem qPd (H : Hon b B) (g : b.good m) (lba : Int) (data : List UInt8) : Tr b (b.write lba data).2 3 ∧ ((b.write lba data).1 = 6 → 100 ≤ (b.write lba data).2.k):=by
 obtain ⟨H1,h1⟩:=H.room g
 obtain ⟨T1,h6⟩:=qNK H g
 unfold Bx.write
 split
 · exact ⟨T1.trans (Tr.refl _ 1) (by omega),h6⟩
 · obtain ⟨T2,h7⟩:=qNL H1 lba data true
   exact ⟨T1.trans T2 (by omega),h7⟩
theorem qLT (H : Hon b B) (g : b.good m) (lba : Int) : Tr b (b.discard lba).2 3 ∧ ((b.discard lba).1 = 6 → 100 ≤ (b.discard lba).2.k):=by
 obtain ⟨T1,h6⟩:=qNK H g
 unfold Bx.discard
 split
 · exact ⟨T1.trans (Tr.refl _ 1) (by omega),h6⟩
 · obtain ⟨p1,p2,p3⟩:=qRl b.room.2 (b.room.2.c.free.getD 0) (Lf.nought lba)
   have T2 : Tr b.room.2 (b.room.2.puts (b.room.2.c.free.getD 0) (Lf.nought lba)) 1:=⟨p2,by rw [p3];omega,by rw [p3];exact Nat.le_refl _,by rw [p1],by rw [p1],fun w=>by rw [p1];exact w,by rw [p1]⟩
   exact ⟨T1.trans T2 (by omega),fun h=>by cases h⟩
theorem qQq (H : Hon b B) (lba : Int) : Tr b (b.read lba).2 3 ∧ ((b.read lba).1.1 = 6 → 100 ≤ (b.read lba).2.k):=by
 unfold Bx.read
 cases hs : b.c.slot lba with
 | some s =>
  show Tr b (b.readV s (b.valD s)).2 3 ∧ ((b.readV s (b.valD s)).1.1 = 6 → 100 ≤ (b.readV s (b.valD s)).2.k)
  cases b.valD s with
  | none=>exact ⟨⟨rfl,Nat.le_add_right _ _,Nat.le_refl _,rfl,rfl,id,rfl⟩,fun h=>by cases h⟩
  | some d=>exact ⟨⟨rfl,Nat.le_add_right _ _,Nat.le_refl _,rfl,rfl,id,rfl⟩,fun h=>by cases h⟩
 | none =>
  show Tr b (b.readD lba (b.x.dk.read lba.toNat)).2 3 ∧ ((b.readD lba (b.x.dk.read lba.toNat)).1.1 = 6 → 100 ≤ (b.readD lba (b.x.dk.read lba.toNat)).2.k)
  unfold Bx.readD
  split
  · exact ⟨Tr.refl _ _,fun h=>by cases h⟩
  · obtain ⟨T2,h7⟩:=qNL H lba (b.x.dk.read lba.toNat) false
    unfold Bx.readN
    split
    · exact ⟨T2.trans (Tr.refl _ 1) (by omega),h7⟩
    · exact ⟨T2.trans (Tr.refl _ 1) (by omega),fun h=>by cases h⟩
theorem qHT : ∀ (k s : Nat) (b : Bx) (d : Bool) (m : Nat),Hon b B → b.good m → k + s = b.c.now.length →
 (Bx.empF k s b d).2.1.boot = b.boot ∧ (Bx.empF k s b d).2.1.k = b.k ∧ (Bx.empF k s b d).2.1.x.eps = b.x.eps ∧ (Bx.empF k s b d).2.1.x.c = b.x.c ∧ (Bx.empF k s b d).2.1.x.l = b.x.l ∧ ((Bx.empF k s b d).2.2 = false → d = false ∧ (Bx.empF k s b d).2.1.x.d = b.x.d)
 | 0,s,b,d,m,H,g,hk=>⟨rfl,rfl,rfl,rfl,rfl,fun h=>⟨h,rfl⟩⟩
 | k + 1,s,b,d,m,H,g,hk=>by
  unfold Bx.empF
  split
  · rename_i hd
    have hk1:=qCQ g.f hd
    obtain ⟨e1,e2,H2,hr⟩:=H.spill g s hk1
    rw [if_neg (by rw [e1];decide)]
    have hnow:=(qB2 b s).1
    obtain ⟨i1,i2,i3,i4,il,i5⟩:=qHT k (s + 1) (b.spillX s) true (m + 1) H2 (g.spill hk1) (by rw [hnow];omega)
    have q : (b.spillX s).boot = b.boot ∧ (b.spillX s).k = b.k ∧ (b.spillX s).x.eps = b.x.eps ∧ (b.spillX s).x.c = b.x.c ∧ (b.spillX s).x.l = b.x.l:=by rw [e2];exact ⟨rfl,rfl,rfl,rfl,rfl⟩
    exact ⟨i1.trans q.1,i2.trans q.2.1,i3.trans q.2.2.1,i4.trans q.2.2.2.1,il.trans q.2.2.2.2,fun h=>absurd (i5 h).1 (by decide)⟩
  · exact qHT k (s + 1) b d m H g (by omega)
theorem qPe (H : Hon b B) (g : b.good m) : Tr b b.empty.2 0:=by
 obtain ⟨h1,H1,h2,h3⟩:=Hon.empF (B:=B) b.c.now.length 0 b false m H g rfl (fun t ht=>absurd ht (by omega))
 have g1:=Bx.good.empF b.c.now.length 0 b false m g qle
 obtain ⟨i1,i2,i3,i4,il,i5⟩:=qHT b.c.now.length 0 b false m H g rfl
 unfold Bx.empty Bx.empR
 obtain ⟨r,hr⟩ : ∃ r,r = Bx.empF b.c.now.length 0 b false:=⟨_,rfl⟩
 rw [← hr] at h1 H1 h2 h3 g1 i1 i2 i3 i4 il i5 ⊢
 rw [if_neg (by rw [h1];decide)]
 unfold Bx.empD
 cases hd : r.2.2 with
 | false=>exact ⟨i1,by show r.2.1.k ≤ _;omega,by show _ ≤ r.2.1.k;omega,i3,by show r.2.1.x.c.boots = _;rw [i4],fun w=>by show r.2.1.x.d.waits = [];rw [(i5 hd).2];exact w,by show r.2.1.x.l.isI = _;rw [il]⟩
 | true =>
  obtain ⟨H2,hsp⟩:=H1.barrier g1
  rw [hsp]
  refine ⟨i1,by show r.2.1.k ≤ _;omega,by show _ ≤ r.2.1.k;omega,i3,by show r.2.1.x.c.boots = _;rw [i4],fun _=>?_,by show r.2.1.x.l.isI = _;rw [il]⟩
  show (r.2.1.x.dk.barred r.2.1.x.p.spend.1 r.2.1.x.p.spend.2).waits = []
  rw [hsp]
  rfl
theorem qQr (H : Hon b B) (g : b.good m) : b.empty.2.x.c = b.x.c:=by
 obtain ⟨h1,_⟩:=Hon.empF (B:=B) b.c.now.length 0 b false m H g rfl (fun t ht=>absurd ht (by omega))
 obtain ⟨i1,i2,i3,i4,il,i5⟩:=qHT b.c.now.length 0 b false m H g rfl
 unfold Bx.empty Bx.empR
 obtain ⟨r,hr⟩ : ∃ r,r = Bx.empF b.c.now.length 0 b false:=⟨_,rfl⟩
 rw [← hr] at h1 i4 ⊢
 rw [if_neg (by rw [h1];decide)]
 unfold Bx.empD
 split
 · exact i4
 · show (if r.2.2 then r.2.1.setX r.2.1.x.dBarrier else r.2.1).clear.x.c = _
   split <;> exact i4
end
structure Bx.set (b : Bx) : Prop where
 hold : b.x.holds b.x.sd.snap b.c.now (qAi b.x.eps)
 sw : b.x.s.waits = []
section
variable {m : Nat} {b : Bx} {B : Nat → List UInt8}
theorem qFc (H : Hon b B) (g : b.good m) (hm : m ≤ 900000) (hk : b.k < 100) (hb : b.x.c.boots.toNat < 2147483648) (hbt : b.boot = b.x.c.boots) :
 b.commit = (0,⟨b.x.commit5 b.boot b.k b.c.now,b.boot,b.k + 1,{ b.c with was:=b.c.now }⟩) ∧ b.commit.2.set ∧ b.commit.2.x.c.value = b.x.c.value + 1#64:=by
 have hn:=qAo g.f.x.ok.sl
 have he:=qNJ (x:=b.x) (boot:=b.boot) (k:=b.k) (ls:=b.c.now) H.ez g.f.nl (by omega) hk
 have h1 : b.commit = (0,⟨b.x.commit5 b.boot b.k b.c.now,b.boot,b.k + 1,{ b.c with was:=b.c.now }⟩):=by
  unfold Bx.commit
  rw [he]
  rfl
 obtain ⟨c1,c2,c3,c4,_⟩:=qIU (boot:=b.boot) g.f.x hm H.ez H.nb g.f.nl g.f.nok hk hb hbt
 rw [h1]
 refine ⟨rfl,⟨?_,c2⟩,c3⟩
 show (b.x.commit5 b.boot b.k b.c.now).holds _ b.c.now (qAi (b.x.commit5 b.boot b.k b.c.now).eps)
 rw [(qLQ (x:=b.x) (boot:=b.boot) (k:=b.k) g.f.nl (by omega)).eps]
 exact c1
theorem qPf (l : List (BitVec 32)) : qAi (qMp true l) = qAi l + 1#32:=qEO _ _
theorem qLU (H : Hon b B) (g : b.good m) (hm : m ≤ 800000) (hk : b.k + 2 ≤ 100) (hb : b.x.c.boots.toNat < 2147483648) (hbt : b.boot = b.x.c.boots) (hdw : b.x.d.waits = []) :
 b.rotate.1 = 0 ∧ b.rotate.2.set ∧ b.rotate.2.k = b.k + 2 ∧ b.rotate.2.boot = b.boot ∧ b.rotate.2.x.c.boots = b.x.c.boots ∧ b.rotate.2.x.d.waits = [] ∧ b.rotate.2.x.eps = [qAi b.x.eps + 1#32] ∧ b.rotate.2.x.c.value = b.x.c.value + 1#64 + 1#64 ∧ b.rotate.2.x.l.isI = b.x.l.isI:=by
 obtain ⟨e1,s1,v1⟩:=qFc H g (by omega) (by omega) hb hbt
 have h10 : b.commit.1 = 0:=by rw [e1]
 have h1k : b.commit.2.k = b.k + 1:=by rw [e1]
 obtain ⟨H1,_⟩:=H.commit g
 have g1:=g.commit
 have T1:=(qCS g).1
 obtain ⟨ee,H2,hk2⟩:=H1.empty g1
 have T2:=qPe H1 g1
 have hv2 : b.commit.2.empty.2.x.c = b.commit.2.x.c:=qQr H1 g1
 have g2:=g1.empty
 obtain ⟨b2,hb2⟩ : ∃ b2,b2 = b.commit.2.empty.2:=⟨_,rfl⟩
 unfold Bx.rotate
 rw [if_neg (by rw [h10];decide)]
 unfold Bx.rotE
 rw [if_neg (by rw [ee];decide),if_neg (by rw [H2.ez.spend.1];decide)]
 rw [← hb2] at H2 hk2 T2 hv2 g2 ⊢
 have hs2:=H2.ez.spend
 have g3:=g2.kAdd (by omega)
 have H3 : Hon (b2.setX b2.x.kAdd) B:=Hon.bare hs2.2 H2.no H2.bad H2.nb hk2 (fun i hi=>H2.bare_read hk2 i hi)
 have heps3 : b2.x.kAdd.eps = qMp true b2.x.eps:=by
  show qMp b2.x.p.spend.1 b2.x.eps = _
  rw [hs2.1]
 have hk3 : b2.k = b.k + 1:=by have:=T2.k;have:=T2.k0;omega
 obtain ⟨e4,s4,v4⟩:=qFc H3 g3 (by omega) (by show b2.k < 100;omega) (by show b2.x.c.boots.toNat < _;rw [T2.bts,T1.bts];exact hb) (by show b2.boot = b2.x.c.boots;rw [T2.boot,T2.bts,T1.boot,T1.bts];exact hbt)
 obtain ⟨H4,_⟩:=H3.commit g3
 have T4:=(qCS g3).1
 have g4:=g3.commit
 obtain ⟨b4,hb4⟩ : ∃ b4,b4 = (b2.setX b2.x.kAdd).commit.2:=⟨_,rfl⟩
 have h40 : (b2.setX b2.x.kAdd).commit.1 = 0:=by rw [e4]
 unfold Bx.forget
 rw [if_neg (by rw [h40];decide)]
 have h4k : b4.k = b2.k + 1:=by rw [hb4,e4];rfl
 rw [← hb4] at s4 v4 H4 T4 g4 ⊢
 have hs4:=H4.ez.spend
 have heps4 : b4.x.eps = qMp true b2.x.eps:=by rw [T4.eps];exact heps3
 have hnow4 : qAi b4.x.eps = qAi b.x.eps + 1#32:=by rw [heps4,qPf,T2.eps,T1.eps]
 have hepsE : (b4.x.kErase (qAi b4.x.eps)).eps = qDN b4.x.eps (qAi b4.x.eps):=by
  show qPT b4.x.p.spend.1 b4.x.eps _ = _
  rw [hs4.1]
  rfl
 have hl5:=qNH g4.f.x.ok.er g4.f.x.ok.ep
 have hn5:=qEP b4.x.eps (qAi b4.x.eps) g4.f.x.ok.ep
 refine ⟨by show (if b4.x.p.spend.1 then (0 : Int) else 7) = 0;rw [hs4.1];rfl,⟨?_,s4.sw⟩,by show b4.k = _;omega,by show b4.boot = _;rw [T4.boot];exact T2.boot.trans T1.boot,by show b4.x.c.boots = _;rw [T4.bts];exact T2.bts.trans T1.bts,by show b4.x.d.waits = [];exact T4.dw (T2.dw (T1.dw hdw)),?_,?_,by show b4.x.l.isI = _;rw [T4.li];exact T2.li.trans T1.li⟩
 · show (b4.x.kErase (qAi b4.x.eps)).holds b4.x.sd.snap b4.c.now (qAi (b4.x.kErase (qAi b4.x.eps)).eps)
   rw [hepsE,hn5.2]
   refine s4.hold.as rfl rfl ?_ rfl rfl (Lk.le.refl _) (Lk.sle.refl _)
   rw [hepsE]
   have:=qK5 hn5.1
   rw [hn5.2] at this
   exact this
 · show (b4.x.kErase (qAi b4.x.eps)).eps = _
   rw [hepsE]
   have h6:=qFK _ hn5.1
   rw [hl5,hn5.2] at h6
   have h7:=hl5
   generalize qDN b4.x.eps (qAi b4.x.eps) = E at h6 h7
   rw [hnow4] at h6
   match E,h7 with
   | [a],_ =>
    have : a = qAi b.x.eps + 1#32:=by simpa using h6
    rw [this]
 · show b4.x.c.value = _
   rw [v4]
   show b2.x.c.value + 1#64 = _
   rw [hv2,v1]
theorem qRm (H : Hon b B) (g : b.good m) (S : b.set) (hdw : b.x.d.waits = []) (one : b.x.eps.length = 1) (ks : List Bool) :
 ∃ b',(b.x.crash ks).opens = (0,b'.x,some b') ∧ Hon b' B ∧ b'.k = 0 ∧ b'.c.now = b.c.now:=by
 obtain ⟨y,hy⟩ : ∃ y,y = (b.x.crash ks).boot:=⟨_,rfl⟩
 have hez : (b.x.crash ks).p.ez:=⟨rfl,rfl⟩
 have hsp:=hez.spend
 have ysd : y.sd.snap = b.x.sd.snap:=by
  rw [hy]
  show qBj (qBy b.x.s.lasts b.x.s.waits (isK ks) b.x.s.waits.length) [] = qBj b.x.s.lasts b.x.s.waits
  rw [S.sw]
  rfl
 have yd : y.d = { b.x.d with p:=y.d.p }:=by
  rw [hy]
  show (({ b.x.d with p:=_ } : Dk).settled (isK ks)) = _
  unfold Dk.settled
  show ({ p:=_,lasts:=qFh b.x.d.lasts b.x.d.waits (isK ks) b.x.d.waits.length,waits:=[],trace:=b.x.d.trace,no:=b.x.d.no } : Dk) = _
  rw [hdw]
  show _ = ({ p:=_,lasts:=b.x.d.lasts,waits:=b.x.d.waits,trace:=b.x.d.trace,no:=b.x.d.no } : Dk)
  rw [hdw]
  rfl
 have yc : y.c = b.x.c.boot:=by
  rw [hy]
  show (if (b.x.crash ks).p.spend.1 then b.x.c.boot else b.x.c) = _
  rw [hsp.1]
  rfl
 have yp : y.p.ez:=by rw [hy];exact hsp.2
 have ye : y.eps = b.x.eps:=by rw [hy];rfl
 have yl : y.l = b.x.l:=by rw [hy];rfl
 have yn : y.n = b.x.n:=by rw [hy];rfl
 have yse : y.seed = b.x.seed:=by rw [hy];rfl
 have hl : y.loadO = some b.c.now:=S.hold.load g.f.x.ok.sl yn yse ye (by rw [yc];rfl) (by rw [yc];rfl) (by rw [yl];exact Lk.le.refl _) (by rw [yl];exact Lk.sle.refl _) ysd
 obtain ⟨q1,q2,q3,q4,q5,q6,q7⟩:=@qBs y
 have hle : y.l.le y.loadX.l ∧ (y.l.numb → y.loadX.l.numb):=by
  unfold Wd.loadX
  split
  · exact ⟨Lk.le.refl _,id⟩
  split
  · exact ⟨Lk.le.refl _,id⟩
  · exact ⟨qF7 _ _ _,fun h=>qDv h _ _⟩
 refine ⟨y.loadX.fresh b.c.now,?_,?_,rfl,rfl⟩
 · unfold Wd.opens
   rw [if_neg (by rw [hez.1];decide),if_neg (by rw [hsp.1];decide),← hy,hl]
   show Bx.openR (y.loadX.fresh b.c.now).finish = _
   unfold Bx.finish
   rw [if_pos (by show y.loadX.eps.length < 2;rw [q2,ye];omega)]
   rfl
 · have hlf : ∀ s,(y.loadX.fresh b.c.now).leaf s = b.leaf s:=fun s=>rfl
   refine ⟨by show y.loadX.p.ez;rw [q5];exact yp,by show y.loadX.d.no = false;rw [q7,yd];exact H.no,rfl,hle.2 (by rw [yl];exact H.nb),fun s hs=>?_,H.uniq,fun i hi h=>?_⟩
   · refine qIN (b:=b) (by show y.loadX.n = _;rw [q1,yn]) (by show y.loadX.seed = _;rw [q4,yse]) (by show y.loadX.eps = _;rw [q2,ye]) (by have:=hle.1;rw [yl] at this;exact this) ?_ (hlf s) (H.val s hs)
     unfold Wd.dat
     show (y.loadX.sd.snap.drop (gData y.loadX.n s)).take 32 = _
     have : y.loadX.sd.snap = y.sd.snap:=by
      unfold Wd.sd
      rw [q6]
      rfl
     rw [this,ysd,q1,yn]
   · have h1 : y.loadX.dk.read i = b.x.dk.read i:=by
      unfold Wd.dk Dk.read
      rw [q7,yd]
     show y.loadX.dk.read i = _
     rw [h1]
     exact H.dsk i hi h
end
def qBO (kind lba : Int) (data : List UInt8) : Ac:=⟨1,⟨kind,lba,data⟩,0,0,[],[]⟩
def qIV (kind : Int) (keep : List Bool) : Ac:=⟨kind,⟨0,0,[]⟩,0,0,[],keep⟩
structure Rdy (o : Bo) (b : Bx) (B : Nat → List UInt8) (m K : Nat) : Prop where
 oc : o.c = some b
 og : o.good m
 H : Hon b B
 k : b.k ≤ K
 dw : b.x.d.waits = []
 one : b.x.eps.length = 1
 bt : b.boot = b.x.c.boots
 bb : b.x.c.boots = 1#64
 li : b.x.l.isI = true
theorem qGl {o : Bo} {b : Bx} (h : o.c = some b) (k lba : Int) (d : List UInt8) : o.act (qBO k lba d) = ((b.doC ⟨k,lba,d⟩).1,⟨(b.doC ⟨k,lba,d⟩).2.x,some (b.doC ⟨k,lba,d⟩).2,o.snaps⟩):=by
 unfold Bo.act
 rw [if_pos (show (qBO k lba d).kind = 1 from rfl)]
 unfold Bo.call
 rw [h]
 rfl
section
variable {o : Bo} {b : Bx} {B : Nat → List UInt8} {m K : Nat} {lba : Int} {d : List UInt8}
theorem qIW (H : Hon b B) (c : Cl) (his : c.is = true) : b.doC c = if c.kind = 1 then b.read c.lba else if c.kind = 2 then (((b.write c.lba c.data).1,[]),(b.write c.lba c.data).2) else if c.kind = 3 then ((b.commit.1,[]),b.commit.2) else if c.kind = 4 then (((b.discard c.lba).1,[]),(b.discard c.lba).2) else ((b.rotate.1,[]),b.rotate.2):=by
 unfold Bx.doC
 rw [if_neg (by rw [H.ez.1];decide),if_neg (by rw [H.bad];decide),if_neg (by rw [his];decide)]
theorem Rdy.write (R : Rdy o b B m K) (hm : m ≤ 89000) (hK : K + 3 ≤ 99) (hl : isD lba = true) (hd : d.length = 32) :
 (o.act (qBO 2 lba d)).1.1 = 0 ∧ (o.act (qBO 2 lba d)).2.snaps = o.snaps ∧ Rdy (o.act (qBO 2 lba d)).2 (b.write lba d).2 (upd B lba.toNat d) (m + 110) (K + 3):=by
 have g:=R.og.bx b R.oc
 have he : b.doC ⟨2,lba,d⟩ = (((b.write lba d).1,[]),(b.write lba d).2):=by
  rw [qIW R.H _ (by unfold Cl.is;simp [hl,hd])]
  rfl
 obtain ⟨T,h6⟩:=qPd R.H g lba d
 have hk:=T.k
 have hk2:=R.k
 have ga:=R.og.act (by omega) (qBO 2 lba d) (by show (0 : Int) ≤ _;decide)
 rw [qGl R.oc,he] at ga ⊢
 rcases R.H.write g (by omega) hd hl with h | ⟨h,h'⟩
 · have:=h6 h;omega
 · exact ⟨h,rfl,⟨rfl,ga,h',by omega,T.dw R.dw,by rw [T.eps];exact R.one,by rw [T.boot,T.bts];exact R.bt,by rw [T.bts];exact R.bb,by rw [T.li];exact R.li⟩⟩
theorem Rdy.discard (R : Rdy o b B m K) (hm : m ≤ 89000) (hK : K + 3 ≤ 99) (hl : isD lba = true) :
 (o.act (qBO 4 lba [])).1.1 = 0 ∧ (o.act (qBO 4 lba [])).2.snaps = o.snaps ∧ Rdy (o.act (qBO 4 lba [])).2 (b.discard lba).2 (upd B lba.toNat (List.replicate 32 0)) (m + 110) (K + 3):=by
 have g:=R.og.bx b R.oc
 have he : b.doC ⟨4,lba,[]⟩ = (((b.discard lba).1,[]),(b.discard lba).2):=by
  rw [qIW R.H _ (by unfold Cl.is;simp [hl])]
  rfl
 obtain ⟨T,h6⟩:=qLT R.H g lba
 have hk:=T.k
 have hk2:=R.k
 have ga:=R.og.act (by omega) (qBO 4 lba []) (by show (0 : Int) ≤ _;decide)
 rw [qGl R.oc,he] at ga ⊢
 rcases R.H.discard g hl with h | ⟨h,h'⟩
 · have:=h6 h;omega
 · exact ⟨h,rfl,⟨rfl,ga,h',by omega,T.dw R.dw,by rw [T.eps];exact R.one,by rw [T.boot,T.bts];exact R.bt,by rw [T.bts];exact R.bb,by rw [T.li];exact R.li⟩⟩
theorem Rdy.flush (R : Rdy o b B m K) (hm : m ≤ 89000) (hK : K + 3 ≤ 99) :
 (o.act (qBO 3 0 [])).1.1 = 0 ∧ (o.act (qBO 3 0 [])).2.snaps = o.snaps ∧ Rdy (o.act (qBO 3 0 [])).2 b.commit.2 B (m + 110) (K + 3) ∧ b.commit.2.set ∧ b.commit.2.x.c.value = b.x.c.value + 1#64:=by
 have g:=R.og.bx b R.oc
 have he : b.doC ⟨3,0,[]⟩ = ((b.commit.1,[]),b.commit.2):=by
  rw [qIW R.H _ rfl]
  rfl
 have hk2:=R.k
 obtain ⟨e1,S,v⟩:=qFc R.H g (by omega) (by omega) (by rw [R.bb];decide) R.bt
 obtain ⟨T,h6⟩:=qCS g
 obtain ⟨h',_⟩:=R.H.commit g
 have hk:=T.k
 have ga:=R.og.act (by omega) (qBO 3 0 []) (by show (0 : Int) ≤ _;decide)
 rw [qGl R.oc,he] at ga ⊢
 exact ⟨by show b.commit.1 = 0;rw [e1],rfl,⟨rfl,ga,h',by omega,T.dw R.dw,by rw [T.eps];exact R.one,by rw [T.boot,T.bts];exact R.bt,by rw [T.bts];exact R.bb,by rw [T.li];exact R.li⟩,S,v⟩
theorem Rdy.rotate (R : Rdy o b B m K) (hm : m ≤ 89000) (hK : K + 3 ≤ 99) :
 (o.act (qBO 5 0 [])).1.1 = 0 ∧ (o.act (qBO 5 0 [])).2.snaps = o.snaps ∧ Rdy (o.act (qBO 5 0 [])).2 b.rotate.2 B (m + 110) (K + 3) ∧ b.rotate.2.set ∧ b.rotate.2.x.c.value = b.x.c.value + 1#64 + 1#64 ∧ b.rotate.2.x.eps = [qAi b.x.eps + 1#32]:=by
 have g:=R.og.bx b R.oc
 have he : b.doC ⟨5,0,[]⟩ = ((b.rotate.1,[]),b.rotate.2):=by
  rw [qIW R.H _ rfl]
  rfl
 have hk2:=R.k
 obtain ⟨e1,S,k1,k2,k3,k4,k5,k6,k7⟩:=qLU R.H g (by omega) (by omega) (by rw [R.bb];decide) R.bt R.dw
 obtain ⟨h',_⟩:=R.H.rotate g (by omega)
 have ga:=R.og.act (by omega) (qBO 5 0 []) (by show (0 : Int) ≤ _;decide)
 rw [qGl R.oc,he] at ga ⊢
 exact ⟨e1,rfl,⟨rfl,ga,h',by omega,k4,by rw [k5];rfl,by rw [k2,k3];exact R.bt,by rw [k3];exact R.bb,by rw [k7];exact R.li⟩,S,k6,k5⟩
theorem qQs {m : Nat} (hc : o.c = some b) (g : b.good m) (hm : m ≤ 89000) (H : Hon b B) (hk : b.k ≤ 90) (hl : isD lba = true) : (o.act (qBO 1 lba [])).1 = (0,B lba.toNat):=by
 have he : b.doC ⟨1,lba,[]⟩ = b.read lba:=by
  rw [qIW H _ (by unfold Cl.is;simp [hl])]
  rfl
 rw [qGl hc,he]
 obtain ⟨T,h6⟩:=qQq H lba
 have hk2:=T.k
 rcases H.read g (by omega) hl with h | ⟨h,_⟩
 · have:=h6 h;omega
 · exact h
theorem Rdy.crash (R : Rdy o b B m K) (hm : m ≤ 88000) (S : b.set) (ks : List Bool) (hl : isD lba = true) : (o.act (qIV 3 ks)).1.1 = 0 ∧ ((o.act (qIV 3 ks)).2.act (qBO 1 lba [])).1 = (0,B lba.toNat):=by
 have g:=R.og.bx b R.oc
 have ga:=R.og.act (by omega) (qIV 3 ks) (by show (0 : Int) ≤ _;decide)
 have hcur : o.cur = b.x:=by unfold Bo.cur;rw [R.oc]
 obtain ⟨b',h1,H',hk,_⟩:=qRm R.H g S R.dw R.one ks
 have ha : o.act (qIV 3 ks) = ((0,[]),⟨b'.x,some b',o.snaps⟩):=by
  unfold Bo.act
  rw [if_neg (by show ¬ (3 : Int) = 1;decide),if_neg (by show ¬ (3 : Int) = 2;decide),if_pos (show (qIV 3 ks).kind = 3 from rfl)]
  unfold Bo.crash Bo.open_
  rw [hcur,show (qIV 3 ks).keep = ks from rfl,h1]
 rw [ha] at ga ⊢
 exact ⟨rfl,qQs rfl (ga.bx b' rfl) (by omega) H' (by omega) hl⟩
end
def qNS (o : Bo) : List Ac → Bo
 | []=>o
 | a :: l=>qNS (o.act a).2 l
def okL (o : Bo) : List Ac → Prop
 | []=>True
 | a :: l=>(o.act a).1.1 = 0 ∧ okL (o.act a).2 l
def kn (rot : Bool) : Int:=if rot then 5 else 3
def qNM (lba : Int) (d : UInt8) (rot : Bool) (ks : List Bool) : List Ac:=[qBO 2 lba (List.replicate 32 d),qBO (kn rot) 0 [],qBO 4 lba [],qBO (kn rot) 0 [],qIV 3 ks]
theorem qRn : Rdy (Bo.new 4 1#64 true) (Bo.newB 4 1#64 true) (fun _=>List.replicate 32 0) 17 0 :=
 ⟨rfl,Bo.new_good 4 1#64 true rfl,Hon.new 4 rfl true,Nat.le_refl _,rfl,rfl,rfl,rfl,rfl⟩
section
variable {o : Bo} {b : Bx} {B : Nat → List UInt8} {m K : Nat} {lba : Int} {d : List UInt8}
theorem Rdy.kn (R : Rdy o b B m K) (hm : m ≤ 89000) (hK : K + 3 ≤ 99) (rot : Bool) :
 (o.act (qBO (kn rot) 0 [])).1.1 = 0 ∧ (o.act (qBO (kn rot) 0 [])).2.snaps = o.snaps ∧ ∃ b',Rdy (o.act (qBO (kn rot) 0 [])).2 b' B (m + 110) (K + 3) ∧ b'.set:=by
 cases rot with
 | true =>
  obtain ⟨e,s,R',S,_⟩:=R.rotate hm hK
  exact ⟨e,s,_,R',S⟩
 | false =>
  obtain ⟨e,s,R',S,_⟩:=R.flush hm hK
  exact ⟨e,s,_,R',S⟩
theorem qNN (hl : isD lba = true) (d : UInt8) (rot : Bool) (ks : List Bool) : okL (Bo.new 4 1#64 true) (qNM lba d rot ks) ∧ ((qNS (Bo.new 4 1#64 true) (qNM lba d rot ks)).act (qBO 1 lba [])).1 = (0,List.replicate 32 0):=by
 obtain ⟨e1,_,R1⟩:=qRn.write (lba:=lba) (d:=List.replicate 32 d) (by omega) (by omega) hl List.length_replicate
 obtain ⟨e2,_,b2,R2,S2⟩:=R1.kn (by omega) (by omega) rot
 obtain ⟨e3,_,R3⟩:=R2.discard (lba:=lba) (by omega) (by omega) hl
 obtain ⟨e4,_,b4,R4,S4⟩:=R3.kn (by omega) (by omega) rot
 obtain ⟨e5,e6⟩:=R4.crash (lba:=lba) (by omega) S4 ks hl
 refine ⟨⟨e1,e2,e3,e4,e5,trivial⟩,?_⟩
 rw [qHQ] at e6
 exact e6
end


structure qK9 (col : Nat → Nat) (w : World) (g : Nat) (l : List Ac) (rs : List (Value × Value × Value)) : Prop where
 len : rs.length = l.length
 c0 : col g = 0
 lt : g < w.heap.size
 cell : ∀ (k : Nat) (x : Ac) (r : Value × Value × Value),l[k]? = some x → rs[k]? = some r → ∀ (j : Nat) (u : Value),(qFb x r)[j]? = some u → w.cell? ⟨g,k * 8 + j,none⟩ = some u
 each : ∀ (k : Nat) (x : Ac) (r : Value × Value × Value),l[k]? = some x → rs[k]? = some r → qEL col w x r.1 r.2.1 r.2.2
 n0 : ∀ x ∈ l,x.n = 0
theorem qK9.ext {m g : Nat} {col col' : Nat → Nat} {w w' : World} {l : List Ac} {rs : List (Value × Value × Value)} (h : qK9 col w g l rs) (e : Ext m col col' w w') : qK9 col' w' g l rs :=
 ⟨h.len,(e.old g h.lt).trans h.c0,Nat.lt_of_lt_of_le h.lt e.size,fun k x r hx hr j u hj=>e.cell0 (h.cell k x r hx hr j u hj) h.c0,fun k x r hx hr=>(h.each k x r hx hr).ext e,h.n0⟩
def qGm (col : Nat → Nat) (w : World) : List Ac → List (Value × Value × Value) → Prop
 | [],[]=>True
 | x :: l,r :: rs=>(x.n = 0 ∧ qEL col w x r.1 r.2.1 r.2.2) ∧ qGm col w l rs
 | [],_ :: _=>False
 | _ :: _,[]=>False
theorem qGm.len {col : Nat → Nat} {w : World} : ∀ {l : List Ac} {rs : List (Value × Value × Value)},qGm col w l rs → rs.length = l.length
 | [],[],_=>rfl
 | _ :: l,_ :: rs,h=>congrArg (· + 1) (qGm.len h.2)
 | [],_ :: _,h=>h.elim
 | _ :: _,[],h=>h.elim
theorem qGm.get {col : Nat → Nat} {w : World} : ∀ {l : List Ac} {rs : List (Value × Value × Value)},qGm col w l rs → ∀ (k : Nat) (x : Ac) (r : Value × Value × Value),l[k]? = some x → rs[k]? = some r → qEL col w x r.1 r.2.1 r.2.2
 | [],[],_,k,x,r,h,_=>by simp at h
 | _ :: l,_ :: rs,h,0,x,r,h1,h2=>by
  simp at h1 h2
  subst h1
  subst h2
  exact h.1.2
 | _ :: l,_ :: rs,h,k + 1,x,r,h1,h2=>qGm.get h.2 k x r (by simpa using h1) (by simpa using h2)
 | [],_ :: _,h,_,_,_,_,_=>h.elim
 | _ :: _,[],h,_,_,_,_,_=>h.elim
theorem qGm.n0 {col : Nat → Nat} {w : World} : ∀ {l : List Ac} {rs : List (Value × Value × Value)},qGm col w l rs → ∀ x ∈ l,x.n = 0
 | [],[],_,x,h=>by cases h
 | _ :: l,_ :: rs,h,x,h1=>by
  rcases List.mem_cons.1 h1 with h2 | h2
  · rw [h2];exact h.1.1
  · exact qGm.n0 h.2 x h2
 | [],_ :: _,h,_,_=>h.elim
 | _ :: _,[],h,_,_=>h.elim
theorem qKQ : ∀ (l : List Ac) (rs : List (Value × Value × Value)) (k : Nat) (x : Ac) (r : Value × Value × Value),l[k]? = some x → rs[k]? = some r → ∀ (j : Nat) (u : Value),(qFb x r)[j]? = some u → ((List.zipWith qFb l rs).flatten)[k * 8 + j]? = some u
 | [],_,k,x,r,h,_=>by simp at h
 | _ :: _,[],k,x,r,_,h=>by simp at h
 | y :: l,s :: rs,0,x,r,h,hr=>by
  intro j u hj
  simp at h hr
  subst h
  subst hr
  have hl:=(List.getElem?_eq_some_iff.1 hj).1
  rw [Nat.zero_mul,Nat.zero_add,List.zipWith_cons_cons,List.flatten_cons,List.getElem?_append_left hl]
  exact hj
 | y :: l,s :: rs,k + 1,x,r,h,hr=>by
  intro j u hj
  have h8 : (qFb y s).length = 8:=rfl
  rw [List.zipWith_cons_cons,List.flatten_cons,List.getElem?_append_right (by rw [h8];omega),h8,show (k + 1) * 8 + j - 8 = k * 8 + j by omega]
  exact qKQ l rs k x r (by simpa using h) (by simpa using hr) j u hj
theorem qK9.of {g : Nat} {col : Nat → Nat} {w : World} {l : List Ac} {rs : List (Value × Value × Value)} {cs : Array Value} {T : TypeId} (hb : Blk w g cs T) (hcs : cs = ((List.zipWith qFb l rs).flatten).toArray) (c0 : col g = 0) (h : qGm col w l rs) : qK9 col w g l rs :=
 ⟨h.len,c0,hb.lt,fun k x r hx hr j u hj=>by
  rw [hb.cell,hcs,List.getElem?_toArray]
  exact qKQ l rs k x r hx hr j u hj,h.get,h.n0⟩
theorem qIX : ∀ (l : List Ac) (o : Bo) (k : Nat) (x : Ac),l[k]? = some x → qNS o (l.take (k + 1)) = ((qNS o (l.take k)).act x).2
 | [],o,k,x,h=>by simp at h
 | y :: l,o,0,x,h=>by
  simp at h
  subst h
  rfl
 | y :: l,o,k + 1,x,h=>by
  show qNS (o.act y).2 (l.take (k + 1)) = ((qNS (o.act y).2 (l.take k)).act x).2
  exact qIX l _ k x (by simpa using h)
theorem qPt : ∀ (l : List Ac) (o : Bo) (k : Nat) (x : Ac),okL o l → l[k]? = some x → ((qNS o (l.take k)).act x).1.1 = 0
 | [],o,k,x,_,h=>by simp at h
 | y :: l,o,0,x,ho,h=>by
  simp at h
  subst h
  exact ho.1
 | y :: l,o,k + 1,x,ho,h=>qPt l (o.act y).2 k x ho.2 (by simpa using h)
theorem qGv (lba : Int) (d : UInt8) (rot : Bool) (a : Option Addr) (cap : Nat) (ks : List Bool) (w : World) (h : Sl w (.slice a ks.length cap) ks.length (qB6 ks)) (h1 : 0 ≤ lba ∧ lba < 32) (h2 : ks.length ≤ 20) : Calls prog 4 #[.int .i64 lba,V8 d,.bool rot,.slice a ks.length cap] w fun e w'=>e = .returned (.bool true) ∧ qA4 w w':=by
 obtain ⟨N,hN⟩ : ∃ N,N = ks.length:=⟨_,rfl⟩
 rw [← hN] at h h2 ⊢
 have HN:=qh hN
 clear hN
 have l1 : ¬ lba < 0:=by omega
 have l2 : ¬ 32 ≤ lba:=by omega
 have l3 : ¬ (20 : Int) < (N : Int):=by omega
 have hlD:=qh (show isD lba = true by unfold isD;simp;omega)
 clear h1
 obtain ⟨r,hr⟩ : ∃ r,r = rot:=⟨_,rfl⟩
 cases rot
 all_goals
  have CN : Calls prog 9 #[.int .i64 4,.int .u64 1,.bool true] w fun e w'=>∃ P X col',e = .returned (.tuple #[.pointer (some ⟨X,0,none⟩),.int .i64 0]) ∧ qAK col' w' P X (Bo.new 4 1#64 true) ∧ Ext 12 (fun _=>0) col' w w':=qHO 4 rfl 1#64 true w
  have g0:=Bo.new_good 4 1#64 true rfl
  go_enter func4,ntmps4
  go_wp2_with fail
  refine CN.mono ?_
  rintro e w1 ⟨P,X,col1,rfl,h1,e1⟩
  go_wp2_with fail
  refine (qCb d w1).mono ?_
  rintro e w2 ⟨rfl,hr2,k2⟩
  go_wp2_with fail
  refine (qBK 2 lba (some ⟨w1.heap.size,0,none⟩) 32 32 w2).mono ?_
  rintro e w3 ⟨rfl,k3⟩
  go_wp2_with fail
  refine (qBK _ 0 none 0 0 w3).mono ?_
  rintro e w4 ⟨rfl,k4⟩
  go_wp2_with fail
  refine (qBK 4 lba none 0 0 w4).mono ?_
  rintro e w5 ⟨rfl,k5⟩
  go_wp2_with fail
  refine (qBK _ 0 none 0 0 w5).mono ?_
  rintro e w6 ⟨rfl,k6⟩
  go_wp2_with fail
  have k16 : qA4 w1 w6:=(((k2.of k3).of k4).of k5).of k6
  obtain ⟨cs,hcs⟩ : ∃ cs : Array Value,cs = ((List.zipWith qFb (qNM lba d r ks) [(.slice (some ⟨w1.heap.size,0,none⟩) 32 32,.slice none 0 0,.slice none 0 0),(.slice none 0 0,.slice none 0 0,.slice none 0 0),(.slice none 0 0,.slice none 0 0,.slice none 0 0),(.slice none 0 0,.slice none 0 0,.slice none 0 0),(.slice none 0 0,.slice none 0 0,.slice a ks.length cap)]).flatten).toArray:=⟨_,rfl⟩
  have hcs2 : ∀ q : Int,q = kn r → (#[.int .i64 1,.int .i64 2,.int .i64 lba,.slice (some ⟨w1.heap.size,0,none⟩) 32 32,.int .i64 0,.int .i64 0,.slice none 0 0,.slice none 0 0,.int .i64 1,.int .i64 q,.int .i64 0,.slice none 0 0,.int .i64 0,.int .i64 0,.slice none 0 0,.slice none 0 0,.int .i64 1,.int .i64 4,.int .i64 lba,.slice none 0 0,.int .i64 0,.int .i64 0,.slice none 0 0,.slice none 0 0,.int .i64 1,.int .i64 q,.int .i64 0,.slice none 0 0,.int .i64 0,.int .i64 0,.slice none 0 0,.slice none 0 0,.int .i64 3,.int .i64 0,.int .i64 0,.slice none 0 0,.int .i64 0,.int .i64 0,.slice none 0 0,.slice a N cap] : Array Value) = cs:=by rintro _ rfl;rw [hcs,← HN.out];rfl
  rw [hcs2]
  rotate_left
  · rw [hr];rfl
  have bA:=Blk.new w6 cs 37
  have hk9 : qA4 w6 (w6.alloc (.cells cs 37)):=qal _
  obtain ⟨w9,hw9⟩ : ∃ y,y = w6.alloc (.cells cs 37):=⟨_,rfl⟩
  rw [← hw9] at bA hk9 ⊢
  clear hw9 hcs2
  have h9:=(h1.kept k16).kept hk9
  have e9 : Ext 12 (fun _=>0) col1 w w9:=e1.trans (Ext.kept (m:=12) h1.top (k16.of hk9))
  have hG0 : col1 w6.heap.size = 0:=h1.top _ k16.size
  have hs1 : SlC col1 w9 (.slice (some ⟨w1.heap.size,0,none⟩) 32 32) (List.replicate 32 d):=SlC.of_own (qA3 hr2 ((((k3.of k4).of k5).of k6).of hk9)) h1.top qle
  have hA5 : qEL col1 w9 (qIV 3 ks) (.slice none 0 0) (.slice none 0 0) (.slice a N cap):=qEL.ext (col:=fun _=>0) (w:=w) ⟨SlC.nil,SlC.nil,by show Sl w _ ks.length _;rw [← HN.out];exact h,fun _ _ _ _=>rfl,by show (0 : Nat) ≤ 1000;decide,by show (0 : Nat) ≤ 1000;decide,by show ks.length ≤ 1000;rw [← HN.out];omega⟩ e9
  rw [← HN.out] at hcs
  have hA:=qK9.of (col:=col1) bA hcs hG0 ⟨⟨rfl,qEL.wr 2 lba hs1 (by rw [List.length_replicate];decide)⟩,⟨rfl,qEL.nil 1 _ 0 0 0⟩,⟨rfl,qEL.nil 1 4 lba 0 0⟩,⟨rfl,qEL.nil 1 _ 0 0 0⟩,⟨rfl,hA5⟩,trivial⟩
  have hok:=(qNN hlD.out d r ks).1
  have hAl : (qNM lba d r ks).length = 5:=rfl
  obtain ⟨A,hAe⟩ : ∃ A,A = qNM lba d r ks:=⟨_,rfl⟩
  rw [← hAe] at hA hok hAl
  generalize [((Value.slice (some ⟨w1.heap.size,0,none⟩) 32 32,Value.slice none 0 0,Value.slice none 0 0) : Value × Value × Value),(Value.slice none 0 0,Value.slice none 0 0,Value.slice none 0 0),(Value.slice none 0 0,Value.slice none 0 0,Value.slice none 0 0),(Value.slice none 0 0,Value.slice none 0 0,Value.slice none 0 0),(Value.slice none 0 0,Value.slice none 0 0,Value.slice a N cap)] = rs at hA
  generalize w6.heap.size = G at hA bA ⊢
  replace hok:=qh hok
  replace hAl:=qh hAl
  replace hAe:=qh hAe
  clear hcs hs1 hA5 bA hr2 hG0
  go_loopw [13] (fun i wr=>∃ (k : Nat) (o : Bo) (ck : Nat → Nat),i = .int .i64 k ∧ k ≤ 5 ∧ qAK ck wr P X o ∧ qK9 ck wr G A rs ∧ Ext 12 (fun _=>0) ck w wr ∧ o = qNS (Bo.new 4 1#64 true) (A.take k) ∧ o.good (17 + 110 * k)) (fun i _=>5 - (intOf i).toNat)
  case atStart=>exact ⟨0,Bo.new 4 1#64 true,col1,rfl,by omega,h9,hA,e9,rfl,g0⟩
  case round =>
   obtain ⟨k,o,ck,rfl,hk,hb,ha,eb,ho,g⟩:=hrel
   by_cases hlt : k < 5
   · have m1 : (k : Int) < 5:=by omega
     have m3 : (0 : Int) ≤ (k : Int):=by omega
     obtain ⟨x,hx⟩ : ∃ x,A[k]? = some x:=⟨_,List.getElem?_eq_getElem (by rw [hAl.out];exact hlt)⟩
     obtain ⟨r,hr⟩ : ∃ r,rs[k]? = some r:=⟨_,List.getElem?_eq_getElem (by rw [ha.len,hAl.out];exact hlt)⟩
     have hAA:=ha.each k x r hx hr
     have dd:=ha.cell k x r hx hr
     obtain ⟨r1,r2,r3⟩:=r
     obtain ⟨a1,c1,e1'⟩:=hAA.s1.1.len
     obtain ⟨a2,c2,e2'⟩:=hAA.s2.1.len
     obtain ⟨a3,c3,e3'⟩:=hAA.s3.len
     simp only at e1' e2' e3'
     subst e1'
     subst e2'
     subst e3'
     have d0 : wr.cell? ⟨G,k * 8,none⟩ = some (.int .i64 x.kind):=dd 0 _ rfl
     have d1 : wr.cell? ⟨G,k * 8 + 1,none⟩ = some (.int .i64 x.call.kind):=dd 1 _ rfl
     have d2 : wr.cell? ⟨G,k * 8 + 2,none⟩ = some (.int .i64 x.call.lba):=dd 2 _ rfl
     have d3 : wr.cell? ⟨G,k * 8 + 3,none⟩ = some (.slice a1 x.call.data.length c1):=dd 3 _ rfl
     have d4 : wr.cell? ⟨G,k * 8 + 4,none⟩ = some (.int .i64 x.n):=dd 4 _ rfl
     have d5 : wr.cell? ⟨G,k * 8 + 5,none⟩ = some (.int .i64 x.off):=dd 5 _ rfl
     have d6 : wr.cell? ⟨G,k * 8 + 6,none⟩ = some (.slice a2 x.data.length c2):=dd 6 _ rfl
     have d7 : wr.cell? ⟨G,k * 8 + 7,none⟩ = some (.slice a3 x.keep.length c3):=dd 7 _ rfl
     have CB:=qKK hb g (by omega) x a1 a2 a3 c1 c2 c3 hAA
     have g2:=g.act (by omega) x (by rw [ha.n0 x (List.mem_of_getElem? hx)];decide)
     have hE : (o.act x).1.1 = 0:=by rw [ho];exact qPt A _ k x hok.out hx
     have ho2 : (o.act x).2 = qNS (Bo.new 4 1#64 true) (A.take (k + 1)):=by rw [qIX A _ k x hx,ho]
     obtain ⟨F,hF⟩ : ∃ F,F = o.act x:=⟨_,rfl⟩
     rw [← hF] at CB g2 hE ho2
     obtain ⟨⟨E,D⟩,o2⟩:=F
     simp only at CB g2 hE ho2
     subst hE
     have g3:=g2.up (k:=17 + 110 * (k + 1)) (by omega)
     replace hx:=qh hx
     replace ho:=qh ho
     replace ho2:=qh ho2
     clear hF dd hr hAA
     go_wp2_with fail
     refine CB.mono ?_
     rintro e w2 ⟨v,c4,rfl,hv,h2,e2⟩
     have hfd:=qHS (.int .i64 0) v w2
     go_wp2_with fail
     exact ⟨⟨k + 1,o2,c4,rfl,by omega,h2,ha.ext e2,eb.trans e2,ho2.out,g3⟩,by simp [intOf];omega⟩
   · have m1 : ¬ (k : Int) < 5:=by omega
     have hk5 : k = 5:=by omega
     subst hk5
     have ho5 : o = qNS (Bo.new 4 1#64 true) A:=by rw [ho,List.take_of_length_le (Nat.le_of_eq hAl.out)]
     clear ho
     go_wp2_with fail
     have e6:=(qNN hlD.out d r ks).2
     rw [← hAe.out,← ho5] at e6
     refine (qBK 1 lba none 0 0 wr).mono ?_
     rintro e w5 ⟨rfl,k5'⟩
     have CR:=qKK (hb.kept k5') g (by omega) (qBO 1 lba []) none none none 0 0 0 (qEL.nil 1 1 lba 0 0)
     rw [e6] at CR
     go_wp2_with fail
     refine CR.mono ?_
     rintro e w6 ⟨v6,col6,rfl,hv6,_,e6'⟩
     obtain ⟨va,vc,rfl⟩:=(Sl.of_own hv6.1).len
     have kk6 : qA4 w w6:=((eb.trans (Ext.kept (m:=12) eb.top k5')).trans e6').kept0
     have bR:=Blk.new w6 #[.int .i64 0,.slice va (List.replicate 32 (0 : UInt8)).length vc] 39
     have hkR : qA4 w6 (w6.alloc (.cells #[.int .i64 0,.slice va (List.replicate 32 (0 : UInt8)).length vc] 39)):=qal _
     have hv4:=qA3 hv6.1 hkR
     obtain ⟨dd,hdd⟩ : ∃ d,d = List.replicate 32 (0 : UInt8):=⟨_,rfl⟩
     have hd32 : dd.length = 32:=by rw [hdd];rfl
     rw [← hdd] at hv4 bR hkR
     rw [hd32] at hv4 bR hkR
     replace hdd:=qh hdd
     replace hd32:=qh hd32
     go_wp2_with fail
     obtain ⟨w7,hw7⟩ : ∃ y,y = (w6.alloc (.cells #[.int .i64 0,.slice va 32 vc] 39)):=⟨_,rfl⟩
     rw [← hw7] at hv4 bR hkR ⊢
     clear hw7
     refine qA5 [(0,0),(1,0),(2,0),(3,0),(4,0),(5,0),(6,0),(7,1),(8,0),(9,0),(10,0),(11,0),(12,1),(13,0),(14,0)] (by kernel_rfl) (by kernel_rfl) ?_
     intro z1 hz1
     repeat
      refine qA0 _ rfl (fun K hK=>?_)
      first
       | (refine qqP (by rfl) ?_;apply Exists.intro;refine ⟨fun w' hw'=>?_,hK _ ?_⟩;(have hb:=(bR.kept (hz1.of hw'));have b0:=Blk.cell hb 0;have b1:=Blk.cell hb 1;clear hb;have s1:=qFg (v:=.slice va 32 vc) (bs:=dd) (by rw [hd32.out];exact Sl.of_own (qA3 hv4 (hz1.of hw')));go_simp;first|done|rfl))
       | refine qqN (by rfl) (hK _ ?_)
      clear hK K;simp only [Act.put,qqB]
     refine qqH _ rfl (by rfl) (fun K hK=>?_)
     go_wp2_with fail
     refine (qCb 0 z1).mono ?_
     rintro e z2 ⟨rfl,ho5,k5⟩
     go_wp2
     refine hK _ _ (k5) ?_
     clear hK K
     try simp only [Act.put,qqB]
     repeat
      refine qA0 _ rfl (fun K hK=>?_)
      first
       | (refine qqP (by rfl) ?_;apply Exists.intro;refine ⟨fun w' hw'=>?_,hK _ ?_⟩;(have s2:=qFg (v:=.slice (some ⟨z1.heap.size,0,none⟩) 32 32) (bs:=List.replicate 32 0) (Sl.of_own (qA3 ho5 hw'));rw [← hdd.out] at s2;go_simp;first|done|rfl))
       | refine qqN (by rfl) (hK _ ?_)
      clear hK K;simp only [Act.put,qqB]
     refine qqH _ rfl (by rfl) (fun K hK=>?_)
     go_wp2_with fail
     refine (qNG z2).mono ?_
     rintro e z3 ⟨rfl,k9⟩
     go_wp2
     refine hK _ _ (k9) ?_
     clear hK K
     try simp only [Act.put,qqB]
     repeat
      refine qA0 _ rfl (fun K hK=>?_)
      first
       | (refine qqP (by rfl) ?_;apply Exists.intro;refine ⟨fun w' hw'=>?_,hK _ ?_⟩;go_simp;first|done|rfl)
       | refine qqN (by rfl) (hK _ ?_)
      clear hK K;simp only [Act.put,qqB]
     refine qA7 ?_
     go_wp2_with fail
     have kz:=((kk6.of hkR).of (hz1.of k5)).of k9
     refine bodyPost_ret (v:=.bool true) (by simp [results,results4,go_sem];done) rfl ⟨rfl,kz⟩
end Go.Proofs.YtdlgihbpiakebaaGreat
