import Derived.Test.YtdlgihbpiakebaaGreatMd52
set_option maxRecDepth 100000
set_option maxHeartbeats 4000000
namespace Go.Proofs.YtdlgihbpiakebaaGreat
open Go Go.RowKit Tryz
theorem qNC {l : List (BitVec 32)} (hr : qEj l) (h0 : 0 < l.length) : (qDX l (qAi l)).length = 1:=by
 obtain ⟨m,hm⟩ : ∃ m,l = m ++ [qAi l]:=by
  refine ⟨l.dropLast,?_⟩
  have hne : l ≠ []:=fun e=>by rw [e] at h0;exact absurd h0 (by decide)
  have h1:=List.dropLast_concat_getLast hne
  have h2 : l.getLast hne = qAi l:=by
   unfold qAi
   rw [List.getLast_eq_getElem,List.getElem?_eq_getElem (by omega)]
   rfl
  rw [h2] at h1
  exact h1.symm
 have hlt : ∀ e ∈ m,e < qAi l:=by
  unfold qEj at hr
  rw [hm,List.pairwise_append] at hr
  intro e he
  have:=hr.2.2 e he (qAi (m ++ [qAi l])) (by simp [qAi])
  rw [← hm] at this
  exact this
 unfold qDX
 have h3 : ∀ now,l.filter (fun e=>!gone now now e) = (m.filter (fun e=>!gone now now e)) ++ ([qAi l].filter (fun e=>!gone now now e)):=fun now=>by
  conv=>lhs;rw [hm]
  rw [List.filter_append]
 rw [h3]
 have h4 : m.filter (fun e=>!gone (qAi l) (qAi l) e) = []:=by
  rw [List.filter_eq_nil_iff]
  intro e he
  have:=hlt e he
  have hne : e ≠ qAi l:=fun h=>by rw [h] at this;exact absurd this (by simp [BitVec.lt_def])
  unfold gone
  simp [this,hne]
 have h5 : [qAi l].filter (fun e=>!gone (qAi l) (qAi l) e) = [qAi l]:=by
  unfold gone
  simp
 rw [h4,h5]
 rfl
def Lk.isI : Lk → Bool
 | .real=>false
 | .ideal _ _=>true
theorem Lk.isI_seal (l : Lk) (key : qAB) (n : Nn) (head data : List UInt8) : (l.sealL key n head data).isI = l.isI:=by
 cases l <;> rfl
theorem Lk.isI_sum (l : Lk) (row : List UInt8) : (l.sumL row).isI = l.isI:=by
 cases l <;> rfl
theorem Lk.isI_build (l : Lk) (rows : List (List UInt8)) : (qAT l rows).2.isI = l.isI:=by
 have h1 : ∀ i,(qAA l rows i).2.isI = l.isI:=fun i=>by
  induction i with
  | zero=>rfl
  | succ i ih=>exact (Lk.isI_sum _ _).trans ih
 have h2 : ∀ k,(qAy l rows k).2.isI = l.isI:=fun k=>by
  induction k with
  | zero=>exact h1 _
  | succ k ih=>exact (Lk.isI_sum _ _).trans ih
 exact h2 _
structure Tr (b b' : Bx) (c : Nat) : Prop where
 boot : b'.boot = b.boot
 k : b'.k ≤ b.k + c
 k0 : b.k ≤ b'.k
 eps : b'.x.eps = b.x.eps
 bts : b'.x.c.boots = b.x.c.boots
 dw : b.x.d.waits = [] → b'.x.d.waits = []
 li : b'.x.l.isI = b.x.l.isI
theorem Tr.refl (b : Bx) (c : Nat) : Tr b b c:=⟨rfl,Nat.le_add_right _ _,Nat.le_refl _,rfl,rfl,id,rfl⟩
theorem Tr.trans {b b' b'' : Bx} {c d e : Nat} (h : Tr b b' c) (k : Tr b' b'' d) (he : c + d ≤ e) : Tr b b'' e :=
 ⟨k.boot.trans h.boot,by have:=h.k;have:=k.k;omega,Nat.le_trans h.k0 k.k0,k.eps.trans h.eps,k.bts.trans h.bts,fun w=>k.dw (h.dw w),k.li.trans h.li⟩
section
variable {x : Wd} {m k : Nat} {boot : BitVec 64} {ls : List Lf} {b : Bx} {B : Nat → List UInt8}
theorem qND : (x.commit boot k ls).2.1.c.boots = x.c.boots ∧ (x.commit boot k ls).2.2 ≤ k + 1 ∧ k ≤ (x.commit boot k ls).2.2 ∧ ((x.commit boot k ls).1 = 6 → 100 ≤ (x.commit boot k ls).2.2) ∧ (x.commit boot k ls).2.1.l.isI = x.l.isI:=by
 have c3 : (x.commit3 boot k ls).c = x.c:=qAU.2.2.1
 have hl1 : qFB k ≤ k + 1:=by unfold qFB;split <;> omega
 have hl2 : k ≤ qFB k:=by unfold qFB;split <;> omega
 have c5 : (x.commit5 boot k ls).c.boots = x.c.boots:=by
  show (if _ then (x.commit4 boot k ls).c.bump else (x.commit4 boot k ls).c).boots = _
  have : (x.commit4 boot k ls).c = x.c:=c3
  rw [this]
  split <;> rfl
 have l1 : (x.commit1 ls).l.isI = x.l.isI:=by
  have ha : ∀ a,(x.areaW1 a ls).l.isI = x.l.isI:=fun a=>Lk.isI_build _ _
  unfold Wd.commit1 Wd.areaW
  split
  · exact ha x.commitA
  · exact ha x.commitA
 have l2 : (x.commit2 ls).l.isI = x.l.isI:=l1
 have l3 : (x.commit3 boot k ls).l.isI = x.l.isI:=by
  unfold Wd.commit3 Wd.logX
  split
  · exact (Lk.isI_seal _ _ _ _ _).trans l2
  · exact l2
 unfold Wd.commit
 split
 · exact ⟨by rw [qCz.2.2.1],by show k ≤ _;omega,Nat.le_refl _,fun h=>(by cases h),l1⟩
 split
 · exact ⟨by rw [qAE.2.2.1],by show k ≤ _;omega,Nat.le_refl _,fun h=>(by cases h),l2⟩
 split
 · refine ⟨by rw [c3],hl1,hl2,fun h=>?_,l3⟩
   have h' : (x.commit2 ls).logE k = 6:=h
   show 100 ≤ qFB k
   unfold Wd.logE at h'
   split at h'
   · split at h' <;> cases h'
   · unfold qFB;split <;> omega
 split
 · exact ⟨by show (x.commit3 boot k ls).c.boots = _;rw [c3],hl1,hl2,fun h=>(by cases h),l3⟩
 split
 · exact ⟨c5,hl1,hl2,fun h=>(by cases h),l3⟩
 · exact ⟨c5,hl1,hl2,fun h=>(by cases h),l3⟩
theorem qNE (hz : x.p.ez) (hl : ls.length = x.n) (h0 : 0 < x.n) (hk : k < 100) : x.commit boot k ls = (0,x.commit5 boot k ls,k + 1):=by
 have hs:=hz.spend
 have c1 : (x.areaW1 (x.commitA) ls).p.ez:=qDA (x:=x.setL (x.areaB ls).2) hz _
 have ok : x.areaOk x.commitA ls = true:=by
  unfold Wd.areaOk
  rw [hs.1,c1.spend.1];rfl
 have hE : (x.commit2 ls).logE k = 0:=by
  unfold Wd.logE
  rw [if_pos hk,if_pos ((qJZ hl h0).ez hz).spend.1]
 unfold Wd.commit
 rw [if_neg (by rw [ok];decide),if_neg (by rw [((qP1 hl h0).ez hz).spend.1];decide),if_neg (by rw [hE];decide),if_neg (by rw [((qNv hl h0).ez hz).spend.1];decide),if_neg (by rw [((qNw hl h0).ez hz).spend.1];decide)]
 unfold qFB
 rw [if_pos hk]
theorem qCr (g : b.good m) : Tr b b.commit.2 1 ∧ (b.commit.1 = 6 → 100 ≤ b.commit.2.k):=by
 have h0 : 0 < b.x.n:=by have:=qAm g.f.x.ok.sl;omega
 have hc:=qGl (x:=b.x) (ls:=b.c.now) (boot:=b.boot) (k:=b.k) g.f.nl h0
 obtain ⟨h1,h2,h3,h4,h5⟩:=@qND b.x b.k b.boot b.c.now
 exact ⟨⟨rfl,h2,h3,hc.eps,h1,fun w=>by show (b.x.commit b.boot b.k b.c.now).2.1.d.waits = [];rw [hc.d];exact w,h5⟩,h4⟩
theorem qP5 (H : Hon b B) (g : b.good m) (hq : 0 < b.c.age.q.length) : Tr b b.evict.2 1 ∧ (b.evict.1 = 6 → 100 ≤ b.evict.2.k):=by
 obtain ⟨h1,h2⟩:=g.old hq
 unfold Bx.evict
 split
 · obtain ⟨e1,e2,H2,_⟩:=H.spill g b.oldest h2
   have gs:=g.spill h2
   obtain ⟨H3,hsp⟩:=H2.barrier gs
   rw [if_neg (by rw [e1];decide),if_neg (by rw [hsp];decide)]
   have T : Tr b (((b.spillX b.oldest).setX (b.spillX b.oldest).x.dBarrier).drops b.oldest) 0:=by
    have hw : (b.spillX b.oldest).x.dBarrier.d.waits = []:=by
     show ((b.spillX b.oldest).x.dk.barred (b.spillX b.oldest).x.p.spend.1 (b.spillX b.oldest).x.p.spend.2).waits = []
     rw [hsp]
     rfl
    refine ⟨?_,?_,?_,?_,?_,fun _=>hw,by show (b.spillX b.oldest).x.l.isI = _;rw [e2];rfl⟩
    · show (b.spillX b.oldest).boot = b.boot;rw [e2];rfl
    · show (b.spillX b.oldest).k ≤ b.k + 0;rw [e2];exact Nat.le_refl _
    · show b.k ≤ (b.spillX b.oldest).k;rw [e2];exact Nat.le_refl _
    · show (b.spillX b.oldest).x.eps = b.x.eps;rw [e2];rfl
    · show (b.spillX b.oldest).x.c.boots = b.x.c.boots;rw [e2];rfl
   obtain ⟨T2,h6⟩:=qCr ((gs.dBarrier).drops b.oldest (by show _ < (b.spillX b.oldest).c.now.length;rw [(qB1 b _).1];exact h1))
   exact ⟨T.trans T2 (by omega),h6⟩
 · have T : Tr b (b.drops b.oldest) 0:=⟨rfl,Nat.le_refl _,Nat.le_refl _,rfl,rfl,id,rfl⟩
   obtain ⟨T2,h6⟩:=qCr (g.drops _ h1)
   exact ⟨T.trans T2 (by omega),h6⟩
theorem qQl (H : Hon b B) (g : b.good m) : Tr b b.room.2 2 ∧ (b.room.1 = 6 → 100 ≤ b.room.2.k):=by
 unfold Bx.room
 split
 · exact ⟨Tr.refl _ _,fun h=>by cases h⟩
 · obtain ⟨H1,h1⟩:=H.commit g
   obtain ⟨T1,h6⟩:=qCr g
   split
   · exact ⟨T1.trans (Tr.refl _ 1) (by omega),h6⟩
   · rename_i h2 h3
     split
     · exact ⟨T1.trans (Tr.refl _ 1) (by omega),fun h=>by cases h⟩
     · rename_i h4
       have h5 : b.commit.1 = 0:=by omega
       obtain ⟨T2,h7⟩:=qP5 H1 g.commit (g.commit.full (by simpa using h4) (by rw [qCc h5,(qBq b).1]))
       exact ⟨T1.trans T2 (by omega),h7⟩
theorem qRg (c : Bx) (s : Nat) (l : Lf) : (c.puts s l).x = c.x ∧ (c.puts s l).boot = c.boot ∧ (c.puts s l).k = c.k:=by
 unfold Bx.puts
 split <;> exact ⟨rfl,rfl,rfl⟩
theorem qQm (H : Hon b B) (lba : Int) (data : List UInt8) (dirty : Bool) : Tr b (b.lays lba data dirty).2 1 ∧ ((b.lays lba data dirty).1 = 6 → 100 ≤ (b.lays lba data dirty).2.k):=by
 unfold Bx.lays
 split
 · rename_i h;exact ⟨Tr.refl _ _,fun _=>by show 100 ≤ b.k;omega⟩
 · rw [if_pos H.ez.spend.1]
   obtain ⟨p1,p2,p3⟩:=qRg (b.lay (b.c.free.getD 0) lba data) (b.c.free.getD 0) (b.layF (b.c.free.getD 0) lba data dirty)
   exact ⟨⟨p2,by show Bx.k (Bx.puts _ _ _) ≤ _;rw [p3];exact Nat.le_refl _,by show _ ≤ Bx.k (Bx.puts _ _ _);rw [p3];exact Nat.le_succ _,by show (Bx.x (Bx.puts _ _ _)).eps = _;rw [p1];rfl,by show (Bx.x (Bx.puts _ _ _)).c.boots = _;rw [p1];rfl,fun w=>by show (Bx.x (Bx.puts _ _ _)).d.waits = _;rw [p1];exact w,by show (Bx.x (Bx.puts _ _ _)).l.isI = _;rw [p1];exact Lk.isI_seal _ _ _ _ _⟩,fun h=>by cases h⟩
theorem qP6 (H : Hon b B) (g : b.good m) (lba : Int) (data : List UInt8) : Tr b (b.write lba data).2 3 ∧ ((b.write lba data).1 = 6 → 100 ≤ (b.write lba data).2.k):=by
 obtain ⟨H1,h1⟩:=H.room g
 obtain ⟨T1,h6⟩:=qQl H g
 unfold Bx.write
 split
 · exact ⟨T1.trans (Tr.refl _ 1) (by omega),h6⟩
 · obtain ⟨T2,h7⟩:=qQm H1 lba data true
   exact ⟨T1.trans T2 (by omega),h7⟩
theorem qHT : ∀ (k s : Nat) (b : Bx) (d : Bool) (m : Nat),Hon b B → b.good m → k + s = b.c.now.length →
 (Bx.empF k s b d).2.1.boot = b.boot ∧ (Bx.empF k s b d).2.1.k = b.k ∧ (Bx.empF k s b d).2.1.x.eps = b.x.eps ∧ (Bx.empF k s b d).2.1.x.c = b.x.c ∧ (Bx.empF k s b d).2.1.x.l = b.x.l ∧ ((Bx.empF k s b d).2.2 = false → d = false ∧ (Bx.empF k s b d).2.1.x.d = b.x.d)
 | 0,s,b,d,m,H,g,hk=>⟨rfl,rfl,rfl,rfl,rfl,fun h=>⟨h,rfl⟩⟩
 | k + 1,s,b,d,m,H,g,hk=>by
  unfold Bx.empF
  split
  · rename_i hd
    have hk1:=qCR g.f hd
    obtain ⟨e1,e2,H2,hr⟩:=H.spill g s hk1
    rw [if_neg (by rw [e1];decide)]
    have hnow:=(qB1 b s).1
    obtain ⟨i1,i2,i3,i4,il,i5⟩:=qHT k (s + 1) (b.spillX s) true (m + 1) H2 (g.spill hk1) (by rw [hnow];omega)
    have q : (b.spillX s).boot = b.boot ∧ (b.spillX s).k = b.k ∧ (b.spillX s).x.eps = b.x.eps ∧ (b.spillX s).x.c = b.x.c ∧ (b.spillX s).x.l = b.x.l:=by rw [e2];exact ⟨rfl,rfl,rfl,rfl,rfl⟩
    exact ⟨i1.trans q.1,i2.trans q.2.1,i3.trans q.2.2.1,i4.trans q.2.2.2.1,il.trans q.2.2.2.2,fun h=>absurd (i5 h).1 (by decide)⟩
  · exact qHT k (s + 1) b d m H g (by omega)
theorem qP7 (H : Hon b B) (g : b.good m) : Tr b b.empty.2 0:=by
 obtain ⟨h1,H1,h2,h3⟩:=Hon.empF (B:=B) b.c.now.length 0 b false m H g rfl (fun t ht=>absurd ht (by omega))
 have g1:=Bx.good.empF b.c.now.length 0 b false m g qle
 obtain ⟨i1,i2,i3,i4,il,i5⟩:=qHT b.c.now.length 0 b false m H g rfl
 unfold Bx.empty Bx.empR
 obtain ⟨r,hr⟩ : ∃ r,r = Bx.empF b.c.now.length 0 b false:=⟨_,rfl⟩
 rw [← hr] at h1 H1 h2 h3 g1 i1 i2 i3 i4 il i5 ⊢
 rw [if_neg (by rw [h1];decide)]
 unfold Bx.empD
 cases hd : r.2.2 with
 | false=>exact ⟨i1,by show r.2.1.k ≤ _;omega,by show _ ≤ r.2.1.k;omega,i3,by show r.2.1.x.c.boots = _;rw [i4],fun w=>by show r.2.1.x.d.waits = [];rw [(i5 hd).2];exact w,by show r.2.1.x.l.isI = _;rw [il]⟩
 | true =>
  obtain ⟨H2,hsp⟩:=H1.barrier g1
  rw [hsp]
  refine ⟨i1,by show r.2.1.k ≤ _;omega,by show _ ≤ r.2.1.k;omega,i3,by show r.2.1.x.c.boots = _;rw [i4],fun _=>?_,by show r.2.1.x.l.isI = _;rw [il]⟩
  show (r.2.1.x.dk.barred r.2.1.x.p.spend.1 r.2.1.x.p.spend.2).waits = []
  rw [hsp]
  rfl
theorem qQn (H : Hon b B) (g : b.good m) : b.empty.2.x.c = b.x.c:=by
 obtain ⟨h1,_⟩:=Hon.empF (B:=B) b.c.now.length 0 b false m H g rfl (fun t ht=>absurd ht (by omega))
 obtain ⟨i1,i2,i3,i4,il,i5⟩:=qHT b.c.now.length 0 b false m H g rfl
 unfold Bx.empty Bx.empR
 obtain ⟨r,hr⟩ : ∃ r,r = Bx.empF b.c.now.length 0 b false:=⟨_,rfl⟩
 rw [← hr] at h1 i4 ⊢
 rw [if_neg (by rw [h1];decide)]
 unfold Bx.empD
 split
 · exact i4
 · show (if r.2.2 then r.2.1.setX r.2.1.x.dBarrier else r.2.1).clear.x.c = _
   split <;> exact i4
end
structure Bx.set (b : Bx) : Prop where
 hold : b.x.holds b.x.sd.snap b.c.now (qAi b.x.eps)
 sw : b.x.s.waits = []
section
variable {m : Nat} {b : Bx} {B : Nat → List UInt8}
theorem qDN (H : Hon b B) (g : b.good m) (hm : m ≤ 900000) (hk : b.k < 100) (hb : b.x.c.boots.toNat < 2147483648) (hbt : b.boot = b.x.c.boots) :
 b.commit = (0,⟨b.x.commit5 b.boot b.k b.c.now,b.boot,b.k + 1,{ b.c with was:=b.c.now }⟩) ∧ b.commit.2.set ∧ b.commit.2.x.c.value = b.x.c.value + 1#64:=by
 have hn:=qAm g.f.x.ok.sl
 have he:=qNE (x:=b.x) (boot:=b.boot) (k:=b.k) (ls:=b.c.now) H.ez g.f.nl (by omega) hk
 have h1 : b.commit = (0,⟨b.x.commit5 b.boot b.k b.c.now,b.boot,b.k + 1,{ b.c with was:=b.c.now }⟩):=by
  unfold Bx.commit
  rw [he]
  rfl
 obtain ⟨c1,c2,c3,c4,_⟩:=qIO (boot:=b.boot) g.f.x hm H.ez H.nb g.f.nl g.f.nok hk hb hbt
 rw [h1]
 refine ⟨rfl,⟨?_,c2⟩,c3⟩
 show (b.x.commit5 b.boot b.k b.c.now).holds _ b.c.now (qAi (b.x.commit5 b.boot b.k b.c.now).eps)
 rw [(qK0 (x:=b.x) (boot:=b.boot) (k:=b.k) g.f.nl (by omega)).eps]
 exact c1
theorem qP8 (l : List (BitVec 32)) : qAi (qMl true l) = qAi l + 1#32:=qEO _ _
theorem qLN (H : Hon b B) (g : b.good m) (hm : m ≤ 800000) (hk : b.k + 2 ≤ 100) (hb : b.x.c.boots.toNat < 2147483648) (hbt : b.boot = b.x.c.boots) (hdw : b.x.d.waits = []) :
 b.rotate.1 = 0 ∧ b.rotate.2.set ∧ b.rotate.2.k = b.k + 2 ∧ b.rotate.2.boot = b.boot ∧ b.rotate.2.x.c.boots = b.x.c.boots ∧ b.rotate.2.x.d.waits = [] ∧ b.rotate.2.x.eps = [qAi b.x.eps + 1#32] ∧ b.rotate.2.x.c.value = b.x.c.value + 1#64 + 1#64 ∧ b.rotate.2.x.l.isI = b.x.l.isI:=by
 obtain ⟨e1,s1,v1⟩:=qDN H g (by omega) (by omega) hb hbt
 have h10 : b.commit.1 = 0:=by rw [e1]
 have h1k : b.commit.2.k = b.k + 1:=by rw [e1]
 obtain ⟨H1,_⟩:=H.commit g
 have g1:=g.commit
 have T1:=(qCr g).1
 obtain ⟨ee,H2,hk2⟩:=H1.empty g1
 have T2:=qP7 H1 g1
 have hv2 : b.commit.2.empty.2.x.c = b.commit.2.x.c:=qQn H1 g1
 have g2:=g1.empty
 obtain ⟨b2,hb2⟩ : ∃ b2,b2 = b.commit.2.empty.2:=⟨_,rfl⟩
 unfold Bx.rotate
 rw [if_neg (by rw [h10];decide)]
 unfold Bx.rotE
 rw [if_neg (by rw [ee];decide),if_neg (by rw [H2.ez.spend.1];decide)]
 rw [← hb2] at H2 hk2 T2 hv2 g2 ⊢
 have hs2:=H2.ez.spend
 have g3:=g2.kAdd (by omega)
 have H3 : Hon (b2.setX b2.x.kAdd) B:=Hon.bare hs2.2 H2.no H2.bad H2.nb hk2 (fun i hi=>H2.bare_read hk2 i hi)
 have heps3 : b2.x.kAdd.eps = qMl true b2.x.eps:=by
  show qMl b2.x.p.spend.1 b2.x.eps = _
  rw [hs2.1]
 have hk3 : b2.k = b.k + 1:=by have:=T2.k;have:=T2.k0;omega
 obtain ⟨e4,s4,v4⟩:=qDN H3 g3 (by omega) (by show b2.k < 100;omega) (by show b2.x.c.boots.toNat < _;rw [T2.bts,T1.bts];exact hb) (by show b2.boot = b2.x.c.boots;rw [T2.boot,T2.bts,T1.boot,T1.bts];exact hbt)
 obtain ⟨H4,_⟩:=H3.commit g3
 have T4:=(qCr g3).1
 have g4:=g3.commit
 obtain ⟨b4,hb4⟩ : ∃ b4,b4 = (b2.setX b2.x.kAdd).commit.2:=⟨_,rfl⟩
 have h40 : (b2.setX b2.x.kAdd).commit.1 = 0:=by rw [e4]
 unfold Bx.forget
 rw [if_neg (by rw [h40];decide)]
 have h4k : b4.k = b2.k + 1:=by rw [hb4,e4];rfl
 rw [← hb4] at s4 v4 H4 T4 g4 ⊢
 have hs4:=H4.ez.spend
 have heps4 : b4.x.eps = qMl true b2.x.eps:=by rw [T4.eps];exact heps3
 have hnow4 : qAi b4.x.eps = qAi b.x.eps + 1#32:=by rw [heps4,qP8,T2.eps,T1.eps]
 have hepsE : (b4.x.kErase (qAi b4.x.eps)).eps = qDX b4.x.eps (qAi b4.x.eps):=by
  show qPO b4.x.p.spend.1 b4.x.eps _ = _
  rw [hs4.1]
  rfl
 have hl5:=qNC g4.f.x.ok.er g4.f.x.ok.ep
 have hn5:=qEP b4.x.eps (qAi b4.x.eps) g4.f.x.ok.ep
 refine ⟨by show (if b4.x.p.spend.1 then (0 : Int) else 7) = 0;rw [hs4.1];rfl,⟨?_,s4.sw⟩,by show b4.k = _;omega,by show b4.boot = _;rw [T4.boot];exact T2.boot.trans T1.boot,by show b4.x.c.boots = _;rw [T4.bts];exact T2.bts.trans T1.bts,by show b4.x.d.waits = [];exact T4.dw (T2.dw (T1.dw hdw)),?_,?_,by show b4.x.l.isI = _;rw [T4.li];exact T2.li.trans T1.li⟩
 · show (b4.x.kErase (qAi b4.x.eps)).holds b4.x.sd.snap b4.c.now (qAi (b4.x.kErase (qAi b4.x.eps)).eps)
   rw [hepsE,hn5.2]
   refine s4.hold.as rfl rfl ?_ rfl rfl (Lk.le.refl _) (Lk.sle.refl _)
   rw [hepsE]
   have:=qJY hn5.1
   rw [hn5.2] at this
   exact this
 · show (b4.x.kErase (qAi b4.x.eps)).eps = _
   rw [hepsE]
   have h6:=qFI _ hn5.1
   rw [hl5,hn5.2] at h6
   have h7:=hl5
   generalize qDX b4.x.eps (qAi b4.x.eps) = E at h6 h7
   rw [hnow4] at h6
   match E,h7 with
   | [a],_ =>
    have : a = qAi b.x.eps + 1#32:=by simpa using h6
    rw [this]
 · show b4.x.c.value = _
   rw [v4]
   show b2.x.c.value + 1#64 = _
   rw [hv2,v1]
end
def qBt (kind lba : Int) (data : List UInt8) : Ac:=⟨1,⟨kind,lba,data⟩,0,0,[],[]⟩
def qC9 (kind : Int) (keep : List Bool) : Ac:=⟨kind,⟨0,0,[]⟩,0,0,[],keep⟩
structure Rdy (o : Bo) (b : Bx) (B : Nat → List UInt8) (m K : Nat) : Prop where
 oc : o.c = some b
 og : o.good m
 H : Hon b B
 k : b.k ≤ K
 dw : b.x.d.waits = []
 one : b.x.eps.length = 1
 bt : b.boot = b.x.c.boots
 bb : b.x.c.boots = 1#64
 li : b.x.l.isI = true
theorem qHU {o : Bo} {b : Bx} (h : o.c = some b) (k lba : Int) (d : List UInt8) : o.act (qBt k lba d) = ((b.doC ⟨k,lba,d⟩).1,⟨(b.doC ⟨k,lba,d⟩).2.x,some (b.doC ⟨k,lba,d⟩).2,o.snaps⟩):=by
 unfold Bo.act
 rw [if_pos (show (qBt k lba d).kind = 1 from rfl)]
 unfold Bo.call
 rw [h]
 rfl
section
variable {o : Bo} {b : Bx} {B : Nat → List UInt8} {m K : Nat} {lba : Int} {d : List UInt8}
theorem qNF (H : Hon b B) (c : Cl) (his : c.is = true) : b.doC c = if c.kind = 1 then b.read c.lba else if c.kind = 2 then (((b.write c.lba c.data).1,[]),(b.write c.lba c.data).2) else if c.kind = 3 then ((b.commit.1,[]),b.commit.2) else if c.kind = 4 then (((b.discard c.lba).1,[]),(b.discard c.lba).2) else ((b.rotate.1,[]),b.rotate.2):=by
 unfold Bx.doC
 rw [if_neg (by rw [H.ez.1];decide),if_neg (by rw [H.bad];decide),if_neg (by rw [his];decide)]
theorem Rdy.write (R : Rdy o b B m K) (hm : m ≤ 89000) (hK : K + 3 ≤ 99) (hl : isD lba = true) (hd : d.length = 32) :
 (o.act (qBt 2 lba d)).1.1 = 0 ∧ (o.act (qBt 2 lba d)).2.snaps = o.snaps ∧ Rdy (o.act (qBt 2 lba d)).2 (b.write lba d).2 (upd B lba.toNat d) (m + 110) (K + 3):=by
 have g:=R.og.bx b R.oc
 have he : b.doC ⟨2,lba,d⟩ = (((b.write lba d).1,[]),(b.write lba d).2):=by
  rw [qNF R.H _ (by unfold Cl.is;simp [hl,hd])]
  rfl
 obtain ⟨T,h6⟩:=qP6 R.H g lba d
 have hk:=T.k
 have hk2:=R.k
 have ga:=R.og.act (by omega) (qBt 2 lba d) (by show (0 : Int) ≤ _;decide)
 rw [qHU R.oc,he] at ga ⊢
 rcases R.H.write g (by omega) hd hl with h | ⟨h,h'⟩
 · have:=h6 h;omega
 · exact ⟨h,rfl,⟨rfl,ga,h',by omega,T.dw R.dw,by rw [T.eps];exact R.one,by rw [T.boot,T.bts];exact R.bt,by rw [T.bts];exact R.bb,by rw [T.li];exact R.li⟩⟩
theorem Rdy.flush (R : Rdy o b B m K) (hm : m ≤ 89000) (hK : K + 3 ≤ 99) :
 (o.act (qBt 3 0 [])).1.1 = 0 ∧ (o.act (qBt 3 0 [])).2.snaps = o.snaps ∧ Rdy (o.act (qBt 3 0 [])).2 b.commit.2 B (m + 110) (K + 3) ∧ b.commit.2.set ∧ b.commit.2.x.c.value = b.x.c.value + 1#64:=by
 have g:=R.og.bx b R.oc
 have he : b.doC ⟨3,0,[]⟩ = ((b.commit.1,[]),b.commit.2):=by
  rw [qNF R.H _ rfl]
  rfl
 have hk2:=R.k
 obtain ⟨e1,S,v⟩:=qDN R.H g (by omega) (by omega) (by rw [R.bb];decide) R.bt
 obtain ⟨T,h6⟩:=qCr g
 obtain ⟨h',_⟩:=R.H.commit g
 have hk:=T.k
 have ga:=R.og.act (by omega) (qBt 3 0 []) (by show (0 : Int) ≤ _;decide)
 rw [qHU R.oc,he] at ga ⊢
 exact ⟨by show b.commit.1 = 0;rw [e1],rfl,⟨rfl,ga,h',by omega,T.dw R.dw,by rw [T.eps];exact R.one,by rw [T.boot,T.bts];exact R.bt,by rw [T.bts];exact R.bb,by rw [T.li];exact R.li⟩,S,v⟩
theorem Rdy.rotate (R : Rdy o b B m K) (hm : m ≤ 89000) (hK : K + 3 ≤ 99) :
 (o.act (qBt 5 0 [])).1.1 = 0 ∧ (o.act (qBt 5 0 [])).2.snaps = o.snaps ∧ Rdy (o.act (qBt 5 0 [])).2 b.rotate.2 B (m + 110) (K + 3) ∧ b.rotate.2.set ∧ b.rotate.2.x.c.value = b.x.c.value + 1#64 + 1#64 ∧ b.rotate.2.x.eps = [qAi b.x.eps + 1#32]:=by
 have g:=R.og.bx b R.oc
 have he : b.doC ⟨5,0,[]⟩ = ((b.rotate.1,[]),b.rotate.2):=by
  rw [qNF R.H _ rfl]
  rfl
 have hk2:=R.k
 obtain ⟨e1,S,k1,k2,k3,k4,k5,k6,k7⟩:=qLN R.H g (by omega) (by omega) (by rw [R.bb];decide) R.bt R.dw
 obtain ⟨h',_⟩:=R.H.rotate g (by omega)
 have ga:=R.og.act (by omega) (qBt 5 0 []) (by show (0 : Int) ≤ _;decide)
 rw [qHU R.oc,he] at ga ⊢
 exact ⟨e1,rfl,⟨rfl,ga,h',by omega,k4,by rw [k5];rfl,by rw [k2,k3];exact R.bt,by rw [k3];exact R.bb,by rw [k7];exact R.li⟩,S,k6,k5⟩
theorem qP9 {l : Lk} (hi : l.isI = true) (hn : l.numb) {q : Nat} (hf : l.few q) (hq : q ≤ 1000000) {key : qAB} {n : Nn} {head out out' : List UInt8} {tag : qAB} {v v' : List UInt8} (h : l.openP key n head out tag = some v) (h' : l.openP key n head out' tag = some v') : v' = v:=by
 cases l with
 | real=>cases hi
 | ideal iss sums =>
  have hlen : iss.length ≤ q:=hf.1
  have fd : ∀ (o v : List UInt8),qDS iss key n head o tag = some v → ∃ (i : Nat) (x : Iss),iss[i]? = some x ∧ x.tag = tag ∧ x.data = v:=fun o v h=>by
   unfold qDS at h
   cases hx : iss.find? (fun x=>x.opens key n head o tag) with
   | none=>rw [hx] at h;cases h
   | some x =>
    rw [hx] at h
    have h1:=List.find?_some hx
    obtain ⟨i,hi2,hi3⟩:=List.getElem_of_mem (List.mem_of_find?_eq_some hx)
    unfold Iss.opens at h1
    simp only [Bool.and_eq_true,beq_iff_eq] at h1
    exact ⟨i,x,by rw [List.getElem?_eq_getElem hi2,hi3],h1.2.2.1,by simpa using h⟩
  obtain ⟨i,x,h1,h2,h3⟩:=fd out v h
  obtain ⟨j,y,g1,g2,g3⟩:=fd out' v' h'
  have e1:=hn i x h1
  have e2:=hn j y g1
  rw [h2] at e1
  rw [g2,e1] at e2
  have hil:=(List.getElem?_eq_some_iff.1 h1).1
  have hjl:=(List.getElem?_eq_some_iff.1 g1).1
  have e3 : BitVec.ofNat 64 (i + 1) = BitVec.ofNat 64 (j + 1):=(Prod.mk.inj e2).2
  have e4:=congrArg BitVec.toNat e3
  rw [BitVec.toNat_ofNat,BitVec.toNat_ofNat] at e4
  have e5 : i = j:=by
   have : (2 : Nat) ^ 64 = 18446744073709551616:=by decide
   rw [this] at e4
   omega
  rw [e5,g1] at h1
  cases h1
  rw [← h3,← g3]
theorem qNG (H : Hon b B) (g : b.good m) (hm : m ≤ 89000) (hi : b.x.l.isI = true) (S : List UInt8) (hl : isD lba = true) (c : Bx) (hc : c = b.setX (b.x.sBack S)) :
 (c.doC ⟨1,lba,[]⟩).1.1 = 3 ∨ (c.doC ⟨1,lba,[]⟩).1 = (0,B lba.toNat):=by
 have hd : c.doC ⟨1,lba,[]⟩ = c.read lba:=by
  subst hc
  unfold Bx.doC
  rw [if_neg (by show ¬ b.x.p.gone = true;rw [H.ez.1];decide),if_neg (by show ¬ b.c.bad = true;rw [H.bad];decide),if_neg (by unfold Cl.is;simp [hl])]
  rfl
 rw [hd]
 have hsl : c.c.slot lba = b.c.slot lba:=by rw [hc];rfl
 have hlb : 0 ≤ lba ∧ lba < 32:=by
  unfold isD at hl
  simp at hl
  omega
 unfold Bx.read
 rw [hsl]
 cases hs : b.c.slot lba with
 | some s =>
  obtain ⟨k1,k2⟩:=qEG hs
  have hv:=H.val s k1
  rw [k2] at hv
  have hv2 : ∀ v',c.valD s = some v' → v' = B lba.toNat:=fun v' h'=>by
   subst hc
   unfold Bx.valD at hv h'
   have hlf : (b.setX (b.x.sBack S)).leaf s = b.leaf s:=rfl
   rw [hlf] at h'
   by_cases h2 : (b.leaf s).kind = 2
   · rw [if_pos h2] at hv h'
     rw [← Option.some.inj hv,← Option.some.inj h']
   · rw [if_neg h2] at hv h'
     unfold Bx.openL at hv h'
     have hee : (b.setX (b.x.sBack S)).x.eps = b.x.eps:=rfl
     rw [hee] at h'
     by_cases h3 : b.x.eps.contains (b.leaf s).ep = true
     · rw [if_pos h3] at hv h'
       exact qP9 hi H.nb g.f.x.few (by omega) hv h'
     · rw [if_neg h3] at hv;cases hv
  show (c.readV s (c.valD s)).1.1 = 3 ∨ (c.readV s (c.valD s)).1 = (0,B lba.toNat)
  cases hq : c.valD s with
  | none=>exact .inl rfl
  | some v'=>rw [hv2 v' hq];exact .inr rfl
 | none =>
  have hr : c.x.dk.read lba.toNat = B lba.toNat:=by
   subst hc
   exact H.dsk lba.toNat (by omega) (fun s h1 h2=>absurd (by rw [h2];omega) (qIL hs s h1))
  show (c.readD lba (c.x.dk.read lba.toNat)).1.1 = 3 ∨ (c.readD lba (c.x.dk.read lba.toNat)).1 = (0,B lba.toNat)
  rw [hr]
  refine .inr ?_
  unfold Bx.readD
  split
  · rfl
  · rename_i h1
    have hk : c.k ≠ 100:=fun e=>h1 (by rw [e];simp)
    have hsp : c.x.p.spend.1 = true:=by subst hc;exact H.ez.spend.1
    have he : (c.lays lba (B lba.toNat) false).1 = 0:=by
     unfold Bx.lays
     rw [if_neg hk,if_pos hsp]
    unfold Bx.readN
    rw [if_neg (by rw [he];decide)]
end
def qLO (o : Bo) : List Ac → Bo
 | []=>o
 | a :: l=>qLO (o.act a).2 l
def okL (o : Bo) : List Ac → Prop
 | []=>True
 | a :: l=>(o.act a).1.1 = 0 ∧ okL (o.act a).2 l
def kn (rot : Bool) : Int:=if rot then 5 else 3
def qIP (lba : Int) (a c : UInt8) (fl : Bool) : List Ac:=[qBt 2 lba (List.replicate 32 a),qBt 3 0 [],qC9 5 [],qBt 2 lba (List.replicate 32 c),qBt (kn (!fl)) 0 [],qC9 6 []]
theorem qRh : Rdy (Bo.new 4 1#64 true) (Bo.newB 4 1#64 true) (fun _=>List.replicate 32 0) 17 0 :=
 ⟨rfl,Bo.new_good 4 1#64 true rfl,Hon.new 4 rfl true,Nat.le_refl _,rfl,rfl,rfl,rfl,rfl⟩
section
variable {o : Bo} {b : Bx} {B : Nat → List UInt8} {m K : Nat} {lba : Int} {d : List UInt8}
theorem qQo {c : Ca} {j : Nat} (hj : j < c.now.length) (h : c.isFree j = true) : c.free.isSome = true:=by
 unfold Ca.free
 rw [List.find?_isSome]
 exact ⟨j,List.mem_range.2 hj,h⟩
theorem qNH {c : Bx} {s j : Nat} {l : Lf} (hj : j ≠ s) (h : (c.leaf j).kind = 0) : ((c.puts s l).leaf j).kind = 0:=by
 have h1 : ((c.put1 s l).leaf j).kind = 0:=by
  rw [qGm,if_neg (fun e=>hj e.1)]
  exact h
 unfold Bx.puts
 split
 · exact h1
 · rw [qDJ]
   split
   · rfl
   · exact h1
theorem qPa (c : Bx) (s : Nat) (l : Lf) : (c.puts s l).c.was = c.c.was:=by
 unfold Bx.puts
 split <;> rfl
theorem qGp (H : Hon b B) (g : b.good m) {s : Nat} (hf : b.c.free = some s) (hd : d.length = 32) (hk : b.k < 100) :
 (b.write lba d).2.x.c = b.x.c ∧ (b.write lba d).2.x.eps = b.x.eps ∧ (b.write lba d).2.x.n = b.x.n ∧ (∀ q,qCI b.x.n (b.write lba d).2.x.sd.snap q = qCI b.x.n b.x.sd.snap q) ∧ (∀ j,j ≠ s → (b.leaf j).kind = 0 → ((b.write lba d).2.leaf j).kind = 0) ∧ (b.write lba d).2.c.was = b.c.was:=by
 have hr : b.room = (0,b):=by unfold Bx.room;rw [if_pos (by rw [hf];rfl)]
 have he : (b.write lba d).2 = (b.lay s lba d).puts s (b.layF s lba d true):=by
  unfold Bx.write
  rw [hr,if_neg (show ¬ (0 : Int) ≠ 0 by decide)]
  show (b.lays lba d true).2 = _
  unfold Bx.lays
  rw [if_neg (by omega),if_pos H.ez.spend.1,hf]
  rfl
 obtain ⟨p1,p2,p3⟩:=qRg (b.lay s lba d) s (b.layF s lba d true)
 have hs : s < b.x.n:=by rw [← g.f.nl];exact qDx hf
 have hin:=qG9 b s lba d hs hd
 have hS : b.x.sd.snap.length = gSize b.x.n:=Sd.snap_length g.f.x.ok.s
 rw [he]
 refine ⟨by rw [p1];rfl,by rw [p1];rfl,by rw [p1];rfl,fun q=>?_,fun j hj h=>qNH hj h,qPa _ _ _⟩
 rw [p1]
 show qCI b.x.n (b.layX s lba d).sd.snap q = _
 unfold Bx.layX
 rw [qDM (x:=b.layL s lba d) H.ez.spend.1]
 unfold qCI
 show ((qBQ b.x.sd.snap _).drop _).take 60 = _
 refine qDL (by rw [hS];exact hin) (.inr ?_)
 show (((gData b.x.n s : Nat) : Int)).toNat + (b.layS s lba d).1.length ≤ _
 rw [Int.toNat_natCast,qD4,hd]
 unfold gData gRec
 omega
theorem qLP {x : Wd} (hz : x.p.ez) (hv : x.c.value ≠ 0#64) (hn : x.eps.contains (gN (qCI x.n x.sd.snap x.c.value)).epoch = false) : x.opens.1 = 3 ∧ x.opens.2.2 = none:=by
 have hsp:=hz.spend
 have yc : x.boot.c.value = x.c.value:=by
  show (if x.p.spend.1 then x.c.boot else x.c).value = _
  split <;> rfl
 have ho : x.boot.logGet x.boot.c.value = none:=by
  unfold Wd.logGet
  have : x.boot.opened (x.boot.logBytes x.boot.c.value) = none:=by
   unfold Wd.opened
   refine if_neg (fun h=>?_)
   have h1 : x.eps.contains (gN (qCI x.n x.sd.snap x.boot.c.value)).epoch = true:=h.2.1
   rw [yc,hn] at h1
   cases h1
  rw [this]
  rfl
 have hl : x.boot.loadO = none:=by
  unfold Wd.loadO
  rw [if_neg (by rw [yc];exact hv),ho]
 unfold Wd.opens
 rw [if_neg (by rw [hz.1];decide),if_neg (by rw [hsp.1];decide),hl]
 exact ⟨rfl,rfl⟩
theorem qNI {n k : Nat} (h : gSize n = gSize k) : n = k:=by
 unfold gSize at h
 omega
theorem qPb (q : BitVec 64) : (gN (qCI 4 (List.replicate (gSize 4) 0) q)).epoch = 0#32:=by
 have h : qCI 4 (List.replicate (gSize 4) 0) q = List.replicate 60 0:=by
  unfold qCI
  rw [List.drop_replicate,List.take_replicate]
  congr 1
  have:=qBO q
  unfold gRec gSize
  omega
 rw [h]
 rfl
theorem Rdy.snap (R : Rdy o b B m K) (hm : m ≤ 89000) : (o.act (qC9 5 [])).1.1 = 0 ∧ (o.act (qC9 5 [])).2.snaps = o.snaps ++ [b.x.sd.snap] ∧ Rdy (o.act (qC9 5 [])).2 b B (m + 110) K:=by
 have hcur : o.cur = b.x:=by unfold Bo.cur;rw [R.oc]
 have ha : o.act (qC9 5 []) = ((0,[]),o.snap):=by
  unfold Bo.act
  rw [if_neg (by show ¬ (5 : Int) = 1;decide),if_neg (by show ¬ (5 : Int) = 2;decide),if_neg (by show ¬ (5 : Int) = 3;decide),if_neg (by show ¬ (5 : Int) = 4;decide),if_pos (show (qC9 5 []).kind = 5 from rfl)]
 have ga:=R.og.act (by omega) (qC9 5 []) (by show (0 : Int) ≤ _;decide)
 rw [ha] at ga ⊢
 exact ⟨rfl,by show o.snaps ++ [o.cur.sd.snap] = _;rw [hcur],⟨R.oc,ga,R.H,R.k,R.dw,R.one,R.bt,R.bb,R.li⟩⟩
theorem Rdy.back (R : Rdy o b B m K) (hm : m ≤ 89000) (hK : K ≤ 90) {S : List UInt8} (hS : o.snaps = [S]) (hl : isD lba = true) (hv : b.x.c.value ≠ 0#64) (hn : b.x.eps.contains (gN (qCI b.x.n S b.x.c.value)).epoch = false) :
 (o.act (qC9 6 [])).1.1 = 0 ∧ (((o.act (qC9 6 [])).2.act (qC9 3 [])).1.1 = 3 ∧ (((o.act (qC9 6 [])).2.act (qC9 3 [])).2.act (qBt 1 lba [])).1.1 = 8) ∧
 (((o.act (qC9 6 [])).2.act (qBt 1 lba [])).1.1 = 3 ∨ ((o.act (qC9 6 [])).2.act (qBt 1 lba [])).1 = (0,B lba.toNat)):=by
 have hcur : o.cur = b.x:=by unfold Bo.cur;rw [R.oc]
 have ha : o.act (qC9 6 []) = ((0,[]),o.setX (b.x.sBack S)):=by
  unfold Bo.act
  rw [if_neg (by show ¬ (6 : Int) = 1;decide),if_neg (by show ¬ (6 : Int) = 2;decide),if_neg (by show ¬ (6 : Int) = 3;decide),if_neg (by show ¬ (6 : Int) = 4;decide),if_neg (by show ¬ (6 : Int) = 5;decide),if_pos (show (qC9 6 []).kind = 6 from rfl)]
  unfold Bo.back
  rw [if_pos (by rw [hS];exact ⟨show (0 : Int) ≤ 0 by decide,show (0 : Int) < 1 by decide⟩),hcur,hS]
  rfl
 rw [ha]
 have hc2 : (o.setX (b.x.sBack S)).c = some (b.setX (b.x.sBack S)):=by
  unfold Bo.setX
  rw [R.oc]
  rfl
 refine ⟨rfl,?_,?_⟩
 · have hz : ((b.x.sBack S).crash []).p.ez:=⟨rfl,rfl⟩
   obtain ⟨o1,o2⟩:=qLP (x:=(b.x.sBack S).crash []) hz hv hn
   have hb : (o.setX (b.x.sBack S)).act (qC9 3 []) = Bo.open_ o.snaps ((b.x.sBack S).crash []).opens:=by
    unfold Bo.act
    rw [if_neg (by show ¬ (3 : Int) = 1;decide),if_neg (by show ¬ (3 : Int) = 2;decide),if_pos (show (qC9 3 []).kind = 3 from rfl)]
    unfold Bo.crash
    rw [Bo.cur_setX]
    rfl
   rw [hb]
   refine ⟨o1,?_⟩
   have hd : (Bo.open_ o.snaps ((b.x.sBack S).crash []).opens).2.c = none:=o2
   unfold Bo.act
   rw [if_pos (show (qBt 1 lba []).kind = 1 from rfl)]
   unfold Bo.call
   rw [hd]
 · rw [qHU hc2]
   exact qNG R.H (R.og.bx b R.oc) hm R.li S hl _ rfl
theorem qKI (hl : isD lba = true) (a c : UInt8) (fl : Bool) : okL (Bo.new 4 1#64 true) (qIP lba a c fl) ∧ (((qLO (Bo.new 4 1#64 true) (qIP lba a c fl)).act (qC9 3 [])).1.1 = 3 ∧ (((qLO (Bo.new 4 1#64 true) (qIP lba a c fl)).act (qC9 3 [])).2.act (qBt 1 lba [])).1.1 = 8) ∧
 (((qLO (Bo.new 4 1#64 true) (qIP lba a c fl)).act (qBt 1 lba [])).1.1 = 3 ∨ ((qLO (Bo.new 4 1#64 true) (qIP lba a c fl)).act (qBt 1 lba [])).1 = (0,List.replicate 32 c)):=by
 have R0:=qRh
 have g0:=R0.og.bx _ R0.oc
 obtain ⟨w1,w2,w3,w4,w5,w6⟩:=qGp (lba:=lba) (d:=List.replicate 32 a) R0.H g0 (s:=0) rfl List.length_replicate (by have:=R0.k;omega)
 obtain ⟨e1,s1,R1⟩:=R0.write (lba:=lba) (d:=List.replicate 32 a) (by omega) (by omega) hl List.length_replicate
 obtain ⟨b1,hb1⟩ : ∃ b1,b1 = ((Bo.newB 4 1#64 true).write lba (List.replicate 32 a)).2:=⟨_,rfl⟩
 obtain ⟨o1,ho1⟩ : ∃ o1,o1 = ((Bo.new 4 1#64 true).act (qBt 2 lba (List.replicate 32 a))).2:=⟨_,rfl⟩
 rw [← hb1] at w1 w2 w3 w4 w5 w6 R1
 rw [← ho1] at R1 s1
 have g1:=R1.og.bx _ R1.oc
 have n1 : b1.x.n = 4:=w3
 have v1 : b1.x.c.value = 0#64:=by rw [w1];rfl
 have p1 : b1.x.eps = [1#32]:=by rw [w2];rfl
 have k1 : (b1.leaf 1).kind = 0:=w5 1 (by decide) rfl
 have r1 : ∀ q,qCI 4 b1.x.sd.snap q = qCI 4 (List.replicate (gSize 4) 0) q:=w4
 obtain ⟨e2,s2,R2,S2,v2⟩:=R1.flush (by omega) (by omega)
 have g2:=R2.og.bx _ R2.oc
 obtain ⟨c2,_,_⟩:=qDN R1.H g1 (by omega) (by have:=R1.k;omega) (by rw [R1.bb];decide) R1.bt
 have hn1:=qAm g1.f.x.ok.sl
 have cm:=qK0 (x:=b1.x) (boot:=b1.boot) (k:=b1.k) (ls:=b1.c.now) g1.f.nl (by omega)
 have r2:=fun q hq=>qLM (boot:=b1.boot) (k:=b1.k) g1.f.x R1.H.ez g1.f.nl (by have:=R1.k;omega) q hq
 obtain ⟨b2,hb2⟩ : ∃ b2,b2 = b1.commit.2:=⟨_,rfl⟩
 obtain ⟨o2,ho2⟩ : ∃ o2,o2 = (o1.act (qBt 3 0 [])).2:=⟨_,rfl⟩
 rw [← hb2] at R2 S2 v2 g2
 rw [← ho2] at R2 s2
 have hb2' : b2 = ⟨b1.x.commit5 b1.boot b1.k b1.c.now,b1.boot,b1.k + 1,{ b1.c with was:=b1.c.now }⟩:=by rw [hb2,c2]
 have n2 : b2.x.n = 4:=by rw [hb2'];exact cm.n.trans n1
 have p2 : b2.x.eps = [1#32]:=by rw [hb2'];exact cm.eps.trans p1
 rw [v1] at v2
 have f2 : b2.c.free.isSome = true:=by
  refine qQo (j:=1) (by have:=g2.n16;omega) ?_
  rw [hb2']
  show (((b1.c.now[1]?.getD Lf.zero).kind == 0) && ((b1.c.now[1]?.getD Lf.zero).kind == 0)) = true
  have : (b1.c.now[1]?.getD Lf.zero).kind = 0:=k1
  rw [this]
  rfl
 obtain ⟨e3,s3,R3⟩:=R2.snap (by omega)
 obtain ⟨o3,ho3⟩ : ∃ o3,o3 = (o2.act (qC9 5 [])).2:=⟨_,rfl⟩
 rw [← ho3] at R3 s3
 have hs3 : o3.snaps = [b2.x.sd.snap]:=by rw [s3,s2,s1];rfl
 obtain ⟨s,hs⟩:=Option.isSome_iff_exists.1 f2
 obtain ⟨x1,x2,x3,_⟩:=qGp (lba:=lba) (d:=List.replicate 32 c) R3.H g2 hs List.length_replicate (by have:=R3.k;omega)
 obtain ⟨e4,s4,R4⟩:=R3.write (lba:=lba) (d:=List.replicate 32 c) (by omega) (by omega) hl List.length_replicate
 obtain ⟨b4,hb4⟩ : ∃ b4,b4 = (b2.write lba (List.replicate 32 c)).2:=⟨_,rfl⟩
 obtain ⟨o4,ho4⟩ : ∃ o4,o4 = (o3.act (qBt 2 lba (List.replicate 32 c))).2:=⟨_,rfl⟩
 rw [← hb4] at x1 x2 x3 R4
 rw [← ho4] at R4 s4
 have hS : b2.x.sd.snap.length = gSize 4:=by have:=Sd.snap_length g2.f.x.ok.s;rw [n2] at this;exact this
 have hF : ∀ (o5 : Bo) (b5 : Bx) (m5 K5 : Nat) (B5 : Nat → List UInt8),Rdy o5 b5 B5 m5 K5 → o5.snaps = [b2.x.sd.snap] → b5.x.n = 4:=fun o5 b5 m5 K5 B5 R5 h5=>by
  have h6:=R5.og.sn b2.x.sd.snap (by rw [h5];simp)
  have h7 : o5.cur = b5.x:=by unfold Bo.cur;rw [R5.oc]
  rw [h7,hS] at h6
  exact (qNI h6).symm
 have hu : upd (upd (fun _=>List.replicate 32 0) lba.toNat (List.replicate 32 a)) lba.toNat (List.replicate 32 c) lba.toNat = List.replicate 32 c:=qHR _ _ _
 cases fl with
 | true =>
  obtain ⟨e5,s5,R5,S5,v5⟩:=R4.flush (by omega) (by omega)
  have T5:=(qCr (R4.og.bx _ R4.oc)).1
  have h5 : (o4.act (qBt 3 0 [])).2.snaps = [b2.x.sd.snap]:=by rw [s5,s4,hs3]
  have n5:=hF _ _ _ _ _ R5 h5
  have hval : b4.commit.2.x.c.value = 2#64:=by rw [v5,x1,v2];rfl
  have hrec : qCI 4 b2.x.sd.snap 2#64 = qCI 4 (List.replicate (gSize 4) 0) 2#64:=by
   rw [← r1 2#64,hb2']
   have:=r2 2#64 (by rw [v1];decide)
   rw [n1] at this
   exact this
  obtain ⟨q1,q2,q3⟩:=R5.back (lba:=lba) (by omega) (by omega) h5 hl (by rw [hval];decide) (by rw [hval,n5,hrec,qPb,T5.eps,x2,p2];decide)
  rw [hu] at q3
  rw [ho4,ho3,ho2,ho1] at e5 q1 q2 q3
  rw [ho3,ho2,ho1] at e4
  rw [ho2,ho1] at e3
  rw [ho1] at e2
  exact ⟨⟨e1,e2,e3,e4,e5,q1,trivial⟩,q2,q3⟩
 | false =>
  obtain ⟨e5,s5,R5,S5,v5,p5⟩:=R4.rotate (by omega) (by omega)
  have h5 : (o4.act (qBt 5 0 [])).2.snaps = [b2.x.sd.snap]:=by rw [s5,s4,hs3]
  have n5:=hF _ _ _ _ _ R5 h5
  have hval : b4.rotate.2.x.c.value = 3#64:=by rw [v5,x1,v2];rfl
  obtain ⟨nn,out,tag,ep,top,h1,h2,h3,h4,_⟩:=S2.hold.rc (by rw [v2];decide)
  obtain ⟨gg,_⟩:=qR3 nn out tag h3 h2
  have hrec : (gN (qCI 4 b2.x.sd.snap 3#64)).epoch = 1#32:=by
   rw [n2,v2] at h1
   have h9 : qCI 4 b2.x.sd.snap 3#64 = qFA nn out tag:=h1
   rw [h9,gg,h4.1,p2]
   rfl
  obtain ⟨q1,q2,q3⟩:=R5.back (lba:=lba) (by omega) (by omega) h5 hl (by rw [hval];decide) (by rw [hval,n5,hrec,p5,x2,p2];decide)
  rw [hu] at q3
  rw [ho4,ho3,ho2,ho1] at e5 q1 q2 q3
  rw [ho3,ho2,ho1] at e4
  rw [ho2,ho1] at e3
  rw [ho1] at e2
  exact ⟨⟨e1,e2,e3,e4,e5,q1,trivial⟩,q2,q3⟩
end


structure qK3 (col : Nat → Nat) (w : World) (g : Nat) (l : List Ac) (rs : List (Value × Value × Value)) : Prop where
 len : rs.length = l.length
 c0 : col g = 0
 lt : g < w.heap.size
 cell : ∀ (k : Nat) (x : Ac) (r : Value × Value × Value),l[k]? = some x → rs[k]? = some r → ∀ (j : Nat) (u : Value),(qF9 x r)[j]? = some u → w.cell? ⟨g,k * 8 + j,none⟩ = some u
 each : ∀ (k : Nat) (x : Ac) (r : Value × Value × Value),l[k]? = some x → rs[k]? = some r → qEe col w x r.1 r.2.1 r.2.2
 n0 : ∀ x ∈ l,x.n = 0
theorem qK3.ext {m g : Nat} {col col' : Nat → Nat} {w w' : World} {l : List Ac} {rs : List (Value × Value × Value)} (h : qK3 col w g l rs) (e : Ext m col col' w w') : qK3 col' w' g l rs :=
 ⟨h.len,(e.old g h.lt).trans h.c0,Nat.lt_of_lt_of_le h.lt e.size,fun k x r hx hr j u hj=>e.cell0 (h.cell k x r hx hr j u hj) h.c0,fun k x r hx hr=>(h.each k x r hx hr).ext e,h.n0⟩
def qGq (col : Nat → Nat) (w : World) : List Ac → List (Value × Value × Value) → Prop
 | [],[]=>True
 | x :: l,r :: rs=>(x.n = 0 ∧ qEe col w x r.1 r.2.1 r.2.2) ∧ qGq col w l rs
 | [],_ :: _=>False
 | _ :: _,[]=>False
theorem qGq.len {col : Nat → Nat} {w : World} : ∀ {l : List Ac} {rs : List (Value × Value × Value)},qGq col w l rs → rs.length = l.length
 | [],[],_=>rfl
 | _ :: l,_ :: rs,h=>congrArg (· + 1) (qGq.len h.2)
 | [],_ :: _,h=>h.elim
 | _ :: _,[],h=>h.elim
theorem qGq.get {col : Nat → Nat} {w : World} : ∀ {l : List Ac} {rs : List (Value × Value × Value)},qGq col w l rs → ∀ (k : Nat) (x : Ac) (r : Value × Value × Value),l[k]? = some x → rs[k]? = some r → qEe col w x r.1 r.2.1 r.2.2
 | [],[],_,k,x,r,h,_=>by simp at h
 | _ :: l,_ :: rs,h,0,x,r,h1,h2=>by
  simp at h1 h2
  subst h1
  subst h2
  exact h.1.2
 | _ :: l,_ :: rs,h,k + 1,x,r,h1,h2=>qGq.get h.2 k x r (by simpa using h1) (by simpa using h2)
 | [],_ :: _,h,_,_,_,_,_=>h.elim
 | _ :: _,[],h,_,_,_,_,_=>h.elim
theorem qGq.n0 {col : Nat → Nat} {w : World} : ∀ {l : List Ac} {rs : List (Value × Value × Value)},qGq col w l rs → ∀ x ∈ l,x.n = 0
 | [],[],_,x,h=>by cases h
 | _ :: l,_ :: rs,h,x,h1=>by
  rcases List.mem_cons.1 h1 with h2 | h2
  · rw [h2];exact h.1.1
  · exact qGq.n0 h.2 x h2
 | [],_ :: _,h,_,_=>h.elim
 | _ :: _,[],h,_,_=>h.elim
theorem qKJ : ∀ (l : List Ac) (rs : List (Value × Value × Value)) (k : Nat) (x : Ac) (r : Value × Value × Value),l[k]? = some x → rs[k]? = some r → ∀ (j : Nat) (u : Value),(qF9 x r)[j]? = some u → ((List.zipWith qF9 l rs).flatten)[k * 8 + j]? = some u
 | [],_,k,x,r,h,_=>by simp at h
 | _ :: _,[],k,x,r,_,h=>by simp at h
 | y :: l,s :: rs,0,x,r,h,hr=>by
  intro j u hj
  simp at h hr
  subst h
  subst hr
  have hl:=(List.getElem?_eq_some_iff.1 hj).1
  rw [Nat.zero_mul,Nat.zero_add,List.zipWith_cons_cons,List.flatten_cons,List.getElem?_append_left hl]
  exact hj
 | y :: l,s :: rs,k + 1,x,r,h,hr=>by
  intro j u hj
  have h8 : (qF9 y s).length = 8:=rfl
  rw [List.zipWith_cons_cons,List.flatten_cons,List.getElem?_append_right (by rw [h8];omega),h8,show (k + 1) * 8 + j - 8 = k * 8 + j by omega]
  exact qKJ l rs k x r (by simpa using h) (by simpa using hr) j u hj
theorem qK3.of {g : Nat} {col : Nat → Nat} {w : World} {l : List Ac} {rs : List (Value × Value × Value)} {cs : Array Value} {T : TypeId} (hb : Blk w g cs T) (hcs : cs = ((List.zipWith qF9 l rs).flatten).toArray) (c0 : col g = 0) (h : qGq col w l rs) : qK3 col w g l rs :=
 ⟨h.len,c0,hb.lt,fun k x r hx hr j u hj=>by
  rw [hb.cell,hcs,List.getElem?_toArray]
  exact qKJ l rs k x r hx hr j u hj,h.get,h.n0⟩
theorem qIQ : ∀ (l : List Ac) (o : Bo) (k : Nat) (x : Ac),l[k]? = some x → qLO o (l.take (k + 1)) = ((qLO o (l.take k)).act x).2
 | [],o,k,x,h=>by simp at h
 | y :: l,o,0,x,h=>by
  simp at h
  subst h
  rfl
 | y :: l,o,k + 1,x,h=>by
  show qLO (o.act y).2 (l.take (k + 1)) = ((qLO (o.act y).2 (l.take k)).act x).2
  exact qIQ l _ k x (by simpa using h)
theorem qPp : ∀ (l : List Ac) (o : Bo) (k : Nat) (x : Ac),okL o l → l[k]? = some x → ((qLO o (l.take k)).act x).1.1 = 0
 | [],o,k,x,_,h=>by simp at h
 | y :: l,o,0,x,ho,h=>by
  simp at h
  subst h
  exact ho.1
 | y :: l,o,k + 1,x,ho,h=>qPp l (o.act y).2 k x ho.2 (by simpa using h)
theorem qLQ (lba : Int) (a c : UInt8) (fl cr : Bool) (w : World) (h1 : 0 ≤ lba ∧ lba < 32) : Calls prog 5 #[.int .i64 lba,V8 a,V8 c,.bool fl,.bool cr] w fun e w'=>e = .returned (.bool true) ∧ qA4 w w':=by
 have l1 : ¬ lba < 0:=by omega
 have l2 : ¬ 32 ≤ lba:=by omega
 have hlD:=qh (show isD lba = true by unfold isD;simp;omega)
 clear h1
 obtain ⟨r,hr⟩ : ∃ r,r = fl:=⟨_,rfl⟩
 cases fl
 all_goals
  have CN : Calls prog 9 #[.int .i64 4,.int .u64 1,.bool true] w fun e w'=>∃ P X col',e = .returned (.tuple #[.pointer (some ⟨X,0,none⟩),.int .i64 0]) ∧ qAH col' w' P X (Bo.new 4 1#64 true) ∧ Ext 12 (fun _=>0) col' w w':=qHP 4 rfl 1#64 true w
  have g0:=Bo.new_good 4 1#64 true rfl
  go_enter func5,ntmps5
  go_wp2_with fail
  refine CN.mono ?_
  rintro e w1 ⟨P,X,col1,rfl,h1,e1⟩
  go_wp2_with fail
  refine (qBT a w1).mono ?_
  rintro e w2 ⟨rfl,hr2,k2⟩
  go_wp2_with fail
  refine (qBu 2 lba (some ⟨w1.heap.size,0,none⟩) 32 32 w2).mono ?_
  rintro e w3 ⟨rfl,k3⟩
  go_wp2_with fail
  refine (qBu 3 0 none 0 0 w3).mono ?_
  rintro e w4 ⟨rfl,k4⟩
  go_wp2_with fail
  refine (qBT c w4).mono ?_
  rintro e w5 ⟨rfl,hr5,k5⟩
  go_wp2_with fail
  refine (qBu 2 lba (some ⟨w4.heap.size,0,none⟩) 32 32 w5).mono ?_
  rintro e w6 ⟨rfl,k6⟩
  go_wp2_with fail
  refine (qBu _ 0 none 0 0 w6).mono ?_
  rintro e w7 ⟨rfl,k7⟩
  go_wp2_with fail
  have k57 : qA4 w5 w7:=k6.of k7
  have k27 : qA4 w2 w7:=((k3.of k4).of k5).of k57
  have k17 : qA4 w1 w7:=k2.of k27
  obtain ⟨cs,hcs⟩ : ∃ cs : Array Value,cs = ((List.zipWith qF9 (qIP lba a c r) [((Value.slice (some ⟨w1.heap.size,0,none⟩) 32 32,Value.slice none 0 0,Value.slice none 0 0) : Value × Value × Value),(Value.slice none 0 0,Value.slice none 0 0,Value.slice none 0 0),(Value.slice none 0 0,Value.slice none 0 0,Value.slice none 0 0),(Value.slice (some ⟨w4.heap.size,0,none⟩) 32 32,Value.slice none 0 0,Value.slice none 0 0),(Value.slice none 0 0,Value.slice none 0 0,Value.slice none 0 0),(Value.slice none 0 0,Value.slice none 0 0,Value.slice none 0 0)]).flatten).toArray:=⟨_,rfl⟩
  have hcs2 : ∀ q : Int,q = kn (!r) → (#[.int .i64 1,.int .i64 2,.int .i64 lba,.slice (some ⟨w1.heap.size,0,none⟩) 32 32,.int .i64 0,.int .i64 0,.slice none 0 0,.slice none 0 0,.int .i64 1,.int .i64 3,.int .i64 0,.slice none 0 0,.int .i64 0,.int .i64 0,.slice none 0 0,.slice none 0 0,.int .i64 5,.int .i64 0,.int .i64 0,.slice none 0 0,.int .i64 0,.int .i64 0,.slice none 0 0,.slice none 0 0,.int .i64 1,.int .i64 2,.int .i64 lba,.slice (some ⟨w4.heap.size,0,none⟩) 32 32,.int .i64 0,.int .i64 0,.slice none 0 0,.slice none 0 0,.int .i64 1,.int .i64 q,.int .i64 0,.slice none 0 0,.int .i64 0,.int .i64 0,.slice none 0 0,.slice none 0 0,.int .i64 6,.int .i64 0,.int .i64 0,.slice none 0 0,.int .i64 0,.int .i64 0,.slice none 0 0,.slice none 0 0] : Array Value) = cs:=by rintro _ rfl;rw [hcs];rfl
  rw [hcs2]
  rotate_left
  · rw [hr];rfl
  have bA:=Blk.new w7 cs 37
  have hk9 : qA4 w7 (w7.alloc (.cells cs 37)):=qal _
  obtain ⟨w9,hw9⟩ : ∃ y,y = w7.alloc (.cells cs 37):=⟨_,rfl⟩
  rw [← hw9] at bA hk9 ⊢
  clear hw9 hcs2
  have h9:=(h1.kept k17).kept hk9
  have e9 : Ext 12 (fun _=>0) col1 w w9:=e1.trans (Ext.kept (m:=12) h1.top (k17.of hk9))
  have hG0 : col1 w7.heap.size = 0:=h1.top _ k17.size
  have hs1 : SlC col1 w9 (.slice (some ⟨w1.heap.size,0,none⟩) 32 32) (List.replicate 32 a):=SlC.of_own (qA3 hr2 (k27.of hk9)) h1.top qle
  have hs2 : SlC col1 w9 (.slice (some ⟨w4.heap.size,0,none⟩) 32 32) (List.replicate 32 c):=SlC.of_own (qA3 hr5 (k57.of hk9)) h1.top ((k2.of k3).of k4).size
  have hA:=qK3.of (col:=col1) bA hcs hG0 ⟨⟨rfl,qEe.wr 2 lba hs1 (by rw [List.length_replicate];decide)⟩,⟨rfl,qEe.nil 1 3 0 0 0⟩,⟨rfl,qEe.nil 5 0 0 0 0⟩,⟨rfl,qEe.wr 2 lba hs2 (by rw [List.length_replicate];decide)⟩,⟨rfl,qEe.nil 1 _ 0 0 0⟩,⟨rfl,qEe.nil 6 0 0 0 0⟩,trivial⟩
  have hok:=(qKI hlD.out a c r).1
  have hAl : (qIP lba a c r).length = 6:=rfl
  obtain ⟨A,hAe⟩ : ∃ A,A = qIP lba a c r:=⟨_,rfl⟩
  rw [← hAe] at hA hok hAl
  generalize [((Value.slice (some ⟨w1.heap.size,0,none⟩) 32 32,Value.slice none 0 0,Value.slice none 0 0) : Value × Value × Value),(Value.slice none 0 0,Value.slice none 0 0,Value.slice none 0 0),(Value.slice none 0 0,Value.slice none 0 0,Value.slice none 0 0),(Value.slice (some ⟨w4.heap.size,0,none⟩) 32 32,Value.slice none 0 0,Value.slice none 0 0),(Value.slice none 0 0,Value.slice none 0 0,Value.slice none 0 0),(Value.slice none 0 0,Value.slice none 0 0,Value.slice none 0 0)] = rs at hA
  generalize w7.heap.size = G at hA bA ⊢
  replace hok:=qh hok
  replace hAl:=qh hAl
  replace hAe:=qh hAe
  clear hcs hs1 hs2 bA hr2 hr5 hG0
  go_loopw [15] (fun i wr=>∃ (k : Nat) (o : Bo) (ck : Nat → Nat),i = .int .i64 k ∧ k ≤ 6 ∧ qAH ck wr P X o ∧ qK3 ck wr G A rs ∧ Ext 12 (fun _=>0) ck w wr ∧ o = qLO (Bo.new 4 1#64 true) (A.take k) ∧ o.good (17 + 110 * k)) (fun i _=>6 - (intOf i).toNat)
  case atStart=>exact ⟨0,Bo.new 4 1#64 true,col1,rfl,by omega,h9,hA,e9,rfl,g0⟩
  case round =>
   obtain ⟨k,o,ck,rfl,hk,hb,ha,eb,ho,g⟩:=hrel
   by_cases hlt : k < 6
   · have m1 : (k : Int) < 6:=by omega
     have m3 : (0 : Int) ≤ (k : Int):=by omega
     obtain ⟨x,hx⟩ : ∃ x,A[k]? = some x:=⟨_,List.getElem?_eq_getElem (by rw [hAl.out];exact hlt)⟩
     obtain ⟨r,hr⟩ : ∃ r,rs[k]? = some r:=⟨_,List.getElem?_eq_getElem (by rw [ha.len,hAl.out];exact hlt)⟩
     have hAA:=ha.each k x r hx hr
     have dd:=ha.cell k x r hx hr
     obtain ⟨r1,r2,r3⟩:=r
     obtain ⟨a1,c1,e1'⟩:=hAA.s1.1.len
     obtain ⟨a2,c2,e2'⟩:=hAA.s2.1.len
     obtain ⟨a3,c3,e3'⟩:=hAA.s3.len
     simp only at e1' e2' e3'
     subst e1'
     subst e2'
     subst e3'
     have d0 : wr.cell? ⟨G,k * 8,none⟩ = some (.int .i64 x.kind):=dd 0 _ rfl
     have d1 : wr.cell? ⟨G,k * 8 + 1,none⟩ = some (.int .i64 x.call.kind):=dd 1 _ rfl
     have d2 : wr.cell? ⟨G,k * 8 + 2,none⟩ = some (.int .i64 x.call.lba):=dd 2 _ rfl
     have d3 : wr.cell? ⟨G,k * 8 + 3,none⟩ = some (.slice a1 x.call.data.length c1):=dd 3 _ rfl
     have d4 : wr.cell? ⟨G,k * 8 + 4,none⟩ = some (.int .i64 x.n):=dd 4 _ rfl
     have d5 : wr.cell? ⟨G,k * 8 + 5,none⟩ = some (.int .i64 x.off):=dd 5 _ rfl
     have d6 : wr.cell? ⟨G,k * 8 + 6,none⟩ = some (.slice a2 x.data.length c2):=dd 6 _ rfl
     have d7 : wr.cell? ⟨G,k * 8 + 7,none⟩ = some (.slice a3 x.keep.length c3):=dd 7 _ rfl
     have CB:=qH2 hb g (by omega) x a1 a2 a3 c1 c2 c3 hAA
     have g2:=g.act (by omega) x (by rw [ha.n0 x (List.mem_of_getElem? hx)];decide)
     have hE : (o.act x).1.1 = 0:=by rw [ho];exact qPp A _ k x hok.out hx
     have ho2 : (o.act x).2 = qLO (Bo.new 4 1#64 true) (A.take (k + 1)):=by rw [qIQ A _ k x hx,ho]
     obtain ⟨F,hF⟩ : ∃ F,F = o.act x:=⟨_,rfl⟩
     rw [← hF] at CB g2 hE ho2
     obtain ⟨⟨E,D⟩,o2⟩:=F
     simp only at CB g2 hE ho2
     subst hE
     have g3:=g2.up (k:=17 + 110 * (k + 1)) (by omega)
     replace hx:=qh hx
     replace ho:=qh ho
     replace ho2:=qh ho2
     clear hF dd hr hAA
     go_wp2_with fail
     refine CB.mono ?_
     rintro e w2 ⟨v,c4,rfl,hv,h2,e2⟩
     have hfd:=qEL (.int .i64 0) v w2
     go_wp2_with fail
     exact ⟨⟨k + 1,o2,c4,rfl,by omega,h2,ha.ext e2,eb.trans e2,ho2.out,g3⟩,by simp [intOf];omega⟩
   · have m1 : ¬ (k : Int) < 6:=by omega
     have hk5 : k = 6:=by omega
     subst hk5
     have ho5 : o = qLO (Bo.new 4 1#64 true) A:=by rw [ho,List.take_of_length_le (Nat.le_of_eq hAl.out)]
     clear ho
     have hq:=qKI hlD.out a c r
     rw [← hAe.out,← ho5] at hq
     obtain ⟨_,⟨q1,q2⟩,q3⟩:=hq
     replace q3:=qh q3
     cases cr with
     | true =>
      have CB1:=qH2 hb g (by omega) (qC9 3 []) none none none 0 0 0 (qEe.nil 3 0 0 0 0)
      have g5:=g.act (by omega) (qC9 3 []) (by show (0 : Int) ≤ _;decide)
      rw [q1] at CB1
      replace q2:=qh q2
      clear q1
      go_wp2_with fail
      refine CB1.mono ?_
      rintro e w5 ⟨v5,col5,rfl,_,h5,e5⟩
      have hfd:=qEL (.int .i64 3) v5 w5
      go_wp2_with fail
      refine (qBu 1 lba none 0 0 w5).mono ?_
      rintro e w6 ⟨rfl,k6⟩
      have CB2:=qH2 (h5.kept k6) g5 (by omega) (qBt 1 lba []) none none none 0 0 0 (qEe.nil 1 1 lba 0 0)
      rw [q2.out] at CB2
      go_wp2_with fail
      refine CB2.mono ?_
      rintro e w7 ⟨v7,col7,rfl,_,h7,e7⟩
      have hfd2:=qEL (.int .i64 8) v7 w7
      go_wp2_with fail
      refine (qGo w7).mono ?_
      rintro e w8 ⟨rfl,k8⟩
      go_wp2_with fail
      have kz:=(((eb.trans e5).trans (Ext.kept (m:=12) e5.top k6)).trans e7).kept0.of k8
      refine bodyPost_ret (v:=.bool true) (by simp [results,results5,go_sem];done) rfl ⟨rfl,kz⟩
     | false =>
      clear q1 q2
      go_wp2_with fail
      refine (qBu 1 lba none 0 0 wr).mono ?_
      rintro e w5 ⟨rfl,k5'⟩
      have CR:=qH2 (hb.kept k5') g (by omega) (qBt 1 lba []) none none none 0 0 0 (qEe.nil 1 1 lba 0 0)
      rcases q3.out with q3 | q3
      · rw [q3] at CR
        obtain ⟨D,hD⟩ : ∃ D,D = (o.act (qBt 1 lba [])).1.2:=⟨_,rfl⟩
        rw [← hD] at CR
        clear hD q3
        go_wp2_with fail
        refine CR.mono ?_
        rintro e w6 ⟨v6,col6,rfl,hv6,_,e6'⟩
        obtain ⟨va,vc,rfl⟩:=(Sl.of_own hv6.1).len
        have kk6 : qA4 w w6:=((eb.trans (Ext.kept (m:=12) eb.top k5')).trans e6').kept0
        obtain ⟨DL,hDL⟩ : ∃ n,n = D.length:=⟨_,rfl⟩
        rw [← hDL]
        clear hDL hv6
        have bR:=Blk.new w6 #[.int .i64 3,.slice va DL vc] 39
        have hkR : qA4 w6 (w6.alloc (.cells #[.int .i64 3,.slice va DL vc] 39)):=qal _
        go_wp2_with fail
        obtain ⟨w7,hw7⟩ : ∃ y,y = (w6.alloc (.cells #[.int .i64 3,.slice va DL vc] 39)):=⟨_,rfl⟩
        rw [← hw7] at bR hkR ⊢
        clear hw7
        refine qA5 [(0,0),(1,0),(2,0),(3,0),(4,0),(5,0),(6,0),(7,0),(8,0),(9,0),(10,0),(11,0),(12,1),(13,0),(14,0),(15,0),(16,0),(17,0),(18,1),(19,0),(20,0)] (by kernel_rfl) (by kernel_rfl) ?_
        intro z1 hz1
        repeat
         refine qA0 _ rfl (fun K hK=>?_)
         first
          | (refine qqP (by rfl) ?_;apply Exists.intro;refine ⟨fun w' hw'=>?_,hK _ ?_⟩;(have hb:=(bR.kept (hz1.of hw'));have b0:=Blk.cell hb 0;have b1:=Blk.cell hb 1;clear hb;go_simp;first|done|rfl))
          | refine qqN (by rfl) (hK _ ?_)
         clear hK K;simp only [Act.put,qqB]
        refine qB5 _ rfl (fun K hK=>?_)
        refine qqN (by rfl) ?_
        intro hK'
        refine hK' _ _ ?_
        clear hK hK' K
        simp only [Act.put,qqB]
        repeat
         refine qA0 _ rfl (fun K hK=>?_)
         first
          | (refine qqP (by rfl) ?_;apply Exists.intro;refine ⟨fun w' hw'=>?_,hK _ ?_⟩;go_simp;first|done|rfl)
          | refine qqN (by rfl) (hK _ ?_)
         clear hK K;simp only [Act.put,qqB]
        refine qqH _ rfl (by rfl) (fun K hK=>?_)
        go_wp2_with fail
        refine (qGo z1).mono ?_
        rintro e z3 ⟨rfl,k9⟩
        go_wp2
        refine hK _ _ (k9) ?_
        clear hK K
        try simp only [Act.put,qqB]
        repeat
         refine qA0 _ rfl (fun K hK=>?_)
         first
          | (refine qqP (by rfl) ?_;apply Exists.intro;refine ⟨fun w' hw'=>?_,hK _ ?_⟩;go_simp;first|done|rfl)
          | refine qqN (by rfl) (hK _ ?_)
         clear hK K;simp only [Act.put,qqB]
        refine qA7 ?_
        go_wp2_with fail
        have kz:=((kk6.of hkR).of hz1).of k9
        refine bodyPost_ret (v:=.bool true) (by simp [results,results5,go_sem];done) rfl ⟨rfl,kz⟩
      · rw [q3] at CR
        clear q3
        go_wp2_with fail
        refine CR.mono ?_
        rintro e w6 ⟨v6,col6,rfl,hv6,_,e6'⟩
        obtain ⟨va,vc,rfl⟩:=(Sl.of_own hv6.1).len
        have kk6 : qA4 w w6:=((eb.trans (Ext.kept (m:=12) eb.top k5')).trans e6').kept0
        have bR:=Blk.new w6 #[.int .i64 0,.slice va (List.replicate 32 c).length vc] 39
        have hkR : qA4 w6 (w6.alloc (.cells #[.int .i64 0,.slice va (List.replicate 32 c).length vc] 39)):=qal _
        have hv4:=qA3 hv6.1 hkR
        obtain ⟨dd,hdd⟩ : ∃ d,d = List.replicate 32 c:=⟨_,rfl⟩
        have hd32 : dd.length = 32:=by rw [hdd];exact List.length_replicate
        rw [← hdd] at hv4 bR hkR ⊢
        rw [hd32] at hv4 bR hkR ⊢
        replace hdd:=qh hdd
        replace hd32:=qh hd32
        go_wp2_with fail
        obtain ⟨w7,hw7⟩ : ∃ y,y = (w6.alloc (.cells #[.int .i64 0,.slice va 32 vc] 39)):=⟨_,rfl⟩
        rw [← hw7] at hv4 bR hkR ⊢
        clear hw7
        refine qA5 [(0,0),(1,0),(2,0),(3,0),(4,0),(5,0),(6,0),(7,0),(8,0),(9,0),(10,0),(11,0),(12,1),(13,0),(14,0),(15,0),(16,0),(17,0),(18,1),(19,0),(20,0)] (by kernel_rfl) (by kernel_rfl) ?_
        intro z1 hz1
        repeat
         refine qA0 _ rfl (fun K hK=>?_)
         first
          | (refine qqP (by rfl) ?_;apply Exists.intro;refine ⟨fun w' hw'=>?_,hK _ ?_⟩;(have hb:=(bR.kept (hz1.of hw'));have b0:=Blk.cell hb 0;have b1:=Blk.cell hb 1;clear hb;have s1:=qFd (v:=.slice va 32 vc) (bs:=dd) (by rw [hd32.out];exact Sl.of_own (qA3 hv4 (hz1.of hw')));go_simp;first|done|rfl))
          | refine qqN (by rfl) (hK _ ?_)
         clear hK K;simp only [Act.put,qqB]
        refine qqH _ rfl (by rfl) (fun K hK=>?_)
        go_wp2_with fail
        refine (qBT c z1).mono ?_
        rintro e z2 ⟨rfl,ho5,k5⟩
        go_wp2
        refine hK _ _ (k5) ?_
        clear hK K
        try simp only [Act.put,qqB]
        repeat
         refine qA0 _ rfl (fun K hK=>?_)
         first
          | (refine qqP (by rfl) ?_;apply Exists.intro;refine ⟨fun w' hw'=>?_,hK _ ?_⟩;(have s2:=qFd (v:=.slice (some ⟨z1.heap.size,0,none⟩) 32 32) (bs:=List.replicate 32 c) (Sl.of_own (qA3 ho5 hw'));rw [← hdd.out] at s2;go_simp;first|done|rfl))
          | refine qqN (by rfl) (hK _ ?_)
         clear hK K;simp only [Act.put,qqB]
        refine qqH _ rfl (by rfl) (fun K hK=>?_)
        go_wp2_with fail
        refine (qGo z2).mono ?_
        rintro e z3 ⟨rfl,k9⟩
        go_wp2
        refine hK _ _ (k9) ?_
        clear hK K
        try simp only [Act.put,qqB]
        repeat
         refine qA0 _ rfl (fun K hK=>?_)
         first
          | (refine qqP (by rfl) ?_;apply Exists.intro;refine ⟨fun w' hw'=>?_,hK _ ?_⟩;go_simp;first|done|rfl)
          | refine qqN (by rfl) (hK _ ?_)
         clear hK K;simp only [Act.put,qqB]
        refine qA7 ?_
        go_wp2_with fail
        have kz:=((kk6.of hkR).of (hz1.of k5)).of k9
        refine bodyPost_ret (v:=.bool true) (by simp [results,results5,go_sem];done) rfl ⟨rfl,kz⟩
end Go.Proofs.YtdlgihbpiakebaaGreat
