import Derived.Test.YtdlgihbpiakebaaGreatMd04
import Derived.Test.YtdlgihbpiakebaaGreatMd30
import Derived.Test.YtdlgihbpiakebaaGreatMd39
import Derived.Test.YtdlgihbpiakebaaGreatMd41
set_option maxRecDepth 100000
set_option maxHeartbeats 4000000
namespace Go.Proofs.YtdlgihbpiakebaaGreat
open Go Go.RowKit Tryz
theorem qAe {P : Program} {ops : Array Oper} {Q : Exit → Act → World → Prop} {id : Nat} {a : Act} {w : World} (R : World → World → Prop) (l : List (Nat × Nat)) (hm : P.follows .mixedOrders = true)
 (hB : (Region.noSelect ops && decide (l.length = ops.size) && qCd .any ops l l (Array.replicate ops.size false)) = true)
 (hr0 : ∀ w : World,R w w) (ht : ∀ a b c : World,R a b → R b c → R a c)
 (h : ∀ w0,qA4 w w0 → qAL P ops R Q l a w0) : (Code.region id ops true).wp P Q a w :=
 qB8 R l hm hB hr0 ht (h _ (qA4.drawn w))
def qIp (ts : List TypeId) (w w' : World) : Prop:=∀ b cs t,Blk w b cs t → t ∉ ts → Blk w' b cs t
theorem qIp.refl {ts : List TypeId} (w : World) : qIp ts w w:=fun _ _ _ h _=>h
theorem qIp.trans {ts : List TypeId} {a b c : World} (h : qIp ts a b) (k : qIp ts b c) : qIp ts a c:=fun g cs t hb h1=>k g cs t (h g cs t hb h1) h1
theorem qIp.kept {ts : List TypeId} {a b : World} (h : qA4 a b) : qIp ts a b:=fun _ _ _ hb _=>hb.kept h
theorem qIp.chg {ts : List TypeId} {g : Nat} {cs : Array Value} {t : TypeId} {a b : World} (h : Chg [g] a b) (hg : Blk a g cs t) (ht : t ∈ ts) : qIp ts a b:=fun k cs' t' hb hn=>h.blk hb fun hm=>by
 rw [List.mem_singleton] at hm
 subst hm
 unfold Blk at hb hg
 rw [hb] at hg
 cases hg
 exact hn ht
def Lk.sealP (l : Lk) (key : qAB) (n : Nn) (head data : List UInt8) : List UInt8 × qAB:=match l with
 | .real=>(qGF key n data,((qE1 key n head data).1,(qE1 key n head data).2))
 | .ideal iss _=>(qDT (iss.length + 1) data.length,(18446744073709551615#64,BitVec.ofNat 64 (iss.length + 1)))
def Lk.sealL (l : Lk) (key : qAB) (n : Nn) (head data : List UInt8) : Lk:=match l with
 | .real=>.real
 | .ideal iss sums=>.ideal (iss ++ [qEy iss key n head data]) sums
def Lk.openP (l : Lk) (key : qAB) (n : Nn) (head out : List UInt8) (tag : qAB) : Option (List UInt8):=match l with
 | .real=>if qHt key n head out tag then some (qGF key n out) else none
 | .ideal iss _=>qDS iss key n head out tag
def Lk.dataOk (l : Lk) : Prop:=match l with
 | .real=>True
 | .ideal iss _=>∀ x ∈ iss,x.data.length ≤ 4000 ∧ x.data.length = x.out.length
theorem Lk.sealP_length (l : Lk) (key : qAB) (n : Nn) (head data : List UInt8) : (l.sealP key n head data).1.length = data.length:=by
 cases l with
 | real=>exact qBy _ _ _
 | ideal iss sums=>exact qBG _ _
theorem One.newset {i g : Nat} {col col' : Nat → Nat} {w w1 w2 : World} (h : One i col col' w w1) (hc : Chg [g] w1 w2) (hg : w.heap.size ≤ g) : One i col col' w w2 :=
 ⟨hc.os.trans h.os,hc.tape.trans h.tape,hc.output.trans h.output,Nat.le_trans h.size hc.size,h.old,h.new,fun k hk=>h.top k (Nat.le_trans hc.size hk),fun k hk hne=>(hc.block k (Nat.lt_of_lt_of_le hk h.size) (by rw [List.mem_singleton];omega)).trans (h.block k hk hne)⟩
theorem qMJ (col : Nat → Nat) (L : Nat) (l : Lk) (key : qAB) (n : Nn) (vh vd : Value) (head data : List UInt8) (hf : l.few 100000) (hlh : head.length ≤ 4000) (hld : data.length ≤ 4000) (w : World) (h : LkC col w L l) (ht : Top col w) (sh : Sl w vh head.length (qA1 head)) (sd : Sl w vd data.length (qA1 data)) :
 Calls prog 160 #[.pointer (some ⟨L,0,none⟩),.agg #[U key.1,U key.2],(.agg #[W n.epoch,W n.slot,U n.version]),vh,vd] w fun e w'=>∃ u col',e = .returned (.tuple #[.agg #[u,U (l.sealP key n head data).2.1,U (l.sealP key n head data).2.2],.bool true]) ∧ w'.ownsRow w.heap.size 5 1 u data.length (qA1 (l.sealP key n head data).1) ∧ (∀ g,u.ownBlock = some g → col' g = 0) ∧ LkC col' w' L (l.sealL key n head data) ∧ One 5 col col' w w':=by
 obtain ⟨ah,ch,rfl⟩:=sh.len
 obtain ⟨ad,cd,rfl⟩:=sd.len
 obtain ⟨w0,hw0⟩ : ∃ w0,w0 = (((w.alloc (.cells #[U key.1,U key.2] 115)).alloc (.cells #[W n.epoch,W n.slot,U n.version] 113)).alloc (.cells #[.slice none 0 0,U 0#64,U 0#64] 165)):=⟨_,rfl⟩
 have hk0 : qA4 w w0:=by rw [hw0];exact ((qal _).alloc (by simp) _).alloc (by simp;omega) _
 have bK : Blk w0 w.heap.size #[U key.1,U key.2] 115:=by rw [hw0];exact ((Blk.new w _ _).kept (qal _)).kept (qal _)
 have bN : Blk w0 (w.heap.size + 1) #[W n.epoch,W n.slot,U n.version] 113:=by
  rw [hw0]
  have:=Blk.new (w.alloc (.cells #[U key.1,U key.2] 115)) #[W n.epoch,W n.slot,U n.version] 113
  rw [World.size_alloc] at this
  exact this.kept (qal _)
 have bZ : Blk w0 (w.heap.size + 1 + 1) #[.slice none 0 0,U 0#64,U 0#64] 165:=by
  rw [hw0]
  have:=Blk.new ((w.alloc (.cells #[U key.1,U key.2] 115)).alloc (.cells #[W n.epoch,W n.slot,U n.version] 113)) #[.slice none 0 0,U 0#64,U 0#64] 165
  rw [World.size_alloc,World.size_alloc] at this
  exact this
 cases l with
 | real =>
  have h':=h
  obtain ⟨f3,f4,hb,hc⟩:=h
  have q0:=(hb.kept hk0).cell 0
  rw [hw0] at q0
  go_enter func160,ntmps160
  go_wp2_with fail
  rw [← hw0]
  clear hw0 q0
  refine qAe (qIp [182,184,165]) [(0,0),(1,0),(2,0),(3,0),(4,0),(5,0),(6,0),(7,0),(8,1),(9,0),(10,0),(11,1),(12,0)] (by kernel_rfl) (by kernel_rfl) ?_ ?_ ?_
  · exact fun _=>qIp.refl _
  · exact fun _ _ _ h1 h2=>h1.trans h2
  intro z1 hz1
  repeat
   refine qA0 _ rfl (fun K hK=>?_)
   first
    | (refine qqP (by rfl) ?_;apply Exists.intro;refine ⟨fun w' hw'=>?_,hK _ ?_⟩;(have c:=hw' _ _ _ (hb.kept (hk0.of hz1)) (by decide);have c0:=c.cell 0;clear c;have d:=hw' _ _ _ (bK.kept hz1) (by decide);have d0:=d.cell 0;have d1:=d.cell 1;clear d;have m:=hw' _ _ _ (bN.kept hz1) (by decide);have m0:=m.cell 0;have m1:=m.cell 1;have m2:=m.cell 2;clear m;go_simp;first|done|rfl))
    | refine qqN (by rfl) (hK _ ?_)
   clear hK K;simp only [Act.put,qqB]
  refine qqH _ rfl (by rfl) (fun K hK=>?_)
  go_wp2_with fail
  refine (qOA key.1 key.2 n _ _ head data hlh hld _ (sh.kept (hk0.of hz1)) (sd.kept (hk0.of hz1))).mono ?_
  rintro e z2 ⟨u,rfl,ho,kz⟩
  obtain ⟨b3,d3,rfl⟩:=(Sl.of_own ho).len
  obtain ⟨T1,hT1⟩ : ∃ x,x = (qE1 (key.1,key.2) n head data).1:=⟨_,rfl⟩
  obtain ⟨T2,hT2⟩ : ∃ x,x = (qE1 (key.1,key.2) n head data).2:=⟨_,rfl⟩
  rw [← hT1,← hT2]
  replace hT1:=qh hT1
  replace hT2:=qh hT2
  have hk2 : qA4 w z2:=(hk0.of hz1).of kz
  have one : One 5 col col w z2:=One.kept ht hk2
  have HL : LkC col z2 L .real:=h'.frame (qAZ.kept hk2 5)
  have hbZ : Blk z2 (w.heap.size + 1 + 1) #[.slice none 0 0,U 0#64,U 0#64] 165:=bZ.kept (hz1.of kz)
  have h0z : col (w.heap.size + 1 + 1) = 0:=ht _ (by omega)
  have hob : ∀ g,(Value.slice b3 data.length d3).ownBlock = some g → col g = 0:=fun g hg=>ht g (by have:=qAM ho hg;have:=(hk0.of hz1).size;omega)
  have ho2:=qAg ho (hk0.of hz1).size
  go_wp2
  refine hK _ _ (qIp.kept kz) ?_
  clear hK K
  try simp only [Act.put,qqB]
  repeat
   refine qA0 _ rfl (fun K hK=>?_)
   first
    | (refine qqP (by rfl) ?_;apply Exists.intro;refine ⟨fun w' hw'=>?_,hK _ ?_⟩;go_simp;first|done|rfl)
    | refine qqN (by rfl) (hK _ ?_)
   clear hK K;simp only [Act.put,qqB]
  refine qqH _ rfl (by rfl) (fun K hK=>?_)
  have f0:=hbZ.free 0
  have f1:=hbZ.free 1
  have f2:=hbZ.free 2
  have x0:=hbZ.cell 0
  have x1:=hbZ.cell 1
  have x2:=hbZ.cell 2
  go_wp2
  refine hK _ _ (qIp.chg ((((Chg.refl [w.heap.size + 1 + 1] z2).set qsm 0 (.slice b3 data.length d3)).set qsm 1 (U T1)).set qsm 2 (U T2)) hbZ (by decide)) ?_
  clear hK K
  try simp only [Act.put,qqB]
  repeat
   refine qA0 _ rfl (fun K hK=>?_)
   first
    | (refine qqP (by rfl) ?_;apply Exists.intro;refine ⟨fun w' hw'=>?_,hK _ ?_⟩;go_simp;first|done|rfl)
    | refine qqN (by rfl) (hK _ ?_)
   clear hK K;simp only [Act.put,qqB]
  refine qA7 ?_
  have hc3 : Chg [w.heap.size + 1 + 1] z2 (((z2.setCell ⟨w.heap.size + 1 + 1,0,none⟩ (.slice b3 data.length d3)).setCell ⟨w.heap.size + 1 + 1,1,none⟩ (U T1)).setCell ⟨w.heap.size + 1 + 1,2,none⟩ (U T2)):=((((Chg.refl [w.heap.size + 1 + 1] z2).set qsm 0 (.slice b3 data.length d3)).set qsm 1 (U T1)).set qsm 2 (U T2))
  have bR:=((hbZ.set 0 (.slice b3 data.length d3)).set 1 (U T1)).set 2 (U T2)
  simp only [qqA,qq0,qq1] at bR
  clear f0 f1 f2 x0 x1 x2
  generalize (((z2.setCell ⟨w.heap.size + 1 + 1,0,none⟩ (.slice b3 data.length d3)).setCell ⟨w.heap.size + 1 + 1,1,none⟩ (U T1)).setCell ⟨w.heap.size + 1 + 1,2,none⟩ (U T2)) = z3 at *
  go_wp2_with fail
  have r0:=bR.cell 0
  have r1:=bR.cell 1
  have r2:=bR.cell 2
  have ho3:=qAt ho2 hc3 hbZ (by decide)
  have one3:=one.newset hc3 (by omega)
  have HL3:=HL.frame (qAZ.chg (col:=col) hc3 (i:=5) (by intro b hb;rw [List.mem_singleton] at hb;subst hb;rw [h0z];decide))
  refine bodyPost_ret (v:=.tuple #[.agg #[.slice b3 data.length d3,U T1,U T2],.bool true]) (by simp [results,results160,go_sem,r0,r1,r2];done) rfl ⟨_,_,by rw [hT1.out,hT2.out];rfl,ho3,hob,HL3,one3⟩
 | ideal iss sums =>
  obtain ⟨O,f3,f4,hb,hc,h2⟩:=h
  have q0:=(hb.kept hk0).cell 0
  rw [hw0] at q0
  go_enter func160,ntmps160
  go_wp2_with fail
  rw [← hw0]
  clear hw0 q0
  refine qAe (qIp [182,184,165]) [(0,0),(1,0),(2,0),(3,0),(4,0),(5,0),(6,0),(7,0),(8,1),(9,0),(10,0),(11,1),(12,0)] (by kernel_rfl) (by kernel_rfl) ?_ ?_ ?_
  · exact fun _=>qIp.refl _
  · exact fun _ _ _ h1 h2=>h1.trans h2
  intro z1 hz1
  repeat
   refine qA0 _ rfl (fun K hK=>?_)
   first
    | (refine qqP (by rfl) ?_;apply Exists.intro;refine ⟨fun w' hw'=>?_,hK _ ?_⟩;(have c:=hw' _ _ _ (hb.kept (hk0.of hz1)) (by decide);have c0:=c.cell 0;clear c;have d:=hw' _ _ _ (bK.kept hz1) (by decide);have d0:=d.cell 0;have d1:=d.cell 1;clear d;have m:=hw' _ _ _ (bN.kept hz1) (by decide);have m0:=m.cell 0;have m1:=m.cell 1;have m2:=m.cell 2;clear m;go_simp;first|done|rfl))
    | refine qqN (by rfl) (hK _ ?_)
   clear hK K;simp only [Act.put,qqB]
  refine qqH _ rfl (by rfl) (fun K hK=>?_)
  go_wp2_with fail
  refine (qJC col O iss sums key n _ _ head data hf.1 hlh hld _ (h2.frame (qAZ.kept (hk0.of hz1) 5)) (fun k hk=>ht k (Nat.le_trans (hk0.of hz1).size hk)) (sh.kept (hk0.of hz1)) (sd.kept (hk0.of hz1))).mono ?_
  rintro e z2 ⟨u,col2,rfl,ho,hob,horc,one2,hbt⟩
  obtain ⟨b3,d3,rfl⟩:=(Sl.of_own ho).len
  obtain ⟨T1,hT1⟩ : ∃ x,x = 18446744073709551615#64:=⟨_,rfl⟩
  obtain ⟨T2,hT2⟩ : ∃ x,x = BitVec.ofNat 64 (iss.length + 1):=⟨_,rfl⟩
  rw [← hT1,← hT2]
  replace hT1:=qh hT1
  replace hT2:=qh hT2
  have one : One 5 col col2 w z2:=(One.kept ht (hk0.of hz1)).trans one2
  have HL : LkC col2 z2 L (.ideal (iss ++ [qEy iss key n head data]) sums):=⟨O,f3,f4,hbt _ _ _ (hb.kept (hk0.of hz1)) (by decide) (by decide),(one.old _ hb.lt).trans hc,horc⟩
  have hbZ : Blk z2 (w.heap.size + 1 + 1) #[.slice none 0 0,U 0#64,U 0#64] 165:=hbt _ _ _ (bZ.kept hz1) (by decide) (by decide)
  have h0z : col2 (w.heap.size + 1 + 1) = 0:=by rw [one2.old _ (bZ.kept hz1).lt];exact ht _ (by omega)
  have ho2:=qAg ho (hk0.of hz1).size
  go_wp2
  refine hK _ _ (fun b cs t hb hn=>hbt b cs t hb (fun e=>hn (by simp [e])) (fun e=>hn (by simp [e]))) ?_
  clear hK K
  try simp only [Act.put,qqB]
  repeat
   refine qA0 _ rfl (fun K hK=>?_)
   first
    | (refine qqP (by rfl) ?_;apply Exists.intro;refine ⟨fun w' hw'=>?_,hK _ ?_⟩;go_simp;first|done|rfl)
    | refine qqN (by rfl) (hK _ ?_)
   clear hK K;simp only [Act.put,qqB]
  refine qqH _ rfl (by rfl) (fun K hK=>?_)
  have f0:=hbZ.free 0
  have f1:=hbZ.free 1
  have f2:=hbZ.free 2
  have x0:=hbZ.cell 0
  have x1:=hbZ.cell 1
  have x2:=hbZ.cell 2
  go_wp2
  refine hK _ _ (qIp.chg ((((Chg.refl [w.heap.size + 1 + 1] z2).set qsm 0 (.slice b3 data.length d3)).set qsm 1 (U T1)).set qsm 2 (U T2)) hbZ (by decide)) ?_
  clear hK K
  try simp only [Act.put,qqB]
  repeat
   refine qA0 _ rfl (fun K hK=>?_)
   first
    | (refine qqP (by rfl) ?_;apply Exists.intro;refine ⟨fun w' hw'=>?_,hK _ ?_⟩;go_simp;first|done|rfl)
    | refine qqN (by rfl) (hK _ ?_)
   clear hK K;simp only [Act.put,qqB]
  refine qA7 ?_
  have hc3 : Chg [w.heap.size + 1 + 1] z2 (((z2.setCell ⟨w.heap.size + 1 + 1,0,none⟩ (.slice b3 data.length d3)).setCell ⟨w.heap.size + 1 + 1,1,none⟩ (U T1)).setCell ⟨w.heap.size + 1 + 1,2,none⟩ (U T2)):=((((Chg.refl [w.heap.size + 1 + 1] z2).set qsm 0 (.slice b3 data.length d3)).set qsm 1 (U T1)).set qsm 2 (U T2))
  have bR:=((hbZ.set 0 (.slice b3 data.length d3)).set 1 (U T1)).set 2 (U T2)
  simp only [qqA,qq0,qq1] at bR
  clear f0 f1 f2 x0 x1 x2
  generalize (((z2.setCell ⟨w.heap.size + 1 + 1,0,none⟩ (.slice b3 data.length d3)).setCell ⟨w.heap.size + 1 + 1,1,none⟩ (U T1)).setCell ⟨w.heap.size + 1 + 1,2,none⟩ (U T2)) = z3 at *
  go_wp2_with fail
  have r0:=bR.cell 0
  have r1:=bR.cell 1
  have r2:=bR.cell 2
  have ho3:=qAt ho2 hc3 hbZ (by decide)
  have one3:=one.newset hc3 (by omega)
  have HL3:=HL.frame (qAZ.chg (col:=col2) hc3 (i:=5) (by intro b hb;rw [List.mem_singleton] at hb;subst hb;rw [h0z];decide))
  refine bodyPost_ret (v:=.tuple #[.agg #[.slice b3 data.length d3,U T1,U T2],.bool true]) (by simp [results,results160,go_sem,r0,r1,r2];done) rfl ⟨_,_,by rw [hT1.out,hT2.out];rfl,ho3,hob,HL3,one3⟩
theorem qE5.kept {w w' : World} {v : Value} {l : List Iss} {rs : List (Value × Value × Value)} (h : qE5 w v l rs) (hk : qA4 w w') : qE5 w' v l rs :=
 ⟨qA3 h.row hk,h.len,fun i x r hx hr=>by
  obtain ⟨h1,h2,h3⟩:=h.each i x r hx hr
  exact ⟨h1.kept hk,h2.kept hk,h3.kept hk⟩,h.apart⟩
theorem qMK (col : Nat → Nat) (L : Nat) (l : Lk) (key tag : qAB) (n : Nn) (vh vo : Value) (head out : List UInt8) (hf : l.few 100000) (hdo : l.dataOk) (hlh : head.length ≤ 4000) (hlo : out.length ≤ 4000) (w : World) (h : LkC col w L l) (sh : Sl w vh head.length (qA1 head)) (so : Sl w vo out.length (qA1 out)) :
 Calls prog 141 #[.pointer (some ⟨L,0,none⟩),.agg #[U key.1,U key.2],(.agg #[W n.epoch,W n.slot,U n.version]),vh,.agg #[vo,U tag.1,U tag.2]] w fun e w'=>∃ u,e = .returned (.tuple #[u,.bool (l.openP key n head out tag).isSome]) ∧ (∀ d,l.openP key n head out tag = some d → w'.ownsRow w.heap.size 5 1 u d.length (qA1 d)) ∧ qA4 w w':=by
 obtain ⟨ah,ch,rfl⟩:=sh.len
 obtain ⟨ao,co,rfl⟩:=so.len
 obtain ⟨w0,hw0⟩ : ∃ w0,w0 = (((w.alloc (.cells #[U key.1,U key.2] 115)).alloc (.cells #[W n.epoch,W n.slot,U n.version] 113)).alloc (.cells #[.slice ao out.length co,U tag.1,U tag.2] 165)):=⟨_,rfl⟩
 have hk0 : qA4 w w0:=by rw [hw0];exact ((qal _).alloc (by simp) _).alloc (by simp;omega) _
 have bK : Blk w0 w.heap.size #[U key.1,U key.2] 115:=by rw [hw0];exact ((Blk.new w _ _).kept (qal _)).kept (qal _)
 have bN : Blk w0 (w.heap.size + 1) #[W n.epoch,W n.slot,U n.version] 113:=by
  rw [hw0]
  have:=Blk.new (w.alloc (.cells #[U key.1,U key.2] 115)) #[W n.epoch,W n.slot,U n.version] 113
  rw [World.size_alloc] at this
  exact this.kept (qal _)
 have bZ : Blk w0 (w.heap.size + 1 + 1) #[.slice ao out.length co,U tag.1,U tag.2] 165:=by
  rw [hw0]
  have:=Blk.new ((w.alloc (.cells #[U key.1,U key.2] 115)).alloc (.cells #[W n.epoch,W n.slot,U n.version] 113)) #[.slice ao out.length co,U tag.1,U tag.2] 165
  rw [World.size_alloc,World.size_alloc] at this
  exact this
 obtain ⟨B,hB⟩ : ∃ B,B = (l.openP key n head out tag).isSome:=⟨_,rfl⟩
 have HB:=qh hB
 clear hB
 cases l with
 | real =>
  obtain ⟨f3,f4,hb,hc⟩:=h
  have q0:=(hb.kept hk0).cell 1
  rw [hw0] at q0
  have CC : ∀ z1,qA4 w0 z1 → Calls prog 59 #[.agg #[U key.1,U key.2],(.agg #[W n.epoch,W n.slot,U n.version]),.slice ah head.length ch,.agg #[.slice ao out.length co,U tag.1,U tag.2]] z1 fun e w'=>∃ u,e = .returned (.tuple #[u,.bool B]) ∧ (∀ d,Lk.real.openP key n head out tag = some d → w'.ownsRow z1.heap.size 5 1 u d.length (qA1 d)) ∧ qA4 z1 w':=fun z1 hz1=>by
   refine (qOD key.1 key.2 n _ _ head out tag.1 tag.2 hlh hlo _ (sh.kept (hk0.of hz1)) (so.kept (hk0.of hz1))).mono ?_
   rintro e z2 ⟨u,rfl,ho,kz⟩
   refine ⟨u,?_,fun d hd=>?_,kz⟩
   · rw [HB.out]
     unfold Lk.openP
     show _ = Ending.returned (.tuple #[u,.bool (Option.isSome (if qHt (key.1,key.2) n head out (tag.1,tag.2) then _ else none))])
     cases qHt (key.1,key.2) n head out (tag.1,tag.2) <;> rfl
   · unfold Lk.openP at hd
     simp only at hd
     split at hd
     · rename_i hk
       cases hd
       unfold qOC at ho
       rw [if_pos hk] at ho
       exact ho
     · cases hd
  have HB2:=HB
  go_enter func141,ntmps141
  go_wp2_with fail
  rw [← hw0]
  clear hw0 q0
  refine qA5 [(0,0),(1,0),(2,0),(3,0),(4,0),(5,0),(6,0),(7,0),(8,1),(9,0),(10,0),(11,0),(12,0)] (by kernel_rfl) (by kernel_rfl) ?_
  intro z1 hz1
  repeat
   refine qA0 _ rfl (fun K hK=>?_)
   first
    | (refine qqP (by rfl) ?_;apply Exists.intro;refine ⟨fun w' hw'=>?_,hK _ ?_⟩;(have c:=(hb.kept (hk0.of hz1)).kept hw';have c1:=c.cell 1;clear c;have d:=(bK.kept hz1).kept hw';have d0:=d.cell 0;have d1:=d.cell 1;clear d;have m:=(bN.kept hz1).kept hw';have m0:=m.cell 0;have m1:=m.cell 1;have m2:=m.cell 2;clear m;have z:=(bZ.kept hz1).kept hw';have z0:=z.cell 0;have z1:=z.cell 1;have z2:=z.cell 2;clear z;go_simp;first|done|rfl))
    | refine qqN (by rfl) (hK _ ?_)
   clear hK K;simp only [Act.put,qqB]
  refine qqH _ rfl (by rfl) (fun K hK=>?_)
  go_wp2_with fail
  refine (CC _ hz1).mono ?_
  rintro e z2 ⟨u,rfl,ho,kz⟩
  go_wp2
  refine hK _ _ (kz) ?_
  clear hK K
  try simp only [Act.put,qqB]
  repeat
   refine qA0 _ rfl (fun K hK=>?_)
   first
    | (refine qqP (by rfl) ?_;apply Exists.intro;refine ⟨fun w' hw'=>?_,hK _ ?_⟩;go_simp;first|done|rfl)
    | refine qqN (by rfl) (hK _ ?_)
   clear hK K;simp only [Act.put,qqB]
  refine qA7 ?_
  go_wp2_with fail
  refine bodyPost_ret (v:=.tuple #[u,.bool B]) (by simp [results,results141,go_sem];done) rfl ⟨_,by rw [HB.out],?_,(hk0.of hz1).of kz⟩
  intro d hd
  exact qAg (ho d hd) (hk0.of hz1).size
 | ideal iss sums =>
  obtain ⟨O,f3,f4,hb,hc,v,rs,m,h1,h2,h3,c1,c2,c3⟩:=h
  have q0:=(hb.kept hk0).cell 1
  rw [hw0] at q0
  have CC : ∀ z1,qA4 w0 z1 → Calls prog 65 #[.pointer (some ⟨O,0,none⟩),.agg #[U key.1,U key.2],(.agg #[W n.epoch,W n.slot,U n.version]),.slice ah head.length ch,.agg #[.slice ao out.length co,U tag.1,U tag.2]] z1 fun e w'=>∃ u,e = .returned (.tuple #[u,.bool B]) ∧ (∀ d,(Lk.ideal iss sums).openP key n head out tag = some d → w'.ownsRow z1.heap.size 5 1 u d.length (qA1 d)) ∧ qA4 z1 w':=fun z1 hz1=>by
   refine (qJA O m v _ _ rs iss key tag n head out hf.1 (fun x hx=>(hdo x hx).1) z1 (h1.kept (hk0.of hz1)) (h2.kept (hk0.of hz1)) (sh.kept (hk0.of hz1)) (so.kept (hk0.of hz1))).mono ?_
   rintro e z2 ⟨u,rfl,ho,kz⟩
   exact ⟨u,by rw [HB.out];rfl,ho,kz⟩
  go_enter func141,ntmps141
  go_wp2_with fail
  rw [← hw0]
  clear hw0 q0
  refine qA5 [(0,0),(1,0),(2,0),(3,0),(4,0),(5,0),(6,0),(7,0),(8,1),(9,0),(10,0),(11,0),(12,0)] (by kernel_rfl) (by kernel_rfl) ?_
  intro z1 hz1
  repeat
   refine qA0 _ rfl (fun K hK=>?_)
   first
    | (refine qqP (by rfl) ?_;apply Exists.intro;refine ⟨fun w' hw'=>?_,hK _ ?_⟩;(have c:=(hb.kept (hk0.of hz1)).kept hw';have c1:=c.cell 1;clear c;have d:=(bK.kept hz1).kept hw';have d0:=d.cell 0;have d1:=d.cell 1;clear d;have m:=(bN.kept hz1).kept hw';have m0:=m.cell 0;have m1:=m.cell 1;have m2:=m.cell 2;clear m;have z:=(bZ.kept hz1).kept hw';have z0:=z.cell 0;have z1:=z.cell 1;have z2:=z.cell 2;clear z;go_simp;first|done|rfl))
    | refine qqN (by rfl) (hK _ ?_)
   clear hK K;simp only [Act.put,qqB]
  refine qqH _ rfl (by rfl) (fun K hK=>?_)
  go_wp2_with fail
  refine (CC _ hz1).mono ?_
  rintro e z2 ⟨u,rfl,ho,kz⟩
  go_wp2
  refine hK _ _ (kz) ?_
  clear hK K
  try simp only [Act.put,qqB]
  repeat
   refine qA0 _ rfl (fun K hK=>?_)
   first
    | (refine qqP (by rfl) ?_;apply Exists.intro;refine ⟨fun w' hw'=>?_,hK _ ?_⟩;go_simp;first|done|rfl)
    | refine qqN (by rfl) (hK _ ?_)
   clear hK K;simp only [Act.put,qqB]
  refine qA7 ?_
  go_wp2_with fail
  refine bodyPost_ret (v:=.tuple #[u,.bool B]) (by simp [results,results141,go_sem];done) rfl ⟨_,by rw [HB.out],?_,(hk0.of hz1).of kz⟩
  intro d hd
  exact qAg (ho d hd) (hk0.of hz1).size
def Wd.setL (x : Wd) (l : Lk) : Wd:={ x with l:=l }
structure Wd.fine (x : Wd) (m : Nat) : Prop where
 ok : x.ok m
 few : x.l.few m
 dat : x.l.dataOk
section
variable {col col' : Nat → Nat} {w w' : World} {P : qAQ} {x : Wd} {m : Nat}
theorem qAS.stepL (h : qAS col w P x) {l : Lk} (hl : LkC col' w' P.l l) (o : One 5 col col' w w') : qAS col' w' P (x.setL l) ∧ Ext 6 col col' w w':=by
 obtain ⟨b7,d7⟩:=(o.same (j:=7) (by omega)).blk h.blk h.cW
 obtain ⟨b6,d6⟩:=(o.same (j:=6) (by omega)).blk h.pw h.cb
 obtain ⟨b3,d3⟩:=(o.same (j:=3) (by omega)).blk h.cnt h.cc
 refine ⟨⟨b7,d7,b6,d6,fun k hk hc=>?_,h.ssd.frame (o.same (by omega)) b6,h.dsk.frame (o.same (by omega)) b6,b3,d3,h.keys.frame (o.same (by omega)),hl,o.top⟩,o.ext (by omega) (by omega)⟩
 by_cases hk2 : k < w.heap.size
 · exact h.one k hk2 (by rw [← o.old k hk2];exact hc)
 · have:=o.new k (by omega)
   omega
theorem Lk.few_mono {l : Lk} {m n : Nat} (h : l.few m) (hm : m ≤ n) : l.few n:=by
 cases l with
 | real=>trivial
 | ideal iss sums=>exact ⟨Nat.le_trans h.1 hm,Nat.le_trans h.2 hm⟩
theorem qHu (sums : List (List UInt8)) (row : List UInt8) : (qAW sums row).length ≤ sums.length + 1:=by
 unfold qAW;split <;> simp
theorem Lk.few_sum {l : Lk} {m : Nat} (h : l.few m) (row : List UInt8) : (l.sumL row).few (m + 1):=by
 cases l with
 | real=>trivial
 | ideal iss sums=>exact ⟨by have:=h.1;show iss.length ≤ _;omega,by have:=h.2;have:=qHu sums row;show (qAW sums row).length ≤ _;omega⟩
theorem Lk.few_seal {l : Lk} {m : Nat} (h : l.few m) (key : qAB) (n : Nn) (head data : List UInt8) : (l.sealL key n head data).few (m + 1):=by
 cases l with
 | real=>trivial
 | ideal iss sums=>exact ⟨by have:=h.1;show (iss ++ [_]).length ≤ _;simp;omega,by have:=h.2;show sums.length ≤ _;omega⟩
theorem Lk.dat_seal {l : Lk} (h : l.dataOk) (key : qAB) (n : Nn) (head data : List UInt8) (hd : data.length ≤ 4000) : (l.sealL key n head data).dataOk:=by
 cases l with
 | real=>trivial
 | ideal iss sums =>
  intro x hx
  rcases List.mem_append.1 hx with hx | hx
  · exact h x hx
  · rw [List.mem_singleton] at hx
    subst hx
    exact ⟨hd,(qBG _ _).symm⟩
theorem Lk.dat_sum {l : Lk} (h : l.dataOk) (row : List UInt8) : (l.sumL row).dataOk:=by
 cases l with
 | real=>trivial
 | ideal iss sums=>exact h
theorem qFV (h : qAS col w P x) (f : x.fine m) (hm : m ≤ 100000) (key : qAB) (n : Nn) (vh vd : Value) (head data : List UInt8) (hlh : head.length ≤ 4000) (hld : data.length ≤ 4000) (sh : Sl w vh head.length (qA1 head)) (sd : Sl w vd data.length (qA1 data)) :
 Calls prog 160 #[.pointer (some ⟨P.l,0,none⟩),.agg #[U key.1,U key.2],.agg #[W n.epoch,W n.slot,U n.version],vh,vd] w fun e w'=>∃ u col',e = .returned (.tuple #[.agg #[u,U (x.l.sealP key n head data).2.1,U (x.l.sealP key n head data).2.2],.bool true]) ∧ w'.ownsRow w.heap.size 5 1 u data.length (qA1 (x.l.sealP key n head data).1) ∧ (∀ g,u.ownBlock = some g → col' g = 0) ∧ qAS col' w' P (x.setL (x.l.sealL key n head data)) ∧ Ext 6 col col' w w':=by
 refine (qMJ col P.l x.l key n vh vd head data (Lk.few_mono f.few hm) hlh hld w h.lock h.top sh sd).mono ?_
 rintro e w' ⟨u,col',rfl,ho,hc,hl,o⟩
 exact ⟨u,col',rfl,ho,hc,h.stepL hl o⟩
theorem qML (h : qAS col w P x) (f : x.fine m) (hm : m ≤ 100000) (key tag : qAB) (n : Nn) (vh vo : Value) (head out : List UInt8) (hlh : head.length ≤ 4000) (hlo : out.length ≤ 4000) (sh : Sl w vh head.length (qA1 head)) (so : Sl w vo out.length (qA1 out)) :
 Calls prog 141 #[.pointer (some ⟨P.l,0,none⟩),.agg #[U key.1,U key.2],.agg #[W n.epoch,W n.slot,U n.version],vh,.agg #[vo,U tag.1,U tag.2]] w fun e w'=>∃ u,e = .returned (.tuple #[u,.bool (x.l.openP key n head out tag).isSome]) ∧ (∀ d,x.l.openP key n head out tag = some d → w'.ownsRow w.heap.size 5 1 u d.length (qA1 d)) ∧ qA4 w w' :=
 qMK col P.l x.l key tag n vh vo head out (Lk.few_mono f.few hm) f.dat hlh hlo w h.lock sh so
theorem qR4 {n : Nat} {y : Wr} (h : inB n y) : y.2.length ≤ n:=by have:=h.2.2;omega
theorem qMM {p : Pw} {m n : Nat} (h : p.ok (m : Int)) (hm : m ≤ n) : p.ok (n : Int):=⟨h.1,by have:=h.2.1;omega,h.2.2⟩
theorem qBZ {p : Pw} {m : Nat} (h : p.ok (m : Int)) : p.spend.2.ok ((m + 1 : Nat) : Int):=by
 have:=qHd h
 exact_mod_cast this
theorem Sd.ok.z_wrote {s : Sd} {n m : Nat} (h : s.ok n m) (hn : n ≤ 60000) (r : Bool) {p' : Pw} (hp : p'.ok ((m + 1 : Nat) : Int)) {y : Wr} (hy : inB n y) : (s.wrote r p' y).ok n (m + 1):=by
 unfold Sd.wrote
 cases r
 · exact ⟨h.len,h.fit,h.fitp,Nat.le_succ_of_le h.few,Nat.le_succ_of_le h.done,hp⟩
 · refine ⟨h.len,fun z hz=>?_,fun z hz=>?_,?_,?_,hp⟩
   · rcases List.mem_append.1 hz with hz | hz
     · exact h.fit z hz
     · rw [List.mem_singleton.1 hz];exact hy
   · rcases List.mem_append.1 hz with hz | hz
     · exact h.fitp z hz
     · rw [List.mem_singleton.1 hz];have:=qR4 hy;omega
   · have:=h.few;simp;omega
   · have:=h.done;simp;omega
theorem Sd.ok.z_barred {s : Sd} {n m : Nat} (h : s.ok n m) (r : Bool) {p' : Pw} (hp : p'.ok ((m + 1 : Nat) : Int)) : (s.barred r p').ok n (m + 1):=by
 unfold Sd.barred
 cases r
 · exact ⟨h.len,h.fit,h.fitp,Nat.le_succ_of_le h.few,Nat.le_succ_of_le h.done,hp⟩
 · refine ⟨Sd.snap_length h,by simp,fun z hz=>?_,by simp,?_,hp⟩
   · rcases List.mem_append.1 hz with hz | hz
     · exact h.fitp z hz
     · rw [List.mem_singleton.1 hz];decide
   · have:=h.done;simp;omega
theorem Sd.ok.z_pw {s : Sd} {n m : Nat} (h : s.ok n m) {p' : Pw} {k : Nat} (hk : m ≤ k) (hp : p'.ok (k : Int)) : ({ s with p:=p' } : Sd).ok n k:=⟨h.len,h.fit,h.fitp,Nat.le_trans h.few hk,Nat.le_trans h.done hk,hp⟩
theorem Dk.ok.z_pw {d : Dk} {m : Nat} (h : d.ok m) {p' : Pw} {k : Nat} (hk : m ≤ k) (hp : p'.ok (k : Int)) : ({ d with p:=p' } : Dk).ok k:=⟨h.len,h.all,h.fit,h.fitp,Nat.le_trans h.few hk,Nat.le_trans h.done hk,hp⟩
theorem Dk.ok.z_wrote {d : Dk} {m : Nat} (h : d.ok m) (r : Bool) {p' : Pw} (hp : p'.ok ((m + 1 : Nat) : Int)) {y : Wr} (hy : inD y) : (d.wrote r p' y).ok (m + 1):=by
 unfold Dk.wrote
 cases r
 · exact h.z_pw (Nat.le_succ _) hp
 · refine ⟨h.len,h.all,fun z hz=>?_,fun z hz=>?_,?_,?_,hp⟩
   · rcases List.mem_append.1 hz with hz | hz
     · exact h.fit z hz
     · rw [List.mem_singleton.1 hz];exact hy
   · rcases List.mem_append.1 hz with hz | hz
     · exact h.fitp z hz
     · rw [List.mem_singleton.1 hz];have:=hy.2.2;omega
   · have:=h.few;simp;omega
   · have:=h.done;simp;omega
theorem Dk.ok.z_barred {d : Dk} {m : Nat} (h : d.ok m) (r : Bool) {p' : Pw} (hp : p'.ok ((m + 1 : Nat) : Int)) : (d.barred r p').ok (m + 1):=by
 unfold Dk.barred
 cases r
 · exact h.z_pw (Nat.le_succ _) hp
 · have hs:=Dk.settled_ok (h.z_pw (Nat.le_succ m) hp) (fun _=>true)
   refine ⟨hs.len,hs.all,hs.fit,fun z hz=>?_,hs.few,?_,hp⟩
   · rcases List.mem_append.1 hz with hz | hz
     · exact h.fitp z hz
     · rw [List.mem_singleton.1 hz];decide
   · have:=h.done;simp;omega
theorem Wd.fine.up (f : x.fine m) {k : Nat} (hk : m ≤ k) : x.fine k :=
 ⟨⟨f.ok.sl,f.ok.s.z_pw hk (qMM f.ok.s.pw hk),f.ok.d.z_pw hk (qMM f.ok.s.pw hk),f.ok.ep,by have:=f.ok.el;omega,f.ok.er,by have:=f.ok.en;omega,Nat.le_trans f.ok.cv hk,Nat.le_trans f.ok.cb hk⟩,Lk.few_mono f.few hk,f.dat⟩
theorem Wd.fine.setS (f : x.fine m) {s : Sd} (hs : s.ok (gSize x.n) (m + 1)) : (x.setS s).fine (m + 1) :=
 ⟨⟨f.ok.sl,hs,f.ok.d.z_pw (Nat.le_succ _) hs.pw,f.ok.ep,by have:=f.ok.el;show x.eps.length ≤ _;omega,f.ok.er,by have:=f.ok.en;show (qAi x.eps).toNat ≤ _;omega,Nat.le_succ_of_le f.ok.cv,Nat.le_succ_of_le f.ok.cb⟩,Lk.few_mono f.few (Nat.le_succ _),f.dat⟩
theorem Wd.fine.setD (f : x.fine m) {d : Dk} (hd : d.ok (m + 1)) : (x.setD d).fine (m + 1) :=
 ⟨⟨f.ok.sl,f.ok.s.z_pw (Nat.le_succ _) hd.pw,hd,f.ok.ep,by have:=f.ok.el;show x.eps.length ≤ _;omega,f.ok.er,by have:=f.ok.en;show (qAi x.eps).toNat ≤ _;omega,Nat.le_succ_of_le f.ok.cv,Nat.le_succ_of_le f.ok.cb⟩,Lk.few_mono f.few (Nat.le_succ _),f.dat⟩
theorem Wd.fine.setL (f : x.fine m) {l : Lk} (h1 : l.few (m + 1)) (h2 : l.dataOk) : (x.setL l).fine (m + 1) :=
 have g:=f.up (Nat.le_succ m)
 ⟨⟨g.ok.sl,g.ok.s,g.ok.d,g.ok.ep,g.ok.el,g.ok.er,g.ok.en,g.ok.cv,g.ok.cb⟩,h1,h2⟩
theorem Wd.fine.sWrite (f : x.fine m) {y : Wr} (hy : inB (gSize x.n) y) : (x.sWrite y).fine (m + 1) :=
 f.setS (f.ok.s.z_wrote f.ok.size.2 _ (qBZ f.ok.s.pw) hy)
theorem Wd.fine.sBarrier (f : x.fine m) : x.sBarrier.fine (m + 1):=f.setS (f.ok.s.z_barred _ (qBZ f.ok.s.pw))
theorem Wd.fine.dWrite (f : x.fine m) {y : Wr} (hy : inD y) : (x.dWrite y).fine (m + 1):=f.setD (f.ok.d.z_wrote _ (qBZ f.ok.s.pw) hy)
theorem Wd.fine.dBarrier (f : x.fine m) : x.dBarrier.fine (m + 1):=f.setD (f.ok.d.z_barred _ (qBZ f.ok.s.pw))
theorem Wd.fine.seal (f : x.fine m) (key : qAB) (n : Nn) (head data : List UInt8) (hd : data.length ≤ 4000) : (x.setL (x.l.sealL key n head data)).fine (m + 1):=f.setL (Lk.few_seal f.few ..) (Lk.dat_seal f.dat _ _ _ _ hd)
theorem Wd.fine.setP (f : x.fine m) {p : Pw} (hp : p.ok ((m + 1 : Nat) : Int)) : (x.setP p).fine (m + 1) :=
 ⟨⟨f.ok.sl,f.ok.s.z_pw (Nat.le_succ _) hp,f.ok.d.z_pw (Nat.le_succ _) hp,f.ok.ep,by have:=f.ok.el;show x.eps.length ≤ _;omega,f.ok.er,by have:=f.ok.en;show (qAi x.eps).toNat ≤ _;omega,Nat.le_succ_of_le f.ok.cv,Nat.le_succ_of_le f.ok.cb⟩,Lk.few_mono f.few (Nat.le_succ _),f.dat⟩
theorem Wd.fine.setC (f : x.fine m) {p : Pw} {c : Cn} (hp : p.ok ((m + 1 : Nat) : Int)) (h1 : c.value.toNat ≤ m + 1) (h2 : c.boots.toNat ≤ m + 1) : (x.setC p c).fine (m + 1) :=
 ⟨⟨f.ok.sl,f.ok.s.z_pw (Nat.le_succ _) hp,f.ok.d.z_pw (Nat.le_succ _) hp,f.ok.ep,by have:=f.ok.el;show x.eps.length ≤ _;omega,f.ok.er,by have:=f.ok.en;show (qAi x.eps).toNat ≤ _;omega,h1,h2⟩,Lk.few_mono f.few (Nat.le_succ _),f.dat⟩
theorem qEz {v : BitVec 64} {m : Nat} (h : v.toNat ≤ m) : (v + 1#64).toNat ≤ m + 1:=by
 rw [BitVec.toNat_add]
 exact Nat.le_trans (Nat.mod_le _ _) (by simp;omega)
theorem Wd.fine.bump (f : x.fine m) : x.bump.fine (m + 1):=by
 unfold Wd.bump
 cases x.p.spend.1
 · exact f.setC (qBZ f.ok.s.pw) (Nat.le_succ_of_le f.ok.cv) (Nat.le_succ_of_le f.ok.cb)
 · exact f.setC (qBZ f.ok.s.pw) (qEz f.ok.cv) (Nat.le_succ_of_le f.ok.cb)
theorem Wd.fine.boot (f : x.fine m) : x.boot.fine (m + 1):=by
 unfold Wd.boot
 cases x.p.spend.1
 · exact f.setC (qBZ f.ok.s.pw) (Nat.le_succ_of_le f.ok.cv) (Nat.le_succ_of_le f.ok.cb)
 · exact f.setC (qBZ f.ok.s.pw) (Nat.le_succ_of_le f.ok.cv) (qEz f.ok.cb)
theorem Wd.fine.kAdd (f : x.fine m) (hm : m ≤ 1000000) : x.kAdd.fine (m + 1):=by
 have hp:=qBZ f.ok.s.pw
 have g:=f.setP hp
 unfold Wd.kAdd qMl
 cases x.p.spend.1
 · exact ⟨⟨g.ok.sl,g.ok.s,g.ok.d,g.ok.ep,g.ok.el,g.ok.er,g.ok.en,g.ok.cv,g.ok.cb⟩,g.few,g.dat⟩
 · have h1 : (qAi x.eps + 1#32).toNat = (qAi x.eps).toNat + 1:=by
    have:=f.ok.en
    rw [BitVec.toNat_add]
    show ((qAi x.eps).toNat + 1) % 4294967296 = _
    omega
   refine ⟨⟨g.ok.sl,g.ok.s,g.ok.d,?_,?_,?_,?_,g.ok.cv,g.ok.cb⟩,g.few,g.dat⟩
   · show 0 < (x.eps ++ [_]).length;simp
   · show (x.eps ++ [_]).length ≤ _;have:=f.ok.el;simp;omega
   · exact qJ5 f.ok.er f.ok.ep _ (by rw [BitVec.lt_def,h1];omega)
   · show (qAi (x.eps ++ [_])).toNat ≤ _;rw [qEO,h1];have:=f.ok.en;omega
theorem Wd.fine.kErase (f : x.fine m) (b : BitVec 32) : (x.kErase b).fine (m + 1):=by
 have hp:=qBZ f.ok.s.pw
 have g:=f.setP hp
 unfold Wd.kErase qPO
 cases x.p.spend.1
 · exact ⟨⟨g.ok.sl,g.ok.s,g.ok.d,g.ok.ep,g.ok.el,g.ok.er,g.ok.en,g.ok.cv,g.ok.cb⟩,g.few,g.dat⟩
 · have h1:=qEP x.eps b f.ok.ep
   refine ⟨⟨g.ok.sl,g.ok.s,g.ok.d,h1.1,?_,qHc f.ok.er b,?_,g.ok.cv,g.ok.cb⟩,g.few,g.dat⟩
   · have:=f.ok.el;exact Nat.le_trans (List.length_filter_le _ _) (by omega)
   · show (qAi (qDX x.eps b)).toNat ≤ _;rw [h1.2];have:=f.ok.en;omega
theorem Wd.fine.sCrash (f : x.fine m) (ks : List Bool) : (x.sCrash ks).fine (m + 1):=by
 have h:=f.ok.s
 refine f.setS ⟨(qCx _ _ _ (fun y hy=>by rw [h.len];exact h.fit y hy) _ qle).trans h.len,by simp,h.fitp,by simp,Nat.le_succ_of_le h.done,qMM h.pw (Nat.le_succ _)⟩
theorem Wd.fine.dCrash (f : x.fine m) (ks : List Bool) : (x.dCrash ks).fine (m + 1) :=
 f.setD (Dk.settled_ok (f.ok.d.z_pw (Nat.le_succ m) (qMM f.ok.s.pw (Nat.le_succ _))) _)
theorem Wd.fine.dRefuse (f : x.fine m) (q : Bool) : (x.dRefuse q).fine (m + 1):=by
 have h:=f.ok.d.z_pw (Nat.le_succ m) (qMM f.ok.s.pw (Nat.le_succ m))
 exact f.setD ⟨h.len,h.all,h.fit,h.fitp,h.few,h.done,h.pw⟩
end
theorem qRP {w : World} {g : Nat} {t : TypeId} {u1 u2 : Value} {b1 b2 : List UInt8} (h : Blk w g #[u1,u2] t) (s1 : Sl w u1 b1.length (qA1 b1)) (s2 : Sl w u2 b2.length (qA1 b2)) : qBE w (.slice (some ⟨g,0,none⟩) 2 2) [b1,b2]:=by
 refine ⟨[u1,u2],rfl,Sl.mk qle (by decide) fun j u hj=>?_,fun i bs u hb hu=>?_⟩
 · rw [Nat.zero_add,h.cell j]
   simpa using hj
 · match i with
   | 0=>cases hb;cases hu;exact s1
   | 1=>cases hb;cases hu;exact s2
   | i + 2=>simp at hb
theorem qRQ {w : World} {g : Nat} {t : TypeId} {u1 u2 u3 : Value} {b1 b2 b3 : List UInt8} (h : Blk w g #[u1,u2,u3] t) (s1 : Sl w u1 b1.length (qA1 b1)) (s2 : Sl w u2 b2.length (qA1 b2)) (s3 : Sl w u3 b3.length (qA1 b3)) : qBE w (.slice (some ⟨g,0,none⟩) 3 3) [b1,b2,b3]:=by
 refine ⟨[u1,u2,u3],rfl,Sl.mk qle (by decide) fun j u hj=>?_,fun i bs u hb hu=>?_⟩
 · rw [Nat.zero_add,h.cell j]
   simpa using hj
 · match i with
   | 0=>cases hb;cases hu;exact s1
   | 1=>cases hb;cases hu;exact s2
   | 2=>cases hb;cases hu;exact s3
   | i + 3=>simp at hb
theorem qMN {w : World} {g : Nat} {b : UInt8} (h : Blk w g #[V8 b] 5) : Sl w (.slice (some ⟨g,0,none⟩) 1 1) ([b] : List UInt8).length (qA1 [b]):=by
 refine Sl.mk qle (by decide) fun j u hj=>?_
 rw [Nat.zero_add,h.cell j]
 simpa [qA1] using hj
theorem qOE (col : Nat → Nat) (L : Nat) (l : Lk) (v : Value) (bs : List UInt8) (hl : bs.length ≤ 1000) (hf : l.few 1000000) (w : World) (h : LkC col w L l) (ht : Top col w) (hs : Sl w v bs.length (qA1 bs)) :
 Calls prog 143 #[.pointer (some ⟨L,0,none⟩),v] w fun e w'=>e = .returned (Pr (l.sumP (0 :: bs))) ∧ LkC col w' L (l.sumL (0 :: bs)) ∧ One 5 col col w w':=by
 obtain ⟨a,c,rfl⟩:=hs.len
 obtain ⟨w3,hw3⟩ : ∃ w3,w3 = (((w.alloc (.cells #[U 0#64,U 0#64] 115)).alloc (.cells #[V8 0] 5)).alloc (.cells #[.slice (some ⟨w.heap.size + 1,0,none⟩) 1 1,.slice a bs.length c] 32)):=⟨_,rfl⟩
 have hk3 : qA4 w w3:=by rw [hw3];exact ((qal _).alloc (by simp) _).alloc (by simp;omega) _
 have bZ : Blk w3 w.heap.size #[U 0#64,U 0#64] 115:=by rw [hw3];exact ((Blk.new w _ _).alloc _).alloc _
 have bB : Blk w3 (w.heap.size + 1) #[V8 0] 5:=by
  rw [hw3]
  have:=Blk.new (w.alloc (.cells #[U 0#64,U 0#64] 115)) #[V8 0] 5
  rw [World.size_alloc] at this
  exact this.alloc _
 have bR : Blk w3 (w.heap.size + 1 + 1) #[.slice (some ⟨w.heap.size + 1,0,none⟩) 1 1,.slice a bs.length c] 32:=by
  rw [hw3]
  have:=Blk.new ((w.alloc (.cells #[U 0#64,U 0#64] 115)).alloc (.cells #[V8 0] 5)) #[.slice (some ⟨w.heap.size + 1,0,none⟩) 1 1,.slice a bs.length c] 32
  rw [World.size_alloc,World.size_alloc] at this
  exact this
 have hR:=qRP bR (qMN bB) (hs.kept hk3)
 have CC:=qKm col L l _ [[0],bs] (by simp) (by simp;omega) hf w3 (h.frame (qAZ.kept hk3 5)) (fun k hk=>ht k (Nat.le_trans hk3.size hk)) hR
 rw [show ([[0],bs] : List (List UInt8)).flatten = 0 :: bs by simp] at CC
 obtain ⟨s,hsm⟩ : ∃ s,s = l.sumP (0 :: bs):=⟨_,rfl⟩
 rw [← hsm] at CC ⊢
 obtain ⟨s1,s2⟩:=s
 have hlb : bs.length ≤ maxLen:=by unfold maxLen;omega
 clear hsm
 go_enter func143,ntmps143
 go_wp2_with fail
 rw [← hw3]
 clear hw3
 refine CC.mono ?_
 rintro e w4 ⟨rfl,hL,ks,hc,h5⟩
 have hZ : Blk w4 w.heap.size #[U 0#64,U 0#64] 115:=hc.blk bZ fun hm=>by have:=h5 _ hm;rw [ht _ qle] at this;cases this
 have y0:=hZ.free 0
 have y1:=hZ.free 1
 have x0:=hZ.cell 0
 have x1:=hZ.cell 1
 unfold Pr
 go_wp2
 have bF:=(hZ.set 0 (U s1)).set 1 (U s2)
 have r0:=bF.cell 0
 have r1:=bF.cell 1
 have hcF : Chg [w.heap.size] w4 ((w4.setCell ⟨w.heap.size,0,none⟩ (U s1)).setCell ⟨w.heap.size,1,none⟩ (U s2)):=((Chg.refl _ _).set qsm 0 _).set qsm 1 _
 generalize ((w4.setCell ⟨w.heap.size,0,none⟩ (U s1)).setCell ⟨w.heap.size,1,none⟩ (U s2)) = w5 at *
 have hz:=hk3.size
 refine bodyPost_ret (v:=.agg #[U s1,U s2]) (by simp [results,results143,go_sem,r0,r1];try exact ⟨rfl,rfl⟩) rfl ⟨rfl,?_,?_⟩
 · exact hL.frame (qAZ.chg (col:=col) hcF (i:=5) (by intro b hb;rw [List.mem_singleton] at hb;subst hb;rw [ht _ qle];decide))
 · have o1 : One 5 col col w w3:=One.kept ht hk3
   exact (o1.trans (One.chg o1.top hc h5)).newset hcF qle
theorem qBW {P : Program} {ops : Array Oper} {Q : Exit → Act → World → Prop} {id : Nat} {a : Act} {w : World} (R : World → World → Prop) (L : List (Nat × Nat)) (l : qGs) (hm : P.follows .mixedOrders = true)
 (hB : (Region.noSelect ops && decide (l.size = ops.size) && qEg .any ops L l (Array.replicate ops.size false)) = true)
 (hr0 : ∀ w : World,R w w) (ht : ∀ a b c : World,R a b → R b c → R a c)
 (h : ∀ w0,qA4 w w0 → qBB P ops R Q l a w0) : (Code.region id ops true).wp P Q a w :=
 qDW R L l hm hB hr0 ht (h _ (qA4.drawn w))
theorem qOF (col : Nat → Nat) (L : Nat) (l : Lk) (p q : qAB) (hf : l.few 1000000) (w : World) (h : LkC col w L l) (ht : Top col w) :
 Calls prog 144 #[.pointer (some ⟨L,0,none⟩),.agg #[U p.1,U p.2],.agg #[U q.1,U q.2]] w fun e w'=>e = .returned (Pr (l.sumP (1 :: (qAN p ++ qAN q)))) ∧ LkC col w' L (l.sumL (1 :: (qAN p ++ qAN q))) ∧ One 5 col col w w':=by
 obtain ⟨w0,hw0⟩ : ∃ w0,w0 = (((w.alloc (.cells #[U p.1,U p.2] 115)).alloc (.cells #[U q.1,U q.2] 115)).alloc (.cells #[U 0#64,U 0#64] 115)):=⟨_,rfl⟩
 have hk0 : qA4 w w0:=by rw [hw0];exact ((qal _).alloc (by simp) _).alloc (by simp;omega) _
 have bP : Blk w0 w.heap.size #[U p.1,U p.2] 115:=by rw [hw0];exact ((Blk.new w _ _).alloc _).alloc _
 have bQ : Blk w0 (w.heap.size + 1) #[U q.1,U q.2] 115:=by
  rw [hw0]
  have:=Blk.new (w.alloc (.cells #[U p.1,U p.2] 115)) #[U q.1,U q.2] 115
  rw [World.size_alloc] at this
  exact this.alloc _
 have bZ : Blk w0 (w.heap.size + 1 + 1) #[U 0#64,U 0#64] 115:=by
  rw [hw0]
  have:=Blk.new ((w.alloc (.cells #[U p.1,U p.2] 115)).alloc (.cells #[U q.1,U q.2] 115)) #[U 0#64,U 0#64] 115
  rw [World.size_alloc,World.size_alloc] at this
  exact this
 obtain ⟨s,hsm⟩ : ∃ s,s = l.sumP (1 :: (qAN p ++ qAN q)):=⟨_,rfl⟩
 have HS:=qh hsm
 rw [← hsm]
 clear hsm
 obtain ⟨s1,s2⟩:=s
 go_enter func144,ntmps144
 go_wp2_with fail
 rw [← hw0]
 clear hw0
 refine qBW (qA8 (fun k=>k = w.heap.size ∨ k = w.heap.size + 1)) [(0,0),(2,0),(4,0)] (.light 0 (.light 2 (.light 4 (.two 1 3 (.heavy 3 (.heavy 5 (.heavy 6 (.heavy 7 (.heavy 8 .nil))))) (.two 1 5 (.heavy 5 (.heavy 6 (.heavy 7 (.heavy 8 .nil)))) (.heavy 1 (.heavy 6 (.heavy 7 (.heavy 8 .nil))))))))) (by kernel_rfl) (by kernel_rfl) (fun _=>qA8.refl _) (fun _ _ _ h1 h2=>h1.trans h2) ?_
 intro y0 hy0
 have hkS : qA4 w0 y0:=hy0
 refine qA2 _ rfl (fun J hJ=>?_)
 refine qqP (by rfl) ?_;apply Exists.intro;refine ⟨fun w' hw'=>?_,hJ _ ?_⟩
 · go_simp;first|done|rfl
 clear hJ J;simp only [Act.put,qqB]
 refine qA2 _ rfl (fun J hJ=>?_)
 refine qqP (by rfl) ?_;apply Exists.intro;refine ⟨fun w' hw'=>?_,hJ _ ?_⟩
 · have c:=bP.kept hy0;have d0:=(hw'.block _ c.lt (.inl rfl)).trans c;have c0:=Blk.cell d0 0;have c1:=Blk.cell d0 1;clear c d0;go_simp;first|done|rfl
 clear hJ J;simp only [Act.put,qqB]
 refine qA2 _ rfl (fun J hJ=>?_)
 refine qqP (by rfl) ?_;apply Exists.intro;refine ⟨fun w' hw'=>?_,hJ _ ?_⟩
 · have c:=bQ.kept hy0;have d0:=(hw'.block _ c.lt (.inr rfl)).trans c;have c0:=Blk.cell d0 0;have c1:=Blk.cell d0 1;clear c d0;go_simp;first|done|rfl
 clear hJ J;simp only [Act.put,qqB]
 refine qBY ?_ ?_
 focus
  refine qAa _ rfl (fun J hJ=>?_)
  refine qqP (by rfl) ?_
  have kz : qA4 y0 (y0.alloc (.cells #[V8 1] 5)):=qal _
  have bB:=Blk.new y0 #[V8 1] 5
  replace hkS:=qA4.of hkS kz
  obtain ⟨gb,hgb⟩ : ∃ g,g = y0.heap.size:=⟨_,rfl⟩
  rw [← hgb] at bB
  go_wp2
  refine hJ _ _ (qA8.of_kept kz) ?_
  clear hJ J
  try simp only [Act.put,qqB]
  rw [← hgb]
  generalize (y0.alloc (.cells #[V8 1] 5)) = y1 at *
  clear kz hgb
  refine qAa _ rfl (fun J hJ=>?_)
  refine qqP (by rfl) ?_
  go_wp2_with fail
  refine (qBl p.1 p.2 _).mono ?_
  rintro e y2 ⟨r,rfl,o1,kz⟩
  obtain ⟨a1,c1,rfl⟩:=(Sl.of_own o1).len
  replace o1:=qAg o1 (Nat.zero_le _)
  replace bB:=Blk.kept bB kz
  replace hkS:=qA4.of hkS kz
  go_wp2
  refine hJ _ _ (qA8.of_kept kz) ?_
  clear hJ J
  try simp only [Act.put,qqB]
  clear kz
  refine qAa _ rfl (fun J hJ=>?_)
  refine qqP (by rfl) ?_
  go_wp2_with fail
  refine (qBl q.1 q.2 _).mono ?_
  rintro e y3 ⟨r,rfl,o2,kz⟩
  obtain ⟨a2,c2,rfl⟩:=(Sl.of_own o2).len
  replace o2:=qAg o2 (Nat.zero_le _)
  replace bB:=Blk.kept bB kz
  replace o1:=qA3 o1 kz
  replace hkS:=qA4.of hkS kz
  go_wp2
  refine hJ _ _ (qA8.of_kept kz) ?_
  clear hJ J
  try simp only [Act.put,qqB]
  clear kz
  refine qAa _ rfl (fun J hJ=>?_)
  refine qqP (by rfl) ?_
  have kz : qA4 y3 (y3.alloc (.cells #[.slice (some ⟨gb,0,none⟩) 1 1,.slice a1 16 c1,.slice a2 16 c2] 32)):=qal _
  have bR:=Blk.new y3 #[.slice (some ⟨gb,0,none⟩) 1 1,.slice a1 16 c1,.slice a2 16 c2] 32
  replace bB:=Blk.kept bB kz
  replace o1:=qA3 o1 kz
  replace o2:=qA3 o2 kz
 rotate_left
 focus
  refine qAa _ rfl (fun J hJ=>?_)
  refine qqP (by rfl) ?_
  go_wp2_with fail
  refine (qBl p.1 p.2 _).mono ?_
  rintro e y1 ⟨r,rfl,o1,kz⟩
  obtain ⟨a1,c1,rfl⟩:=(Sl.of_own o1).len
  replace o1:=qAg o1 (Nat.zero_le _)
  replace hkS:=qA4.of hkS kz
  go_wp2
  refine hJ _ _ (qA8.of_kept kz) ?_
  clear hJ J
  try simp only [Act.put,qqB]
  clear kz
  refine qBY ?_ ?_
  focus
   refine qAa _ rfl (fun J hJ=>?_)
   refine qqP (by rfl) ?_
   have kz : qA4 y1 (y1.alloc (.cells #[V8 1] 5)):=qal _
   have bB:=Blk.new y1 #[V8 1] 5
   replace o1:=qA3 o1 kz
   replace hkS:=qA4.of hkS kz
   obtain ⟨gb,hgb⟩ : ∃ g,g = y1.heap.size:=⟨_,rfl⟩
   rw [← hgb] at bB
   go_wp2
   refine hJ _ _ (qA8.of_kept kz) ?_
   clear hJ J
   try simp only [Act.put,qqB]
   rw [← hgb]
   generalize (y1.alloc (.cells #[V8 1] 5)) = y2 at *
   clear kz hgb
   refine qAa _ rfl (fun J hJ=>?_)
   refine qqP (by rfl) ?_
   go_wp2_with fail
   refine (qBl q.1 q.2 _).mono ?_
   rintro e y3 ⟨r,rfl,o2,kz⟩
   obtain ⟨a2,c2,rfl⟩:=(Sl.of_own o2).len
   replace o2:=qAg o2 (Nat.zero_le _)
   replace o1:=qA3 o1 kz
   replace bB:=Blk.kept bB kz
   replace hkS:=qA4.of hkS kz
   go_wp2
   refine hJ _ _ (qA8.of_kept kz) ?_
   clear hJ J
   try simp only [Act.put,qqB]
   clear kz
   refine qAa _ rfl (fun J hJ=>?_)
   refine qqP (by rfl) ?_
   have kz : qA4 y3 (y3.alloc (.cells #[.slice (some ⟨gb,0,none⟩) 1 1,.slice a1 16 c1,.slice a2 16 c2] 32)):=qal _
   have bR:=Blk.new y3 #[.slice (some ⟨gb,0,none⟩) 1 1,.slice a1 16 c1,.slice a2 16 c2] 32
   replace o1:=qA3 o1 kz
   replace bB:=Blk.kept bB kz
   replace o2:=qA3 o2 kz
  rotate_left
  focus
   refine qAa _ rfl (fun J hJ=>?_)
   refine qqP (by rfl) ?_
   go_wp2_with fail
   refine (qBl q.1 q.2 _).mono ?_
   rintro e y2 ⟨r,rfl,o2,kz⟩
   obtain ⟨a2,c2,rfl⟩:=(Sl.of_own o2).len
   replace o2:=qAg o2 (Nat.zero_le _)
   replace o1:=qA3 o1 kz
   replace hkS:=qA4.of hkS kz
   go_wp2
   refine hJ _ _ (qA8.of_kept kz) ?_
   clear hJ J
   try simp only [Act.put,qqB]
   clear kz
   refine qAa _ rfl (fun J hJ=>?_)
   refine qqP (by rfl) ?_
   have kz : qA4 y2 (y2.alloc (.cells #[V8 1] 5)):=qal _
   have bB:=Blk.new y2 #[V8 1] 5
   replace o1:=qA3 o1 kz
   replace o2:=qA3 o2 kz
   replace hkS:=qA4.of hkS kz
   obtain ⟨gb,hgb⟩ : ∃ g,g = y2.heap.size:=⟨_,rfl⟩
   rw [← hgb] at bB
   go_wp2
   refine hJ _ _ (qA8.of_kept kz) ?_
   clear hJ J
   try simp only [Act.put,qqB]
   rw [← hgb]
   generalize (y2.alloc (.cells #[V8 1] 5)) = y3 at *
   clear kz hgb
   refine qAa _ rfl (fun J hJ=>?_)
   refine qqP (by rfl) ?_
   have kz : qA4 y3 (y3.alloc (.cells #[.slice (some ⟨gb,0,none⟩) 1 1,.slice a1 16 c1,.slice a2 16 c2] 32)):=qal _
   have bR:=Blk.new y3 #[.slice (some ⟨gb,0,none⟩) 1 1,.slice a1 16 c1,.slice a2 16 c2] 32
   replace o1:=qA3 o1 kz
   replace o2:=qA3 o2 kz
   replace bB:=Blk.kept bB kz
 all_goals
  replace hkS:=qA4.of hkS kz
  obtain ⟨gr,hgr⟩ : ∃ g,g = y3.heap.size:=⟨_,rfl⟩
  rw [← hgr] at bR
  go_wp2
  refine hJ _ _ (qA8.of_kept kz) ?_
  clear hJ J
  try simp only [Act.put,qqB]
  rw [← hgr]
  generalize (y3.alloc (.cells #[.slice (some ⟨gb,0,none⟩) 1 1,.slice a1 16 c1,.slice a2 16 c2] 32)) = z0 at *
  clear kz hgr
  refine qAa _ rfl (fun J hJ=>?_)
  refine qqP (by rfl) ?_
  have hR:=qRQ bR (qMN bB) (show Sl z0 (.slice a1 16 c1) (qAN p).length (qA1 (qAN p)) from by rw [qAr];exact Sl.of_own o1) (show Sl z0 (.slice a2 16 c2) (qAN q).length (qA1 (qAN q)) from by rw [qAr];exact Sl.of_own o2)
  have hkw:=hk0.of hkS
  have CC:=qKm col L l _ [[1],qAN p,qAN q] (by simp) (by simp [qAr]) hf z0 (h.frame (qAZ.kept hkw 5)) (fun k hk=>ht k (Nat.le_trans hkw.size hk)) hR
  rw [show ([[1],qAN p,qAN q] : List (List UInt8)).flatten = 1 :: (qAN p ++ qAN q) by simp,← HS.out] at CC
  go_wp2_with fail
  refine CC.mono ?_
  rintro e z1 ⟨rfl,hL,ks,hc,h5⟩
  have hsz:=hkw.size
  have hZ : Blk z1 (w.heap.size + 1 + 1) #[U 0#64,U 0#64] 115:=hc.blk (bZ.kept hkS) fun hm=>by have:=h5 _ hm;rw [ht _ (by omega)] at this;cases this
  unfold Pr
  go_wp2
  refine hJ _ _ (qA8.of_chg hc fun b hb hA=>by have:=h5 b hb;rw [ht b (by rcases hA with rfl | rfl <;> omega)] at this;cases this) ?_
  clear hJ J
  try simp only [Act.put,qqB]
  refine qAa _ rfl (fun J hJ=>?_)
  refine qqP (by rfl) ?_
  have y0:=hZ.free 0
  have y1:=hZ.free 1
  have x0:=hZ.cell 0
  have x1:=hZ.cell 1
  have hcF : Chg [w.heap.size + 1 + 1] z1 ((z1.setCell ⟨w.heap.size + 1 + 1,0,none⟩ (U s1)).setCell ⟨w.heap.size + 1 + 1,1,none⟩ (U s2)):=((Chg.refl _ _).set qsm 0 _).set qsm 1 _
  have bF:=(hZ.set 0 (U s1)).set 1 (U s2)
  go_wp2
  refine hJ _ _ (qA8.of_chg hcF fun b hb hA=>by rw [List.mem_singleton] at hb;subst hb;rcases hA with hA | hA <;> omega) ?_
  clear hJ J
  try simp only [Act.put,qqB]
  have r0:=bF.cell 0
  have r1:=bF.cell 1
  clear x0 x1 y0 y1
  generalize ((z1.setCell ⟨w.heap.size + 1 + 1,0,none⟩ (U s1)).setCell ⟨w.heap.size + 1 + 1,1,none⟩ (U s2)) = z2 at *
  refine qCS ?_
  go_wp2_with fail
  refine bodyPost_ret (v:=.agg #[U s1,U s2]) (by simp [results,results144,go_sem,r0,r1];try exact ⟨rfl,rfl⟩) rfl ⟨rfl,?_,?_⟩
  · exact hL.frame (qAZ.chg (col:=col) hcF (i:=5) (by intro b hb;rw [List.mem_singleton] at hb;subst hb;rw [ht _ (by omega)];decide))
  · have oo : One 5 col col w z0:=One.kept ht hkw
    exact (oo.trans (One.chg oo.top hc h5)).newset hcF (by omega)
def qAA (l : Lk) (rows : List (List UInt8)) : Nat → List qAB × Lk
 | 0=>(List.replicate (2 * rows.length) (0#64,0#64),l)
 | i + 1=>((qAA l rows i).1.set (rows.length + i) ((qAA l rows i).2.sumP (0 :: rows[i]?.getD [])),(qAA l rows i).2.sumL (0 :: rows[i]?.getD []))
def qCo (nd : List qAB) (i : Nat) : List UInt8:=1 :: (qAN (nd[2 * i]?.getD (0#64,0#64)) ++ qAN (nd[2 * i + 1]?.getD (0#64,0#64)))
def qAy (l : Lk) (rows : List (List UInt8)) : Nat → List qAB × Lk
 | 0=>qAA l rows rows.length
 | k + 1=>((qAy l rows k).1.set (rows.length - 1 - k) ((qAy l rows k).2.sumP (qCo (qAy l rows k).1 (rows.length - 1 - k))),(qAy l rows k).2.sumL (qCo (qAy l rows k).1 (rows.length - 1 - k)))
def qAT (l : Lk) (rows : List (List UInt8)) : List qAB × Lk:=qAy l rows (rows.length - 1)
theorem qCE (l : Lk) (rows : List (List UInt8)) : ∀ i,(qAA l rows i).1.length = 2 * rows.length
 | 0=>by simp [qAA]
 | i + 1=>by simp [qAA,qCE l rows i]
theorem qCF (l : Lk) (rows : List (List UInt8)) : ∀ i,(qAy l rows i).1.length = 2 * rows.length
 | 0=>qCE l rows _
 | i + 1=>by simp [qAy,qCF l rows i]
theorem qD1 (l : Lk) (rows : List (List UInt8)) : (qAT l rows).1.length = 2 * rows.length:=qCF l rows _
theorem qE7 {l : Lk} {m : Nat} (h : l.few m) (rows : List (List UInt8)) : ∀ i,(qAA l rows i).2.few (m + i)
 | 0=>h
 | i + 1=>Lk.few_sum (qE7 h rows i) _
theorem qE8 {l : Lk} {m : Nat} (h : l.few m) (rows : List (List UInt8)) : ∀ i,(qAy l rows i).2.few (m + rows.length + i)
 | 0=>qE7 h rows _
 | i + 1=>Lk.few_sum (qE8 h rows i) _
theorem qFW {l : Lk} (h : l.dataOk) (rows : List (List UInt8)) : ∀ i,(qAA l rows i).2.dataOk
 | 0=>h
 | i + 1=>Lk.dat_sum (qFW h rows i) _
theorem qFX {l : Lk} (h : l.dataOk) (rows : List (List UInt8)) : ∀ i,(qAy l rows i).2.dataOk
 | 0=>qFW h rows _
 | i + 1=>Lk.dat_sum (qFX h rows i) _
theorem qGR (l : List qAB) (k : Nat) (p : qAB) (hk : k < l.length) : (((qAz l).toArray.setIfInBounds (k * 2) (U p.1)).setIfInBounds (k * 2 + 1) (U p.2)) = (qAz (l.set k p)).toArray:=by
 apply Array.ext'
 simp only [Array.toList_setIfInBounds]
 induction l generalizing k with
 | nil=>simp at hk
 | cons q l ih =>
  cases k with
  | zero=>simp [qAz]
  | succ k =>
   have:=ih k (by simpa using hk)
   have e : ∀ (q : qAB) (l : List qAB),qAz (q :: l) = U q.1 :: U q.2 :: qAz l:=fun q l=>by simp [qAz]
   rw [e,List.set_cons_succ,e,show (k + 1) * 2 = (k * 2 + 1) + 1 by omega,show (k * 2 + 1) + 1 + 1 = (k * 2 + 1 + 1) + 1 by omega]
   simp only [List.set_cons_succ]
   rw [this]
theorem qCp (l : List qAB) (k : Nat) (hk : k < l.length) : (qAz l).toArray[k * 2]? = some (U (l[k]?.getD (0#64,0#64)).1) ∧ (qAz l).toArray[k * 2 + 1]? = some (U (l[k]?.getD (0#64,0#64)).2):=by
 obtain ⟨h1,h2⟩:=qGB l k hk
 rw [List.getElem?_eq_getElem hk]
 simp only [List.getElem?_toArray,Option.getD_some]
 exact ⟨h1,h2⟩
theorem qIq (n : Nat) : (madeCells #[U 0#64,U 0#64] n).toList = List.replicate n (U 0#64):=by
 apply List.ext_getElem
 · simp [madeCells]
 · intro i h1 h2
   simp only [madeCells,Array.getElem_toList,Array.getElem_map,Array.getElem_range,List.getElem_replicate]
   have : i % 2 = 0 ∨ i % 2 = 1:=by omega
   show (#[U 0#64,U 0#64] : Array Value)[i % 2]! = _
   rcases this with h | h <;> rw [h] <;> rfl
theorem qLl (w : World) (n : Nat) (hn : n ≤ 1000) : (Instr.makeSlice 198 (.int .i64 (n : Int)) (.int .i64 (n : Int))).run prog w = .ok (.slice (some ⟨w.heap.size,0,none⟩) n n) (w.alloc (.cells (qAz (List.replicate n (0#64,0#64))).toArray 115)):=by
 have T : SlT prog 198 115 2 16 (.agg #[U 0#64,U 0#64]):=SlT.mk' underlying198 (by kernel_rfl) rfl (by omega)
 obtain ⟨i,hi,hz,hs,hb⟩:=T.info
 have:=run_make (P:=prog) w 198 115 i _ T.under hi hz .i64 .i64 n n (by omega) (Int.le_refl _) (by rw [hb];omega) (by omega)
 rw [this,hs]
 simp only [Int.toNat_natCast]
 have e : madeCells #[U 0#64,U 0#64] (n * 2) = (qAz (List.replicate n (0#64,0#64))).toArray:=by
  apply Array.ext'
  rw [qIq]
  induction n with
  | zero=>rfl
  | succ k ih =>
   have e : qAz (List.replicate (k + 1) (0#64,0#64)) = U 0#64 :: U 0#64 :: qAz (List.replicate k (0#64,0#64)):=by simp [qAz,List.replicate_succ]
   rw [e,show (k + 1) * 2 = k * 2 + 1 + 1 by omega,List.replicate_succ,List.replicate_succ,ih (by omega)]
   exact run_make (P:=prog) w 198 115 i _ T.under hi hz .i64 .i64 k k (by omega) (Int.le_refl _) (by rw [hb];omega) (by omega)
 rw [← e]
 rfl
theorem qGS (col : Nat → Nat) (L : Nat) (l : Lk) (v : Value) (rows : List (List UInt8)) (hn : qDR (rows.length : Int) = true) (hb : ∀ r ∈ rows,r.length ≤ 1000) (hf : l.few 900000) (w : World) (h : LkC col w L l) (ht : Top col w) (hr : ∀ w',One 5 col col w w' → qBE w' v rows) :
 Calls prog 106 #[.pointer (some ⟨L,0,none⟩),v] w fun e w'=>∃ g,e = .returned (.tuple #[.slice (some ⟨g,0,none⟩) (2 * rows.length) (2 * rows.length),.bool true]) ∧ Blk w' g (qAz (qAT l rows).1).toArray 115 ∧ w.heap.size ≤ g ∧ LkC col w' L (qAT l rows).2 ∧ One 5 col col w w':=by
 have hr0:=hr w (One.kept ht (Below.refl _ _))
 obtain ⟨a,c,rfl⟩ : ∃ a c,v = .slice a rows.length c:=by obtain ⟨us,_,hs,_⟩:=hr0;exact hs.len
 have hn16:=qAm hn
 obtain ⟨N,hN⟩ : ∃ N,N = rows.length:=⟨_,rfl⟩
 rw [← hN] at hn hn16 hr hr0 ⊢
 have HN:=qh hN
 have CG:=fun wx=>qE4 (N : Int) wx
 rw [hn] at CG
 have hmk:=qLl w (2 * N) (by omega)
 rw [show ((2 * N : Nat) : Int) = 2 * (N : Int) by omega] at hmk
 have i1 : (N : Int) ≤ 16:=by omega
 have i2 : (0 : Int) < (N : Int):=by omega
 obtain ⟨b,off,cap,e,_,_,_,_⟩ : ∃ b off cap,(Value.slice a N c) = .slice (some ⟨b,off,none⟩) N cap ∧ N ≤ cap ∧ cap ≤ maxLen ∧ b < w.heap.size ∧ True:=by
  obtain ⟨us,h1,h2,h3⟩:=hr0
  obtain ⟨b,off,cap,e,k1,k2,k3,_⟩:=(show Sl w (.slice a N c) N us from by rw [HN.out];rw [HN.out] at h2;exact h2).at (by rw [h1,← hN];omega)
  exact ⟨b,off,cap,e,k1,k2,k3,trivial⟩
 cases e
 clear hN hr0
 go_enter func106,ntmps106
 go_wp2_with fail
 refine (CG _).mono ?_
 rintro e w1 ⟨rfl,rfl⟩
 have hkA : qA4 w (w.alloc (.cells (qAz (List.replicate (2 * N) (0#64,0#64))).toArray 115)):=qal _
 have hBA:=Blk.new w (qAz (List.replicate (2 * N) (0#64,0#64))).toArray 115
 go_wp2_with fail
 generalize (w.alloc (.cells (qAz (List.replicate (2 * N) (0#64,0#64))).toArray 115)) = wA at *
 go_loopw [21] (fun i wr=>∃ k : Nat,i = .int .i64 k ∧ k ≤ N ∧ One 5 col col w wr ∧ Blk wr w.heap.size (qAz (qAA l rows k).1).toArray 115 ∧ LkC col wr L (qAA l rows k).2) (fun i _=>N - (intOf i).toNat)
 case atStart=>exact ⟨0,rfl,by omega,One.kept ht hkA,by rw [HN.out] at hBA;exact hBA,h.frame (qAZ.kept hkA 5)⟩
 case round =>
  obtain ⟨k,rfl,hk,o1,hB,hL⟩:=hrel
  by_cases hlt : k < N
  · have m1 : (k : Int) < (N : Int):=by omega
    have m2 : (0 : Int) ≤ (k : Int):=by omega
    have hkr : k < rows.length:=by rw [← HN.out];exact hlt
    obtain ⟨us,hul,hs,he⟩:=hr wr o1
    rw [← HN.out] at hs
    have hku : k < us.length:=by rw [hul];exact hkr
    obtain ⟨b',off',cap',e',_,_,hbl,hxc⟩:=hs.at (by omega)
    cases e'
    have c0:=hxc k _ (List.getElem?_eq_getElem hku)
    have hsk:=he k _ _ (List.getElem?_eq_getElem hkr) (List.getElem?_eq_getElem hku)
    obtain ⟨row,hrow⟩ : ∃ r,r = rows[k]:=⟨_,rfl⟩
    have hrb : row.length ≤ 1000:=by rw [hrow];exact hb _ (List.getElem_mem _)
    have hrg : rows[k]?.getD [] = row:=by rw [List.getElem?_eq_getElem hkr,hrow];rfl
    rw [← hrow] at hsk
    obtain ⟨u,hu⟩ : ∃ u,u = us[k]:=⟨_,rfl⟩
    rw [← hu] at c0 hsk
    have HR:=qh hrg
    clear hrow hu hrg hxc he hs
    obtain ⟨ua,uc,rfl⟩:=hsk.len
    have CC:=qOE col L (qAA l rows k).2 _ row hrb (Lk.few_mono (qE7 hf rows k) (by omega)) wr hL o1.top hsk
    obtain ⟨s,hsm⟩ : ∃ s,s = (qAA l rows k).2.sumP (0 :: row):=⟨_,rfl⟩
    rw [← hsm] at CC
    have HS:=qh hsm
    clear hsm
    obtain ⟨s1,s2⟩:=s
    have hcl : (qAA l rows k).1.length = 2 * rows.length:=qCE l rows k
    have hat:=qCp (qAA l rows k).1 (N + k) (by rw [hcl,← HN.out];omega)
    replace hcl:=qh hcl
    go_wp2_with fail
    refine CC.mono ?_
    rintro e w2 ⟨rfl,hL2,o2⟩
    have hB2 : Blk w2 w.heap.size (qAz (qAA l rows k).1).toArray 115:=(o2.block _ hB.lt (by rw [ht _ qle];decide)).trans hB
    have y0:=hB2.free ((N + k) * 2)
    have y1:=hB2.free ((N + k) * 2 + 1)
    have x0:=(hB2.cell ((N + k) * 2)).trans hat.1
    have x1:=(hB2.cell ((N + k) * 2 + 1)).trans hat.2
    unfold Pr
    go_wp2_with fail
    have hcF : Chg [w.heap.size] w2 ((w2.setCell ⟨w.heap.size,(N + k) * 2,none⟩ (U s1)).setCell ⟨w.heap.size,(N + k) * 2 + 1,none⟩ (U s2)):=((Chg.refl _ _).set qsm ((N + k) * 2) _).set qsm ((N + k) * 2 + 1) _
    have bF:=(hB2.set ((N + k) * 2) (U s1)).set ((N + k) * 2 + 1) (U s2)
    refine ⟨⟨k + 1,rfl,by omega,(o1.trans o2).newset hcF qle,?_,?_⟩,by simp [intOf];omega⟩
    · have:=qGR (qAA l rows k).1 (N + k) (s1,s2) (by rw [hcl.out,← HN.out];omega)
      rw [this] at bF
      have e : qAA l rows (k + 1) = ((qAA l rows k).1.set (N + k) (s1,s2),(qAA l rows k).2.sumL (0 :: row)):=by
       show (_,_) = _
       rw [HR.out,← HS.out,← HN.out]
      rw [e]
      exact bF
    · have e : (qAA l rows (k + 1)).2 = (qAA l rows k).2.sumL (0 :: row):=by
       show (qAA l rows k).2.sumL (0 :: rows[k]?.getD []) = _
       rw [HR.out]
      rw [e]
      exact hL2.frame (qAZ.chg (col:=col) hcF (i:=5) (by intro b hb;rw [List.mem_singleton] at hb;subst hb;rw [ht _ qle];decide))
  · have hkN : k = N:=by omega
    have hB0 : Blk wr w.heap.size (qAz (qAy l rows 0).1).toArray 115:=by
     show Blk wr w.heap.size (qAz (qAA l rows rows.length).1).toArray 115
     rw [← HN.out,← hkN];exact hB
    have hL0 : LkC col wr L (qAy l rows 0).2:=by
     show LkC col wr L (qAA l rows rows.length).2
     rw [← HN.out,← hkN];exact hL
    clear hB hL
    go_wp2_with fail
    clear hkN hlt hk
    go_loopw [10] (fun i wr=>∃ k : Nat,i = .int .i64 ((N : Int) - 1 - (k : Int)) ∧ k ≤ N - 1 ∧ One 5 col col w wr ∧ Blk wr w.heap.size (qAz (qAy l rows k).1).toArray 115 ∧ LkC col wr L (qAy l rows k).2) (fun i _=>(intOf i).toNat)
    case atStart=>exact ⟨0,by simp,by omega,o1,hB0,hL0⟩
    case round =>
     obtain ⟨k2,rfl,hk2,o3,hB3,hL3⟩:=hrel
     obtain ⟨j,hj⟩ : ∃ j : Nat,j = N - 1 - k2:=⟨_,rfl⟩
     have hji : (N : Int) - 1 - (k2 : Int) = (j : Int):=by omega
     rw [hji]
     have HJ:=qh hj
     have HJI:=qh hji
     clear hji
     by_cases hj0 : 0 < j
     · have m1 : (0 : Int) < (j : Int):=by omega
       have m2 : (j : Int) < (N : Int):=by omega
       have m3 : (2 * (j : Int) + 1) < 2 * (N : Int):=by omega
       have m4 : IntKind.i64.wrap (2 * (j : Int)) = 2 * (j : Int):=by rw [IntKind.wrap_i64];omega
       have m5 : IntKind.i64.wrap (2 * (j : Int) + 1) = 2 * (j : Int) + 1:=by rw [IntKind.wrap_i64];omega
       have m6 : 2 * (j : Int) < 2 * (N : Int):=by omega
       have m7 : 0 ≤ 2 * (j : Int):=by omega
       have m8 : 0 ≤ 2 * (j : Int) + 1:=by omega
       have m9 : (2 * (j : Int)).toNat = 2 * j:=by omega
       have m10 : (2 * (j : Int) + 1).toNat = 2 * j + 1:=by omega
       have m11 : 0 ≤ (j : Int):=by omega
       have m12 : (j : Int) < 2 * (N : Int):=by omega
       have hcl3 : (qAy l rows k2).1.length = 2 * N:=by rw [HN.out];exact qCF l rows k2
       have hf2 : (qAy l rows k2).2.few 1000000:=Lk.few_mono (qE8 hf rows k2) (by rw [← HN.out];omega)
       obtain ⟨nd,hnd⟩ : ∃ x,x = (qAy l rows k2).1:=⟨_,rfl⟩
       obtain ⟨l2,hl2⟩ : ∃ x,x = (qAy l rows k2).2:=⟨_,rfl⟩
       rw [← hnd] at hB3 hcl3
       rw [← hl2] at hL3 hf2
       have HND:=qh hnd
       have HL2:=qh hl2
       have e1:=qCp nd (2 * j) (by omega)
       have e2:=qCp nd (2 * j + 1) (by omega)
       have e3:=qCp nd j (by omega)
       have hset:=qGR nd j (l2.sumP (qCo nd j)) (by omega)
       obtain ⟨s,hsm⟩ : ∃ s,s = l2.sumP (qCo nd j):=⟨_,rfl⟩
       have HNR : Hid (1 :: (qAN ((nd[2 * j]?.getD (0#64,0#64)).1,(nd[2 * j]?.getD (0#64,0#64)).2) ++ qAN ((nd[2 * j + 1]?.getD (0#64,0#64)).1,(nd[2 * j + 1]?.getD (0#64,0#64)).2)) = qCo nd j):=qh rfl
       obtain ⟨p1,hp1⟩ : ∃ x,x = (nd[2 * j]?.getD (0#64,0#64)).1:=⟨_,rfl⟩
       obtain ⟨p2,hp2⟩ : ∃ x,x = (nd[2 * j]?.getD (0#64,0#64)).2:=⟨_,rfl⟩
       obtain ⟨q1,hq1⟩ : ∃ x,x = (nd[2 * j + 1]?.getD (0#64,0#64)).1:=⟨_,rfl⟩
       obtain ⟨q2,hq2⟩ : ∃ x,x = (nd[2 * j + 1]?.getD (0#64,0#64)).2:=⟨_,rfl⟩
       rw [← hp1,← hp2] at e1
       rw [← hq1,← hq2] at e2
       rw [← hp1,← hp2,← hq1,← hq2] at HNR
       rw [← hsm] at hset
       have HSM:=qh hsm
       replace hcl3:=qh hcl3
       obtain ⟨s1,s2⟩:=s
       obtain ⟨row,hrow⟩ : ∃ r,r = qCo nd j:=⟨_,rfl⟩
       rw [← hrow] at HNR HSM
       have HROW:=qh hrow
       clear hnd hl2 hsm hp1 hp2 hq1 hq2 hj hrow
       go_wp2_with fail
       refine qAe (qA8 (fun k=>k = w.heap.size)) [(0,0),(1,0),(2,0),(3,0),(4,0),(5,0),(6,0),(7,0),(8,0),(9,0),(10,0),(11,0),(12,0),(13,0),(14,1),(15,0),(16,2)] (by kernel_rfl) (by kernel_rfl) ?_ ?_ ?_
       · exact fun _=>qA8.refl _
       · exact fun _ _ _ h1 h2=>h1.trans h2
       intro z1 hz1
       have bz1:=hB3.kept hz1
       have hLz:=hL3.frame (qAZ.kept hz1 5)
       repeat
        refine qA0 _ rfl (fun K hK=>?_)
        first
         | (refine qqP (by rfl) ?_;apply Exists.intro;refine ⟨fun w' hw'=>?_,hK _ ?_⟩;(have c:=(hw'.block _ bz1.lt rfl).trans bz1;have c0:=(Blk.cell c (2 * j * 2)).trans e1.1;have c1:=(Blk.cell c (2 * j * 2 + 1)).trans e1.2;have c2:=(Blk.cell c ((2 * j + 1) * 2)).trans e2.1;have c3:=(Blk.cell c ((2 * j + 1) * 2 + 1)).trans e2.2;clear c;go_simp;first|done|rfl))
         | refine qqN (by rfl) (hK _ ?_)
        clear hK K;simp only [Act.put,qqB]
       refine qqH _ rfl (by rfl) (fun K hK=>?_)
       go_wp2_with fail
       refine (qOF col L l2 (p1,p2) (q1,q2) hf2 z1 hLz (fun k hk=>o3.top k (Nat.le_trans hz1.size hk))).mono ?_
       rintro e z2 ⟨rfl,hL4,o4⟩
       rw [show l2.sumP (1 :: (qAN (p1,p2) ++ qAN (q1,q2))) = (s1,s2) by rw [HNR.out,← HSM.out]]
       rw [show l2.sumL (1 :: (qAN (p1,p2) ++ qAN (q1,q2))) = l2.sumL row by rw [HNR.out]] at hL4
       unfold Pr
       have bz2 : Blk z2 w.heap.size (qAz nd).toArray 115:=(o4.block _ bz1.lt (by rw [ht _ qle];decide)).trans bz1
       go_wp2
       refine hK _ _ (⟨o4.os,o4.tape,o4.output,o4.size,fun k hk hA=>o4.block k hk (by subst hA;rw [ht _ qle];decide)⟩) ?_
       clear hK K
       try simp only [Act.put,qqB]
       repeat
        refine qA0 _ rfl (fun K hK=>?_)
        first
         | (refine qqP (by rfl) ?_;apply Exists.intro;refine ⟨fun w' hw'=>?_,hK _ ?_⟩;go_simp;first|done|rfl)
         | refine qqN (by rfl) (hK _ ?_)
        clear hK K;simp only [Act.put,qqB]
       refine qAh _ rfl (fun K hK=>?_)
       refine qqP (by rfl) ?_
       have f0:=bz2.free (j * 2)
       have f1:=bz2.free (j * 2 + 1)
       have x0:=(bz2.cell (j * 2)).trans e3.1
       have x1:=(bz2.cell (j * 2 + 1)).trans e3.2
       go_wp2
       refine qA7 ?_
       go_wp2_with fail
       have hcF : Chg [w.heap.size] z2 ((z2.setCell ⟨w.heap.size,j * 2,none⟩ (U s1)).setCell ⟨w.heap.size,j * 2 + 1,none⟩ (U s2)):=((Chg.refl _ _).set qsm (j * 2) _).set qsm (j * 2 + 1) _
       have bF:=(bz2.set (j * 2) (U s1)).set (j * 2 + 1) (U s2)
       refine ⟨⟨k2 + 1,by congr 1;have:=HJI.out;omega,by have:=HJ.out;omega,((o3.trans (One.kept o3.top hz1)).trans o4).newset hcF qle,?_,?_⟩,by simp [intOf];omega⟩
       · rw [hset] at bF
         have e : qAy l rows (k2 + 1) = (nd.set j (s1,s2),l2.sumL row):=by
          show (_,_) = _
          rw [← HN.out,← HND.out,← HL2.out,← HJ.out,← HROW.out,← HSM.out]
         rw [e]
         exact bF
       · have e : qAy l rows (k2 + 1) = (nd.set j (s1,s2),l2.sumL row):=by
          show (_,_) = _
          rw [← HN.out,← HND.out,← HL2.out,← HJ.out,← HROW.out,← HSM.out]
         rw [e]
         exact hL4.frame (qAZ.chg (col:=col) hcF (i:=5) (by intro b hb;rw [List.mem_singleton] at hb;subst hb;rw [ht _ qle];decide))
     · have hk3 : k2 = N - 1:=by omega
       have hj00 : (j : Int) = 0:=by omega
       have hout : qAy l rows k2 = qAT l rows:=by unfold qAT;rw [← HN.out,hk3]
       rw [hout] at hB3 hL3
       replace hout:=qh hout
       clear hk3
       go_wp2_with fail
       refine bodyPost_ret (v:=.tuple #[.slice (some ⟨w.heap.size,0,none⟩) (2 * N) (2 * N),.bool true]) (by simp [results,results106,go_sem];done) rfl ⟨_,rfl,hB3,Nat.le_refl _,hL3,o3⟩
end Go.Proofs.YtdlgihbpiakebaaGreat
