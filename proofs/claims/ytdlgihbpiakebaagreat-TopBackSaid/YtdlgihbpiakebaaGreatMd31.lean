import Derived.Test.YtdlgihbpiakebaaGreatMd01
import Derived.Test.YtdlgihbpiakebaaGreatMd16
import Derived.Test.YtdlgihbpiakebaaGreatMd17
import Derived.Test.YtdlgihbpiakebaaGreatMd26
import Derived.Test.YtdlgihbpiakebaaGreatMd27
import Derived.Test.YtdlgihbpiakebaaGreatMd28
import Derived.Test.YtdlgihbpiakebaaGreatMd30
import Derived.Maps.OwnSet
set_option maxRecDepth 100000
set_option maxHeartbeats 4000000
namespace Go.Proofs.YtdlgihbpiakebaaGreat
open Go Go.RowKit Tryz
structure Iss where
 key : qAB
 nonce : Nn
 head : List UInt8
 data : List UInt8
 out : List UInt8
 tag : qAB
inductive Lk
 | real : Lk
 | ideal : List Iss → List (List UInt8) → Lk
structure Wd where
 n : Nat
 p : Pw
 s : Sd
 d : Dk
 c : Cn
 seed : BitVec 64
 eps : List (BitVec 32)
 l : Lk
structure qAQ where
 W : Nat
 b : Nat
 s : Nat
 d : Nat
 c : Nat
 k : Nat
 l : Nat
section
variable {col col' : Nat → Nat} {w w' : World}
def qNM (col : Nat → Nat) (w : World) (K b : Nat) (s : Sd) : Prop:=∃ gl cap ex vw vt us ut,qEV w K b gl cap ex vw vt us ut s ∧ col K = 1 ∧ col gl = 1 ∧ (∀ g,vw.ownBlock = some g → col g = 1) ∧ (∀ g,vt.ownBlock = some g → col g = 1) ∧ (∀ u ∈ us,∀ g,u.ownBlock = some g → col g = 1) ∧ (∀ u ∈ ut,∀ g,u.ownBlock = some g → col g = 1)
theorem qNM.frame {K b : Nat} {s : Sd} {p' : Pw} (h : qNM col w K b s) (hs : qAZ 1 col col' w w') (hp : qCU w' b p') : qNM col' w' K b { s with p:=p' }:=by
 obtain ⟨gl,cap,ex,vw,vt,us,ut,X,c1,c2,c3,c4,c5,c6⟩:=h
 obtain ⟨l1,l2,l3,l4,l5⟩:=X.low
 have lu : ∀ (v : Value) (l : List Wr) (us : List Value),qAY w v l us → ∀ u ∈ us,∀ g,u.ownBlock = some g → g < w.heap.size:=fun v l us h u hu g hg=>by
  obtain ⟨c,hc⟩:=h.blk hu hg;exact hc.lt
 obtain ⟨b1,d1⟩:=hs.blk X.blk c1
 obtain ⟨b2,d2⟩:=hs.blk X.lst c2
 exact ⟨gl,cap,ex,vw,vt,us,ut,⟨b1,hp,b2,X.hcap,X.most,X.wts.same hs c3 c5,X.trc.same hs c4 c6,X.wne,X.tne,X.wt⟩,d1,d2,fun g hg=>hs.old g (l4 g hg) (c3 g hg),fun g hg=>hs.old g (l5 g hg) (c4 g hg),
  fun u hu g hg=>hs.old g (lu _ _ _ X.wts u hu g hg) (c5 u hu g hg),fun u hu g hg=>hs.old g (lu _ _ _ X.trc u hu g hg) (c6 u hu g hg)⟩
def But (col : Nat → Nat) (w : World) (i : Nat) (k : Nat) : Prop:=k < w.heap.size ∧ ¬ (col k = i ∨ col k = 6)
theorem qNM.at {K b : Nat} {s : Sd} (h : qNM col w K b s) (hb : col b = 6) : qGr (But col w 1) w K b s:=by
 obtain ⟨gl,cap,ex,vw,vt,us,ut,X,c1,c2,c3,c4,c5,c6⟩:=h
 have no : ∀ g,col g = 1 → ¬ But col w 1 g:=fun g hg hn=>hn.2 (.inl hg)
 exact ⟨gl,cap,ex,vw,vt,us,ut,X,⟨no _ c1,fun hn=>hn.2 (.inr hb),no _ c2,fun g hg=>no _ (c3 g hg),fun g hg=>no _ (c4 g hg),fun u hu g hg=>no _ (c5 u hu g hg),fun u hu g hg=>no _ (c6 u hu g hg)⟩,fun k hk=>hk.1⟩
theorem qCD {i g : Nat} (h : ¬ But col w i g) (hl : g < w'.heap.size) (h6 : ∀ k,k < w.heap.size → col k = 6 → k ≠ g) : qAj col i w w' g = i:=by
 by_cases hw : g < w.heap.size
 · rw [qAc hw]
   rcases Classical.byContradiction (fun hn=>h ⟨hw,hn⟩) with h1 | h1
   · exact h1
   · exact absurd rfl (h6 g hw h1)
 · exact qAl (by omega) hl
theorem qNM.of_at {K b : Nat} {s : Sd} (h : qGr (But col w 1) w' K b s) (h6 : ∀ k,k < w.heap.size → col k = 6 → k = b) (_ : w.heap.size ≤ w'.heap.size) : qNM (qAj col 1 w w') w' K b s ∧ qCU w' b s.p:=by
 obtain ⟨gl,cap,ex,vw,vt,us,ut,X,O,_⟩:=h
 obtain ⟨l1,l2,l3,l4,l5⟩:=X.low
 obtain ⟨n1,n2,n3,n4,n5,n6,n7⟩:=X.ne
 have lu : ∀ (v : Value) (l : List Wr) (us : List Value),qAY w' v l us → ∀ u ∈ us,∀ g,u.ownBlock = some g → g < w'.heap.size:=fun v l us h u hu g hg=>by
  obtain ⟨c,hc⟩:=h.blk hu hg;exact hc.lt
 have ne6 : ∀ g,g ≠ b → ∀ k,k < w.heap.size → col k = 6 → k ≠ g:=fun g hg k hk hc e=>hg (by rw [← e,h6 k hk hc])
 exact ⟨⟨gl,cap,ex,vw,vt,us,ut,X,qCD O.K l1 (ne6 _ n1.symm),qCD O.gl l3 (ne6 _ n2.symm),fun g hg=>qCD (O.vw g hg) (l4 g hg) (ne6 _ (n4 g hg).1),fun g hg=>qCD (O.vt g hg) (l5 g hg) (ne6 _ (n5 g hg).1),
  fun u hu g hg=>qCD (O.us u hu g hg) (lu _ _ _ X.wts u hu g hg) (ne6 _ (n6 u hu g hg).1),fun u hu g hg=>qCD (O.ut u hu g hg) (lu _ _ _ X.trc u hu g hg) (ne6 _ (n7 u hu g hg).1)⟩,X.pw⟩
def DkC (col : Nat → Nat) (w : World) (K b : Nat) (d : Dk) : Prop:=∃ ls vw vt us ut,qDF w K b ls vw vt us ut d ∧ col K = 2 ∧ (∀ u ∈ ls,∀ g,u.ownBlock = some g → col g = 2) ∧ (∀ g,vw.ownBlock = some g → col g = 2) ∧ (∀ g,vt.ownBlock = some g → col g = 2) ∧ (∀ u ∈ us,∀ g,u.ownBlock = some g → col g = 2) ∧ (∀ u ∈ ut,∀ g,u.ownBlock = some g → col g = 2)
theorem qBi.same {i : Nat} {ls : List Value} {l : List (List UInt8)} (h : qBi w ls l) (hs : qAZ i col col' w w') (h2 : ∀ u ∈ ls,∀ g,u.ownBlock = some g → col g = i) : qBi w' ls l :=
 ⟨h.len,fun j x u hx hu=>hs.own (h.each j x u hx hu) (h2 u (List.mem_of_getElem? hu))⟩
theorem DkC.frame {K b : Nat} {d : Dk} {p' : Pw} (h : DkC col w K b d) (hs : qAZ 2 col col' w w') (hp : qCU w' b p') : DkC col' w' K b { d with p:=p' }:=by
 obtain ⟨ls,vw,vt,us,ut,X,c1,c2,c3,c4,c5,c6⟩:=h
 obtain ⟨l1,l2,l4,l5⟩:=X.low
 have lu : ∀ (v : Value) (l : List Wr) (us : List Value),qAY w v l us → ∀ u ∈ us,∀ g,u.ownBlock = some g → g < w.heap.size:=fun v l us h u hu g hg=>by
  obtain ⟨c,hc⟩:=h.blk hu hg;exact hc.lt
 have ll : ∀ u ∈ ls,∀ g,u.ownBlock = some g → g < w.heap.size:=fun u hu g hg=>by
  obtain ⟨c,hc⟩:=X.lst.blk hu hg;exact hc.lt
 obtain ⟨b1,d1⟩:=hs.blk X.blk c1
 exact ⟨ls,vw,vt,us,ut,⟨b1,hp,X.lst.same hs c2,X.wts.same hs c3 c5,X.trc.same hs c4 c6,X.wt⟩,d1,fun u hu g hg=>hs.old g (ll u hu g hg) (c2 u hu g hg),fun g hg=>hs.old g (l4 g hg) (c3 g hg),fun g hg=>hs.old g (l5 g hg) (c4 g hg),
  fun u hu g hg=>hs.old g (lu _ _ _ X.wts u hu g hg) (c5 u hu g hg),fun u hu g hg=>hs.old g (lu _ _ _ X.trc u hu g hg) (c6 u hu g hg)⟩
theorem DkC.at {K b : Nat} {d : Dk} (h : DkC col w K b d) (hb : col b = 6) : qIU (But col w 2) w K b d:=by
 obtain ⟨ls,vw,vt,us,ut,X,c1,c2,c3,c4,c5,c6⟩:=h
 have no : ∀ g,col g = 2 → ¬ But col w 2 g:=fun g hg hn=>hn.2 (.inl hg)
 exact ⟨ls,vw,vt,us,ut,X,⟨no _ c1,fun hn=>hn.2 (.inr hb),fun u hu g hg=>no _ (c2 u hu g hg),fun g hg=>no _ (c3 g hg),fun g hg=>no _ (c4 g hg),fun u hu g hg=>no _ (c5 u hu g hg),fun u hu g hg=>no _ (c6 u hu g hg)⟩,fun k hk=>hk.1⟩
theorem DkC.of_at {K b : Nat} {d : Dk} (h : qIU (But col w 2) w' K b d) (h6 : ∀ k,k < w.heap.size → col k = 6 → k = b) (_ : w.heap.size ≤ w'.heap.size) : DkC (qAj col 2 w w') w' K b d ∧ qCU w' b d.p:=by
 obtain ⟨ls,vw,vt,us,ut,X,O,_⟩:=h
 obtain ⟨l1,l2,l4,l5⟩:=X.low
 obtain ⟨n1,n4,n5,n6⟩:=X.ne
 have ne6 : ∀ g,g ≠ b → ∀ k,k < w.heap.size → col k = 6 → k ≠ g:=fun g hg k hk hc e=>hg (by rw [← e,h6 k hk hc])
 have by8 : ∀ g cur,Blk w' g cur 5 → ¬ But col w 2 g → qAj col 2 w w' g = 2:=fun g cur hc ho=>qCD ho hc.lt (ne6 _ (n6 g cur hc).1)
 refine ⟨⟨ls,vw,vt,us,ut,X,qCD O.K l1 (ne6 _ n1.symm),fun u hu g hg=>?_,fun g hg=>qCD (O.vw g hg) (l4 g hg) (ne6 _ (n4 g hg).1),fun g hg=>qCD (O.vt g hg) (l5 g hg) (ne6 _ (n5 g hg).1),fun u hu g hg=>?_,fun u hu g hg=>?_⟩,X.pw⟩
 · obtain ⟨c,hc⟩:=X.lst.blk hu hg
   exact by8 g c hc (O.ls u hu g hg)
 · obtain ⟨c,hc⟩:=X.wts.blk hu hg
   exact by8 g c hc (O.us u hu g hg)
 · obtain ⟨c,hc⟩:=X.trc.blk hu hg
   exact by8 g c hc (O.ut u hu g hg)
def qLd (col : Nat → Nat) (w : World) (K b : Nat) (seed : BitVec 64) (l : List (BitVec 32)) : Prop:=∃ g cap,qBm 96 w K b g seed l cap ∧ col K = 4 ∧ col g = 4
theorem qLd.frame {K b : Nat} {seed : BitVec 64} {l : List (BitVec 32)} (h : qLd col w K b seed l) (hs : qAZ 4 col col' w w') : qLd col' w' K b seed l:=by
 obtain ⟨g,cap,X,c1,c2⟩:=h
 obtain ⟨cur,hg⟩:=X.blkg
 obtain ⟨b1,d1⟩:=hs.blk X.blk c1
 exact ⟨g,cap,⟨b1,hs.own X.row (by intro g' e;cases e;exact c2)⟩,d1,hs.old g hg.lt c2⟩
end
def qBV : List Iss → List (Value × Value × Value) → List Value
 | x :: l,r :: rs=>U x.key.1 :: U x.key.2 :: W x.nonce.epoch :: W x.nonce.slot :: U x.nonce.version :: r.1 :: r.2.1 :: r.2.2 :: U x.tag.1 :: U x.tag.2 :: qBV l rs
 | _,_=>[]
theorem qDY : ∀ (l : List Iss) (rs : List (Value × Value × Value)),rs.length = l.length → (qBV l rs).length = l.length * 10
 | [],_,_=>by simp [qBV]
 | x :: l,[],h=>by simp at h
 | x :: l,r :: rs,h=>by
  have:=qDY l rs (by simpa using h)
  simp [qBV,this];omega
theorem qFe : ∀ (l : List Iss) (rs : List (Value × Value × Value)) (x : Iss) (r : Value × Value × Value),rs.length = l.length → qBV (l ++ [x]) (rs ++ [r]) = qBV l rs ++ [U x.key.1,U x.key.2,W x.nonce.epoch,W x.nonce.slot,U x.nonce.version,r.1,r.2.1,r.2.2,U x.tag.1,U x.tag.2]
 | [],[],x,r,_=>by simp [qBV]
 | [],_ :: _,x,r,h=>by simp at h
 | _ :: _,[],x,r,h=>by simp at h
 | y :: l,v :: rs,x,r,h=>by
  have:=qFe l rs x r (by simpa using h)
  simp [qBV,this]
theorem qFS : ∀ (l : List Iss) (rs : List (Value × Value × Value)) (i : Nat) (x : Iss) (r : Value × Value × Value),l[i]? = some x → rs[i]? = some r → ∀ j u,[U x.key.1,U x.key.2,W x.nonce.epoch,W x.nonce.slot,U x.nonce.version,r.1,r.2.1,r.2.2,U x.tag.1,U x.tag.2][j]? = some u → (qBV l rs)[i * 10 + j]? = some u
 | [],_,i,x,r,h,_=>by simp at h
 | _ :: _,[],i,x,r,_,h=>by simp at h
 | y :: l,v :: rs,0,x,r,h,k=>by
  simp at h k
  subst h;subst k
  intro j u hj
  have hl:=(List.getElem?_eq_some_iff.1 hj).1
  simp only [List.length_cons,List.length_nil,Nat.zero_add] at hl
  rw [Nat.zero_mul,Nat.zero_add]
  rw [← hj]
  match j,hl with
  | 0,_ | 1,_ | 2,_ | 3,_ | 4,_ | 5,_ | 6,_ | 7,_ | 8,_ | 9,_=>rfl
  | j + 10,h=>omega
 | y :: l,v :: rs,i + 1,x,r,h,k=>by
  intro j u hj
  have:=qFS l rs i x r (by simpa using h) (by simpa using k) j u hj
  rw [show (i + 1) * 10 + j = i * 10 + j + 10 by omega]
  simpa [qBV] using this
def qJw (g : Nat) (u : Value) : Prop:=∀ a n c,u = .slice (some a) n c → 0 < n → a.block ≠ g
structure qE5 (w : World) (v : Value) (l : List Iss) (rs : List (Value × Value × Value)) : Prop where
 row : w.ownsRow 0 184 10 v l.length (qBV l rs)
 len : rs.length = l.length
 each : ∀ (i : Nat) (x : Iss) (r : Value × Value × Value),l[i]? = some x → rs[i]? = some r → Sl w r.1 x.head.length (qA1 x.head) ∧ Sl w r.2.1 x.data.length (qA1 x.data) ∧ Sl w r.2.2 x.out.length (qA1 x.out)
 apart : ∀ r ∈ rs,∀ g,v.ownBlock = some g → qJw g r.1 ∧ qJw g r.2.1 ∧ qJw g r.2.2
theorem qE5.nil (w : World) : qE5 w (.slice none 0 0) [] []:=⟨⟨rfl,.inl ⟨rfl,rfl⟩⟩,rfl,by simp,by simp⟩
def qIi (col : Nat → Nat) (u : Value) : Prop:=∀ a n c,u = .slice (some a) n c → 0 < n → col a.block = 5
structure qKk (col : Nat → Nat) (v : Value) (rs : List (Value × Value × Value)) : Prop where
 row : ∀ g,v.ownBlock = some g → col g = 5
 e : ∀ r ∈ rs,qIi col r.1 ∧ qIi col r.2.1 ∧ qIi col r.2.2
section
variable {col col' : Nat → Nat} {w w' : World}
theorem qAZ.sl {i : Nat} {u : Value} {n : Nat} {cs : List Value} (hs : qAZ i col col' w w') (h : Sl w u n cs) (h0 : ∀ a c,u = .slice (some a) n c → 0 < cs.length → col a.block = i) : Sl w' u n cs:=by
 rcases h with h | ⟨a,cap,rfl,h1,h2,h3⟩
 · exact .inl h
 · refine .inr ⟨a,cap,rfl,h1,h2,fun j u hj=>?_⟩
   have e : (a.add j).block = a.block:=by unfold Addr.add;split <;> rfl
   have hc:=h3 j u hj
   have hlt : (a.add j).block < w.heap.size:=World.block_lt_of_cell? w _ hc
   have hcol : col (a.add j).block = i:=by rw [e];exact h0 a cap rfl (by have:=(List.getElem?_eq_some_iff.1 hj).1;omega)
   unfold World.cell? at hc ⊢
   rw [hs.block _ hlt hcol]
   exact hc
theorem qAZ.slc {u : Value} {bs : List UInt8} (hs : qAZ 5 col col' w w') (h : Sl w u bs.length (qA1 bs)) (hc : qIi col u) : Sl w' u bs.length (qA1 bs) ∧ qIi col' u:=by
 refine ⟨hs.sl h fun a c e hl=>hc a _ c e (by rw [qA6] at hl;exact hl),fun a n c e hn=>?_⟩
 have h0:=h
 rcases h with ⟨h,_⟩ | ⟨a',cap,h,_⟩
 · rw [h] at e;cases e
 · rw [h] at e;cases e
   exact hs.old _ (Sl.low h0 _ _ h (by rw [qA6];exact hn)) (hc _ _ _ h hn)
theorem qE5.same {v : Value} {l : List Iss} {rs : List (Value × Value × Value)} (h : qE5 w v l rs) (hs : qAZ 5 col col' w w') (hc : qKk col v rs) : qE5 w' v l rs ∧ qKk col' v rs:=by
 refine ⟨⟨hs.own h.row hc.row,h.len,fun i x r hx hr=>?_,h.apart⟩,fun g hg=>hs.old g (qAo h.row hg) (hc.row g hg),fun r hr=>?_⟩
 · obtain ⟨h1,h2,h3⟩:=h.each i x r hx hr
   obtain ⟨c1,c2,c3⟩:=hc.e r (List.mem_of_getElem? hr)
   exact ⟨(hs.slc h1 c1).1,(hs.slc h2 c2).1,(hs.slc h3 c3).1⟩
 · obtain ⟨i,hi⟩:=List.getElem?_of_mem hr
   have hil : i < l.length:=by rw [← h.len];exact (List.getElem?_eq_some_iff.1 hi).1
   obtain ⟨h1,h2,h3⟩:=h.each i _ r (List.getElem?_eq_getElem hil) hi
   obtain ⟨c1,c2,c3⟩:=hc.e r hr
   exact ⟨(hs.slc h1 c1).2,(hs.slc h2 c2).2,(hs.slc h3 c3).2⟩
def sumNo (sums : List (List UInt8)) (row : List UInt8) : Nat:=sums.findIdx (· == row) + 1
def qC5 (w : World) (m : Nat) (sums : List (List UInt8)) : Prop:=∃ D : DataW Unit,w.ownsMap prog 9 (plainElem prog 29) m sums.length D ∧ Maps.Tidy D ∧ Maps.size D = sums.length ∧
 ∀ row : List UInt8,Maps.has D (.string row) = sums.contains row ∧ (sums.contains row = true → D.atKey (.string row) (.lit (.int .u64 0)) = .lit (.int .u64 (sumNo sums row : Nat)))
theorem qC5.same {m i : Nat} {sums : List (List UInt8)} (h : qC5 w m sums) (hs : qAZ i col col' w w') (hc : col m = i) : qC5 w' m sums ∧ col' m = i:=by
 obtain ⟨D,h1,h2,h3,h4⟩:=h
 have hl:=h1.lt
 obtain ⟨es,clock,hb,r⟩:=h1
 exact ⟨⟨D,⟨es,clock,(hs.block m hl hc).trans hb,r⟩,h2,h3,h4⟩,hs.old m hl hc⟩
def OrC (col : Nat → Nat) (w : World) (O : Nat) (iss : List Iss) (sums : List (List UInt8)) : Prop:=∃ v rs m,Blk w O #[v,.map (some m)] 182 ∧ qE5 w v iss rs ∧ qC5 w m sums ∧ col O = 5 ∧ col m = 5 ∧ qKk col v rs
theorem OrC.frame {O : Nat} {iss : List Iss} {sums : List (List UInt8)} (h : OrC col w O iss sums) (hs : qAZ 5 col col' w w') : OrC col' w' O iss sums:=by
 obtain ⟨v,rs,m,h1,h2,h3,c1,c2,c3⟩:=h
 obtain ⟨b1,d1⟩:=hs.blk h1 c1
 obtain ⟨b2,d2⟩:=h2.same hs c3
 obtain ⟨b3,d3⟩:=h3.same hs c2
 exact ⟨v,rs,m,b1,b2,b3,d1,d3,d2⟩
def LkC (col : Nat → Nat) (w : World) (L : Nat) : Lk → Prop
 | .real=>∃ f3 f4,Blk w L #[.func (.func 58) #[] #[],.func (.func 59) #[] #[],.func (.func 60) #[] #[],f3,f4] 144 ∧ col L = 5
 | .ideal iss sums=>∃ O f3 f4,Blk w L #[.func (.func 64) #[.pointer (some ⟨O,0,none⟩)] #[],.func (.func 65) #[.pointer (some ⟨O,0,none⟩)] #[],.func (.func 66) #[.pointer (some ⟨O,0,none⟩)] #[],f3,f4] 144 ∧ col L = 5 ∧ OrC col w O iss sums
theorem LkC.frame {L : Nat} {l : Lk} (h : LkC col w L l) (hs : qAZ 5 col col' w w') : LkC col' w' L l:=by
 cases l with
 | real =>
  obtain ⟨f3,f4,h1,c1⟩:=h
  obtain ⟨b1,d1⟩:=hs.blk h1 c1
  exact ⟨f3,f4,b1,d1⟩
 | ideal iss sums =>
  obtain ⟨O,f3,f4,h1,c1,h2⟩:=h
  obtain ⟨b1,d1⟩:=hs.blk h1 c1
  exact ⟨O,f3,f4,b1,d1,h2.frame hs⟩
structure qAS (col : Nat → Nat) (w : World) (P : qAQ) (x : Wd) : Prop where
 blk : Blk w P.W #[.int .i64 x.n,.pointer (some ⟨P.b,0,none⟩),.pointer (some ⟨P.s,0,none⟩),.pointer (some ⟨P.d,0,none⟩),.pointer (some ⟨P.c,0,none⟩),.pointer (some ⟨P.k,0,none⟩),.pointer (some ⟨P.l,0,none⟩)] 67
 cW : col P.W = 7
 pw : qCU w P.b x.p
 cb : col P.b = 6
 one : ∀ k,k < w.heap.size → col k = 6 → k = P.b
 ssd : qNM col w P.s P.b { x.s with p:=x.p }
 dsk : DkC col w P.d P.b { x.d with p:=x.p }
 cnt : qHi w P.c P.b x.c
 cc : col P.c = 3
 keys : qLd col w P.k P.b x.seed x.eps
 lock : LkC col w P.l x.l
 top : Top col w
variable {P : qAQ} {x : Wd}
theorem qAS.free (h : qAS col w P x) (hs : ∀ i,1 ≤ i → i ≤ 7 → qAZ i col col' w w') (ht : Top col' w') (h6 : ∀ k,k < w'.heap.size → col' k = 6 → k < w.heap.size ∧ col k = 6) : qAS col' w' P x:=by
 obtain ⟨b7,d7⟩:=(hs 7 (by omega) (by omega)).blk h.blk h.cW
 obtain ⟨b6,d6⟩:=(hs 6 (by omega) (by omega)).blk h.pw h.cb
 obtain ⟨b3,d3⟩:=(hs 3 (by omega) (by omega)).blk h.cnt h.cc
 exact ⟨b7,d7,b6,d6,fun k hk hc=>by obtain ⟨h1,h2⟩:=h6 k hk hc;exact h.one k h1 h2,h.ssd.frame (hs 1 (by omega) (by omega)) b6,h.dsk.frame (hs 2 (by omega) (by omega)) b6,b3,d3,h.keys.frame (hs 4 (by omega) (by omega)),h.lock.frame (hs 5 (by omega) (by omega)),ht⟩
theorem qAS.kept (h : qAS col w P x) (hk : qA4 w w') : qAS col w' P x :=
 h.free (fun i _ _=>qAZ.kept hk i) (fun k hl=>h.top k (Nat.le_trans hk.size hl)) (fun k hl hc=>⟨Classical.byContradiction fun hn=>by rw [h.top k (by omega)] at hc;omega,hc⟩)
theorem qAS.chg {bs : List Nat} (h : qAS col w P x) (hc : Chg bs w w') (hb : ∀ b ∈ bs,col b = 0 ∨ 7 < col b) : qAS col w' P x :=
 h.free (fun i h1 h7=>qAZ.chg hc (fun b hm e=>by have:=hb b hm;omega)) (fun k hl=>h.top k (Nat.le_trans hc.size hl)) (fun k hl hc'=>⟨Classical.byContradiction fun hn=>by rw [h.top k (by omega)] at hc';omega,hc'⟩)
end
def Wd.sd (x : Wd) : Sd:={ x.s with p:=x.p }
def Wd.dk (x : Wd) : Dk:={ x.d with p:=x.p }
def Wd.setS (x : Wd) (s : Sd) : Wd:={ x with p:=s.p,s:=s }
def Wd.setD (x : Wd) (d : Dk) : Wd:={ x with p:=d.p,d:=d }
def Wd.setP (x : Wd) (p : Pw) : Wd:={ x with p:=p }
def Wd.setC (x : Wd) (p : Pw) (c : Cn) : Wd:={ x with p:=p,c:=c }
def Wd.setK (x : Wd) (p : Pw) (e : List (BitVec 32)) : Wd:={ x with p:=p,eps:=e }
section
variable {col col' : Nat → Nat} {w w' : World} {P : qAQ} {x : Wd}
theorem qAS.stepS (h : qAS col w P x) {s : Sd} (ha : qGr (But col w 1) w' P.s P.b s) (hs : qA8 (But col w 1) w w') : qAS (qAj col 1 w w') w' P (x.setS s) ∧ Ext 6 col (qAj col 1 w w') w w':=by
 have hp : ∀ c,(c = 1 ∨ c = 6) → 1 ≤ c ∧ c ≤ 6:=by omega
 have E : Ext 6 col (qAj col 1 w w') w w':=Ext.of_sameOn (P:=fun c=>c = 1 ∨ c = 6) h.top hs hp (by omega)
 have S : ∀ j,¬ (j = 1 ∨ j = 6) → qAZ j col (qAj col 1 w w') w w':=fun j hj=>qAZ.of_sameOn (P:=fun c=>c = 1 ∨ c = 6) hs hj
 obtain ⟨h1,h2⟩:=qNM.of_at ha h.one hs.size
 obtain ⟨b7,d7⟩:=(S 7 (by omega)).blk h.blk h.cW
 obtain ⟨b3,d3⟩:=(S 3 (by omega)).blk h.cnt h.cc
 refine ⟨⟨b7,d7,h2,by rw [qAc (Blk.lt h.pw)];exact h.cb,fun k hk hc=>?_,h1,h.dsk.frame (S 2 (by omega)) h2,b3,d3,h.keys.frame (S 4 (by omega)),h.lock.frame (S 5 (by omega)),E.top⟩,E⟩
 by_cases hk2 : k < w.heap.size
 · rw [qAc hk2] at hc
   exact h.one k hk2 hc
 · rw [qAl (by omega) hk] at hc
   omega
theorem qAS.stepD (h : qAS col w P x) {d : Dk} (ha : qIU (But col w 2) w' P.d P.b d) (hs : qA8 (But col w 2) w w') : qAS (qAj col 2 w w') w' P (x.setD d) ∧ Ext 6 col (qAj col 2 w w') w w':=by
 have hp : ∀ c,(c = 2 ∨ c = 6) → 1 ≤ c ∧ c ≤ 6:=by omega
 have E : Ext 6 col (qAj col 2 w w') w w':=Ext.of_sameOn (P:=fun c=>c = 2 ∨ c = 6) h.top hs hp (by omega)
 have S : ∀ j,¬ (j = 2 ∨ j = 6) → qAZ j col (qAj col 2 w w') w w':=fun j hj=>qAZ.of_sameOn (P:=fun c=>c = 2 ∨ c = 6) hs hj
 obtain ⟨h1,h2⟩:=DkC.of_at ha h.one hs.size
 obtain ⟨b7,d7⟩:=(S 7 (by omega)).blk h.blk h.cW
 obtain ⟨b3,d3⟩:=(S 3 (by omega)).blk h.cnt h.cc
 refine ⟨⟨b7,d7,h2,by rw [qAc (Blk.lt h.pw)];exact h.cb,fun k hk hc=>?_,h.ssd.frame (S 1 (by omega)) h2,h1,b3,d3,h.keys.frame (S 4 (by omega)),h.lock.frame (S 5 (by omega)),E.top⟩,E⟩
 by_cases hk2 : k < w.heap.size
 · rw [qAc hk2] at hc
   exact h.one k hk2 hc
 · rw [qAl (by omega) hk] at hc
   omega
theorem qMy {i : Nat} {bs : List Nat} (hc : Chg bs w w') (hb : ∀ b ∈ bs,col b = i ∨ col b = 6) : qA8 (But col w i) w w' :=
 ⟨hc.os,hc.tape,hc.output,hc.size,fun k hk hA=>hc.block k hk fun hm=>hA.2 (hb k hm)⟩
theorem qAS.stepC (h : qAS col w P x) {p : Pw} {c : Cn} (hp' : qCU w' P.b p) (hc' : qHi w' P.c P.b c) (hc : Chg [P.b,P.c] w w') : qAS (qAj col 3 w w') w' P (x.setC p c) ∧ Ext 6 col (qAj col 3 w w') w w':=by
 have hs : qA8 (But col w 3) w w':=qMy hc (by intro b hb;simp at hb;rcases hb with rfl | rfl;exact .inr h.cb;exact .inl h.cc)
 have hp : ∀ c,(c = 3 ∨ c = 6) → 1 ≤ c ∧ c ≤ 6:=by omega
 have E : Ext 6 col (qAj col 3 w w') w w':=Ext.of_sameOn (P:=fun c=>c = 3 ∨ c = 6) h.top hs hp (by omega)
 have S : ∀ j,¬ (j = 3 ∨ j = 6) → qAZ j col (qAj col 3 w w') w w':=fun j hj=>qAZ.of_sameOn (P:=fun c=>c = 3 ∨ c = 6) hs hj
 obtain ⟨b7,d7⟩:=(S 7 (by omega)).blk h.blk h.cW
 refine ⟨⟨b7,d7,hp',by rw [qAc (Blk.lt h.pw)];exact h.cb,fun k hk hc=>?_,h.ssd.frame (S 1 (by omega)) hp',h.dsk.frame (S 2 (by omega)) hp',hc',by rw [qAc (Blk.lt h.cnt)];exact h.cc,h.keys.frame (S 4 (by omega)),h.lock.frame (S 5 (by omega)),E.top⟩,E⟩
 by_cases hk2 : k < w.heap.size
 · rw [qAc hk2] at hc
   exact h.one k hk2 hc
 · rw [qAl (by omega) hk] at hc
   omega
theorem qAS.stepP (h : qAS col w P x) {p : Pw} (hp' : qCU w' P.b p) (hc : Chg [P.b] w w') : qAS (qAj col 3 w w') w' P (x.setP p) ∧ Ext 6 col (qAj col 3 w w') w w':=by
 have hcb : P.c ≠ P.b:=fun e=>by have:=h.cb;have:=h.cc;rw [e] at this;omega
 have:=h.stepC (c:=x.c) hp' (hc.blk h.cnt (by simpa using hcb)) (hc.mono (by simp))
 exact this
theorem qAS.stepK (h : qAS col w P x) {p : Pw} {g g' cap' : Nat} {e : List (BitVec 32)} (hp' : qCU w' P.b p) (hk' : qBm 96 w' P.k P.b g' x.seed e cap') (hK : col P.k = 4) (hKl : P.k < w.heap.size) (hg : col g = 4) (hgl : g < w.heap.size) (hgg : g' = g ∨ w.heap.size ≤ g') (hc : Chg [P.b,P.k,g] w w') : qAS (qAj col 4 w w') w' P (x.setK p e) ∧ Ext 6 col (qAj col 4 w w') w w':=by
 have hs : qA8 (But col w 4) w w':=qMy hc (by intro b hb;simp at hb;rcases hb with rfl | rfl | rfl;exact .inr h.cb;exact .inl hK;exact .inl hg)
 have hp : ∀ c,(c = 4 ∨ c = 6) → 1 ≤ c ∧ c ≤ 6:=by omega
 have E : Ext 6 col (qAj col 4 w w') w w':=Ext.of_sameOn (P:=fun c=>c = 4 ∨ c = 6) h.top hs hp (by omega)
 have S : ∀ j,¬ (j = 4 ∨ j = 6) → qAZ j col (qAj col 4 w w') w w':=fun j hj=>qAZ.of_sameOn (P:=fun c=>c = 4 ∨ c = 6) hs hj
 obtain ⟨b7,d7⟩:=(S 7 (by omega)).blk h.blk h.cW
 obtain ⟨b3,d3⟩:=(S 3 (by omega)).blk h.cnt h.cc
 obtain ⟨cur,hcur⟩:=hk'.blkg
 refine ⟨⟨b7,d7,hp',by rw [qAc (Blk.lt h.pw)];exact h.cb,fun k hk hc=>?_,h.ssd.frame (S 1 (by omega)) hp',h.dsk.frame (S 2 (by omega)) hp',b3,d3,⟨g',cap',hk',by rw [qAc hKl];exact hK,?_⟩,h.lock.frame (S 5 (by omega)),E.top⟩,E⟩
 · by_cases hk2 : k < w.heap.size
   · rw [qAc hk2] at hc
     exact h.one k hk2 hc
   · rw [qAl (by omega) hk] at hc
     omega
 · rcases hgg with rfl | hge
   · rw [qAc hgl];exact hg
   · exact qAl hge hcur.lt
end
structure Wd.ok (x : Wd) (m : Nat) : Prop where
 sl : qDR (x.n : Int) = true
 s : x.sd.ok (gSize x.n) m
 d : x.dk.ok m
 ep : 0 < x.eps.length
 el : x.eps.length ≤ m + 1
 er : qEj x.eps
 en : (qAi x.eps).toNat ≤ m + 1
 cv : x.c.value.toNat ≤ m
 cb : x.c.boots.toNat ≤ m
theorem Wd.ok.size {x : Wd} {m : Nat} (h : x.ok m) : 0 < gSize x.n ∧ gSize x.n ≤ 60000:=by
 have:=qAm h.sl
 unfold gSize;omega
theorem Wd.ok.pw {x : Wd} {m : Nat} (h : x.ok m) : x.p.ok m:=h.s.pw
def qGM (m : Nat) (col : Nat → Nat) (w : World) (P : qAQ) (x : Wd) (w' : World) : Prop:=∃ col',qAS col' w' P x ∧ Ext m col col' w w'
section
variable {col : Nat → Nat} {w : World} {P : qAQ} {x : Wd} {m : Nat}
theorem qAS.sdAt (h : qAS col w P x) : qGr (But col w 1) w P.s P.b x.sd:=h.ssd.at h.cb
theorem qAS.dkAt (h : qAS col w P x) : qIU (But col w 2) w P.d P.b x.dk:=h.dsk.at h.cb
theorem qQX {i : Nat} {a : Nat} (hi : i = 1 ∨ i = 2) (hl : a < w.heap.size) (h0 : col a = 0) : But col w i a:=⟨hl,by rw [h0];omega⟩
def Wd.sWrite (x : Wd) (y : Wr) : Wd:=x.setS (x.sd.wrote x.p.spend.1 x.p.spend.2 y)
def Wd.sBarrier (x : Wd) : Wd:=x.setS (x.sd.barred x.p.spend.1 x.p.spend.2)
def Wd.sCrash (x : Wd) (ks : List Bool) : Wd:=x.setS { x.sd with lasts:=qBI x.sd.lasts x.sd.waits (isK ks) x.sd.waits.length,waits:=[] }
def Wd.sSmash (x : Wd) (y : Wr) : Wd:=x.setS { x.sd with lasts:=qBQ x.sd.snap y,waits:=[] }
def Wd.sBack (x : Wd) (bs : List UInt8) : Wd:=x.setS { x.sd with lasts:=bs,waits:=[] }
theorem qEw (h : qAS col w P x) (ok : x.ok m) (hm : m ≤ 100000) (off : Int) (u : Value) (bs : List UInt8) (hin : inB (gSize x.n) (off,bs)) (hs : Sl w u bs.length (qA1 bs)) (hu : ∀ a c,u = .slice (some a) bs.length c → 0 < (qA1 bs).length → col a.block = 0) :
 Calls prog 161 #[.pointer (some ⟨P.s,0,none⟩),.int .i64 off,u] w fun e w'=>e = .returned (.bool x.p.spend.1) ∧ qGM 6 col w P (x.sWrite (off,bs)) w':=by
 refine (qMq _ P.s P.b x.sd (gSize x.n) m (by have:=ok.size;omega) hm w h.sdAt ok.s off u bs hin hs (fun a c e hl=>qQX (.inl rfl) (hs.low a c e hl) (hu a c e hl)) x.p.spend.1 x.p.spend.2 rfl).mono ?_
 rintro e w' ⟨rfl,ha,hsm⟩
 exact ⟨rfl,_,h.stepS ha hsm⟩
theorem qGN (h : qAS col w P x) (ok : x.ok m) (hm : m ≤ 99999) : Calls prog 175 #[.pointer (some ⟨P.s,0,none⟩)] w fun e w'=>e = .returned (.bool x.p.spend.1) ∧ qGM 6 col w P x.sBarrier w':=by
 refine (qJr _ P.s P.b x.sd (gSize x.n) m ok.size.1 (by have:=ok.size;omega) hm w h.sdAt ok.s x.p.spend.1 x.p.spend.2 rfl).mono ?_
 rintro e w' ⟨rfl,ha,hsm⟩
 exact ⟨rfl,_,h.stepS ha hsm⟩
theorem qMz (h : qAS col w P x) (ok : x.ok m) (hm : m ≤ 100000) (v : Value) (ks : List Bool) (kl : ks.length ≤ 100000) (hks : Sl w v ks.length (qBo ks)) (hu : ∀ a c,v = .slice (some a) ks.length c → 0 < (qBo ks).length → col a.block = 0) :
 Calls prog 82 #[.pointer (some ⟨P.s,0,none⟩),v] w fun e w'=>e = .returned (.tuple #[]) ∧ qGM 6 col w P (x.sCrash ks) w':=by
 refine (qMs _ P.s P.b x.sd (gSize x.n) m ok.size.1 (by have:=ok.size;omega) hm w h.sdAt ok.s v ks kl hks (fun a c e hl=>qQX (.inl rfl) (hks.low a c e hl) (hu a c e hl))).mono ?_
 rintro e w' ⟨rfl,ha,hsm⟩
 exact ⟨rfl,_,h.stepS ha hsm⟩
theorem qOl (h : qAS col w P x) (ok : x.ok m) (hm : m ≤ 100000) (o : Nat) (u : Value) (bs : List UInt8) (hin : inB (gSize x.n) ((o : Int),bs)) (hs : Sl w u bs.length (qA1 bs)) (hu : ∀ a c,u = .slice (some a) bs.length c → 0 < (qA1 bs).length → col a.block = 0) :
 Calls prog 28 #[.pointer (some ⟨P.s,0,none⟩),.int .i64 o,u] w fun e w'=>e = .returned (.bool true) ∧ qGM 6 col w P (x.sSmash ((o : Int),bs)) w':=by
 refine (qMt _ P.s P.b x.sd (gSize x.n) m ok.size.1 (by have:=ok.size;omega) hm w h.sdAt ok.s o u bs hin hs (fun a c e hl=>qQX (.inl rfl) (hs.low a c e hl) (hu a c e hl))).mono ?_
 rintro e w' ⟨rfl,ha,hsm⟩
 exact ⟨rfl,_,h.stepS ha hsm⟩
theorem qPT (h : qAS col w P x) (ok : x.ok m) (u : Value) (bs : List UInt8) (hb : bs.length = gSize x.n) (hs : Sl w u bs.length (qA1 bs)) :
 Calls prog 57 #[.pointer (some ⟨P.s,0,none⟩),u] w fun e w'=>e = .returned (.bool true) ∧ qGM 6 col w P (x.sBack bs) w':=by
 refine (qOi _ P.s P.b x.sd (gSize x.n) m ok.size.1 (by have:=ok.size;omega) w h.sdAt ok.s u bs hb hs).mono ?_
 rintro e w' ⟨rfl,ha,hsm,_⟩
 exact ⟨rfl,_,h.stepS ha hsm⟩
def Wd.dWrite (x : Wd) (y : Wr) : Wd:=x.setD (x.dk.wrote x.p.spend.1 x.p.spend.2 y)
def Wd.dBarrier (x : Wd) : Wd:=x.setD (x.dk.barred x.p.spend.1 x.p.spend.2)
def Wd.dCrash (x : Wd) (ks : List Bool) : Wd:=x.setD (x.dk.settled (isK ks))
def Wd.dRefuse (x : Wd) (q : Bool) : Wd:=x.setD { x.dk with no:=q }
theorem qMA (h : qAS col w P x) (ok : x.ok m) (hm : m ≤ 100000) (hno : x.d.no = false) (off : Int) (u : Value) (bs : List UInt8) (hn : isD off = true) (hl : bs.length = 32) (hs : Sl w u bs.length (qA1 bs)) (hu : ∀ a c,u = .slice (some a) bs.length c → 0 < (qA1 bs).length → col a.block = 0) :
 Calls prog 148 #[.pointer (some ⟨P.d,0,none⟩),.int .i64 off,u] w fun e w'=>e = .returned (.bool x.p.spend.1) ∧ qGM 6 col w P (x.dWrite (off,bs)) w':=by
 refine (qL7 _ P.d P.b x.dk m hm w h.dkAt ok.d hno off u bs hn hl hs (fun a c e hz=>qQX (.inr rfl) (hs.low a c e hz) (hu a c e hz)) x.p.spend.1 x.p.spend.2 rfl).mono ?_
 rintro e w' ⟨rfl,ha,hsm⟩
 exact ⟨rfl,_,h.stepD ha hsm⟩
theorem qIj (h : qAS col w P x) (ok : x.ok m) (hno : x.d.no = true) (off : Int) (a : Option Addr) (c : Nat) (hn : isD off = true) :
 Calls prog 148 #[.pointer (some ⟨P.d,0,none⟩),.int .i64 off,.slice a 32 c] w fun e w'=>e = .returned (.bool false) ∧ w = w' :=
 qGu _ P.d P.b x.dk m w h.dkAt ok.d off a 32 c (by omega) hn rfl hno
theorem qFT (h : qAS col w P x) (ok : x.ok m) (hm : m ≤ 99999) : Calls prog 112 #[.pointer (some ⟨P.d,0,none⟩)] w fun e w'=>e = .returned (.bool x.p.spend.1) ∧ qGM 6 col w P x.dBarrier w':=by
 refine (qIe _ P.d P.b x.dk m hm w h.dkAt ok.d x.p.spend.1 x.p.spend.2 rfl).mono ?_
 rintro e w' ⟨rfl,ha,hsm⟩
 exact ⟨rfl,_,h.stepD ha hsm⟩
theorem qMB (h : qAS col w P x) (ok : x.ok m) (hm : m ≤ 100000) (v : Value) (ks : List Bool) (kl : ks.length ≤ 100000) (hks : Sl w v ks.length (qBo ks)) (hu : ∀ a c,v = .slice (some a) ks.length c → 0 < (qBo ks).length → col a.block = 0) :
 Calls prog 83 #[.pointer (some ⟨P.d,0,none⟩),v] w fun e w'=>e = .returned (.tuple #[]) ∧ qGM 6 col w P (x.dCrash ks) w':=by
 refine (qL8 _ P.d P.b x.dk m hm w h.dkAt ok.d v ks kl hks (fun a c e hl=>qQX (.inr rfl) (hks.low a c e hl) (hu a c e hl))).mono ?_
 rintro e w' ⟨rfl,ha,hsm⟩
 exact ⟨rfl,_,h.stepD ha hsm⟩
theorem qLe (h : qAS col w P x) (ok : x.ok m) (q : Bool) : Calls prog 31 #[.pointer (some ⟨P.d,0,none⟩),.bool q] w fun e w'=>e = .returned (.tuple #[]) ∧ qGM 6 col w P (x.dRefuse q) w':=by
 refine (qJt _ P.d P.b x.dk m w h.dkAt ok.d q).mono ?_
 rintro e w' ⟨rfl,ha,hsm⟩
 exact ⟨rfl,_,h.stepD ha hsm⟩
theorem qOm (h : qAS col w P x) (ok : x.ok m) (hm : m ≤ 100000) (o : Nat) (ho : o < 32) (hg : x.p.gone = false) : Calls prog 119 #[.pointer (some ⟨P.d,0,none⟩),.int .i64 o] w fun e w'=>∃ v,e = .returned (.tuple #[v,.bool true]) ∧ w'.ownsRow w.heap.size 5 1 v 32 (qA1 (x.dk.read o)) ∧ qA4 w w' :=
 qMu _ P.d P.b x.dk m hm w h.dkAt ok.d o ho hg
def Wd.bump (x : Wd) : Wd:=x.setC x.p.spend.2 (if x.p.spend.1 then x.c.bump else x.c)
def Wd.boot (x : Wd) : Wd:=x.setC x.p.spend.2 (if x.p.spend.1 then x.c.boot else x.c)
theorem qAS.cb_ne (h : qAS col w P x) : P.c ≠ P.b:=fun e=>by have:=h.cb;have:=h.cc;rw [e] at this;omega
theorem Wd.ok.big (ok : x.ok m) (hm : m ≤ 100000) : x.p.ok 9223372036854775806:=qE0 ok.pw (by omega)
theorem qPU (h : qAS col w P x) (ok : x.ok m) (hm : m ≤ 100000) : Calls prog 177 #[.pointer (some ⟨P.c,0,none⟩)] w fun e w'=>e = .returned (.bool x.p.spend.1) ∧ qGM 6 col w P x.bump w':=by
 refine (qL3 P.c P.b x.p x.p.spend.2 x.p.spend.1 x.c w h.cnt h.pw h.cb_ne (ok.big hm) rfl).mono ?_
 rintro e w' ⟨rfl,h1,h2,h3⟩
 exact ⟨rfl,_,h.stepC h2 h1 h3⟩
theorem qPV (h : qAS col w P x) (ok : x.ok m) (hm : m ≤ 100000) : Calls prog 43 #[.pointer (some ⟨P.c,0,none⟩)] w fun e w'=>e = .returned (.bool x.p.spend.1) ∧ qGM 6 col w P x.boot w':=by
 refine (qL4 P.c P.b x.p x.p.spend.2 x.p.spend.1 x.c w h.cnt h.pw h.cb_ne (ok.big hm) rfl).mono ?_
 rintro e w' ⟨rfl,h1,h2,h3⟩
 exact ⟨rfl,_,h.stepC h2 h1 h3⟩
theorem qFt (h : qAS col w P x) : Calls prog 42 #[.pointer (some ⟨P.b,0,none⟩)] w fun e w'=>e = .returned (.bool (!x.p.gone)) ∧ w = w':=qCV P.b x.p w h.pw
theorem qPW (h : qAS col w P x) (n : Int) : Calls prog 26 #[.pointer (some ⟨P.b,0,none⟩),.int .i64 n] w fun e w'=>e = .returned (.tuple #[]) ∧ qGM 6 col w P (x.setP (x.p.setFuse n)) w':=by
 refine (qKS P.b x.p n w h.pw).mono ?_
 rintro e w' ⟨rfl,h1,h2⟩
 exact ⟨rfl,_,h.stepP h1 (Chg.of_grown h2)⟩
theorem qOn (h : qAS col w P x) : Calls prog 84 #[.pointer (some ⟨P.b,0,none⟩)] w fun e w'=>e = .returned (.tuple #[]) ∧ qGM 6 col w P (x.setP x.p.back) w':=by
 refine (qKT P.b x.p w h.pw).mono ?_
 rintro e w' ⟨rfl,h1,h2⟩
 exact ⟨rfl,_,h.stepP h1 (Chg.of_grown h2)⟩
def Wd.kAdd (x : Wd) : Wd:=x.setK x.p.spend.2 (qMl x.p.spend.1 x.eps)
def Wd.kErase (x : Wd) (b : BitVec 32) : Wd:=x.setK x.p.spend.2 (qPO x.p.spend.1 x.eps b)
theorem qPX (h : qAS col w P x) (ok : x.ok m) (hm : m ≤ 80000) : Calls prog 125 #[.pointer (some ⟨P.k,0,none⟩)] w fun e w'=>e = .returned (.bool x.p.spend.1) ∧ qGM 6 col w P x.kAdd w':=by
 obtain ⟨g,cap,X,c1,c2⟩:=h.keys
 obtain ⟨cur,hcur⟩:=X.blkg
 refine (qOg P.k P.b g x.seed x.eps cap x.p x.p.spend.2 x.p.spend.1 ok.ep (by have:=ok.el;omega) w X h.pw (ok.big (by omega)) rfl).mono ?_
 rintro e w' ⟨g',cap',rfl,h1,h2,h3,h4⟩
 exact ⟨rfl,_,h.stepK h1 h2 c1 X.blk.lt c2 hcur.lt h3 h4⟩
theorem qMC (h : qAS col w P x) (ok : x.ok m) (hm : m ≤ 80000) (b : BitVec 32) : Calls prog 114 #[.pointer (some ⟨P.k,0,none⟩),W b] w fun e w'=>e = .returned (.bool x.p.spend.1) ∧ qGM 6 col w P (x.kErase b) w':=by
 obtain ⟨g,cap,X,c1,c2⟩:=h.keys
 obtain ⟨cur,hcur⟩:=X.blkg
 refine (qMm P.k P.b g x.seed x.eps cap b x.p x.p.spend.2 x.p.spend.1 ok.ep (by have:=ok.el;omega) w X h.pw (ok.big (by omega)) rfl).mono ?_
 rintro e w' ⟨g',cap',rfl,h1,h2,h3,h4⟩
 exact ⟨rfl,_,h.stepK h1 h2 c1 X.blk.lt c2 hcur.lt h3 h4⟩
theorem qKl (h : qAS col w P x) (ok : x.ok m) (hm : m ≤ 80000) : Calls prog 115 #[.pointer (some ⟨P.k,0,none⟩)] w fun e w'=>e = .returned (W (qAi x.eps)) ∧ qA4 w w':=by
 obtain ⟨g,cap,X,c1,c2⟩:=h.keys
 exact qJp P.k P.b g x.seed x.eps cap ok.ep (by have:=ok.el;omega) w X
theorem qIk (h : qAS col w P x) (ok : x.ok m) (hm : m ≤ 80000) (e : BitVec 32) : Calls prog 138 #[.pointer (some ⟨P.k,0,none⟩),W e] w fun r w'=>r = .returned (.tuple #[Pr (qFO x.seed x.eps e),.bool (x.eps.contains e)]) ∧ qA4 w w':=by
 obtain ⟨g,cap,X,c1,c2⟩:=h.keys
 exact qPM P.k P.b g x.seed x.eps cap e ok.ep (by have:=ok.el;omega) w X
theorem qMD (h : qAS col w P x) (ok : x.ok m) (hm : m ≤ 80000) : Calls prog 22 #[.pointer (some ⟨P.k,0,none⟩)] w fun r w'=>∃ v,r = .returned v ∧ w'.ownsRow w.heap.size 94 1 v x.eps.length (qB9 x.eps) ∧ qA4 w w':=by
 obtain ⟨g,cap,X,c1,c2⟩:=h.keys
 exact qGI P.k P.b g x.seed x.eps cap ok.ep (by have:=ok.el;omega) w X
end
theorem qHm : SlT prog 81 32 1 24 (.slice none 0 0):=SlT.mk' underlying81 (by kernel_rfl) rfl (by omega)
theorem qPY : SlT prog 158 3 1 8 (.int .i64 0):=SlT.mk' underlying158 (by kernel_rfl) rfl (by omega)
def qOo (v : Value) : Option (List (List UInt8)) → Value
 | none=>.tuple #[.slice none 0 0,.bool false]
 | some _=>.tuple #[v,.bool true]
theorem qDn (vb vs : Value) (b : List UInt8) (zs : List Int) (hl : b.length ≤ 4000) (hn : zs.length ≤ 100) (w : World) (hb : Sl w vb b.length (qA1 b)) (hs : Sl w vs zs.length (qBb zs)) :
 Calls prog 145 #[vb,vs] w fun e w'=>qA4 w w' ∧ ∃ v,e = .returned (qOo v (qFx b zs)) ∧ ∀ rows,qFx b zs = some rows → qBs 32 5 w' w.heap.size v rows:=by
 have hlen:=qJ2 (P:=prog) w 3 underlying158 hs
 obtain ⟨sa,sc,hvs⟩:=hs.len
 subst hvs
 have ho0 : (w.alloc (.cells #[] 32)).ownsRow w.heap.size 32 1 (.slice (some ⟨w.heap.size,0,none⟩) 0 0) 0 [] :=
  ⟨rfl,.inr ⟨w.heap.size,0,#[],rfl,Nat.le_refl _,Blk.new _ _ _,Nat.le_refl _,Nat.zero_le _,rfl,rfl⟩⟩
 have n0 : (zs.length : Int) ≤ 100:=by omega
 clear hlen
 go_enter func145,ntmps145
 go_wp2_with fail
 go_loopw [12,0,6,8] (fun i vr rs _ wr=>∃ k : Nat,k ≤ zs.length ∧ i = .int .i64 k ∧ ∃ (br : List UInt8) (pre : List (List UInt8)),br.length ≤ b.length ∧ pre.length = k ∧ Sl w vr br.length (qA1 br) ∧
  qBs 32 5 wr w.heap.size rs pre ∧ qFx b zs = (qFx br (zs.drop k)).map (pre ++ ·) ∧ Below w.heap.size w wr) (fun i _ _ _ _=>zs.length - (intOf i).toNat)
 case atStart=>exact ⟨0,by omega,rfl,b,[],Nat.le_refl _,rfl,hb,qBs.empty ho0,by simp,qal _⟩
 case round =>
  obtain ⟨k,hk,rfl,br,pre,hbr,hpre,hvr,hrs,hcut,hkw⟩:=hrel
  have hsz:=hkw.size
  by_cases hlt : k < zs.length
  · obtain ⟨sb,so,sc,he,_,_,lb,xs⟩:=hs.int (by omega)
    cases he
    have c0:=qDC hkw (xs k hlt) lb
    have n1 : (k : Int) < (zs.length : Int):=by omega
    have n2 : (0 : Int) ≤ (k : Int):=by omega
    have n3 : (br.length : Int) ≤ 4000:=by omega
    have hlen:=fun wx (hk : qA4 w wx)=>qJ2 (P:=prog) wx 3 underlying32 (hvr.kept hk)
    have HC:=qh hcut
    have HX:=qh xs
    have HS:=qh hs
    have HP:=qh hpre
    clear hcut xs hs hpre
    by_cases h1 : zs[k] < 0
    · have hstop:=qIa hlt HC.out (by omega)
      clear hlen
      go_wp2
      go_ret2
      exact ⟨hkw,.slice none 0 0,by rw [hstop];rfl,fun rows h=>by rw [hstop] at h;cases h⟩
    obtain ⟨z,hz⟩ : ∃ z : Nat,zs[k] = (z : Int):=⟨zs[k].toNat,by omega⟩
    rw [hz] at c0
    have hl:=hlen wr hkw
    by_cases h2 : br.length < z
    · have hstop:=qIa hlt HC.out (by omega)
      have n4 : (br.length : Int) < (z : Int):=by omega
      clear hlen hz h1
      go_wp2
      go_ret2
      exact ⟨hkw,.slice none 0 0,by rw [hstop];rfl,fun rows h=>by rw [hstop] at h;cases h⟩
    · have hstep:=qMc hlt HC.out (by omega) (by omega)
      rw [hz,Int.toNat_natCast] at hstep
      have n4 : (z : Int) ≤ (br.length : Int):=by omega
      have n5 : (0 : Int) ≤ (z : Int):=by omega
      obtain ⟨v1,hv1,s1⟩:=qQU (P:=prog) qAw hvr (k:=z) (by omega) .i64
      obtain ⟨v2,hv2,s2⟩:=qKa (P:=prog) qAw hvr (k:=z) (by omega) .i64
      obtain ⟨row,hrow⟩ : ∃ row,row = br.take z:=⟨_,rfl⟩
      rw [← hrow] at s1 hstep
      have hrl : row.length ≤ 4000:=by rw [hrow,List.length_take];omega
      obtain ⟨us,u1,u2,u3,u4⟩:=hrs
      have HST:=qh hstep
      clear hlen hz h1 hstep hrow
      go_wp2_with fail
      refine (qAV v1 row (by omega) _ (s1.kept hkw)).mono ?_
      rintro e w1 ⟨u,rfl,hu,hk1⟩
      obtain ⟨ua,uc,hue⟩:=(Sl.of_own hu).len
      subst hue
      have H1:=qh u1
      clear hl c0 u1
      go_wp2_with (at_builtin;refine qAv qHm rfl (by rfl) (by rfl) (by rfl) ((qA3 u2 hk1).alloc _) (Sl.one _ _ _) (by rfl) (fun x hx=>by rw [List.mem_singleton.1 hx];exact qCY hu) (by unfold maxLen;have:=HP.out;omega) (by have:=HP.out;omega) (by simp;have:=hk1.size;omega) ?_;intro v3 w2 hown2 hg2 hat2)
      have hk2 : qA4 w w2:=qAD ((qA4.of hkw hk1).alloc (by have:=hk1.size;omega) _) ((qA3 u2 hk1).alloc _) hg2 (by simp;have:=hk1.size;omega)
      refine ⟨⟨k + 1,by omega,by go_num,br.drop z,pre ++ [row],by rw [List.length_drop];omega,by rw [List.length_append,HP.out];rfl,s2,?_,HST.out,hk2⟩,by simp [intOf];omega⟩
      have hka:=(Below.refl w1.heap.size w1).alloc qle (.cells #[.slice ua row.length uc] 32)
      exact qBs.snoc H1.out ((qA3 u2 hk1).alloc _) u3 (fun i bs x hi hx=>qA3 (qA3 (u4 i bs x hi hx) hk1) hka) (qAg (qA3 hu hka) hsz) (by decide) hg2 hown2
  · have : k = zs.length:=by omega
    subst this
    have hlen:=fun wx (hk : qA4 w wx)=>qJ2 (P:=prog) wx 3 underlying32 (hvr.kept hk)
    have hl:=hlen wr hkw
    have hend:=qOc hcut
    clear hlen hcut
    by_cases h0 : br = []
    · rw [if_pos h0] at hend
      have n3 : (br.length : Int) = 0:=by rw [h0];rfl
      rw [n3] at hl
      have HE:=qh hend
      clear hend h0 n3
      go_wp2
      go_ret2
      exact ⟨hkw,_,by rw [HE.out];rfl,fun rows h=>by rw [HE.out] at h;cases h;exact hrs⟩
    · rw [if_neg h0] at hend
      have n3 : (0 : Int) < (br.length : Int):=by have:=List.length_pos_iff.2 h0;omega
      have HE:=qh hend
      clear hend h0
      go_wp2
      go_ret2
      exact ⟨hkw,.slice none 0 0,by rw [HE.out];rfl,fun rows h=>by rw [HE.out] at h;cases h⟩
end Go.Proofs.YtdlgihbpiakebaaGreat
