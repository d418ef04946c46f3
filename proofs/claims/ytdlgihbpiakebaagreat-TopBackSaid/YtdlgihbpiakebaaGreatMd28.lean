import Derived.Test.YtdlgihbpiakebaaGreatMd05
import Derived.Test.YtdlgihbpiakebaaGreatMd06
import Derived.Test.YtdlgihbpiakebaaGreatMd07
import Derived.Test.YtdlgihbpiakebaaGreatMd08
import Derived.Test.YtdlgihbpiakebaaGreatMd09
import Derived.Test.YtdlgihbpiakebaaGreatMd15
import Derived.Test.YtdlgihbpiakebaaGreatMd17
import Derived.Test.YtdlgihbpiakebaaGreatMd25
import Derived.Test.YtdlgihbpiakebaaGreatMd27
set_option maxRecDepth 100000
set_option maxHeartbeats 4000000
namespace Go.Proofs.YtdlgihbpiakebaaGreat
open Go Go.RowKit Tryz
abbrev Wr:=Int × List UInt8
def qBF : List Wr → List Value → List Value
 | x :: l,u :: us=>.int .i64 x.1 :: u :: qBF l us
 | _,_=>[]
theorem qEo : ∀ (l : List Wr) (us : List Value),us.length = l.length → (qBF l us).length = l.length * 2
 | [],_,_=>by simp [qBF]
 | x :: l,[],h=>by simp at h
 | x :: l,u :: us,h=>by
  have:=qEo l us (by simpa using h)
  simp [qBF,this];omega
theorem qGJ : ∀ (l : List Wr) (us : List Value) (i : Nat) (x : Wr) (u : Value),l[i]? = some x → us[i]? = some u → (qBF l us)[i * 2]? = some (.int .i64 x.1) ∧ (qBF l us)[i * 2 + 1]? = some u
 | [],_,i,x,u,h,_=>by simp at h
 | _ :: _,[],i,x,u,_,h=>by simp at h
 | y :: l,v :: us,0,x,u,h,k=>by
  simp at h k
  subst h;subst k
  simp [qBF]
 | y :: l,v :: us,i + 1,x,u,h,k=>by
  have:=qGJ l us i x u (by simpa using h) (by simpa using k)
  rw [show (i + 1) * 2 = i * 2 + 1 + 1 by omega]
  simpa [qBF] using this
theorem qCZ : ∀ (l : List Wr) (us : List Value) (x : Wr) (u : Value),us.length = l.length → qBF (l ++ [x]) (us ++ [u]) = qBF l us ++ [.int .i64 x.1,u]
 | [],[],x,u,_=>by simp [qBF]
 | [],_ :: _,x,u,h=>by simp at h
 | _ :: _,[],x,u,h=>by simp at h
 | y :: l,v :: us,x,u,h=>by
  have:=qCZ l us x u (by simpa using h)
  simp [qBF,this]
theorem qAp {w : World} {B n size g : Nat} {e : TypeId} {v : Value} {xs : List Value} (h : w.ownsRow B e size v n xs) (hg : v.ownBlock = some g) : ∃ cur,Blk w g cur e:=by
 rcases h.2 with ⟨rfl,_⟩ | ⟨g',cap,cur,rfl,_,hb,_⟩
 · cases hg
 · cases hg;exact ⟨cur,hb⟩
theorem qAK {w w' : World} {bs : List Nat} {B n size : Nat} {e : TypeId} {v : Value} {xs : List Value} (h : w.ownsRow B e size v n xs) (hc : Chg bs w w') (hn : ∀ g,v.ownBlock = some g → g ∉ bs) : w'.ownsRow B e size v n xs:=by
 refine ⟨h.1,?_⟩
 rcases h.2 with h0 | ⟨g',cap',cur,rfl,hB,hb,r⟩
 · exact .inl h0
 · exact .inr ⟨g',cap',cur,rfl,hB,hc.blk hb (hn g' rfl),r⟩
theorem qAo {w : World} {B n size g : Nat} {e : TypeId} {v : Value} {xs : List Value} (h : w.ownsRow B e size v n xs) (hg : v.ownBlock = some g) : g < w.heap.size:=by
 obtain ⟨c,hc⟩:=qAp h hg
 exact hc.lt
theorem qAM {w : World} {B n size g : Nat} {e : TypeId} {v : Value} {xs : List Value} (h : w.ownsRow B e size v n xs) (hg : v.ownBlock = some g) : B ≤ g:=by
 rcases h.2 with ⟨rfl,_⟩ | ⟨g',cap,cur,rfl,hB,hb,_⟩
 · cases hg
 · cases hg;exact hB
structure qAY (w : World) (v : Value) (l : List Wr) (us : List Value) : Prop where
 row : w.ownsRow 0 133 2 v l.length (qBF l us)
 len : us.length = l.length
 each : ∀ (i : Nat) (x : Wr) (u : Value),l[i]? = some x → us[i]? = some u → w.ownsRow 0 5 1 u x.2.length (qA1 x.2)
theorem qAY.nil (w : World) : qAY w (.slice none 0 0) [] []:=⟨⟨rfl,.inl ⟨rfl,rfl⟩⟩,rfl,by simp⟩
theorem qAY.chg {w w' : World} {v : Value} {l : List Wr} {us : List Value} {bs : List Nat} (h : qAY w v l us) (hc : Chg bs w w') (h1 : ∀ g,v.ownBlock = some g → g ∉ bs) (h2 : ∀ u ∈ us,∀ g,u.ownBlock = some g → g ∉ bs) : qAY w' v l us :=
 ⟨qAK h.row hc h1,h.len,fun i x u hx hu=>qAK (h.each i x u hx hu) hc (h2 u (List.mem_of_getElem? hu))⟩
theorem qAY.kept {w w' : World} {v : Value} {l : List Wr} {us : List Value} (h : qAY w v l us) (hk : qA4 w w') : qAY w' v l us :=
 h.chg (bs:=[]) (Chg.of_kept hk) (by simp) (by simp)
theorem qAY.blk {w : World} {v : Value} {l : List Wr} {us : List Value} (h : qAY w v l us) {u : Value} (hu : u ∈ us) {g : Nat} (hg : u.ownBlock = some g) : ∃ cur,Blk w g cur 5:=by
 obtain ⟨i,hi⟩:=List.getElem?_of_mem hu
 have hil : i < us.length:=(List.getElem?_eq_some_iff.1 hi).1
 rw [h.len] at hil
 exact qAp (h.each i _ u (List.getElem?_eq_getElem hil) hi) hg
theorem qAY.get {w : World} {v : Value} {l : List Wr} {us : List Value} (h : qAY w v l us) (i : Nat) (hi : i < l.length) : ∃ g cap u,v = .slice (some ⟨g,0,none⟩) l.length cap ∧ us[i]? = some u ∧ w.cell? ⟨g,i * 2,none⟩ = some (.int .i64 l[i].1) ∧ w.cell? ⟨g,i * 2 + 1,none⟩ = some u ∧ Sl w u l[i].2.length (qA1 l[i].2):=by
 have hu : i < us.length:=by rw [h.len];exact hi
 obtain ⟨h1,h2⟩:=qGJ l us i l[i] us[i] (List.getElem?_eq_getElem hi) (List.getElem?_eq_getElem hu)
 obtain ⟨b,off,cap,e,_,_,_,hx⟩:=(Sl.of_own h.row).at (by rw [qEo l us h.len];omega)
 have hoff : ∃ g,v = .slice (some ⟨g,0,none⟩) l.length cap ∧ b = g ∧ off = 0:=by
  rcases h.row.2 with ⟨_,h0⟩ | ⟨g',cap',cur,e',_⟩
  · omega
  · rw [e] at e'
    cases e'
    exact ⟨b,e,rfl,rfl⟩
 obtain ⟨g,hv,rfl,rfl⟩:=hoff
 refine ⟨b,cap,us[i],hv,List.getElem?_eq_getElem hu,?_,?_,Sl.of_own (h.each i _ _ (List.getElem?_eq_getElem hi) (List.getElem?_eq_getElem hu))⟩
 · have:=hx _ _ h1;rwa [Nat.zero_add] at this
 · have:=hx _ _ h2;rwa [Nat.zero_add] at this
theorem qAY.slice {w : World} {v : Value} {l : List Wr} {us : List Value} (h : qAY w v l us) : ∃ a cap,v = .slice a l.length cap:=(Sl.of_own h.row).len
structure qA8 (A : Nat → Prop) (w w' : World) : Prop where
 os : w'.os = w.os
 tape : w'.tape = w.tape
 output : w'.output = w.output
 size : w.heap.size ≤ w'.heap.size
 block : ∀ k,k < w.heap.size → A k → w'.heap[k]? = w.heap[k]?
section
variable {A : Nat → Prop} {w w' w'' : World}
theorem qA8.refl (w : World) : qA8 A w w:=⟨rfl,rfl,rfl,Nat.le_refl _,fun _ _ _=>rfl⟩
theorem qA8.trans (h : qA8 A w w') (k : qA8 A w' w'') : qA8 A w w'' :=
 ⟨k.os.trans h.os,k.tape.trans h.tape,k.output.trans h.output,Nat.le_trans h.size k.size,fun i hi hA=>(k.block i (Nat.lt_of_lt_of_le hi h.size) hA).trans (h.block i hi hA)⟩
theorem qA8.of_kept (h : qA4 w w') : qA8 A w w':=⟨h.os,h.tape,h.output,h.size,fun k hk _=>h.block k hk⟩
theorem qA8.of_chg {bs : List Nat} (h : Chg bs w w') (hn : ∀ b ∈ bs,¬ A b) : qA8 A w w':=⟨h.os,h.tape,h.output,h.size,fun k hk hA=>h.block k hk fun hm=>hn k hm hA⟩
theorem qA8.sl {v : Value} {n : Nat} {cs : List Value} (h : qA8 A w w') (hs : Sl w v n cs) (ha : ∀ a c,v = .slice (some a) n c → 0 < cs.length → A a.block) : Sl w' v n cs:=by
 rcases hs with hs | ⟨a,cap,rfl,h1,h2,h3⟩
 · exact .inl hs
 · refine .inr ⟨a,cap,rfl,h1,h2,fun j u hj=>?_⟩
   have e : (a.add j).block = a.block:=by unfold Addr.add;split <;> rfl
   have hc:=h3 j u hj
   have hlt : (a.add j).block < w.heap.size:=World.block_lt_of_cell? w _ hc
   have hA:=ha a cap rfl (by have:=(List.getElem?_eq_some_iff.1 hj).1;omega)
   unfold World.cell? at hc ⊢
   rw [h.block _ hlt (by rw [e];exact hA)]
   exact hc
end
structure Ext (m : Nat) (col col' : Nat → Nat) (w w' : World) : Prop where
 os : w'.os = w.os
 tape : w'.tape = w.tape
 output : w'.output = w.output
 size : w.heap.size ≤ w'.heap.size
 old : ∀ k,k < w.heap.size → col' k = col k
 new : ∀ k,w.heap.size ≤ k → col' k ≤ m
 top : ∀ k,w'.heap.size ≤ k → col' k = 0
 block : ∀ k,k < w.heap.size → (col k = 0 ∨ m < col k) → w'.heap[k]? = w.heap[k]?
def Top (col : Nat → Nat) (w : World) : Prop:=∀ k,w.heap.size ≤ k → col k = 0
section
variable {m n : Nat} {col col' col'' : Nat → Nat} {w w' w'' : World}
theorem Ext.refl (h : Top col w) : Ext m col col w w:=⟨rfl,rfl,rfl,Nat.le_refl _,fun _ _=>rfl,fun k hk=>by rw [h k hk];omega,h,fun _ _ _=>rfl⟩
theorem Ext.trans (h : Ext m col col' w w') (k : Ext m col' col'' w' w'') : Ext m col col'' w w'' :=
 ⟨k.os.trans h.os,k.tape.trans h.tape,k.output.trans h.output,Nat.le_trans h.size k.size,
  fun i hi=>(k.old i (Nat.lt_of_lt_of_le hi h.size)).trans (h.old i hi),
  fun i hi=>by
   by_cases h2 : i < w'.heap.size
   · rw [k.old i h2];exact h.new i hi
   · exact k.new i (by omega),
  k.top,
  fun i hi hc=>(k.block i (Nat.lt_of_lt_of_le hi h.size) (by rw [h.old i hi];exact hc)).trans (h.block i hi hc)⟩
theorem Ext.mono (h : Ext m col col' w w') (hm : m ≤ n) : Ext n col col' w w' :=
 ⟨h.os,h.tape,h.output,h.size,h.old,fun k hk=>Nat.le_trans (h.new k hk) hm,h.top,fun k hk hc=>h.block k hk (by omega)⟩
theorem Ext.kept (ht : Top col w) (h : qA4 w w') : Ext m col col w w' :=
 ⟨h.os,h.tape,h.output,h.size,fun _ _=>rfl,fun k hk=>by rw [ht k hk];omega,fun k hk=>ht k (Nat.le_trans h.size hk),fun k hk _=>h.block k hk⟩
structure qAZ (i : Nat) (col col' : Nat → Nat) (w w' : World) : Prop where
 size : w.heap.size ≤ w'.heap.size
 old : ∀ k,k < w.heap.size → col k = i → col' k = i
 block : ∀ k,k < w.heap.size → col k = i → w'.heap[k]? = w.heap[k]?
theorem Ext.same (h : Ext m col col' w w') {i : Nat} (hi : m < i) : qAZ i col col' w w':=⟨h.size,fun k hk hc=>(h.old k hk).trans hc,fun k hk hc=>h.block k hk (.inr (by omega))⟩
theorem qAZ.kept (h : qA4 w w') (i : Nat) : qAZ i col col w w':=⟨h.size,fun _ _ hc=>hc,fun k hk _=>h.block k hk⟩
theorem qAZ.trans {i : Nat} (h : qAZ i col col' w w') (k : qAZ i col' col'' w' w'') : qAZ i col col'' w w'' :=
 ⟨Nat.le_trans h.size k.size,fun j hj hc=>k.old j (Nat.lt_of_lt_of_le hj h.size) (h.old j hj hc),fun j hj hc=>(k.block j (Nat.lt_of_lt_of_le hj h.size) (h.old j hj hc)).trans (h.block j hj hc)⟩
theorem qAZ.chg {bs : List Nat} (h : Chg bs w w') {i : Nat} (hb : ∀ b ∈ bs,col b ≠ i) : qAZ i col col w w':=⟨h.size,fun _ _ hc=>hc,fun k hk hc=>h.block k hk fun hm=>hb k hm hc⟩
theorem qAZ.blk {i g : Nat} {cs : Array Value} {t : TypeId} (h : qAZ i col col' w w') (hb : Blk w g cs t) (hc : col g = i) : Blk w' g cs t ∧ col' g = i:=⟨(h.block g hb.lt hc).trans hb,h.old g hb.lt hc⟩
theorem Ext.blk0 {g : Nat} {cs : Array Value} {t : TypeId} (h : Ext m col col' w w') (hb : Blk w g cs t) (hc : col g = 0) : Blk w' g cs t ∧ col' g = 0:=⟨(h.block g hb.lt (.inl hc)).trans hb,(h.old g hb.lt).trans hc⟩
theorem Ext.cell0 {a : Addr} {v : Value} (h : Ext m col col' w w') (hc : w.cell? a = some v) (h0 : col a.block = 0) : w'.cell? a = some v:=by
 have hlt : a.block < w.heap.size:=World.block_lt_of_cell? w _ hc
 unfold World.cell? at hc ⊢
 rw [h.block a.block hlt (.inl h0)]
 exact hc
theorem Ext.own0 {B n size : Nat} {e : TypeId} {v : Value} {xs : List Value} (h : Ext m col col' w w') (ho : w.ownsRow B e size v n xs) (h0 : ∀ g,v.ownBlock = some g → col g = 0) : w'.ownsRow B e size v n xs:=by
 refine ⟨ho.1,?_⟩
 rcases ho.2 with h1 | ⟨g',cap',cur,rfl,hB,hb,r⟩
 · exact .inl h1
 · exact .inr ⟨g',cap',cur,rfl,hB,(h.blk0 hb (h0 g' rfl)).1,r⟩
def qAj (col : Nat → Nat) (i : Nat) (w w' : World) (k : Nat) : Nat:=if w.heap.size ≤ k ∧ k < w'.heap.size then i else col k
theorem qAc {i k : Nat} (h : k < w.heap.size) : qAj col i w w' k = col k:=by
 unfold qAj;rw [if_neg (by omega)]
theorem qAl {i k : Nat} (h : w.heap.size ≤ k) (h2 : k < w'.heap.size) : qAj col i w w' k = i:=by
 unfold qAj;rw [if_pos ⟨h,h2⟩]
theorem Ext.of_sameOn {P : Nat → Prop} {i : Nat} (ht : Top col w) (h : qA8 (fun k=>k < w.heap.size ∧ ¬ P (col k)) w w') (hp : ∀ c,P c → 1 ≤ c ∧ c ≤ m) (hi : i ≤ m) : Ext m col (qAj col i w w') w w' :=
 ⟨h.os,h.tape,h.output,h.size,fun k hk=>qAc hk,fun k hk=>by
  unfold qAj
  split
  · exact hi
  · rw [ht k hk];omega,fun k hk=>by
  unfold qAj
  rw [if_neg (by omega)]
  exact ht k (Nat.le_trans h.size hk),fun k hk hc=>h.block k hk ⟨hk,fun hn=>by have:=hp _ hn;omega⟩⟩
theorem qAZ.of_sameOn {P : Nat → Prop} {i j : Nat} (h : qA8 (fun k=>k < w.heap.size ∧ ¬ P (col k)) w w') (hj : ¬ P j) : qAZ j col (qAj col i w w') w w' :=
 ⟨h.size,fun k hk hc=>by rw [qAc hk];exact hc,fun k hk hc=>h.block k hk ⟨hk,by rw [hc];exact hj⟩⟩
end
theorem qAY.same {i : Nat} {col col' : Nat → Nat} {w w' : World} {v : Value} {l : List Wr} {us : List Value} (h : qAY w v l us) (hs : qAZ i col col' w w') (h1 : ∀ g,v.ownBlock = some g → col g = i) (h2 : ∀ u ∈ us,∀ g,u.ownBlock = some g → col g = i) : qAY w' v l us:=by
 have own : ∀ {B n size : Nat} {e : TypeId} {v : Value} {xs : List Value},w.ownsRow B e size v n xs → (∀ g,v.ownBlock = some g → col g = i) → w'.ownsRow B e size v n xs:=fun ho h0=>by
  refine ⟨ho.1,?_⟩
  rcases ho.2 with h1 | ⟨g',cap',cur,rfl,hB,hb,r⟩
  · exact .inl h1
  · exact .inr ⟨g',cap',cur,rfl,hB,(hs.blk hb (h0 g' rfl)).1,r⟩
 exact ⟨own h.row h1,h.len,fun i x u hx hu=>own (h.each i x u hx hu) (h2 u (List.mem_of_getElem? hu))⟩
theorem qAZ.own {i : Nat} {col col' : Nat → Nat} {w w' : World} {B n size : Nat} {e : TypeId} {v : Value} {xs : List Value} (hs : qAZ i col col' w w') (ho : w.ownsRow B e size v n xs) (h0 : ∀ g,v.ownBlock = some g → col g = i) : w'.ownsRow B e size v n xs:=by
 refine ⟨ho.1,?_⟩
 rcases ho.2 with h1 | ⟨g',cap',cur,rfl,hB,hb,r⟩
 · exact .inl h1
 · exact .inr ⟨g',cap',cur,rfl,hB,(hs.blk hb (h0 g' rfl)).1,r⟩
def qBQ (b : List UInt8) (x : Wr) : List UInt8:=b.take x.1.toNat ++ x.2 ++ b.drop (x.1.toNat + x.2.length)
def inB (n : Nat) (x : Wr) : Prop:=0 ≤ x.1 ∧ x.1.toNat < n ∧ x.1.toNat + x.2.length ≤ n
theorem qBz (b : List UInt8) (x : Wr) (h : inB b.length x) : (qBQ b x).length = b.length:=by
 obtain ⟨h1,h2⟩:=h
 simp [qBQ];omega
def qBn (b : List UInt8) (l : List Wr) : List UInt8:=l.foldl qBQ b
theorem qCk (b : List UInt8) (l : List Wr) (x : Wr) : qBn b (l ++ [x]) = qBQ (qBn b l) x:=by simp [qBn]
theorem qC7 : ∀ (l : List Wr) (b : List UInt8),(∀ x ∈ l,inB b.length x) → (qBn b l).length = b.length
 | [],b,_=>rfl
 | x :: l,b,h=>by
  have h1:=qBz b x (h x (by simp))
  have:=qC7 l (qBQ b x) (fun y hy=>by rw [h1];exact h y (by simp [hy]))
  show (qBn (qBQ b x) l).length = _
  rw [this,h1]
def qBI (b : List UInt8) (l : List Wr) (is : Nat → Bool) : Nat → List UInt8
 | 0=>b
 | k + 1=>if is k then qBQ (qBI b l is k) (l[k]?.getD (0,[])) else qBI b l is k
theorem qCx (b : List UInt8) (l : List Wr) (is : Nat → Bool) (h : ∀ x ∈ l,inB b.length x) : ∀ k,k ≤ l.length → (qBI b l is k).length = b.length
 | 0,_=>rfl
 | k + 1,hk=>by
  have ih:=qCx b l is h k (by omega)
  unfold qBI
  split
  · have hx : l[k]?.getD (0,[]) = l[k]:=by rw [List.getElem?_eq_getElem (by omega)];rfl
    rw [hx,qBz _ _ (by rw [ih];exact h _ (List.getElem_mem _)),ih]
  · exact ih
theorem qEp (b : List UInt8) (l : List Wr) : ∀ k,k ≤ l.length → qBI b l (fun _=>true) k = qBn b (l.take k)
 | 0,_=>rfl
 | k + 1,hk=>by
  unfold qBI
  rw [if_pos rfl,qEp b l k (by omega),List.take_succ_eq_append_getElem (by omega),qCk,List.getElem?_eq_getElem (by omega)]
  rfl
theorem qEq (b : List UInt8) (ex : List Value) (x : Wr) (n : Nat) (hn : n = b.length) (h : inB n x) :
 (qA1 b ++ ex).take x.1.toNat ++ (qA1 x.2).take (min x.2.length (n - x.1.toNat)) ++ (qA1 b ++ ex).drop (x.1.toNat + min x.2.length (n - x.1.toNat)) = qA1 (qBQ b x) ++ ex:=by
 obtain ⟨h1,h2⟩:=h
 subst hn
 rw [show min x.2.length (b.length - x.1.toNat) = x.2.length by omega]
 rw [List.take_of_length_le (l:=qA1 x.2) (by rw [qA6];omega),List.take_append_of_le_length (by rw [qA6];omega),List.drop_append_of_le_length (by rw [qA6];omega)]
 simp [qBQ,qA1,List.map_take,List.map_drop]
structure Sd where
 p : Pw
 lasts : List UInt8
 waits : List Wr
 trace : List Wr
def Sd.snap (s : Sd) : List UInt8:=qBn s.lasts s.waits
structure Sd.ok (s : Sd) (n m : Nat) : Prop where
 len : s.lasts.length = n
 fit : ∀ x ∈ s.waits,inB n x
 fitp : ∀ x ∈ s.trace,x.2.length ≤ 60000
 few : s.waits.length ≤ m
 done : s.trace.length ≤ m
 pw : s.p.ok m
theorem Sd.snap_length {s : Sd} {n m : Nat} (h : s.ok n m) : s.snap.length = n:=by
 rw [← h.len]
 exact qC7 _ _ (fun x hx=>by rw [h.len];exact h.fit x hx)
structure qEV (w : World) (K b gl : Nat) (cap : Nat) (ex : List Value) (vw vt : Value) (us ut : List Value) (s : Sd) : Prop where
 blk : Blk w K #[.pointer (some ⟨b,0,none⟩),.slice (some ⟨gl,0,none⟩) s.lasts.length cap,vw,vt] 130
 pw : qCU w b s.p
 lst : Blk w gl (qA1 s.lasts ++ ex).toArray 5
 hcap : s.lasts.length + ex.length = cap
 most : cap ≤ maxLen
 wts : qAY w vw s.waits us
 trc : qAY w vt s.trace ut
 wne : ∀ u ∈ us,u.ownBlock ≠ some gl
 tne : ∀ u ∈ ut,u.ownBlock ≠ some gl
 wt : ∀ g,vw.ownBlock = some g → vt.ownBlock ≠ some g
structure Off (A : Nat → Prop) (K b gl : Nat) (vw vt : Value) (us ut : List Value) : Prop where
 K : ¬ A K
 b : ¬ A b
 gl : ¬ A gl
 vw : ∀ g,vw.ownBlock = some g → ¬ A g
 vt : ∀ g,vt.ownBlock = some g → ¬ A g
 us : ∀ u ∈ us,∀ g,u.ownBlock = some g → ¬ A g
 ut : ∀ u ∈ ut,∀ g,u.ownBlock = some g → ¬ A g
def qGr (A : Nat → Prop) (w : World) (K b : Nat) (s : Sd) : Prop:=∃ gl cap ex vw vt us ut,qEV w K b gl cap ex vw vt us ut s ∧ Off A K b gl vw vt us ut ∧ ∀ k,A k → k < w.heap.size
section
variable {w w' : World} {K b gl cap : Nat} {ex : List Value} {vw vt : Value} {us ut : List Value} {s : Sd} {A A' : Nat → Prop}
theorem qEV.kept (h : qEV w K b gl cap ex vw vt us ut s) (hk : qA4 w w') : qEV w' K b gl cap ex vw vt us ut s :=
 ⟨h.blk.kept hk,Blk.kept h.pw hk,h.lst.kept hk,h.hcap,h.most,h.wts.kept hk,h.trc.kept hk,h.wne,h.tne,h.wt⟩
theorem qEV.low (h : qEV w K b gl cap ex vw vt us ut s) : K < w.heap.size ∧ b < w.heap.size ∧ gl < w.heap.size ∧ (∀ g,vw.ownBlock = some g → g < w.heap.size) ∧ (∀ g,vt.ownBlock = some g → g < w.heap.size) :=
 ⟨h.blk.lt,Blk.lt h.pw,h.lst.lt,fun _ hg=>qAo h.wts.row hg,fun _ hg=>qAo h.trc.row hg⟩
theorem qEV.ne (h : qEV w K b gl cap ex vw vt us ut s) : b ≠ K ∧ b ≠ gl ∧ K ≠ gl ∧ (∀ g,vw.ownBlock = some g → g ≠ b ∧ g ≠ K ∧ g ≠ gl) ∧ (∀ g,vt.ownBlock = some g → g ≠ b ∧ g ≠ K ∧ g ≠ gl) ∧
 (∀ u ∈ us,∀ g,u.ownBlock = some g → g ≠ b ∧ g ≠ K ∧ g ≠ gl ∧ vw.ownBlock ≠ some g ∧ vt.ownBlock ≠ some g) ∧ (∀ u ∈ ut,∀ g,u.ownBlock = some g → g ≠ b ∧ g ≠ K ∧ g ≠ gl ∧ vw.ownBlock ≠ some g ∧ vt.ownBlock ≠ some g):=by
 have hu : ∀ g cur,Blk w g cur 5 → g ≠ b ∧ g ≠ K ∧ vw.ownBlock ≠ some g ∧ vt.ownBlock ≠ some g:=fun g cur hc=>by
  refine ⟨qAC hc h.pw (by decide),qAC hc h.blk (by decide),fun e=>?_,fun e=>?_⟩
  · obtain ⟨c2,h2⟩:=qAp h.wts.row e
    exact qAC hc h2 (by decide) rfl
  · obtain ⟨c2,h2⟩:=qAp h.trc.row e
    exact qAC hc h2 (by decide) rfl
 refine ⟨qAC h.pw h.blk (by decide),qAC h.pw h.lst (by decide),qAC h.blk h.lst (by decide),fun g hg=>?_,fun g hg=>?_,fun u hu' g hg=>?_,fun u hu' g hg=>?_⟩
 · obtain ⟨c,hc⟩:=qAp h.wts.row hg
   exact ⟨qAC hc h.pw (by decide),qAC hc h.blk (by decide),qAC hc h.lst (by decide)⟩
 · obtain ⟨c,hc⟩:=qAp h.trc.row hg
   exact ⟨qAC hc h.pw (by decide),qAC hc h.blk (by decide),qAC hc h.lst (by decide)⟩
 · obtain ⟨c,hc⟩:=h.wts.blk hu' hg
   obtain ⟨h1,h2,h3,h4⟩:=hu g c hc
   exact ⟨h1,h2,fun e=>h.wne u hu' (by rw [hg,e]),h3,h4⟩
 · obtain ⟨c,hc⟩:=h.trc.blk hu' hg
   obtain ⟨h1,h2,h3,h4⟩:=hu g c hc
   exact ⟨h1,h2,fun e=>h.tne u hu' (by rw [hg,e]),h3,h4⟩
end
theorem qK8.chgL {row : Option Nat} {k : Nat} {e : TypeId} {w w' : World} (h : qK8 row k e w w') : Chg row.toList w w' :=
 ⟨h.os,h.tape,h.output,h.size,fun i hi hn=>by
  rcases h.block i hi with hs | ⟨hr',_⟩
  · exact hs
  · exact absurd (by rw [hr'];simp) hn⟩
theorem qAx {w : World} {B n size : Nat} {e : TypeId} {v : Value} {xs : List Value} (h : w.ownsRow B e size v n xs) (hn : 0 < n) : ∃ g cap,v = .slice (some ⟨g,0,none⟩) n cap:=by
 rcases h.2 with ⟨_,h0⟩ | ⟨g',cap,cur,rfl,_⟩
 · omega
 · exact ⟨g',cap,rfl⟩
section
variable {w w6 : World} {K b gl cap : Nat} {ex : List Value} {vw vt v6 u6 : Value} {us ut : List Value} {s : Sd} {x : Wr} {A : Nat → Prop}
theorem qAs {v : Value} {g : Nat} : g ∈ v.ownBlock.toList ↔ v.ownBlock = some g:=by simp [Option.mem_toList]
theorem qEV.pushW (X : qEV w K b gl cap ex vw vt us ut s) (hc : Chg vw.ownBlock.toList w w6) (hrow : w6.ownsRow 0 133 2 v6 (s.waits.length + 1) (qBF s.waits us ++ [.int .i64 x.1,u6]))
 (hu : w6.ownsRow w.heap.size 5 1 u6 x.2.length (qA1 x.2)) (hv : ∀ g,v6.ownBlock = some g → vw.ownBlock = some g ∨ w.heap.size ≤ g) :
 qEV (w6.setCell ⟨K,2,none⟩ v6) K b gl cap ex v6 vt (us ++ [u6]) ut { s with waits:=s.waits ++ [x] }:=by
 obtain ⟨n1,n2,n3,n4,n5,n6,n7⟩:=X.ne
 obtain ⟨l1,l2,l3,l4,l5⟩:=X.low
 have hq : Chg [K] w6 (w6.setCell ⟨K,2,none⟩ v6):=Chg.step (by simp) _
 have hKv : K ∉ vw.ownBlock.toList:=fun h=>(n4 K (qAs.1 h)).2.1 rfl
 have hbv : b ∉ vw.ownBlock.toList:=fun h=>(n4 b (qAs.1 h)).1 rfl
 have hgv : gl ∉ vw.ownBlock.toList:=fun h=>(n4 gl (qAs.1 h)).2.2 rfl
 have bK:=(hc.blk X.blk hKv)
 have kind : ∀ g cur,Blk w6 g cur 5 → g ∉ [K]:=fun g cur h=>by simpa using qAC h bK (by decide)
 have kindO : ∀ g cur,Blk w6 g cur 133 → g ∉ [K]:=fun g cur h=>by simpa using qAC h bK (by decide)
 have tr6 : qAY w6 vt s.trace ut:=X.trc.chg hc (fun g hg h=>X.wt g (qAs.1 h) hg) (fun u hu g hg h=>(n7 u hu g hg).2.2.2.1 (qAs.1 h))
 have wt6 : ∀ (i : Nat) (y : Wr) (u : Value),s.waits[i]? = some y → us[i]? = some u → w6.ownsRow 0 5 1 u y.2.length (qA1 y.2):=fun i y u hy hu' =>
  qAK (X.wts.each i y u hy hu') hc fun g hg h=>(n6 u (List.mem_of_getElem? hu') g hg).2.2.2.1 (qAs.1 h)
 refine ⟨?_,hq.blk (hc.blk X.pw hbv) (by simpa using n1),hq.blk (hc.blk X.lst hgv) (by simpa using n3.symm),X.hcap,X.most,?_,?_,?_,X.tne,?_⟩
 · simpa using bK.set 2 v6
 · refine ⟨?_,by simp [X.wts.len],fun i y u hy hu'=>?_⟩
   · rw [qCZ _ _ _ _ X.wts.len]
     have : w6.ownsRow 0 133 2 v6 (s.waits ++ [x]).length (qBF s.waits us ++ [.int .i64 x.1,u6]):=by simpa using hrow
     refine qAK this hq fun g hg=>?_
     obtain ⟨c,hc'⟩:=qAp this hg
     exact kindO g c hc'
   · have key : w6.ownsRow 0 5 1 u y.2.length (qA1 y.2):=by
      by_cases hi : i < s.waits.length
      · rw [List.getElem?_append_left (by rw [X.wts.len];exact hi)] at hu'
        rw [show (s.waits ++ [x])[i]? = s.waits[i]? from List.getElem?_append_left hi] at hy
        exact wt6 i y u hy hu'
      · have hil:=(List.getElem?_eq_some_iff.1 hy).1
        simp only [List.length_append,List.length_singleton] at hil
        have hi' : i = s.waits.length:=by omega
        subst hi'
        have hy' : some x = some y:=by simpa using hy
        rw [← X.wts.len] at hu'
        have hu2 : some u6 = some u:=by simpa using hu'
        cases hy';cases hu2
        exact qAg hu (Nat.zero_le _)
     refine qAK key hq fun g hg=>?_
     obtain ⟨c,hc'⟩:=qAp key hg
     exact kind g c hc'
 · refine tr6.chg hq (fun g hg=>?_) (fun u hu' g hg=>?_)
   · obtain ⟨c,hc'⟩:=qAp tr6.row hg
     exact kindO g c hc'
   · obtain ⟨c,hc'⟩:=tr6.blk hu' hg
     exact kind g c hc'
 · intro u hu' e
   rcases List.mem_append.1 hu' with h | h
   · exact X.wne u h e
   · rw [List.mem_singleton.1 h] at e
     have:=qAM hu e
     omega
 · intro g hg e
   rcases hv g hg with h | h
   · exact X.wt g h e
   · have:=l5 g e
     omega
theorem qEV.pushT (X : qEV w K b gl cap ex vw vt us ut s) (hc : Chg vt.ownBlock.toList w w6) (hrow : w6.ownsRow 0 133 2 v6 (s.trace.length + 1) (qBF s.trace ut ++ [.int .i64 x.1,u6]))
 (hu : w6.ownsRow w.heap.size 5 1 u6 x.2.length (qA1 x.2)) (hv : ∀ g,v6.ownBlock = some g → vt.ownBlock = some g ∨ w.heap.size ≤ g) :
 qEV (w6.setCell ⟨K,3,none⟩ v6) K b gl cap ex vw v6 us (ut ++ [u6]) { s with trace:=s.trace ++ [x] }:=by
 obtain ⟨n1,n2,n3,n4,n5,n6,n7⟩:=X.ne
 obtain ⟨l1,l2,l3,l4,l5⟩:=X.low
 have hq : Chg [K] w6 (w6.setCell ⟨K,3,none⟩ v6):=Chg.step (by simp) _
 have hKv : K ∉ vt.ownBlock.toList:=fun h=>(n5 K (qAs.1 h)).2.1 rfl
 have hbv : b ∉ vt.ownBlock.toList:=fun h=>(n5 b (qAs.1 h)).1 rfl
 have hgv : gl ∉ vt.ownBlock.toList:=fun h=>(n5 gl (qAs.1 h)).2.2 rfl
 have bK:=(hc.blk X.blk hKv)
 have kind : ∀ g cur,Blk w6 g cur 5 → g ∉ [K]:=fun g cur h=>by simpa using qAC h bK (by decide)
 have kindO : ∀ g cur,Blk w6 g cur 133 → g ∉ [K]:=fun g cur h=>by simpa using qAC h bK (by decide)
 have tr6 : qAY w6 vw s.waits us:=X.wts.chg hc (fun g hg h=>X.wt g hg (qAs.1 h)) (fun u hu g hg h=>(n6 u hu g hg).2.2.2.2 (qAs.1 h))
 have wt6 : ∀ (i : Nat) (y : Wr) (u : Value),s.trace[i]? = some y → ut[i]? = some u → w6.ownsRow 0 5 1 u y.2.length (qA1 y.2):=fun i y u hy hu' =>
  qAK (X.trc.each i y u hy hu') hc fun g hg h=>(n7 u (List.mem_of_getElem? hu') g hg).2.2.2.2 (qAs.1 h)
 refine ⟨?_,hq.blk (hc.blk X.pw hbv) (by simpa using n1),hq.blk (hc.blk X.lst hgv) (by simpa using n3.symm),X.hcap,X.most,?_,?_,X.wne,?_,?_⟩
 · simpa using bK.set 3 v6
 · refine tr6.chg hq (fun g hg=>?_) (fun u hu' g hg=>?_)
   · obtain ⟨c,hc'⟩:=qAp tr6.row hg
     exact kindO g c hc'
   · obtain ⟨c,hc'⟩:=tr6.blk hu' hg
     exact kind g c hc'
 · refine ⟨?_,by simp [X.trc.len],fun i y u hy hu'=>?_⟩
   · rw [qCZ _ _ _ _ X.trc.len]
     have : w6.ownsRow 0 133 2 v6 (s.trace ++ [x]).length (qBF s.trace ut ++ [.int .i64 x.1,u6]):=by simpa using hrow
     refine qAK this hq fun g hg=>?_
     obtain ⟨c,hc'⟩:=qAp this hg
     exact kindO g c hc'
   · have key : w6.ownsRow 0 5 1 u y.2.length (qA1 y.2):=by
      by_cases hi : i < s.trace.length
      · rw [List.getElem?_append_left (by rw [X.trc.len];exact hi)] at hu'
        rw [show (s.trace ++ [x])[i]? = s.trace[i]? from List.getElem?_append_left hi] at hy
        exact wt6 i y u hy hu'
      · have hil:=(List.getElem?_eq_some_iff.1 hy).1
        simp only [List.length_append,List.length_singleton] at hil
        have hi' : i = s.trace.length:=by omega
        subst hi'
        have hy' : some x = some y:=by simpa using hy
        rw [← X.trc.len] at hu'
        have hu2 : some u6 = some u:=by simpa using hu'
        cases hy';cases hu2
        exact qAg hu (Nat.zero_le _)
     refine qAK key hq fun g hg=>?_
     obtain ⟨c,hc'⟩:=qAp key hg
     exact kind g c hc'
 · intro u hu' e
   rcases List.mem_append.1 hu' with h | h
   · exact X.tne u h e
   · rw [List.mem_singleton.1 h] at e
     have:=qAM hu e
     omega
 · intro g hg e
   rcases hv g e with h | h
   · exact X.wt g hg h
   · have:=l4 g hg
     omega
theorem qEV.power (X : qEV w K b gl cap ex vw vt us ut s) {p' : Pw} (hc : Chg [b] w w6) (hp : qCU w6 b p') : qEV w6 K b gl cap ex vw vt us ut { s with p:=p' }:=by
 obtain ⟨n1,n2,n3,n4,n5,n6,n7⟩:=X.ne
 exact ⟨hc.blk X.blk (by simpa using n1.symm),hp,hc.blk X.lst (by simpa using n2.symm),X.hcap,X.most,
  X.wts.chg hc (fun g hg=>by simpa using (n4 g hg).1) (fun u hu g hg=>by simpa using (n6 u hu g hg).1),
  X.trc.chg hc (fun g hg=>by simpa using (n5 g hg).1) (fun u hu g hg=>by simpa using (n7 u hu g hg).1),X.wne,X.tne,X.wt⟩
theorem Off.same (O : Off A K b gl vw vt us ut) (hc : Chg [b] w w6) : qA8 A w w6:=.of_chg hc (by simpa using O.b)
theorem Off.sameW (O : Off A K b gl vw vt us ut) (hc : Chg vw.ownBlock.toList w w6) : qA8 A w w6:=.of_chg hc (fun g hg=>O.vw g (qAs.1 hg))
theorem Off.sameT (O : Off A K b gl vw vt us ut) (hc : Chg vt.ownBlock.toList w w6) : qA8 A w w6:=.of_chg hc (fun g hg=>O.vt g (qAs.1 hg))
theorem Off.sameK (O : Off A K b gl vw vt us ut) (hc : Chg [K] w w6) : qA8 A w w6:=.of_chg hc (by simpa using O.K)
theorem Off.setW (O : Off A K b gl vw vt us ut) (hA : ∀ k,A k → k < w.heap.size) (hv : ∀ g,v6.ownBlock = some g → vw.ownBlock = some g ∨ w.heap.size ≤ g) (hu : ∀ g,u6.ownBlock = some g → w.heap.size ≤ g) : Off A K b gl v6 vt (us ++ [u6]) ut :=
 ⟨O.K,O.b,O.gl,fun g hg ha=>by
  rcases hv g hg with h | h
  · exact O.vw g h ha
  · have:=hA g ha;omega,O.vt,fun u hm g hg ha=>by
  rcases List.mem_append.1 hm with h | h
  · exact O.us u h g hg ha
  · rw [List.mem_singleton.1 h] at hg
    have:=hu g hg;have:=hA g ha;omega,O.ut⟩
theorem Off.setT (O : Off A K b gl vw vt us ut) (hA : ∀ k,A k → k < w.heap.size) (hv : ∀ g,v6.ownBlock = some g → vt.ownBlock = some g ∨ w.heap.size ≤ g) (hu : ∀ g,u6.ownBlock = some g → w.heap.size ≤ g) : Off A K b gl vw v6 us (ut ++ [u6]) :=
 ⟨O.K,O.b,O.gl,O.vw,fun g hg ha=>by
  rcases hv g hg with h | h
  · exact O.vt g h ha
  · have:=hA g ha;omega,O.us,fun u hm g hg ha=>by
  rcases List.mem_append.1 hm with h | h
  · exact O.ut u h g hg ha
  · rw [List.mem_singleton.1 h] at hg
    have:=hu g hg;have:=hA g ha;omega⟩
end
structure Dk where
 p : Pw
 lasts : List (List UInt8)
 waits : List Wr
 trace : List Wr
 no : Bool
def inD (x : Wr) : Prop:=0 ≤ x.1 ∧ x.1.toNat < 32 ∧ x.2.length = 32
structure Dk.ok (d : Dk) (m : Nat) : Prop where
 len : d.lasts.length = 32
 all : ∀ x ∈ d.lasts,x.length = 32
 fit : ∀ x ∈ d.waits,inD x
 fitp : ∀ x ∈ d.trace,x.2.length ≤ 60000
 few : d.waits.length ≤ m
 done : d.trace.length ≤ m
 pw : d.p.ok m
def qBc (b : Nat) (ls : List Value) (vw vt : Value) (r : Bool) : Array Value:=(.pointer (some ⟨b,0,none⟩) :: (ls ++ [vw,vt,.bool r])).toArray
section
variable {b : Nat} {ls : List Value} {vw vt : Value} {r : Bool} (hl : ls.length = 32)
theorem qHj : (qBc b ls vw vt r)[0]? = some (.pointer (some ⟨b,0,none⟩)):=by simp [qBc]
include hl
theorem qCl : (qBc b ls vw vt r)[33]? = some vw:=by
 simp [qBc,hl]
theorem qEr : (qBc b ls vw vt r)[34]? = some vt:=by simp [qBc,hl]
theorem qFP : (qBc b ls vw vt r)[35]? = some (.bool r):=by simp [qBc,hl]
theorem qEs (i : Nat) (hi : i < 32) : (qBc b ls vw vt r)[1 + i]? = ls[i]?:=by
 rw [Nat.add_comm]
 simp [qBc,List.getElem?_append,hl,hi]
theorem qMn (v : Value) : (qBc b ls vw vt r).setIfInBounds 33 v = qBc b ls v vt r:=by
 simp [qBc,hl]
theorem qPP (v : Value) : (qBc b ls vw vt r).setIfInBounds 34 v = qBc b ls vw v r:=by
 simp [qBc,hl]
theorem qPQ (q : Bool) : (qBc b ls vw vt r).setIfInBounds 35 (.bool q) = qBc b ls vw vt q:=by
 simp [qBc,hl]
theorem qMo (i : Nat) (hi : i < 32) (v : Value) : (qBc b ls vw vt r).setIfInBounds (1 + i) v = qBc b (ls.set i v) vw vt r:=by
 rw [Nat.add_comm]
 simp [qBc,hl,hi]
end
structure qBi (w : World) (ls : List Value) (bs : List (List UInt8)) : Prop where
 len : ls.length = bs.length
 each : ∀ (i : Nat) (x : List UInt8) (u : Value),bs[i]? = some x → ls[i]? = some u → w.ownsRow 0 5 1 u x.length (qA1 x)
theorem qBi.chg {w w' : World} {ls : List Value} {xs : List (List UInt8)} {bs : List Nat} (h : qBi w ls xs) (hc : Chg bs w w') (h1 : ∀ u ∈ ls,∀ g,u.ownBlock = some g → g ∉ bs) : qBi w' ls xs :=
 ⟨h.len,fun i x u hx hu=>qAK (h.each i x u hx hu) hc (h1 u (List.mem_of_getElem? hu))⟩
theorem qBi.kept {w w' : World} {ls : List Value} {xs : List (List UInt8)} (h : qBi w ls xs) (hk : qA4 w w') : qBi w' ls xs:=h.chg (bs:=[]) (Chg.of_kept hk) (by simp)
theorem qBi.blk {w : World} {ls : List Value} {xs : List (List UInt8)} (h : qBi w ls xs) {u : Value} (hu : u ∈ ls) {g : Nat} (hg : u.ownBlock = some g) : ∃ cur,Blk w g cur 5:=by
 obtain ⟨i,hi⟩:=List.getElem?_of_mem hu
 have hil : i < ls.length:=(List.getElem?_eq_some_iff.1 hi).1
 rw [h.len] at hil
 exact qAp (h.each i _ u (List.getElem?_eq_getElem hil) hi) hg
theorem qBi.set {w : World} {ls : List Value} {xs : List (List UInt8)} (h : qBi w ls xs) (k : Nat) {x : List UInt8} {u : Value} (hu : w.ownsRow 0 5 1 u x.length (qA1 x)) : qBi w (ls.set k u) (xs.set k x):=by
 refine ⟨by simp [h.len],fun i y v hy hv=>?_⟩
 rw [List.getElem?_set] at hy hv
 by_cases hk : k = i
 · subst hk
   rw [if_pos rfl] at hy hv
   by_cases hl : k < xs.length
   · rw [if_pos hl] at hy
     rw [if_pos (by rw [h.len];exact hl)] at hv
     cases hy;cases hv;exact hu
   · rw [if_neg hl] at hy
     cases hy
 · rw [if_neg hk] at hy hv
   exact h.each i y v hy hv
theorem qBi.get {w : World} {ls : List Value} {xs : List (List UInt8)} (h : qBi w ls xs) (i : Nat) (hi : i < xs.length) : ∃ u,ls[i]? = some u ∧ u ∈ ls ∧ w.ownsRow 0 5 1 u xs[i].length (qA1 xs[i]):=by
 have hu : i < ls.length:=by rw [h.len];exact hi
 exact ⟨ls[i],List.getElem?_eq_getElem hu,List.getElem_mem hu,h.each i _ _ (List.getElem?_eq_getElem hi) (List.getElem?_eq_getElem hu)⟩
structure qDF (w : World) (K b : Nat) (ls : List Value) (vw vt : Value) (us ut : List Value) (d : Dk) : Prop where
 blk : Blk w K (qBc b ls vw vt d.no) 137
 pw : qCU w b d.p
 lst : qBi w ls d.lasts
 wts : qAY w vw d.waits us
 trc : qAY w vt d.trace ut
 wt : ∀ g,vw.ownBlock = some g → vt.ownBlock ≠ some g
structure qFz (A : Nat → Prop) (K b : Nat) (ls : List Value) (vw vt : Value) (us ut : List Value) : Prop where
 K : ¬ A K
 b : ¬ A b
 ls : ∀ u ∈ ls,∀ g,u.ownBlock = some g → ¬ A g
 vw : ∀ g,vw.ownBlock = some g → ¬ A g
 vt : ∀ g,vt.ownBlock = some g → ¬ A g
 us : ∀ u ∈ us,∀ g,u.ownBlock = some g → ¬ A g
 ut : ∀ u ∈ ut,∀ g,u.ownBlock = some g → ¬ A g
def qIU (A : Nat → Prop) (w : World) (K b : Nat) (d : Dk) : Prop:=∃ ls vw vt us ut,qDF w K b ls vw vt us ut d ∧ qFz A K b ls vw vt us ut ∧ ∀ k,A k → k < w.heap.size
section
variable {w w' : World} {K b : Nat} {ls : List Value} {vw vt : Value} {us ut : List Value} {d : Dk} {A A' : Nat → Prop}
theorem qDF.kept (h : qDF w K b ls vw vt us ut d) (hk : qA4 w w') : qDF w' K b ls vw vt us ut d :=
 ⟨h.blk.kept hk,Blk.kept h.pw hk,h.lst.kept hk,h.wts.kept hk,h.trc.kept hk,h.wt⟩
theorem qDF.low (h : qDF w K b ls vw vt us ut d) : K < w.heap.size ∧ b < w.heap.size ∧ (∀ g,vw.ownBlock = some g → g < w.heap.size) ∧ (∀ g,vt.ownBlock = some g → g < w.heap.size) :=
 ⟨h.blk.lt,Blk.lt h.pw,fun _ hg=>qAo h.wts.row hg,fun _ hg=>qAo h.trc.row hg⟩
theorem qDF.ne (h : qDF w K b ls vw vt us ut d) : b ≠ K ∧ (∀ g,vw.ownBlock = some g → g ≠ b ∧ g ≠ K) ∧ (∀ g,vt.ownBlock = some g → g ≠ b ∧ g ≠ K) ∧
 (∀ g cur,Blk w g cur 5 → g ≠ b ∧ g ≠ K ∧ vw.ownBlock ≠ some g ∧ vt.ownBlock ≠ some g):=by
 refine ⟨qAC h.pw h.blk (by decide),fun g hg=>?_,fun g hg=>?_,fun g cur hc=>⟨qAC hc h.pw (by decide),qAC hc h.blk (by decide),fun e=>?_,fun e=>?_⟩⟩
 · obtain ⟨c,hc⟩:=qAp h.wts.row hg
   exact ⟨qAC hc h.pw (by decide),qAC hc h.blk (by decide)⟩
 · obtain ⟨c,hc⟩:=qAp h.trc.row hg
   exact ⟨qAC hc h.pw (by decide),qAC hc h.blk (by decide)⟩
 · obtain ⟨c2,h2⟩:=qAp h.wts.row e
   exact qAC hc h2 (by decide) rfl
 · obtain ⟨c2,h2⟩:=qAp h.trc.row e
   exact qAC hc h2 (by decide) rfl
theorem qDF.chgB {bs : List Nat} (X : qDF w K b ls vw vt us ut d) (hc : Chg bs w w') (hk : ∀ g ∈ bs,g = K ∨ g = b) :
 qBi w' ls d.lasts ∧ qAY w' vw d.waits us ∧ qAY w' vt d.trace ut:=by
 obtain ⟨n1,n2,n3,n4⟩:=X.ne
 have nb : ∀ g cur,Blk w g cur 5 → g ∉ bs:=fun g cur h hm=>by
  have:=n4 g cur h
  rcases hk g hm with e | e
  · exact this.2.1 e
  · exact this.1 e
 refine ⟨X.lst.chg hc (fun u hu g hg=>?_),X.wts.chg hc (fun g hg hm=>?_) (fun u hu g hg=>?_),X.trc.chg hc (fun g hg hm=>?_) (fun u hu g hg=>?_)⟩
 · obtain ⟨c,hc'⟩:=X.lst.blk hu hg
   exact nb g c hc'
 · have:=n2 g hg
   rcases hk g hm with e | e
   · exact this.2 e
   · exact this.1 e
 · obtain ⟨c,hc'⟩:=X.wts.blk hu hg
   exact nb g c hc'
 · have:=n3 g hg
   rcases hk g hm with e | e
   · exact this.2 e
   · exact this.1 e
 · obtain ⟨c,hc'⟩:=X.trc.blk hu hg
   exact nb g c hc'
theorem qDF.power (X : qDF w K b ls vw vt us ut d) {p' : Pw} (hc : Chg [b] w w') (hp : qCU w' b p') : qDF w' K b ls vw vt us ut { d with p:=p' }:=by
 obtain ⟨h1,h2,h3⟩:=X.chgB hc (by simp)
 exact ⟨hc.blk X.blk (by simpa using X.ne.1.symm),hp,h1,h2,h3,X.wt⟩
end
theorem qAY.push {w w6 : World} {v v6 u6 : Value} {l : List Wr} {us : List Value} {x : Wr} (h : qAY w v l us) (hc : Chg v.ownBlock.toList w w6) (hrow : w6.ownsRow 0 133 2 v6 (l.length + 1) (qBF l us ++ [.int .i64 x.1,u6]))
 (hu : w6.ownsRow 0 5 1 u6 x.2.length (qA1 x.2)) : qAY w6 v6 (l ++ [x]) (us ++ [u6]):=by
 refine ⟨?_,by simp [h.len],fun i y u hy hu'=>?_⟩
 · rw [qCZ _ _ _ _ h.len]
   simpa using hrow
 · by_cases hi : i < l.length
   · rw [List.getElem?_append_left (by rw [h.len];exact hi)] at hu'
     rw [show (l ++ [x])[i]? = l[i]? from List.getElem?_append_left hi] at hy
     exact qAK (h.each i y u hy hu') hc fun g hg hm=>by
      obtain ⟨c,hc'⟩:=h.blk (List.mem_of_getElem? hu') hg
      obtain ⟨c2,hc2⟩:=qAp h.row (qAs.1 hm)
      exact qAC hc' hc2 (by decide) rfl
   · have hil:=(List.getElem?_eq_some_iff.1 hy).1
     simp only [List.length_append,List.length_singleton] at hil
     have hi' : i = l.length:=by omega
     subst hi'
     have hy' : some x = some y:=by simpa using hy
     rw [← h.len] at hu'
     have hu2 : some u6 = some u:=by simpa using hu'
     cases hy';cases hu2
     exact hu
section
variable {w w' w6 : World} {K b : Nat} {ls : List Value} {vw vt v6 u6 : Value} {us ut : List Value} {d : Dk} {x : Wr} {A : Nat → Prop}
theorem qAt {g n B size : Nat} {cs : Array Value} {e t : TypeId} {v : Value} {xs : List Value} (h : w.ownsRow B e size v n xs) (hc : Chg [g] w w') (hg : Blk w g cs t) (hne : e ≠ t) : w'.ownsRow B e size v n xs :=
 qAK h hc fun k hk hm=>by
  obtain ⟨c,hc'⟩:=qAp h hk
  exact qAC hc' hg hne (List.mem_singleton.1 hm)
theorem qAY.kind {g : Nat} {cs : Array Value} {t : TypeId} {v : Value} {l : List Wr} {us : List Value} (h : qAY w v l us) (hc : Chg [g] w w') (hg : Blk w g cs t) (h1 : 133 ≠ t) (h2 : 5 ≠ t) : qAY w' v l us :=
 ⟨qAt h.row hc hg h1,h.len,fun i x u hx hu=>qAt (h.each i x u hx hu) hc hg h2⟩
theorem qBi.kind {g : Nat} {cs : Array Value} {t : TypeId} {ls : List Value} {l : List (List UInt8)} (h : qBi w ls l) (hc : Chg [g] w w') (hg : Blk w g cs t) (h2 : 5 ≠ t) : qBi w' ls l :=
 ⟨h.len,fun i x u hx hu=>qAt (h.each i x u hx hu) hc hg h2⟩
theorem qBS {v : Value} {g n size : Nat} {cs : Array Value} {e t : TypeId} {xs : List Value} (h : w.ownsRow 0 e size v n xs) (hg : Blk w g cs t) (hne : t ≠ e) : g ∉ v.ownBlock.toList:=fun hm=>by
 obtain ⟨c,hc⟩:=qAp h (qAs.1 hm)
 exact qAC hg hc hne rfl
theorem qAY.row' {v : Value} {l : List Wr} {us : List Value} (h : qAY w v l us) (hc : Chg vw.ownBlock.toList w w') {m size : Nat} {xs : List Value} (hw : w.ownsRow 0 133 size vw m xs) (hn : ∀ g,vw.ownBlock = some g → v.ownBlock ≠ some g) : qAY w' v l us :=
 h.chg hc (fun g hg hm=>hn g (qAs.1 hm) hg) (fun u hu g hg=>by
  obtain ⟨c,hc'⟩:=h.blk hu hg
  exact qBS hw hc' (by decide))
theorem qBi.row' {l : List (List UInt8)} (h : qBi w ls l) (hc : Chg vw.ownBlock.toList w w') {m size : Nat} {xs : List Value} (hw : w.ownsRow 0 133 size vw m xs) : qBi w' ls l :=
 h.chg hc (fun u hu g hg=>by
  obtain ⟨c,hc'⟩:=h.blk hu hg
  exact qBS hw hc' (by decide))
theorem qDF.pushW (X : qDF w K b ls vw vt us ut d) (hl : ls.length = 32) (hc : Chg vw.ownBlock.toList w w6) (hrow : w6.ownsRow 0 133 2 v6 (d.waits.length + 1) (qBF d.waits us ++ [.int .i64 x.1,u6]))
 (hu : w6.ownsRow w.heap.size 5 1 u6 x.2.length (qA1 x.2)) (hv : ∀ g,v6.ownBlock = some g → vw.ownBlock = some g ∨ w.heap.size ≤ g) :
 qDF (w6.setCell ⟨K,33,none⟩ v6) K b ls v6 vt (us ++ [u6]) ut { d with waits:=d.waits ++ [x] }:=by
 have hq : Chg [K] w6 (w6.setCell ⟨K,33,none⟩ v6):=Chg.step (by simp) _
 have bK:=hc.blk X.blk (qBS X.wts.row X.blk (by decide))
 refine ⟨?_,hq.blk (hc.blk X.pw (qBS X.wts.row X.pw (by decide))) (by simpa using X.ne.1),(X.lst.row' hc X.wts.row).kind hq bK (by decide),(X.wts.push hc hrow (qAg hu (Nat.zero_le _))).kind hq bK (by decide) (by decide),(X.trc.row' hc X.wts.row X.wt).kind hq bK (by decide) (by decide),fun g hg=>?_⟩
 · have:=bK.set 33 v6
   rwa [qMn hl] at this
 · rcases hv g hg with h | h
   · exact X.wt g h
   · intro e
     have:=X.low.2.2.2 g e
     omega
theorem qDF.pushT (X : qDF w K b ls vw vt us ut d) (hl : ls.length = 32) (hc : Chg vt.ownBlock.toList w w6) (hrow : w6.ownsRow 0 133 2 v6 (d.trace.length + 1) (qBF d.trace ut ++ [.int .i64 x.1,u6]))
 (hu : w6.ownsRow 0 5 1 u6 x.2.length (qA1 x.2)) (hv : ∀ g,v6.ownBlock = some g → vt.ownBlock = some g ∨ w.heap.size ≤ g) :
 qDF (w6.setCell ⟨K,34,none⟩ v6) K b ls vw v6 us (ut ++ [u6]) { d with trace:=d.trace ++ [x] }:=by
 have hq : Chg [K] w6 (w6.setCell ⟨K,34,none⟩ v6):=Chg.step (by simp) _
 have bK:=hc.blk X.blk (qBS X.trc.row X.blk (by decide))
 refine ⟨?_,hq.blk (hc.blk X.pw (qBS X.trc.row X.pw (by decide))) (by simpa using X.ne.1),(X.lst.row' hc X.trc.row).kind hq bK (by decide),(X.wts.row' hc X.trc.row (fun g h1 h2=>X.wt g h2 h1)).kind hq bK (by decide) (by decide),(X.trc.push hc hrow hu).kind hq bK (by decide) (by decide),fun g hg e=>?_⟩
 · have:=bK.set 34 v6
   rwa [qPP hl] at this
 · rcases hv g e with h | h
   · exact X.wt g hg h
   · have:=X.low.2.2.1 g hg
     omega
theorem qDF.lay (X : qDF w K b ls vw vt us ut d) (hl : ls.length = 32) (i : Nat) (hi : i < 32) {y : List UInt8} {u : Value} (hu : w.ownsRow 0 5 1 u y.length (qA1 y)) :
 qDF (w.setCell ⟨K,1 + i,none⟩ u) K b (ls.set i u) vw vt us ut { d with lasts:=d.lasts.set i y }:=by
 have hq : Chg [K] w (w.setCell ⟨K,1 + i,none⟩ u):=Chg.step (by simp) _
 refine ⟨?_,hq.blk X.pw (by simpa using X.ne.1),(X.lst.set i hu).kind hq X.blk (by decide),X.wts.kind hq X.blk (by decide) (by decide),X.trc.kind hq X.blk (by decide) (by decide),X.wt⟩
 have:=X.blk.set (1 + i) u
 rwa [qMo hl i hi] at this
theorem qDF.clear (X : qDF w K b ls vw vt us ut d) (hl : ls.length = 32) : qDF (w.setCell ⟨K,33,none⟩ (.slice none 0 0)) K b ls (.slice none 0 0) vt [] ut { d with waits:=[] }:=by
 have hq : Chg [K] w (w.setCell ⟨K,33,none⟩ (.slice none 0 0)):=Chg.step (by simp) _
 refine ⟨?_,hq.blk X.pw (by simpa using X.ne.1),X.lst.kind hq X.blk (by decide),qAY.nil _,X.trc.kind hq X.blk (by decide) (by decide),fun g hg=>by cases hg⟩
 have:=X.blk.set 33 (.slice none 0 0)
 rwa [qMn hl] at this
theorem qDF.refuse (X : qDF w K b ls vw vt us ut d) (hl : ls.length = 32) (q : Bool) : qDF (w.setCell ⟨K,35,none⟩ (.bool q)) K b ls vw vt us ut { d with no:=q }:=by
 have hq : Chg [K] w (w.setCell ⟨K,35,none⟩ (.bool q)):=Chg.step (by simp) _
 refine ⟨?_,hq.blk X.pw (by simpa using X.ne.1),X.lst.kind hq X.blk (by decide),X.wts.kind hq X.blk (by decide) (by decide),X.trc.kind hq X.blk (by decide) (by decide),X.wt⟩
 have:=X.blk.set 35 (.bool q)
 rwa [qPQ hl] at this
theorem qFz.same (O : qFz A K b ls vw vt us ut) (hc : Chg [b] w w6) : qA8 A w w6:=.of_chg hc (by simpa using O.b)
theorem qFz.sameK (O : qFz A K b ls vw vt us ut) (hc : Chg [K] w w6) : qA8 A w w6:=.of_chg hc (by simpa using O.K)
theorem qFz.sameW (O : qFz A K b ls vw vt us ut) (hc : Chg vw.ownBlock.toList w w6) : qA8 A w w6:=.of_chg hc (fun g hg=>O.vw g (qAs.1 hg))
theorem qFz.sameT (O : qFz A K b ls vw vt us ut) (hc : Chg vt.ownBlock.toList w w6) : qA8 A w w6:=.of_chg hc (fun g hg=>O.vt g (qAs.1 hg))
theorem qFz.setW (O : qFz A K b ls vw vt us ut) (hA : ∀ k,A k → k < w.heap.size) (hv : ∀ g,v6.ownBlock = some g → vw.ownBlock = some g ∨ w.heap.size ≤ g) (hu : ∀ g,u6.ownBlock = some g → w.heap.size ≤ g) : qFz A K b ls v6 vt (us ++ [u6]) ut :=
 ⟨O.K,O.b,O.ls,fun g hg ha=>by
  rcases hv g hg with h | h
  · exact O.vw g h ha
  · have:=hA g ha;omega,O.vt,fun u hm g hg ha=>by
  rcases List.mem_append.1 hm with h | h
  · exact O.us u h g hg ha
  · rw [List.mem_singleton.1 h] at hg
    have:=hu g hg;have:=hA g ha;omega,O.ut⟩
theorem qFz.setT (O : qFz A K b ls vw vt us ut) (hA : ∀ k,A k → k < w.heap.size) (hv : ∀ g,v6.ownBlock = some g → vt.ownBlock = some g ∨ w.heap.size ≤ g) (hu : ∀ g,u6.ownBlock = some g → w.heap.size ≤ g) : qFz A K b ls vw v6 us (ut ++ [u6]) :=
 ⟨O.K,O.b,O.ls,O.vw,fun g hg ha=>by
  rcases hv g hg with h | h
  · exact O.vt g h ha
  · have:=hA g ha;omega,O.us,fun u hm g hg ha=>by
  rcases List.mem_append.1 hm with h | h
  · exact O.ut u h g hg ha
  · rw [List.mem_singleton.1 h] at hg
    have:=hu g hg;have:=hA g ha;omega⟩
theorem qFz.lay (O : qFz A K b ls vw vt us ut) (i : Nat) {u : Value} (hu : ∀ g,u.ownBlock = some g → ¬ A g) : qFz A K b (ls.set i u) vw vt us ut :=
 ⟨O.K,O.b,fun v hv g hg=>by
  rcases List.mem_or_eq_of_mem_set hv with h | h
  · exact O.ls v h g hg
  · rw [h] at hg;exact hu g hg,O.vw,O.vt,O.us,O.ut⟩
theorem qFz.clear (O : qFz A K b ls vw vt us ut) : qFz A K b ls (.slice none 0 0) vt [] ut:=⟨O.K,O.b,O.ls,(fun g hg=>by cases hg),O.vt,(by simp),O.ut⟩
end
theorem qGK : SlT prog 128 133 2 32 (.agg #[.int .i64 0,.slice none 0 0]):=SlT.mk' underlying128 (by kernel_rfl) rfl (by omega)
theorem qL5 {w : World} {B B' n g : Nat} {e t : TypeId} {v : Value} {xs : List Value} {cs : Array Value} {p q : Value} (h : w.ownsRow B e 1 v n xs) (hb : Blk w g cs t) (hne : e ≠ t) (hB : B' ≤ B) : ((w.setCell ⟨g,0,none⟩ p).setCell ⟨g,1,none⟩ q).ownsRow B' e 1 v n xs:=by
 refine qAg ?_ hB
 have hc : Chg [g] w ((w.setCell ⟨g,0,none⟩ p).setCell ⟨g,1,none⟩ q):=((Chg.refl [g] w).set (by simp) 0 p).set (by simp) 1 q
 refine qAK h hc fun g' hg'=>?_
 obtain ⟨c,hc'⟩:=qAp h hg'
 simpa using qAC hc' hb hne
theorem qGL (off : Int) (u : Value) (bs : List UInt8) (hl : bs.length ≤ 65536) (w : World) (hs : Sl w u bs.length (qA1 bs)) : Calls prog 179 #[.agg #[.int .i64 off,u]] w fun e w'=>∃ a c,e = .returned (.agg #[.int .i64 off,.slice a bs.length c]) ∧ w'.ownsRow w.heap.size 5 1 (.slice a bs.length c) bs.length (qA1 bs) ∧ qA4 w w':=by
 obtain ⟨a,c,he⟩:=hs.len
 subst he
 have hk0 : qA4 w ((w.alloc (.cells #[.int .i64 off,.slice a bs.length c] 133)).alloc (.cells #[.int .i64 0,.slice none 0 0] 133)):=(qal _).alloc (by simp) _
 have hA : Blk ((w.alloc (.cells #[.int .i64 off,.slice a bs.length c] 133)).alloc (.cells #[.int .i64 0,.slice none 0 0] 133)) w.heap.size #[.int .i64 off,.slice a bs.length c] 133:=(Blk.new _ _ _).alloc _
 have hB : Blk ((w.alloc (.cells #[.int .i64 off,.slice a bs.length c] 133)).alloc (.cells #[.int .i64 0,.slice none 0 0] 133)) (w.heap.size + 1) #[.int .i64 0,.slice none 0 0] 133:=by simpa using Blk.new (w.alloc (.cells #[.int .i64 off,.slice a bs.length c] 133)) #[.int .i64 0,.slice none 0 0] 133
 go_enter func179,ntmps179
 go_wp2_with fail
 generalize ((w.alloc (.cells #[.int .i64 off,.slice a bs.length c] 133)).alloc (.cells #[.int .i64 0,.slice none 0 0] 133)) = w0 at *
 refine qA5 [(0,0),(1,0),(2,0),(3,0),(4,1),(5,0),(6,2)] (by kernel_rfl) (by kernel_rfl) ?_
 intro w1 hw1
 replace hA:=hA.kept hw1
 replace hB:=hB.kept hw1
 repeat
  refine qA0 _ rfl (fun K hK=>?_)
  first
   | (refine qqP (by rfl) ?_;apply Exists.intro;refine ⟨fun w' hw'=>?_,hK _ ?_⟩;(have c:=hA.kept hw';have c0:=c.cell 0;have c1:=c.cell 1;clear c;go_simp;first|done|rfl))
   | refine qqN (by rfl) (hK _ ?_)
  clear hK K;simp only [Act.put,qqB]
 refine qqH _ rfl (by rfl) (fun K hK=>?_)
 go_wp2_with fail
 refine (qAV _ bs (by omega) _ ((hs.kept hk0).kept hw1)).mono ?_
 rintro e w2 ⟨v2,rfl,ho,hk2⟩
 replace hB:=hB.kept hk2
 obtain ⟨a2,c2,he⟩:=(Sl.of_own ho).len
 subst he
 go_wp2
 refine hK _ _ (hk2) ?_
 clear hK K
 try simp only [Act.put,qqB]
 repeat
  refine qA0 _ rfl (fun K hK=>?_)
  first
   | (refine qqP (by rfl) ?_;apply Exists.intro;refine ⟨fun w' hw'=>?_,hK _ ?_⟩;go_simp;first|done|rfl)
   | refine qqN (by rfl) (hK _ ?_)
  clear hK K;simp only [Act.put,qqB]
 refine qAh _ rfl (fun K hK=>?_)
 refine qqP (by rfl) ?_
 have f0:=hB.free 0
 have f1:=hB.free 1
 have e0:=hB.cell 0
 have e1:=hB.cell 1
 go_wp2
 refine qA7 ?_
 go_wp2
 have d:=(hB.set 0 (.int .i64 off)).set 1 (.slice a2 bs.length c2)
 have d0:=d.cell 0
 have d1:=d.cell 1
 refine bodyPost_ret (v:=.agg #[.int .i64 off,.slice a2 bs.length c2]) (by simp [results,results179,go_sem,d0,d1];try exact ⟨rfl,rfl⟩) rfl ⟨a2,c2,rfl,?_,?_⟩
 · exact qL5 ho hB (by decide) (by have:=hk0.size;have:=hw1.size;omega)
 · exact ((qA4.of (qA4.of hk0 hw1) hk2).setCell (p:=⟨w.heap.size + 1,0,none⟩) (by show w.heap.size ≤ w.heap.size + 1;omega) _).setCell (p:=⟨w.heap.size + 1,1,none⟩) (by show w.heap.size ≤ w.heap.size + 1;omega) _
theorem qDG (K : Nat) (a : Option Addr) (L c : Nat) (w : World) (h : w.cell? ⟨K,1,none⟩ = some (.slice a L c)) : Calls prog 85 #[.pointer (some ⟨K,0,none⟩)] w fun e w'=>e = .returned (.int .i64 L) ∧ w = w':=by
 go_enter func85,ntmps85
 go_wp2
 go_ret
 exact ⟨rfl,rfl⟩
def isB (L : Nat) (off n : Int) : Bool:=decide (0 ≤ off) && decide (0 ≤ n) && decide (off ≤ L) && decide (n ≤ L - off)
theorem qCP (K : Nat) (a : Option Addr) (L c : Nat) (hL : L ≤ 100000) (off n : Int) (w : World) (h : w.cell? ⟨K,1,none⟩ = some (.slice a L c)) : Calls prog 53 #[.pointer (some ⟨K,0,none⟩),.int .i64 off,.int .i64 n] w fun e w'=>e = .returned (.bool (isB L off n)) ∧ w = w':=by
 by_cases h1 : 0 ≤ off
 · by_cases h2 : 0 ≤ n
   · by_cases h3 : off ≤ L
     · have hw : IntKind.i64.wrap ((L : Int) - off) = (L : Int) - off:=IntWalk.i64_in _ (by omega)
       by_cases h4 : n ≤ (L : Int) - off
       · rw [show isB L off n = true by simp [isB];omega]
         go_enter func53,ntmps53
         go_wp2_with fail
         refine (qDG K a L c _ h).mono ?_
         rintro e w1 ⟨rfl,rfl⟩
         go_wp2_with fail
         refine (qDG K a L c _ h).mono ?_
         rintro e w1 ⟨rfl,rfl⟩
         go_wp2
         go_ret
         exact ⟨congrArg (fun b=>Ending.returned (Value.bool b)) (by first | rfl | exact decide_eq_false (by omega) | exact decide_eq_true (by omega)),rfl⟩
       · rw [show isB L off n = false by simp [isB];omega]
         go_enter func53,ntmps53
         go_wp2_with fail
         refine (qDG K a L c _ h).mono ?_
         rintro e w1 ⟨rfl,rfl⟩
         go_wp2_with fail
         refine (qDG K a L c _ h).mono ?_
         rintro e w1 ⟨rfl,rfl⟩
         go_wp2
         go_ret
         exact ⟨congrArg (fun b=>Ending.returned (Value.bool b)) (by first | rfl | exact decide_eq_false (by omega) | exact decide_eq_true (by omega)),rfl⟩
     · rw [show isB L off n = false by simp [isB];omega]
       go_enter func53,ntmps53
       go_wp2_with fail
       refine (qDG K a L c _ h).mono ?_
       rintro e w1 ⟨rfl,rfl⟩
       go_wp2
       go_ret
       exact ⟨rfl,rfl⟩
   · rw [show isB L off n = false by simp [isB];omega]
     go_enter func53,ntmps53
     go_wp2
     go_ret
     exact ⟨rfl,rfl⟩
 · rw [show isB L off n = false by simp [isB];omega]
   go_enter func53,ntmps53
   go_wp2
   go_ret
   exact ⟨rfl,rfl⟩
theorem qMp (n : Nat) (h0 : 0 < n) (hn : n ≤ 65536) (b : Nat) (p : Pw) (A : Nat → Prop) (w : World) (hA : ∀ k,A k → k < w.heap.size) (hb : ¬ A b) (hp : qCU w b p) : Calls prog 37 #[.int .i64 n,.pointer (some ⟨b,0,none⟩)] w fun e w'=>∃ K,e = .returned (.pointer (some ⟨K,0,none⟩)) ∧ qGr A w' K b ⟨p,List.replicate n 0,[],[]⟩ ∧ qA4 w w':=by
 have i0 : ¬ (n : Int) < 0:=by omega
 have i1 : ¬ 65536 < (n : Int):=by omega
 have i2 : (0 : Int) ≤ (n : Int):=by omega
 have i3 : (n : Int) ≤ 65536:=by omega
 obtain ⟨Z,hZ⟩ : ∃ Z,Z = List.replicate n (0 : UInt8):=⟨_,rfl⟩
 have hzl : Z.length = n:=by rw [hZ];simp
 have hmk : (Instr.makeSlice 32 (.int .i64 (n : Int)) (.int .i64 (n : Int))).run prog w = .ok (.slice (some ⟨w.heap.size,0,none⟩) n n) (w.alloc (.cells (qA1 Z).toArray 5)):=by rw [hZ];exact qBR (P:=prog) w qAw .i64 .i64 n (by omega)
 rw [← hZ]
 have HZL:=qh hzl
 clear hZ hzl
 go_enter func37,ntmps37
 go_wp2
 go_ret
 have hk : qA4 w ((w.alloc (.cells (qA1 Z).toArray 5)).alloc (.cells #[.pointer (some ⟨b,0,none⟩),.slice (some ⟨w.heap.size,0,none⟩) n n,.slice none 0 0,.slice none 0 0] 130)):=(qal _).alloc (by simp) _
 refine ⟨_,rfl,⟨w.heap.size,n,[],.slice none 0 0,.slice none 0 0,[],[],⟨?_,Blk.kept hp hk,?_,by show Z.length + 0 = n;rw [HZL.out,Nat.add_zero],by unfold maxLen;omega,qAY.nil _,qAY.nil _,by simp,by simp,(by intro g hg;cases hg)⟩,⟨?_,hb,?_,(by intro g hg;cases hg),(by intro g hg;cases hg),by simp,by simp⟩,fun k ha=>Nat.lt_of_lt_of_le (hA k ha) hk.size⟩,hk⟩
 · have:=Blk.new (w.alloc (.cells (qA1 Z).toArray 5)) #[.pointer (some ⟨b,0,none⟩),.slice (some ⟨w.heap.size,0,none⟩) n n,.slice none 0 0,.slice none 0 0] 130
   rw [show (w.alloc (.cells (qA1 Z).toArray 5)).heap.size = w.heap.size + 1 by simp] at this
   show Blk _ _ #[_,.slice _ Z.length _,_,_] _
   rw [HZL.out]
   exact this
 · have:=(Blk.new w (qA1 Z).toArray 5).alloc (.cells #[.pointer (some ⟨b,0,none⟩),.slice (some ⟨w.heap.size,0,none⟩) n n,.slice none 0 0,.slice none 0 0] 130)
   simpa using this
 · intro ha;have:=hA _ ha;omega
 · intro ha;have:=hA _ ha;omega
def Sd.wrote (s : Sd) (r : Bool) (p' : Pw) (x : Wr) : Sd:=if r then ⟨p',s.lasts,s.waits ++ [x],s.trace ++ [x]⟩ else { s with p:=p' }
theorem qPi {n : Nat} {x : Wr} (h : inB n x) : isB n x.1 x.2.length = true:=by
 obtain ⟨h1,h2⟩:=h
 simp [isB];omega
theorem qMq (A : Nat → Prop) (K b : Nat) (s : Sd) (n m : Nat) (hn : n ≤ 65536) (hm : m ≤ 100000) (w : World) (h : qGr A w K b s) (ok : s.ok n m) (off : Int) (u : Value) (bs : List UInt8) (hin : inB n (off,bs)) (hs : Sl w u bs.length (qA1 bs)) (hu : ∀ a c,u = .slice (some a) bs.length c → 0 < (qA1 bs).length → A a.block) (r : Bool) (p' : Pw) (hsp : s.p.spend = (r,p')) :
 Calls prog 161 #[.pointer (some ⟨K,0,none⟩),.int .i64 off,u] w fun e w'=>e = .returned (.bool r) ∧ qGr A w' K b (s.wrote r p' (off,bs)) ∧ qA8 A w w':=by
 obtain ⟨a,c,he⟩:=hs.len
 subst he
 obtain ⟨gl,cap,ex,vw,vt,us,ut,X,O,hA⟩:=h
 have c1:=X.blk.cell 1
 have c0:=X.blk.cell 0
 have hlen:=ok.len
 have hbl : bs.length ≤ 65536:=by have:=hin.2;simp at this;omega
 have hok : s.p.ok 9223372036854775806:=qE0 ok.pw (by omega)
 have hiB:=qPi hin
 rw [hlen] at c1
 have HL:=qh hlen
 clear hlen
 go_enter func161,ntmps161
 go_wp2_with fail
 refine (qCP K _ n _ (by omega) off bs.length _ c1).mono ?_
 rintro e w1 ⟨rfl,rfl⟩
 rw [hiB]
 have HIB:=qh hiB
 clear hiB
 go_wp2_with fail
 refine (qAG b s.p p' r _ X.pw hok hsp).mono ?_
 rintro e w1 ⟨rfl,p1,g1⟩
 have g1:=Chg.of_grown g1
 have X1:=X.power g1 p1
 have hs1:=(O.same g1).sl hs hu
 have hsm1:=O.same g1
 cases r
 · go_wp2
   go_ret
   exact ⟨rfl,⟨gl,cap,ex,vw,vt,us,ut,X1,O,fun k ha=>Nat.lt_of_lt_of_le (hA k ha) g1.size⟩,hsm1⟩
 · obtain ⟨wa,wc,hve⟩:=X1.wts.slice
   subst hve
   obtain ⟨ta,tc,hve⟩:=X1.trc.slice
   subst hve
   have hka : qA4 w1 (w1.alloc (.cells #[.int .i64 off,.slice a bs.length c] 133)):=qal _
   have hbx:=Blk.new w1 #[.int .i64 off,.slice a bs.length c] 133
   have X2:=X1.kept hka
   have hsl:=hs1.kept hka
   have low1:=X1.low
   have hbv : w1.heap.size ∉ (Value.slice wa s.waits.length wc).ownBlock.toList:=fun h=>by
    have:=(X1.low).2.2.2.1 _ (qAs.1 h);omega
   have hfw:=ok.few
   have hft:=ok.done
   have hsz1 : w1.heap.size ≤ (w1.alloc (.cells #[.int .i64 off,.slice a bs.length c] 133)).heap.size:=hka.size
   clear c0 c1
   go_wp2_with fail
   generalize (w1.alloc (.cells #[.int .i64 off,.slice a bs.length c] 133)) = w2 at *
   have hKv : K ∉ (Value.slice wa s.waits.length wc).ownBlock.toList:=fun h=>((X2.ne).2.2.2.1 K (qAs.1 h)).2.1 rfl
   have hKc : w2.cell? ⟨K,2,none⟩ = some (Value.slice wa s.waits.length wc):=X2.blk.cell 2
   have hlw:=(X2.low).2.2.2.1
   refine qAf ((Value.slice wa s.waits.length wc).ownBlock.toList) [(0,0),(1,0),(2,0),(3,0),(4,0),(5,0),(6,1),(7,1),(8,1),(9,2),(10,2),(11,2)] (by kernel_rfl) (by kernel_rfl) ?_
   intro wp1 hwp1
   repeat
    refine qA0 _ rfl (fun K hK=>?_)
    first
     | (refine qqP (by rfl) ?_;apply Exists.intro;refine ⟨fun w' hw'=>?_,hK _ ?_⟩;(have kc:=hw'.cell (hwp1.at hKc) hKv;have bb:=hw'.blk (hbx.kept hwp1) hbv;have bb0:=bb.cell 0;have bb1:=bb.cell 1;clear bb;go_simp;first|done|rfl))
     | refine qqN (by rfl) (hK _ ?_)
    clear hK K;simp only [Act.put,qqB]
   refine qqH _ rfl (by rfl) (fun K hK=>?_)
   go_wp2_with fail
   refine (qGL off _ bs hbl _ (hsl.kept hwp1)).mono ?_
   rintro e wp2 ⟨ap,cp,rfl,hop,hkp2⟩
   go_wp2
   refine hK _ _ (Chg.of_kept hkp2) ?_
   clear hK K
   try simp only [Act.put,qqB]
   refine qqH _ rfl (by rfl) (fun K hK=>?_)
   go_wp2
   refine hK _ _ (Chg.of_kept (qal _)) ?_
   clear hK K
   try simp only [Act.put,qqB]
   refine qqH _ rfl (by rfl) (fun K hK=>?_)
   have hro:=(qA3 (qA3 X2.wts.row hwp1) hkp2).alloc (.cells #[.int .i64 off,.slice ap bs.length cp] 133)
   refine qBC qGK (by rfl) (by rfl) (by rfl) hro (Sl.lit _ #[.int .i64 off,.slice ap bs.length cp] _ 1 (by decide)) (by rfl) (by intro u hu;simp at hu;rcases hu with rfl | rfl <;> rfl) (by show s.waits.length + 1 ≤ maxLen;unfold maxLen;omega) (by show (s.waits.length + 1) * 32 ≤ 140737488355328;omega) (Nat.zero_le _) ?_
   intro vp wp3 hownp hgrp hatp _
   obtain ⟨gp,capp,hve⟩:=qAx hownp (by omega)
   subst hve
   have hobp:=qA3 hop ((qal (.cells #[.int .i64 off,.slice ap bs.length cp] 133)) : qA4 wp2 _)
   have ckp : Chg (Value.slice wa s.waits.length wc).ownBlock.toList w2 wp3:=(Chg.of_kept (qA4.of hwp1 hkp2)).trans ((Chg.of_kept (qal _)).trans hgrp.chgL)
   refine hK _ _ (hgrp.chgL) ?_
   clear hK K
   try simp only [Act.put,qqB]
   refine qAh _ rfl (fun K hK=>?_)
   refine qqP (by rfl) ?_
   go_wp2
   refine qAh _ rfl (fun K hK=>?_)
   refine qqP (by rfl) ?_
   go_wp2
   refine qAh _ rfl (fun K hK=>?_)
   refine qqP (by rfl) ?_
   have hb5:=ckp.blk X2.blk hKv
   have fK:=hb5.free 2
   have eK:=hb5.cell 2
   go_wp2
   refine qA7 ?_
   have hz1:=hwp1.size
   have hz2:=hkp2.size
   have hbg : ∀ g,(Value.slice ap bs.length cp).ownBlock = some g → w2.heap.size ≤ g:=fun g hg=>Nat.le_trans hz1 (qAM hop hg)
   have hu6:=qAg (qAK hobp hgrp.chgL fun g hg hm=>by
    have:=hbg g hg
    have:=hlw g (qAs.1 hm)
    omega) hz1
   have hv6 : ∀ g,(Value.slice (some ⟨gp,0,none⟩) (s.waits.length + 1) capp).ownBlock = some g → (Value.slice wa s.waits.length wc).ownBlock = some g ∨ w2.heap.size ≤ g:=fun g hg=>by
    rcases hatp with e | e
    · left;rw [← e];exact hg
    · right
      have h2 : some g = some ((wp2.alloc (.cells #[.int .i64 off,.slice ap bs.length cp] 133)).heap.size):=hg.symm.trans e
      have h3:=Option.some.inj h2
      have : (wp2.alloc (.cells #[.int .i64 off,.slice ap bs.length cp] 133)).heap.size = wp2.heap.size + 1:=by simp
      omega
   have X3:=qEV.pushW (x:=(off,bs)) X2 ckp hownp hu6 hv6
   have hqK : Chg [K] wp3 (wp3.setCell ⟨K,2,none⟩ (.slice (some ⟨gp,0,none⟩) (s.waits.length + 1) capp)):=Chg.step (by simp) _
   have hst:=(O.sameW ckp).trans (O.sameK hqK)
   have hA2 : ∀ k,A k → k < w2.heap.size:=fun k ha=>by
    have:=hA k ha;have:=g1.size;omega
   have O2:=O.setW hA2 hv6 hbg
   have hKx : w1.heap.size ≠ K:=by have:=low1.1;omega
   replace hbx:=hqK.blk (ckp.blk hbx hbv) (by simpa using hKx)
   replace hsl:=hst.sl hsl hu
   have hsz2:=hst.size
   replace hst:=(hsm1.trans (qA8.of_kept hka)).trans hst
   have hbv : w1.heap.size ∉ (Value.slice ta s.trace.length tc).ownBlock.toList:=fun h=>by
    have:=low1.2.2.2.2 _ (qAs.1 h);omega
   clear hqK ckp hu6 hv6 hbg hownp hatp hgrp hobp hop hkp2 hwp1 hz1 hz2 hKc hlw hKv X2 fK eK hb5
   go_wp2_with fail
   generalize (wp3.setCell ⟨K,2,none⟩ (.slice (some ⟨gp,0,none⟩) (s.waits.length + 1) capp)) = w4 at *
   have hst0:=hst
   have hKv : K ∉ (Value.slice ta s.trace.length tc).ownBlock.toList:=fun h=>((X3.ne).2.2.2.2.1 K (qAs.1 h)).2.1 rfl
   have hKc : w4.cell? ⟨K,3,none⟩ = some (Value.slice ta s.trace.length tc):=X3.blk.cell 3
   have hlw:=(X3.low).2.2.2.2
   refine qAf ((Value.slice ta s.trace.length tc).ownBlock.toList) [(0,0),(1,0),(2,0),(3,0),(4,0),(5,0),(6,1),(7,1),(8,1),(9,2),(10,2),(11,2)] (by kernel_rfl) (by kernel_rfl) ?_
   intro wq1 hwq1
   repeat
    refine qA0 _ rfl (fun K hK=>?_)
    first
     | (refine qqP (by rfl) ?_;apply Exists.intro;refine ⟨fun w' hw'=>?_,hK _ ?_⟩;(have kc:=hw'.cell (hwq1.at hKc) hKv;have bb:=hw'.blk (hbx.kept hwq1) hbv;have bb0:=bb.cell 0;have bb1:=bb.cell 1;clear bb;go_simp;first|done|rfl))
     | refine qqN (by rfl) (hK _ ?_)
    clear hK K;simp only [Act.put,qqB]
   refine qqH _ rfl (by rfl) (fun K hK=>?_)
   go_wp2_with fail
   refine (qGL off _ bs hbl _ (hsl.kept hwq1)).mono ?_
   rintro e wq2 ⟨aq,cq,rfl,hoq,hkq2⟩
   go_wp2
   refine hK _ _ (Chg.of_kept hkq2) ?_
   clear hK K
   try simp only [Act.put,qqB]
   refine qqH _ rfl (by rfl) (fun K hK=>?_)
   go_wp2
   refine hK _ _ (Chg.of_kept (qal _)) ?_
   clear hK K
   try simp only [Act.put,qqB]
   refine qqH _ rfl (by rfl) (fun K hK=>?_)
   have hro:=(qA3 (qA3 X3.trc.row hwq1) hkq2).alloc (.cells #[.int .i64 off,.slice aq bs.length cq] 133)
   refine qBC qGK (by rfl) (by rfl) (by rfl) hro (Sl.lit _ #[.int .i64 off,.slice aq bs.length cq] _ 1 (by decide)) (by rfl) (by intro u hu;simp at hu;rcases hu with rfl | rfl <;> rfl) (by show s.trace.length + 1 ≤ maxLen;unfold maxLen;omega) (by show (s.trace.length + 1) * 32 ≤ 140737488355328;omega) (Nat.zero_le _) ?_
   intro vq wq3 hownq hgrq hatq _
   obtain ⟨gq,capq,hve⟩:=qAx hownq (by omega)
   subst hve
   have hobq:=qA3 hoq ((qal (.cells #[.int .i64 off,.slice aq bs.length cq] 133)) : qA4 wq2 _)
   have ckq : Chg (Value.slice ta s.trace.length tc).ownBlock.toList w4 wq3:=(Chg.of_kept (qA4.of hwq1 hkq2)).trans ((Chg.of_kept (qal _)).trans hgrq.chgL)
   refine hK _ _ (hgrq.chgL) ?_
   clear hK K
   try simp only [Act.put,qqB]
   refine qAh _ rfl (fun K hK=>?_)
   refine qqP (by rfl) ?_
   go_wp2
   refine qAh _ rfl (fun K hK=>?_)
   refine qqP (by rfl) ?_
   go_wp2
   refine qAh _ rfl (fun K hK=>?_)
   refine qqP (by rfl) ?_
   have hb5:=ckq.blk X3.blk hKv
   have fK:=hb5.free 3
   have eK:=hb5.cell 3
   go_wp2
   refine qA7 ?_
   have hz1:=hwq1.size
   have hz2:=hkq2.size
   have hbg : ∀ g,(Value.slice aq bs.length cq).ownBlock = some g → w4.heap.size ≤ g:=fun g hg=>Nat.le_trans hz1 (qAM hoq hg)
   have hu6:=qAg (qAK hobq hgrq.chgL fun g hg hm=>by
    have:=hbg g hg
    have:=hlw g (qAs.1 hm)
    omega) hz1
   have hv6 : ∀ g,(Value.slice (some ⟨gq,0,none⟩) (s.trace.length + 1) capq).ownBlock = some g → (Value.slice ta s.trace.length tc).ownBlock = some g ∨ w4.heap.size ≤ g:=fun g hg=>by
    rcases hatq with e | e
    · left;rw [← e];exact hg
    · right
      have h2 : some g = some ((wq2.alloc (.cells #[.int .i64 off,.slice aq bs.length cq] 133)).heap.size):=hg.symm.trans e
      have h3:=Option.some.inj h2
      have : (wq2.alloc (.cells #[.int .i64 off,.slice aq bs.length cq] 133)).heap.size = wq2.heap.size + 1:=by simp
      omega
   have X4:=qEV.pushT (x:=(off,bs)) X3 ckq hownq hu6 hv6
   have hqK : Chg [K] wq3 (wq3.setCell ⟨K,3,none⟩ (.slice (some ⟨gq,0,none⟩) (s.trace.length + 1) capq)):=Chg.step (by simp) _
   have hst:=(O.sameT ckq).trans (O.sameK hqK)
   have hA4 : ∀ k,A k → k < w4.heap.size:=fun k ha=>by
    have:=hA2 k ha;omega
   have O4:=O2.setT hA4 hv6 hbg
   go_wp2
   go_ret
   exact ⟨rfl,⟨gl,cap,ex,_,_,_,_,X4,O4,fun k ha=>Nat.lt_of_lt_of_le (hA4 k ha) hst.size⟩,hst0.trans hst⟩
def isK (ks : List Bool) (i : Nat) : Bool:=ks[i]?.getD false
def qBo (ks : List Bool) : List Value:=ks.map .bool
theorem qEt (ks : List Bool) : (qBo ks).length = ks.length:=by simp [qBo]
theorem qPR (i : Int) (w : World) : Calls prog 55 #[.int .i64 i] w fun e w'=>e = .returned (.bool true) ∧ w = w':=by
 go_enter func55,ntmps55
 go_wp2
 go_ret
 exact ⟨rfl,rfl⟩
theorem qL6 (k : Nat) (B : Nat) (a : Option Addr) (c : Nat) (ks : List Bool) (hl : ks.length ≤ 100000) (w : World) (h : w.cell? ⟨B,0,none⟩ = some (.slice a ks.length c)) (hs : Sl w (.slice a ks.length c) ks.length (qBo ks)) : Calls prog 126 #[.int .i64 k,.pointer (some ⟨B,0,none⟩)] w fun e w'=>e = .returned (.bool (isK ks k)) ∧ w = w':=by
 by_cases hk : k < ks.length
 · have n1 : (k : Int) < (ks.length : Int):=by omega
   have n2 : (0 : Int) ≤ (k : Int):=by omega
   obtain ⟨b,off,cap,e,_,_,_,hx⟩:=hs.at (by rw [qEt];omega)
   cases e
   have r0:=hx k (.bool ks[k]) (by simp [qBo,hk])
   have hi : isK ks k = ks[k]:=by simp [isK,hk]
   rw [hi]
   generalize ks[k] = q at *
   clear hx
   go_enter func126,ntmps126
   go_wp2
   go_ret
   exact ⟨rfl,rfl⟩
 · have n1 : ¬ (k : Int) < (ks.length : Int):=by omega
   have hi : isK ks k = false:=by simp [isK,List.getElem?_eq_none (show ks.length ≤ k by omega)]
   rw [hi]
   clear hs
   go_enter func126,ntmps126
   go_wp2
   go_ret
   exact ⟨rfl,rfl⟩
theorem qQW (is : Nat → Bool) (h : is = fun _=>true) (i : Nat) (w : World) : Calls prog 55 #[.int .i64 i] w fun e w'=>e = .returned (.bool (is i)) ∧ w = w':=by
 subst h;exact qPR i w
theorem qMr (is : Nat → Bool) (k : Nat) (B : Nat) (a : Option Addr) (c : Nat) (ks : List Bool) (hi : is = isK ks) (hl : ks.length ≤ 100000) (w : World) (h : w.cell? ⟨B,0,none⟩ = some (.slice a ks.length c)) (hs : Sl w (.slice a ks.length c) ks.length (qBo ks)) : Calls prog 126 #[.int .i64 k,.pointer (some ⟨B,0,none⟩)] w fun e w'=>e = .returned (.bool (is k)) ∧ w = w':=by
 subst hi;exact qL6 k B a c ks hl w h hs
theorem qEW (K b gl cap : Nat) (ex : List Value) (vw vt : Value) (us ut : List Value) (s : Sd) (n m : Nat) (h0 : 0 < n) (hn : n ≤ 65536) (hm : m ≤ 100000) (is : Nat → Bool) (w : World) (X : qEV w K b gl cap ex vw vt us ut s) (ok : s.ok n m) (his : is = fun _=>true) :
 Calls prog 54 #[.pointer (some ⟨K,0,none⟩),.func (.func 55) #[] #[]] w fun e w'=>e = .returned (.tuple #[]) ∧ qEV w' K b gl cap ex (.slice none 0 0) vt [] ut { s with lasts:=qBI s.lasts s.waits is s.waits.length,waits:=[] } ∧ Chg [gl,K] w w':=by
 have HISF:=qh his
 clear his
 obtain ⟨wa,wc,hve⟩:=X.wts.slice
 subst hve
 obtain ⟨n1,n2,n3,n4,n5,n6,n7⟩:=X.ne
 have HF:=qh ok.fit
 have hfew:=ok.few
 have hcap:=X.hcap
 have HW:=qh ok.len
 rw [HW.out] at hcap
 have c2:=X.blk.cell 2
 have c1:=X.blk.cell 1
 have fK:=X.blk.free 2
 have i0 : (s.waits.length : Int) ≤ 100000:=by omega
 have i1 : n ≤ cap:=by omega
 have hKn : K ∉ [gl]:=by simpa using n3
 have c1' : w.cell? ⟨K,1,none⟩ = some (.slice (some ⟨gl,0,none⟩) n cap):=by rw [← HW.out];exact c1
 have HIS:=qh (qCx s.lasts s.waits is (fun x hx=>by rw [HW.out];exact HF.out x hx))
 clear c1
 obtain ⟨N,hN⟩ : ∃ N,N = s.waits.length:=⟨_,rfl⟩
 have c2' : w.cell? ⟨K,2,none⟩ = some (.slice wa N wc):=by rw [hN];exact c2
 rw [← hN] at i0 hfew
 have HN:=qh hN
 clear hN c2
 go_enter func54,ntmps54
 go_wp2_with fail
 go_loopw [11,5,4] (fun i _ _ wr=>∃ k : Nat,k ≤ N ∧ i = .int .i64 k ∧ Blk wr gl (qA1 (qBI s.lasts s.waits is k) ++ ex).toArray 5 ∧ Chg [gl] w wr) (fun i _ _ _=>N - (intOf i).toNat)
 case atStart=>exact ⟨0,by omega,by go_num,X.lst,Chg.refl _ _⟩
 case round =>
  obtain ⟨k,hk,rfl,hbl,hcw⟩:=hrel
  have kc2:=hcw.cell c2' hKn
  have kc1:=hcw.cell c1' hKn
  by_cases hlt : k < N
  · have hkl : k < s.waits.length:=by rw [← HN.out];exact hlt
    have n3' : (k : Int) < (N : Int):=by omega
    have n4' : (0 : Int) ≤ (k : Int):=by omega
    have hops:=X.wts.chg hcw (fun g hg=>by simpa using (n4 g hg).2.2) (fun u hu g hg=>by simpa using (n6 u hu g hg).2.2.1)
    obtain ⟨g,cap2,u,hve,hui,d0,d1,hsu⟩:=hops.get k hkl
    cases hve
    obtain ⟨x,hx⟩ : ∃ x,x = s.waits[k]:=⟨_,rfl⟩
    rw [← hx] at d0 hsu
    have hinx : inB n x:=by rw [hx];exact HF.out _ (List.getElem_mem hkl)
    have HIN:=qh hinx
    obtain ⟨hx0,hx1⟩:=hinx
    have hxg : s.waits[k]?.getD (0,[]) = x:=by rw [List.getElem?_eq_getElem hkl,hx];rfl
    have hll : (qBI s.lasts s.waits is k).length = n:=by rw [HIS.out k (by omega),HW.out]
    obtain ⟨o,ho⟩ : ∃ o : Nat,o = x.1.toNat:=⟨_,rfl⟩
    have hxo : x.1 = (o : Int):=by omega
    rw [← ho] at hx1
    rw [hxo] at d0
    obtain ⟨au,cu,hve⟩:=hsu.len
    subst hve
    have m5 : (o : Int) ≤ (n : Int):=by omega
    have m8 : ¬ cap = o:=by omega
    have m9 : ¬ cap - o = 0:=by omega
    have m6 : (n : Int) ≤ (cap : Int):=by omega
    have m7 : (0 : Int) ≤ (o : Int):=by omega
    have HO:=qh ho
    have HX:=qh hx
    have HL:=qh hll
    have HXG:=qh hxg
    have HXO:=qh hxo
    have hgbr:=hbl.lt
    have hka : qA4 wr (wr.alloc (.cells #[.int .i64 (o : Int),.slice au x.2.length cu] 133)):=qal _
    have hbx:=Blk.new wr #[.int .i64 (o : Int),.slice au x.2.length cu] 133
    have hbn : wr.heap.size ∉ [gl]:=by simp;omega
    replace hbl:=hbl.kept hka
    replace hsu:=hsu.kept hka
    replace kc1:=hka.at kc1
    replace hcw:=hcw.trans (Chg.of_kept hka)
    clear ho hx hll hxg hxo hka
    go_wp2_with fail
    generalize (wr.alloc (.cells #[.int .i64 (o : Int),.slice au x.2.length cu] 133)) = wx at *
    refine (qQW is HISF.out k _).mono ?_
    rintro e w1 ⟨rfl,rfl⟩
    cases hq : is k
    · have hls : qBI s.lasts s.waits is (k + 1) = qBI s.lasts s.waits is k:=by rw [qBI,hq];rfl
      have HLS:=qh hls
      clear hls hq
      go_wp2
      exact ⟨⟨k + 1,by omega,by go_num,by rw [HLS.out];exact hbl,hcw⟩,by simp [intOf];omega⟩
    · have hls : qBI s.lasts s.waits is (k + 1) = qBQ (qBI s.lasts s.waits is k) x:=by rw [qBI,hq,if_pos rfl,HXG.out]
      have HLS:=qh hls
      clear hls hq
      go_wp2_with fail
      refine qAf [gl] [(0,0),(1,0),(2,0),(3,0),(4,0),(5,0),(6,0),(7,0),(8,0),(9,1)] (by kernel_rfl) (by kernel_rfl) ?_
      intro w2 hw2
      repeat
       refine qA0 _ rfl (fun K hK=>?_)
       first
        | (refine qqP (by rfl) ?_;apply Exists.intro;refine ⟨fun w' hw'=>?_,hK _ ?_⟩;(have bb:=hw'.blk (hbx.kept hw2) hbn;have bb0:=bb.cell 0;have bb1:=bb.cell 1;clear bb;have kk:=hw'.cell (hw2.at kc1) hKn;go_simp;first|done|rfl))
        | refine qqN (by rfl) (hK _ ?_)
       clear hK K;simp only [Act.put,qqB]
      refine qqH _ rfl (by rfl) (fun K hK=>?_)
      obtain ⟨w3,hr,hB3,hc3⟩:=qCg (P:=prog) (w:=w2) (dl:=n - o) (dc:=cap - o) (off:=o) qAw 3 (hbl.kept hw2) (hsu.kept hw2) (qA6 _) (qAI _) (by rw [List.length_append,qA6,HL.out];omega)
      go_wp2
      refine hK _ _ (hc3) ?_
      clear hK K
      try simp only [Act.put,qqB]
      refine qA7 ?_
      have hB4 : Blk w3 gl (qA1 (qBI s.lasts s.waits is (k + 1)) ++ ex).toArray 5:=by
       have hl:=qEq (qBI s.lasts s.waits is k) ex x n HL.out.symm HIN.out
       rw [← HO.out] at hl
       rw [hl,← HLS.out] at hB3
       exact hB3
      have hc4 : Chg [gl] w w3:=hcw.trans ((Chg.of_kept hw2).trans hc3)
      go_wp2
      exact ⟨⟨k + 1,by omega,by go_num,hB4,hc4⟩,by simp [intOf];omega⟩
  · have hkN : k = N:=by omega
    have HK:=qh hkN
    clear hkN
    have bK:=hcw.blk X.blk hKn
    have fK2:=bK.free 2
    go_wp2
    go_end0
    have hqK : Chg [K] wr (wr.setCell ⟨K,2,none⟩ (.slice none 0 0)):=Chg.step (by simp) _
    rw [HK.out,HN.out] at hbl
    have tr:=X.trc.chg hcw (fun g hg=>by simpa using (n5 g hg).2.2) (fun u hu g hg=>by simpa using (n7 u hu g hg).2.2.1)
    refine ⟨rfl,⟨?_,hqK.blk (hcw.blk X.pw (by simpa using n2)) (by simpa using n1),hqK.blk hbl (by simpa using n3.symm),?_,X.most,qAY.nil _,tr.chg hqK (fun g hg=>by simpa using (n5 g hg).2.1) (fun u hu g hg=>by simpa using (n7 u hu g hg).2.1),by simp,X.tne,by intro g hg;cases hg⟩,(hcw.mono (by simp)).trans (hqK.mono (by simp))⟩
    · have hl2:=HIS.out s.waits.length qle
      have:=bK.set 2 (.slice none 0 0)
      rw [← hl2] at this
      simpa using this
    · rw [← X.hcap,← HIS.out s.waits.length qle]
theorem qJq (K b gl cap : Nat) (ex : List Value) (vw vt : Value) (us ut : List Value) (s : Sd) (n m : Nat) (h0 : 0 < n) (hn : n ≤ 65536) (hm : m ≤ 100000) (is : Nat → Bool) (B : Nat) (ka : Option Addr) (kc : Nat) (ks : List Bool) (kl : ks.length ≤ 100000) (w : World) (X : qEV w K b gl cap ex vw vt us ut s) (ok : s.ok n m) (his : is = isK ks) (hB : w.cell? ⟨B,0,none⟩ = some (.slice ka ks.length kc)) (hks : Sl w (.slice ka ks.length kc) ks.length (qBo ks)) (hBg : B ∉ [gl]) (hkg : ∀ a c,Value.slice ka ks.length kc = .slice (some a) ks.length c → 0 < (qBo ks).length → a.block ∉ [gl]) :
 Calls prog 54 #[.pointer (some ⟨K,0,none⟩),.func (.func 126) #[] #[.pointer (some ⟨B,0,none⟩)]] w fun e w'=>e = .returned (.tuple #[]) ∧ qEV w' K b gl cap ex (.slice none 0 0) vt [] ut { s with lasts:=qBI s.lasts s.waits is s.waits.length,waits:=[] } ∧ Chg [gl,K] w w':=by
 have HISF:=qh his
 clear his
 obtain ⟨wa,wc,hve⟩:=X.wts.slice
 subst hve
 obtain ⟨n1,n2,n3,n4,n5,n6,n7⟩:=X.ne
 have HF:=qh ok.fit
 have hfew:=ok.few
 have hcap:=X.hcap
 have HW:=qh ok.len
 rw [HW.out] at hcap
 have c2:=X.blk.cell 2
 have c1:=X.blk.cell 1
 have fK:=X.blk.free 2
 have i0 : (s.waits.length : Int) ≤ 100000:=by omega
 have i1 : n ≤ cap:=by omega
 have hKn : K ∉ [gl]:=by simpa using n3
 have c1' : w.cell? ⟨K,1,none⟩ = some (.slice (some ⟨gl,0,none⟩) n cap):=by rw [← HW.out];exact c1
 have HIS:=qh (qCx s.lasts s.waits is (fun x hx=>by rw [HW.out];exact HF.out x hx))
 clear c1
 obtain ⟨N,hN⟩ : ∃ N,N = s.waits.length:=⟨_,rfl⟩
 have c2' : w.cell? ⟨K,2,none⟩ = some (.slice wa N wc):=by rw [hN];exact c2
 rw [← hN] at i0 hfew
 have HN:=qh hN
 clear hN c2
 go_enter func54,ntmps54
 go_wp2_with fail
 go_loopw [11,5,4] (fun i _ _ wr=>∃ k : Nat,k ≤ N ∧ i = .int .i64 k ∧ Blk wr gl (qA1 (qBI s.lasts s.waits is k) ++ ex).toArray 5 ∧ Chg [gl] w wr) (fun i _ _ _=>N - (intOf i).toNat)
 case atStart=>exact ⟨0,by omega,by go_num,X.lst,Chg.refl _ _⟩
 case round =>
  obtain ⟨k,hk,rfl,hbl,hcw⟩:=hrel
  have kc2:=hcw.cell c2' hKn
  have kc1:=hcw.cell c1' hKn
  by_cases hlt : k < N
  · have hkl : k < s.waits.length:=by rw [← HN.out];exact hlt
    have n3' : (k : Int) < (N : Int):=by omega
    have n4' : (0 : Int) ≤ (k : Int):=by omega
    have hops:=X.wts.chg hcw (fun g hg=>by simpa using (n4 g hg).2.2) (fun u hu g hg=>by simpa using (n6 u hu g hg).2.2.1)
    obtain ⟨g,cap2,u,hve,hui,d0,d1,hsu⟩:=hops.get k hkl
    cases hve
    obtain ⟨x,hx⟩ : ∃ x,x = s.waits[k]:=⟨_,rfl⟩
    rw [← hx] at d0 hsu
    have hinx : inB n x:=by rw [hx];exact HF.out _ (List.getElem_mem hkl)
    have HIN:=qh hinx
    obtain ⟨hx0,hx1⟩:=hinx
    have hxg : s.waits[k]?.getD (0,[]) = x:=by rw [List.getElem?_eq_getElem hkl,hx];rfl
    have hll : (qBI s.lasts s.waits is k).length = n:=by rw [HIS.out k (by omega),HW.out]
    obtain ⟨o,ho⟩ : ∃ o : Nat,o = x.1.toNat:=⟨_,rfl⟩
    have hxo : x.1 = (o : Int):=by omega
    rw [← ho] at hx1
    rw [hxo] at d0
    obtain ⟨au,cu,hve⟩:=hsu.len
    subst hve
    have m5 : (o : Int) ≤ (n : Int):=by omega
    have m8 : ¬ cap = o:=by omega
    have m9 : ¬ cap - o = 0:=by omega
    have m6 : (n : Int) ≤ (cap : Int):=by omega
    have m7 : (0 : Int) ≤ (o : Int):=by omega
    have HO:=qh ho
    have HX:=qh hx
    have HL:=qh hll
    have HXG:=qh hxg
    have HXO:=qh hxo
    have hgbr:=hbl.lt
    have hka : qA4 wr (wr.alloc (.cells #[.int .i64 (o : Int),.slice au x.2.length cu] 133)):=qal _
    have hbx:=Blk.new wr #[.int .i64 (o : Int),.slice au x.2.length cu] 133
    have hbn : wr.heap.size ∉ [gl]:=by simp;omega
    replace hbl:=hbl.kept hka
    replace hsu:=hsu.kept hka
    replace kc1:=hka.at kc1
    replace hcw:=hcw.trans (Chg.of_kept hka)
    clear ho hx hll hxg hxo hka
    go_wp2_with fail
    generalize (wr.alloc (.cells #[.int .i64 (o : Int),.slice au x.2.length cu] 133)) = wx at *
    refine (qMr is k B ka kc ks HISF.out kl _ (hcw.cell hB hBg) (Chg.sl hks hcw hkg)).mono ?_
    rintro e w1 ⟨rfl,rfl⟩
    cases hq : is k
    · have hls : qBI s.lasts s.waits is (k + 1) = qBI s.lasts s.waits is k:=by rw [qBI,hq];rfl
      have HLS:=qh hls
      clear hls hq
      go_wp2
      exact ⟨⟨k + 1,by omega,by go_num,by rw [HLS.out];exact hbl,hcw⟩,by simp [intOf];omega⟩
    · have hls : qBI s.lasts s.waits is (k + 1) = qBQ (qBI s.lasts s.waits is k) x:=by rw [qBI,hq,if_pos rfl,HXG.out]
      have HLS:=qh hls
      clear hls hq
      go_wp2_with fail
      refine qAf [gl] [(0,0),(1,0),(2,0),(3,0),(4,0),(5,0),(6,0),(7,0),(8,0),(9,1)] (by kernel_rfl) (by kernel_rfl) ?_
      intro w2 hw2
      repeat
       refine qA0 _ rfl (fun K hK=>?_)
       first
        | (refine qqP (by rfl) ?_;apply Exists.intro;refine ⟨fun w' hw'=>?_,hK _ ?_⟩;(have bb:=hw'.blk (hbx.kept hw2) hbn;have bb0:=bb.cell 0;have bb1:=bb.cell 1;clear bb;have kk:=hw'.cell (hw2.at kc1) hKn;go_simp;first|done|rfl))
        | refine qqN (by rfl) (hK _ ?_)
       clear hK K;simp only [Act.put,qqB]
      refine qqH _ rfl (by rfl) (fun K hK=>?_)
      obtain ⟨w3,hr,hB3,hc3⟩:=qCg (P:=prog) (w:=w2) (dl:=n - o) (dc:=cap - o) (off:=o) qAw 3 (hbl.kept hw2) (hsu.kept hw2) (qA6 _) (qAI _) (by rw [List.length_append,qA6,HL.out];omega)
      go_wp2
      refine hK _ _ (hc3) ?_
      clear hK K
      try simp only [Act.put,qqB]
      refine qA7 ?_
      have hB4 : Blk w3 gl (qA1 (qBI s.lasts s.waits is (k + 1)) ++ ex).toArray 5:=by
       have hl:=qEq (qBI s.lasts s.waits is k) ex x n HL.out.symm HIN.out
       rw [← HO.out] at hl
       rw [hl,← HLS.out] at hB3
       exact hB3
      have hc4 : Chg [gl] w w3:=hcw.trans ((Chg.of_kept hw2).trans hc3)
      go_wp2
      exact ⟨⟨k + 1,by omega,by go_num,hB4,hc4⟩,by simp [intOf];omega⟩
  · have hkN : k = N:=by omega
    have HK:=qh hkN
    clear hkN
    have bK:=hcw.blk X.blk hKn
    have fK2:=bK.free 2
    go_wp2
    go_end0
    have hqK : Chg [K] wr (wr.setCell ⟨K,2,none⟩ (.slice none 0 0)):=Chg.step (by simp) _
    rw [HK.out,HN.out] at hbl
    have tr:=X.trc.chg hcw (fun g hg=>by simpa using (n5 g hg).2.2) (fun u hu g hg=>by simpa using (n7 u hu g hg).2.2.1)
    refine ⟨rfl,⟨?_,hqK.blk (hcw.blk X.pw (by simpa using n2)) (by simpa using n1),hqK.blk hbl (by simpa using n3.symm),?_,X.most,qAY.nil _,tr.chg hqK (fun g hg=>by simpa using (n5 g hg).2.1) (fun u hu g hg=>by simpa using (n7 u hu g hg).2.1),by simp,X.tne,by intro g hg;cases hg⟩,(hcw.mono (by simp)).trans (hqK.mono (by simp))⟩
    · have hl2:=HIS.out s.waits.length qle
      have:=bK.set 2 (.slice none 0 0)
      rw [← hl2] at this
      simpa using this
    · rw [← X.hcap,← HIS.out s.waits.length qle]
theorem qKg (A : Nat → Prop) (K b : Nat) (s : Sd) (n m : Nat) (h0 : 0 < n) (hn : n ≤ 65536) (hm : m ≤ 100000) (w : World) (h : qGr A w K b s) (ok : s.ok n m) : Calls prog 29 #[.pointer (some ⟨K,0,none⟩)] w fun e w'=>∃ g c,e = .returned (.slice (some ⟨g,0,none⟩) n c) ∧ w'.ownsRow w.heap.size 5 1 (.slice (some ⟨g,0,none⟩) n c) n (qA1 s.snap) ∧ qA4 w w':=by
 obtain ⟨gl,cap,ex,vw,vt,us,ut,X,O,hA⟩:=h
 obtain ⟨wa,wc,hve⟩:=X.wts.slice
 subst hve
 have c1:=X.blk.cell 1
 have hbnd : s.lasts.length ≤ 65536:=by rw [ok.len];omega
 have HW:=qh ok.len
 have hfit:=ok.fit
 have hfew:=ok.few
 have hsl : Sl w (.slice (some ⟨gl,0,none⟩) s.lasts.length cap) s.lasts.length (qA1 s.lasts):=by
  have hcap:=X.hcap
  have hmost:=X.most
  refine Sl.mk (by omega) hmost fun j u hj=>?_
  have hjl:=(List.getElem?_eq_some_iff.1 hj).1
  rw [Nat.zero_add,X.lst.cell j]
  simpa [List.getElem?_append_left hjl] using hj
 go_enter func29,ntmps29
 go_wp2_with fail
 refine (qAV _ s.lasts (by omega) _ hsl).mono ?_
 rintro e w1 ⟨vb,rfl,hown,hk1⟩
 rw [HW.out] at hown
 obtain ⟨gb,cb,hve⟩:=qAx hown h0
 subst hve
 have hgb:=qAM hown rfl
 obtain ⟨exb,hB1,hcb⟩ : ∃ exb,Blk w1 gb (qA1 s.lasts ++ exb).toArray 5 ∧ n + exb.length = cb:=by
  rcases hown.2 with ⟨e,_⟩ | ⟨g',cap',cur,e,_,hb,h1,_,h2,h3⟩
  · cases e
  · cases e
    rw [Nat.mul_one] at h2 h3
    refine ⟨cur.toList.drop n,?_,by simp;omega⟩
    rw [← h3,List.take_append_drop]
    exact hb
 have X1:=X.kept hk1
 have c2:=X1.blk.cell 2
 have i0 : (s.waits.length : Int) ≤ 100000:=by omega
 have i1 : n ≤ cb:=by omega
 have hmc : cb ≤ maxLen:=by
  rcases hown.2 with ⟨e,_⟩ | ⟨g',cap',cur,e,_,hb,h1,h4,h2,h3⟩
  · cases e
  · cases e;exact h4
 clear hown c1 hsl
 obtain ⟨N,hN⟩ : ∃ N,N = s.waits.length:=⟨_,rfl⟩
 rw [← hN] at c2 i0
 have HN:=qh hN
 clear hN
 go_wp2_with fail
 go_loopw [18,5] (fun i _ wr=>∃ k : Nat,k ≤ N ∧ i = .int .i64 k ∧ Blk wr gb (qA1 (qBn s.lasts (s.waits.take k)) ++ exb).toArray 5 ∧ qA4 w wr ∧ qEV wr K b gl cap ex (.slice wa s.waits.length wc) vt us ut s) (fun i _ _=>N - (intOf i).toNat)
 case atStart=>exact ⟨0,by omega,by go_num,hB1,hk1,X1⟩
 case round =>
  obtain ⟨k,hk,rfl,hbl,hkw,Xr⟩:=hrel
  clear hB1 hk1 X1 c2
  by_cases hlt : k < N
  · have hkl : k < s.waits.length:=by rw [← HN.out];exact hlt
    have n3 : (k : Int) < (N : Int):=by omega
    have n4 : (0 : Int) ≤ (k : Int):=by omega
    obtain ⟨g,cap2,u,hve,hui,d0,d1,hsu⟩:=Xr.wts.get k hkl
    cases hve
    obtain ⟨x,hx⟩ : ∃ x,x = s.waits[k]:=⟨_,rfl⟩
    rw [← hx] at d0 hsu
    have hinx : inB n x:=by rw [hx];exact hfit _ (List.getElem_mem hkl)
    have HIN:=qh hinx
    obtain ⟨hx0,hx1⟩:=hinx
    have hlay : qBn s.lasts (s.waits.take (k + 1)) = qBQ (qBn s.lasts (s.waits.take k)) x:=by rw [List.take_succ_eq_append_getElem hkl,qCk,hx]
    have hll : (qBn s.lasts (s.waits.take k)).length = n:=by
     rw [← HW.out]
     exact qC7 _ _ (fun y hy=>by rw [HW.out];exact hfit y (List.mem_of_mem_take hy))
    obtain ⟨o,ho⟩ : ∃ o : Nat,o = x.1.toNat:=⟨_,rfl⟩
    have hxo : x.1 = (o : Int):=by omega
    rw [← ho] at hx1
    rw [hxo] at d0
    obtain ⟨au,cu,hve⟩:=hsu.len
    subst hve
    have n5 : (o : Int) ≤ (n : Int):=by omega
    have n8 : ¬ cb = o:=by omega
    have n9 : ¬ cb - o = 0:=by omega
    have n6 : (n : Int) ≤ (cb : Int):=by omega
    have n7 : (0 : Int) ≤ (o : Int):=by omega
    have HO:=qh ho
    have HX:=qh hx
    have HL:=qh hll
    have HY:=qh hlay
    have HXO:=qh hxo
    have hgbr:=hbl.lt
    have hka : qA4 wr (wr.alloc (.cells #[.int .i64 (o : Int),.slice au x.2.length cu] 133)):=qal _
    have hbx:=Blk.new wr #[.int .i64 (o : Int),.slice au x.2.length cu] 133
    have hbn : wr.heap.size ∉ [gb]:=by simp;omega
    replace hbl:=hbl.kept hka
    replace Xr:=Xr.kept hka
    replace hsu:=hsu.kept hka
    replace hkw:=qA4.of hkw hka
    clear ho hx hll hlay hxo
    go_wp2_with fail
    generalize (wr.alloc (.cells #[.int .i64 (o : Int),.slice au x.2.length cu] 133)) = wx at *
    refine qAf [gb] [(0,0),(1,0),(2,0),(3,0),(4,0),(5,0),(6,1)] (by kernel_rfl) (by kernel_rfl) ?_
    intro w2 hw2
    repeat
     refine qA0 _ rfl (fun K hK=>?_)
     first
      | (refine qqP (by rfl) ?_;apply Exists.intro;refine ⟨fun w' hw'=>?_,hK _ ?_⟩;(have bb:=hw'.blk (hbx.kept hw2) hbn;have bb0:=bb.cell 0;have bb1:=bb.cell 1;clear bb;go_simp;first|done|rfl))
      | refine qqN (by rfl) (hK _ ?_)
     clear hK K;simp only [Act.put,qqB]
    refine qqH _ rfl (by rfl) (fun K hK=>?_)
    obtain ⟨w3,hr,hB3,hc3⟩:=qCg (P:=prog) (w:=w2) (dl:=n - o) (dc:=cb - o) (off:=o) qAw 3 (hbl.kept hw2) (hsu.kept hw2) (qA6 _) (qAI _) (by rw [List.length_append,qA6,HL.out];omega)
    go_wp2
    refine hK _ _ (hc3) ?_
    clear hK K
    try simp only [Act.put,qqB]
    refine qA7 ?_
    have hk3 : qA4 w w3:=hkw.trans (((Chg.of_kept hw2).trans hc3).below (by simpa using hgb) hkw.size)
    have hB4 : Blk w3 gb (qA1 (qBn s.lasts (s.waits.take (k + 1))) ++ exb).toArray 5:=by
     have hl:=qEq (qBn s.lasts (s.waits.take k)) exb x n HL.out.symm HIN.out
     rw [← HO.out] at hl
     rw [hl,← HY.out] at hB3
     exact hB3
    have X3:=X.kept hk3
    go_wp2
    exact ⟨⟨k + 1,by omega,by go_num,hB4,hk3,X3⟩,by simp [intOf];omega⟩
  · have hkN : k = N:=by omega
    have HK:=qh hkN
    clear hkN
    have hsz:=hkw.size
    go_wp2
    go_ret
    have hll : (qBn s.lasts s.waits).length = n:=by
     rw [← HW.out]
     exact qC7 _ _ (fun y hy=>by rw [HW.out];exact hfit y hy)
    rw [HK.out,HN.out,List.take_length] at hbl
    refine ⟨gb,cb,rfl,⟨by rw [qA6];show s.snap.length = _;rw [Sd.snap,hll,Nat.mul_one],.inr ⟨gb,cb,_,rfl,hgb,hbl,i1,hmc,?_,?_⟩⟩,hkw⟩
    · simp [qA6,hll];omega
    · rw [Nat.mul_one,List.take_append_of_le_length (by rw [qA6,hll];exact Nat.le_refl _),List.take_of_length_le (by rw [qA6,hll];exact Nat.le_refl _)]
      rfl
theorem qMs (A : Nat → Prop) (K b : Nat) (s : Sd) (n m : Nat) (h0 : 0 < n) (hn : n ≤ 65536) (hm : m ≤ 100000) (w : World) (h : qGr A w K b s) (ok : s.ok n m) (v : Value) (ks : List Bool) (kl : ks.length ≤ 100000) (hks : Sl w v ks.length (qBo ks)) (hA : ∀ a c,v = .slice (some a) ks.length c → 0 < (qBo ks).length → A a.block) :
 Calls prog 82 #[.pointer (some ⟨K,0,none⟩),v] w fun e w'=>e = .returned (.tuple #[]) ∧ qGr A w' K b { s with lasts:=qBI s.lasts s.waits (isK ks) s.waits.length,waits:=[] } ∧ qA8 A w w':=by
 obtain ⟨ka,kc,he⟩:=hks.len
 subst he
 obtain ⟨gl,cap,ex,vw,vt,us,ut,X,O,hAl⟩:=h
 have hka : qA4 w (w.alloc (.cells #[.slice ka ks.length kc] 35)):=qal _
 have hB:=Blk.new w #[.slice ka ks.length kc] 35
 have low:=X.low
 have hag : ∀ a c,Value.slice ka ks.length kc = .slice (some a) ks.length c → 0 < (qBo ks).length → a.block ∉ [gl]:=fun a c e hl hm2=>by
  have:=hA a c e hl
  rw [List.mem_singleton.1 hm2] at this
  exact O.gl this
 go_enter func82,ntmps82
 go_wp2_with fail
 refine (qJq K b gl cap ex vw vt us ut s n m h0 hn hm (isK ks) w.heap.size ka kc ks kl _ (X.kept hka) ok rfl (hB.cell 0) (hks.kept hka) (by simp;omega) hag).mono ?_
 rintro e w2 ⟨rfl,X2,c2⟩
 go_wp2
 go_end0
 have hs2:=(qA8.of_kept hka).trans (qA8.of_chg c2 (by intro x hx;simp at hx;rcases hx with rfl | rfl;exact O.gl;exact O.K))
 exact ⟨rfl,⟨gl,cap,ex,_,_,_,_,X2,⟨O.K,O.b,O.gl,(by intro g hg;cases hg),O.vt,by simp,O.ut⟩,fun k ha=>Nat.lt_of_lt_of_le (hAl k ha) hs2.size⟩,hs2⟩
theorem qMt (A : Nat → Prop) (K b : Nat) (s : Sd) (n m : Nat) (h0 : 0 < n) (hn : n ≤ 65536) (hm : m ≤ 100000) (w : World) (h : qGr A w K b s) (ok : s.ok n m) (o : Nat) (v : Value) (bs : List UInt8) (hin : inB n ((o : Int),bs)) (hs : Sl w v bs.length (qA1 bs)) (hA : ∀ a c,v = .slice (some a) bs.length c → 0 < (qA1 bs).length → A a.block) :
 Calls prog 28 #[.pointer (some ⟨K,0,none⟩),.int .i64 o,v] w fun e w'=>e = .returned (.bool true) ∧ qGr A w' K b { s with lasts:=qBQ s.snap ((o : Int),bs),waits:=[] } ∧ qA8 A w w':=by
 obtain ⟨a,c,he⟩:=hs.len
 subst he
 obtain ⟨gl,cap,ex,vw,vt,us,ut,X,O,hAl⟩:=h
 have c1 : w.cell? ⟨K,1,none⟩ = some (.slice (some ⟨gl,0,none⟩) n cap):=by have:=X.blk.cell 1;rw [ok.len] at this;exact this
 have hiB:=qPi hin
 have hsn:=Sd.snap_length ok
 have hcap:=X.hcap
 rw [ok.len] at hcap
 have hmost:=X.most
 go_enter func28,ntmps28
 go_wp2_with fail
 refine (qCP K _ n _ (by omega) o bs.length _ c1).mono ?_
 rintro e w1 ⟨rfl,rfl⟩
 rw [hiB]
 have HIB:=qh hiB
 have HOK:=qh ok
 clear hiB ok
 go_wp2_with fail
 refine (qEW K b gl cap ex vw vt us ut s n m h0 hn hm (fun _=>true) _ X HOK.out rfl).mono ?_
 rintro e w2 ⟨rfl,X2,c2⟩
 rw [qEp _ _ _ qle,List.take_length] at X2
 have hs2 : qA8 A _ w2:=qA8.of_chg c2 (by intro x hx;simp at hx;rcases hx with rfl | rfl;exact O.gl;exact O.K)
 obtain ⟨n1,n2,n3,n4,n5,n6,n7⟩:=X2.ne
 have hsl:=hs2.sl hs hA
 have k1 : w2.cell? ⟨K,1,none⟩ = some (.slice (some ⟨gl,0,none⟩) n cap):=by
  have:=X2.blk.cell 1
  rw [show ({ s with lasts:=qBn s.lasts s.waits,waits:=[] } : Sd).lasts.length = n from hsn] at this
  exact this
 obtain ⟨hi0,hi1,hi2⟩:=hin
 have hi1' : o < n:=by simpa using hi1
 have hi2' : o + bs.length ≤ n:=by simpa using hi2
 have HI:=qh (show inB n ((o : Int),bs) from ⟨hi0,hi1,hi2⟩)
 have HSN:=qh hsn
 clear hsn hi0 hi1 hi2
 have m5 : (o : Int) ≤ (n : Int):=by omega
 have m8 : ¬ cap = o:=by omega
 have m9 : ¬ cap - o = 0:=by omega
 have m6 : (n : Int) ≤ (cap : Int):=by omega
 have m7 : (0 : Int) ≤ (o : Int):=by omega
 obtain ⟨w3,hr,hB3,hc3⟩:=qCg (P:=prog) (w:=w2) (dl:=n - o) (dc:=cap - o) (off:=o) qAw 3 X2.lst hsl (qA6 _) (qAI _) (by rw [List.length_append,qA6];show _ ≤ (qBn s.lasts s.waits).length + _;have:=HSN.out;unfold Sd.snap at this;omega)
 go_wp2
 go_ret
 have hl:=qEq (qBn s.lasts s.waits) ex ((o : Int),bs) n HSN.out.symm HI.out
 have hB4 : Blk w3 gl (qA1 (qBQ s.snap ((o : Int),bs)) ++ ex).toArray 5:=by
  show Blk w3 gl (qA1 (qBQ (qBn s.lasts s.waits) ((o : Int),bs)) ++ ex).toArray _
  rw [← hl]
  exact hB3
 have hlen : (qBQ s.snap ((o : Int),bs)).length = n:=by rw [qBz _ _ (by rw [HSN.out];exact HI.out),HSN.out]
 have hs3 : qA8 A w2 w3:=qA8.of_chg hc3 (by simpa using O.gl)
 refine ⟨rfl,⟨gl,cap,ex,_,_,_,_,⟨?_,hc3.blk X2.pw (by simpa using n2),hB4,?_,X2.most,qAY.nil _,X2.trc.chg hc3 (fun g hg=>by simpa using (n5 g hg).2.2) (fun u hu g hg=>by simpa using (n7 u hu g hg).2.2.1),by simp,X2.tne,(by intro g hg;cases hg)⟩,⟨O.K,O.b,O.gl,(by intro g hg;cases hg),O.vt,by simp,O.ut⟩,fun k ha=>Nat.lt_of_lt_of_le (hAl k ha) (hs2.trans hs3).size⟩,hs2.trans hs3⟩
 · have:=hc3.blk X2.blk (by simpa using n3)
   rw [show ({ s with lasts:=qBn s.lasts s.waits,waits:=[] } : Sd).lasts.length = n from HSN.out] at this
   show Blk _ _ #[_,.slice _ (qBQ s.snap ((o : Int),bs)).length _,_,_] _
   rw [hlen];exact this
 · show (qBQ s.snap ((o : Int),bs)).length + ex.length = cap
   rw [hlen];exact hcap
theorem qKh {w : World} {B n g c : Nat} {bs : List UInt8} (h : w.ownsRow B 5 1 (.slice (some ⟨g,0,none⟩) n c) n (qA1 bs)) : ∃ ex,Blk w g (qA1 bs ++ ex).toArray 5 ∧ n + ex.length = c ∧ bs.length = n ∧ B ≤ g ∧ c ≤ maxLen:=by
 have hl:=h.1
 rw [qA6,Nat.mul_one] at hl
 rcases h.2 with ⟨e,_⟩ | ⟨g',cap',cur,e,hB,hb,h1,h4,h2,h3⟩
 · cases e
 · cases e
   rw [Nat.mul_one] at h2 h3
   refine ⟨cur.toList.drop n,?_,by simp;omega,hl,hB,h4⟩
   rw [← h3,List.take_append_drop]
   exact hb
def Sd.barred (s : Sd) (r : Bool) (p' : Pw) : Sd:=if r then ⟨p',s.snap,[],s.trace ++ [(-1,[])]⟩ else { s with p:=p' }
theorem qJr (A : Nat → Prop) (K b : Nat) (s : Sd) (n m : Nat) (h0 : 0 < n) (hn : n ≤ 65536) (hm : m ≤ 99999) (w : World) (h : qGr A w K b s) (ok : s.ok n m) (r : Bool) (p' : Pw) (hsp : s.p.spend = (r,p')) :
 Calls prog 175 #[.pointer (some ⟨K,0,none⟩)] w fun e w'=>e = .returned (.bool r) ∧ qGr A w' K b (s.barred r p') ∧ qA8 A w w':=by
 obtain ⟨gl,cap,ex,vw,vt,us,ut,X,O,hAl⟩:=h
 have c0:=X.blk.cell 0
 have hok : s.p.ok 9223372036854775806:=qE0 ok.pw (by omega)
 go_enter func175,ntmps175
 go_wp2_with fail
 refine (qAG b s.p p' r _ X.pw hok hsp).mono ?_
 rintro e w1 ⟨rfl,p1,g1⟩
 have g1:=Chg.of_grown g1
 have X1:=X.power g1 p1
 have hsm1:=O.same g1
 cases r
 · go_wp2
   go_ret
   exact ⟨rfl,⟨gl,cap,ex,vw,vt,us,ut,X1,O,fun k ha=>Nat.lt_of_lt_of_le (hAl k ha) g1.size⟩,hsm1⟩
 · have hp' : p'.ok (m + 1 : Int):=by have:=qHd ok.pw;rw [hsp] at this;exact this
   have ok1 : ({ s with p:=p' } : Sd).ok n (m + 1):=⟨ok.len,ok.fit,ok.fitp,by have:=ok.few;show s.waits.length ≤ _;omega,by have:=ok.done;show s.trace.length ≤ _;omega,by simpa using hp'⟩
   go_wp2_with fail
   refine (qEW K b gl cap ex vw vt us ut { s with p:=p' } n (m + 1) h0 hn (by omega) (fun _=>true) _ X1 ok1 rfl).mono ?_
   rintro e w2 ⟨rfl,X2,c2⟩
   rw [qEp _ _ _ qle,List.take_length] at X2
   have hs2 : qA8 A w1 w2:=qA8.of_chg c2 (by intro x hx;simp at hx;rcases hx with rfl | rfl;exact O.gl;exact O.K)
   obtain ⟨ta,tc,hve⟩:=X2.trc.slice
   subst hve
   have hka : qA4 w2 (w2.alloc (.cells #[.int .i64 (-1),.slice none 0 0] 133)):=qal _
   have c3:=X2.blk.cell 3
   have hro:=X2.trc.row.alloc (.cells #[.int .i64 (-1),.slice none 0 0] 133)
   have hft:=ok.done
   have hKv : K ∉ (Value.slice ta s.trace.length tc).ownBlock.toList:=fun h=>((X2.ne).2.2.2.2.1 K (qAs.1 h)).2.1 rfl
   clear c0
   go_wp2_with (at_builtin;refine qB6 qGK rfl (by rfl) (by rfl) (by rfl) hro (Sl.lit _ #[.int .i64 (-1),.slice none 0 0] _ 1 (by decide)) (by rfl) (by intro u hu;simp at hu;rcases hu with rfl | rfl <;> rfl) (by show s.trace.length + 1 ≤ maxLen;unfold maxLen;omega) (by show (s.trace.length + 1) * 32 ≤ 140737488355328;omega) (Nat.zero_le _) ?_;intro v3 w3 hown3 hgr3 hat3 _;obtain ⟨g3,cap3,hve⟩:=qAx hown3 (by omega);subst hve;have ck3:=(Chg.of_kept hka (bs:=(Value.slice ta s.trace.length tc).ownBlock.toList)).trans hgr3.chgL;have hb5:=ck3.blk X2.blk hKv;have fK:=hb5.free 3;have eK:=hb5.cell 3)
   go_ret
   have hz : (w2.alloc (.cells #[.int .i64 (-1),.slice none 0 0] 133)).heap.size = w2.heap.size + 1:=by simp
   have hv3 : ∀ g,(Value.slice (some ⟨g3,0,none⟩) (s.trace.length + 1) cap3).ownBlock = some g → (Value.slice ta s.trace.length tc).ownBlock = some g ∨ w2.heap.size ≤ g:=fun g hg=>by
    rcases hat3 with e | e
    · left;rw [← e];exact hg
    · right
      have h3:=Option.some.inj (hg.symm.trans e)
      omega
   have X3:=qEV.pushT (x:=(-1,[])) X2 ck3 hown3 (World.ownsRow_nil _ _ _ _) hv3
   have hqK : Chg [K] w3 (w3.setCell ⟨K,3,none⟩ (.slice (some ⟨g3,0,none⟩) (s.trace.length + 1) cap3)):=Chg.step (by simp) _
   have hs3:=(qA8.of_chg (A:=A) ck3 (fun g hg=>O.vt g (qAs.1 hg))).trans (O.sameK hqK)
   have hall:=(hsm1.trans hs2).trans hs3
   have hA2 : ∀ k,A k → k < w2.heap.size:=fun k ha=>Nat.lt_of_lt_of_le (hAl k ha) (hsm1.trans hs2).size
   have O3:=Off.setT (u6:=.slice none 0 0) (⟨O.K,O.b,O.gl,(by intro g hg;cases hg),O.vt,by simp,O.ut⟩ : Off A K b gl (.slice none 0 0) (.slice ta s.trace.length tc) [] ut) hA2 hv3 (by intro g hg;cases hg)
   exact ⟨rfl,⟨gl,cap,ex,_,_,_,_,X3,O3,fun k ha=>Nat.lt_of_lt_of_le (hAl k ha) hall.size⟩,hall⟩
theorem qOh (A : Nat → Prop) (K b : Nat) (s : Sd) (n m : Nat) (h0 : 0 < n) (hn : n ≤ 65536) (hm : m ≤ 100000) (w : World) (h : qGr A w K b s) (ok : s.ok n m) (o len : Nat) (hol : o + len ≤ n) (ho : o < n) (hg : s.p.gone = false) :
 Calls prog 101 #[.pointer (some ⟨K,0,none⟩),.int .i64 o,.int .i64 len] w fun e w'=>∃ g c ex,e = .returned (.tuple #[.slice (some ⟨g,o,none⟩) len (c - o),.bool true]) ∧ Blk w' g (qA1 s.snap ++ ex).toArray 5 ∧ n + ex.length = c ∧ w.heap.size ≤ g ∧ c ≤ maxLen ∧ qA4 w w':=by
 obtain ⟨gl,cap,ex,vw,vt,us,ut,X,O,hAl⟩:=h
 have hS : qGr A w K b s:=⟨gl,cap,ex,vw,vt,us,ut,X,O,hAl⟩
 have c0:=X.blk.cell 0
 have c1 : w.cell? ⟨K,1,none⟩ = some (.slice (some ⟨gl,0,none⟩) n cap):=by have:=X.blk.cell 1;rw [ok.len] at this;exact this
 have hiB : isB n o len = true:=by simp [isB];omega
 have hpo:=qCV b s.p _ X.pw
 rw [hg] at hpo
 go_enter func101,ntmps101
 go_wp2_with fail
 refine (qCP K _ n _ (by omega) o len _ c1).mono ?_
 rintro e w1 ⟨rfl,rfl⟩
 rw [hiB]
 have HIB:=qh hiB
 clear hiB
 go_wp2_with fail
 refine hpo.mono ?_
 rintro e w1 ⟨rfl,rfl⟩
 go_wp2_with fail
 refine (qKg A K b s n m h0 hn hm _ hS ok).mono ?_
 rintro e w2 ⟨g,c,rfl,hown,hk⟩
 obtain ⟨exb,hB,hc,hsl,hgl,hcm⟩:=qKh hown
 have n1 : (o : Int) ≤ (o : Int) + (len : Int):=by omega
 have n2 : (o : Int) + (len : Int) ≤ (c : Int):=by omega
 have n3 : ¬ c = o:=by omega
 have n4 : ¬ c - o = 0:=by omega
 have n5 : IntKind.i64.wrap ((o : Int) + (len : Int)) = (o : Int) + (len : Int):=IntWalk.i64_in _ (by omega)
 have n6 : (0 : Int) ≤ (o : Int):=by omega
 have n7 : (o : Int) ≤ (c : Int):=by omega
 clear hpo c0 c1
 go_wp2
 go_ret2
 refine ⟨g,c,exb,?_,hB,hc,hgl,hcm,hk⟩
 congr 3;first | omega | (simp;omega) | simp
theorem qOi (A : Nat → Prop) (K b : Nat) (s : Sd) (n m : Nat) (h0 : 0 < n) (hn : n ≤ 65536) (w : World) (h : qGr A w K b s) (ok : s.ok n m) (v : Value) (bs : List UInt8) (hbs : bs.length = n) (hs : Sl w v bs.length (qA1 bs)) :
 Calls prog 57 #[.pointer (some ⟨K,0,none⟩),v] w fun e w'=>e = .returned (.bool true) ∧ qGr A w' K b { s with lasts:=bs,waits:=[] } ∧ qA8 A w w' ∧ Chg [K] w w':=by
 obtain ⟨a,c,he⟩:=hs.len
 subst he
 obtain ⟨gl,cap,ex,vw,vt,us,ut,X,O,hAl⟩:=h
 have c1 : w.cell? ⟨K,1,none⟩ = some (.slice (some ⟨gl,0,none⟩) n cap):=by have:=X.blk.cell 1;rw [ok.len] at this;exact this
 rw [hbs] at hs ⊢
 have hk0 : qA4 w (w.alloc (.cells #[] 5)):=qal _
 have ho : (w.alloc (.cells #[] 5)).ownsRow w.heap.size 5 1 (.slice (some ⟨w.heap.size,0,none⟩) 0 0) 0 (qA1 []):=qCv 0 (by decide) 5 [] rfl (Blk.new _ _ _) qle
 have h2:=hs.kept hk0
 have hlen : (qA1 bs).length = n:=by rw [qA6,hbs]
 go_enter func57,ntmps57
 go_wp2_with fail
 refine (qDG K _ n _ _ c1).mono ?_
 rintro e w1 ⟨rfl,rfl⟩
 go_wp2_with (at_builtin;refine qAv qAw rfl (by rfl) (by rfl) (by rfl) ho h2 (by rw [hlen,Nat.mul_one]) (qAI bs) (by unfold maxLen;omega) (by omega) (by simp) ?_;intro v3 w3 hown3 hg3 hat3;obtain ⟨g3,cap3,hve⟩:=qAx hown3 (by omega);subst hve;have hk3 : qA4 _ w3:=qAD hk0 ho hg3 (by simp);have X3:=X.kept hk3;have e1:=X3.blk.cell 1;have f1:=X3.blk.free 1;have e2:=X3.blk.cell 2;have f2:=X3.blk.free 2)
 go_ret
 obtain ⟨exb,hB,hc3,_,hgl3,hcm⟩:=qKh (n:=n) (bs:=bs) (by simpa [qA1] using hown3)
 obtain ⟨n1,n2,n3,n4,n5,n6,n7⟩:=X3.ne
 have hK3 : K ≠ g3:=qAC X3.blk hB (by decide)
 have hq : Chg [K] w3 ((w3.setCell ⟨K,1,none⟩ (.slice (some ⟨g3,0,none⟩) n cap3)).setCell ⟨K,2,none⟩ (.slice none 0 0)):=((Chg.refl [K] w3).set (by simp) 1 _).set (by simp) 2 _
 have hall : qA8 A w _:=(qA8.of_kept hk3).trans (O.sameK hq)
 refine ⟨rfl,⟨g3,cap3,exb,_,_,_,_,⟨?_,hq.blk X3.pw (by simpa using n1),hq.blk hB (by simpa using hK3.symm),?_,hcm,qAY.nil _,X3.trc.chg hq (fun g hg=>by simpa using (n5 g hg).2.1) (fun u hu g hg=>by simpa using (n7 u hu g hg).2.1),by simp,fun u hu e=>?_,(by intro g hg;cases hg)⟩,⟨O.K,O.b,fun ha=>by have:=hAl _ ha;omega,(by intro g hg;cases hg),O.vt,by simp,O.ut⟩,fun k ha=>Nat.lt_of_lt_of_le (hAl k ha) hall.size⟩,hall,(Chg.of_kept hk3).trans hq⟩
 · have:=(X3.blk.set 1 (.slice (some ⟨g3,0,none⟩) n cap3)).set 2 (.slice none 0 0)
   show Blk _ _ #[_,.slice _ bs.length _,_,_] _
   rw [hbs]
   simpa using this
 · show bs.length + exb.length = cap3
   rw [hbs];exact hc3
 · obtain ⟨cc,hcc⟩:=X.trc.blk hu e
   have:=hcc.lt
   omega
def isD (i : Int) : Bool:=decide (0 ≤ i) && decide (i < 32)
theorem qJs (K : Nat) (i : Int) (w : World) : Calls prog 156 #[.pointer (some ⟨K,0,none⟩),.int .i64 i] w fun e w'=>e = .returned (.bool (isD i)) ∧ w = w':=by
 by_cases h1 : 0 ≤ i
 · by_cases h2 : i < 32
   · rw [show isD i = true by simp [isD];omega]
     go_enter func156,ntmps156
     go_wp2
     go_ret
     exact ⟨rfl,rfl⟩
   · rw [show isD i = false by simp [isD];omega]
     go_enter func156,ntmps156
     go_wp2
     go_ret
     exact ⟨rfl,rfl⟩
 · rw [show isD i = false by simp [isD];omega]
   go_enter func156,ntmps156
   go_wp2
   go_ret
   exact ⟨rfl,rfl⟩
theorem qKi (b : Nat) (p : Pw) (A : Nat → Prop) (w : World) (hA : ∀ k,A k → k < w.heap.size) (hb : ¬ A b) (hp : qCU w b p) : Calls prog 39 #[.pointer (some ⟨b,0,none⟩)] w fun e w'=>∃ K,e = .returned (.pointer (some ⟨K,0,none⟩)) ∧ qIU A w' K b ⟨p,List.replicate 32 (List.replicate 32 0),[],[],false⟩ ∧ qA4 w w':=by
 obtain ⟨Z,hZ⟩ : ∃ Z,Z = List.replicate 32 (0 : UInt8):=⟨_,rfl⟩
 have hmk : ∀ w : World,(Instr.makeSlice 32 (.int .i64 32) (.int .i64 32)).run prog w = .ok (.slice (some ⟨w.heap.size,0,none⟩) 32 32) (w.alloc (.cells (qA1 Z).toArray 5)):=fun w=>by rw [hZ];exact qBR (P:=prog) w qAw .i64 .i64 32 (by omega)
 have hzl : Z.length = 32:=by rw [hZ];simp
 rw [← hZ]
 have HZL:=qh hzl
 clear hZ hzl
 have hB0:=Blk.new w (qBc b (List.replicate 32 (.slice none 0 0)) (.slice none 0 0) (.slice none 0 0) false) 137
 have hk0 : qA4 w (w.alloc (.cells (qBc b (List.replicate 32 (.slice none 0 0)) (.slice none 0 0) (.slice none 0 0) false) 137)):=qal _
 go_enter func39,ntmps39
 go_wp2_with fail
 go_loopw [8,4] (fun i _ wr=>∃ k : Nat,k ≤ 32 ∧ i = .int .i64 k ∧ ∃ ls : List Value,ls.length = 32 ∧ Blk wr w.heap.size (qBc b ls (.slice none 0 0) (.slice none 0 0) false) 137 ∧ qA4 w wr ∧ (∀ j,j < k → ∃ u,ls[j]? = some u ∧ wr.ownsRow w.heap.size 5 1 u 32 (qA1 Z))) (fun i _ _=>32 - (intOf i).toNat)
 case atStart=>exact ⟨0,by omega,rfl,List.replicate 32 (.slice none 0 0),by simp,hB0,hk0,fun j h=>absurd h (by omega)⟩
 case round =>
  obtain ⟨k,hk,rfl,ls,hl,hB,hkr,hz⟩:=hrel
  clear hB0 hk0
  by_cases hlt : k < 32
  · have n1 : (k : Int) < 32:=by omega
    have n2 : (0 : Int) ≤ (k : Int):=by omega
    have HLN:=qh hl
    have hzr:=hkr.size
    go_wp2_with fail
    refine qDO (w.heap.size) [(0,0),(1,0),(3,0),(4,0),(2,1),(5,0),(6,1)] (by kernel_rfl) (by kernel_rfl) ?_
    intro w2 hw2
    repeat
     refine qA0 _ rfl (fun K hK=>?_)
     first
      | (refine qqP (by rfl) ?_;apply Exists.intro;refine ⟨fun w' hw'=>?_,hK _ ?_⟩;go_simp;first|done|rfl)
      | refine qqN (by rfl) (hK _ ?_)
     clear hK K;simp only [Act.put,qqB]
    refine qqH _ rfl (by rfl) (fun K hK=>?_)
    have hs2 : w.heap.size ≤ w2.heap.size:=Nat.le_trans hzr hw2.size
    go_wp2
    refine hK _ _ ((Below.refl _ w2).alloc hs2 _) ?_
    clear hK K
    try simp only [Act.put,qqB]
    repeat
     refine qA0 _ rfl (fun K hK=>?_)
     first
      | (refine qqP (by rfl) ?_;apply Exists.intro;refine ⟨fun w' hw'=>?_,hK _ ?_⟩;go_simp;first|done|rfl)
      | refine qqN (by rfl) (hK _ ?_)
     clear hK K;simp only [Act.put,qqB]
    refine qqH _ rfl (by rfl) (fun K hK=>?_)
    have bb:=(hB.kept hw2).alloc (.cells (qA1 Z).toArray 5)
    have ff:=bb.free (1 + k)
    obtain ⟨cv,cc⟩ : ∃ cv,(w2.alloc (.cells (qA1 Z).toArray 5)).cell? ⟨w.heap.size,1 + k,none⟩ = some cv:=by
     rw [bb.cell (1 + k),qEs hl k (by omega)]
     exact ⟨_,List.getElem?_eq_getElem (by omega)⟩
    go_wp2
    refine hK _ _ (Below.setCell (p:=⟨w.heap.size,1 + k,none⟩) (Below.refl _ _) qle _) ?_
    clear hK K
    try simp only [Act.put,qqB]
    refine qA7 ?_
    have hs3 : (w2.alloc (.cells (qA1 Z).toArray 5)).heap.size = w2.heap.size + 1:=by simp
    have hka : qA4 w2 (w2.alloc (.cells (qA1 Z).toArray 5)):=(Below.refl _ w2).alloc qle _
    have hcb : Chg [w.heap.size] (w2.alloc (.cells (qA1 Z).toArray 5)) ((w2.alloc (.cells (qA1 Z).toArray 5)).setCell ⟨w.heap.size,1 + k,none⟩ (.slice (some ⟨w2.heap.size,0,none⟩) 32 32)):=Chg.step (by simp) _
    have hown : (w2.alloc (.cells (qA1 Z).toArray 5)).ownsRow w.heap.size 5 1 (.slice (some ⟨w2.heap.size,0,none⟩) 32 32) 32 (qA1 Z):=qCv 32 (by decide) _ _ HZL.out (Blk.new _ _ _) hs2
    have bn:=bb.set (1 + k) (.slice (some ⟨w2.heap.size,0,none⟩) 32 32)
    rw [qMo HLN.out k hlt] at bn
    go_wp2
    refine ⟨⟨k + 1,by omega,by go_num,ls.set k (.slice (some ⟨w2.heap.size,0,none⟩) 32 32),by simp [HLN.out],bn,(hkr.of (hw2.of hka)).trans (Below.setCell (p:=⟨w.heap.size,1 + k,none⟩) (Below.refl _ _) qle _),fun j hj=>?_⟩,by simp [intOf];omega⟩
    by_cases hjk : j = k
    · subst hjk
      exact ⟨_,by rw [List.getElem?_set_self (by rw [HLN.out];omega)],qAt hown hcb bb (by decide)⟩
    · obtain ⟨u,e1,e2⟩:=hz j (by omega)
      exact ⟨u,by rw [List.getElem?_set_ne (by omega)];exact e1,qAt (qA3 (qA3 e2 hw2) hka) hcb bb (by decide)⟩
  · have hkk : k = 32:=by omega
    have HK:=qh hkk
    clear hkk
    go_wp2
    go_ret
    refine ⟨_,rfl,⟨ls,.slice none 0 0,.slice none 0 0,[],[],⟨hB,Blk.kept hp hkr,⟨by simp [hl],fun i x u hx hu=>?_⟩,qAY.nil _,qAY.nil _,fun g hg=>by cases hg⟩,⟨fun ha=>?_,hb,fun u hu g hg ha=>?_,(fun g hg=>by cases hg),(fun g hg=>by cases hg),(by simp),(by simp)⟩,fun k ha=>Nat.lt_of_lt_of_le (hA k ha) hkr.size⟩,hkr⟩
    · have hi:=(List.getElem?_eq_some_iff.1 hu).1
      obtain ⟨u',e1,e2⟩:=hz i (by have:=HK.out;omega)
      rw [hu] at e1
      cases e1
      have hx' : x = Z:=by
       rw [List.getElem?_replicate] at hx
       split at hx
       · exact (Option.some.inj hx).symm
       · cases hx
      rw [hx',HZL.out]
      exact qAg e2 (Nat.zero_le _)
    · have:=hA _ ha
      omega
    · obtain ⟨i,hi⟩:=List.getElem?_of_mem hu
      have hi':=(List.getElem?_eq_some_iff.1 hi).1
      obtain ⟨u',e1,e2⟩:=hz i (by have:=HK.out;omega)
      rw [hi] at e1
      cases e1
      have:=qAM e2 hg
      have:=hA _ ha
      omega
theorem qGu (A : Nat → Prop) (K b : Nat) (d : Dk) (m : Nat) (w : World) (h : qIU A w K b d) (ok : d.ok m) (off : Int) (a : Option Addr) (L c : Nat) (hL : L ≤ 1000000) (hn : isD off = true) (hl : L = 32) (hr : d.no = true) : Calls prog 148 #[.pointer (some ⟨K,0,none⟩),.int .i64 off,.slice a L c] w fun e w'=>e = .returned (.bool false) ∧ w = w':=by
 obtain ⟨ls,vw,vt,us,ut,X,O,hA⟩:=h
 have hll : ls.length = 32:=by rw [X.lst.len,ok.len]
 have c4:=X.blk.cell 35
 rw [qFP hll] at c4
 subst hl
 rw [hr] at c4
 clear hll
 go_enter func148,ntmps148
 go_wp2_with fail
 refine (qJs K off _).mono ?_
 rintro e w1 ⟨rfl,rfl⟩
 rw [hn]
 go_wp2
 go_ret
 exact ⟨rfl,rfl⟩
def Dk.wrote (d : Dk) (r : Bool) (p' : Pw) (x : Wr) : Dk:=if r then ⟨p',d.lasts,d.waits ++ [x],d.trace ++ [x],d.no⟩ else { d with p:=p' }
theorem qL7 (A : Nat → Prop) (K b : Nat) (d : Dk) (m : Nat) (hm : m ≤ 100000) (w : World) (h : qIU A w K b d) (ok : d.ok m) (hno : d.no = false) (off : Int) (u : Value) (bs : List UInt8) (hn : isD off = true) (hl : bs.length = 32) (hs : Sl w u bs.length (qA1 bs)) (hu : ∀ a c,u = .slice (some a) bs.length c → 0 < (qA1 bs).length → A a.block) (r : Bool) (p' : Pw) (hsp : d.p.spend = (r,p')) :
 Calls prog 148 #[.pointer (some ⟨K,0,none⟩),.int .i64 off,u] w fun e w'=>e = .returned (.bool r) ∧ qIU A w' K b (d.wrote r p' (off,bs)) ∧ qA8 A w w':=by
 obtain ⟨a,c,he⟩:=hs.len
 subst he
 obtain ⟨ls,vw,vt,us,ut,X,O,hA⟩:=h
 have hll : ls.length = 32:=by rw [X.lst.len,ok.len]
 have c4:=X.blk.cell 35
 rw [qFP hll,hno] at c4
 have c0:=X.blk.cell 0
 rw [qHj] at c0
 have hbl : bs.length ≤ 65536:=by omega
 have i2 : (bs.length : Int) = 32:=by omega
 have i1 : ((bs.length : Int) == 32) = true:=by simp;omega
 have i3 : ((bs.length : Int) != 32) = false:=by simp;omega
 have hok : d.p.ok 9223372036854775806:=qE0 ok.pw (by omega)
 have HLL:=qh hll
 have HL:=qh hl
 have HI:=qh i2
 clear hl i2 hll
 go_enter func148,ntmps148
 go_wp2_with fail
 refine (qJs K off _).mono ?_
 rintro e w1 ⟨rfl,rfl⟩
 rw [hn]
 go_wp2_with fail
 refine (qAG b d.p p' r _ X.pw hok hsp).mono ?_
 rintro e w1 ⟨rfl,p1,g1⟩
 have g1:=Chg.of_grown g1
 have X1:=X.power g1 p1
 have hs1:=(O.same g1).sl hs hu
 have hsm1:=O.same g1
 cases r
 · go_wp2
   go_ret
   exact ⟨rfl,⟨ls,vw,vt,us,ut,X1,O,fun k ha=>Nat.lt_of_lt_of_le (hA k ha) g1.size⟩,hsm1⟩
 · obtain ⟨wa,wc,hve⟩:=X1.wts.slice
   subst hve
   obtain ⟨ta,tc,hve⟩:=X1.trc.slice
   subst hve
   have hfw:=ok.few
   have hft:=ok.done
   have hll:=HLL.out
   have hsl:=hs1
   clear c0 c4 i1 i3
   go_wp2_with fail
   have hKv : K ∉ (Value.slice wa d.waits.length wc).ownBlock.toList:=qBS X1.wts.row X1.blk (by decide)
   have hKc : w1.cell? ⟨K,33,none⟩ = some (Value.slice wa d.waits.length wc):=by
    have:=X1.blk.cell 33
    rwa [qCl hll] at this
   have hlw : ∀ g,(Value.slice wa d.waits.length wc).ownBlock = some g → g < w1.heap.size:=fun g hg=>qAo X1.wts.row hg
   refine qAf ((Value.slice wa d.waits.length wc).ownBlock.toList) [(0,0),(1,0),(2,0),(3,0),(4,0),(5,0),(6,0),(7,1),(8,0),(9,1),(10,1),(11,2),(12,2),(13,2)] (by kernel_rfl) (by kernel_rfl) ?_
   intro wp1 hwp1
   repeat
    refine qA0 _ rfl (fun K hK=>?_)
    first
     | (refine qqP (by rfl) ?_;apply Exists.intro;refine ⟨fun w' hw'=>?_,hK _ ?_⟩;(have kc:=hw'.cell (hwp1.at hKc) hKv;go_simp;first|done|rfl))
     | refine qqN (by rfl) (hK _ ?_)
    clear hK K;simp only [Act.put,qqB]
   refine qqH _ rfl (by rfl) (fun K hK=>?_)
   go_wp2_with fail
   refine (qAV _ bs (by omega) _ (hsl.kept hwp1)).mono ?_
   rintro e wp2 ⟨vp,rfl,hop,hkp2⟩
   obtain ⟨ap,cp,hve⟩:=(Sl.of_own hop).len
   subst hve
   go_wp2
   refine hK _ _ (Chg.of_kept hkp2) ?_
   clear hK K
   try simp only [Act.put,qqB]
   repeat
    refine qA0 _ rfl (fun K hK=>?_)
    first
     | (refine qqP (by rfl) ?_;apply Exists.intro;refine ⟨fun w' hw'=>?_,hK _ ?_⟩;go_simp;first|done|rfl)
     | refine qqN (by rfl) (hK _ ?_)
    clear hK K;simp only [Act.put,qqB]
   refine qqH _ rfl (by rfl) (fun K hK=>?_)
   go_wp2
   refine hK _ _ (Chg.of_kept (qal _)) ?_
   clear hK K
   try simp only [Act.put,qqB]
   refine qqH _ rfl (by rfl) (fun K hK=>?_)
   have hro:=(qA3 (qA3 X1.wts.row hwp1) hkp2).alloc (.cells #[.int .i64 off,.slice ap bs.length cp] 133)
   refine qBC qGK (by rfl) (by rfl) (by rfl) hro (Sl.lit _ #[.int .i64 off,.slice ap bs.length cp] _ 1 (by decide)) (by rfl) (by intro u hu;simp at hu;rcases hu with rfl | rfl <;> rfl) (by show d.waits.length + 1 ≤ maxLen;unfold maxLen;omega) (by show (d.waits.length + 1) * 32 ≤ 140737488355328;omega) (Nat.zero_le _) ?_
   intro vp wp3 hownp hgrp hatp _
   obtain ⟨gp,capp,hve⟩:=qAx hownp (by omega)
   subst hve
   have hobp:=qA3 hop ((qal (.cells #[.int .i64 off,.slice ap bs.length cp] 133)) : qA4 wp2 _)
   have ckp : Chg (Value.slice wa d.waits.length wc).ownBlock.toList w1 wp3:=(Chg.of_kept (qA4.of hwp1 hkp2)).trans ((Chg.of_kept (qal _)).trans hgrp.chgL)
   refine hK _ _ (hgrp.chgL) ?_
   clear hK K
   try simp only [Act.put,qqB]
   refine qAh _ rfl (fun K hK=>?_)
   refine qqP (by rfl) ?_
   go_wp2
   refine qAh _ rfl (fun K hK=>?_)
   refine qqP (by rfl) ?_
   go_wp2
   refine qAh _ rfl (fun K hK=>?_)
   refine qqP (by rfl) ?_
   have hb5:=ckp.blk X1.blk hKv
   have fK:=hb5.free 33
   have eK:=hb5.cell 33
   rw [qCl hll] at eK
   go_wp2
   refine qA7 ?_
   have hz1:=hwp1.size
   have hz2:=hkp2.size
   have hbg : ∀ g,(Value.slice ap bs.length cp).ownBlock = some g → w1.heap.size ≤ g:=fun g hg=>Nat.le_trans hz1 (qAM hop hg)
   have hu6:=qAg (qAK hobp hgrp.chgL fun g hg hm=>by
    have:=hbg g hg
    have:=hlw g (qAs.1 hm)
    omega) hz1
   have hv6 : ∀ g,(Value.slice (some ⟨gp,0,none⟩) (d.waits.length + 1) capp).ownBlock = some g → (Value.slice wa d.waits.length wc).ownBlock = some g ∨ w1.heap.size ≤ g:=fun g hg=>by
    rcases hatp with e | e
    · left;rw [← e];exact hg
    · right
      have h2 : some g = some ((wp2.alloc (.cells #[.int .i64 off,.slice ap bs.length cp] 133)).heap.size):=hg.symm.trans e
      have h3:=Option.some.inj h2
      have : (wp2.alloc (.cells #[.int .i64 off,.slice ap bs.length cp] 133)).heap.size = wp2.heap.size + 1:=by simp
      omega
   have X3:=qDF.pushW (x:=(off,bs)) X1 hll ckp hownp hu6 hv6
   have hqK : Chg [K] wp3 (wp3.setCell ⟨K,33,none⟩ (.slice (some ⟨gp,0,none⟩) (d.waits.length + 1) capp)):=Chg.step (by simp) _
   have hst:=(O.sameW ckp).trans (O.sameK hqK)
   have hA1 : ∀ k,A k → k < w1.heap.size:=fun k ha=>by
    have:=hA k ha;have:=g1.size;omega
   have O2:=O.setW hA1 hv6 hbg
   replace hsl:=hst.sl hsl hu
   have hsz2:=hst.size
   replace hst:=hsm1.trans hst
   have hbnd : bs.length ≤ 65536:=hbl
   clear hqK ckp hu6 hv6 hbg hownp hatp hgrp hobp hop hkp2 hwp1 hz1 hz2 hKc hlw hKv fK eK hb5
   go_wp2_with fail
   generalize (wp3.setCell ⟨K,33,none⟩ (.slice (some ⟨gp,0,none⟩) (d.waits.length + 1) capp)) = w4 at *
   have hst0:=hst
   have hKv : K ∉ (Value.slice ta d.trace.length tc).ownBlock.toList:=qBS X3.trc.row X3.blk (by decide)
   have hKc : w4.cell? ⟨K,34,none⟩ = some (Value.slice ta d.trace.length tc):=by
    have:=X3.blk.cell 34
    rwa [qEr hll] at this
   have hlw : ∀ g,(Value.slice ta d.trace.length tc).ownBlock = some g → g < w4.heap.size:=fun g hg=>qAo X3.trc.row hg
   refine qAf ((Value.slice ta d.trace.length tc).ownBlock.toList) [(0,0),(1,0),(2,0),(3,0),(4,0),(5,0),(6,0),(7,1),(8,0),(9,1),(10,1),(11,2),(12,2),(13,2)] (by kernel_rfl) (by kernel_rfl) ?_
   intro wq1 hwq1
   repeat
    refine qA0 _ rfl (fun K hK=>?_)
    first
     | (refine qqP (by rfl) ?_;apply Exists.intro;refine ⟨fun w' hw'=>?_,hK _ ?_⟩;(have kc:=hw'.cell (hwq1.at hKc) hKv;go_simp;first|done|rfl))
     | refine qqN (by rfl) (hK _ ?_)
    clear hK K;simp only [Act.put,qqB]
   refine qqH _ rfl (by rfl) (fun K hK=>?_)
   go_wp2_with fail
   refine (qAV _ bs (by omega) _ (hsl.kept hwq1)).mono ?_
   rintro e wq2 ⟨vq,rfl,hoq,hkq2⟩
   obtain ⟨aq,cq,hve⟩:=(Sl.of_own hoq).len
   subst hve
   go_wp2
   refine hK _ _ (Chg.of_kept hkq2) ?_
   clear hK K
   try simp only [Act.put,qqB]
   repeat
    refine qA0 _ rfl (fun K hK=>?_)
    first
     | (refine qqP (by rfl) ?_;apply Exists.intro;refine ⟨fun w' hw'=>?_,hK _ ?_⟩;go_simp;first|done|rfl)
     | refine qqN (by rfl) (hK _ ?_)
    clear hK K;simp only [Act.put,qqB]
   refine qqH _ rfl (by rfl) (fun K hK=>?_)
   go_wp2
   refine hK _ _ (Chg.of_kept (qal _)) ?_
   clear hK K
   try simp only [Act.put,qqB]
   refine qqH _ rfl (by rfl) (fun K hK=>?_)
   have hro:=(qA3 (qA3 X3.trc.row hwq1) hkq2).alloc (.cells #[.int .i64 off,.slice aq bs.length cq] 133)
   refine qBC qGK (by rfl) (by rfl) (by rfl) hro (Sl.lit _ #[.int .i64 off,.slice aq bs.length cq] _ 1 (by decide)) (by rfl) (by intro u hu;simp at hu;rcases hu with rfl | rfl <;> rfl) (by show d.trace.length + 1 ≤ maxLen;unfold maxLen;omega) (by show (d.trace.length + 1) * 32 ≤ 140737488355328;omega) (Nat.zero_le _) ?_
   intro vq wq3 hownq hgrq hatq _
   obtain ⟨gq,capq,hve⟩:=qAx hownq (by omega)
   subst hve
   have hobq:=qA3 hoq ((qal (.cells #[.int .i64 off,.slice aq bs.length cq] 133)) : qA4 wq2 _)
   have ckq : Chg (Value.slice ta d.trace.length tc).ownBlock.toList w4 wq3:=(Chg.of_kept (qA4.of hwq1 hkq2)).trans ((Chg.of_kept (qal _)).trans hgrq.chgL)
   refine hK _ _ (hgrq.chgL) ?_
   clear hK K
   try simp only [Act.put,qqB]
   refine qAh _ rfl (fun K hK=>?_)
   refine qqP (by rfl) ?_
   go_wp2
   refine qAh _ rfl (fun K hK=>?_)
   refine qqP (by rfl) ?_
   go_wp2
   refine qAh _ rfl (fun K hK=>?_)
   refine qqP (by rfl) ?_
   have hb5:=ckq.blk X3.blk hKv
   have fK:=hb5.free 34
   have eK:=hb5.cell 34
   rw [qEr hll] at eK
   go_wp2
   refine qA7 ?_
   have hz1:=hwq1.size
   have hz2:=hkq2.size
   have hbg : ∀ g,(Value.slice aq bs.length cq).ownBlock = some g → w4.heap.size ≤ g:=fun g hg=>Nat.le_trans hz1 (qAM hoq hg)
   have hu6:=qAg (qAK hobq hgrq.chgL fun g hg hm=>by
    have:=hbg g hg
    have:=hlw g (qAs.1 hm)
    omega) hz1
   have hv6 : ∀ g,(Value.slice (some ⟨gq,0,none⟩) (d.trace.length + 1) capq).ownBlock = some g → (Value.slice ta d.trace.length tc).ownBlock = some g ∨ w4.heap.size ≤ g:=fun g hg=>by
    rcases hatq with e | e
    · left;rw [← e];exact hg
    · right
      have h2 : some g = some ((wq2.alloc (.cells #[.int .i64 off,.slice aq bs.length cq] 133)).heap.size):=hg.symm.trans e
      have h3:=Option.some.inj h2
      have : (wq2.alloc (.cells #[.int .i64 off,.slice aq bs.length cq] 133)).heap.size = wq2.heap.size + 1:=by simp
      omega
   have X4:=qDF.pushT (x:=(off,bs)) X3 hll ckq hownq (qAg hu6 (Nat.zero_le _)) hv6
   have hqK : Chg [K] wq3 (wq3.setCell ⟨K,34,none⟩ (.slice (some ⟨gq,0,none⟩) (d.trace.length + 1) capq)):=Chg.step (by simp) _
   have hst:=(O.sameT ckq).trans (O.sameK hqK)
   have hA4 : ∀ k,A k → k < w4.heap.size:=fun k ha=>by
    have:=hA1 k ha;omega
   have O4:=O2.setT hA4 hv6 hbg
   go_wp2
   go_ret
   exact ⟨rfl,⟨ls,_,_,_,_,X4,O4,fun k ha=>Nat.lt_of_lt_of_le (hA4 k ha) hst.size⟩,hst0.trans hst⟩
end Go.Proofs.YtdlgihbpiakebaaGreat
namespace Go.Proofs.YtdlgihbpiakebaaGreat
open Go Go.RowKit Go.ChangeShapes Go.WideShapes Go.ChangeAt Go.Deep

end Go.Proofs.YtdlgihbpiakebaaGreat
namespace Go.Proofs.YtdlgihbpiakebaaGreat
open Go Go.RowKit Tryz
def qFs (b : List (List UInt8)) (l : List Wr) (is : Nat → Bool) : Nat → List (List UInt8)
 | 0=>b
 | k + 1=>if is k then (qFs b l is k).set (l[k]?.getD (0,[])).1.toNat (l[k]?.getD (0,[])).2 else qFs b l is k
theorem qD0 (b : List (List UInt8)) (l : List Wr) (is : Nat → Bool) : ∀ k,(qFs b l is k).length = b.length
 | 0=>rfl
 | k + 1=>by
  unfold qFs
  split
  · rw [List.length_set,qD0 b l is k]
  · exact qD0 b l is k
theorem qHk (b : List (List UInt8)) (l : List Wr) (is : Nat → Bool) (hb : ∀ x ∈ b,x.length = 32) (hl : ∀ x ∈ l,inD x) : ∀ k,k ≤ l.length → ∀ x ∈ qFs b l is k,x.length = 32
 | 0,_=>hb
 | k + 1,hk=>by
  unfold qFs
  split
  · intro x hx
    rcases List.mem_or_eq_of_mem_set hx with h | h
    · exact qHk b l is hb hl k (by omega) x h
    · rw [h,List.getElem?_eq_getElem (by omega)]
      exact (hl _ (List.getElem_mem (by omega))).2.2
  · exact qHk b l is hb hl k (by omega)
def Dk.settled (d : Dk) (is : Nat → Bool) : Dk:={ d with lasts:=qFs d.lasts d.waits is d.waits.length,waits:=[] }
theorem Dk.settled_ok {d : Dk} {m : Nat} (h : d.ok m) (is : Nat → Bool) : (d.settled is).ok m :=
 ⟨(qD0 _ _ _ _).trans h.len,qHk _ _ _ h.all h.fit _ qle,by simp [Dk.settled],h.fitp,by simp [Dk.settled],h.done,h.pw⟩
def Dk.barred (d : Dk) (r : Bool) (p' : Pw) : Dk:=if r then { ({ d with p:=p' } : Dk).settled (fun _=>true) with trace:=d.trace ++ [(-1,[])] } else { d with p:=p' }
theorem qIe (A : Nat → Prop) (J b : Nat) (d0 : Dk) (m : Nat) (hm : m ≤ 99999) (w : World) (h : qIU A w J b d0) (ok0 : d0.ok m) (r : Bool) (p' : Pw) (hsp : d0.p.spend = (r,p')) :
 Calls prog 112 #[.pointer (some ⟨J,0,none⟩)] w fun e w'=>e = .returned (.bool r) ∧ qIU A w' J b (d0.barred r p') ∧ qA8 A w w':=by
 obtain ⟨ls,vw,vt,us,ut,X,O,hA0⟩:=h
 have c0:=X.blk.cell 0
 rw [qHj] at c0
 have hok : d0.p.ok 9223372036854775806:=qE0 ok0.pw (by omega)
 go_enter func112,ntmps112
 go_wp2_with fail
 refine (qAG b d0.p p' r _ X.pw hok hsp).mono ?_
 rintro e w1 ⟨rfl,p1,g1⟩
 have g1:=Chg.of_grown g1
 have X1:=X.power g1 p1
 have hsm1:=O.same g1
 have hA : ∀ k,A k → k < w1.heap.size:=fun k ha=>Nat.lt_of_lt_of_le (hA0 k ha) g1.size
 cases r
 · go_wp2
   go_ret
   exact ⟨rfl,⟨ls,vw,vt,us,ut,X1,O,hA⟩,hsm1⟩
 have hp' : p'.ok (m + 1 : Int):=by have:=qHd ok0.pw;rw [hsp] at this;exact this
 obtain ⟨d,hd⟩ : ∃ d : Dk,d = { d0 with p:=p' }:=⟨_,rfl⟩
 have ok : d.ok (m + 1):=by rw [hd];exact ⟨ok0.len,ok0.all,ok0.fit,ok0.fitp,by have:=ok0.few;show d0.waits.length ≤ _;omega,by have:=ok0.done;show d0.trace.length ≤ _;omega,by simpa using hp'⟩
 have hres : d0.barred true p' = { d.settled (fun _=>true) with trace:=d.trace ++ [(-1,[])] }:=by rw [hd];rfl
 have HRES:=qh hres
 rw [← hd] at X1
 clear hres hd c0 X p1 hp' ok0 hok
 obtain ⟨wa,wc,hve⟩:=X1.wts.slice
 subst hve
 have hll : ls.length = 32:=by rw [X1.lst.len,ok.len]
 have c33:=X1.blk.cell 33
 rw [qCl hll] at c33
 have HF:=qh ok.fit
 have hfew:=ok.few
 have hft:=ok.done
 obtain ⟨N,hN⟩ : ∃ N,N = d.waits.length:=⟨_,rfl⟩
 rw [← hN] at hfew c33
 have HN:=qh hN
 clear hN
 go_wp2_with fail
 go_loopw [20,4] (fun i _ wr=>∃ k : Nat,k ≤ N ∧ i = .int .i64 k ∧ ∃ ls',ls'.length = 32 ∧ qDF wr J b ls' (.slice wa d.waits.length wc) vt us ut { d with lasts:=qFs d.lasts d.waits (fun _=>true) k } ∧ qFz A J b ls' (.slice wa d.waits.length wc) vt us ut ∧ qA8 A w1 wr) (fun i _ _=>N - (intOf i).toNat)
 case atStart=>exact ⟨0,by omega,by go_num,ls,hll,X1,O,qA8.refl _⟩
 case round =>
  obtain ⟨k,hk,rfl,ls',hls,Xr,Or,hsr⟩:=hrel
  clear X1 c33
  have HLS:=qh hls
  clear hls
  by_cases hlt : k < N
  · have hkl : k < d.waits.length:=by rw [← HN.out];exact hlt
    have n3 : (k : Int) < (N : Int):=by omega
    have n4 : (0 : Int) ≤ (k : Int):=by omega
    obtain ⟨g,cap2,u,hve,hui,d0,d1,hsu⟩:=Xr.wts.get k hkl
    cases hve
    have huo : wr.ownsRow 0 5 1 u d.waits[k].2.length (qA1 d.waits[k].2):=Xr.wts.each k _ u (List.getElem?_eq_getElem hkl) hui
    have hun : ∀ g,u.ownBlock = some g → ¬ A g:=Or.us u (List.mem_of_getElem? hui)
    have hfx : inD d.waits[k]:=HF.out _ (List.getElem_mem hkl)
    have hxg : d.waits[k]?.getD (0,[]) = d.waits[k]:=by rw [List.getElem?_eq_getElem hkl];rfl
    replace d0 : wr.cell? ⟨g,k * 2,none⟩ = some (.int .i64 d.waits[k].1):=d0
    generalize d.waits[k] = x at *
    obtain ⟨hx0,hx1,hx2⟩:=hfx
    obtain ⟨o,ho⟩ : ∃ o : Nat,o = x.1.toNat:=⟨_,rfl⟩
    have hxo : x.1 = (o : Int):=by omega
    rw [← ho] at hx1
    rw [hxo] at d0
    obtain ⟨au,cu,hve⟩:=hsu.len
    subst hve
    have n5 : (o : Int) < 32:=by omega
    have n7 : (0 : Int) ≤ (o : Int):=by omega
    have HO:=qh ho
    have HXG:=qh hxg
    have HXO:=qh hxo
    have HX2:=qh hx2
    have hka : qA4 wr (wr.alloc (.cells #[.int .i64 (o : Int),.slice au x.2.length cu] 133)):=qal _
    have hbx:=Blk.new wr #[.int .i64 (o : Int),.slice au x.2.length cu] 133
    have hbn : wr.heap.size ∉ [J]:=by have:=Xr.low.1;simp;omega
    replace Xr:=Xr.kept hka
    replace huo:=qA3 huo hka
    replace hsr:=hsr.trans (qA8.of_kept hka)
    clear ho hxg hxo hx2 hsu
    go_wp2_with fail
    generalize (wr.alloc (.cells #[.int .i64 (o : Int),.slice au x.2.length cu] 133)) = wx at *
    refine qAf [J] [(0,0),(1,0),(2,0),(3,0),(4,0),(5,0),(6,0),(7,0),(8,1)] (by kernel_rfl) (by kernel_rfl) ?_
    intro w2 hw2
    repeat
     refine qA0 _ rfl (fun K hK=>?_)
     first
      | (refine qqP (by rfl) ?_;apply Exists.intro;refine ⟨fun w' hw'=>?_,hK _ ?_⟩;(have kd0:=(hbx.kept hw2);have bb0:=(hw'.blk kd0 hbn).cell 0;have bb1:=(hw'.blk kd0 hbn).cell 1;go_simp;first|done|rfl))
      | refine qqN (by rfl) (hK _ ?_)
     clear hK K;simp only [Act.put,qqB]
    refine qqH _ rfl (by rfl) (fun K hK=>?_)
    have bK:=Xr.blk.kept hw2
    have fK:=bK.free (1 + o)
    obtain ⟨cv,eK⟩ : ∃ cv,w2.cell? ⟨J,1 + o,none⟩ = some cv:=by
     rw [bK.cell (1 + o),qEs HLS.out o hx1]
     exact ⟨_,List.getElem?_eq_getElem (by rw [HLS.out];exact hx1)⟩
    go_wp2
    refine hK _ _ (Chg.step (by simp) _) ?_
    clear hK K
    try simp only [Act.put,qqB]
    refine qA7 ?_
    have Xn:=(Xr.kept hw2).lay HLS.out o hx1 (qA3 huo hw2)
    have On:=Or.lay o hun
    have hsn:=(hsr.trans (qA8.of_kept hw2)).trans (On.sameK (Chg.step qsm (.slice au x.2.length cu) (o:=1 + o)))
    go_wp2
    refine ⟨⟨k + 1,by omega,by go_num,_,by rw [List.length_set];exact HLS.out,?_,On,hsn⟩,by simp [intOf];omega⟩
    have hlay : qFs d.lasts d.waits (fun _=>true) (k + 1) = (qFs d.lasts d.waits (fun _=>true) k).set o x.2:=by
     rw [qFs,HXG.out,HO.out];rfl
    rw [hlay]
    exact Xn
  · have hkN : k = N:=by omega
    have HK:=qh hkN
    clear hkN
    rw [HK.out,HN.out] at Xr
    have fK:=Xr.blk.free 33
    have eK:=Xr.blk.cell 33
    rw [qCl HLS.out] at eK
    have X2:=Xr.clear HLS.out
    have O2:=Or.clear
    have hs2:=hsr.trans (O2.sameK (Chg.step qsm (.slice none 0 0) (o:=33)))
    have hft2 : d.trace.length ≤ m + 1:=hft
    have hA2' : ∀ k,A k → k < (wr.setCell ⟨J,33,none⟩ (.slice none 0 0)).heap.size:=fun k ha=>Nat.lt_of_lt_of_le (hA k ha) hs2.size
    obtain ⟨ta,tc,hve⟩:=X2.trc.slice
    subst hve
    have hka : qA4 (wr.setCell ⟨J,33,none⟩ (.slice none 0 0)) ((wr.setCell ⟨J,33,none⟩ (.slice none 0 0)).alloc (.cells #[.int .i64 (-1),.slice none 0 0] 133)):=qal _
    have c3:=X2.blk.cell 34
    rw [qEr HLS.out] at c3
    have hro:=X2.trc.row.alloc (.cells #[.int .i64 (-1),.slice none 0 0] 133)
    have hKv : J ∉ (Value.slice ta d.trace.length tc).ownBlock.toList:=qBS X2.trc.row X2.blk (by decide)
    have hsl1:=Sl.lit (wr.setCell ⟨J,33,none⟩ (.slice none 0 0)) #[.int .i64 (-1),.slice none 0 0] 133 1 (by decide)
    rw [show (wr.setCell ⟨J,33,none⟩ (.slice none 0 0)).heap.size = wr.heap.size by simp [World.setCell]] at hsl1
    clear hsr Or
    go_wp2_with (at_builtin;refine qB6 qGK rfl (by rfl) (by rfl) (by rfl) hro hsl1 (by rfl) (by intro u hu;simp at hu;rcases hu with rfl | rfl <;> rfl) (by show d.trace.length + 1 ≤ maxLen;unfold maxLen;omega) (by show (d.trace.length + 1) * 32 ≤ 140737488355328;omega) (Nat.zero_le _) ?_;intro v3 w3 hown3 hgr3 hat3 _;obtain ⟨g3,cap3,hve⟩:=qAx hown3 (by omega);subst hve;have ck3:=(Chg.of_kept hka (bs:=(Value.slice ta d.trace.length tc).ownBlock.toList)).trans hgr3.chgL;have hb5:=ck3.blk X2.blk hKv;have fK:=hb5.free 34;have eK:=hb5.cell 34;rw [qEr HLS.out] at eK)
    go_ret
    have hz : ((wr.setCell ⟨J,33,none⟩ (.slice none 0 0)).alloc (.cells #[.int .i64 (-1),.slice none 0 0] 133)).heap.size = (wr.setCell ⟨J,33,none⟩ (.slice none 0 0)).heap.size + 1:=by simp
    have hv3 : ∀ g,(Value.slice (some ⟨g3,0,none⟩) (d.trace.length + 1) cap3).ownBlock = some g → (Value.slice ta d.trace.length tc).ownBlock = some g ∨ (wr.setCell ⟨J,33,none⟩ (.slice none 0 0)).heap.size ≤ g:=fun g hg=>by
     rcases hat3 with e | e
     · left;rw [← e];exact hg
     · right
       have h3:=Option.some.inj (hg.symm.trans e)
       omega
    have X3:=qDF.pushT (x:=(-1,[])) X2 HLS.out ck3 hown3 (World.ownsRow_nil _ _ _ _) hv3
    have hqK : Chg [J] w3 (w3.setCell ⟨J,34,none⟩ (.slice (some ⟨g3,0,none⟩) (d.trace.length + 1) cap3)):=Chg.step (by simp) _
    have hs3:=(O2.sameT ck3).trans (O2.sameK hqK)
    have O3:=qFz.setT (u6:=.slice none 0 0) O2 hA2' hv3 (by intro g hg;cases hg)
    have hall:=(hsm1.trans hs2).trans hs3
    rw [HRES.out]
    exact ⟨rfl,⟨_,_,_,_,_,X3,O3,fun k ha=>Nat.lt_of_lt_of_le (hA0 k ha) hall.size⟩,hall⟩
theorem qL8 (A : Nat → Prop) (J b : Nat) (d : Dk) (m : Nat) (hm : m ≤ 100000) (w1 : World) (h : qIU A w1 J b d) (ok : d.ok m) (v : Value) (ks : List Bool) (kl : ks.length ≤ 100000) (hks : Sl w1 v ks.length (qBo ks)) (hkA : ∀ a c,v = .slice (some a) ks.length c → 0 < (qBo ks).length → A a.block) :
 Calls prog 83 #[.pointer (some ⟨J,0,none⟩),v] w1 fun e w'=>e = .returned (.tuple #[]) ∧ qIU A w' J b (d.settled (isK ks)) ∧ qA8 A w1 w':=by
 obtain ⟨ka,kc,he⟩:=hks.len
 subst he
 obtain ⟨ls,vw,vt,us,ut,X1,O,hA⟩:=h
 obtain ⟨wa,wc,hve⟩:=X1.wts.slice
 subst hve
 have hll : ls.length = 32:=by rw [X1.lst.len,ok.len]
 have c33:=X1.blk.cell 33
 rw [qCl hll] at c33
 have HF:=qh ok.fit
 have hfew:=ok.few
 obtain ⟨N,hN⟩ : ∃ N,N = d.waits.length:=⟨_,rfl⟩
 rw [← hN] at hfew c33
 have HN:=qh hN
 clear hN
 go_enter func83,ntmps83
 go_wp2_with fail
 go_loopw [13,4,5] (fun i _ _ wr=>∃ k : Nat,k ≤ N ∧ i = .int .i64 k ∧ ∃ ls',ls'.length = 32 ∧ qDF wr J b ls' (.slice wa d.waits.length wc) vt us ut { d with lasts:=qFs d.lasts d.waits (isK ks) k } ∧ qFz A J b ls' (.slice wa d.waits.length wc) vt us ut ∧ qA8 A w1 wr) (fun i _ _ _=>N - (intOf i).toNat)
 case atStart=>exact ⟨0,by omega,by go_num,ls,hll,X1,O,qA8.refl _⟩
 case round =>
  obtain ⟨k,hk,rfl,ls',hls,Xr,Or,hsr⟩:=hrel
  clear X1 c33
  have HLS:=qh hls
  clear hls
  by_cases hlt : k < N
  · have hkl : k < d.waits.length:=by rw [← HN.out];exact hlt
    have n3 : (k : Int) < (N : Int):=by omega
    have n4 : (0 : Int) ≤ (k : Int):=by omega
    obtain ⟨g,cap2,u,hve,hui,d0,d1,hsu⟩:=Xr.wts.get k hkl
    cases hve
    have huo : wr.ownsRow 0 5 1 u d.waits[k].2.length (qA1 d.waits[k].2):=Xr.wts.each k _ u (List.getElem?_eq_getElem hkl) hui
    have hun : ∀ g,u.ownBlock = some g → ¬ A g:=Or.us u (List.mem_of_getElem? hui)
    have hfx : inD d.waits[k]:=HF.out _ (List.getElem_mem hkl)
    have hxg : d.waits[k]?.getD (0,[]) = d.waits[k]:=by rw [List.getElem?_eq_getElem hkl];rfl
    replace d0 : wr.cell? ⟨g,k * 2,none⟩ = some (.int .i64 d.waits[k].1):=d0
    generalize d.waits[k] = x at *
    obtain ⟨hx0,hx1,hx2⟩:=hfx
    obtain ⟨o,ho⟩ : ∃ o : Nat,o = x.1.toNat:=⟨_,rfl⟩
    have hxo : x.1 = (o : Int):=by omega
    rw [← ho] at hx1
    rw [hxo] at d0
    obtain ⟨au,cu,hve⟩:=hsu.len
    subst hve
    have n5 : (o : Int) < 32:=by omega
    have n7 : (0 : Int) ≤ (o : Int):=by omega
    have HO:=qh ho
    have HXG:=qh hxg
    have HXO:=qh hxo
    have HX2:=qh hx2
    have hka : qA4 wr (wr.alloc (.cells #[.int .i64 (o : Int),.slice au x.2.length cu] 133)):=qal _
    have hbx:=Blk.new wr #[.int .i64 (o : Int),.slice au x.2.length cu] 133
    have hbn : wr.heap.size ∉ [J]:=by have:=Xr.low.1;simp;omega
    replace Xr:=Xr.kept hka
    replace huo:=qA3 huo hka
    replace hsr:=hsr.trans (qA8.of_kept hka)
    clear ho hxg hxo hx2 hsu
    by_cases hkk : k < ks.length
    · have r1 : (k : Int) < (ks.length : Int):=by omega
      obtain ⟨bk,offk,capk,e,_,_,_,hx⟩:=(hsr.sl hks hkA).at (by rw [qEt];omega)
      cases e
      have r0:=hx k (.bool ks[k]) (by simp [qBo,hkk])
      have hi : isK ks k = ks[k]:=by simp [isK,hkk]
      cases hq : ks[k]
      · rw [hq] at r0 hi
        have hls : qFs d.lasts d.waits (isK ks) (k + 1) = qFs d.lasts d.waits (isK ks) k:=by rw [qFs,hi];rfl
        have HL2:=qh hls
        clear hi hq hls hx
        go_wp2
        refine ⟨⟨k + 1,by omega,by go_num,_,HLS.out,?_,Or,hsr⟩,by simp [intOf];omega⟩
        rw [HL2.out]
        exact Xr
      · rw [hq] at r0 hi
        have HI:=qh hi
        clear hi hq hx
        go_wp2_with fail
        generalize (wr.alloc (.cells #[.int .i64 (o : Int),.slice au x.2.length cu] 133)) = wx at *
        refine qAf [J] [(0,0),(1,0),(2,0),(3,0),(4,0),(5,0),(6,0),(7,0),(8,1)] (by kernel_rfl) (by kernel_rfl) ?_
        intro w2 hw2
        repeat
         refine qA0 _ rfl (fun K hK=>?_)
         first
          | (refine qqP (by rfl) ?_;apply Exists.intro;refine ⟨fun w' hw'=>?_,hK _ ?_⟩;(have kd0:=(hbx.kept hw2);have bb0:=(hw'.blk kd0 hbn).cell 0;have bb1:=(hw'.blk kd0 hbn).cell 1;go_simp;first|done|rfl))
          | refine qqN (by rfl) (hK _ ?_)
         clear hK K;simp only [Act.put,qqB]
        refine qqH _ rfl (by rfl) (fun K hK=>?_)
        have bK:=Xr.blk.kept hw2
        have fK:=bK.free (1 + o)
        obtain ⟨cv,eK⟩ : ∃ cv,w2.cell? ⟨J,1 + o,none⟩ = some cv:=by
         rw [bK.cell (1 + o),qEs HLS.out o hx1]
         exact ⟨_,List.getElem?_eq_getElem (by rw [HLS.out];exact hx1)⟩
        go_wp2
        refine hK _ _ (Chg.step (by simp) _) ?_
        clear hK K
        try simp only [Act.put,qqB]
        refine qA7 ?_
        have Xn:=(Xr.kept hw2).lay HLS.out o hx1 (qA3 huo hw2)
        have On:=Or.lay o hun
        have hsn:=(hsr.trans (qA8.of_kept hw2)).trans (On.sameK (Chg.step qsm (.slice au x.2.length cu) (o:=1 + o)))
        go_wp2
        refine ⟨⟨k + 1,by omega,by go_num,_,by rw [List.length_set];exact HLS.out,?_,On,hsn⟩,by simp [intOf];omega⟩
        have hlay : qFs d.lasts d.waits (isK ks) (k + 1) = (qFs d.lasts d.waits (isK ks) k).set o x.2:=by
         rw [qFs,HXG.out,HO.out];rw [HI.out];rfl
        rw [hlay]
        exact Xn
    · have r1 : ¬ (k : Int) < (ks.length : Int):=by omega
      have hi : isK ks k = false:=by simp [isK,List.getElem?_eq_none (show ks.length ≤ k by omega)]
      have hls : qFs d.lasts d.waits (isK ks) (k + 1) = qFs d.lasts d.waits (isK ks) k:=by rw [qFs,hi];rfl
      have HL2:=qh hls
      clear hi hls
      go_wp2
      refine ⟨⟨k + 1,by omega,by go_num,_,HLS.out,?_,Or,hsr⟩,by simp [intOf];omega⟩
      rw [HL2.out]
      exact Xr
  · have hkN : k = N:=by omega
    have HK:=qh hkN
    clear hkN
    rw [HK.out,HN.out] at Xr
    have fK:=Xr.blk.free 33
    have eK:=Xr.blk.cell 33
    rw [qCl HLS.out] at eK
    have X2:=Xr.clear HLS.out
    have O2:=Or.clear
    have hs2:=hsr.trans (O2.sameK (Chg.step qsm (.slice none 0 0) (o:=33)))
    clear hsr Or
    go_wp2
    go_end0
    exact ⟨rfl,⟨_,_,_,_,_,X2,O2,fun k ha=>Nat.lt_of_lt_of_le (hA k ha) hs2.size⟩,hs2⟩
def qCm (b : List UInt8) (l : List Wr) (o : Int) : Nat → List UInt8
 | 0=>b
 | k + 1=>if (l[k]?.getD (0,[])).1 = o then (l[k]?.getD (0,[])).2 else qCm b l o k
theorem qDl (b : List UInt8) (l : List Wr) (o : Int) (hb : b.length = 32) (hl : ∀ x ∈ l,inD x) : ∀ k,k ≤ l.length → (qCm b l o k).length = 32
 | 0,_=>hb
 | k + 1,hk=>by
  unfold qCm
  split
  · rw [List.getElem?_eq_getElem (by omega)]
    exact (hl _ (List.getElem_mem (by omega))).2.2
  · exact qDl b l o hb hl k (by omega)
def Dk.read (d : Dk) (o : Nat) : List UInt8:=qCm (d.lasts[o]?.getD []) d.waits o d.waits.length
theorem Dk.read_length {d : Dk} {m : Nat} (h : d.ok m) {o : Nat} (ho : o < 32) : (d.read o).length = 32 :=
 qDl _ _ _ (by rw [List.getElem?_eq_getElem (by rw [h.len];exact ho)];exact h.all _ (List.getElem_mem (by rw [h.len];exact ho))) h.fit _ qle
theorem qMu (A : Nat → Prop) (K b : Nat) (d : Dk) (m : Nat) (hm : m ≤ 100000) (w : World) (h : qIU A w K b d) (ok : d.ok m) (o : Nat) (ho : o < 32) (hg : d.p.gone = false) : Calls prog 119 #[.pointer (some ⟨K,0,none⟩),.int .i64 o] w fun e w'=>∃ v,e = .returned (.tuple #[v,.bool true]) ∧ w'.ownsRow w.heap.size 5 1 v 32 (qA1 (d.read o)) ∧ qA4 w w':=by
 obtain ⟨ls,vw,vt,us,ut,X,O,hA⟩:=h
 obtain ⟨wa,wc,hve⟩:=X.wts.slice
 subst hve
 have c0:=X.blk.cell 0
 rw [qHj] at c0
 have hll : ls.length = 32:=by rw [X.lst.len,ok.len]
 have c33:=X.blk.cell 33
 rw [qCl hll] at c33
 have hol : o < d.lasts.length:=by rw [ok.len];exact ho
 obtain ⟨u0,hu0,_,hown0⟩:=X.lst.get o hol
 have c1:=X.blk.cell (1 + o)
 rw [qEs hll o ho,hu0] at c1
 have hd0 : d.lasts[o]?.getD [] = d.lasts[o]:=by rw [List.getElem?_eq_getElem hol];rfl
 have h32:=ok.all _ (List.getElem_mem hol)
 rw [h32] at hown0
 have HRD:=qh (qDl d.lasts[o] d.waits o h32 ok.fit)
 have hrd : d.read o = qCm d.lasts[o] d.waits o d.waits.length:=by rw [Dk.read,hd0]
 rw [hrd]
 generalize d.lasts[o] = y0 at *
 have hfew:=ok.few
 have HF:=qh ok.fit
 obtain ⟨N,hN⟩ : ∃ N,N = d.waits.length:=⟨_,rfl⟩
 rw [← hN] at hfew c33
 have n1 : (0 : Int) ≤ (o : Int):=by omega
 have n2 : (o : Int) < 32:=by omega
 have HN:=qh hN
 have HLL:=qh hll
 obtain ⟨a0,k0,hve⟩:=(Sl.of_own hown0).len
 subst hve
 clear hN hll hu0 hol hd0 h32 hrd
 go_enter func119,ntmps119
 go_wp2_with fail
 refine (qJs K o _).mono ?_
 rintro e w1 ⟨rfl,rfl⟩
 rw [show isD (o : Int) = true by simp [isD];omega]
 go_wp2_with fail
 refine (qCV b _ _ X.pw).mono ?_
 rintro e w1 ⟨rfl,rfl⟩
 rw [hg]
 go_wp2_with fail
 go_loopw [32,8,6] (fun i _ v wr=>∃ k : Nat,k ≤ N ∧ i = .int .i64 k ∧ (∃ a c,v = .slice a 32 c) ∧ wr.ownsRow 0 5 1 v 32 (qA1 (qCm y0 d.waits o k)) ∧ qA4 w wr) (fun i _ _ _=>N - (intOf i).toNat)
 case atStart=>exact ⟨0,by omega,by go_num,⟨_,_,rfl⟩,hown0,Below.refl _ _⟩
 case round =>
  obtain ⟨k,hk,rfl,⟨va,vc,rfl⟩,hv,hkw⟩:=hrel
  by_cases hlt : k < N
  · have hkl : k < d.waits.length:=by rw [← HN.out];exact hlt
    have n3 : (k : Int) < (N : Int):=by omega
    have n4 : (0 : Int) ≤ (k : Int):=by omega
    have hops:=X.wts.kept hkw
    obtain ⟨g,cap2,u,hve,hui,d0,d1,hsu⟩:=hops.get k hkl
    cases hve
    have huo : wr.ownsRow 0 5 1 u d.waits[k].2.length (qA1 d.waits[k].2):=hops.each k _ u (List.getElem?_eq_getElem hkl) hui
    have hfx : inD d.waits[k]:=HF.out _ (List.getElem_mem hkl)
    have hxg : d.waits[k]?.getD (0,[]) = d.waits[k]:=by rw [List.getElem?_eq_getElem hkl];rfl
    replace d0 : wr.cell? ⟨g,k * 2,none⟩ = some (.int .i64 d.waits[k].1):=d0
    generalize d.waits[k] = x at *
    obtain ⟨hx0,hx1,hx2⟩:=hfx
    rw [hx2] at huo hsu
    obtain ⟨au,cu,hve⟩:=hsu.len
    subst hve
    have hka : qA4 wr (wr.alloc (.cells #[.int .i64 x.1,.slice au 32 cu] 133)):=qal _
    have hvk:=qA3 hv hka
    have huk:=qA3 huo hka
    have hkk:=qA4.of hkw hka
    by_cases hxo : x.1 = (o : Int)
    · have hre : qCm y0 d.waits o (k + 1) = x.2:=by rw [qCm,hxg,if_pos hxo]
      have HRE:=qh hre
      have HXG:=qh hxg
      rw [hxo] at d0 hka hvk huk hkk
      clear hre hxg hxo hx2 hsu hops
      go_wp2
      exact ⟨⟨k + 1,by omega,by go_num,⟨_,_,rfl⟩,by rw [HRE.out];exact huk,hkk⟩,by simp [intOf];omega⟩
    · have hre : qCm y0 d.waits o (k + 1) = qCm y0 d.waits o k:=by rw [qCm,hxg,if_neg hxo]
      have i1 : (x.1 == (o : Int)) = false:=by simpa using hxo
      have HRE:=qh hre
      have HXG:=qh hxg
      clear hre hxg hxo hx2 hsu hops
      go_wp2
      exact ⟨⟨k + 1,by omega,by go_num,⟨_,_,rfl⟩,by rw [HRE.out];exact hvk,hkk⟩,by simp [intOf];omega⟩
  · have hkN : k = N:=by omega
    have hl32:=HRD.out k (by rw [← HN.out];omega)
    have HK:=qh hkN
    clear hkN
    rw [HK.out,HN.out] at hv hl32
    have hsl:=Sl.of_own hv
    obtain ⟨Y,hYe⟩ : ∃ Y,Y = qCm y0 d.waits o d.waits.length:=⟨_,rfl⟩
    rw [← hYe] at hsl hl32 hv
    have HYE:=qh hYe
    clear hYe
    have hsl' : Sl wr (.slice va 32 vc) Y.length (qA1 Y):=by rw [hl32];exact hsl
    have HY:=qh hl32
    clear hl32 hv
    go_wp2_with fail
    refine (qAV _ Y (by rw [HY.out];omega) _ hsl').mono ?_
    rintro e w3 ⟨v3,rfl,ho3,hk3⟩
    rw [HY.out] at ho3
    go_wp2
    go_ret2
    exact ⟨v3,rfl,by rw [← HYE.out];exact qAg ho3 hkw.size,qA4.of hkw hk3⟩
theorem qJt (A : Nat → Prop) (K b : Nat) (d : Dk) (m : Nat) (w : World) (h : qIU A w K b d) (ok : d.ok m) (q : Bool) : Calls prog 31 #[.pointer (some ⟨K,0,none⟩),.bool q] w fun e w'=>e = .returned (.tuple #[]) ∧ qIU A w' K b { d with no:=q } ∧ qA8 A w w':=by
 obtain ⟨ls,vw,vt,us,ut,X,O,hA⟩:=h
 have hll : ls.length = 32:=by rw [X.lst.len,ok.len]
 have c35:=X.blk.cell 35
 rw [qFP hll] at c35
 have f35:=X.blk.free 35
 have X2:=X.refuse hll q
 have hs:=O.sameK (Chg.step qsm (.bool q) (o:=35) : Chg [K] w _)
 have HL:=qh hll
 clear hll
 go_enter func31,ntmps31
 go_wp2
 go_end0
 exact ⟨rfl,⟨ls,vw,vt,us,ut,X2,O,fun k ha=>Nat.lt_of_lt_of_le (hA k ha) hs.size⟩,hs⟩
structure Cl where
 kind : Int
 lba : Int
 data : List UInt8
def Cl.is (c : Cl) : Bool :=
 if c.kind = 1 then isD c.lba else if c.kind = 4 then isD c.lba else if c.kind = 2 then isD c.lba && decide (c.data.length = 32) else decide (c.kind = 3) || decide (c.kind = 5)
theorem qL9 (i : Int) (w : World) : Calls prog 116 #[.int .i64 i] w fun e w'=>e = .returned (.bool (isD i)) ∧ w = w':=by
 by_cases h1 : 0 ≤ i
 · by_cases h2 : i < 32
   · rw [show isD i = true by simp [isD];omega]
     go_enter func116,ntmps116
     go_wp2
     go_ret
     exact ⟨rfl,rfl⟩
   · rw [show isD i = false by simp [isD];omega]
     have h2' : decide (i < 32) = false:=decide_eq_false h2
     go_enter func116,ntmps116
     go_wp2
     go_ret
     exact ⟨rfl,rfl⟩
 · rw [show isD i = false by simp [isD];omega]
   go_enter func116,ntmps116
   go_wp2
   go_ret
   exact ⟨rfl,rfl⟩
theorem qEX (c : Cl) (a : Option Addr) (cap : Nat) (hl : c.data.length ≤ 1000000) (w : World) : Calls prog 76 #[.agg #[.int .i64 c.kind,.int .i64 c.lba,.slice a c.data.length cap]] w fun e w'=>e = .returned (.bool c.is) ∧ qA4 w w':=by
 obtain ⟨kd,lb,dt⟩:=c
 simp only at hl ⊢
 have hk : qA4 w (w.alloc (.cells #[.int .i64 kd,.int .i64 lb,.slice a dt.length cap] 34)):=qal _
 have hb:=Blk.new w #[.int .i64 kd,.int .i64 lb,.slice a dt.length cap] 34
 have q0:=hb.cell 0
 have q1:=hb.cell 1
 have q2:=hb.cell 2
 clear hb
 have CB:=qL9 lb (w.alloc (.cells #[.int .i64 kd,.int .i64 lb,.slice a dt.length cap] 34))
 unfold Cl.is
 simp only
 by_cases k1 : kd = 1
 · rw [if_pos k1]
   subst k1
   go_enter func76,ntmps76
   go_wp2_with fail
   refine CB.mono ?_
   rintro e w1 ⟨rfl,rfl⟩
   go_wp2
   go_ret
   exact ⟨rfl,hk⟩
 rw [if_neg k1]
 have e1 : (kd == 1) = false:=by simpa using k1
 by_cases k4 : kd = 4
 · rw [if_pos k4]
   subst k4
   go_enter func76,ntmps76
   go_wp2_with fail
   refine CB.mono ?_
   rintro e w1 ⟨rfl,rfl⟩
   go_wp2
   go_ret
   exact ⟨rfl,hk⟩
 rw [if_neg k4]
 have e4 : (kd == 4) = false:=by simpa using k4
 by_cases k2 : kd = 2
 · rw [if_pos k2]
   subst k2
   cases hd : isD lb
   · rw [hd] at CB
     go_enter func76,ntmps76
     go_wp2_with fail
     refine CB.mono ?_
     rintro e w1 ⟨rfl,rfl⟩
     go_wp2
     go_ret
     exact ⟨rfl,hk⟩
   · rw [hd] at CB
     by_cases hl2 : dt.length = 32
     · rw [decide_eq_true hl2]
       have e5 : ((dt.length : Int) == 32) = true:=by rw [hl2];rfl
       have e6 : (dt.length : Int) = 32:=by omega
       clear hl2
       go_enter func76,ntmps76
       go_wp2_with fail
       refine CB.mono ?_
       rintro e w1 ⟨rfl,rfl⟩
       go_wp2
       go_ret
       exact ⟨rfl,hk⟩
     · rw [decide_eq_false hl2]
       have e6 : ¬ (dt.length : Int) = 32:=by omega
       have e5 : ((dt.length : Int) == 32) = false:=by simpa using e6
       go_enter func76,ntmps76
       go_wp2_with fail
       refine CB.mono ?_
       rintro e w1 ⟨rfl,rfl⟩
       go_wp2
       go_ret
       exact ⟨rfl,hk⟩
 rw [if_neg k2]
 have e2 : (kd == 2) = false:=by simpa using k2
 by_cases k3 : kd = 3
 · rw [decide_eq_true k3]
   subst k3
   go_enter func76,ntmps76
   go_wp2
   go_ret
   exact ⟨rfl,hk⟩
 have e3 : (kd == 3) = false:=by simpa using k3
 rw [decide_eq_false k3]
 by_cases k5 : kd = 5
 · rw [decide_eq_true k5]
   subst k5
   go_enter func76,ntmps76
   go_wp2
   go_ret
   exact ⟨rfl,hk⟩
 have e5 : (kd == 5) = false:=by simpa using k5
 rw [decide_eq_false k5]
 go_enter func76,ntmps76
 go_wp2
 go_ret
 exact ⟨rfl,hk⟩
structure Ac where
 kind : Int
 call : Cl
 n : Int
 off : Int
 data : List UInt8
 keep : List Bool
theorem qBu (kind lba : Int) (va : Option Addr) (vn vc : Nat) (w : World) : Calls prog 15 #[.int .i64 kind,.int .i64 lba,.slice va vn vc] w fun e w'=>e = .returned (.agg #[.int .i64 1,.int .i64 kind,.int .i64 lba,.slice va vn vc,.int .i64 0,.int .i64 0,.slice none 0 0,.slice none 0 0]) ∧ qA4 w w':=by
 go_enter func15,ntmps15
 go_wp2_with fail
 have hb:=Blk.new w #[.int .i64 1,.int .i64 kind,.int .i64 lba,.slice va vn vc,.int .i64 0,.int .i64 0,.slice none 0 0,.slice none 0 0] 37
 have q0:=hb.cell 0
 have q1:=hb.cell 1
 have q2:=hb.cell 2
 have q3:=hb.cell 3
 have q4:=hb.cell 4
 have q5:=hb.cell 5
 have q6:=hb.cell 6
 have q7:=hb.cell 7
 have hk : qA4 w (w.alloc (.cells #[.int .i64 1,.int .i64 kind,.int .i64 lba,.slice va vn vc,.int .i64 0,.int .i64 0,.slice none 0 0,.slice none 0 0] 37)):=qal _
 generalize (w.alloc (.cells #[.int .i64 1,.int .i64 kind,.int .i64 lba,.slice va vn vc,.int .i64 0,.int .i64 0,.slice none 0 0,.slice none 0 0] 37)) = w1 at *
 refine bodyPost_ret (v:=.agg #[.int .i64 1,.int .i64 kind,.int .i64 lba,.slice va vn vc,.int .i64 0,.int .i64 0,.slice none 0 0,.slice none 0 0]) (by simp [results,results15,go_sem,q0,q1,q2,q3,q4,q5,q6,q7];try exact ⟨rfl,rfl⟩) rfl ⟨rfl,hk⟩
theorem qPS (D : List UInt8) (k : Nat) (b : UInt8) (hk : k < D.length) (h : D.take k = List.replicate k b) : (D.set k b).take (k + 1) = List.replicate (k + 1) b:=by
 rw [List.take_succ_eq_append_getElem (by simpa using hk),List.getElem_set_self,List.take_set_of_le qle,h,List.replicate_succ']
theorem qBT (b : UInt8) (w : World) : Calls prog 16 #[V8 b] w fun e w'=>e = .returned (.slice (some ⟨w.heap.size,0,none⟩) 32 32) ∧ w'.ownsRow w.heap.size 5 1 (.slice (some ⟨w.heap.size,0,none⟩) 32 32) 32 (qA1 (List.replicate 32 b)) ∧ qA4 w w':=by
 obtain ⟨Z,hZ⟩ : ∃ Z,Z = List.replicate 32 (0 : UInt8):=⟨_,rfl⟩
 have hmk : (Instr.makeSlice 32 (.int .i64 32) (.int .i64 32)).run prog w = .ok (.slice (some ⟨w.heap.size,0,none⟩) 32 32) (w.alloc (.cells (qA1 Z).toArray 5)):=by rw [hZ];exact qBR (P:=prog) w qAw .i64 .i64 32 (by omega)
 have hzl : Z.length = 32:=by rw [hZ];simp
 have HZL:=qh hzl
 clear hZ hzl
 have hB0:=Blk.new w (qA1 Z).toArray 5
 have hk0 : qA4 w (w.alloc (.cells (qA1 Z).toArray 5)):=qal _
 obtain ⟨w0,hw0⟩ : ∃ w0,w0 = w.alloc (.cells (qA1 Z).toArray 5):=⟨_,rfl⟩
 rw [← hw0] at hmk hB0 hk0
 clear hw0
 go_enter func16,ntmps16
 go_wp2_with fail
 go_loopw [4] (fun i wr=>∃ (k : Nat) (D : List UInt8),i = .int .i64 k ∧ k ≤ 32 ∧ Hid (D.length = 32) ∧ Hid (D.take k = List.replicate k b) ∧ Blk wr w.heap.size (qA1 D).toArray 5 ∧ qA4 w wr) (fun i _=>32 - (intOf i).toNat)
 case atStart=>exact ⟨0,Z,rfl,by omega,HZL,qh (by simp),hB0,hk0⟩
 case round =>
  obtain ⟨k,D,rfl,hk,hDl,hDt,hB,hkr⟩:=hrel
  by_cases hlt : k < 32
  · have n1 : (k : Int) < 32:=by omega
    have n2 : (0 : Int) ≤ (k : Int):=by omega
    have f0:=hB.free k
    obtain ⟨u,hu⟩ : ∃ u,wr.cell? ⟨w.heap.size,k,none⟩ = some u:=⟨_,by rw [hB.cell k,List.getElem?_toArray];exact qCa D k (by rw [hDl.out];exact hlt)⟩
    go_wp2
    refine ⟨⟨k + 1,D.set k b,by go_num,by omega,qh (by rw [List.length_set];exact hDl.out),qh (qPS D k b (by rw [hDl.out];exact hlt) hDt.out),?_,qA9 hkr k _⟩,by simp [intOf];omega⟩
    rw [← qEN]
    exact hB.set k (V8 b)
  · have h32 : k = 32:=by omega
    subst h32
    go_wp2
    go_ret
    have e : D = List.replicate 32 b:=by have:=hDt.out;rw [List.take_of_length_le (by rw [hDl.out];exact Nat.le_refl _)] at this;exact this
    refine ⟨rfl,qCv 32 (by decide) _ _ (by simp) (by rw [← e];exact hB) qle,hkr⟩
end Go.Proofs.YtdlgihbpiakebaaGreat
