import Derived.Test.YtdlgihbpiakebaaGreatMj05
import Derived.Test.YtdlgihbpiakebaaGreatMj06
import Derived.Test.YtdlgihbpiakebaaGreatMj07
import Derived.Test.YtdlgihbpiakebaaGreatMj08
import Derived.Test.YtdlgihbpiakebaaGreatMj09
import Derived.Test.YtdlgihbpiakebaaGreatMj15
import Derived.Test.YtdlgihbpiakebaaGreatMj17
import Derived.Test.YtdlgihbpiakebaaGreatMj24
import Derived.Test.YtdlgihbpiakebaaGreatMj26
set_option maxRecDepth 100000
set_option maxHeartbeats 4000000
namespace Go.Proofs.YtdlgihbpiakebaaGreat
open Go Go.RowKit Tryz
abbrev Wr:=Int × List UInt8
def qBl : List Wr → List Value → List Value
 | x :: l,u :: us=>.int .i64 x.1 :: u :: qBl l us
 | _,_=>[]
theorem qDI : ∀ (l : List Wr) (us : List Value),us.length = l.length → (qBl l us).length = l.length * 2
 | [],_,_=>by simp [qBl]
 | x :: l,[],h=>by simp at h
 | x :: l,u :: us,h=>by
  have:=qDI l us (by simpa using h)
  simp [qBl,this];omega
theorem qFZ : ∀ (l : List Wr) (us : List Value) (i : Nat) (x : Wr) (u : Value),l[i]? = some x → us[i]? = some u → (qBl l us)[i * 2]? = some (.int .i64 x.1) ∧ (qBl l us)[i * 2 + 1]? = some u
 | [],_,i,x,u,h,_=>by simp at h
 | _ :: _,[],i,x,u,_,h=>by simp at h
 | y :: l,v :: us,0,x,u,h,k=>by
  simp at h k
  subst h;subst k
  simp [qBl]
 | y :: l,v :: us,i + 1,x,u,h,k=>by
  have:=qFZ l us i x u (by simpa using h) (by simpa using k)
  rw [show (i + 1) * 2 = i * 2 + 1 + 1 by omega]
  simpa [qBl] using this
theorem qCw : ∀ (l : List Wr) (us : List Value) (x : Wr) (u : Value),us.length = l.length → qBl (l ++ [x]) (us ++ [u]) = qBl l us ++ [.int .i64 x.1,u]
 | [],[],x,u,_=>by simp [qBl]
 | [],_ :: _,x,u,h=>by simp at h
 | _ :: _,[],x,u,h=>by simp at h
 | y :: l,v :: us,x,u,h=>by
  have:=qCw l us x u (by simpa using h)
  simp [qBl,this]
theorem qAj {w : World} {B n size g : Nat} {e : TypeId} {v : Value} {xs : List Value} (h : w.ownsRow B e size v n xs) (hg : v.ownBlock = some g) : ∃ cur,Blk w g cur e:=by
 rcases h.2 with ⟨rfl,_⟩ | ⟨g',cap,cur,rfl,_,hb,_⟩
 · cases hg
 · cases hg;exact ⟨cur,hb⟩
theorem qAA {w w' : World} {bs : List Nat} {B n size : Nat} {e : TypeId} {v : Value} {xs : List Value} (h : w.ownsRow B e size v n xs) (hc : Chg bs w w') (hn : ∀ g,v.ownBlock = some g → g ∉ bs) : w'.ownsRow B e size v n xs:=by
 refine ⟨h.1,?_⟩
 rcases h.2 with h0 | ⟨g',cap',cur,rfl,hB,hb,r⟩
 · exact .inl h0
 · exact .inr ⟨g',cap',cur,rfl,hB,hc.blk hb (hn g' rfl),r⟩
theorem qAi {w : World} {B n size g : Nat} {e : TypeId} {v : Value} {xs : List Value} (h : w.ownsRow B e size v n xs) (hg : v.ownBlock = some g) : g < w.heap.size:=by
 obtain ⟨c,hc⟩:=qAj h hg
 exact hc.lt
theorem qAC {w : World} {B n size g : Nat} {e : TypeId} {v : Value} {xs : List Value} (h : w.ownsRow B e size v n xs) (hg : v.ownBlock = some g) : B ≤ g:=by
 rcases h.2 with ⟨rfl,_⟩ | ⟨g',cap,cur,rfl,hB,hb,_⟩
 · cases hg
 · cases hg;exact hB
structure OpsAt (w : World) (v : Value) (l : List Wr) (us : List Value) : Prop where
 row : w.ownsRow 0 133 2 v l.length (qBl l us)
 len : us.length = l.length
 each : ∀ (i : Nat) (x : Wr) (u : Value),l[i]? = some x → us[i]? = some u → w.ownsRow 0 5 1 u x.2.length (qA1 x.2)
theorem OpsAt.nil (w : World) : OpsAt w (.slice none 0 0) [] []:=⟨⟨rfl,.inl ⟨rfl,rfl⟩⟩,rfl,by simp⟩
theorem OpsAt.chg {w w' : World} {v : Value} {l : List Wr} {us : List Value} {bs : List Nat} (h : OpsAt w v l us) (hc : Chg bs w w') (h1 : ∀ g,v.ownBlock = some g → g ∉ bs) (h2 : ∀ u ∈ us,∀ g,u.ownBlock = some g → g ∉ bs) : OpsAt w' v l us :=
 ⟨qAA h.row hc h1,h.len,fun i x u hx hu=>qAA (h.each i x u hx hu) hc (h2 u (List.mem_of_getElem? hu))⟩
theorem OpsAt.kept {w w' : World} {v : Value} {l : List Wr} {us : List Value} (h : OpsAt w v l us) (hk : Kept w w') : OpsAt w' v l us :=
 h.chg (bs:=[]) (Chg.of_kept hk) (by simp) (by simp)
theorem OpsAt.blk {w : World} {v : Value} {l : List Wr} {us : List Value} (h : OpsAt w v l us) {u : Value} (hu : u ∈ us) {g : Nat} (hg : u.ownBlock = some g) : ∃ cur,Blk w g cur 5:=by
 obtain ⟨i,hi⟩:=List.getElem?_of_mem hu
 have hil : i < us.length:=(List.getElem?_eq_some_iff.1 hi).1
 rw [h.len] at hil
 exact qAj (h.each i _ u (List.getElem?_eq_getElem hil) hi) hg
theorem OpsAt.get {w : World} {v : Value} {l : List Wr} {us : List Value} (h : OpsAt w v l us) (i : Nat) (hi : i < l.length) : ∃ g cap u,v = .slice (some ⟨g,0,none⟩) l.length cap ∧ us[i]? = some u ∧ w.cell? ⟨g,i * 2,none⟩ = some (.int .i64 l[i].1) ∧ w.cell? ⟨g,i * 2 + 1,none⟩ = some u ∧ Sl w u l[i].2.length (qA1 l[i].2):=by
 have hu : i < us.length:=by rw [h.len];exact hi
 obtain ⟨h1,h2⟩:=qFZ l us i l[i] us[i] (List.getElem?_eq_getElem hi) (List.getElem?_eq_getElem hu)
 obtain ⟨b,off,cap,e,_,_,_,hx⟩:=(Sl.of_own h.row).at (by rw [qDI l us h.len];omega)
 have hoff : ∃ g,v = .slice (some ⟨g,0,none⟩) l.length cap ∧ b = g ∧ off = 0:=by
  rcases h.row.2 with ⟨_,h0⟩ | ⟨g',cap',cur,e',_⟩
  · omega
  · rw [e] at e'
    cases e'
    exact ⟨b,e,rfl,rfl⟩
 obtain ⟨g,hv,rfl,rfl⟩:=hoff
 refine ⟨b,cap,us[i],hv,List.getElem?_eq_getElem hu,?_,?_,Sl.of_own (h.each i _ _ (List.getElem?_eq_getElem hi) (List.getElem?_eq_getElem hu))⟩
 · have:=hx _ _ h1;rwa [Nat.zero_add] at this
 · have:=hx _ _ h2;rwa [Nat.zero_add] at this
theorem OpsAt.slice {w : World} {v : Value} {l : List Wr} {us : List Value} (h : OpsAt w v l us) : ∃ a cap,v = .slice a l.length cap:=(Sl.of_own h.row).len
structure SameOn (A : Nat → Prop) (w w' : World) : Prop where
 os : w'.os = w.os
 tape : w'.tape = w.tape
 output : w'.output = w.output
 size : w.heap.size ≤ w'.heap.size
 block : ∀ k,k < w.heap.size → A k → w'.heap[k]? = w.heap[k]?
section
variable {A : Nat → Prop} {w w' w'' : World}
theorem SameOn.refl (w : World) : SameOn A w w:=⟨rfl,rfl,rfl,Nat.le_refl _,fun _ _ _=>rfl⟩
theorem SameOn.trans (h : SameOn A w w') (k : SameOn A w' w'') : SameOn A w w'' :=
 ⟨k.os.trans h.os,k.tape.trans h.tape,k.output.trans h.output,Nat.le_trans h.size k.size,fun i hi hA=>(k.block i (Nat.lt_of_lt_of_le hi h.size) hA).trans (h.block i hi hA)⟩
theorem SameOn.of_kept (h : Kept w w') : SameOn A w w':=⟨h.os,h.tape,h.output,h.size,fun k hk _=>h.block k hk⟩
theorem SameOn.of_chg {bs : List Nat} (h : Chg bs w w') (hn : ∀ b ∈ bs,¬ A b) : SameOn A w w':=⟨h.os,h.tape,h.output,h.size,fun k hk hA=>h.block k hk fun hm=>hn k hm hA⟩
theorem SameOn.sl {v : Value} {n : Nat} {cs : List Value} (h : SameOn A w w') (hs : Sl w v n cs) (ha : ∀ a c,v = .slice (some a) n c → 0 < cs.length → A a.block) : Sl w' v n cs:=by
 rcases hs with hs | ⟨a,cap,rfl,h1,h2,h3⟩
 · exact .inl hs
 · refine .inr ⟨a,cap,rfl,h1,h2,fun j u hj=>?_⟩
   have e : (a.add j).block = a.block:=by unfold Addr.add;split <;> rfl
   have hc:=h3 j u hj
   have hlt : (a.add j).block < w.heap.size:=World.block_lt_of_cell? w _ hc
   have hA:=ha a cap rfl (by have:=(List.getElem?_eq_some_iff.1 hj).1;omega)
   unfold World.cell? at hc ⊢
   rw [h.block _ hlt (by rw [e];exact hA)]
   exact hc
end
structure Ext (m : Nat) (col col' : Nat → Nat) (w w' : World) : Prop where
 os : w'.os = w.os
 tape : w'.tape = w.tape
 output : w'.output = w.output
 size : w.heap.size ≤ w'.heap.size
 old : ∀ k,k < w.heap.size → col' k = col k
 new : ∀ k,w.heap.size ≤ k → col' k ≤ m
 top : ∀ k,w'.heap.size ≤ k → col' k = 0
 block : ∀ k,k < w.heap.size → (col k = 0 ∨ m < col k) → w'.heap[k]? = w.heap[k]?
def Top (col : Nat → Nat) (w : World) : Prop:=∀ k,w.heap.size ≤ k → col k = 0
section
variable {m n : Nat} {col col' col'' : Nat → Nat} {w w' w'' : World}
theorem Ext.refl (h : Top col w) : Ext m col col w w:=⟨rfl,rfl,rfl,Nat.le_refl _,fun _ _=>rfl,fun k hk=>by rw [h k hk];omega,h,fun _ _ _=>rfl⟩
theorem Ext.trans (h : Ext m col col' w w') (k : Ext m col' col'' w' w'') : Ext m col col'' w w'' :=
 ⟨k.os.trans h.os,k.tape.trans h.tape,k.output.trans h.output,Nat.le_trans h.size k.size,
  fun i hi=>(k.old i (Nat.lt_of_lt_of_le hi h.size)).trans (h.old i hi),
  fun i hi=>by
   by_cases h2 : i < w'.heap.size
   · rw [k.old i h2];exact h.new i hi
   · exact k.new i (by omega),
  k.top,
  fun i hi hc=>(k.block i (Nat.lt_of_lt_of_le hi h.size) (by rw [h.old i hi];exact hc)).trans (h.block i hi hc)⟩
theorem Ext.mono (h : Ext m col col' w w') (hm : m ≤ n) : Ext n col col' w w' :=
 ⟨h.os,h.tape,h.output,h.size,h.old,fun k hk=>Nat.le_trans (h.new k hk) hm,h.top,fun k hk hc=>h.block k hk (by omega)⟩
theorem Ext.kept (ht : Top col w) (h : Kept w w') : Ext m col col w w' :=
 ⟨h.os,h.tape,h.output,h.size,fun _ _=>rfl,fun k hk=>by rw [ht k hk];omega,fun k hk=>ht k (Nat.le_trans h.size hk),fun k hk _=>h.block k hk⟩
structure Same (i : Nat) (col col' : Nat → Nat) (w w' : World) : Prop where
 size : w.heap.size ≤ w'.heap.size
 old : ∀ k,k < w.heap.size → col k = i → col' k = i
 block : ∀ k,k < w.heap.size → col k = i → w'.heap[k]? = w.heap[k]?
theorem Ext.same (h : Ext m col col' w w') {i : Nat} (hi : m < i) : Same i col col' w w':=⟨h.size,fun k hk hc=>(h.old k hk).trans hc,fun k hk hc=>h.block k hk (.inr (by omega))⟩
theorem Same.kept (h : Kept w w') (i : Nat) : Same i col col w w':=⟨h.size,fun _ _ hc=>hc,fun k hk _=>h.block k hk⟩
theorem Same.trans {i : Nat} (h : Same i col col' w w') (k : Same i col' col'' w' w'') : Same i col col'' w w'' :=
 ⟨Nat.le_trans h.size k.size,fun j hj hc=>k.old j (Nat.lt_of_lt_of_le hj h.size) (h.old j hj hc),fun j hj hc=>(k.block j (Nat.lt_of_lt_of_le hj h.size) (h.old j hj hc)).trans (h.block j hj hc)⟩
theorem Same.chg {bs : List Nat} (h : Chg bs w w') {i : Nat} (hb : ∀ b ∈ bs,col b ≠ i) : Same i col col w w':=⟨h.size,fun _ _ hc=>hc,fun k hk hc=>h.block k hk fun hm=>hb k hm hc⟩
theorem Same.blk {i g : Nat} {cs : Array Value} {t : TypeId} (h : Same i col col' w w') (hb : Blk w g cs t) (hc : col g = i) : Blk w' g cs t ∧ col' g = i:=⟨(h.block g hb.lt hc).trans hb,h.old g hb.lt hc⟩
theorem Ext.blk0 {g : Nat} {cs : Array Value} {t : TypeId} (h : Ext m col col' w w') (hb : Blk w g cs t) (hc : col g = 0) : Blk w' g cs t ∧ col' g = 0:=⟨(h.block g hb.lt (.inl hc)).trans hb,(h.old g hb.lt).trans hc⟩
theorem Ext.cell0 {a : Addr} {v : Value} (h : Ext m col col' w w') (hc : w.cell? a = some v) (h0 : col a.block = 0) : w'.cell? a = some v:=by
 have hlt : a.block < w.heap.size:=World.block_lt_of_cell? w _ hc
 unfold World.cell? at hc ⊢
 rw [h.block a.block hlt (.inl h0)]
 exact hc
theorem Ext.own0 {B n size : Nat} {e : TypeId} {v : Value} {xs : List Value} (h : Ext m col col' w w') (ho : w.ownsRow B e size v n xs) (h0 : ∀ g,v.ownBlock = some g → col g = 0) : w'.ownsRow B e size v n xs:=by
 refine ⟨ho.1,?_⟩
 rcases ho.2 with h1 | ⟨g',cap',cur,rfl,hB,hb,r⟩
 · exact .inl h1
 · exact .inr ⟨g',cap',cur,rfl,hB,(h.blk0 hb (h0 g' rfl)).1,r⟩
def paint (col : Nat → Nat) (i : Nat) (w w' : World) (k : Nat) : Nat:=if w.heap.size ≤ k ∧ k < w'.heap.size then i else col k
theorem qAa {i k : Nat} (h : k < w.heap.size) : paint col i w w' k = col k:=by
 unfold paint;rw [if_neg (by omega)]
theorem qAg {i k : Nat} (h : w.heap.size ≤ k) (h2 : k < w'.heap.size) : paint col i w w' k = i:=by
 unfold paint;rw [if_pos ⟨h,h2⟩]
theorem Ext.of_sameOn {P : Nat → Prop} {i : Nat} (ht : Top col w) (h : SameOn (fun k=>k < w.heap.size ∧ ¬ P (col k)) w w') (hp : ∀ c,P c → 1 ≤ c ∧ c ≤ m) (hi : i ≤ m) : Ext m col (paint col i w w') w w' :=
 ⟨h.os,h.tape,h.output,h.size,fun k hk=>qAa hk,fun k hk=>by
  unfold paint
  split
  · exact hi
  · rw [ht k hk];omega,fun k hk=>by
  unfold paint
  rw [if_neg (by omega)]
  exact ht k (Nat.le_trans h.size hk),fun k hk hc=>h.block k hk ⟨hk,fun hn=>by have:=hp _ hn;omega⟩⟩
theorem Same.of_sameOn {P : Nat → Prop} {i j : Nat} (h : SameOn (fun k=>k < w.heap.size ∧ ¬ P (col k)) w w') (hj : ¬ P j) : Same j col (paint col i w w') w w' :=
 ⟨h.size,fun k hk hc=>by rw [qAa hk];exact hc,fun k hk hc=>h.block k hk ⟨hk,by rw [hc];exact hj⟩⟩
end
theorem OpsAt.same {i : Nat} {col col' : Nat → Nat} {w w' : World} {v : Value} {l : List Wr} {us : List Value} (h : OpsAt w v l us) (hs : Same i col col' w w') (h1 : ∀ g,v.ownBlock = some g → col g = i) (h2 : ∀ u ∈ us,∀ g,u.ownBlock = some g → col g = i) : OpsAt w' v l us:=by
 have own : ∀ {B n size : Nat} {e : TypeId} {v : Value} {xs : List Value},w.ownsRow B e size v n xs → (∀ g,v.ownBlock = some g → col g = i) → w'.ownsRow B e size v n xs:=fun ho h0=>by
  refine ⟨ho.1,?_⟩
  rcases ho.2 with h1 | ⟨g',cap',cur,rfl,hB,hb,r⟩
  · exact .inl h1
  · exact .inr ⟨g',cap',cur,rfl,hB,(hs.blk hb (h0 g' rfl)).1,r⟩
 exact ⟨own h.row h1,h.len,fun i x u hx hu=>own (h.each i x u hx hu) (h2 u (List.mem_of_getElem? hu))⟩
theorem Same.own {i : Nat} {col col' : Nat → Nat} {w w' : World} {B n size : Nat} {e : TypeId} {v : Value} {xs : List Value} (hs : Same i col col' w w') (ho : w.ownsRow B e size v n xs) (h0 : ∀ g,v.ownBlock = some g → col g = i) : w'.ownsRow B e size v n xs:=by
 refine ⟨ho.1,?_⟩
 rcases ho.2 with h1 | ⟨g',cap',cur,rfl,hB,hb,r⟩
 · exact .inl h1
 · exact .inr ⟨g',cap',cur,rfl,hB,(hs.blk hb (h0 g' rfl)).1,r⟩
def qDp (b : List UInt8) (x : Wr) : List UInt8:=b.take x.1.toNat ++ x.2 ++ b.drop (x.1.toNat + x.2.length)
def inB (n : Nat) (x : Wr) : Prop:=0 ≤ x.1 ∧ x.1.toNat < n ∧ x.1.toNat + x.2.length ≤ n
theorem qDq (b : List UInt8) (x : Wr) (h : inB b.length x) : (qDp b x).length = b.length:=by
 obtain ⟨h1,h2⟩:=h
 simp [qDp];omega
def qBb (b : List UInt8) (l : List Wr) : List UInt8:=l.foldl qDp b
theorem qCx (b : List UInt8) (l : List Wr) (x : Wr) : qBb b (l ++ [x]) = qDp (qBb b l) x:=by simp [qBb]
theorem qBN : ∀ (l : List Wr) (b : List UInt8),(∀ x ∈ l,inB b.length x) → (qBb b l).length = b.length
 | [],b,_=>rfl
 | x :: l,b,h=>by
  have h1:=qDq b x (h x (by simp))
  have:=qBN l (qDp b x) (fun y hy=>by rw [h1];exact h y (by simp [hy]))
  show (qBb (qDp b x) l).length = _
  rw [this,h1]
def qBq (b : List UInt8) (l : List Wr) (is : Nat → Bool) : Nat → List UInt8
 | 0=>b
 | k + 1=>if is k then qDp (qBq b l is k) (l[k]?.getD (0,[])) else qBq b l is k
theorem qC5 (b : List UInt8) (l : List Wr) (is : Nat → Bool) (h : ∀ x ∈ l,inB b.length x) : ∀ k,k ≤ l.length → (qBq b l is k).length = b.length
 | 0,_=>rfl
 | k + 1,hk=>by
  have ih:=qC5 b l is h k (by omega)
  unfold qBq
  split
  · have hx : l[k]?.getD (0,[]) = l[k]:=by rw [List.getElem?_eq_getElem (by omega)];rfl
    rw [hx,qDq _ _ (by rw [ih];exact h _ (List.getElem_mem _)),ih]
  · exact ih
theorem qDJ (b : List UInt8) (l : List Wr) : ∀ k,k ≤ l.length → qBq b l (fun _=>true) k = qBb b (l.take k)
 | 0,_=>rfl
 | k + 1,hk=>by
  unfold qBq
  rw [if_pos rfl,qDJ b l k (by omega),List.take_succ_eq_append_getElem (by omega),qCx,List.getElem?_eq_getElem (by omega)]
  rfl
theorem qDK (b : List UInt8) (ex : List Value) (x : Wr) (n : Nat) (hn : n = b.length) (h : inB n x) :
 (qA1 b ++ ex).take x.1.toNat ++ (qA1 x.2).take (min x.2.length (n - x.1.toNat)) ++ (qA1 b ++ ex).drop (x.1.toNat + min x.2.length (n - x.1.toNat)) = qA1 (qDp b x) ++ ex:=by
 obtain ⟨h1,h2⟩:=h
 subst hn
 rw [show min x.2.length (b.length - x.1.toNat) = x.2.length by omega]
 rw [List.take_of_length_le (l:=qA1 x.2) (by rw [qA5];omega),List.take_append_of_le_length (by rw [qA5];omega),List.drop_append_of_le_length (by rw [qA5];omega)]
 simp [qDp,qA1,List.map_take,List.map_drop]
structure Sd where
 p : Pw
 lasts : List UInt8
 waits : List Wr
 trace : List Wr
def Sd.snap (s : Sd) : List UInt8:=qBb s.lasts s.waits
structure Sd.ok (s : Sd) (n m : Nat) : Prop where
 len : s.lasts.length = n
 fit : ∀ x ∈ s.waits,inB n x
 fitp : ∀ x ∈ s.trace,x.2.length ≤ 60000
 few : s.waits.length ≤ m
 done : s.trace.length ≤ m
 pw : s.p.ok m
theorem Sd.snap_length {s : Sd} {n m : Nat} (h : s.ok n m) : s.snap.length = n:=by
 rw [← h.len]
 exact qBN _ _ (fun x hx=>by rw [h.len];exact h.fit x hx)
structure SdIn (w : World) (K b gl : Nat) (cap : Nat) (ex : List Value) (vw vt : Value) (us ut : List Value) (s : Sd) : Prop where
 blk : Blk w K #[.pointer (some ⟨b,0,none⟩),.slice (some ⟨gl,0,none⟩) s.lasts.length cap,vw,vt] 130
 pw : qCr w b s.p
 lst : Blk w gl (qA1 s.lasts ++ ex).toArray 5
 hcap : s.lasts.length + ex.length = cap
 most : cap ≤ maxLen
 wts : OpsAt w vw s.waits us
 trc : OpsAt w vt s.trace ut
 wne : ∀ u ∈ us,u.ownBlock ≠ some gl
 tne : ∀ u ∈ ut,u.ownBlock ≠ some gl
 wt : ∀ g,vw.ownBlock = some g → vt.ownBlock ≠ some g
structure Off (A : Nat → Prop) (K b gl : Nat) (vw vt : Value) (us ut : List Value) : Prop where
 K : ¬ A K
 b : ¬ A b
 gl : ¬ A gl
 vw : ∀ g,vw.ownBlock = some g → ¬ A g
 vt : ∀ g,vt.ownBlock = some g → ¬ A g
 us : ∀ u ∈ us,∀ g,u.ownBlock = some g → ¬ A g
 ut : ∀ u ∈ ut,∀ g,u.ownBlock = some g → ¬ A g
def qFC (A : Nat → Prop) (w : World) (K b : Nat) (s : Sd) : Prop:=∃ gl cap ex vw vt us ut,SdIn w K b gl cap ex vw vt us ut s ∧ Off A K b gl vw vt us ut ∧ ∀ k,A k → k < w.heap.size
section
variable {w w' : World} {K b gl cap : Nat} {ex : List Value} {vw vt : Value} {us ut : List Value} {s : Sd} {A A' : Nat → Prop}
theorem SdIn.kept (h : SdIn w K b gl cap ex vw vt us ut s) (hk : Kept w w') : SdIn w' K b gl cap ex vw vt us ut s :=
 ⟨h.blk.kept hk,Blk.kept h.pw hk,h.lst.kept hk,h.hcap,h.most,h.wts.kept hk,h.trc.kept hk,h.wne,h.tne,h.wt⟩
theorem SdIn.low (h : SdIn w K b gl cap ex vw vt us ut s) : K < w.heap.size ∧ b < w.heap.size ∧ gl < w.heap.size ∧ (∀ g,vw.ownBlock = some g → g < w.heap.size) ∧ (∀ g,vt.ownBlock = some g → g < w.heap.size) :=
 ⟨h.blk.lt,Blk.lt h.pw,h.lst.lt,fun _ hg=>qAi h.wts.row hg,fun _ hg=>qAi h.trc.row hg⟩
theorem SdIn.ne (h : SdIn w K b gl cap ex vw vt us ut s) : b ≠ K ∧ b ≠ gl ∧ K ≠ gl ∧ (∀ g,vw.ownBlock = some g → g ≠ b ∧ g ≠ K ∧ g ≠ gl) ∧ (∀ g,vt.ownBlock = some g → g ≠ b ∧ g ≠ K ∧ g ≠ gl) ∧
 (∀ u ∈ us,∀ g,u.ownBlock = some g → g ≠ b ∧ g ≠ K ∧ g ≠ gl ∧ vw.ownBlock ≠ some g ∧ vt.ownBlock ≠ some g) ∧ (∀ u ∈ ut,∀ g,u.ownBlock = some g → g ≠ b ∧ g ≠ K ∧ g ≠ gl ∧ vw.ownBlock ≠ some g ∧ vt.ownBlock ≠ some g):=by
 have hu : ∀ g cur,Blk w g cur 5 → g ≠ b ∧ g ≠ K ∧ vw.ownBlock ≠ some g ∧ vt.ownBlock ≠ some g:=fun g cur hc=>by
  refine ⟨qAv hc h.pw (by decide),qAv hc h.blk (by decide),fun e=>?_,fun e=>?_⟩
  · obtain ⟨c2,h2⟩:=qAj h.wts.row e
    exact qAv hc h2 (by decide) rfl
  · obtain ⟨c2,h2⟩:=qAj h.trc.row e
    exact qAv hc h2 (by decide) rfl
 refine ⟨qAv h.pw h.blk (by decide),qAv h.pw h.lst (by decide),qAv h.blk h.lst (by decide),fun g hg=>?_,fun g hg=>?_,fun u hu' g hg=>?_,fun u hu' g hg=>?_⟩
 · obtain ⟨c,hc⟩:=qAj h.wts.row hg
   exact ⟨qAv hc h.pw (by decide),qAv hc h.blk (by decide),qAv hc h.lst (by decide)⟩
 · obtain ⟨c,hc⟩:=qAj h.trc.row hg
   exact ⟨qAv hc h.pw (by decide),qAv hc h.blk (by decide),qAv hc h.lst (by decide)⟩
 · obtain ⟨c,hc⟩:=h.wts.blk hu' hg
   obtain ⟨h1,h2,h3,h4⟩:=hu g c hc
   exact ⟨h1,h2,fun e=>h.wne u hu' (by rw [hg,e]),h3,h4⟩
 · obtain ⟨c,hc⟩:=h.trc.blk hu' hg
   obtain ⟨h1,h2,h3,h4⟩:=hu g c hc
   exact ⟨h1,h2,fun e=>h.tne u hu' (by rw [hg,e]),h3,h4⟩
end
theorem Grew.chgL {row : Option Nat} {k : Nat} {e : TypeId} {w w' : World} (h : Grew row k e w w') : Chg row.toList w w' :=
 ⟨h.os,h.tape,h.output,h.size,fun i hi hn=>by
  rcases h.block i hi with hs | ⟨hr',_⟩
  · exact hs
  · exact absurd (by rw [hr'];simp) hn⟩
theorem qAt {w : World} {B n size : Nat} {e : TypeId} {v : Value} {xs : List Value} (h : w.ownsRow B e size v n xs) (hn : 0 < n) : ∃ g cap,v = .slice (some ⟨g,0,none⟩) n cap:=by
 rcases h.2 with ⟨_,h0⟩ | ⟨g',cap,cur,rfl,_⟩
 · omega
 · exact ⟨g',cap,rfl⟩
section
variable {w w6 : World} {K b gl cap : Nat} {ex : List Value} {vw vt v6 u6 : Value} {us ut : List Value} {s : Sd} {x : Wr} {A : Nat → Prop}
theorem qAp {v : Value} {g : Nat} : g ∈ v.ownBlock.toList ↔ v.ownBlock = some g:=by simp [Option.mem_toList]
theorem SdIn.pushW (X : SdIn w K b gl cap ex vw vt us ut s) (hc : Chg vw.ownBlock.toList w w6) (hrow : w6.ownsRow 0 133 2 v6 (s.waits.length + 1) (qBl s.waits us ++ [.int .i64 x.1,u6]))
 (hu : w6.ownsRow w.heap.size 5 1 u6 x.2.length (qA1 x.2)) (hv : ∀ g,v6.ownBlock = some g → vw.ownBlock = some g ∨ w.heap.size ≤ g) :
 SdIn (w6.setCell ⟨K,2,none⟩ v6) K b gl cap ex v6 vt (us ++ [u6]) ut { s with waits:=s.waits ++ [x] }:=by
 obtain ⟨n1,n2,n3,n4,n5,n6,n7⟩:=X.ne
 obtain ⟨l1,l2,l3,l4,l5⟩:=X.low
 have hq : Chg [K] w6 (w6.setCell ⟨K,2,none⟩ v6):=Chg.step (by simp) _
 have hKv : K ∉ vw.ownBlock.toList:=fun h=>(n4 K (qAp.1 h)).2.1 rfl
 have hbv : b ∉ vw.ownBlock.toList:=fun h=>(n4 b (qAp.1 h)).1 rfl
 have hgv : gl ∉ vw.ownBlock.toList:=fun h=>(n4 gl (qAp.1 h)).2.2 rfl
 have bK:=(hc.blk X.blk hKv)
 have kind : ∀ g cur,Blk w6 g cur 5 → g ∉ [K]:=fun g cur h=>by simpa using qAv h bK (by decide)
 have kindO : ∀ g cur,Blk w6 g cur 133 → g ∉ [K]:=fun g cur h=>by simpa using qAv h bK (by decide)
 have tr6 : OpsAt w6 vt s.trace ut:=X.trc.chg hc (fun g hg h=>X.wt g (qAp.1 h) hg) (fun u hu g hg h=>(n7 u hu g hg).2.2.2.1 (qAp.1 h))
 have wt6 : ∀ (i : Nat) (y : Wr) (u : Value),s.waits[i]? = some y → us[i]? = some u → w6.ownsRow 0 5 1 u y.2.length (qA1 y.2):=fun i y u hy hu' =>
  qAA (X.wts.each i y u hy hu') hc fun g hg h=>(n6 u (List.mem_of_getElem? hu') g hg).2.2.2.1 (qAp.1 h)
 refine ⟨?_,hq.blk (hc.blk X.pw hbv) (by simpa using n1),hq.blk (hc.blk X.lst hgv) (by simpa using n3.symm),X.hcap,X.most,?_,?_,?_,X.tne,?_⟩
 · simpa using bK.set 2 v6
 · refine ⟨?_,by simp [X.wts.len],fun i y u hy hu'=>?_⟩
   · rw [qCw _ _ _ _ X.wts.len]
     have : w6.ownsRow 0 133 2 v6 (s.waits ++ [x]).length (qBl s.waits us ++ [.int .i64 x.1,u6]):=by simpa using hrow
     refine qAA this hq fun g hg=>?_
     obtain ⟨c,hc'⟩:=qAj this hg
     exact kindO g c hc'
   · have key : w6.ownsRow 0 5 1 u y.2.length (qA1 y.2):=by
      by_cases hi : i < s.waits.length
      · rw [List.getElem?_append_left (by rw [X.wts.len];exact hi)] at hu'
        rw [show (s.waits ++ [x])[i]? = s.waits[i]? from List.getElem?_append_left hi] at hy
        exact wt6 i y u hy hu'
      · have hil:=(List.getElem?_eq_some_iff.1 hy).1
        simp only [List.length_append,List.length_singleton] at hil
        have hi' : i = s.waits.length:=by omega
        subst hi'
        have hy' : some x = some y:=by simpa using hy
        rw [← X.wts.len] at hu'
        have hu2 : some u6 = some u:=by simpa using hu'
        cases hy';cases hu2
        exact qAd hu (Nat.zero_le _)
     refine qAA key hq fun g hg=>?_
     obtain ⟨c,hc'⟩:=qAj key hg
     exact kind g c hc'
 · refine tr6.chg hq (fun g hg=>?_) (fun u hu' g hg=>?_)
   · obtain ⟨c,hc'⟩:=qAj tr6.row hg
     exact kindO g c hc'
   · obtain ⟨c,hc'⟩:=tr6.blk hu' hg
     exact kind g c hc'
 · intro u hu' e
   rcases List.mem_append.1 hu' with h | h
   · exact X.wne u h e
   · rw [List.mem_singleton.1 h] at e
     have:=qAC hu e
     omega
 · intro g hg e
   rcases hv g hg with h | h
   · exact X.wt g h e
   · have:=l5 g e
     omega
theorem SdIn.pushT (X : SdIn w K b gl cap ex vw vt us ut s) (hc : Chg vt.ownBlock.toList w w6) (hrow : w6.ownsRow 0 133 2 v6 (s.trace.length + 1) (qBl s.trace ut ++ [.int .i64 x.1,u6]))
 (hu : w6.ownsRow w.heap.size 5 1 u6 x.2.length (qA1 x.2)) (hv : ∀ g,v6.ownBlock = some g → vt.ownBlock = some g ∨ w.heap.size ≤ g) :
 SdIn (w6.setCell ⟨K,3,none⟩ v6) K b gl cap ex vw v6 us (ut ++ [u6]) { s with trace:=s.trace ++ [x] }:=by
 obtain ⟨n1,n2,n3,n4,n5,n6,n7⟩:=X.ne
 obtain ⟨l1,l2,l3,l4,l5⟩:=X.low
 have hq : Chg [K] w6 (w6.setCell ⟨K,3,none⟩ v6):=Chg.step (by simp) _
 have hKv : K ∉ vt.ownBlock.toList:=fun h=>(n5 K (qAp.1 h)).2.1 rfl
 have hbv : b ∉ vt.ownBlock.toList:=fun h=>(n5 b (qAp.1 h)).1 rfl
 have hgv : gl ∉ vt.ownBlock.toList:=fun h=>(n5 gl (qAp.1 h)).2.2 rfl
 have bK:=(hc.blk X.blk hKv)
 have kind : ∀ g cur,Blk w6 g cur 5 → g ∉ [K]:=fun g cur h=>by simpa using qAv h bK (by decide)
 have kindO : ∀ g cur,Blk w6 g cur 133 → g ∉ [K]:=fun g cur h=>by simpa using qAv h bK (by decide)
 have tr6 : OpsAt w6 vw s.waits us:=X.wts.chg hc (fun g hg h=>X.wt g hg (qAp.1 h)) (fun u hu g hg h=>(n6 u hu g hg).2.2.2.2 (qAp.1 h))
 have wt6 : ∀ (i : Nat) (y : Wr) (u : Value),s.trace[i]? = some y → ut[i]? = some u → w6.ownsRow 0 5 1 u y.2.length (qA1 y.2):=fun i y u hy hu' =>
  qAA (X.trc.each i y u hy hu') hc fun g hg h=>(n7 u (List.mem_of_getElem? hu') g hg).2.2.2.2 (qAp.1 h)
 refine ⟨?_,hq.blk (hc.blk X.pw hbv) (by simpa using n1),hq.blk (hc.blk X.lst hgv) (by simpa using n3.symm),X.hcap,X.most,?_,?_,X.wne,?_,?_⟩
 · simpa using bK.set 3 v6
 · refine tr6.chg hq (fun g hg=>?_) (fun u hu' g hg=>?_)
   · obtain ⟨c,hc'⟩:=qAj tr6.row hg
     exact kindO g c hc'
   · obtain ⟨c,hc'⟩:=tr6.blk hu' hg
     exact kind g c hc'
 · refine ⟨?_,by simp [X.trc.len],fun i y u hy hu'=>?_⟩
   · rw [qCw _ _ _ _ X.trc.len]
     have : w6.ownsRow 0 133 2 v6 (s.trace ++ [x]).length (qBl s.trace ut ++ [.int .i64 x.1,u6]):=by simpa using hrow
     refine qAA this hq fun g hg=>?_
     obtain ⟨c,hc'⟩:=qAj this hg
     exact kindO g c hc'
   · have key : w6.ownsRow 0 5 1 u y.2.length (qA1 y.2):=by
      by_cases hi : i < s.trace.length
      · rw [List.getElem?_append_left (by rw [X.trc.len];exact hi)] at hu'
        rw [show (s.trace ++ [x])[i]? = s.trace[i]? from List.getElem?_append_left hi] at hy
        exact wt6 i y u hy hu'
      · have hil:=(List.getElem?_eq_some_iff.1 hy).1
        simp only [List.length_append,List.length_singleton] at hil
        have hi' : i = s.trace.length:=by omega
        subst hi'
        have hy' : some x = some y:=by simpa using hy
        rw [← X.trc.len] at hu'
        have hu2 : some u6 = some u:=by simpa using hu'
        cases hy';cases hu2
        exact qAd hu (Nat.zero_le _)
     refine qAA key hq fun g hg=>?_
     obtain ⟨c,hc'⟩:=qAj key hg
     exact kind g c hc'
 · intro u hu' e
   rcases List.mem_append.1 hu' with h | h
   · exact X.tne u h e
   · rw [List.mem_singleton.1 h] at e
     have:=qAC hu e
     omega
 · intro g hg e
   rcases hv g e with h | h
   · exact X.wt g hg h
   · have:=l4 g hg
     omega
theorem SdIn.power (X : SdIn w K b gl cap ex vw vt us ut s) {p' : Pw} (hc : Chg [b] w w6) (hp : qCr w6 b p') : SdIn w6 K b gl cap ex vw vt us ut { s with p:=p' }:=by
 obtain ⟨n1,n2,n3,n4,n5,n6,n7⟩:=X.ne
 exact ⟨hc.blk X.blk (by simpa using n1.symm),hp,hc.blk X.lst (by simpa using n2.symm),X.hcap,X.most,
  X.wts.chg hc (fun g hg=>by simpa using (n4 g hg).1) (fun u hu g hg=>by simpa using (n6 u hu g hg).1),
  X.trc.chg hc (fun g hg=>by simpa using (n5 g hg).1) (fun u hu g hg=>by simpa using (n7 u hu g hg).1),X.wne,X.tne,X.wt⟩
theorem Off.same (O : Off A K b gl vw vt us ut) (hc : Chg [b] w w6) : SameOn A w w6:=.of_chg hc (by simpa using O.b)
theorem Off.sameW (O : Off A K b gl vw vt us ut) (hc : Chg vw.ownBlock.toList w w6) : SameOn A w w6:=.of_chg hc (fun g hg=>O.vw g (qAp.1 hg))
theorem Off.sameT (O : Off A K b gl vw vt us ut) (hc : Chg vt.ownBlock.toList w w6) : SameOn A w w6:=.of_chg hc (fun g hg=>O.vt g (qAp.1 hg))
theorem Off.sameK (O : Off A K b gl vw vt us ut) (hc : Chg [K] w w6) : SameOn A w w6:=.of_chg hc (by simpa using O.K)
theorem Off.setW (O : Off A K b gl vw vt us ut) (hA : ∀ k,A k → k < w.heap.size) (hv : ∀ g,v6.ownBlock = some g → vw.ownBlock = some g ∨ w.heap.size ≤ g) (hu : ∀ g,u6.ownBlock = some g → w.heap.size ≤ g) : Off A K b gl v6 vt (us ++ [u6]) ut :=
 ⟨O.K,O.b,O.gl,fun g hg ha=>by
  rcases hv g hg with h | h
  · exact O.vw g h ha
  · have:=hA g ha;omega,O.vt,fun u hm g hg ha=>by
  rcases List.mem_append.1 hm with h | h
  · exact O.us u h g hg ha
  · rw [List.mem_singleton.1 h] at hg
    have:=hu g hg;have:=hA g ha;omega,O.ut⟩
theorem Off.setT (O : Off A K b gl vw vt us ut) (hA : ∀ k,A k → k < w.heap.size) (hv : ∀ g,v6.ownBlock = some g → vt.ownBlock = some g ∨ w.heap.size ≤ g) (hu : ∀ g,u6.ownBlock = some g → w.heap.size ≤ g) : Off A K b gl vw v6 us (ut ++ [u6]) :=
 ⟨O.K,O.b,O.gl,O.vw,fun g hg ha=>by
  rcases hv g hg with h | h
  · exact O.vt g h ha
  · have:=hA g ha;omega,O.us,fun u hm g hg ha=>by
  rcases List.mem_append.1 hm with h | h
  · exact O.ut u h g hg ha
  · rw [List.mem_singleton.1 h] at hg
    have:=hu g hg;have:=hA g ha;omega⟩
end
structure Dk where
 p : Pw
 lasts : List (List UInt8)
 waits : List Wr
 trace : List Wr
 no : Bool
def inD (x : Wr) : Prop:=0 ≤ x.1 ∧ x.1.toNat < 32 ∧ x.2.length = 32
structure Dk.ok (d : Dk) (m : Nat) : Prop where
 len : d.lasts.length = 32
 all : ∀ x ∈ d.lasts,x.length = 32
 fit : ∀ x ∈ d.waits,inD x
 fitp : ∀ x ∈ d.trace,x.2.length ≤ 60000
 few : d.waits.length ≤ m
 done : d.trace.length ≤ m
 pw : d.p.ok m
def qB0 (b : Nat) (ls : List Value) (vw vt : Value) (r : Bool) : Array Value:=(.pointer (some ⟨b,0,none⟩) :: (ls ++ [vw,vt,.bool r])).toArray
section
variable {b : Nat} {ls : List Value} {vw vt : Value} {r : Bool} (hl : ls.length = 32)
theorem qGx : (qB0 b ls vw vt r)[0]? = some (.pointer (some ⟨b,0,none⟩)):=by simp [qB0]
include hl
theorem qBX : (qB0 b ls vw vt r)[33]? = some vw:=by
 simp [qB0,List.getElem?_append,hl]
theorem qDL : (qB0 b ls vw vt r)[34]? = some vt:=by simp [qB0,List.getElem?_append,hl]
theorem qF0 : (qB0 b ls vw vt r)[35]? = some (.bool r):=by simp [qB0,List.getElem?_append,hl]
theorem qDM (i : Nat) (hi : i < 32) : (qB0 b ls vw vt r)[1 + i]? = ls[i]?:=by
 rw [Nat.add_comm]
 simp [qB0,List.getElem?_append,hl,hi]
theorem qLj (v : Value) : (qB0 b ls vw vt r).setIfInBounds 33 v = qB0 b ls v vt r:=by
 simp [qB0,List.set_append,hl]
theorem qOx (v : Value) : (qB0 b ls vw vt r).setIfInBounds 34 v = qB0 b ls vw v r:=by
 simp [qB0,List.set_append,hl]
theorem qOy (q : Bool) : (qB0 b ls vw vt r).setIfInBounds 35 (.bool q) = qB0 b ls vw vt q:=by
 simp [qB0,List.set_append,hl]
theorem qLk (i : Nat) (hi : i < 32) (v : Value) : (qB0 b ls vw vt r).setIfInBounds (1 + i) v = qB0 b (ls.set i v) vw vt r:=by
 rw [Nat.add_comm]
 simp [qB0,List.set_append,hl,hi]
end
structure LastAt (w : World) (ls : List Value) (bs : List (List UInt8)) : Prop where
 len : ls.length = bs.length
 each : ∀ (i : Nat) (x : List UInt8) (u : Value),bs[i]? = some x → ls[i]? = some u → w.ownsRow 0 5 1 u x.length (qA1 x)
theorem LastAt.chg {w w' : World} {ls : List Value} {xs : List (List UInt8)} {bs : List Nat} (h : LastAt w ls xs) (hc : Chg bs w w') (h1 : ∀ u ∈ ls,∀ g,u.ownBlock = some g → g ∉ bs) : LastAt w' ls xs :=
 ⟨h.len,fun i x u hx hu=>qAA (h.each i x u hx hu) hc (h1 u (List.mem_of_getElem? hu))⟩
theorem LastAt.kept {w w' : World} {ls : List Value} {xs : List (List UInt8)} (h : LastAt w ls xs) (hk : Kept w w') : LastAt w' ls xs:=h.chg (bs:=[]) (Chg.of_kept hk) (by simp)
theorem LastAt.blk {w : World} {ls : List Value} {xs : List (List UInt8)} (h : LastAt w ls xs) {u : Value} (hu : u ∈ ls) {g : Nat} (hg : u.ownBlock = some g) : ∃ cur,Blk w g cur 5:=by
 obtain ⟨i,hi⟩:=List.getElem?_of_mem hu
 have hil : i < ls.length:=(List.getElem?_eq_some_iff.1 hi).1
 rw [h.len] at hil
 exact qAj (h.each i _ u (List.getElem?_eq_getElem hil) hi) hg
theorem LastAt.set {w : World} {ls : List Value} {xs : List (List UInt8)} (h : LastAt w ls xs) (k : Nat) {x : List UInt8} {u : Value} (hu : w.ownsRow 0 5 1 u x.length (qA1 x)) : LastAt w (ls.set k u) (xs.set k x):=by
 refine ⟨by simp [h.len],fun i y v hy hv=>?_⟩
 rw [List.getElem?_set] at hy hv
 by_cases hk : k = i
 · subst hk
   rw [if_pos rfl] at hy hv
   by_cases hl : k < xs.length
   · rw [if_pos hl] at hy
     rw [if_pos (by rw [h.len];exact hl)] at hv
     cases hy;cases hv;exact hu
   · rw [if_neg hl] at hy
     cases hy
 · rw [if_neg hk] at hy hv
   exact h.each i y v hy hv
theorem LastAt.get {w : World} {ls : List Value} {xs : List (List UInt8)} (h : LastAt w ls xs) (i : Nat) (hi : i < xs.length) : ∃ u,ls[i]? = some u ∧ u ∈ ls ∧ w.ownsRow 0 5 1 u xs[i].length (qA1 xs[i]):=by
 have hu : i < ls.length:=by rw [h.len];exact hi
 exact ⟨ls[i],List.getElem?_eq_getElem hu,List.getElem_mem hu,h.each i _ _ (List.getElem?_eq_getElem hi) (List.getElem?_eq_getElem hu)⟩
structure DkIn (w : World) (K b : Nat) (ls : List Value) (vw vt : Value) (us ut : List Value) (d : Dk) : Prop where
 blk : Blk w K (qB0 b ls vw vt d.no) 137
 pw : qCr w b d.p
 lst : LastAt w ls d.lasts
 wts : OpsAt w vw d.waits us
 trc : OpsAt w vt d.trace ut
 wt : ∀ g,vw.ownBlock = some g → vt.ownBlock ≠ some g
structure OffD (A : Nat → Prop) (K b : Nat) (ls : List Value) (vw vt : Value) (us ut : List Value) : Prop where
 K : ¬ A K
 b : ¬ A b
 ls : ∀ u ∈ ls,∀ g,u.ownBlock = some g → ¬ A g
 vw : ∀ g,vw.ownBlock = some g → ¬ A g
 vt : ∀ g,vt.ownBlock = some g → ¬ A g
 us : ∀ u ∈ us,∀ g,u.ownBlock = some g → ¬ A g
 ut : ∀ u ∈ ut,∀ g,u.ownBlock = some g → ¬ A g
def qI5 (A : Nat → Prop) (w : World) (K b : Nat) (d : Dk) : Prop:=∃ ls vw vt us ut,DkIn w K b ls vw vt us ut d ∧ OffD A K b ls vw vt us ut ∧ ∀ k,A k → k < w.heap.size
section
variable {w w' : World} {K b : Nat} {ls : List Value} {vw vt : Value} {us ut : List Value} {d : Dk} {A A' : Nat → Prop}
theorem DkIn.kept (h : DkIn w K b ls vw vt us ut d) (hk : Kept w w') : DkIn w' K b ls vw vt us ut d :=
 ⟨h.blk.kept hk,Blk.kept h.pw hk,h.lst.kept hk,h.wts.kept hk,h.trc.kept hk,h.wt⟩
theorem DkIn.low (h : DkIn w K b ls vw vt us ut d) : K < w.heap.size ∧ b < w.heap.size ∧ (∀ g,vw.ownBlock = some g → g < w.heap.size) ∧ (∀ g,vt.ownBlock = some g → g < w.heap.size) :=
 ⟨h.blk.lt,Blk.lt h.pw,fun _ hg=>qAi h.wts.row hg,fun _ hg=>qAi h.trc.row hg⟩
theorem DkIn.ne (h : DkIn w K b ls vw vt us ut d) : b ≠ K ∧ (∀ g,vw.ownBlock = some g → g ≠ b ∧ g ≠ K) ∧ (∀ g,vt.ownBlock = some g → g ≠ b ∧ g ≠ K) ∧
 (∀ g cur,Blk w g cur 5 → g ≠ b ∧ g ≠ K ∧ vw.ownBlock ≠ some g ∧ vt.ownBlock ≠ some g):=by
 refine ⟨qAv h.pw h.blk (by decide),fun g hg=>?_,fun g hg=>?_,fun g cur hc=>⟨qAv hc h.pw (by decide),qAv hc h.blk (by decide),fun e=>?_,fun e=>?_⟩⟩
 · obtain ⟨c,hc⟩:=qAj h.wts.row hg
   exact ⟨qAv hc h.pw (by decide),qAv hc h.blk (by decide)⟩
 · obtain ⟨c,hc⟩:=qAj h.trc.row hg
   exact ⟨qAv hc h.pw (by decide),qAv hc h.blk (by decide)⟩
 · obtain ⟨c2,h2⟩:=qAj h.wts.row e
   exact qAv hc h2 (by decide) rfl
 · obtain ⟨c2,h2⟩:=qAj h.trc.row e
   exact qAv hc h2 (by decide) rfl
theorem DkIn.chgB {bs : List Nat} (X : DkIn w K b ls vw vt us ut d) (hc : Chg bs w w') (hk : ∀ g ∈ bs,g = K ∨ g = b) :
 LastAt w' ls d.lasts ∧ OpsAt w' vw d.waits us ∧ OpsAt w' vt d.trace ut:=by
 obtain ⟨n1,n2,n3,n4⟩:=X.ne
 have nb : ∀ g cur,Blk w g cur 5 → g ∉ bs:=fun g cur h hm=>by
  have:=n4 g cur h
  rcases hk g hm with e | e
  · exact this.2.1 e
  · exact this.1 e
 refine ⟨X.lst.chg hc (fun u hu g hg=>?_),X.wts.chg hc (fun g hg hm=>?_) (fun u hu g hg=>?_),X.trc.chg hc (fun g hg hm=>?_) (fun u hu g hg=>?_)⟩
 · obtain ⟨c,hc'⟩:=X.lst.blk hu hg
   exact nb g c hc'
 · have:=n2 g hg
   rcases hk g hm with e | e
   · exact this.2 e
   · exact this.1 e
 · obtain ⟨c,hc'⟩:=X.wts.blk hu hg
   exact nb g c hc'
 · have:=n3 g hg
   rcases hk g hm with e | e
   · exact this.2 e
   · exact this.1 e
 · obtain ⟨c,hc'⟩:=X.trc.blk hu hg
   exact nb g c hc'
theorem DkIn.power (X : DkIn w K b ls vw vt us ut d) {p' : Pw} (hc : Chg [b] w w') (hp : qCr w' b p') : DkIn w' K b ls vw vt us ut { d with p:=p' }:=by
 obtain ⟨h1,h2,h3⟩:=X.chgB hc (by simp)
 exact ⟨hc.blk X.blk (by simpa using X.ne.1.symm),hp,h1,h2,h3,X.wt⟩
end
theorem OpsAt.push {w w6 : World} {v v6 u6 : Value} {l : List Wr} {us : List Value} {x : Wr} (h : OpsAt w v l us) (hc : Chg v.ownBlock.toList w w6) (hrow : w6.ownsRow 0 133 2 v6 (l.length + 1) (qBl l us ++ [.int .i64 x.1,u6]))
 (hu : w6.ownsRow 0 5 1 u6 x.2.length (qA1 x.2)) : OpsAt w6 v6 (l ++ [x]) (us ++ [u6]):=by
 refine ⟨?_,by simp [h.len],fun i y u hy hu'=>?_⟩
 · rw [qCw _ _ _ _ h.len]
   simpa using hrow
 · by_cases hi : i < l.length
   · rw [List.getElem?_append_left (by rw [h.len];exact hi)] at hu'
     rw [show (l ++ [x])[i]? = l[i]? from List.getElem?_append_left hi] at hy
     exact qAA (h.each i y u hy hu') hc fun g hg hm=>by
      obtain ⟨c,hc'⟩:=h.blk (List.mem_of_getElem? hu') hg
      obtain ⟨c2,hc2⟩:=qAj h.row (qAp.1 hm)
      exact qAv hc' hc2 (by decide) rfl
   · have hil:=(List.getElem?_eq_some_iff.1 hy).1
     simp only [List.length_append,List.length_singleton] at hil
     have hi' : i = l.length:=by omega
     subst hi'
     have hy' : some x = some y:=by simpa using hy
     rw [← h.len] at hu'
     have hu2 : some u6 = some u:=by simpa using hu'
     cases hy';cases hu2
     exact hu
section
variable {w w' w6 : World} {K b : Nat} {ls : List Value} {vw vt v6 u6 : Value} {us ut : List Value} {d : Dk} {x : Wr} {A : Nat → Prop}
theorem qAq {g n B size : Nat} {cs : Array Value} {e t : TypeId} {v : Value} {xs : List Value} (h : w.ownsRow B e size v n xs) (hc : Chg [g] w w') (hg : Blk w g cs t) (hne : e ≠ t) : w'.ownsRow B e size v n xs :=
 qAA h hc fun k hk hm=>by
  obtain ⟨c,hc'⟩:=qAj h hk
  exact qAv hc' hg hne (List.mem_singleton.1 hm)
theorem OpsAt.kind {g : Nat} {cs : Array Value} {t : TypeId} {v : Value} {l : List Wr} {us : List Value} (h : OpsAt w v l us) (hc : Chg [g] w w') (hg : Blk w g cs t) (h1 : 133 ≠ t) (h2 : 5 ≠ t) : OpsAt w' v l us :=
 ⟨qAq h.row hc hg h1,h.len,fun i x u hx hu=>qAq (h.each i x u hx hu) hc hg h2⟩
theorem LastAt.kind {g : Nat} {cs : Array Value} {t : TypeId} {ls : List Value} {l : List (List UInt8)} (h : LastAt w ls l) (hc : Chg [g] w w') (hg : Blk w g cs t) (h2 : 5 ≠ t) : LastAt w' ls l :=
 ⟨h.len,fun i x u hx hu=>qAq (h.each i x u hx hu) hc hg h2⟩
theorem qBz {v : Value} {g n size : Nat} {cs : Array Value} {e t : TypeId} {xs : List Value} (h : w.ownsRow 0 e size v n xs) (hg : Blk w g cs t) (hne : t ≠ e) : g ∉ v.ownBlock.toList:=fun hm=>by
 obtain ⟨c,hc⟩:=qAj h (qAp.1 hm)
 exact qAv hg hc hne rfl
theorem OpsAt.row' {v : Value} {l : List Wr} {us : List Value} (h : OpsAt w v l us) (hc : Chg vw.ownBlock.toList w w') {m size : Nat} {xs : List Value} (hw : w.ownsRow 0 133 size vw m xs) (hn : ∀ g,vw.ownBlock = some g → v.ownBlock ≠ some g) : OpsAt w' v l us :=
 h.chg hc (fun g hg hm=>hn g (qAp.1 hm) hg) (fun u hu g hg=>by
  obtain ⟨c,hc'⟩:=h.blk hu hg
  exact qBz hw hc' (by decide))
theorem LastAt.row' {l : List (List UInt8)} (h : LastAt w ls l) (hc : Chg vw.ownBlock.toList w w') {m size : Nat} {xs : List Value} (hw : w.ownsRow 0 133 size vw m xs) : LastAt w' ls l :=
 h.chg hc (fun u hu g hg=>by
  obtain ⟨c,hc'⟩:=h.blk hu hg
  exact qBz hw hc' (by decide))
theorem DkIn.pushW (X : DkIn w K b ls vw vt us ut d) (hl : ls.length = 32) (hc : Chg vw.ownBlock.toList w w6) (hrow : w6.ownsRow 0 133 2 v6 (d.waits.length + 1) (qBl d.waits us ++ [.int .i64 x.1,u6]))
 (hu : w6.ownsRow w.heap.size 5 1 u6 x.2.length (qA1 x.2)) (hv : ∀ g,v6.ownBlock = some g → vw.ownBlock = some g ∨ w.heap.size ≤ g) :
 DkIn (w6.setCell ⟨K,33,none⟩ v6) K b ls v6 vt (us ++ [u6]) ut { d with waits:=d.waits ++ [x] }:=by
 have hq : Chg [K] w6 (w6.setCell ⟨K,33,none⟩ v6):=Chg.step (by simp) _
 have bK:=hc.blk X.blk (qBz X.wts.row X.blk (by decide))
 refine ⟨?_,hq.blk (hc.blk X.pw (qBz X.wts.row X.pw (by decide))) (by simpa using X.ne.1),(X.lst.row' hc X.wts.row).kind hq bK (by decide),(X.wts.push hc hrow (qAd hu (Nat.zero_le _))).kind hq bK (by decide) (by decide),(X.trc.row' hc X.wts.row X.wt).kind hq bK (by decide) (by decide),fun g hg=>?_⟩
 · have:=bK.set 33 v6
   rwa [qLj hl] at this
 · rcases hv g hg with h | h
   · exact X.wt g h
   · intro e
     have:=X.low.2.2.2 g e
     omega
theorem DkIn.pushT (X : DkIn w K b ls vw vt us ut d) (hl : ls.length = 32) (hc : Chg vt.ownBlock.toList w w6) (hrow : w6.ownsRow 0 133 2 v6 (d.trace.length + 1) (qBl d.trace ut ++ [.int .i64 x.1,u6]))
 (hu : w6.ownsRow 0 5 1 u6 x.2.length (qA1 x.2)) (hv : ∀ g,v6.ownBlock = some g → vt.ownBlock = some g ∨ w.heap.size ≤ g) :
 DkIn (w6.setCell ⟨K,34,none⟩ v6) K b ls vw v6 us (ut ++ [u6]) { d with trace:=d.trace ++ [x] }:=by
 have hq : Chg [K] w6 (w6.setCell ⟨K,34,none⟩ v6):=Chg.step (by simp) _
 have bK:=hc.blk X.blk (qBz X.trc.row X.blk (by decide))
 refine ⟨?_,hq.blk (hc.blk X.pw (qBz X.trc.row X.pw (by decide))) (by simpa using X.ne.1),(X.lst.row' hc X.trc.row).kind hq bK (by decide),(X.wts.row' hc X.trc.row (fun g h1 h2=>X.wt g h2 h1)).kind hq bK (by decide) (by decide),(X.trc.push hc hrow hu).kind hq bK (by decide) (by decide),fun g hg e=>?_⟩
 · have:=bK.set 34 v6
   rwa [qOx hl] at this
 · rcases hv g e with h | h
   · exact X.wt g hg h
   · have:=X.low.2.2.1 g hg
     omega
theorem DkIn.lay (X : DkIn w K b ls vw vt us ut d) (hl : ls.length = 32) (i : Nat) (hi : i < 32) {y : List UInt8} {u : Value} (hu : w.ownsRow 0 5 1 u y.length (qA1 y)) :
 DkIn (w.setCell ⟨K,1 + i,none⟩ u) K b (ls.set i u) vw vt us ut { d with lasts:=d.lasts.set i y }:=by
 have hq : Chg [K] w (w.setCell ⟨K,1 + i,none⟩ u):=Chg.step (by simp) _
 refine ⟨?_,hq.blk X.pw (by simpa using X.ne.1),(X.lst.set i hu).kind hq X.blk (by decide),X.wts.kind hq X.blk (by decide) (by decide),X.trc.kind hq X.blk (by decide) (by decide),X.wt⟩
 have:=X.blk.set (1 + i) u
 rwa [qLk hl i hi] at this
theorem DkIn.clear (X : DkIn w K b ls vw vt us ut d) (hl : ls.length = 32) : DkIn (w.setCell ⟨K,33,none⟩ (.slice none 0 0)) K b ls (.slice none 0 0) vt [] ut { d with waits:=[] }:=by
 have hq : Chg [K] w (w.setCell ⟨K,33,none⟩ (.slice none 0 0)):=Chg.step (by simp) _
 refine ⟨?_,hq.blk X.pw (by simpa using X.ne.1),X.lst.kind hq X.blk (by decide),OpsAt.nil _,X.trc.kind hq X.blk (by decide) (by decide),fun g hg=>by cases hg⟩
 have:=X.blk.set 33 (.slice none 0 0)
 rwa [qLj hl] at this
theorem DkIn.refuse (X : DkIn w K b ls vw vt us ut d) (hl : ls.length = 32) (q : Bool) : DkIn (w.setCell ⟨K,35,none⟩ (.bool q)) K b ls vw vt us ut { d with no:=q }:=by
 have hq : Chg [K] w (w.setCell ⟨K,35,none⟩ (.bool q)):=Chg.step (by simp) _
 refine ⟨?_,hq.blk X.pw (by simpa using X.ne.1),X.lst.kind hq X.blk (by decide),X.wts.kind hq X.blk (by decide) (by decide),X.trc.kind hq X.blk (by decide) (by decide),X.wt⟩
 have:=X.blk.set 35 (.bool q)
 rwa [qOy hl] at this
theorem OffD.same (O : OffD A K b ls vw vt us ut) (hc : Chg [b] w w6) : SameOn A w w6:=.of_chg hc (by simpa using O.b)
theorem OffD.sameK (O : OffD A K b ls vw vt us ut) (hc : Chg [K] w w6) : SameOn A w w6:=.of_chg hc (by simpa using O.K)
theorem OffD.sameW (O : OffD A K b ls vw vt us ut) (hc : Chg vw.ownBlock.toList w w6) : SameOn A w w6:=.of_chg hc (fun g hg=>O.vw g (qAp.1 hg))
theorem OffD.sameT (O : OffD A K b ls vw vt us ut) (hc : Chg vt.ownBlock.toList w w6) : SameOn A w w6:=.of_chg hc (fun g hg=>O.vt g (qAp.1 hg))
theorem OffD.setW (O : OffD A K b ls vw vt us ut) (hA : ∀ k,A k → k < w.heap.size) (hv : ∀ g,v6.ownBlock = some g → vw.ownBlock = some g ∨ w.heap.size ≤ g) (hu : ∀ g,u6.ownBlock = some g → w.heap.size ≤ g) : OffD A K b ls v6 vt (us ++ [u6]) ut :=
 ⟨O.K,O.b,O.ls,fun g hg ha=>by
  rcases hv g hg with h | h
  · exact O.vw g h ha
  · have:=hA g ha;omega,O.vt,fun u hm g hg ha=>by
  rcases List.mem_append.1 hm with h | h
  · exact O.us u h g hg ha
  · rw [List.mem_singleton.1 h] at hg
    have:=hu g hg;have:=hA g ha;omega,O.ut⟩
theorem OffD.setT (O : OffD A K b ls vw vt us ut) (hA : ∀ k,A k → k < w.heap.size) (hv : ∀ g,v6.ownBlock = some g → vt.ownBlock = some g ∨ w.heap.size ≤ g) (hu : ∀ g,u6.ownBlock = some g → w.heap.size ≤ g) : OffD A K b ls vw v6 us (ut ++ [u6]) :=
 ⟨O.K,O.b,O.ls,O.vw,fun g hg ha=>by
  rcases hv g hg with h | h
  · exact O.vt g h ha
  · have:=hA g ha;omega,O.us,fun u hm g hg ha=>by
  rcases List.mem_append.1 hm with h | h
  · exact O.ut u h g hg ha
  · rw [List.mem_singleton.1 h] at hg
    have:=hu g hg;have:=hA g ha;omega⟩
theorem OffD.lay (O : OffD A K b ls vw vt us ut) (i : Nat) {u : Value} (hu : ∀ g,u.ownBlock = some g → ¬ A g) : OffD A K b (ls.set i u) vw vt us ut :=
 ⟨O.K,O.b,fun v hv g hg=>by
  rcases List.mem_or_eq_of_mem_set hv with h | h
  · exact O.ls v h g hg
  · rw [h] at hg;exact hu g hg,O.vw,O.vt,O.us,O.ut⟩
theorem OffD.clear (O : OffD A K b ls vw vt us ut) : OffD A K b ls (.slice none 0 0) vt [] ut:=⟨O.K,O.b,O.ls,(fun g hg=>by cases hg),O.vt,(by simp),O.ut⟩
end
theorem qG0 : SlT prog 128 133 2 32 (.agg #[.int .i64 0,.slice none 0 0]):=SlT.mk' underlying128 (by kernel_rfl) rfl (by omega)
theorem qK9 {w : World} {B B' n g : Nat} {e t : TypeId} {v : Value} {xs : List Value} {cs : Array Value} {p q : Value} (h : w.ownsRow B e 1 v n xs) (hb : Blk w g cs t) (hne : e ≠ t) (hB : B' ≤ B) : ((w.setCell ⟨g,0,none⟩ p).setCell ⟨g,1,none⟩ q).ownsRow B' e 1 v n xs:=by
 refine qAd ?_ hB
 have hc : Chg [g] w ((w.setCell ⟨g,0,none⟩ p).setCell ⟨g,1,none⟩ q):=((Chg.refl [g] w).set (by simp) 0 p).set (by simp) 1 q
 refine qAA h hc fun g' hg'=>?_
 obtain ⟨c,hc'⟩:=qAj h hg'
 simpa using qAv hc' hb hne
theorem qG1 (off : Int) (u : Value) (bs : List UInt8) (hl : bs.length ≤ 65536) (w : World) (hs : Sl w u bs.length (qA1 bs)) : Calls prog 179 #[.agg #[.int .i64 off,u]] w fun e w'=>∃ a c,e = .returned (.agg #[.int .i64 off,.slice a bs.length c]) ∧ w'.ownsRow w.heap.size 5 1 (.slice a bs.length c) bs.length (qA1 bs) ∧ Kept w w':=by
 obtain ⟨a,c,he⟩:=hs.len
 subst he
 have hk0 : Kept w ((w.alloc (.cells #[.int .i64 off,.slice a bs.length c] 133)).alloc (.cells #[.int .i64 0,.slice none 0 0] 133)):=(qal _).alloc (by simp) _
 have hA : Blk ((w.alloc (.cells #[.int .i64 off,.slice a bs.length c] 133)).alloc (.cells #[.int .i64 0,.slice none 0 0] 133)) w.heap.size #[.int .i64 off,.slice a bs.length c] 133:=(Blk.new _ _ _).alloc _
 have hB : Blk ((w.alloc (.cells #[.int .i64 off,.slice a bs.length c] 133)).alloc (.cells #[.int .i64 0,.slice none 0 0] 133)) (w.heap.size + 1) #[.int .i64 0,.slice none 0 0] 133:=by simpa using Blk.new (w.alloc (.cells #[.int .i64 off,.slice a bs.length c] 133)) #[.int .i64 0,.slice none 0 0] 133
 go_enter func179,ntmps179
 go_wp2_with fail
 generalize ((w.alloc (.cells #[.int .i64 off,.slice a bs.length c] 133)).alloc (.cells #[.int .i64 0,.slice none 0 0] 133)) = w0 at *
 refine qA3 [(0,0),(1,0),(2,0),(3,0),(4,1),(5,0),(6,2)] (by kernel_rfl) (by kernel_rfl) ?_
 intro w1 hw1
 replace hA:=hA.kept hw1
 replace hB:=hB.kept hw1
 repeat
  refine qA0 _ rfl (fun K hK=>?_)
  first
   | (refine qqP (by rfl) ?_;apply Exists.intro;refine ⟨fun w' hw'=>?_,hK _ ?_⟩;(have c:=hA.kept hw';have c0:=c.cell 0;have c1:=c.cell 1;clear c;go_simp;first|done|rfl))
   | refine qqN (by rfl) (hK _ ?_)
  clear hK K;simp only [Act.put,qqB]
 refine qqH _ rfl (by rfl) (fun K hK=>?_)
 go_wp2_with fail
 refine (qAN _ bs (by omega) _ ((hs.kept hk0).kept hw1)).mono ?_
 rintro e w2 ⟨v2,rfl,ho,hk2⟩
 replace hB:=hB.kept hk2
 obtain ⟨a2,c2,he⟩:=(Sl.of_own ho).len
 subst he
 go_wp2
 refine hK _ _ (hk2) ?_
 clear hK K
 try simp only [Act.put,qqB]
 repeat
  refine qA0 _ rfl (fun K hK=>?_)
  first
   | (refine qqP (by rfl) ?_;apply Exists.intro;refine ⟨fun w' hw'=>?_,hK _ ?_⟩;go_simp;first|done|rfl)
   | refine qqN (by rfl) (hK _ ?_)
  clear hK K;simp only [Act.put,qqB]
 refine qAc _ rfl (fun K hK=>?_)
 refine qqP (by rfl) ?_
 have f0:=hB.free 0
 have f1:=hB.free 1
 have e0:=hB.cell 0
 have e1:=hB.cell 1
 go_wp2
 refine qA6 ?_
 go_wp2
 have d:=(hB.set 0 (.int .i64 off)).set 1 (.slice a2 bs.length c2)
 have d0:=d.cell 0
 have d1:=d.cell 1
 refine bodyPost_ret (v:=.agg #[.int .i64 off,.slice a2 bs.length c2]) (by simp [results,results179,go_sem,d0,d1];try exact ⟨rfl,rfl⟩) rfl ⟨a2,c2,rfl,?_,?_⟩
 · exact qK9 ho hB (by decide) (by have:=hk0.size;have:=hw1.size;omega)
 · exact ((Kept.of (Kept.of hk0 hw1) hk2).setCell (p:=⟨w.heap.size + 1,0,none⟩) (by show w.heap.size ≤ w.heap.size + 1;omega) _).setCell (p:=⟨w.heap.size + 1,1,none⟩) (by show w.heap.size ≤ w.heap.size + 1;omega) _
theorem qD7 (K : Nat) (a : Option Addr) (L c : Nat) (w : World) (h : w.cell? ⟨K,1,none⟩ = some (.slice a L c)) : Calls prog 85 #[.pointer (some ⟨K,0,none⟩)] w fun e w'=>e = .returned (.int .i64 L) ∧ w = w':=by
 go_enter func85,ntmps85
 go_wp2
 go_ret
 exact ⟨rfl,rfl⟩
def isB (L : Nat) (off n : Int) : Bool:=decide (0 ≤ off) && decide (0 ≤ n) && decide (off ≤ L) && decide (n ≤ L - off)
theorem qCk (K : Nat) (a : Option Addr) (L c : Nat) (hL : L ≤ 100000) (off n : Int) (w : World) (h : w.cell? ⟨K,1,none⟩ = some (.slice a L c)) : Calls prog 53 #[.pointer (some ⟨K,0,none⟩),.int .i64 off,.int .i64 n] w fun e w'=>e = .returned (.bool (isB L off n)) ∧ w = w':=by
 by_cases h1 : 0 ≤ off
 · by_cases h2 : 0 ≤ n
   · by_cases h3 : off ≤ L
     · have hw : IntKind.i64.wrap ((L : Int) - off) = (L : Int) - off:=IntWalk.i64_in _ (by omega)
       by_cases h4 : n ≤ (L : Int) - off
       · rw [show isB L off n = true by simp [isB];omega]
         go_enter func53,ntmps53
         go_wp2_with fail
         refine (qD7 K a L c _ h).mono ?_
         rintro e w1 ⟨rfl,rfl⟩
         go_wp2_with fail
         refine (qD7 K a L c _ h).mono ?_
         rintro e w1 ⟨rfl,rfl⟩
         go_wp2
         go_ret
         exact ⟨congrArg (fun b=>Ending.returned (Value.bool b)) (by first | rfl | exact decide_eq_false (by omega) | exact decide_eq_true (by omega)),rfl⟩
       · rw [show isB L off n = false by simp [isB];omega]
         go_enter func53,ntmps53
         go_wp2_with fail
         refine (qD7 K a L c _ h).mono ?_
         rintro e w1 ⟨rfl,rfl⟩
         go_wp2_with fail
         refine (qD7 K a L c _ h).mono ?_
         rintro e w1 ⟨rfl,rfl⟩
         go_wp2
         go_ret
         exact ⟨congrArg (fun b=>Ending.returned (Value.bool b)) (by first | rfl | exact decide_eq_false (by omega) | exact decide_eq_true (by omega)),rfl⟩
     · rw [show isB L off n = false by simp [isB];omega]
       go_enter func53,ntmps53
       go_wp2_with fail
       refine (qD7 K a L c _ h).mono ?_
       rintro e w1 ⟨rfl,rfl⟩
       go_wp2
       go_ret
       exact ⟨rfl,rfl⟩
   · rw [show isB L off n = false by simp [isB];omega]
     go_enter func53,ntmps53
     go_wp2
     go_ret
     exact ⟨rfl,rfl⟩
 · rw [show isB L off n = false by simp [isB];omega]
   go_enter func53,ntmps53
   go_wp2
   go_ret
   exact ⟨rfl,rfl⟩
theorem qLl (n : Nat) (h0 : 0 < n) (hn : n ≤ 65536) (b : Nat) (p : Pw) (A : Nat → Prop) (w : World) (hA : ∀ k,A k → k < w.heap.size) (hb : ¬ A b) (hp : qCr w b p) : Calls prog 37 #[.int .i64 n,.pointer (some ⟨b,0,none⟩)] w fun e w'=>∃ K,e = .returned (.pointer (some ⟨K,0,none⟩)) ∧ qFC A w' K b ⟨p,List.replicate n 0,[],[]⟩ ∧ Kept w w':=by
 have i0 : ¬ (n : Int) < 0:=by omega
 have i1 : ¬ 65536 < (n : Int):=by omega
 have i2 : (0 : Int) ≤ (n : Int):=by omega
 have i3 : (n : Int) ≤ 65536:=by omega
 obtain ⟨Z,hZ⟩ : ∃ Z,Z = List.replicate n (0 : UInt8):=⟨_,rfl⟩
 have hzl : Z.length = n:=by rw [hZ];simp
 have hmk : (Instr.makeSlice 32 (.int .i64 (n : Int)) (.int .i64 (n : Int))).run prog w = .ok (.slice (some ⟨w.heap.size,0,none⟩) n n) (w.alloc (.cells (qA1 Z).toArray 5)):=by rw [hZ];exact qBy (P:=prog) w sl_bytes .i64 .i64 n (by omega)
 rw [← hZ]
 have HZL:=qh hzl
 clear hZ hzl
 go_enter func37,ntmps37
 go_wp2
 go_ret
 have hk : Kept w ((w.alloc (.cells (qA1 Z).toArray 5)).alloc (.cells #[.pointer (some ⟨b,0,none⟩),.slice (some ⟨w.heap.size,0,none⟩) n n,.slice none 0 0,.slice none 0 0] 130)):=(qal _).alloc (by simp) _
 refine ⟨_,rfl,⟨w.heap.size,n,[],.slice none 0 0,.slice none 0 0,[],[],⟨?_,Blk.kept hp hk,?_,by show Z.length + 0 = n;rw [HZL.out,Nat.add_zero],by unfold maxLen;omega,OpsAt.nil _,OpsAt.nil _,by simp,by simp,(by intro g hg;cases hg)⟩,⟨?_,hb,?_,(by intro g hg;cases hg),(by intro g hg;cases hg),by simp,by simp⟩,fun k ha=>Nat.lt_of_lt_of_le (hA k ha) hk.size⟩,hk⟩
 · have:=Blk.new (w.alloc (.cells (qA1 Z).toArray 5)) #[.pointer (some ⟨b,0,none⟩),.slice (some ⟨w.heap.size,0,none⟩) n n,.slice none 0 0,.slice none 0 0] 130
   rw [show (w.alloc (.cells (qA1 Z).toArray 5)).heap.size = w.heap.size + 1 by simp] at this
   show Blk _ _ #[_,.slice _ Z.length _,_,_] _
   rw [HZL.out]
   exact this
 · have:=(Blk.new w (qA1 Z).toArray 5).alloc (.cells #[.pointer (some ⟨b,0,none⟩),.slice (some ⟨w.heap.size,0,none⟩) n n,.slice none 0 0,.slice none 0 0] 130)
   simpa using this
 · intro ha;have:=hA _ ha;omega
 · intro ha;have:=hA _ ha;omega
def Sd.wrote (s : Sd) (r : Bool) (p' : Pw) (x : Wr) : Sd:=if r then ⟨p',s.lasts,s.waits ++ [x],s.trace ++ [x]⟩ else { s with p:=p' }
theorem qO1 {n : Nat} {x : Wr} (h : inB n x) : isB n x.1 x.2.length = true:=by
 obtain ⟨h1,h2⟩:=h
 simp [isB];omega
theorem qLm (A : Nat → Prop) (K b : Nat) (s : Sd) (n m : Nat) (hn : n ≤ 65536) (hm : m ≤ 100000) (w : World) (h : qFC A w K b s) (ok : s.ok n m) (off : Int) (u : Value) (bs : List UInt8) (hin : inB n (off,bs)) (hs : Sl w u bs.length (qA1 bs)) (hu : ∀ a c,u = .slice (some a) bs.length c → 0 < (qA1 bs).length → A a.block) (r : Bool) (p' : Pw) (hsp : s.p.spend = (r,p')) :
 Calls prog 161 #[.pointer (some ⟨K,0,none⟩),.int .i64 off,u] w fun e w'=>e = .returned (.bool r) ∧ qFC A w' K b (s.wrote r p' (off,bs)) ∧ SameOn A w w':=by
 obtain ⟨a,c,he⟩:=hs.len
 subst he
 obtain ⟨gl,cap,ex,vw,vt,us,ut,X,O,hA⟩:=h
 have c1:=X.blk.cell 1
 have c0:=X.blk.cell 0
 have hlen:=ok.len
 have hbl : bs.length ≤ 65536:=by have:=hin.2;simp at this;omega
 have hok : s.p.ok 9223372036854775806:=qDl ok.pw (by omega)
 have hiB:=qO1 hin
 rw [hlen] at c1
 have HL:=qh hlen
 clear hlen
 go_enter func161,ntmps161
 go_wp2_with fail
 refine (qCk K _ n _ (by omega) off bs.length _ c1).mono ?_
 rintro e w1 ⟨rfl,rfl⟩
 rw [hiB]
 have HIB:=qh hiB
 clear hiB
 go_wp2_with fail
 refine (qAz b s.p p' r _ X.pw hok hsp).mono ?_
 rintro e w1 ⟨rfl,p1,g1⟩
 have g1:=Chg.of_grown g1
 have X1:=X.power g1 p1
 have hs1:=(O.same g1).sl hs hu
 have hsm1:=O.same g1
 cases r
 · go_wp2
   go_ret
   exact ⟨rfl,⟨gl,cap,ex,vw,vt,us,ut,X1,O,fun k ha=>Nat.lt_of_lt_of_le (hA k ha) g1.size⟩,hsm1⟩
 · obtain ⟨wa,wc,hve⟩:=X1.wts.slice
   subst hve
   obtain ⟨ta,tc,hve⟩:=X1.trc.slice
   subst hve
   have hka : Kept w1 (w1.alloc (.cells #[.int .i64 off,.slice a bs.length c] 133)):=qal _
   have hbx:=Blk.new w1 #[.int .i64 off,.slice a bs.length c] 133
   have X2:=X1.kept hka
   have hsl:=hs1.kept hka
   have low1:=X1.low
   have hbv : w1.heap.size ∉ (Value.slice wa s.waits.length wc).ownBlock.toList:=fun h=>by
    have:=(X1.low).2.2.2.1 _ (qAp.1 h);omega
   have hfw:=ok.few
   have hft:=ok.done
   have hsz1 : w1.heap.size ≤ (w1.alloc (.cells #[.int .i64 off,.slice a bs.length c] 133)).heap.size:=hka.size
   clear c0 c1
   go_wp2_with fail
   generalize (w1.alloc (.cells #[.int .i64 off,.slice a bs.length c] 133)) = w2 at *
   have hKv : K ∉ (Value.slice wa s.waits.length wc).ownBlock.toList:=fun h=>((X2.ne).2.2.2.1 K (qAp.1 h)).2.1 rfl
   have hKc : w2.cell? ⟨K,2,none⟩ = some (Value.slice wa s.waits.length wc):=X2.blk.cell 2
   have hlw:=(X2.low).2.2.2.1
   refine qA9 ((Value.slice wa s.waits.length wc).ownBlock.toList) [(0,0),(1,0),(2,0),(3,0),(4,0),(5,0),(6,1),(7,1),(8,1),(9,2),(10,2),(11,2)] (by kernel_rfl) (by kernel_rfl) ?_
   intro wp1 hwp1
   repeat
    refine qA0 _ rfl (fun K hK=>?_)
    first
     | (refine qqP (by rfl) ?_;apply Exists.intro;refine ⟨fun w' hw'=>?_,hK _ ?_⟩;(have kc:=hw'.cell (hwp1.at hKc) hKv;have bb:=hw'.blk (hbx.kept hwp1) hbv;have bb0:=bb.cell 0;have bb1:=bb.cell 1;clear bb;go_simp;first|done|rfl))
     | refine qqN (by rfl) (hK _ ?_)
    clear hK K;simp only [Act.put,qqB]
   refine qqH _ rfl (by rfl) (fun K hK=>?_)
   go_wp2_with fail
   refine (qG1 off _ bs hbl _ (hsl.kept hwp1)).mono ?_
   rintro e wp2 ⟨ap,cp,rfl,hop,hkp2⟩
   go_wp2
   refine hK _ _ (Chg.of_kept hkp2) ?_
   clear hK K
   try simp only [Act.put,qqB]
   refine qqH _ rfl (by rfl) (fun K hK=>?_)
   go_wp2
   refine hK _ _ (Chg.of_kept (qal _)) ?_
   clear hK K
   try simp only [Act.put,qqB]
   refine qqH _ rfl (by rfl) (fun K hK=>?_)
   have hro:=(qA4 (qA4 X2.wts.row hwp1) hkp2).alloc (.cells #[.int .i64 off,.slice ap bs.length cp] 133)
   refine qBj qG0 (by rfl) (by rfl) (by rfl) hro (Sl.lit _ #[.int .i64 off,.slice ap bs.length cp] _ 1 (by decide)) (by rfl) (by intro u hu;simp at hu;rcases hu with rfl | rfl <;> rfl) (by show s.waits.length + 1 ≤ maxLen;unfold maxLen;omega) (by show (s.waits.length + 1) * 32 ≤ 140737488355328;omega) (Nat.zero_le _) ?_
   intro vp wp3 hownp hgrp hatp _
   obtain ⟨gp,capp,hve⟩:=qAt hownp (by omega)
   subst hve
   have hobp:=qA4 hop ((qal (.cells #[.int .i64 off,.slice ap bs.length cp] 133)) : Kept wp2 _)
   have ckp : Chg (Value.slice wa s.waits.length wc).ownBlock.toList w2 wp3:=(Chg.of_kept (Kept.of hwp1 hkp2)).trans ((Chg.of_kept (qal _)).trans hgrp.chgL)
   refine hK _ _ (hgrp.chgL) ?_
   clear hK K
   try simp only [Act.put,qqB]
   refine qAc _ rfl (fun K hK=>?_)
   refine qqP (by rfl) ?_
   go_wp2
   refine qAc _ rfl (fun K hK=>?_)
   refine qqP (by rfl) ?_
   go_wp2
   refine qAc _ rfl (fun K hK=>?_)
   refine qqP (by rfl) ?_
   have hb5:=ckp.blk X2.blk hKv
   have fK:=hb5.free 2
   have eK:=hb5.cell 2
   go_wp2
   refine qA6 ?_
   have hz1:=hwp1.size
   have hz2:=hkp2.size
   have hbg : ∀ g,(Value.slice ap bs.length cp).ownBlock = some g → w2.heap.size ≤ g:=fun g hg=>Nat.le_trans hz1 (qAC hop hg)
   have hu6:=qAd (qAA hobp hgrp.chgL fun g hg hm=>by
    have:=hbg g hg
    have:=hlw g (qAp.1 hm)
    omega) hz1
   have hv6 : ∀ g,(Value.slice (some ⟨gp,0,none⟩) (s.waits.length + 1) capp).ownBlock = some g → (Value.slice wa s.waits.length wc).ownBlock = some g ∨ w2.heap.size ≤ g:=fun g hg=>by
    rcases hatp with e | e
    · left;rw [← e];exact hg
    · right
      have h2 : some g = some ((wp2.alloc (.cells #[.int .i64 off,.slice ap bs.length cp] 133)).heap.size):=hg.symm.trans e
      have h3:=Option.some.inj h2
      have : (wp2.alloc (.cells #[.int .i64 off,.slice ap bs.length cp] 133)).heap.size = wp2.heap.size + 1:=by simp
      omega
   have X3:=SdIn.pushW (x:=(off,bs)) X2 ckp hownp hu6 hv6
   have hqK : Chg [K] wp3 (wp3.setCell ⟨K,2,none⟩ (.slice (some ⟨gp,0,none⟩) (s.waits.length + 1) capp)):=Chg.step (by simp) _
   have hst:=(O.sameW ckp).trans (O.sameK hqK)
   have hA2 : ∀ k,A k → k < w2.heap.size:=fun k ha=>by
    have:=hA k ha;have:=g1.size;omega
   have O2:=O.setW hA2 hv6 hbg
   have hKx : w1.heap.size ≠ K:=by have:=low1.1;omega
   replace hbx:=hqK.blk (ckp.blk hbx hbv) (by simpa using hKx)
   replace hsl:=hst.sl hsl hu
   have hsz2:=hst.size
   replace hst:=(hsm1.trans (SameOn.of_kept hka)).trans hst
   have hbv : w1.heap.size ∉ (Value.slice ta s.trace.length tc).ownBlock.toList:=fun h=>by
    have:=low1.2.2.2.2 _ (qAp.1 h);omega
   clear hqK ckp hu6 hv6 hbg hownp hatp hgrp hobp hop hkp2 hwp1 hz1 hz2 hKc hlw hKv X2 fK eK hb5
   go_wp2_with fail
   generalize (wp3.setCell ⟨K,2,none⟩ (.slice (some ⟨gp,0,none⟩) (s.waits.length + 1) capp)) = w4 at *
   have hst0:=hst
   have hKv : K ∉ (Value.slice ta s.trace.length tc).ownBlock.toList:=fun h=>((X3.ne).2.2.2.2.1 K (qAp.1 h)).2.1 rfl
   have hKc : w4.cell? ⟨K,3,none⟩ = some (Value.slice ta s.trace.length tc):=X3.blk.cell 3
   have hlw:=(X3.low).2.2.2.2
   refine qA9 ((Value.slice ta s.trace.length tc).ownBlock.toList) [(0,0),(1,0),(2,0),(3,0),(4,0),(5,0),(6,1),(7,1),(8,1),(9,2),(10,2),(11,2)] (by kernel_rfl) (by kernel_rfl) ?_
   intro wq1 hwq1
   repeat
    refine qA0 _ rfl (fun K hK=>?_)
    first
     | (refine qqP (by rfl) ?_;apply Exists.intro;refine ⟨fun w' hw'=>?_,hK _ ?_⟩;(have kc:=hw'.cell (hwq1.at hKc) hKv;have bb:=hw'.blk (hbx.kept hwq1) hbv;have bb0:=bb.cell 0;have bb1:=bb.cell 1;clear bb;go_simp;first|done|rfl))
     | refine qqN (by rfl) (hK _ ?_)
    clear hK K;simp only [Act.put,qqB]
   refine qqH _ rfl (by rfl) (fun K hK=>?_)
   go_wp2_with fail
   refine (qG1 off _ bs hbl _ (hsl.kept hwq1)).mono ?_
   rintro e wq2 ⟨aq,cq,rfl,hoq,hkq2⟩
   go_wp2
   refine hK _ _ (Chg.of_kept hkq2) ?_
   clear hK K
   try simp only [Act.put,qqB]
   refine qqH _ rfl (by rfl) (fun K hK=>?_)
   go_wp2
   refine hK _ _ (Chg.of_kept (qal _)) ?_
   clear hK K
   try simp only [Act.put,qqB]
   refine qqH _ rfl (by rfl) (fun K hK=>?_)
   have hro:=(qA4 (qA4 X3.trc.row hwq1) hkq2).alloc (.cells #[.int .i64 off,.slice aq bs.length cq] 133)
   refine qBj qG0 (by rfl) (by rfl) (by rfl) hro (Sl.lit _ #[.int .i64 off,.slice aq bs.length cq] _ 1 (by decide)) (by rfl) (by intro u hu;simp at hu;rcases hu with rfl | rfl <;> rfl) (by show s.trace.length + 1 ≤ maxLen;unfold maxLen;omega) (by show (s.trace.length + 1) * 32 ≤ 140737488355328;omega) (Nat.zero_le _) ?_
   intro vq wq3 hownq hgrq hatq _
   obtain ⟨gq,capq,hve⟩:=qAt hownq (by omega)
   subst hve
   have hobq:=qA4 hoq ((qal (.cells #[.int .i64 off,.slice aq bs.length cq] 133)) : Kept wq2 _)
   have ckq : Chg (Value.slice ta s.trace.length tc).ownBlock.toList w4 wq3:=(Chg.of_kept (Kept.of hwq1 hkq2)).trans ((Chg.of_kept (qal _)).trans hgrq.chgL)
   refine hK _ _ (hgrq.chgL) ?_
   clear hK K
   try simp only [Act.put,qqB]
   refine qAc _ rfl (fun K hK=>?_)
   refine qqP (by rfl) ?_
   go_wp2
   refine qAc _ rfl (fun K hK=>?_)
   refine qqP (by rfl) ?_
   go_wp2
   refine qAc _ rfl (fun K hK=>?_)
   refine qqP (by rfl) ?_
   have hb5:=ckq.blk X3.blk hKv
   have fK:=hb5.free 3
   have eK:=hb5.cell 3
   go_wp2
   refine qA6 ?_
   have hz1:=hwq1.size
   have hz2:=hkq2.size
   have hbg : ∀ g,(Value.slice aq bs.length cq).ownBlock = some g → w4.heap.size ≤ g:=fun g hg=>Nat.le_trans hz1 (qAC hoq hg)
   have hu6:=qAd (qAA hobq hgrq.chgL fun g hg hm=>by
    have:=hbg g hg
    have:=hlw g (qAp.1 hm)
    omega) hz1
   have hv6 : ∀ g,(Value.slice (some ⟨gq,0,none⟩) (s.trace.length + 1) capq).ownBlock = some g → (Value.slice ta s.trace.length tc).ownBlock = some g ∨ w4.heap.size ≤ g:=fun g hg=>by
    rcases hatq with e | e
    · left;rw [← e];exact hg
    · right
      have h2 : some g = some ((wq2.alloc (.cells #[.int .i64 off,.slice aq bs.length cq] 133)).heap.size):=hg.symm.trans e
      have h3:=Option.some.inj h2
      have : (wq2.alloc (.cells #[.int .i64 off,.slice aq bs.length cq] 133)).heap.size = wq2.heap.size + 1:=by simp
      omega
   have X4:=SdIn.pushT (x:=(off,bs)) X3 ckq hownq hu6 hv6
   have hqK : Chg [K] wq3 (wq3.setCell ⟨K,3,none⟩ (.slice (some ⟨gq,0,none⟩) (s.trace.length + 1) capq)):=Chg.step (by simp) _
   have hst:=(O.sameT ckq).trans (O.sameK hqK)
   have hA4 : ∀ k,A k → k < w4.heap.size:=fun k ha=>by
    have:=hA2 k ha;omega
   have O4:=O2.setT hA4 hv6 hbg
   go_wp2
   go_ret
   exact ⟨rfl,⟨gl,cap,ex,_,_,_,_,X4,O4,fun k ha=>Nat.lt_of_lt_of_le (hA4 k ha) hst.size⟩,hst0.trans hst⟩
def isK (ks : List Bool) (i : Nat) : Bool:=ks[i]?.getD false
def qAW (ks : List Bool) : List Value:=ks.map .bool
theorem qCy (ks : List Bool) : (qAW ks).length = ks.length:=by simp [qAW]
theorem qOz (i : Int) (w : World) : Calls prog 55 #[.int .i64 i] w fun e w'=>e = .returned (.bool true) ∧ w = w':=by
 go_enter func55,ntmps55
 go_wp2
 go_ret
 exact ⟨rfl,rfl⟩
theorem qKa (k : Nat) (B : Nat) (a : Option Addr) (c : Nat) (ks : List Bool) (hl : ks.length ≤ 100000) (w : World) (h : w.cell? ⟨B,0,none⟩ = some (.slice a ks.length c)) (hs : Sl w (.slice a ks.length c) ks.length (qAW ks)) : Calls prog 126 #[.int .i64 k,.pointer (some ⟨B,0,none⟩)] w fun e w'=>e = .returned (.bool (isK ks k)) ∧ w = w':=by
 by_cases hk : k < ks.length
 · have n1 : (k : Int) < (ks.length : Int):=by omega
   have n2 : (0 : Int) ≤ (k : Int):=by omega
   obtain ⟨b,off,cap,e,_,_,_,hx⟩:=hs.at (by rw [qCy];omega)
   cases e
   have r0:=hx k (.bool ks[k]) (by simp [qAW,hk])
   have hi : isK ks k = ks[k]:=by simp [isK,hk]
   rw [hi]
   generalize ks[k] = q at *
   clear hx
   go_enter func126,ntmps126
   go_wp2
   go_ret
   exact ⟨rfl,rfl⟩
 · have n1 : ¬ (k : Int) < (ks.length : Int):=by omega
   have hi : isK ks k = false:=by simp [isK,List.getElem?_eq_none (show ks.length ≤ k by omega)]
   rw [hi]
   clear hs
   go_enter func126,ntmps126
   go_wp2
   go_ret
   exact ⟨rfl,rfl⟩
theorem qPL (is : Nat → Bool) (h : is = fun _=>true) (i : Nat) (w : World) : Calls prog 55 #[.int .i64 i] w fun e w'=>e = .returned (.bool (is i)) ∧ w = w':=by
 subst h;exact qOz i w
theorem qLn (is : Nat → Bool) (k : Nat) (B : Nat) (a : Option Addr) (c : Nat) (ks : List Bool) (hi : is = isK ks) (hl : ks.length ≤ 100000) (w : World) (h : w.cell? ⟨B,0,none⟩ = some (.slice a ks.length c)) (hs : Sl w (.slice a ks.length c) ks.length (qAW ks)) : Calls prog 126 #[.int .i64 k,.pointer (some ⟨B,0,none⟩)] w fun e w'=>e = .returned (.bool (is k)) ∧ w = w':=by
 subst hi;exact qKa k B a c ks hl w h hs
theorem qEb (K b gl cap : Nat) (ex : List Value) (vw vt : Value) (us ut : List Value) (s : Sd) (n m : Nat) (h0 : 0 < n) (hn : n ≤ 65536) (hm : m ≤ 100000) (is : Nat → Bool) (w : World) (X : SdIn w K b gl cap ex vw vt us ut s) (ok : s.ok n m) (his : is = fun _=>true) :
 Calls prog 54 #[.pointer (some ⟨K,0,none⟩),.func (.func 55) #[] #[]] w fun e w'=>e = .returned (.tuple #[]) ∧ SdIn w' K b gl cap ex (.slice none 0 0) vt [] ut { s with lasts:=qBq s.lasts s.waits is s.waits.length,waits:=[] } ∧ Chg [gl,K] w w':=by
 have HISF:=qh his
 clear his
 obtain ⟨wa,wc,hve⟩:=X.wts.slice
 subst hve
 obtain ⟨n1,n2,n3,n4,n5,n6,n7⟩:=X.ne
 have HF:=qh ok.fit
 have hfew:=ok.few
 have hcap:=X.hcap
 have HW:=qh ok.len
 rw [HW.out] at hcap
 have c2:=X.blk.cell 2
 have c1:=X.blk.cell 1
 have fK:=X.blk.free 2
 have i0 : (s.waits.length : Int) ≤ 100000:=by omega
 have i1 : n ≤ cap:=by omega
 have hKn : K ∉ [gl]:=by simpa using n3
 have c1' : w.cell? ⟨K,1,none⟩ = some (.slice (some ⟨gl,0,none⟩) n cap):=by rw [← HW.out];exact c1
 have HIS:=qh (qC5 s.lasts s.waits is (fun x hx=>by rw [HW.out];exact HF.out x hx))
 clear c1
 obtain ⟨N,hN⟩ : ∃ N,N = s.waits.length:=⟨_,rfl⟩
 have c2' : w.cell? ⟨K,2,none⟩ = some (.slice wa N wc):=by rw [hN];exact c2
 rw [← hN] at i0 hfew
 have HN:=qh hN
 clear hN c2
 go_enter func54,ntmps54
 go_wp2_with fail
 go_loopw [11,5,4] (fun i _ _ wr=>∃ k : Nat,k ≤ N ∧ i = .int .i64 k ∧ Blk wr gl (qA1 (qBq s.lasts s.waits is k) ++ ex).toArray 5 ∧ Chg [gl] w wr) (fun i _ _ _=>N - (intOf i).toNat)
 case atStart=>exact ⟨0,by omega,by go_num,X.lst,Chg.refl _ _⟩
 case round =>
  obtain ⟨k,hk,rfl,hbl,hcw⟩:=hrel
  have kc2:=hcw.cell c2' hKn
  have kc1:=hcw.cell c1' hKn
  by_cases hlt : k < N
  · have hkl : k < s.waits.length:=by rw [← HN.out];exact hlt
    have n3' : (k : Int) < (N : Int):=by omega
    have n4' : (0 : Int) ≤ (k : Int):=by omega
    have hops:=X.wts.chg hcw (fun g hg=>by simpa using (n4 g hg).2.2) (fun u hu g hg=>by simpa using (n6 u hu g hg).2.2.1)
    obtain ⟨g,cap2,u,hve,hui,d0,d1,hsu⟩:=hops.get k hkl
    cases hve
    obtain ⟨x,hx⟩ : ∃ x,x = s.waits[k]:=⟨_,rfl⟩
    rw [← hx] at d0 hsu
    have hinx : inB n x:=by rw [hx];exact HF.out _ (List.getElem_mem hkl)
    have HIN:=qh hinx
    obtain ⟨hx0,hx1⟩:=hinx
    have hxg : s.waits[k]?.getD (0,[]) = x:=by rw [List.getElem?_eq_getElem hkl,hx];rfl
    have hll : (qBq s.lasts s.waits is k).length = n:=by rw [HIS.out k (by omega),HW.out]
    obtain ⟨o,ho⟩ : ∃ o : Nat,o = x.1.toNat:=⟨_,rfl⟩
    have hxo : x.1 = (o : Int):=by omega
    rw [← ho] at hx1
    rw [hxo] at d0
    obtain ⟨au,cu,hve⟩:=hsu.len
    subst hve
    have m5 : (o : Int) ≤ (n : Int):=by omega
    have m8 : ¬ cap = o:=by omega
    have m9 : ¬ cap - o = 0:=by omega
    have m6 : (n : Int) ≤ (cap : Int):=by omega
    have m7 : (0 : Int) ≤ (o : Int):=by omega
    have HO:=qh ho
    have HX:=qh hx
    have HL:=qh hll
    have HXG:=qh hxg
    have HXO:=qh hxo
    have hgbr:=hbl.lt
    have hka : Kept wr (wr.alloc (.cells #[.int .i64 (o : Int),.slice au x.2.length cu] 133)):=qal _
    have hbx:=Blk.new wr #[.int .i64 (o : Int),.slice au x.2.length cu] 133
    have hbn : wr.heap.size ∉ [gl]:=by simp;omega
    replace hbl:=hbl.kept hka
    replace hsu:=hsu.kept hka
    replace kc1:=hka.at kc1
    replace hcw:=hcw.trans (Chg.of_kept hka)
    clear ho hx hll hxg hxo hka
    go_wp2_with fail
    generalize (wr.alloc (.cells #[.int .i64 (o : Int),.slice au x.2.length cu] 133)) = wx at *
    refine (qPL is HISF.out k _).mono ?_
    rintro e w1 ⟨rfl,rfl⟩
    cases hq : is k
    · have hls : qBq s.lasts s.waits is (k + 1) = qBq s.lasts s.waits is k:=by rw [qBq,hq];rfl
      have HLS:=qh hls
      clear hls hq
      go_wp2
      exact ⟨⟨k + 1,by omega,by go_num,by rw [HLS.out];exact hbl,hcw⟩,by simp [intOf];omega⟩
    · have hls : qBq s.lasts s.waits is (k + 1) = qDp (qBq s.lasts s.waits is k) x:=by rw [qBq,hq,if_pos rfl,HXG.out]
      have HLS:=qh hls
      clear hls hq
      go_wp2_with fail
      refine qA9 [gl] [(0,0),(1,0),(2,0),(3,0),(4,0),(5,0),(6,0),(7,0),(8,0),(9,1)] (by kernel_rfl) (by kernel_rfl) ?_
      intro w2 hw2
      repeat
       refine qA0 _ rfl (fun K hK=>?_)
       first
        | (refine qqP (by rfl) ?_;apply Exists.intro;refine ⟨fun w' hw'=>?_,hK _ ?_⟩;(have bb:=hw'.blk (hbx.kept hw2) hbn;have bb0:=bb.cell 0;have bb1:=bb.cell 1;clear bb;have kk:=hw'.cell (hw2.at kc1) hKn;go_simp;first|done|rfl))
        | refine qqN (by rfl) (hK _ ?_)
       clear hK K;simp only [Act.put,qqB]
      refine qqH _ rfl (by rfl) (fun K hK=>?_)
      obtain ⟨w3,hr,hB3,hc3⟩:=qBT (P:=prog) (w:=w2) (dl:=n - o) (dc:=cap - o) (off:=o) sl_bytes 3 (hbl.kept hw2) (hsu.kept hw2) (qA5 _) (qAB _) (by rw [List.length_append,qA5,HL.out];omega)
      go_wp2
      refine hK _ _ (hc3) ?_
      clear hK K
      try simp only [Act.put,qqB]
      refine qA6 ?_
      have hB4 : Blk w3 gl (qA1 (qBq s.lasts s.waits is (k + 1)) ++ ex).toArray 5:=by
       have hl:=qDK (qBq s.lasts s.waits is k) ex x n HL.out.symm HIN.out
       rw [← HO.out] at hl
       rw [hl,← HLS.out] at hB3
       exact hB3
      have hc4 : Chg [gl] w w3:=hcw.trans ((Chg.of_kept hw2).trans hc3)
      go_wp2
      exact ⟨⟨k + 1,by omega,by go_num,hB4,hc4⟩,by simp [intOf];omega⟩
  · have hkN : k = N:=by omega
    have HK:=qh hkN
    clear hkN
    have bK:=hcw.blk X.blk hKn
    have fK2:=bK.free 2
    go_wp2
    go_end0
    have hqK : Chg [K] wr (wr.setCell ⟨K,2,none⟩ (.slice none 0 0)):=Chg.step (by simp) _
    rw [HK.out,HN.out] at hbl
    have tr:=X.trc.chg hcw (fun g hg=>by simpa using (n5 g hg).2.2) (fun u hu g hg=>by simpa using (n7 u hu g hg).2.2.1)
    refine ⟨rfl,⟨?_,hqK.blk (hcw.blk X.pw (by simpa using n2)) (by simpa using n1),hqK.blk hbl (by simpa using n3.symm),?_,X.most,OpsAt.nil _,tr.chg hqK (fun g hg=>by simpa using (n5 g hg).2.1) (fun u hu g hg=>by simpa using (n7 u hu g hg).2.1),by simp,X.tne,by intro g hg;cases hg⟩,(hcw.mono (by simp)).trans (hqK.mono (by simp))⟩
    · have hl2:=HIS.out s.waits.length qle
      have:=bK.set 2 (.slice none 0 0)
      rw [← hl2] at this
      simpa using this
    · rw [← X.hcap,← HIS.out s.waits.length qle]
theorem qIz (K b gl cap : Nat) (ex : List Value) (vw vt : Value) (us ut : List Value) (s : Sd) (n m : Nat) (h0 : 0 < n) (hn : n ≤ 65536) (hm : m ≤ 100000) (is : Nat → Bool) (B : Nat) (ka : Option Addr) (kc : Nat) (ks : List Bool) (kl : ks.length ≤ 100000) (w : World) (X : SdIn w K b gl cap ex vw vt us ut s) (ok : s.ok n m) (his : is = isK ks) (hB : w.cell? ⟨B,0,none⟩ = some (.slice ka ks.length kc)) (hks : Sl w (.slice ka ks.length kc) ks.length (qAW ks)) (hBg : B ∉ [gl]) (hkg : ∀ a c,Value.slice ka ks.length kc = .slice (some a) ks.length c → 0 < (qAW ks).length → a.block ∉ [gl]) :
 Calls prog 54 #[.pointer (some ⟨K,0,none⟩),.func (.func 126) #[] #[.pointer (some ⟨B,0,none⟩)]] w fun e w'=>e = .returned (.tuple #[]) ∧ SdIn w' K b gl cap ex (.slice none 0 0) vt [] ut { s with lasts:=qBq s.lasts s.waits is s.waits.length,waits:=[] } ∧ Chg [gl,K] w w':=by
 have HISF:=qh his
 clear his
 obtain ⟨wa,wc,hve⟩:=X.wts.slice
 subst hve
 obtain ⟨n1,n2,n3,n4,n5,n6,n7⟩:=X.ne
 have HF:=qh ok.fit
 have hfew:=ok.few
 have hcap:=X.hcap
 have HW:=qh ok.len
 rw [HW.out] at hcap
 have c2:=X.blk.cell 2
 have c1:=X.blk.cell 1
 have fK:=X.blk.free 2
 have i0 : (s.waits.length : Int) ≤ 100000:=by omega
 have i1 : n ≤ cap:=by omega
 have hKn : K ∉ [gl]:=by simpa using n3
 have c1' : w.cell? ⟨K,1,none⟩ = some (.slice (some ⟨gl,0,none⟩) n cap):=by rw [← HW.out];exact c1
 have HIS:=qh (qC5 s.lasts s.waits is (fun x hx=>by rw [HW.out];exact HF.out x hx))
 clear c1
 obtain ⟨N,hN⟩ : ∃ N,N = s.waits.length:=⟨_,rfl⟩
 have c2' : w.cell? ⟨K,2,none⟩ = some (.slice wa N wc):=by rw [hN];exact c2
 rw [← hN] at i0 hfew
 have HN:=qh hN
 clear hN c2
 go_enter func54,ntmps54
 go_wp2_with fail
 go_loopw [11,5,4] (fun i _ _ wr=>∃ k : Nat,k ≤ N ∧ i = .int .i64 k ∧ Blk wr gl (qA1 (qBq s.lasts s.waits is k) ++ ex).toArray 5 ∧ Chg [gl] w wr) (fun i _ _ _=>N - (intOf i).toNat)
 case atStart=>exact ⟨0,by omega,by go_num,X.lst,Chg.refl _ _⟩
 case round =>
  obtain ⟨k,hk,rfl,hbl,hcw⟩:=hrel
  have kc2:=hcw.cell c2' hKn
  have kc1:=hcw.cell c1' hKn
  by_cases hlt : k < N
  · have hkl : k < s.waits.length:=by rw [← HN.out];exact hlt
    have n3' : (k : Int) < (N : Int):=by omega
    have n4' : (0 : Int) ≤ (k : Int):=by omega
    have hops:=X.wts.chg hcw (fun g hg=>by simpa using (n4 g hg).2.2) (fun u hu g hg=>by simpa using (n6 u hu g hg).2.2.1)
    obtain ⟨g,cap2,u,hve,hui,d0,d1,hsu⟩:=hops.get k hkl
    cases hve
    obtain ⟨x,hx⟩ : ∃ x,x = s.waits[k]:=⟨_,rfl⟩
    rw [← hx] at d0 hsu
    have hinx : inB n x:=by rw [hx];exact HF.out _ (List.getElem_mem hkl)
    have HIN:=qh hinx
    obtain ⟨hx0,hx1⟩:=hinx
    have hxg : s.waits[k]?.getD (0,[]) = x:=by rw [List.getElem?_eq_getElem hkl,hx];rfl
    have hll : (qBq s.lasts s.waits is k).length = n:=by rw [HIS.out k (by omega),HW.out]
    obtain ⟨o,ho⟩ : ∃ o : Nat,o = x.1.toNat:=⟨_,rfl⟩
    have hxo : x.1 = (o : Int):=by omega
    rw [← ho] at hx1
    rw [hxo] at d0
    obtain ⟨au,cu,hve⟩:=hsu.len
    subst hve
    have m5 : (o : Int) ≤ (n : Int):=by omega
    have m8 : ¬ cap = o:=by omega
    have m9 : ¬ cap - o = 0:=by omega
    have m6 : (n : Int) ≤ (cap : Int):=by omega
    have m7 : (0 : Int) ≤ (o : Int):=by omega
    have HO:=qh ho
    have HX:=qh hx
    have HL:=qh hll
    have HXG:=qh hxg
    have HXO:=qh hxo
    have hgbr:=hbl.lt
    have hka : Kept wr (wr.alloc (.cells #[.int .i64 (o : Int),.slice au x.2.length cu] 133)):=qal _
    have hbx:=Blk.new wr #[.int .i64 (o : Int),.slice au x.2.length cu] 133
    have hbn : wr.heap.size ∉ [gl]:=by simp;omega
    replace hbl:=hbl.kept hka
    replace hsu:=hsu.kept hka
    replace kc1:=hka.at kc1
    replace hcw:=hcw.trans (Chg.of_kept hka)
    clear ho hx hll hxg hxo hka
    go_wp2_with fail
    generalize (wr.alloc (.cells #[.int .i64 (o : Int),.slice au x.2.length cu] 133)) = wx at *
    refine (qLn is k B ka kc ks HISF.out kl _ (hcw.cell hB hBg) (Chg.sl hks hcw hkg)).mono ?_
    rintro e w1 ⟨rfl,rfl⟩
    cases hq : is k
    · have hls : qBq s.lasts s.waits is (k + 1) = qBq s.lasts s.waits is k:=by rw [qBq,hq];rfl
      have HLS:=qh hls
      clear hls hq
      go_wp2
      exact ⟨⟨k + 1,by omega,by go_num,by rw [HLS.out];exact hbl,hcw⟩,by simp [intOf];omega⟩
    · have hls : qBq s.lasts s.waits is (k + 1) = qDp (qBq s.lasts s.waits is k) x:=by rw [qBq,hq,if_pos rfl,HXG.out]
      have HLS:=qh hls
      clear hls hq
      go_wp2_with fail
      refine qA9 [gl] [(0,0),(1,0),(2,0),(3,0),(4,0),(5,0),(6,0),(7,0),(8,0),(9,1)] (by kernel_rfl) (by kernel_rfl) ?_
      intro w2 hw2
      repeat
       refine qA0 _ rfl (fun K hK=>?_)
       first
        | (refine qqP (by rfl) ?_;apply Exists.intro;refine ⟨fun w' hw'=>?_,hK _ ?_⟩;(have bb:=hw'.blk (hbx.kept hw2) hbn;have bb0:=bb.cell 0;have bb1:=bb.cell 1;clear bb;have kk:=hw'.cell (hw2.at kc1) hKn;go_simp;first|done|rfl))
        | refine qqN (by rfl) (hK _ ?_)
       clear hK K;simp only [Act.put,qqB]
      refine qqH _ rfl (by rfl) (fun K hK=>?_)
      obtain ⟨w3,hr,hB3,hc3⟩:=qBT (P:=prog) (w:=w2) (dl:=n - o) (dc:=cap - o) (off:=o) sl_bytes 3 (hbl.kept hw2) (hsu.kept hw2) (qA5 _) (qAB _) (by rw [List.length_append,qA5,HL.out];omega)
      go_wp2
      refine hK _ _ (hc3) ?_
      clear hK K
      try simp only [Act.put,qqB]
      refine qA6 ?_
      have hB4 : Blk w3 gl (qA1 (qBq s.lasts s.waits is (k + 1)) ++ ex).toArray 5:=by
       have hl:=qDK (qBq s.lasts s.waits is k) ex x n HL.out.symm HIN.out
       rw [← HO.out] at hl
       rw [hl,← HLS.out] at hB3
       exact hB3
      have hc4 : Chg [gl] w w3:=hcw.trans ((Chg.of_kept hw2).trans hc3)
      go_wp2
      exact ⟨⟨k + 1,by omega,by go_num,hB4,hc4⟩,by simp [intOf];omega⟩
  · have hkN : k = N:=by omega
    have HK:=qh hkN
    clear hkN
    have bK:=hcw.blk X.blk hKn
    have fK2:=bK.free 2
    go_wp2
    go_end0
    have hqK : Chg [K] wr (wr.setCell ⟨K,2,none⟩ (.slice none 0 0)):=Chg.step (by simp) _
    rw [HK.out,HN.out] at hbl
    have tr:=X.trc.chg hcw (fun g hg=>by simpa using (n5 g hg).2.2) (fun u hu g hg=>by simpa using (n7 u hu g hg).2.2.1)
    refine ⟨rfl,⟨?_,hqK.blk (hcw.blk X.pw (by simpa using n2)) (by simpa using n1),hqK.blk hbl (by simpa using n3.symm),?_,X.most,OpsAt.nil _,tr.chg hqK (fun g hg=>by simpa using (n5 g hg).2.1) (fun u hu g hg=>by simpa using (n7 u hu g hg).2.1),by simp,X.tne,by intro g hg;cases hg⟩,(hcw.mono (by simp)).trans (hqK.mono (by simp))⟩
    · have hl2:=HIS.out s.waits.length qle
      have:=bK.set 2 (.slice none 0 0)
      rw [← hl2] at this
      simpa using this
    · rw [← X.hcap,← HIS.out s.waits.length qle]
theorem qJl (A : Nat → Prop) (K b : Nat) (s : Sd) (n m : Nat) (h0 : 0 < n) (hn : n ≤ 65536) (hm : m ≤ 100000) (w : World) (h : qFC A w K b s) (ok : s.ok n m) : Calls prog 29 #[.pointer (some ⟨K,0,none⟩)] w fun e w'=>∃ g c,e = .returned (.slice (some ⟨g,0,none⟩) n c) ∧ w'.ownsRow w.heap.size 5 1 (.slice (some ⟨g,0,none⟩) n c) n (qA1 s.snap) ∧ Kept w w':=by
 obtain ⟨gl,cap,ex,vw,vt,us,ut,X,O,hA⟩:=h
 obtain ⟨wa,wc,hve⟩:=X.wts.slice
 subst hve
 have c1:=X.blk.cell 1
 have hbnd : s.lasts.length ≤ 65536:=by rw [ok.len];omega
 have HW:=qh ok.len
 have hfit:=ok.fit
 have hfew:=ok.few
 have hsl : Sl w (.slice (some ⟨gl,0,none⟩) s.lasts.length cap) s.lasts.length (qA1 s.lasts):=by
  have hcap:=X.hcap
  have hmost:=X.most
  refine Sl.mk (by omega) hmost fun j u hj=>?_
  have hjl:=(List.getElem?_eq_some_iff.1 hj).1
  rw [Nat.zero_add,X.lst.cell j]
  simpa [List.getElem?_append_left hjl] using hj
 go_enter func29,ntmps29
 go_wp2_with fail
 refine (qAN _ s.lasts (by omega) _ hsl).mono ?_
 rintro e w1 ⟨vb,rfl,hown,hk1⟩
 rw [HW.out] at hown
 obtain ⟨gb,cb,hve⟩:=qAt hown h0
 subst hve
 have hgb:=qAC hown rfl
 obtain ⟨exb,hB1,hcb⟩ : ∃ exb,Blk w1 gb (qA1 s.lasts ++ exb).toArray 5 ∧ n + exb.length = cb:=by
  rcases hown.2 with ⟨e,_⟩ | ⟨g',cap',cur,e,_,hb,h1,_,h2,h3⟩
  · cases e
  · cases e
    rw [Nat.mul_one] at h2 h3
    refine ⟨cur.toList.drop n,?_,by simp;omega⟩
    rw [← h3,List.take_append_drop]
    exact hb
 have X1:=X.kept hk1
 have c2:=X1.blk.cell 2
 have i0 : (s.waits.length : Int) ≤ 100000:=by omega
 have i1 : n ≤ cb:=by omega
 have hmc : cb ≤ maxLen:=by
  rcases hown.2 with ⟨e,_⟩ | ⟨g',cap',cur,e,_,hb,h1,h4,h2,h3⟩
  · cases e
  · cases e;exact h4
 clear hown c1 hsl
 obtain ⟨N,hN⟩ : ∃ N,N = s.waits.length:=⟨_,rfl⟩
 rw [← hN] at c2 i0
 have HN:=qh hN
 clear hN
 go_wp2_with fail
 go_loopw [18,5] (fun i _ wr=>∃ k : Nat,k ≤ N ∧ i = .int .i64 k ∧ Blk wr gb (qA1 (qBb s.lasts (s.waits.take k)) ++ exb).toArray 5 ∧ Kept w wr ∧ SdIn wr K b gl cap ex (.slice wa s.waits.length wc) vt us ut s) (fun i _ _=>N - (intOf i).toNat)
 case atStart=>exact ⟨0,by omega,by go_num,hB1,hk1,X1⟩
 case round =>
  obtain ⟨k,hk,rfl,hbl,hkw,Xr⟩:=hrel
  clear hB1 hk1 X1 c2
  by_cases hlt : k < N
  · have hkl : k < s.waits.length:=by rw [← HN.out];exact hlt
    have n3 : (k : Int) < (N : Int):=by omega
    have n4 : (0 : Int) ≤ (k : Int):=by omega
    obtain ⟨g,cap2,u,hve,hui,d0,d1,hsu⟩:=Xr.wts.get k hkl
    cases hve
    obtain ⟨x,hx⟩ : ∃ x,x = s.waits[k]:=⟨_,rfl⟩
    rw [← hx] at d0 hsu
    have hinx : inB n x:=by rw [hx];exact hfit _ (List.getElem_mem hkl)
    have HIN:=qh hinx
    obtain ⟨hx0,hx1⟩:=hinx
    have hlay : qBb s.lasts (s.waits.take (k + 1)) = qDp (qBb s.lasts (s.waits.take k)) x:=by rw [List.take_succ_eq_append_getElem hkl,qCx,hx]
    have hll : (qBb s.lasts (s.waits.take k)).length = n:=by
     rw [← HW.out]
     exact qBN _ _ (fun y hy=>by rw [HW.out];exact hfit y (List.mem_of_mem_take hy))
    obtain ⟨o,ho⟩ : ∃ o : Nat,o = x.1.toNat:=⟨_,rfl⟩
    have hxo : x.1 = (o : Int):=by omega
    rw [← ho] at hx1
    rw [hxo] at d0
    obtain ⟨au,cu,hve⟩:=hsu.len
    subst hve
    have n5 : (o : Int) ≤ (n : Int):=by omega
    have n8 : ¬ cb = o:=by omega
    have n9 : ¬ cb - o = 0:=by omega
    have n6 : (n : Int) ≤ (cb : Int):=by omega
    have n7 : (0 : Int) ≤ (o : Int):=by omega
    have HO:=qh ho
    have HX:=qh hx
    have HL:=qh hll
    have HY:=qh hlay
    have HXO:=qh hxo
    have hgbr:=hbl.lt
    have hka : Kept wr (wr.alloc (.cells #[.int .i64 (o : Int),.slice au x.2.length cu] 133)):=qal _
    have hbx:=Blk.new wr #[.int .i64 (o : Int),.slice au x.2.length cu] 133
    have hbn : wr.heap.size ∉ [gb]:=by simp;omega
    replace hbl:=hbl.kept hka
    replace Xr:=Xr.kept hka
    replace hsu:=hsu.kept hka
    replace hkw:=Kept.of hkw hka
    clear ho hx hll hlay hxo
    go_wp2_with fail
    generalize (wr.alloc (.cells #[.int .i64 (o : Int),.slice au x.2.length cu] 133)) = wx at *
    refine qA9 [gb] [(0,0),(1,0),(2,0),(3,0),(4,0),(5,0),(6,1)] (by kernel_rfl) (by kernel_rfl) ?_
    intro w2 hw2
    repeat
     refine qA0 _ rfl (fun K hK=>?_)
     first
      | (refine qqP (by rfl) ?_;apply Exists.intro;refine ⟨fun w' hw'=>?_,hK _ ?_⟩;(have bb:=hw'.blk (hbx.kept hw2) hbn;have bb0:=bb.cell 0;have bb1:=bb.cell 1;clear bb;go_simp;first|done|rfl))
      | refine qqN (by rfl) (hK _ ?_)
     clear hK K;simp only [Act.put,qqB]
    refine qqH _ rfl (by rfl) (fun K hK=>?_)
    obtain ⟨w3,hr,hB3,hc3⟩:=qBT (P:=prog) (w:=w2) (dl:=n - o) (dc:=cb - o) (off:=o) sl_bytes 3 (hbl.kept hw2) (hsu.kept hw2) (qA5 _) (qAB _) (by rw [List.length_append,qA5,HL.out];omega)
    go_wp2
    refine hK _ _ (hc3) ?_
    clear hK K
    try simp only [Act.put,qqB]
    refine qA6 ?_
    have hk3 : Kept w w3:=hkw.trans (((Chg.of_kept hw2).trans hc3).below (by simpa using hgb) hkw.size)
    have hB4 : Blk w3 gb (qA1 (qBb s.lasts (s.waits.take (k + 1))) ++ exb).toArray 5:=by
     have hl:=qDK (qBb s.lasts (s.waits.take k)) exb x n HL.out.symm HIN.out
     rw [← HO.out] at hl
     rw [hl,← HY.out] at hB3
     exact hB3
    have X3:=X.kept hk3
    go_wp2
    exact ⟨⟨k + 1,by omega,by go_num,hB4,hk3,X3⟩,by simp [intOf];omega⟩
  · have hkN : k = N:=by omega
    have HK:=qh hkN
    clear hkN
    have hsz:=hkw.size
    go_wp2
    go_ret
    have hll : (qBb s.lasts s.waits).length = n:=by
     rw [← HW.out]
     exact qBN _ _ (fun y hy=>by rw [HW.out];exact hfit y hy)
    rw [HK.out,HN.out,List.take_length] at hbl
    refine ⟨gb,cb,rfl,⟨by rw [qA5];show s.snap.length = _;rw [Sd.snap,hll,Nat.mul_one],.inr ⟨gb,cb,_,rfl,hgb,hbl,i1,hmc,?_,?_⟩⟩,hkw⟩
    · simp [qA5,hll];omega
    · rw [Nat.mul_one,List.take_append_of_le_length (by rw [qA5,hll];exact Nat.le_refl _),List.take_of_length_le (by rw [qA5,hll];exact Nat.le_refl _)]
      rfl
theorem qLo (A : Nat → Prop) (K b : Nat) (s : Sd) (n m : Nat) (h0 : 0 < n) (hn : n ≤ 65536) (hm : m ≤ 100000) (w : World) (h : qFC A w K b s) (ok : s.ok n m) (v : Value) (ks : List Bool) (kl : ks.length ≤ 100000) (hks : Sl w v ks.length (qAW ks)) (hA : ∀ a c,v = .slice (some a) ks.length c → 0 < (qAW ks).length → A a.block) :
 Calls prog 82 #[.pointer (some ⟨K,0,none⟩),v] w fun e w'=>e = .returned (.tuple #[]) ∧ qFC A w' K b { s with lasts:=qBq s.lasts s.waits (isK ks) s.waits.length,waits:=[] } ∧ SameOn A w w':=by
 obtain ⟨ka,kc,he⟩:=hks.len
 subst he
 obtain ⟨gl,cap,ex,vw,vt,us,ut,X,O,hAl⟩:=h
 have hka : Kept w (w.alloc (.cells #[.slice ka ks.length kc] 35)):=qal _
 have hB:=Blk.new w #[.slice ka ks.length kc] 35
 have low:=X.low
 have hag : ∀ a c,Value.slice ka ks.length kc = .slice (some a) ks.length c → 0 < (qAW ks).length → a.block ∉ [gl]:=fun a c e hl hm2=>by
  have:=hA a c e hl
  rw [List.mem_singleton.1 hm2] at this
  exact O.gl this
 go_enter func82,ntmps82
 go_wp2_with fail
 refine (qIz K b gl cap ex vw vt us ut s n m h0 hn hm (isK ks) w.heap.size ka kc ks kl _ (X.kept hka) ok rfl (hB.cell 0) (hks.kept hka) (by simp;omega) hag).mono ?_
 rintro e w2 ⟨rfl,X2,c2⟩
 go_wp2
 go_end0
 have hs2:=(SameOn.of_kept hka).trans (SameOn.of_chg c2 (by intro x hx;simp at hx;rcases hx with rfl | rfl;exact O.gl;exact O.K))
 exact ⟨rfl,⟨gl,cap,ex,_,_,_,_,X2,⟨O.K,O.b,O.gl,(by intro g hg;cases hg),O.vt,by simp,O.ut⟩,fun k ha=>Nat.lt_of_lt_of_le (hAl k ha) hs2.size⟩,hs2⟩
theorem qLp (A : Nat → Prop) (K b : Nat) (s : Sd) (n m : Nat) (h0 : 0 < n) (hn : n ≤ 65536) (hm : m ≤ 100000) (w : World) (h : qFC A w K b s) (ok : s.ok n m) (o : Nat) (v : Value) (bs : List UInt8) (hin : inB n ((o : Int),bs)) (hs : Sl w v bs.length (qA1 bs)) (hA : ∀ a c,v = .slice (some a) bs.length c → 0 < (qA1 bs).length → A a.block) :
 Calls prog 28 #[.pointer (some ⟨K,0,none⟩),.int .i64 o,v] w fun e w'=>e = .returned (.bool true) ∧ qFC A w' K b { s with lasts:=qDp s.snap ((o : Int),bs),waits:=[] } ∧ SameOn A w w':=by
 obtain ⟨a,c,he⟩:=hs.len
 subst he
 obtain ⟨gl,cap,ex,vw,vt,us,ut,X,O,hAl⟩:=h
 have c1 : w.cell? ⟨K,1,none⟩ = some (.slice (some ⟨gl,0,none⟩) n cap):=by have:=X.blk.cell 1;rw [ok.len] at this;exact this
 have hiB:=qO1 hin
 have hsn:=Sd.snap_length ok
 have hcap:=X.hcap
 rw [ok.len] at hcap
 have hmost:=X.most
 go_enter func28,ntmps28
 go_wp2_with fail
 refine (qCk K _ n _ (by omega) o bs.length _ c1).mono ?_
 rintro e w1 ⟨rfl,rfl⟩
 rw [hiB]
 have HIB:=qh hiB
 have HOK:=qh ok
 clear hiB ok
 go_wp2_with fail
 refine (qEb K b gl cap ex vw vt us ut s n m h0 hn hm (fun _=>true) _ X HOK.out rfl).mono ?_
 rintro e w2 ⟨rfl,X2,c2⟩
 rw [qDJ _ _ _ qle,List.take_length] at X2
 have hs2 : SameOn A _ w2:=SameOn.of_chg c2 (by intro x hx;simp at hx;rcases hx with rfl | rfl;exact O.gl;exact O.K)
 obtain ⟨n1,n2,n3,n4,n5,n6,n7⟩:=X2.ne
 have hsl:=hs2.sl hs hA
 have k1 : w2.cell? ⟨K,1,none⟩ = some (.slice (some ⟨gl,0,none⟩) n cap):=by
  have:=X2.blk.cell 1
  rw [show ({ s with lasts:=qBb s.lasts s.waits,waits:=[] } : Sd).lasts.length = n from hsn] at this
  exact this
 obtain ⟨hi0,hi1,hi2⟩:=hin
 have hi1' : o < n:=by simpa using hi1
 have hi2' : o + bs.length ≤ n:=by simpa using hi2
 have HI:=qh (show inB n ((o : Int),bs) from ⟨hi0,hi1,hi2⟩)
 have HSN:=qh hsn
 clear hsn hi0 hi1 hi2
 have m5 : (o : Int) ≤ (n : Int):=by omega
 have m8 : ¬ cap = o:=by omega
 have m9 : ¬ cap - o = 0:=by omega
 have m6 : (n : Int) ≤ (cap : Int):=by omega
 have m7 : (0 : Int) ≤ (o : Int):=by omega
 obtain ⟨w3,hr,hB3,hc3⟩:=qBT (P:=prog) (w:=w2) (dl:=n - o) (dc:=cap - o) (off:=o) sl_bytes 3 X2.lst hsl (qA5 _) (qAB _) (by rw [List.length_append,qA5];show _ ≤ (qBb s.lasts s.waits).length + _;have:=HSN.out;unfold Sd.snap at this;omega)
 go_wp2
 go_ret
 have hl:=qDK (qBb s.lasts s.waits) ex ((o : Int),bs) n HSN.out.symm HI.out
 have hB4 : Blk w3 gl (qA1 (qDp s.snap ((o : Int),bs)) ++ ex).toArray 5:=by
  show Blk w3 gl (qA1 (qDp (qBb s.lasts s.waits) ((o : Int),bs)) ++ ex).toArray _
  rw [← hl]
  exact hB3
 have hlen : (qDp s.snap ((o : Int),bs)).length = n:=by rw [qDq _ _ (by rw [HSN.out];exact HI.out),HSN.out]
 have hs3 : SameOn A w2 w3:=SameOn.of_chg hc3 (by simpa using O.gl)
 refine ⟨rfl,⟨gl,cap,ex,_,_,_,_,⟨?_,hc3.blk X2.pw (by simpa using n2),hB4,?_,X2.most,OpsAt.nil _,X2.trc.chg hc3 (fun g hg=>by simpa using (n5 g hg).2.2) (fun u hu g hg=>by simpa using (n7 u hu g hg).2.2.1),by simp,X2.tne,(by intro g hg;cases hg)⟩,⟨O.K,O.b,O.gl,(by intro g hg;cases hg),O.vt,by simp,O.ut⟩,fun k ha=>Nat.lt_of_lt_of_le (hAl k ha) (hs2.trans hs3).size⟩,hs2.trans hs3⟩
 · have:=hc3.blk X2.blk (by simpa using n3)
   rw [show ({ s with lasts:=qBb s.lasts s.waits,waits:=[] } : Sd).lasts.length = n from HSN.out] at this
   show Blk _ _ #[_,.slice _ (qDp s.snap ((o : Int),bs)).length _,_,_] _
   rw [hlen];exact this
 · show (qDp s.snap ((o : Int),bs)).length + ex.length = cap
   rw [hlen];exact hcap
theorem qJm {w : World} {B n g c : Nat} {bs : List UInt8} (h : w.ownsRow B 5 1 (.slice (some ⟨g,0,none⟩) n c) n (qA1 bs)) : ∃ ex,Blk w g (qA1 bs ++ ex).toArray 5 ∧ n + ex.length = c ∧ bs.length = n ∧ B ≤ g ∧ c ≤ maxLen:=by
 have hl:=h.1
 rw [qA5,Nat.mul_one] at hl
 rcases h.2 with ⟨e,_⟩ | ⟨g',cap',cur,e,hB,hb,h1,h4,h2,h3⟩
 · cases e
 · cases e
   rw [Nat.mul_one] at h2 h3
   refine ⟨cur.toList.drop n,?_,by simp;omega,hl,hB,h4⟩
   rw [← h3,List.take_append_drop]
   exact hb
def Sd.barred (s : Sd) (r : Bool) (p' : Pw) : Sd:=if r then ⟨p',s.snap,[],s.trace ++ [(-1,[])]⟩ else { s with p:=p' }
theorem qIA (A : Nat → Prop) (K b : Nat) (s : Sd) (n m : Nat) (h0 : 0 < n) (hn : n ≤ 65536) (hm : m ≤ 99999) (w : World) (h : qFC A w K b s) (ok : s.ok n m) (r : Bool) (p' : Pw) (hsp : s.p.spend = (r,p')) :
 Calls prog 175 #[.pointer (some ⟨K,0,none⟩)] w fun e w'=>e = .returned (.bool r) ∧ qFC A w' K b (s.barred r p') ∧ SameOn A w w':=by
 obtain ⟨gl,cap,ex,vw,vt,us,ut,X,O,hAl⟩:=h
 have c0:=X.blk.cell 0
 have hok : s.p.ok 9223372036854775806:=qDl ok.pw (by omega)
 go_enter func175,ntmps175
 go_wp2_with fail
 refine (qAz b s.p p' r _ X.pw hok hsp).mono ?_
 rintro e w1 ⟨rfl,p1,g1⟩
 have g1:=Chg.of_grown g1
 have X1:=X.power g1 p1
 have hsm1:=O.same g1
 cases r
 · go_wp2
   go_ret
   exact ⟨rfl,⟨gl,cap,ex,vw,vt,us,ut,X1,O,fun k ha=>Nat.lt_of_lt_of_le (hAl k ha) g1.size⟩,hsm1⟩
 · have hp' : p'.ok (m + 1 : Int):=by have:=qGt ok.pw;rw [hsp] at this;exact this
   have ok1 : ({ s with p:=p' } : Sd).ok n (m + 1):=⟨ok.len,ok.fit,ok.fitp,by have:=ok.few;show s.waits.length ≤ _;omega,by have:=ok.done;show s.trace.length ≤ _;omega,by simpa using hp'⟩
   go_wp2_with fail
   refine (qEb K b gl cap ex vw vt us ut { s with p:=p' } n (m + 1) h0 hn (by omega) (fun _=>true) _ X1 ok1 rfl).mono ?_
   rintro e w2 ⟨rfl,X2,c2⟩
   rw [qDJ _ _ _ qle,List.take_length] at X2
   have hs2 : SameOn A w1 w2:=SameOn.of_chg c2 (by intro x hx;simp at hx;rcases hx with rfl | rfl;exact O.gl;exact O.K)
   obtain ⟨ta,tc,hve⟩:=X2.trc.slice
   subst hve
   have hka : Kept w2 (w2.alloc (.cells #[.int .i64 (-1),.slice none 0 0] 133)):=qal _
   have c3:=X2.blk.cell 3
   have hro:=X2.trc.row.alloc (.cells #[.int .i64 (-1),.slice none 0 0] 133)
   have hft:=ok.done
   have hKv : K ∉ (Value.slice ta s.trace.length tc).ownBlock.toList:=fun h=>((X2.ne).2.2.2.2.1 K (qAp.1 h)).2.1 rfl
   clear c0
   go_wp2_with (at_builtin;refine qAT qG0 rfl (by rfl) (by rfl) (by rfl) hro (Sl.lit _ #[.int .i64 (-1),.slice none 0 0] _ 1 (by decide)) (by rfl) (by intro u hu;simp at hu;rcases hu with rfl | rfl <;> rfl) (by show s.trace.length + 1 ≤ maxLen;unfold maxLen;omega) (by show (s.trace.length + 1) * 32 ≤ 140737488355328;omega) (Nat.zero_le _) ?_;intro v3 w3 hown3 hgr3 hat3 _;obtain ⟨g3,cap3,hve⟩:=qAt hown3 (by omega);subst hve;have ck3:=(Chg.of_kept hka (bs:=(Value.slice ta s.trace.length tc).ownBlock.toList)).trans hgr3.chgL;have hb5:=ck3.blk X2.blk hKv;have fK:=hb5.free 3;have eK:=hb5.cell 3)
   go_ret
   have hz : (w2.alloc (.cells #[.int .i64 (-1),.slice none 0 0] 133)).heap.size = w2.heap.size + 1:=by simp
   have hv3 : ∀ g,(Value.slice (some ⟨g3,0,none⟩) (s.trace.length + 1) cap3).ownBlock = some g → (Value.slice ta s.trace.length tc).ownBlock = some g ∨ w2.heap.size ≤ g:=fun g hg=>by
    rcases hat3 with e | e
    · left;rw [← e];exact hg
    · right
      have h3:=Option.some.inj (hg.symm.trans e)
      omega
   have X3:=SdIn.pushT (x:=(-1,[])) X2 ck3 hown3 (World.ownsRow_nil _ _ _ _) hv3
   have hqK : Chg [K] w3 (w3.setCell ⟨K,3,none⟩ (.slice (some ⟨g3,0,none⟩) (s.trace.length + 1) cap3)):=Chg.step (by simp) _
   have hs3:=(SameOn.of_chg (A:=A) ck3 (fun g hg=>O.vt g (qAp.1 hg))).trans (O.sameK hqK)
   have hall:=(hsm1.trans hs2).trans hs3
   have hA2 : ∀ k,A k → k < w2.heap.size:=fun k ha=>Nat.lt_of_lt_of_le (hAl k ha) (hsm1.trans hs2).size
   have O3:=Off.setT (u6:=.slice none 0 0) (⟨O.K,O.b,O.gl,(by intro g hg;cases hg),O.vt,by simp,O.ut⟩ : Off A K b gl (.slice none 0 0) (.slice ta s.trace.length tc) [] ut) hA2 hv3 (by intro g hg;cases hg)
   exact ⟨rfl,⟨gl,cap,ex,_,_,_,_,X3,O3,fun k ha=>Nat.lt_of_lt_of_le (hAl k ha) hall.size⟩,hall⟩
theorem qN3 (A : Nat → Prop) (K b : Nat) (s : Sd) (n m : Nat) (h0 : 0 < n) (hn : n ≤ 65536) (hm : m ≤ 100000) (w : World) (h : qFC A w K b s) (ok : s.ok n m) (o len : Nat) (hol : o + len ≤ n) (ho : o < n) (hg : s.p.gone = false) :
 Calls prog 101 #[.pointer (some ⟨K,0,none⟩),.int .i64 o,.int .i64 len] w fun e w'=>∃ g c ex,e = .returned (.tuple #[.slice (some ⟨g,o,none⟩) len (c - o),.bool true]) ∧ Blk w' g (qA1 s.snap ++ ex).toArray 5 ∧ n + ex.length = c ∧ w.heap.size ≤ g ∧ c ≤ maxLen ∧ Kept w w':=by
 obtain ⟨gl,cap,ex,vw,vt,us,ut,X,O,hAl⟩:=h
 have hS : qFC A w K b s:=⟨gl,cap,ex,vw,vt,us,ut,X,O,hAl⟩
 have c0:=X.blk.cell 0
 have c1 : w.cell? ⟨K,1,none⟩ = some (.slice (some ⟨gl,0,none⟩) n cap):=by have:=X.blk.cell 1;rw [ok.len] at this;exact this
 have hiB : isB n o len = true:=by simp [isB];omega
 have hpo:=qCs b s.p _ X.pw
 rw [hg] at hpo
 go_enter func101,ntmps101
 go_wp2_with fail
 refine (qCk K _ n _ (by omega) o len _ c1).mono ?_
 rintro e w1 ⟨rfl,rfl⟩
 rw [hiB]
 have HIB:=qh hiB
 clear hiB
 go_wp2_with fail
 refine hpo.mono ?_
 rintro e w1 ⟨rfl,rfl⟩
 go_wp2_with fail
 refine (qJl A K b s n m h0 hn hm _ hS ok).mono ?_
 rintro e w2 ⟨g,c,rfl,hown,hk⟩
 obtain ⟨exb,hB,hc,hsl,hgl,hcm⟩:=qJm hown
 have n1 : (o : Int) ≤ (o : Int) + (len : Int):=by omega
 have n2 : (o : Int) + (len : Int) ≤ (c : Int):=by omega
 have n3 : ¬ c = o:=by omega
 have n4 : ¬ c - o = 0:=by omega
 have n5 : IntKind.i64.wrap ((o : Int) + (len : Int)) = (o : Int) + (len : Int):=IntWalk.i64_in _ (by omega)
 have n6 : (0 : Int) ≤ (o : Int):=by omega
 have n7 : (o : Int) ≤ (c : Int):=by omega
 clear hpo c0 c1
 go_wp2
 go_ret2
 refine ⟨g,c,exb,?_,hB,hc,hgl,hcm,hk⟩
 congr 3;first | omega | (simp;omega) | simp
theorem qN4 (A : Nat → Prop) (K b : Nat) (s : Sd) (n m : Nat) (h0 : 0 < n) (hn : n ≤ 65536) (w : World) (h : qFC A w K b s) (ok : s.ok n m) (v : Value) (bs : List UInt8) (hbs : bs.length = n) (hs : Sl w v bs.length (qA1 bs)) :
 Calls prog 57 #[.pointer (some ⟨K,0,none⟩),v] w fun e w'=>e = .returned (.bool true) ∧ qFC A w' K b { s with lasts:=bs,waits:=[] } ∧ SameOn A w w' ∧ Chg [K] w w':=by
 obtain ⟨a,c,he⟩:=hs.len
 subst he
 obtain ⟨gl,cap,ex,vw,vt,us,ut,X,O,hAl⟩:=h
 have c1 : w.cell? ⟨K,1,none⟩ = some (.slice (some ⟨gl,0,none⟩) n cap):=by have:=X.blk.cell 1;rw [ok.len] at this;exact this
 rw [hbs] at hs ⊢
 have hk0 : Kept w (w.alloc (.cells #[] 5)):=qal _
 have ho : (w.alloc (.cells #[] 5)).ownsRow w.heap.size 5 1 (.slice (some ⟨w.heap.size,0,none⟩) 0 0) 0 (qA1 []):=qC3 0 (by decide) 5 [] rfl (Blk.new _ _ _) qle
 have h2:=hs.kept hk0
 have hlen : (qA1 bs).length = n:=by rw [qA5,hbs]
 go_enter func57,ntmps57
 go_wp2_with fail
 refine (qD7 K _ n _ _ c1).mono ?_
 rintro e w1 ⟨rfl,rfl⟩
 go_wp2_with (at_builtin;refine qAs sl_bytes rfl (by rfl) (by rfl) (by rfl) ho h2 (by rw [hlen,Nat.mul_one]) (qAB bs) (by unfold maxLen;omega) (by omega) (by simp) ?_;intro v3 w3 hown3 hg3 hat3;obtain ⟨g3,cap3,hve⟩:=qAt hown3 (by omega);subst hve;have hk3 : Kept _ w3:=qAx hk0 ho hg3 (by simp);have X3:=X.kept hk3;have e1:=X3.blk.cell 1;have f1:=X3.blk.free 1;have e2:=X3.blk.cell 2;have f2:=X3.blk.free 2)
 go_ret
 obtain ⟨exb,hB,hc3,_,hgl3,hcm⟩:=qJm (n:=n) (bs:=bs) (by simpa [qA1] using hown3)
 obtain ⟨n1,n2,n3,n4,n5,n6,n7⟩:=X3.ne
 have hK3 : K ≠ g3:=qAv X3.blk hB (by decide)
 have hq : Chg [K] w3 ((w3.setCell ⟨K,1,none⟩ (.slice (some ⟨g3,0,none⟩) n cap3)).setCell ⟨K,2,none⟩ (.slice none 0 0)):=((Chg.refl [K] w3).set (by simp) 1 _).set (by simp) 2 _
 have hall : SameOn A w _:=(SameOn.of_kept hk3).trans (O.sameK hq)
 refine ⟨rfl,⟨g3,cap3,exb,_,_,_,_,⟨?_,hq.blk X3.pw (by simpa using n1),hq.blk hB (by simpa using hK3.symm),?_,hcm,OpsAt.nil _,X3.trc.chg hq (fun g hg=>by simpa using (n5 g hg).2.1) (fun u hu g hg=>by simpa using (n7 u hu g hg).2.1),by simp,fun u hu e=>?_,(by intro g hg;cases hg)⟩,⟨O.K,O.b,fun ha=>by have:=hAl _ ha;omega,(by intro g hg;cases hg),O.vt,by simp,O.ut⟩,fun k ha=>Nat.lt_of_lt_of_le (hAl k ha) hall.size⟩,hall,(Chg.of_kept hk3).trans hq⟩
 · have:=(X3.blk.set 1 (.slice (some ⟨g3,0,none⟩) n cap3)).set 2 (.slice none 0 0)
   show Blk _ _ #[_,.slice _ bs.length _,_,_] _
   rw [hbs]
   simpa using this
 · show bs.length + exb.length = cap3
   rw [hbs];exact hc3
 · obtain ⟨cc,hcc⟩:=X.trc.blk hu e
   have:=hcc.lt
   omega
def isD (i : Int) : Bool:=decide (0 ≤ i) && decide (i < 32)
theorem qIB (K : Nat) (i : Int) (w : World) : Calls prog 156 #[.pointer (some ⟨K,0,none⟩),.int .i64 i] w fun e w'=>e = .returned (.bool (isD i)) ∧ w = w':=by
 by_cases h1 : 0 ≤ i
 · by_cases h2 : i < 32
   · rw [show isD i = true by simp [isD];omega]
     go_enter func156,ntmps156
     go_wp2
     go_ret
     exact ⟨rfl,rfl⟩
   · rw [show isD i = false by simp [isD];omega]
     go_enter func156,ntmps156
     go_wp2
     go_ret
     exact ⟨rfl,rfl⟩
 · rw [show isD i = false by simp [isD];omega]
   go_enter func156,ntmps156
   go_wp2
   go_ret
   exact ⟨rfl,rfl⟩
theorem qJn (b : Nat) (p : Pw) (A : Nat → Prop) (w : World) (hA : ∀ k,A k → k < w.heap.size) (hb : ¬ A b) (hp : qCr w b p) : Calls prog 39 #[.pointer (some ⟨b,0,none⟩)] w fun e w'=>∃ K,e = .returned (.pointer (some ⟨K,0,none⟩)) ∧ qI5 A w' K b ⟨p,List.replicate 32 (List.replicate 32 0),[],[],false⟩ ∧ Kept w w':=by
 obtain ⟨Z,hZ⟩ : ∃ Z,Z = List.replicate 32 (0 : UInt8):=⟨_,rfl⟩
 have hmk : ∀ w : World,(Instr.makeSlice 32 (.int .i64 32) (.int .i64 32)).run prog w = .ok (.slice (some ⟨w.heap.size,0,none⟩) 32 32) (w.alloc (.cells (qA1 Z).toArray 5)):=fun w=>by rw [hZ];exact qBy (P:=prog) w sl_bytes .i64 .i64 32 (by omega)
 have hzl : Z.length = 32:=by rw [hZ];simp
 rw [← hZ]
 have HZL:=qh hzl
 clear hZ hzl
 have hB0:=Blk.new w (qB0 b (List.replicate 32 (.slice none 0 0)) (.slice none 0 0) (.slice none 0 0) false) 137
 have hk0 : Kept w (w.alloc (.cells (qB0 b (List.replicate 32 (.slice none 0 0)) (.slice none 0 0) (.slice none 0 0) false) 137)):=qal _
 go_enter func39,ntmps39
 go_wp2_with fail
 go_loopw [8,4] (fun i _ wr=>∃ k : Nat,k ≤ 32 ∧ i = .int .i64 k ∧ ∃ ls : List Value,ls.length = 32 ∧ Blk wr w.heap.size (qB0 b ls (.slice none 0 0) (.slice none 0 0) false) 137 ∧ Kept w wr ∧ (∀ j,j < k → ∃ u,ls[j]? = some u ∧ wr.ownsRow w.heap.size 5 1 u 32 (qA1 Z))) (fun i _ _=>32 - (intOf i).toNat)
 case atStart=>exact ⟨0,by omega,rfl,List.replicate 32 (.slice none 0 0),by simp,hB0,hk0,fun j h=>absurd h (by omega)⟩
 case round =>
  obtain ⟨k,hk,rfl,ls,hl,hB,hkr,hz⟩:=hrel
  clear hB0 hk0
  by_cases hlt : k < 32
  · have n1 : (k : Int) < 32:=by omega
    have n2 : (0 : Int) ≤ (k : Int):=by omega
    have HLN:=qh hl
    have hzr:=hkr.size
    go_wp2_with fail
    refine qDd (w.heap.size) [(0,0),(1,0),(3,0),(4,0),(2,1),(5,0),(6,1)] (by kernel_rfl) (by kernel_rfl) ?_
    intro w2 hw2
    repeat
     refine qA0 _ rfl (fun K hK=>?_)
     first
      | (refine qqP (by rfl) ?_;apply Exists.intro;refine ⟨fun w' hw'=>?_,hK _ ?_⟩;go_simp;first|done|rfl)
      | refine qqN (by rfl) (hK _ ?_)
     clear hK K;simp only [Act.put,qqB]
    refine qqH _ rfl (by rfl) (fun K hK=>?_)
    have hs2 : w.heap.size ≤ w2.heap.size:=Nat.le_trans hzr hw2.size
    go_wp2
    refine hK _ _ ((Below.refl _ w2).alloc hs2 _) ?_
    clear hK K
    try simp only [Act.put,qqB]
    repeat
     refine qA0 _ rfl (fun K hK=>?_)
     first
      | (refine qqP (by rfl) ?_;apply Exists.intro;refine ⟨fun w' hw'=>?_,hK _ ?_⟩;go_simp;first|done|rfl)
      | refine qqN (by rfl) (hK _ ?_)
     clear hK K;simp only [Act.put,qqB]
    refine qqH _ rfl (by rfl) (fun K hK=>?_)
    have bb:=(hB.kept hw2).alloc (.cells (qA1 Z).toArray 5)
    have ff:=bb.free (1 + k)
    obtain ⟨cv,cc⟩ : ∃ cv,(w2.alloc (.cells (qA1 Z).toArray 5)).cell? ⟨w.heap.size,1 + k,none⟩ = some cv:=by
     rw [bb.cell (1 + k),qDM hl k (by omega)]
     exact ⟨_,List.getElem?_eq_getElem (by omega)⟩
    go_wp2
    refine hK _ _ (Below.setCell (p:=⟨w.heap.size,1 + k,none⟩) (Below.refl _ _) qle _) ?_
    clear hK K
    try simp only [Act.put,qqB]
    refine qA6 ?_
    have hs3 : (w2.alloc (.cells (qA1 Z).toArray 5)).heap.size = w2.heap.size + 1:=by simp
    have hka : Kept w2 (w2.alloc (.cells (qA1 Z).toArray 5)):=(Below.refl _ w2).alloc qle _
    have hcb : Chg [w.heap.size] (w2.alloc (.cells (qA1 Z).toArray 5)) ((w2.alloc (.cells (qA1 Z).toArray 5)).setCell ⟨w.heap.size,1 + k,none⟩ (.slice (some ⟨w2.heap.size,0,none⟩) 32 32)):=Chg.step (by simp) _
    have hown : (w2.alloc (.cells (qA1 Z).toArray 5)).ownsRow w.heap.size 5 1 (.slice (some ⟨w2.heap.size,0,none⟩) 32 32) 32 (qA1 Z):=qC3 32 (by decide) _ _ HZL.out (Blk.new _ _ _) hs2
    have bn:=bb.set (1 + k) (.slice (some ⟨w2.heap.size,0,none⟩) 32 32)
    rw [qLk HLN.out k hlt] at bn
    go_wp2
    refine ⟨⟨k + 1,by omega,by go_num,ls.set k (.slice (some ⟨w2.heap.size,0,none⟩) 32 32),by simp [HLN.out],bn,(hkr.of (hw2.of hka)).trans (Below.setCell (p:=⟨w.heap.size,1 + k,none⟩) (Below.refl _ _) qle _),fun j hj=>?_⟩,by simp [intOf];omega⟩
    by_cases hjk : j = k
    · subst hjk
      exact ⟨_,by rw [List.getElem?_set_self (by rw [HLN.out];omega)],qAq hown hcb bb (by decide)⟩
    · obtain ⟨u,e1,e2⟩:=hz j (by omega)
      exact ⟨u,by rw [List.getElem?_set_ne (by omega)];exact e1,qAq (qA4 (qA4 e2 hw2) hka) hcb bb (by decide)⟩
  · have hkk : k = 32:=by omega
    have HK:=qh hkk
    clear hkk
    go_wp2
    go_ret
    refine ⟨_,rfl,⟨ls,.slice none 0 0,.slice none 0 0,[],[],⟨hB,Blk.kept hp hkr,⟨by simp [hl],fun i x u hx hu=>?_⟩,OpsAt.nil _,OpsAt.nil _,fun g hg=>by cases hg⟩,⟨fun ha=>?_,hb,fun u hu g hg ha=>?_,(fun g hg=>by cases hg),(fun g hg=>by cases hg),(by simp),(by simp)⟩,fun k ha=>Nat.lt_of_lt_of_le (hA k ha) hkr.size⟩,hkr⟩
    · have hi:=(List.getElem?_eq_some_iff.1 hu).1
      obtain ⟨u',e1,e2⟩:=hz i (by have:=HK.out;omega)
      rw [hu] at e1
      cases e1
      have hx' : x = Z:=by
       rw [List.getElem?_replicate] at hx
       split at hx
       · exact (Option.some.inj hx).symm
       · cases hx
      rw [hx',HZL.out]
      exact qAd e2 (Nat.zero_le _)
    · have:=hA _ ha
      omega
    · obtain ⟨i,hi⟩:=List.getElem?_of_mem hu
      have hi':=(List.getElem?_eq_some_iff.1 hi).1
      obtain ⟨u',e1,e2⟩:=hz i (by have:=HK.out;omega)
      rw [hi] at e1
      cases e1
      have:=qAC e2 hg
      have:=hA _ ha
      omega
theorem qFE (A : Nat → Prop) (K b : Nat) (d : Dk) (m : Nat) (w : World) (h : qI5 A w K b d) (ok : d.ok m) (off : Int) (a : Option Addr) (L c : Nat) (hL : L ≤ 1000000) (hn : isD off = true) (hl : L = 32) (hr : d.no = true) : Calls prog 148 #[.pointer (some ⟨K,0,none⟩),.int .i64 off,.slice a L c] w fun e w'=>e = .returned (.bool false) ∧ w = w':=by
 obtain ⟨ls,vw,vt,us,ut,X,O,hA⟩:=h
 have hll : ls.length = 32:=by rw [X.lst.len,ok.len]
 have c4:=X.blk.cell 35
 rw [qF0 hll] at c4
 subst hl
 rw [hr] at c4
 clear hll
 go_enter func148,ntmps148
 go_wp2_with fail
 refine (qIB K off _).mono ?_
 rintro e w1 ⟨rfl,rfl⟩
 rw [hn]
 go_wp2
 go_ret
 exact ⟨rfl,rfl⟩
def Dk.wrote (d : Dk) (r : Bool) (p' : Pw) (x : Wr) : Dk:=if r then ⟨p',d.lasts,d.waits ++ [x],d.trace ++ [x],d.no⟩ else { d with p:=p' }
theorem qKb (A : Nat → Prop) (K b : Nat) (d : Dk) (m : Nat) (hm : m ≤ 100000) (w : World) (h : qI5 A w K b d) (ok : d.ok m) (hno : d.no = false) (off : Int) (u : Value) (bs : List UInt8) (hn : isD off = true) (hl : bs.length = 32) (hs : Sl w u bs.length (qA1 bs)) (hu : ∀ a c,u = .slice (some a) bs.length c → 0 < (qA1 bs).length → A a.block) (r : Bool) (p' : Pw) (hsp : d.p.spend = (r,p')) :
 Calls prog 148 #[.pointer (some ⟨K,0,none⟩),.int .i64 off,u] w fun e w'=>e = .returned (.bool r) ∧ qI5 A w' K b (d.wrote r p' (off,bs)) ∧ SameOn A w w':=by
 obtain ⟨a,c,he⟩:=hs.len
 subst he
 obtain ⟨ls,vw,vt,us,ut,X,O,hA⟩:=h
 have hll : ls.length = 32:=by rw [X.lst.len,ok.len]
 have c4:=X.blk.cell 35
 rw [qF0 hll,hno] at c4
 have c0:=X.blk.cell 0
 rw [qGx] at c0
 have hbl : bs.length ≤ 65536:=by omega
 have i2 : (bs.length : Int) = 32:=by omega
 have i1 : ((bs.length : Int) == 32) = true:=by simp;omega
 have i3 : ((bs.length : Int) != 32) = false:=by simp;omega
 have hok : d.p.ok 9223372036854775806:=qDl ok.pw (by omega)
 have HLL:=qh hll
 have HL:=qh hl
 have HI:=qh i2
 clear hl i2 hll
 go_enter func148,ntmps148
 go_wp2_with fail
 refine (qIB K off _).mono ?_
 rintro e w1 ⟨rfl,rfl⟩
 rw [hn]
 go_wp2_with fail
 refine (qAz b d.p p' r _ X.pw hok hsp).mono ?_
 rintro e w1 ⟨rfl,p1,g1⟩
 have g1:=Chg.of_grown g1
 have X1:=X.power g1 p1
 have hs1:=(O.same g1).sl hs hu
 have hsm1:=O.same g1
 cases r
 · go_wp2
   go_ret
   exact ⟨rfl,⟨ls,vw,vt,us,ut,X1,O,fun k ha=>Nat.lt_of_lt_of_le (hA k ha) g1.size⟩,hsm1⟩
 · obtain ⟨wa,wc,hve⟩:=X1.wts.slice
   subst hve
   obtain ⟨ta,tc,hve⟩:=X1.trc.slice
   subst hve
   have hfw:=ok.few
   have hft:=ok.done
   have hll:=HLL.out
   have hsl:=hs1
   clear c0 c4 i1 i3
   go_wp2_with fail
   have hKv : K ∉ (Value.slice wa d.waits.length wc).ownBlock.toList:=qBz X1.wts.row X1.blk (by decide)
   have hKc : w1.cell? ⟨K,33,none⟩ = some (Value.slice wa d.waits.length wc):=by
    have:=X1.blk.cell 33
    rwa [qBX hll] at this
   have hlw : ∀ g,(Value.slice wa d.waits.length wc).ownBlock = some g → g < w1.heap.size:=fun g hg=>qAi X1.wts.row hg
   refine qA9 ((Value.slice wa d.waits.length wc).ownBlock.toList) [(0,0),(1,0),(2,0),(3,0),(4,0),(5,0),(6,0),(7,1),(8,0),(9,1),(10,1),(11,2),(12,2),(13,2)] (by kernel_rfl) (by kernel_rfl) ?_
   intro wp1 hwp1
   repeat
    refine qA0 _ rfl (fun K hK=>?_)
    first
     | (refine qqP (by rfl) ?_;apply Exists.intro;refine ⟨fun w' hw'=>?_,hK _ ?_⟩;(have kc:=hw'.cell (hwp1.at hKc) hKv;go_simp;first|done|rfl))
     | refine qqN (by rfl) (hK _ ?_)
    clear hK K;simp only [Act.put,qqB]
   refine qqH _ rfl (by rfl) (fun K hK=>?_)
   go_wp2_with fail
   refine (qAN _ bs (by omega) _ (hsl.kept hwp1)).mono ?_
   rintro e wp2 ⟨vp,rfl,hop,hkp2⟩
   obtain ⟨ap,cp,hve⟩:=(Sl.of_own hop).len
   subst hve
   go_wp2
   refine hK _ _ (Chg.of_kept hkp2) ?_
   clear hK K
   try simp only [Act.put,qqB]
   repeat
    refine qA0 _ rfl (fun K hK=>?_)
    first
     | (refine qqP (by rfl) ?_;apply Exists.intro;refine ⟨fun w' hw'=>?_,hK _ ?_⟩;go_simp;first|done|rfl)
     | refine qqN (by rfl) (hK _ ?_)
    clear hK K;simp only [Act.put,qqB]
   refine qqH _ rfl (by rfl) (fun K hK=>?_)
   go_wp2
   refine hK _ _ (Chg.of_kept (qal _)) ?_
   clear hK K
   try simp only [Act.put,qqB]
   refine qqH _ rfl (by rfl) (fun K hK=>?_)
   have hro:=(qA4 (qA4 X1.wts.row hwp1) hkp2).alloc (.cells #[.int .i64 off,.slice ap bs.length cp] 133)
   refine qBj qG0 (by rfl) (by rfl) (by rfl) hro (Sl.lit _ #[.int .i64 off,.slice ap bs.length cp] _ 1 (by decide)) (by rfl) (by intro u hu;simp at hu;rcases hu with rfl | rfl <;> rfl) (by show d.waits.length + 1 ≤ maxLen;unfold maxLen;omega) (by show (d.waits.length + 1) * 32 ≤ 140737488355328;omega) (Nat.zero_le _) ?_
   intro vp wp3 hownp hgrp hatp _
   obtain ⟨gp,capp,hve⟩:=qAt hownp (by omega)
   subst hve
   have hobp:=qA4 hop ((qal (.cells #[.int .i64 off,.slice ap bs.length cp] 133)) : Kept wp2 _)
   have ckp : Chg (Value.slice wa d.waits.length wc).ownBlock.toList w1 wp3:=(Chg.of_kept (Kept.of hwp1 hkp2)).trans ((Chg.of_kept (qal _)).trans hgrp.chgL)
   refine hK _ _ (hgrp.chgL) ?_
   clear hK K
   try simp only [Act.put,qqB]
   refine qAc _ rfl (fun K hK=>?_)
   refine qqP (by rfl) ?_
   go_wp2
   refine qAc _ rfl (fun K hK=>?_)
   refine qqP (by rfl) ?_
   go_wp2
   refine qAc _ rfl (fun K hK=>?_)
   refine qqP (by rfl) ?_
   have hb5:=ckp.blk X1.blk hKv
   have fK:=hb5.free 33
   have eK:=hb5.cell 33
   rw [qBX hll] at eK
   go_wp2
   refine qA6 ?_
   have hz1:=hwp1.size
   have hz2:=hkp2.size
   have hbg : ∀ g,(Value.slice ap bs.length cp).ownBlock = some g → w1.heap.size ≤ g:=fun g hg=>Nat.le_trans hz1 (qAC hop hg)
   have hu6:=qAd (qAA hobp hgrp.chgL fun g hg hm=>by
    have:=hbg g hg
    have:=hlw g (qAp.1 hm)
    omega) hz1
   have hv6 : ∀ g,(Value.slice (some ⟨gp,0,none⟩) (d.waits.length + 1) capp).ownBlock = some g → (Value.slice wa d.waits.length wc).ownBlock = some g ∨ w1.heap.size ≤ g:=fun g hg=>by
    rcases hatp with e | e
    · left;rw [← e];exact hg
    · right
      have h2 : some g = some ((wp2.alloc (.cells #[.int .i64 off,.slice ap bs.length cp] 133)).heap.size):=hg.symm.trans e
      have h3:=Option.some.inj h2
      have : (wp2.alloc (.cells #[.int .i64 off,.slice ap bs.length cp] 133)).heap.size = wp2.heap.size + 1:=by simp
      omega
   have X3:=DkIn.pushW (x:=(off,bs)) X1 hll ckp hownp hu6 hv6
   have hqK : Chg [K] wp3 (wp3.setCell ⟨K,33,none⟩ (.slice (some ⟨gp,0,none⟩) (d.waits.length + 1) capp)):=Chg.step (by simp) _
   have hst:=(O.sameW ckp).trans (O.sameK hqK)
   have hA1 : ∀ k,A k → k < w1.heap.size:=fun k ha=>by
    have:=hA k ha;have:=g1.size;omega
   have O2:=O.setW hA1 hv6 hbg
   replace hsl:=hst.sl hsl hu
   have hsz2:=hst.size
   replace hst:=hsm1.trans hst
   have hbnd : bs.length ≤ 65536:=hbl
   clear hqK ckp hu6 hv6 hbg hownp hatp hgrp hobp hop hkp2 hwp1 hz1 hz2 hKc hlw hKv fK eK hb5
   go_wp2_with fail
   generalize (wp3.setCell ⟨K,33,none⟩ (.slice (some ⟨gp,0,none⟩) (d.waits.length + 1) capp)) = w4 at *
   have hst0:=hst
   have hKv : K ∉ (Value.slice ta d.trace.length tc).ownBlock.toList:=qBz X3.trc.row X3.blk (by decide)
   have hKc : w4.cell? ⟨K,34,none⟩ = some (Value.slice ta d.trace.length tc):=by
    have:=X3.blk.cell 34
    rwa [qDL hll] at this
   have hlw : ∀ g,(Value.slice ta d.trace.length tc).ownBlock = some g → g < w4.heap.size:=fun g hg=>qAi X3.trc.row hg
   refine qA9 ((Value.slice ta d.trace.length tc).ownBlock.toList) [(0,0),(1,0),(2,0),(3,0),(4,0),(5,0),(6,0),(7,1),(8,0),(9,1),(10,1),(11,2),(12,2),(13,2)] (by kernel_rfl) (by kernel_rfl) ?_
   intro wq1 hwq1
   repeat
    refine qA0 _ rfl (fun K hK=>?_)
    first
     | (refine qqP (by rfl) ?_;apply Exists.intro;refine ⟨fun w' hw'=>?_,hK _ ?_⟩;(have kc:=hw'.cell (hwq1.at hKc) hKv;go_simp;first|done|rfl))
     | refine qqN (by rfl) (hK _ ?_)
    clear hK K;simp only [Act.put,qqB]
   refine qqH _ rfl (by rfl) (fun K hK=>?_)
   go_wp2_with fail
   refine (qAN _ bs (by omega) _ (hsl.kept hwq1)).mono ?_
   rintro e wq2 ⟨vq,rfl,hoq,hkq2⟩
   obtain ⟨aq,cq,hve⟩:=(Sl.of_own hoq).len
   subst hve
   go_wp2
   refine hK _ _ (Chg.of_kept hkq2) ?_
   clear hK K
   try simp only [Act.put,qqB]
   repeat
    refine qA0 _ rfl (fun K hK=>?_)
    first
     | (refine qqP (by rfl) ?_;apply Exists.intro;refine ⟨fun w' hw'=>?_,hK _ ?_⟩;go_simp;first|done|rfl)
     | refine qqN (by rfl) (hK _ ?_)
    clear hK K;simp only [Act.put,qqB]
   refine qqH _ rfl (by rfl) (fun K hK=>?_)
   go_wp2
   refine hK _ _ (Chg.of_kept (qal _)) ?_
   clear hK K
   try simp only [Act.put,qqB]
   refine qqH _ rfl (by rfl) (fun K hK=>?_)
   have hro:=(qA4 (qA4 X3.trc.row hwq1) hkq2).alloc (.cells #[.int .i64 off,.slice aq bs.length cq] 133)
   refine qBj qG0 (by rfl) (by rfl) (by rfl) hro (Sl.lit _ #[.int .i64 off,.slice aq bs.length cq] _ 1 (by decide)) (by rfl) (by intro u hu;simp at hu;rcases hu with rfl | rfl <;> rfl) (by show d.trace.length + 1 ≤ maxLen;unfold maxLen;omega) (by show (d.trace.length + 1) * 32 ≤ 140737488355328;omega) (Nat.zero_le _) ?_
   intro vq wq3 hownq hgrq hatq _
   obtain ⟨gq,capq,hve⟩:=qAt hownq (by omega)
   subst hve
   have hobq:=qA4 hoq ((qal (.cells #[.int .i64 off,.slice aq bs.length cq] 133)) : Kept wq2 _)
   have ckq : Chg (Value.slice ta d.trace.length tc).ownBlock.toList w4 wq3:=(Chg.of_kept (Kept.of hwq1 hkq2)).trans ((Chg.of_kept (qal _)).trans hgrq.chgL)
   refine hK _ _ (hgrq.chgL) ?_
   clear hK K
   try simp only [Act.put,qqB]
   refine qAc _ rfl (fun K hK=>?_)
   refine qqP (by rfl) ?_
   go_wp2
   refine qAc _ rfl (fun K hK=>?_)
   refine qqP (by rfl) ?_
   go_wp2
   refine qAc _ rfl (fun K hK=>?_)
   refine qqP (by rfl) ?_
   have hb5:=ckq.blk X3.blk hKv
   have fK:=hb5.free 34
   have eK:=hb5.cell 34
   rw [qDL hll] at eK
   go_wp2
   refine qA6 ?_
   have hz1:=hwq1.size
   have hz2:=hkq2.size
   have hbg : ∀ g,(Value.slice aq bs.length cq).ownBlock = some g → w4.heap.size ≤ g:=fun g hg=>Nat.le_trans hz1 (qAC hoq hg)
   have hu6:=qAd (qAA hobq hgrq.chgL fun g hg hm=>by
    have:=hbg g hg
    have:=hlw g (qAp.1 hm)
    omega) hz1
   have hv6 : ∀ g,(Value.slice (some ⟨gq,0,none⟩) (d.trace.length + 1) capq).ownBlock = some g → (Value.slice ta d.trace.length tc).ownBlock = some g ∨ w4.heap.size ≤ g:=fun g hg=>by
    rcases hatq with e | e
    · left;rw [← e];exact hg
    · right
      have h2 : some g = some ((wq2.alloc (.cells #[.int .i64 off,.slice aq bs.length cq] 133)).heap.size):=hg.symm.trans e
      have h3:=Option.some.inj h2
      have : (wq2.alloc (.cells #[.int .i64 off,.slice aq bs.length cq] 133)).heap.size = wq2.heap.size + 1:=by simp
      omega
   have X4:=DkIn.pushT (x:=(off,bs)) X3 hll ckq hownq (qAd hu6 (Nat.zero_le _)) hv6
   have hqK : Chg [K] wq3 (wq3.setCell ⟨K,34,none⟩ (.slice (some ⟨gq,0,none⟩) (d.trace.length + 1) capq)):=Chg.step (by simp) _
   have hst:=(O.sameT ckq).trans (O.sameK hqK)
   have hA4 : ∀ k,A k → k < w4.heap.size:=fun k ha=>by
    have:=hA1 k ha;omega
   have O4:=O2.setT hA4 hv6 hbg
   go_wp2
   go_ret
   exact ⟨rfl,⟨ls,_,_,_,_,X4,O4,fun k ha=>Nat.lt_of_lt_of_le (hA4 k ha) hst.size⟩,hst0.trans hst⟩
end Go.Proofs.YtdlgihbpiakebaaGreat
namespace Go.Proofs.YtdlgihbpiakebaaGreat
open Go Go.RowKit Go.ChangeShapes Go.WideShapes Go.ChangeAt Go.Deep
section
variable {H : Type} {enc : TypeId × Value → H} {P : Program} {w : World} {base : Nat} {spare : Nat → Bool} {held : Bool} {r : Reach} {b0 : Nat}
def isT : Option Value → Bool
 | some (.bool b)=>b
 | _=>false
theorem qN5 {w : World} {a : Addr} {n cap : Nat} (hn : n ≤ cap) (hm : cap ≤ maxLen) (h : ∀ i,i < n → ∃ m,w.cell? (a.add i) = some (.bool m)) : ∃ ks : List Bool,Sl w (.slice (some a) n cap) ks.length (qAW ks) ∧ ks.length = n:=by
 refine ⟨(List.range n).map fun i=>isT (w.cell? (a.add i)),.inr ⟨a,cap,by simp,by simpa using hn,hm,fun j u hj=>?_⟩,by simp⟩
 have hjl:=(List.getElem?_eq_some_iff.1 hj).1
 simp only [qCy,List.length_map,List.length_range] at hjl
 obtain ⟨m,hc⟩:=h j hjl
 have : u = .bool (isT (w.cell? (a.add j))):=by
  simp [qAW,hjl] at hj
  rw [← hj]
 rw [this,hc];rfl
end
end Go.Proofs.YtdlgihbpiakebaaGreat
namespace Go.Proofs.YtdlgihbpiakebaaGreat
open Go Go.RowKit Tryz
def qEG (b : List (List UInt8)) (l : List Wr) (is : Nat → Bool) : Nat → List (List UInt8)
 | 0=>b
 | k + 1=>if is k then (qEG b l is k).set (l[k]?.getD (0,[])).1.toNat (l[k]?.getD (0,[])).2 else qEG b l is k
theorem qCz (b : List (List UInt8)) (l : List Wr) (is : Nat → Bool) : ∀ k,(qEG b l is k).length = b.length
 | 0=>rfl
 | k + 1=>by
  unfold qEG
  split
  · rw [List.length_set,qCz b l is k]
  · exact qCz b l is k
theorem qGy (b : List (List UInt8)) (l : List Wr) (is : Nat → Bool) (hb : ∀ x ∈ b,x.length = 32) (hl : ∀ x ∈ l,inD x) : ∀ k,k ≤ l.length → ∀ x ∈ qEG b l is k,x.length = 32
 | 0,_=>hb
 | k + 1,hk=>by
  unfold qEG
  split
  · intro x hx
    rcases List.mem_or_eq_of_mem_set hx with h | h
    · exact qGy b l is hb hl k (by omega) x h
    · rw [h,List.getElem?_eq_getElem (by omega)]
      exact (hl _ (List.getElem_mem (by omega))).2.2
  · exact qGy b l is hb hl k (by omega)
def Dk.settled (d : Dk) (is : Nat → Bool) : Dk:={ d with lasts:=qEG d.lasts d.waits is d.waits.length,waits:=[] }
theorem Dk.settled_ok {d : Dk} {m : Nat} (h : d.ok m) (is : Nat → Bool) : (d.settled is).ok m :=
 ⟨(qCz _ _ _ _).trans h.len,qGy _ _ _ h.all h.fit _ qle,by simp [Dk.settled],h.fitp,by simp [Dk.settled],h.done,h.pw⟩
def Dk.barred (d : Dk) (r : Bool) (p' : Pw) : Dk:=if r then { ({ d with p:=p' } : Dk).settled (fun _=>true) with trace:=d.trace ++ [(-1,[])] } else { d with p:=p' }
theorem qHo (A : Nat → Prop) (J b : Nat) (d0 : Dk) (m : Nat) (hm : m ≤ 99999) (w : World) (h : qI5 A w J b d0) (ok0 : d0.ok m) (r : Bool) (p' : Pw) (hsp : d0.p.spend = (r,p')) :
 Calls prog 112 #[.pointer (some ⟨J,0,none⟩)] w fun e w'=>e = .returned (.bool r) ∧ qI5 A w' J b (d0.barred r p') ∧ SameOn A w w':=by
 obtain ⟨ls,vw,vt,us,ut,X,O,hA0⟩:=h
 have c0:=X.blk.cell 0
 rw [qGx] at c0
 have hok : d0.p.ok 9223372036854775806:=qDl ok0.pw (by omega)
 go_enter func112,ntmps112
 go_wp2_with fail
 refine (qAz b d0.p p' r _ X.pw hok hsp).mono ?_
 rintro e w1 ⟨rfl,p1,g1⟩
 have g1:=Chg.of_grown g1
 have X1:=X.power g1 p1
 have hsm1:=O.same g1
 have hA : ∀ k,A k → k < w1.heap.size:=fun k ha=>Nat.lt_of_lt_of_le (hA0 k ha) g1.size
 cases r
 · go_wp2
   go_ret
   exact ⟨rfl,⟨ls,vw,vt,us,ut,X1,O,hA⟩,hsm1⟩
 have hp' : p'.ok (m + 1 : Int):=by have:=qGt ok0.pw;rw [hsp] at this;exact this
 obtain ⟨d,hd⟩ : ∃ d : Dk,d = { d0 with p:=p' }:=⟨_,rfl⟩
 have ok : d.ok (m + 1):=by rw [hd];exact ⟨ok0.len,ok0.all,ok0.fit,ok0.fitp,by have:=ok0.few;show d0.waits.length ≤ _;omega,by have:=ok0.done;show d0.trace.length ≤ _;omega,by simpa using hp'⟩
 have hres : d0.barred true p' = { d.settled (fun _=>true) with trace:=d.trace ++ [(-1,[])] }:=by rw [hd];rfl
 have HRES:=qh hres
 rw [← hd] at X1
 clear hres hd c0 X p1 hp' ok0 hok
 obtain ⟨wa,wc,hve⟩:=X1.wts.slice
 subst hve
 have hll : ls.length = 32:=by rw [X1.lst.len,ok.len]
 have c33:=X1.blk.cell 33
 rw [qBX hll] at c33
 have HF:=qh ok.fit
 have hfew:=ok.few
 have hft:=ok.done
 obtain ⟨N,hN⟩ : ∃ N,N = d.waits.length:=⟨_,rfl⟩
 rw [← hN] at hfew c33
 have HN:=qh hN
 clear hN
 go_wp2_with fail
 go_loopw [20,4] (fun i _ wr=>∃ k : Nat,k ≤ N ∧ i = .int .i64 k ∧ ∃ ls',ls'.length = 32 ∧ DkIn wr J b ls' (.slice wa d.waits.length wc) vt us ut { d with lasts:=qEG d.lasts d.waits (fun _=>true) k } ∧ OffD A J b ls' (.slice wa d.waits.length wc) vt us ut ∧ SameOn A w1 wr) (fun i _ _=>N - (intOf i).toNat)
 case atStart=>exact ⟨0,by omega,by go_num,ls,hll,X1,O,SameOn.refl _⟩
 case round =>
  obtain ⟨k,hk,rfl,ls',hls,Xr,Or,hsr⟩:=hrel
  clear X1 c33
  have HLS:=qh hls
  clear hls
  by_cases hlt : k < N
  · have hkl : k < d.waits.length:=by rw [← HN.out];exact hlt
    have n3 : (k : Int) < (N : Int):=by omega
    have n4 : (0 : Int) ≤ (k : Int):=by omega
    obtain ⟨g,cap2,u,hve,hui,d0,d1,hsu⟩:=Xr.wts.get k hkl
    cases hve
    have huo : wr.ownsRow 0 5 1 u d.waits[k].2.length (qA1 d.waits[k].2):=Xr.wts.each k _ u (List.getElem?_eq_getElem hkl) hui
    have hun : ∀ g,u.ownBlock = some g → ¬ A g:=Or.us u (List.mem_of_getElem? hui)
    have hfx : inD d.waits[k]:=HF.out _ (List.getElem_mem hkl)
    have hxg : d.waits[k]?.getD (0,[]) = d.waits[k]:=by rw [List.getElem?_eq_getElem hkl];rfl
    replace d0 : wr.cell? ⟨g,k * 2,none⟩ = some (.int .i64 d.waits[k].1):=d0
    generalize d.waits[k] = x at *
    obtain ⟨hx0,hx1,hx2⟩:=hfx
    obtain ⟨o,ho⟩ : ∃ o : Nat,o = x.1.toNat:=⟨_,rfl⟩
    have hxo : x.1 = (o : Int):=by omega
    rw [← ho] at hx1
    rw [hxo] at d0
    obtain ⟨au,cu,hve⟩:=hsu.len
    subst hve
    have n5 : (o : Int) < 32:=by omega
    have n7 : (0 : Int) ≤ (o : Int):=by omega
    have HO:=qh ho
    have HXG:=qh hxg
    have HXO:=qh hxo
    have HX2:=qh hx2
    have hka : Kept wr (wr.alloc (.cells #[.int .i64 (o : Int),.slice au x.2.length cu] 133)):=qal _
    have hbx:=Blk.new wr #[.int .i64 (o : Int),.slice au x.2.length cu] 133
    have hbn : wr.heap.size ∉ [J]:=by have:=Xr.low.1;simp;omega
    replace Xr:=Xr.kept hka
    replace huo:=qA4 huo hka
    replace hsr:=hsr.trans (SameOn.of_kept hka)
    clear ho hxg hxo hx2 hsu
    go_wp2_with fail
    generalize (wr.alloc (.cells #[.int .i64 (o : Int),.slice au x.2.length cu] 133)) = wx at *
    refine qA9 [J] [(0,0),(1,0),(2,0),(3,0),(4,0),(5,0),(6,0),(7,0),(8,1)] (by kernel_rfl) (by kernel_rfl) ?_
    intro w2 hw2
    repeat
     refine qA0 _ rfl (fun K hK=>?_)
     first
      | (refine qqP (by rfl) ?_;apply Exists.intro;refine ⟨fun w' hw'=>?_,hK _ ?_⟩;(have kd0:=(hbx.kept hw2);have bb0:=(hw'.blk kd0 hbn).cell 0;have bb1:=(hw'.blk kd0 hbn).cell 1;go_simp;first|done|rfl))
      | refine qqN (by rfl) (hK _ ?_)
     clear hK K;simp only [Act.put,qqB]
    refine qqH _ rfl (by rfl) (fun K hK=>?_)
    have bK:=Xr.blk.kept hw2
    have fK:=bK.free (1 + o)
    obtain ⟨cv,eK⟩ : ∃ cv,w2.cell? ⟨J,1 + o,none⟩ = some cv:=by
     rw [bK.cell (1 + o),qDM HLS.out o hx1]
     exact ⟨_,List.getElem?_eq_getElem (by rw [HLS.out];exact hx1)⟩
    go_wp2
    refine hK _ _ (Chg.step (by simp) _) ?_
    clear hK K
    try simp only [Act.put,qqB]
    refine qA6 ?_
    have Xn:=(Xr.kept hw2).lay HLS.out o hx1 (qA4 huo hw2)
    have On:=Or.lay o hun
    have hsn:=(hsr.trans (SameOn.of_kept hw2)).trans (On.sameK (Chg.step qsm (.slice au x.2.length cu) (o:=1 + o)))
    go_wp2
    refine ⟨⟨k + 1,by omega,by go_num,_,by rw [List.length_set];exact HLS.out,?_,On,hsn⟩,by simp [intOf];omega⟩
    have hlay : qEG d.lasts d.waits (fun _=>true) (k + 1) = (qEG d.lasts d.waits (fun _=>true) k).set o x.2:=by
     rw [qEG,HXG.out,HO.out];rfl
    rw [hlay]
    exact Xn
  · have hkN : k = N:=by omega
    have HK:=qh hkN
    clear hkN
    rw [HK.out,HN.out] at Xr
    have fK:=Xr.blk.free 33
    have eK:=Xr.blk.cell 33
    rw [qBX HLS.out] at eK
    have X2:=Xr.clear HLS.out
    have O2:=Or.clear
    have hs2:=hsr.trans (O2.sameK (Chg.step qsm (.slice none 0 0) (o:=33)))
    have hft2 : d.trace.length ≤ m + 1:=hft
    have hA2' : ∀ k,A k → k < (wr.setCell ⟨J,33,none⟩ (.slice none 0 0)).heap.size:=fun k ha=>Nat.lt_of_lt_of_le (hA k ha) hs2.size
    obtain ⟨ta,tc,hve⟩:=X2.trc.slice
    subst hve
    have hka : Kept (wr.setCell ⟨J,33,none⟩ (.slice none 0 0)) ((wr.setCell ⟨J,33,none⟩ (.slice none 0 0)).alloc (.cells #[.int .i64 (-1),.slice none 0 0] 133)):=qal _
    have c3:=X2.blk.cell 34
    rw [qDL HLS.out] at c3
    have hro:=X2.trc.row.alloc (.cells #[.int .i64 (-1),.slice none 0 0] 133)
    have hKv : J ∉ (Value.slice ta d.trace.length tc).ownBlock.toList:=qBz X2.trc.row X2.blk (by decide)
    have hsl1:=Sl.lit (wr.setCell ⟨J,33,none⟩ (.slice none 0 0)) #[.int .i64 (-1),.slice none 0 0] 133 1 (by decide)
    rw [show (wr.setCell ⟨J,33,none⟩ (.slice none 0 0)).heap.size = wr.heap.size by simp [World.setCell]] at hsl1
    clear hsr Or
    go_wp2_with (at_builtin;refine qAT qG0 rfl (by rfl) (by rfl) (by rfl) hro hsl1 (by rfl) (by intro u hu;simp at hu;rcases hu with rfl | rfl <;> rfl) (by show d.trace.length + 1 ≤ maxLen;unfold maxLen;omega) (by show (d.trace.length + 1) * 32 ≤ 140737488355328;omega) (Nat.zero_le _) ?_;intro v3 w3 hown3 hgr3 hat3 _;obtain ⟨g3,cap3,hve⟩:=qAt hown3 (by omega);subst hve;have ck3:=(Chg.of_kept hka (bs:=(Value.slice ta d.trace.length tc).ownBlock.toList)).trans hgr3.chgL;have hb5:=ck3.blk X2.blk hKv;have fK:=hb5.free 34;have eK:=hb5.cell 34;rw [qDL HLS.out] at eK)
    go_ret
    have hz : ((wr.setCell ⟨J,33,none⟩ (.slice none 0 0)).alloc (.cells #[.int .i64 (-1),.slice none 0 0] 133)).heap.size = (wr.setCell ⟨J,33,none⟩ (.slice none 0 0)).heap.size + 1:=by simp
    have hv3 : ∀ g,(Value.slice (some ⟨g3,0,none⟩) (d.trace.length + 1) cap3).ownBlock = some g → (Value.slice ta d.trace.length tc).ownBlock = some g ∨ (wr.setCell ⟨J,33,none⟩ (.slice none 0 0)).heap.size ≤ g:=fun g hg=>by
     rcases hat3 with e | e
     · left;rw [← e];exact hg
     · right
       have h3:=Option.some.inj (hg.symm.trans e)
       omega
    have X3:=DkIn.pushT (x:=(-1,[])) X2 HLS.out ck3 hown3 (World.ownsRow_nil _ _ _ _) hv3
    have hqK : Chg [J] w3 (w3.setCell ⟨J,34,none⟩ (.slice (some ⟨g3,0,none⟩) (d.trace.length + 1) cap3)):=Chg.step (by simp) _
    have hs3:=(O2.sameT ck3).trans (O2.sameK hqK)
    have O3:=OffD.setT (u6:=.slice none 0 0) O2 hA2' hv3 (by intro g hg;cases hg)
    have hall:=(hsm1.trans hs2).trans hs3
    rw [HRES.out]
    exact ⟨rfl,⟨_,_,_,_,_,X3,O3,fun k ha=>Nat.lt_of_lt_of_le (hA0 k ha) hall.size⟩,hall⟩
theorem qKc (A : Nat → Prop) (J b : Nat) (d : Dk) (m : Nat) (hm : m ≤ 100000) (w1 : World) (h : qI5 A w1 J b d) (ok : d.ok m) (v : Value) (ks : List Bool) (kl : ks.length ≤ 100000) (hks : Sl w1 v ks.length (qAW ks)) (hkA : ∀ a c,v = .slice (some a) ks.length c → 0 < (qAW ks).length → A a.block) :
 Calls prog 83 #[.pointer (some ⟨J,0,none⟩),v] w1 fun e w'=>e = .returned (.tuple #[]) ∧ qI5 A w' J b (d.settled (isK ks)) ∧ SameOn A w1 w':=by
 obtain ⟨ka,kc,he⟩:=hks.len
 subst he
 obtain ⟨ls,vw,vt,us,ut,X1,O,hA⟩:=h
 obtain ⟨wa,wc,hve⟩:=X1.wts.slice
 subst hve
 have hll : ls.length = 32:=by rw [X1.lst.len,ok.len]
 have c33:=X1.blk.cell 33
 rw [qBX hll] at c33
 have HF:=qh ok.fit
 have hfew:=ok.few
 obtain ⟨N,hN⟩ : ∃ N,N = d.waits.length:=⟨_,rfl⟩
 rw [← hN] at hfew c33
 have HN:=qh hN
 clear hN
 go_enter func83,ntmps83
 go_wp2_with fail
 go_loopw [13,4,5] (fun i _ _ wr=>∃ k : Nat,k ≤ N ∧ i = .int .i64 k ∧ ∃ ls',ls'.length = 32 ∧ DkIn wr J b ls' (.slice wa d.waits.length wc) vt us ut { d with lasts:=qEG d.lasts d.waits (isK ks) k } ∧ OffD A J b ls' (.slice wa d.waits.length wc) vt us ut ∧ SameOn A w1 wr) (fun i _ _ _=>N - (intOf i).toNat)
 case atStart=>exact ⟨0,by omega,by go_num,ls,hll,X1,O,SameOn.refl _⟩
 case round =>
  obtain ⟨k,hk,rfl,ls',hls,Xr,Or,hsr⟩:=hrel
  clear X1 c33
  have HLS:=qh hls
  clear hls
  by_cases hlt : k < N
  · have hkl : k < d.waits.length:=by rw [← HN.out];exact hlt
    have n3 : (k : Int) < (N : Int):=by omega
    have n4 : (0 : Int) ≤ (k : Int):=by omega
    obtain ⟨g,cap2,u,hve,hui,d0,d1,hsu⟩:=Xr.wts.get k hkl
    cases hve
    have huo : wr.ownsRow 0 5 1 u d.waits[k].2.length (qA1 d.waits[k].2):=Xr.wts.each k _ u (List.getElem?_eq_getElem hkl) hui
    have hun : ∀ g,u.ownBlock = some g → ¬ A g:=Or.us u (List.mem_of_getElem? hui)
    have hfx : inD d.waits[k]:=HF.out _ (List.getElem_mem hkl)
    have hxg : d.waits[k]?.getD (0,[]) = d.waits[k]:=by rw [List.getElem?_eq_getElem hkl];rfl
    replace d0 : wr.cell? ⟨g,k * 2,none⟩ = some (.int .i64 d.waits[k].1):=d0
    generalize d.waits[k] = x at *
    obtain ⟨hx0,hx1,hx2⟩:=hfx
    obtain ⟨o,ho⟩ : ∃ o : Nat,o = x.1.toNat:=⟨_,rfl⟩
    have hxo : x.1 = (o : Int):=by omega
    rw [← ho] at hx1
    rw [hxo] at d0
    obtain ⟨au,cu,hve⟩:=hsu.len
    subst hve
    have n5 : (o : Int) < 32:=by omega
    have n7 : (0 : Int) ≤ (o : Int):=by omega
    have HO:=qh ho
    have HXG:=qh hxg
    have HXO:=qh hxo
    have HX2:=qh hx2
    have hka : Kept wr (wr.alloc (.cells #[.int .i64 (o : Int),.slice au x.2.length cu] 133)):=qal _
    have hbx:=Blk.new wr #[.int .i64 (o : Int),.slice au x.2.length cu] 133
    have hbn : wr.heap.size ∉ [J]:=by have:=Xr.low.1;simp;omega
    replace Xr:=Xr.kept hka
    replace huo:=qA4 huo hka
    replace hsr:=hsr.trans (SameOn.of_kept hka)
    clear ho hxg hxo hx2 hsu
    by_cases hkk : k < ks.length
    · have r1 : (k : Int) < (ks.length : Int):=by omega
      obtain ⟨bk,offk,capk,e,_,_,_,hx⟩:=(hsr.sl hks hkA).at (by rw [qCy];omega)
      cases e
      have r0:=hx k (.bool ks[k]) (by simp [qAW,hkk])
      have hi : isK ks k = ks[k]:=by simp [isK,hkk]
      cases hq : ks[k]
      · rw [hq] at r0 hi
        have hls : qEG d.lasts d.waits (isK ks) (k + 1) = qEG d.lasts d.waits (isK ks) k:=by rw [qEG,hi];rfl
        have HL2:=qh hls
        clear hi hq hls hx
        go_wp2
        refine ⟨⟨k + 1,by omega,by go_num,_,HLS.out,?_,Or,hsr⟩,by simp [intOf];omega⟩
        rw [HL2.out]
        exact Xr
      · rw [hq] at r0 hi
        have HI:=qh hi
        clear hi hq hx
        go_wp2_with fail
        generalize (wr.alloc (.cells #[.int .i64 (o : Int),.slice au x.2.length cu] 133)) = wx at *
        refine qA9 [J] [(0,0),(1,0),(2,0),(3,0),(4,0),(5,0),(6,0),(7,0),(8,1)] (by kernel_rfl) (by kernel_rfl) ?_
        intro w2 hw2
        repeat
         refine qA0 _ rfl (fun K hK=>?_)
         first
          | (refine qqP (by rfl) ?_;apply Exists.intro;refine ⟨fun w' hw'=>?_,hK _ ?_⟩;(have kd0:=(hbx.kept hw2);have bb0:=(hw'.blk kd0 hbn).cell 0;have bb1:=(hw'.blk kd0 hbn).cell 1;go_simp;first|done|rfl))
          | refine qqN (by rfl) (hK _ ?_)
         clear hK K;simp only [Act.put,qqB]
        refine qqH _ rfl (by rfl) (fun K hK=>?_)
        have bK:=Xr.blk.kept hw2
        have fK:=bK.free (1 + o)
        obtain ⟨cv,eK⟩ : ∃ cv,w2.cell? ⟨J,1 + o,none⟩ = some cv:=by
         rw [bK.cell (1 + o),qDM HLS.out o hx1]
         exact ⟨_,List.getElem?_eq_getElem (by rw [HLS.out];exact hx1)⟩
        go_wp2
        refine hK _ _ (Chg.step (by simp) _) ?_
        clear hK K
        try simp only [Act.put,qqB]
        refine qA6 ?_
        have Xn:=(Xr.kept hw2).lay HLS.out o hx1 (qA4 huo hw2)
        have On:=Or.lay o hun
        have hsn:=(hsr.trans (SameOn.of_kept hw2)).trans (On.sameK (Chg.step qsm (.slice au x.2.length cu) (o:=1 + o)))
        go_wp2
        refine ⟨⟨k + 1,by omega,by go_num,_,by rw [List.length_set];exact HLS.out,?_,On,hsn⟩,by simp [intOf];omega⟩
        have hlay : qEG d.lasts d.waits (isK ks) (k + 1) = (qEG d.lasts d.waits (isK ks) k).set o x.2:=by
         rw [qEG,HXG.out,HO.out];rw [HI.out];rfl
        rw [hlay]
        exact Xn
    · have r1 : ¬ (k : Int) < (ks.length : Int):=by omega
      have hi : isK ks k = false:=by simp [isK,List.getElem?_eq_none (show ks.length ≤ k by omega)]
      have hls : qEG d.lasts d.waits (isK ks) (k + 1) = qEG d.lasts d.waits (isK ks) k:=by rw [qEG,hi];rfl
      have HL2:=qh hls
      clear hi hls
      go_wp2
      refine ⟨⟨k + 1,by omega,by go_num,_,HLS.out,?_,Or,hsr⟩,by simp [intOf];omega⟩
      rw [HL2.out]
      exact Xr
  · have hkN : k = N:=by omega
    have HK:=qh hkN
    clear hkN
    rw [HK.out,HN.out] at Xr
    have fK:=Xr.blk.free 33
    have eK:=Xr.blk.cell 33
    rw [qBX HLS.out] at eK
    have X2:=Xr.clear HLS.out
    have O2:=Or.clear
    have hs2:=hsr.trans (O2.sameK (Chg.step qsm (.slice none 0 0) (o:=33)))
    clear hsr Or
    go_wp2
    go_end0
    exact ⟨rfl,⟨_,_,_,_,_,X2,O2,fun k ha=>Nat.lt_of_lt_of_le (hA k ha) hs2.size⟩,hs2⟩
def readD (b : List UInt8) (l : List Wr) (o : Int) : Nat → List UInt8
 | 0=>b
 | k + 1=>if (l[k]?.getD (0,[])).1 = o then (l[k]?.getD (0,[])).2 else readD b l o k
theorem qCR (b : List UInt8) (l : List Wr) (o : Int) (hb : b.length = 32) (hl : ∀ x ∈ l,inD x) : ∀ k,k ≤ l.length → (readD b l o k).length = 32
 | 0,_=>hb
 | k + 1,hk=>by
  unfold readD
  split
  · rw [List.getElem?_eq_getElem (by omega)]
    exact (hl _ (List.getElem_mem (by omega))).2.2
  · exact qCR b l o hb hl k (by omega)
def Dk.read (d : Dk) (o : Nat) : List UInt8:=readD (d.lasts[o]?.getD []) d.waits o d.waits.length
theorem Dk.read_length {d : Dk} {m : Nat} (h : d.ok m) {o : Nat} (ho : o < 32) : (d.read o).length = 32 :=
 qCR _ _ _ (by rw [List.getElem?_eq_getElem (by rw [h.len];exact ho)];exact h.all _ (List.getElem_mem (by rw [h.len];exact ho))) h.fit _ qle
theorem qLq (A : Nat → Prop) (K b : Nat) (d : Dk) (m : Nat) (hm : m ≤ 100000) (w : World) (h : qI5 A w K b d) (ok : d.ok m) (o : Nat) (ho : o < 32) (hg : d.p.gone = false) : Calls prog 119 #[.pointer (some ⟨K,0,none⟩),.int .i64 o] w fun e w'=>∃ v,e = .returned (.tuple #[v,.bool true]) ∧ w'.ownsRow w.heap.size 5 1 v 32 (qA1 (d.read o)) ∧ Kept w w':=by
 obtain ⟨ls,vw,vt,us,ut,X,O,hA⟩:=h
 obtain ⟨wa,wc,hve⟩:=X.wts.slice
 subst hve
 have c0:=X.blk.cell 0
 rw [qGx] at c0
 have hll : ls.length = 32:=by rw [X.lst.len,ok.len]
 have c33:=X.blk.cell 33
 rw [qBX hll] at c33
 have hol : o < d.lasts.length:=by rw [ok.len];exact ho
 obtain ⟨u0,hu0,_,hown0⟩:=X.lst.get o hol
 have c1:=X.blk.cell (1 + o)
 rw [qDM hll o ho,hu0] at c1
 have hd0 : d.lasts[o]?.getD [] = d.lasts[o]:=by rw [List.getElem?_eq_getElem hol];rfl
 have h32:=ok.all _ (List.getElem_mem hol)
 rw [h32] at hown0
 have HRD:=qh (qCR d.lasts[o] d.waits o h32 ok.fit)
 have hrd : d.read o = readD d.lasts[o] d.waits o d.waits.length:=by rw [Dk.read,hd0]
 rw [hrd]
 generalize d.lasts[o] = y0 at *
 have hfew:=ok.few
 have HF:=qh ok.fit
 obtain ⟨N,hN⟩ : ∃ N,N = d.waits.length:=⟨_,rfl⟩
 rw [← hN] at hfew c33
 have n1 : (0 : Int) ≤ (o : Int):=by omega
 have n2 : (o : Int) < 32:=by omega
 have HN:=qh hN
 have HLL:=qh hll
 obtain ⟨a0,k0,hve⟩:=(Sl.of_own hown0).len
 subst hve
 clear hN hll hu0 hol hd0 h32 hrd
 go_enter func119,ntmps119
 go_wp2_with fail
 refine (qIB K o _).mono ?_
 rintro e w1 ⟨rfl,rfl⟩
 rw [show isD (o : Int) = true by simp [isD];omega]
 go_wp2_with fail
 refine (qCs b _ _ X.pw).mono ?_
 rintro e w1 ⟨rfl,rfl⟩
 rw [hg]
 go_wp2_with fail
 go_loopw [32,8,6] (fun i _ v wr=>∃ k : Nat,k ≤ N ∧ i = .int .i64 k ∧ (∃ a c,v = .slice a 32 c) ∧ wr.ownsRow 0 5 1 v 32 (qA1 (readD y0 d.waits o k)) ∧ Kept w wr) (fun i _ _ _=>N - (intOf i).toNat)
 case atStart=>exact ⟨0,by omega,by go_num,⟨_,_,rfl⟩,hown0,Below.refl _ _⟩
 case round =>
  obtain ⟨k,hk,rfl,⟨va,vc,rfl⟩,hv,hkw⟩:=hrel
  by_cases hlt : k < N
  · have hkl : k < d.waits.length:=by rw [← HN.out];exact hlt
    have n3 : (k : Int) < (N : Int):=by omega
    have n4 : (0 : Int) ≤ (k : Int):=by omega
    have hops:=X.wts.kept hkw
    obtain ⟨g,cap2,u,hve,hui,d0,d1,hsu⟩:=hops.get k hkl
    cases hve
    have huo : wr.ownsRow 0 5 1 u d.waits[k].2.length (qA1 d.waits[k].2):=hops.each k _ u (List.getElem?_eq_getElem hkl) hui
    have hfx : inD d.waits[k]:=HF.out _ (List.getElem_mem hkl)
    have hxg : d.waits[k]?.getD (0,[]) = d.waits[k]:=by rw [List.getElem?_eq_getElem hkl];rfl
    replace d0 : wr.cell? ⟨g,k * 2,none⟩ = some (.int .i64 d.waits[k].1):=d0
    generalize d.waits[k] = x at *
    obtain ⟨hx0,hx1,hx2⟩:=hfx
    rw [hx2] at huo hsu
    obtain ⟨au,cu,hve⟩:=hsu.len
    subst hve
    have hka : Kept wr (wr.alloc (.cells #[.int .i64 x.1,.slice au 32 cu] 133)):=qal _
    have hvk:=qA4 hv hka
    have huk:=qA4 huo hka
    have hkk:=Kept.of hkw hka
    by_cases hxo : x.1 = (o : Int)
    · have hre : readD y0 d.waits o (k + 1) = x.2:=by rw [readD,hxg,if_pos hxo]
      have HRE:=qh hre
      have HXG:=qh hxg
      rw [hxo] at d0 hka hvk huk hkk
      clear hre hxg hxo hx2 hsu hops
      go_wp2
      exact ⟨⟨k + 1,by omega,by go_num,⟨_,_,rfl⟩,by rw [HRE.out];exact huk,hkk⟩,by simp [intOf];omega⟩
    · have hre : readD y0 d.waits o (k + 1) = readD y0 d.waits o k:=by rw [readD,hxg,if_neg hxo]
      have i1 : (x.1 == (o : Int)) = false:=by simpa using hxo
      have HRE:=qh hre
      have HXG:=qh hxg
      clear hre hxg hxo hx2 hsu hops
      go_wp2
      exact ⟨⟨k + 1,by omega,by go_num,⟨_,_,rfl⟩,by rw [HRE.out];exact hvk,hkk⟩,by simp [intOf];omega⟩
  · have hkN : k = N:=by omega
    have hl32:=HRD.out k (by rw [← HN.out];omega)
    have HK:=qh hkN
    clear hkN
    rw [HK.out,HN.out] at hv hl32
    have hsl:=Sl.of_own hv
    obtain ⟨Y,hYe⟩ : ∃ Y,Y = readD y0 d.waits o d.waits.length:=⟨_,rfl⟩
    rw [← hYe] at hsl hl32 hv
    have HYE:=qh hYe
    clear hYe
    have hsl' : Sl wr (.slice va 32 vc) Y.length (qA1 Y):=by rw [hl32];exact hsl
    have HY:=qh hl32
    clear hl32 hv
    go_wp2_with fail
    refine (qAN _ Y (by rw [HY.out];omega) _ hsl').mono ?_
    rintro e w3 ⟨v3,rfl,ho3,hk3⟩
    rw [HY.out] at ho3
    go_wp2
    go_ret2
    exact ⟨v3,rfl,by rw [← HYE.out];exact qAd ho3 hkw.size,Kept.of hkw hk3⟩
theorem qIC (A : Nat → Prop) (K b : Nat) (d : Dk) (m : Nat) (w : World) (h : qI5 A w K b d) (ok : d.ok m) (q : Bool) : Calls prog 31 #[.pointer (some ⟨K,0,none⟩),.bool q] w fun e w'=>e = .returned (.tuple #[]) ∧ qI5 A w' K b { d with no:=q } ∧ SameOn A w w':=by
 obtain ⟨ls,vw,vt,us,ut,X,O,hA⟩:=h
 have hll : ls.length = 32:=by rw [X.lst.len,ok.len]
 have c35:=X.blk.cell 35
 rw [qF0 hll] at c35
 have f35:=X.blk.free 35
 have X2:=X.refuse hll q
 have hs:=O.sameK (Chg.step qsm (.bool q) (o:=35) : Chg [K] w _)
 have HL:=qh hll
 clear hll
 go_enter func31,ntmps31
 go_wp2
 go_end0
 exact ⟨rfl,⟨ls,vw,vt,us,ut,X2,O,fun k ha=>Nat.lt_of_lt_of_le (hA k ha) hs.size⟩,hs⟩
structure Cl where
 kind : Int
 lba : Int
 data : List UInt8
def Cl.is (c : Cl) : Bool :=
 if c.kind = 1 then isD c.lba else if c.kind = 4 then isD c.lba else if c.kind = 2 then isD c.lba && decide (c.data.length = 32) else decide (c.kind = 3) || decide (c.kind = 5)
theorem qKd (i : Int) (w : World) : Calls prog 116 #[.int .i64 i] w fun e w'=>e = .returned (.bool (isD i)) ∧ w = w':=by
 by_cases h1 : 0 ≤ i
 · by_cases h2 : i < 32
   · rw [show isD i = true by simp [isD];omega]
     go_enter func116,ntmps116
     go_wp2
     go_ret
     exact ⟨rfl,rfl⟩
   · rw [show isD i = false by simp [isD];omega]
     have h2' : decide (i < 32) = false:=decide_eq_false h2
     go_enter func116,ntmps116
     go_wp2
     go_ret
     exact ⟨rfl,rfl⟩
 · rw [show isD i = false by simp [isD];omega]
   go_enter func116,ntmps116
   go_wp2
   go_ret
   exact ⟨rfl,rfl⟩
theorem qEc (c : Cl) (a : Option Addr) (cap : Nat) (hl : c.data.length ≤ 1000000) (w : World) : Calls prog 76 #[.agg #[.int .i64 c.kind,.int .i64 c.lba,.slice a c.data.length cap]] w fun e w'=>e = .returned (.bool c.is) ∧ Kept w w':=by
 obtain ⟨kd,lb,dt⟩:=c
 simp only at hl ⊢
 have hk : Kept w (w.alloc (.cells #[.int .i64 kd,.int .i64 lb,.slice a dt.length cap] 34)):=qal _
 have hb:=Blk.new w #[.int .i64 kd,.int .i64 lb,.slice a dt.length cap] 34
 have q0:=hb.cell 0
 have q1:=hb.cell 1
 have q2:=hb.cell 2
 clear hb
 have CB:=qKd lb (w.alloc (.cells #[.int .i64 kd,.int .i64 lb,.slice a dt.length cap] 34))
 unfold Cl.is
 simp only
 by_cases k1 : kd = 1
 · rw [if_pos k1]
   subst k1
   go_enter func76,ntmps76
   go_wp2_with fail
   refine CB.mono ?_
   rintro e w1 ⟨rfl,rfl⟩
   go_wp2
   go_ret
   exact ⟨rfl,hk⟩
 rw [if_neg k1]
 have e1 : (kd == 1) = false:=by simpa using k1
 by_cases k4 : kd = 4
 · rw [if_pos k4]
   subst k4
   go_enter func76,ntmps76
   go_wp2_with fail
   refine CB.mono ?_
   rintro e w1 ⟨rfl,rfl⟩
   go_wp2
   go_ret
   exact ⟨rfl,hk⟩
 rw [if_neg k4]
 have e4 : (kd == 4) = false:=by simpa using k4
 by_cases k2 : kd = 2
 · rw [if_pos k2]
   subst k2
   cases hd : isD lb
   · rw [hd] at CB
     go_enter func76,ntmps76
     go_wp2_with fail
     refine CB.mono ?_
     rintro e w1 ⟨rfl,rfl⟩
     go_wp2
     go_ret
     exact ⟨rfl,hk⟩
   · rw [hd] at CB
     by_cases hl2 : dt.length = 32
     · rw [decide_eq_true hl2]
       have e5 : ((dt.length : Int) == 32) = true:=by rw [hl2];rfl
       have e6 : (dt.length : Int) = 32:=by omega
       clear hl2
       go_enter func76,ntmps76
       go_wp2_with fail
       refine CB.mono ?_
       rintro e w1 ⟨rfl,rfl⟩
       go_wp2
       go_ret
       exact ⟨rfl,hk⟩
     · rw [decide_eq_false hl2]
       have e6 : ¬ (dt.length : Int) = 32:=by omega
       have e5 : ((dt.length : Int) == 32) = false:=by simpa using e6
       go_enter func76,ntmps76
       go_wp2_with fail
       refine CB.mono ?_
       rintro e w1 ⟨rfl,rfl⟩
       go_wp2
       go_ret
       exact ⟨rfl,hk⟩
 rw [if_neg k2]
 have e2 : (kd == 2) = false:=by simpa using k2
 by_cases k3 : kd = 3
 · rw [decide_eq_true k3]
   subst k3
   go_enter func76,ntmps76
   go_wp2
   go_ret
   exact ⟨rfl,hk⟩
 have e3 : (kd == 3) = false:=by simpa using k3
 rw [decide_eq_false k3]
 by_cases k5 : kd = 5
 · rw [decide_eq_true k5]
   subst k5
   go_enter func76,ntmps76
   go_wp2
   go_ret
   exact ⟨rfl,hk⟩
 have e5 : (kd == 5) = false:=by simpa using k5
 rw [decide_eq_false k5]
 go_enter func76,ntmps76
 go_wp2
 go_ret
 exact ⟨rfl,hk⟩
structure Ac where
 kind : Int
 call : Cl
 n : Int
 off : Int
 data : List UInt8
 keep : List Bool
theorem qDN (kind lba : Int) (va : Option Addr) (vn vc : Nat) (w : World) : Calls prog 15 #[.int .i64 kind,.int .i64 lba,.slice va vn vc] w fun e w'=>e = .returned (.agg #[.int .i64 1,.int .i64 kind,.int .i64 lba,.slice va vn vc,.int .i64 0,.int .i64 0,.slice none 0 0,.slice none 0 0]) ∧ Kept w w':=by
 go_enter func15,ntmps15
 go_wp2_with fail
 have hb:=Blk.new w #[.int .i64 1,.int .i64 kind,.int .i64 lba,.slice va vn vc,.int .i64 0,.int .i64 0,.slice none 0 0,.slice none 0 0] 37
 have q0:=hb.cell 0
 have q1:=hb.cell 1
 have q2:=hb.cell 2
 have q3:=hb.cell 3
 have q4:=hb.cell 4
 have q5:=hb.cell 5
 have q6:=hb.cell 6
 have q7:=hb.cell 7
 have hk : Kept w (w.alloc (.cells #[.int .i64 1,.int .i64 kind,.int .i64 lba,.slice va vn vc,.int .i64 0,.int .i64 0,.slice none 0 0,.slice none 0 0] 37)):=qal _
 generalize (w.alloc (.cells #[.int .i64 1,.int .i64 kind,.int .i64 lba,.slice va vn vc,.int .i64 0,.int .i64 0,.slice none 0 0,.slice none 0 0] 37)) = w1 at *
 refine bodyPost_ret (v:=.agg #[.int .i64 1,.int .i64 kind,.int .i64 lba,.slice va vn vc,.int .i64 0,.int .i64 0,.slice none 0 0,.slice none 0 0]) (by simp [results,results15,go_sem,q0,q1,q2,q3,q4,q5,q6,q7];try exact ⟨rfl,rfl⟩) rfl ⟨rfl,hk⟩
theorem qF1 (c : Cl) (a : Option Addr) (cap : Nat) (hl : c.data.length ≤ 1000000) (w : World) : Calls prog 21 #[.agg #[.int .i64 c.kind,.int .i64 c.lba,.slice a c.data.length cap]] w fun e w'=>e = .returned (.bool c.is) ∧ Kept w w':=by
 obtain ⟨kd,lb,dt⟩:=c
 simp only at hl ⊢
 have hk : Kept w (w.alloc (.cells #[.int .i64 kd,.int .i64 lb,.slice a dt.length cap] 34)):=qal _
 have hb:=Blk.new w #[.int .i64 kd,.int .i64 lb,.slice a dt.length cap] 34
 have q0:=hb.cell 0
 have q1:=hb.cell 1
 have q2:=hb.cell 2
 clear hb
 unfold Cl.is
 by_cases h1 : 0 ≤ lb
 · by_cases h2 : lb < 32
   · rw [show isD lb = true by simp [isD];omega]
     simp only
     by_cases k1 : kd = 1
     · rw [if_pos k1]
       subst k1
       go_enter func21,ntmps21
       go_wp2
       go_ret
       exact ⟨rfl,hk⟩
     rw [if_neg k1]
     have e1 : (kd == 1) = false:=by simpa using k1
     by_cases k4 : kd = 4
     · rw [if_pos k4]
       subst k4
       go_enter func21,ntmps21
       go_wp2
       go_ret
       exact ⟨rfl,hk⟩
     rw [if_neg k4]
     have e4 : (kd == 4) = false:=by simpa using k4
     by_cases k2 : kd = 2
     · rw [if_pos k2]
       subst k2
       by_cases hl2 : dt.length = 32
       · rw [decide_eq_true hl2]
         have e5 : ((dt.length : Int) == 32) = true:=by rw [hl2];rfl
         have e6 : (dt.length : Int) = 32:=by omega
         clear hl2
         go_enter func21,ntmps21
         go_wp2
         go_ret
         exact ⟨rfl,hk⟩
       · rw [decide_eq_false hl2]
         have e6 : ¬ (dt.length : Int) = 32:=by omega
         have e5 : ((dt.length : Int) == 32) = false:=by simpa using e6
         go_enter func21,ntmps21
         go_wp2
         go_ret
         exact ⟨rfl,hk⟩
     rw [if_neg k2]
     have e2 : (kd == 2) = false:=by simpa using k2
     by_cases k3 : kd = 3
     · rw [decide_eq_true k3]
       subst k3
       go_enter func21,ntmps21
       go_wp2
       go_ret
       exact ⟨rfl,hk⟩
     have e3 : (kd == 3) = false:=by simpa using k3
     rw [decide_eq_false k3]
     by_cases k5 : kd = 5
     · rw [decide_eq_true k5]
       subst k5
       go_enter func21,ntmps21
       go_wp2
       go_ret
       exact ⟨rfl,hk⟩
     have e5 : (kd == 5) = false:=by simpa using k5
     rw [decide_eq_false k5]
     go_enter func21,ntmps21
     go_wp2
     go_ret
     exact ⟨rfl,hk⟩
   · rw [show isD lb = false by simp [isD];omega]
     simp only
     by_cases k1 : kd = 1
     · rw [if_pos k1]
       subst k1
       go_enter func21,ntmps21
       go_wp2
       go_ret
       exact ⟨rfl,hk⟩
     rw [if_neg k1]
     have e1 : (kd == 1) = false:=by simpa using k1
     by_cases k4 : kd = 4
     · rw [if_pos k4]
       subst k4
       go_enter func21,ntmps21
       go_wp2
       go_ret
       exact ⟨rfl,hk⟩
     rw [if_neg k4]
     have e4 : (kd == 4) = false:=by simpa using k4
     by_cases k2 : kd = 2
     · rw [if_pos k2]
       subst k2
       by_cases hl2 : dt.length = 32
       · rw [decide_eq_true hl2]
         have e5 : ((dt.length : Int) == 32) = true:=by rw [hl2];rfl
         have e6 : (dt.length : Int) = 32:=by omega
         clear hl2
         go_enter func21,ntmps21
         go_wp2
         go_ret
         exact ⟨rfl,hk⟩
       · rw [decide_eq_false hl2]
         have e6 : ¬ (dt.length : Int) = 32:=by omega
         have e5 : ((dt.length : Int) == 32) = false:=by simpa using e6
         go_enter func21,ntmps21
         go_wp2
         go_ret
         exact ⟨rfl,hk⟩
     rw [if_neg k2]
     have e2 : (kd == 2) = false:=by simpa using k2
     by_cases k3 : kd = 3
     · rw [decide_eq_true k3]
       subst k3
       go_enter func21,ntmps21
       go_wp2
       go_ret
       exact ⟨rfl,hk⟩
     have e3 : (kd == 3) = false:=by simpa using k3
     rw [decide_eq_false k3]
     by_cases k5 : kd = 5
     · rw [decide_eq_true k5]
       subst k5
       go_enter func21,ntmps21
       go_wp2
       go_ret
       exact ⟨rfl,hk⟩
     have e5 : (kd == 5) = false:=by simpa using k5
     rw [decide_eq_false k5]
     go_enter func21,ntmps21
     go_wp2
     go_ret
     exact ⟨rfl,hk⟩
 · rw [show isD lb = false by simp [isD];omega]
   simp only
   by_cases k1 : kd = 1
   · rw [if_pos k1]
     subst k1
     go_enter func21,ntmps21
     go_wp2
     go_ret
     exact ⟨rfl,hk⟩
   rw [if_neg k1]
   have e1 : (kd == 1) = false:=by simpa using k1
   by_cases k4 : kd = 4
   · rw [if_pos k4]
     subst k4
     go_enter func21,ntmps21
     go_wp2
     go_ret
     exact ⟨rfl,hk⟩
   rw [if_neg k4]
   have e4 : (kd == 4) = false:=by simpa using k4
   by_cases k2 : kd = 2
   · rw [if_pos k2]
     subst k2
     by_cases hl2 : dt.length = 32
     · rw [decide_eq_true hl2]
       have e5 : ((dt.length : Int) == 32) = true:=by rw [hl2];rfl
       have e6 : (dt.length : Int) = 32:=by omega
       clear hl2
       go_enter func21,ntmps21
       go_wp2
       go_ret
       exact ⟨rfl,hk⟩
     · rw [decide_eq_false hl2]
       have e6 : ¬ (dt.length : Int) = 32:=by omega
       have e5 : ((dt.length : Int) == 32) = false:=by simpa using e6
       go_enter func21,ntmps21
       go_wp2
       go_ret
       exact ⟨rfl,hk⟩
   rw [if_neg k2]
   have e2 : (kd == 2) = false:=by simpa using k2
   by_cases k3 : kd = 3
   · rw [decide_eq_true k3]
     subst k3
     go_enter func21,ntmps21
     go_wp2
     go_ret
     exact ⟨rfl,hk⟩
   have e3 : (kd == 3) = false:=by simpa using k3
   rw [decide_eq_false k3]
   by_cases k5 : kd = 5
   · rw [decide_eq_true k5]
     subst k5
     go_enter func21,ntmps21
     go_wp2
     go_ret
     exact ⟨rfl,hk⟩
   have e5 : (kd == 5) = false:=by simpa using k5
   rw [decide_eq_false k5]
   go_enter func21,ntmps21
   go_wp2
   go_ret
   exact ⟨rfl,hk⟩
theorem qN6 (e1 e2 : Int) (v1 v2 : Value) (d1 d2 : List UInt8) (w : World) (h1 : Sl w v1 d1.length (qA1 d1)) (h2 : Sl w v2 d2.length (qA1 d2)) : Calls prog 13 #[.agg #[.int .i64 e1,v1],.agg #[.int .i64 e2,v2]] w fun e w'=>e = .returned (.bool (decide (e1 = e2) && (d1 == d2))) ∧ Kept w w':=by
 obtain ⟨a1,c1,rfl⟩:=h1.len
 obtain ⟨a2,c2,rfl⟩:=h2.len
 have hk : Kept w ((w.alloc (.cells #[.int .i64 e1,.slice a1 d1.length c1] 39)).alloc (.cells #[.int .i64 e2,.slice a2 d2.length c2] 44)):=(qal _).alloc (by simp) _
 have b1:=(Blk.new w #[.int .i64 e1,.slice a1 d1.length c1] 39).kept (w':=((w.alloc (.cells #[.int .i64 e1,.slice a1 d1.length c1] 39)).alloc (.cells #[.int .i64 e2,.slice a2 d2.length c2] 44))) (qal _)
 have b2 : Blk ((w.alloc (.cells #[.int .i64 e1,.slice a1 d1.length c1] 39)).alloc (.cells #[.int .i64 e2,.slice a2 d2.length c2] 44)) (w.heap.size + 1) #[.int .i64 e2,.slice a2 d2.length c2] 44:=by simpa using Blk.new (w.alloc (.cells #[.int .i64 e1,.slice a1 d1.length c1] 39)) #[.int .i64 e2,.slice a2 d2.length c2] 44
 have q0:=b1.cell 0
 have q1:=b1.cell 1
 have q2:=b2.cell 0
 have q3:=b2.cell 1
 have v1:=qBO (P:=prog) ((w.alloc (.cells #[.int .i64 e1,.slice a1 d1.length c1] 39)).alloc (.cells #[.int .i64 e2,.slice a2 d2.length c2] 44)) (src:=32) (dst:=9) underlying32 underlying5 underlying9 (h1.kept hk)
 have v2:=qBO (P:=prog) ((w.alloc (.cells #[.int .i64 e1,.slice a1 d1.length c1] 39)).alloc (.cells #[.int .i64 e2,.slice a2 d2.length c2] 44)) (src:=32) (dst:=9) underlying32 underlying5 underlying9 (h2.kept hk)
 clear b1 b2
 by_cases he : e1 = e2
 · subst he
   rw [show decide (e1 = e1) = true by simp,Bool.true_and]
   go_enter func13,ntmps13
   go_wp2
   go_ret
   exact ⟨rfl,hk⟩
 · rw [decide_eq_false he,Bool.false_and]
   have hi : (e1 == e2) = false:=by simpa using he
   go_enter func13,ntmps13
   go_wp2
   go_ret
   exact ⟨rfl,hk⟩
theorem qOA (D : List UInt8) (k : Nat) (b : UInt8) (hk : k < D.length) (h : D.take k = List.replicate k b) : (D.set k b).take (k + 1) = List.replicate (k + 1) b:=by
 rw [List.take_succ_eq_append_getElem (by simpa using hk),List.getElem_set_self,List.take_set_of_le qle,h,List.replicate_succ']
theorem qD8 (b : UInt8) (w : World) : Calls prog 16 #[V8 b] w fun e w'=>e = .returned (.slice (some ⟨w.heap.size,0,none⟩) 32 32) ∧ w'.ownsRow w.heap.size 5 1 (.slice (some ⟨w.heap.size,0,none⟩) 32 32) 32 (qA1 (List.replicate 32 b)) ∧ Kept w w':=by
 obtain ⟨Z,hZ⟩ : ∃ Z,Z = List.replicate 32 (0 : UInt8):=⟨_,rfl⟩
 have hmk : (Instr.makeSlice 32 (.int .i64 32) (.int .i64 32)).run prog w = .ok (.slice (some ⟨w.heap.size,0,none⟩) 32 32) (w.alloc (.cells (qA1 Z).toArray 5)):=by rw [hZ];exact qBy (P:=prog) w sl_bytes .i64 .i64 32 (by omega)
 have hzl : Z.length = 32:=by rw [hZ];simp
 have HZL:=qh hzl
 clear hZ hzl
 have hB0:=Blk.new w (qA1 Z).toArray 5
 have hk0 : Kept w (w.alloc (.cells (qA1 Z).toArray 5)):=qal _
 obtain ⟨w0,hw0⟩ : ∃ w0,w0 = w.alloc (.cells (qA1 Z).toArray 5):=⟨_,rfl⟩
 rw [← hw0] at hmk hB0 hk0
 clear hw0
 go_enter func16,ntmps16
 go_wp2_with fail
 go_loopw [4] (fun i wr=>∃ (k : Nat) (D : List UInt8),i = .int .i64 k ∧ k ≤ 32 ∧ Hid (D.length = 32) ∧ Hid (D.take k = List.replicate k b) ∧ Blk wr w.heap.size (qA1 D).toArray 5 ∧ Kept w wr) (fun i _=>32 - (intOf i).toNat)
 case atStart=>exact ⟨0,Z,rfl,by omega,HZL,qh (by simp),hB0,hk0⟩
 case round =>
  obtain ⟨k,D,rfl,hk,hDl,hDt,hB,hkr⟩:=hrel
  by_cases hlt : k < 32
  · have n1 : (k : Int) < 32:=by omega
    have n2 : (0 : Int) ≤ (k : Int):=by omega
    have f0:=hB.free k
    obtain ⟨u,hu⟩ : ∃ u,wr.cell? ⟨w.heap.size,k,none⟩ = some u:=⟨_,by rw [hB.cell k,List.getElem?_toArray];exact qBx D k (by rw [hDl.out];exact hlt)⟩
    go_wp2
    refine ⟨⟨k + 1,D.set k b,by go_num,by omega,qh (by rw [List.length_set];exact hDl.out),qh (qOA D k b (by rw [hDl.out];exact hlt) hDt.out),?_,qA7 hkr k _⟩,by simp [intOf];omega⟩
    rw [← qE7]
    exact hB.set k (V8 b)
  · have h32 : k = 32:=by omega
    subst h32
    go_wp2
    go_ret
    have e : D = List.replicate 32 b:=by have:=hDt.out;rw [List.take_of_length_le (by rw [hDl.out];exact Nat.le_refl _)] at this;exact this
    refine ⟨rfl,qC3 32 (by decide) _ _ (by simp) (by rw [← e];exact hB) qle,hkr⟩
end Go.Proofs.YtdlgihbpiakebaaGreat
