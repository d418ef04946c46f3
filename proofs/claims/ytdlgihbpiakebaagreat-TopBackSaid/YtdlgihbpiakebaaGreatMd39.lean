import Derived.Test.YtdlgihbpiakebaaGreatMd04
import Derived.Test.YtdlgihbpiakebaaGreatMd38
set_option maxRecDepth 100000
set_option maxHeartbeats 4000000
namespace Go.Proofs.YtdlgihbpiakebaaGreat
open Go Go.RowKit Tryz
def qDT (number len : Nat) : List UInt8:=(Lib.repeatL (qB2 (BitVec.ofNat 64 number) 8) (len / 8 + 1)).take len
theorem qBG (number len : Nat) : (qDT number len).length = len:=by
 unfold qDT
 rw [List.length_take,qDj _ _ (qAb _ _)]
 omega
def qEy (iss : List Iss) (key : qAB) (n : Nn) (head data : List UInt8) : Iss:=⟨key,n,head,data,qDT (iss.length + 1) data.length,(18446744073709551615#64,BitVec.ofNat 64 (iss.length + 1))⟩
theorem qR2 : SlT prog 179 184 10 120 (.agg #[U 0#64,U 0#64,W 0#32,W 0#32,U 0#64,.slice none 0 0,.slice none 0 0,.slice none 0 0,U 0#64,U 0#64]):=SlT.mk' underlying179 (by kernel_rfl) rfl (by omega)
structure One (i : Nat) (col col' : Nat → Nat) (w w' : World) : Prop where
 os : w'.os = w.os
 tape : w'.tape = w.tape
 output : w'.output = w.output
 size : w.heap.size ≤ w'.heap.size
 old : ∀ k,k < w.heap.size → col' k = col k
 new : ∀ k,w.heap.size ≤ k → col' k = 0 ∨ col' k = i
 top : ∀ k,w'.heap.size ≤ k → col' k = 0
 block : ∀ k,k < w.heap.size → col k ≠ i → w'.heap[k]? = w.heap[k]?
theorem One.ext {i m : Nat} {col col' : Nat → Nat} {w w' : World} (h : One i col col' w w') (h1 : 1 ≤ i) (hm : i ≤ m) : Ext m col col' w w' :=
 ⟨h.os,h.tape,h.output,h.size,h.old,fun k hk=>by have:=h.new k hk;omega,h.top,fun k hk hc=>h.block k hk (by omega)⟩
theorem One.same {i j : Nat} {col col' : Nat → Nat} {w w' : World} (h : One i col col' w w') (hj : j ≠ i) : qAZ j col col' w w':=⟨h.size,fun k hk hc=>(h.old k hk).trans hc,fun k hk hc=>h.block k hk (by omega)⟩
theorem One.kept {i : Nat} {col : Nat → Nat} {w w' : World} (ht : Top col w) (h : qA4 w w') : One i col col w w' :=
 ⟨h.os,h.tape,h.output,h.size,fun _ _=>rfl,fun k hk=>.inl (ht k hk),fun k hk=>ht k (Nat.le_trans h.size hk),fun k hk _=>h.block k hk⟩
theorem One.trans {i : Nat} {col col' col'' : Nat → Nat} {w w' w'' : World} (h : One i col col' w w') (k : One i col' col'' w' w'') : One i col col'' w w'' :=
 ⟨k.os.trans h.os,k.tape.trans h.tape,k.output.trans h.output,Nat.le_trans h.size k.size,
  fun i hi=>(k.old i (Nat.lt_of_lt_of_le hi h.size)).trans (h.old i hi),
  fun i hi=>by
   by_cases h2 : i < w'.heap.size
   · rw [k.old i h2];exact h.new i hi
   · exact k.new i (by omega),
  k.top,
  fun i hi hc=>(k.block i (Nat.lt_of_lt_of_le hi h.size) (by rw [h.old i hi];exact hc)).trans (h.block i hi hc)⟩
theorem One.chg {i : Nat} {bs : List Nat} {col : Nat → Nat} {w w' : World} (ht : Top col w) (h : Chg bs w w') (hb : ∀ b ∈ bs,col b = i) : One i col col w w' :=
 ⟨h.os,h.tape,h.output,h.size,fun _ _=>rfl,fun k hk=>.inl (ht k hk),fun k hk=>ht k (Nat.le_trans h.size hk),fun k hk hc=>h.block k hk fun hm=>hc (hb k hm)⟩
theorem qC5.chgN {w w' : World} {bs : List Nat} {m : Nat} {sums : List (List UInt8)} (h : qC5 w m sums) (hc : Chg bs w w') (hm : m ∉ bs) : qC5 w' m sums:=by
 obtain ⟨D,h1,h2,h3,h4⟩:=h
 have hl:=h1.lt
 obtain ⟨es,clock,hb,r⟩:=h1
 exact ⟨D,⟨es,clock,(hc.block m hl hm).trans hb,r⟩,h2,h3,h4⟩
theorem qHs {w : World} {O m : Nat} {v u : Value} {bs : List UInt8} (hv : ∃ a n c,v = .slice a n c) (bO : Blk w O #[v,.map (some m)] 182) (h : Sl w u bs.length (qA1 bs)) : qJw O u:=fun a n c e hn he=>by
 obtain ⟨a',n',c',rfl⟩:=hv
 rcases h with ⟨h0,_⟩ | ⟨a2,c2,h1,h2,h3,h4⟩
 · rw [h0] at e;cases e
 · rw [h1] at e
   cases e
   have hb:=qCa bs 0 hn
   have:=h4 0 _ hb
   rw [Addr.add_zero'] at this
   have hsp:=World.cell?_spot this
   obtain ⟨b,off,sp⟩:=a
   simp only at he hsp
   subst he
   subst hsp
   unfold Blk at bO
   unfold World.cell? at this
   simp only [bO] at this
   match off with
   | 0=>simp [V8] at this
   | 1=>simp [V8] at this
   | k + 2=>simp at this
theorem OrC.push {col : Nat → Nat} {w zA z2 wF : World} {O m : Nat} {v v' : Value} {rs : List (Value × Value × Value)} {iss : List Iss} {sums : List (List UInt8)} (x : Iss) (r : Value × Value × Value)
 (bO : Blk w O #[v,.map (some m)] 182) (hI : qE5 w v iss rs) (hS : qC5 w m sums) (cO : col O = 5) (cm : col m = 5) (cI : qKk col v rs) (ht : Top col w)
 (hA : w.heap.size ≤ zA.heap.size) (h2 : zA.heap.size ≤ z2.heap.size) (hFz : z2.heap.size ≤ wF.heap.size)
 (hown : wF.ownsRow 0 184 10 v' (iss.length + 1) (qBV iss rs ++ [U x.key.1,U x.key.2,W x.nonce.epoch,W x.nonce.slot,U x.nonce.version,r.1,r.2.1,r.2.2,U x.tag.1,U x.tag.2]))
 (hat : v'.ownBlock = v.ownBlock ∨ v'.ownBlock = some zA.heap.size) (hlt : ∀ g,v'.ownBlock = some g → g < z2.heap.size)
 (bOF : Blk wF O #[v',.map (some m)] 182) (hcF : Chg (O :: v.ownBlock.toList) w wF)
 (s1 : Sl wF r.1 x.head.length (qA1 x.head)) (s2 : Sl wF r.2.1 x.data.length (qA1 x.data)) (s3 : Sl wF r.2.2 x.out.length (qA1 x.out))
 (lo : ∀ s ∈ [r.1,r.2.1,r.2.2],∀ a n c,s = .slice (some a) n c → 0 < n → w.heap.size ≤ a.block ∧ a.block < zA.heap.size) :
 OrC (qAj col 5 w z2) wF O (iss ++ [x]) sums ∧ One 5 col (qAj col 5 w z2) w wF:=by
 have hv : ∃ a n c,v = .slice a n c:=by obtain ⟨a,c,e⟩:=(Sl.of_own hI.row).len;exact ⟨a,_,c,e⟩
 have hOl:=bO.lt
 have hml : m < w.heap.size:=by obtain ⟨D,h1,_⟩:=hS;exact h1.lt
 have hmb : ∃ es clock,w.heap[m]? = some (.map es clock):=by
  obtain ⟨D,⟨es,clock,k1,_⟩,_⟩:=hS
  exact ⟨es,clock,k1⟩
 have hnm : m ∉ O :: v.ownBlock.toList:=fun hm=>by
  obtain ⟨es,clock,hmb⟩:=hmb
  rcases List.mem_cons.1 hm with rfl | h
  · exact absurd (bO.symm.trans hmb) (by simp)
  · obtain ⟨c,hc⟩:=qAp hI.row (qAs.1 h)
    exact absurd (hc.symm.trans hmb) (by simp)
 have c5 : ∀ b ∈ O :: v.ownBlock.toList,col b = 5:=fun b hb=>by
  rcases List.mem_cons.1 hb with rfl | h
  · exact cO
  · exact cI.row b (qAs.1 h)
 have old : ∀ (u : Value) (bs : List UInt8),Sl w u bs.length (qA1 bs) → (∀ g,v.ownBlock = some g → qJw g u) → qIi col u → Sl wF u bs.length (qA1 bs) ∧ qIi (qAj col 5 w z2) u ∧ (∀ g,v'.ownBlock = some g → qJw g u):=fun u bs hs hn hc=>by
  have hlow : ∀ a n c,u = .slice (some a) n c → 0 < n → a.block < w.heap.size:=fun a n c e hp=>by
   obtain ⟨a',c',e'⟩:=hs.len
   subst e'
   cases e
   exact Sl.low hs _ _ rfl (by rw [qA6];exact hp)
  refine ⟨Chg.sl hs hcF fun a c e hl hm=>?_,fun a n c e hn'=>?_,fun g hg a n c e hn'=>?_⟩
  · rw [qA6] at hl
    rcases List.mem_cons.1 hm with h | h
    · exact qHs hv bO hs a _ c e hl h
    · exact hn _ (qAs.1 h) a _ c e hl rfl
  · rw [qAc (hlow a n c e hn')]
    exact hc a n c e hn'
  · rcases hat with h | h
    · exact hn g (h ▸ hg) a n c e hn'
    · rw [h] at hg
      cases hg
      have:=hlow a n c e hn'
      omega
 have new : ∀ (u : Value),(∀ a n c,u = .slice (some a) n c → 0 < n → w.heap.size ≤ a.block ∧ a.block < zA.heap.size) → qIi (qAj col 5 w z2) u ∧ (∀ g,v'.ownBlock = some g → qJw g u):=fun u hl=>by
  refine ⟨fun a n c e hn=>?_,fun g hg a n c e hn=>?_⟩
  · obtain ⟨h3,h4⟩:=hl a n c e hn
    exact qAl h3 (by omega)
  · obtain ⟨h3,h4⟩:=hl a n c e hn
    rcases hat with h | h
    · rw [h] at hg
      have:=qAo hI.row hg
      omega
    · rw [h] at hg
      cases hg
      omega
 have hlr:=hI.len
 refine ⟨⟨v',rs ++ [r],m,bOF,⟨?_,by simp [hI.len],fun i y q hy hq=>?_,fun q hq g hg=>?_⟩,hS.chgN hcF hnm,by rw [qAc hOl];exact cO,by rw [qAc hml];exact cm,fun g hg=>?_,fun q hq=>?_⟩,⟨hcF.os,hcF.tape,hcF.output,hcF.size,fun k hk=>qAc hk,fun k hk=>?_,fun k hk=>?_,fun k hk hc=>hcF.block k hk fun hm=>hc (c5 k hm)⟩⟩
 · rw [qFe _ _ _ _ hI.len,List.length_append]
   exact hown
 · by_cases hi : i < iss.length
   · rw [List.getElem?_append_left hi] at hy
     rw [List.getElem?_append_left (by rw [hlr];exact hi)] at hq
     obtain ⟨h1,h2',h3⟩:=hI.each i y q hy hq
     have ap:=hI.apart q (List.mem_of_getElem? hq)
     obtain ⟨k1,k2,k3⟩:=cI.e q (List.mem_of_getElem? hq)
     exact ⟨(old _ _ h1 (fun g hg=>(ap g hg).1) k1).1,(old _ _ h2' (fun g hg=>(ap g hg).2.1) k2).1,(old _ _ h3 (fun g hg=>(ap g hg).2.2) k3).1⟩
   · rw [List.getElem?_append_right (by omega)] at hy
     rw [List.getElem?_append_right (by omega)] at hq
     rw [hlr] at hq
     have hi0 : i - iss.length = 0:=by
      have:=(List.getElem?_eq_some_iff.1 hy).1
      simp at this;omega
     rw [hi0] at hy hq
     simp at hy hq
     subst hy;subst hq
     exact ⟨s1,s2,s3⟩
 · rcases List.mem_append.1 hq with hq | hq
   · obtain ⟨i,hi⟩:=List.getElem?_of_mem hq
     have hil : i < iss.length:=by rw [← hI.len];exact (List.getElem?_eq_some_iff.1 hi).1
     obtain ⟨h1,h2',h3⟩:=hI.each i _ q (List.getElem?_eq_getElem hil) hi
     have ap:=hI.apart q hq
     obtain ⟨k1,k2,k3⟩:=cI.e q hq
     exact ⟨(old _ _ h1 (fun g hg=>(ap g hg).1) k1).2.2 g hg,(old _ _ h2' (fun g hg=>(ap g hg).2.1) k2).2.2 g hg,(old _ _ h3 (fun g hg=>(ap g hg).2.2) k3).2.2 g hg⟩
   · rw [List.mem_singleton] at hq
     subst hq
     exact ⟨(new q.1 (lo _ (by simp))).2 g hg,(new q.2.1 (lo _ (by simp))).2 g hg,(new q.2.2 (lo _ (by simp))).2 g hg⟩
 · rcases hat with h | h
   · rw [h] at hg
     rw [qAc (qAo hI.row hg)]
     exact cI.row g hg
   · have:=hlt g hg
     rw [h] at hg
     cases hg
     exact qAl hA this
 · rcases List.mem_append.1 hq with hq | hq
   · obtain ⟨i,hi⟩:=List.getElem?_of_mem hq
     have hil : i < iss.length:=by rw [← hI.len];exact (List.getElem?_eq_some_iff.1 hi).1
     obtain ⟨h1,h2',h3⟩:=hI.each i _ q (List.getElem?_eq_getElem hil) hi
     have ap:=hI.apart q hq
     obtain ⟨k1,k2,k3⟩:=cI.e q hq
     exact ⟨(old _ _ h1 (fun g hg=>(ap g hg).1) k1).2.1,(old _ _ h2' (fun g hg=>(ap g hg).2.1) k2).2.1,(old _ _ h3 (fun g hg=>(ap g hg).2.2) k3).2.1⟩
   · rw [List.mem_singleton] at hq
     subst hq
     exact ⟨(new q.1 (lo _ (by simp))).1,(new q.2.1 (lo _ (by simp))).1,(new q.2.2 (lo _ (by simp))).1⟩
 · by_cases h3 : k < z2.heap.size
   · exact .inr (qAl hk h3)
   · left
     unfold qAj
     rw [if_neg (by omega)]
     exact ht k hk
 · unfold qAj
   rw [if_neg (by omega)]
   exact ht k (by omega)
theorem qMI (a b c d e f g h i j : Value) (w : World) : (Instr.field 184 (.agg #[a,b,c,d,e,f,g,h,i,j]) 4).run prog w = .ok (.agg #[h,i,j]) w:=by kernel_rfl
theorem qJC (col : Nat → Nat) (O : Nat) (iss : List Iss) (sums : List (List UInt8)) (key : qAB) (n : Nn) (vh vd : Value) (head data : List UInt8) (hil : iss.length ≤ 100000) (hlh : head.length ≤ 4000) (hld : data.length ≤ 4000) (w : World) (h : OrC col w O iss sums) (ht : Top col w) (sh : Sl w vh head.length (qA1 head)) (sd : Sl w vd data.length (qA1 data)) :
 Calls prog 64 #[.pointer (some ⟨O,0,none⟩),.agg #[U key.1,U key.2],(.agg #[W n.epoch,W n.slot,U n.version]),vh,vd] w fun e w'=>∃ u col',e = .returned (.tuple #[.agg #[u,U 18446744073709551615#64,U (BitVec.ofNat 64 (iss.length + 1))],.bool true]) ∧ w'.ownsRow w.heap.size 5 1 u data.length (qA1 (qDT (iss.length + 1) data.length)) ∧ (∀ g,u.ownBlock = some g → col' g = 0) ∧ OrC col' w' O (iss ++ [qEy iss key n head data]) sums ∧ One 5 col col' w w' ∧ (∀ b cs t,Blk w b cs t → 182 ≠ t → 184 ≠ t → Blk w' b cs t):=by
 obtain ⟨v,rs,m,bO,hI,hS,cO,cm,cI⟩:=h
 obtain ⟨ah,ch,rfl⟩:=sh.len
 obtain ⟨ad,cd,rfl⟩:=sd.len
 obtain ⟨av,cv,hv⟩:=(Sl.of_own hI.row).len
 subst hv
 obtain ⟨H,hH⟩ : ∃ H,H = head.length:=⟨_,rfl⟩
 obtain ⟨D,hD⟩ : ∃ D,D = data.length:=⟨_,rfl⟩
 obtain ⟨L,hL⟩ : ∃ L,L = iss.length:=⟨_,rfl⟩
 rw [← hH] at hlh
 rw [← hD] at hld
 rw [← hL] at hil
 rw [← hL] at bO
 obtain ⟨w0,hw0⟩ : ∃ w0,w0 = (((w.alloc (.cells #[U key.1,U key.2] 115)).alloc (.cells #[W n.epoch,W n.slot,U n.version] 113)).alloc (.cells #[.slice none 0 0,U 0#64,U 0#64] 165)):=⟨_,rfl⟩
 have hk0 : qA4 w w0:=by rw [hw0];exact ((qal _).alloc (by simp) _).alloc (by simp;omega) _
 have bK : Blk w0 w.heap.size #[U key.1,U key.2] 115:=by rw [hw0];exact ((Blk.new w _ _).kept (qal _)).kept (qal _)
 have bN : Blk w0 (w.heap.size + 1) #[W n.epoch,W n.slot,U n.version] 113:=by
  rw [hw0]
  have:=Blk.new (w.alloc (.cells #[U key.1,U key.2] 115)) #[W n.epoch,W n.slot,U n.version] 113
  rw [World.size_alloc] at this
  exact this.kept (qal _)
 have bZ : Blk w0 (w.heap.size + 1 + 1) #[.slice none 0 0,U 0#64,U 0#64] 165:=by
  rw [hw0]
  have:=Blk.new ((w.alloc (.cells #[U key.1,U key.2] 115)).alloc (.cells #[W n.epoch,W n.slot,U n.version] 113)) #[.slice none 0 0,U 0#64,U 0#64] 165
  rw [World.size_alloc,World.size_alloc] at this
  exact this
 have q0:=(bO.kept hk0).cell 0
 rw [hw0] at q0
 have i1 : (H : Int) ≤ 4000:=by omega
 have i2 : (D : Int) ≤ 4000:=by omega
 have i3 : ¬ 4000 < (H : Int):=by omega
 have i4 : ¬ 4000 < (D : Int):=by omega
 have i5 : (L : Int) ≤ 100000:=by omega
 have i6 : IntKind.i64.wrap ((L : Int) + 1) = (L : Int) + 1:=by rw [IntKind.wrap_i64];omega
 obtain ⟨no,hno⟩ : ∃ no,no = BitVec.ofNat 64 (L + 1):=⟨_,rfl⟩
 have hcv : ∀ wx : World,(convert 3 29 (.int .i64 ((L : Int) + 1))).run prog wx = .ok (U no) wx:=fun wx=>by
  rw [qAF wx 3 29 _ .u64 _ (by kernel_rfl) underlying29,qDd,hno,show ((L : Int) + 1) = ((L + 1 : Nat) : Int) by omega]
  rfl
 have HH:=qh hH
 have HD:=qh hD
 have HL:=qh hL
 have HN:=qh hno
 rw [← hH] at sh ⊢
 rw [← hD] at sd ⊢
 clear hH hD hL hno
 go_enter func64,ntmps64
 go_wp2_with fail
 rw [← hw0]
 clear hw0 q0
 refine (qAO no 8 (by omega) (by omega) w0).mono ?_
 rintro e w1 ⟨r,rfl,o1,k1⟩
 obtain ⟨ra,rc,rfl⟩:=(Sl.of_own o1).len
 obtain ⟨C,hC⟩ : ∃ C,C = D / 8 + 1:=⟨_,rfl⟩
 have j1 : IntKind.i64.wrap ((D : Int).tdiv 8 + 1) = (C : Int):=by rw [Int.tdiv_eq_ediv_of_nonneg (by omega),IntKind.wrap_i64];omega
 have j2 : D ≤ C * 8:=by omega
 have j3 : C ≤ 1000:=by omega
 have j4 : 1 ≤ C:=by omega
 have HC:=qh hC
 clear hC
 go_wp2_with fail
 rw [show ((D : Int) / 8 + 1) = (C : Int) by rw [HC.out];omega]
 refine (qL0 _ (qB2 no 8) C (qAb _ _) j4 j3 w1 (by rw [qAb];exact Sl.of_own o1)).mono ?_
 rintro e w2 ⟨g,rfl,so,hge,k2⟩
 have hrl : (Lib.repeatL (qB2 no 8) C).length = C * 8:=qDj _ _ (qAb _ _)
 have so0:=so
 replace so : Sl w2 (.slice (some ⟨g,0,none⟩) (C * 8) (C * 8)) (Lib.repeatL (qB2 no 8) C).length (qA1 (Lib.repeatL (qB2 no 8) C)):=by rw [hrl];exact so0
 replace hrl:=qh hrl
 clear so0
 replace j3 : ((D : Int) ≤ ((C * 8 : Nat) : Int)):=by omega
 have j5 : (0 : Int) ≤ (D : Int):=by omega
 go_wp2_with fail
 have kS0:=k1.of k2
 have kw2:=hk0.of kS0
 have bK2:=bK.kept kS0
 have bN2:=bN.kept kS0
 refine qBe w2.heap.size [(0,0),(1,0),(2,0),(4,0),(6,0),(7,0),(8,0),(9,0),(10,0)] (.light 0 (.light 1 (.light 2 (.light 4 (.light 6 (.light 7 (.light 8 (.light 9 (.two 3 11 (.two 5 11 (.light 10 (.heavy 11 (.heavy 12 .nil))) (.heavy 5 (.light 10 (.heavy 12 .nil)))) (.heavy 3 (.heavy 5 (.light 10 (.heavy 12 .nil))))))))))))) (by kernel_rfl) (by kernel_rfl) ?_
 intro w3 hw3
 have kS:=kw2.of hw3
 have hkS : qA4 w3 w3:=Below.refl _ _
 refine qA2 _ rfl (fun J hJ=>?_)
 refine qqP (by rfl) ?_;apply Exists.intro;refine ⟨fun w' hw'=>?_,hJ _ ?_⟩
 · have c:=((bK2.kept hw3).below hw' bK2.lt);have c0:=c.cell 0;have c1:=c.cell 1;clear c;go_simp;first|done|rfl
 clear hJ J;simp only [Act.put,qqB]
 refine qA2 _ rfl (fun J hJ=>?_)
 refine qqP (by rfl) ?_;apply Exists.intro;refine ⟨fun w' hw'=>?_,hJ _ ?_⟩
 · have c:=((bN2.kept hw3).below hw' bN2.lt);have c0:=c.cell 0;have c1:=c.cell 1;have c2:=c.cell 2;clear c;go_simp;first|done|rfl
 clear hJ J;simp only [Act.put,qqB]
 refine qA2 _ rfl (fun J hJ=>?_)
 refine qqP (by rfl) ?_;apply Exists.intro;refine ⟨fun w' hw'=>?_,hJ _ ?_⟩
 · go_simp;first|done|rfl
 clear hJ J;simp only [Act.put,qqB]
 refine qA2 _ rfl (fun J hJ=>?_)
 refine qqP (by rfl) ?_;apply Exists.intro;refine ⟨fun w' hw'=>?_,hJ _ ?_⟩
 · go_simp;first|done|rfl
 clear hJ J;simp only [Act.put,qqB]
 refine qA2 _ rfl (fun J hJ=>?_)
 refine qqP (by rfl) ?_;apply Exists.intro;refine ⟨fun w' hw'=>?_,hJ _ ?_⟩
 · go_simp;first|done|rfl
 clear hJ J;simp only [Act.put,qqB]
 refine qA2 _ rfl (fun J hJ=>?_)
 refine qqP (by rfl) ?_;apply Exists.intro;refine ⟨fun w' hw'=>?_,hJ _ ?_⟩
 · go_simp;first|done|rfl
 clear hJ J;simp only [Act.put,qqB]
 refine qA2 _ rfl (fun J hJ=>?_)
 refine qqP (by rfl) ?_;apply Exists.intro;refine ⟨fun w' hw'=>?_,hJ _ ?_⟩
 · go_simp;first|done|rfl
 clear hJ J;simp only [Act.put,qqB]
 refine qA2 _ rfl (fun J hJ=>?_)
 refine qqP (by rfl) ?_;apply Exists.intro;refine ⟨fun w' hw'=>?_,hJ _ ?_⟩
 · go_simp;first|done|rfl
 clear hJ J;simp only [Act.put,qqB]
 refine qBY ?_ ?_
 focus
  refine qAa _ rfl (fun J hJ=>?_)
  refine qqP (by rfl) ?_
  go_wp2_with fail
  refine (qAV _ head (by rw [← HH.out];omega) _ (by rw [← HH.out];exact sh.kept ((kS.of hkS)))).mono ?_
  rintro e y1 ⟨u,rfl,o1,kc⟩
  rw [← HH.out] at o1
  obtain ⟨b1,d1,rfl⟩:=(Sl.of_own o1).len
  replace o1:=qAg o1 (hkS.size)
  have hsz:=Nat.le_trans hw3.size hkS.size
  replace hkS:=qA4.of hkS kc
  go_wp2
  refine hJ _ _ (kc.mono hsz) ?_
  clear hJ J
  try simp only [Act.put,qqB]
  clear kc hsz
  refine qBY ?_ ?_
  focus
   refine qAa _ rfl (fun J hJ=>?_)
   refine qqP (by rfl) ?_
   go_wp2_with fail
   refine (qAV _ data (by rw [← HD.out];omega) _ (by rw [← HD.out];exact sd.kept ((kS.of hkS)))).mono ?_
   rintro e y2 ⟨u,rfl,o2,kc⟩
   rw [← HD.out] at o2
   obtain ⟨b2,d2,rfl⟩:=(Sl.of_own o2).len
   replace o2:=qAg o2 (hkS.size)
   have hsz:=Nat.le_trans hw3.size hkS.size
   replace o1:=qA3 o1 kc
   replace hkS:=qA4.of hkS kc
   go_wp2
   refine hJ _ _ (kc.mono hsz) ?_
   clear hJ J
   try simp only [Act.put,qqB]
   clear kc hsz
   refine qA2 _ rfl (fun J hJ=>?_)
   refine qqP (by rfl) ?_;apply Exists.intro;refine ⟨fun w' hw'=>?_,hJ _ ?_⟩
   · go_simp;first|done|rfl
   clear hJ J;simp only [Act.put,qqB]
   refine qAa _ rfl (fun J hJ=>?_)
   refine qqP (by rfl) ?_
   have kz : qA4 y2 (y2.alloc (.cells #[U 0#64,U 0#64,W 0#32,W 0#32,U 0#64,.slice none 0 0,.slice none 0 0,.slice none 0 0,U 0#64,U 0#64] 184)):=qal _
   have hsz:=Nat.le_trans hw3.size hkS.size
   have hgx : w2.heap.size ≤ y2.heap.size:=hsz
   have bX:=Blk.new y2 #[U 0#64,U 0#64,W 0#32,W 0#32,U 0#64,.slice none 0 0,.slice none 0 0,.slice none 0 0,U 0#64,U 0#64] 184
   replace o1:=qA3 o1 kz
   replace o2:=qA3 o2 kz
   replace hkS:=qA4.of hkS kz
   obtain ⟨gx,hgxe⟩ : ∃ gx,gx = y2.heap.size:=⟨_,rfl⟩
   rw [← hgxe] at bX hgx
   go_wp2
   refine hJ _ _ (kz.mono hsz) ?_
   clear hJ J
   try simp only [Act.put,qqB]
   rw [← hgxe]
   generalize (y2.alloc (.cells #[U 0#64,U 0#64,W 0#32,W 0#32,U 0#64,.slice none 0 0,.slice none 0 0,.slice none 0 0,U 0#64,U 0#64] 184)) = y3 at *
   clear kz hsz hgxe
  rotate_left
  focus
   refine qAa _ rfl (fun J hJ=>?_)
   refine qqP (by rfl) ?_
   have kz : qA4 y1 (y1.alloc (.cells #[U 0#64,U 0#64,W 0#32,W 0#32,U 0#64,.slice none 0 0,.slice none 0 0,.slice none 0 0,U 0#64,U 0#64] 184)):=qal _
   have hsz:=Nat.le_trans hw3.size hkS.size
   have hgx : w2.heap.size ≤ y1.heap.size:=hsz
   have bX:=Blk.new y1 #[U 0#64,U 0#64,W 0#32,W 0#32,U 0#64,.slice none 0 0,.slice none 0 0,.slice none 0 0,U 0#64,U 0#64] 184
   replace o1:=qA3 o1 kz
   replace hkS:=qA4.of hkS kz
   obtain ⟨gx,hgxe⟩ : ∃ gx,gx = y1.heap.size:=⟨_,rfl⟩
   rw [← hgxe] at bX hgx
   go_wp2
   refine hJ _ _ (kz.mono hsz) ?_
   clear hJ J
   try simp only [Act.put,qqB]
   rw [← hgxe]
   generalize (y1.alloc (.cells #[U 0#64,U 0#64,W 0#32,W 0#32,U 0#64,.slice none 0 0,.slice none 0 0,.slice none 0 0,U 0#64,U 0#64] 184)) = y2 at *
   clear kz hsz hgxe
   refine qAa _ rfl (fun J hJ=>?_)
   refine qqP (by rfl) ?_
   go_wp2_with fail
   refine (qAV _ data (by rw [← HD.out];omega) _ (by rw [← HD.out];exact sd.kept ((kS.of hkS)))).mono ?_
   rintro e y3 ⟨u,rfl,o2,kc⟩
   rw [← HD.out] at o2
   obtain ⟨b2,d2,rfl⟩:=(Sl.of_own o2).len
   replace o2:=qAg o2 (hkS.size)
   have hsz:=Nat.le_trans hw3.size hkS.size
   replace o1:=qA3 o1 kc
   replace bX:=Blk.kept bX kc
   replace hkS:=qA4.of hkS kc
   go_wp2
   refine hJ _ _ (kc.mono hsz) ?_
   clear hJ J
   try simp only [Act.put,qqB]
   clear kc hsz
   refine qA2 _ rfl (fun J hJ=>?_)
   refine qqP (by rfl) ?_;apply Exists.intro;refine ⟨fun w' hw'=>?_,hJ _ ?_⟩
   · go_simp;first|done|rfl
   clear hJ J;simp only [Act.put,qqB]
 rotate_left 2
 focus
  refine qAa _ rfl (fun J hJ=>?_)
  refine qqP (by rfl) ?_
  have kz : qA4 w3 (w3.alloc (.cells #[U 0#64,U 0#64,W 0#32,W 0#32,U 0#64,.slice none 0 0,.slice none 0 0,.slice none 0 0,U 0#64,U 0#64] 184)):=qal _
  have hsz:=Nat.le_trans hw3.size hkS.size
  have hgx : w2.heap.size ≤ w3.heap.size:=hsz
  have bX:=Blk.new w3 #[U 0#64,U 0#64,W 0#32,W 0#32,U 0#64,.slice none 0 0,.slice none 0 0,.slice none 0 0,U 0#64,U 0#64] 184
  replace hkS:=qA4.of hkS kz
  obtain ⟨gx,hgxe⟩ : ∃ gx,gx = w3.heap.size:=⟨_,rfl⟩
  rw [← hgxe] at bX hgx
  go_wp2
  refine hJ _ _ (kz.mono hsz) ?_
  clear hJ J
  try simp only [Act.put,qqB]
  rw [← hgxe]
  generalize (w3.alloc (.cells #[U 0#64,U 0#64,W 0#32,W 0#32,U 0#64,.slice none 0 0,.slice none 0 0,.slice none 0 0,U 0#64,U 0#64] 184)) = y1 at *
  clear kz hsz hgxe
  refine qAa _ rfl (fun J hJ=>?_)
  refine qqP (by rfl) ?_
  go_wp2_with fail
  refine (qAV _ head (by rw [← HH.out];omega) _ (by rw [← HH.out];exact sh.kept ((kS.of hkS)))).mono ?_
  rintro e y2 ⟨u,rfl,o1,kc⟩
  rw [← HH.out] at o1
  obtain ⟨b1,d1,rfl⟩:=(Sl.of_own o1).len
  replace o1:=qAg o1 (hkS.size)
  have hsz:=Nat.le_trans hw3.size hkS.size
  replace bX:=Blk.kept bX kc
  replace hkS:=qA4.of hkS kc
  go_wp2
  refine hJ _ _ (kc.mono hsz) ?_
  clear hJ J
  try simp only [Act.put,qqB]
  clear kc hsz
  refine qAa _ rfl (fun J hJ=>?_)
  refine qqP (by rfl) ?_
  go_wp2_with fail
  refine (qAV _ data (by rw [← HD.out];omega) _ (by rw [← HD.out];exact sd.kept ((kS.of hkS)))).mono ?_
  rintro e y3 ⟨u,rfl,o2,kc⟩
  rw [← HD.out] at o2
  obtain ⟨b2,d2,rfl⟩:=(Sl.of_own o2).len
  replace o2:=qAg o2 (hkS.size)
  have hsz:=Nat.le_trans hw3.size hkS.size
  replace bX:=Blk.kept bX kc
  replace o1:=qA3 o1 kc
  replace hkS:=qA4.of hkS kc
  go_wp2
  refine hJ _ _ (kc.mono hsz) ?_
  clear hJ J
  try simp only [Act.put,qqB]
  clear kc hsz
  refine qA2 _ rfl (fun J hJ=>?_)
  refine qqP (by rfl) ?_;apply Exists.intro;refine ⟨fun w' hw'=>?_,hJ _ ?_⟩
  · go_simp;first|done|rfl
  clear hJ J;simp only [Act.put,qqB]
 all_goals
  refine qAa _ rfl (fun J hJ=>?_)
  refine qqP (by rfl) ?_
  have f0:=bX.free 0
  have e0:=bX.cell 0
  have f1:=bX.free 1
  have e1:=bX.cell 1
  have f2:=bX.free 2
  have e2:=bX.cell 2
  have f3:=bX.free 3
  have e3:=bX.cell 3
  have f4:=bX.free 4
  have e4:=bX.cell 4
  have f5:=bX.free 5
  have e5:=bX.cell 5
  have f6:=bX.free 6
  have e6:=bX.cell 6
  have f7:=bX.free 7
  have e7:=bX.cell 7
  have f8:=bX.free 8
  have e8:=bX.cell 8
  have f9:=bX.free 9
  have e9:=bX.cell 9
  have hks2 : Below w2.heap.size y3 ((((((((((y3.setCell ⟨gx,0,none⟩ (U key.1)).setCell ⟨gx,1,none⟩ (U key.2)).setCell ⟨gx,2,none⟩ (W n.epoch)).setCell ⟨gx,3,none⟩ (W n.slot)).setCell ⟨gx,4,none⟩ (U n.version)).setCell ⟨gx,5,none⟩ (.slice b1 H d1)).setCell ⟨gx,6,none⟩ (.slice b2 D d2)).setCell ⟨gx,7,none⟩ (.slice (some ⟨g,0,none⟩) D (C * 8))).setCell ⟨gx,8,none⟩ (U 18446744073709551615#64)).setCell ⟨gx,9,none⟩ (U no)):=((((((((((Below.refl _ _).setCell (p:=⟨gx,0,none⟩) hgx _).setCell (p:=⟨gx,1,none⟩) hgx _).setCell (p:=⟨gx,2,none⟩) hgx _).setCell (p:=⟨gx,3,none⟩) hgx _).setCell (p:=⟨gx,4,none⟩) hgx _).setCell (p:=⟨gx,5,none⟩) hgx _).setCell (p:=⟨gx,6,none⟩) hgx _).setCell (p:=⟨gx,7,none⟩) hgx _).setCell (p:=⟨gx,8,none⟩) hgx _).setCell (p:=⟨gx,9,none⟩) hgx _
  have hcz : Chg [gx] y3 ((((((((((y3.setCell ⟨gx,0,none⟩ (U key.1)).setCell ⟨gx,1,none⟩ (U key.2)).setCell ⟨gx,2,none⟩ (W n.epoch)).setCell ⟨gx,3,none⟩ (W n.slot)).setCell ⟨gx,4,none⟩ (U n.version)).setCell ⟨gx,5,none⟩ (.slice b1 H d1)).setCell ⟨gx,6,none⟩ (.slice b2 D d2)).setCell ⟨gx,7,none⟩ (.slice (some ⟨g,0,none⟩) D (C * 8))).setCell ⟨gx,8,none⟩ (U 18446744073709551615#64)).setCell ⟨gx,9,none⟩ (U no)):=((((((((((Chg.refl _ _).set qsm 0 _).set qsm 1 _).set qsm 2 _).set qsm 3 _).set qsm 4 _).set qsm 5 _).set qsm 6 _).set qsm 7 _).set qsm 8 _).set qsm 9 _
  have bY:=((((((((((bX.set 0 (U key.1)).set 1 (U key.2)).set 2 (W n.epoch)).set 3 (W n.slot)).set 4 (U n.version)).set 5 (.slice b1 H d1)).set 6 (.slice b2 D d2)).set 7 (.slice (some ⟨g,0,none⟩) D (C * 8))).set 8 (U 18446744073709551615#64)).set 9 (U no))
  simp only [qqA,qq0,qq1] at bY
  have hkY : qA4 w2 ((((((((((y3.setCell ⟨gx,0,none⟩ (U key.1)).setCell ⟨gx,1,none⟩ (U key.2)).setCell ⟨gx,2,none⟩ (W n.epoch)).setCell ⟨gx,3,none⟩ (W n.slot)).setCell ⟨gx,4,none⟩ (U n.version)).setCell ⟨gx,5,none⟩ (.slice b1 H d1)).setCell ⟨gx,6,none⟩ (.slice b2 D d2)).setCell ⟨gx,7,none⟩ (.slice (some ⟨g,0,none⟩) D (C * 8))).setCell ⟨gx,8,none⟩ (U 18446744073709551615#64)).setCell ⟨gx,9,none⟩ (U no)):=Below.trans (qA4.of hw3 hkS) hks2
  replace o1:=qAt o1 hcz bX (by decide)
  replace o2:=qAt o2 hcz bX (by decide)
  go_wp2
  refine hJ _ _ (hks2) ?_
  clear hJ J
  try simp only [Act.put,qqB]
  clear hcz hks2 hkS bX f0 e0 f1 e1 f2 e2 f3 e3 f4 e4 f5 e5 f6 e6 f7 e7 f8 e8 f9 e9
  generalize ((((((((((y3.setCell ⟨gx,0,none⟩ (U key.1)).setCell ⟨gx,1,none⟩ (U key.2)).setCell ⟨gx,2,none⟩ (W n.epoch)).setCell ⟨gx,3,none⟩ (W n.slot)).setCell ⟨gx,4,none⟩ (U n.version)).setCell ⟨gx,5,none⟩ (.slice b1 H d1)).setCell ⟨gx,6,none⟩ (.slice b2 D d2)).setCell ⟨gx,7,none⟩ (.slice (some ⟨g,0,none⟩) D (C * 8))).setCell ⟨gx,8,none⟩ (U 18446744073709551615#64)).setCell ⟨gx,9,none⟩ (U no)) = y at *
  refine qCS ?_
  have kY:=kw2.of hkY
  have hrow : w.ownsRow 0 184 10 (Value.slice av L cv) L (qBV iss rs):=by rw [HL.out];exact hI.row
  have hOv : O ∉ (Value.slice av L cv).ownBlock.toList:=qBS hrow bO (by decide)
  have bOy:=bO.kept kY
  have hw2s : w.heap.size ≤ w2.heap.size:=kw2.size
  have hgxn : gx ∉ (Value.slice av L cv).ownBlock.toList:=fun hm=>by
   have:=qAo hrow (qAs.1 hm)
   omega
  go_wp2_with fail
  refine qAf ((Value.slice av L cv).ownBlock.toList) [(0,0),(1,0),(2,0),(3,0),(4,0),(5,0),(6,1),(7,1),(8,2),(9,2),(10,2)] (by kernel_rfl) (by kernel_rfl) ?_
  intro z1 hz1
  repeat
   refine qA0 _ rfl (fun K hK=>?_)
   first
    | (refine qqP (by rfl) ?_;apply Exists.intro;refine ⟨fun w' hw'=>?_,hK _ ?_⟩;(have c:=hw'.blk (bOy.kept hz1) hOv;have c0:=c.cell 0;clear c;have d:=hw'.blk (bY.kept hz1) hgxn;have e0:=d.cell 0;have e1:=d.cell 1;have e2:=d.cell 2;have e3:=d.cell 3;have e4:=d.cell 4;have e5:=d.cell 5;have e6:=d.cell 6;have e7:=d.cell 7;have e8:=d.cell 8;have e9:=d.cell 9;clear d;go_simp;first|done|rfl))
    | refine qqN (by rfl) (hK _ ?_)
   clear hK K;simp only [Act.put,qqB]
  refine qqH _ rfl (by rfl) (fun K hK=>?_)
  go_wp2
  refine hK _ _ (Chg.of_kept (qal _)) ?_
  clear hK K
  try simp only [Act.put,qqB]
  refine qqH _ rfl (by rfl) (fun K hK=>?_)
  have hro:=(qA3 hrow (kY.of hz1)).alloc (.cells #[U key.1,U key.2,W n.epoch,W n.slot,U n.version,.slice b1 H d1,.slice b2 D d2,.slice (some ⟨g,0,none⟩) D (C * 8),U 18446744073709551615#64,U no] 184)
  have hz1s:=hz1.size
  refine qBC qR2 (by rfl) (by rfl) (by rfl) hro (Sl.lit _ #[U key.1,U key.2,W n.epoch,W n.slot,U n.version,.slice b1 H d1,.slice b2 D d2,.slice (some ⟨g,0,none⟩) D (C * 8),U 18446744073709551615#64,U no] 184 1 (by decide)) (by rfl) (by intro u hu;simp at hu;rcases hu with rfl | rfl | rfl | rfl | rfl | rfl | rfl | rfl | rfl | rfl <;> rfl) (by show L + 1 ≤ maxLen;unfold maxLen;omega) (by show (L + 1) * 120 ≤ 140737488355328;omega) (Nat.zero_le _) ?_
  intro vN z2 hown hgr hat _
  obtain ⟨gN,cN,hve⟩:=qAx hown (by omega)
  subst hve
  have hgNlt:=qAo hown (g:=gN) rfl
  have hkA : qA4 y (z1.alloc (.cells #[U key.1,U key.2,W n.epoch,W n.slot,U n.version,.slice b1 H d1,.slice b2 D d2,.slice (some ⟨g,0,none⟩) D (C * 8),U 18446744073709551615#64,U no] 184)):=hz1.of (qal _)
  have hzA : y.heap.size ≤ (z1.alloc (.cells #[U key.1,U key.2,W n.epoch,W n.slot,U n.version,.slice b1 H d1,.slice b2 D d2,.slice (some ⟨g,0,none⟩) D (C * 8),U 18446744073709551615#64,U no] 184)).heap.size:=hkA.size
  have hcy : Chg (Value.slice av L cv).ownBlock.toList y z2:=(Chg.of_kept hkA).trans hgr.chgL
  have hz2:=hgr.size
  generalize (z1.alloc (.cells #[U key.1,U key.2,W n.epoch,W n.slot,U n.version,.slice b1 H d1,.slice b2 D d2,.slice (some ⟨g,0,none⟩) D (C * 8),U 18446744073709551615#64,U no] 184)) = zA at *
  refine hK _ _ (hgr.chgL) ?_
  clear hK K
  try simp only [Act.put,qqB]
  refine qAh _ rfl (fun K hK=>?_)
  refine qqP (by rfl) ?_
  go_wp2
  refine qAh _ rfl (fun K hK=>?_)
  refine qqP (by rfl) ?_
  go_wp2
  refine qAh _ rfl (fun K hK=>?_)
  refine qqP (by rfl) ?_
  have bO2:=hcy.blk bOy hOv
  have f0:=bO2.free 0
  have x0:=bO2.cell 0
  go_wp2
  refine qA7 ?_
  have hcO : Chg [O] z2 (z2.setCell ⟨O,0,none⟩ (.slice (some ⟨gN,0,none⟩) (L + 1) cN)):=(Chg.refl _ _).set qsm 0 _
  have bO3:=bO2.set 0 (.slice (some ⟨gN,0,none⟩) (L + 1) cN)
  simp only [List.setIfInBounds_toArray,List.set_cons_zero] at bO3
  replace hown:=qAt hown hcO bO2 (by decide)
  have hsz3 : z2.heap.size ≤ (z2.setCell ⟨O,0,none⟩ (.slice (some ⟨gN,0,none⟩) (L + 1) cN)).heap.size:=by simp
  have bX3:=hcO.blk (hcy.blk bY hgxn) (by rw [List.mem_singleton];intro e;have:=bO.lt;omega)
  clear f0 x0
  generalize (z2.setCell ⟨O,0,none⟩ (.slice (some ⟨gN,0,none⟩) (L + 1) cN)) = z3 at *
  have hc3 : Chg (O :: (Value.slice av L cv).ownBlock.toList) y z3:=(hcy.mono (fun b hb=>List.mem_cons_of_mem _ hb)).trans (hcO.mono (by simp))
  have hys : w.heap.size ≤ y.heap.size:=kY.size
  have fresh : ∀ k,w.heap.size ≤ k → k ∉ O :: (Value.slice av L cv).ownBlock.toList:=fun k hk hm=>by
   rcases List.mem_cons.1 hm with rfl | h
   · have:=bO.lt;omega
   · have:=qAo hrow (qAs.1 h);omega
  have lo1 : ∀ a n c,(Value.slice b1 H d1) = .slice (some a) n c → 0 < n → w.heap.size + 1 + 1 < a.block ∧ a.block < y.heap.size:=fun a n c e hn=>by
   cases e
   obtain ⟨gz,cz,e1,_⟩:=qFy o1 hn
   cases e1
   have h1:=qAM o1 (g:=gz) rfl
   have h2:=qAo o1 (g:=gz) rfl
   have h3:=hw3.size
   have h4:=kS0.size
   have h5:=bZ.lt
   exact ⟨by show w.heap.size + 1 + 1 < gz;omega,h2⟩
  have lo2 : ∀ a n c,(Value.slice b2 D d2) = .slice (some a) n c → 0 < n → w.heap.size + 1 + 1 < a.block ∧ a.block < y.heap.size:=fun a n c e hn=>by
   cases e
   obtain ⟨gz,cz,e1,_⟩:=qFy o2 hn
   cases e1
   have h1:=qAM o2 (g:=gz) rfl
   have h2:=qAo o2 (g:=gz) rfl
   have h3:=hw3.size
   have h4:=kS0.size
   have h5:=bZ.lt
   exact ⟨by show w.heap.size + 1 + 1 < gz;omega,h2⟩
  have so2 : Sl w2 (.slice (some ⟨g,0,none⟩) D (C * 8)) D (qA1 (qDT (L + 1) D)):=by
   have h0:=Sl.first so (n:=D) (by rw [hrl.out];exact j2)
   rw [List.length_take,hrl.out,Nat.min_eq_left j2] at h0
   have e : qDT (L + 1) D = (Lib.repeatL (qB2 no 8) C).take D:=by unfold qDT;rw [HN.out,HC.out]
   rw [e]
   exact h0
  have lo3 : ∀ a n c,(Value.slice (some ⟨g,0,none⟩) D (C * 8)) = .slice (some a) n c → 0 < n → w.heap.size + 1 + 1 < a.block ∧ a.block < y.heap.size:=fun a n c e hn=>by
   cases e
   have h1:=Sl.low so2 _ _ rfl (by rw [qA6,qBG];exact hn)
   have h2:=k1.size
   have h3:=hk0.size
   have h4:=hkY.size
   have h5:=bZ.lt
   exact ⟨by show w.heap.size + 1 + 1 < g;omega,by show g < y.heap.size;simp only at h1;omega⟩
  have tr : ∀ (u : Value) (bs : List UInt8) (N : Nat),N = bs.length → Sl y u N (qA1 bs) → (∀ a n c,u = .slice (some a) n c → 0 < n → w.heap.size + 1 + 1 < a.block ∧ a.block < y.heap.size) → Sl z3 u bs.length (qA1 bs):=fun u bs N hN hs hl=>by
   subst hN
   exact Chg.sl hs hc3 fun a c e hp=>fresh _ (by have:=(hl a _ c e (by rw [qA6] at hp;exact hp)).1;omega)
  have t1:=tr _ head H HH.out (Sl.of_own o1) lo1
  have t2:=tr _ data D HD.out (Sl.of_own o2) lo2
  have t3:=tr _ (qDT (L + 1) D) D (qBG _ _).symm (so2.kept hkY) lo3
  have g0:=bX3.cell 0
  have g1:=bX3.cell 1
  have g2:=bX3.cell 2
  have g3:=bX3.cell 3
  have g4:=bX3.cell 4
  have g5:=bX3.cell 5
  have g6:=bX3.cell 6
  have g7:=bX3.cell 7
  have g8:=bX3.cell 8
  have g9:=bX3.cell 9
  have hh4 : head.length ≤ 4000:=by rw [← HH.out];exact hlh
  have hd4 : data.length ≤ 4000:=by rw [← HD.out];exact hld
  have TT:=qOp ⟨key,n,head,data,qDT (L + 1) D,(18446744073709551615#64,no)⟩ (.slice b1 H d1) (.slice b2 D d2) (.slice (some ⟨g,0,none⟩) D (C * 8)) z3 hh4 hd4 (by show (qDT (L + 1) D).length ≤ 4000;rw [qBG];exact hld) t1 t2 t3
  unfold qEZ at TT
  simp only [qBG] at TT
  have bZ3:=hc3.blk ((bZ.kept kS0).kept hkY) (fresh _ (by omega))
  go_wp2_with fail
  refine TT.mono ?_
  rintro e z4 ⟨u1,u2,u3,rfl,ho3,k4⟩
  obtain ⟨b3,d3,rfl⟩:=(Sl.of_own ho3).len
  have bZ4:=bZ3.kept k4
  have f0:=bZ4.free 0
  have f1:=bZ4.free 1
  have f2:=bZ4.free 2
  have x0:=bZ4.cell 0
  have x1:=bZ4.cell 1
  have x2:=bZ4.cell 2
  have hfd:=qMI (U key.1) (U key.2) (W n.epoch) (W n.slot) (U n.version) u1 u2 (.slice b3 D d3) (U 18446744073709551615#64) (U no) z4
  go_wp2_with fail
  have bR:=((bZ4.set 0 (.slice b3 D d3)).set 1 (U 18446744073709551615#64)).set 2 (U no)
  simp only [qqA,qq0,qq1] at bR
  have hcR : Chg [w.heap.size + 1 + 1] z4 (((z4.setCell ⟨w.heap.size + 1 + 1,0,none⟩ (.slice b3 D d3)).setCell ⟨w.heap.size + 1 + 1,1,none⟩ (U 18446744073709551615#64)).setCell ⟨w.heap.size + 1 + 1,2,none⟩ (U no)):=(((Chg.refl _ _).set qsm 0 _).set qsm 1 _).set qsm 2 _
  clear f0 f1 f2 x0 x1 x2
  generalize (((z4.setCell ⟨w.heap.size + 1 + 1,0,none⟩ (.slice b3 D d3)).setCell ⟨w.heap.size + 1 + 1,1,none⟩ (U 18446744073709551615#64)).setCell ⟨w.heap.size + 1 + 1,2,none⟩ (U no)) = z5 at *
  have r0:=bR.cell 0
  have r1:=bR.cell 1
  have r2:=bR.cell 2
  have hfin : Chg (O :: (Value.slice av L cv).ownBlock.toList) w z5:=qDg (((Chg.of_kept kY).trans hc3).trans (Chg.of_kept k4)) hcR (by omega)
  have hns : ∀ b ∈ [w.heap.size + 1 + 1],b ∉ O :: (Value.slice av L cv).ownBlock.toList:=fun b hb=>fresh b (by rw [List.mem_singleton] at hb;omega)
  have hown5:=qAt (qA3 hown k4) hcR bZ4 (by decide)
  have bO5:=hcR.blk (bO3.kept k4) (by rw [List.mem_singleton];have:=bO.lt;omega)
  have ho35:=qAt ho3 hcR bZ4 (by decide)
  have k4s:=k4.size
  have hcRs:=hcR.size
  have tr2 : ∀ (u : Value) (bs : List UInt8) (N : Nat),N = bs.length → Sl z3 u bs.length (qA1 bs) → (∀ a n c,u = .slice (some a) n c → 0 < n → a.block ≠ w.heap.size + 1 + 1) → Sl z5 u bs.length (qA1 bs):=fun u bs N hN hs hl=>Chg.sl (hs.kept k4) hcR fun a c e hp hm=>hl a _ c e (by rw [qA6] at hp;exact hp) (List.mem_singleton.1 hm)
  have p1:=tr2 _ head _ rfl t1 (fun a n c e hn h=>by have:=(lo1 a n c e hn).1;omega)
  have p2:=tr2 _ data _ rfl t2 (fun a n c e hn h=>by have:=(lo2 a n c e hn).1;omega)
  have p3:=tr2 _ (qDT (L + 1) D) _ rfl t3 (fun a n c e hn h=>by have:=(lo3 a n c e hn).1;omega)
  have HP:=OrC.push (zA:=zA) (z2:=z2) (wF:=z5) (v':=.slice (some ⟨gN,0,none⟩) (L + 1) cN) ⟨key,n,head,data,qDT (L + 1) D,(18446744073709551615#64,no)⟩ (.slice b1 H d1,.slice b2 D d2,.slice (some ⟨g,0,none⟩) D (C * 8)) bO (by rw [HL.out];exact hI) hS cO cm (by rw [HL.out];exact cI) ht (by omega) hz2 (by omega) (by rw [← HL.out];exact hown5) hat (fun g' hg=>by cases hg;exact hgNlt) bO5 hfin p1 p2 p3 (fun s hs a n c e hn=>by
   simp only [List.mem_cons,List.not_mem_nil,or_false] at hs
   rcases hs with rfl | rfl | rfl
   · have:=lo1 a n c e hn;omega
   · have:=lo2 a n c e hn;omega
   · have:=lo3 a n c e hn;omega)
  refine bodyPost_ret (v:=.tuple #[.agg #[.slice b3 D d3,U 18446744073709551615#64,U no],.bool true]) (by simp [results,results64,go_sem,r0,r1,r2];done) rfl ⟨_,_,by rw [← HL.out,← HN.out],?_,fun g' hg=>?_,?_,HP.2,fun b cs t hb n1 n2=>hfin.blk hb fun hm=>?_⟩
  · rw [← HL.out]
    exact qAg ho35 (by omega)
  · have h1:=qAM ho35 hg
    unfold qAj
    rw [if_neg (by omega)]
    exact ht g' (by omega)
  · have:=HP.1
    unfold qEy
    rw [← HL.out,← HN.out,← HD.out]
    exact this
  · rcases List.mem_cons.1 hm with rfl | hm
    · exact qAC hb bO (fun e=>n1 e.symm) rfl
    · exact qBS hrow hb (fun e=>n2 e.symm) hm
end Go.Proofs.YtdlgihbpiakebaaGreat
