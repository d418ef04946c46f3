import Derived.Test.YtdlgihbpiakebaaGreatMd07
import Derived.Test.YtdlgihbpiakebaaGreatMd31
import Derived.Test.YtdlgihbpiakebaaGreatMd35
import Derived.Test.YtdlgihbpiakebaaGreatMd37
import Derived.Test.YtdlgihbpiakebaaGreatMd42
import Derived.Test.YtdlgihbpiakebaaGreatMd43
set_option maxRecDepth 100000
set_option maxHeartbeats 4000000
namespace Go.Proofs.YtdlgihbpiakebaaGreat
open Go Go.RowKit Tryz
def Lf.cells (x : Lf) : List Value:=[.int .i64 x.kind,.bool x.dirty,.int .i64 x.lba,W x.ep,W x.sl,U x.ver,U x.tag.1,U x.tag.2]
def qAu (l : List Lf) : List Value:=l.flatMap Lf.cells
theorem qBX (x : Lf) (l : List Lf) : qAu (x :: l) = .int .i64 x.kind :: .bool x.dirty :: .int .i64 x.lba :: W x.ep :: W x.sl :: U x.ver :: U x.tag.1 :: U x.tag.2 :: qAu l:=by simp [qAu,Lf.cells]
theorem qHx (a b : List Lf) : qAu (a ++ b) = qAu a ++ qAu b:=by simp [qAu]
theorem qBg : ∀ (l : List Lf),(qAu l).length = l.length * 8
 | []=>rfl
 | x :: l=>by rw [qBX];simp [qBg l];omega
theorem qDH : ∀ (l : List Lf) (i : Nat) (x : Lf),l[i]? = some x → ∀ j u,x.cells[j]? = some u → (qAu l)[i * 8 + j]? = some u
 | [],i,x,h=>by simp at h
 | y :: l,0,x,h=>by
  simp at h
  subst h
  intro j u hj
  have hl:=(List.getElem?_eq_some_iff.1 hj).1
  rw [Nat.zero_mul,Nat.zero_add]
  unfold qAu
  rw [List.flatMap_cons,List.getElem?_append_left hl]
  exact hj
 | y :: l,i + 1,x,h=>by
  intro j u hj
  have:=qDH l i x (by simpa using h) j u hj
  rw [qBX,show (i + 1) * 8 + j = i * 8 + j + 8 by omega]
  simpa using this
theorem qGT : ∀ (l : List Lf) (i : Nat) (x : Lf),i < l.length →
 (((((((((qAu l).toArray.setIfInBounds (i * 8) (.int .i64 x.kind)).setIfInBounds (i * 8 + 1) (.bool x.dirty)).setIfInBounds (i * 8 + 2) (.int .i64 x.lba)).setIfInBounds (i * 8 + 3) (W x.ep)).setIfInBounds (i * 8 + 4) (W x.sl)).setIfInBounds (i * 8 + 5) (U x.ver)).setIfInBounds (i * 8 + 6) (U x.tag.1)).setIfInBounds (i * 8 + 7) (U x.tag.2)) = (qAu (l.set i x)).toArray
 | [],i,x,h=>by simp at h
 | y :: l,0,x,h=>by
  apply Array.ext'
  simp only [Array.toList_setIfInBounds]
  rw [List.set_cons_zero,qBX,qBX]
  simp
 | y :: l,i + 1,x,h=>by
  have:=congrArg Array.toList (qGT l i x (by simpa using h))
  simp only [Array.toList_setIfInBounds] at this
  apply Array.ext'
  simp only [Array.toList_setIfInBounds]
  rw [List.set_cons_succ,qBX,qBX,show (i + 1) * 8 = (((((((i * 8 + 1) + 1) + 1) + 1) + 1) + 1) + 1) + 1 by omega]
  simp only [show ∀ a b : Nat,a + 1 + 1 + 1 + 1 + 1 + 1 + 1 + 1 + b = (a + b) + 1 + 1 + 1 + 1 + 1 + 1 + 1 + 1 by omega,List.set_cons_succ]
  rw [this]
theorem qGU (l : List Lf) : ∀ u ∈ qAu l,u.oneCell' = true:=by
 intro u hu
 unfold qAu at hu
 rw [List.mem_flatMap] at hu
 obtain ⟨x,_,hx⟩:=hu
 simp only [Lf.cells,List.mem_cons,List.not_mem_nil,or_false] at hx
 rcases hx with rfl | rfl | rfl | rfl | rfl | rfl | rfl | rfl <;> rfl
theorem qEA : SlT prog 105 117 8 56 (.agg #[.int .i64 0,.bool false,.int .i64 0,W 0#32,W 0#32,U 0#64,U 0#64,U 0#64]):=SlT.mk' underlying105 (by kernel_rfl) rfl (by omega)
def qB7 (l : List Lf) : Prop:=∀ (i : Nat) (x : Lf),l[i]? = some x → qAR x (i : Int) = true
theorem qB7.set {l : List Lf} (h : qB7 l) {i : Nat} {x : Lf} (hx : qAR x (i : Int) = true) : qB7 (l.set i x):=fun j y hj=>by
 rw [List.getElem?_set] at hj
 split at hj
 · rename_i e
   subst e
   split at hj
   · cases hj;exact hx
   · cases hj
 · exact h j y hj
def qAd (l : List Lf) : List (List UInt8):=l.map qDc
theorem qD2 (l : List Lf) : (qAd l).flatten.length = l.length * 32:=by
 induction l with
 | nil=>rfl
 | cons x l ih=>simp only [qAd,List.map_cons,List.flatten_cons,List.length_append,qBp] at *;rw [ih];simp;omega
def qBv (l : List qAB) : List UInt8:=(l.map qAN).flatten
theorem qD3 (l : List qAB) : (qBv l).length = l.length * 16:=by
 unfold qBv
 induction l with
 | nil=>rfl
 | cons x l ih=>simp only [List.map_cons,List.flatten_cons,List.length_append,qAr,ih];simp;omega
theorem qJE (l : List qAB) (p : qAB) : qBv (l ++ [p]) = qBv l ++ qAN p:=by simp [qBv]
theorem qHy (l : List Lf) (x : Lf) : qAd (l ++ [x]) = qAd l ++ [qDc x]:=by simp [qAd]
theorem qMO (W0 : Nat) (a : Nat) (ha : a < 2) (w : World) : Calls prog 104 #[.pointer (some ⟨W0,0,none⟩),.int .i64 (a : Int)] w fun e w'=>e = .returned (.bool true) ∧ w = w':=by
 have h1 : (0 : Int) ≤ (a : Int):=by omega
 have h2 : (a : Int) < 2:=by omega
 go_enter func104,ntmps104
 go_wp2
 go_ret
 exact ⟨rfl,rfl⟩
def Wd.areaB (x : Wd) (ls : List Lf) : List qAB × Lk:=qAT x.l (qAd ls)
def Wd.areaW1 (x : Wd) (a : Nat) (ls : List Lf) : Wd:=(x.setL (x.areaB ls).2).sWrite ((gLeaf x.n a 0 : Nat),(qAd ls).flatten)
def Wd.areaW2 (x : Wd) (a : Nat) (ls : List Lf) : Wd:=(x.areaW1 a ls).sWrite ((gNode x.n a 0 : Nat),qBv (x.areaB ls).1)
def Wd.areaW (x : Wd) (a : Nat) (ls : List Lf) : Wd:=if x.p.spend.1 then x.areaW2 a ls else x.areaW1 a ls
def Wd.areaOk (x : Wd) (a : Nat) (ls : List Lf) : Bool:=x.p.spend.1 && (x.areaW1 a ls).p.spend.1
def Wd.areaTop (x : Wd) (ls : List Lf) : qAB:=(x.areaB ls).1[1]?.getD (0#64,0#64)
def Wd.areaE (x : Wd) (a : Nat) (ls : List Lf) : Int:=if x.areaOk a ls then 0 else 7
def Wd.areaP (x : Wd) (a : Nat) (ls : List Lf) : qAB:=if x.areaOk a ls then x.areaTop ls else (0#64,0#64)
theorem qAX (ls : List Lf) : (qAd ls).length = ls.length:=by simp [qAd]
theorem qFg (x : Wd) (ls : List Lf) : (x.areaB ls).1.length = 2 * ls.length:=by unfold Wd.areaB;rw [qD1,qAX]
theorem qDr {x : Wd} {a : Nat} {ls : List Lf} (ha : a < 2) (hl : ls.length = x.n) (h0 : 0 < x.n) : inB (gSize x.n) ((gLeaf x.n a 0 : Nat),(qAd ls).flatten):=by
 refine ⟨by omega,?_,?_⟩ <;> simp only [qD2,hl,Int.toNat_natCast,gLeaf,gSize] <;> (have : a = 0 ∨ a = 1:=by omega) <;> rcases this with rfl | rfl <;> omega
theorem qDs {x : Wd} {a : Nat} {ls : List Lf} (ha : a < 2) (hl : ls.length = x.n) (h0 : 0 < x.n) : inB (gSize x.n) ((gNode x.n a 0 : Nat),qBv (x.areaB ls).1):=by
 refine ⟨by omega,?_,?_⟩ <;> simp only [qD3,qFg,hl,Int.toNat_natCast,gNode,gSize] <;> (have : a = 0 ∨ a = 1:=by omega) <;> rcases this with rfl | rfl <;> omega
theorem Wd.fine.build {x : Wd} {m : Nat} (f : x.fine m) (rows : List (List UInt8)) : (x.setL (qAT x.l rows).2).fine (m + rows.length + rows.length):=by
 have g:=f.up (k:=m + rows.length + rows.length) (by omega)
 exact ⟨⟨g.ok.sl,g.ok.s,g.ok.d,g.ok.ep,g.ok.el,g.ok.er,g.ok.en,g.ok.cv,g.ok.cb⟩,Lk.few_mono (qE8 f.few rows _) (by omega),qFX f.dat rows _⟩
theorem Wd.fine.areaW1 {x : Wd} {m a : Nat} {ls : List Lf} (f : x.fine m) (ha : a < 2) (hl : ls.length = x.n) (h0 : 0 < x.n) : (x.areaW1 a ls).fine (m + ls.length + ls.length + 1):=by
 have:=(f.build (qAd ls)).sWrite (qDr (ls:=ls) ha hl h0)
 rw [qAX] at this
 exact this
theorem Wd.fine.areaW2 {x : Wd} {m a : Nat} {ls : List Lf} (f : x.fine m) (ha : a < 2) (hl : ls.length = x.n) (h0 : 0 < x.n) : (x.areaW2 a ls).fine (m + ls.length + ls.length + 1 + 1) :=
 (f.areaW1 (a:=a) (ls:=ls) ha hl h0).sWrite (qDs (ls:=ls) ha hl h0)
structure qRD (w : World) (B : Nat) (v8 v9 : Value) (rows : List (List UInt8)) : Prop where
 own : qBs 32 5 w B v8 rows
 each : ∀ r ∈ rows,r.length = 32
 all : w.ownsRow B 5 1 v9 rows.flatten.length (qA1 rows.flatten)
 nil : rows = [] → v9.ownBlock = none
theorem qRD.empty (w : World) (B : Nat) : qRD w B (.slice none 0 0) (.slice none 0 0) [] :=
 ⟨⟨[],rfl,⟨rfl,.inl ⟨rfl,rfl⟩⟩,by simp,by simp⟩,by simp,⟨rfl,.inl ⟨rfl,rfl⟩⟩,fun _=>rfl⟩
theorem qR5 {rows : List (List UInt8)} (h : ∀ r ∈ rows,r.length = 32) : rows.flatten.length = rows.length * 32:=by
 induction rows with
 | nil=>rfl
 | cons r rows ih=>simp only [List.flatten_cons,List.length_append,List.length_cons];rw [h r (by simp),ih (fun r hr=>h r (by simp [hr]))];omega
theorem qMP (rows : List (List UInt8)) (b : List UInt8) : (rows ++ [b]).flatten = rows.flatten ++ b:=by simp
theorem qBs.one {T E : TypeId} {col : Nat → Nat} {w0 w w' : World} {B : Nat} {v : Value} {rows : List (List UInt8)} (h : qBs T E w B v rows) (ht : Top col w0) (hB : w0.heap.size ≤ B) (o : One 5 col col w w') : qBs T E w' B v rows:=by
 obtain ⟨us,h1,h2,h3,h4⟩:=h
 have hs:=o.same (j:=0) (by omega)
 have z : ∀ {u : Value} {n size : Nat} {e : TypeId} {xs : List Value},w.ownsRow B e size u n xs → w'.ownsRow B e size u n xs:=fun ho=>hs.own ho fun g hg=>ht g (Nat.le_trans hB (qAM ho hg))
 exact ⟨us,h1,z h2,h3,fun i bs u hi hu=>z (h4 i bs u hi hu)⟩
theorem Ext.newset {m g : Nat} {col col' : Nat → Nat} {w w1 w2 : World} (h : Ext m col col' w w1) (hc : Chg [g] w1 w2) (hg : w.heap.size ≤ g) : Ext m col col' w w2 :=
 ⟨hc.os.trans h.os,hc.tape.trans h.tape,hc.output.trans h.output,Nat.le_trans h.size hc.size,h.old,h.new,fun k hk=>h.top k (Nat.le_trans hc.size hk),fun k hk hcc=>(hc.block k (Nat.lt_of_lt_of_le hk h.size) (by rw [List.mem_singleton];omega)).trans (h.block k hk hcc)⟩
theorem Ext.sameOn {m : Nat} {col0 col col' : Nat → Nat} {w0 w w' : World} (h : Ext m col col' w w') (hc : ∀ k,k < w0.heap.size → col k = col0 k) : qA8 (fun k=>k < w0.heap.size ∧ (col0 k = 0 ∨ m < col0 k)) w w' :=
 ⟨h.os,h.tape,h.output,h.size,fun k hk hA=>h.block k hk (by rw [hc k hA.1];exact hA.2)⟩
theorem qEB {col : Nat → Nat} {w0 w : World} {B n size : Nat} {e : TypeId} {v : Value} {xs : List Value} (h : w.ownsRow B e size v n xs) (ht : Top col w0) (hB : w0.heap.size ≤ B) : ∀ g,v.ownBlock = some g → col g = 0:=fun g hg=>ht g (Nat.le_trans hB (qAM h hg))
theorem qHz {col : Nat → Nat} {w0 w : World} {B n : Nat} {e : TypeId} {v : Value} {xs : List Value} (h : w.ownsRow B e 1 v n xs) (ht : Top col w0) (hB : w0.heap.size ≤ B) : ∀ a c,v = .slice (some a) n c → 0 < xs.length → col a.block = 0:=fun a c e hl=>by
 have hn : 0 < n:=by have:=h.1;omega
 obtain ⟨g,cap,e2⟩:=qAx h hn
 rw [e2] at e
 cases e
 exact ht g (Nat.le_trans hB (qAM h (by rw [e2];rfl)))
theorem qKn {A : Nat → Prop} {w w' : World} {B n size : Nat} {e : TypeId} {v : Value} {xs : List Value} (h : w.ownsRow B e size v n xs) (s : qA8 A w w') (hA : ∀ g,v.ownBlock = some g → A g) : w'.ownsRow B e size v n xs:=by
 refine ⟨h.1,?_⟩
 rcases h.2 with h0 | ⟨g',cap',cur,rfl,hB,hb,r⟩
 · exact .inl h0
 · exact .inr ⟨g',cap',cur,rfl,hB,(s.block g' (Blk.lt hb) (hA g' rfl)).trans hb,r⟩
theorem qLm {col : Nat → Nat} {w : World} {P : qAQ} {x : Wd} {m : Nat} (hW : qAS col w P x) (fi : x.fine m) (hm : m ≤ 60000) (a : Nat) (ha : a < 2) (vl : Value) (ls : List Lf) (hl : ls.length = x.n) (hok : qB7 ls) (hs : Sl w vl ls.length (qAu ls)) :
 Calls prog 174 #[.pointer (some ⟨P.W,0,none⟩),.int .i64 (a : Int),vl] w fun e w'=>e = .returned (.tuple #[Pr (x.areaP a ls),.int .i64 (x.areaE a ls)]) ∧ qGM 6 col w P (x.areaW a ls) w':=by
 obtain ⟨va,vc,rfl⟩:=hs.len
 have hn16:=qAm fi.ok.sl
 obtain ⟨N,hN⟩ : ∃ N,N = ls.length:=⟨_,rfl⟩
 have hNx : x.n = N:=by rw [hN,hl]
 rw [← hN] at hs
 have HN:=qh hN
 have hbW:=hW.blk
 rw [hNx] at hbW hn16
 have HX:=qh hNx
 rw [← hN]
 have i1 : (N : Int) ≤ 16:=by omega
 have i2 : (0 : Int) < (N : Int):=by omega
 have hkA : qA4 w (w.alloc (.cells #[U 0#64,U 0#64] 115)):=qal _
 have bZ:=Blk.new w #[U 0#64,U 0#64] 115
 have q0:=(hbW.kept hkA).cell 0
 clear hN hNx hl
 go_enter func174,ntmps174
 go_wp2_with fail
 refine (qMO P.W a ha _).mono ?_
 rintro e w1 ⟨rfl,rfl⟩
 go_wp2_with fail
 obtain ⟨wA,hwA⟩ : ∃ wA,wA = (w.alloc (.cells #[U 0#64,U 0#64] 115)):=⟨_,rfl⟩
 rw [← hwA] at hkA bZ q0 ⊢
 clear hwA
 go_loopw [36,8,9] (fun i v8 v9 wr=>∃ k : Nat,i = .int .i64 k ∧ k ≤ N ∧ qA4 wA wr ∧ qRD wr wA.heap.size v8 v9 (qAd (ls.take k))) (fun i _ _ _=>N - (intOf i).toNat)
 case atStart=>exact ⟨0,rfl,by omega,Below.refl _ _,qRD.empty _ _⟩
 case round =>
  obtain ⟨k,rfl,hk,hkr,hL⟩:=hrel
  have hkz:=hkr.size
  by_cases hlt : k < N
  · have m1 : (k : Int) < (N : Int):=by omega
    have m2 : (0 : Int) ≤ (k : Int):=by omega
    have hkl : k < ls.length:=by rw [← HN.out];exact hlt
    obtain ⟨y,hy⟩ : ∃ y,y = ls[k]:=⟨_,rfl⟩
    have hky : ls[k]? = some y:=by rw [List.getElem?_eq_getElem hkl,hy]
    have hyo:=hok k y hky
    obtain ⟨bA,oA,cA,e,_,_,_,hxc⟩:=((hs.kept hkA).kept hkr).at (by rw [qBg];omega)
    cases e
    have hw : ∀ j u,y.cells[j]? = some u → wr.cell? ⟨bA,oA + (k * 8 + j),none⟩ = some u:=fun j u hj=>hxc _ u (qDH ls k y hky j u hj)
    have d0 : wr.cell? ⟨bA,oA + k * 8,none⟩ = some (.int .i64 y.kind):=hw 0 _ rfl
    have d1 : wr.cell? ⟨bA,oA + k * 8 + 1,none⟩ = some (.bool y.dirty):=hw 1 _ rfl
    have d2 : wr.cell? ⟨bA,oA + k * 8 + 2,none⟩ = some (.int .i64 y.lba):=hw 2 _ rfl
    have d3 : wr.cell? ⟨bA,oA + k * 8 + 3,none⟩ = some (W y.ep):=hw 3 _ rfl
    have d4 : wr.cell? ⟨bA,oA + k * 8 + 4,none⟩ = some (W y.sl):=hw 4 _ rfl
    have d5 : wr.cell? ⟨bA,oA + k * 8 + 5,none⟩ = some (U y.ver):=hw 5 _ rfl
    have d6 : wr.cell? ⟨bA,oA + k * 8 + 6,none⟩ = some (U y.tag.1):=hw 6 _ rfl
    have d7 : wr.cell? ⟨bA,oA + k * 8 + 7,none⟩ = some (U y.tag.2):=hw 7 _ rfl
    have hsnoc : qAd (ls.take (k + 1)) = qAd (ls.take k) ++ [qDc y]:=by rw [List.take_add_one,hky];exact qHy _ _
    have hrl : (qAd (ls.take k)).length = k:=by rw [qAX,List.length_take];omega
    obtain ⟨rows,hrows⟩ : ∃ r,r = qAd (ls.take k):=⟨_,rfl⟩
    rw [← hrows] at hL hsnoc hrl
    obtain ⟨⟨us,u1,u2,u3,u4⟩,hL2,hL3,hL4⟩:=hL
    have hfl:=qR5 hL2
    have HSN:=qh hsnoc
    have HRL:=qh hrl
    have HFL:=qh hfl
    have U1:=qh u1
    have CC:=qDq y.kind y.dirty y.lba y.ep y.sl y.ver y.tag.1 y.tag.2 (k : Int) (by omega) (by omega) hyo
    obtain ⟨Fl,hFl⟩ : ∃ n,n = rows.flatten.length:=⟨_,rfl⟩
    obtain ⟨Rl,hRl⟩ : ∃ n,n = rows.length:=⟨_,rfl⟩
    rw [← hFl] at hL3
    rw [← hRl] at u2
    have HF:=qh hFl
    have HR:=qh hRl
    obtain ⟨lb,hlb⟩ : ∃ b,b = qDc y:=⟨_,rfl⟩
    have hlbl : lb.length = 32:=by rw [hlb];exact qBp y
    have CC' : ∀ wx,Calls prog 146 #[.agg #[.int .i64 y.kind,.bool y.dirty,.int .i64 y.lba,W y.ep,W y.sl,U y.ver,U y.tag.1,U y.tag.2],.int .i64 (k : Int)] wx fun e' w'=>∃ x,e' = .returned (.tuple #[x,.bool true]) ∧ w'.ownsRow wx.heap.size 5 1 x 32 (qA1 lb) ∧ qA4 wx w':=fun wx=>by rw [hlb];exact CC wx
    have HLB:=qh hlb
    have HLL:=qh hlbl
    clear hw hxc hy hrows hsnoc hrl hfl u1 CC hFl hRl hlb hlbl hky hyo
    have hkL : qA4 wr (wr.alloc (.cells #[.int .i64 y.kind,.bool y.dirty,.int .i64 y.lba,W y.ep,W y.sl,U y.ver,U y.tag.1,U y.tag.2] 117)):=qal _
    go_wp2_with fail
    refine (CC' _).mono ?_
    rintro e w2 ⟨u,rfl,hu,hk2⟩
    have hk2' : qA4 wr w2:=hkL.of hk2
    have hz2:=hk2'.size
    obtain ⟨ua,uc,rfl⟩:=(Sl.of_own hu).len
    have hRm : Rl + 1 ≤ 100:=by rw [HR.out,HRL.out];omega
    have hFm : Fl + 32 ≤ 4000:=by rw [HF.out,HFL.out];have:=HRL.out;omega
    have u2':=qA3 u2 hk2'
    have hub:=qAg hu (Nat.zero_le _)
    go_wp2_with (first | (at_builtin;refine qAv qHm rfl (by rfl) (by rfl) (by rfl) (u2'.alloc _) (Sl.one _ _ _) (by rfl) (fun x hx=>by rw [List.mem_singleton.1 hx];exact qCY hu) (by unfold maxLen;omega) (by omega) (by simp;omega) ?_;intro v3 w3 hown3 hg3 hat3;have hka : qA4 w2 (w2.alloc (.cells #[.slice ua 32 uc] 32)):=qal _;have hk3 : qA4 wA w3:=qAD ((hkr.of hk2').alloc (by omega) _) (u2'.alloc _) hg3 (by simp;omega);have hu3:=qEm (qA3 hu hka) (u2'.alloc _) (by decide) hg3;have h93:=qEm (qA3 (qA3 hL3 hk2') hka) (u2'.alloc _) (by decide) hg3;have hz3 : w2.heap.size ≤ w3.heap.size:=Nat.le_trans hka.size hg3.size) | (at_builtin;refine qB6 qAw rfl (by rfl) (by rfl) (by rfl) h93 (show Sl w3 (.slice ua 32 uc) 32 (qA1 lb) from Sl.of_own hu3) (by rw [qA6,HLL.out]) (qAI _) (by unfold maxLen;omega) (by omega) (by omega) ?_;intro v4 w4 hown4 hg4 hat4 _))
    have hz4:=hg4.size
    have el : ∀ (u : Value) (bs : List UInt8),bs.length = 32 → w3.ownsRow wA.heap.size 5 1 u bs.length (qA1 bs) → w4.ownsRow wA.heap.size 5 1 u bs.length (qA1 bs):=fun u bs hb ho=>by
     by_cases hk0 : k = 0
     · have hr0 : rows = []:=List.eq_nil_of_length_eq_zero (by rw [HRL.out,hk0])
       have hnil:=hL4 hr0
       rw [hnil] at hg4
       exact qAK ho hg4.chgL (fun g hg hm=>by cases hm)
     · exact hg4.own ho (by rw [hb,HF.out,HFL.out];have:=HRL.out;omega)
    have hk4 : qA4 wA w4:=hk3.trans (hg4.below (fun i hi=>(h93.lt i hi).1) (by omega))
    refine ⟨⟨k + 1,rfl,by omega,hk4,?_⟩,by simp [intOf];omega⟩
    rw [HSN.out,← HLB.out]
    have R3 : qBs 32 5 w3 wA.heap.size v3 (rows ++ [lb]) :=
     qBs.snoc U1.out (by rw [← HR.out];exact u2'.alloc _) u3 (fun i bs x hi hx=>qA3 (qA3 (u4 i bs x hi hx) hk2') hka) (by rw [HLL.out];exact qAg (qA3 hu hka) (Nat.le_trans hkz hkL.size)) (by decide) hg3 (by rw [← HR.out];exact hown3)
    obtain ⟨us3,r1,r2,r3,r4⟩:=R3
    have hea : ∀ r ∈ rows ++ [lb],r.length = 32:=fun r hr=>by
     rcases List.mem_append.1 hr with hr | hr
     · exact hL2 r hr
     · rw [List.mem_singleton.1 hr];exact HLL.out
    refine ⟨⟨us3,r1,qAK r2 hg4.chgL (fun g hg hm=>?_),r3,fun i bs u hi hx=>el u bs (hea bs (List.mem_of_getElem? hi)) (r4 i bs u hi hx)⟩,hea,?_,fun e=>by simp at e⟩
    · obtain ⟨c1,hc1⟩:=qAp r2 hg
      obtain ⟨c2,hc2⟩:=qAp h93 (qAs.1 hm)
      exact qAC hc1 hc2 (by decide) rfl
    · rw [qMP,List.length_append,qBf,HLL.out,← HF.out]
      exact hown4
  · have hkN : k = N:=by omega
    have htk : ls.take k = ls:=List.take_of_length_le (by rw [← HN.out];omega)
    rw [htk] at hL
    have hngt : ¬ (k : Int) < (N : Int):=by omega
    clear hkN htk hlt hk
    obtain ⟨hO8,hE8,hO9,_⟩:=hL
    have hkw:=hkA.of hkr
    have hzA:=hkA.size
    have hxr:=hW.kept hkw
    have CB:=qGS col P.l x.l _ (qAd ls) (by rw [qAX,← HN.out,← HX.out];exact fi.ok.sl) (fun r hr=>by rw [hE8 r hr];omega) (Lk.few_mono fi.few (by omega)) wr hxr.lock hxr.top (fun w' o=>(hO8.one hW.top hzA o).sl)
    rw [qAX,← HN.out] at CB
    have qW:=hxr.blk.cell 6
    have q0W:=hbW.kept hkw
    go_wp2_with fail
    refine CB.mono ?_
    rintro e wB ⟨g,rfl,hBn,hge,hLk,o5⟩
    have hgB:=hBn.lt
    obtain ⟨hxB,eB⟩:=hxr.stepL hLk o5
    have hO9B : wB.ownsRow wA.heap.size 5 1 _ (qAd ls).flatten.length (qA1 (qAd ls).flatten):=(o5.same (j:=0) (by omega)).own hO9 (qEB hO9 hW.top hzA)
    have hndl : (qAT x.l (qAd ls)).1.length = 2 * N:=by rw [qD1,qAX,← HN.out]
    obtain ⟨nd,hnd⟩ : ∃ n,n = (qAT x.l (qAd ls)).1:=⟨_,rfl⟩
    rw [← hnd] at hBn hndl
    have HND:=qh hnd
    have HNL:=qh hndl
    clear hnd hndl qW
    have j1 : 2 * (N : Int) ≤ 32:=by omega
    go_wp2_with fail
    go_loopw [69,10] (fun i v10 wr=>∃ k : Nat,i = .int .i64 k ∧ k ≤ 2 * N ∧ qA4 wB wr ∧ wr.ownsRow wB.heap.size 5 1 v10 (k * 16) (qA1 (qBv (nd.take k)))) (fun i _ _=>2 * N - (intOf i).toNat)
    case atStart=>exact ⟨0,rfl,by omega,Below.refl _ _,⟨rfl,.inl ⟨rfl,rfl⟩⟩⟩
    case round =>
     obtain ⟨k2,rfl,hk2,hkr2,hO10⟩:=hrel
     have hkz2:=hkr2.size
     by_cases hlt2 : k2 < 2 * N
     · have m1 : (k2 : Int) < 2 * (N : Int):=by omega
       have m2 : (0 : Int) ≤ (k2 : Int):=by omega
       have hkl2 : k2 < nd.length:=by rw [HNL.out];exact hlt2
       have e1:=qCp nd k2 hkl2
       have hBk:=hBn.kept hkr2
       have c0:=(hBk.cell (k2 * 2)).trans e1.1
       have c1:=(hBk.cell (k2 * 2 + 1)).trans e1.2
       have hsnoc : qBv (nd.take (k2 + 1)) = qBv (nd.take k2) ++ qAN (nd[k2]?.getD (0#64,0#64)):=by rw [List.take_add_one,List.getElem?_eq_getElem hkl2];exact qJE _ _
       obtain ⟨p,hp⟩ : ∃ p,p = nd[k2]?.getD (0#64,0#64):=⟨_,rfl⟩
       rw [← hp] at c0 c1 hsnoc
       have HSN2:=qh hsnoc
       obtain ⟨p1,p2⟩:=p
       have hkP : qA4 wr (wr.alloc (.cells #[U p1,U p2] 115)):=qal _
       have CY:=fun wx=>qBl p1 p2 wx
       obtain ⟨pb,hpb⟩ : ∃ b,b = qAN (p1,p2):=⟨_,rfl⟩
       have hpl : pb.length = 16:=by rw [hpb];exact qAr _
       rw [← hpb] at CY HSN2
       have HPL:=qh hpl
       clear hp hsnoc e1 hkl2 hpb hpl
       simp only at c0 c1
       go_wp2_with fail
       refine (CY _).mono ?_
       rintro e w5 ⟨u5,rfl,hu5,hk5⟩
       have hk5':=hkP.of hk5
       have h105:=qA3 hO10 hk5'
       have hz5:=hk5'.size
       go_wp2_with (at_builtin;refine qB6 qAw rfl (by rfl) (by rfl) (by rfl) h105 (Sl.of_own hu5) (by rw [qA6,HPL.out]) (qAI _) (by unfold maxLen;omega) (by omega) (by omega) ?_;intro v6 w6 hown6 hg6 hat6 _)
       refine ⟨⟨k2 + 1,rfl,by omega,(hkr2.of hk5').trans (hg6.below (fun i hi=>(h105.lt i hi).1) (by omega)),?_⟩,by simp [intOf];omega⟩
       rw [HSN2.out,qBf,show (k2 + 1) * 16 = k2 * 16 + 16 by omega]
       exact hown6
     · have hkN2 : k2 = 2 * N:=by omega
       have htk2 : nd.take k2 = nd:=List.take_of_length_le (by rw [HNL.out];omega)
       rw [htk2,hkN2] at hO10
       have hngt2 : ¬ (k2 : Int) < 2 * (N : Int):=by omega
       clear hkN2 htk2 hlt2 hk2
       have hxC:=hxB.kept hkr2
       have eC : Ext 6 col col w wr:=((Ext.kept hW.top hkw).trans eB).trans (Ext.kept hxB.top hkr2)
       have hwz : w.heap.size ≤ wr.heap.size:=eC.size
       have bZC : Blk wr w.heap.size #[U 0#64,U 0#64] 115:=Blk.kept ((o5.block _ (bZ.kept hkr).lt (by rw [hW.top _ qle];decide)).trans (bZ.kept hkr)) hkr2
       have hwB : w.heap.size ≤ wB.heap.size:=((Ext.kept (m:=6) hW.top hkw).trans eB).size
       have hg0 : col g = 0:=hW.top g (by have:=hkw.size;omega)
       have hBC:=hBn.kept hkr2
       have sl9:=(Sl.of_own hO9B).kept hkr2
       have hu9:=qHz hO9 hW.top hzA
       have hsl : qDR (N : Int) = true:=by rw [← HX.out];exact fi.ok.sl
       have hlx : ls.length = x.n:=by rw [← HN.out,HX.out]
       have hN0 : 0 < x.n:=by rw [HX.out];omega
       have fx1 : (x.setL (qAT x.l (qAd ls)).2).fine (m + N + N):=by have:=fi.build (qAd ls);rw [qAX,← HN.out] at this;exact this
       have fx2 : (x.areaW1 a ls).fine (m + N + N + 1):=by have:=fi.areaW1 (ls:=ls) ha hlx hN0;rw [← HN.out] at this;exact this
       have hin1 : inB (gSize (x.setL (qAT x.l (qAd ls)).2).n) ((gLeaf N a 0 : Nat),(qAd ls).flatten):=by
        have:=qDr (x:=x) (ls:=ls) ha hlx hN0
        rw [HX.out] at this
        show inB (gSize x.n) _
        rw [HX.out];exact this
       have hin2 : inB (gSize (x.areaW1 a ls).n) ((gNode N a 0 : Nat),qBv nd):=by
        have:=qDs (x:=x) (ls:=ls) ha hlx hN0
        unfold Wd.areaB at this
        rw [HX.out,← HND.out] at this
        show inB (gSize x.n) _
        rw [HX.out];exact this
       have CL : ∀ z,Calls prog 105 #[.agg #[.int .i64 (N : Int)],.int .i64 (a : Int),.int .i64 0] z fun e z'=>e = .returned (.int .i64 (gLeaf N a 0 : Nat)) ∧ qA4 z z':=fun z=>qFR N hsl a 0 ha (by omega) z
       have CN : ∀ z,Calls prog 185 #[.agg #[.int .i64 (N : Int)],.int .i64 (a : Int),.int .i64 0] z fun e z'=>e = .returned (.int .i64 (gNode N a 0 : Nat)) ∧ qA4 z z':=fun z=>qMx N hsl a 0 ha (by omega) z
       obtain ⟨B1,hB1⟩ : ∃ b,b = x.p.spend.1:=⟨_,rfl⟩
       obtain ⟨B2,hB2⟩ : ∃ b,b = (x.areaW1 a ls).p.spend.1:=⟨_,rfl⟩
       have HB1:=qh hB1
       have HB2:=qh hB2
       replace hN0:=qh hN0
       replace hlx:=qh hlx
       replace hsl:=qh hsl
       clear hB1 hB2
       go_wp2_with fail
       cases B1 with
       | false =>
        refine qAe (qA8 (fun k=>k < wr.heap.size ∧ (col k = 0 ∨ 6 < col k))) [(0,0),(1,0),(2,0),(3,0),(4,0),(5,0),(6,0),(7,0),(8,0),(10,0),(9,1),(11,1),(12,0),(13,0),(14,0),(15,0),(16,0),(17,0),(18,0),(19,0),(20,0),(21,0),(22,0),(24,0),(23,1),(25,1),(26,0),(27,0)] (by kernel_rfl) (by kernel_rfl) ?_ ?_ ?_
        · exact fun _=>qA8.refl _
        · exact fun _ _ _ h1 h2=>h1.trans h2
        intro z1 hz1
        have hxC1:=hxC.kept hz1
        have bW1:=hxC1.blk
        rw [show (x.setL (qAT x.l (qAd ls)).2).n = N from HX.out] at bW1
        have hWz1:=Nat.lt_of_lt_of_le hW.blk.lt hwz
        repeat
         refine qA0 _ rfl (fun K hK=>?_)
         first
          | (refine qqP (by rfl) ?_;apply Exists.intro;refine ⟨fun w' hw'=>?_,hK _ ?_⟩;(have c:=(hw'.block _ (bW1).lt ⟨hWz1,.inr (by rw [hW.cW];decide)⟩).trans (bW1);have c0:=Blk.cell c 0;have c2:=Blk.cell c 2;clear c;go_simp;first|done|rfl))
          | refine qqN (by rfl) (hK _ ?_)
         clear hK K;simp only [Act.put,qqB]
        refine qqH _ rfl (by rfl) (fun K hK=>?_)
        go_wp2_with fail
        refine (CL z1).mono ?_
        rintro e z2 ⟨rfl,hk2⟩
        have hz2:=hk2.size
        go_wp2
        refine hK _ _ (qA8.of_kept hk2) ?_
        clear hK K
        try simp only [Act.put,qqB]
        refine qqH _ rfl (by rfl) (fun K hK=>?_)
        go_wp2_with fail
        refine (qEw (hxC1.kept hk2) fx1.ok (by omega) (gLeaf N a 0 : Nat) _ (qAd ls).flatten hin1 ((sl9.kept hz1).kept hk2) hu9).mono ?_
        rintro e z3 ⟨rfl,col3,hx3,E3⟩
        rw [show (x.setL (qAT x.l (qAd ls)).2).p.spend.1 = _ from HB1.out.symm]
        have S3:=E3.sameOn (w0:=wr) (col0:=col) (fun k hk=>rfl)
        have hz3:=E3.size
        have bW3:=hx3.blk
        rw [show (((x.setL (qAT x.l (qAd ls)).2).sWrite ((gLeaf N a 0 : Nat),(qAd ls).flatten)).n) = N from HX.out] at bW3
        replace hx3 : qAS col3 z3 P (x.areaW1 a ls):=by unfold Wd.areaW1 Wd.areaB;rw [HX.out];exact hx3
        go_wp2
        refine hK _ _ (S3) ?_
        clear hK K
        try simp only [Act.put,qqB]
        repeat
         refine qA0 _ rfl (fun K hK=>?_)
         first
          | (refine qqP (by rfl) ?_;apply Exists.intro;refine ⟨fun w' hw'=>?_,hK _ ?_⟩;(have c:=(hw'.block _ (bW3).lt ⟨hWz1,.inr (by rw [hW.cW];decide)⟩).trans (bW3);have c0:=Blk.cell c 0;have c2:=Blk.cell c 2;clear c;go_simp;first|done|rfl))
          | refine qqN (by rfl) (hK _ ?_)
         clear hK K;simp only [Act.put,qqB]
        refine qB5 _ rfl (fun K hK=>?_)
        refine qqN (by rfl) ?_
        intro hK'
        refine hK' _ _ ?_
        clear hK hK' K
        simp only [Act.put,qqB]
        refine qB5 _ rfl (fun K hK=>?_)
        refine qqN (by rfl) ?_
        intro hK'
        refine hK' _ _ ?_
        clear hK hK' K
        simp only [Act.put,qqB]
        repeat
         refine qA0 _ rfl (fun K hK=>?_)
         first
          | (refine qqP (by rfl) ?_;apply Exists.intro;refine ⟨fun w' hw'=>?_,hK _ ?_⟩;go_simp;first|done|rfl)
          | refine qqN (by rfl) (hK _ ?_)
         clear hK K;simp only [Act.put,qqB]
        refine qA7 ?_
        have ex : Ext 6 col col3 w z3:=((eC.trans (Ext.kept hxC.top hz1)).trans (Ext.kept hxC1.top hk2)).trans E3
        have hbz : Blk z3 w.heap.size #[U 0#64,U 0#64] 115:=(((qA8.of_kept hk2).trans S3).block _ (bZC.kept hz1).lt ⟨bZC.lt,.inl (hW.top _ qle)⟩).trans (bZC.kept hz1)
        have hcz : col3 w.heap.size = 0:=(E3.old _ (Nat.lt_of_lt_of_le bZC.lt (Nat.le_trans hz1.size hz2))).trans (hW.top _ qle)
        have f0:=hbz.free 0
        have f1:=hbz.free 1
        have x0:=hbz.cell 0
        have x1:=hbz.cell 1
        go_wp2_with fail
        have bR:=(hbz.set 0 (U 0#64)).set 1 (U 0#64)
        have hcF : Chg [w.heap.size] z3 ((z3.setCell ⟨w.heap.size,0,none⟩ (U 0#64)).setCell ⟨w.heap.size,1,none⟩ (U 0#64)):=((Chg.refl _ _).set qsm 0 _).set qsm 1 _
        have r0:=bR.cell 0
        have r1:=bR.cell 1
        generalize ((z3.setCell ⟨w.heap.size,0,none⟩ (U 0#64)).setCell ⟨w.heap.size,1,none⟩ (U 0#64)) = zF at *
        have hwF:=hx3.chg hcF (fun b hb=>by rw [List.mem_singleton] at hb;subst hb;exact .inl hcz)
        have hres : x.areaOk a ls = false:=by unfold Wd.areaOk;rw [← HB1.out];rfl
        have hnx : x.areaW a ls = x.areaW1 a ls:=by unfold Wd.areaW;rw [← HB1.out];rfl
        refine bodyPost_ret (v:=.tuple #[.agg #[U 0#64,U 0#64],.int .i64 7]) (by simp [results,results174,go_sem,r0,r1];done) rfl ⟨by unfold Wd.areaP Wd.areaE;rw [hres];rfl,col3,by rw [hnx];exact hwF,ex.newset hcF qle⟩
       | true =>
        refine qAe (qA8 (fun k=>k < wr.heap.size ∧ (col k = 0 ∨ 6 < col k))) [(0,0),(1,0),(2,0),(3,0),(4,0),(5,0),(6,0),(7,0),(8,0),(10,0),(9,1),(11,1),(12,0),(13,0),(14,0),(15,0),(16,0),(17,0),(18,0),(19,0),(20,0),(21,0),(22,0),(24,0),(23,1),(25,1),(26,0),(27,0)] (by kernel_rfl) (by kernel_rfl) ?_ ?_ ?_
        · exact fun _=>qA8.refl _
        · exact fun _ _ _ h1 h2=>h1.trans h2
        intro z1 hz1
        have hxC1:=hxC.kept hz1
        have bW1:=hxC1.blk
        rw [show (x.setL (qAT x.l (qAd ls)).2).n = N from HX.out] at bW1
        have hWz1:=Nat.lt_of_lt_of_le hW.blk.lt hwz
        repeat
         refine qA0 _ rfl (fun K hK=>?_)
         first
          | (refine qqP (by rfl) ?_;apply Exists.intro;refine ⟨fun w' hw'=>?_,hK _ ?_⟩;(have c:=(hw'.block _ (bW1).lt ⟨hWz1,.inr (by rw [hW.cW];decide)⟩).trans (bW1);have c0:=Blk.cell c 0;have c2:=Blk.cell c 2;clear c;go_simp;first|done|rfl))
          | refine qqN (by rfl) (hK _ ?_)
         clear hK K;simp only [Act.put,qqB]
        refine qqH _ rfl (by rfl) (fun K hK=>?_)
        go_wp2_with fail
        refine (CL z1).mono ?_
        rintro e z2 ⟨rfl,hk2⟩
        have hz2:=hk2.size
        go_wp2
        refine hK _ _ (qA8.of_kept hk2) ?_
        clear hK K
        try simp only [Act.put,qqB]
        refine qqH _ rfl (by rfl) (fun K hK=>?_)
        go_wp2_with fail
        refine (qEw (hxC1.kept hk2) fx1.ok (by omega) (gLeaf N a 0 : Nat) _ (qAd ls).flatten hin1 ((sl9.kept hz1).kept hk2) hu9).mono ?_
        rintro e z3 ⟨rfl,col3,hx3,E3⟩
        rw [show (x.setL (qAT x.l (qAd ls)).2).p.spend.1 = _ from HB1.out.symm]
        have S3:=E3.sameOn (w0:=wr) (col0:=col) (fun k hk=>rfl)
        have hz3:=E3.size
        have bW3:=hx3.blk
        rw [show (((x.setL (qAT x.l (qAd ls)).2).sWrite ((gLeaf N a 0 : Nat),(qAd ls).flatten)).n) = N from HX.out] at bW3
        replace hx3 : qAS col3 z3 P (x.areaW1 a ls):=by unfold Wd.areaW1 Wd.areaB;rw [HX.out];exact hx3
        go_wp2
        refine hK _ _ (S3) ?_
        clear hK K
        try simp only [Act.put,qqB]
        repeat
         refine qA0 _ rfl (fun K hK=>?_)
         first
          | (refine qqP (by rfl) ?_;apply Exists.intro;refine ⟨fun w' hw'=>?_,hK _ ?_⟩;(have c:=(hw'.block _ (bW3).lt ⟨hWz1,.inr (by rw [hW.cW];decide)⟩).trans (bW3);have c0:=Blk.cell c 0;have c2:=Blk.cell c 2;clear c;go_simp;first|done|rfl))
          | refine qqN (by rfl) (hK _ ?_)
         clear hK K;simp only [Act.put,qqB]
        refine qqH _ rfl (by rfl) (fun K hK=>?_)
        go_wp2_with fail
        refine (CN z3).mono ?_
        rintro e z4 ⟨rfl,hk4⟩
        have hz4:=hk4.size
        go_wp2
        refine hK _ _ (qA8.of_kept hk4) ?_
        clear hK K
        try simp only [Act.put,qqB]
        refine qqH _ rfl (by rfl) (fun K hK=>?_)
        go_wp2_with fail
        have o10a:=qA3 hO10 hz1
        have o10b:=qKn o10a ((qA8.of_kept hk2).trans S3) (fun g hg=>⟨qAo hO10 hg,.inl (qEB hO10 hW.top hwB g hg)⟩)
        have o10:=qA3 o10b hk4
        have hnl10 : (qBv nd).length = 2 * N * 16:=by rw [qD3,HNL.out]
        refine (qEw (hx3.kept hk4) fx2.ok (by omega) (gNode N a 0 : Nat) _ (qBv nd) hin2 (by rw [hnl10];exact Sl.of_own o10) (fun a c e hl=>by
         rw [hnl10] at e
         have h0:=qHz hO10 hW.top hwB a c e hl
         have h1:=(Sl.of_own hO10).low a c e hl
         rw [E3.old _ (Nat.lt_of_lt_of_le h1 (Nat.le_trans hz1.size hz2))]
         exact h0)).mono ?_
        rintro e z5 ⟨rfl,col5,hx5,E5⟩
        rw [← HB2.out]
        have S5:=E5.sameOn (w0:=wr) (col0:=col) (fun k hk=>E3.old k (Nat.lt_of_lt_of_le hk (Nat.le_trans hz1.size hz2)))
        have hz5:=E5.size
        replace hx5 : qAS col5 z5 P (x.areaW2 a ls):=by unfold Wd.areaW2 Wd.areaB;rw [HX.out,← HND.out];exact hx5
        go_wp2
        refine hK _ _ (S5) ?_
        clear hK K
        try simp only [Act.put,qqB]
        repeat
         refine qA0 _ rfl (fun K hK=>?_)
         first
          | (refine qqP (by rfl) ?_;apply Exists.intro;refine ⟨fun w' hw'=>?_,hK _ ?_⟩;go_simp;first|done|rfl)
          | refine qqN (by rfl) (hK _ ?_)
         clear hK K;simp only [Act.put,qqB]
        refine qA7 ?_
        cases B2 with
        | false =>
         have ex : Ext 6 col col5 w z5:=((((eC.trans (Ext.kept hxC.top hz1)).trans (Ext.kept hxC1.top hk2)).trans E3).trans (Ext.kept hx3.top hk4)).trans E5
         have hbz : Blk z5 w.heap.size #[U 0#64,U 0#64] 115:=(((((qA8.of_kept hk2).trans S3).trans (qA8.of_kept hk4)).trans S5).block _ (bZC.kept hz1).lt ⟨bZC.lt,.inl (hW.top _ qle)⟩).trans (bZC.kept hz1)
         have hcz : col5 w.heap.size = 0:=((E5.old _ (Nat.lt_of_lt_of_le bZC.lt (Nat.le_trans hz1.size (Nat.le_trans hz2 (Nat.le_trans hz3 hz4))))).trans (E3.old _ (Nat.lt_of_lt_of_le bZC.lt (Nat.le_trans hz1.size hz2)))).trans (hW.top _ qle)
         have f0:=hbz.free 0
         have f1:=hbz.free 1
         have x0:=hbz.cell 0
         have x1:=hbz.cell 1
         go_wp2_with fail
         have bR:=(hbz.set 0 (U 0#64)).set 1 (U 0#64)
         have hcF : Chg [w.heap.size] z5 ((z5.setCell ⟨w.heap.size,0,none⟩ (U 0#64)).setCell ⟨w.heap.size,1,none⟩ (U 0#64)):=((Chg.refl _ _).set qsm 0 _).set qsm 1 _
         have r0:=bR.cell 0
         have r1:=bR.cell 1
         generalize ((z5.setCell ⟨w.heap.size,0,none⟩ (U 0#64)).setCell ⟨w.heap.size,1,none⟩ (U 0#64)) = zF at *
         have hwF:=hx5.chg hcF (fun b hb=>by rw [List.mem_singleton] at hb;subst hb;exact .inl hcz)
         have hres : x.areaOk a ls = false:=by unfold Wd.areaOk;rw [← HB1.out,← HB2.out];rfl
         have hnx : x.areaW a ls = x.areaW2 a ls:=by unfold Wd.areaW;rw [← HB1.out];rfl
         refine bodyPost_ret (v:=.tuple #[.agg #[U 0#64,U 0#64],.int .i64 7]) (by simp [results,results174,go_sem,r0,r1];done) rfl ⟨by unfold Wd.areaP Wd.areaE;rw [hres];rfl,col5,by rw [hnx];exact hwF,ex.newset hcF qle⟩
        | true =>
         have ex : Ext 6 col col5 w z5:=((((eC.trans (Ext.kept hxC.top hz1)).trans (Ext.kept hxC1.top hk2)).trans E3).trans (Ext.kept hx3.top hk4)).trans E5
         have hbz : Blk z5 w.heap.size #[U 0#64,U 0#64] 115:=(((((qA8.of_kept hk2).trans S3).trans (qA8.of_kept hk4)).trans S5).block _ (bZC.kept hz1).lt ⟨bZC.lt,.inl (hW.top _ qle)⟩).trans (bZC.kept hz1)
         have hcz : col5 w.heap.size = 0:=((E5.old _ (Nat.lt_of_lt_of_le bZC.lt (Nat.le_trans hz1.size (Nat.le_trans hz2 (Nat.le_trans hz3 hz4))))).trans (E3.old _ (Nat.lt_of_lt_of_le bZC.lt (Nat.le_trans hz1.size hz2)))).trans (hW.top _ qle)
         have f0:=hbz.free 0
         have f1:=hbz.free 1
         have x0:=hbz.cell 0
         have x1:=hbz.cell 1
         have hbn : Blk z5 g (qAz nd).toArray 115:=(((((qA8.of_kept hk2).trans S3).trans (qA8.of_kept hk4)).trans S5).block _ (hBC.kept hz1).lt ⟨hBC.lt,.inl hg0⟩).trans (hBC.kept hz1)
         have t1:=qCp nd 1 (by rw [HNL.out];omega)
         obtain ⟨T1,hT1⟩ : ∃ y,y = (nd[1]?.getD (0#64,0#64)).1:=⟨_,rfl⟩
         obtain ⟨T2,hT2⟩ : ∃ y,y = (nd[1]?.getD (0#64,0#64)).2:=⟨_,rfl⟩
         rw [← hT1,← hT2] at t1
         have n0:=(hbn.cell 2).trans t1.1
         have n1:=(hbn.cell 3).trans t1.2
         replace hT1:=qh hT1
         replace hT2:=qh hT2
         go_wp2_with fail
         have bR:=(hbz.set 0 (U T1)).set 1 (U T2)
         have hcF : Chg [w.heap.size] z5 ((z5.setCell ⟨w.heap.size,0,none⟩ (U T1)).setCell ⟨w.heap.size,1,none⟩ (U T2)):=((Chg.refl _ _).set qsm 0 _).set qsm 1 _
         have r0:=bR.cell 0
         have r1:=bR.cell 1
         generalize ((z5.setCell ⟨w.heap.size,0,none⟩ (U T1)).setCell ⟨w.heap.size,1,none⟩ (U T2)) = zF at *
         have hwF:=hx5.chg hcF (fun b hb=>by rw [List.mem_singleton] at hb;subst hb;exact .inl hcz)
         have hres : x.areaOk a ls = true:=by unfold Wd.areaOk;rw [← HB1.out,← HB2.out];rfl
         have hnx : x.areaW a ls = x.areaW2 a ls:=by unfold Wd.areaW;rw [← HB1.out];rfl
         refine bodyPost_ret (v:=.tuple #[.agg #[U T1,U T2],.int .i64 0]) (by simp [results,results174,go_sem,r0,r1];done) rfl ⟨by unfold Wd.areaP Wd.areaE;rw [hres];rw [if_pos rfl,if_pos rfl];unfold Wd.areaTop Wd.areaB Pr;rw [← HND.out,hT1.out,hT2.out],col5,by rw [hnx];exact hwF,ex.newset hcF qle⟩
def Wd.areaRows (x : Wd) (a : Nat) : List (List UInt8):=(List.range x.n).map fun i=>(x.sd.snap.drop (gLeaf x.n a i)).take 32
def qCq : List (List UInt8) → Nat → Option (List Lf)
 | [],_=>some []
 | r :: rs,i=>match qBU r (i : Int) with
  | none=>none
  | some l=>(qCq rs (i + 1)).map (l :: ·)
def Wd.areaGet (x : Wd) (a : Nat) (top : qAB) : Option (List Lf):=if (qAT x.l (x.areaRows a)).1[1]?.getD (0#64,0#64) = top then qCq (x.areaRows a) 0 else none
def qHA (b : Bool) (e : Int) : Int:=if b then 0 else e
theorem qBa (x : Wd) (a : Nat) : (x.areaRows a).length = x.n:=by simp [Wd.areaRows]
theorem qFY : ∀ (rows : List (List UInt8)) (i : Nat) (ls : List Lf),ls.length = rows.length → (∀ (k : Nat) (r : List UInt8) (l : Lf),rows[k]? = some r → ls[k]? = some l → qBU r ((i + k : Nat) : Int) = some l) → qCq rows i = some ls
 | [],_,[],_,_=>rfl
 | [],_,_ :: _,h,_=>by simp at h
 | r :: rs,i,[],h,_=>by simp at h
 | r :: rs,i,l :: ls,h,k=>by
  have h0:=k 0 r l rfl rfl
  have h1:=qFY rs (i + 1) ls (by simpa using h) (fun j r' l' hr hl=>by
   have:=k (j + 1) r' l' hr hl
   rw [show i + (j + 1) = i + 1 + j by omega] at this
   exact this)
  unfold qCq
  rw [Nat.add_zero] at h0
  rw [h0,h1]
  rfl
theorem qFh : ∀ (rows : List (List UInt8)) (i k : Nat) (r : List UInt8),rows[k]? = some r → qBU r ((i + k : Nat) : Int) = none → qCq rows i = none
 | [],_,k,r,h,_=>by simp at h
 | r' :: rs,i,0,r,h,e=>by
  simp at h
  subst h
  unfold qCq
  rw [Nat.add_zero] at e
  rw [e]
 | r' :: rs,i,k + 1,r,h,e=>by
  have:=qFh rs (i + 1) k r (by simpa using h) (by rw [show i + 1 + k = i + (k + 1) by omega];exact e)
  unfold qCq
  rw [this]
  split <;> rfl
theorem qFZ : ∀ (rows : List (List UInt8)) (i : Nat) (ls : List Lf),qCq rows i = some ls → ls.length = rows.length ∧ ∀ (k : Nat) (r : List UInt8) (l : Lf),rows[k]? = some r → ls[k]? = some l → qBU r ((i + k : Nat) : Int) = some l
 | [],i,ls,h=>by
  cases h
  exact ⟨rfl,fun k r l hr=>by simp at hr⟩
 | r0 :: rs,i,ls,h=>by
  unfold qCq at h
  split at h
  · cases h
  · rename_i l0 hl0
    cases hrec : qCq rs (i + 1) with
    | none=>rw [hrec] at h;cases h
    | some ls' =>
     rw [hrec] at h
     cases h
     obtain ⟨h1,h2⟩:=qFZ rs (i + 1) ls' hrec
     refine ⟨by simp [h1],fun k r l hr hl=>?_⟩
     match k with
     | 0=>cases hr;cases hl;exact hl0
     | k + 1 =>
      have:=h2 k r l hr hl
      rw [show i + 1 + k = i + (k + 1) by omega] at this
      exact this
structure qHB (w : World) (B : Nat) (v : Value) (bs : List UInt8) : Prop where
 sl : Sl w v bs.length (qA1 bs)
 blk : ∀ a n c,v = .slice (some a) n c → 0 < n → B ≤ a.block ∧ ∃ cur,Blk w a.block cur 5
section
variable {w w' : World} {B : Nat} {v : Value} {bs : List UInt8}
theorem qHB.kept (h : qHB w B v bs) (hk : qA4 w w') : qHB w' B v bs :=
 ⟨h.sl.kept hk,fun a n c e hn=>by obtain ⟨h1,cur,h2⟩:=h.blk a n c e hn;exact ⟨h1,cur,h2.kept hk⟩⟩
theorem qHB.base {B' : Nat} (h : qHB w B v bs) (hb : B' ≤ B) : qHB w B' v bs :=
 ⟨h.sl,fun a n c e hn=>by obtain ⟨h1,h2⟩:=h.blk a n c e hn;exact ⟨Nat.le_trans hb h1,h2⟩⟩
theorem qHB.chg {gs : List Nat} (h : qHB w B v bs) (hc : Chg gs w w') (hg : ∀ g ∈ gs,∀ cur,¬ Blk w g cur 5) : qHB w' B v bs:=by
 refine ⟨Chg.sl h.sl hc fun a c e hl hm=>?_,fun a n c e hn=>?_⟩
 · obtain ⟨_,cur,hb⟩:=h.blk a _ c e (by rw [qA6] at hl;exact hl)
   exact hg _ hm cur hb
 · obtain ⟨h1,cur,hb⟩:=h.blk a n c e hn
   exact ⟨h1,cur,hc.blk hb fun hm=>hg _ hm cur hb⟩
theorem qHB.on {A : Nat → Prop} (h : qHB w B v bs) (s : qA8 A w w') (hA : ∀ g,B ≤ g → g < w.heap.size → A g) : qHB w' B v bs :=
 ⟨s.sl h.sl fun a c e hl=>by
  obtain ⟨h1,cur,h2⟩:=h.blk a _ c e (by rw [qA6] at hl;exact hl)
  exact hA _ h1 h2.lt,fun a n c e hn=>by
  obtain ⟨h1,cur,h2⟩:=h.blk a n c e hn
  exact ⟨h1,cur,(s.block _ h2.lt (hA _ h1 h2.lt)).trans h2⟩⟩
end
def qE9 (w : World) (B : Nat) (v : Value) (rows : List (List UInt8)) : Prop :=
 ∃ us : List Value,us.length = rows.length ∧ w.ownsRow B 32 1 v rows.length us ∧ ∀ (i : Nat) (bs : List UInt8) (u : Value),rows[i]? = some bs → us[i]? = some u → qHB w B u bs
section
variable {w w' : World} {B : Nat} {v : Value} {rows : List (List UInt8)}
theorem qE9.nil (w : World) (B : Nat) : qE9 w B (.slice none 0 0) []:=⟨[],rfl,⟨rfl,.inl ⟨rfl,rfl⟩⟩,fun i bs u h=>by simp at h⟩
theorem qE9.sl (h : qE9 w B v rows) : qBE w v rows:=by
 obtain ⟨us,h1,h2,h3⟩:=h
 exact ⟨us,h1,Sl.of_own h2,fun i bs u hb hu=>(h3 i bs u hb hu).sl⟩
theorem qE9.kept (h : qE9 w B v rows) (hk : qA4 w w') : qE9 w' B v rows:=by
 obtain ⟨us,h1,h2,h3⟩:=h
 exact ⟨us,h1,qA3 h2 hk,fun i bs u hb hu=>(h3 i bs u hb hu).kept hk⟩
theorem qE9.on {A : Nat → Prop} (h : qE9 w B v rows) (s : qA8 A w w') (hA : ∀ g,B ≤ g → g < w.heap.size → A g) : qE9 w' B v rows:=by
 obtain ⟨us,h1,h2,h3⟩:=h
 exact ⟨us,h1,qKn h2 s fun g hg=>hA g (qAM h2 hg) (qAo h2 hg),fun i bs u hb hu=>(h3 i bs u hb hu).on s hA⟩
theorem qE9.snoc {us : List Value} {u v' : Value} {bs : List UInt8} (hl : us.length = rows.length) (h2 : w.ownsRow B 32 1 v rows.length us) (h3 : ∀ (i : Nat) (bs : List UInt8) (u : Value),rows[i]? = some bs → us[i]? = some u → qHB w B u bs) (hu : qHB w B u bs) (hc : Chg v.ownBlock.toList w w') (h' : w'.ownsRow B 32 1 v' (rows.length + 1) (us ++ [u])) : qE9 w' B v' (rows ++ [bs]):=by
 have hg : ∀ g ∈ v.ownBlock.toList,∀ cur,¬ Blk w g cur 5:=fun g hm cur hb=>by
  obtain ⟨c2,hc2⟩:=qAp h2 (qAs.1 hm)
  exact qAC hb hc2 (by decide) rfl
 refine ⟨us ++ [u],by simp [hl],by simpa using h',fun i b x hb hx=>?_⟩
 by_cases hi : i < rows.length
 · rw [List.getElem?_append_left hi] at hb
   rw [List.getElem?_append_left (by omega)] at hx
   exact (h3 i b x hb hx).chg hc hg
 · rw [List.getElem?_append_right (by omega)] at hb
   rw [List.getElem?_append_right (by omega)] at hx
   have e0 : i - rows.length = 0:=by
    have:=(List.getElem?_eq_some_iff.1 hb).1
    simp at this;omega
   rw [hl] at hx
   rw [e0] at hb hx
   simp at hb hx
   subst hb;subst hx
   exact hu.chg hc hg
end
theorem qHC {col : Nat → Nat} {w : World} {P : qAQ} {x : Wd} {m : Nat} (h : qAS col w P x) (ok : x.ok m) (hm : m ≤ 100000) (o len : Nat) (hol : o + len ≤ gSize x.n) (ho : o < gSize x.n) (hg : x.p.gone = false) :
 Calls prog 101 #[.pointer (some ⟨P.s,0,none⟩),.int .i64 o,.int .i64 len] w fun e w'=>∃ u c,e = .returned (.tuple #[.slice u len c,.bool true]) ∧ qHB w' w.heap.size (.slice u len c) ((x.sd.snap.drop o).take len) ∧ ((x.sd.snap.drop o).take len).length = len ∧ qA4 w w':=by
 refine (qOh _ P.s P.b x.sd (gSize x.n) m ok.size.1 (by have:=ok.size;omega) hm w h.sdAt ok.s o len hol ho hg).mono ?_
 rintro e w' ⟨g,c,ex,rfl,hB,hc,hge,hcm,hk⟩
 have hl:=Sd.snap_length ok.s
 have hlen : ((x.sd.snap.drop o).take len).length = len:=by simp;omega
 refine ⟨some ⟨g,o,none⟩,c - o,rfl,⟨?_,fun a n c e hn=>?_⟩,hlen,hk⟩
 · rw [hlen]
   refine Sl.mk (by omega) (by omega) fun j u hj=>?_
   have hjl:=(List.getElem?_eq_some_iff.1 hj).1
   rw [qA6,hlen] at hjl
   rw [hB.cell (o + j)]
   have h1 : (qA1 x.sd.snap)[o + j]? = some u:=by
    simp only [qA1,List.map_take,List.map_drop] at hj
    rw [List.getElem?_take_of_lt hjl,List.getElem?_drop] at hj
    exact hj
   rw [List.getElem?_toArray,List.getElem?_append_left (by rw [qA6,hl];omega)]
   exact h1
 · cases e
   exact ⟨hge,_,hB⟩
theorem One.onA {i : Nat} {col col' : Nat → Nat} {w w' : World} (h : One i col col' w w') : qA8 (fun k=>col k ≠ i) w w':=⟨h.os,h.tape,h.output,h.size,fun k hk hA=>h.block k hk hA⟩
theorem qKo {n a k : Nat} (ha : a < 2) (hk : k < n) : gLeaf n a k + 32 ≤ gSize n ∧ gLeaf n a k < gSize n:=by
 have : a = 0 ∨ a = 1:=by omega
 unfold gLeaf gSize
 rcases this with rfl | rfl <;> omega
theorem qJF {x : Wd} {m a : Nat} (ok : x.ok m) (ha : a < 2) : ∀ r ∈ x.areaRows a,r.length = 32:=fun r hr=>by
 unfold Wd.areaRows at hr
 obtain ⟨i,hi,rfl⟩:=List.mem_map.1 hr
 rw [List.mem_range] at hi
 have h1:=qKo ha hi
 have h2:=Sd.snap_length ok.s
 rw [List.length_take,List.length_drop,h2]
 omega
theorem qMQ {col : Nat → Nat} {w : World} {P : qAQ} {x : Wd} {m : Nat} (hW : qAS col w P x) (fi : x.fine m) (hm : m ≤ 60000) (hg : x.p.gone = false) (a : Nat) (ha : a < 2) (top : qAB) :
 Calls prog 70 #[.pointer (some ⟨P.W,0,none⟩),.int .i64 (a : Int),.agg #[U top.1,U top.2]] w fun e w'=>∃ v,e = .returned (.tuple #[v,.int .i64 (qHA (x.areaGet a top).isSome 3)]) ∧ (∀ ls,x.areaGet a top = some ls → w'.ownsRow w.heap.size 117 8 v ls.length (qAu ls)) ∧ qAS col w' P (x.setL (qAT x.l (x.areaRows a)).2) ∧ Ext 6 col col w w':=by
 have hn16:=qAm fi.ok.sl
 obtain ⟨N,hN⟩ : ∃ N,N = x.n:=⟨_,rfl⟩
 rw [← hN] at hn16
 have HX : Hid (x.n = N):=qh hN.symm
 have hbW:=hW.blk
 rw [← hN] at hbW
 have hsl : qDR (N : Int) = true:=by rw [hN];exact fi.ok.sl
 have hin : ∀ k,k < N → gLeaf N a k + 32 ≤ gSize x.n ∧ gLeaf N a k < gSize x.n:=fun k hk=>by rw [← hN];exact qKo ha hk
 have i1 : (N : Int) ≤ 16:=by omega
 have i2 : (0 : Int) < (N : Int):=by omega
 have hkA : qA4 w (w.alloc (.cells #[U top.1,U top.2] 115)):=qal _
 have bZ:=Blk.new w #[U top.1,U top.2] 115
 have q0:=(hbW.kept hkA).cell 0
 clear hN
 go_enter func70,ntmps70
 go_wp2_with fail
 refine (qMO P.W a ha _).mono ?_
 rintro e w1 ⟨rfl,rfl⟩
 go_wp2_with fail
 obtain ⟨wA,hwA⟩ : ∃ wA,wA = (w.alloc (.cells #[U top.1,U top.2] 115)):=⟨_,rfl⟩
 rw [← hwA] at hkA bZ q0 ⊢
 clear hwA
 go_loopw [28,8] (fun i v8 wr=>∃ k : Nat,i = .int .i64 k ∧ k ≤ N ∧ qA4 wA wr ∧ qE9 wr wA.heap.size v8 ((x.areaRows a).take k)) (fun i _ _=>N - (intOf i).toNat)
 case atStart=>exact ⟨0,rfl,by omega,Below.refl _ _,qE9.nil _ _⟩
 case round =>
  obtain ⟨k,rfl,hk,hkr,hL⟩:=hrel
  have hkz:=hkr.size
  by_cases hlt : k < N
  · have m1 : (k : Int) < (N : Int):=by omega
    have m2 : (0 : Int) ≤ (k : Int):=by omega
    have hkw:=hkA.of hkr
    have CL:=fun z=>qFR N hsl a k ha hlt z
    have CR : ∀ z,qA4 w z → Calls prog 101 #[.pointer (some ⟨P.s,0,none⟩),.int .i64 (gLeaf N a k : Nat),.int .i64 32] z fun e w'=>∃ u c,e = .returned (.tuple #[.slice u 32 c,.bool true]) ∧ qHB w' z.heap.size (.slice u 32 c) ((x.sd.snap.drop (gLeaf N a k)).take 32) ∧ ((x.sd.snap.drop (gLeaf N a k)).take 32).length = 32 ∧ qA4 z w':=fun z hz=>qHC (hW.kept hz) fi.ok (by omega) (gLeaf N a k) 32 (hin k hlt).1 (hin k hlt).2 hg
    obtain ⟨row,hrow⟩ : ∃ r,r = (x.sd.snap.drop (gLeaf N a k)).take 32:=⟨_,rfl⟩
    have hsnoc : (x.areaRows a).take (k + 1) = (x.areaRows a).take k ++ [row]:=by
     rw [List.take_add_one]
     congr 1
     unfold Wd.areaRows
     rw [HX.out,List.getElem?_map,List.getElem?_range hlt,hrow]
     rfl
    rw [← hrow] at CR
    have HSN:=qh hsnoc
    have hrl : ((x.areaRows a).take k).length = k:=by rw [List.length_take,qBa,HX.out];omega
    obtain ⟨rows,hrows⟩ : ∃ r,r = (x.areaRows a).take k:=⟨_,rfl⟩
    rw [← hrows] at hL hrl HSN
    have HRL:=qh hrl
    clear hrow hsnoc hrl hrows
    go_wp2_with fail
    refine qA5 [(0,0),(1,0),(2,0),(3,0),(4,0),(5,0),(6,0),(7,0),(8,0),(9,0),(10,1),(11,1),(12,0),(13,0),(14,0),(15,0),(16,0)] (by kernel_rfl) (by kernel_rfl) ?_
    intro z1 hz1
    repeat
     refine qA0 _ rfl (fun K hK=>?_)
     first
      | (refine qqP (by rfl) ?_;apply Exists.intro;refine ⟨fun w' hw'=>?_,hK _ ?_⟩;(have c:=(hbW.kept (hkw.of hz1)).kept hw';have c0:=c.cell 0;have c2:=c.cell 2;clear c;go_simp;first|done|rfl))
      | refine qqN (by rfl) (hK _ ?_)
     clear hK K;simp only [Act.put,qqB]
    refine qqH _ rfl (by rfl) (fun K hK=>?_)
    go_wp2_with fail
    refine (CL z1).mono ?_
    rintro e z2 ⟨rfl,hk2⟩
    go_wp2
    refine hK _ _ (hk2) ?_
    clear hK K
    try simp only [Act.put,qqB]
    refine qqH _ rfl (by rfl) (fun K hK=>?_)
    go_wp2_with fail
    refine (CR z2 ((hkw.of hz1).of hk2)).mono ?_
    rintro e z3 ⟨u,uc,rfl,ho3,hl3,hk3⟩
    go_wp2
    refine hK _ _ (hk3) ?_
    clear hK K
    try simp only [Act.put,qqB]
    repeat
     refine qA0 _ rfl (fun K hK=>?_)
     first
      | (refine qqP (by rfl) ?_;apply Exists.intro;refine ⟨fun w' hw'=>?_,hK _ ?_⟩;go_simp;first|done|rfl)
      | refine qqN (by rfl) (hK _ ?_)
     clear hK K;simp only [Act.put,qqB]
    refine qA7 ?_
    obtain ⟨us,u1,u2,u3⟩:=hL.kept ((hz1.of hk2).of hk3)
    rw [HRL.out] at u2
    have U1:=qh u1
    have hzz:=((hz1.of hk2).of hk3).size
    replace ho3:=ho3.base (Nat.le_trans hkz (hz1.of hk2).size)
    clear u1
    go_wp2_with (at_builtin;refine qB6 qHm rfl (by rfl) (by rfl) (by rfl) (u2.alloc _) (Sl.one _ _ _) (by rfl) (fun x hx=>by rw [List.mem_singleton.1 hx];rfl) (by unfold maxLen;omega) (by omega) (by simp;omega) ?_;intro v4 w4 hown4 hg4 hat4 _)
    have hka : qA4 z3 (z3.alloc (.cells #[.slice u 32 uc] 32)):=qal _
    have u2a:=u2.alloc (.cells #[.slice u 32 uc] 32)
    refine ⟨⟨k + 1,rfl,by omega,(hkr.of (((hz1.of hk2).of hk3).of hka)).trans (hg4.below (fun i hi=>(u2a.lt i hi).1) (by have:=hka.size;omega)),?_⟩,by simp [intOf];omega⟩
    rw [HSN.out]
    exact qE9.snoc U1.out (by rw [HRL.out];exact u2a) (fun i b x hb hx=>(u3 i b x hb hx).kept hka) (ho3.kept hka) hg4.chgL (by rw [HRL.out];exact hown4)
  · have hkN : k = N:=by omega
    have htk : (x.areaRows a).take k = x.areaRows a:=List.take_of_length_le (by rw [qBa,HX.out];omega)
    rw [htk] at hL
    have hngt : ¬ (k : Int) < (N : Int):=by omega
    clear hkN htk hlt hk
    have hkw:=hkA.of hkr
    have hzA:=hkA.size
    have hxr:=hW.kept hkw
    have hrlen:=qBa x a
    obtain ⟨rows,hrows⟩ : ∃ r,r = x.areaRows a:=⟨_,rfl⟩
    rw [← hrows] at hrlen hL
    rw [HX.out] at hrlen
    have hr8 : ∀ r ∈ rows,r.length = 32:=fun r hr=>by rw [hrows] at hr;exact qJF fi.ok ha r hr
    have CB:=qGS col P.l x.l _ rows (by rw [hrlen,← HX.out];exact fi.ok.sl) (fun r hr=>by rw [hr8 r hr];omega) (Lk.few_mono fi.few (by omega)) wr hxr.lock hxr.top (fun w' o=>(hL.on (o.onA) (fun g h1 _=>by rw [hW.top g (by omega)];decide)).sl)
    rw [hrlen] at CB
    have qW:=hxr.blk.cell 6
    have HROWS:=qh hrows
    have HRL:=qh hrlen
    clear hrows hrlen
    go_wp2_with fail
    refine CB.mono ?_
    rintro e wB ⟨g,rfl,hBn,hge,hLk,o5⟩
    have hgB:=hBn.lt
    obtain ⟨hxB,eB⟩:=hxr.stepL hLk o5
    have hRB:=hL.on (o5.onA) (fun g h1 _=>by rw [hW.top g (by omega)];decide)
    have hndl : (qAT x.l rows).1.length = 2 * N:=by rw [qD1,HRL.out]
    obtain ⟨nd,hnd⟩ : ∃ n,n = (qAT x.l rows).1:=⟨_,rfl⟩
    rw [← hnd] at hBn hndl
    have hN2 : 1 < nd.length:=by omega
    have e1:=qCp nd 1 hN2
    obtain ⟨p,hp⟩ : ∃ p,p = nd[1]?.getD (0#64,0#64):=⟨_,rfl⟩
    rw [← hp] at e1
    have HND:=qh hnd
    have HNL:=qh hndl
    have HP:=qh hp
    obtain ⟨p1,p2⟩:=p
    have bTB : Blk wB w.heap.size #[U top.1,U top.2] 115:=(o5.block _ (bZ.kept hkr).lt (by rw [hW.top _ qle];decide)).trans (bZ.kept hkr)
    clear hnd hndl qW hp hN2
    have j1 : (1 : Int) < 2 * (N : Int):=by omega
    go_wp2_with fail
    cases hB : ((p1,p2) == (top.1,top.2)) with
    | false =>
     have hno : x.areaGet a top = none:=by
      unfold Wd.areaGet
      rw [← HROWS.out,← HND.out,← HP.out,if_neg]
      intro e
      rw [e] at hB
      simp at hB
     refine qA5 [(0,0),(1,0),(2,0),(3,0),(4,0),(5,0),(6,0),(7,0),(8,0)] (by kernel_rfl) (by kernel_rfl) ?_
     intro z1 hz1
     repeat
      refine qA0 _ rfl (fun K hK=>?_)
      first
       | (refine qqP (by rfl) ?_;apply Exists.intro;refine ⟨fun w' hw'=>?_,hK _ ?_⟩;(have c:=(hBn.kept hz1).kept hw';have c0 : w'.cell? ⟨g,2,none⟩ = some (U p1):=(c.cell (1 * 2)).trans e1.1;have c1 : w'.cell? ⟨g,3,none⟩ = some (U p2):=(c.cell (1 * 2 + 1)).trans e1.2;clear c;have d:=(bTB.kept hz1).kept hw';have d0:=d.cell 0;have d1:=d.cell 1;clear d;go_simp;first|done|rfl))
       | refine qqN (by rfl) (hK _ ?_)
      clear hK K;simp only [Act.put,qqB]
     refine qA7 ?_
     go_wp2_with fail
     refine bodyPost_ret (v:=.tuple #[.slice none 0 0,.int .i64 3]) (by simp [results,results70,go_sem];done) rfl ⟨_,by rw [hno];rfl,(fun ls h=>by rw [hno] at h;cases h),?_,?_⟩
     · rw [← HROWS.out];exact hxB.kept hz1
     · exact ((Ext.kept hW.top hkw).trans eB).trans (Ext.kept hxB.top hz1)
    | true =>
     have hyes : x.areaGet a top = qCq rows 0:=by
      unfold Wd.areaGet
      rw [← HROWS.out,← HND.out,← HP.out,if_pos]
      have:=beq_iff_eq.1 hB
      exact this
     replace hyes:=qh hyes
     refine qA5 [(0,0),(1,0),(2,0),(3,0),(4,0),(5,0),(6,0),(7,0),(8,0)] (by kernel_rfl) (by kernel_rfl) ?_
     intro z1 hz1
     repeat
      refine qA0 _ rfl (fun K hK=>?_)
      first
       | (refine qqP (by rfl) ?_;apply Exists.intro;refine ⟨fun w' hw'=>?_,hK _ ?_⟩;(have c:=(hBn.kept hz1).kept hw';have c0 : w'.cell? ⟨g,2,none⟩ = some (U p1):=(c.cell (1 * 2)).trans e1.1;have c1 : w'.cell? ⟨g,3,none⟩ = some (U p2):=(c.cell (1 * 2 + 1)).trans e1.2;clear c;have d:=(bTB.kept hz1).kept hw';have d0:=d.cell 0;have d1:=d.cell 1;clear d;go_simp;first|done|rfl))
       | refine qqN (by rfl) (hK _ ?_)
      clear hK K;simp only [Act.put,qqB]
     refine qA7 ?_
     clear hB
     have eC:=((Ext.kept hW.top hkw).trans eB).trans (Ext.kept hxB.top hz1)
     have hxz:=hxB.kept hz1
     have hRz:=hRB.kept hz1
     have hwz:=eC.size
     have hlen8:=(Sl.of_own hRz.choose_spec.2.1).len
     rw [HRL.out] at hlen8
     obtain ⟨a8,c8,h8⟩:=hlen8
     clear bTB e1 hBn hL q0 hRB
     subst h8
     go_wp2_with fail
     go_loopw [73,14] (fun i v14 wr=>∃ k : Nat,i = .int .i64 k ∧ k ≤ N ∧ qA4 z1 wr ∧ ∃ ls : List Lf,ls.length = k ∧ (∀ (j : Nat) (r : List UInt8) (l : Lf),rows[j]? = some r → ls[j]? = some l → qBU r (j : Int) = some l) ∧ wr.ownsRow z1.heap.size 117 8 v14 k (qAu ls)) (fun i _ _=>N - (intOf i).toNat)
     case atStart=>exact ⟨0,rfl,by omega,Below.refl _ _,[],rfl,by simp,⟨rfl,.inl ⟨rfl,rfl⟩⟩⟩
     case round =>
      obtain ⟨k2,rfl,hk2,hkr2,ls,hls,hlg,hO14⟩:=hrel
      have hkz2:=hkr2.size
      by_cases hlt2 : k2 < N
      · have m1 : (k2 : Int) < (N : Int):=by omega
        have m2 : (0 : Int) ≤ (k2 : Int):=by omega
        have hkr : k2 < rows.length:=by rw [HRL.out];exact hlt2
        obtain ⟨us,u1,u2,u3⟩:=hRz.kept hkr2
        have hku : k2 < us.length:=by rw [u1];exact hkr
        have S2:=Sl.of_own u2
        rw [HRL.out] at S2
        obtain ⟨bA,oA,cA,e,_,_,_,hxc⟩:=S2.at (by omega)
        cases e
        have c0:=hxc k2 _ (List.getElem?_eq_getElem hku)
        have hs2:=(u3 k2 _ _ (List.getElem?_eq_getElem hkr) (List.getElem?_eq_getElem hku)).sl
        obtain ⟨row,hrow⟩ : ∃ r,r = rows[k2]:=⟨_,rfl⟩
        have hrk : rows[k2]? = some row:=by rw [List.getElem?_eq_getElem hkr,hrow]
        have hr32 : row.length = 32:=by rw [hrow];exact hr8 _ (List.getElem_mem _)
        rw [← hrow] at hs2
        obtain ⟨u,hu⟩ : ∃ u,u = us[k2]:=⟨_,rfl⟩
        rw [← hu] at c0 hs2
        obtain ⟨ua,uc,rfl⟩:=hs2.len
        have CG:=qIs _ row (k2 : Int) (by omega) (by omega) (by omega) wr hs2
        obtain ⟨gl,hgl⟩ : ∃ g,g = qBU row (k2 : Int):=⟨_,rfl⟩
        rw [← hgl] at CG
        have HGL:=qh hgl
        have HRK:=qh hrk
        have HLS:=qh hls
        replace hr32:=qh hr32
        clear hrow hrk hu hgl hxc u3 hls S2
        cases gl with
        | none =>
         go_wp2_with fail
         refine CG.mono ?_
         rintro e w5 ⟨rfl,hk5⟩
         simp only [Option.getD_none,Option.isSome_none,Lf.val,Lf.zero]
         have hno : x.areaGet a top = none:=by rw [hyes.out];exact qFh rows 0 k2 row HRK.out (by rw [Nat.zero_add];exact HGL.out.symm)
         replace hno:=qh hno
         go_wp2_with fail
         have hkf : qA4 z1 (w5.alloc (.cells #[.int .i64 0,.bool false,.int .i64 0,W 0#32,W 0#32,U 0#64,U 0#64,U 0#64] 117)):=(hkr2.of hk5).alloc (Nat.le_trans hkz2 hk5.size) _
         refine bodyPost_ret (v:=.tuple #[.slice none 0 0,.int .i64 3]) (by simp [results,results70,go_sem];done) rfl ⟨_,by rw [hno.out];rfl,(fun ls h=>by rw [hno.out] at h;cases h),?_,?_⟩
         · rw [← HROWS.out];exact hxz.kept hkf
         · exact eC.trans (Ext.kept hxz.top hkf)
        | some y =>
         go_wp2_with fail
         refine CG.mono ?_
         rintro e w5 ⟨rfl,hk5⟩
         simp only [Option.getD_some,Option.isSome_some,Lf.val]
         have h145:=qA3 hO14 hk5
         have hz5:=hk5.size
         have hkL : qA4 w5 (w5.alloc (.cells #[.int .i64 y.kind,.bool y.dirty,.int .i64 y.lba,W y.ep,W y.sl,U y.ver,U y.tag.1,U y.tag.2] 117)):=qal _
         have h146:=qA3 h145 hkL
         have hkS : qA4 (w5.alloc (.cells #[.int .i64 y.kind,.bool y.dirty,.int .i64 y.lba,W y.ep,W y.sl,U y.ver,U y.tag.1,U y.tag.2] 117)) ((w5.alloc (.cells #[.int .i64 y.kind,.bool y.dirty,.int .i64 y.lba,W y.ep,W y.sl,U y.ver,U y.tag.1,U y.tag.2] 117)).alloc (.cells #[.int .i64 y.kind,.bool y.dirty,.int .i64 y.lba,W y.ep,W y.sl,U y.ver,U y.tag.1,U y.tag.2] 117)):=qal _
         have h147:=qA3 h146 hkS
         have hlit:=Sl.lit (w5.alloc (.cells #[.int .i64 y.kind,.bool y.dirty,.int .i64 y.lba,W y.ep,W y.sl,U y.ver,U y.tag.1,U y.tag.2] 117)) #[.int .i64 y.kind,.bool y.dirty,.int .i64 y.lba,W y.ep,W y.sl,U y.ver,U y.tag.1,U y.tag.2] 117 1 (by decide)
         rw [World.size_alloc] at hlit
         go_wp2_with (at_builtin;(refine qB6 qEA rfl (by rfl) (by rfl) (by rfl) h147 hlit (by rfl) (qGU [y]) (by unfold maxLen;omega) (by omega) (by simp;omega) ?_);intro v6 w6 hown6 hg6 hat6 _)
         have hkk:=((hkr2.of hk5).of hkL).of hkS
         refine ⟨⟨k2 + 1,rfl,by omega,hkk.trans (hg6.below (fun i hi=>(h147.lt i hi).1) hkk.size),ls ++ [y],by rw [List.length_append,HLS.out];rfl,fun j r l hr hl=>?_,?_⟩,by simp [intOf];omega⟩
         · by_cases hj : j < ls.length
           · rw [List.getElem?_append_left hj] at hl
             exact hlg j r l hr hl
           · have hj2 : j = ls.length:=by
              have:=(List.getElem?_eq_some_iff.1 hl).1
              simp at this;omega
             subst hj2
             rw [List.getElem?_append_right qle] at hl
             simp at hl
             subst hl
             rw [HLS.out] at hr ⊢
             rw [HRK.out] at hr
             cases hr
             exact HGL.out.symm
         · rw [qHx]
           have e1 : qAu [y] = [.int .i64 y.kind,.bool y.dirty,.int .i64 y.lba,W y.ep,W y.sl,U y.ver,U y.tag.1,U y.tag.2]:=rfl
           rw [e1]
           exact hown6
      · have hkN2 : k2 = N:=by omega
        have hyes2 : x.areaGet a top = some ls:=by rw [hyes.out];exact qFY rows 0 ls (by rw [hls,HRL.out,hkN2]) (fun k r l hr hl=>by rw [Nat.zero_add];exact hlg k r l hr hl)
        have hngt2 : ¬ (k2 : Int) < (N : Int):=by omega
        replace hyes2:=qh hyes2
        have HLS:=qh hls
        clear hls hlt2 hkN2
        go_wp2_with fail
        refine bodyPost_ret (v:=.tuple #[u14,.int .i64 0]) (by simp [results,results70,go_sem];done) rfl ⟨_,by rw [hyes2.out];rfl,(fun ls' h=>?_),?_,?_⟩
        · rw [hyes2.out] at h
          cases h
          rw [HLS.out]
          exact qAg hO14 hwz
        · rw [← HROWS.out];exact hxz.kept hkr2
        · exact eC.trans (Ext.kept hxz.top hkr2)
theorem qKp {col : Nat → Nat} {w : World} {P : qAQ} {x : Wd} (hW : qAS col w P x) : Calls prog 20 #[.pointer (some ⟨P.c,0,none⟩)] w fun e w'=>e = .returned (U x.c.value) ∧ w = w':=by
 have q:=(qHi.cells hW.cnt)
 obtain ⟨q0,q1,q2,q3⟩:=q
 go_enter func20,ntmps20
 go_wp2
 go_ret
 exact ⟨rfl,rfl⟩
theorem qOG {col : Nat → Nat} {w : World} {P : qAQ} {x : Wd} (hW : qAS col w P x) : Calls prog 46 #[.pointer (some ⟨P.c,0,none⟩)] w fun e w'=>e = .returned (U x.c.boots) ∧ w = w':=by
 have q:=(qHi.cells hW.cnt)
 obtain ⟨q0,q1,q2,q3⟩:=q
 go_enter func46,ntmps46
 go_wp2
 go_ret
 exact ⟨rfl,rfl⟩
theorem qR6 {col : Nat → Nat} {w : World} {P : qAQ} {x : Wd} (hW : qAS col w P x) : Calls prog 140 #[.pointer (some ⟨P.c,0,none⟩)] w fun e w'=>e = .returned (U x.c.at_) ∧ w = w':=by
 have q:=(qHi.cells hW.cnt)
 obtain ⟨q0,q1,q2,q3⟩:=q
 go_enter func140,ntmps140
 go_wp2
 go_ret
 exact ⟨rfl,rfl⟩
theorem qKq {col : Nat → Nat} {w : World} {P : qAQ} {x : Wd} {m : Nat} (hW : qAS col w P x) (fi : x.fine m) (hm : m ≤ 80000) : Calls prog 158 #[.pointer (some ⟨P.W,0,none⟩)] w fun e w'=>e = .returned (.tuple #[W (qAi x.eps),Pr (qFO x.seed x.eps (qAi x.eps))]) ∧ qA4 w w':=by
 have hkA : qA4 w (w.alloc (.cells #[U 0#64,U 0#64] 115)):=qal _
 have bZ:=Blk.new w #[U 0#64,U 0#64] 115
 have hbW:=hW.blk
 have q5:=(hbW.kept hkA).cell 5
 have CC:=qKl (hW.kept hkA) fi.ok hm
 obtain ⟨ep,hep⟩ : ∃ y,y = qAi x.eps:=⟨_,rfl⟩
 have CK:=fun wx (hx : qA4 w wx)=>qIk (hW.kept hx) fi.ok hm ep
 rw [← hep] at CC ⊢
 obtain ⟨k,hk⟩ : ∃ y,y = qFO x.seed x.eps ep:=⟨_,rfl⟩
 rw [← hk] at CK ⊢
 obtain ⟨k1,k2⟩:=k
 obtain ⟨B,hB⟩ : ∃ y,y = x.eps.contains ep:=⟨_,rfl⟩
 rw [← hB] at CK
 clear hep hk hB
 go_enter func158,ntmps158
 go_wp2_with fail
 generalize (w.alloc (.cells #[U 0#64,U 0#64] 115)) = wA at *
 refine CC.mono ?_
 rintro e w1 ⟨rfl,hk1⟩
 replace q5:=(hbW.kept (hkA.of hk1)).cell 5
 go_wp2_with fail
 refine (CK _ (hkA.of hk1)).mono ?_
 rintro e w2 ⟨rfl,hk2⟩
 have bZ2:=bZ.kept (hk1.of hk2)
 have f0:=bZ2.free 0
 have f1:=bZ2.free 1
 have x0:=bZ2.cell 0
 have x1:=bZ2.cell 1
 unfold Pr
 go_wp2_with fail
 have bK:=(bZ2.set 0 (U k1)).set 1 (U k2)
 simp only [qqA,qq0,qq1] at bK
 have hkK : qA4 w ((w2.setCell ⟨w.heap.size,0,none⟩ (U k1)).setCell ⟨w.heap.size,1,none⟩ (U k2)):=qA9 (qA9 ((hkA.of hk1).of hk2) 0 _) 1 _
 clear f0 f1 x0 x1
 generalize ((w2.setCell ⟨w.heap.size,0,none⟩ (U k1)).setCell ⟨w.heap.size,1,none⟩ (U k2)) = w3 at *
 refine qA5 [(0,0),(1,0),(2,0),(3,2)] (by kernel_rfl) (by kernel_rfl) ?_
 intro z1 hz1
 repeat
  refine qA0 _ rfl (fun K hK=>?_)
  first
   | (refine qqP (by rfl) ?_;apply Exists.intro;refine ⟨fun w' hw'=>?_,hK _ ?_⟩;(have c:=(bK.kept hz1).kept hw';have c0:=c.cell 0;have c1:=c.cell 1;clear c;go_simp;first|done|rfl))
   | refine qqN (by rfl) (hK _ ?_)
  clear hK K;simp only [Act.put,qqB]
 refine qAh _ rfl (fun K hK=>?_)
 refine qqP (by rfl) ?_
 have c:=bK.kept hz1
 have c0:=c.cell 0
 have c1:=c.cell 1
 have f0:=c.free 0
 have f1:=c.free 1
 clear c
 go_wp2
 refine qA7 ?_
 have bF:=((bK.kept hz1).set 0 (U k1)).set 1 (U k2)
 simp only [qqA,qq0,qq1] at bF
 have hkF : qA4 w ((z1.setCell ⟨w.heap.size,0,none⟩ (U k1)).setCell ⟨w.heap.size,1,none⟩ (U k2)):=qA9 (qA9 (hkK.of hz1) 0 _) 1 _
 generalize ((z1.setCell ⟨w.heap.size,0,none⟩ (U k1)).setCell ⟨w.heap.size,1,none⟩ (U k2)) = w4 at *
 go_wp2_with fail
 have r0:=bF.cell 0
 have r1:=bF.cell 1
 refine bodyPost_ret (v:=.tuple #[W ep,.agg #[U k1,U k2]]) (by simp [results,results158,go_sem,r0,r1];done) rfl ⟨rfl,hkF⟩
theorem qG0 (ty : TypeId) (c : BitVec 64) (w : World) : (binOp .rem ty (U c) (U 2#64)).run prog w = .ok (.int .u64 ((c.toNat % 2 : Nat) : Int)) w:=by
 have h : Op.intDiv .rem .u64 (c.toNat : Int) 2 = pure (Value.int .u64 ((c.toNat : Int).tmod 2)):=rfl
 have h2 : U 2#64 = .int .u64 2:=rfl
 rw [h2]
 unfold U
 rw [binOp_rem,h,Int.tmod_eq_emod_of_nonneg (by omega)]
 rfl
def qDt (c : BitVec 64) : Nat:=c.toNat % 2
theorem qBO (c : BitVec 64) : qDt c < 2:=Nat.mod_lt _ (by omega)
theorem qIu {col : Nat → Nat} {w : World} {P : qAQ} {x : Wd} {m : Nat} (hW : qAS col w P x) (fi : x.fine m) (c : BitVec 64) : Calls prog 102 #[.pointer (some ⟨P.W,0,none⟩),U c] w fun e w'=>e = .returned (.int .i64 (gRec x.n (qDt c) : Nat)) ∧ qA4 w w':=by
 have q0:=hW.blk.cell 0
 have hr:=fun wx=>qG0 29 c wx
 have CG:=qKj x.n fi.ok.sl (qDt c) (qBO c) w
 have hcl:=qBO c
 rw [show c.toNat % 2 = qDt c from rfl] at hr
 obtain ⟨p,hp⟩ : ∃ p,p = qDt c:=⟨_,rfl⟩
 rw [← hp] at hr CG hcl ⊢
 have hcv : ∀ wx : World,(convert 29 3 (.int .u64 (p : Int))).run prog wx = .ok (.int .i64 (p : Int)) wx:=fun wx=>by
  have hw : IntKind.i64.wrap (p : Int) = (p : Int):=by rw [IntKind.wrap_i64];omega
  rw [qAF wx 29 3 _ .i64 _ (by kernel_rfl) underlying3,hw]
 clear hp
 go_enter func102,ntmps102
 go_wp2_with fail
 refine CG.mono ?_
 rintro e w1 ⟨rfl,hk⟩
 go_wp2
 go_ret
 exact ⟨rfl,hk⟩
structure WM (col : Nat → Nat) (w : World) (P : qAQ) (x : Wd) (M : Nat) (boot : BitVec 64) (k : Nat) : Prop where
 wd : qAS col w P x
 mkr : qJ6 w M boot k
 cM : col M = 8
def qOH (col : Nat → Nat) (w : World) (P : qAQ) (M : Nat) (x : Wd) (boot : BitVec 64) (k : Nat) (w' : World) : Prop:=∃ col',WM col' w' P x M boot k ∧ Ext 8 col col' w w'
theorem WM.kept {col : Nat → Nat} {w w' : World} {P : qAQ} {x : Wd} {M : Nat} {boot : BitVec 64} {k : Nat} (h : WM col w P x M boot k) (hk : qA4 w w') : WM col w' P x M boot k:=⟨h.wd.kept hk,Blk.kept h.mkr hk,h.cM⟩
theorem WM.ext6 {col col' : Nat → Nat} {w w' : World} {P : qAQ} {x x' : Wd} {M : Nat} {boot : BitVec 64} {k : Nat} (h : WM col w P x M boot k) (hw : qAS col' w' P x') (e : Ext 6 col col' w w') : WM col' w' P x' M boot k :=
 ⟨hw,(e.block M (Blk.lt h.mkr) (.inr (by rw [h.cM];decide))).trans h.mkr,(e.old M (Blk.lt h.mkr)).trans h.cM⟩
theorem WM.next {col : Nat → Nat} {w w' : World} {P : qAQ} {x : Wd} {M : Nat} {boot : BitVec 64} {k k' : Nat} (h : WM col w P x M boot k) (hm : qJ6 w' M boot k') (hc : Chg [M] w w') : WM col w' P x M boot k' ∧ Ext 8 col col w w' :=
 ⟨⟨h.wd.chg hc (fun b hb=>by rw [List.mem_singleton] at hb;subst hb;rw [h.cM];exact .inr (by decide)),hm,h.cM⟩,
  ⟨hc.os,hc.tape,hc.output,hc.size,fun _ _=>rfl,fun j hj=>by rw [h.wd.top j hj];omega,fun j hj=>h.wd.top j (Nat.le_trans hc.size hj),fun j hj hcc=>hc.block j hj fun hm=>by rw [List.mem_singleton] at hm;subst hm;rw [h.cM] at hcc;omega⟩⟩
def Wd.logN (x : Wd) (boot : BitVec 64) (k : Nat) : Nn:=qNK (qAi x.eps) 65535 boot (k + 1)
def Wd.logK (x : Wd) : qAB:=qFO x.seed x.eps (qAi x.eps)
def Wd.logS (x : Wd) (boot : BitVec 64) (k : Nat) (r : Rt) : List UInt8 × qAB:=x.l.sealP x.logK (x.logN boot k) [] (qDm r)
def Wd.logR (x : Wd) (boot : BitVec 64) (k : Nat) (r : Rt) : List UInt8:=qFA (x.logN boot k) (x.logS boot k r).1 (x.logS boot k r).2
def Wd.logL (x : Wd) (boot : BitVec 64) (k : Nat) (r : Rt) : Wd:=x.setL (x.l.sealL x.logK (x.logN boot k) [] (qDm r))
def Wd.logW (x : Wd) (boot : BitVec 64) (k : Nat) (r : Rt) : Wd:=(x.logL boot k r).sWrite ((gRec x.n (qDt r.count) : Nat),x.logR boot k r)
def Wd.logX (x : Wd) (boot : BitVec 64) (k : Nat) (r : Rt) : Wd:=if k < 100 then x.logW boot k r else x
def qFB (k : Nat) : Nat:=if k < 100 then k + 1 else k
def Wd.logE (x : Wd) (k : Nat) : Int:=if k < 100 then (if x.p.spend.1 then 0 else 7) else 6
theorem qG1 (x : Wd) (boot : BitVec 64) (k : Nat) (r : Rt) : (x.logR boot k r).length = 60:=qCn _ _ _ (by unfold Wd.logS;rw [Lk.sealP_length,qBd])
theorem qMR {n i : Nat} (hi : i < 2) (_ : 0 < n) : gRec n i + 60 ≤ gSize n ∧ gRec n i < gSize n:=by
 have : i = 0 ∨ i = 1:=by omega
 unfold gRec gSize
 rcases this with rfl | rfl <;> omega
theorem qG2 (x : Wd) (boot : BitVec 64) (k : Nat) (r : Rt) (h0 : 0 < x.n) : inB (gSize x.n) ((gRec x.n (qDt r.count) : Nat),x.logR boot k r):=by
 have:=qMR (n:=x.n) (qBO r.count) h0
 refine ⟨by omega,?_,?_⟩ <;> simp only [Int.toNat_natCast,qG1] <;> omega
theorem Wd.fine.logL {x : Wd} {m : Nat} (f : x.fine m) (boot : BitVec 64) (k : Nat) (r : Rt) : (x.logL boot k r).fine (m + 1):=f.seal _ _ _ _ (by rw [qBd];omega)
theorem Wd.fine.logX {x : Wd} {m : Nat} (f : x.fine m) (boot : BitVec 64) (k : Nat) (r : Rt) (h0 : 0 < x.n) : (x.logX boot k r).fine (m + 2):=by
 unfold Wd.logX
 split
 · exact (f.logL boot k r).sWrite (qG2 x boot k r h0)
 · exact f.up (by omega)
theorem qLn {col : Nat → Nat} {w : World} {P : qAQ} {x : Wd} {m M k : Nat} {boot : BitVec 64} (hW : WM col w P x M boot k) (fi : x.fine m) (hm : m ≤ 70000) (hk100 : k < 100) (r : Rt) (hr : r.slots = (x.n : Int)) :
 Calls prog 176 #[.pointer (some ⟨P.W,0,none⟩),.pointer (some ⟨M,0,none⟩),.agg #[U r.count,W r.epoch,.int .i64 (x.n : Int),U r.hash.1,U r.hash.2]] w fun e w'=>e = .returned (.int .i64 (if x.p.spend.1 then 0 else 7)) ∧ qOH col w P M (x.logW boot k r) boot (k + 1) w':=by
 have hn16:=qAm fi.ok.sl
 obtain ⟨N,hN⟩ : ∃ N,N = x.n:=⟨_,rfl⟩
 rw [← hN] at hn16 hr ⊢
 have HX : Hid (x.n = N):=qh hN.symm
 have hbW:=hW.wd.blk
 rw [← hN] at hbW
 clear hN
 have hkA : qA4 w (w.alloc (.cells #[U r.count,W r.epoch,.int .i64 (N : Int),U r.hash.1,U r.hash.2] 148)):=qal _
 have bR:=Blk.new w #[U r.count,W r.epoch,.int .i64 (N : Int),U r.hash.1,U r.hash.2] 148
 have a0:=bR.cell 0
 have a1:=bR.cell 1
 have a2:=bR.cell 2
 have a3:=bR.cell 3
 have a4:=bR.cell 4
 have CP:=fun wx=>qFf (N : Int) (by omega) r.count r.epoch r.hash.1 r.hash.2 wx
 have hrB : qDm ⟨r.count,r.epoch,(N : Int),(r.hash.1,r.hash.2)⟩ = qDm r:=by rw [← hr]
 rw [hrB] at CP
 obtain ⟨rb,hrb⟩ : ∃ b,b = qDm r:=⟨_,rfl⟩
 have hrl : rb.length = 32:=by rw [hrb];exact qBd r
 rw [← hrb] at CP
 have HRB:=qh hrb
 have HRL:=qh hrl
 obtain ⟨E,hE⟩ : ∃ E : Int,E = if x.p.spend.1 then 0 else 7:=⟨_,rfl⟩
 rw [← hE]
 have HE:=qh hE
 clear hrB hrb hrl hr hE
 go_enter func176,ntmps176
 go_wp2_with fail
 generalize (w.alloc (.cells #[U r.count,W r.epoch,.int .i64 (N : Int),U r.hash.1,U r.hash.2] 148)) = wA at *
 refine (CP _).mono ?_
 rintro e w1 ⟨b,rfl,ob,hk1⟩
 clear a0 a1 a2 a3 a4
 obtain ⟨ba,bc,rfl⟩:=(Sl.of_own ob).len
 go_wp2_with fail
 refine qA5 [(0,0),(1,0),(2,0),(3,0),(4,0),(5,0),(6,0),(7,0),(8,0),(9,0),(10,0),(11,0),(12,0),(13,0),(14,0),(15,0)] (by kernel_rfl) (by kernel_rfl) ?_
 intro z1 hz1
 repeat
  refine qA0 _ rfl (fun K hK=>?_)
  first
   | (refine qqP (by rfl) ?_;apply Exists.intro;refine ⟨fun w' hw'=>?_,hK _ ?_⟩;(have c:=(bR.kept (hk1.of hz1)).kept hw';have c2:=c.cell 2;clear c;have d:=(hbW.kept ((hkA.of hk1).of hz1)).kept hw';have d0:=d.cell 0;clear d;go_simp;first|done|rfl))
   | refine qqN (by rfl) (hK _ ?_)
  clear hK K;simp only [Act.put,qqB]
 refine qA7 ?_
 go_wp2_with fail
 have hkz:=(hkA.of hk1).of hz1
 have CK:=qKq (hW.wd.kept hkz) fi (by omega)
 obtain ⟨ep,hep⟩ : ∃ y,y = qAi x.eps:=⟨_,rfl⟩
 obtain ⟨ky,hky⟩ : ∃ y,y = x.logK:=⟨_,rfl⟩
 rw [show qFO x.seed x.eps (qAi x.eps) = ky from hky.symm,← hep] at CK
 have HEP:=qh hep
 have HKY:=qh hky
 obtain ⟨ky1,ky2⟩:=ky
 clear hep hky
 refine CK.mono ?_
 rintro e w2 ⟨rfl,hk2⟩
 unfold Pr
 go_wp2_with fail
 have hk3 : qA4 w2 (w2.alloc (.cells #[U ky1,U ky2] 115)):=qal _
 have bK3:=Blk.new w2 #[U ky1,U ky2] 115
 have hkw3:=(hkz.of hk2).of hk3
 obtain ⟨w3,hw3⟩ : ∃ y,y = (w2.alloc (.cells #[U ky1,U ky2] 115)):=⟨_,rfl⟩
 rw [← hw3] at hk3 bK3 hkw3 ⊢
 clear hw3
 have hW3:=hW.kept hkw3
 have CM : Calls prog 159 #[.pointer (some ⟨M,0,none⟩),W ep,.int .i64 65535] w3 fun e w'=>e = .returned (.tuple #[(qNK ep 65535 boot (k + 1)).val,.int .i64 0]) ∧ qJ6 w' M boot (k + 1) ∧ Chg [M] w3 w':=qGE M boot k hk100 ep 65535 (by omega) w3 hW3.mkr
 obtain ⟨n,hn⟩ : ∃ n,n = qNK ep 65535 boot (k + 1):=⟨_,rfl⟩
 have HNN : Hid (n = x.logN boot k):=qh (by unfold Wd.logN;rw [hn,HEP.out])
 have hns : n.slot = 65535#32:=by rw [hn];rfl
 rw [← hn] at CM
 replace hns:=qh hns
 clear hn
 obtain ⟨T,hT⟩ : ∃ t,t = x.l.sealP (ky1,ky2) n [] rb:=⟨_,rfl⟩
 have HTT : Hid (T = x.logS boot k r):=qh (by unfold Wd.logS;rw [hT,HKY.out,HNN.out,HRB.out])
 obtain ⟨SB,T1,T2⟩:=T
 have HSB : Hid (SB = (x.l.sealP (ky1,ky2) n [] rb).1):=qh (by rw [← hT])
 have HT1 : Hid (T1 = (x.l.sealP (ky1,ky2) n [] rb).2.1):=qh (by rw [← hT])
 have HT2 : Hid (T2 = (x.l.sealP (ky1,ky2) n [] rb).2.2):=qh (by rw [← hT])
 have hSBl : SB.length = 32:=by rw [HSB.out,Lk.sealP_length];exact HRL.out
 replace hSBl:=qh hSBl
 clear hT
 refine CM.mono ?_
 rintro e w4 ⟨rfl,hM4,hc4⟩
 obtain ⟨hW4,E4⟩:=hW3.next hM4 hc4
 unfold Nn.val
 have hk5 : qA4 w4 (w4.alloc (.cells #[W n.epoch,W n.slot,U n.version] 113)):=qal _
 have bN5:=Blk.new w4 #[W n.epoch,W n.slot,U n.version] 113
 go_wp2_with fail
 obtain ⟨w5,hw5⟩ : ∃ y,y = (w4.alloc (.cells #[W n.epoch,W n.slot,U n.version] 113)):=⟨_,rfl⟩
 rw [← hw5] at hk5 bN5 ⊢
 clear hw5
 have hW5:=hW4.kept hk5
 have E5 : Ext 8 col col w w5:=((Ext.kept hW.wd.top hkw3).trans E4).trans (Ext.kept hW4.wd.top hk5)
 have hkA1:=hkA.size
 have hz2s:=(hkz.of hk2).size
 have hw3s:=hkw3.size
 have hw4s:=E4.size
 have hcb : ∀ g,(Value.slice ba 32 bc).ownBlock = some g → col g = 0:=fun g hg=>hW.wd.top g (by have:=qAM ob hg;have:=hkA.size;omega)
 have ob5:=qA3 (E4.own0 (qA3 ob ((hz1.of hk2).of hk3)) hcb) hk5
 have hcK : col w2.heap.size = 0:=hW.wd.top _ hz2s
 have hcN : col w4.heap.size = 0:=hW.wd.top _ (by omega)
 have bK5:=(E4.blk0 bK3 hcK).1.kept hk5
 have hcR : col w.heap.size = 0:=hW.wd.top _ qle
 have bR5:=(E4.blk0 (bR.kept (((hk1.of hz1).of hk2).of hk3)) hcR).1.kept hk5
 go_wp2_with fail
 refine qBW (qA8 (fun k=>k < w5.heap.size ∧ (col k = 0 ∨ 6 < col k))) [(0,0),(1,0),(2,0),(3,0),(4,0),(5,0),(6,0),(8,0),(9,0),(10,0),(13,0)] ((.light 0 (.light 1 (.light 2 (.light 3 (.light 4 (.light 5 (.light 6 (.two 7 11 (.light 8 (.light 9 (.light 10 (.heavy 11 (.heavy 12 (.light 13 .nil)))))) (.heavy 7 (.light 8 (.light 9 (.light 10 (.heavy 12 (.light 13 .nil))))))))))))))) (by kernel_rfl) (by kernel_rfl) (fun _=>qA8.refl _) (fun _ _ _ h1 h2=>h1.trans h2) ?_
 intro z0 hz0
 have hWc:=hW5.kept hz0
 have obc:=qA3 ob5 hz0
 have hWz:=hWc.wd.blk
 rw [HX.out] at hWz
 have bKz:=bK5.kept hz0
 have bNz:=bN5.kept hz0
 have Ec : Ext 8 col col w5 z0:=Ext.kept hW5.wd.top hz0
 have hw5:=E5.size
 have hzs:=hz0.size
 refine qA2 _ rfl (fun J hJ=>?_)
 refine qqP (by rfl) ?_;apply Exists.intro;refine ⟨fun w' hw'=>?_,hJ _ ?_⟩
 · go_simp;first|done|rfl
 clear hJ J;simp only [Act.put,qqB]
 refine qA2 _ rfl (fun J hJ=>?_)
 refine qqP (by rfl) ?_;apply Exists.intro;refine ⟨fun w' hw'=>?_,hJ _ ?_⟩
 · go_simp;first|done|rfl
 clear hJ J;simp only [Act.put,qqB]
 refine qA2 _ rfl (fun J hJ=>?_)
 refine qqP (by rfl) ?_;apply Exists.intro;refine ⟨fun w' hw'=>?_,hJ _ ?_⟩
 · go_simp;first|done|rfl
 clear hJ J;simp only [Act.put,qqB]
 refine qA2 _ rfl (fun J hJ=>?_)
 refine qqP (by rfl) ?_;apply Exists.intro;refine ⟨fun w' hw'=>?_,hJ _ ?_⟩
 · have c:=(hw'.block _ hWz.lt ⟨hW5.wd.blk.lt,.inr (by rw [hW.wd.cW];decide)⟩).trans hWz;have c6:=Blk.cell c 6;clear c;go_simp;first|done|rfl
 clear hJ J;simp only [Act.put,qqB]
 refine qA2 _ rfl (fun J hJ=>?_)
 refine qqP (by rfl) ?_;apply Exists.intro;refine ⟨fun w' hw'=>?_,hJ _ ?_⟩
 · have c:=(hw'.block _ bKz.lt ⟨bK5.lt,.inl hcK⟩).trans bKz;have c0:=Blk.cell c 0;have c1:=Blk.cell c 1;clear c;go_simp;first|done|rfl
 clear hJ J;simp only [Act.put,qqB]
 refine qA2 _ rfl (fun J hJ=>?_)
 refine qqP (by rfl) ?_;apply Exists.intro;refine ⟨fun w' hw'=>?_,hJ _ ?_⟩
 · have c:=(hw'.block _ bNz.lt ⟨bN5.lt,.inl hcN⟩).trans bNz;have c0:=Blk.cell c 0;have c1:=Blk.cell c 1;have c2:=Blk.cell c 2;clear c;go_simp;first|done|rfl
 clear hJ J;simp only [Act.put,qqB]
 refine qA2 _ rfl (fun J hJ=>?_)
 refine qqP (by rfl) ?_;apply Exists.intro;refine ⟨fun w' hw'=>?_,hJ _ ?_⟩
 · go_simp;first|done|rfl
 clear hJ J;simp only [Act.put,qqB]
 refine qBY ?_ ?_
 focus
  refine qAa _ rfl (fun J hJ=>?_)
  refine qqP (by rfl) ?_
  go_wp2_with fail
  refine (qFV hWc.wd fi (by omega) (ky1,ky2) n _ _ [] rb (by simp) (by rw [HRL.out];omega) (Sl.nil _) (by rw [HRL.out];exact Sl.of_own obc)).mono ?_
  rintro e y1 ⟨u,col1,rfl,ou,hus,hxs,E6⟩
  obtain ⟨ua,uc,rfl⟩:=(Sl.of_own ou).len
  rw [HRL.out] at ou
  rw [← HT1.out,← HT2.out]
  rw [← HSB.out] at ou
  rw [HRL.out]
  have hW1:=hWc.ext6 hxs E6
  have S6:=E6.sameOn (w0:=w5) (col0:=col) (fun k hk=>rfl)
  have hy1:=E6.size
  replace Ec:=Ec.trans (E6.mono (show 6 ≤ 8 by decide))
  go_wp2
  refine hJ _ _ (S6) ?_
  clear hJ J
  try simp only [Act.put,qqB]
  refine qA2 _ rfl (fun J hJ=>?_)
  refine qqP (by rfl) ?_;apply Exists.intro;refine ⟨fun w' hw'=>?_,hJ _ ?_⟩
  · go_simp;first|done|rfl
  clear hJ J;simp only [Act.put,qqB]
  refine qA2 _ rfl (fun J hJ=>?_)
  refine qqP (by rfl) ?_;apply Exists.intro;refine ⟨fun w' hw'=>?_,hJ _ ?_⟩
  · go_simp;first|done|rfl
  clear hJ J;simp only [Act.put,qqB]
  refine qA2 _ rfl (fun J hJ=>?_)
  refine qqP (by rfl) ?_;apply Exists.intro;refine ⟨fun w' hw'=>?_,hJ _ ?_⟩
  · go_simp;first|done|rfl
  clear hJ J;simp only [Act.put,qqB]
  refine qAa _ rfl (fun J hJ=>?_)
  refine qqP (by rfl) ?_
  have ka : qA4 y1 (y1.alloc (.cells #[.slice none 0 0,U 0#64,U 0#64] 165)):=qal _
  have bS:=Blk.new y1 #[.slice none 0 0,U 0#64,U 0#64] 165
  obtain ⟨gs,hgs⟩ : ∃ g,g = y1.heap.size:=⟨_,rfl⟩
  rw [← hgs] at bS
  go_wp2
  refine hJ _ _ (qA8.of_kept ka) ?_
  clear hJ J
  try simp only [Act.put,qqB]
  rw [← hgs]
  have hgs1:=Nat.le_of_eq hgs
  have hgs2:=Nat.le_of_eq hgs.symm
  clear hgs
  generalize (y1.alloc (.cells #[.slice none 0 0,U 0#64,U 0#64] 165)) = y2 at *
  replace Ec:=Ec.trans (Ext.kept (m:=8) hW1.wd.top ka)
  replace hW1:=hW1.kept ka
  replace ou:=qA3 ou ka
  have hy2:=ka.size
  have hcgs : col1 gs = 0:=E6.top _ (by omega)
  refine qAa _ rfl (fun J hJ=>?_)
  refine qqP (by rfl) ?_
  have f0:=bS.free 0
  have f1:=bS.free 1
  have f2:=bS.free 2
  have x0:=bS.cell 0
  have x1:=bS.cell 1
  have x2:=bS.cell 2
  have hcS : Chg [gs] y2 (((y2.setCell ⟨gs,0,none⟩ (.slice ua 32 uc)).setCell ⟨gs,1,none⟩ (U T1)).setCell ⟨gs,2,none⟩ (U T2)):=(((Chg.refl _ _).set qsm 0 _).set qsm 1 _).set qsm 2 _
  have bF:=((bS.set 0 (.slice ua 32 uc)).set 1 (U T1)).set 2 (U T2)
  simp only [qqA,qq0,qq1] at bF
  go_wp2
  refine hJ _ _ (qA8.of_chg hcS fun b hb hA=>by have h1:=hA.1;rw [List.mem_singleton.1 hb] at h1;omega) ?_
  clear hJ J
  try simp only [Act.put,qqB]
  clear f0 f1 f2 x0 x1 x2
  generalize (((y2.setCell ⟨gs,0,none⟩ (.slice ua 32 uc)).setCell ⟨gs,1,none⟩ (U T1)).setCell ⟨gs,2,none⟩ (U T2)) = zF at *
 rotate_left
 focus
  refine qAa _ rfl (fun J hJ=>?_)
  refine qqP (by rfl) ?_
  have ka : qA4 z0 (z0.alloc (.cells #[.slice none 0 0,U 0#64,U 0#64] 165)):=qal _
  have bS:=Blk.new z0 #[.slice none 0 0,U 0#64,U 0#64] 165
  obtain ⟨gs,hgs⟩ : ∃ g,g = z0.heap.size:=⟨_,rfl⟩
  rw [← hgs] at bS
  go_wp2
  refine hJ _ _ (qA8.of_kept ka) ?_
  clear hJ J
  try simp only [Act.put,qqB]
  rw [← hgs]
  have hgs1:=Nat.le_of_eq hgs
  have hgs2:=Nat.le_of_eq hgs.symm
  clear hgs
  generalize (z0.alloc (.cells #[.slice none 0 0,U 0#64,U 0#64] 165)) = y0 at *
  replace Ec:=Ec.trans (Ext.kept (m:=8) hWc.wd.top ka)
  replace hWc:=hWc.kept ka
  replace obc:=qA3 obc ka
  have hy0:=ka.size
  refine qAa _ rfl (fun J hJ=>?_)
  refine qqP (by rfl) ?_
  go_wp2_with fail
  refine (qFV hWc.wd fi (by omega) (ky1,ky2) n _ _ [] rb (by simp) (by rw [HRL.out];omega) (Sl.nil _) (by rw [HRL.out];exact Sl.of_own obc)).mono ?_
  rintro e y1 ⟨u,col1,rfl,ou,hus,hxs,E6⟩
  obtain ⟨ua,uc,rfl⟩:=(Sl.of_own ou).len
  rw [HRL.out] at ou
  rw [← HT1.out,← HT2.out]
  rw [← HSB.out] at ou
  rw [HRL.out]
  have hW1:=hWc.ext6 hxs E6
  have S6:=E6.sameOn (w0:=w5) (col0:=col) (fun k hk=>rfl)
  have hy1:=E6.size
  replace Ec:=Ec.trans (E6.mono (show 6 ≤ 8 by decide))
  go_wp2
  refine hJ _ _ (S6) ?_
  clear hJ J
  try simp only [Act.put,qqB]
  have hgl:=bS.lt
  replace bS:=(E6.blk0 bS (hW.wd.top _ (by omega))).1
  have hcgs : col1 gs = 0:=by rw [E6.old _ hgl];exact hW.wd.top _ (by omega)
  refine qA2 _ rfl (fun J hJ=>?_)
  refine qqP (by rfl) ?_;apply Exists.intro;refine ⟨fun w' hw'=>?_,hJ _ ?_⟩
  · go_simp;first|done|rfl
  clear hJ J;simp only [Act.put,qqB]
  refine qA2 _ rfl (fun J hJ=>?_)
  refine qqP (by rfl) ?_;apply Exists.intro;refine ⟨fun w' hw'=>?_,hJ _ ?_⟩
  · go_simp;first|done|rfl
  clear hJ J;simp only [Act.put,qqB]
  refine qA2 _ rfl (fun J hJ=>?_)
  refine qqP (by rfl) ?_;apply Exists.intro;refine ⟨fun w' hw'=>?_,hJ _ ?_⟩
  · go_simp;first|done|rfl
  clear hJ J;simp only [Act.put,qqB]
  refine qAa _ rfl (fun J hJ=>?_)
  refine qqP (by rfl) ?_
  have f0:=bS.free 0
  have f1:=bS.free 1
  have f2:=bS.free 2
  have x0:=bS.cell 0
  have x1:=bS.cell 1
  have x2:=bS.cell 2
  have hcS : Chg [gs] y1 (((y1.setCell ⟨gs,0,none⟩ (.slice ua 32 uc)).setCell ⟨gs,1,none⟩ (U T1)).setCell ⟨gs,2,none⟩ (U T2)):=(((Chg.refl _ _).set qsm 0 _).set qsm 1 _).set qsm 2 _
  have bF:=((bS.set 0 (.slice ua 32 uc)).set 1 (U T1)).set 2 (U T2)
  simp only [qqA,qq0,qq1] at bF
  go_wp2
  refine hJ _ _ (qA8.of_chg hcS fun b hb hA=>by have h1:=hA.1;rw [List.mem_singleton.1 hb] at h1;omega) ?_
  clear hJ J
  try simp only [Act.put,qqB]
  clear f0 f1 f2 x0 x1 x2
  generalize (((y1.setCell ⟨gs,0,none⟩ (.slice ua 32 uc)).setCell ⟨gs,1,none⟩ (U T1)).setCell ⟨gs,2,none⟩ (U T2)) = zF at *
 all_goals
  have ouF:=qAt ou hcS bS (by decide)
  have hcg : col1 gs = 0:=hcgs
  have hWF : WM col1 zF P (x.logL boot k r) M boot (k + 1):=by
   have hx : x.logL boot k r = x.setL (x.l.sealL (ky1,ky2) n [] rb):=by unfold Wd.logL;rw [← HKY.out,← HNN.out,← HRB.out]
   rw [hx]
   exact ⟨hW1.wd.chg hcS (fun b hb=>by rw [List.mem_singleton] at hb;subst hb;exact .inl hcg),hcS.blk hW1.mkr (by rw [List.mem_singleton];intro e;rw [← e,hW1.cM] at hcg;cases hcg),hW1.cM⟩
  have EF:=Ec.newset hcS (by omega)
  refine qA2 _ rfl (fun J hJ=>?_)
  refine qqP (by rfl) ?_;apply Exists.intro;refine ⟨fun w' hw'=>?_,hJ _ ?_⟩
  · go_simp;first|done|rfl
  clear hJ J;simp only [Act.put,qqB]
  refine qCS ?_
  have bNF:=(EF.blk0 bN5 hcN).1
  obtain ⟨bRF,hcR1⟩:=EF.blk0 bR5 hcR
  have EE:=E5.trans EF
  have d0:=bNF.cell 0
  have d1:=bNF.cell 1
  have d2:=bNF.cell 2
  have s0:=bF.cell 0
  have s1:=bF.cell 1
  have s2:=bF.cell 2
  have CRc:=qJx n T1 T2 (.slice ua 32 uc) SB hSBl.out hns.out zF (by rw [hSBl.out];exact Sl.of_own ouF)
  unfold Nn.val at CRc
  obtain ⟨rec,hrec⟩ : ∃ y,y = qFA n SB (T1,T2):=⟨_,rfl⟩
  have HREC : Hid (rec = x.logR boot k r):=qh (by unfold Wd.logR;rw [hrec,← HNN.out,← HTT.out])
  have hrcl : rec.length = 60:=by rw [HREC.out];exact qG1 _ _ _ _
  rw [← hrec] at CRc
  replace hrcl:=qh hrcl
  clear hrec
  go_wp2_with fail
  refine CRc.mono ?_
  rintro e v1 ⟨b2,rfl,o2,kv1⟩
  obtain ⟨b2a,b2c,rfl⟩:=(Sl.of_own o2).len
  have hWv:=hWF.kept kv1
  have bWv1:=hWv.wd.blk
  rw [show (x.logL boot k r).n = N from HX.out] at bWv1
  have bRv1:=bRF.kept kv1
  have fL:=fi.logL boot k r
  have CPl : ∀ z,qA4 v1 z → Calls prog 102 #[.pointer (some ⟨P.W,0,none⟩),U r.count] z fun e w'=>e = .returned (.int .i64 (gRec N (qDt r.count) : Nat)) ∧ qA4 z w':=fun z hz=>by
   have:=qIu (hWv.wd.kept hz) fL r.count
   rw [show (x.logL boot k r).n = N from HX.out] at this
   exact this
  have hin : inB (gSize (x.logL boot k r).n) ((gRec N (qDt r.count) : Nat),rec):=by
   have:=qG2 x boot k r (by rw [HX.out];omega)
   rw [HX.out] at this
   rw [HREC.out,show (x.logL boot k r).n = N from HX.out]
   exact this
  obtain ⟨B,hB⟩ : ∃ y,y = x.p.spend.1:=⟨_,rfl⟩
  have HB:=qh hB
  clear hB d0 d1 d2 s0 s1 s2
  go_wp2_with fail
  refine qAe (qA8 (fun k=>k < v1.heap.size ∧ (col1 k = 0 ∨ 6 < col1 k))) [(0,0),(1,0),(2,0),(3,0),(4,0),(5,0),(6,0),(8,0),(7,1),(9,1),(10,0)] (by kernel_rfl) (by kernel_rfl) ?_ ?_ ?_
  · exact fun _=>qA8.refl _
  · exact fun _ _ _ h1 h2=>h1.trans h2
  intro v2 hv2
  have bWv:=bWv1.kept hv2
  have bRv:=bRv1.kept hv2
  repeat
   refine qA0 _ rfl (fun K hK=>?_)
   first
    | (refine qqP (by rfl) ?_;apply Exists.intro;refine ⟨fun w' hw'=>?_,hK _ ?_⟩;(have c:=(hw'.block _ bWv.lt ⟨bWv1.lt,.inr (by rw [hWv.wd.cW];decide)⟩).trans bWv;have c2:=Blk.cell c 2;clear c;have d:=(hw'.block _ bRv.lt ⟨bRv1.lt,.inl hcR1⟩).trans bRv;have d0:=Blk.cell d 0;clear d;go_simp;first|done|rfl))
    | refine qqN (by rfl) (hK _ ?_)
   clear hK K;simp only [Act.put,qqB]
  refine qqH _ rfl (by rfl) (fun K hK=>?_)
  go_wp2_with fail
  refine (CPl v2 hv2).mono ?_
  rintro e v3 ⟨rfl,kv3⟩
  go_wp2
  refine hK _ _ (qA8.of_kept kv3) ?_
  clear hK K
  try simp only [Act.put,qqB]
  refine qqH _ rfl (by rfl) (fun K hK=>?_)
  go_wp2_with fail
  refine (qEw ((hWv.wd.kept hv2).kept kv3) fL.ok (by omega) (gRec N (qDt r.count) : Nat) _ rec hin (by rw [hrcl.out];exact Sl.of_own (qA3 (qA3 o2 hv2) kv3)) (fun a c e hl=>by rw [hrcl.out] at e;exact qHz o2 hWF.wd.top qle a c e hl)).mono ?_
  rintro e v4 ⟨rfl,col3,hx4,E9⟩
  rw [show (x.logL boot k r).p.spend.1 = _ from HB.out.symm]
  have S9:=E9.sameOn (w0:=v1) (col0:=col1) (fun k hk=>rfl)
  go_wp2
  refine hK _ _ (S9) ?_
  clear hK K
  try simp only [Act.put,qqB]
  repeat
   refine qA0 _ rfl (fun K hK=>?_)
   first
    | (refine qqP (by rfl) ?_;apply Exists.intro;refine ⟨fun w' hw'=>?_,hK _ ?_⟩;go_simp;first|done|rfl)
    | refine qqN (by rfl) (hK _ ?_)
   clear hK K;simp only [Act.put,qqB]
  refine qA7 ?_
  replace hx4 : qAS col3 v4 P (x.logW boot k r):=by
   unfold Wd.logW
   rw [HX.out,← HREC.out]
   exact hx4
  have hWM:=hWv.ext6 hx4 ((Ext.kept (m:=6) hWv.wd.top (hv2.of kv3)).trans E9)
  have EZ:=(EE.trans (Ext.kept (m:=8) hWF.wd.top kv1)).trans (((Ext.kept (m:=6) hWv.wd.top (hv2.of kv3)).trans E9).mono (show 6 ≤ 8 by decide))
  cases B with
  | false =>
   go_wp2_with fail
   refine bodyPost_ret (v:=.int .i64 7) (by simp [results,results176,go_sem];done) rfl ⟨by rw [HE.out,← HB.out];rfl,col3,hWM,EZ⟩
  | true =>
   go_wp2_with fail
   refine bodyPost_ret (v:=.int .i64 0) (by simp [results,results176,go_sem];done) rfl ⟨by rw [HE.out,← HB.out];rfl,col3,hWM,EZ⟩
theorem qLo {col : Nat → Nat} {w : World} {P : qAQ} {x : Wd} {m M k : Nat} {boot : BitVec 64} (hW : WM col w P x M boot k) (fi : x.fine m) (hm : m ≤ 70000) (hk100 : k = 100) (r : Rt) (hr : r.slots = (x.n : Int)) :
 Calls prog 176 #[.pointer (some ⟨P.W,0,none⟩),.pointer (some ⟨M,0,none⟩),.agg #[U r.count,W r.epoch,.int .i64 (x.n : Int),U r.hash.1,U r.hash.2]] w fun e w'=>e = .returned (.int .i64 6) ∧ qA4 w w':=by
 have hn16:=qAm fi.ok.sl
 obtain ⟨N,hN⟩ : ∃ N,N = x.n:=⟨_,rfl⟩
 rw [← hN] at hn16 hr ⊢
 have HX : Hid (x.n = N):=qh hN.symm
 have hbW:=hW.wd.blk
 rw [← hN] at hbW
 clear hN
 have hkA : qA4 w (w.alloc (.cells #[U r.count,W r.epoch,.int .i64 (N : Int),U r.hash.1,U r.hash.2] 148)):=qal _
 have bR:=Blk.new w #[U r.count,W r.epoch,.int .i64 (N : Int),U r.hash.1,U r.hash.2] 148
 have a0:=bR.cell 0
 have a1:=bR.cell 1
 have a2:=bR.cell 2
 have a3:=bR.cell 3
 have a4:=bR.cell 4
 have CP:=fun wx=>qFf (N : Int) (by omega) r.count r.epoch r.hash.1 r.hash.2 wx
 have hrB : qDm ⟨r.count,r.epoch,(N : Int),(r.hash.1,r.hash.2)⟩ = qDm r:=by rw [← hr]
 rw [hrB] at CP
 obtain ⟨rb,hrb⟩ : ∃ b,b = qDm r:=⟨_,rfl⟩
 have hrl : rb.length = 32:=by rw [hrb];exact qBd r
 rw [← hrb] at CP
 have HRB:=qh hrb
 have HRL:=qh hrl
 clear hrB hrb hrl hr
 go_enter func176,ntmps176
 go_wp2_with fail
 generalize (w.alloc (.cells #[U r.count,W r.epoch,.int .i64 (N : Int),U r.hash.1,U r.hash.2] 148)) = wA at *
 refine (CP _).mono ?_
 rintro e w1 ⟨b,rfl,ob,hk1⟩
 clear a0 a1 a2 a3 a4
 obtain ⟨ba,bc,rfl⟩:=(Sl.of_own ob).len
 go_wp2_with fail
 refine qA5 [(0,0),(1,0),(2,0),(3,0),(4,0),(5,0),(6,0),(7,0),(8,0),(9,0),(10,0),(11,0),(12,0),(13,0),(14,0),(15,0)] (by kernel_rfl) (by kernel_rfl) ?_
 intro z1 hz1
 repeat
  refine qA0 _ rfl (fun K hK=>?_)
  first
   | (refine qqP (by rfl) ?_;apply Exists.intro;refine ⟨fun w' hw'=>?_,hK _ ?_⟩;(have c:=(bR.kept (hk1.of hz1)).kept hw';have c2:=c.cell 2;clear c;have d:=(hbW.kept ((hkA.of hk1).of hz1)).kept hw';have d0:=d.cell 0;clear d;go_simp;first|done|rfl))
   | refine qqN (by rfl) (hK _ ?_)
  clear hK K;simp only [Act.put,qqB]
 refine qA7 ?_
 go_wp2_with fail
 have hkz:=(hkA.of hk1).of hz1
 have CK:=qKq (hW.wd.kept hkz) fi (by omega)
 obtain ⟨ep,hep⟩ : ∃ y,y = qAi x.eps:=⟨_,rfl⟩
 obtain ⟨ky,hky⟩ : ∃ y,y = x.logK:=⟨_,rfl⟩
 rw [show qFO x.seed x.eps (qAi x.eps) = ky from hky.symm,← hep] at CK
 have HEP:=qh hep
 have HKY:=qh hky
 obtain ⟨ky1,ky2⟩:=ky
 clear hep hky
 refine CK.mono ?_
 rintro e w2 ⟨rfl,hk2⟩
 unfold Pr
 go_wp2_with fail
 have hk3 : qA4 w2 (w2.alloc (.cells #[U ky1,U ky2] 115)):=qal _
 have hkw3:=(hkz.of hk2).of hk3
 obtain ⟨w3,hw3⟩ : ∃ y,y = (w2.alloc (.cells #[U ky1,U ky2] 115)):=⟨_,rfl⟩
 rw [← hw3] at hk3 hkw3 ⊢
 clear hw3
 have hW3:=hW.kept hkw3
 have CM : Calls prog 159 #[.pointer (some ⟨M,0,none⟩),W ep,.int .i64 65535] w3 fun e w'=>e = .returned (.tuple #[.agg #[W 0#32,W 0#32,U 0#64],.int .i64 6]) ∧ qA4 w3 w':=qGD M boot ep 65535 (by omega) w3 (by rw [← hk100];exact hW3.mkr)
 clear hk100
 refine CM.mono ?_
 rintro e w4 ⟨rfl,hk4⟩
 have hk5 : qA4 w4 (w4.alloc (.cells #[W 0#32,W 0#32,U 0#64] 113)):=qal _
 go_wp2_with fail
 refine bodyPost_ret (v:=.int .i64 6) (by simp [results,results176,go_sem];done) rfl ⟨rfl,(hkw3.of hk4).of hk5⟩
theorem qQ0 {col : Nat → Nat} {w : World} {P : qAQ} {x : Wd} {m M k : Nat} {boot : BitVec 64} (hW : WM col w P x M boot k) (fi : x.fine m) (hm : m ≤ 70000) (hk : k ≤ 100) (r : Rt) (hr : r.slots = (x.n : Int)) :
 Calls prog 176 #[.pointer (some ⟨P.W,0,none⟩),.pointer (some ⟨M,0,none⟩),.agg #[U r.count,W r.epoch,.int .i64 (x.n : Int),U r.hash.1,U r.hash.2]] w fun e w'=>e = .returned (.int .i64 (x.logE k)) ∧ qOH col w P M (x.logX boot k r) boot (qFB k) w':=by
 by_cases h : k < 100
 · have e1 : x.logE k = if x.p.spend.1 then 0 else 7:=if_pos h
   have e2 : x.logX boot k r = x.logW boot k r:=if_pos h
   have e3 : qFB k = k + 1:=if_pos h
   rw [e1,e2,e3]
   exact qLn hW fi hm h r hr
 · have e1 : x.logE k = 6:=if_neg h
   have e2 : x.logX boot k r = x:=if_neg h
   have e3 : qFB k = k:=if_neg h
   rw [e1,e2,e3]
   refine (qLo hW fi hm (by omega) r hr).mono ?_
   rintro e w' ⟨rfl,hk'⟩
   exact ⟨rfl,col,hW.kept hk',Ext.kept hW.wd.top hk'⟩
end Go.Proofs.YtdlgihbpiakebaaGreat
