import Derived.Test.YtldmebjnklmpfaaGreatMh01
import Derived.Test.YtldmebjnklmpfaaGreatMh03
import Derived.Test.YtldmebjnklmpfaaGreatMh05
import Derived.Test.YtldmebjnklmpfaaGreatMh09
import Derived.Test.YtldmebjnklmpfaaGreatMh10
set_option maxRecDepth 100000
set_option maxHeartbeats 4000000
namespace Go.Proofs.YtldmebjnklmpfaaGreat
open Go Go.RowKit
def pairB (p : Pair) : List UInt8:=putB p.1 8 ++ putB p.2 8
def pairG (bs : List UInt8) : Pair:=(getB (bs.take 8),getB (bs.drop 8))
theorem pairB_length (p : Pair) : (pairB p).length = 16:=by simp [pairB,putB_length]
theorem Sl.sub {w : World} {b off cap n : Nat} {cs : List Value} (h : Sl w (.slice (some ⟨b,off,none⟩) n cap) n cs) (i m cap' : Nat) (hm : m ≤ cap') (hc : cap' ≤ maxLen) :
 Sl w (.slice (some ⟨b,off + i,none⟩) m cap') m ((cs.drop i).take m):=by
 rcases h with ⟨h,_⟩ | ⟨a,c,ha,h1,h2,h3⟩
 · cases h
 · cases ha
   refine Sl.mk hm hc fun j u hj=>?_
   rw [List.getElem?_take] at hj
   split at hj
   · rw [List.getElem?_drop] at hj
     have:=h3 _ _ hj
     rw [add_off] at this
     rw [show off + i + j = off + (i + j) by omega]
     exact this
   · cases hj
theorem bytes_any (a b : BitVec 64) (w : World) : Calls Tryz.prog 128 #[.agg #[U a,U b]] w fun e w'=>∃ r,e = .returned r ∧ w'.ownsRow w.heap.size 5 1 r 16 (bcells (pairB (a,b))) ∧ Kept w w':=by
 have hA : Blk (w.alloc (.cells #[U a,U b] 115)) w.heap.size #[U a,U b] 115:=Blk.new _ _ _
 go_enter Tryz.func128,Tryz.ntmps128
 go_wp2_with fail
 have hst : ∀ (i : Nat) (v : Value) (w1 w2 : World),((fun i (vv : Value) w'=>match i with | 0=>vv = .pointer (some ⟨w.heap.size,0,none⟩) | 1=>vv = U a | 2=>w'.ownsRow (w.alloc (.cells #[U a,U b] 115)).heap.size 5 1 vv 8 (bcells (putB a 8)) | 3=>vv = .pointer (some ⟨w.heap.size,1,none⟩) | 4=>vv = U b | 5=>w'.ownsRow (w.alloc (.cells #[U a,U b] 115)).heap.size 5 1 vv 8 (bcells (putB b 8)) | 6=>w'.ownsRow (w.alloc (.cells #[U a,U b] 115)).heap.size 5 1 vv 16 (bcells (pairB (a,b))) | _=>True) : Nat → Value → World → Prop) i v w1 → Kept w1 w2 → ((fun i (vv : Value) w'=>match i with | 0=>vv = .pointer (some ⟨w.heap.size,0,none⟩) | 1=>vv = U a | 2=>w'.ownsRow (w.alloc (.cells #[U a,U b] 115)).heap.size 5 1 vv 8 (bcells (putB a 8)) | 3=>vv = .pointer (some ⟨w.heap.size,1,none⟩) | 4=>vv = U b | 5=>w'.ownsRow (w.alloc (.cells #[U a,U b] 115)).heap.size 5 1 vv 8 (bcells (putB b 8)) | 6=>w'.ownsRow (w.alloc (.cells #[U a,U b] 115)).heap.size 5 1 vv 16 (bcells (pairB (a,b))) | _=>True) : Nat → Value → World → Prop) i v w2:=by
  intro i v w1 w2 h hk
  match i,h with
  | 0,h=>exact h
  | 1,h=>exact h
  | 2,h=>exact own_kept h hk
  | 3,h=>exact h
  | 4,h=>exact h
  | 5,h=>exact own_kept h hk
  | 6,h=>exact own_kept h hk
  | _ + 7,_=>trivial
 refine wp_region_postsG 7 (fun i (vv : Value) w'=>match i with | 0=>vv = .pointer (some ⟨w.heap.size,0,none⟩) | 1=>vv = U a | 2=>w'.ownsRow (w.alloc (.cells #[U a,U b] 115)).heap.size 5 1 vv 8 (bcells (putB a 8)) | 3=>vv = .pointer (some ⟨w.heap.size,1,none⟩) | 4=>vv = U b | 5=>w'.ownsRow (w.alloc (.cells #[U a,U b] 115)).heap.size 5 1 vv 8 (bcells (putB b 8)) | 6=>w'.ownsRow (w.alloc (.cells #[U a,U b] 115)).heap.size 5 1 vv 16 (bcells (pairB (a,b))) | _=>True) (by kernel_rfl) (by kernel_rfl) ?_ ?_
 · intro i o hi ho x w1 hw hpre K hK
   match i,hi,ho with
   | 0,_,ho =>
    have e:=Option.some.inj ho;subst e
    have hKK : ∀ (vv : Value) (w'' : World),Kept w1 w'' → (vv = .pointer (some ⟨w.heap.size,0,none⟩)) → K _ w'':=fun v w'' h1 h2=>hK v w'' (hw.of h1) (fun j _ _ h=>hst j _ _ _ h h1) h2
    clear hK hpre hst
    simp only [putAll,dstOf,List.getElem?_toArray,List.getElem?_cons_zero,List.getElem?_cons_succ,Option.bind_some,Act.put,qqA,qq0,qq1] at hKK ⊢
    refine qqP (by rfl) ?_
    go_wp2
    exact hKK _ _ (Below.refl _ _) rfl
   | 1,_,ho =>
    have e:=Option.some.inj ho;subst e
    have p0 : x 0 = .pointer (some ⟨w.heap.size,0,none⟩):=hpre 0 (by kernel_rfl)
    have hKK : ∀ (vv : Value) (w'' : World),Kept w1 w'' → (vv = U a) → K _ w'':=fun v w'' h1 h2=>hK v w'' (hw.of h1) (fun j _ _ h=>hst j _ _ _ h h1) h2
    clear hK hpre hst
    simp only [putAll,dstOf,List.getElem?_toArray,List.getElem?_cons_zero,List.getElem?_cons_succ,Option.bind_some,Act.put,qqA,qq0,qq1] at hKK ⊢
    simp only [p0] at hKK ⊢
    clear p0
    refine qqP (by rfl) ?_
    have c:=hA.kept hw;have c0:=c.cell 0;have c1:=c.cell 1;clear c
    go_wp2
    exact hKK _ _ (Below.refl _ _) rfl
   | 2,_,ho =>
    have e:=Option.some.inj ho;subst e
    have p1 : x 1 = U a:=hpre 1 (by kernel_rfl)
    have hKK : ∀ (vv : Value) (w'' : World),Kept w1 w'' → (w''.ownsRow (w.alloc (.cells #[U a,U b] 115)).heap.size 5 1 vv 8 (bcells (putB a 8))) → K _ w'':=fun v w'' h1 h2=>hK v w'' (hw.of h1) (fun j _ _ h=>hst j _ _ _ h h1) h2
    clear hK hpre hst
    simp only [putAll,dstOf,List.getElem?_toArray,List.getElem?_cons_zero,List.getElem?_cons_succ,Option.bind_some,Act.put,qqA,qq0,qq1] at hKK ⊢
    simp only [p1] at hKK ⊢
    clear p1
    refine qqP (by rfl) ?_
    go_wp2_with fail
    refine (put_some _ 8 (by omega) (by omega) _).mono ?_
    rintro e w2 ⟨r,rfl,hown,hk2⟩
    go_wp2
    exact hKK _ _ hk2 (own_base hown hw.size)
   | 3,_,ho =>
    have e:=Option.some.inj ho;subst e
    have hKK : ∀ (vv : Value) (w'' : World),Kept w1 w'' → (vv = .pointer (some ⟨w.heap.size,1,none⟩)) → K _ w'':=fun v w'' h1 h2=>hK v w'' (hw.of h1) (fun j _ _ h=>hst j _ _ _ h h1) h2
    clear hK hpre hst
    simp only [putAll,dstOf,List.getElem?_toArray,List.getElem?_cons_zero,List.getElem?_cons_succ,Option.bind_some,Act.put,qqA,qq0,qq1] at hKK ⊢
    refine qqP (by rfl) ?_
    go_wp2
    exact hKK _ _ (Below.refl _ _) rfl
   | 4,_,ho =>
    have e:=Option.some.inj ho;subst e
    have p3 : x 3 = .pointer (some ⟨w.heap.size,1,none⟩):=hpre 3 (by kernel_rfl)
    have hKK : ∀ (vv : Value) (w'' : World),Kept w1 w'' → (vv = U b) → K _ w'':=fun v w'' h1 h2=>hK v w'' (hw.of h1) (fun j _ _ h=>hst j _ _ _ h h1) h2
    clear hK hpre hst
    simp only [putAll,dstOf,List.getElem?_toArray,List.getElem?_cons_zero,List.getElem?_cons_succ,Option.bind_some,Act.put,qqA,qq0,qq1] at hKK ⊢
    simp only [p3] at hKK ⊢
    clear p3
    refine qqP (by rfl) ?_
    have c:=hA.kept hw;have c0:=c.cell 0;have c1:=c.cell 1;clear c
    go_wp2
    exact hKK _ _ (Below.refl _ _) rfl
   | 5,_,ho =>
    have e:=Option.some.inj ho;subst e
    have p4 : x 4 = U b:=hpre 4 (by kernel_rfl)
    have hKK : ∀ (vv : Value) (w'' : World),Kept w1 w'' → (w''.ownsRow (w.alloc (.cells #[U a,U b] 115)).heap.size 5 1 vv 8 (bcells (putB b 8))) → K _ w'':=fun v w'' h1 h2=>hK v w'' (hw.of h1) (fun j _ _ h=>hst j _ _ _ h h1) h2
    clear hK hpre hst
    simp only [putAll,dstOf,List.getElem?_toArray,List.getElem?_cons_zero,List.getElem?_cons_succ,Option.bind_some,Act.put,qqA,qq0,qq1] at hKK ⊢
    simp only [p4] at hKK ⊢
    clear p4
    refine qqP (by rfl) ?_
    go_wp2_with fail
    refine (put_some _ 8 (by omega) (by omega) _).mono ?_
    rintro e w2 ⟨r,rfl,hown,hk2⟩
    go_wp2
    exact hKK _ _ hk2 (own_base hown hw.size)
   | 6,_,ho =>
    have e:=Option.some.inj ho;subst e
    have p2 : w1.ownsRow (w.alloc (.cells #[U a,U b] 115)).heap.size 5 1 (x 2) 8 (bcells (putB a 8)):=hpre 2 (by kernel_rfl)
    have p5 : w1.ownsRow (w.alloc (.cells #[U a,U b] 115)).heap.size 5 1 (x 5) 8 (bcells (putB b 8)):=hpre 5 (by kernel_rfl)
    have hKK : ∀ (vv : Value) (w'' : World),Kept _ w'' → ((w1.ownsRow (w.alloc (.cells #[U a,U b] 115)).heap.size 5 1 (x 2) 8 (bcells (putB a 8))) → (w''.ownsRow (w.alloc (.cells #[U a,U b] 115)).heap.size 5 1 (x 2) 8 (bcells (putB a 8)))) → ((w1.ownsRow (w.alloc (.cells #[U a,U b] 115)).heap.size 5 1 (x 5) 8 (bcells (putB b 8))) → (w''.ownsRow (w.alloc (.cells #[U a,U b] 115)).heap.size 5 1 (x 5) 8 (bcells (putB b 8)))) → (w''.ownsRow (w.alloc (.cells #[U a,U b] 115)).heap.size 5 1 vv 16 (bcells (pairB (a,b)))) → K _ w'':=fun v w'' h0 s2 s5 h2=>hK v w'' h0 (fun j hj hne h=>by
     match j,hj,hne,h with
     | 0,_,hne,h=>exact h
     | 1,_,hne,h=>exact h
     | 2,_,hne,h=>exact s2 h
     | 3,_,hne,h=>exact h
     | 4,_,hne,h=>exact h
     | 5,_,hne,h=>exact s5 h
     | 6,_,hne,h=>exact absurd rfl hne
     | j + 7,hj,_,_=>exact absurd hj (by omega)) h2
    clear hK hpre hst
    simp only [putAll,dstOf,List.getElem?_toArray,List.getElem?_cons_zero,List.getElem?_cons_succ,Option.bind_some,Act.put,qqA,qq0,qq1] at hKK ⊢
    refine qqP (by rfl) ?_
    refine wp_append3 sl_bytes (by rfl) (by rfl) (by rfl) p2 (Sl.of_own p5) (by simp [bcells_length,putB_length]) (oneCell_V8 _) (by unfold maxLen;omega) (by omega) hw.size ?_
    intro v2 w2 hown hg _ _
    exact hKK v2 w2 (Below.trans hw (hg.below (fun i hi=>(p2.lt i hi).1) hw.size)) (fun h=>hg.own h (by omega)) (fun h=>hg.own h (by omega)) (by rw [pairB,bcells_append];exact hown)
   | i + 7,hi,_=>exact absurd hi (by omega)
 · intro x w1 hw hA
   have p0 : x 0 = .pointer (some ⟨w.heap.size,0,none⟩):=hA 0 (by omega)
   have p1 : x 1 = U a:=hA 1 (by omega)
   have p2 : w1.ownsRow (w.alloc (.cells #[U a,U b] 115)).heap.size 5 1 (x 2) 8 (bcells (putB a 8)):=hA 2 (by omega)
   have p3 : x 3 = .pointer (some ⟨w.heap.size,1,none⟩):=hA 3 (by omega)
   have p4 : x 4 = U b:=hA 4 (by omega)
   have p5 : w1.ownsRow (w.alloc (.cells #[U a,U b] 115)).heap.size 5 1 (x 5) 8 (bcells (putB b 8)):=hA 5 (by omega)
   have p6 : w1.ownsRow (w.alloc (.cells #[U a,U b] 115)).heap.size 5 1 (x 6) 16 (bcells (pairB (a,b))):=hA 6 (by omega)
   clear hA hst
   simp only [List.drop_succ_cons,List.drop_zero,putAll,dstOf,List.getElem?_toArray,List.getElem?_cons_zero,List.getElem?_cons_succ,Option.bind_some,Act.put,qqA,qq0,qq1]
   simp only [p0,p1,p3,p4]
   clear p0 p1 p3 p4
   go_wp2
   go_ret
   exact ⟨_,rfl,own_base p6 (by simp),((Below.refl _ _).alloc (Nat.le_refl _) _).trans (hw.mono (by simp))⟩
theorem pair_some (bv : Value) (bs : List UInt8) (w : World) (hs : Sl w bv bs.length (bcells bs)) (h : bs.length = 16) :
 Calls Tryz.prog 94 #[bv] w fun e w'=>e = .returned (.tuple #[Pr (pairG bs),.bool true]) ∧ Kept w w':=by
 obtain ⟨b,off,cap,rfl,hc1,hc2,hc3,hc4⟩:=hs.at (by rw [bcells_length];omega)
 rw [h] at hs hc1 ⊢
 have hk : Kept w (w.alloc (.cells #[U 0#64,U 0#64] 115)):=(Below.refl _ _).alloc (Nat.le_refl _) _
 have s1:=(hs.sub 0 8 cap (by omega) hc2).kept hk
 have s2:=(hs.sub 8 8 (cap - 8) (by omega) (by omega)).kept hk
 have hR:=Blk.new w #[U 0#64,U 0#64] 115
 have e1 : (bcells bs).take 8 = bcells (bs.take 8):=by simp [bcells]
 have e2 : ((bcells bs).drop 8).take 8 = bcells (bs.drop 8):=by
  rw [List.take_of_length_le (by simp [bcells];omega)]
  simp [bcells]
 rw [List.drop_zero,e1,Nat.add_zero] at s1
 rw [e2] at s2
 have l1 : (bs.take 8).length = 8:=by simp;omega
 have l2 : (bs.drop 8).length = 8:=by simp;omega
 have S1:=Lib.hid (show Sl (w.alloc (.cells #[U 0#64,U 0#64] 115)) (.slice (some ⟨b,off,none⟩) 8 cap) (bs.take 8).length (bcells (bs.take 8)) by rw [l1];exact s1)
 have S2:=Lib.hid (show Sl (w.alloc (.cells #[U 0#64,U 0#64] 115)) (.slice (some ⟨b,off + 8,none⟩) 8 (cap - 8)) (bs.drop 8).length (bcells (bs.drop 8)) by rw [l2];exact s2)
 have L1:=Lib.hid l1
 have L2:=Lib.hid l2
 have c8 : (8 : Int) ≤ (cap : Int):=by omega
 have c16 : (16 : Int) ≤ (cap : Int):=by omega
 have cm : (cap : Int) ≤ 9223372036854775807:=by unfold maxLen at hc2;omega
 have f0:=hR.free 0
 have f1:=hR.free 1
 have r0:=hR.cell 0
 have r1:=hR.cell 1
 clear hs hk s1 s2 hR e1 e2 l1 l2 hc1 hc2 hc4 hc3 h
 go_enter Tryz.func94,Tryz.ntmps94
 go_wp2_with fail
 refine (get_some _ (bs.take 8) _ S1.out (by rw [L1.out];omega) (by rw [L1.out];omega)).mono ?_
 rintro e w2 ⟨rfl,rfl⟩
 go_wp2_with fail
 refine (get_some _ (bs.drop 8) _ S2.out (by rw [L2.out];omega) (by rw [L2.out];omega)).mono ?_
 rintro e w2 ⟨rfl,rfl⟩
 go_wp2
 refine bodyPost_ret (v:=.tuple #[Pr (pairG bs),.bool true]) (by simp [results,Tryz.results94,go_sem,r0,r1,pairG];done) rfl ⟨rfl,?_⟩
 first | exact (Below.refl _ _).alloc (Nat.le_refl _) _ | exact ((((Below.refl _ _).alloc (Nat.le_refl _) _).setCell (by simp) _).setCell (by simp) _)
end Go.Proofs.YtldmebjnklmpfaaGreat
namespace Go.Proofs.YtldmebjnklmpfaaGreat
open Go
def Nn.block (n : Nn) : Pair:=(BitVec.setWidth 64 n.epoch <<< 32 ||| BitVec.setWidth 64 n.slot,n.version)
def sub2 (key : Pair) (n : Nn) : Pair:=enc2 key n.block
def flowTo (sub : Pair) : Nat → List UInt8
 | 0=>[]
 | k + 1=>flowTo sub k ++ pairB (enc2 sub (BitVec.ofNat 64 (k + 1),0#64))
def flowB (sub : Pair) (n : Nat) : List UInt8:=(flowTo sub ((n + 15) / 16)).take n
theorem flowTo_length (sub : Pair) : ∀ k,(flowTo sub k).length = 16 * k
 | 0=>rfl
 | k + 1=>by rw [flowTo,List.length_append,flowTo_length sub k,pairB_length];omega
theorem flowB_length (sub : Pair) (n : Nat) : (flowB sub n).length = n:=by
 unfold flowB;rw [List.length_take,flowTo_length];omega
def xorB (a b : List UInt8) : List UInt8:=List.zipWith (· ^^^ ·) a b
theorem xorB_xorB (a b : List UInt8) : xorB (xorB a b) b = a.take (min a.length b.length):=by
 induction a generalizing b with
 | nil=>simp [xorB]
 | cons x a ih =>
  cases b with
  | nil=>simp [xorB]
  | cons y b =>
   have:=ih b
   unfold xorB at this ⊢
   simp only [List.zipWith_cons_cons,this,List.length_cons,Nat.succ_min_succ,List.take_succ_cons]
   congr 1
   rw [UInt8.xor_assoc,UInt8.xor_self,UInt8.xor_zero]
def step2 (s m : Pair) : Pair:=((enc2 m s).1 ^^^ s.1,(enc2 m s).2 ^^^ s.2)
def padN (n : Nat) : Nat:=(7 + 15 * n) % 16
theorem padN_end (n : Nat) : (n + 1 + padN n) % 16 = 8:=by unfold padN;omega
theorem padN_lt (n k : Nat) (h : k < padN n) : (n + 1 + k) % 16 ≠ 8:=by unfold padN at h;omega
theorem padN_le (n : Nat) : padN n ≤ 15:=by unfold padN;omega
def padB (bs : List UInt8) : List UInt8:=bs ++ [128] ++ List.replicate (padN bs.length) 0 ++ putB (BitVec.ofInt 64 (bs.length : Int)) 8
theorem padB_length (bs : List UInt8) : (padB bs).length = bs.length + 1 + padN bs.length + 8:=by simp [padB,putB_length];omega
theorem padB_16 (bs : List UInt8) : ∃ m,(padB bs).length = 16 * m:=by
 have:=padN_end bs.length
 exact ⟨(padB bs).length / 16,by rw [padB_length];omega⟩
def iv : Pair:=(7640891576956012808#64,13503953896175478587#64)
def row16 (l : List UInt8) (k : Nat) : List UInt8:=(l.drop (16 * k)).take 16
theorem row16_length (l : List UInt8) (k m : Nat) (h : l.length = 16 * m) (hk : k < m) : (row16 l k).length = 16:=by
 unfold row16;rw [List.length_take,List.length_drop];omega
def sumK (l : List UInt8) : Nat → Pair
 | 0=>iv
 | k + 1=>step2 (sumK l k) (pairG (row16 l k))
def sumB (bs : List UInt8) : Pair:=sumK (padB bs) ((padB bs).length / 16)
end Go.Proofs.YtldmebjnklmpfaaGreat
