import Derived.Test.YtdlgihbpiakebaaGreatMd01
import Derived.Test.YtdlgihbpiakebaaGreatMd03
import Derived.Test.YtdlgihbpiakebaaGreatMd05
import Derived.Test.YtdlgihbpiakebaaGreatMd09
import Derived.Test.YtdlgihbpiakebaaGreatMd10
set_option maxRecDepth 100000
set_option maxHeartbeats 4000000
namespace Go.Proofs.YtdlgihbpiakebaaGreat
open Go Go.RowKit Tryz
def qAN (p : qAB) : List UInt8:=qB2 p.1 8 ++ qB2 p.2 8
def qAq (bs : List UInt8) : qAB:=(qAn (bs.take 8),qAn (bs.drop 8))
theorem qAr (p : qAB) : (qAN p).length = 16:=by simp [qAN,qAb]
theorem qJa (p : qAB) : qAq (qAN p) = p:=by
 unfold qAq qAN
 rw [List.take_left' (qAb _ _),List.drop_left' (qAb _ _),qES,qES]
theorem Sl.sub {w : World} {b off cap n : Nat} {cs : List Value} (h : Sl w (.slice (some ⟨b,off,none⟩) n cap) n cs) (i m cap' : Nat) (hm : m ≤ cap') (hc : cap' ≤ maxLen) :
 Sl w (.slice (some ⟨b,off + i,none⟩) m cap') m ((cs.drop i).take m):=by
 rcases h with ⟨h,_⟩ | ⟨a,c,ha,h1,h2,h3⟩
 · cases h
 · cases ha
   refine Sl.mk hm hc fun j u hj=>?_
   rw [List.getElem?_take] at hj
   split at hj
   · rw [List.getElem?_drop] at hj
     have:=h3 _ _ hj
     rw [qIZ] at this
     rw [show off + i + j = off + (i + j) by omega]
     exact this
   · cases hj
theorem qBl (a b : BitVec 64) (w : World) : Calls prog 128 #[.agg #[U a,U b]] w fun e w'=>∃ r,e = .returned r ∧ w'.ownsRow w.heap.size 5 1 r 16 (qA1 (qAN (a,b))) ∧ qA4 w w':=by
 have hA : Blk (w.alloc (.cells #[U a,U b] 115)) w.heap.size #[U a,U b] 115:=Blk.new _ _ _
 go_enter func128,ntmps128
 go_wp2_with fail
 have hst : ∀ (i : Nat) (v : Value) (w1 w2 : World),((fun i (vv : Value) w'=>match i with | 0=>vv = .pointer (some ⟨w.heap.size,0,none⟩) | 1=>vv = U a | 2=>w'.ownsRow (w.alloc (.cells #[U a,U b] 115)).heap.size 5 1 vv 8 (qA1 (qB2 a 8)) | 3=>vv = .pointer (some ⟨w.heap.size,1,none⟩) | 4=>vv = U b | 5=>w'.ownsRow (w.alloc (.cells #[U a,U b] 115)).heap.size 5 1 vv 8 (qA1 (qB2 b 8)) | 6=>w'.ownsRow (w.alloc (.cells #[U a,U b] 115)).heap.size 5 1 vv 16 (qA1 (qAN (a,b))) | _=>True) : Nat → Value → World → Prop) i v w1 → qA4 w1 w2 → ((fun i (vv : Value) w'=>match i with | 0=>vv = .pointer (some ⟨w.heap.size,0,none⟩) | 1=>vv = U a | 2=>w'.ownsRow (w.alloc (.cells #[U a,U b] 115)).heap.size 5 1 vv 8 (qA1 (qB2 a 8)) | 3=>vv = .pointer (some ⟨w.heap.size,1,none⟩) | 4=>vv = U b | 5=>w'.ownsRow (w.alloc (.cells #[U a,U b] 115)).heap.size 5 1 vv 8 (qA1 (qB2 b 8)) | 6=>w'.ownsRow (w.alloc (.cells #[U a,U b] 115)).heap.size 5 1 vv 16 (qA1 (qAN (a,b))) | _=>True) : Nat → Value → World → Prop) i v w2:=by
  intro i v w1 w2 h hk
  match i,h with
  | 0,h=>exact h
  | 1,h=>exact h
  | 2,h=>exact qA3 h hk
  | 3,h=>exact h
  | 4,h=>exact h
  | 5,h=>exact qA3 h hk
  | 6,h=>exact qA3 h hk
  | _ + 7,_=>trivial
 refine qD6 7 (fun i (vv : Value) w'=>match i with | 0=>vv = .pointer (some ⟨w.heap.size,0,none⟩) | 1=>vv = U a | 2=>w'.ownsRow (w.alloc (.cells #[U a,U b] 115)).heap.size 5 1 vv 8 (qA1 (qB2 a 8)) | 3=>vv = .pointer (some ⟨w.heap.size,1,none⟩) | 4=>vv = U b | 5=>w'.ownsRow (w.alloc (.cells #[U a,U b] 115)).heap.size 5 1 vv 8 (qA1 (qB2 b 8)) | 6=>w'.ownsRow (w.alloc (.cells #[U a,U b] 115)).heap.size 5 1 vv 16 (qA1 (qAN (a,b))) | _=>True) (by kernel_rfl) (by kernel_rfl) ?_ ?_
 · intro i o hi ho x w1 hw hpre K hK
   match i,hi,ho with
   | 0,_,ho =>
    have e:=Option.some.inj ho;subst e
    have hKK : ∀ (vv : Value) (w'' : World),qA4 w1 w'' → (vv = .pointer (some ⟨w.heap.size,0,none⟩)) → K _ w'':=fun v w'' h1 h2=>hK v w'' (hw.of h1) (fun j _ _ h=>hst j _ _ _ h h1) h2
    clear hK hpre hst
    simp only [qAJ,qBj,List.getElem?_toArray,List.getElem?_cons_zero,List.getElem?_cons_succ,Option.bind_some,Act.put,qqB] at hKK ⊢
    refine qqP (by rfl) ?_
    go_wp2
    exact hKK _ _ (Below.refl _ _) rfl
   | 1,_,ho =>
    have e:=Option.some.inj ho;subst e
    have p0 : x 0 = .pointer (some ⟨w.heap.size,0,none⟩):=hpre 0 (by kernel_rfl)
    have hKK : ∀ (vv : Value) (w'' : World),qA4 w1 w'' → (vv = U a) → K _ w'':=fun v w'' h1 h2=>hK v w'' (hw.of h1) (fun j _ _ h=>hst j _ _ _ h h1) h2
    clear hK hpre hst
    simp only [qAJ,qBj,List.getElem?_toArray,List.getElem?_cons_zero,List.getElem?_cons_succ,Option.bind_some,Act.put,qqB] at hKK ⊢
    simp only [p0] at hKK ⊢
    clear p0
    refine qqP (by rfl) ?_
    have c:=hA.kept hw;have c0:=c.cell 0;have c1:=c.cell 1;clear c
    go_wp2
    exact hKK _ _ (Below.refl _ _) rfl
   | 2,_,ho =>
    have e:=Option.some.inj ho;subst e
    have p1 : x 1 = U a:=hpre 1 (by kernel_rfl)
    have hKK : ∀ (vv : Value) (w'' : World),qA4 w1 w'' → (w''.ownsRow (w.alloc (.cells #[U a,U b] 115)).heap.size 5 1 vv 8 (qA1 (qB2 a 8))) → K _ w'':=fun v w'' h1 h2=>hK v w'' (hw.of h1) (fun j _ _ h=>hst j _ _ _ h h1) h2
    clear hK hpre hst
    simp only [qAJ,qBj,List.getElem?_toArray,List.getElem?_cons_zero,List.getElem?_cons_succ,Option.bind_some,Act.put,qqB] at hKK ⊢
    simp only [p1] at hKK ⊢
    clear p1
    refine qqP (by rfl) ?_
    go_wp2_with fail
    refine (qAO _ 8 (by omega) (by omega) _).mono ?_
    rintro e w2 ⟨r,rfl,hown,hk2⟩
    go_wp2
    exact hKK _ _ hk2 (qAg hown hw.size)
   | 3,_,ho =>
    have e:=Option.some.inj ho;subst e
    have hKK : ∀ (vv : Value) (w'' : World),qA4 w1 w'' → (vv = .pointer (some ⟨w.heap.size,1,none⟩)) → K _ w'':=fun v w'' h1 h2=>hK v w'' (hw.of h1) (fun j _ _ h=>hst j _ _ _ h h1) h2
    clear hK hpre hst
    simp only [qAJ,qBj,List.getElem?_toArray,List.getElem?_cons_zero,List.getElem?_cons_succ,Option.bind_some,Act.put,qqB] at hKK ⊢
    refine qqP (by rfl) ?_
    go_wp2
    exact hKK _ _ (Below.refl _ _) rfl
   | 4,_,ho =>
    have e:=Option.some.inj ho;subst e
    have p3 : x 3 = .pointer (some ⟨w.heap.size,1,none⟩):=hpre 3 (by kernel_rfl)
    have hKK : ∀ (vv : Value) (w'' : World),qA4 w1 w'' → (vv = U b) → K _ w'':=fun v w'' h1 h2=>hK v w'' (hw.of h1) (fun j _ _ h=>hst j _ _ _ h h1) h2
    clear hK hpre hst
    simp only [qAJ,qBj,List.getElem?_toArray,List.getElem?_cons_zero,List.getElem?_cons_succ,Option.bind_some,Act.put,qqB] at hKK ⊢
    simp only [p3] at hKK ⊢
    clear p3
    refine qqP (by rfl) ?_
    have c:=hA.kept hw;have c0:=c.cell 0;have c1:=c.cell 1;clear c
    go_wp2
    exact hKK _ _ (Below.refl _ _) rfl
   | 5,_,ho =>
    have e:=Option.some.inj ho;subst e
    have p4 : x 4 = U b:=hpre 4 (by kernel_rfl)
    have hKK : ∀ (vv : Value) (w'' : World),qA4 w1 w'' → (w''.ownsRow (w.alloc (.cells #[U a,U b] 115)).heap.size 5 1 vv 8 (qA1 (qB2 b 8))) → K _ w'':=fun v w'' h1 h2=>hK v w'' (hw.of h1) (fun j _ _ h=>hst j _ _ _ h h1) h2
    clear hK hpre hst
    simp only [qAJ,qBj,List.getElem?_toArray,List.getElem?_cons_zero,List.getElem?_cons_succ,Option.bind_some,Act.put,qqB] at hKK ⊢
    simp only [p4] at hKK ⊢
    clear p4
    refine qqP (by rfl) ?_
    go_wp2_with fail
    refine (qAO _ 8 (by omega) (by omega) _).mono ?_
    rintro e w2 ⟨r,rfl,hown,hk2⟩
    go_wp2
    exact hKK _ _ hk2 (qAg hown hw.size)
   | 6,_,ho =>
    have e:=Option.some.inj ho;subst e
    have p2 : w1.ownsRow (w.alloc (.cells #[U a,U b] 115)).heap.size 5 1 (x 2) 8 (qA1 (qB2 a 8)):=hpre 2 (by kernel_rfl)
    have p5 : w1.ownsRow (w.alloc (.cells #[U a,U b] 115)).heap.size 5 1 (x 5) 8 (qA1 (qB2 b 8)):=hpre 5 (by kernel_rfl)
    have hKK : ∀ (vv : Value) (w'' : World),qA4 _ w'' → ((w1.ownsRow (w.alloc (.cells #[U a,U b] 115)).heap.size 5 1 (x 2) 8 (qA1 (qB2 a 8))) → (w''.ownsRow (w.alloc (.cells #[U a,U b] 115)).heap.size 5 1 (x 2) 8 (qA1 (qB2 a 8)))) → ((w1.ownsRow (w.alloc (.cells #[U a,U b] 115)).heap.size 5 1 (x 5) 8 (qA1 (qB2 b 8))) → (w''.ownsRow (w.alloc (.cells #[U a,U b] 115)).heap.size 5 1 (x 5) 8 (qA1 (qB2 b 8)))) → (w''.ownsRow (w.alloc (.cells #[U a,U b] 115)).heap.size 5 1 vv 16 (qA1 (qAN (a,b)))) → K _ w'':=fun v w'' h0 s2 s5 h2=>hK v w'' h0 (fun j hj hne h=>by
     match j,hj,hne,h with
     | 0,_,hne,h=>exact h
     | 1,_,hne,h=>exact h
     | 2,_,hne,h=>exact s2 h
     | 3,_,hne,h=>exact h
     | 4,_,hne,h=>exact h
     | 5,_,hne,h=>exact s5 h
     | 6,_,hne,h=>exact absurd rfl hne
     | j + 7,hj,_,_=>exact absurd hj (by omega)) h2
    clear hK hpre hst
    simp only [qAJ,qBj,List.getElem?_toArray,List.getElem?_cons_zero,List.getElem?_cons_succ,Option.bind_some,Act.put,qqB] at hKK ⊢
    refine qqP (by rfl) ?_
    refine qBC qAw (by rfl) (by rfl) (by rfl) p2 (Sl.of_own p5) (by simp [qA6,qAb]) (qAI _) (by unfold maxLen;omega) (by omega) hw.size ?_
    intro v2 w2 hown hg _ _
    exact hKK v2 w2 (Below.trans hw (hg.below (fun i hi=>(p2.lt i hi).1) hw.size)) (fun h=>hg.own h (by omega)) (fun h=>hg.own h (by omega)) (by rw [qAN,qBf];exact hown)
   | i + 7,hi,_=>exact absurd hi (by omega)
 · intro x w1 hw hA
   have p0 : x 0 = .pointer (some ⟨w.heap.size,0,none⟩):=hA 0 (by omega)
   have p1 : x 1 = U a:=hA 1 (by omega)
   have p2 : w1.ownsRow (w.alloc (.cells #[U a,U b] 115)).heap.size 5 1 (x 2) 8 (qA1 (qB2 a 8)):=hA 2 (by omega)
   have p3 : x 3 = .pointer (some ⟨w.heap.size,1,none⟩):=hA 3 (by omega)
   have p4 : x 4 = U b:=hA 4 (by omega)
   have p5 : w1.ownsRow (w.alloc (.cells #[U a,U b] 115)).heap.size 5 1 (x 5) 8 (qA1 (qB2 b 8)):=hA 5 (by omega)
   have p6 : w1.ownsRow (w.alloc (.cells #[U a,U b] 115)).heap.size 5 1 (x 6) 16 (qA1 (qAN (a,b))):=hA 6 (by omega)
   clear hA hst
   simp only [List.drop_succ_cons,List.drop_zero,qAJ,qBj,List.getElem?_toArray,List.getElem?_cons_zero,List.getElem?_cons_succ,Option.bind_some,Act.put,qqB]
   simp only [p0,p1,p3,p4]
   clear p0 p1 p3 p4
   go_wp2
   go_ret
   exact ⟨_,rfl,qAg p6 (by simp),(qal _).trans (hw.mono (by simp))⟩
theorem qCh (bv : Value) (bs : List UInt8) (w : World) (hs : Sl w bv bs.length (qA1 bs)) (h : bs.length = 16) :
 Calls prog 94 #[bv] w fun e w'=>e = .returned (.tuple #[Pr (qAq bs),.bool true]) ∧ qA4 w w':=by
 obtain ⟨b,off,cap,rfl,hc1,hc2,hc3,hc4⟩:=hs.at (by rw [qA6];omega)
 rw [h] at hs hc1 ⊢
 have hk : qA4 w (w.alloc (.cells #[U 0#64,U 0#64] 115)):=qal _
 have s1:=(hs.sub 0 8 cap (by omega) hc2).kept hk
 have s2:=(hs.sub 8 8 (cap - 8) (by omega) (by omega)).kept hk
 have hR:=Blk.new w #[U 0#64,U 0#64] 115
 have e1 : (qA1 bs).take 8 = qA1 (bs.take 8):=by simp [qA1]
 have e2 : ((qA1 bs).drop 8).take 8 = qA1 (bs.drop 8):=by
  rw [List.take_of_length_le (by simp [qA1];omega)]
  simp [qA1]
 rw [List.drop_zero,e1,Nat.add_zero] at s1
 rw [e2] at s2
 have l1 : (bs.take 8).length = 8:=by simp;omega
 have l2 : (bs.drop 8).length = 8:=by simp;omega
 have S1:=qh (show Sl (w.alloc (.cells #[U 0#64,U 0#64] 115)) (.slice (some ⟨b,off,none⟩) 8 cap) (bs.take 8).length (qA1 (bs.take 8)) by rw [l1];exact s1)
 have S2:=qh (show Sl (w.alloc (.cells #[U 0#64,U 0#64] 115)) (.slice (some ⟨b,off + 8,none⟩) 8 (cap - 8)) (bs.drop 8).length (qA1 (bs.drop 8)) by rw [l2];exact s2)
 have L1:=qh l1
 have L2:=qh l2
 have c8 : (8 : Int) ≤ (cap : Int):=by omega
 have c16 : (16 : Int) ≤ (cap : Int):=by omega
 have cm : (cap : Int) ≤ 9223372036854775807:=by unfold maxLen at hc2;omega
 have f0:=hR.free 0
 have f1:=hR.free 1
 have r0:=hR.cell 0
 have r1:=hR.cell 1
 clear hs hk s1 s2 hR e1 e2 l1 l2 hc1 hc2 hc4 hc3 h
 go_enter func94,ntmps94
 go_wp2_with fail
 refine (qAP _ (bs.take 8) _ S1.out (by rw [L1.out];omega) (by rw [L1.out];omega)).mono ?_
 rintro e w2 ⟨rfl,rfl⟩
 go_wp2_with fail
 refine (qAP _ (bs.drop 8) _ S2.out (by rw [L2.out];omega) (by rw [L2.out];omega)).mono ?_
 rintro e w2 ⟨rfl,rfl⟩
 go_wp2
 refine bodyPost_ret (v:=.tuple #[Pr (qAq bs),.bool true]) (by simp [results,results94,go_sem,qAq];done) rfl ⟨rfl,?_⟩
 first | exact qal _ | exact (((qal _).setCell (by simp) _).setCell (by simp) _)
end Go.Proofs.YtdlgihbpiakebaaGreat
namespace Go.Proofs.YtdlgihbpiakebaaGreat
open Go
def Nn.block (n : Nn) : qAB:=(BitVec.setWidth 64 n.epoch <<< 32 ||| BitVec.setWidth 64 n.slot,n.version)
def qNL (key : qAB) (n : Nn) : qAB:=qKQ key n.block
def qFJ (sub : qAB) : Nat → List UInt8
 | 0=>[]
 | k + 1=>qFJ sub k ++ qAN (qKQ sub (BitVec.ofNat 64 (k + 1),0#64))
def qDQ (sub : qAB) (n : Nat) : List UInt8:=(qFJ sub ((n + 15) / 16)).take n
theorem qCW (sub : qAB) : ∀ k,(qFJ sub k).length = 16 * k
 | 0=>rfl
 | k + 1=>by rw [qFJ,List.length_append,qCW sub k,qAr];omega
theorem qBD (sub : qAB) (n : Nat) : (qDQ sub n).length = n:=by
 unfold qDQ;rw [List.length_take,qCW];omega
def qFq (a b : List UInt8) : List UInt8:=List.zipWith (· ^^^ ·) a b
theorem qM7 (a b : List UInt8) : qFq (qFq a b) b = a.take (min a.length b.length):=by
 induction a generalizing b with
 | nil=>simp [qFq]
 | cons x a ih =>
  cases b with
  | nil=>simp [qFq]
  | cons y b =>
   have:=ih b
   unfold qFq at this ⊢
   simp only [List.zipWith_cons_cons,this,List.length_cons,Nat.succ_min_succ,List.take_succ_cons]
   congr 1
   rw [UInt8.xor_assoc,UInt8.xor_self,UInt8.xor_zero]
def qGt (s m : qAB) : qAB:=((qKQ m s).1 ^^^ s.1,(qKQ m s).2 ^^^ s.2)
def qLR (n : Nat) : Nat:=(7 + 15 * n) % 16
theorem qK9 (n : Nat) : (n + 1 + qLR n) % 16 = 8:=by unfold qLR;omega
theorem qPC (n k : Nat) (h : k < qLR n) : (n + 1 + k) % 16 ≠ 8:=by unfold qLR at h;omega
theorem qPD (n : Nat) : qLR n ≤ 15:=by unfold qLR;omega
def qHe (bs : List UInt8) : List UInt8:=bs ++ [128] ++ List.replicate (qLR bs.length) 0 ++ qB2 (BitVec.ofInt 64 (bs.length : Int)) 8
theorem qFK (bs : List UInt8) : (qHe bs).length = bs.length + 1 + qLR bs.length + 8:=by simp [qHe,qAb];omega
theorem qPE (bs : List UInt8) : ∃ m,(qHe bs).length = 16 * m:=by
 have:=qK9 bs.length
 exact ⟨(qHe bs).length / 16,by rw [qFK];omega⟩
def iv : qAB:=(7640891576956012808#64,13503953896175478587#64)
def qFL (l : List UInt8) (k : Nat) : List UInt8:=(l.drop (16 * k)).take 16
theorem qI8 (l : List UInt8) (k m : Nat) (h : l.length = 16 * m) (hk : k < m) : (qFL l k).length = 16:=by
 unfold qFL;rw [List.length_take,List.length_drop];omega
def qRt (l : List UInt8) : Nat → qAB
 | 0=>iv
 | k + 1=>qGt (qRt l k) (qAq (qFL l k))
def qQu (bs : List UInt8) : qAB:=qRt (qHe bs) ((qHe bs).length / 16)
end Go.Proofs.YtdlgihbpiakebaaGreat
