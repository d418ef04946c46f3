import Derived.Test.YtdlgihbpiakebaaGreatMj01
import Derived.Test.YtdlgihbpiakebaaGreatMj03
import Derived.Test.YtdlgihbpiakebaaGreatMj05
import Derived.Test.YtdlgihbpiakebaaGreatMj09
import Derived.Test.YtdlgihbpiakebaaGreatMj10
set_option maxRecDepth 100000
set_option maxHeartbeats 4000000
namespace Go.Proofs.YtdlgihbpiakebaaGreat
open Go Go.RowKit Tryz
def qAK (p : qAw) : List UInt8:=qAY p.1 8 ++ qAY p.2 8
def qAn (bs : List UInt8) : qAw:=(qAh (bs.take 8),qAh (bs.drop 8))
theorem qAo (p : qAw) : (qAK p).length = 16:=by simp [qAK,qAe]
theorem Sl.sub {w : World} {b off cap n : Nat} {cs : List Value} (h : Sl w (.slice (some ⟨b,off,none⟩) n cap) n cs) (i m cap' : Nat) (hm : m ≤ cap') (hc : cap' ≤ maxLen) :
 Sl w (.slice (some ⟨b,off + i,none⟩) m cap') m ((cs.drop i).take m):=by
 rcases h with ⟨h,_⟩ | ⟨a,c,ha,h1,h2,h3⟩
 · cases h
 · cases ha
   refine Sl.mk hm hc fun j u hj=>?_
   rw [List.getElem?_take] at hj
   split at hj
   · rw [List.getElem?_drop] at hj
     have:=h3 _ _ hj
     rw [qE6] at this
     rw [show off + i + j = off + (i + j) by omega]
     exact this
   · cases hj
theorem qB9 (a b : BitVec 64) (w : World) : Calls prog 128 #[.agg #[U a,U b]] w fun e w'=>∃ r,e = .returned r ∧ w'.ownsRow w.heap.size 5 1 r 16 (qA1 (qAK (a,b))) ∧ Kept w w':=by
 have hA : Blk (w.alloc (.cells #[U a,U b] 115)) w.heap.size #[U a,U b] 115:=Blk.new _ _ _
 go_enter func128,ntmps128
 go_wp2_with fail
 have hst : ∀ (i : Nat) (v : Value) (w1 w2 : World),((fun i (vv : Value) w'=>match i with | 0=>vv = .pointer (some ⟨w.heap.size,0,none⟩) | 1=>vv = U a | 2=>w'.ownsRow (w.alloc (.cells #[U a,U b] 115)).heap.size 5 1 vv 8 (qA1 (qAY a 8)) | 3=>vv = .pointer (some ⟨w.heap.size,1,none⟩) | 4=>vv = U b | 5=>w'.ownsRow (w.alloc (.cells #[U a,U b] 115)).heap.size 5 1 vv 8 (qA1 (qAY b 8)) | 6=>w'.ownsRow (w.alloc (.cells #[U a,U b] 115)).heap.size 5 1 vv 16 (qA1 (qAK (a,b))) | _=>True) : Nat → Value → World → Prop) i v w1 → Kept w1 w2 → ((fun i (vv : Value) w'=>match i with | 0=>vv = .pointer (some ⟨w.heap.size,0,none⟩) | 1=>vv = U a | 2=>w'.ownsRow (w.alloc (.cells #[U a,U b] 115)).heap.size 5 1 vv 8 (qA1 (qAY a 8)) | 3=>vv = .pointer (some ⟨w.heap.size,1,none⟩) | 4=>vv = U b | 5=>w'.ownsRow (w.alloc (.cells #[U a,U b] 115)).heap.size 5 1 vv 8 (qA1 (qAY b 8)) | 6=>w'.ownsRow (w.alloc (.cells #[U a,U b] 115)).heap.size 5 1 vv 16 (qA1 (qAK (a,b))) | _=>True) : Nat → Value → World → Prop) i v w2:=by
  intro i v w1 w2 h hk
  match i,h with
  | 0,h=>exact h
  | 1,h=>exact h
  | 2,h=>exact qA4 h hk
  | 3,h=>exact h
  | 4,h=>exact h
  | 5,h=>exact qA4 h hk
  | 6,h=>exact qA4 h hk
  | _ + 7,_=>trivial
 refine qCE 7 (fun i (vv : Value) w'=>match i with | 0=>vv = .pointer (some ⟨w.heap.size,0,none⟩) | 1=>vv = U a | 2=>w'.ownsRow (w.alloc (.cells #[U a,U b] 115)).heap.size 5 1 vv 8 (qA1 (qAY a 8)) | 3=>vv = .pointer (some ⟨w.heap.size,1,none⟩) | 4=>vv = U b | 5=>w'.ownsRow (w.alloc (.cells #[U a,U b] 115)).heap.size 5 1 vv 8 (qA1 (qAY b 8)) | 6=>w'.ownsRow (w.alloc (.cells #[U a,U b] 115)).heap.size 5 1 vv 16 (qA1 (qAK (a,b))) | _=>True) (by kernel_rfl) (by kernel_rfl) ?_ ?_
 · intro i o hi ho x w1 hw hpre K hK
   match i,hi,ho with
   | 0,_,ho =>
    have e:=Option.some.inj ho;subst e
    have hKK : ∀ (vv : Value) (w'' : World),Kept w1 w'' → (vv = .pointer (some ⟨w.heap.size,0,none⟩)) → K _ w'':=fun v w'' h1 h2=>hK v w'' (hw.of h1) (fun j _ _ h=>hst j _ _ _ h h1) h2
    clear hK hpre hst
    simp only [qAE,qB8,List.getElem?_toArray,List.getElem?_cons_zero,List.getElem?_cons_succ,Option.bind_some,Act.put,qqB] at hKK ⊢
    refine qqP (by rfl) ?_
    go_wp2
    exact hKK _ _ (Below.refl _ _) rfl
   | 1,_,ho =>
    have e:=Option.some.inj ho;subst e
    have p0 : x 0 = .pointer (some ⟨w.heap.size,0,none⟩):=hpre 0 (by kernel_rfl)
    have hKK : ∀ (vv : Value) (w'' : World),Kept w1 w'' → (vv = U a) → K _ w'':=fun v w'' h1 h2=>hK v w'' (hw.of h1) (fun j _ _ h=>hst j _ _ _ h h1) h2
    clear hK hpre hst
    simp only [qAE,qB8,List.getElem?_toArray,List.getElem?_cons_zero,List.getElem?_cons_succ,Option.bind_some,Act.put,qqB] at hKK ⊢
    simp only [p0] at hKK ⊢
    clear p0
    refine qqP (by rfl) ?_
    have c:=hA.kept hw;have c0:=c.cell 0;have c1:=c.cell 1;clear c
    go_wp2
    exact hKK _ _ (Below.refl _ _) rfl
   | 2,_,ho =>
    have e:=Option.some.inj ho;subst e
    have p1 : x 1 = U a:=hpre 1 (by kernel_rfl)
    have hKK : ∀ (vv : Value) (w'' : World),Kept w1 w'' → (w''.ownsRow (w.alloc (.cells #[U a,U b] 115)).heap.size 5 1 vv 8 (qA1 (qAY a 8))) → K _ w'':=fun v w'' h1 h2=>hK v w'' (hw.of h1) (fun j _ _ h=>hst j _ _ _ h h1) h2
    clear hK hpre hst
    simp only [qAE,qB8,List.getElem?_toArray,List.getElem?_cons_zero,List.getElem?_cons_succ,Option.bind_some,Act.put,qqB] at hKK ⊢
    simp only [p1] at hKK ⊢
    clear p1
    refine qqP (by rfl) ?_
    go_wp2_with fail
    refine (qAG _ 8 (by omega) (by omega) _).mono ?_
    rintro e w2 ⟨r,rfl,hown,hk2⟩
    go_wp2
    exact hKK _ _ hk2 (qAd hown hw.size)
   | 3,_,ho =>
    have e:=Option.some.inj ho;subst e
    have hKK : ∀ (vv : Value) (w'' : World),Kept w1 w'' → (vv = .pointer (some ⟨w.heap.size,1,none⟩)) → K _ w'':=fun v w'' h1 h2=>hK v w'' (hw.of h1) (fun j _ _ h=>hst j _ _ _ h h1) h2
    clear hK hpre hst
    simp only [qAE,qB8,List.getElem?_toArray,List.getElem?_cons_zero,List.getElem?_cons_succ,Option.bind_some,Act.put,qqB] at hKK ⊢
    refine qqP (by rfl) ?_
    go_wp2
    exact hKK _ _ (Below.refl _ _) rfl
   | 4,_,ho =>
    have e:=Option.some.inj ho;subst e
    have p3 : x 3 = .pointer (some ⟨w.heap.size,1,none⟩):=hpre 3 (by kernel_rfl)
    have hKK : ∀ (vv : Value) (w'' : World),Kept w1 w'' → (vv = U b) → K _ w'':=fun v w'' h1 h2=>hK v w'' (hw.of h1) (fun j _ _ h=>hst j _ _ _ h h1) h2
    clear hK hpre hst
    simp only [qAE,qB8,List.getElem?_toArray,List.getElem?_cons_zero,List.getElem?_cons_succ,Option.bind_some,Act.put,qqB] at hKK ⊢
    simp only [p3] at hKK ⊢
    clear p3
    refine qqP (by rfl) ?_
    have c:=hA.kept hw;have c0:=c.cell 0;have c1:=c.cell 1;clear c
    go_wp2
    exact hKK _ _ (Below.refl _ _) rfl
   | 5,_,ho =>
    have e:=Option.some.inj ho;subst e
    have p4 : x 4 = U b:=hpre 4 (by kernel_rfl)
    have hKK : ∀ (vv : Value) (w'' : World),Kept w1 w'' → (w''.ownsRow (w.alloc (.cells #[U a,U b] 115)).heap.size 5 1 vv 8 (qA1 (qAY b 8))) → K _ w'':=fun v w'' h1 h2=>hK v w'' (hw.of h1) (fun j _ _ h=>hst j _ _ _ h h1) h2
    clear hK hpre hst
    simp only [qAE,qB8,List.getElem?_toArray,List.getElem?_cons_zero,List.getElem?_cons_succ,Option.bind_some,Act.put,qqB] at hKK ⊢
    simp only [p4] at hKK ⊢
    clear p4
    refine qqP (by rfl) ?_
    go_wp2_with fail
    refine (qAG _ 8 (by omega) (by omega) _).mono ?_
    rintro e w2 ⟨r,rfl,hown,hk2⟩
    go_wp2
    exact hKK _ _ hk2 (qAd hown hw.size)
   | 6,_,ho =>
    have e:=Option.some.inj ho;subst e
    have p2 : w1.ownsRow (w.alloc (.cells #[U a,U b] 115)).heap.size 5 1 (x 2) 8 (qA1 (qAY a 8)):=hpre 2 (by kernel_rfl)
    have p5 : w1.ownsRow (w.alloc (.cells #[U a,U b] 115)).heap.size 5 1 (x 5) 8 (qA1 (qAY b 8)):=hpre 5 (by kernel_rfl)
    have hKK : ∀ (vv : Value) (w'' : World),Kept _ w'' → ((w1.ownsRow (w.alloc (.cells #[U a,U b] 115)).heap.size 5 1 (x 2) 8 (qA1 (qAY a 8))) → (w''.ownsRow (w.alloc (.cells #[U a,U b] 115)).heap.size 5 1 (x 2) 8 (qA1 (qAY a 8)))) → ((w1.ownsRow (w.alloc (.cells #[U a,U b] 115)).heap.size 5 1 (x 5) 8 (qA1 (qAY b 8))) → (w''.ownsRow (w.alloc (.cells #[U a,U b] 115)).heap.size 5 1 (x 5) 8 (qA1 (qAY b 8)))) → (w''.ownsRow (w.alloc (.cells #[U a,U b] 115)).heap.size 5 1 vv 16 (qA1 (qAK (a,b)))) → K _ w'':=fun v w'' h0 s2 s5 h2=>hK v w'' h0 (fun j hj hne h=>by
     match j,hj,hne,h with
     | 0,_,hne,h=>exact h
     | 1,_,hne,h=>exact h
     | 2,_,hne,h=>exact s2 h
     | 3,_,hne,h=>exact h
     | 4,_,hne,h=>exact h
     | 5,_,hne,h=>exact s5 h
     | 6,_,hne,h=>exact absurd rfl hne
     | j + 7,hj,_,_=>exact absurd hj (by omega)) h2
    clear hK hpre hst
    simp only [qAE,qB8,List.getElem?_toArray,List.getElem?_cons_zero,List.getElem?_cons_succ,Option.bind_some,Act.put,qqB] at hKK ⊢
    refine qqP (by rfl) ?_
    refine qBj sl_bytes (by rfl) (by rfl) (by rfl) p2 (Sl.of_own p5) (by simp [qA5,qAe]) (qAB _) (by unfold maxLen;omega) (by omega) hw.size ?_
    intro v2 w2 hown hg _ _
    exact hKK v2 w2 (Below.trans hw (hg.below (fun i hi=>(p2.lt i hi).1) hw.size)) (fun h=>hg.own h (by omega)) (fun h=>hg.own h (by omega)) (by rw [qAK,qB4];exact hown)
   | i + 7,hi,_=>exact absurd hi (by omega)
 · intro x w1 hw hA
   have p0 : x 0 = .pointer (some ⟨w.heap.size,0,none⟩):=hA 0 (by omega)
   have p1 : x 1 = U a:=hA 1 (by omega)
   have p2 : w1.ownsRow (w.alloc (.cells #[U a,U b] 115)).heap.size 5 1 (x 2) 8 (qA1 (qAY a 8)):=hA 2 (by omega)
   have p3 : x 3 = .pointer (some ⟨w.heap.size,1,none⟩):=hA 3 (by omega)
   have p4 : x 4 = U b:=hA 4 (by omega)
   have p5 : w1.ownsRow (w.alloc (.cells #[U a,U b] 115)).heap.size 5 1 (x 5) 8 (qA1 (qAY b 8)):=hA 5 (by omega)
   have p6 : w1.ownsRow (w.alloc (.cells #[U a,U b] 115)).heap.size 5 1 (x 6) 16 (qA1 (qAK (a,b))):=hA 6 (by omega)
   clear hA hst
   simp only [List.drop_succ_cons,List.drop_zero,qAE,qB8,List.getElem?_toArray,List.getElem?_cons_zero,List.getElem?_cons_succ,Option.bind_some,Act.put,qqB]
   simp only [p0,p1,p3,p4]
   clear p0 p1 p3 p4
   go_wp2
   go_ret
   exact ⟨_,rfl,qAd p6 (by simp),(qal _).trans (hw.mono (by simp))⟩
theorem qBU (bv : Value) (bs : List UInt8) (w : World) (hs : Sl w bv bs.length (qA1 bs)) (h : bs.length = 16) :
 Calls prog 94 #[bv] w fun e w'=>e = .returned (.tuple #[Pr (qAn bs),.bool true]) ∧ Kept w w':=by
 obtain ⟨b,off,cap,rfl,hc1,hc2,hc3,hc4⟩:=hs.at (by rw [qA5];omega)
 rw [h] at hs hc1 ⊢
 have hk : Kept w (w.alloc (.cells #[U 0#64,U 0#64] 115)):=qal _
 have s1:=(hs.sub 0 8 cap (by omega) hc2).kept hk
 have s2:=(hs.sub 8 8 (cap - 8) (by omega) (by omega)).kept hk
 have hR:=Blk.new w #[U 0#64,U 0#64] 115
 have e1 : (qA1 bs).take 8 = qA1 (bs.take 8):=by simp [qA1]
 have e2 : ((qA1 bs).drop 8).take 8 = qA1 (bs.drop 8):=by
  rw [List.take_of_length_le (by simp [qA1];omega)]
  simp [qA1]
 rw [List.drop_zero,e1,Nat.add_zero] at s1
 rw [e2] at s2
 have l1 : (bs.take 8).length = 8:=by simp;omega
 have l2 : (bs.drop 8).length = 8:=by simp;omega
 have S1:=qh (show Sl (w.alloc (.cells #[U 0#64,U 0#64] 115)) (.slice (some ⟨b,off,none⟩) 8 cap) (bs.take 8).length (qA1 (bs.take 8)) by rw [l1];exact s1)
 have S2:=qh (show Sl (w.alloc (.cells #[U 0#64,U 0#64] 115)) (.slice (some ⟨b,off + 8,none⟩) 8 (cap - 8)) (bs.drop 8).length (qA1 (bs.drop 8)) by rw [l2];exact s2)
 have L1:=qh l1
 have L2:=qh l2
 have c8 : (8 : Int) ≤ (cap : Int):=by omega
 have c16 : (16 : Int) ≤ (cap : Int):=by omega
 have cm : (cap : Int) ≤ 9223372036854775807:=by unfold maxLen at hc2;omega
 have f0:=hR.free 0
 have f1:=hR.free 1
 have r0:=hR.cell 0
 have r1:=hR.cell 1
 clear hs hk s1 s2 hR e1 e2 l1 l2 hc1 hc2 hc4 hc3 h
 go_enter func94,ntmps94
 go_wp2_with fail
 refine (qAH _ (bs.take 8) _ S1.out (by rw [L1.out];omega) (by rw [L1.out];omega)).mono ?_
 rintro e w2 ⟨rfl,rfl⟩
 go_wp2_with fail
 refine (qAH _ (bs.drop 8) _ S2.out (by rw [L2.out];omega) (by rw [L2.out];omega)).mono ?_
 rintro e w2 ⟨rfl,rfl⟩
 go_wp2
 refine bodyPost_ret (v:=.tuple #[Pr (qAn bs),.bool true]) (by simp [results,results94,go_sem,r0,r1,qAn];done) rfl ⟨rfl,?_⟩
 first | exact qal _ | exact (((qal _).setCell (by simp) _).setCell (by simp) _)
end Go.Proofs.YtdlgihbpiakebaaGreat
namespace Go.Proofs.YtdlgihbpiakebaaGreat
open Go
def Nn.block (n : Nn) : qAw:=(BitVec.setWidth 64 n.epoch <<< 32 ||| BitVec.setWidth 64 n.slot,n.version)
def qMA (key : qAw) (n : Nn) : qAw:=qJU key n.block
def qEU (sub : qAw) : Nat → List UInt8
 | 0=>[]
 | k + 1=>qEU sub k ++ qAK (qJU sub (BitVec.ofNat 64 (k + 1),0#64))
def qDf (sub : qAw) (n : Nat) : List UInt8:=(qEU sub ((n + 15) / 16)).take n
theorem qCt (sub : qAw) : ∀ k,(qEU sub k).length = 16 * k
 | 0=>rfl
 | k + 1=>by rw [qEU,List.length_append,qCt sub k,qAo];omega
theorem qBk (sub : qAw) (n : Nat) : (qDf sub n).length = n:=by
 unfold qDf;rw [List.length_take,qCt];omega
def qEE (a b : List UInt8) : List UInt8:=List.zipWith (· ^^^ ·) a b
theorem qL4 (a b : List UInt8) : qEE (qEE a b) b = a.take (min a.length b.length):=by
 induction a generalizing b with
 | nil=>simp [qEE]
 | cons x a ih =>
  cases b with
  | nil=>simp [qEE]
  | cons y b =>
   have:=ih b
   unfold qEE at this ⊢
   simp only [List.zipWith_cons_cons,this,List.length_cons,Nat.succ_min_succ,List.take_succ_cons]
   congr 1
   rw [UInt8.xor_assoc,UInt8.xor_self,UInt8.xor_zero]
def qFD (s m : qAw) : qAw:=((qJU m s).1 ^^^ s.1,(qJU m s).2 ^^^ s.2)
def qKQ (n : Nat) : Nat:=(7 + 15 * n) % 16
theorem qJd (n : Nat) : (n + 1 + qKQ n) % 16 = 8:=by unfold qKQ;omega
theorem qOj (n k : Nat) (h : k < qKQ n) : (n + 1 + k) % 16 ≠ 8:=by unfold qKQ at h;omega
theorem qOk (n : Nat) : qKQ n ≤ 15:=by unfold qKQ;omega
def qGu (bs : List UInt8) : List UInt8:=bs ++ [128] ++ List.replicate (qKQ bs.length) 0 ++ qAY (BitVec.ofInt 64 (bs.length : Int)) 8
theorem qEV (bs : List UInt8) : (qGu bs).length = bs.length + 1 + qKQ bs.length + 8:=by simp [qGu,qAe];omega
theorem qOl (bs : List UInt8) : ∃ m,(qGu bs).length = 16 * m:=by
 have:=qJd bs.length
 exact ⟨(qGu bs).length / 16,by rw [qEV];omega⟩
def iv : qAw:=(7640891576956012808#64,13503953896175478587#64)
def qEW (l : List UInt8) (k : Nat) : List UInt8:=(l.drop (16 * k)).take 16
theorem qHh (l : List UInt8) (k m : Nat) (h : l.length = 16 * m) (hk : k < m) : (qEW l k).length = 16:=by
 unfold qEW;rw [List.length_take,List.length_drop];omega
def qQl (l : List UInt8) : Nat → qAw
 | 0=>iv
 | k + 1=>qFD (qQl l k) (qAn (qEW l k))
def qPj (bs : List UInt8) : qAw:=qQl (qGu bs) ((qGu bs).length / 16)
end Go.Proofs.YtdlgihbpiakebaaGreat
