import Derived.Test.YtdlgihbpiakebaaGreatMd03
import Derived.Test.YtdlgihbpiakebaaGreatMd05
import Derived.Test.YtdlgihbpiakebaaGreatMd12
import Derived.Lib.Hide
import Derived.Test.YtdlgihbpiakebaaGreatProg
import Derived.Outline
set_option maxRecDepth 100000
set_option maxHeartbeats 4000000
namespace Go.Proofs.YtdlgihbpiakebaaGreat
open Go Go.RowKit Tryz
def qCi (h : qAB) (l : List qAB) : qAB:=l.foldl (fun out x=>qNY (qIS x out) h) (0#64,0#64)
theorem qKV (h : qAB) (l : List qAB) (x : qAB) : qCi h (l ++ [x]) = qNY (qIS x (qCi h l)) h:=by
 unfold qCi;rw [List.foldl_append];rfl
theorem qO8 (h1 h2 : BitVec 64) (a : Option Addr) (cap : Nat) (l : List qAB) (w : World) (hm : l.length * 16 ≤ 140737488351232)
 (hc : ∀ i,i < l.length → ∃ b off,a = some ⟨b,off,none⟩ ∧ w.cell? ⟨b,off + i * 2,none⟩ = some (U (l.getD i (0#64,0#64)).1) ∧ w.cell? ⟨b,off + i * 2 + 1,none⟩ = some (U (l.getD i (0#64,0#64)).2)) :
 Calls prog 131 #[.agg #[U h1,U h2],.slice a l.length cap] w fun e w'=>e = .returned (Pr (qCi (h1,h2) l)) ∧ qA4 w w':=by
 go_enter func131,ntmps131
 go_wp2_with fail
 go_loopw [10] (fun i wr=>∃ k : Nat,k ≤ l.length ∧ i = .int .i64 k ∧
  Blk wr (w.heap.size + 1 + 1) #[U (qCi (h1,h2) (l.take k)).1,U (qCi (h1,h2) (l.take k)).2] 115 ∧
  Below (w.heap.size + 1 + 1) (((w.alloc (.cells #[U h1,U h2] 115)).alloc (.cells #[U 0#64,U 0#64] 115)).alloc (.cells #[U 0#64,U 0#64] 115)) wr)
  (fun i _=>l.length - (intOf i).toNat)
 case atStart=>exact ⟨0,by omega,rfl,by simpa [qCi] using Blk.new ((w.alloc (.cells #[U h1,U h2] 115)).alloc (.cells #[U 0#64,U 0#64] 115)) #[U 0#64,U 0#64] 115,Below.refl _ _⟩
 case round =>
  obtain ⟨k,hk,rfl,ho,hb⟩:=hrel
  have hbH : Blk wr w.heap.size #[U h1,U h2] 115:=((((Blk.new w _ _).alloc _).alloc _)).below hb (by omega)
  have hbR : Blk wr (w.heap.size + 1) #[U 0#64,U 0#64] 115:=((by simpa using Blk.new (w.alloc (.cells #[U h1,U h2] 115)) #[U 0#64,U 0#64] 115 : Blk ((w.alloc (.cells #[U h1,U h2] 115)).alloc (.cells #[U 0#64,U 0#64] 115)) (w.heap.size + 1) #[U 0#64,U 0#64] 115).alloc _).below hb (by omega)
  by_cases hlt : k < l.length
  · obtain ⟨b,off,rfl,hx0,hx1⟩:=hc k hlt
    have hbw : b < w.heap.size:=World.block_lt_of_cell? w _ hx0
    have hold : Below w.heap.size w wr:=((((qal _).alloc (by simp) _).alloc (by simp;omega) _).trans (hb.mono (by omega)))
    have x0:=(hold.cell (p:=⟨b,off + k * 2,none⟩) hbw).trans hx0
    have x1:=(hold.cell (p:=⟨b,off + k * 2 + 1,none⟩) hbw).trans hx1
    clear hx0 hx1 hc
    go_wp2_with fail
    have hX:=Blk.new wr #[U l[k].fst,U l[k].snd] 115
    have hH:=hbH.alloc (.cells #[U l[k].fst,U l[k].snd] 115)
    have hO:=ho.alloc (.cells #[U l[k].fst,U l[k].snd] 115)
    refine qFF 5 (fun i (vv : Value) w'=>match i with | 0=>vv = Pr l[k] | 1=>vv = Pr (qCi (h1,h2) (List.take k l)) | 2=>vv = Pr (qIS l[k] (qCi (h1,h2) (List.take k l))) | 3=>vv = Pr (h1,h2) | 4=>vv = Pr (qNY (qIS l[k] (qCi (h1,h2) (List.take k l))) (h1,h2)) | _=>True) (by kernel_rfl) (by kernel_rfl) ?_ ?_ ?_
    · intro i v w1 w2 h hk
      match i,h with
      | 0,h=>exact h
      | 1,h=>exact h
      | 2,h=>exact h
      | 3,h=>exact h
      | 4,h=>exact h
      | _ + 5,_=>trivial
    · intro i o hi ho x w1 hw hpre K hK
      match i,hi,ho with
      | 0,_,ho =>
       have e:=Option.some.inj ho;subst e
       have hKK : ∀ (vv : Value) (w'' : World),qA4 w1 w'' → (vv = Pr l[k]) → K _ w'':=fun v w'' h1 h2=>hK v w'' h1 h2
       clear hK hpre
       simp only [qAJ,qBj,List.getElem?_toArray,List.getElem?_cons_zero,List.getElem?_cons_succ,Option.bind_some,Act.put,qqB] at hKK ⊢
       refine qqP (by rfl) ?_
       have c:=hX.kept hw;have c0:=c.cell 0;have c1:=c.cell 1;clear c
       go_wp2
       exact hKK _ _ (Below.refl _ _) rfl
      | 1,_,ho =>
       have e:=Option.some.inj ho;subst e
       have hKK : ∀ (vv : Value) (w'' : World),qA4 w1 w'' → (vv = Pr (qCi (h1,h2) (List.take k l))) → K _ w'':=fun v w'' h1 h2=>hK v w'' h1 h2
       clear hK hpre
       simp only [qAJ,qBj,List.getElem?_toArray,List.getElem?_cons_zero,List.getElem?_cons_succ,Option.bind_some,Act.put,qqB] at hKK ⊢
       refine qqP (by rfl) ?_
       have c:=hO.kept hw;have c0:=c.cell 0;have c1:=c.cell 1;clear c
       go_wp2
       exact hKK _ _ (Below.refl _ _) rfl
      | 2,_,ho =>
       have e:=Option.some.inj ho;subst e
       have p0 : x 0 = Pr l[k]:=hpre 0 (by kernel_rfl)
       have p1 : x 1 = Pr (qCi (h1,h2) (List.take k l)):=hpre 1 (by kernel_rfl)
       have hKK : ∀ (vv : Value) (w'' : World),qA4 w1 w'' → (vv = Pr (qIS l[k] (qCi (h1,h2) (List.take k l)))) → K _ w'':=fun v w'' h1 h2=>hK v w'' h1 h2
       clear hK hpre
       simp only [qAJ,qBj,List.getElem?_toArray,List.getElem?_cons_zero,List.getElem?_cons_succ,Option.bind_some,Act.put,qqB] at hKK ⊢
       simp only [p0,p1] at hKK ⊢
       clear p0 p1
       refine qqP (by rfl) ?_
       go_wp2_with fail
       refine (qJb _ _ _ _ _).mono ?_
       rintro e w2 ⟨rfl,hb2⟩
       go_wp2
       exact hKK _ _ hb2 rfl
      | 3,_,ho =>
       have e:=Option.some.inj ho;subst e
       have hKK : ∀ (vv : Value) (w'' : World),qA4 w1 w'' → (vv = Pr (h1,h2)) → K _ w'':=fun v w'' h1 h2=>hK v w'' h1 h2
       clear hK hpre
       simp only [qAJ,qBj,List.getElem?_toArray,List.getElem?_cons_zero,List.getElem?_cons_succ,Option.bind_some,Act.put,qqB] at hKK ⊢
       refine qqP (by rfl) ?_
       have c:=hH.kept hw;have c0:=c.cell 0;have c1:=c.cell 1;clear c
       go_wp2
       exact hKK _ _ (Below.refl _ _) rfl
      | 4,_,ho =>
       have e:=Option.some.inj ho;subst e
       have p2 : x 2 = Pr (qIS l[k] (qCi (h1,h2) (List.take k l))):=hpre 2 (by kernel_rfl)
       have p3 : x 3 = Pr (h1,h2):=hpre 3 (by kernel_rfl)
       have hKK : ∀ (vv : Value) (w'' : World),qA4 w1 w'' → (vv = Pr (qNY (qIS l[k] (qCi (h1,h2) (List.take k l))) (h1,h2))) → K _ w'':=fun v w'' h1 h2=>hK v w'' h1 h2
       clear hK hpre
       simp only [qAJ,qBj,List.getElem?_toArray,List.getElem?_cons_zero,List.getElem?_cons_succ,Option.bind_some,Act.put,qqB] at hKK ⊢
       simp only [p2,p3] at hKK ⊢
       clear p2 p3
       refine qqP (by rfl) ?_
       go_wp2_with fail
       refine (qPF _ _ _ _ _).mono ?_
       rintro e w2 ⟨rfl,hb2⟩
       go_wp2
       exact hKK _ _ hb2 rfl
      | i + 5,hi,_=>exact absurd hi (by omega)
    · intro x w1 hw hA
      have p0 : x 0 = Pr l[k]:=hA 0 (by omega)
      have p1 : x 1 = Pr (qCi (h1,h2) (List.take k l)):=hA 1 (by omega)
      have p2 : x 2 = Pr (qIS l[k] (qCi (h1,h2) (List.take k l))):=hA 2 (by omega)
      have p3 : x 3 = Pr (h1,h2):=hA 3 (by omega)
      have p4 : x 4 = Pr (qNY (qIS l[k] (qCi (h1,h2) (List.take k l))) (h1,h2)):=hA 4 (by omega)
      clear hA
      simp only [List.drop_succ_cons,List.drop_zero,qAJ,qBj,List.getElem?_toArray,List.getElem?_cons_zero,List.getElem?_cons_succ,Option.bind_some,Act.put,qqB]
      simp only [p0,p1,p2,p3,p4]
      clear p0 p1 p2 p3 p4
      have hO1:=hO.kept hw
      have f0:=hO1.free 0;have f1:=hO1.free 1;have c0:=hO1.cell 0;have c1:=hO1.cell 1
      have HK:=qh hw;clear hw
      have he : qCi (h1,h2) (List.take (k + 1) l) = qNY (qIS l[k] (qCi (h1,h2) (List.take k l))) (h1,h2):=by rw [List.take_succ_eq_append_getElem hlt,qKV]
      have HE:=qh he;clear he
      go_wp2
      exact ⟨⟨k + 1,by omega,by go_num,by rw [HE.out];exact (hO1.set 0 _).set 1 _,(((hb.trans (((Below.refl wr.heap.size wr).alloc qle _).mono (Nat.le_of_lt ho.lt))).trans (HK.out.mono (by have:=ho.lt;simp;omega))).setCell qle _).setCell qle _⟩,by simp [intOf];omega⟩
  · have : k = l.length:=by omega
    subst this
    have o0:=ho.cell 0
    have o1:=ho.cell 1
    have r0:=hbR.cell 0
    have r1:=hbR.cell 1
    have f0:=hbR.free 0
    have f1:=hbR.free 1
    go_wp2
    refine bodyPost_ret (v:=Pr (qCi (h1,h2) l)) (by simp [results,results131,go_sem,r0,r1]) rfl ⟨rfl,?_⟩
    exact ((((((qal _).alloc (by simp) _).alloc (by simp;omega) _).trans (hb.mono (by omega))).setCell (by simp) _).setCell (by simp) _)
theorem qJc {w : World} {a : Option Addr} {cap : Nat} {l : List qAB} (hs : Sl w (.slice a l.length cap) l.length (qAz l)) :
 ∀ i,i < l.length → ∃ b off,a = some ⟨b,off,none⟩ ∧ w.cell? ⟨b,off + i * 2,none⟩ = some (U (l.getD i (0#64,0#64)).1) ∧ w.cell? ⟨b,off + i * 2 + 1,none⟩ = some (U (l.getD i (0#64,0#64)).2):=by
 intro i hi
 obtain ⟨b,off,c,hv,_,_,_,h⟩:=hs.at (by rw [qEh];omega)
 cases hv
 have hg : l.getD i (0#64,0#64) = l[i]:=by simp [List.getD,hi]
 obtain ⟨g0,g1⟩:=qGB l i hi
 rw [hg]
 exact ⟨b,off,rfl,h _ _ g0,h _ _ g1⟩
theorem qPG (h : qAB) (v : Value) (l : List qAB) (w : World) (hm : l.length ≤ 1000) (hs : Sl w v l.length (qAz l)) :
 Calls prog 131 #[.agg #[U h.1,U h.2],v] w fun e w'=>e = .returned (Pr (qCi h l)) ∧ qA4 w w':=by
 obtain ⟨a,cap,rfl⟩:=hs.len
 exact qO8 h.1 h.2 a cap l w (by omega) (qJc hs)
theorem qQR : SlT prog 247 29 1 8 (.int .u64 0):=SlT.mk' underlying247 (by kernel_rfl) rfl (by omega)
theorem qHf (l : List (BitVec 64)) : (qD8 l).length = l.length:=by simp [qD8]
theorem qHg (a b : List (BitVec 64)) : qD8 (a ++ b) = qD8 a ++ qD8 b:=by simp [qD8]
theorem qKW (l : List (BitVec 64)) (i : Nat) (x : BitVec 64) (h : l[i]? = some x) : (qD8 l)[i]? = some (U x):=by simp [qD8,h]
theorem qQS (x : BitVec 64) (w : World) : Calls prog 181 #[U x,.int .i64 (-8)] w fun e w'=>e = .returned (U (rr x 8)) ∧ w = w':=by
 have e3 : IntKind.u64.wrap (-3) = 18446744073709551613:=by decide
 have e8 : IntKind.u64.wrap (-8) = 18446744073709551608:=by decide
 go_enter func181,ntmps181
 go_wp2
 go_ret
 exact ⟨by rw [← qRJ x 8 (by omega)];rfl,rfl⟩
theorem qRK (x : BitVec 64) (w : World) : Calls prog 181 #[U x,.int .i64 (3)] w fun e w'=>e = .returned (U (rl x 3)) ∧ w = w':=by
 have e3 : IntKind.u64.wrap (-3) = 18446744073709551613:=by decide
 have e8 : IntKind.u64.wrap (-8) = 18446744073709551608:=by decide
 go_enter func181,ntmps181
 go_wp2
 go_ret
 exact ⟨by rfl,rfl⟩
theorem qM9 (x y k : BitVec 64) (w : World) : Calls prog 165 #[U x,U y,U k] w fun e w'=>e = .returned (.tuple #[U (qRn (x,y) k).1,U (qRn (x,y) k).2]) ∧ w = w':=by
 go_enter func165,ntmps165
 go_wp2_with fail
 refine (qQS _ _).mono ?_
 rintro e w1 ⟨rfl,rfl⟩
 go_wp2_with fail
 refine (qRK _ _).mono ?_
 rintro e w1 ⟨rfl,rfl⟩
 go_wp2
 go_ret2
 exact ⟨rfl,rfl⟩
theorem qO9 (k1 k2 : BitVec 64) (w : World) : Calls prog 164 #[.agg #[U k1,U k2]] w fun e w'=>∃ r,e = .returned r ∧ w'.ownsRow w.heap.size 29 1 r 32 (qD8 (qHb (k1,k2) 32)) ∧ qA4 w w':=by
 go_enter func164,ntmps164
 go_wp2_with fail
 have hA:=Blk.new w #[U k1,U k2] 115
 refine qDV (by kernel_rfl) (by kernel_rfl) ?_
 repeat
  refine wpQuiet_step (fun K hK=>?_)
  refine qqP (by rfl) ?_
  first
   | (refine qCt ?_;apply Exists.intro;refine ⟨fun w' hw'=>?_,hK _ ?_⟩;(have hA':=hA.kept hw';have hA0:=hA'.cell 0;have hA1:=hA'.cell 1;go_simp;done);(clear hK K;simp only [Act.put,qqB]))
   | (refine qCt ?_;apply Exists.intro;refine ⟨fun w' hw'=>?_,hK _ ?_⟩;(have hA':=hA.kept hw';have hA0:=hA'.cell 0;have hA1:=hA'.cell 1;go_simp;rfl);(clear hK K;simp only [Act.put,qqB]))
   | (refine qEf ?_;apply Exists.intro;apply Exists.intro;apply Exists.intro;refine ⟨fun w' hw'=>?_,fun w' hw'=>?_,hK _ ?_⟩;(go_simp;exact ⟨rfl,rfl⟩);(with_reducible first | exact Calls.kept hw' (trivial));(clear hK K;simp only [Act.put,qqB]))
 refine wpQuiet_nil ?_
 intro w1 hw1
 have hb1 : Below w.heap.size w w1:=(qal _).trans (hw1.mono (by simp))
 have hs1 : w.heap.size ≤ w1.heap.size:=Nat.le_trans (by simp) hw1.size
 clear hw1 hA
 go_wp2_with fail
 go_loopw [11,5,3,4] (fun i o l k wr=>∃ n : Nat,n ≤ 32 ∧ i = U (BitVec.ofNat 64 n) ∧ l = U (kst (k1,k2) n).1 ∧ k = U (kst (k1,k2) n).2 ∧ wr.ownsRow w.heap.size 29 1 o n (qD8 (qHb (k1,k2) n)) ∧ Below w.heap.size w wr ∧ w.heap.size ≤ wr.heap.size)
  (fun i _ _ _ _=>32 - (intOf i).toNat)
 case atStart=>exact ⟨0,by omega,by first | rfl | simp,rfl,rfl,World.ownsRow_nil _ _ _ _,hb1,hs1⟩
 case round =>
  obtain ⟨n,hn,rfl,rfl,rfl,hown,hb,hsz⟩:=hrel
  clear hb1 hs1
  by_cases hlt : n < 32
  · have HK:=qh (qKP (k1,k2) n)
    have i0 : (0 : Int) ≤ (n : Int):=by omega
    have i1 : (n : Int) ≤ 18446744073709551615:=by omega
    go_wp2_with (at_builtin;refine qAv qQR rfl (by rfl) (by rfl) (by rfl) (hown.alloc _) (Sl.one _ _ _) (by rfl) (qM0 [(kst (k1,k2) n).2]) (by unfold maxLen;omega) (by omega) (by simp;omega) ?_;intro b' w1 hown1 hg1 hat1)
    refine (qM9 _ _ _ _).mono ?_
    rintro e w2 ⟨rfl,rfl⟩
    go_wp2
    refine ⟨⟨n + 1,by omega,by simp [BitVec.ofNat_add],rfl,rfl,?_,qAD (hb.alloc hsz _) (hown.alloc _) hg1 (by simp;omega),Nat.le_trans (by simp;omega) hg1.size⟩,?_⟩
    · rw [HK.out,qHg];exact hown1
    · simp [intOf,U];omega
  · have : n = 32:=by omega
    subst this
    clear hlt hn
    go_wp2
    go_ret
    exact ⟨_,rfl,hown,hb⟩
theorem qET (k1 k2 b1 b2 : BitVec 64) (w : World) : Calls prog 127 #[.agg #[U k1,U k2],.agg #[U b1,U b2]] w fun e w'=>e = .returned (Pr (qKQ (k1,k2) (b1,b2))) ∧ qA4 w w':=by
 go_enter func127,ntmps127
 go_wp2_with fail
 have hK : Blk (((w.alloc (.cells #[U k1,U k2] 115)).alloc (.cells #[U b1,U b2] 115)).alloc (.cells #[U 0#64,U 0#64] 115)) w.heap.size #[U k1,U k2] 115:=((Blk.new w _ _).alloc _).alloc _
 have hB : Blk (((w.alloc (.cells #[U k1,U k2] 115)).alloc (.cells #[U b1,U b2] 115)).alloc (.cells #[U 0#64,U 0#64] 115)) (w.heap.size + 1) #[U b1,U b2] 115:=Blk.alloc (by simpa using Blk.new (w.alloc (.cells #[U k1,U k2] 115)) #[U b1,U b2] 115) _
 have hR : Blk (((w.alloc (.cells #[U k1,U k2] 115)).alloc (.cells #[U b1,U b2] 115)).alloc (.cells #[U 0#64,U 0#64] 115)) (w.heap.size + 1 + 1) #[U 0#64,U 0#64] 115:=by simpa using Blk.new ((w.alloc (.cells #[U k1,U k2] 115)).alloc (.cells #[U b1,U b2] 115)) #[U 0#64,U 0#64] 115
 refine qDV (by kernel_rfl) (by kernel_rfl) ?_
 repeat
  refine wpQuiet_step (fun K hK=>?_)
  refine qqP (by rfl) ?_
  first
   | (refine qCt ?_;apply Exists.intro;refine ⟨fun w' hw'=>?_,hK _ ?_⟩;(have hB':=hB.kept hw';have hB0:=hB'.cell 0;have hB1:=hB'.cell 1;go_simp;done);(clear hK K;simp only [Act.put,qqB]))
   | (refine qCt ?_;apply Exists.intro;refine ⟨fun w' hw'=>?_,hK _ ?_⟩;(have hB':=hB.kept hw';have hB0:=hB'.cell 0;have hB1:=hB'.cell 1;go_simp;rfl);(clear hK K;simp only [Act.put,qqB]))
   | (refine qEf ?_;apply Exists.intro;apply Exists.intro;apply Exists.intro;refine ⟨fun w' hw'=>?_,fun w' hw'=>?_,hK _ ?_⟩;(go_simp;exact ⟨rfl,rfl⟩);(with_reducible first | exact Calls.kept hw' (trivial));(clear hK K;simp only [Act.put,qqB]))
 refine wpQuiet_nil ?_
 intro w1 hw1
 have hb1 : Below w.heap.size w w1:=(((qal _).alloc (by simp) _).alloc (by simp;omega) _).trans (hw1.mono (by simp;omega))
 have hK1:=hK.kept hw1
 have hR1:=hR.kept hw1
 have k0:=hK1.cell 0
 have k1':=hK1.cell 1
 clear hw1 hK hB hR
 go_wp2_with fail
 refine (qO9 _ _ _).mono ?_
 rintro e w2 ⟨r,rfl,hown,hk2⟩
 have hs1 : w.heap.size ≤ w1.heap.size:=by have:=hK1.lt;omega
 have hb2 : Below w.heap.size w w2:=hb1.trans (hk2.mono hs1)
 have hR2:=hR1.kept hk2
 have hs2 : w.heap.size ≤ w2.heap.size:=Nat.le_trans hs1 hk2.size
 obtain ⟨g,off,cap,rfl,hcap,hmax,hgl,hcell⟩:=(Sl.of_own hown).at (by rw [qHf,qI3];omega)
 clear hk2 hown hs1 hb1 hK1 hR1 k0 k1'
 have hkey : ∀ n,n < 32 → w2.cell? ⟨g,off + n,none⟩ = some (U (kst (k1,k2) n).2):=fun n hn=>hcell n _ (qKW _ _ _ (qM1 _ _ _ hn))
 clear hcell
 go_wp2_with fail
 go_loopw [16,5,6] (fun i x y wr=>∃ n : Nat,n ≤ 32 ∧ i = .int .i64 n ∧ x = U (qO5 (k1,k2) (b1,b2) n).1 ∧ y = U (qO5 (k1,k2) (b1,b2) n).2 ∧ qA4 w2 wr) (fun i _ _ _=>32 - (intOf i).toNat)
 case atStart=>exact ⟨0,by omega,rfl,rfl,rfl,Below.refl _ _⟩
 case round =>
  obtain ⟨n,hn,rfl,rfl,rfl,hkw⟩:=hrel
  by_cases hlt : n < 32
  · have hx:=(hkw.cell (p:=⟨g,off + n,none⟩) hgl).trans (hkey n hlt)
    have hgw : g < wr.heap.size:=Nat.lt_of_lt_of_le hgl hkw.size
    have i0 : (n : Int) < 32:=by omega
    clear hkey
    go_wp2_with fail
    refine (qM9 _ _ _ _).mono ?_
    rintro e w3 ⟨rfl,rfl⟩
    go_wp2
    exact ⟨⟨n + 1,by omega,by go_num,rfl,rfl,hkw⟩,by simp [intOf];omega⟩
  · have : n = 32:=by omega
    subst this
    clear hlt hn hkey
    have hR3:=hR2.kept hkw
    have hb3:=hb2.trans (hkw.mono hs2)
    clear hR2 hb2
    have r0:=hR3.cell 0
    have r1:=hR3.cell 1
    have f0:=hR3.free 0
    have f1:=hR3.free 1
    go_wp2
    refine bodyPost_ret (v:=Pr (qKQ (k1,k2) (b1,b2))) (by simp [results,results127,go_sem,r0,r1];try exact ⟨rfl,rfl⟩) rfl ⟨rfl,?_⟩
    exact ((hb3.setCell (by simp;omega) _).setCell (by simp;omega) _)
end Go.Proofs.YtdlgihbpiakebaaGreat
