import Derived.Test.YtdlgihbpiakebaaGreatMd11
import Derived.Test.YtdlgihbpiakebaaGreatMd13
set_option maxRecDepth 100000
set_option maxHeartbeats 4000000
namespace Go.Proofs.YtdlgihbpiakebaaGreat
open Go Go.RowKit Tryz
theorem qOd (s1 s2 m1 m2 : BitVec 64) (w : World) : Calls prog 95 #[.agg #[U s1,U s2],.agg #[U m1,U m2]] w fun e w'=>e = .returned (Pr (qGt (s1,s2) (m1,m2))) ∧ qA4 w w':=by
 have hS : Blk (((w.alloc (.cells #[U s1,U s2] 115)).alloc (.cells #[U m1,U m2] 115)).alloc (.cells #[U 0#64,U 0#64] 115)) w.heap.size #[U s1,U s2] 115:=((Blk.new _ _ _).alloc _).alloc _
 have hM : Blk (((w.alloc (.cells #[U s1,U s2] 115)).alloc (.cells #[U m1,U m2] 115)).alloc (.cells #[U 0#64,U 0#64] 115)) (w.heap.size + 1) #[U m1,U m2] 115:=Blk.alloc (by simpa using Blk.new (w.alloc (.cells #[U s1,U s2] 115)) #[U m1,U m2] 115) _
 have hR : Blk (((w.alloc (.cells #[U s1,U s2] 115)).alloc (.cells #[U m1,U m2] 115)).alloc (.cells #[U 0#64,U 0#64] 115)) (w.heap.size + 2) #[U 0#64,U 0#64] 115:=by simpa using Blk.new ((w.alloc (.cells #[U s1,U s2] 115)).alloc (.cells #[U m1,U m2] 115)) #[U 0#64,U 0#64] 115
 have hk : qA4 w (((w.alloc (.cells #[U s1,U s2] 115)).alloc (.cells #[U m1,U m2] 115)).alloc (.cells #[U 0#64,U 0#64] 115)):=((qal _).alloc (by simp) _).alloc (by simp;omega) _
 have s0:=hS.cell 0
 have s1':=hS.cell 1
 have m0:=hM.cell 0
 have m1':=hM.cell 1
 go_enter func95,ntmps95
 go_wp2_with fail
 refine (qET _ _ _ _ _).mono ?_
 rintro e w4 ⟨rfl,hk4⟩
 replace hS:=hS.kept hk4
 replace hR:=hR.kept hk4
 replace hk:=qA4.of hk hk4
 clear s0 s1' m0 m1' hM hk4
 obtain ⟨E,hE⟩ : ∃ E,E = qKQ (m1,m2) (s1,s2):=⟨_,rfl⟩
 rw [← hE]
 have hX:=Blk.new w4 #[U E.1,U E.2] 115
 replace hS:=hS.alloc (.cells #[U E.1,U E.2] 115)
 replace hR:=hR.alloc (.cells #[U E.1,U E.2] 115)
 replace hk:=qA4.of hk (show qA4 w4 (w4.alloc (.cells #[U E.1,U E.2] 115)) from qal _)
 have s0:=hS.cell 0
 have s1':=hS.cell 1
 have r0:=hR.cell 0
 have r1:=hR.cell 1
 have rf0:=hR.free 0
 have rf1:=hR.free 1
 have x0:=hX.cell 0
 have x1:=hX.cell 1
 have HE:=qh hE
 clear hE hX hR hS
 go_wp2
 refine bodyPost_ret (v:=Pr (qGt (s1,s2) (m1,m2))) (by simp [results,results95,go_sem,qGt,← HE.out,r0,r1];done) rfl ⟨rfl,?_⟩
 exact (hk.setCell (by show _ ≤ w.heap.size + 2;omega) _).setCell (by show _ ≤ w.heap.size + 2;omega) _
theorem qJl (k1 k2 : BitVec 64) (n : Nn) (w : World) : Calls prog 87 #[.agg #[U k1,U k2],n.val] w fun e w'=>e = .returned (Pr (qNL (k1,k2) n)) ∧ qA4 w w':=by
 unfold Nn.val
 have hk : qA4 w (((w.alloc (.cells #[U k1,U k2] 115)).alloc (.cells #[W n.epoch,W n.slot,U n.version] 113)).alloc (.cells #[U 0#64,U 0#64] 115)):=(((qal _).alloc (by simp) _).alloc (by simp;omega) _)
 have hR : Blk (((w.alloc (.cells #[U k1,U k2] 115)).alloc (.cells #[W n.epoch,W n.slot,U n.version] 113)).alloc (.cells #[U 0#64,U 0#64] 115)) (w.heap.size + 1 + 1) #[U 0#64,U 0#64] 115:=by simpa using Blk.new ((w.alloc (.cells #[U k1,U k2] 115)).alloc (.cells #[W n.epoch,W n.slot,U n.version] 113)) #[U 0#64,U 0#64] 115
 go_enter func87,ntmps87
 go_wp2_with fail
 refine (qET _ _ _ _ _).mono ?_
 rintro e w2 ⟨rfl,hk2⟩
 have hR2:=hR.kept hk2
 have r0:=hR2.cell 0
 have r1:=hR2.cell 1
 have f0:=hR2.free 0
 have f1:=hR2.free 1
 have hk3:=hk.of hk2
 clear hk hk2 hR hR2
 go_wp2
 refine bodyPost_ret (v:=Pr (qNL (k1,k2) n)) (by simp [results,results87,go_sem,r0,r1];try exact ⟨rfl,rfl⟩) rfl ⟨rfl,?_⟩
 exact ((Below.setCell hk3 (by simp;omega) _).setCell (by simp;omega) _)
def qKc : Value → Nat | .slice _ n _=>n | _=>0
theorem qMg {w : World} {B e g q cap n : Nat} {xs : List Value} (h : w.ownsRow B e 1 (.slice (some ⟨g,0,none⟩) q cap) q xs) (hn : n ≤ q) : w.ownsRow B e 1 (.slice (some ⟨g,0,none⟩) n cap) n (xs.take n):=by
 obtain ⟨hl,hh | ⟨g',c,cur,hv,hb,hg,hnc,hc,hs,ht⟩⟩:=h
 · cases hh.1
 · cases hv
   refine ⟨by rw [List.length_take,hl];omega,.inr ⟨g,cap,cur,rfl,hb,hg,by omega,hc,hs,?_⟩⟩
   rw [← ht,List.take_take,Nat.mul_one,Nat.mul_one,Nat.min_eq_left hn]
theorem ownsRow_forms' {w : World} {base size n : Nat} {e : TypeId} {v : Value} {xs : List Value} (h : w.ownsRow base e size v n xs) : (v = .slice none 0 0 ∧ n = 0) ∨ ∃ g cap,v = .slice (some ⟨g,0,none⟩) n cap ∧ n ≤ cap ∧ cap ≤ maxLen:=by
 obtain ⟨_,hh | ⟨g,c,cur,hv,_,_,hn,hc,_,_⟩⟩:=h
 · exact .inl hh
 · exact .inr ⟨g,c,hv,hn,hc⟩
theorem qFN (s1 s2 : BitVec 64) (n : Nat) (hn : n ≤ 4000) (w : World) : Calls prog 89 #[.agg #[U s1,U s2],.int .i64 n] w fun e w'=>∃ r,e = .returned r ∧ w'.ownsRow w.heap.size 5 1 r n (qA1 (qDQ (s1,s2) n)) ∧ qA4 w w':=by
 have i0 : (0 : Int) ≤ (n : Int):=by omega
 have i1 : (n : Int) ≤ 4000:=by omega
 have hA0:=Blk.new w #[U s1,U s2] 115
 have hk0 : qA4 w (w.alloc (.cells #[U s1,U s2] 115)):=qal _
 go_enter func89,ntmps89
 go_wp2_with fail
 go_loopw [5,6] (fun o i wr=>∃ k : Nat,16 * k < n + 16 ∧ i = U (BitVec.ofNat 64 (k + 1)) ∧ wr.ownsRow (w.heap.size + 1) 5 1 o (16 * k) (qA1 (qFJ (s1,s2) k)) ∧ Below (w.heap.size + 1) (w.alloc (.cells #[U s1,U s2] 115)) wr) (fun o _ _=>n + 16 - qKc o)
 case atStart=>exact ⟨0,by omega,rfl,World.ownsRow_nil _ _ _ _,Below.refl _ _⟩
 case round =>
  obtain ⟨k,hk,rfl,hown,hb⟩:=hrel
  have hA:=hA0.below hb (by omega)
  have a0:=hA.cell 0
  have a1:=hA.cell 1
  have hsz : w.heap.size + 1 ≤ wr.heap.size:=by have:=hb.size;simpa using this
  obtain ⟨q,hq⟩ : ∃ q,q = 16 * k:=⟨_,rfl⟩
  rw [← hq] at hown hk
  have HQ:=qh hq
  have hfl:=qCW (s1,s2) k
  have hpl:=qAr (qKQ (s1,s2) (BitVec.ofNat 64 (k + 1),0#64))
  have HF:=qh hfl
  have HP:=qh hpl
  clear hq hfl hpl hA
  obtain ⟨a,cap,rfl⟩:=(Sl.of_own hown).len
  by_cases hlt : q < n
  · have i2 : (q : Int) < (n : Int):=by omega
    go_wp2_with fail
    refine (qET _ _ _ _ _).mono ?_
    rintro e w1 ⟨rfl,hk1⟩
    clear a0 a1
    go_wp2_with fail
    refine (qBl _ _ _).mono ?_
    rintro e w2 ⟨r,rfl,hown2,hk2⟩
    have hown3:=qA3 (qA3 hown hk1) hk2
    have hb3:=(hb.trans (hk1.mono hsz)).trans (hk2.mono (Nat.le_trans hsz hk1.size))
    have hs3:=Nat.le_trans (Nat.le_trans hsz hk1.size) hk2.size
    clear hown hk1 hk2 hb hsz
    go_wp2_with (at_builtin;refine qAv qAw rfl (by rfl) (by rfl) (by rfl) hown3 (Sl.of_own hown2) (by simp [qA6,HP.out]) (qAI _) (by unfold maxLen;omega) (by omega) hs3 ?_;intro b' w4 hown4 hg4 hat4)
    refine ⟨⟨k + 1,by have:=HQ.out;omega,by simp [BitVec.ofNat_add],?_,qAD hb3 hown3 hg4 hs3⟩,?_⟩
    · have e : 16 * (k + 1) = q + 16:=by have:=HQ.out;omega
      rw [e,qFJ,qBf]
      exact hown4
    · obtain ⟨a4,c4,rfl⟩:=(Sl.of_own hown4).len
      simp [qKc]
      omega
  · have hkk : k = (n + 15) / 16:=by have:=HQ.out;omega
    have hnq : n ≤ q:=by omega
    have i2 : (n : Int) ≤ (q : Int):=by omega
    have hbb : qA4 w wr:=hk0.trans (hb.mono (by omega))
    rcases ownsRow_forms' hown with ⟨hv,hq0⟩ | ⟨g,cap',hv,hqc,hcm⟩
    · cases hv
      have hn0 : n = 0:=by omega
      subst hn0
      clear hown hb hk hlt HF a0 a1
      go_wp2
      go_ret
      exact ⟨_,rfl,World.ownsRow_nil _ _ _ _,hbb⟩
    · cases hv
      have i3 : (n : Int) ≤ (cap : Int):=by omega
      have i4 : (cap : Int) ≤ 9223372036854775807:=by unfold maxLen at hcm;omega
      have hcut:=qAg (qMg hown hnq) (show w.heap.size ≤ w.heap.size + 1 by omega)
      have e : (qA1 (qFJ (s1,s2) k)).take n = qA1 (qDQ (s1,s2) n):=by rw [hkk];simp [qA1,qDQ]
      rw [e] at hcut
      clear hown hb hk hlt HF a0 a1 hqc hcm e hkk
      go_wp2
      go_ret
      exact ⟨_,rfl,hcut,hbb⟩
end Go.Proofs.YtdlgihbpiakebaaGreat
