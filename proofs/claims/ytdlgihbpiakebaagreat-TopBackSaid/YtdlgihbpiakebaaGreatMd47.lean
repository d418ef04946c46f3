import Derived.Test.YtdlgihbpiakebaaGreatMd04
import Derived.Test.YtdlgihbpiakebaaGreatMd46
set_option maxRecDepth 100000
set_option maxHeartbeats 4000000
namespace Go.Proofs.YtdlgihbpiakebaaGreat
open Go Go.RowKit Tryz
theorem qJK {w : World} {B g cap n : Nat} {e : TypeId} {xs : List Value} (h : w.ownsRow B e 1 (.slice (some ⟨g,0,none⟩) n cap) n xs) (i : Nat) (v : Value) : (w.setCell ⟨g,i,none⟩ v).ownsRow B e 1 (.slice (some ⟨g,0,none⟩) n cap) n (xs.set i v):=by
 obtain ⟨h1,h2⟩:=h
 refine ⟨by simpa using h1,?_⟩
 rcases h2 with ⟨h0,_⟩ | ⟨g',cap',cur,hv,hg,hh,hn,hcap,hsz,htake⟩
 · cases h0
 · cases hv
   have hb : Blk w g cur e:=hh
   refine .inr ⟨g,cap,cur.setIfInBounds i v,rfl,hg,hb.set i v,hn,hcap,by simpa using hsz,?_⟩
   rw [Array.toList_setIfInBounds,List.take_set,htake]
theorem qMV {w : World} {B g cap n : Nat} {e : TypeId} {xs : List Value} (h : w.ownsRow B e 1 (.slice (some ⟨g,0,none⟩) n cap) n xs) (j : Nat) (hj : j < n) : ∃ u,w.cell? ⟨g,j,none⟩ = some u:=by
 have hx : xs.length = n:=by have:=h.1;omega
 obtain ⟨b,off,cap',e,_,_,_,hx'⟩:=(Sl.of_own h).at (by omega)
 cases e
 exact ⟨xs[j],by have:=hx' j _ (List.getElem?_eq_getElem (by omega));simpa using this⟩
def swp (q : List Nat) (i j : Nat) : List Nat:=(q.set i (q[j]?.getD 0)).set j (q[i]?.getD 0)
theorem qB0 (q : List Nat) (i j : Nat) : (swp q i j).length = q.length:=by simp [swp]
theorem qFC (q : List Nat) (i j : Nat) (hi : i < q.length) (hj : j < q.length) : (swp q i j).Perm q:=by
 unfold swp
 rw [List.getElem?_eq_getElem hi,List.getElem?_eq_getElem hj]
 exact List.set_set_perm hi hj
def Ag.swap (a : Ag) (i j : Nat) : Ag:={ a with q:=swp a.q i j }
theorem qGW (q : List Nat) (i x : Nat) : (qBr q).set i (.int .i64 (x : Int)) = qBr (q.set i x):=by
 simp [qBr,List.map_set]
theorem qMW {q : List Nat} (h : ∀ x ∈ q,x < 16) (i j : Nat) (hi : i < q.length) (hj : j < q.length) : ∀ x ∈ swp q i j,x < 16:=fun x hx=>h x ((qFC q i j hi hj).mem_iff.1 hx)
theorem qEa.row_ne {w : World} {A Q g cap : Nat} {a : Ag} (h : qEa w A Q g cap a) : A ≠ g ∧ Q ≠ g:=by
 obtain ⟨cur,hb⟩:=qAp h.row rfl
 refine ⟨fun e=>?_,fun e=>?_⟩
 · have:=h.age;subst e;exact absurd (this.symm.trans hb) (by simp)
 · have:=h.que;subst e;exact absurd (this.symm.trans hb) (by simp)
theorem qDv (A Q g cap : Nat) (a : Ag) (w : World) (h0 : qEa w A Q g cap a) (i j : Nat) (hi : i < a.q.length) (hj : j < a.q.length) : Calls prog 214 #[.pointer (some ⟨Q,0,none⟩),.int .i64 (i : Int),.int .i64 (j : Int)] w fun e w'=>e = .returned (.tuple #[]) ∧ qEa w' A Q g cap (a.swap i j) ∧ Chg [g] w w':=by
 have n1 : (0 : Int) ≤ (i : Int):=by omega
 have n2 : (i : Int) < (a.q.length : Int):=by omega
 have n3 : (0 : Int) ≤ (j : Int):=by omega
 have n4 : (j : Int) < (a.q.length : Int):=by omega
 go_enter func214,ntmps214
 go_wp2_with fail
 refine qFH qA4 (Chg [g]) [(3,0),(8,0),(13,0),(16,0),(20,0),(23,0)] (.light 0 (.light 1 (.light 2 (.light 3 (.light 4 (.light 5 (.light 6 (.light 7 (.light 8 (.light 9 (.light 10 (.light 11 (.light 12 (.light 13 (.light 14 (.light 15 (.light 16 (.light 17 (.light 18 (.light 19 (.light 20 (.light 21 (.light 22 (.light 23 (.light 24 (.last 25 (.light 26 (.last 27 .nil)))))))))))))))))))))))))))) (by kernel_rfl) (by kernel_rfl) (fun _ _ h=>Chg.of_kept h) (fun _=>Below.refl _ _) (fun _ _ _ h1 h2=>h1.of h2) (fun _ _ _ h1 h2=>h1.trans h2) ?_
 intro y0 hy0
 replace h0:=h0.kept hy0
 obtain ⟨cur,hbk⟩:=qAp h0.row rfl
 have hbk2:=hbk.set i (.int .i64 ((a.q[j] : Nat) : Int))
 refine qAk _ rfl (Chg [g]) (by rfl) (fun K hK=>?_)
 refine qqP (by rfl) ?_;apply Exists.intro;refine ⟨fun w' hw'=>?_,hK _ ?_⟩
 · go_simp;first|done|rfl
 clear hK K;simp only [Act.put,qqB]
 refine qAk _ rfl (Chg [g]) (by rfl) (fun K hK=>?_)
 refine qqP (by rfl) ?_;apply Exists.intro;refine ⟨fun w' hw'=>?_,hK _ ?_⟩
 · go_simp;first|done|rfl
 clear hK K;simp only [Act.put,qqB]
 refine qAk _ rfl (Chg [g]) (by rfl) (fun K hK=>?_)
 refine qqP (by rfl) ?_;apply Exists.intro;refine ⟨fun w' hw'=>?_,hK _ ?_⟩
 · go_simp;first|done|rfl
 clear hK K;simp only [Act.put,qqB]
 refine qAk _ rfl qA4 (by rfl) (fun K hK=>?_)
 refine qqP (by rfl) ?_;apply Exists.intro;refine ⟨fun w' hw'=>?_,hK _ ?_⟩
 · have H:=h0.kept hw';have q0:=H.que.cell 0;have q1:=H.cell i hi;have q2:=H.cell j hj;clear H;go_simp;first|done|rfl
 clear hK K;simp only [Act.put,qqB]
 refine qAk _ rfl (Chg [g]) (by rfl) (fun K hK=>?_)
 refine qqP (by rfl) ?_;apply Exists.intro;refine ⟨fun w' hw'=>?_,hK _ ?_⟩
 · go_simp;first|done|rfl
 clear hK K;simp only [Act.put,qqB]
 refine qAk _ rfl (Chg [g]) (by rfl) (fun K hK=>?_)
 refine qqP (by rfl) ?_;apply Exists.intro;refine ⟨fun w' hw'=>?_,hK _ ?_⟩
 · go_simp;first|done|rfl
 clear hK K;simp only [Act.put,qqB]
 refine qAk _ rfl (Chg [g]) (by rfl) (fun K hK=>?_)
 refine qqP (by rfl) ?_;apply Exists.intro;refine ⟨fun w' hw'=>?_,hK _ ?_⟩
 · go_simp;first|done|rfl
 clear hK K;simp only [Act.put,qqB]
 refine qAk _ rfl (Chg [g]) (by rfl) (fun K hK=>?_)
 refine qqP (by rfl) ?_;apply Exists.intro;refine ⟨fun w' hw'=>?_,hK _ ?_⟩
 · go_simp;first|done|rfl
 clear hK K;simp only [Act.put,qqB]
 refine qAk _ rfl qA4 (by rfl) (fun K hK=>?_)
 refine qqP (by rfl) ?_;apply Exists.intro;refine ⟨fun w' hw'=>?_,hK _ ?_⟩
 · have H:=h0.kept hw';have q0:=H.que.cell 0;have q1:=H.cell i hi;have q2:=H.cell j hj;clear H;go_simp;first|done|rfl
 clear hK K;simp only [Act.put,qqB]
 refine qAk _ rfl (Chg [g]) (by rfl) (fun K hK=>?_)
 refine qqP (by rfl) ?_;apply Exists.intro;refine ⟨fun w' hw'=>?_,hK _ ?_⟩
 · go_simp;first|done|rfl
 clear hK K;simp only [Act.put,qqB]
 refine qAk _ rfl (Chg [g]) (by rfl) (fun K hK=>?_)
 refine qqP (by rfl) ?_;apply Exists.intro;refine ⟨fun w' hw'=>?_,hK _ ?_⟩
 · go_simp;first|done|rfl
 clear hK K;simp only [Act.put,qqB]
 refine qAk _ rfl (Chg [g]) (by rfl) (fun K hK=>?_)
 refine qqP (by rfl) ?_;apply Exists.intro;refine ⟨fun w' hw'=>?_,hK _ ?_⟩
 · go_simp;first|done|rfl
 clear hK K;simp only [Act.put,qqB]
 refine qAk _ rfl (Chg [g]) (by rfl) (fun K hK=>?_)
 refine qqP (by rfl) ?_;apply Exists.intro;refine ⟨fun w' hw'=>?_,hK _ ?_⟩
 · go_simp;first|done|rfl
 clear hK K;simp only [Act.put,qqB]
 refine qAk _ rfl qA4 (by rfl) (fun K hK=>?_)
 refine qqP (by rfl) ?_;apply Exists.intro;refine ⟨fun w' hw'=>?_,hK _ ?_⟩
 · have H:=h0.kept hw';have q0:=H.que.cell 0;have q1:=H.cell i hi;have q2:=H.cell j hj;clear H;go_simp;first|done|rfl
 clear hK K;simp only [Act.put,qqB]
 refine qAk _ rfl (Chg [g]) (by rfl) (fun K hK=>?_)
 refine qqP (by rfl) ?_;apply Exists.intro;refine ⟨fun w' hw'=>?_,hK _ ?_⟩
 · go_simp;first|done|rfl
 clear hK K;simp only [Act.put,qqB]
 refine qAk _ rfl (Chg [g]) (by rfl) (fun K hK=>?_)
 refine qqP (by rfl) ?_;apply Exists.intro;refine ⟨fun w' hw'=>?_,hK _ ?_⟩
 · go_simp;first|done|rfl
 clear hK K;simp only [Act.put,qqB]
 refine qAk _ rfl qA4 (by rfl) (fun K hK=>?_)
 refine qqP (by rfl) ?_;apply Exists.intro;refine ⟨fun w' hw'=>?_,hK _ ?_⟩
 · have H:=h0.kept hw';have q0:=H.que.cell 0;have q1:=H.cell i hi;have q2:=H.cell j hj;clear H;go_simp;first|done|rfl
 clear hK K;simp only [Act.put,qqB]
 refine qAk _ rfl (Chg [g]) (by rfl) (fun K hK=>?_)
 refine qqP (by rfl) ?_;apply Exists.intro;refine ⟨fun w' hw'=>?_,hK _ ?_⟩
 · go_simp;first|done|rfl
 clear hK K;simp only [Act.put,qqB]
 refine qAk _ rfl (Chg [g]) (by rfl) (fun K hK=>?_)
 refine qqP (by rfl) ?_;apply Exists.intro;refine ⟨fun w' hw'=>?_,hK _ ?_⟩
 · go_simp;first|done|rfl
 clear hK K;simp only [Act.put,qqB]
 refine qAk _ rfl (Chg [g]) (by rfl) (fun K hK=>?_)
 refine qqP (by rfl) ?_;apply Exists.intro;refine ⟨fun w' hw'=>?_,hK _ ?_⟩
 · go_simp;first|done|rfl
 clear hK K;simp only [Act.put,qqB]
 refine qAk _ rfl qA4 (by rfl) (fun K hK=>?_)
 refine qqP (by rfl) ?_;apply Exists.intro;refine ⟨fun w' hw'=>?_,hK _ ?_⟩
 · have H:=h0.kept hw';have q0:=H.que.cell 0;have q1:=H.cell i hi;have q2:=H.cell j hj;clear H;go_simp;first|done|rfl
 clear hK K;simp only [Act.put,qqB]
 refine qAk _ rfl (Chg [g]) (by rfl) (fun K hK=>?_)
 refine qqP (by rfl) ?_;apply Exists.intro;refine ⟨fun w' hw'=>?_,hK _ ?_⟩
 · go_simp;first|done|rfl
 clear hK K;simp only [Act.put,qqB]
 refine qAk _ rfl (Chg [g]) (by rfl) (fun K hK=>?_)
 refine qqP (by rfl) ?_;apply Exists.intro;refine ⟨fun w' hw'=>?_,hK _ ?_⟩
 · go_simp;first|done|rfl
 clear hK K;simp only [Act.put,qqB]
 refine qAk _ rfl qA4 (by rfl) (fun K hK=>?_)
 refine qqP (by rfl) ?_;apply Exists.intro;refine ⟨fun w' hw'=>?_,hK _ ?_⟩
 · have H:=h0.kept hw';have q0:=H.que.cell 0;have q1:=H.cell i hi;have q2:=H.cell j hj;clear H;go_simp;first|done|rfl
 clear hK K;simp only [Act.put,qqB]
 refine qAk _ rfl (Chg [g]) (by rfl) (fun K hK=>?_)
 refine qqP (by rfl) ?_;apply Exists.intro;refine ⟨fun w' hw'=>?_,hK _ ?_⟩
 · go_simp;first|done|rfl
 clear hK K;simp only [Act.put,qqB]
 refine qGA _ rfl (fun K hK=>?_)
 refine qqP (by rfl) ?_
 have f1:=hbk.free i
 have f3:=h0.cell i hi
 go_wp2
 refine hK _ _ ((Chg.refl _ _).set qsm i _) ?_
 clear hK K
 try simp only [Act.put,qqB]
 refine qAk _ rfl (Chg [g]) (by rfl) (fun K hK=>?_)
 refine qqP (by rfl) ?_;apply Exists.intro;refine ⟨fun w' hw'=>?_,hK _ ?_⟩
 · go_simp;first|done|rfl
 clear hK K;simp only [Act.put,qqB]
 refine qGA _ rfl (fun K hK=>?_)
 refine qqP (by rfl) ?_
 have f2:=hbk2.free j
 obtain ⟨u2,f4⟩:=qMV (qJK h0.row i (.int .i64 ((a.q[j] : Nat) : Int))) j hj
 go_wp2
 refine hK _ _ ((Chg.refl _ _).set qsm j _) ?_
 clear hK K
 try simp only [Act.put,qqB]
 refine qLZ ?_
 go_wp2
 refine bodyPost_end (results_none rfl _ _ _) rfl ⟨rfl,?_,?_⟩
 · have hr:=qJK (qJK h0.row i (.int .i64 ((a.q[j] : Nat) : Int))) j (.int .i64 ((a.q[i] : Nat) : Int))
   rw [qGW,qGW] at hr
   have hq : (a.q.set i a.q[j]).set j a.q[i] = swp a.q i j:=by unfold swp;rw [List.getElem?_eq_getElem hi,List.getElem?_eq_getElem hj];rfl
   rw [hq] at hr
   have hc : Chg [g] y0 ((y0.setCell ⟨g,i,none⟩ (.int .i64 ((a.q[j] : Nat) : Int))).setCell ⟨g,j,none⟩ (.int .i64 ((a.q[i] : Nat) : Int))):=((Chg.refl _ _).set qsm i _).set qsm j _
   obtain ⟨e1,e2⟩:=h0.row_ne
   refine ⟨h0.len,qMW h0.slots i j hi hj,hc.blk h0.age (by simpa using e1),?_,?_⟩
   · show Blk _ Q #[.slice (some ⟨g,0,none⟩) (swp a.q i j).length cap,_] _
     rw [qB0]
     exact hc.blk h0.que (by simpa using e2)
   · show World.ownsRow _ _ _ _ (.slice (some ⟨g,0,none⟩) (swp a.q i j).length cap) (swp a.q i j).length _
     rw [qB0]
     exact hr
 · exact (Chg.of_kept hy0).trans (((Chg.refl _ _).set qsm i _).set qsm j _)
def upQ (l : List Int) (q : List Nat) (j : Nat) : List Nat :=
 if h : j = 0 then q else if qEC l (q[j]?.getD 0) (q[(j - 1) / 2]?.getD 0) then upQ l (swp q ((j - 1) / 2) j) ((j - 1) / 2) else q
termination_by j
decreasing_by omega
theorem qF2 (l : List Int) (q : List Nat) (j : Nat) : (upQ l q j).length = q.length:=by
 induction j using Nat.strongRecOn generalizing q with
 | _ j ih =>
  unfold upQ
  split
  · rfl
  · split
    · rw [ih _ (by omega),qB0]
    · rfl
theorem qKt (l : List Int) (q : List Nat) (j : Nat) (hj : j < q.length) : (upQ l q j).Perm q:=by
 induction j using Nat.strongRecOn generalizing q with
 | _ j ih =>
  unfold upQ
  split
  · exact .refl _
  · split
    · exact (ih _ (by omega) _ (by rw [qB0];omega)).trans (qFC q _ _ (by omega) hj)
    · exact .refl _
def Ag.setq (a : Ag) (q : List Nat) : Ag:={ a with q:=q }
theorem qPk (A Q g cap : Nat) (a : Ag) (w : World) (h0 : qEa w A Q g cap a) (j : Nat) (hj : j < a.q.length) (hm : a.q.length ≤ 1000) : Calls prog 110 #[.iface 155 (.pointer (some ⟨Q,0,none⟩)),.int .i64 (j : Int)] w fun e w'=>e = .returned (.tuple #[]) ∧ qEa w' A Q g cap (a.setq (upQ a.last a.q j)) ∧ Chg [g] w w':=by
 go_enter func110,ntmps110
 go_wp2_with fail
 go_loopw [1] (fun i wr=>∃ (k : Nat) (q : List Nat),i = .int .i64 k ∧ k < q.length ∧ q.length = a.q.length ∧ upQ a.last q k = upQ a.last a.q j ∧ qEa wr A Q g cap (a.setq q) ∧ Chg [g] w wr) (fun i _=>(intOf i).toNat)
 case atStart=>exact ⟨j,a.q,rfl,hj,rfl,rfl,h0,Chg.refl _ _⟩
 case round =>
  obtain ⟨k,q,rfl,hk,hql,hup,hX,hc⟩:=hrel
  have i1 : (k : Int) ≤ 1000:=by omega
  have HQL:=qh hql
  have HUP:=qh hup
  clear hql hup
  cases k with
  | zero =>
   go_wp2
   refine bodyPost_end (results_none rfl _ _ _) rfl ⟨rfl,?_,hc⟩
   have e : upQ a.last q 0 = q:=by unfold upQ;rfl
   rw [← HUP.out,e]
   exact hX
  | succ k =>
   have hk2 : k / 2 < q.length:=by omega
   obtain ⟨B,hB⟩ : ∃ B,B = qEC a.last q[k + 1] q[k / 2]:=⟨_,rfl⟩
   have CL : Calls prog 211 #[.pointer (some ⟨Q,0,none⟩),.int .i64 ((k : Int) + 1),.int .i64 ((k : Int) / 2)] wr fun e w'=>e = .returned (.bool B) ∧ qA4 wr w':=by
    have:=qIw A Q g cap (a.setq q) wr hX (k + 1) (k / 2) hk hk2
    rw [hB]
    exact this
   have HB:=qh hB
   clear hB
   have hne : ¬ (k : Int) / 2 = (k : Int) + 1:=by omega
   have HKK:=qh hk
   go_wp2_with fail
   refine CL.mono ?_
   rintro e w2 ⟨rfl,hk1⟩
   have hX2:=hX.kept hk1
   cases B
   · go_wp2
     refine bodyPost_end (results_none rfl _ _ _) rfl ⟨rfl,?_,hc.trans (Chg.of_kept hk1)⟩
     have e : upQ a.last q (k + 1) = q:=by
      unfold upQ
      rw [dif_neg (by omega),show (k + 1 - 1) / 2 = k / 2 by omega,List.getElem?_eq_getElem HKK.out,List.getElem?_eq_getElem hk2]
      simp only [Option.getD_some]
      rw [if_neg (by rw [← HB.out];simp)]
     rw [← HUP.out,e]
     exact hX2
   · have CS : Calls prog 214 #[.pointer (some ⟨Q,0,none⟩),.int .i64 ((k : Int) / 2),.int .i64 ((k : Int) + 1)] w2 fun e w'=>e = .returned (.tuple #[]) ∧ qEa w' A Q g cap (a.setq (swp q (k / 2) (k + 1))) ∧ Chg [g] w2 w' :=
      qDv A Q g cap (a.setq q) w2 hX2 (k / 2) (k + 1) hk2 HKK.out
     go_wp2_with fail
     refine CS.mono ?_
     rintro e w3 ⟨rfl,hX3,hc3⟩
     have hup2 : upQ a.last (swp q (k / 2) (k + 1)) (k / 2) = upQ a.last a.q j:=by
      rw [← HUP.out]
      conv=>rhs;unfold upQ
      rw [dif_neg (by omega),show (k + 1 - 1) / 2 = k / 2 by omega,List.getElem?_eq_getElem HKK.out,List.getElem?_eq_getElem hk2]
      simp only [Option.getD_some]
      rw [if_pos HB.out.symm]
     have HUP2:=qh hup2
     clear hup2
     go_wp2
     refine ⟨⟨k / 2,swp q (k / 2) (k + 1),rfl,by rw [qB0];exact hk2,by rw [qB0];exact HQL.out,HUP2.out,hX3,(hc.trans (Chg.of_kept hk1)).trans hc3⟩,?_⟩
     simp [intOf];omega
def kid (l : List Int) (q : List Nat) (i n : Nat) : Nat:=if decide (2 * i + 2 < n) && qEC l (q[2 * i + 2]?.getD 0) (q[2 * i + 1]?.getD 0) then 2 * i + 2 else 2 * i + 1
theorem qMX (l : List Int) (q : List Nat) {i n : Nat} (h : 2 * i + 1 < n) : i < kid l q i n ∧ kid l q i n < n:=by
 unfold kid
 split
 · rename_i h2;simp only [Bool.and_eq_true,decide_eq_true_eq] at h2;omega
 · omega
def qB4 (l : List Int) (q : List Nat) (i n : Nat) : List Nat × Nat :=
 if h : 2 * i + 1 < n then
  if qEC l (q[kid l q i n]?.getD 0) (q[i]?.getD 0) then qB4 l (swp q i (kid l q i n)) (kid l q i n) n else (q,i)
 else (q,i)
termination_by n - i
decreasing_by have:=qMX l q h;omega
theorem qGX (l : List Int) (q : List Nat) (i n : Nat) (hi : i < n) (hn : n ≤ q.length) : (qB4 l q i n).1.Perm q:=by
 induction hk : n - i using Nat.strongRecOn generalizing q i with
 | _ m ih =>
  subst hk
  unfold qB4
  split
  · rename_i h
    have:=qMX l q h
    split
    · exact (ih _ (by omega) _ _ this.2 (by rw [qB0];exact hn) rfl).trans (qFC q _ _ (by omega) (by omega))
    · exact .refl _
  · exact .refl _
theorem qIx (l : List Int) (q : List Nat) (i n : Nat) (hi : i < n) (hn : n ≤ q.length) : (qB4 l q i n).1.length = q.length:=(qGX l q i n hi hn).length_eq
theorem qIy (q : List Nat) (i j k : Nat) (hi : k ≠ i) (hj : k ≠ j) : (swp q i j)[k]? = q[k]?:=by
 unfold swp
 rw [List.getElem?_set_ne (Ne.symm hj),List.getElem?_set_ne (Ne.symm hi)]
theorem qLr (l : List Int) (q : List Nat) (i n : Nat) (hi : i < n) : (qB4 l q i n).1[n]? = q[n]?:=by
 induction hk : n - i using Nat.strongRecOn generalizing q i with
 | _ m ih =>
  subst hk
  unfold qB4
  split
  · rename_i h
    have:=qMX l q h
    split
    · rw [ih _ (by omega) _ _ this.2 rfl,qIy _ _ _ _ (by omega) (by omega)]
    · rfl
  · rfl
theorem qOI (l : List Int) (q : List Nat) (j n : Nat) (hj : j < n) : (upQ l q j)[n]? = q[n]?:=by
 induction j using Nat.strongRecOn generalizing q with
 | _ j ih =>
  unfold upQ
  split
  · rfl
  · split
    · rw [ih _ (by omega) _ (by omega),qIy _ _ _ _ (by omega) (by omega)]
    · rfl
theorem qLs (l : List Int) (q : List Nat) (i n : Nat) (h : ¬ 2 * i + 1 < n) : qB4 l q i n = (q,i):=by
 unfold qB4;rw [dif_neg h]
theorem qF3 (l : List Int) (q : List Nat) (i n j : Nat) (h : 2 * i + 1 < n) (hj : kid l q i n = j) : qB4 l q i n = if qEC l (q[j]?.getD 0) (q[i]?.getD 0) then qB4 l (swp q i j) j n else (q,i):=by
 conv=>lhs;unfold qB4
 rw [dif_pos h,hj]
theorem qHF (A Q g cap : Nat) (a : Ag) (w : World) (h0 : qEa w A Q g cap a) (i j : Nat) (hi : i < a.q.length) (hj : j < a.q.length) (B : Bool) (hB : B = qEC a.last (a.q[i]?.getD 0) (a.q[j]?.getD 0)) : Calls prog 211 #[.pointer (some ⟨Q,0,none⟩),.int .i64 (i : Int),.int .i64 (j : Int)] w fun e w'=>e = .returned (.bool B) ∧ qA4 w w':=by
 rw [hB,List.getElem?_eq_getElem hi,List.getElem?_eq_getElem hj]
 exact qIw A Q g cap a w h0 i j hi hj
theorem qOJ (A Q g cap : Nat) (a : Ag) (w : World) (h0 : qEa w A Q g cap a) (i0 n : Nat) (hi0 : i0 < n) (hn : n ≤ a.q.length) (hm : a.q.length ≤ 1000) : Calls prog 147 #[.iface 155 (.pointer (some ⟨Q,0,none⟩)),.int .i64 (i0 : Int),.int .i64 (n : Int)] w fun e w'=>e = .returned (.bool (decide (i0 < (qB4 a.last a.q i0 n).2))) ∧ qEa w' A Q g cap (a.setq (qB4 a.last a.q i0 n).1) ∧ Chg [g] w w':=by
 go_enter func147,ntmps147
 go_wp2_with fail
 go_loopw [7] (fun i wr=>∃ (k : Nat) (q : List Nat),i = .int .i64 k ∧ k < n ∧ q.length = a.q.length ∧ qB4 a.last q k n = qB4 a.last a.q i0 n ∧ qEa wr A Q g cap (a.setq q) ∧ Chg [g] w wr) (fun i _=>n - (intOf i).toNat)
 case atStart=>exact ⟨i0,a.q,rfl,hi0,rfl,rfl,h0,Chg.refl _ _⟩
 case round =>
  obtain ⟨k,q,rfl,hk,hql,hdn,hX,hc⟩:=hrel
  have i1 : (n : Int) ≤ 1000:=by omega
  have i2 : (k : Int) < (n : Int):=by omega
  have hnq : n ≤ q.length:=by omega
  have HQL:=qh hql
  have HDN:=qh hdn
  have HNQ:=qh hnq
  have HN:=qh hn
  have HIM:=qh hm
  clear hql hdn hnq hn hm
  by_cases hlt : 2 * k + 1 < n
  · have n1 : ¬ (n : Int) ≤ 2 * (k : Int) + 1:=by omega
    have n2 : ¬ 2 * (k : Int) + 1 < 0:=by omega
    by_cases h2 : 2 * k + 1 + 1 < n
    · have n3 : 2 * (k : Int) + 1 + 1 < (n : Int):=by omega
      have p1 : 2 * k + 1 + 1 < q.length:=by have:=HNQ.out;omega
      have p2 : 2 * k + 1 < q.length:=by have:=HNQ.out;omega
      obtain ⟨B1,hB1⟩ : ∃ B,B = qEC a.last (q[2 * k + 1 + 1]?.getD 0) (q[2 * k + 1]?.getD 0):=⟨_,rfl⟩
      have CB1 : Calls prog 211 #[.pointer (some ⟨Q,0,none⟩),.int .i64 (2 * (k : Int) + 1 + 1),.int .i64 (2 * (k : Int) + 1)] wr fun e w'=>e = .returned (.bool B1) ∧ qA4 wr w':=qHF A Q g cap (a.setq q) wr hX (2 * k + 1 + 1) (2 * k + 1) p1 p2 B1 hB1
      have HB1:=qh hB1
      clear hB1
      go_wp2_with fail
      refine CB1.mono ?_
      rintro e w2 ⟨rfl,hk2⟩
      have hX2:=hX.kept hk2
      have hc2:=hc.trans (Chg.of_kept (bs:=[g]) hk2)
      cases B1
      ·
       have hkid : kid a.last q k n = 2 * k + 1:=by
        unfold kid
        rw [if_neg]
        rw [Bool.and_eq_true];rintro ⟨_,h⟩;rw [show 2 * k + 2 = 2 * k + 1 + 1 from rfl,← HB1.out] at h;cases h
       have hjl : 2 * k + 1 < q.length:=by have:=HNQ.out;omega
       have hkl : k < q.length:=by have:=HNQ.out;omega
       have hst:=qF3 a.last q k n (2 * k + 1) hlt hkid
       have HST:=qh hst
       clear hst
       obtain ⟨B2,hB2⟩ : ∃ B,B = qEC a.last (q[2 * k + 1]?.getD 0) (q[k]?.getD 0):=⟨_,rfl⟩
       have CB2 : Calls prog 211 #[.pointer (some ⟨Q,0,none⟩),.int .i64 (2 * (k : Int) + 1),.int .i64 ((k : Int))] w2 fun e w'=>e = .returned (.bool B2) ∧ qA4 w2 w':=qHF A Q g cap (a.setq q) w2 hX2 (2 * k + 1) (k) hjl hkl B2 hB2
       have HB2:=qh hB2
       clear hB2
       go_wp2_with fail
       refine CB2.mono ?_
       rintro e w3 ⟨rfl,hk3⟩
       have hX3:=hX2.kept hk3
       have hc3:=hc2.trans (Chg.of_kept (bs:=[g]) hk3)
       cases B2
       · have hres : qB4 a.last a.q i0 n = (q,k):=by rw [← HDN.out,HST.out,if_neg (by rw [← HB2.out];simp)]
         have HRES:=qh hres
         clear hres
         go_wp2
         go_ret
         rw [HRES.out]
         exact ⟨rfl,hX3,hc3⟩
       · have hdn2 : qB4 a.last (swp q k (2 * k + 1)) (2 * k + 1) n = qB4 a.last a.q i0 n:=by rw [← HDN.out,HST.out,if_pos HB2.out.symm]
         have HDN2:=qh hdn2
         clear hdn2
         have CS : Calls prog 214 #[.pointer (some ⟨Q,0,none⟩),.int .i64 (k : Int),.int .i64 (2 * (k : Int) + 1)] w3 fun e w'=>e = .returned (.tuple #[]) ∧ qEa w' A Q g cap (a.setq (swp q k (2 * k + 1))) ∧ Chg [g] w3 w' :=
          qDv A Q g cap (a.setq q) w3 hX3 k (2 * k + 1) hkl hjl
         go_wp2_with fail
         refine CS.mono ?_
         rintro e w4 ⟨rfl,hX4,hc4⟩
         go_wp2
         refine ⟨⟨2 * k + 1,swp q k (2 * k + 1),rfl,by omega,by rw [qB0];exact HQL.out,HDN2.out,hX4,hc3.trans hc4⟩,?_⟩
         simp [intOf];omega
      ·
       have hkid : kid a.last q k n = 2 * k + 1 + 1:=by
        unfold kid
        rw [if_pos]
        rw [Bool.and_eq_true];exact ⟨decide_eq_true h2,HB1.out.symm⟩
       have hjl : 2 * k + 1 + 1 < q.length:=by have:=HNQ.out;omega
       have hkl : k < q.length:=by have:=HNQ.out;omega
       have hst:=qF3 a.last q k n (2 * k + 1 + 1) hlt hkid
       have HST:=qh hst
       clear hst
       obtain ⟨B2,hB2⟩ : ∃ B,B = qEC a.last (q[2 * k + 1 + 1]?.getD 0) (q[k]?.getD 0):=⟨_,rfl⟩
       have CB2 : Calls prog 211 #[.pointer (some ⟨Q,0,none⟩),.int .i64 (2 * (k : Int) + 1 + 1),.int .i64 ((k : Int))] w2 fun e w'=>e = .returned (.bool B2) ∧ qA4 w2 w':=qHF A Q g cap (a.setq q) w2 hX2 (2 * k + 1 + 1) (k) hjl hkl B2 hB2
       have HB2:=qh hB2
       clear hB2
       go_wp2_with fail
       refine CB2.mono ?_
       rintro e w3 ⟨rfl,hk3⟩
       have hX3:=hX2.kept hk3
       have hc3:=hc2.trans (Chg.of_kept (bs:=[g]) hk3)
       cases B2
       · have hres : qB4 a.last a.q i0 n = (q,k):=by rw [← HDN.out,HST.out,if_neg (by rw [← HB2.out];simp)]
         have HRES:=qh hres
         clear hres
         go_wp2
         go_ret
         rw [HRES.out]
         exact ⟨rfl,hX3,hc3⟩
       · have hdn2 : qB4 a.last (swp q k (2 * k + 1 + 1)) (2 * k + 1 + 1) n = qB4 a.last a.q i0 n:=by rw [← HDN.out,HST.out,if_pos HB2.out.symm]
         have HDN2:=qh hdn2
         clear hdn2
         have CS : Calls prog 214 #[.pointer (some ⟨Q,0,none⟩),.int .i64 (k : Int),.int .i64 (2 * (k : Int) + 1 + 1)] w3 fun e w'=>e = .returned (.tuple #[]) ∧ qEa w' A Q g cap (a.setq (swp q k (2 * k + 1 + 1))) ∧ Chg [g] w3 w' :=
          qDv A Q g cap (a.setq q) w3 hX3 k (2 * k + 1 + 1) hkl hjl
         go_wp2_with fail
         refine CS.mono ?_
         rintro e w4 ⟨rfl,hX4,hc4⟩
         go_wp2
         refine ⟨⟨2 * k + 1 + 1,swp q k (2 * k + 1 + 1),rfl,by omega,by rw [qB0];exact HQL.out,HDN2.out,hX4,hc3.trans hc4⟩,?_⟩
         simp [intOf];omega
    · have n3 : ¬ 2 * (k : Int) + 1 + 1 < (n : Int):=by omega
      have hkid : kid a.last q k n = 2 * k + 1:=by
       unfold kid
       rw [if_neg]
       rw [Bool.and_eq_true];rintro ⟨h,_⟩;exact h2 (of_decide_eq_true h)
      have hjl : 2 * k + 1 < q.length:=by have:=HNQ.out;omega
      have hkl : k < q.length:=by have:=HNQ.out;omega
      have hst:=qF3 a.last q k n (2 * k + 1) hlt hkid
      have HST:=qh hst
      clear hst
      obtain ⟨B2,hB2⟩ : ∃ B,B = qEC a.last (q[2 * k + 1]?.getD 0) (q[k]?.getD 0):=⟨_,rfl⟩
      have CB2 : Calls prog 211 #[.pointer (some ⟨Q,0,none⟩),.int .i64 (2 * (k : Int) + 1),.int .i64 ((k : Int))] wr fun e w'=>e = .returned (.bool B2) ∧ qA4 wr w':=qHF A Q g cap (a.setq q) wr hX (2 * k + 1) (k) hjl hkl B2 hB2
      have HB2:=qh hB2
      clear hB2
      go_wp2_with fail
      refine CB2.mono ?_
      rintro e w3 ⟨rfl,hk3⟩
      have hX3:=hX.kept hk3
      have hc3:=hc.trans (Chg.of_kept (bs:=[g]) hk3)
      cases B2
      · have hres : qB4 a.last a.q i0 n = (q,k):=by rw [← HDN.out,HST.out,if_neg (by rw [← HB2.out];simp)]
        have HRES:=qh hres
        clear hres
        go_wp2
        go_ret
        rw [HRES.out]
        exact ⟨rfl,hX3,hc3⟩
      · have hdn2 : qB4 a.last (swp q k (2 * k + 1)) (2 * k + 1) n = qB4 a.last a.q i0 n:=by rw [← HDN.out,HST.out,if_pos HB2.out.symm]
        have HDN2:=qh hdn2
        clear hdn2
        have CS : Calls prog 214 #[.pointer (some ⟨Q,0,none⟩),.int .i64 (k : Int),.int .i64 (2 * (k : Int) + 1)] w3 fun e w'=>e = .returned (.tuple #[]) ∧ qEa w' A Q g cap (a.setq (swp q k (2 * k + 1))) ∧ Chg [g] w3 w' :=
         qDv A Q g cap (a.setq q) w3 hX3 k (2 * k + 1) hkl hjl
        go_wp2_with fail
        refine CS.mono ?_
        rintro e w4 ⟨rfl,hX4,hc4⟩
        go_wp2
        refine ⟨⟨2 * k + 1,swp q k (2 * k + 1),rfl,by omega,by rw [qB0];exact HQL.out,HDN2.out,hX4,hc3.trans hc4⟩,?_⟩
        simp [intOf];omega
  · have n1 : (n : Int) ≤ 2 * (k : Int) + 1:=by omega
    have hres : qB4 a.last a.q i0 n = (q,k):=by rw [← HDN.out,qLs _ _ _ _ hlt]
    have HRES:=qh hres
    clear hres
    go_wp2
    go_ret
    rw [HRES.out]
    exact ⟨rfl,hX,hc⟩
end Go.Proofs.YtdlgihbpiakebaaGreat
