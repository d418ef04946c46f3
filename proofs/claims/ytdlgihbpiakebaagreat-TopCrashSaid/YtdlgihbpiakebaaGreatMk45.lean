import Derived.Test.YtdlgihbpiakebaaGreatMk04
import Derived.Test.YtdlgihbpiakebaaGreatMk44
set_option maxRecDepth 100000
set_option maxHeartbeats 4000000
namespace Go.Proofs.YtdlgihbpiakebaaGreat
open Go Go.RowKit Tryz
theorem qKx {w:World}{B g cap n:Nat}{e:TypeId}{xs:List Value}(h:w.ownsRow B e 1 (.slice (some ⟨g,0,none⟩) n cap) n xs)(i:Nat)(v:Value):(w.setCell ⟨g,i,none⟩ v).ownsRow B e 1 (.slice (some ⟨g,0,none⟩) n cap) n (xs.set i v):=by
 obtain⟨c,f⟩:=h
 refine⟨by simpa using c,?_⟩
 rcases f with ⟨h0,_⟩|⟨g',cap',cur,hv,hg,hh,hn,hcap,hsz,htake⟩
 · cases h0
 · cases hv
   have j:Blk w g cur e:=hh
   refine .inr ⟨g,cap,cur.setIfInBounds i v,rfl,hg,j.set i v,hn,hcap,by simpa using hsz,?_⟩
   rw[Array.toList_setIfInBounds,List.take_set,htake]
theorem qNO {w:World}{B g cap n:Nat}{e:TypeId}{xs:List Value}(h:w.ownsRow B e 1 (.slice (some ⟨g,0,none⟩) n cap) n xs)(j:Nat)(hj:j<n):∃u,w.cell? ⟨g,j,none⟩=some u:=by
 have l:xs.length=n:=by have:=h.1;omega
 obtain⟨b,off,f,e,_,_,_,c⟩:=(Sl.of_own h).at (by omega)
 cases e
 exact⟨xs[j],by have:=c j _ (List.getElem?_eq_getElem (by omega));simpa using this⟩
def swp (q:List Nat)(i j:Nat):List Nat:=(q.set i (q[j]?.getD 0)).set j (q[i]?.getD 0)
theorem qB4 (q:List Nat)(i j:Nat):(swp q i j).length=q.length:=by simp[swp]
theorem qFW (q:List Nat)(i j:Nat)(hi:i<q.length)(hj:j<q.length):(swp q i j).Perm q:=by
 unfold swp
 rw[List.getElem?_eq_getElem hi,List.getElem?_eq_getElem hj]
 exact List.set_set_perm hi hj
def Ag.swap (a:Ag)(i j:Nat):Ag:={ a with q:=swp a.q i j }
theorem qHn (q:List Nat)(i x:Nat):(qBw q).set i (.int .i64 (x:Int))=qBw (q.set i x):=by
 simp[qBw,List.map_set]
theorem qNP {q:List Nat}(h:∀x∈q,x<16)(i j:Nat)(hi:i<q.length)(hj:j<q.length):∀x∈swp q i j,x<16:=fun x c=>h x ((qFW q i j hi hj).mem_iff.1 c)
theorem qEl.row_ne {w:World}{A Q g cap:Nat}{a:Ag}(h:qEl w A Q g cap a):A≠g∧Q≠g:=by
 obtain⟨cur,c⟩:=qAq h.row rfl
 refine⟨fun e=>?_,fun e=>?_⟩
 · have:=h.age;subst e;exact absurd (this.symm.trans c) (by simp)
 · have:=h.que;subst e;exact absurd (this.symm.trans c) (by simp)
theorem qDF (A Q g cap:Nat)(a:Ag)(w:World)(l:qEl w A Q g cap a)(i j:Nat)(hi:i<a.q.length)(hj:j<a.q.length):Calls prog 214 #[.pointer (some ⟨Q,0,none⟩),.int .i64 (i:Int),.int .i64 (j:Int)] w fun e w'=>e= .returned (.tuple #[])∧qEl w' A Q g cap (a.swap i j)∧Chg [g] w w':=by
 have n1:(0:Int)≤(i:Int):=by omega
 have n2:(i:Int)<(a.q.length:Int):=by omega
 have n3:(0:Int)≤(j:Int):=by omega
 have n4:(j:Int)<(a.q.length:Int):=by omega
 go_enter func214,ntmps214
 go_wp2_with fail
 refine qG2 qA4 (Chg [g]) [(3,0),(8,0),(13,0),(16,0),(20,0),(23,0)] (.light 0 (.light 1 (.light 2 (.light 3 (.light 4 (.light 5 (.light 6 (.light 7 (.light 8 (.light 9 (.light 10 (.light 11 (.light 12 (.light 13 (.light 14 (.light 15 (.light 16 (.light 17 (.light 18 (.light 19 (.light 20 (.light 21 (.light 22 (.light 23 (.light 24 (.last 25 (.light 26 (.last 27 .nil)))))))))))))))))))))))))))) (by kernel_rfl) (by kernel_rfl) (fun _ _ h=>Chg.of_kept h) (fun _=>Below.refl _ _) (fun _ _ _ V Y=>V.of Y) (fun _ _ _ V Y=>V.trans Y) ?_
 intro y0 G
 replace l:=l.kept G
 obtain⟨cur,N⟩:=qAq l.row rfl
 have O:=N.set i (.int .i64 ((a.q[j]:Nat):Int))
 refine qAj _ rfl (Chg [g]) (by rfl) (fun K c=>?_)
 refine qqP (by rfl) ?_;apply Exists.intro;refine⟨fun w' f=>?_,c _ ?_⟩
 · go_simp;first|done|rfl
 clear c K;simp only[Act.put,qqB]
 refine qAj _ rfl (Chg [g]) (by rfl) (fun K c=>?_)
 refine qqP (by rfl) ?_;apply Exists.intro;refine⟨fun w' f=>?_,c _ ?_⟩
 · go_simp;first|done|rfl
 clear c K;simp only[Act.put,qqB]
 refine qAj _ rfl (Chg [g]) (by rfl) (fun K c=>?_)
 refine qqP (by rfl) ?_;apply Exists.intro;refine⟨fun w' f=>?_,c _ ?_⟩
 · go_simp;first|done|rfl
 clear c K;simp only[Act.put,qqB]
 refine qAj _ rfl qA4 (by rfl) (fun K c=>?_)
 refine qqP (by rfl) ?_;apply Exists.intro;refine⟨fun w' f=>?_,c _ ?_⟩
 · have H:=l.kept f;have F:=H.que.cell 0;have I:=H.cell i hi;have J:=H.cell j hj;clear H;go_simp;first|done|rfl
 clear c K;simp only[Act.put,qqB]
 refine qAj _ rfl (Chg [g]) (by rfl) (fun K c=>?_)
 refine qqP (by rfl) ?_;apply Exists.intro;refine⟨fun w' f=>?_,c _ ?_⟩
 · go_simp;first|done|rfl
 clear c K;simp only[Act.put,qqB]
 refine qAj _ rfl (Chg [g]) (by rfl) (fun K c=>?_)
 refine qqP (by rfl) ?_;apply Exists.intro;refine⟨fun w' f=>?_,c _ ?_⟩
 · go_simp;first|done|rfl
 clear c K;simp only[Act.put,qqB]
 refine qAj _ rfl (Chg [g]) (by rfl) (fun K c=>?_)
 refine qqP (by rfl) ?_;apply Exists.intro;refine⟨fun w' f=>?_,c _ ?_⟩
 · go_simp;first|done|rfl
 clear c K;simp only[Act.put,qqB]
 refine qAj _ rfl (Chg [g]) (by rfl) (fun K c=>?_)
 refine qqP (by rfl) ?_;apply Exists.intro;refine⟨fun w' f=>?_,c _ ?_⟩
 · go_simp;first|done|rfl
 clear c K;simp only[Act.put,qqB]
 refine qAj _ rfl qA4 (by rfl) (fun K c=>?_)
 refine qqP (by rfl) ?_;apply Exists.intro;refine⟨fun w' f=>?_,c _ ?_⟩
 · have H:=l.kept f;have F:=H.que.cell 0;have I:=H.cell i hi;have J:=H.cell j hj;clear H;go_simp;first|done|rfl
 clear c K;simp only[Act.put,qqB]
 refine qAj _ rfl (Chg [g]) (by rfl) (fun K c=>?_)
 refine qqP (by rfl) ?_;apply Exists.intro;refine⟨fun w' f=>?_,c _ ?_⟩
 · go_simp;first|done|rfl
 clear c K;simp only[Act.put,qqB]
 refine qAj _ rfl (Chg [g]) (by rfl) (fun K c=>?_)
 refine qqP (by rfl) ?_;apply Exists.intro;refine⟨fun w' f=>?_,c _ ?_⟩
 · go_simp;first|done|rfl
 clear c K;simp only[Act.put,qqB]
 refine qAj _ rfl (Chg [g]) (by rfl) (fun K c=>?_)
 refine qqP (by rfl) ?_;apply Exists.intro;refine⟨fun w' f=>?_,c _ ?_⟩
 · go_simp;first|done|rfl
 clear c K;simp only[Act.put,qqB]
 refine qAj _ rfl (Chg [g]) (by rfl) (fun K c=>?_)
 refine qqP (by rfl) ?_;apply Exists.intro;refine⟨fun w' f=>?_,c _ ?_⟩
 · go_simp;first|done|rfl
 clear c K;simp only[Act.put,qqB]
 refine qAj _ rfl qA4 (by rfl) (fun K c=>?_)
 refine qqP (by rfl) ?_;apply Exists.intro;refine⟨fun w' f=>?_,c _ ?_⟩
 · have H:=l.kept f;have F:=H.que.cell 0;have I:=H.cell i hi;have J:=H.cell j hj;clear H;go_simp;first|done|rfl
 clear c K;simp only[Act.put,qqB]
 refine qAj _ rfl (Chg [g]) (by rfl) (fun K c=>?_)
 refine qqP (by rfl) ?_;apply Exists.intro;refine⟨fun w' f=>?_,c _ ?_⟩
 · go_simp;first|done|rfl
 clear c K;simp only[Act.put,qqB]
 refine qAj _ rfl (Chg [g]) (by rfl) (fun K c=>?_)
 refine qqP (by rfl) ?_;apply Exists.intro;refine⟨fun w' f=>?_,c _ ?_⟩
 · go_simp;first|done|rfl
 clear c K;simp only[Act.put,qqB]
 refine qAj _ rfl qA4 (by rfl) (fun K c=>?_)
 refine qqP (by rfl) ?_;apply Exists.intro;refine⟨fun w' f=>?_,c _ ?_⟩
 · have H:=l.kept f;have F:=H.que.cell 0;have I:=H.cell i hi;have J:=H.cell j hj;clear H;go_simp;first|done|rfl
 clear c K;simp only[Act.put,qqB]
 refine qAj _ rfl (Chg [g]) (by rfl) (fun K c=>?_)
 refine qqP (by rfl) ?_;apply Exists.intro;refine⟨fun w' f=>?_,c _ ?_⟩
 · go_simp;first|done|rfl
 clear c K;simp only[Act.put,qqB]
 refine qAj _ rfl (Chg [g]) (by rfl) (fun K c=>?_)
 refine qqP (by rfl) ?_;apply Exists.intro;refine⟨fun w' f=>?_,c _ ?_⟩
 · go_simp;first|done|rfl
 clear c K;simp only[Act.put,qqB]
 refine qAj _ rfl (Chg [g]) (by rfl) (fun K c=>?_)
 refine qqP (by rfl) ?_;apply Exists.intro;refine⟨fun w' f=>?_,c _ ?_⟩
 · go_simp;first|done|rfl
 clear c K;simp only[Act.put,qqB]
 refine qAj _ rfl qA4 (by rfl) (fun K c=>?_)
 refine qqP (by rfl) ?_;apply Exists.intro;refine⟨fun w' f=>?_,c _ ?_⟩
 · have H:=l.kept f;have F:=H.que.cell 0;have I:=H.cell i hi;have J:=H.cell j hj;clear H;go_simp;first|done|rfl
 clear c K;simp only[Act.put,qqB]
 refine qAj _ rfl (Chg [g]) (by rfl) (fun K c=>?_)
 refine qqP (by rfl) ?_;apply Exists.intro;refine⟨fun w' f=>?_,c _ ?_⟩
 · go_simp;first|done|rfl
 clear c K;simp only[Act.put,qqB]
 refine qAj _ rfl (Chg [g]) (by rfl) (fun K c=>?_)
 refine qqP (by rfl) ?_;apply Exists.intro;refine⟨fun w' f=>?_,c _ ?_⟩
 · go_simp;first|done|rfl
 clear c K;simp only[Act.put,qqB]
 refine qAj _ rfl qA4 (by rfl) (fun K c=>?_)
 refine qqP (by rfl) ?_;apply Exists.intro;refine⟨fun w' f=>?_,c _ ?_⟩
 · have H:=l.kept f;have F:=H.que.cell 0;have I:=H.cell i hi;have J:=H.cell j hj;clear H;go_simp;first|done|rfl
 clear c K;simp only[Act.put,qqB]
 refine qAj _ rfl (Chg [g]) (by rfl) (fun K c=>?_)
 refine qqP (by rfl) ?_;apply Exists.intro;refine⟨fun w' f=>?_,c _ ?_⟩
 · go_simp;first|done|rfl
 clear c K;simp only[Act.put,qqB]
 refine qGY _ rfl (fun K c=>?_)
 refine qqP (by rfl) ?_
 have f1:=N.free i
 have f3:=l.cell i hi
 go_wp2
 refine c _ _ ((Chg.refl _ _).set qsm i _) ?_
 clear c K
 try simp only[Act.put,qqB]
 refine qAj _ rfl (Chg [g]) (by rfl) (fun K c=>?_)
 refine qqP (by rfl) ?_;apply Exists.intro;refine⟨fun w' f=>?_,c _ ?_⟩
 · go_simp;first|done|rfl
 clear c K;simp only[Act.put,qqB]
 refine qGY _ rfl (fun K c=>?_)
 refine qqP (by rfl) ?_
 have f2:=O.free j
 obtain⟨u2,f4⟩:=qNO (qKx l.row i (.int .i64 ((a.q[j]:Nat):Int))) j hj
 go_wp2
 refine c _ _ ((Chg.refl _ _).set qsm j _) ?_
 clear c K
 try simp only[Act.put,qqB]
 refine qMT ?_
 go_wp2
 refine bodyPost_end (results_none rfl _ _ _) rfl ⟨rfl,?_,?_⟩
 · have Z:=qKx (qKx l.row i (.int .i64 ((a.q[j]:Nat):Int))) j (.int .i64 ((a.q[i]:Nat):Int))
   rw[qHn,qHn]at Z
   have hq:(a.q.set i a.q[j]).set j a.q[i]=swp a.q i j:=by unfold swp;rw[List.getElem?_eq_getElem hi,List.getElem?_eq_getElem hj];rfl
   rw[hq]at Z
   have hc:Chg [g] y0 ((y0.setCell ⟨g,i,none⟩ (.int .i64 ((a.q[j]:Nat):Int))).setCell ⟨g,j,none⟩ (.int .i64 ((a.q[i]:Nat):Int))):=((Chg.refl _ _).set qsm i _).set qsm j _
   obtain⟨e1,e2⟩:=l.row_ne
   refine⟨l.len,qNP l.slots i j hi hj,hc.blk l.age (by simpa using e1),?_,?_⟩
   · show Blk _ Q #[.slice (some ⟨g,0,none⟩) (swp a.q i j).length cap,_] _
     rw[qB4]
     exact hc.blk l.que (by simpa using e2)
   · show World.ownsRow _ _ _ _ (.slice (some ⟨g,0,none⟩) (swp a.q i j).length cap) (swp a.q i j).length _
     rw[qB4]
     exact Z
 · exact(Chg.of_kept G).trans (((Chg.refl _ _).set qsm i _).set qsm j _)
def upQ (l:List Int)(q:List Nat)(j:Nat):List Nat:=
 if h:j=0 then q else if qET l (q[j]?.getD 0) (q[(j - 1) / 2]?.getD 0) then upQ l (swp q ((j - 1) / 2) j) ((j - 1) / 2) else q
termination_by j
decreasing_by omega
theorem qFl (l:List Int)(q:List Nat)(j:Nat):(upQ l q j).length=q.length:=by
 induction j using Nat.strongRecOn generalizing q with
 | _ j ih =>
  unfold upQ
  split
  · rfl
  · split
    · rw[ih _ (by omega),qB4]
    · rfl
theorem qLj (l:List Int)(q:List Nat)(j:Nat)(hj:j<q.length):(upQ l q j).Perm q:=by
 induction j using Nat.strongRecOn generalizing q with
 | _ j ih =>
  unfold upQ
  split
  · exact .refl _
  · split
    · exact(ih _ (by omega) _ (by rw[qB4];omega)).trans (qFW q _ _ (by omega) hj)
    · exact .refl _
def Ag.setq (a:Ag)(q:List Nat):Ag:={ a with q:=q }
theorem qQl (A Q g cap:Nat)(a:Ag)(w:World)(h0:qEl w A Q g cap a)(j:Nat)(hj:j<a.q.length)(hm:a.q.length≤1000):Calls prog 110 #[.iface 155 (.pointer (some ⟨Q,0,none⟩)),.int .i64 (j:Int)] w fun e w'=>e= .returned (.tuple #[])∧qEl w' A Q g cap (a.setq (upQ a.last a.q j))∧Chg [g] w w':=by
 go_enter func110,ntmps110
 go_wp2_with fail
 go_loopw [1] (fun i wr=>∃(k:Nat) (q:List Nat),i= .int .i64 k∧k<q.length∧q.length=a.q.length∧upQ a.last q k=upQ a.last a.q j∧qEl wr A Q g cap (a.setq q)∧Chg [g] w wr) (fun i _=>(intOf i).toNat)
 case atStart=>exact⟨j,a.q,rfl,hj,rfl,rfl,h0,Chg.refl _ _⟩
 case round =>
  obtain⟨k,q,rfl,hk,J,G,V,hc⟩:=hrel
  have i1:(k:Int)≤1000:=by omega
  have a0:=qh J
  have l:=qh G
  clear J G
  cases k with
  | zero =>
   go_wp2
   refine bodyPost_end (results_none rfl _ _ _) rfl ⟨rfl,?_,hc⟩
   have e:upQ a.last q 0=q:=by unfold upQ;rfl
   rw[←l.out,e]
   exact V
  | succ k =>
   have c:k / 2<q.length:=by omega
   obtain⟨B,O⟩:∃B,B=qET a.last q[k+1] q[k / 2]:=⟨_,rfl⟩
   have CL:Calls prog 211 #[.pointer (some ⟨Q,0,none⟩),.int .i64 ((k:Int)+1),.int .i64 ((k:Int) / 2)] wr fun e w'=>e= .returned (.bool B)∧qA4 wr w':=by
    have:=qJa A Q g cap (a.setq q) wr V (k+1) (k / 2) hk c
    rw[O]
    exact this
   have HB:=qh O
   clear O
   have a2:¬(k:Int) / 2=(k:Int)+1:=by omega
   have h:=qh hk
   go_wp2_with fail
   refine CL.mono ?_
   rintro e Z ⟨rfl,F⟩
   have I:=V.kept F
   cases B
   · go_wp2
     refine bodyPost_end (results_none rfl _ _ _) rfl ⟨rfl,?_,hc.trans (Chg.of_kept F)⟩
     have e:upQ a.last q (k+1)=q:=by
      unfold upQ
      rw[dif_neg (by omega),show(k+1 - 1) / 2=k / 2 by omega,List.getElem?_eq_getElem h.out,List.getElem?_eq_getElem c]
      simp only[Option.getD_some]
      rw[if_neg (by rw[←HB.out];simp)]
     rw[←l.out,e]
     exact I
   · have CS:Calls prog 214 #[.pointer (some ⟨Q,0,none⟩),.int .i64 ((k:Int) / 2),.int .i64 ((k:Int)+1)] Z fun e w'=>e= .returned (.tuple #[])∧qEl w' A Q g cap (a.setq (swp q (k / 2) (k+1)))∧Chg [g] Z w':=
      qDF A Q g cap (a.setq q) Z I (k / 2) (k+1) c h.out
     go_wp2_with fail
     refine CS.mono ?_
     rintro e w3 ⟨rfl,Y,a1⟩
     have f:upQ a.last (swp q (k / 2) (k+1)) (k / 2)=upQ a.last a.q j:=by
      rw[←l.out]
      conv=>rhs;unfold upQ
      rw[dif_neg (by omega),show(k+1 - 1) / 2=k / 2 by omega,List.getElem?_eq_getElem h.out,List.getElem?_eq_getElem c]
      simp only[Option.getD_some]
      rw[if_pos HB.out.symm]
     have N:=qh f
     clear f
     go_wp2
     refine⟨⟨k / 2,swp q (k / 2) (k+1),rfl,by rw[qB4];exact c,by rw[qB4];exact a0.out,N.out,Y,(hc.trans (Chg.of_kept F)).trans a1⟩,?_⟩
     simp[intOf];omega
def kid (l:List Int)(q:List Nat)(i n:Nat):Nat:=if decide (2*i+2<n)&&qET l (q[2*i+2]?.getD 0) (q[2*i+1]?.getD 0) then 2*i+2 else 2*i+1
theorem qNQ (l:List Int)(q:List Nat){i n:Nat}(h:2*i+1<n):i<kid l q i n∧kid l q i n<n:=by
 unfold kid
 split
 · rename_i c;simp only[Bool.and_eq_true,decide_eq_true_eq]at c;omega
 · omega
def qB9 (l:List Int)(q:List Nat)(i n:Nat):List Nat×Nat:=
 if h:2*i+1<n then
  if qET l (q[kid l q i n]?.getD 0) (q[i]?.getD 0) then qB9 l (swp q i (kid l q i n)) (kid l q i n) n else(q,i)
 else(q,i)
termination_by n - i
decreasing_by have:=qNQ l q h;omega
theorem qHo (l:List Int)(q:List Nat)(i n:Nat)(hi:i<n)(hn:n≤q.length):(qB9 l q i n).1.Perm q:=by
 induction hk:n - i using Nat.strongRecOn generalizing q i with
 | _ m ih =>
  subst hk
  unfold qB9
  split
  · rename_i h
    have:=qNQ l q h
    split
    · exact(ih _ (by omega) _ _ this.2 (by rw[qB4];exact hn) rfl).trans (qFW q _ _ (by omega) (by omega))
    · exact .refl _
  · exact .refl _
theorem qJb (l:List Int)(q:List Nat)(i n:Nat)(hi:i<n)(hn:n≤q.length):(qB9 l q i n).1.length=q.length:=(qHo l q i n hi hn).length_eq
theorem qJc (q:List Nat)(i j k:Nat)(hi:k≠i)(hj:k≠j):(swp q i j)[k]? = q[k]?:=by
 unfold swp
 rw[List.getElem?_set_ne (Ne.symm hj),List.getElem?_set_ne (Ne.symm hi)]
theorem qMj (l:List Int)(q:List Nat)(i n:Nat)(hi:i<n):(qB9 l q i n).1[n]? = q[n]?:=by
 induction hk:n - i using Nat.strongRecOn generalizing q i with
 | _ m ih =>
  subst hk
  unfold qB9
  split
  · rename_i h
    have:=qNQ l q h
    split
    · rw[ih _ (by omega) _ _ this.2 rfl,qJc _ _ _ _ (by omega) (by omega)]
    · rfl
  · rfl
theorem qPF (l:List Int)(q:List Nat)(j n:Nat)(hj:j<n):(upQ l q j)[n]? = q[n]?:=by
 induction j using Nat.strongRecOn generalizing q with
 | _ j ih =>
  unfold upQ
  split
  · rfl
  · split
    · rw[ih _ (by omega) _ (by omega),qJc _ _ _ _ (by omega) (by omega)]
    · rfl
theorem qMk (l:List Int)(q:List Nat)(i n:Nat)(h:¬2*i+1<n):qB9 l q i n=(q,i):=by
 unfold qB9;rw[dif_neg h]
theorem qFm (l:List Int)(q:List Nat)(i n j:Nat)(h:2*i+1<n)(hj:kid l q i n=j):qB9 l q i n=if qET l (q[j]?.getD 0) (q[i]?.getD 0) then qB9 l (swp q i j) j n else(q,i):=by
 conv=>lhs;unfold qB9
 rw[dif_pos h,hj]
theorem qIc (A Q g cap:Nat)(a:Ag)(w:World)(h0:qEl w A Q g cap a)(i j:Nat)(hi:i<a.q.length)(hj:j<a.q.length)(B:Bool)(hB:B=qET a.last (a.q[i]?.getD 0) (a.q[j]?.getD 0)):Calls prog 211 #[.pointer (some ⟨Q,0,none⟩),.int .i64 (i:Int),.int .i64 (j:Int)] w fun e w'=>e= .returned (.bool B)∧qA4 w w':=by
 rw[hB,List.getElem?_eq_getElem hi,List.getElem?_eq_getElem hj]
 exact qJa A Q g cap a w h0 i j hi hj
theorem qPG (A Q g cap:Nat)(a:Ag)(w:World)(h0:qEl w A Q g cap a)(i0 n:Nat)(hi0:i0<n)(hn:n≤a.q.length)(hm:a.q.length≤1000):Calls prog 147 #[.iface 155 (.pointer (some ⟨Q,0,none⟩)),.int .i64 (i0:Int),.int .i64 (n:Int)] w fun e w'=>e= .returned (.bool (decide (i0<(qB9 a.last a.q i0 n).2)))∧qEl w' A Q g cap (a.setq (qB9 a.last a.q i0 n).1)∧Chg [g] w w':=by
 go_enter func147,ntmps147
 go_wp2_with fail
 go_loopw [7] (fun i wr=>∃(k:Nat) (q:List Nat),i= .int .i64 k∧k<n∧q.length=a.q.length∧qB9 a.last q k n=qB9 a.last a.q i0 n∧qEl wr A Q g cap (a.setq q)∧Chg [g] w wr) (fun i _=>n - (intOf i).toNat)
 case atStart=>exact⟨i0,a.q,rfl,hi0,rfl,rfl,h0,Chg.refl _ _⟩
 case round =>
  obtain⟨k,q,rfl,hk,b4,b8,hX,hc⟩:=hrel
  have i1:(n:Int)≤1000:=by omega
  have i2:(k:Int)<(n:Int):=by omega
  have b7:n≤q.length:=by omega
  have a8:=qh b4
  have a2:=qh b8
  have a0:=qh b7
  have HN:=qh hn
  have c0:=qh hm
  clear b4 b8 b7 hn hm
  by_cases a7:2*k+1<n
  · have n1:¬(n:Int)≤2*(k:Int)+1:=by omega
    have n2:¬2*(k:Int)+1<0:=by omega
    by_cases h2:2*k+1+1<n
    · have n3:2*(k:Int)+1+1<(n:Int):=by omega
      have p1:2*k+1+1<q.length:=by have:=a0.out;omega
      have p2:2*k+1<q.length:=by have:=a0.out;omega
      obtain⟨B1,a9⟩:∃B,B=qET a.last (q[2*k+1+1]?.getD 0) (q[2*k+1]?.getD 0):=⟨_,rfl⟩
      have b9:Calls prog 211 #[.pointer (some ⟨Q,0,none⟩),.int .i64 (2*(k:Int)+1+1),.int .i64 (2*(k:Int)+1)] wr fun e w'=>e= .returned (.bool B1)∧qA4 wr w':=qIc A Q g cap (a.setq q) wr hX (2*k+1+1) (2*k+1) p1 p2 B1 a9
      have b5:=qh a9
      clear a9
      go_wp2_with fail
      refine b9.mono ?_
      rintro e w2 ⟨rfl,b3⟩
      have a6:=hX.kept b3
      have b6:=hc.trans (Chg.of_kept (bs:=[g]) b3)
      cases B1
      ·
       have J:kid a.last q k n=2*k+1:=by
        unfold kid
        rw[if_neg]
        rw[Bool.and_eq_true];rintro⟨_,h⟩;rw[show 2*k+2=2*k+1+1 from rfl,←b5.out]at h;cases h
       have O:2*k+1<q.length:=by have:=a0.out;omega
       have F:k<q.length:=by have:=a0.out;omega
       have I:=qFm a.last q k n (2*k+1) a7 J
       have V:=qh I
       clear I
       obtain⟨B2,l⟩:∃B,B=qET a.last (q[2*k+1]?.getD 0) (q[k]?.getD 0):=⟨_,rfl⟩
       have a5:Calls prog 211 #[.pointer (some ⟨Q,0,none⟩),.int .i64 (2*(k:Int)+1),.int .i64 ((k:Int))] w2 fun e w'=>e= .returned (.bool B2)∧qA4 w2 w':=qIc A Q g cap (a.setq q) w2 a6 (2*k+1) (k) O F B2 l
       have a1:=qh l
       clear l
       go_wp2_with fail
       refine a5.mono ?_
       rintro e w3 ⟨rfl,Y⟩
       have G:=a6.kept Y
       have N:=b6.trans (Chg.of_kept (bs:=[g]) Y)
       cases B2
       · have c:qB9 a.last a.q i0 n=(q,k):=by rw[←a2.out,V.out,if_neg (by rw[←a1.out];simp)]
         have j:=qh c
         clear c
         go_wp2
         go_ret
         rw[j.out]
         exact⟨rfl,G,N⟩
       · have f:qB9 a.last (swp q k (2*k+1)) (2*k+1) n=qB9 a.last a.q i0 n:=by rw[←a2.out,V.out,if_pos a1.out.symm]
         have Z:=qh f
         clear f
         have CS:Calls prog 214 #[.pointer (some ⟨Q,0,none⟩),.int .i64 (k:Int),.int .i64 (2*(k:Int)+1)] w3 fun e w'=>e= .returned (.tuple #[])∧qEl w' A Q g cap (a.setq (swp q k (2*k+1)))∧Chg [g] w3 w':=
          qDF A Q g cap (a.setq q) w3 G k (2*k+1) F O
         go_wp2_with fail
         refine CS.mono ?_
         rintro e w4 ⟨rfl,a4,a3⟩
         go_wp2
         refine⟨⟨2*k+1,swp q k (2*k+1),rfl,by omega,by rw[qB4];exact a8.out,Z.out,a4,N.trans a3⟩,?_⟩
         simp[intOf];omega
      ·
       have J:kid a.last q k n=2*k+1+1:=by
        unfold kid
        rw[if_pos]
        rw[Bool.and_eq_true];exact⟨decide_eq_true h2,b5.out.symm⟩
       have O:2*k+1+1<q.length:=by have:=a0.out;omega
       have F:k<q.length:=by have:=a0.out;omega
       have I:=qFm a.last q k n (2*k+1+1) a7 J
       have V:=qh I
       clear I
       obtain⟨B2,l⟩:∃B,B=qET a.last (q[2*k+1+1]?.getD 0) (q[k]?.getD 0):=⟨_,rfl⟩
       have a5:Calls prog 211 #[.pointer (some ⟨Q,0,none⟩),.int .i64 (2*(k:Int)+1+1),.int .i64 ((k:Int))] w2 fun e w'=>e= .returned (.bool B2)∧qA4 w2 w':=qIc A Q g cap (a.setq q) w2 a6 (2*k+1+1) (k) O F B2 l
       have a1:=qh l
       clear l
       go_wp2_with fail
       refine a5.mono ?_
       rintro e w3 ⟨rfl,Y⟩
       have G:=a6.kept Y
       have N:=b6.trans (Chg.of_kept (bs:=[g]) Y)
       cases B2
       · have c:qB9 a.last a.q i0 n=(q,k):=by rw[←a2.out,V.out,if_neg (by rw[←a1.out];simp)]
         have j:=qh c
         clear c
         go_wp2
         go_ret
         rw[j.out]
         exact⟨rfl,G,N⟩
       · have f:qB9 a.last (swp q k (2*k+1+1)) (2*k+1+1) n=qB9 a.last a.q i0 n:=by rw[←a2.out,V.out,if_pos a1.out.symm]
         have Z:=qh f
         clear f
         have CS:Calls prog 214 #[.pointer (some ⟨Q,0,none⟩),.int .i64 (k:Int),.int .i64 (2*(k:Int)+1+1)] w3 fun e w'=>e= .returned (.tuple #[])∧qEl w' A Q g cap (a.setq (swp q k (2*k+1+1)))∧Chg [g] w3 w':=
          qDF A Q g cap (a.setq q) w3 G k (2*k+1+1) F O
         go_wp2_with fail
         refine CS.mono ?_
         rintro e w4 ⟨rfl,a4,a3⟩
         go_wp2
         refine⟨⟨2*k+1+1,swp q k (2*k+1+1),rfl,by omega,by rw[qB4];exact a8.out,Z.out,a4,N.trans a3⟩,?_⟩
         simp[intOf];omega
    · have n3:¬2*(k:Int)+1+1<(n:Int):=by omega
      have J:kid a.last q k n=2*k+1:=by
       unfold kid
       rw[if_neg]
       rw[Bool.and_eq_true];rintro⟨h,_⟩;exact h2 (of_decide_eq_true h)
      have O:2*k+1<q.length:=by have:=a0.out;omega
      have F:k<q.length:=by have:=a0.out;omega
      have I:=qFm a.last q k n (2*k+1) a7 J
      have V:=qh I
      clear I
      obtain⟨B2,l⟩:∃B,B=qET a.last (q[2*k+1]?.getD 0) (q[k]?.getD 0):=⟨_,rfl⟩
      have a5:Calls prog 211 #[.pointer (some ⟨Q,0,none⟩),.int .i64 (2*(k:Int)+1),.int .i64 ((k:Int))] wr fun e w'=>e= .returned (.bool B2)∧qA4 wr w':=qIc A Q g cap (a.setq q) wr hX (2*k+1) (k) O F B2 l
      have a1:=qh l
      clear l
      go_wp2_with fail
      refine a5.mono ?_
      rintro e w3 ⟨rfl,Y⟩
      have G:=hX.kept Y
      have N:=hc.trans (Chg.of_kept (bs:=[g]) Y)
      cases B2
      · have c:qB9 a.last a.q i0 n=(q,k):=by rw[←a2.out,V.out,if_neg (by rw[←a1.out];simp)]
        have j:=qh c
        clear c
        go_wp2
        go_ret
        rw[j.out]
        exact⟨rfl,G,N⟩
      · have f:qB9 a.last (swp q k (2*k+1)) (2*k+1) n=qB9 a.last a.q i0 n:=by rw[←a2.out,V.out,if_pos a1.out.symm]
        have Z:=qh f
        clear f
        have CS:Calls prog 214 #[.pointer (some ⟨Q,0,none⟩),.int .i64 (k:Int),.int .i64 (2*(k:Int)+1)] w3 fun e w'=>e= .returned (.tuple #[])∧qEl w' A Q g cap (a.setq (swp q k (2*k+1)))∧Chg [g] w3 w':=
         qDF A Q g cap (a.setq q) w3 G k (2*k+1) F O
        go_wp2_with fail
        refine CS.mono ?_
        rintro e w4 ⟨rfl,a4,a3⟩
        go_wp2
        refine⟨⟨2*k+1,swp q k (2*k+1),rfl,by omega,by rw[qB4];exact a8.out,Z.out,a4,N.trans a3⟩,?_⟩
        simp[intOf];omega
  · have n1:(n:Int)≤2*(k:Int)+1:=by omega
    have c:qB9 a.last a.q i0 n=(q,k):=by rw[←a2.out,qMk _ _ _ _ a7]
    have j:=qh c
    clear c
    go_wp2
    go_ret
    rw[j.out]
    exact⟨rfl,hX,hc⟩
end Go.Proofs.YtdlgihbpiakebaaGreat
