import Derived.Test.YtdlgihbpiakebaaGreatMk02
import Derived.Orders
set_option maxRecDepth 100000
set_option maxHeartbeats 4000000
namespace Go.Proofs.YtdlgihbpiakebaaGreat
open Go Go.RowKit
def waits (ops:Array Oper)(t j:Nat):Bool:=
 match ops[t]? with
 | some o=>o.after.any fun e=>Region.binds .any e&&e.on==j
 | none=>false
theorem qHD {ops:Array Oper}{t j:Nat}{o:Oper}(ho:ops[t]? = some o)(h:waits ops t j=true):∃e∈o.after,Region.binds .any e=true∧e.on=j:=by
 unfold waits at h
 rw[ho]at h
 obtain⟨e,f,c⟩:=Array.any_eq_true'.1 h
 simp only[Bool.and_eq_true,beq_iff_eq]at c
 exact⟨e,f,c.1,c.2⟩
def qBp (ops:Array Oper)(i:Nat):Option Tmp:=(ops[i]?).bind (·.dst)
def qAQ (ops:Array Oper)(a:Act)(x:Nat→Value):Nat→Act
 | 0=>a
 | n+1=>(qAQ ops a x n).put (qBp ops n) (x n)
def qMR (ops:Array Oper)(n:Nat):Bool:=
 decide (n≤ops.size) &&
 ((List.range ops.size).all fun t=>decide (t<n)||(List.range t).all fun j=>waits ops t j) &&
 ((List.range n).all fun i=>(List.range i).all fun j=>qBp ops i==none||qBp ops j==none|| !(qBp ops i==qBp ops j)) &&
 ((List.range ops.size).all fun i=>match ops[i]? with|some o=>o.after.all fun e=>!Region.binds .any e||decide (e.on<i)|none=>true)
theorem qQA (a:Act)(d:Option Tmp)(u v:Value):(a.put d u).put d v=a.put d v:=by
 cases d with
 | none=>rfl
 | some d=>simp[Act.put,Array.setIfInBounds_setIfInBounds]
theorem qOV (a:Act)(d d':Option Tmp)(u v:Value)(h:d=none∨d'=none∨d≠d'):(a.put d u).put d' v=(a.put d' v).put d u:=by
 cases d with
 | none=>rfl
 | some d =>
  cases d' with
  | none=>rfl
  | some d' =>
   rcases h with h|h|h
   · cases h
   · cases h
   · have:d≠d':=fun e=>h (by rw[e])
     simp[Act.put,Array.setIfInBounds_comm _ _ this]
theorem qGX {ops:Array Oper}{a:Act}{x:Nat→Value}{v:Value}{i:Nat}:∀ {n:Nat},(∀k,k<n→∀j,j<k→qBp ops k=none∨qBp ops j=none∨qBp ops k≠qBp ops j)→i<n →
 (qAQ ops a x n).put (qBp ops i) v=qAQ ops a (fun j=>if j=i then v else x j) n
 | 0,_,h=>absurd h (by omega)
 | n+1,hd,h=>by
  have same:∀m,m≤i→qAQ ops a (fun j=>if j=i then v else x j) m=qAQ ops a x m:=by
   intro m
   induction m with
   | zero=>intro _;rfl
   | succ m ih=>intro c;simp only[qAQ];rw[ih (by omega),if_neg (by omega)]
  simp only[qAQ]
  by_cases e:i=n
  · subst e
    rw[qQA,same i qle,if_pos rfl]
  · rw[if_neg (by omega),←qGX (fun k f=>hd k (by omega)) (by omega)]
    refine qOV _ _ _ _ _ ?_
    exact hd n (by omega) i (by omega)
theorem qOW (a:Act)(d:Option Tmp):a.put d (match d with|some d=>a.tmps.getD d undef|none=>undef)=a:=by
 cases d with
 | none=>rfl
 | some d =>
  simp only[Act.put]
  have:a.tmps.setIfInBounds d (a.tmps.getD d undef)=a.tmps:=by
   apply Array.ext
   · simp
   · intro j f c
     rw[Array.getElem_setIfInBounds]
     split
     · rename_i e;subst e;simp[Array.getD,c]
     · rfl
  rw[this]
theorem qJJ (ops:Array Oper)(a:Act)(n:Nat):qAQ ops a (fun i=>match qBp ops i with|some d=>a.tmps.getD d undef|none=>undef) n=a:=by
 induction n with
 | zero=>rfl
 | succ n ih=>simp only[qAQ];rw[ih];exact qOW a _
section
variable {P:Program} {ops:Array Oper} {Q:Exit→Act→World→Prop} {a:Act} {w:World} {n:Nat} {A:Nat→Value→World→Prop}
def qMS (P:Program)(ops:Array Oper)(Q:Exit→Act→World→Prop)(a:Act)(w:World)(n:Nat)(A:Nat→Value→World→Prop)(i:Nat)(o:Oper):Prop:=
 ∀(x:Nat→Value) (w':World),qA4 w w'→(∀j,waits ops i j=true→A j (x j) w') →
  ∀K:Act→World→Prop,(∀v w'',qA4 w w''→(∀j,j<n→j≠i→A j (x j) w'→A j (x j) w'')→A i v w''→K ((qAQ ops a x n).put o.dst v) w'') →
   if Region.wanted o (yielded ops (qAQ ops a x n).tmps) then o.wp P (qAQ ops a x n) w' K Q else K ((qAQ ops a x n).put o.dst undef) w'
def qRU (P:Program)(ops:Array Oper)(Q:Exit→Act→World→Prop)(a:Act)(w:World)(n:Nat)(A:Nat→Value→World→Prop)(i:Nat)(o:Oper):Prop:=
 ∀(x:Nat→Value) (w':World),qA4 w w'→(∀j,waits ops i j=true→A j (x j) w') →
  ∀K:Act→World→Prop,(∀v w'',qA4 w' w''→A i v w''→K ((qAQ ops a x n).put o.dst v) w'') →
   if Region.wanted o (yielded ops (qAQ ops a x n).tmps) then o.wp P (qAQ ops a x n) w' K Q else K ((qAQ ops a x n).put o.dst undef) w'
theorem qLG (hT:∀t,n≤t→t<ops.size→∀j,j<t→waits ops t j=true)(hE:∀i o,ops[i]? = some o→∀e∈o.after,Region.binds .any e=true→e.on<i) :
 ∀(d t:Nat) (c:Array Bool) (a:Act) (w:World),ops.size - t=d→n≤t→t≤ops.size→c.size=ops.size→(∀j,j<ops.size→c.getD j false=decide (j<t)) →
  wpList P ops Q (ops.toList.drop t) a w→wpAny P .any ops Q d c a w:=by
 intro d
 induction d with
 | zero =>
  intro t c a w hd hn ht q hl h
  have hr:Region.ready .any ops c= []:=by
   apply List.eq_nil_iff_forall_not_mem.2
   intro j J
   obtain⟨I,o,V,_⟩:=mem_ready.1 J
   have l:j<ops.size:=(Array.getElem?_eq_some_iff.1 V).1
   have h1:=hl j l
   rw[decide_eq_true (by omega:j<t)]at h1
   have:c.getD j true=c.getD j false:=by simp[q,l]
   rw[this,h1]at I;cases I
  have e:ops.toList.drop t= []:=List.drop_of_length_le (by simp;omega)
  rw[e]at h
  exact⟨hr,h⟩
 | succ d ih =>
  intro t c a w hd hn ht q hl h
  have f:t<ops.size:=by omega
  have e:ops.toList.drop t=ops[t]::ops.toList.drop (t+1):=by
   rw[List.drop_eq_getElem_cons (by simpa using f)];simp
  rw[e]at h
  have get:∀j,j<ops.size→c.getD j true=decide (j<t):=by
   intro j J
   rw[←hl j J];simp[q,J]
  have G:ops[t]? = some ops[t]:=by simp[f]
  have F:t∈Region.ready .any ops c:=by
   refine mem_ready.2 ⟨by rw[get t f];simp,ops[t],G,?_⟩
   intro x hx hb
   have:=hE t _ G x hx hb
   rw[hl _ (by omega)];simp[this]
  have only:∀i∈Region.ready .any ops c,i=t:=by
   intro i hi
   obtain⟨I,o,V,O⟩:=mem_ready.1 hi
   have l:i<ops.size:=(Array.getElem?_eq_some_iff.1 V).1
   rw[get i l]at I
   have a1:¬i<t:=by simpa using I
   by_cases a0:i=t
   · exact a0
   · obtain⟨e,he,hb,hon⟩:=qHD V (hT i (by omega) l t (by omega))
     have:=O e he hb
     rw[hon,hl t f]at this
     simp at this
  refine⟨fun I=>(by rw[I]at F;cases F),fun i hi=>?_⟩
  obtain rfl:=only i hi
  have step:∀Y w',wpList P ops Q (ops.toList.drop (i+1)) Y w'→wpAny P .any ops Q d (c.setIfInBounds i true) Y w':=by
   intro Y w' h'
   refine ih (i+1) _ Y w' (by omega) (by omega) (by omega) (by simp[q]) ?_ h'
   intro j J
   by_cases N:i=j
   · subst N;simp[q,f]
   · rw[getD_set_ne false N,hl j J,decide_eq_decide];omega
  unfold wpOp
  rw[G]
  unfold wpList at h
  simp only[]
  split
  · rename_i Z
    rw[if_pos Z]at h
    exact h.imp (Oper.wp_mono step) id
  · rename_i Z
    rw[if_neg Z]at h
    exact step _ _ h
theorem qLH (hn:n≤ops.size)(hT:∀t,n≤t→t<ops.size→∀j,j<t→waits ops t j=true)(hE:∀i o,ops[i]? = some o→∀e∈o.after,Region.binds .any e=true→e.on<i)
 (hD:∀k,k<n→∀j,j<k→qBp ops k=none∨qBp ops j=none∨qBp ops k≠qBp ops j)
 (hop:∀i o,i<n→ops[i]? = some o→qMS P ops Q a w n A i o)
 (htail:∀x w',qA4 w w'→(∀i,i<n→A i (x i) w')→wpList P ops Q (ops.toList.drop n) (qAQ ops a x n) w') :
 ∀(d:Nat) (c:Array Bool) (x:Nat→Value) (w':World),(List.range n).countP (fun i=>!c.getD i false)=d→c.size=ops.size→(∀j,n≤j→j<ops.size→c.getD j false=false) →
  qA4 w w'→(∀i,i<n→c.getD i false=true→A i (x i) w')→wpAny P .any ops Q (d+(ops.size - n)) c (qAQ ops a x n) w':=by
 intro d
 induction d with
 | zero =>
  intro c x w' hd G Y hk hA
  have l:∀i,i<n→c.getD i false=true:=by
   intro i hi
   have:=List.countP_eq_zero.1 hd i (List.mem_range.2 hi)
   simpa using this
  rw[Nat.zero_add]
  refine qLG hT hE (ops.size - n) n c _ w' rfl qle hn G ?_ (htail x w' hk fun i hi=>hA i hi (l i hi))
  intro j q
  by_cases Z:j<n
  · rw[l j Z,decide_eq_true Z]
  · rw[Y j (by omega) q,decide_eq_false Z]
 | succ d ih =>
  intro c x w' hd G Y hk hA
  rw[show d+1+(ops.size - n)=(d+(ops.size - n))+1 by omega]
  have same:∀j,j<ops.size→c.getD j true=c.getD j false:=by
   intro j q;simp[G,q]
  obtain⟨m,hm,a5,a6⟩:∃m,m<n∧c.getD m false=false∧∀j,j<m→c.getD j false=true:=by
   have b8:∃m,m<n∧c.getD m false=false:=by
    have a8:0<(List.range n).countP (fun i=>!c.getD i false):=by omega
    obtain⟨m,hm,b5⟩:=List.countP_pos_iff.1 a8
    exact⟨m,List.mem_range.1 hm,by simpa using b5⟩
   obtain⟨m0,a9,b6⟩:=b8
   have:∀b m,m≤b→m<n→c.getD m false=false→∃m,m<n∧c.getD m false=false∧∀j,j<m→c.getD j false=true:=by
    intro b
    induction b with
    | zero=>intro m V a1 a0;exact⟨m,a1,a0,fun j q=>by omega⟩
    | succ b ihb =>
     intro m V a1 a0
     by_cases hc:∃j,j<m∧c.getD j false=false
     · obtain⟨j,q,b3⟩:=hc
       exact ihb j (by omega) (by omega) b3
     · refine⟨m,a1,a0,fun j q=>?_⟩
       cases hl:c.getD j false with
       | true=>rfl
       | false=>exact absurd ⟨j,q,hl⟩ hc
   exact this m0 m0 qle a9 b6
  have I:m<ops.size:=by omega
  have O:m∈Region.ready .any ops c:=by
   refine mem_ready.2 ⟨by rw[same m I];exact a5,ops[m],by simp[I],?_⟩
   intro e he V
   exact a6 _ (hE m _ (by simp[I]) e he V)
  refine⟨fun h0=>(by rw[h0]at O;cases O),fun i hi=>?_⟩
  obtain⟨h0,o,ho,l⟩:=mem_ready.1 hi
  have F:i<ops.size:=(Array.getElem?_eq_some_iff.1 ho).1
  have b9:c.getD i false=false:=by rw[←same i F];exact h0
  have a2:i<n:=by
   by_cases h:i<n
   · exact h
   · obtain⟨e,he,V,hon⟩:=qHD ho (hT i (by omega) F m (by omega))
     have:=l e he V
     rw[hon,a5]at this;cases this
  have a4:∀j,waits ops i j=true→A j (x j) w':=by
   intro j q
   obtain⟨e,he,V,hon⟩:=qHD ho q
   have h1:=l e he V
   have h2:=hE i o ho e he V
   rw[hon]at h1 h2
   exact hA j (by omega) h1
  have J:(List.range n).countP (fun j=>!(c.setIfInBounds i true).getD j false)=d:=by
   have key:∀m,m≤n→(List.range m).countP (fun j=>!(c.setIfInBounds i true).getD j false)+(if i<m then 1 else 0)=(List.range m).countP (fun j=>!c.getD j false):=by
    intro m
    induction m with
    | zero=>intro _;simp
    | succ m ihm =>
     intro hm
     rw[List.range_succ,List.countP_append,List.countP_append]
     have:=ihm (by omega)
     by_cases a7:i=m
     · subst a7
       have e1:(c.setIfInBounds i true).getD i false=true:=by simp[G,F]
       simp only[List.countP_cons,List.countP_nil,e1,b9]at this ⊢
       simp at this ⊢
       omega
     · have e1:(c.setIfInBounds i true).getD m false=c.getD m false:=getD_set_ne false a7
       simp only[List.countP_cons,List.countP_nil,e1]
       by_cases h:i<m
       · rw[if_pos h]at this;rw[if_pos (by omega:i<m+1)];omega
       · rw[if_neg h]at this;rw[if_neg (by omega:¬i<m+1)];omega
   have:=key n qle
   rw[if_pos a2,hd]at this
   omega
  have step:∀v w'',qA4 w w''→(∀j,j<n→j≠i→A j (x j) w'→A j (x j) w'')→A i v w''→wpAny P .any ops Q (d+(ops.size - n)) (c.setIfInBounds i true) ((qAQ ops a x n).put o.dst v) w'':=by
   intro v w'' b4 a3 hv
   have ed:o.dst=qBp ops i:=by unfold qBp;rw[ho];rfl
   rw[ed,qGX hD a2]
   refine ih (c.setIfInBounds i true) _ w'' J (by simp[G]) ?_ b4 ?_
   · intro j q b7
     rw[getD_set_ne false (by omega)];exact Y j q b7
   · intro j q hl
     by_cases N:j=i
     · subst N;rw[if_pos rfl];exact hv
     · rw[if_neg N]
       rw[getD_set_ne false (fun e=>N e.symm)]at hl
       exact a3 j q N (hA j q hl)
  have f:=hop i o a2 ho x w' hk a4 _ step
  unfold wpOp
  rw[ho]
  simp only[]
  split
  · rename_i hw;rw[if_pos hw]at f;exact .inl f
  · rename_i hw;rw[if_neg hw]at f;exact f
theorem qDk {id:Nat}(n:Nat)(A:Nat→Value→World→Prop)(hm:P.follows .mixedOrders=true)(hB:qMR ops n=true)
 (hop:∀i o,i<n→ops[i]? = some o→qMS P ops Q a w n A i o)
 (htail:∀x w',qA4 w w'→(∀i,i<n→A i (x i) w')→wpList P ops Q (ops.toList.drop n) (qAQ ops a x n) w'):(Code.region id ops true).wp P Q a w:=by
 unfold qMR at hB
 simp only[Bool.and_eq_true,decide_eq_true_eq,List.all_eq_true,List.mem_range,Bool.or_eq_true]at hB
 obtain⟨⟨⟨hn,I⟩,Y⟩,h3⟩:=hB
 have G:∀t,n≤t→t<ops.size→∀j,j<t→waits ops t j=true:=by
  intro t ht q j c
  rcases I t q with h|h
  · omega
  · exact h j c
 have V:∀k,k<n→∀j,j<k→qBp ops k=none∨qBp ops j=none∨qBp ops k≠qBp ops j:=by
  intro k O j c
  rcases Y k O j c with (h|h)|h
  · exact .inl (by simpa using h)
  · exact .inr (.inl (by simpa using h))
  · exact .inr (.inr (by simpa using h))
 have hE:∀i o,ops[i]? = some o→∀e∈o.after,Region.binds .any e=true→e.on<i:=by
  intro i o F e N Z
  have l:i<ops.size:=(Array.getElem?_eq_some_iff.1 F).1
  have:=h3 i l
  rw[F]at this
  have:=Array.all_eq_true_iff_forall_mem.1 this e N
  simp only[Z,Bool.not_true,Bool.false_or,decide_eq_true_eq]at this
  exact this
 refine wp_region_any hm ?_
 have f:∀j,(Array.replicate ops.size false).getD j false=false:=by
  intro j
  by_cases h:j<ops.size<;>simp[h]
 have J:(List.range n).countP (fun i=>!(Array.replicate ops.size false).getD i false)=n:=by
  have:(List.range n).countP (fun i=>!(Array.replicate ops.size false).getD i false)=(List.range n).length:=by
   rw[List.countP_eq_length];intro i _;rw[f];rfl
  rw[this];simp
 have:=qLH (A:=A) hn G hE V hop htail n (Array.replicate ops.size false) (fun i=>match qBp ops i with|some d=>a.tmps.getD d undef|none=>undef) { w with drawn:=w.drawn+1 } J (by simp)
  (fun j _ _=>f j) (qA4.drawn w) (fun i _ h=>by rw[f]at h;cases h)
 rw[qJJ,show n+(ops.size - n)=ops.size by omega]at this
 exact this
theorem qG0 {id:Nat}(n:Nat)(A:Nat→Value→World→Prop)(hm:P.follows .mixedOrders=true)(hB:qMR ops n=true)
 (hst:∀i v w' w'',A i v w'→qA4 w' w''→A i v w'')
 (hop:∀i o,i<n→ops[i]? = some o→qRU P ops Q a w n A i o)
 (htail:∀x w',qA4 w w'→(∀i,i<n→A i (x i) w')→wpList P ops Q (ops.toList.drop n) (qAQ ops a x n) w'):(Code.region id ops true).wp P Q a w:=
 qDk n A hm hB (fun i o G F x w' f c K I=>hop i o G F x w' f c K fun v w'' l q=>I v w'' (f.of l) (fun j _ _ h=>hst j _ _ _ h l) q) htail
end
end Go.Proofs.YtdlgihbpiakebaaGreat
