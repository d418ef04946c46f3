import Derived.Test.YtdlgihbpiakebaaGreatMk03
import Derived.Still
set_option maxRecDepth 100000
set_option maxHeartbeats 4000000
namespace Go.Proofs.YtdlgihbpiakebaaGreat
open Go Go.RowKit
def qBK:Exit→Act→World→Prop:=fun _ _ _=>False
theorem qIw {P:Program}{o:Oper}{a:Act}{w:World}{K:Act→World→Prop}{Q:Exit→Act→World→Prop}(h:o.wp P a w K qBK):o.wp P a w K Q:=by
 unfold Oper.wp at *
 generalize (execOp a.eval o).run P w=r at *
 cases r with
 | ok n w' =>
  cases n<;>simp only[Oper.upon]at h ⊢ <;>
   first
    | exact h
    | exact Calls.mono h (fun e w'' c=>by
     match e,c with
     | .returned _,c=>exact c
     | .panicked _,c=>exact absurd c id
     | .outgrown,c=>exact absurd c (fun ⟨_,_,h⟩=>h))
 | halt x w'=>cases x<;>simp only[Oper.upon]at h ⊢ <;> first|exact h|exact absurd h id
section
variable {P:Program} {ops:Array Oper} {R:World→World→Prop} {Q:Exit→Act→World→Prop} {md:Region.Mode}
def qCP (P:Program)(ops:Array Oper)(R:World→World→Prop)(o:Oper)(v:Value)(a:Act)(w:World):Prop:=
 (Region.wanted o (yielded ops a.tmps)=true∧∀w',R w w'→(execOp a.eval o).run P w'= .ok (.value v) w'∨((execOp a.eval o).run P w'= .ok .skip w'∧v=undef)) ∨
 (Region.wanted o (yielded ops a.tmps)=false∧v=undef)
def qRV (md:Region.Mode)(ops:Array Oper)(lt:Nat→Bool)(i:Nat):Prop:=∀o,ops[i]? = some o→∀j,lt j=true→∃e∈o.after,Region.binds md e=true∧e.on=j
def qLI (md:Region.Mode)(ops:Array Oper)(L:List (Nat×Nat))(i:Nat):Bool:=
 match ops[i]? with
 | some o=>L.all fun (j,k)=>k != 0||o.after.any fun e=>Region.binds md e&&e.on==j
 | none=>true
def qHE (L:List (Nat×Nat))(i:Nat):Bool:=L.any fun (j,k)=>j==i&&k==0
theorem qJK {L:List (Nat×Nat)}{i:Nat}(h:qLI md ops L i=true):qRV md ops (qHE L) i:=by
 intro o f j l
 unfold qLI at h
 rw[f]at h
 obtain⟨⟨G,k⟩,F,hp⟩:=List.any_eq_true.1 l
 simp only[Bool.and_eq_true,beq_iff_eq]at hp
 have:=List.all_eq_true.1 h _ F
 simp only[hp.1,hp.2,bne_self_eq_false,Bool.false_or]at this
 obtain⟨e,q,c⟩:=Array.any_eq_true'.1 this
 simp only[Bool.and_eq_true,beq_iff_eq]at c
 exact⟨e,q,c.1,c.2⟩
def qAR (P:Program)(ops:Array Oper)(R:World→World→Prop)(Q:Exit→Act→World→Prop):List (Nat×Nat)→Act→World→Prop
 | [],a,w=>Q .normal a w
 | (i,0)::rest,a,w=>∃o v,ops[i]? = some o∧qCP P ops R o v a w∧qAR P ops R Q rest (a.put o.dst v) w
 | (i,1)::rest,a,w=>∃o,ops[i]? = some o∧if Region.wanted o (yielded ops a.tmps) then o.wp P a w (fun a' w'=>R w w'∧qAR P ops R Q rest a' w') qBK else qAR P ops R Q rest (a.put o.dst undef) w
 | (i,_)::rest,a,w=>∃o,ops[i]? = some o∧if Region.wanted o (yielded ops a.tmps) then o.wp P a w (qAR P ops R Q rest) qBK else qAR P ops R Q rest (a.put o.dst undef) w
def qCk (md:Region.Mode)(ops:Array Oper)(L:List (Nat×Nat)):List (Nat×Nat)→Array Bool→Bool
 | [],listed=>(Region.ready md ops listed).isEmpty
 | (i,0)::rest,listed=>(Region.ready md ops listed).contains i&&Region.free md ops listed i&&L.contains (i,0)&&qCk md ops L rest (listed.setIfInBounds i true)
 | (i,1)::rest,listed=>decide (Region.ready md ops listed= [i])&&qCk md ops L rest (listed.setIfInBounds i true)
 | (i,_)::rest,listed=>decide (Region.ready md ops listed= [i])&&qLI md ops L i&&qCk md ops L rest (listed.setIfInBounds i true)
def qCl (P:Program)(md:Region.Mode)(ops:Array Oper)(R:World→World→Prop)(lt:Nat→Bool)(Q:Exit→Act→World→Prop):Nat→Array Bool→Act→World→Prop
 | 0,listed,a,w=>Region.ready md ops listed= []∧Q .normal a w
 | fuel+1,listed,a,w =>
  (Region.ready md ops listed= []→Q .normal a w) ∧
  ∀i∈Region.ready md ops listed,∃o,ops[i]? = some o ∧
   if Region.wanted o (yielded ops a.tmps) then o.wp P a w (fun a' w'=>(¬qRV md ops lt i→R w w')∧qCl P md ops R lt Q fuel (listed.setIfInBounds i true) a' w') qBK
   else qCl P md ops R lt Q fuel (listed.setIfInBounds i true) (a.put o.dst undef) w
theorem qDK {lt:Nat→Bool}:∀(fuel:Nat) (listed:Array Bool) (a:Act) (w:World),qCl P md ops R lt Q fuel listed a w→wpAny P md ops Q fuel listed a w
 | 0,_,_,_,h=>h
 | fuel+1,_,_,_,h=>⟨h.1,fun i l=>by
  obtain⟨o,j,c⟩:=h.2 i l
  unfold wpOp
  simp only[j]
  split
  · rename_i f;rw[if_pos f]at c
    exact .inl (qIw (Oper.wp_mono (fun a' w' ⟨_,h⟩=>qDK fuel _ a' w' h) c))
  · rename_i f;rw[if_neg f]at c
    exact qDK fuel _ _ _ c⟩
theorem qCP.later {o:Oper}{v:Value}{a:Act}{w w':World}(ht:∀a b c:World,R a b→R b c→R a c)(h:qCP P ops R o v a w)(hr:R w w'):qCP P ops R o v a w':=by
 rcases h with ⟨h1,h2⟩|h
 · exact .inl ⟨h1,fun w'' f=>h2 w'' (ht _ _ _ hr f)⟩
 · exact .inr h
theorem qCP.of_same {o:Oper}{v:Value}{a a':Act}{w:World}(hy:qCP P ops R o v a w)(he:execOp a'.eval o=execOp a.eval o)
 (hw:Region.wanted o (yielded ops a'.tmps)=Region.wanted o (yielded ops a.tmps)):qCP P ops R o v a' w:=by
 unfold qCP at *
 rw[he,hw]
 exact hy
theorem qFy {lt:Nat→Bool}{i:Nat}{oi:Oper}{v:Value}(hi:ops[i]? = some oi)(hli:lt i=true)(hsel:∀(j:Nat) (o:Oper) cs b,ops[j]? = some o→o.op≠ .select cs b)(hr0:∀w:World,R w w)(ht:∀a b c:World,R a b→R b c→R a c) :
 ∀(q:Nat) (l:Array Bool) (a:Act) (w:World),
  (∀j I,ops[j]? = some I→j≠i→l.getD j true=false→(∀e∈I.after,Region.binds md e=true→e.on≠i)→oi.apart ops I=true) →
  i∈Region.ready md ops l→qCP P ops R oi v a w →
  qCl P md ops R lt Q q (l.setIfInBounds i true) (a.put oi.dst v) w→qCl P md ops R lt Q (q+1) l a w:=by
 have a5:∀(q:Nat) (l:Array Bool) (a:Act) (w:World),qCP P ops R oi v a w→qCl P md ops R lt Q q (l.setIfInBounds i true) (a.put oi.dst v) w →
  ∃o,ops[i]? = some o∧if Region.wanted o (yielded ops a.tmps) then o.wp P a w (fun a' w'=>(¬qRV md ops lt i→R w w')∧qCl P md ops R lt Q q (l.setIfInBounds i true) a' w') qBK
   else qCl P md ops R lt Q q (l.setIfInBounds i true) (a.put o.dst undef) w:=by
  intro q l a w Z H
  refine⟨oi,hi,?_⟩
  rcases Z with ⟨hw,hv⟩|⟨hw,rfl⟩
  · rw[if_pos hw]
    unfold Oper.wp
    rcases hv w (hr0 w) with e|⟨e,rfl⟩
    · rw[e];exact⟨fun _=>hr0 w,H⟩
    · rw[e];exact⟨fun _=>hr0 w,H⟩
  · rw[if_neg (by rw[hw];simp)];exact H
 intro q
 induction q with
 | zero =>
  intro l a w _ hr Z H
  refine⟨fun h=>(by rw[h]at hr;cases hr),fun j hj=>?_⟩
  by_cases G:j=i
  · subst G;exact a5 0 l a w Z H
  · have:=ready_mono hj G
    rw[H.1]at this
    cases this
 | succ q ih =>
  intro l a w V hr Z H
  refine⟨fun h=>(by rw[h]at hr;cases hr),fun j hj=>?_⟩
  by_cases G:j=i
  · subst G;exact a5 (q+1) l a w Z H
  · obtain⟨I,Y,F⟩:=H.2 j (ready_mono hj G)
    obtain⟨a0,b7,a7,a9⟩:=mem_ready.1 hj
    have a4:∀e∈I.after,Region.binds md e=true→e.on≠i:=fun e N hb b6=>by
     have e1:b7=I:=Option.some.inj (a7.symm.trans Y)
     subst e1
     have F:=a9 e N hb
     have h0:=(mem_ready.1 hr).1
     rw[b6]at F
     rcases Nat.lt_or_ge i l.size with h'|h'
     · simp[h']at h0 F;rw[h0]at F;cases F
     · simp[Array.getElem?_eq_none h']at F
    have b5:=V j I Y G a0 a4
    have O:¬qRV md ops lt j:=fun hE=>by
     obtain⟨e,N,hb,hon⟩:=hE I Y i hli
     exact a4 e N hb hon
    obtain⟨a1,a2,a3⟩:=Oper.apart_spec b5
    have J:∀k ok,ops[k]? = some ok→k≠i→(l.setIfInBounds j true).getD k true=false →
     (∀e∈ok.after,Region.binds md e=true→e.on≠i)→oi.apart ops ok=true:=fun k ok hk c1 b3 b4=>by
     refine V k ok hk c1 ?_ b4
     by_cases a8:j=k
     · subst a8;exact a0
     · rw[getD_set_ne true a8]at b3;exact b3
    have b8:=fun cs b=>hsel i oi cs b hi
    have b9:=fun cs b=>hsel j I cs b Y
    have keep:∀(a:Act) (w:World),qCP P ops R oi v a w→∀u,qCP P ops R oi v (a.put I.dst u) w:=fun a w Z u =>
     Z.of_same (execOp_put oi b8 a I.dst u a3) (wanted_put oi a I.dst u a3)
    have go:∀(u:Value) (w':World),R w w'→qCl P md ops R lt Q q ((l.setIfInBounds i true).setIfInBounds j true) ((a.put oi.dst v).put I.dst u) w' →
     qCl P md ops R lt Q (q+1) (l.setIfInBounds j true) (a.put I.dst u) w':=by
     intro u w' c0 h3
     refine ih (l.setIfInBounds j true) _ w' J (ready_mono hr (Ne.symm G)) ((keep a w Z u).later ht c0) ?_
     rw[Array.setIfInBounds_comm _ _ G,←Act.put_comm a v u a2]
     exact h3
    refine⟨I,Y,?_⟩
    rw[wanted_put I a oi.dst v a1]at F
    split
    · rename_i hw
      rw[if_pos hw]at F
      unfold Oper.wp at *
      rw[execOp_put I b9 a oi.dst v a1]at F
      generalize (execOp a.eval I).run P w=r at *
      cases r with
      | ok n w' =>
       cases n<;>simp only[Oper.upon]at F ⊢
       case value u=>exact⟨F.1,go u w' (F.1 O) F.2⟩
       case skip=>exact⟨F.1,go undef w' (F.1 O) F.2⟩
       case defer d =>
        have a6:qCP P ops R oi v { a with defers:=d::a.defers } w:=Z.of_same rfl rfl
        refine⟨F.1,?_⟩
        refine ih (l.setIfInBounds j true) _ w' J (ready_mono hr (Ne.symm G)) ((keep _ w a6 undef).later ht (F.1 O)) ?_
        rw[Array.setIfInBounds_comm _ _ G,←Act.put_comm _ v undef a2,←Act.put_defers]
        exact F.2
       case enter f args =>
        refine Calls.mono F fun e w'' N=>?_
        cases e with
        | returned u=>exact⟨N.1,go u w'' (N.1 O) N.2⟩
        | panicked c=>exact N
        | outgrown=>exact N
       case row row args=>exact Rows.mono F fun u w'' N=>⟨N.1,go u w'' (N.1 O) N.2⟩
      | halt x w' =>
       cases x<;>simp only[Oper.upon]at F ⊢
       case panic u=>exact F
    · rename_i hw
      rw[if_neg hw]at F
      exact go undef w (hr0 w) F
theorem qE8 {L:List (Nat×Nat)}{i:Nat}(h:L.contains (i,0)=true):qHE L i=true:=
 List.any_eq_true.2 ⟨(i,0),by simpa using h,by simp⟩
theorem qBC {L:List (Nat×Nat)}(hs:Region.noSelect ops=true)(hr0:∀w:World,R w w)(ht:∀a b c:World,R a b→R b c→R a c):∀(l:List (Nat×Nat)) (listed:Array Bool) (a:Act) (w:World),
 qCk md ops L l listed=true→qAR P ops R Q l a w→qCl P md ops R (qHE L) Q l.length listed a w
 | [],listed,a,w,hB,h=>⟨by simpa [qCk] using hB,h⟩
 | (i,0)::l,listed,a,w,hB,h=>by
  simp only[qCk,Bool.and_eq_true]at hB
  obtain⟨⟨⟨hr,hf⟩,hL⟩,N⟩:=hB
  obtain⟨o,v,G,Z,f⟩:=h
  exact qFy G (qE8 hL) (Region.noSelect_spec hs) hr0 ht l.length listed a w (Region.free_spec G hf) (by simpa using hr) Z (qBC hs hr0 ht l _ _ w N f)
 | (i,1)::l,listed,a,w,hB,h=>by
  simp only[qCk,Bool.and_eq_true,decide_eq_true_eq]at hB
  obtain⟨o,G,f⟩:=h
  refine⟨fun O=>(by rw[O]at hB;cases hB.1),fun j I=>?_⟩
  rw[hB.1,List.mem_singleton]at I
  subst I
  refine⟨o,G,?_⟩
  split
  · rename_i q;rw[if_pos q]at f
    exact Oper.wp_mono (fun V w' ⟨h2,Y⟩=>⟨fun _=>h2,qBC hs hr0 ht l _ V w' hB.2 Y⟩) f
  · rename_i q;rw[if_neg q]at f
    exact qBC hs hr0 ht l _ _ w hB.2 f
 | (i,n+2)::l,listed,a,w,hB,h=>by
  simp only[qCk,Bool.and_eq_true,decide_eq_true_eq]at hB
  obtain⟨⟨F,hE⟩,J⟩:=hB
  obtain⟨o,G,f⟩:=h
  refine⟨fun O=>(by rw[O]at F;cases F),fun j I=>?_⟩
  rw[F,List.mem_singleton]at I
  subst I
  refine⟨o,G,?_⟩
  split
  · rename_i q;rw[if_pos q]at f
    exact Oper.wp_mono (fun V w' Y=>⟨fun hn=>absurd (qJK hE) hn,qBC hs hr0 ht l _ V w' J Y⟩) f
  · rename_i q;rw[if_neg q]at f
    exact qBC hs hr0 ht l _ _ w J f
theorem qBc {id:Nat}{a:Act}{w:World}(R:World→World→Prop)(l:List (Nat×Nat))(hm:P.follows .mixedOrders=true)
 (hB:(Region.noSelect ops&&decide (l.length=ops.size)&&qCk .any ops l l (Array.replicate ops.size false))=true)
 (hr0:∀w:World,R w w) (ht:∀a b c:World,R a b→R b c→R a c)
 (h:qAR P ops R Q l a { w with drawn:=w.drawn+1 }):(Code.region id ops true).wp P Q a w:=by
 simp only[Bool.and_eq_true,decide_eq_true_eq]at hB
 refine wp_region_any hm ?_
 rw[←hB.1.2]
 exact qDK _ _ _ _ (qBC hB.1.1 hr0 ht l _ a _ (by rw[hB.1.2];exact hB.2) h)
theorem qA3 {id:Nat}{a:Act}{w:World}(l:List (Nat×Nat))(hm:P.follows .mixedOrders=true)
 (hB:(Region.noSelect ops&&decide (l.length=ops.size)&&qCk .any ops l l (Array.replicate ops.size false))=true)
 (h:∀w0,qA4 w w0→qAR P ops qA4 Q l a w0):(Code.region id ops true).wp P Q a w:=
 qBc qA4 l hm hB (fun _=>Below.refl _ _) (fun _ _ _ c f=>c.of f) (h _ (qA4.drawn w))
theorem qDZ {id:Nat}{a:Act}{w:World}(B:Nat)(l:List (Nat×Nat))(hm:P.follows .mixedOrders=true)
 (hB:(Region.noSelect ops&&decide (l.length=ops.size)&&qCk .any ops l l (Array.replicate ops.size false))=true)
 (h:∀w0,qA4 w w0→qAR P ops (Below B) Q l a w0):(Code.region id ops true).wp P Q a w:=
 qBc (Below B) l hm hB (fun _=>Below.refl _ _) (fun _ _ _ c f=>c.trans f) (h _ (qA4.drawn w))
theorem qBa {i:Nat}{rest:List (Nat×Nat)}{a:Act}{w:World}(o:Oper)(ho':ops.toList[i]? = some o)
 (h:∀K:Act→World→Prop,(∀c w',R w w'→qAR P ops R Q rest c w'→K c w')→if Region.wanted o (yielded ops a.tmps) then o.wp P a w K qBK else(∀c w',qAR P ops R Q rest c w'→K c w')→K (a.put o.dst undef) w):qAR P ops R Q ((i,1)::rest) a w:=by
 have q:ops[i]? = some o:=by rw[←ho',Array.getElem?_toList]
 refine⟨o,q,?_⟩
 split
 · rename_i f
   have:=h (fun c w'=>R w w'∧qAR P ops R Q rest c w') (fun c w' l j=>⟨l,j⟩)
   rw[if_pos f]at this;exact this
 · rename_i f
   have:=h (qAR P ops R Q rest) (fun c w' l j=>j)
   rw[if_neg f]at this;exact this fun _ _ h=>h
theorem qAg {i:Nat}{rest:List (Nat×Nat)}{a:Act}{w:World}(o:Oper)(ho':ops.toList[i]? = some o)
 (h:∀K:Act→World→Prop,(∀a' w',qAR P ops R Q rest a' w'→K a' w')→if Region.wanted o (yielded ops a.tmps) then o.wp P a w K qBK else K (a.put o.dst undef) w):qAR P ops R Q ((i,2)::rest) a w:=by
 have c:ops[i]? = some o:=by rw[←ho',Array.getElem?_toList]
 exact⟨o,c,h _ fun _ _ h=>h⟩
theorem qA0 {i:Nat}{rest:List (Nat×Nat)}{a:Act}{w:World}(o:Oper)(ho':ops.toList[i]? = some o)
 (h:∀K:Act→Prop,(∀f,qAR P ops R Q rest f w→K f)→if Region.wanted o (yielded ops a.tmps) then(∃v,(∀w',R w w'→(execOp a.eval o).run P w'= .ok (.value v) w')∧K (a.put o.dst v)) else K (a.put o.dst undef)) :
 qAR P ops R Q ((i,0)::rest) a w:=by
 have j:ops[i]? = some o:=by rw[←ho',Array.getElem?_toList]
 have:=h (fun f=>qAR P ops R Q rest f w) (fun _ h=>h)
 by_cases c:Region.wanted o (yielded ops a.tmps)=true
 · rw[if_pos c]at this
   obtain⟨v,l,F⟩:=this
   exact⟨o,v,j,.inl ⟨c,fun w' q=>.inl (l w' q)⟩,F⟩
 · rw[if_neg c]at this
   exact⟨o,undef,j,.inr ⟨by simpa using c,rfl⟩,this⟩
theorem qA6 {a:Act}{w:World}(h:Q .normal a w):qAR P ops R Q [] a w:=h
theorem qqH {i:Nat}{rest:List (Nat×Nat)}{a:Act}{w:World}(o:Oper)(ho':ops.toList[i]? = some o)(hg:Region.wanted o (yielded ops a.tmps)=true)(h:∀K:Act→World→Prop,(∀a' w',R w w'→qAR P ops R Q rest a' w'→K a' w')→o.wp P a w K qBK):qAR P ops R Q ((i,1)::rest) a w:=qBa o ho' fun K c=>qqP hg (h K c)
theorem qA4.at {W w:World}(h:qA4 W w){a:Addr}{v:Value}(hc:W.cell? a=some v):w.cell? a=some v:=(h.cell (World.block_lt_of_cell? W _ hc)).trans hc
theorem qDL {B:Nat}{W w:World}(h:Below B W w){a:Addr}{v:Value}(hc:W.cell? a=some v)(hlt:a.block<B):w.cell? a=some v:=(h.cell hlt).trans hc
end
def qBq (B:Nat)(w w':World):Prop:=w.heap.size≤w'.heap.size∧∀b,B≤b→b<w.heap.size→w'.heap[b]? = w.heap[b]?
section
variable {B:Nat} {w w' w'':World}
theorem qBq.refl (B:Nat)(w:World):qBq B w w:=⟨Nat.le_refl _,fun _ _ _=>rfl⟩
theorem qBq.trans (h:qBq B w w')(h':qBq B w' w''):qBq B w w'':=
 ⟨Nat.le_trans h.1 h'.1,fun b f c=>(h'.2 b f (Nat.lt_of_lt_of_le c h.1)).trans (h.2 b f c)⟩
theorem qBq.setCell {a:Addr}(ha:a.block<B)(v:Value):qBq B w (w.setCell a v):=
 ⟨by simp[World.setCell],fun b c _=>by
  have:a.block≠b:=by omega
  simp[World.setCell,Array.getElem?_modify,this]⟩
theorem qBq.cell (h:qBq B w w'){a:Addr}{v:Value}(hc:w.cell? a=some v)(hb:B≤a.block):w'.cell? a=some v:=by
 have:=h.2 a.block hb (World.block_lt_of_cell? w _ hc)
 unfold World.cell? at *
 rw[this];exact hc
theorem Blk.above {b:Nat}{cs:Array Value}{t:TypeId}(hB:Blk w b cs t)(h:qBq B w w')(hb:B≤b):Blk w' b cs t:=(h.2 b hb hB.lt).trans hB
theorem qIx {e size n:Nat}{v:Value}{cs:List Value}(h:w.ownsRow B e size v n cs)(hb:qBq B w w'):w'.ownsRow B e size v n cs:=by
 obtain⟨hl,h⟩:=h
 refine⟨hl,?_⟩
 rcases h with h|⟨g,cap,cur,rfl,hbg,hg,hn,hc,hs,ht⟩
 · exact .inl h
 · exact .inr ⟨g,cap,cur,rfl,hbg,(hb.2 g hbg (Array.getElem?_eq_some_iff.1 hg).1).trans hg,hn,hc,hs,ht⟩
end
theorem qE0 {P:Program}{ops:Array Oper}{Q:Exit→Act→World→Prop}{id:Nat}{a:Act}{w:World}(B:Nat)(l:List (Nat×Nat))(hm:P.follows .mixedOrders=true)
 (hB:(Region.noSelect ops&&decide (l.length=ops.size)&&qCk .any ops l l (Array.replicate ops.size false))=true)
 (h:∀w0,qA4 w w0→qAR P ops (qBq B) Q l a w0):(Code.region id ops true).wp P Q a w:=
 qBc (qBq B) l hm hB (fun _=>qBq.refl _ _) (fun _ _ _ c f=>c.trans f) (h _ (qA4.drawn w))
inductive qGQ
 | nil:qGQ
 | light:Nat→qGQ→qGQ
 | heavy:Nat→qGQ→qGQ
 | last:Nat→qGQ→qGQ
 | two:Nat→Nat→qGQ→qGQ→qGQ
def qGQ.size:qGQ→Nat
 | .nil=>0
 | .light _ p=>p.size+1
 | .heavy _ p=>p.size+1
 | .last _ p=>p.size+1
 | .two _ _ p _=>p.size+1
section
variable {P:Program} {ops:Array Oper} {R:World→World→Prop} {Q:Exit→Act→World→Prop} {md:Region.Mode}
def qOX (P:Program)(ops:Array Oper)(R:World→World→Prop)(i:Nat)(F:Act→World→Prop)(a:Act)(w:World):Prop:=
 ∃o,ops[i]? = some o∧if Region.wanted o (yielded ops a.tmps) then o.wp P a w (fun a' w'=>R w w'∧F a' w') qBK else F (a.put o.dst undef) w
def qBD (P:Program)(ops:Array Oper)(R:World→World→Prop)(Q:Exit→Act→World→Prop):qGQ→Act→World→Prop
 | .nil,a,w=>Q .normal a w
 | .light i p,a,w=>∃o v,ops[i]? = some o∧qCP P ops R o v a w∧qBD P ops R Q p (a.put o.dst v) w
 | .heavy i p,a,w=>qOX P ops R i (qBD P ops R Q p) a w
 | .last i p,a,w=>∃o,ops[i]? = some o∧if Region.wanted o (yielded ops a.tmps) then o.wp P a w (qBD P ops R Q p) qBK else qBD P ops R Q p (a.put o.dst undef) w
 | .two i j p q,a,w=>qOX P ops R i (qBD P ops R Q p) a w∧qOX P ops R j (qBD P ops R Q q) a w
def qEs (md:Region.Mode)(ops:Array Oper)(L:List (Nat×Nat)):qGQ→Array Bool→Bool
 | .nil,listed=>(Region.ready md ops listed).isEmpty
 | .light i p,listed=>(Region.ready md ops listed).contains i&&Region.free md ops listed i&&L.contains (i,0)&&qEs md ops L p (listed.setIfInBounds i true)
 | .heavy i p,listed=>decide (Region.ready md ops listed= [i])&&qEs md ops L p (listed.setIfInBounds i true)
 | .last i p,listed=>decide (Region.ready md ops listed= [i])&&qLI md ops L i&&qEs md ops L p (listed.setIfInBounds i true)
 | .two i j p q,listed=>decide (Region.ready md ops listed= [i,j])&&decide (p.size=q.size)&&qEs md ops L p (listed.setIfInBounds i true)&&qEs md ops L q (listed.setIfInBounds j true)
theorem qOX.any {lt:Nat→Bool}{i fuel:Nat}{F:Act→World→Prop}{listed:Array Bool}{a:Act}{w:World}(h:qOX P ops R i F a w)
 (hF:∀c w',F c w'→qCl P md ops R lt Q fuel (listed.setIfInBounds i true) c w') :
 ∃o,ops[i]? = some o∧if Region.wanted o (yielded ops a.tmps) then o.wp P a w (fun c w'=>(¬qRV md ops lt i→R w w')∧qCl P md ops R lt Q fuel (listed.setIfInBounds i true) c w') qBK
  else qCl P md ops R lt Q fuel (listed.setIfInBounds i true) (a.put o.dst undef) w:=by
 obtain⟨o,l,f⟩:=h
 refine⟨o,l,?_⟩
 split
 · rename_i j;rw[if_pos j]at f
   exact Oper.wp_mono (fun c w' ⟨h2,h3⟩=>⟨fun _=>h2,hF c w' h3⟩) f
 · rename_i j;rw[if_neg j]at f
   exact hF _ _ f
theorem qBA {L:List (Nat×Nat)}(hs:Region.noSelect ops=true)(hr0:∀w:World,R w w)(ht:∀a b c:World,R a b→R b c→R a c):∀(l:qGQ) (listed:Array Bool) (a:Act) (w:World),
 qEs md ops L l listed=true→qBD P ops R Q l a w→qCl P md ops R (qHE L) Q l.size listed a w
 | .nil,listed,a,w,hB,h=>⟨by simpa [qEs] using hB,h⟩
 | .light i l,listed,a,w,hB,h=>by
  simp only[qEs,Bool.and_eq_true]at hB
  obtain⟨⟨⟨hr,hf⟩,hL⟩,Y⟩:=hB
  obtain⟨o,v,V,hy,I⟩:=h
  exact qFy V (qE8 hL) (Region.noSelect_spec hs) hr0 ht l.size listed a w (Region.free_spec V hf) (by simpa using hr) hy (qBA hs hr0 ht l _ _ w Y I)
 | .heavy i l,listed,a,w,hB,h=>by
  simp only[qEs,Bool.and_eq_true,decide_eq_true_eq]at hB
  refine⟨fun N=>(by rw[N]at hB;cases hB.1),fun j J=>?_⟩
  rw[hB.1,List.mem_singleton]at J
  subst J
  exact qOX.any h fun F w' G=>qBA hs hr0 ht l _ F w' hB.2 G
 | .last i l,listed,a,w,hB,h=>by
  simp only[qEs,Bool.and_eq_true,decide_eq_true_eq]at hB
  obtain⟨⟨f,hE⟩,O⟩:=hB
  obtain⟨o,V,I⟩:=h
  refine⟨fun N=>(by rw[N]at f;cases f),fun j J=>?_⟩
  rw[f,List.mem_singleton]at J
  subst J
  refine⟨o,V,?_⟩
  split
  · rename_i Z;rw[if_pos Z]at I
    exact Oper.wp_mono (fun F w' G=>⟨fun hn=>absurd (qJK hE) hn,qBA hs hr0 ht l _ F w' O G⟩) I
  · rename_i Z;rw[if_neg Z]at I
    exact qBA hs hr0 ht l _ _ w O I
 | .two i j p q,listed,a,w,hB,h=>by
  simp only[qEs,Bool.and_eq_true,decide_eq_true_eq]at hB
  obtain⟨⟨⟨f,a0⟩,hp⟩,hq⟩:=hB
  refine⟨fun N=>(by rw[N]at f;cases f),fun k hk=>?_⟩
  rw[f,List.mem_cons,List.mem_singleton]at hk
  rcases hk with rfl|rfl
  · exact qOX.any h.1 fun F w' G=>qBA hs hr0 ht p _ F w' hp G
  · refine qOX.any h.2 fun F w' G=>?_
    have:=qBA hs hr0 ht q _ F w' hq G
    rw[←a0]at this
    exact this
theorem qE5 {id:Nat}{a:Act}{w:World}(R:World→World→Prop)(L:List (Nat×Nat))(l:qGQ)(hm:P.follows .mixedOrders=true)
 (hB:(Region.noSelect ops&&decide (l.size=ops.size)&&qEs .any ops L l (Array.replicate ops.size false))=true)
 (hr0:∀w:World,R w w) (ht:∀a b c:World,R a b→R b c→R a c)
 (h:qBD P ops R Q l a { w with drawn:=w.drawn+1 }):(Code.region id ops true).wp P Q a w:=by
 simp only[Bool.and_eq_true,decide_eq_true_eq]at hB
 refine wp_region_any hm ?_
 rw[←hB.1.2]
 exact qDK _ _ _ _ (qBA hB.1.1 hr0 ht l _ a _ (by rw[hB.1.2];exact hB.2) h)
theorem qBj {id:Nat}{a:Act}{w:World}(B:Nat)(L:List (Nat×Nat))(l:qGQ)(hm:P.follows .mixedOrders=true)
 (hB:(Region.noSelect ops&&decide (l.size=ops.size)&&qEs .any ops L l (Array.replicate ops.size false))=true)
 (h:∀w0,qA4 w w0→qBD P ops (Below B) Q l a w0):(Code.region id ops true).wp P Q a w:=
 qE5 (Below B) L l hm hB (fun _=>Below.refl _ _) (fun _ _ _ c f=>c.trans f) (h _ (qA4.drawn w))
theorem qQB {i:Nat}{F:Act→World→Prop}{a:Act}{w:World}(o:Oper)(ho':ops.toList[i]? = some o)
 (h:∀K:Act→World→Prop,(∀c w',R w w'→F c w'→K c w')→if Region.wanted o (yielded ops a.tmps) then o.wp P a w K qBK else(∀c w',F c w'→K c w')→K (a.put o.dst undef) w):qOX P ops R i F a w:=by
 have q:ops[i]? = some o:=by rw[←ho',Array.getElem?_toList]
 refine⟨o,q,?_⟩
 split
 · rename_i f
   have:=h (fun c w'=>R w w'∧F c w') (fun c w' l j=>⟨l,j⟩)
   rw[if_pos f]at this;exact this
 · rename_i f
   have:=h F (fun c w' l j=>j)
   rw[if_neg f]at this;exact this fun _ _ h=>h
theorem qAc {i:Nat}{rest:qGQ}{a:Act}{w:World}(o:Oper)(ho':ops.toList[i]? = some o)
 (h:∀K:Act→World→Prop,(∀a' w',R w w'→qBD P ops R Q rest a' w'→K a' w')→if Region.wanted o (yielded ops a.tmps) then o.wp P a w K qBK else(∀a' w',qBD P ops R Q rest a' w'→K a' w')→K (a.put o.dst undef) w):qBD P ops R Q (.heavy i rest) a w:=
 qQB o ho' h
theorem qC2 {i j:Nat}{p q:qGQ}{a:Act}{w:World}(h1:qBD P ops R Q (.heavy i p) a w)(h2:qBD P ops R Q (.heavy j q) a w):qBD P ops R Q (.two i j p q) a w:=⟨h1,h2⟩
theorem qA2 {i:Nat}{rest:qGQ}{a:Act}{w:World}(o:Oper)(ho':ops.toList[i]? = some o)
 (h:∀K:Act→Prop,(∀f,qBD P ops R Q rest f w→K f)→if Region.wanted o (yielded ops a.tmps) then(∃v,(∀w',R w w'→(execOp a.eval o).run P w'= .ok (.value v) w')∧K (a.put o.dst v)) else K (a.put o.dst undef)) :
 qBD P ops R Q (.light i rest) a w:=by
 have j:ops[i]? = some o:=by rw[←ho',Array.getElem?_toList]
 have:=h (fun f=>qBD P ops R Q rest f w) (fun _ h=>h)
 by_cases c:Region.wanted o (yielded ops a.tmps)=true
 · rw[if_pos c]at this
   obtain⟨v,l,F⟩:=this
   exact⟨o,v,j,.inl ⟨c,fun w' q=>.inl (l w' q)⟩,F⟩
 · rw[if_neg c]at this
   exact⟨o,undef,j,.inr ⟨by simpa using c,rfl⟩,this⟩
theorem qCZ {a:Act}{w:World}(h:Q .normal a w):qBD P ops R Q .nil a w:=h
end
inductive qDo
 | nil:qDo
 | light:Nat→qDo→qDo
 | heavy:Nat→qDo→qDo
 | last:Nat→qDo→qDo
 | two:Nat→Nat→qDo→qDo→qDo
def qDo.size:qDo→Nat
 | .nil=>0
 | .light _ p=>p.size+1
 | .heavy _ p=>p.size+1
 | .last _ p=>p.size+1
 | .two _ _ p _=>p.size+1
section
variable {P:Program} {ops:Array Oper} {R:Nat→World→World→Prop} {Q:Exit→Act→World→Prop} {md:Region.Mode}
def Dep (md:Region.Mode)(ops:Array Oper)(j l:Nat):Prop:=∀o,ops[j]? = some o→∃e∈o.after,Region.binds md e=true∧e.on=l
theorem qRW {L:List (Nat×Nat)}{j l:Nat}(h:qLI md ops L j=true)(hl:L.contains (l,0)=true):Dep md ops j l:=fun o c=>qJK h o c l (qE8 hl)
def qCA (P:Program)(md:Region.Mode)(ops:Array Oper)(R:Nat→World→World→Prop)(lt:Nat→Bool)(Q:Exit→Act→World→Prop):Nat→Array Bool→Act→World→Prop
 | 0,listed,a,w=>Region.ready md ops listed= []∧Q .normal a w
 | fuel+1,listed,a,w =>
  (Region.ready md ops listed= []→Q .normal a w) ∧
  ∀i∈Region.ready md ops listed,∃o,ops[i]? = some o ∧
   if Region.wanted o (yielded ops a.tmps) then o.wp P a w (fun a' w'=>(∀l,lt l=true→¬Dep md ops i l→R l w w')∧qCA P md ops R lt Q fuel (listed.setIfInBounds i true) a' w') qBK
   else qCA P md ops R lt Q fuel (listed.setIfInBounds i true) (a.put o.dst undef) w
theorem qF5 {lt:Nat→Bool}:∀(fuel:Nat) (listed:Array Bool) (a:Act) (w:World),qCA P md ops R lt Q fuel listed a w→wpAny P md ops Q fuel listed a w
 | 0,_,_,_,h=>h
 | fuel+1,_,_,_,h=>⟨h.1,fun i l=>by
  obtain⟨o,j,c⟩:=h.2 i l
  unfold wpOp
  simp only[j]
  split
  · rename_i f;rw[if_pos f]at c
    exact .inl (qIw (Oper.wp_mono (fun a' w' ⟨_,h⟩=>qF5 fuel _ a' w' h) c))
  · rename_i f;rw[if_neg f]at c
    exact qF5 fuel _ _ _ c⟩
theorem qIy {lt:Nat→Bool}{i:Nat}{oi:Oper}{v:Value}(hi:ops[i]? = some oi)(hli:lt i=true)(hsel:∀(j:Nat) (o:Oper) cs b,ops[j]? = some o→o.op≠ .select cs b)(hr0:∀l (w:World),R l w w)(ht:∀l (a b c:World),R l a b→R l b c→R l a c) :
 ∀(F:Nat) (q:Array Bool) (a:Act) (w:World),
  (∀j J,ops[j]? = some J→j≠i→q.getD j true=false→(∀e∈J.after,Region.binds md e=true→e.on≠i)→oi.apart ops J=true) →
  i∈Region.ready md ops q→qCP P ops (R i) oi v a w →
  qCA P md ops R lt Q F (q.setIfInBounds i true) (a.put oi.dst v) w→qCA P md ops R lt Q (F+1) q a w:=by
 have a5:∀(F:Nat) (q:Array Bool) (a:Act) (w:World),qCP P ops (R i) oi v a w→qCA P md ops R lt Q F (q.setIfInBounds i true) (a.put oi.dst v) w →
  ∃o,ops[i]? = some o∧if Region.wanted o (yielded ops a.tmps) then o.wp P a w (fun a' w'=>(∀l,lt l=true→¬Dep md ops i l→R l w w')∧qCA P md ops R lt Q F (q.setIfInBounds i true) a' w') qBK
   else qCA P md ops R lt Q F (q.setIfInBounds i true) (a.put o.dst undef) w:=by
  intro F q a w hy H
  refine⟨oi,hi,?_⟩
  rcases hy with ⟨hw,hv⟩|⟨hw,rfl⟩
  · rw[if_pos hw]
    unfold Oper.wp
    rcases hv w (hr0 i w) with e|⟨e,rfl⟩
    · rw[e];exact⟨fun l _ _=>hr0 l w,H⟩
    · rw[e];exact⟨fun l _ _=>hr0 l w,H⟩
  · rw[if_neg (by rw[hw];simp)];exact H
 intro F
 induction F with
 | zero =>
  intro q a w _ hr hy H
  refine⟨fun h=>(by rw[h]at hr;cases hr),fun j hj=>?_⟩
  by_cases I:j=i
  · subst I;exact a5 0 q a w hy H
  · have:=ready_mono hj I
    rw[H.1]at this
    cases this
 | succ F ih =>
  intro q a w Y hr hy H
  refine⟨fun h=>(by rw[h]at hr;cases hr),fun j hj=>?_⟩
  by_cases I:j=i
  · subst I;exact a5 (F+1) q a w hy H
  · obtain⟨J,Z,G⟩:=H.2 j (ready_mono hj I)
    obtain⟨a0,b7,a7,a9⟩:=mem_ready.1 hj
    have a4:∀e∈J.after,Region.binds md e=true→e.on≠i:=fun e O hb b6=>by
     have e1:b7=J:=Option.some.inj (a7.symm.trans Z)
     subst e1
     have G:=a9 e O hb
     have h0:=(mem_ready.1 hr).1
     rw[b6]at G
     rcases Nat.lt_or_ge i q.size with h'|h'
     · simp[h']at h0 G;rw[h0]at G;cases G
     · simp[Array.getElem?_eq_none h']at G
    have b5:=Y j J Z I a0 a4
    have V:¬Dep md ops j i:=fun hE=>by
     obtain⟨e,O,hb,hon⟩:=hE J Z
     exact a4 e O hb hon
    obtain⟨a1,a2,a3⟩:=Oper.apart_spec b5
    have N:∀k ok,ops[k]? = some ok→k≠i→(q.setIfInBounds j true).getD k true=false →
     (∀e∈ok.after,Region.binds md e=true→e.on≠i)→oi.apart ops ok=true:=fun k ok hk c1 b3 b4=>by
     refine Y k ok hk c1 ?_ b4
     by_cases a8:j=k
     · subst a8;exact a0
     · rw[getD_set_ne true a8]at b3;exact b3
    have b8:=fun cs b=>hsel i oi cs b hi
    have b9:=fun cs b=>hsel j J cs b Z
    have keep:∀(a:Act) (w:World),qCP P ops (R i) oi v a w→∀u,qCP P ops (R i) oi v (a.put J.dst u) w:=fun a w hy u =>
     hy.of_same (execOp_put oi b8 a J.dst u a3) (wanted_put oi a J.dst u a3)
    have go:∀(u:Value) (w':World),R i w w'→qCA P md ops R lt Q F ((q.setIfInBounds i true).setIfInBounds j true) ((a.put oi.dst v).put J.dst u) w' →
     qCA P md ops R lt Q (F+1) (q.setIfInBounds j true) (a.put J.dst u) w':=by
     intro u w' c0 h3
     refine ih (q.setIfInBounds j true) _ w' N (ready_mono hr (Ne.symm I)) ((keep a w hy u).later (ht i) c0) ?_
     rw[Array.setIfInBounds_comm _ _ I,←Act.put_comm a v u a2]
     exact h3
    refine⟨J,Z,?_⟩
    rw[wanted_put J a oi.dst v a1]at G
    split
    · rename_i hw
      rw[if_pos hw]at G
      unfold Oper.wp at *
      rw[execOp_put J b9 a oi.dst v a1]at G
      generalize (execOp a.eval J).run P w=r at *
      cases r with
      | ok n w' =>
       cases n<;>simp only[Oper.upon]at G ⊢
       case value u=>exact⟨G.1,go u w' (G.1 i hli V) G.2⟩
       case skip=>exact⟨G.1,go undef w' (G.1 i hli V) G.2⟩
       case defer d =>
        have a6:qCP P ops (R i) oi v { a with defers:=d::a.defers } w:=hy.of_same rfl rfl
        refine⟨G.1,?_⟩
        refine ih (q.setIfInBounds j true) _ w' N (ready_mono hr (Ne.symm I)) ((keep _ w a6 undef).later (ht i) (G.1 i hli V)) ?_
        rw[Array.setIfInBounds_comm _ _ I,←Act.put_comm _ v undef a2,←Act.put_defers]
        exact G.2
       case enter f args =>
        refine Calls.mono G fun e w'' O=>?_
        cases e with
        | returned u=>exact⟨O.1,go u w'' (O.1 i hli V) O.2⟩
        | panicked c=>exact O
        | outgrown=>exact O
       case row row args=>exact Rows.mono G fun u w'' O=>⟨O.1,go u w'' (O.1 i hli V) O.2⟩
      | halt x w' =>
       cases x<;>simp only[Oper.upon]at G ⊢
       case panic u=>exact G
    · rename_i hw
      rw[if_neg hw]at G
      exact go undef w (hr0 i w) G
def qFK (L:List (Nat×Nat))(R0 R1:World→World→Prop)(i:Nat):World→World→Prop:=if L.contains (i,0) then R0 else R1
def qG1 (P:Program)(ops:Array Oper)(R:World→World→Prop)(i:Nat)(F:Act→World→Prop)(a:Act)(w:World):Prop:=
 ∃o,ops[i]? = some o∧if Region.wanted o (yielded ops a.tmps) then o.wp P a w (fun a' w'=>R w w'∧F a' w') qBK else F (a.put o.dst undef) w
variable {R0 R1:World→World→Prop}
def qBL (P:Program)(ops:Array Oper)(L:List (Nat×Nat))(R0 R1:World→World→Prop)(Q:Exit→Act→World→Prop):qDo→Act→World→Prop
 | .nil,a,w=>Q .normal a w
 | .light i p,a,w=>∃o v,ops[i]? = some o∧qCP P ops (qFK L R0 R1 i) o v a w∧qBL P ops L R0 R1 Q p (a.put o.dst v) w
 | .heavy i p,a,w=>qG1 P ops R0 i (qBL P ops L R0 R1 Q p) a w
 | .last i p,a,w=>qG1 P ops R1 i (qBL P ops L R0 R1 Q p) a w
 | .two i j p q,a,w=>qG1 P ops R0 i (qBL P ops L R0 R1 Q p) a w∧qG1 P ops R0 j (qBL P ops L R0 R1 Q q) a w
def qDl (md:Region.Mode)(ops:Array Oper)(L:List (Nat×Nat)):qDo→Array Bool→Bool
 | .nil,listed=>(Region.ready md ops listed).isEmpty
 | .light i p,listed=>(Region.ready md ops listed).contains i&&Region.free md ops listed i&&qDl md ops L p (listed.setIfInBounds i true)
 | .heavy i p,listed=>decide (Region.ready md ops listed= [i])&&qDl md ops L p (listed.setIfInBounds i true)
 | .last i p,listed=>decide (Region.ready md ops listed= [i])&&qLI md ops L i&&qDl md ops L p (listed.setIfInBounds i true)
 | .two i j p q,listed=>decide (Region.ready md ops listed= [i,j])&&decide (p.size=q.size)&&qDl md ops L p (listed.setIfInBounds i true)&&qDl md ops L q (listed.setIfInBounds j true)
theorem qG1.any {R:Nat→World→World→Prop}{lt:Nat→Bool}{S:World→World→Prop}{i fuel:Nat}{F:Act→World→Prop}{listed:Array Bool}{a:Act}{w:World}(h:qG1 P ops S i F a w)(hS:∀w w',S w w'→∀l,lt l=true→¬Dep md ops i l→R l w w')
 (hF:∀c w',F c w'→qCA P md ops R lt Q fuel (listed.setIfInBounds i true) c w') :
 ∃o,ops[i]? = some o∧if Region.wanted o (yielded ops a.tmps) then o.wp P a w (fun c w'=>(∀l,lt l=true→¬Dep md ops i l→R l w w')∧qCA P md ops R lt Q fuel (listed.setIfInBounds i true) c w') qBK
  else qCA P md ops R lt Q fuel (listed.setIfInBounds i true) (a.put o.dst undef) w:=by
 obtain⟨o,q,f⟩:=h
 refine⟨o,q,?_⟩
 split
 · rename_i j;rw[if_pos j]at f
   exact Oper.wp_mono (fun c w' ⟨h2,h3⟩=>⟨hS _ _ h2,hF c w' h3⟩) f
 · rename_i j;rw[if_neg j]at f
   exact hF _ _ f
theorem qJL {L:List (Nat×Nat)}(hs:Region.noSelect ops=true)(h01:∀a b:World,R0 a b→R1 a b)(hr0:∀w:World,R0 w w)(ht0:∀a b c:World,R0 a b→R0 b c→R0 a c)(ht1:∀a b c:World,R1 a b→R1 b c→R1 a c):∀(l:qDo) (f:Array Bool) (a:Act) (w:World),
 qDl md ops L l f=true→qBL P ops L R0 R1 Q l a w→qCA P md ops (qFK L R0 R1) (fun _=>true) Q l.size f a w:=by
 have hr:∀l (w:World),qFK L R0 R1 l w w:=fun l w=>by unfold qFK;split;exact hr0 w;exact h01 _ _ (hr0 w)
 have ht:∀l (a b c:World),qFK L R0 R1 l a b→qFK L R0 R1 l b c→qFK L R0 R1 l a c:=fun l a b c=>by unfold qFK;split;exact ht0 a b c;exact ht1 a b c
 have Z:∀(i:Nat) (w w':World),R0 w w'→∀l,(fun _:Nat=>true) l=true→¬Dep md ops i l→qFK L R0 R1 l w w':=fun i w w' h l _ _=>by unfold qFK;split;exact h;exact h01 _ _ h
 intro l
 induction l with
 | nil=>intro f a w F h;exact⟨by simpa [qDl] using F,h⟩
 | light i l ih =>
  intro f a w F h
  simp only[qDl,Bool.and_eq_true]at F
  obtain⟨⟨a0,hf⟩,V⟩:=F
  obtain⟨o,v,ho,hy,h1⟩:=h
  exact qIy ho rfl (Region.noSelect_spec hs) hr ht l.size f a w (Region.free_spec ho hf) (by simpa using a0) hy (ih _ _ w V h1)
 | heavy i l ih =>
  intro f a w F h
  simp only[qDl,Bool.and_eq_true,decide_eq_true_eq]at F
  refine⟨fun O=>(by rw[O]at F;cases F.1),fun j N=>?_⟩
  rw[F.1,List.mem_singleton]at N
  subst N
  exact qG1.any h (Z j) fun I w' J=>ih _ I w' F.2 J
 | last i l ih =>
  intro f a w F h
  simp only[qDl,Bool.and_eq_true,decide_eq_true_eq]at F
  obtain⟨⟨G,hE⟩,a1⟩:=F
  refine⟨fun O=>(by rw[O]at G;cases G),fun j N=>?_⟩
  rw[G,List.mem_singleton]at N
  subst N
  refine qG1.any h (fun w w' h2 l _ hn=>?_) fun I w' J=>ih _ I w' a1 J
  unfold qFK
  split
  · rename_i hl
    exact absurd (qRW hE hl) hn
  · exact h2
 | two i j p q ihp ihq =>
  intro f a w F h
  simp only[qDl,Bool.and_eq_true,decide_eq_true_eq]at F
  obtain⟨⟨⟨G,Y⟩,hp⟩,hq⟩:=F
  refine⟨fun O=>(by rw[O]at G;cases G),fun k hk=>?_⟩
  rw[G,List.mem_cons,List.mem_singleton]at hk
  rcases hk with rfl|rfl
  · exact qG1.any h.1 (Z k) fun I w' J=>ihp _ I w' hp J
  · refine qG1.any h.2 (Z k) fun I w' J=>?_
    have:=ihq _ I w' hq J
    rw[←Y]at this
    exact this
theorem qG2 {id:Nat}{a:Act}{w:World}(R0 R1:World→World→Prop)(L:List (Nat×Nat))(l:qDo)(hm:P.follows .mixedOrders=true)
 (hB:(Region.noSelect ops&&decide (l.size=ops.size)&&qDl .any ops L l (Array.replicate ops.size false))=true)
 (h01:∀a b:World,R0 a b→R1 a b) (hr0:∀w:World,R0 w w) (ht0:∀a b c:World,R0 a b→R0 b c→R0 a c) (ht1:∀a b c:World,R1 a b→R1 b c→R1 a c)
 (h:∀w0,qA4 w w0→qBL P ops L R0 R1 Q l a w0):(Code.region id ops true).wp P Q a w:=by
 simp only[Bool.and_eq_true,decide_eq_true_eq]at hB
 refine wp_region_any hm ?_
 rw[←hB.1.2]
 exact qF5 _ _ _ _ (qJL hB.1.1 h01 hr0 ht0 ht1 l _ a _ (by rw[hB.1.2];exact hB.2) (h _ (qA4.drawn w)))
variable {L:List (Nat×Nat)}
theorem qOY {R:World→World→Prop}{i:Nat}{F:Act→World→Prop}{a:Act}{w:World}(o:Oper)(ho':ops.toList[i]? = some o)
 (h:∀K:Act→World→Prop,(∀c w',R w w'→F c w'→K c w')→if Region.wanted o (yielded ops a.tmps) then o.wp P a w K qBK else(∀c w',F c w'→K c w')→K (a.put o.dst undef) w):qG1 P ops R i F a w:=by
 have q:ops[i]? = some o:=by rw[←ho',Array.getElem?_toList]
 refine⟨o,q,?_⟩
 split
 · rename_i f
   have:=h (fun c w'=>R w w'∧F c w') (fun c w' l j=>⟨l,j⟩)
   rw[if_pos f]at this;exact this
 · rename_i f
   have:=h F (fun c w' l j=>j)
   rw[if_neg f]at this;exact this fun _ _ h=>h
theorem qGY {i:Nat}{rest:qDo}{a:Act}{w:World}(o:Oper)(ho':ops.toList[i]? = some o)
 (h:∀K:Act→World→Prop,(∀a' w',R1 w w'→qBL P ops L R0 R1 Q rest a' w'→K a' w')→if Region.wanted o (yielded ops a.tmps) then o.wp P a w K qBK else(∀a' w',qBL P ops L R0 R1 Q rest a' w'→K a' w')→K (a.put o.dst undef) w):qBL P ops L R0 R1 Q (.last i rest) a w:=
 qOY o ho' h
theorem qAj {i:Nat}{rest:qDo}{a:Act}{w:World}(o:Oper)(ho':ops.toList[i]? = some o)(R:World→World→Prop)(hR:qFK L R0 R1 i=R)
 (h:∀K:Act→Prop,(∀f,qBL P ops L R0 R1 Q rest f w→K f)→if Region.wanted o (yielded ops a.tmps) then(∃v,(∀w',R w w'→(execOp a.eval o).run P w'= .ok (.value v) w')∧K (a.put o.dst v)) else K (a.put o.dst undef)) :
 qBL P ops L R0 R1 Q (.light i rest) a w:=by
 subst hR
 have j:ops[i]? = some o:=by rw[←ho',Array.getElem?_toList]
 have:=h (fun f=>qBL P ops L R0 R1 Q rest f w) (fun _ h=>h)
 by_cases c:Region.wanted o (yielded ops a.tmps)=true
 · rw[if_pos c]at this
   obtain⟨v,l,F⟩:=this
   exact⟨o,v,j,.inl ⟨c,fun w' q=>.inl (l w' q)⟩,F⟩
 · rw[if_neg c]at this
   exact⟨o,undef,j,.inr ⟨by simpa using c,rfl⟩,this⟩
theorem qMT {a:Act}{w:World}(h:Q .normal a w):qBL P ops L R0 R1 Q .nil a w:=h
end
end Go.Proofs.YtdlgihbpiakebaaGreat
