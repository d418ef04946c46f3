import Derived.Test.YtdlgihbpiakebaaGreatMd03
import Derived.Still
set_option maxRecDepth 100000
set_option maxHeartbeats 4000000
namespace Go.Proofs.YtdlgihbpiakebaaGreat
open Go Go.RowKit
def qBJ : Exit → Act → World → Prop:=fun _ _ _=>False
theorem qHX {P : Program} {o : Oper} {a : Act} {w : World} {K : Act → World → Prop} {Q : Exit → Act → World → Prop} (h : o.wp P a w K qBJ) : o.wp P a w K Q:=by
 unfold Oper.wp at *
 generalize (execOp a.eval o).run P w = r at *
 cases r with
 | ok n w' =>
  cases n <;> simp only [Oper.upon] at h ⊢ <;>
   first
    | exact h
    | exact Calls.mono h (fun e w'' he=>by
     match e,he with
     | .returned _,he=>exact he
     | .panicked _,he=>exact absurd he id
     | .outgrown,he=>exact absurd he (fun ⟨_,_,h⟩=>h))
 | halt x w'=>cases x <;> simp only [Oper.upon] at h ⊢ <;> first | exact h | exact absurd h id
section
variable {P : Program} {ops : Array Oper} {R : World → World → Prop} {Q : Exit → Act → World → Prop} {md : Region.Mode}
def qCL (P : Program) (ops : Array Oper) (R : World → World → Prop) (o : Oper) (v : Value) (a : Act) (w : World) : Prop :=
 (Region.wanted o (yielded ops a.tmps) = true ∧ ∀ w',R w w' → (execOp a.eval o).run P w' = .ok (.value v) w' ∨ ((execOp a.eval o).run P w' = .ok .skip w' ∧ v = undef)) ∨
 (Region.wanted o (yielded ops a.tmps) = false ∧ v = undef)
def qQJ (md : Region.Mode) (ops : Array Oper) (lt : Nat → Bool) (i : Nat) : Prop:=∀ o,ops[i]? = some o → ∀ j,lt j = true → ∃ e ∈ o.after,Region.binds md e = true ∧ e.on = j
def qKO (md : Region.Mode) (ops : Array Oper) (L : List (Nat × Nat)) (i : Nat) : Bool :=
 match ops[i]? with
 | some o=>L.all fun (j,k)=>k != 0 || o.after.any fun e=>Region.binds md e && e.on == j
 | none=>true
def qHa (L : List (Nat × Nat)) (i : Nat) : Bool:=L.any fun (j,k)=>j == i && k == 0
theorem qIX {L : List (Nat × Nat)} {i : Nat} (h : qKO md ops L i = true) : qQJ md ops (qHa L) i:=by
 intro o ho j hj
 unfold qKO at h
 rw [ho] at h
 obtain ⟨⟨j',k⟩,hm,hp⟩:=List.any_eq_true.1 hj
 simp only [Bool.and_eq_true,beq_iff_eq] at hp
 have:=List.all_eq_true.1 h _ hm
 simp only [hp.1,hp.2,bne_self_eq_false,Bool.false_or] at this
 obtain ⟨e,he,hb⟩:=Array.any_eq_true'.1 this
 simp only [Bool.and_eq_true,beq_iff_eq] at hb
 exact ⟨e,he,hb.1,hb.2⟩
def qAL (P : Program) (ops : Array Oper) (R : World → World → Prop) (Q : Exit → Act → World → Prop) : List (Nat × Nat) → Act → World → Prop
 | [],a,w=>Q .normal a w
 | (i,0) :: rest,a,w=>∃ o v,ops[i]? = some o ∧ qCL P ops R o v a w ∧ qAL P ops R Q rest (a.put o.dst v) w
 | (i,1) :: rest,a,w=>∃ o,ops[i]? = some o ∧ if Region.wanted o (yielded ops a.tmps) then o.wp P a w (fun a' w'=>R w w' ∧ qAL P ops R Q rest a' w') qBJ else qAL P ops R Q rest (a.put o.dst undef) w
 | (i,_) :: rest,a,w=>∃ o,ops[i]? = some o ∧ if Region.wanted o (yielded ops a.tmps) then o.wp P a w (qAL P ops R Q rest) qBJ else qAL P ops R Q rest (a.put o.dst undef) w
def qCd (md : Region.Mode) (ops : Array Oper) (L : List (Nat × Nat)) : List (Nat × Nat) → Array Bool → Bool
 | [],listed=>(Region.ready md ops listed).isEmpty
 | (i,0) :: rest,listed=>(Region.ready md ops listed).contains i && Region.free md ops listed i && L.contains (i,0) && qCd md ops L rest (listed.setIfInBounds i true)
 | (i,1) :: rest,listed=>decide (Region.ready md ops listed = [i]) && qCd md ops L rest (listed.setIfInBounds i true)
 | (i,_) :: rest,listed=>decide (Region.ready md ops listed = [i]) && qKO md ops L i && qCd md ops L rest (listed.setIfInBounds i true)
def qCe (P : Program) (md : Region.Mode) (ops : Array Oper) (R : World → World → Prop) (lt : Nat → Bool) (Q : Exit → Act → World → Prop) : Nat → Array Bool → Act → World → Prop
 | 0,listed,a,w=>Region.ready md ops listed = [] ∧ Q .normal a w
 | fuel + 1,listed,a,w =>
  (Region.ready md ops listed = [] → Q .normal a w) ∧
  ∀ i ∈ Region.ready md ops listed,∃ o,ops[i]? = some o ∧
   if Region.wanted o (yielded ops a.tmps) then o.wp P a w (fun a' w'=>(¬ qQJ md ops lt i → R w w') ∧ qCe P md ops R lt Q fuel (listed.setIfInBounds i true) a' w') qBJ
   else qCe P md ops R lt Q fuel (listed.setIfInBounds i true) (a.put o.dst undef) w
theorem qDB {lt : Nat → Bool} : ∀ (fuel : Nat) (listed : Array Bool) (a : Act) (w : World),qCe P md ops R lt Q fuel listed a w → wpAny P md ops Q fuel listed a w
 | 0,_,_,_,h=>h
 | fuel + 1,_,_,_,h=>⟨h.1,fun i hi=>by
  obtain ⟨o,ho,h2⟩:=h.2 i hi
  unfold wpOp
  simp only [ho]
  split
  · rename_i hw;rw [if_pos hw] at h2
    exact .inl (qHX (Oper.wp_mono (fun a' w' ⟨_,h⟩=>qDB fuel _ a' w' h) h2))
  · rename_i hw;rw [if_neg hw] at h2
    exact qDB fuel _ _ _ h2⟩
theorem qCL.later {o : Oper} {v : Value} {a : Act} {w w' : World} (ht : ∀ a b c : World,R a b → R b c → R a c) (h : qCL P ops R o v a w) (hr : R w w') : qCL P ops R o v a w':=by
 rcases h with ⟨h1,h2⟩ | h
 · exact .inl ⟨h1,fun w'' hw=>h2 w'' (ht _ _ _ hr hw)⟩
 · exact .inr h
theorem qCL.of_same {o : Oper} {v : Value} {a a' : Act} {w : World} (hy : qCL P ops R o v a w) (he : execOp a'.eval o = execOp a.eval o)
 (hw : Region.wanted o (yielded ops a'.tmps) = Region.wanted o (yielded ops a.tmps)) : qCL P ops R o v a' w:=by
 unfold qCL at *
 rw [he,hw]
 exact hy
theorem qFb {lt : Nat → Bool} {i : Nat} {oi : Oper} {v : Value} (hi : ops[i]? = some oi) (hli : lt i = true) (hsel : ∀ (j : Nat) (o : Oper) cs b,ops[j]? = some o → o.op ≠ .select cs b) (hr0 : ∀ w : World,R w w) (ht : ∀ a b c : World,R a b → R b c → R a c) :
 ∀ (fuel : Nat) (listed : Array Bool) (a : Act) (w : World),
  (∀ j oj,ops[j]? = some oj → j ≠ i → listed.getD j true = false → (∀ e ∈ oj.after,Region.binds md e = true → e.on ≠ i) → oi.apart ops oj = true) →
  i ∈ Region.ready md ops listed → qCL P ops R oi v a w →
  qCe P md ops R lt Q fuel (listed.setIfInBounds i true) (a.put oi.dst v) w → qCe P md ops R lt Q (fuel + 1) listed a w:=by
 have self : ∀ (fuel : Nat) (listed : Array Bool) (a : Act) (w : World),qCL P ops R oi v a w → qCe P md ops R lt Q fuel (listed.setIfInBounds i true) (a.put oi.dst v) w →
  ∃ o,ops[i]? = some o ∧ if Region.wanted o (yielded ops a.tmps) then o.wp P a w (fun a' w'=>(¬ qQJ md ops lt i → R w w') ∧ qCe P md ops R lt Q fuel (listed.setIfInBounds i true) a' w') qBJ
   else qCe P md ops R lt Q fuel (listed.setIfInBounds i true) (a.put o.dst undef) w:=by
  intro fuel listed a w hy H
  refine ⟨oi,hi,?_⟩
  rcases hy with ⟨hw,hv⟩ | ⟨hw,rfl⟩
  · rw [if_pos hw]
    unfold Oper.wp
    rcases hv w (hr0 w) with e | ⟨e,rfl⟩
    · rw [e];exact ⟨fun _=>hr0 w,H⟩
    · rw [e];exact ⟨fun _=>hr0 w,H⟩
  · rw [if_neg (by rw [hw];simp)];exact H
 intro fuel
 induction fuel with
 | zero =>
  intro listed a w _ hr hy H
  refine ⟨fun h=>(by rw [h] at hr;cases hr),fun j hj=>?_⟩
  by_cases hji : j = i
  · subst hji;exact self 0 listed a w hy H
  · have:=ready_mono hj hji
    rw [H.1] at this
    cases this
 | succ fuel ih =>
  intro listed a w hfree hr hy H
  refine ⟨fun h=>(by rw [h] at hr;cases hr),fun j hj=>?_⟩
  by_cases hji : j = i
  · subst hji;exact self (fuel + 1) listed a w hy H
  · obtain ⟨oj,hoj,h1⟩:=H.2 j (ready_mono hj hji)
    obtain ⟨hjun,oj',hoj',hall⟩:=mem_ready.1 hj
    have hnot : ∀ e ∈ oj.after,Region.binds md e = true → e.on ≠ i:=fun e he hb heq=>by
     have e1 : oj' = oj:=Option.some.inj (hoj'.symm.trans hoj)
     subst e1
     have h1:=hall e he hb
     have h0:=(mem_ready.1 hr).1
     rw [heq] at h1
     rcases Nat.lt_or_ge i listed.size with h' | h'
     · simp [h'] at h0 h1;rw [h0] at h1;cases h1
     · simp [Array.getElem?_eq_none h'] at h1
    have hap:=hfree j oj hoj hji hjun hnot
    have hne : ¬ qQJ md ops lt j:=fun hE=>by
     obtain ⟨e,he,hb,hon⟩:=hE oj hoj i hli
     exact hnot e he hb hon
    obtain ⟨a1,a2,a3⟩:=Oper.apart_spec hap
    have hfree' : ∀ k ok,ops[k]? = some ok → k ≠ i → (listed.setIfInBounds j true).getD k true = false →
     (∀ e ∈ ok.after,Region.binds md e = true → e.on ≠ i) → oi.apart ops ok = true:=fun k ok hk hki hun hno=>by
     refine hfree k ok hk hki ?_ hno
     by_cases hjk : j = k
     · subst hjk;exact hjun
     · rw [getD_set_ne true hjk] at hun;exact hun
    have hsi:=fun cs b=>hsel i oi cs b hi
    have hsj:=fun cs b=>hsel j oj cs b hoj
    have keep : ∀ (a : Act) (w : World),qCL P ops R oi v a w → ∀ u,qCL P ops R oi v (a.put oj.dst u) w:=fun a w hy u =>
     hy.of_same (execOp_put oi hsi a oj.dst u a3) (wanted_put oi a oj.dst u a3)
    have go : ∀ (u : Value) (w' : World),R w w' → qCe P md ops R lt Q fuel ((listed.setIfInBounds i true).setIfInBounds j true) ((a.put oi.dst v).put oj.dst u) w' →
     qCe P md ops R lt Q (fuel + 1) (listed.setIfInBounds j true) (a.put oj.dst u) w':=by
     intro u w' hrw h3
     refine ih (listed.setIfInBounds j true) _ w' hfree' (ready_mono hr (Ne.symm hji)) ((keep a w hy u).later ht hrw) ?_
     rw [Array.setIfInBounds_comm _ _ hji,← Act.put_comm a v u a2]
     exact h3
    refine ⟨oj,hoj,?_⟩
    rw [wanted_put oj a oi.dst v a1] at h1
    split
    · rename_i hw
      rw [if_pos hw] at h1
      unfold Oper.wp at *
      rw [execOp_put oj hsj a oi.dst v a1] at h1
      generalize (execOp a.eval oj).run P w = r at *
      cases r with
      | ok n w' =>
       cases n <;> simp only [Oper.upon] at h1 ⊢
       case value u=>exact ⟨h1.1,go u w' (h1.1 hne) h1.2⟩
       case skip=>exact ⟨h1.1,go undef w' (h1.1 hne) h1.2⟩
       case defer d =>
        have keepD : qCL P ops R oi v { a with defers:=d :: a.defers } w:=hy.of_same rfl rfl
        refine ⟨h1.1,?_⟩
        refine ih (listed.setIfInBounds j true) _ w' hfree' (ready_mono hr (Ne.symm hji)) ((keep _ w keepD undef).later ht (h1.1 hne)) ?_
        rw [Array.setIfInBounds_comm _ _ hji,← Act.put_comm _ v undef a2,← Act.put_defers]
        exact h1.2
       case enter f args =>
        refine Calls.mono h1 fun e w'' he=>?_
        cases e with
        | returned u=>exact ⟨he.1,go u w'' (he.1 hne) he.2⟩
        | panicked c=>exact he
        | outgrown=>exact he
       case row row args=>exact Rows.mono h1 fun u w'' he=>⟨he.1,go u w'' (he.1 hne) he.2⟩
      | halt x w' =>
       cases x <;> simp only [Oper.upon] at h1 ⊢
       case panic u=>exact h1
    · rename_i hw
      rw [if_neg hw] at h1
      exact go undef w (hr0 w) h1
theorem qDZ {L : List (Nat × Nat)} {i : Nat} (h : L.contains (i,0) = true) : qHa L i = true :=
 List.any_eq_true.2 ⟨(i,0),by simpa using h,by simp⟩
theorem qBA {L : List (Nat × Nat)} (hs : Region.noSelect ops = true) (hr0 : ∀ w : World,R w w) (ht : ∀ a b c : World,R a b → R b c → R a c) : ∀ (l : List (Nat × Nat)) (listed : Array Bool) (a : Act) (w : World),
 qCd md ops L l listed = true → qAL P ops R Q l a w → qCe P md ops R (qHa L) Q l.length listed a w
 | [],listed,a,w,hB,h=>⟨by simpa [qCd] using hB,h⟩
 | (i,0) :: l,listed,a,w,hB,h=>by
  simp only [qCd,Bool.and_eq_true] at hB
  obtain ⟨⟨⟨hr,hf⟩,hL⟩,hB'⟩:=hB
  obtain ⟨o,v,ho,hy,h1⟩:=h
  exact qFb ho (qDZ hL) (Region.noSelect_spec hs) hr0 ht l.length listed a w (Region.free_spec ho hf) (by simpa using hr) hy (qBA hs hr0 ht l _ _ w hB' h1)
 | (i,1) :: l,listed,a,w,hB,h=>by
  simp only [qCd,Bool.and_eq_true,decide_eq_true_eq] at hB
  obtain ⟨o,ho,h1⟩:=h
  refine ⟨fun h0=>(by rw [h0] at hB;cases hB.1),fun j hj=>?_⟩
  rw [hB.1,List.mem_singleton] at hj
  subst hj
  refine ⟨o,ho,?_⟩
  split
  · rename_i hw;rw [if_pos hw] at h1
    exact Oper.wp_mono (fun a' w' ⟨h2,h3⟩=>⟨fun _=>h2,qBA hs hr0 ht l _ a' w' hB.2 h3⟩) h1
  · rename_i hw;rw [if_neg hw] at h1
    exact qBA hs hr0 ht l _ _ w hB.2 h1
 | (i,n + 2) :: l,listed,a,w,hB,h=>by
  simp only [qCd,Bool.and_eq_true,decide_eq_true_eq] at hB
  obtain ⟨⟨hB1,hE⟩,hB2⟩:=hB
  obtain ⟨o,ho,h1⟩:=h
  refine ⟨fun h0=>(by rw [h0] at hB1;cases hB1),fun j hj=>?_⟩
  rw [hB1,List.mem_singleton] at hj
  subst hj
  refine ⟨o,ho,?_⟩
  split
  · rename_i hw;rw [if_pos hw] at h1
    exact Oper.wp_mono (fun a' w' h3=>⟨fun hn=>absurd (qIX hE) hn,qBA hs hr0 ht l _ a' w' hB2 h3⟩) h1
  · rename_i hw;rw [if_neg hw] at h1
    exact qBA hs hr0 ht l _ _ w hB2 h1
theorem qB8 {id : Nat} {a : Act} {w : World} (R : World → World → Prop) (l : List (Nat × Nat)) (hm : P.follows .mixedOrders = true)
 (hB : (Region.noSelect ops && decide (l.length = ops.size) && qCd .any ops l l (Array.replicate ops.size false)) = true)
 (hr0 : ∀ w : World,R w w) (ht : ∀ a b c : World,R a b → R b c → R a c)
 (h : qAL P ops R Q l a { w with drawn:=w.drawn + 1 }) : (Code.region id ops true).wp P Q a w:=by
 simp only [Bool.and_eq_true,decide_eq_true_eq] at hB
 refine wp_region_any hm ?_
 rw [← hB.1.2]
 exact qDB _ _ _ _ (qBA hB.1.1 hr0 ht l _ a _ (by rw [hB.1.2];exact hB.2) h)
theorem qA5 {id : Nat} {a : Act} {w : World} (l : List (Nat × Nat)) (hm : P.follows .mixedOrders = true)
 (hB : (Region.noSelect ops && decide (l.length = ops.size) && qCd .any ops l l (Array.replicate ops.size false)) = true)
 (h : ∀ w0,qA4 w w0 → qAL P ops qA4 Q l a w0) : (Code.region id ops true).wp P Q a w :=
 qB8 qA4 l hm hB (fun _=>Below.refl _ _) (fun _ _ _ h1 h2=>h1.of h2) (h _ (qA4.drawn w))
theorem qDO {id : Nat} {a : Act} {w : World} (B : Nat) (l : List (Nat × Nat)) (hm : P.follows .mixedOrders = true)
 (hB : (Region.noSelect ops && decide (l.length = ops.size) && qCd .any ops l l (Array.replicate ops.size false)) = true)
 (h : ∀ w0,qA4 w w0 → qAL P ops (Below B) Q l a w0) : (Code.region id ops true).wp P Q a w :=
 qB8 (Below B) l hm hB (fun _=>Below.refl _ _) (fun _ _ _ h1 h2=>h1.trans h2) (h _ (qA4.drawn w))
theorem qB5 {i : Nat} {rest : List (Nat × Nat)} {a : Act} {w : World} (o : Oper) (ho' : ops.toList[i]? = some o)
 (h : ∀ K : Act → World → Prop,(∀ a' w',R w w' → qAL P ops R Q rest a' w' → K a' w') → if Region.wanted o (yielded ops a.tmps) then o.wp P a w K qBJ else (∀ a' w',qAL P ops R Q rest a' w' → K a' w') → K (a.put o.dst undef) w) : qAL P ops R Q ((i,1) :: rest) a w:=by
 have ho : ops[i]? = some o:=by rw [← ho',Array.getElem?_toList]
 refine ⟨o,ho,?_⟩
 split
 · rename_i hw
   have:=h (fun a' w'=>R w w' ∧ qAL P ops R Q rest a' w') (fun a' w' h1 h2=>⟨h1,h2⟩)
   rw [if_pos hw] at this;exact this
 · rename_i hw
   have:=h (qAL P ops R Q rest) (fun a' w' h1 h2=>h2)
   rw [if_neg hw] at this;exact this fun _ _ h=>h
theorem qAh {i : Nat} {rest : List (Nat × Nat)} {a : Act} {w : World} (o : Oper) (ho' : ops.toList[i]? = some o)
 (h : ∀ K : Act → World → Prop,(∀ a' w',qAL P ops R Q rest a' w' → K a' w') → if Region.wanted o (yielded ops a.tmps) then o.wp P a w K qBJ else K (a.put o.dst undef) w) : qAL P ops R Q ((i,2) :: rest) a w:=by
 have ho : ops[i]? = some o:=by rw [← ho',Array.getElem?_toList]
 exact ⟨o,ho,h _ fun _ _ h=>h⟩
theorem qA0 {i : Nat} {rest : List (Nat × Nat)} {a : Act} {w : World} (o : Oper) (ho' : ops.toList[i]? = some o)
 (h : ∀ K : Act → Prop,(∀ a',qAL P ops R Q rest a' w → K a') → if Region.wanted o (yielded ops a.tmps) then (∃ v,(∀ w',R w w' → (execOp a.eval o).run P w' = .ok (.value v) w') ∧ K (a.put o.dst v)) else K (a.put o.dst undef)) :
 qAL P ops R Q ((i,0) :: rest) a w:=by
 have ho : ops[i]? = some o:=by rw [← ho',Array.getElem?_toList]
 have:=h (fun a'=>qAL P ops R Q rest a' w) (fun _ h=>h)
 by_cases hw : Region.wanted o (yielded ops a.tmps) = true
 · rw [if_pos hw] at this
   obtain ⟨v,h1,h2⟩:=this
   exact ⟨o,v,ho,.inl ⟨hw,fun w' hr=>.inl (h1 w' hr)⟩,h2⟩
 · rw [if_neg hw] at this
   exact ⟨o,undef,ho,.inr ⟨by simpa using hw,rfl⟩,this⟩
theorem qA7 {a : Act} {w : World} (h : Q .normal a w) : qAL P ops R Q [] a w:=h
theorem qqH {i : Nat} {rest : List (Nat × Nat)} {a : Act} {w : World} (o : Oper) (ho' : ops.toList[i]? = some o) (hg : Region.wanted o (yielded ops a.tmps) = true) (h : ∀ K : Act → World → Prop,(∀ a' w',R w w' → qAL P ops R Q rest a' w' → K a' w') → o.wp P a w K qBJ) : qAL P ops R Q ((i,1) :: rest) a w:=qB5 o ho' fun K hK=>qqP hg (h K hK)
theorem qA4.at {W w : World} (h : qA4 W w) {a : Addr} {v : Value} (hc : W.cell? a = some v) : w.cell? a = some v:=(h.cell (World.block_lt_of_cell? W _ hc)).trans hc
theorem qDC {B : Nat} {W w : World} (h : Below B W w) {a : Addr} {v : Value} (hc : W.cell? a = some v) (hlt : a.block < B) : w.cell? a = some v:=(h.cell hlt).trans hc
end
def qBk (B : Nat) (w w' : World) : Prop:=w.heap.size ≤ w'.heap.size ∧ ∀ b,B ≤ b → b < w.heap.size → w'.heap[b]? = w.heap[b]?
section
variable {B : Nat} {w w' w'' : World}
theorem qBk.refl (B : Nat) (w : World) : qBk B w w:=⟨Nat.le_refl _,fun _ _ _=>rfl⟩
theorem qBk.trans (h : qBk B w w') (h' : qBk B w' w'') : qBk B w w'' :=
 ⟨Nat.le_trans h.1 h'.1,fun b h1 h2=>(h'.2 b h1 (Nat.lt_of_lt_of_le h2 h.1)).trans (h.2 b h1 h2)⟩
theorem qBk.setCell {a : Addr} (ha : a.block < B) (v : Value) : qBk B w (w.setCell a v) :=
 ⟨by simp [World.setCell],fun b h1 _=>by
  have : a.block ≠ b:=by omega
  simp [World.setCell,Array.getElem?_modify,this]⟩
theorem qBk.cell (h : qBk B w w') {a : Addr} {v : Value} (hc : w.cell? a = some v) (hb : B ≤ a.block) : w'.cell? a = some v:=by
 have:=h.2 a.block hb (World.block_lt_of_cell? w _ hc)
 unfold World.cell? at *
 rw [this];exact hc
theorem Blk.above {b : Nat} {cs : Array Value} {t : TypeId} (hB : Blk w b cs t) (h : qBk B w w') (hb : B ≤ b) : Blk w' b cs t:=(h.2 b hb hB.lt).trans hB
theorem qHY {e size n : Nat} {v : Value} {cs : List Value} (h : w.ownsRow B e size v n cs) (hb : qBk B w w') : w'.ownsRow B e size v n cs:=by
 obtain ⟨hl,h⟩:=h
 refine ⟨hl,?_⟩
 rcases h with h | ⟨g,cap,cur,rfl,hbg,hg,hn,hc,hs,ht⟩
 · exact .inl h
 · exact .inr ⟨g,cap,cur,rfl,hbg,(hb.2 g hbg (Array.getElem?_eq_some_iff.1 hg).1).trans hg,hn,hc,hs,ht⟩
end
theorem qDP {P : Program} {ops : Array Oper} {Q : Exit → Act → World → Prop} {id : Nat} {a : Act} {w : World} (B : Nat) (l : List (Nat × Nat)) (hm : P.follows .mixedOrders = true)
 (hB : (Region.noSelect ops && decide (l.length = ops.size) && qCd .any ops l l (Array.replicate ops.size false)) = true)
 (h : ∀ w0,qA4 w w0 → qAL P ops (qBk B) Q l a w0) : (Code.region id ops true).wp P Q a w :=
 qB8 (qBk B) l hm hB (fun _=>qBk.refl _ _) (fun _ _ _ h1 h2=>h1.trans h2) (h _ (qA4.drawn w))
inductive qGs
 | nil : qGs
 | light : Nat → qGs → qGs
 | heavy : Nat → qGs → qGs
 | last : Nat → qGs → qGs
 | two : Nat → Nat → qGs → qGs → qGs
def qGs.size : qGs → Nat
 | .nil=>0
 | .light _ p=>p.size + 1
 | .heavy _ p=>p.size + 1
 | .last _ p=>p.size + 1
 | .two _ _ p _=>p.size + 1
section
variable {P : Program} {ops : Array Oper} {R : World → World → Prop} {Q : Exit → Act → World → Prop} {md : Region.Mode}
def qO1 (P : Program) (ops : Array Oper) (R : World → World → Prop) (i : Nat) (F : Act → World → Prop) (a : Act) (w : World) : Prop :=
 ∃ o,ops[i]? = some o ∧ if Region.wanted o (yielded ops a.tmps) then o.wp P a w (fun a' w'=>R w w' ∧ F a' w') qBJ else F (a.put o.dst undef) w
def qBB (P : Program) (ops : Array Oper) (R : World → World → Prop) (Q : Exit → Act → World → Prop) : qGs → Act → World → Prop
 | .nil,a,w=>Q .normal a w
 | .light i p,a,w=>∃ o v,ops[i]? = some o ∧ qCL P ops R o v a w ∧ qBB P ops R Q p (a.put o.dst v) w
 | .heavy i p,a,w=>qO1 P ops R i (qBB P ops R Q p) a w
 | .last i p,a,w=>∃ o,ops[i]? = some o ∧ if Region.wanted o (yielded ops a.tmps) then o.wp P a w (qBB P ops R Q p) qBJ else qBB P ops R Q p (a.put o.dst undef) w
 | .two i j p q,a,w=>qO1 P ops R i (qBB P ops R Q p) a w ∧ qO1 P ops R j (qBB P ops R Q q) a w
def qEg (md : Region.Mode) (ops : Array Oper) (L : List (Nat × Nat)) : qGs → Array Bool → Bool
 | .nil,listed=>(Region.ready md ops listed).isEmpty
 | .light i p,listed=>(Region.ready md ops listed).contains i && Region.free md ops listed i && L.contains (i,0) && qEg md ops L p (listed.setIfInBounds i true)
 | .heavy i p,listed=>decide (Region.ready md ops listed = [i]) && qEg md ops L p (listed.setIfInBounds i true)
 | .last i p,listed=>decide (Region.ready md ops listed = [i]) && qKO md ops L i && qEg md ops L p (listed.setIfInBounds i true)
 | .two i j p q,listed=>decide (Region.ready md ops listed = [i,j]) && decide (p.size = q.size) && qEg md ops L p (listed.setIfInBounds i true) && qEg md ops L q (listed.setIfInBounds j true)
theorem qO1.any {lt : Nat → Bool} {i fuel : Nat} {F : Act → World → Prop} {listed : Array Bool} {a : Act} {w : World} (h : qO1 P ops R i F a w)
 (hF : ∀ a' w',F a' w' → qCe P md ops R lt Q fuel (listed.setIfInBounds i true) a' w') :
 ∃ o,ops[i]? = some o ∧ if Region.wanted o (yielded ops a.tmps) then o.wp P a w (fun a' w'=>(¬ qQJ md ops lt i → R w w') ∧ qCe P md ops R lt Q fuel (listed.setIfInBounds i true) a' w') qBJ
  else qCe P md ops R lt Q fuel (listed.setIfInBounds i true) (a.put o.dst undef) w:=by
 obtain ⟨o,ho,h1⟩:=h
 refine ⟨o,ho,?_⟩
 split
 · rename_i hw;rw [if_pos hw] at h1
   exact Oper.wp_mono (fun a' w' ⟨h2,h3⟩=>⟨fun _=>h2,hF a' w' h3⟩) h1
 · rename_i hw;rw [if_neg hw] at h1
   exact hF _ _ h1
theorem qBx {L : List (Nat × Nat)} (hs : Region.noSelect ops = true) (hr0 : ∀ w : World,R w w) (ht : ∀ a b c : World,R a b → R b c → R a c) : ∀ (l : qGs) (listed : Array Bool) (a : Act) (w : World),
 qEg md ops L l listed = true → qBB P ops R Q l a w → qCe P md ops R (qHa L) Q l.size listed a w
 | .nil,listed,a,w,hB,h=>⟨by simpa [qEg] using hB,h⟩
 | .light i l,listed,a,w,hB,h=>by
  simp only [qEg,Bool.and_eq_true] at hB
  obtain ⟨⟨⟨hr,hf⟩,hL⟩,hB'⟩:=hB
  obtain ⟨o,v,ho,hy,h1⟩:=h
  exact qFb ho (qDZ hL) (Region.noSelect_spec hs) hr0 ht l.size listed a w (Region.free_spec ho hf) (by simpa using hr) hy (qBx hs hr0 ht l _ _ w hB' h1)
 | .heavy i l,listed,a,w,hB,h=>by
  simp only [qEg,Bool.and_eq_true,decide_eq_true_eq] at hB
  refine ⟨fun h0=>(by rw [h0] at hB;cases hB.1),fun j hj=>?_⟩
  rw [hB.1,List.mem_singleton] at hj
  subst hj
  exact qO1.any h fun a' w' h3=>qBx hs hr0 ht l _ a' w' hB.2 h3
 | .last i l,listed,a,w,hB,h=>by
  simp only [qEg,Bool.and_eq_true,decide_eq_true_eq] at hB
  obtain ⟨⟨hB1,hE⟩,hB2⟩:=hB
  obtain ⟨o,ho,h1⟩:=h
  refine ⟨fun h0=>(by rw [h0] at hB1;cases hB1),fun j hj=>?_⟩
  rw [hB1,List.mem_singleton] at hj
  subst hj
  refine ⟨o,ho,?_⟩
  split
  · rename_i hw;rw [if_pos hw] at h1
    exact Oper.wp_mono (fun a' w' h3=>⟨fun hn=>absurd (qIX hE) hn,qBx hs hr0 ht l _ a' w' hB2 h3⟩) h1
  · rename_i hw;rw [if_neg hw] at h1
    exact qBx hs hr0 ht l _ _ w hB2 h1
 | .two i j p q,listed,a,w,hB,h=>by
  simp only [qEg,Bool.and_eq_true,decide_eq_true_eq] at hB
  obtain ⟨⟨⟨hB1,hsz⟩,hp⟩,hq⟩:=hB
  refine ⟨fun h0=>(by rw [h0] at hB1;cases hB1),fun k hk=>?_⟩
  rw [hB1,List.mem_cons,List.mem_singleton] at hk
  rcases hk with rfl | rfl
  · exact qO1.any h.1 fun a' w' h3=>qBx hs hr0 ht p _ a' w' hp h3
  · refine qO1.any h.2 fun a' w' h3=>?_
    have:=qBx hs hr0 ht q _ a' w' hq h3
    rw [← hsz] at this
    exact this
theorem qDW {id : Nat} {a : Act} {w : World} (R : World → World → Prop) (L : List (Nat × Nat)) (l : qGs) (hm : P.follows .mixedOrders = true)
 (hB : (Region.noSelect ops && decide (l.size = ops.size) && qEg .any ops L l (Array.replicate ops.size false)) = true)
 (hr0 : ∀ w : World,R w w) (ht : ∀ a b c : World,R a b → R b c → R a c)
 (h : qBB P ops R Q l a { w with drawn:=w.drawn + 1 }) : (Code.region id ops true).wp P Q a w:=by
 simp only [Bool.and_eq_true,decide_eq_true_eq] at hB
 refine wp_region_any hm ?_
 rw [← hB.1.2]
 exact qDB _ _ _ _ (qBx hB.1.1 hr0 ht l _ a _ (by rw [hB.1.2];exact hB.2) h)
theorem qBe {id : Nat} {a : Act} {w : World} (B : Nat) (L : List (Nat × Nat)) (l : qGs) (hm : P.follows .mixedOrders = true)
 (hB : (Region.noSelect ops && decide (l.size = ops.size) && qEg .any ops L l (Array.replicate ops.size false)) = true)
 (h : ∀ w0,qA4 w w0 → qBB P ops (Below B) Q l a w0) : (Code.region id ops true).wp P Q a w :=
 qDW (Below B) L l hm hB (fun _=>Below.refl _ _) (fun _ _ _ h1 h2=>h1.trans h2) (h _ (qA4.drawn w))
theorem qPA {i : Nat} {F : Act → World → Prop} {a : Act} {w : World} (o : Oper) (ho' : ops.toList[i]? = some o)
 (h : ∀ K : Act → World → Prop,(∀ a' w',R w w' → F a' w' → K a' w') → if Region.wanted o (yielded ops a.tmps) then o.wp P a w K qBJ else (∀ a' w',F a' w' → K a' w') → K (a.put o.dst undef) w) : qO1 P ops R i F a w:=by
 have ho : ops[i]? = some o:=by rw [← ho',Array.getElem?_toList]
 refine ⟨o,ho,?_⟩
 split
 · rename_i hw
   have:=h (fun a' w'=>R w w' ∧ F a' w') (fun a' w' h1 h2=>⟨h1,h2⟩)
   rw [if_pos hw] at this;exact this
 · rename_i hw
   have:=h F (fun a' w' h1 h2=>h2)
   rw [if_neg hw] at this;exact this fun _ _ h=>h
theorem qAa {i : Nat} {rest : qGs} {a : Act} {w : World} (o : Oper) (ho' : ops.toList[i]? = some o)
 (h : ∀ K : Act → World → Prop,(∀ a' w',R w w' → qBB P ops R Q rest a' w' → K a' w') → if Region.wanted o (yielded ops a.tmps) then o.wp P a w K qBJ else (∀ a' w',qBB P ops R Q rest a' w' → K a' w') → K (a.put o.dst undef) w) : qBB P ops R Q (.heavy i rest) a w :=
 qPA o ho' h
theorem qBY {i j : Nat} {p q : qGs} {a : Act} {w : World} (h1 : qBB P ops R Q (.heavy i p) a w) (h2 : qBB P ops R Q (.heavy j q) a w) : qBB P ops R Q (.two i j p q) a w:=⟨h1,h2⟩
theorem qA2 {i : Nat} {rest : qGs} {a : Act} {w : World} (o : Oper) (ho' : ops.toList[i]? = some o)
 (h : ∀ K : Act → Prop,(∀ a',qBB P ops R Q rest a' w → K a') → if Region.wanted o (yielded ops a.tmps) then (∃ v,(∀ w',R w w' → (execOp a.eval o).run P w' = .ok (.value v) w') ∧ K (a.put o.dst v)) else K (a.put o.dst undef)) :
 qBB P ops R Q (.light i rest) a w:=by
 have ho : ops[i]? = some o:=by rw [← ho',Array.getElem?_toList]
 have:=h (fun a'=>qBB P ops R Q rest a' w) (fun _ h=>h)
 by_cases hw : Region.wanted o (yielded ops a.tmps) = true
 · rw [if_pos hw] at this
   obtain ⟨v,h1,h2⟩:=this
   exact ⟨o,v,ho,.inl ⟨hw,fun w' hr=>.inl (h1 w' hr)⟩,h2⟩
 · rw [if_neg hw] at this
   exact ⟨o,undef,ho,.inr ⟨by simpa using hw,rfl⟩,this⟩
theorem qCS {a : Act} {w : World} (h : Q .normal a w) : qBB P ops R Q .nil a w:=h
end
inductive qDa
 | nil : qDa
 | light : Nat → qDa → qDa
 | heavy : Nat → qDa → qDa
 | last : Nat → qDa → qDa
 | two : Nat → Nat → qDa → qDa → qDa
def qDa.size : qDa → Nat
 | .nil=>0
 | .light _ p=>p.size + 1
 | .heavy _ p=>p.size + 1
 | .last _ p=>p.size + 1
 | .two _ _ p _=>p.size + 1
section
variable {P : Program} {ops : Array Oper} {R : Nat → World → World → Prop} {Q : Exit → Act → World → Prop} {md : Region.Mode}
def Dep (md : Region.Mode) (ops : Array Oper) (j l : Nat) : Prop:=∀ o,ops[j]? = some o → ∃ e ∈ o.after,Region.binds md e = true ∧ e.on = l
theorem qQK {L : List (Nat × Nat)} {j l : Nat} (h : qKO md ops L j = true) (hl : L.contains (l,0) = true) : Dep md ops j l:=fun o ho=>qIX h o ho l (qDZ hl)
def qCu (P : Program) (md : Region.Mode) (ops : Array Oper) (R : Nat → World → World → Prop) (lt : Nat → Bool) (Q : Exit → Act → World → Prop) : Nat → Array Bool → Act → World → Prop
 | 0,listed,a,w=>Region.ready md ops listed = [] ∧ Q .normal a w
 | fuel + 1,listed,a,w =>
  (Region.ready md ops listed = [] → Q .normal a w) ∧
  ∀ i ∈ Region.ready md ops listed,∃ o,ops[i]? = some o ∧
   if Region.wanted o (yielded ops a.tmps) then o.wp P a w (fun a' w'=>(∀ l,lt l = true → ¬ Dep md ops i l → R l w w') ∧ qCu P md ops R lt Q fuel (listed.setIfInBounds i true) a' w') qBJ
   else qCu P md ops R lt Q fuel (listed.setIfInBounds i true) (a.put o.dst undef) w
theorem qEM {lt : Nat → Bool} : ∀ (fuel : Nat) (listed : Array Bool) (a : Act) (w : World),qCu P md ops R lt Q fuel listed a w → wpAny P md ops Q fuel listed a w
 | 0,_,_,_,h=>h
 | fuel + 1,_,_,_,h=>⟨h.1,fun i hi=>by
  obtain ⟨o,ho,h2⟩:=h.2 i hi
  unfold wpOp
  simp only [ho]
  split
  · rename_i hw;rw [if_pos hw] at h2
    exact .inl (qHX (Oper.wp_mono (fun a' w' ⟨_,h⟩=>qEM fuel _ a' w' h) h2))
  · rename_i hw;rw [if_neg hw] at h2
    exact qEM fuel _ _ _ h2⟩
theorem qHZ {lt : Nat → Bool} {i : Nat} {oi : Oper} {v : Value} (hi : ops[i]? = some oi) (hli : lt i = true) (hsel : ∀ (j : Nat) (o : Oper) cs b,ops[j]? = some o → o.op ≠ .select cs b) (hr0 : ∀ l (w : World),R l w w) (ht : ∀ l (a b c : World),R l a b → R l b c → R l a c) :
 ∀ (fuel : Nat) (listed : Array Bool) (a : Act) (w : World),
  (∀ j oj,ops[j]? = some oj → j ≠ i → listed.getD j true = false → (∀ e ∈ oj.after,Region.binds md e = true → e.on ≠ i) → oi.apart ops oj = true) →
  i ∈ Region.ready md ops listed → qCL P ops (R i) oi v a w →
  qCu P md ops R lt Q fuel (listed.setIfInBounds i true) (a.put oi.dst v) w → qCu P md ops R lt Q (fuel + 1) listed a w:=by
 have self : ∀ (fuel : Nat) (listed : Array Bool) (a : Act) (w : World),qCL P ops (R i) oi v a w → qCu P md ops R lt Q fuel (listed.setIfInBounds i true) (a.put oi.dst v) w →
  ∃ o,ops[i]? = some o ∧ if Region.wanted o (yielded ops a.tmps) then o.wp P a w (fun a' w'=>(∀ l,lt l = true → ¬ Dep md ops i l → R l w w') ∧ qCu P md ops R lt Q fuel (listed.setIfInBounds i true) a' w') qBJ
   else qCu P md ops R lt Q fuel (listed.setIfInBounds i true) (a.put o.dst undef) w:=by
  intro fuel listed a w hy H
  refine ⟨oi,hi,?_⟩
  rcases hy with ⟨hw,hv⟩ | ⟨hw,rfl⟩
  · rw [if_pos hw]
    unfold Oper.wp
    rcases hv w (hr0 i w) with e | ⟨e,rfl⟩
    · rw [e];exact ⟨fun l _ _=>hr0 l w,H⟩
    · rw [e];exact ⟨fun l _ _=>hr0 l w,H⟩
  · rw [if_neg (by rw [hw];simp)];exact H
 intro fuel
 induction fuel with
 | zero =>
  intro listed a w _ hr hy H
  refine ⟨fun h=>(by rw [h] at hr;cases hr),fun j hj=>?_⟩
  by_cases hji : j = i
  · subst hji;exact self 0 listed a w hy H
  · have:=ready_mono hj hji
    rw [H.1] at this
    cases this
 | succ fuel ih =>
  intro listed a w hfree hr hy H
  refine ⟨fun h=>(by rw [h] at hr;cases hr),fun j hj=>?_⟩
  by_cases hji : j = i
  · subst hji;exact self (fuel + 1) listed a w hy H
  · obtain ⟨oj,hoj,h1⟩:=H.2 j (ready_mono hj hji)
    obtain ⟨hjun,oj',hoj',hall⟩:=mem_ready.1 hj
    have hnot : ∀ e ∈ oj.after,Region.binds md e = true → e.on ≠ i:=fun e he hb heq=>by
     have e1 : oj' = oj:=Option.some.inj (hoj'.symm.trans hoj)
     subst e1
     have h1:=hall e he hb
     have h0:=(mem_ready.1 hr).1
     rw [heq] at h1
     rcases Nat.lt_or_ge i listed.size with h' | h'
     · simp [h'] at h0 h1;rw [h0] at h1;cases h1
     · simp [Array.getElem?_eq_none h'] at h1
    have hap:=hfree j oj hoj hji hjun hnot
    have hne : ¬ Dep md ops j i:=fun hE=>by
     obtain ⟨e,he,hb,hon⟩:=hE oj hoj
     exact hnot e he hb hon
    obtain ⟨a1,a2,a3⟩:=Oper.apart_spec hap
    have hfree' : ∀ k ok,ops[k]? = some ok → k ≠ i → (listed.setIfInBounds j true).getD k true = false →
     (∀ e ∈ ok.after,Region.binds md e = true → e.on ≠ i) → oi.apart ops ok = true:=fun k ok hk hki hun hno=>by
     refine hfree k ok hk hki ?_ hno
     by_cases hjk : j = k
     · subst hjk;exact hjun
     · rw [getD_set_ne true hjk] at hun;exact hun
    have hsi:=fun cs b=>hsel i oi cs b hi
    have hsj:=fun cs b=>hsel j oj cs b hoj
    have keep : ∀ (a : Act) (w : World),qCL P ops (R i) oi v a w → ∀ u,qCL P ops (R i) oi v (a.put oj.dst u) w:=fun a w hy u =>
     hy.of_same (execOp_put oi hsi a oj.dst u a3) (wanted_put oi a oj.dst u a3)
    have go : ∀ (u : Value) (w' : World),R i w w' → qCu P md ops R lt Q fuel ((listed.setIfInBounds i true).setIfInBounds j true) ((a.put oi.dst v).put oj.dst u) w' →
     qCu P md ops R lt Q (fuel + 1) (listed.setIfInBounds j true) (a.put oj.dst u) w':=by
     intro u w' hrw h3
     refine ih (listed.setIfInBounds j true) _ w' hfree' (ready_mono hr (Ne.symm hji)) ((keep a w hy u).later (ht i) hrw) ?_
     rw [Array.setIfInBounds_comm _ _ hji,← Act.put_comm a v u a2]
     exact h3
    refine ⟨oj,hoj,?_⟩
    rw [wanted_put oj a oi.dst v a1] at h1
    split
    · rename_i hw
      rw [if_pos hw] at h1
      unfold Oper.wp at *
      rw [execOp_put oj hsj a oi.dst v a1] at h1
      generalize (execOp a.eval oj).run P w = r at *
      cases r with
      | ok n w' =>
       cases n <;> simp only [Oper.upon] at h1 ⊢
       case value u=>exact ⟨h1.1,go u w' (h1.1 i hli hne) h1.2⟩
       case skip=>exact ⟨h1.1,go undef w' (h1.1 i hli hne) h1.2⟩
       case defer d =>
        have keepD : qCL P ops (R i) oi v { a with defers:=d :: a.defers } w:=hy.of_same rfl rfl
        refine ⟨h1.1,?_⟩
        refine ih (listed.setIfInBounds j true) _ w' hfree' (ready_mono hr (Ne.symm hji)) ((keep _ w keepD undef).later (ht i) (h1.1 i hli hne)) ?_
        rw [Array.setIfInBounds_comm _ _ hji,← Act.put_comm _ v undef a2,← Act.put_defers]
        exact h1.2
       case enter f args =>
        refine Calls.mono h1 fun e w'' he=>?_
        cases e with
        | returned u=>exact ⟨he.1,go u w'' (he.1 i hli hne) he.2⟩
        | panicked c=>exact he
        | outgrown=>exact he
       case row row args=>exact Rows.mono h1 fun u w'' he=>⟨he.1,go u w'' (he.1 i hli hne) he.2⟩
      | halt x w' =>
       cases x <;> simp only [Oper.upon] at h1 ⊢
       case panic u=>exact h1
    · rename_i hw
      rw [if_neg hw] at h1
      exact go undef w (hr0 i w) h1
def qFo (L : List (Nat × Nat)) (R0 R1 : World → World → Prop) (i : Nat) : World → World → Prop:=if L.contains (i,0) then R0 else R1
def qFG (P : Program) (ops : Array Oper) (R : World → World → Prop) (i : Nat) (F : Act → World → Prop) (a : Act) (w : World) : Prop :=
 ∃ o,ops[i]? = some o ∧ if Region.wanted o (yielded ops a.tmps) then o.wp P a w (fun a' w'=>R w w' ∧ F a' w') qBJ else F (a.put o.dst undef) w
variable {R0 R1 : World → World → Prop}
def qBK (P : Program) (ops : Array Oper) (L : List (Nat × Nat)) (R0 R1 : World → World → Prop) (Q : Exit → Act → World → Prop) : qDa → Act → World → Prop
 | .nil,a,w=>Q .normal a w
 | .light i p,a,w=>∃ o v,ops[i]? = some o ∧ qCL P ops (qFo L R0 R1 i) o v a w ∧ qBK P ops L R0 R1 Q p (a.put o.dst v) w
 | .heavy i p,a,w=>qFG P ops R0 i (qBK P ops L R0 R1 Q p) a w
 | .last i p,a,w=>qFG P ops R1 i (qBK P ops L R0 R1 Q p) a w
 | .two i j p q,a,w=>qFG P ops R0 i (qBK P ops L R0 R1 Q p) a w ∧ qFG P ops R0 j (qBK P ops L R0 R1 Q q) a w
def qD7 (md : Region.Mode) (ops : Array Oper) (L : List (Nat × Nat)) : qDa → Array Bool → Bool
 | .nil,listed=>(Region.ready md ops listed).isEmpty
 | .light i p,listed=>(Region.ready md ops listed).contains i && Region.free md ops listed i && qD7 md ops L p (listed.setIfInBounds i true)
 | .heavy i p,listed=>decide (Region.ready md ops listed = [i]) && qD7 md ops L p (listed.setIfInBounds i true)
 | .last i p,listed=>decide (Region.ready md ops listed = [i]) && qKO md ops L i && qD7 md ops L p (listed.setIfInBounds i true)
 | .two i j p q,listed=>decide (Region.ready md ops listed = [i,j]) && decide (p.size = q.size) && qD7 md ops L p (listed.setIfInBounds i true) && qD7 md ops L q (listed.setIfInBounds j true)
theorem qFG.any {R : Nat → World → World → Prop} {lt : Nat → Bool} {S : World → World → Prop} {i fuel : Nat} {F : Act → World → Prop} {listed : Array Bool} {a : Act} {w : World} (h : qFG P ops S i F a w) (hS : ∀ w w',S w w' → ∀ l,lt l = true → ¬ Dep md ops i l → R l w w')
 (hF : ∀ a' w',F a' w' → qCu P md ops R lt Q fuel (listed.setIfInBounds i true) a' w') :
 ∃ o,ops[i]? = some o ∧ if Region.wanted o (yielded ops a.tmps) then o.wp P a w (fun a' w'=>(∀ l,lt l = true → ¬ Dep md ops i l → R l w w') ∧ qCu P md ops R lt Q fuel (listed.setIfInBounds i true) a' w') qBJ
  else qCu P md ops R lt Q fuel (listed.setIfInBounds i true) (a.put o.dst undef) w:=by
 obtain ⟨o,ho,h1⟩:=h
 refine ⟨o,ho,?_⟩
 split
 · rename_i hw;rw [if_pos hw] at h1
   exact Oper.wp_mono (fun a' w' ⟨h2,h3⟩=>⟨hS _ _ h2,hF a' w' h3⟩) h1
 · rename_i hw;rw [if_neg hw] at h1
   exact hF _ _ h1
theorem qIY {L : List (Nat × Nat)} (hs : Region.noSelect ops = true) (h01 : ∀ a b : World,R0 a b → R1 a b) (hr0 : ∀ w : World,R0 w w) (ht0 : ∀ a b c : World,R0 a b → R0 b c → R0 a c) (ht1 : ∀ a b c : World,R1 a b → R1 b c → R1 a c) : ∀ (l : qDa) (listed : Array Bool) (a : Act) (w : World),
 qD7 md ops L l listed = true → qBK P ops L R0 R1 Q l a w → qCu P md ops (qFo L R0 R1) (fun _=>true) Q l.size listed a w:=by
 have hr : ∀ l (w : World),qFo L R0 R1 l w w:=fun l w=>by unfold qFo;split;exact hr0 w;exact h01 _ _ (hr0 w)
 have ht : ∀ l (a b c : World),qFo L R0 R1 l a b → qFo L R0 R1 l b c → qFo L R0 R1 l a c:=fun l a b c=>by unfold qFo;split;exact ht0 a b c;exact ht1 a b c
 have hv : ∀ (i : Nat) (w w' : World),R0 w w' → ∀ l,(fun _ : Nat=>true) l = true → ¬ Dep md ops i l → qFo L R0 R1 l w w':=fun i w w' h l _ _=>by unfold qFo;split;exact h;exact h01 _ _ h
 intro l
 induction l with
 | nil=>intro listed a w hB h;exact ⟨by simpa [qD7] using hB,h⟩
 | light i l ih =>
  intro listed a w hB h
  simp only [qD7,Bool.and_eq_true] at hB
  obtain ⟨⟨hr',hf⟩,hB'⟩:=hB
  obtain ⟨o,v,ho,hy,h1⟩:=h
  exact qHZ ho rfl (Region.noSelect_spec hs) hr ht l.size listed a w (Region.free_spec ho hf) (by simpa using hr') hy (ih _ _ w hB' h1)
 | heavy i l ih =>
  intro listed a w hB h
  simp only [qD7,Bool.and_eq_true,decide_eq_true_eq] at hB
  refine ⟨fun h0=>(by rw [h0] at hB;cases hB.1),fun j hj=>?_⟩
  rw [hB.1,List.mem_singleton] at hj
  subst hj
  exact qFG.any h (hv j) fun a' w' h3=>ih _ a' w' hB.2 h3
 | last i l ih =>
  intro listed a w hB h
  simp only [qD7,Bool.and_eq_true,decide_eq_true_eq] at hB
  obtain ⟨⟨hB1,hE⟩,hB2⟩:=hB
  refine ⟨fun h0=>(by rw [h0] at hB1;cases hB1),fun j hj=>?_⟩
  rw [hB1,List.mem_singleton] at hj
  subst hj
  refine qFG.any h (fun w w' h2 l _ hn=>?_) fun a' w' h3=>ih _ a' w' hB2 h3
  unfold qFo
  split
  · rename_i hl
    exact absurd (qQK hE hl) hn
  · exact h2
 | two i j p q ihp ihq =>
  intro listed a w hB h
  simp only [qD7,Bool.and_eq_true,decide_eq_true_eq] at hB
  obtain ⟨⟨⟨hB1,hsz⟩,hp⟩,hq⟩:=hB
  refine ⟨fun h0=>(by rw [h0] at hB1;cases hB1),fun k hk=>?_⟩
  rw [hB1,List.mem_cons,List.mem_singleton] at hk
  rcases hk with rfl | rfl
  · exact qFG.any h.1 (hv k) fun a' w' h3=>ihp _ a' w' hp h3
  · refine qFG.any h.2 (hv k) fun a' w' h3=>?_
    have:=ihq _ a' w' hq h3
    rw [← hsz] at this
    exact this
theorem qFH {id : Nat} {a : Act} {w : World} (R0 R1 : World → World → Prop) (L : List (Nat × Nat)) (l : qDa) (hm : P.follows .mixedOrders = true)
 (hB : (Region.noSelect ops && decide (l.size = ops.size) && qD7 .any ops L l (Array.replicate ops.size false)) = true)
 (h01 : ∀ a b : World,R0 a b → R1 a b) (hr0 : ∀ w : World,R0 w w) (ht0 : ∀ a b c : World,R0 a b → R0 b c → R0 a c) (ht1 : ∀ a b c : World,R1 a b → R1 b c → R1 a c)
 (h : ∀ w0,qA4 w w0 → qBK P ops L R0 R1 Q l a w0) : (Code.region id ops true).wp P Q a w:=by
 simp only [Bool.and_eq_true,decide_eq_true_eq] at hB
 refine wp_region_any hm ?_
 rw [← hB.1.2]
 exact qEM _ _ _ _ (qIY hB.1.1 h01 hr0 ht0 ht1 l _ a _ (by rw [hB.1.2];exact hB.2) (h _ (qA4.drawn w)))
variable {L : List (Nat × Nat)}
theorem qO2 {R : World → World → Prop} {i : Nat} {F : Act → World → Prop} {a : Act} {w : World} (o : Oper) (ho' : ops.toList[i]? = some o)
 (h : ∀ K : Act → World → Prop,(∀ a' w',R w w' → F a' w' → K a' w') → if Region.wanted o (yielded ops a.tmps) then o.wp P a w K qBJ else (∀ a' w',F a' w' → K a' w') → K (a.put o.dst undef) w) : qFG P ops R i F a w:=by
 have ho : ops[i]? = some o:=by rw [← ho',Array.getElem?_toList]
 refine ⟨o,ho,?_⟩
 split
 · rename_i hw
   have:=h (fun a' w'=>R w w' ∧ F a' w') (fun a' w' h1 h2=>⟨h1,h2⟩)
   rw [if_pos hw] at this;exact this
 · rename_i hw
   have:=h F (fun a' w' h1 h2=>h2)
   rw [if_neg hw] at this;exact this fun _ _ h=>h
theorem qGA {i : Nat} {rest : qDa} {a : Act} {w : World} (o : Oper) (ho' : ops.toList[i]? = some o)
 (h : ∀ K : Act → World → Prop,(∀ a' w',R1 w w' → qBK P ops L R0 R1 Q rest a' w' → K a' w') → if Region.wanted o (yielded ops a.tmps) then o.wp P a w K qBJ else (∀ a' w',qBK P ops L R0 R1 Q rest a' w' → K a' w') → K (a.put o.dst undef) w) : qBK P ops L R0 R1 Q (.last i rest) a w :=
 qO2 o ho' h
theorem qAk {i : Nat} {rest : qDa} {a : Act} {w : World} (o : Oper) (ho' : ops.toList[i]? = some o) (R : World → World → Prop) (hR : qFo L R0 R1 i = R)
 (h : ∀ K : Act → Prop,(∀ a',qBK P ops L R0 R1 Q rest a' w → K a') → if Region.wanted o (yielded ops a.tmps) then (∃ v,(∀ w',R w w' → (execOp a.eval o).run P w' = .ok (.value v) w') ∧ K (a.put o.dst v)) else K (a.put o.dst undef)) :
 qBK P ops L R0 R1 Q (.light i rest) a w:=by
 subst hR
 have ho : ops[i]? = some o:=by rw [← ho',Array.getElem?_toList]
 have:=h (fun a'=>qBK P ops L R0 R1 Q rest a' w) (fun _ h=>h)
 by_cases hw : Region.wanted o (yielded ops a.tmps) = true
 · rw [if_pos hw] at this
   obtain ⟨v,h1,h2⟩:=this
   exact ⟨o,v,ho,.inl ⟨hw,fun w' hr=>.inl (h1 w' hr)⟩,h2⟩
 · rw [if_neg hw] at this
   exact ⟨o,undef,ho,.inr ⟨by simpa using hw,rfl⟩,this⟩
theorem qLZ {a : Act} {w : World} (h : Q .normal a w) : qBK P ops L R0 R1 Q .nil a w:=h
end
end Go.Proofs.YtdlgihbpiakebaaGreat
