import Derived.Test.YtdlgihbpiakebaaGreatMd02
import Derived.Orders
set_option maxRecDepth 100000
set_option maxHeartbeats 4000000
namespace Go.Proofs.YtdlgihbpiakebaaGreat
open Go Go.RowKit
def waits (ops : Array Oper) (t j : Nat) : Bool :=
 match ops[t]? with
 | some o=>o.after.any fun e=>Region.binds .any e && e.on == j
 | none=>false
theorem qH9 {ops : Array Oper} {t j : Nat} {o : Oper} (ho : ops[t]? = some o) (h : waits ops t j = true) : ∃ e ∈ o.after,Region.binds .any e = true ∧ e.on = j:=by
 unfold waits at h
 rw [ho] at h
 obtain ⟨e,he,hb⟩:=Array.any_eq_true'.1 h
 simp only [Bool.and_eq_true,beq_iff_eq] at hb
 exact ⟨e,he,hb.1,hb.2⟩
def qBj (ops : Array Oper) (i : Nat) : Option Tmp:=(ops[i]?).bind (·.dst)
def qAJ (ops : Array Oper) (a : Act) (x : Nat → Value) : Nat → Act
 | 0=>a
 | n + 1=>(qAJ ops a x n).put (qBj ops n) (x n)
def qLX (ops : Array Oper) (n : Nat) : Bool :=
 decide (n ≤ ops.size) &&
 ((List.range ops.size).all fun t=>decide (t < n) || (List.range t).all fun j=>waits ops t j) &&
 ((List.range n).all fun i=>(List.range i).all fun j=>qBj ops i == none || qBj ops j == none || !(qBj ops i == qBj ops j)) &&
 ((List.range ops.size).all fun i=>match ops[i]? with | some o=>o.after.all fun e=>!Region.binds .any e || decide (e.on < i) | none=>true)
theorem qPz (a : Act) (d : Option Tmp) (u v : Value) : (a.put d u).put d v = a.put d v:=by
 cases d with
 | none=>rfl
 | some d=>simp [Act.put,Array.setIfInBounds_setIfInBounds]
theorem qNZ (a : Act) (d d' : Option Tmp) (u v : Value) (h : d = none ∨ d' = none ∨ d ≠ d') : (a.put d u).put d' v = (a.put d' v).put d u:=by
 cases d with
 | none=>rfl
 | some d =>
  cases d' with
  | none=>rfl
  | some d' =>
   rcases h with h | h | h
   · cases h
   · cases h
   · have : d ≠ d':=fun e=>h (by rw [e])
     simp [Act.put,Array.setIfInBounds_comm _ _ this]
theorem qGz {ops : Array Oper} {a : Act} {x : Nat → Value} {v : Value} {i : Nat} : ∀ {n : Nat},(∀ k,k < n → ∀ j,j < k → qBj ops k = none ∨ qBj ops j = none ∨ qBj ops k ≠ qBj ops j) → i < n →
 (qAJ ops a x n).put (qBj ops i) v = qAJ ops a (fun j=>if j = i then v else x j) n
 | 0,_,h=>absurd h (by omega)
 | n + 1,hd,h=>by
  have same : ∀ m,m ≤ i → qAJ ops a (fun j=>if j = i then v else x j) m = qAJ ops a x m:=by
   intro m
   induction m with
   | zero=>intro _;rfl
   | succ m ih=>intro hm;simp only [qAJ];rw [ih (by omega),if_neg (by omega)]
  simp only [qAJ]
  by_cases e : i = n
  · subst e
    rw [qPz,same i qle,if_pos rfl]
  · rw [if_neg (by omega),← qGz (fun k hk=>hd k (by omega)) (by omega)]
    refine qNZ _ _ _ _ _ ?_
    exact hd n (by omega) i (by omega)
theorem qO0 (a : Act) (d : Option Tmp) : a.put d (match d with | some d=>a.tmps.getD d undef | none=>undef) = a:=by
 cases d with
 | none=>rfl
 | some d =>
  simp only [Act.put]
  have : a.tmps.setIfInBounds d (a.tmps.getD d undef) = a.tmps:=by
   apply Array.ext
   · simp
   · intro j h1 h2
     rw [Array.getElem_setIfInBounds]
     split
     · rename_i e;subst e;simp [Array.getD,h2]
     · rfl
  rw [this]
theorem qIW (ops : Array Oper) (a : Act) (n : Nat) : qAJ ops a (fun i=>match qBj ops i with | some d=>a.tmps.getD d undef | none=>undef) n = a:=by
 induction n with
 | zero=>rfl
 | succ n ih=>simp only [qAJ];rw [ih];exact qO0 a _
section
variable {P : Program} {ops : Array Oper} {Q : Exit → Act → World → Prop} {a : Act} {w : World} {n : Nat} {A : Nat → Value → World → Prop}
def qLY (P : Program) (ops : Array Oper) (Q : Exit → Act → World → Prop) (a : Act) (w : World) (n : Nat) (A : Nat → Value → World → Prop) (i : Nat) (o : Oper) : Prop :=
 ∀ (x : Nat → Value) (w' : World),qA4 w w' → (∀ j,waits ops i j = true → A j (x j) w') →
  ∀ K : Act → World → Prop,(∀ v w'',qA4 w w'' → (∀ j,j < n → j ≠ i → A j (x j) w' → A j (x j) w'') → A i v w'' → K ((qAJ ops a x n).put o.dst v) w'') →
   if Region.wanted o (yielded ops (qAJ ops a x n).tmps) then o.wp P (qAJ ops a x n) w' K Q else K ((qAJ ops a x n).put o.dst undef) w'
def qQI (P : Program) (ops : Array Oper) (Q : Exit → Act → World → Prop) (a : Act) (w : World) (n : Nat) (A : Nat → Value → World → Prop) (i : Nat) (o : Oper) : Prop :=
 ∀ (x : Nat → Value) (w' : World),qA4 w w' → (∀ j,waits ops i j = true → A j (x j) w') →
  ∀ K : Act → World → Prop,(∀ v w'',qA4 w' w'' → A i v w'' → K ((qAJ ops a x n).put o.dst v) w'') →
   if Region.wanted o (yielded ops (qAJ ops a x n).tmps) then o.wp P (qAJ ops a x n) w' K Q else K ((qAJ ops a x n).put o.dst undef) w'
theorem qKM (hT : ∀ t,n ≤ t → t < ops.size → ∀ j,j < t → waits ops t j = true) (hE : ∀ i o,ops[i]? = some o → ∀ e ∈ o.after,Region.binds .any e = true → e.on < i) :
 ∀ (d t : Nat) (listed : Array Bool) (a : Act) (w : World),ops.size - t = d → n ≤ t → t ≤ ops.size → listed.size = ops.size → (∀ j,j < ops.size → listed.getD j false = decide (j < t)) →
  wpList P ops Q (ops.toList.drop t) a w → wpAny P .any ops Q d listed a w:=by
 intro d
 induction d with
 | zero =>
  intro t listed a w hd hn ht hsz hl h
  have hr : Region.ready .any ops listed = []:=by
   apply List.eq_nil_iff_forall_not_mem.2
   intro j hj
   obtain ⟨h0,o,ho,_⟩:=mem_ready.1 hj
   have hlt : j < ops.size:=(Array.getElem?_eq_some_iff.1 ho).1
   have h1:=hl j hlt
   rw [decide_eq_true (by omega : j < t)] at h1
   have : listed.getD j true = listed.getD j false:=by simp [hsz,hlt]
   rw [this,h1] at h0;cases h0
  have e : ops.toList.drop t = []:=List.drop_of_length_le (by simp;omega)
  rw [e] at h
  exact ⟨hr,h⟩
 | succ d ih =>
  intro t listed a w hd hn ht hsz hl h
  have htlt : t < ops.size:=by omega
  have e : ops.toList.drop t = ops[t] :: ops.toList.drop (t + 1):=by
   rw [List.drop_eq_getElem_cons (by simpa using htlt)];simp
  rw [e] at h
  have get : ∀ j,j < ops.size → listed.getD j true = decide (j < t):=by
   intro j hj
   rw [← hl j hj];simp [hsz,hj]
  have hot : ops[t]? = some ops[t]:=by simp [htlt]
  have hmem : t ∈ Region.ready .any ops listed:=by
   refine mem_ready.2 ⟨by rw [get t htlt];simp,ops[t],hot,?_⟩
   intro x hx hb
   have:=hE t _ hot x hx hb
   rw [hl _ (by omega)];simp [this]
  have only : ∀ i ∈ Region.ready .any ops listed,i = t:=by
   intro i hi
   obtain ⟨h0,o,ho,hall⟩:=mem_ready.1 hi
   have hlt : i < ops.size:=(Array.getElem?_eq_some_iff.1 ho).1
   rw [get i hlt] at h0
   have hge : ¬ i < t:=by simpa using h0
   by_cases hit : i = t
   · exact hit
   · obtain ⟨e,he,hb,hon⟩:=qH9 ho (hT i (by omega) hlt t (by omega))
     have:=hall e he hb
     rw [hon,hl t htlt] at this
     simp at this
  refine ⟨fun h0=>(by rw [h0] at hmem;cases hmem),fun i hi=>?_⟩
  obtain rfl:=only i hi
  have step : ∀ a' w',wpList P ops Q (ops.toList.drop (i + 1)) a' w' → wpAny P .any ops Q d (listed.setIfInBounds i true) a' w':=by
   intro a' w' h'
   refine ih (i + 1) _ a' w' (by omega) (by omega) (by omega) (by simp [hsz]) ?_ h'
   intro j hj
   by_cases hij : i = j
   · subst hij;simp [hsz,htlt]
   · rw [getD_set_ne false hij,hl j hj,decide_eq_decide];omega
  unfold wpOp
  rw [hot]
  unfold wpList at h
  simp only []
  split
  · rename_i hw
    rw [if_pos hw] at h
    exact h.imp (Oper.wp_mono step) id
  · rename_i hw
    rw [if_neg hw] at h
    exact step _ _ h
theorem qKN (hn : n ≤ ops.size) (hT : ∀ t,n ≤ t → t < ops.size → ∀ j,j < t → waits ops t j = true) (hE : ∀ i o,ops[i]? = some o → ∀ e ∈ o.after,Region.binds .any e = true → e.on < i)
 (hD : ∀ k,k < n → ∀ j,j < k → qBj ops k = none ∨ qBj ops j = none ∨ qBj ops k ≠ qBj ops j)
 (hop : ∀ i o,i < n → ops[i]? = some o → qLY P ops Q a w n A i o)
 (htail : ∀ x w',qA4 w w' → (∀ i,i < n → A i (x i) w') → wpList P ops Q (ops.toList.drop n) (qAJ ops a x n) w') :
 ∀ (d : Nat) (listed : Array Bool) (x : Nat → Value) (w' : World),(List.range n).countP (fun i=>!listed.getD i false) = d → listed.size = ops.size → (∀ j,n ≤ j → j < ops.size → listed.getD j false = false) →
  qA4 w w' → (∀ i,i < n → listed.getD i false = true → A i (x i) w') → wpAny P .any ops Q (d + (ops.size - n)) listed (qAJ ops a x n) w':=by
 intro d
 induction d with
 | zero =>
  intro listed x w' hd hsz hno hk hA
  have hall : ∀ i,i < n → listed.getD i false = true:=by
   intro i hi
   have:=List.countP_eq_zero.1 hd i (List.mem_range.2 hi)
   simpa using this
  rw [Nat.zero_add]
  refine qKM hT hE (ops.size - n) n listed _ w' rfl qle hn hsz ?_ (htail x w' hk fun i hi=>hA i hi (hall i hi))
  intro j hj
  by_cases hjn : j < n
  · rw [hall j hjn,decide_eq_true hjn]
  · rw [hno j (by omega) hj,decide_eq_false hjn]
 | succ d ih =>
  intro listed x w' hd hsz hno hk hA
  rw [show d + 1 + (ops.size - n) = (d + (ops.size - n)) + 1 by omega]
  have same : ∀ j,j < ops.size → listed.getD j true = listed.getD j false:=by
   intro j hj;simp [hsz,hj]
  obtain ⟨m,hm,hmu,hmin⟩ : ∃ m,m < n ∧ listed.getD m false = false ∧ ∀ j,j < m → listed.getD j false = true:=by
   have hex : ∃ m,m < n ∧ listed.getD m false = false:=by
    have hpos : 0 < (List.range n).countP (fun i=>!listed.getD i false):=by omega
    obtain ⟨m,hm,hm2⟩:=List.countP_pos_iff.1 hpos
    exact ⟨m,List.mem_range.1 hm,by simpa using hm2⟩
   obtain ⟨m0,hm0,hm1⟩:=hex
   have : ∀ b m,m ≤ b → m < n → listed.getD m false = false → ∃ m,m < n ∧ listed.getD m false = false ∧ ∀ j,j < m → listed.getD j false = true:=by
    intro b
    induction b with
    | zero=>intro m hb hmn hmf;exact ⟨m,hmn,hmf,fun j hj=>by omega⟩
    | succ b ihb =>
     intro m hb hmn hmf
     by_cases hc : ∃ j,j < m ∧ listed.getD j false = false
     · obtain ⟨j,hj,hjf⟩:=hc
       exact ihb j (by omega) (by omega) hjf
     · refine ⟨m,hmn,hmf,fun j hj=>?_⟩
       cases hl : listed.getD j false with
       | true=>rfl
       | false=>exact absurd ⟨j,hj,hl⟩ hc
   exact this m0 m0 qle hm0 hm1
  have hmlt : m < ops.size:=by omega
  have hmem : m ∈ Region.ready .any ops listed:=by
   refine mem_ready.2 ⟨by rw [same m hmlt];exact hmu,ops[m],by simp [hmlt],?_⟩
   intro e he hb
   exact hmin _ (hE m _ (by simp [hmlt]) e he hb)
  refine ⟨fun h0=>(by rw [h0] at hmem;cases hmem),fun i hi=>?_⟩
  obtain ⟨h0,o,ho,hall⟩:=mem_ready.1 hi
  have hilt : i < ops.size:=(Array.getElem?_eq_some_iff.1 ho).1
  have hiu : listed.getD i false = false:=by rw [← same i hilt];exact h0
  have hin : i < n:=by
   by_cases h : i < n
   · exact h
   · obtain ⟨e,he,hb,hon⟩:=qH9 ho (hT i (by omega) hilt m (by omega))
     have:=hall e he hb
     rw [hon,hmu] at this;cases this
  have hpre : ∀ j,waits ops i j = true → A j (x j) w':=by
   intro j hj
   obtain ⟨e,he,hb,hon⟩:=qH9 ho hj
   have h1:=hall e he hb
   have h2:=hE i o ho e he hb
   rw [hon] at h1 h2
   exact hA j (by omega) h1
  have hcount : (List.range n).countP (fun j=>!(listed.setIfInBounds i true).getD j false) = d:=by
   have key : ∀ m,m ≤ n → (List.range m).countP (fun j=>!(listed.setIfInBounds i true).getD j false) + (if i < m then 1 else 0) = (List.range m).countP (fun j=>!listed.getD j false):=by
    intro m
    induction m with
    | zero=>intro _;simp
    | succ m ihm =>
     intro hm
     rw [List.range_succ,List.countP_append,List.countP_append]
     have:=ihm (by omega)
     by_cases him : i = m
     · subst him
       have e1 : (listed.setIfInBounds i true).getD i false = true:=by simp [hsz,hilt]
       simp only [List.countP_cons,List.countP_nil,e1,hiu] at this ⊢
       simp at this ⊢
       omega
     · have e1 : (listed.setIfInBounds i true).getD m false = listed.getD m false:=getD_set_ne false him
       simp only [List.countP_cons,List.countP_nil,e1]
       by_cases h : i < m
       · rw [if_pos h] at this;rw [if_pos (by omega : i < m + 1)];omega
       · rw [if_neg h] at this;rw [if_neg (by omega : ¬ i < m + 1)];omega
   have:=key n qle
   rw [if_pos hin,hd] at this
   omega
  have step : ∀ v w'',qA4 w w'' → (∀ j,j < n → j ≠ i → A j (x j) w' → A j (x j) w'') → A i v w'' → wpAny P .any ops Q (d + (ops.size - n)) (listed.setIfInBounds i true) ((qAJ ops a x n).put o.dst v) w'':=by
   intro v w'' hk' hoth hv
   have ed : o.dst = qBj ops i:=by unfold qBj;rw [ho];rfl
   rw [ed,qGz hD hin]
   refine ih (listed.setIfInBounds i true) _ w'' hcount (by simp [hsz]) ?_ hk' ?_
   · intro j hj hjl
     rw [getD_set_ne false (by omega)];exact hno j hj hjl
   · intro j hj hl
     by_cases hji : j = i
     · subst hji;rw [if_pos rfl];exact hv
     · rw [if_neg hji]
       rw [getD_set_ne false (fun e=>hji e.symm)] at hl
       exact hoth j hj hji (hA j hj hl)
  have hmain:=hop i o hin ho x w' hk hpre _ step
  unfold wpOp
  rw [ho]
  simp only []
  split
  · rename_i hw;rw [if_pos hw] at hmain;exact .inl hmain
  · rename_i hw;rw [if_neg hw] at hmain;exact hmain
theorem qD6 {id : Nat} (n : Nat) (A : Nat → Value → World → Prop) (hm : P.follows .mixedOrders = true) (hB : qLX ops n = true)
 (hop : ∀ i o,i < n → ops[i]? = some o → qLY P ops Q a w n A i o)
 (htail : ∀ x w',qA4 w w' → (∀ i,i < n → A i (x i) w') → wpList P ops Q (ops.toList.drop n) (qAJ ops a x n) w') : (Code.region id ops true).wp P Q a w:=by
 unfold qLX at hB
 simp only [Bool.and_eq_true,decide_eq_true_eq,List.all_eq_true,List.mem_range,Bool.or_eq_true] at hB
 obtain ⟨⟨⟨hn,h1⟩,h2⟩,h3⟩:=hB
 have hT : ∀ t,n ≤ t → t < ops.size → ∀ j,j < t → waits ops t j = true:=by
  intro t ht htl j hj
  rcases h1 t htl with h | h
  · omega
  · exact h j hj
 have hD : ∀ k,k < n → ∀ j,j < k → qBj ops k = none ∨ qBj ops j = none ∨ qBj ops k ≠ qBj ops j:=by
  intro k hk j hj
  rcases h2 k hk j hj with (h | h) | h
  · exact .inl (by simpa using h)
  · exact .inr (.inl (by simpa using h))
  · exact .inr (.inr (by simpa using h))
 have hE : ∀ i o,ops[i]? = some o → ∀ e ∈ o.after,Region.binds .any e = true → e.on < i:=by
  intro i o ho e he hb
  have hlt : i < ops.size:=(Array.getElem?_eq_some_iff.1 ho).1
  have:=h3 i hlt
  rw [ho] at this
  have:=Array.all_eq_true_iff_forall_mem.1 this e he
  simp only [hb,Bool.not_true,Bool.false_or,decide_eq_true_eq] at this
  exact this
 refine wp_region_any hm ?_
 have hz : ∀ j,(Array.replicate ops.size false).getD j false = false:=by
  intro j
  by_cases h : j < ops.size <;> simp [h]
 have hc : (List.range n).countP (fun i=>!(Array.replicate ops.size false).getD i false) = n:=by
  have : (List.range n).countP (fun i=>!(Array.replicate ops.size false).getD i false) = (List.range n).length:=by
   rw [List.countP_eq_length];intro i _;rw [hz];rfl
  rw [this];simp
 have:=qKN (A:=A) hn hT hE hD hop htail n (Array.replicate ops.size false) (fun i=>match qBj ops i with | some d=>a.tmps.getD d undef | none=>undef) { w with drawn:=w.drawn + 1 } hc (by simp)
  (fun j _ _=>hz j) (qA4.drawn w) (fun i _ h=>by rw [hz] at h;cases h)
 rw [qIW,show n + (ops.size - n) = ops.size by omega] at this
 exact this
theorem qFF {id : Nat} (n : Nat) (A : Nat → Value → World → Prop) (hm : P.follows .mixedOrders = true) (hB : qLX ops n = true)
 (hst : ∀ i v w' w'',A i v w' → qA4 w' w'' → A i v w'')
 (hop : ∀ i o,i < n → ops[i]? = some o → qQI P ops Q a w n A i o)
 (htail : ∀ x w',qA4 w w' → (∀ i,i < n → A i (x i) w') → wpList P ops Q (ops.toList.drop n) (qAJ ops a x n) w') : (Code.region id ops true).wp P Q a w :=
 qD6 n A hm hB (fun i o hi ho x w' hw hpre K hK=>hop i o hi ho x w' hw hpre K fun v w'' hk hv=>hK v w'' (hw.of hk) (fun j _ _ h=>hst j _ _ _ h hk) hv) htail
end
end Go.Proofs.YtdlgihbpiakebaaGreat
