import Derived.Test.YtdlgihbpiakebaaGreatMj05
import Derived.WalkKit
import Derived.ProofKit
import Derived.OpenShut
import Derived.ShutString
import Derived.ChangeOld
import Derived.Below
import Derived.JoinedCond
set_option maxRecDepth 100000
set_option maxHeartbeats 4000000
namespace Go.Proofs.YtdlgihbpiakebaaGreat
open Go Go.RowKit Go.ChangeShapes Go.WideShapes Go.ChangeAt
section
variable {H : Type} {enc : TypeId × Value → H} {P : Program}
theorem qDF (hl : laidOutB P = true) {W W' : World} (hb : Below W.heap.size W W') : ∀ (ts : List TypeId) (vs : List Value) (ds : List (DataW H)) (p : List MemPlace),
 ts.all (fun t=>P.readableRec t && decide (t < P.types.size)) = true → DataW.TrodAll enc P W 0 (fun _=>true) true ts vs ds p →
 DataW.TrodAll enc P W' 0 (fun b=>decide (b < W.heap.size)) true ts vs ds p
 | [],vs,ds,p,_,h=>by
  obtain ⟨rfl,rfl,rfl⟩:=trodAll_nil h
  exact rfl
 | t :: ts,vs,ds,p,hr,h=>by
  obtain ⟨v,vs',d,ds',p1,p2,rfl,rfl,rfl,h1,h2⟩:=trodAll_cons h
  simp only [List.all_cons,Bool.and_eq_true,decide_eq_true_eq] at hr
  have lt : ∀ x ∈ p1,x.block < W.heap.size:=by obtain ⟨m,hm⟩:=h1;exact DataW.trod_lt m _ _ _ hm
  exact ⟨p1,p2,Below.trod hl hr.1.1 hr.1.2 h1 hb lt,qDF hl hb ts vs' ds' p2 hr.2 h2,rfl⟩
theorem qMY {f : Func} {s : ChangeSpec} {W W' : World} {args : Array Value} {ds gs : List (DataW H)} {before : List MemPlace} {tb : TypeId} (hl : laidOutB P = true)
 (hr : f.params.toList.all (fun t=>P.readableRec t && decide (t < P.types.size)) = true) (hb : P.underlying tb = some .bool) (hrt : f.resultTypes = #[tb]) (hv : s.vars = [])
 (hfn : ∀ (xs : List (DataW H)),xs.length = f.params.size → s.fn H xs = { results:=[.lit (.bool true)],args:=xs })
 (hW : DataW.Whole enc P f.params.toList s.vars false W args.toList ds gs before) (bel : Below W.heap.size W W') :
 s.post enc P f false true false false W args (.bool true) W':=by
 have hW':=hW
 obtain ⟨p,q,hA,hV,rfl,hfz,hnd⟩:=hW
 rw [hv] at hV
 obtain ⟨rfl,rfl⟩:=trodVars_none hV
 have hlen : ∀ (ts : List TypeId) (vs : List Value) (ds : List (DataW H)) (p : List MemPlace),DataW.TrodAll enc P W 0 (fun _=>true) true ts vs ds p → ds.length = ts.length:=by
  intro ts
  induction ts with
  | nil=>intro vs ds p h;obtain ⟨rfl,rfl,rfl⟩:=trodAll_nil h;rfl
  | cons t ts ih =>
   intro vs ds p h
   obtain ⟨v,vs',d,ds',p1,p2,rfl,rfl,rfl,h1,h2⟩:=trodAll_cons h
   simp [ih _ _ _ h2]
 have e:=hfn (ds ++ []) (by rw [List.append_nil,hlen _ _ _ _ hA];simp)
 refine ⟨ds,[],p ++ [],[],p,[],hW',?_,?_,?_,bel.frame _,fun h=>by cases h⟩
 · rw [e,hrt];exact trodAll_mk1 (shut_bool hb _)
 · rw [e];simp only [List.append_nil];exact qDF hl bel _ _ _ _ hr hA
 · rw [e,hv];exact rfl
end
section
variable {H : Type} {enc : TypeId × Value → H} {P : Program} {w : World} {base : Nat} {spare : Nat → Bool} {held : Bool} {r : Reach} {b0 : Nat} {t : TypeId} {v : Value} {d : DataW H} {ps : List MemPlace}
theorem qQE {n : Int} (h : (Lit.int .u8 n).wf = true) : ∃ x,Value.int .u8 n = V8 x:=by
 have:=bounds_u8 h
 exact ⟨UInt8.ofNat n.toNat,by rw [V8,UInt8.toNat_ofNat'];congr 1;omega⟩
theorem qPI (ht : P.underlying t = some (.int .i64)) (hval : Value.okWide P w r b0 t v) (hd : DataW.Trod enc P w base spare held t v d ps) : ∃ n,v = .int .i64 n ∧ -9223372036854775808 ≤ n ∧ n ≤ 9223372036854775807:=by
 obtain ⟨n,rfl,_,_,hw⟩:=open_int ht hval hd
 exact ⟨n,rfl,bounds_i64 hw⟩
theorem qJf : ∀ (zs : List Int),(∀ n ∈ zs,(Lit.int .u8 n).wf = true) → ∃ bs : List UInt8,zs.map (Value.int .u8) = qA1 bs
 | [],_=>⟨[],rfl⟩
 | z :: zs,h=>by
  obtain ⟨x,hx⟩:=qQE (h z (by simp))
  obtain ⟨bs,hb⟩:=qJf zs fun n hn=>h n (by simp [hn])
  exact ⟨x :: bs,by simp only [List.map_cons,qA1];rw [hx];congr 1⟩
end
inductive Part (P : Program) : TypeId → Nat → TypeId → Prop
 | here {t : TypeId} : Part P t 0 t
 | field {t u : TypeId} {fs : Array Field} {f : Field} {j i : Nat} (hs : P.underlying t = some (.struct fs)) (hf : fs[j]? = some f) (h : Part P f.type i u) (hle : decide (i + P.cellsOf u ≤ P.cellsOf f.type) = true) : Part P t (f.offset + i) u
 | elem {t u e : TypeId} {n j i : Nat} (ha : P.underlying t = some (.array n e)) (hj : j < n) (h : Part P e i u) (hle : decide (i + P.cellsOf u ≤ P.cellsOf e) = true) : Part P t (j * P.cellsOf e + i) u
theorem drop_take (cs : List Value) (o k i u : Nat) (h : i + u ≤ k) : (((cs.drop o).take k).drop i).take u = (cs.drop (o + i)).take u:=by
 rw [List.drop_take,List.drop_drop,List.take_take,Nat.min_eq_left (by omega)]
section
variable {H : Type} {enc : TypeId × Value → H} {P : Program} {w : World} {base : Nat} {spare : Nat → Bool} {held : Bool} {r : Reach} {b0 : Nat}
theorem Part.get {t u : TypeId} {i : Nat} (h : Part P t i u) : ∀ (fuel : Nat) (cs : List Value) (x : DataW H × List MemPlace),cs.length ≤ P.cellsOf t → DataW.trod enc P w base spare held fuel t cs = some x →
 ∃ m y,DataW.trod enc P w base spare held m u ((cs.drop i).take (P.cellsOf u)) = some y:=by
 induction h with
 | here =>
  intro fuel cs x hl hx
  exact ⟨fuel,x,by rw [List.drop_zero,List.take_of_length_le hl];exact hx⟩
 | field hs hf h hle ih =>
  intro fuel cs x hl hx
  obtain ⟨xs,n,_,rfl,_,hlen,hg⟩:=DataW.trod_struct hs hx
  have h1:=hg _ _ hf
  have hj:=(Array.getElem?_eq_some_iff.1 hf).1
  rw [List.getElem?_eq_getElem (by omega)] at h1
  obtain ⟨m,y,hy⟩:=ih _ _ _ (by rw [List.length_take];omega) h1
  exact ⟨m,y,by rw [← drop_take _ _ _ _ _ (of_decide_eq_true hle)];exact hy⟩
 | elem ha hj h hle ih =>
  intro fuel cs x hl hx
  obtain ⟨xs,m,_,rfl,_,hlen,hg⟩:=DataW.trod_array ha hx
  have h1:=hg _ hj
  rw [List.getElem?_eq_getElem (by omega)] at h1
  obtain ⟨m,y,hy⟩:=ih _ _ _ (by rw [List.length_take];omega) h1
  exact ⟨m,y,by rw [← drop_take _ _ _ _ _ (of_decide_eq_true hle)];exact hy⟩
theorem qEY {t : TypeId} {m : Nat} {c : Value} {y : DataW H × List MemPlace} (ht : P.underlying t = some (.int .i64)) (h : DataW.trod enc P w base spare held m t [c] = some y) : ∃ n,c = .int .i64 n ∧ -9223372036854775808 ≤ n ∧ n ≤ 9223372036854775807:=by
 obtain ⟨n,hn,_,hw⟩:=DataW.trod_int ht h
 simp at hn;subst hn;exact ⟨n,rfl,bounds_i64 hw⟩
theorem qOp {t : TypeId} {m : Nat} {c : Value} {y : DataW H × List MemPlace} (ht : P.underlying t = some .bool) (h : DataW.trod enc P w base spare held m t [c] = some y) : ∃ b,c = .bool b:=by
 obtain ⟨n,hn,_⟩:=DataW.trod_bool ht h
 simp at hn;exact ⟨n,hn⟩
theorem qL9 {t e : TypeId} {m : Nat} {v : Value} {y : DataW H × List MemPlace} (ht : P.underlying t = some (.slice e)) (he : P.underlying e = some (.int .u8)) (hce : P.cellsOf e = 1) (h : DataW.trod enc P w base spare held m t [v] = some y) : ∃ bs : List UInt8,Sl w v bs.length (qA1 bs):=by
 rcases open_ints ht he hce h with ⟨hcs,_⟩ | ⟨x,l,c,zs,hcs,_,hl,hm,hz,_,hcell,hwz⟩
 · simp at hcs
   subst hcs
   exact ⟨[],Sl.nil w⟩
 · simp at hcs
   subst hcs
   obtain ⟨bs,hb⟩:=qJf (zs.take l) fun n hn=>hwz n (List.mem_of_mem_take hn)
   have hlen : bs.length = l:=by
    have:=congrArg List.length hb
    simp only [List.length_map,qA1,List.length_take] at this
    have hz2 : l ≤ zs.length:=by rw [hz];split <;> omega
    omega
   refine ⟨bs,?_⟩
   rw [hlen]
   refine .inr ⟨x,c,rfl,hl,hm,fun j u hj=>?_⟩
   rw [← hb] at hj
   obtain ⟨hj1,hj2⟩:=List.getElem?_eq_some_iff.1 hj
   have hj3 : j < zs.length:=by simp only [List.length_map,List.length_take] at hj1;omega
   rw [hcell j hj3]
   simp at hj2
   rw [← hj2]
   simp [List.getD,hj3]
end
end Go.Proofs.YtdlgihbpiakebaaGreat
