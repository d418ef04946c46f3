import Derived.Test.YtdlgihbpiakebaaGreatMk05
import Derived.WalkKit
import Derived.ProofKit
import Derived.OpenShut
import Derived.ShutString
import Derived.ChangeOld
import Derived.Below
import Derived.JoinedCond
set_option maxRecDepth 100000
set_option maxHeartbeats 4000000
namespace Go.Proofs.YtdlgihbpiakebaaGreat
open Go Go.RowKit Go.ChangeShapes Go.WideShapes Go.ChangeAt
section
variable {H:Type} {enc:TypeId×Value→H} {P:Program}
theorem qEw (hl:laidOutB P=true){W W':World}(hb:Below W.heap.size W W'):∀(ts:List TypeId) (vs:List Value) (ds:List (DataW H)) (p:List MemPlace),
 ts.all (fun t=>P.readableRec t&&decide (t<P.types.size))=true→DataW.TrodAll enc P W 0 (fun _=>true) true ts vs ds p →
 DataW.TrodAll enc P W' 0 (fun b=>decide (b<W.heap.size)) true ts vs ds p
 | [],vs,ds,p,_,h=>by
  obtain⟨rfl,rfl,rfl⟩:=trodAll_nil h
  exact rfl
 | t::ts,vs,ds,p,hr,h=>by
  obtain⟨v,f,d,c,l,q,rfl,rfl,rfl,j,G⟩:=trodAll_cons h
  simp only[List.all_cons,Bool.and_eq_true,decide_eq_true_eq]at hr
  have lt:∀x∈l,x.block<W.heap.size:=by obtain⟨m,F⟩:=j;exact DataW.trod_lt m _ _ _ F
  exact⟨l,q,Below.trod hl hr.1.1 hr.1.2 j hb lt,qEw hl hb ts f c q hr.2 G,rfl⟩
theorem qP8 {f:Func}{s:ChangeSpec}{W W':World}{args:Array Value}{c gs:List (DataW H)}{before:List MemPlace}{tb:TypeId}(hl:laidOutB P=true)
 (hr:f.params.toList.all (fun t=>P.readableRec t&&decide (t<P.types.size))=true) (hb:P.underlying tb=some .bool) (hrt:f.resultTypes=#[tb]) (hv:s.vars= [])
 (hfn:∀(xs:List (DataW H)),xs.length=f.params.size→s.fn H xs={ results:=[.lit (.bool true)],args:=xs })
 (hW:DataW.Whole enc P f.params.toList s.vars false W args.toList c gs before) (bel:Below W.heap.size W W') :
 s.post enc P f false true false false W args (.bool true) W':=by
 have F:=hW
 obtain⟨p,q,I,G,rfl,O,J⟩:=hW
 rw[hv]at G
 obtain⟨rfl,rfl⟩:=trodVars_none G
 have j:∀(ts:List TypeId) (l:List Value) (c:List (DataW H)) (p:List MemPlace),DataW.TrodAll enc P W 0 (fun _=>true) true ts l c p→c.length=ts.length:=by
  intro ts
  induction ts with
  | nil=>intro l c p h;obtain⟨rfl,rfl,rfl⟩:=trodAll_nil h;rfl
  | cons t ts ih =>
   intro l c p h
   obtain⟨v,N,d,Y,p1,p2,rfl,rfl,rfl,Z,V⟩:=trodAll_cons h
   simp[ih _ _ _ V]
 have e:=hfn (c++ []) (by rw[List.append_nil,j _ _ _ _ I];simp)
 refine⟨c,[],p++ [],[],p,[],F,?_,?_,?_,bel.frame _,fun h=>by cases h⟩
 · rw[e,hrt];exact trodAll_mk1 (shut_bool hb _)
 · rw[e];simp only[List.append_nil];exact qEw hl bel _ _ _ _ hr I
 · rw[e,hv];exact rfl
end
section
variable {H:Type} {enc:TypeId×Value→H} {P:Program} {w:World} {base:Nat} {spare:Nat→Bool} {held:Bool} {r:Reach} {b0:Nat} {t:TypeId} {v:Value} {d:DataW H} {ps:List MemPlace}
theorem qT4 {n:Int}(h:(Lit.int .u8 n).wf=true):∃x,Value.int .u8 n=V8 x:=by
 have:=bounds_u8 h
 exact⟨UInt8.ofNat n.toNat,by rw[V8,UInt8.toNat_ofNat'];congr 1;omega⟩
theorem qS5 (ht:P.underlying t=some (.int .i64))(hval:Value.okWide P w r b0 t v)(hd:DataW.Trod enc P w base spare held t v d ps):∃n,v= .int .i64 n∧ -9223372036854775808≤n∧n≤9223372036854775807:=by
 obtain⟨n,rfl,_,_,c⟩:=open_int ht hval hd
 exact⟨n,rfl,bounds_i64 c⟩
theorem qL0:∀(zs:List Int),(∀n∈zs,(Lit.int .u8 n).wf=true)→∃bs:List UInt8,zs.map (Value.int .u8)=qA1 bs
 | [],_=>⟨[],rfl⟩
 | z::zs,h=>by
  obtain⟨x,c⟩:=qT4 (h z (by simp))
  obtain⟨bs,f⟩:=qL0 zs fun n hn=>h n (by simp[hn])
  exact⟨x::bs,by simp only[List.map_cons,qA1];rw[c];congr 1⟩
end
inductive qFA (P:Program):TypeId→Nat→TypeId→Prop
 | here {t:TypeId}:qFA P t 0 t
 | field {t u:TypeId} {fs:Array Field} {f:Field} {j i:Nat} (hs:P.underlying t=some (.struct fs)) (hf:fs[j]? = some f) (h:qFA P f.type i u) (hle:decide (i+P.cellsOf u≤P.cellsOf f.type)=true):qFA P t (f.offset+i) u
 | elem {t u e:TypeId} {n j i:Nat} (ha:P.underlying t=some (.array n e)) (hj:j<n) (h:qFA P e i u) (hle:decide (i+P.cellsOf u≤P.cellsOf e)=true):qFA P t (j*P.cellsOf e+i) u
theorem qII (cs:List Value)(o k i u:Nat)(h:i+u≤k):(((cs.drop o).take k).drop i).take u=(cs.drop (o+i)).take u:=by
 rw[List.drop_take,List.drop_drop,List.take_take,Nat.min_eq_left (by omega)]
section
variable {H:Type} {enc:TypeId×Value→H} {P:Program} {w:World} {base:Nat} {spare:Nat→Bool} {held:Bool} {r:Reach} {b0:Nat}
theorem qFA.get {t u:TypeId}{i:Nat}(h:qFA P t i u):∀(c:Nat) (cs:List Value) (x:DataW H×List MemPlace),cs.length≤P.cellsOf t→DataW.trod enc P w base spare held c t cs=some x →
 ∃m y,DataW.trod enc P w base spare held m u ((cs.drop i).take (P.cellsOf u))=some y:=by
 induction h with
 | here =>
  intro c cs x hl f
  exact⟨c,x,by rw[List.drop_zero,List.take_of_length_le hl];exact f⟩
 | field hs hf h hle ih =>
  intro c cs x hl f
  obtain⟨xs,n,_,rfl,_,l,F⟩:=DataW.trod_struct hs f
  have j:=F _ _ hf
  have G:=(Array.getElem?_eq_some_iff.1 hf).1
  rw[List.getElem?_eq_getElem (by omega)]at j
  obtain⟨m,y,q⟩:=ih _ _ _ (by rw[List.length_take];omega) j
  exact⟨m,y,by rw[←qII _ _ _ _ _ (of_decide_eq_true hle)];exact q⟩
 | elem ha G h hle ih =>
  intro c cs x hl f
  obtain⟨xs,m,_,rfl,_,l,F⟩:=DataW.trod_array ha f
  have j:=F _ G
  rw[List.getElem?_eq_getElem (by omega)]at j
  obtain⟨m,y,q⟩:=ih _ _ _ (by rw[List.length_take];omega) j
  exact⟨m,y,by rw[←qII _ _ _ _ _ (of_decide_eq_true hle)];exact q⟩
theorem qG8 {t:TypeId}{m:Nat}{c:Value}{y:DataW H×List MemPlace}(ht:P.underlying t=some (.int .i64))(h:DataW.trod enc P w base spare held m t [c]=some y):∃n,c= .int .i64 n∧ -9223372036854775808≤n∧n≤9223372036854775807:=by
 obtain⟨n,hn,_,f⟩:=DataW.trod_int ht h
 simp at hn;subst hn;exact⟨n,rfl,bounds_i64 f⟩
theorem qQJ {t:TypeId}{m:Nat}{c:Value}{y:DataW H×List MemPlace}(ht:P.underlying t=some .bool)(h:DataW.trod enc P w base spare held m t [c]=some y):∃b,c= .bool b:=by
 obtain⟨n,hn,_⟩:=DataW.trod_bool ht h
 simp at hn;exact⟨n,hn⟩
theorem qN6 {t e:TypeId}{m:Nat}{v:Value}{y:DataW H×List MemPlace}(ht:P.underlying t=some (.slice e))(he:P.underlying e=some (.int .u8))(hce:P.cellsOf e=1)(h:DataW.trod enc P w base spare held m t [v]=some y):∃bs:List UInt8,Sl w v bs.length (qA1 bs):=by
 rcases open_ints ht he hce h with ⟨hcs,_⟩|⟨x,l,c,zs,hcs,_,hl,hm,hz,_,hcell,hwz⟩
 · simp at hcs
   subst hcs
   exact⟨[],Sl.nil w⟩
 · simp at hcs
   subst hcs
   obtain⟨bs,J⟩:=qL0 (zs.take l) fun n hn=>hwz n (List.mem_of_mem_take hn)
   have F:bs.length=l:=by
    have:=congrArg List.length J
    simp only[List.length_map,qA1,List.length_take]at this
    have N:l≤zs.length:=by rw[hz];split<;>omega
    omega
   refine⟨bs,?_⟩
   rw[F]
   refine .inr ⟨x,c,rfl,hl,hm,fun j u I=>?_⟩
   rw[←J]at I
   obtain⟨G,f⟩:=List.getElem?_eq_some_iff.1 I
   have q:j<zs.length:=by simp only[List.length_map,List.length_take]at G;omega
   rw[hcell j q]
   simp at f
   rw[←f]
   simp[List.getD,q]
end
end Go.Proofs.YtdlgihbpiakebaaGreat
