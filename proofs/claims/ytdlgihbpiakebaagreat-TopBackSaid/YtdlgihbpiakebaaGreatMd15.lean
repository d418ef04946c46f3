import Derived.Test.YtdlgihbpiakebaaGreatMd05
import Derived.WalkKit
import Derived.ProofKit
import Derived.OpenShut
import Derived.ShutString
import Derived.ChangeOld
import Derived.Below
import Derived.JoinedCond
set_option maxRecDepth 100000
set_option maxHeartbeats 4000000
namespace Go.Proofs.YtdlgihbpiakebaaGreat
open Go Go.RowKit Go.ChangeShapes Go.WideShapes Go.ChangeAt
section
variable {H : Type} {enc : TypeId × Value → H} {P : Program}
theorem qEk (hl : laidOutB P = true) {W W' : World} (hb : Below W.heap.size W W') : ∀ (ts : List TypeId) (vs : List Value) (ds : List (DataW H)) (p : List MemPlace),
 ts.all (fun t=>P.readableRec t && decide (t < P.types.size)) = true → DataW.TrodAll enc P W 0 (fun _=>true) true ts vs ds p →
 DataW.TrodAll enc P W' 0 (fun b=>decide (b < W.heap.size)) true ts vs ds p
 | [],vs,ds,p,_,h=>by
  obtain ⟨rfl,rfl,rfl⟩:=trodAll_nil h
  exact rfl
 | t :: ts,vs,ds,p,hr,h=>by
  obtain ⟨v,vs',d,ds',p1,p2,rfl,rfl,rfl,h1,h2⟩:=trodAll_cons h
  simp only [List.all_cons,Bool.and_eq_true,decide_eq_true_eq] at hr
  have lt : ∀ x ∈ p1,x.block < W.heap.size:=by obtain ⟨m,hm⟩:=h1;exact DataW.trod_lt m _ _ _ hm
  exact ⟨p1,p2,Below.trod hl hr.1.1 hr.1.2 h1 hb lt,qEk hl hb ts vs' ds' p2 hr.2 h2,rfl⟩
theorem qOb {f : Func} {s : ChangeSpec} {W W' : World} {args : Array Value} {ds gs : List (DataW H)} {before : List MemPlace} {tb : TypeId} (hl : laidOutB P = true)
 (hr : f.params.toList.all (fun t=>P.readableRec t && decide (t < P.types.size)) = true) (hb : P.underlying tb = some .bool) (hrt : f.resultTypes = #[tb]) (hv : s.vars = [])
 (hfn : ∀ (xs : List (DataW H)),xs.length = f.params.size → s.fn H xs = { results:=[.lit (.bool true)],args:=xs })
 (hW : DataW.Whole enc P f.params.toList s.vars false W args.toList ds gs before) (bel : Below W.heap.size W W') :
 s.post enc P f false true false false W args (.bool true) W':=by
 have hW':=hW
 obtain ⟨p,q,hA,hV,rfl,hfz,hnd⟩:=hW
 rw [hv] at hV
 obtain ⟨rfl,rfl⟩:=trodVars_none hV
 have hlen : ∀ (ts : List TypeId) (vs : List Value) (ds : List (DataW H)) (p : List MemPlace),DataW.TrodAll enc P W 0 (fun _=>true) true ts vs ds p → ds.length = ts.length:=by
  intro ts
  induction ts with
  | nil=>intro vs ds p h;obtain ⟨rfl,rfl,rfl⟩:=trodAll_nil h;rfl
  | cons t ts ih =>
   intro vs ds p h
   obtain ⟨v,vs',d,ds',p1,p2,rfl,rfl,rfl,h1,h2⟩:=trodAll_cons h
   simp [ih _ _ _ h2]
 have e:=hfn (ds ++ []) (by rw [List.append_nil,hlen _ _ _ _ hA];simp)
 refine ⟨ds,[],p ++ [],[],p,[],hW',?_,?_,?_,bel.frame _,fun h=>by cases h⟩
 · rw [e,hrt];exact trodAll_mk1 (shut_bool hb _)
 · rw [e];simp only [List.append_nil];exact qEk hl bel _ _ _ _ hr hA
 · rw [e,hv];exact rfl
end
section
variable {H : Type} {enc : TypeId × Value → H} {P : Program} {w : World} {base : Nat} {spare : Nat → Bool} {held : Bool} {r : Reach} {b0 : Nat} {t : TypeId} {v : Value} {d : DataW H} {ps : List MemPlace}
theorem qRM {n : Int} (h : (Lit.int .u8 n).wf = true) : ∃ x,Value.int .u8 n = V8 x:=by
 have:=bounds_u8 h
 exact ⟨UInt8.ofNat n.toNat,by rw [V8,UInt8.toNat_ofNat'];congr 1;omega⟩
theorem qMb (ht : P.underlying t = some (.int .u8)) (hval : Value.okWide P w r b0 t v) (hd : DataW.Trod enc P w base spare held t v d ps) : ∃ x,v = V8 x:=by
 obtain ⟨n,rfl,_,_,hw⟩:=open_int ht hval hd
 exact qRM hw
theorem qQT (ht : P.underlying t = some (.int .i64)) (hval : Value.okWide P w r b0 t v) (hd : DataW.Trod enc P w base spare held t v d ps) : ∃ n,v = .int .i64 n ∧ -9223372036854775808 ≤ n ∧ n ≤ 9223372036854775807:=by
 obtain ⟨n,rfl,_,_,hw⟩:=open_int ht hval hd
 exact ⟨n,rfl,bounds_i64 hw⟩
end

end Go.Proofs.YtdlgihbpiakebaaGreat
