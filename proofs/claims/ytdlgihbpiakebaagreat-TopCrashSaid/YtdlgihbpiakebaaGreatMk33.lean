import Derived.Test.YtdlgihbpiakebaaGreatMk07
import Derived.Test.YtdlgihbpiakebaaGreatMk09
import Derived.Test.YtdlgihbpiakebaaGreatMk12
set_option maxRecDepth 100000
set_option maxHeartbeats 4000000
namespace Go.Proofs.YtdlgihbpiakebaaGreat
open Go Go.RowKit Tryz
@[go_sem] theorem qSQ (t:TypeId) (x y:BitVec 32):binOp .gtr t (W x) (W y)=pure (.bool (decide (y<x))):=(binOp_gtr ..).trans (by congr 2;simp[BitVec.lt_def])
theorem qGf {P:Program}(w:World)(d:Nat)(e:TypeId)(he:P.underlying e=some (.int .u32))(x y:BitVec 32):(Op.equalIn (d+1) e (W x) (W y)).run P w= .ok (x==y) w:=by
 have h:=run_equalIn_int (P:=P) w d e .u32 .u32 (x.toNat:Int) (y.toNat:Int) he
 rw[qCO]at h
 exact h
theorem qBP {P:Program}(w:World)(e:TypeId)(k:IntKind)(he:P.underlying e=some (.int k))(cs:Array Value)(i:Nat)(v:Value)(hv:cs[i]? = some v):(part e cs i).run P w= .ok v w:=by
 simp[part,isAgg,run_underlying he,hv]
theorem qNy {P:Program}(w:World)(e:TypeId)(he:P.underlying e=some .bool)(cs:Array Value)(i:Nat)(v:Value)(hv:cs[i]? = some v):(part e cs i).run P w= .ok v w:=by
 simp[part,isAgg,run_underlying he,hv]
theorem qJ1 {P:Program}(w:World)(t e:TypeId)(ht:P.underlying t=some (.array 2 e))(hs:∀w:World,(sizeOf t).run P w= .ok 2 w)(cs:Array Value)(i:Nat):(part t cs i).run P w= .ok (.agg (cs.extract i (i+2))) w:=by
 simp[part,isAgg,run_underlying ht,hs]
theorem qPq {P:Program}(w:World)(t:TypeId)(fs:Array Field)(n:Nat)(ht:P.underlying t=some (.struct fs))(hs:∀w:World,(sizeOf t).run P w= .ok n w)(cs:Array Value)(i:Nat):(part t cs i).run P w= .ok (.agg (cs.extract i (i+n))) w:=by
 simp[part,isAgg,run_underlying ht,hs]
theorem qHg:prog.cellsOf 29=1:=by kernel_rfl
theorem qJ2:∀w:World,(sizeOf 115).run prog w= .ok 2 w:=fun w=>by kernel_rfl
end Go.Proofs.YtdlgihbpiakebaaGreat
