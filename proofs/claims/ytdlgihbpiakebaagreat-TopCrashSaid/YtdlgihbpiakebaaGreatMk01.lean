import Derived.Test.YtdlgihbpiakebaaGreatMk00
import Derived.WalkKit
import Derived.Below
import Derived.WalkSmall
set_option maxRecDepth 100000
set_option maxHeartbeats 4000000
namespace Go.Proofs.YtdlgihbpiakebaaGreat
open Go Go.RowKit
def U (x:BitVec 64):Value:=.int .u64 (x.toNat:Int)
def W (x:BitVec 32):Value:=.int .u32 (x.toNat:Int)
def V8 (x:UInt8):Value:=.int .u8 (x.toNat:Int)
theorem qCy (n:Int):IntKind.u64.wrap n=n % 18446744073709551616:=by
 unfold IntKind.wrap;simp[IntKind.bits,IntKind.signed]
theorem qHC (n:Int):IntKind.u32.wrap n=n % 4294967296:=by
 unfold IntKind.wrap;simp[IntKind.bits,IntKind.signed]
theorem qMO (n:Int):IntKind.u8.wrap n=n % 256:=by
 unfold IntKind.wrap;simp[IntKind.bits,IntKind.signed]
theorem qDq (n:Int):Value.int .u64 (IntKind.u64.wrap n)=U (BitVec.ofInt 64 n):=by
 rw[qCy,U,BitVec.toNat_ofInt];congr 1;omega
theorem qJI (n:Int):Value.int .u32 (IntKind.u32.wrap n)=W (BitVec.ofInt 32 n):=by
 rw[qHC,W,BitVec.toNat_ofInt];congr 1;omega
theorem qFP (x:BitVec 64):IntKind.u64.wrap (x.toNat:Int)=(x.toNat:Int):=by
 rw[qCy];have:=x.isLt;omega
section
variable (t:TypeId) (x y:BitVec 64)
theorem qQr:Op.intArith .add .u64 (x.toNat:Int) (y.toNat:Int)=pure (U (x+y)):=by
 show pure (Value.int .u64 (IntKind.u64.wrap _))=_
 rw[qCy,U,BitVec.toNat_add];congr 2
theorem qQs:Op.intArith .sub .u64 (x.toNat:Int) (y.toNat:Int)=pure (U (x - y)):=by
 show pure (Value.int .u64 (IntKind.u64.wrap _))=_
 rw[qCy,U,BitVec.toNat_sub];have:=x.isLt;have:=y.isLt;congr 2;omega
theorem qCN:BitVec.ofInt 64 (x.toNat:Int)=x:=by
 apply BitVec.eq_of_toNat_eq;rw[BitVec.toNat_ofInt];have:=x.isLt;omega
theorem qQt:Op.intBits .and .u64 (x.toNat:Int) (y.toNat:Int)=pure (U (x &&& y)):=by
 show pure (Value.int .u64 (IntKind.u64.wrap ((BitVec.ofInt 64 _ &&& BitVec.ofInt 64 _).toNat:Int)))=_
 rw[qCN,qCN,qFP];rfl
theorem qRJ:Op.intBits .or .u64 (x.toNat:Int) (y.toNat:Int)=pure (U (x ||| y)):=by
 show pure (Value.int .u64 (IntKind.u64.wrap ((BitVec.ofInt 64 _ ||| BitVec.ofInt 64 _).toNat:Int)))=_
 rw[qCN,qCN,qFP];rfl
theorem qQu:Op.intBits .xor .u64 (x.toNat:Int) (y.toNat:Int)=pure (U (x ^^^ y)):=by
 show pure (Value.int .u64 (IntKind.u64.wrap ((BitVec.ofInt 64 _ ^^^ BitVec.ofInt 64 _).toNat:Int)))=_
 rw[qCN,qCN,qFP];rfl
@[go_sem] theorem qOJ:binOp .add t (U x) (U y)=pure (U (x+y)):=(binOp_add ..).trans (qQr x y)
@[go_sem] theorem qOK:binOp .sub t (U x) (U y)=pure (U (x - y)):=(binOp_sub ..).trans (qQs x y)
@[go_sem] theorem qOL:binOp .and t (U x) (U y)=pure (U (x &&& y)):=(binOp_and ..).trans (qQt x y)
@[go_sem] theorem qQv:binOp .or t (U x) (U y)=pure (U (x ||| y)):=(binOp_or ..).trans (qRJ x y)
@[go_sem] theorem qOM:binOp .xor t (U x) (U y)=pure (U (x ^^^ y)):=(binOp_xor ..).trans (qQu x y)
theorem qCO {n:Nat}(a b:BitVec n):((a.toNat:Int)==(b.toNat:Int))=(a==b):=by
 rw[Bool.eq_iff_iff,beq_iff_eq,beq_iff_eq]
 exact⟨fun h=>BitVec.eq_of_toNat_eq (by omega),fun h=>by rw[h]⟩
@[go_sem] theorem qON:binOp .eql t (U x) (U y)=pure (.bool (x==y)):=(binOp_eql ..).trans (by rw[qCO])
@[go_sem] theorem qOO:binOp .neq t (U x) (U y)=pure (.bool (x != y)):=(binOp_neq ..).trans (by rw[bne,qCO];rfl)
@[go_sem] theorem qOP:binOp .lss t (U x) (U y)=pure (.bool (x<y)):=(binOp_lss ..).trans (by congr 2;simp[BitVec.lt_def])
end
section
variable (t:TypeId) (x:BitVec 64) (n:Int)
theorem qIu (h0:0≤n)(h1:n≤18446744073709551615):Value.int .u64 n=U (BitVec.ofNat 64 n.toNat):=by
 rw[U,BitVec.toNat_ofNat];congr 1;omega
@[go_sem] theorem qRK (h0:0≤n) (h1:n≤18446744073709551615):binOp .add t (U x) (.int .u64 n)=pure (U (x+BitVec.ofNat 64 n.toNat)):=by rw[qIu n h0 h1,qOJ]
@[go_sem] theorem qRL (h0:0≤n) (h1:n≤18446744073709551615):binOp .xor t (U x) (.int .u64 n)=pure (U (x ^^^ BitVec.ofNat 64 n.toNat)):=by rw[qIu n h0 h1,qOM]
@[go_sem] theorem qRM (h0:0≤n) (h1:n≤18446744073709551615):binOp .and t (U x) (.int .u64 n)=pure (U (x &&& BitVec.ofNat 64 n.toNat)):=by rw[qIu n h0 h1,qOL]
@[go_sem] theorem qSA (h0:0≤n) (h1:n≤18446744073709551615):binOp .or t (U x) (.int .u64 n)=pure (U (x ||| BitVec.ofNat 64 n.toNat)):=by rw[qIu n h0 h1,qQv]
@[go_sem] theorem qRN (h0:0≤n) (h1:n≤18446744073709551615):binOp .sub t (U x) (.int .u64 n)=pure (U (x - BitVec.ofNat 64 n.toNat)):=by rw[qIu n h0 h1,qOK]
@[go_sem] theorem qRO (h0:0≤n) (h1:n≤18446744073709551615):binOp .eql t (U x) (.int .u64 n)=pure (.bool (x==BitVec.ofNat 64 n.toNat)):=by rw[qIu n h0 h1,qON]
@[go_sem] theorem qRP (h0:0≤n) (h1:n≤18446744073709551615):binOp .neq t (U x) (.int .u64 n)=pure (.bool (x != BitVec.ofNat 64 n.toNat)):=by rw[qIu n h0 h1,qOO]
@[go_sem] theorem qRQ (h0:0≤n) (h1:n≤18446744073709551615):binOp .lss t (U x) (.int .u64 n)=pure (.bool (x<BitVec.ofNat 64 n.toNat)):=by rw[qIu n h0 h1,qOP]
@[go_sem] theorem qOQ (k:IntKind) (h0:0≤n):binOp .shl t (U x) (.int k n)=pure (U (x<<<n.toNat)):=by
 show Op.shift .shl .u64 (x.toNat:Int) k n=_
 have:¬n<0:=by omega
 simp only[Op.shift,this,if_false]
 rw[qCy,U,BitVec.toNat_shiftLeft,Nat.shiftLeft_eq]
 congr 2
 by_cases h:n.toNat≤64
 · rw[show min n.toNat (IntKind.u64.bits)=n.toNat by simp[IntKind.bits];omega]
   rw[Int.natCast_emod,Int.natCast_mul,Int.natCast_pow];rfl
 · rw[show min n.toNat (IntKind.u64.bits)=64 by simp[IntKind.bits];omega]
   have e:x.toNat*2^n.toNat % 2^64=0:=by
    obtain⟨m,hm⟩:∃m,n.toNat=64+m:=⟨n.toNat - 64,by omega⟩
    rw[hm,Nat.pow_add,←Nat.mul_assoc,Nat.mul_right_comm];exact Nat.mul_mod_left _ _
   rw[e]
   have:(x.toNat:Int)*2^64 % 18446744073709551616=0:=Int.mul_emod_left _ _
   rw[this];rfl
@[go_sem] theorem qOR (k:IntKind) (h0:0≤n):binOp .shr t (U x) (.int k n)=pure (U (x>>>n.toNat)):=by
 show Op.shift .shr .u64 (x.toNat:Int) k n=_
 have:¬n<0:=by omega
 simp only[Op.shift,this,if_false]
 rw[U,BitVec.toNat_ushiftRight,Nat.shiftRight_eq_div_pow]
 congr 2
 have hp:∀m:Nat,(x.toNat:Int).fdiv (2^m)=((x.toNat / 2^m:Nat):Int):=by
  intro m
  rw[Int.fdiv_eq_ediv_of_nonneg _ (Int.pow_nonneg (by decide)),Int.natCast_ediv,Int.natCast_pow];rfl
 rw[hp]
 by_cases h:n.toNat≤64
 · rw[show min n.toNat (IntKind.u64.bits)=n.toNat by simp[IntKind.bits];omega]
 · rw[show min n.toNat (IntKind.u64.bits)=64 by simp[IntKind.bits];omega]
   have h1:x.toNat / 2^64=0:=Nat.div_eq_of_lt x.isLt
   have h2:x.toNat / 2^n.toNat=0:=Nat.div_eq_of_lt (Nat.lt_of_lt_of_le x.isLt (Nat.pow_le_pow_right (by decide) (by omega)))
   rw[h1,h2]
@[go_sem] theorem qRR (y:BitVec 64):binOp .shl t (U x) (U y)=pure (U (x<<<y.toNat)):=by
 have:=qOQ t x (y.toNat:Int) .u64 (by omega);rw[Int.toNat_natCast]at this;exact this
@[go_sem] theorem qRS (y:BitVec 64):binOp .shr t (U x) (U y)=pure (U (x>>>y.toNat)):=by
 have:=qOR t x (y.toNat:Int) .u64 (by omega);rw[Int.toNat_natCast]at this;exact this
end
section
variable (op:BinOp) (t:TypeId) (x y:Operand) (v:Value)
@[go_sem] theorem qQc (a:BitVec 64):eqGuard op t x y (U a) v=pure ():=by cases op<;>rfl
@[go_sem] theorem qQd (a:BitVec 32):eqGuard op t x y (W a) v=pure ():=by cases op<;>rfl
@[go_sem] theorem qOS (a:UInt8):eqGuard op t x y (V8 a) v=pure ():=by cases op<;>rfl
end
@[go_sem] theorem qSW (a:BitVec 64):Value.cells.match_1 (motive:=fun _=>Array Value) (U a) (fun cs=>cs) (fun v=>#[v])=#[U a]:=rfl
@[go_sem] theorem qSX (a:BitVec 32):Value.cells.match_1 (motive:=fun _=>Array Value) (W a) (fun cs=>cs) (fun v=>#[v])=#[W a]:=rfl
@[go_sem] theorem qSB (a:UInt8):Value.cells.match_1 (motive:=fun _=>Array Value) (V8 a) (fun cs=>cs) (fun v=>#[v])=#[V8 a]:=rfl
@[go_sem] theorem qSY (a:BitVec 64):(U a).cells=#[U a]:=rfl
@[go_sem] theorem qSZ (a:BitVec 32):(W a).cells=#[W a]:=rfl
@[go_sem] theorem qSC (a:UInt8):(V8 a).cells=#[V8 a]:=rfl
section
variable (P:Program) (w:World) (a:Addr) (m:Mode)
@[go_sem] theorem qQw (x:BitVec 64):(store a (U x) m).run P w=stored P w a (U x) m:=run_store P w a _ m rfl
@[go_sem] theorem qQx (x:BitVec 32):(store a (W x) m).run P w=stored P w a (W x) m:=run_store P w a _ m rfl
@[go_sem] theorem qQe (x:UInt8):(store a (V8 x) m).run P w=stored P w a (V8 x) m:=run_store P w a _ m rfl
end
section
variable {P:Program} (w:World) (src dst:TypeId)
theorem qAH (k:IntKind)(k':IntKind)(n:Int)(hs:(P.underlying src).isSome=true)(hd:P.underlying dst=some (.int k')) :
 (convert src dst (.int k n)).run P w= .ok (.int k' (k'.wrap n)) w:=by
 have c:P.intKind dst=k':=by simp[Program.intKind,hd]
 have:=run_convert_int (P:=P) w src dst k n hs (by rw[c];exact hd)
 rw[c]at this;exact this
@[go_sem] theorem qRC (x:BitVec 64) (hs:(P.underlying src).isSome=true) (hd:P.underlying dst=some (.int .u64)):(convert src dst (U x)).run P w= .ok (U x) w:=by
 rw[U,qAH w src dst _ .u64 _ hs hd,qFP]
@[go_sem] theorem qRT (x:BitVec 64) (hs:(P.underlying src).isSome=true) (hd:P.underlying dst=some (.int .u8)):(convert src dst (U x)).run P w= .ok (V8 (UInt8.ofNat x.toNat)) w:=by
 rw[U,qAH w src dst _ .u8 _ hs hd,qMO,V8];congr 2
@[go_sem] theorem qRD (x:BitVec 64) (hs:(P.underlying src).isSome=true) (hd:P.underlying dst=some (.int .u32)):(convert src dst (U x)).run P w= .ok (W (x.setWidth 32)) w:=by
 rw[U,qAH w src dst _ .u32 _ hs hd,qHC,W];congr 2
@[go_sem] theorem qRE (x:BitVec 32) (hs:(P.underlying src).isSome=true) (hd:P.underlying dst=some (.int .u64)):(convert src dst (W x)).run P w= .ok (U (x.setWidth 64)) w:=by
 rw[W,qAH w src dst _ .u64 _ hs hd,qCy,U,BitVec.toNat_setWidth];congr 2
@[go_sem] theorem qQy (x:UInt8) (hs:(P.underlying src).isSome=true) (hd:P.underlying dst=some (.int .u64)):(convert src dst (V8 x)).run P w= .ok (U (BitVec.ofNat 64 x.toNat)) w:=by
 rw[V8,qAH w src dst _ .u64 _ hs hd,qCy,U];congr 2
@[go_sem] theorem qQf (n:Int) (hs:(P.underlying src).isSome=true) (hd:P.underlying dst=some (.int .u64)):(convert src dst (.int .i64 n)).run P w= .ok (U (BitVec.ofInt 64 n)) w:=by
 rw[qAH w src dst _ .u64 _ hs hd,qDq]
@[go_sem] theorem qFx (n:Int) (hs:(P.underlying src).isSome=true) (hd:P.underlying dst=some (.int .u32)):(convert src dst (.int .i64 n)).run P w= .ok (W (BitVec.ofInt 32 n)) w:=by
 rw[qAH w src dst _ .u32 _ hs hd,qJI]
end
end Go.Proofs.YtdlgihbpiakebaaGreat
namespace Go.Proofs.YtdlgihbpiakebaaGreat
abbrev qAD:=BitVec 64×BitVec 64
end Go.Proofs.YtdlgihbpiakebaaGreat
namespace Go.Proofs.YtdlgihbpiakebaaGreat
open Go
structure Nn where
 epoch:BitVec 32
 slot:BitVec 32
 version:BitVec 64
deriving DecidableEq
def Nn.val (n:Nn):Value:=.agg #[W n.epoch,W n.slot,U n.version]
end Go.Proofs.YtdlgihbpiakebaaGreat
namespace Go.Proofs.YtdlgihbpiakebaaGreat
def qE3 (v:BitVec 64)(n i:Nat):UInt8:=UInt8.ofNat (v.toNat>>>(8*(n - 1 - i)))
def qAI (v:BitVec 64)(n:Nat):List UInt8:=(List.range n).map (qE3 v n)
theorem qA9 (v:BitVec 64)(n:Nat):(qAI v n).length=n:=by simp[qAI]
theorem qOT (v:BitVec 64)(n i:Nat)(h:i<(qAI v n).length):(qAI v n)[i]=qE3 v n i:=by simp[qAI]
def qAn (bs:List UInt8):BitVec 64:=bs.foldl (fun v c=>v<<<8 ||| BitVec.ofNat 64 c.toNat) 0#64
theorem qIv (bs:List UInt8)(c:UInt8):qAn (bs++ [c])=qAn bs<<<8 ||| BitVec.ofNat 64 c.toNat:=by unfold qAn;rw[List.foldl_append];rfl
end Go.Proofs.YtdlgihbpiakebaaGreat
