import Derived.Test.YtldmebjnklmpfaaGreatMh00
import Derived.WalkKit
import Derived.Below
import Derived.WalkSmall
set_option maxRecDepth 100000
set_option maxHeartbeats 4000000
namespace Go.Proofs.YtldmebjnklmpfaaGreat
open Go Go.RowKit
def U (x : BitVec 64) : Value:=.int .u64 (x.toNat : Int)
def W (x : BitVec 32) : Value:=.int .u32 (x.toNat : Int)
def V8 (x : UInt8) : Value:=.int .u8 (x.toNat : Int)
theorem wrap_u64 (n : Int) : IntKind.u64.wrap n = n % 18446744073709551616:=by
 unfold IntKind.wrap;simp [IntKind.bits,IntKind.signed]
theorem wrap_u32 (n : Int) : IntKind.u32.wrap n = n % 4294967296:=by
 unfold IntKind.wrap;simp [IntKind.bits,IntKind.signed]
theorem wrap_u8 (n : Int) : IntKind.u8.wrap n = n % 256:=by
 unfold IntKind.wrap;simp [IntKind.bits,IntKind.signed]
theorem U_ofInt (n : Int) : Value.int .u64 (IntKind.u64.wrap n) = U (BitVec.ofInt 64 n):=by
 rw [wrap_u64,U,BitVec.toNat_ofInt];congr 1;omega
theorem W_ofInt (n : Int) : Value.int .u32 (IntKind.u32.wrap n) = W (BitVec.ofInt 32 n):=by
 rw [wrap_u32,W,BitVec.toNat_ofInt];congr 1;omega
theorem wrap_nat (x : BitVec 64) : IntKind.u64.wrap (x.toNat : Int) = (x.toNat : Int):=by
 rw [wrap_u64];have:=x.isLt;omega
section
variable (t : TypeId) (x y : BitVec 64)
theorem opU_add : Op.intArith .add .u64 (x.toNat : Int) (y.toNat : Int) = pure (U (x + y)):=by
 show pure (Value.int .u64 (IntKind.u64.wrap _)) = _
 rw [wrap_u64,U,BitVec.toNat_add];congr 2
theorem opU_sub : Op.intArith .sub .u64 (x.toNat : Int) (y.toNat : Int) = pure (U (x - y)):=by
 show pure (Value.int .u64 (IntKind.u64.wrap _)) = _
 rw [wrap_u64,U,BitVec.toNat_sub];have:=x.isLt;have:=y.isLt;congr 2;omega
theorem ofInt_nat : BitVec.ofInt 64 (x.toNat : Int) = x:=by
 apply BitVec.eq_of_toNat_eq;rw [BitVec.toNat_ofInt];have:=x.isLt;omega
theorem opU_and : Op.intBits .and .u64 (x.toNat : Int) (y.toNat : Int) = pure (U (x &&& y)):=by
 show pure (Value.int .u64 (IntKind.u64.wrap ((BitVec.ofInt 64 _ &&& BitVec.ofInt 64 _).toNat : Int))) = _
 rw [ofInt_nat,ofInt_nat,wrap_nat];rfl
theorem opU_or : Op.intBits .or .u64 (x.toNat : Int) (y.toNat : Int) = pure (U (x ||| y)):=by
 show pure (Value.int .u64 (IntKind.u64.wrap ((BitVec.ofInt 64 _ ||| BitVec.ofInt 64 _).toNat : Int))) = _
 rw [ofInt_nat,ofInt_nat,wrap_nat];rfl
theorem opU_xor : Op.intBits .xor .u64 (x.toNat : Int) (y.toNat : Int) = pure (U (x ^^^ y)):=by
 show pure (Value.int .u64 (IntKind.u64.wrap ((BitVec.ofInt 64 _ ^^^ BitVec.ofInt 64 _).toNat : Int))) = _
 rw [ofInt_nat,ofInt_nat,wrap_nat];rfl
@[go_sem] theorem binU_add : binOp .add t (U x) (U y) = pure (U (x + y)):=(binOp_add ..).trans (opU_add x y)
@[go_sem] theorem binU_sub : binOp .sub t (U x) (U y) = pure (U (x - y)):=(binOp_sub ..).trans (opU_sub x y)
@[go_sem] theorem binU_and : binOp .and t (U x) (U y) = pure (U (x &&& y)):=(binOp_and ..).trans (opU_and x y)
@[go_sem] theorem binU_or : binOp .or t (U x) (U y) = pure (U (x ||| y)):=(binOp_or ..).trans (opU_or x y)
@[go_sem] theorem binU_xor : binOp .xor t (U x) (U y) = pure (U (x ^^^ y)):=(binOp_xor ..).trans (opU_xor x y)
theorem beq_toNat {n : Nat} (a b : BitVec n) : ((a.toNat : Int) == (b.toNat : Int)) = (a == b):=by
 rw [Bool.eq_iff_iff,beq_iff_eq,beq_iff_eq]
 exact ⟨fun h=>BitVec.eq_of_toNat_eq (by omega),fun h=>by rw [h]⟩
@[go_sem] theorem binU_eql : binOp .eql t (U x) (U y) = pure (.bool (x == y)):=(binOp_eql ..).trans (by rw [beq_toNat])
@[go_sem] theorem binU_neq : binOp .neq t (U x) (U y) = pure (.bool (x != y)):=(binOp_neq ..).trans (by rw [bne,beq_toNat];rfl)
@[go_sem] theorem binU_lss : binOp .lss t (U x) (U y) = pure (.bool (x < y)):=(binOp_lss ..).trans (by congr 2;simp [BitVec.lt_def])
end
section
variable (t : TypeId) (x : BitVec 64) (n : Int)
theorem U_lit (h0 : 0 ≤ n) (h1 : n ≤ 18446744073709551615) : Value.int .u64 n = U (BitVec.ofNat 64 n.toNat):=by
 rw [U,BitVec.toNat_ofNat];congr 1;omega
@[go_sem] theorem binUl_add (h0 : 0 ≤ n) (h1 : n ≤ 18446744073709551615) : binOp .add t (U x) (.int .u64 n) = pure (U (x + BitVec.ofNat 64 n.toNat)):=by rw [U_lit n h0 h1,binU_add]
@[go_sem] theorem binUl_xor (h0 : 0 ≤ n) (h1 : n ≤ 18446744073709551615) : binOp .xor t (U x) (.int .u64 n) = pure (U (x ^^^ BitVec.ofNat 64 n.toNat)):=by rw [U_lit n h0 h1,binU_xor]
@[go_sem] theorem binUl_and (h0 : 0 ≤ n) (h1 : n ≤ 18446744073709551615) : binOp .and t (U x) (.int .u64 n) = pure (U (x &&& BitVec.ofNat 64 n.toNat)):=by rw [U_lit n h0 h1,binU_and]
@[go_sem] theorem binUl_or (h0 : 0 ≤ n) (h1 : n ≤ 18446744073709551615) : binOp .or t (U x) (.int .u64 n) = pure (U (x ||| BitVec.ofNat 64 n.toNat)):=by rw [U_lit n h0 h1,binU_or]
@[go_sem] theorem binUl_sub (h0 : 0 ≤ n) (h1 : n ≤ 18446744073709551615) : binOp .sub t (U x) (.int .u64 n) = pure (U (x - BitVec.ofNat 64 n.toNat)):=by rw [U_lit n h0 h1,binU_sub]
@[go_sem] theorem binUl_eql (h0 : 0 ≤ n) (h1 : n ≤ 18446744073709551615) : binOp .eql t (U x) (.int .u64 n) = pure (.bool (x == BitVec.ofNat 64 n.toNat)):=by rw [U_lit n h0 h1,binU_eql]
@[go_sem] theorem binUl_neq (h0 : 0 ≤ n) (h1 : n ≤ 18446744073709551615) : binOp .neq t (U x) (.int .u64 n) = pure (.bool (x != BitVec.ofNat 64 n.toNat)):=by rw [U_lit n h0 h1,binU_neq]
@[go_sem] theorem binUl_lss (h0 : 0 ≤ n) (h1 : n ≤ 18446744073709551615) : binOp .lss t (U x) (.int .u64 n) = pure (.bool (x < BitVec.ofNat 64 n.toNat)):=by rw [U_lit n h0 h1,binU_lss]
@[go_sem] theorem binU_shl (k : IntKind) (h0 : 0 ≤ n) : binOp .shl t (U x) (.int k n) = pure (U (x <<< n.toNat)):=by
 show Op.shift .shl .u64 (x.toNat : Int) k n = _
 have : ¬ n < 0:=by omega
 simp only [Op.shift,this,if_false]
 rw [wrap_u64,U,BitVec.toNat_shiftLeft,Nat.shiftLeft_eq]
 congr 2
 by_cases h : n.toNat ≤ 64
 · rw [show min n.toNat (IntKind.u64.bits) = n.toNat by simp [IntKind.bits];omega]
   rw [Int.natCast_emod,Int.natCast_mul,Int.natCast_pow];rfl
 · rw [show min n.toNat (IntKind.u64.bits) = 64 by simp [IntKind.bits];omega]
   have e : x.toNat * 2 ^ n.toNat % 2 ^ 64 = 0:=by
    obtain ⟨m,hm⟩ : ∃ m,n.toNat = 64 + m:=⟨n.toNat - 64,by omega⟩
    rw [hm,Nat.pow_add,← Nat.mul_assoc,Nat.mul_right_comm];exact Nat.mul_mod_left _ _
   rw [e]
   have : (x.toNat : Int) * 2 ^ 64 % 18446744073709551616 = 0:=Int.mul_emod_left _ _
   rw [this];rfl
@[go_sem] theorem binU_shr (k : IntKind) (h0 : 0 ≤ n) : binOp .shr t (U x) (.int k n) = pure (U (x >>> n.toNat)):=by
 show Op.shift .shr .u64 (x.toNat : Int) k n = _
 have : ¬ n < 0:=by omega
 simp only [Op.shift,this,if_false]
 rw [U,BitVec.toNat_ushiftRight,Nat.shiftRight_eq_div_pow]
 congr 2
 have hp : ∀ m : Nat,(x.toNat : Int).fdiv (2 ^ m) = ((x.toNat / 2 ^ m : Nat) : Int):=by
  intro m
  rw [Int.fdiv_eq_ediv_of_nonneg _ (Int.pow_nonneg (by decide)),Int.natCast_ediv,Int.natCast_pow];rfl
 rw [hp]
 by_cases h : n.toNat ≤ 64
 · rw [show min n.toNat (IntKind.u64.bits) = n.toNat by simp [IntKind.bits];omega]
 · rw [show min n.toNat (IntKind.u64.bits) = 64 by simp [IntKind.bits];omega]
   have h1 : x.toNat / 2 ^ 64 = 0:=Nat.div_eq_of_lt x.isLt
   have h2 : x.toNat / 2 ^ n.toNat = 0:=Nat.div_eq_of_lt (Nat.lt_of_lt_of_le x.isLt (Nat.pow_le_pow_right (by decide) (by omega)))
   rw [h1,h2]
@[go_sem] theorem binU_shlU (y : BitVec 64) : binOp .shl t (U x) (U y) = pure (U (x <<< y.toNat)):=by
 have:=binU_shl t x (y.toNat : Int) .u64 (by omega);rw [Int.toNat_natCast] at this;exact this
@[go_sem] theorem binU_shrU (y : BitVec 64) : binOp .shr t (U x) (U y) = pure (U (x >>> y.toNat)):=by
 have:=binU_shr t x (y.toNat : Int) .u64 (by omega);rw [Int.toNat_natCast] at this;exact this
end
section
variable (op : BinOp) (t : TypeId) (x y : Operand) (v : Value)
@[go_sem] theorem eqGuard_at_U (a : BitVec 64) : eqGuard op t x y (U a) v = pure ():=by cases op <;> rfl
@[go_sem] theorem eqGuard_at_W (a : BitVec 32) : eqGuard op t x y (W a) v = pure ():=by cases op <;> rfl
@[go_sem] theorem eqGuard_at_V8 (a : UInt8) : eqGuard op t x y (V8 a) v = pure ():=by cases op <;> rfl
end
@[go_sem] theorem match_U (a : BitVec 64) : Value.cells.match_1 (motive:=fun _=>Array Value) (U a) (fun cs=>cs) (fun v=>#[v]) = #[U a]:=rfl
@[go_sem] theorem match_W (a : BitVec 32) : Value.cells.match_1 (motive:=fun _=>Array Value) (W a) (fun cs=>cs) (fun v=>#[v]) = #[W a]:=rfl
@[go_sem] theorem match_V8 (a : UInt8) : Value.cells.match_1 (motive:=fun _=>Array Value) (V8 a) (fun cs=>cs) (fun v=>#[v]) = #[V8 a]:=rfl
@[go_sem] theorem cells_U (a : BitVec 64) : (U a).cells = #[U a]:=rfl
@[go_sem] theorem cells_W (a : BitVec 32) : (W a).cells = #[W a]:=rfl
@[go_sem] theorem cells_V8 (a : UInt8) : (V8 a).cells = #[V8 a]:=rfl
section
variable (P : Program) (w : World) (a : Addr) (m : Mode)
@[go_sem] theorem run_store_U (x : BitVec 64) : (store a (U x) m).run P w = stored P w a (U x) m:=run_store P w a _ m rfl
@[go_sem] theorem run_store_W (x : BitVec 32) : (store a (W x) m).run P w = stored P w a (W x) m:=run_store P w a _ m rfl
@[go_sem] theorem run_store_V8 (x : UInt8) : (store a (V8 x) m).run P w = stored P w a (V8 x) m:=run_store P w a _ m rfl
end
section
variable {P : Program} (w : World) (src dst : TypeId)
theorem conv_int (k : IntKind) (k' : IntKind) (n : Int) (hs : (P.underlying src).isSome = true) (hd : P.underlying dst = some (.int k')) :
 (convert src dst (.int k n)).run P w = .ok (.int k' (k'.wrap n)) w:=by
 have hk : P.intKind dst = k':=by simp [Program.intKind,hd]
 have:=run_convert_int (P:=P) w src dst k n hs (by rw [hk];exact hd)
 rw [hk] at this;exact this
@[go_sem] theorem conv_U_u64 (x : BitVec 64) (hs : (P.underlying src).isSome = true) (hd : P.underlying dst = some (.int .u64)) : (convert src dst (U x)).run P w = .ok (U x) w:=by
 rw [U,conv_int w src dst _ .u64 _ hs hd,wrap_nat]
@[go_sem] theorem conv_U_u8 (x : BitVec 64) (hs : (P.underlying src).isSome = true) (hd : P.underlying dst = some (.int .u8)) : (convert src dst (U x)).run P w = .ok (V8 (UInt8.ofNat x.toNat)) w:=by
 rw [U,conv_int w src dst _ .u8 _ hs hd,wrap_u8,V8];congr 2
@[go_sem] theorem conv_U_u32 (x : BitVec 64) (hs : (P.underlying src).isSome = true) (hd : P.underlying dst = some (.int .u32)) : (convert src dst (U x)).run P w = .ok (W (x.setWidth 32)) w:=by
 rw [U,conv_int w src dst _ .u32 _ hs hd,wrap_u32,W];congr 2
@[go_sem] theorem conv_W_u64 (x : BitVec 32) (hs : (P.underlying src).isSome = true) (hd : P.underlying dst = some (.int .u64)) : (convert src dst (W x)).run P w = .ok (U (x.setWidth 64)) w:=by
 rw [W,conv_int w src dst _ .u64 _ hs hd,wrap_u64,U,BitVec.toNat_setWidth];congr 2
@[go_sem] theorem conv_V8_u64 (x : UInt8) (hs : (P.underlying src).isSome = true) (hd : P.underlying dst = some (.int .u64)) : (convert src dst (V8 x)).run P w = .ok (U (BitVec.ofNat 64 x.toNat)) w:=by
 rw [V8,conv_int w src dst _ .u64 _ hs hd,wrap_u64,U];congr 2
@[go_sem] theorem conv_i64_u64 (n : Int) (hs : (P.underlying src).isSome = true) (hd : P.underlying dst = some (.int .u64)) : (convert src dst (.int .i64 n)).run P w = .ok (U (BitVec.ofInt 64 n)) w:=by
 rw [conv_int w src dst _ .u64 _ hs hd,U_ofInt]
@[go_sem] theorem conv_i64_u32 (n : Int) (hs : (P.underlying src).isSome = true) (hd : P.underlying dst = some (.int .u32)) : (convert src dst (.int .i64 n)).run P w = .ok (W (BitVec.ofInt 32 n)) w:=by
 rw [conv_int w src dst _ .u32 _ hs hd,W_ofInt]
end
end Go.Proofs.YtldmebjnklmpfaaGreat
namespace Go.Proofs.YtldmebjnklmpfaaGreat
abbrev Pair:=BitVec 64 × BitVec 64
end Go.Proofs.YtldmebjnklmpfaaGreat
namespace Go.Proofs.YtldmebjnklmpfaaGreat
open Go
structure Nn where
 epoch : BitVec 32
 slot : BitVec 32
 version : BitVec 64
deriving DecidableEq
def Nn.val (n : Nn) : Value:=.agg #[W n.epoch,W n.slot,U n.version]
end Go.Proofs.YtldmebjnklmpfaaGreat
namespace Go.Proofs.YtldmebjnklmpfaaGreat
def byteAt (v : BitVec 64) (n i : Nat) : UInt8:=UInt8.ofNat (v.toNat >>> (8 * (n - 1 - i)))
def putB (v : BitVec 64) (n : Nat) : List UInt8:=(List.range n).map (byteAt v n)
theorem putB_length (v : BitVec 64) (n : Nat) : (putB v n).length = n:=by simp [putB]
theorem putB_get (v : BitVec 64) (n i : Nat) (h : i < (putB v n).length) : (putB v n)[i] = byteAt v n i:=by simp [putB]
def getB (bs : List UInt8) : BitVec 64:=bs.foldl (fun v c=>v <<< 8 ||| BitVec.ofNat 64 c.toNat) 0#64
theorem getB_snoc (bs : List UInt8) (c : UInt8) : getB (bs ++ [c]) = getB bs <<< 8 ||| BitVec.ofNat 64 c.toNat:=by unfold getB;rw [List.foldl_append];rfl
end Go.Proofs.YtldmebjnklmpfaaGreat
