/- '==' of two roots, of two numbers of 32 digits, of two integers. -/
import Derived.Test.YtldgmilfihkkdaaRootG2
namespace Go.Proofs.Ytldgmilfihkkdaa
open Go Go.RowKit

theorem equalIn_W {P : Program} (w : World) (d : Nat) (e : TypeId) (he : P.underlying e = some (.int .u32)) (x y : BitVec 32) : (Op.equalIn (d + 1) e (W x) (W y)).run P w = .ok (x == y) w := by
  have h := run_equalIn_int (P := P) w d e .u32 .u32 (x.toNat : Int) (y.toNat : Int) he
  rw [beq_toNat] at h
  exact h
theorem part_one {P : Program} (w : World) (e : TypeId) (k : IntKind) (he : P.underlying e = some (.int k)) (cs : Array Value) (i : Nat) (v : Value) (hv : cs[i]? = some v) : (part e cs i).run P w = .ok v w := by
  simp [part, isAgg, run_underlying he, hv]
theorem part_arr2 {P : Program} (w : World) (t e : TypeId) (ht : P.underlying t = some (.array 2 e)) (hs : ∀ w : World, (sizeOf t).run P w = .ok 2 w) (cs : Array Value) (i : Nat) : (part t cs i).run P w = .ok (.agg (cs.extract i (i + 2))) w := by
  simp [part, isAgg, run_underlying ht, hs]
theorem cells_u64' : Try.prog.cellsOf 22 = 1 := by kernel_rfl
@[go_sem] theorem eql_pair (a b c f : BitVec 64) (w : World) : (Op.equalIn 10000 25 (.agg #[U a, U b]) (.agg #[U c, U f])).run Try.prog w = .ok ((a, b) == (c, f)) w :=
  equalIn_pair w 9998 25 22 Try.underlying25 Try.underlying22 cells_u64' a b c f
theorem size_pair : ∀ w : World, (sizeOf 25).run Try.prog w = .ok 2 w := fun w => by kernel_rfl

set_option maxRecDepth 100000 in
@[go_sem high] theorem eql_root (a a' d d' e e' : BitVec 64) (b b' : BitVec 32) (c c' : Int) (w : World) : (Op.equalIn 10000 27 (.agg #[U a, W b, .int .i64 c, U d, U e]) (.agg #[U a', W b', .int .i64 c', U d', U e'])).run Try.prog w = .ok (decide ((⟨a, b, c, (d, e)⟩ : Rt) = ⟨a', b', c', (d', e')⟩)) w := by
  rw [run_equalIn_struct (P := Try.prog) w 9999 27 _ _ (by kernel_rfl) (by kernel_rfl)]
  have h0 := Try.underlying27
  have u32 := Try.underlying23
  have u64 := Try.underlying22
  have i64 := Try.underlying3
  have pr := Try.underlying25
  unfold Program.fieldsOf
  rw [h0]
  have n0 : ("Count" ≠ "_") = True := by decide
  have n1 : ("Epoch" ≠ "_") = True := by decide
  have n2 : ("Slots" ≠ "_") = True := by decide
  have n3 : ("Hash" ≠ "_") = True := by decide
  have pu : ∀ (w : World) (x y z : BitVec 64) (b : BitVec 32) (c : Int), (part 22 #[U x, W b, .int .i64 c, U y, U z] 0).run Try.prog w = .ok (U x) w := fun w x y z b c => part_one w 22 .u64 u64 _ 0 _ rfl
  have pw : ∀ (w : World) (x y z : BitVec 64) (b : BitVec 32) (c : Int), (part 23 #[U x, W b, .int .i64 c, U y, U z] 1).run Try.prog w = .ok (W b) w := fun w x y z b c => part_one w 23 .u32 u32 _ 1 _ rfl
  have pi : ∀ (w : World) (x y z : BitVec 64) (b : BitVec 32) (c : Int), (part 3 #[U x, W b, .int .i64 c, U y, U z] 2).run Try.prog w = .ok (.int .i64 c) w := fun w x y z b c => part_one w 3 .i64 i64 _ 2 _ rfl
  have pp : ∀ (w : World) (x y z : BitVec 64) (b : BitVec 32) (c : Int), (part 25 #[U x, W b, .int .i64 c, U y, U z] 3).run Try.prog w = .ok (.agg #[U y, U z]) w := fun w x y z b c => part_arr2 w _ _ pr size_pair _ 3
  simp only [Op.eqFields, Sem.run_bind, Sem.run_ite, n0, n1, n2, n3, if_true, pu, pw, pi, pp, Result.andThen_ok,
    fun w => equalIn_W (P := Try.prog) w 9998 23 u32, fun w => equalIn_U (P := Try.prog) w 9998 22 u64, fun (w : World) (x y : Int) => run_equalIn_int (P := Try.prog) w 9998 3 .i64 .i64 x y i64,
    fun w x y z v => equalIn_pair (P := Try.prog) w 9997 25 22 pr u64 cells_u64' x y z v, Sem.run_pure]
  by_cases h1 : a = a'
  · by_cases h2 : b = b'
    · by_cases h3 : c = c'
      · by_cases h4 : (d, e) = (d', e')
        · simp_all
        · have : ((d, e) == (d', e')) = false := by simpa using h4
          simp [h1, h2, h3, this, h4]
      · simp [h1, h2, h3]
    · simp [h1, h2]
  · simp [h1]
end Go.Proofs.Ytldgmilfihkkdaa
