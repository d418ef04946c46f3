/- '==' of two Nonces. -/
import Derived.Test.YtdabdmkkenjdnaaFlowK
namespace Go.Proofs.Ytdabdmkkenjdnaa
open Go Go.RowKit

theorem equalIn_W {P : Program} (w : World) (d : Nat) (e : TypeId) (he : P.underlying e = some (.int .u32)) (x y : BitVec 32) : (Op.equalIn (d + 1) e (W x) (W y)).run P w = .ok (x == y) w := by
  have h := run_equalIn_int (P := P) w d e .u32 .u32 (x.toNat : Int) (y.toNat : Int) he
  rw [beq_toNat] at h
  exact h
theorem part_W {P : Program} (w : World) (e : TypeId) (he : P.underlying e = some (.int .u32)) (cs : Array Value) (i : Nat) (v : Value) (hv : cs[i]? = some v) : (part e cs i).run P w = .ok v w := by
  simp [part, isAgg, run_underlying he, hv]
@[go_sem high] theorem eql_nonce (a b c d : BitVec 32) (x y : BitVec 64) (w : World) : (Op.equalIn 10000 34 (.agg #[W a, W b, U x]) (.agg #[W c, W d, U y])).run Try.prog w = .ok (decide ((⟨a, b, x⟩ : Nn) = ⟨c, d, y⟩)) w := by
  rw [run_equalIn_struct (P := Try.prog) w 9999 34 _ _ (by kernel_rfl) (by kernel_rfl)]
  have h0 := Try.underlying34
  have u32 := Try.underlying32
  have u64 := Try.underlying22
  unfold Program.fieldsOf
  rw [h0]
  have n0 : ("Epoch" ≠ "_") = True := by decide
  have n1 : ("Slot" ≠ "_") = True := by decide
  have n2 : ("Version" ≠ "_") = True := by decide
  simp only [Op.eqFields, Sem.run_bind, Sem.run_ite, n0, n1, n2, if_true, fun w => part_W (P := Try.prog) w 32 u32 #[W a, W b, U x] 0 (W a) rfl, fun w => part_W (P := Try.prog) w 32 u32 #[W c, W d, U y] 0 (W c) rfl,
    fun w => part_W (P := Try.prog) w 32 u32 #[W a, W b, U x] 1 (W b) rfl, fun w => part_W (P := Try.prog) w 32 u32 #[W c, W d, U y] 1 (W d) rfl,
    fun w => part_U (P := Try.prog) w 22 u64 #[W a, W b, U x] 2 (U x) rfl, fun w => part_U (P := Try.prog) w 22 u64 #[W c, W d, U y] 2 (U y) rfl, Result.andThen_ok,
    fun w => equalIn_W (P := Try.prog) w 9998 32 u32, fun w => equalIn_U (P := Try.prog) w 9998 22 u64, Sem.run_pure]
  by_cases h1 : a = c
  · by_cases h2 : b = d
    · by_cases h3 : x = y
      · simp [h1, h2, h3]
      · simp [h1, h2, h3]
    · simp [h1, h2]
  · simp [h1]

end Go.Proofs.Ytdabdmkkenjdnaa
