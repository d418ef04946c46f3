/- '==' of two leaves. -/
import Derived.Test.YtkbihhdgipckgaaLeafD
import Derived.Test.YtkbihhdgipckgaaEqs
namespace Go.Proofs.Ytkbihhdgipckgaa
open Go Go.RowKit

theorem size_nonce : ∀ w : World, (sizeOf 25).run Try.prog w = .ok 3 w := fun w => by kernel_rfl
set_option maxRecDepth 100000 in
theorem equalIn_nonce (w : World) (a b c d : BitVec 32) (x y : BitVec 64) : (Op.equalIn 9999 25 (.agg #[W a, W b, U x]) (.agg #[W c, W d, U y])).run Try.prog w = .ok (decide (a = c ∧ b = d ∧ x = y)) w := by
  rw [run_equalIn_struct (P := Try.prog) w 9998 25 _ _ (by kernel_rfl) (by kernel_rfl)]
  have h0 := Try.underlying25
  have u32 := Try.underlying22
  have u64 := Try.underlying23
  unfold Program.fieldsOf
  rw [h0]
  have n0 : ("Epoch" ≠ "_") = True := by decide
  have n1 : ("Slot" ≠ "_") = True := by decide
  have n2 : ("Version" ≠ "_") = True := by decide
  have p0 : ∀ (w : World) (a b : BitVec 32) (x : BitVec 64), (part 22 #[W a, W b, U x] 0).run Try.prog w = .ok (W a) w := fun w a b x => part_one w _ .u32 u32 _ 0 _ rfl
  have p1 : ∀ (w : World) (a b : BitVec 32) (x : BitVec 64), (part 22 #[W a, W b, U x] 1).run Try.prog w = .ok (W b) w := fun w a b x => part_one w _ .u32 u32 _ 1 _ rfl
  have p2 : ∀ (w : World) (a b : BitVec 32) (x : BitVec 64), (part 23 #[W a, W b, U x] 2).run Try.prog w = .ok (U x) w := fun w a b x => part_one w _ .u64 u64 _ 2 _ rfl
  simp only [Op.eqFields, Sem.run_bind, Sem.run_ite, n0, n1, n2, if_true, p0, p1, p2, Result.andThen_ok, fun w => equalIn_W (P := Try.prog) w 9997 22 u32, fun w => equalIn_U (P := Try.prog) w 9997 23 u64, Sem.run_pure]
  by_cases h1 : a = c
  · by_cases h2 : b = d
    · by_cases h3 : x = y
      · simp [h1, h2, h3]
      · simp [h1, h2, h3]
    · simp [h1, h2]
  · simp [h1]

set_option maxRecDepth 100000 in
set_option maxHeartbeats 1000000 in
@[go_sem high] theorem eql_leaf (k k' z z' : Int) (b b' : Bool) (e e' s s' : BitVec 32) (v v' t t' u u' : BitVec 64) (w : World) :
    (Op.equalIn 10000 29 (.agg #[.int .i64 k, .bool b, .int .i64 z, W e, W s, U v, U t, U u]) (.agg #[.int .i64 k', .bool b', .int .i64 z', W e', W s', U v', U t', U u'])).run Try.prog w =
      .ok (lfEq ⟨k, b, z, e, s, v, (t, u)⟩ ⟨k', b', z', e', s', v', (t', u')⟩) w := by
  unfold lfEq
  rw [run_equalIn_struct (P := Try.prog) w 9999 29 _ _ (by kernel_rfl) (by kernel_rfl)]
  have h0 := Try.underlying29
  have u64 := Try.underlying23
  have i64 := Try.underlying3
  have bo := Try.underlying4
  have pr := Try.underlying27
  have nn := Try.underlying25
  unfold Program.fieldsOf
  rw [h0]
  have n0 : ("Kind" ≠ "_") = True := by decide
  have n1 : ("Dirty" ≠ "_") = True := by decide
  have n2 : ("Lba" ≠ "_") = True := by decide
  have n3 : ("Nonce" ≠ "_") = True := by decide
  have n4 : ("Tag" ≠ "_") = True := by decide
  have p0 : ∀ (w : World) (k z : Int) (b : Bool) (e s : BitVec 32) (v t u : BitVec 64), (part 3 #[.int .i64 k, .bool b, .int .i64 z, W e, W s, U v, U t, U u] 0).run Try.prog w = .ok (.int .i64 k) w := fun w k z b e s v t u => part_one w _ .i64 i64 _ 0 _ rfl
  have p1 : ∀ (w : World) (k z : Int) (b : Bool) (e s : BitVec 32) (v t u : BitVec 64), (part 4 #[.int .i64 k, .bool b, .int .i64 z, W e, W s, U v, U t, U u] 1).run Try.prog w = .ok (.bool b) w := fun w k z b e s v t u => part_bool w _ bo _ 1 _ rfl
  have p2 : ∀ (w : World) (k z : Int) (b : Bool) (e s : BitVec 32) (v t u : BitVec 64), (part 3 #[.int .i64 k, .bool b, .int .i64 z, W e, W s, U v, U t, U u] 2).run Try.prog w = .ok (.int .i64 z) w := fun w k z b e s v t u => part_one w _ .i64 i64 _ 2 _ rfl
  have p3 : ∀ (w : World) (k z : Int) (b : Bool) (e s : BitVec 32) (v t u : BitVec 64), (part 25 #[.int .i64 k, .bool b, .int .i64 z, W e, W s, U v, U t, U u] 3).run Try.prog w = .ok (.agg #[W e, W s, U v]) w := fun w k z b e s v t u => part_str w _ _ 3 nn size_nonce _ 3
  have p4 : ∀ (w : World) (k z : Int) (b : Bool) (e s : BitVec 32) (v t u : BitVec 64), (part 27 #[.int .i64 k, .bool b, .int .i64 z, W e, W s, U v, U t, U u] 6).run Try.prog w = .ok (.agg #[U t, U u]) w := fun w k z b e s v t u => part_arr2 w _ _ pr size_pair _ 6
  have eb : ∀ (w : World) (x y : Bool), (Op.equalIn 9999 4 (.bool x) (.bool y)).run Try.prog w = .ok (x == y) w := fun w x y => run_equalIn_bool' w 9998 _ x y bo
  simp only [Op.eqFields, Sem.run_bind, Sem.run_ite, n0, n1, n2, n3, n4, if_true, p0, p1, p2, p3, p4, eb, Result.andThen_ok, fun (w : World) (x y : Int) => run_equalIn_int (P := Try.prog) w 9998 3 .i64 .i64 x y i64, equalIn_nonce,
    fun w x y z v => equalIn_pair (P := Try.prog) w 9997 27 23 pr u64 cells_u64' x y z v, Sem.run_pure]
  by_cases h1 : k = k'
  · by_cases h2 : b = b'
    · by_cases h3 : z = z'
      · by_cases h4 : e = e' ∧ s = s' ∧ v = v'
        · by_cases h5 : (t, u) = (t', u')
          · simp_all
          · have : ((t, u) == (t', u')) = false := by simpa using h5
            obtain ⟨ha, hb, hc⟩ := h4
            simp [h1, h2, h3, ha, hb, hc, this, h5]
        · have h6 : ¬ ((⟨k, b, z, e, s, v, (t, u)⟩ : Lf) = ⟨k', b', z', e', s', v', (t', u')⟩) := fun e => by
            simp only [Lf.mk.injEq] at e
            exact h4 ⟨e.2.2.2.1, e.2.2.2.2.1, e.2.2.2.2.2.1⟩
          rw [decide_eq_false h6, decide_eq_false h4]
          simp [h1, h2, h3]
      · simp [h1, h2, h3]
    · simp [h1, h2]
  · simp [h1]
end Go.Proofs.Ytkbihhdgipckgaa
