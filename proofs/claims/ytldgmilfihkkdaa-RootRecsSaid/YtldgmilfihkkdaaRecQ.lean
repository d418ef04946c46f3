/- '==' of two numbers that are used once; lockboxref5.Same. -/
import Derived.Test.YtldgmilfihkkdaaRecR
namespace Go.Proofs.Ytldgmilfihkkdaa
open Go Go.RowKit

def nnEq (m n : Nn) : Bool := decide (m = n)
set_option maxRecDepth 100000 in
@[go_sem high] theorem eql_nonce (a b c d : BitVec 32) (x y : BitVec 64) (w : World) : (Op.equalIn 10000 38 (.agg #[W a, W b, U x]) (.agg #[W c, W d, U y])).run Try.prog w = .ok (nnEq ⟨a, b, x⟩ ⟨c, d, y⟩) w := by
  unfold nnEq
  rw [run_equalIn_struct (P := Try.prog) w 9999 38 _ _ (by kernel_rfl) (by kernel_rfl)]
  have h0 := Try.underlying38
  have u32 := Try.underlying23
  have u64 := Try.underlying22
  unfold Program.fieldsOf
  rw [h0]
  have n0 : ("Epoch" ≠ "_") = True := by decide
  have n1 : ("Slot" ≠ "_") = True := by decide
  have n2 : ("Version" ≠ "_") = True := by decide
  have p0 : ∀ (w : World) (a b : BitVec 32) (x : BitVec 64), (part 23 #[W a, W b, U x] 0).run Try.prog w = .ok (W a) w := fun w a b x => part_one w _ .u32 u32 _ 0 _ rfl
  have p1 : ∀ (w : World) (a b : BitVec 32) (x : BitVec 64), (part 23 #[W a, W b, U x] 1).run Try.prog w = .ok (W b) w := fun w a b x => part_one w _ .u32 u32 _ 1 _ rfl
  have p2 : ∀ (w : World) (a b : BitVec 32) (x : BitVec 64), (part 22 #[W a, W b, U x] 2).run Try.prog w = .ok (U x) w := fun w a b x => part_one w _ .u64 u64 _ 2 _ rfl
  simp only [Op.eqFields, Sem.run_bind, Sem.run_ite, n0, n1, n2, if_true, p0, p1, p2, Result.andThen_ok, fun w => equalIn_W (P := Try.prog) w 9998 23 u32, fun w => equalIn_U (P := Try.prog) w 9998 22 u64, Sem.run_pure]
  by_cases h1 : a = c
  · by_cases h2 : b = d
    · by_cases h3 : x = y
      · simp [h1, h2, h3]
      · simp [h1, h2, h3]
    · simp [h1, h2]
  · simp [h1]

set_option maxRecDepth 100000 in
set_option maxHeartbeats 4000000 in
theorem sealed_same (va vb : Value) (xs ys : List UInt8) (a b c d : BitVec 64) (w : World) (ha : Sl w va xs.length (bcells xs)) (hb : Sl w vb ys.length (bcells ys)) : Calls Try.prog 16 #[.agg #[va, U a, U b], .agg #[vb, U c, U d]] w fun e w' => e = .returned (.bool ((xs == ys) && ((a, b) == (c, d)))) ∧ Kept w w' := by
  obtain ⟨aa, ac, hva⟩ := ha.len
  obtain ⟨ba, bc, hvb⟩ := hb.len
  subst hva
  subst hvb
  have hk : Kept w ((w.alloc (.cells #[.slice aa xs.length ac, U a, U b] 40)).alloc (.cells #[.slice ba ys.length bc, U c, U d] 40)) := ((Below.refl _ _).alloc (Nat.le_refl _) _).alloc (by simp) _
  have c1 := str_of (ha.kept hk)
  have c2 := str_of (hb.kept hk)
  clear ha hb
  cases he : xs == ys
  · go_enter Try.func16, Try.ntmps16
    go_wp2
    go_ret
    exact ⟨rfl, hk⟩
  · go_enter Try.func16, Try.ntmps16
    go_wp2
    go_ret
    exact ⟨rfl, hk⟩
end Go.Proofs.Ytldgmilfihkkdaa
