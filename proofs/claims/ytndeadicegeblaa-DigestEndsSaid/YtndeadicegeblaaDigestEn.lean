/- DigestEnds: at all lengths round the ends of sixteens. -/
import Derived.Test.YtndeadicegeblaaDigestK
import Derived.Test.YtndeadicegeblaaRows
namespace Go.Proofs.Ytndeadicegeblaa
open Go Go.RowKit

theorem binV8_add (t : TypeId) (x y : UInt8) : binOp .add t (V8 x) (V8 y) = pure (V8 (x + y)) := by
  refine (binOp_add ..).trans ?_
  show pure (Value.int .u8 (IntKind.u8.wrap _)) = _
  rw [wrap_u8, V8, UInt8.toNat_add]
  congr 2
set_option maxRecDepth 100000 in
set_option maxHeartbeats 4000000 in
theorem ends_walk (n : Int) (c : UInt8) (w : World) (lo : -9223372036854775808 ≤ n) (hi : n ≤ 9223372036854775807) : Calls Try.prog 5 #[.int .i64 n, V8 c] w fun e w' => e = .returned (.bool true) ∧ Kept w w' := by
  by_cases h0 : n < 0
  · go_enter Try.func5, Try.ntmps5
    go_wp2
    go_ret
    exact ⟨rfl, Below.refl _ _⟩
  by_cases h1 : 20 < n
  · have d0 : decide (n < 0) = false := by simpa using h0
    go_enter Try.func5, Try.ntmps5
    go_wp2
    go_ret
    exact ⟨rfl, Below.refl _ _⟩
  obtain ⟨m, hm⟩ : ∃ m : Nat, n = (m : Int) := ⟨n.toNat, by omega⟩
  subst hm
  have i0 : (m : Int) ≤ 20 := by omega
  have i1 : (0 : Int) ≤ (m : Int) := by omega
  clear h0 h1 lo hi
  go_enter Try.func5, Try.ntmps5
  go_wp2_with fail
  go_loopw [5] (fun i wr => ∃ k : Nat, k ≤ 16 ∧ i = .int .i64 k ∧ Kept w wr) (fun i _ => 16 - (intOf i).toNat)
  case atStart => exact ⟨0, by omega, rfl, Below.refl _ _⟩
  case round =>
    obtain ⟨k, hk, rfl, hkw⟩ := hrel
    by_cases hlt : k < 16
    · obtain ⟨N, hN⟩ : ∃ N : Nat, N = 16 * m + k := ⟨_, rfl⟩
      have j0 : (k : Int) < 16 := by omega
      have j1 : (16 : Int) * (m : Int) + (k : Int) = (N : Int) := by omega
      have j2 : (N : Int) ≤ 400 := by omega
      have hmk := run_make_b (P := Try.prog) wr sl_bytes .i64 .i64 N (by omega)
      rw [← j1] at hmk
      have HN := Lib.hid hN
      have J1 := Lib.hid j1
      clear hN j1
      obtain ⟨Z, hZ⟩ : ∃ Z, Z = List.replicate N (0 : UInt8) := ⟨_, rfl⟩
      have hzl : Z.length = N := by rw [hZ]; simp
      rw [← hZ] at hmk
      have HZL := Lib.hid hzl
      clear hZ hzl
      go_wp2_with fail
      clear hmk
      have hB := Blk.new wr (bcells Z).toArray 5
      have hk2 : Kept w (wr.alloc (.cells (bcells Z).toArray 5)) := hkw.alloc (by have := hkw.size; omega) _
      obtain ⟨G, hG⟩ : ∃ G, G = wr.heap.size := ⟨_, rfl⟩
      have hwG : w.heap.size ≤ G := by rw [hG]; exact hkw.size
      generalize wr.alloc (.cells (bcells Z).toArray 5) = w2 at *
      rw [← hG] at hB
      simp only [← hG]
      clear hG
      go_loopw [7] (fun i wr => ∃ q : Nat, q ≤ N ∧ i = .int .i64 q ∧ ∃ bs : List UInt8, Hid (bs.length = N) ∧ Blk wr G (bcells bs).toArray 5 ∧ Kept w wr) (fun i _ => N - (intOf i).toNat)
      case atStart => exact ⟨0, by omega, rfl, Z, HZL, hB, hk2⟩
      case round =>
        obtain ⟨q, hq, rfl, bs, HB, hBb, hk3⟩ := hrel
        clear hB hk2 HZL
        by_cases hlt2 : q < N
        · have j3 : (q : Int) < (N : Int) := by omega
          have j4 : (0 : Int) ≤ (q : Int) := by omega
          have hqb : q < bs.length := by rw [HB.out]; exact hlt2
          have c0 : wr.cell? ⟨G, q, none⟩ = some (V8 bs[q]) := by rw [hBb.cell]; simpa using bcells_get bs q hqb
          have f0 := hBb.free q
          obtain ⟨y, hy⟩ : ∃ y, y = UInt8.ofNat ((q : Int) % 256).toNat := ⟨_, rfl⟩
          have cv : ∀ wx : World, (convert 3 5 (.int .i64 (q : Int))).run Try.prog wx = .ok (V8 y) wx := fun wx => by
            rw [conv_int wx 3 5 _ .u8 _ (by kernel_rfl) Try.underlying5, V8_ofInt, hy]
          have cb := fun t => binV8_add t c y
          have HY := Lib.hid hy
          clear hy
          go_wp2
          refine ⟨⟨q + 1, by omega, by go_num, bs.set q (c + y), Lib.hid (by rw [List.length_set]; exact HB.out), ?_, hk3.setCell (by show _ ≤ G; omega) _⟩, by simp [intOf]; omega⟩
          rw [← bcells_set]
          exact hBb.set q _
        · have hqN : q = N := by omega
          subst hqN
          have s4 : Sl wr (.slice (some ⟨G, 0, none⟩) q q) bs.length (bcells bs) := by
            rw [HB.out]
            exact Sl.of_own (own_made q (by unfold maxLen; omega) 5 bs HB.out hBb (Nat.le_refl _))
          have hr := RowsSl.lit (us := [.slice (some ⟨G, 0, none⟩) q q]) (.cons s4 .nil) 22 1 rfl (by decide)
          have hka : Kept w (wr.alloc (.cells #[.slice (some ⟨G, 0, none⟩) q q] 22)) := hk3.alloc (by have := hk3.size; omega) _
          have s5 := s4.kept (show Kept wr (wr.alloc (.cells #[.slice (some ⟨G, 0, none⟩) q q] 22)) from (Below.refl _ _).alloc (Nat.le_refl _) _)
          clear s4
          go_wp2_with fail
          refine (sum_any _ [bs] (by simp) (by simp; rw [HB.out]; omega) _ hr).mono ?_
          rintro e w7 ⟨rfl, hk7⟩
          rw [show ([bs] : List (List UInt8)).flatten = bs by simp]
          obtain ⟨X, hX⟩ : ∃ X, X = sumB bs := ⟨_, rfl⟩
          rw [← hX]
          have HX := Lib.hid hX
          clear hX hr
          go_wp2_with fail
          refine (rsum_any _ bs (by rw [HB.out]; omega) _ (s5.kept hk7)).mono ?_
          rintro e w8 ⟨rfl, hk8⟩
          rw [← HX.out]
          go_wp2
          exact ⟨⟨k + 1, by omega, by go_num, (hka.of hk7).of hk8⟩, by simp [intOf]; omega⟩
    · go_wp2_with fail
      refine (known_any _).mono ?_
      rintro e w9 ⟨rfl, hk9⟩
      go_wp2
      go_ret
      exact ⟨rfl, hkw.of hk9⟩

namespace digestEndsRow
open Go.ChangeShapes Go.WideShapes Go.ChangeAt Go.RowKit
theorem own : ownKnob Try.prog.godebug = none := by kernel_rfl
theorem laidOut : laidOutB Try.prog = true := by kernel_rfl

set_option maxRecDepth 100000 in
theorem lifted (os : Os) (started : os.Started) (H : Type) (enc : TypeId × Value → H) :
    ReturnsInHanded {} Try.checked os 5 .any (Rows.digestEndsSpec.pre6 enc Try.prog Try.f5 Rows.digestEndsRow.domain false) (Rows.digestEndsSpec.post enc Try.prog Try.f5 false true false false) := by
  refine returnsInHanded_of_change (C := Try.checked) own started (by kernel_rfl) Try.func5
    (ChangeSpec.witness6 (enc := enc) (C := Try.checked) false ⟨#[], #[.int .i64 0, .int .u8 0], []⟩ 8 (by kernel_rfl) (by kernel_rfl) (by kernel_rfl) (by kernel_rfl)) ?_
  intro W base args ds gs before hval0 hW _ hsz
  have hval : ∀ (j : Nat) t v, Try.f5.params[j]? = some t → args[j]? = some v → Value.okWide Try.prog W .any base t v := hval0
  have hW' := hW
  obtain ⟨p, q, hA0, hV, rfl, hfz, hnd⟩ := hW
  have hA : DataW.TrodAll enc Try.prog W 0 (fun _ => true) true Try.f5.params.toList args.toList ds p := hA0
  rw [Try.params5] at hA hval
  obtain ⟨v0, vs0, d0, ds0, p0, q0, hargs, rfl, rfl, h0, r0⟩ := trodAll_cons hA
  obtain ⟨v1, vs1, d1, ds1, p1, q1, rfl, rfl, rfl, h1, r1⟩ := trodAll_cons r0
  obtain ⟨rfl, rfl, rfl⟩ := trodAll_nil r1
  obtain rfl : args = #[v0, v1] := by cases args; simp_all
  obtain ⟨a0, rfl, lo0, hi0⟩ := open_I Try.underlying3 (hval 0 3 v0 rfl rfl) h0
  obtain ⟨a1, rfl⟩ := open_V8 Try.underlying5 (hval 1 5 v1 rfl rfl) h1
  refine (ends_walk a0 a1 W lo0 hi0).mono fun e W' ⟨he, bel⟩ => ?_
  subst he
  exact ⟨_, rfl, law_post (tb := 4) laidOut (by kernel_rfl) Try.underlying4 (by rfl) rfl (by intro xs hxs; match xs, hxs with | [x0, x1], _ => rfl) hW' bel⟩

theorem over : Rows.digestEndsRow.holds Try.pinned (OpenSpec.ofChange Rows.digestEndsSpec) :=
  OpenClaim.holds_of_wide 5 Try.f5 rfl rfl rfl rfl rfl rfl rfl ⟨rfl, rfl, rfl, rfl, rfl⟩ rfl rfl rfl rfl rfl (by kernel_rfl) Try.func5 (by kernel_rfl)
    (of_decide_eq_true (by kernel_rfl)) (by unfold Func.isWrapper; rw [if_neg (of_decide_eq_false (by kernel_rfl))]; exact ⟨rfl, rfl⟩)
    (fun os started H enc _ => lifted os started H enc)
end digestEndsRow

theorem digestEnds_holds : Rows.DigestEndsSaid := digestEndsRow.over
#print axioms digestEnds_holds

end Go.Proofs.Ytndeadicegeblaa
