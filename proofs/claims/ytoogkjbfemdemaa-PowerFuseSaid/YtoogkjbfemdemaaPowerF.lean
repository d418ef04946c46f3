/- PowerFuse: so many steps as its fuse has, and a Power is gone, till it is back. -/
import Derived.Test.YtoogkjbfemdemaaPowerK
import Derived.Test.YtoogkjbfemdemaaRows
namespace Go.Proofs.Ytoogkjbfemdemaa
open Go Go.RowKit

set_option maxRecDepth 100000 in
set_option maxHeartbeats 2000000 in
theorem fuse_in (n m : Nat) (hn : n ≤ 200) (h1 : 1 ≤ m) (hm : m ≤ 50) (w : World) : Calls Try.prog 5 #[.int .i64 n, .int .i64 m] w fun e w' => e = .returned (.bool true) ∧ Kept w w' := by
  have in1 : (0 : Int) ≤ (n : Int) := by omega
  have in2 : (n : Int) ≤ 200 := by omega
  have in3 : (1 : Int) ≤ (m : Int) := by omega
  have in4 : (m : Int) ≤ 50 := by omega
  go_enter Try.func5, Try.ntmps5
  go_wp2_with fail
  refine (power_new _).mono ?_
  rintro e w1 ⟨rfl, p1, hk1, hz1⟩
  have hs1 : w.heap.size ≤ w1.heap.size := by omega
  clear hz1
  go_wp2_with fail
  refine (power_fuse _ _ _ _ p1).mono ?_
  rintro e w2 ⟨rfl, p2, g2⟩
  have hb2 : Below w.heap.size w w2 := hk1.trans (only_below g2 (Nat.le_refl _) hs1)
  have e2 : Pw.new.setFuse (n : Int) = ⟨false, true, n, 0⟩ := by unfold Pw.setFuse Pw.new; simp
  rw [e2] at p2
  clear p1 hk1 g2 hs1 e2
  generalize hB : w.heap.size = B at *
  have HB := Lib.hid hB
  clear hB
  go_wp2_with fail
  go_loopw [6] (fun i wr => ∃ k : Nat, k ≤ n ∧ i = .int .i64 k ∧ PwAt wr B ⟨false, true, (n : Int) - k, k⟩ ∧ Below B w wr ∧ B ≤ wr.heap.size) (fun i _ => n - (intOf i).toNat)
  case atStart => exact ⟨0, by omega, rfl, by simpa using p2, hb2, Nat.le_of_lt (Blk.lt p2)⟩
  case round =>
    obtain ⟨k, hk, rfl, pk, hb, hsz⟩ := hrel
    by_cases hlt : k < n
    · have hne : (n : Int) - k ≠ 0 := by omega
      have hsp : Pw.spend ⟨false, true, (n : Int) - k, k⟩ = (true, ⟨false, true, (n : Int) - k - 1, (k : Int) + 1⟩) := by
        have : ((n : Int) - k == 0) = false := by simpa using hne
        simp [Pw.spend, this]
      have HS := Lib.hid hsp
      clear hsp hne
      have i2 : (k : Int) < (n : Int) := by omega
      have i3 : (k : Int) ≤ 200 := by omega
      go_wp2_with fail
      refine (power_spend_to _ _ _ _ _ pk ⟨by simp; try omega, by simp; try omega, fun _ => ⟨by simp; try omega, by simp; try omega⟩⟩ HS.out).mono ?_
      rintro e w3 ⟨rfl, p3, g3⟩
      go_wp2_with fail
      refine (power_on _ _ _ p3).mono ?_
      rintro e w4 ⟨rfl, rfl⟩
      go_wp2
      refine ⟨⟨k + 1, by omega, by go_num, ?_, hb.trans (only_below g3 (Nat.le_refl _) hsz), Nat.le_trans hsz g3.size⟩, by simp [intOf]; omega⟩
      rw [show (n : Int) - ((k + 1 : Nat) : Int) = (n : Int) - k - 1 by omega, show ((k + 1 : Nat) : Int) = (k : Int) + 1 by omega]
      exact p3
    · have : k = n := by omega
      subst this
      rw [show (k : Int) - (k : Int) = 0 by omega] at pk
      clear hk hlt
      go_wp2_with fail
      obtain ⟨w0, hw0⟩ : ∃ w0, w0 = wr := ⟨_, rfl⟩
      rw [← hw0] at pk hb hsz
      rw [← hw0]
      clear hw0
      go_loopw [7] (fun i wr => ∃ j : Nat, j ≤ m ∧ i = .int .i64 j ∧ PwAt wr B ⟨decide (0 < j), true, 0, k⟩ ∧ Below B w wr ∧ B ≤ wr.heap.size) (fun i _ => m - (intOf i).toNat)
      case atStart => exact ⟨0, by omega, rfl, by simpa using pk, hb, hsz⟩
      case round =>
        obtain ⟨j, hj, rfl, pj, hbj, hszj⟩ := hrel
        by_cases hltj : j < m
        · have hsp : Pw.spend ⟨decide (0 < j), true, 0, k⟩ = (false, ⟨true, true, 0, k⟩) := by
            by_cases h0 : 0 < j <;> simp [Pw.spend, h0]
          have HS := Lib.hid hsp
          clear hsp
          have i2 : (j : Int) < (m : Int) := by omega
          go_wp2_with fail
          refine (power_spend_to _ _ _ _ _ pj ⟨by simp; try omega, by simp; try omega, fun _ => ⟨by simp; try omega, by simp; try omega⟩⟩ HS.out).mono ?_
          rintro e w3 ⟨rfl, p3, g3⟩
          go_wp2_with fail
          refine (power_on _ _ _ p3).mono ?_
          rintro e w4 ⟨rfl, rfl⟩
          go_wp2
          exact ⟨⟨j + 1, by omega, by go_num, by simpa using p3, hbj.trans (only_below g3 (Nat.le_refl _) hszj), Nat.le_trans hszj g3.size⟩, by simp [intOf]; omega⟩
        · have : j = m := by omega
          subst this
          have hd : decide (0 < j) = true := by simp; omega
          rw [hd] at pj
          clear hj hltj hd pk hb hsz
          go_wp2_with fail
          refine (power_back _ _ _ pj).mono ?_
          rintro e w5 ⟨rfl, p5, g5⟩
          have hb5 := hbj.trans (only_below g5 (Nat.le_refl _) hszj)
          have hs5 := Nat.le_trans hszj g5.size
          clear pj hbj hszj g5
          have p5 : PwAt w5 B ⟨false, false, 0, k⟩ := p5
          go_wp2_with fail
          go_loopw [8] (fun i wr => ∃ l : Nat, l ≤ j ∧ i = .int .i64 l ∧ PwAt wr B ⟨false, false, 0, (k : Int) + l⟩ ∧ Below B w wr ∧ B ≤ wr.heap.size) (fun i _ => j - (intOf i).toNat)
          case atStart => exact ⟨0, by omega, rfl, by simpa using p5, hb5, hs5⟩
          case round =>
            obtain ⟨l, hl, rfl, pl, hbl, hszl⟩ := hrel
            by_cases hltl : l < j
            · have hsp : Pw.spend ⟨false, false, 0, (k : Int) + l⟩ = (true, ⟨false, false, 0, (k : Int) + l + 1⟩) := by simp [Pw.spend]
              have HS := Lib.hid hsp
              clear hsp
              have i2 : (l : Int) < (j : Int) := by omega
              go_wp2_with fail
              refine (power_spend_to _ _ _ _ _ pl ⟨by simp; try omega, by simp; try omega, fun h => by cases h⟩ HS.out).mono ?_
              rintro e w3 ⟨rfl, p3, g3⟩
              go_wp2
              refine ⟨⟨l + 1, by omega, by go_num, ?_, hbl.trans (only_below g3 (Nat.le_refl _) hszl), Nat.le_trans hszl g3.size⟩, by simp [intOf]; omega⟩
              rw [show (k : Int) + ((l + 1 : Nat) : Int) = (k : Int) + l + 1 by omega]
              exact p3
            · have : l = j := by omega
              subst this
              clear hl hltl
              go_wp2_with fail
              refine (power_steps _ _ _ pl).mono ?_
              rintro e w6 ⟨rfl, rfl⟩
              go_wp2_with fail
              refine (known_any _).mono ?_
              rintro e w6 ⟨rfl, hk6⟩
              go_wp2
              go_ret
              exact ⟨rfl, by show Below w.heap.size w _; rw [HB.out]; exact hbl.trans (hk6.mono hszl)⟩

set_option maxRecDepth 100000 in
set_option maxHeartbeats 2000000 in
theorem fuse_walk (n m : Int) (lo0 : -9223372036854775808 ≤ n) (hi0 : n ≤ 9223372036854775807) (lo1 : -9223372036854775808 ≤ m) (hi1 : m ≤ 9223372036854775807) (w : World) :
    Calls Try.prog 5 #[.int .i64 n, .int .i64 m] w fun e w' => e = .returned (.bool true) ∧ Kept w w' := by
  by_cases h1 : n < 0
  · go_enter Try.func5, Try.ntmps5
    go_wp2
    go_ret
    exact ⟨rfl, Below.refl _ _⟩
  by_cases h2 : 200 < n
  · go_enter Try.func5, Try.ntmps5
    go_wp2
    go_ret
    exact ⟨rfl, Below.refl _ _⟩
  by_cases h3 : m < 1
  · go_enter Try.func5, Try.ntmps5
    go_wp2
    go_ret
    exact ⟨rfl, Below.refl _ _⟩
  by_cases h4 : 50 < m
  · go_enter Try.func5, Try.ntmps5
    go_wp2
    go_ret
    exact ⟨rfl, Below.refl _ _⟩
  obtain ⟨a, rfl⟩ : ∃ a : Nat, n = a := ⟨n.toNat, by omega⟩
  obtain ⟨b, rfl⟩ : ∃ b : Nat, m = b := ⟨m.toNat, by omega⟩
  exact fuse_in a b (by omega) (by omega) (by omega) w

namespace powerFuseRow
open Go.ChangeShapes Go.WideShapes Go.ChangeAt Go.RowKit
theorem own : ownKnob Try.prog.godebug = none := by kernel_rfl
theorem laidOut : laidOutB Try.prog = true := by kernel_rfl

set_option maxRecDepth 100000 in
theorem lifted (os : Os) (started : os.Started) (H : Type) (enc : TypeId × Value → H) :
    ReturnsInHanded {} Try.checked os 5 .any (Rows.powerFuseSpec.pre6 enc Try.prog Try.f5 Rows.powerFuseRow.domain false) (Rows.powerFuseSpec.post enc Try.prog Try.f5 false true false false) := by
  refine returnsInHanded_of_change (C := Try.checked) own started (by kernel_rfl) Try.func5
    (ChangeSpec.witness6 (enc := enc) (C := Try.checked) false ⟨#[], #[.int .i64 0, .int .i64 0], []⟩ 8 (by kernel_rfl) (by kernel_rfl) (by kernel_rfl) (by kernel_rfl)) ?_
  intro W base args ds gs before hval0 hW _ hsz
  have hval : ∀ (j : Nat) t v, Try.f5.params[j]? = some t → args[j]? = some v → Value.okWide Try.prog W .any base t v := hval0
  have hW' := hW
  obtain ⟨p, q, hA0, hV, rfl, hfz, hnd⟩ := hW
  have hA : DataW.TrodAll enc Try.prog W 0 (fun _ => true) true Try.f5.params.toList args.toList ds p := hA0
  rw [Try.params5] at hA hval
  obtain ⟨v0, vs0, d0, ds0, p0, q0, hargs, rfl, rfl, h0, r0⟩ := trodAll_cons hA
  obtain ⟨v1, vs1, d1, ds1, p1, q1, rfl, rfl, rfl, h1, r1⟩ := trodAll_cons r0
  obtain ⟨rfl, rfl, rfl⟩ := trodAll_nil r1
  obtain rfl : args = #[v0, v1] := by cases args; simp_all
  obtain ⟨a0, rfl, lo0, hi0⟩ := open_I Try.underlying3 (hval 0 3 v0 rfl rfl) h0
  obtain ⟨a1, rfl, lo1, hi1⟩ := open_I Try.underlying3 (hval 1 3 v1 rfl rfl) h1
  refine (fuse_walk a0 a1 lo0 hi0 lo1 hi1 W).mono fun e W' ⟨he, bel⟩ => ?_
  subst he
  exact ⟨_, rfl, law_post (tb := 4) laidOut (by kernel_rfl) Try.underlying4 (by rfl) rfl (by intro xs hxs; match xs, hxs with | [x0, x1], _ => rfl) hW' bel⟩

theorem over : Rows.powerFuseRow.holds Try.pinned (OpenSpec.ofChange Rows.powerFuseSpec) :=
  OpenClaim.holds_of_wide 5 Try.f5 rfl rfl rfl rfl rfl rfl rfl ⟨rfl, rfl, rfl, rfl, rfl⟩ rfl rfl rfl rfl rfl (by kernel_rfl) Try.func5 (by kernel_rfl)
    (of_decide_eq_true (by kernel_rfl)) (by unfold Func.isWrapper; rw [if_neg (of_decide_eq_false (by kernel_rfl))]; exact ⟨rfl, rfl⟩)
    (fun os started H enc _ => lifted os started H enc)
end powerFuseRow

theorem powerFuse_holds : Rows.PowerFuseSaid := powerFuseRow.over
#print axioms powerFuse_holds

end Go.Proofs.Ytoogkjbfemdemaa
