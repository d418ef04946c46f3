/- PowerAnew: a fuse takes the place of the one before; below nought there is none. -/
import Derived.Test.YtoogkjbfemdemaaPowerK
import Derived.Test.YtoogkjbfemdemaaRows
namespace Go.Proofs.Ytoogkjbfemdemaa
open Go Go.RowKit

/-- a Power, k steps behind a fuse of b -/
def anew (b : Int) (k : Nat) : Pw := if b < 0 then ⟨false, false, b, k⟩ else if (k : Int) ≤ b then ⟨false, true, b - k, k⟩ else ⟨true, true, 0, b⟩
/-- how many steps were done -/
def anewDone (b : Int) (k : Nat) : Nat := if b < 0 then k else min k b.toNat
/-- whether the next one is done -/
def anewNext (b : Int) (k : Nat) : Bool := decide (b < 0) || decide ((k : Int) < b)

theorem anew_step (b : Int) (k : Nat) : (anew b k).spend = (anewNext b k, anew b (k + 1)) := by
  unfold anew anewNext
  by_cases h : b < 0
  · simp [h, Pw.spend]
  · by_cases h1 : (k : Int) < b
    · have h2 : (k : Int) ≤ b := by omega
      have h3 : ((k + 1 : Nat) : Int) ≤ b := by omega
      have h4 : (b - (k : Int) == 0) = false := by simp; omega
      simp only [if_neg h, if_pos h2, if_pos h3, Pw.spend, h4]
      simp [h1]
      omega
    · by_cases h2 : (k : Int) ≤ b
      · have h3 : ¬ ((k + 1 : Nat) : Int) ≤ b := by omega
        have h4 : (b - (k : Int) == 0) = true := by simp; omega
        simp only [if_neg h, if_pos h2, if_neg h3, Pw.spend, h4]
        simp [h, h1]
        omega
      · have h3 : ¬ ((k + 1 : Nat) : Int) ≤ b := by omega
        simp only [if_neg h, if_neg h2, if_neg h3, Pw.spend]
        simp [h, h1]
theorem anew_done (b : Int) (k : Nat) : anewDone b (k + 1) = if anewNext b k = true then anewDone b k + 1 else anewDone b k := by
  unfold anewDone anewNext
  by_cases h : b < 0
  · simp [h]
  · by_cases h1 : (k : Int) < b
    · simp [h, h1]; omega
    · simp [h, h1]; omega
theorem anew_ok (b : Int) (hb : b ≤ 50) (k : Nat) (hk : k ≤ 100) : (anew b k).ok 9223372036854775806 := by
  unfold anew
  by_cases h : b < 0
  · rw [if_pos h]; exact ⟨by simp; try omega, by simp; try omega, fun h => by cases h⟩
  · rw [if_neg h]
    by_cases h2 : (k : Int) ≤ b
    · rw [if_pos h2]; exact ⟨by simp; try omega, by simp; try omega, fun _ => ⟨by simp; try omega, by simp; try omega⟩⟩
    · rw [if_neg h2]; exact ⟨by simp; try omega, by simp; try omega, fun _ => ⟨by simp; try omega, by simp; try omega⟩⟩
theorem anewDone_le (b : Int) (k : Nat) : anewDone b k ≤ k := by
  unfold anewDone; split <;> omega

set_option maxRecDepth 100000 in
set_option maxHeartbeats 2000000 in
theorem anew_in (a b : Int) (m : Nat) (ha0 : 0 ≤ a) (ha : a ≤ 50) (lo : -9223372036854775808 ≤ b) (hb : b ≤ 50) (hm : m ≤ 100) (w : World) : Calls Try.prog 3 #[.int .i64 a, .int .i64 b, .int .i64 m] w fun e w' => e = .returned (.bool true) ∧ Kept w w' := by
  have im0 : (0 : Int) ≤ (m : Int) := by omega
  have im : (m : Int) ≤ 100 := by omega
  go_enter Try.func3, Try.ntmps3
  go_wp2_with fail
  refine (power_new _).mono ?_
  rintro e w1 ⟨rfl, p1, hk1, hz1⟩
  have hs1 : w.heap.size ≤ w1.heap.size := by omega
  clear hz1
  go_wp2_with fail
  refine (power_fuse _ _ _ _ p1).mono ?_
  rintro e w2 ⟨rfl, p2, g2⟩
  have hb2 : Below w.heap.size w w2 := hk1.trans (only_below g2 (Nat.le_refl _) hs1)
  have hs2 := Nat.le_trans hs1 g2.size
  go_wp2_with fail
  refine (power_fuse _ _ _ _ p2).mono ?_
  rintro e w3 ⟨rfl, p3, g3⟩
  have hb3 := hb2.trans (only_below g3 (Nat.le_refl _) hs2)
  have p3a : PwAt w3 w.heap.size (anew b 0) := by
    have e3 : (Pw.new.setFuse a).setFuse b = anew b 0 := by
      unfold anew Pw.setFuse Pw.new
      by_cases h : b < 0
      · have : ¬ 0 ≤ b := by omega
        simp [h, this]
      · have h2 : 0 ≤ b := by omega
        have h3 : ((0 : Nat) : Int) ≤ b := by omega
        rw [if_neg h, if_pos h3]
        simp [h2]
    rw [← e3]; exact p3
  have hs3 := Nat.le_trans hs2 g3.size
  clear p1 p2 p3 hk1 g2 g3 hs1 hs2 hb2
  have p3 := p3a
  clear p3a
  generalize hB : w.heap.size = B at *
  have HB := Lib.hid hB
  clear hB
  go_wp2_with fail
  go_loopw [8, 9] (fun d i wr => ∃ k : Nat, k ≤ m ∧ i = .int .i64 k ∧ d = .int .i64 (anewDone b k : Nat) ∧ PwAt wr B (anew b k) ∧ Below B w wr ∧ B ≤ wr.heap.size) (fun _ i _ => m - (intOf i).toNat)
  case atStart => exact ⟨0, by omega, rfl, by unfold anewDone; split <;> simp, p3, hb3, hs3⟩
  case round =>
    obtain ⟨k, hk, rfl, rfl, pk, hbk, hsz⟩ := hrel
    by_cases hlt : k < m
    · have i2 : (k : Int) < (m : Int) := by omega
      have hdl : ((anewDone b k : Nat) : Int) ≤ 100 := by have := anewDone_le b k; omega
      have hd0 : (0 : Int) ≤ ((anewDone b k : Nat) : Int) := by omega
      have HD := Lib.hid (anew_done b k)
      have HO := Lib.hid (anew_ok b hb k (by omega))
      have HS := Lib.hid (anew_step b k)
      go_wp2_with fail
      refine (power_spend_to _ _ _ _ _ pk HO.out HS.out).mono ?_
      rintro e w4 ⟨rfl, p4, g4⟩
      cases hn : anewNext b k
      · have HN := Lib.hid hn
        clear hn
        go_wp2
        exact ⟨⟨k + 1, by omega, by go_num, by rw [HD.out, HN.out]; rfl, p4, hbk.trans (only_below g4 (Nat.le_refl _) hsz), Nat.le_trans hsz g4.size⟩, by simp [intOf]; omega⟩
      · have HN := Lib.hid hn
        clear hn
        go_wp2
        exact ⟨⟨k + 1, by omega, by go_num, by rw [HD.out, HN.out, if_pos rfl]; go_num, p4, hbk.trans (only_below g4 (Nat.le_refl _) hsz), Nat.le_trans hsz g4.size⟩, by simp [intOf]; omega⟩
    · have : k = m := by omega
      subst this
      clear hk hlt p3 hb3 hs3
      by_cases h : b < 0
      · have hd : anewDone b k = k := by unfold anewDone; rw [if_pos h]
        have hg : (anew b k).gone = false := by unfold anew; rw [if_pos h]
        rw [hd]
        have HD := Lib.hid hd
        have HG := Lib.hid hg
        clear hd hg
        go_wp2_with fail
        refine (power_on _ _ _ pk).mono ?_
        rintro e w4 ⟨rfl, rfl⟩
        rw [HG.out]
        go_wp2_with fail
        refine (known_any _).mono ?_
        rintro e w6 ⟨rfl, hk6⟩
        go_wp2
        go_ret
        exact ⟨rfl, by show Below w.heap.size w _; rw [HB.out]; exact hbk.trans (hk6.mono hsz)⟩
      · by_cases h2 : (k : Int) ≤ b
        · have hd : anewDone b k = k := by unfold anewDone; rw [if_neg h]; omega
          have hg : (anew b k).gone = false := by unfold anew; rw [if_neg h, if_pos h2]
          rw [hd]
          have HD := Lib.hid hd
          have HG := Lib.hid hg
          clear hd hg
          go_wp2_with fail
          refine (power_on _ _ _ pk).mono ?_
          rintro e w4 ⟨rfl, rfl⟩
          rw [HG.out]
          go_wp2_with fail
          refine (known_any _).mono ?_
          rintro e w6 ⟨rfl, hk6⟩
          go_wp2
          go_ret
          exact ⟨rfl, by show Below w.heap.size w _; rw [HB.out]; exact hbk.trans (hk6.mono hsz)⟩
        · obtain ⟨c, rfl⟩ : ∃ c : Nat, b = c := ⟨b.toNat, by omega⟩
          have hd : anewDone c k = c := by unfold anewDone; rw [if_neg h]; omega
          have hg : (anew c k).gone = true := by unfold anew; rw [if_neg h, if_neg h2]
          rw [hd]
          have HD := Lib.hid hd
          have HG := Lib.hid hg
          clear hd hg
          go_wp2_with fail
          refine (power_on _ _ _ pk).mono ?_
          rintro e w4 ⟨rfl, rfl⟩
          rw [HG.out]
          go_wp2_with fail
          refine (known_any _).mono ?_
          rintro e w6 ⟨rfl, hk6⟩
          go_wp2
          go_ret
          exact ⟨by show Ending.returned (Value.bool (!((c : Int) == (k : Int)))) = _; rw [show ((c : Int) == (k : Int)) = false by simp; omega]; rfl, by show Below w.heap.size w _; rw [HB.out]; exact hbk.trans (hk6.mono hsz)⟩

set_option maxRecDepth 100000 in
set_option maxHeartbeats 2000000 in
theorem anew_walk (a b m : Int) (lo0 : -9223372036854775808 ≤ a) (hi0 : a ≤ 9223372036854775807) (lo1 : -9223372036854775808 ≤ b) (hi1 : b ≤ 9223372036854775807) (lo2 : -9223372036854775808 ≤ m) (hi2 : m ≤ 9223372036854775807) (w : World) :
    Calls Try.prog 3 #[.int .i64 a, .int .i64 b, .int .i64 m] w fun e w' => e = .returned (.bool true) ∧ Kept w w' := by
  by_cases h1 : a < 0
  · go_enter Try.func3, Try.ntmps3
    go_wp2
    go_ret
    exact ⟨rfl, Below.refl _ _⟩
  by_cases h2 : 50 < a
  · go_enter Try.func3, Try.ntmps3
    go_wp2
    go_ret
    exact ⟨rfl, Below.refl _ _⟩
  by_cases h3 : 50 < b
  · go_enter Try.func3, Try.ntmps3
    go_wp2
    go_ret
    exact ⟨rfl, Below.refl _ _⟩
  by_cases h4 : m < 0
  · go_enter Try.func3, Try.ntmps3
    go_wp2
    go_ret
    exact ⟨rfl, Below.refl _ _⟩
  by_cases h5 : 100 < m
  · go_enter Try.func3, Try.ntmps3
    go_wp2
    go_ret
    exact ⟨rfl, Below.refl _ _⟩
  obtain ⟨m, rfl⟩ : ∃ k : Nat, m = k := ⟨m.toNat, by omega⟩
  exact anew_in a b m (by omega) (by omega) lo1 (by omega) (by omega) w

namespace powerAnewRow
open Go.ChangeShapes Go.WideShapes Go.ChangeAt Go.RowKit
theorem own : ownKnob Try.prog.godebug = none := by kernel_rfl
theorem laidOut : laidOutB Try.prog = true := by kernel_rfl

set_option maxRecDepth 100000 in
theorem lifted (os : Os) (started : os.Started) (H : Type) (enc : TypeId × Value → H) :
    ReturnsInHanded {} Try.checked os 3 .any (Rows.powerAnewSpec.pre6 enc Try.prog Try.f3 Rows.powerAnewRow.domain false) (Rows.powerAnewSpec.post enc Try.prog Try.f3 false true false false) := by
  refine returnsInHanded_of_change (C := Try.checked) own started (by kernel_rfl) Try.func3
    (ChangeSpec.witness6 (enc := enc) (C := Try.checked) false ⟨#[], #[.int .i64 0, .int .i64 0, .int .i64 0], []⟩ 8 (by kernel_rfl) (by kernel_rfl) (by kernel_rfl) (by kernel_rfl)) ?_
  intro W base args ds gs before hval0 hW _ hsz
  have hval : ∀ (j : Nat) t v, Try.f3.params[j]? = some t → args[j]? = some v → Value.okWide Try.prog W .any base t v := hval0
  have hW' := hW
  obtain ⟨p, q, hA0, hV, rfl, hfz, hnd⟩ := hW
  have hA : DataW.TrodAll enc Try.prog W 0 (fun _ => true) true Try.f3.params.toList args.toList ds p := hA0
  rw [Try.params3] at hA hval
  obtain ⟨v0, vs0, d0, ds0, p0, q0, hargs, rfl, rfl, h0, r0⟩ := trodAll_cons hA
  obtain ⟨v1, vs1, d1, ds1, p1, q1, rfl, rfl, rfl, h1, r1⟩ := trodAll_cons r0
  obtain ⟨v2, vs2, d2, ds2, p2, q2, rfl, rfl, rfl, h2, r2⟩ := trodAll_cons r1
  obtain ⟨rfl, rfl, rfl⟩ := trodAll_nil r2
  obtain rfl : args = #[v0, v1, v2] := by cases args; simp_all
  obtain ⟨a0, rfl, lo0, hi0⟩ := open_I Try.underlying3 (hval 0 3 v0 rfl rfl) h0
  obtain ⟨a1, rfl, lo1, hi1⟩ := open_I Try.underlying3 (hval 1 3 v1 rfl rfl) h1
  obtain ⟨a2, rfl, lo2, hi2⟩ := open_I Try.underlying3 (hval 2 3 v2 rfl rfl) h2
  refine (anew_walk a0 a1 a2 lo0 hi0 lo1 hi1 lo2 hi2 W).mono fun e W' ⟨he, bel⟩ => ?_
  subst he
  exact ⟨_, rfl, law_post (tb := 4) laidOut (by kernel_rfl) Try.underlying4 (by rfl) rfl (by intro xs hxs; match xs, hxs with | [x0, x1, x2], _ => rfl) hW' bel⟩

theorem over : Rows.powerAnewRow.holds Try.pinned (OpenSpec.ofChange Rows.powerAnewSpec) :=
  OpenClaim.holds_of_wide 3 Try.f3 rfl rfl rfl rfl rfl rfl rfl ⟨rfl, rfl, rfl, rfl, rfl⟩ rfl rfl rfl rfl rfl (by kernel_rfl) Try.func3 (by kernel_rfl)
    (of_decide_eq_true (by kernel_rfl)) (by unfold Func.isWrapper; rw [if_neg (of_decide_eq_false (by kernel_rfl))]; exact ⟨rfl, rfl⟩)
    (fun os started H enc _ => lifted os started H enc)
end powerAnewRow

theorem powerAnew_holds : Rows.PowerAnewSaid := powerAnewRow.over
#print axioms powerAnew_holds

end Go.Proofs.Ytoogkjbfemdemaa
