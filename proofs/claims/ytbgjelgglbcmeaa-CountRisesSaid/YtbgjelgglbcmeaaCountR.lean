/- CountRises: both numbers are how often, At the boots of the last Bump. -/
import Derived.Test.YtbgjelgglbcmeaaCountK
import Derived.Test.YtbgjelgglbcmeaaRows
import Derived.Test.YtbgjelgglbcmeaaPosts
namespace Go.Proofs.Ytbgjelgglbcmeaa
open Go Go.RowKit

set_option maxRecDepth 100000 in
set_option maxHeartbeats 2000000 in
theorem rises_walk (n : Nat) (f : Nat → Nat → Value) (v : Value) (w : World) (hl : Acts w v n 1 f) (hi : ∀ i, i < n → ∃ m, f i 0 = .bool m) :
    Calls Try.prog 4 #[v] w fun e w' => e = .returned (.bool true) ∧ Kept w w' := by
  obtain ⟨a, cap, rfl, hn, hm, ha⟩ := hl
  by_cases hn200 : 200 < n
  · go_enter Try.func4, Try.ntmps4
    go_wp2
    go_ret
    exact ⟨rfl, Below.refl _ _⟩
  go_enter Try.func4, Try.ntmps4
  go_wp2_with fail
  refine (power_new _).mono ?_
  rintro e w1 ⟨rfl, p1, hk1, hz1⟩
  go_wp2_with fail
  refine (count_new _ _).mono ?_
  rintro e w2 ⟨rfl, c2, hk2, hz2⟩
  have p2 : PwAt w2 w.heap.size Pw.new := Blk.kept p1 hk2
  rw [hz1] at c2 hz2
  have hb2 : Below w.heap.size w w2 := hk1.trans (hk2.mono (by omega))
  have hs2 : w.heap.size ≤ w2.heap.size := by omega
  clear hk1 hk2 hz2 p1
  obtain ⟨B, hB⟩ : ∃ B, B = w.heap.size := ⟨_, rfl⟩
  simp only [← hB] at p2 c2 hb2 hs2
  simp only [hz1, ← hB]
  have HB := Lib.hid hB
  clear hB hz1
  go_wp2_with fail
  go_loopw [7, 4, 5, 6] (fun i bu bo at_ wr => ∃ k : Nat, k ≤ n ∧ i = .int .i64 k ∧ ∃ (c : Cn) (s : Int), bu = U c.value ∧ bo = U c.boots ∧ at_ = U c.at_ ∧ 0 ≤ s ∧ s ≤ k ∧
      CtAt wr (B + 1) B c ∧ PwAt wr B ⟨false, false, 0, s⟩ ∧ Below B w wr ∧ B ≤ wr.heap.size) (fun i _ _ _ _ => n - (intOf i).toNat)
  case atStart => exact ⟨0, by omega, rfl, Cn.zero, 0, rfl, rfl, rfl, by omega, by omega, c2, p2, hb2, hs2⟩
  case round =>
    obtain ⟨k, hk, rfl, c, s, rfl, rfl, rfl, s0, s1, ck, pk, hb, hsz⟩ := hrel
    clear c2 p2 hb2 hs2
    have HN := Lib.hid (new_spend s)
    have HO := Lib.hid (new_okk s s0 (by omega))
    have HS0 := Lib.hid s0
    have HS1 := Lib.hid s1
    clear s0 s1
    by_cases hlt : k < n
    · obtain ⟨b, off, rfl, hbw, hcell⟩ := ha k hlt
      rw [← HB.out] at hbw
      obtain ⟨m, hm0⟩ := hi k hlt
      have x0 := (hb.cell (p := ⟨b, off + k * 1 + 0, none⟩) hbw).trans (hcell 0 (by omega))
      rw [hm0, Nat.mul_one, Nat.add_zero] at x0
      have HI := Lib.hid hi
      have HA := Lib.hid ha
      have HC := Lib.hid hcell
      clear hi ha hcell hm0
      cases m
      · go_wp2_with fail
        refine (count_boot _ _ _ _ _ _ _ ck pk (by omega) HO.out HN.out).mono ?_
        rintro e w3 ⟨rfl, c3, p3, g3⟩
        clear x0
        go_wp2
        exact ⟨⟨k + 1, by omega, by go_num, c.boot, s + 1, rfl, rfl, rfl, by have := HS0.out; omega, by have := HS1.out; omega, c3, p3, hb.trans (g3.below (by simp) hsz), Nat.le_trans hsz g3.size⟩, by simp [intOf]; omega⟩
      · go_wp2_with fail
        refine (count_bump _ _ _ _ _ _ _ ck pk (by omega) HO.out HN.out).mono ?_
        rintro e w3 ⟨rfl, c3, p3, g3⟩
        clear x0
        go_wp2
        exact ⟨⟨k + 1, by omega, by go_num, c.bump, s + 1, rfl, rfl, rfl, by have := HS0.out; omega, by have := HS1.out; omega, c3, p3, hb.trans (g3.below (by simp) hsz), Nat.le_trans hsz g3.size⟩, by simp [intOf]; omega⟩
    · have : k = n := by omega
      subst this
      have HI := Lib.hid hi
      have HA := Lib.hid ha
      clear hk hlt hi ha
      go_wp2_with fail
      refine (count_value _ _ _ _ ck).mono ?_
      rintro e w6 ⟨rfl, rfl⟩
      go_wp2_with fail
      refine (count_boots _ _ _ _ ck).mono ?_
      rintro e w6 ⟨rfl, rfl⟩
      go_wp2_with fail
      refine (count_at _ _ _ _ ck).mono ?_
      rintro e w6 ⟨rfl, rfl⟩
      go_wp2_with fail
      refine (known_any _).mono ?_
      rintro e w6 ⟨rfl, hk6⟩
      go_wp2
      go_ret
      exact ⟨rfl, by show Below w.heap.size w _; rw [← HB.out]; exact hb.trans (hk6.mono hsz)⟩

namespace countRisesRow
open Go.ChangeShapes Go.WideShapes Go.ChangeAt Go.RowKit
theorem own : ownKnob Try.prog.godebug = none := by kernel_rfl
theorem laidOut : laidOutB Try.prog = true := by kernel_rfl

set_option maxRecDepth 100000 in
theorem lifted (os : Os) (started : os.Started) (H : Type) (enc : TypeId × Value → H) :
    ReturnsInHanded {} Try.checked os 4 .any (Rows.countRisesSpec.pre6 enc Try.prog Try.f4 Rows.countRisesRow.domain false) (Rows.countRisesSpec.post enc Try.prog Try.f4 false true false false) := by
  refine returnsInHanded_of_change (C := Try.checked) own started (by kernel_rfl) Try.func4
    (ChangeSpec.witness6 (enc := enc) (C := Try.checked) false ⟨#[], #[.slice none 0 0], []⟩ 8 (by kernel_rfl) (by kernel_rfl) (by kernel_rfl) (by kernel_rfl)) ?_
  intro W base args ds gs before hval0 hW _ hsz
  have hval : ∀ (j : Nat) t v, Try.f4.params[j]? = some t → args[j]? = some v → Value.okWide Try.prog W .any base t v := hval0
  have hW' := hW
  obtain ⟨p, q, hA0, hV, rfl, hfz, hnd⟩ := hW
  have hA : DataW.TrodAll enc Try.prog W 0 (fun _ => true) true Try.f4.params.toList args.toList ds p := hA0
  rw [Try.params4] at hA hval
  obtain ⟨v0, vs0, d0, ds0, p0, q0, hargs, rfl, rfl, h0, r0⟩ := trodAll_cons hA
  obtain ⟨rfl, rfl, rfl⟩ := trodAll_nil r0
  obtain rfl : args = #[v0] := by cases args; simp_all
  obtain ⟨n0, f0, a0, t0⟩ := open_row (e := 4) (H := H) Try.underlying27 (by kernel_rfl) (hval 0 27 v0 rfl rfl) h0
  have i0 : ∀ i, i < n0 → ∃ m, f0 i 0 = .bool m := fun i hi => by obtain ⟨fu, y, h⟩ := t0 i hi; exact acts_bool Try.underlying4 h
  refine (rises_walk n0 f0 v0 W a0 i0).mono fun e W' ⟨he, bel⟩ => ?_
  subst he
  exact ⟨_, rfl, law_post (tb := 4) laidOut (by kernel_rfl) Try.underlying4 (by rfl) rfl (by intro xs hxs; match xs, hxs with | [x0], _ => rfl) hW' bel⟩

theorem over : Rows.countRisesRow.holds Try.pinned (OpenSpec.ofChange Rows.countRisesSpec) :=
  OpenClaim.holds_of_wide 4 Try.f4 rfl rfl rfl rfl rfl rfl rfl ⟨rfl, rfl, rfl, rfl, rfl⟩ rfl rfl rfl rfl rfl (by kernel_rfl) Try.func4 (by kernel_rfl)
    (of_decide_eq_true (by kernel_rfl)) (by unfold Func.isWrapper; rw [if_neg (of_decide_eq_false (by kernel_rfl))]; exact ⟨rfl, rfl⟩)
    (fun os started H enc _ => lifted os started H enc)
end countRisesRow

theorem countRises_holds : Rows.CountRisesSaid := countRisesRow.over
#print axioms countRises_holds

end Go.Proofs.Ytbgjelgglbcmeaa
