/- KeysGone: what is gone never comes back, whatever is added. -/
import Derived.Test.YtdcejhplkhoboaaKeysK
import Derived.Test.YtdcejhplkhoboaaActs
import Derived.Test.YtdcejhplkhoboaaRows
namespace Go.Proofs.Ytdcejhplkhoboaa
open Go Go.RowKit

set_option maxRecDepth 100000 in
set_option maxHeartbeats 800000 in
theorem gone_walk (seed : BitVec 64) (a : Int) (below : BitVec 32) (m : Int) (w : World) : Calls Try.prog 4 #[U seed, .int .i64 a, W below, .int .i64 m] w fun e w' => e = .returned (.bool true) ∧ Kept w w' := by
  by_cases hout : a < 0 ∨ 20 < a ∨ m < 0 ∨ 20 < m
  · by_cases h1 : a < 0
    · have h2 : ¬ 20 < a := by omega
      go_enter Try.func4, Try.ntmps4
      go_wp2
      go_ret
      exact ⟨rfl, Below.refl _ _⟩
    · by_cases h2 : 20 < a
      · skip
        go_enter Try.func4, Try.ntmps4
        go_wp2
        go_ret
        exact ⟨rfl, Below.refl _ _⟩
      · by_cases h3 : m < 0
        · have h4 : ¬ 20 < m := by omega
          go_enter Try.func4, Try.ntmps4
          go_wp2
          go_ret
          exact ⟨rfl, Below.refl _ _⟩
        · have h4 : 20 < m := by omega
          go_enter Try.func4, Try.ntmps4
          go_wp2
          go_ret
          exact ⟨rfl, Below.refl _ _⟩
  obtain ⟨n, rfl⟩ : ∃ n : Nat, a = n := ⟨a.toNat, by omega⟩
  obtain ⟨m, rfl⟩ : ∃ m' : Nat, m = m' := ⟨m.toNat, by omega⟩
  have hn : n ≤ 20 := by omega
  have hm : m ≤ 20 := by omega
  have hout1 : ¬ (n : Int) < 0 := by omega
  have hout2 : ¬ 20 < (n : Int) := by omega
  have hout3 : ¬ (m : Int) < 0 := by omega
  have hout4 : ¬ 20 < (m : Int) := by omega
  clear hout
  go_enter Try.func4, Try.ntmps4
  go_wp2_with fail
  refine (power_new _).mono ?_
  rintro e w1 ⟨rfl, p1, hk1, hz1⟩
  go_wp2_with fail
  refine (keys_new seed _ _).mono ?_
  rintro e w2 ⟨rfl, k2, hk2, hz2⟩
  have p2 := Blk.kept p1 hk2
  have own2 : Own w w2 w.heap.size (w1.heap.size + 1) w1.heap.size := ⟨by omega, by omega, by omega, Kept.of hk1 hk2, by omega⟩
  clear hk1 hk2 hz2 p1
  obtain ⟨b, hb⟩ : ∃ b, b = w.heap.size := ⟨_, rfl⟩
  obtain ⟨K, hK⟩ : ∃ K, K = w1.heap.size + 1 := ⟨_, rfl⟩
  obtain ⟨g, hg⟩ : ∃ g, g = w1.heap.size := ⟨_, rfl⟩
  rw [← hK, ← hg, ← hb] at own2 k2
  rw [← hb] at p2
  simp only [← hb, ← hK]
  clear hb hK hg hz1
  go_wp2_with fail
  go_loopw [10] (fun i wr => ∃ k : Nat, k ≤ n ∧ i = .int .i64 k ∧ ∃ g cap, PwAt wr b (Pw.nf k) ∧ KeysAt 56 wr K b g seed (up (k + 1)) cap ∧ Own w wr b K g) (fun i _ => n - (intOf i).toNat)
  case atStart => exact ⟨0, by omega, rfl, g, 1, p2, k2, own2⟩
  case round =>
    obtain ⟨k, hk, rfl, g, cap, pk, kk, ok⟩ := hrel
    clear p2 k2 own2
    by_cases hlt : k < n
    · have n3 : (k : Int) < (n : Int) := by omega
      have n4 : (0 : Int) ≤ (k : Int) := by omega
      go_wp2_with fail
      refine (add_any K b g _ _ _ (Pw.nf k) (Pw.nf (k + 1)) true (by rw [up_length]; omega) (by rw [up_length]; omega) _ kk pk (nf_ok k (by omega)) (nf_spend k)).mono ?_
      rintro e w3 ⟨g3, cap3, rfl, p3, k3, hg3, c3⟩
      have o3 := ok.step c3 hg3
      have e3 : addL true (up (k + 1)) = up (k + 1 + 1) := up_add k
      rw [e3] at k3
      clear pk kk ok c3 hg3 e3
      go_wp2
      exact ⟨⟨k + 1, by omega, by go_num, g3, cap3, p3, k3, o3⟩, by simp [intOf]; omega⟩
    · have hkn : k = n := by omega
      subst hkn
      have hn0 := eraseL_now (up (k + 1)) below (by rw [up_length]; omega)
      rw [now_up] at hn0
      have hlen : (eraseL (up (k + 1)) below).length ≤ k + 1 := Nat.le_trans (List.length_filter_le _ _) (by rw [up_length]; exact Nat.le_refl _)
      go_wp2_with fail
      refine (erase_any K b g _ _ _ below (Pw.nf k) (Pw.nf (k + 1)) true (by rw [up_length]; omega) (by rw [up_length]; omega) _ kk pk (nf_ok k (by omega)) (nf_spend k)).mono ?_
      rintro e w4 ⟨g4, cap4, rfl, p4, k4, hg4, c4⟩
      have o4 := ok.step c4 hg4
      have e4 : delL true (up (k + 1)) below = eraseL (up (k + 1)) below := rfl
      rw [e4] at k4
      obtain ⟨E, hE⟩ : ∃ E, E = eraseL (up (k + 1)) below := ⟨_, rfl⟩
      rw [← hE] at k4 hlen hn0
      have HE := Lib.hid hE
      clear pk kk ok c4 hg4 e4 hE
      obtain ⟨X, hX⟩ : ∃ X, X = BitVec.ofNat 32 (k + 1) := ⟨_, rfl⟩
      rw [← hX] at hn0
      have hofi : IntKind.u32.wrap ((k : Int) + 1) = (X.toNat : Int) := by
        rw [hX, BitVec.toNat_ofNat, wrap_u32]
        omega
      have HXX := Lib.hid hX
      clear hX
      have HN := Lib.hid hn0
      go_wp2_with fail
      go_loopw [11] (fun i wr => ∃ j : Nat, j ≤ m ∧ i = .int .i64 j ∧ ∃ g cap, PwAt wr b (Pw.nf (k + 1 + j)) ∧ KeysAt 56 wr K b g seed (gl E (k + 1) j) cap ∧ Own w wr b K g) (fun i _ => m - (intOf i).toNat)
      case atStart => exact ⟨0, by omega, rfl, g4, cap4, p4, by rw [gl_zero]; exact k4, o4⟩
      case round =>
        obtain ⟨j, hj, rfl, g, cap, pk, kk, ok⟩ := hrel
        clear p4 k4 o4 hn0
        by_cases hlt2 : j < m
        · have n3 : (j : Int) < (m : Int) := by omega
          have n4 : (0 : Int) ≤ (j : Int) := by omega
          go_wp2_with fail
          refine (add_any K b g _ _ _ (Pw.nf (k + 1 + j)) (Pw.nf (k + 1 + j + 1)) true (by rw [gl_length]; have := HN.out.1; omega) (by rw [gl_length]; omega) _ kk pk (nf_ok _ (by omega)) (nf_spend _)).mono ?_
          rintro e w5 ⟨g5, cap5, rfl, p5, k5, hg5, c5⟩
          have o5 := ok.step c5 hg5
          have e5 : addL true (gl E (k + 1) j) = gl E (k + 1) (j + 1) := gl_add E (k + 1) j (by rw [HN.out.2, HXX.out])
          rw [e5] at k5
          clear pk kk ok c5 hg5 e5
          go_wp2
          exact ⟨⟨j + 1, by omega, by go_num, g5, cap5, p5, k5, o5⟩, by simp [intOf]; omega⟩
        · have hjm : j = m := by omega
          subst hjm
          go_wp2_with fail
          go_loopw [12, 13, 14] (fun i _ _ wr => ∃ x : Nat, 1 ≤ x ∧ x ≤ k + 1 + j + 1 ∧ i = .int .i64 x ∧ KeysAt 56 wr K b g seed (gl E (k + 1) j) cap ∧ Own w wr b K g) (fun i _ _ _ => k + 1 + j + 1 - (intOf i).toNat)
          case atStart => exact ⟨1, by omega, by omega, rfl, kk, ok⟩
          case round =>
            obtain ⟨x, hx1, hx2, rfl, kx, ox⟩ := hrel
            clear pk kk ok
            have n5 : (0 : Int) ≤ x := by omega
            have w1' : IntKind.i64.wrap ((k : Int) + 1) = (k : Int) + 1 := IntWalk.i64_in _ (by omega)
            have w2' : IntKind.i64.wrap ((k : Int) + 1 + (j : Int)) = (k : Int) + 1 + (j : Int) := IntWalk.i64_in _ (by omega)
            by_cases hxl : x ≤ k + 1 + j
            · have n6 : (x : Int) ≤ (k : Int) + 1 + (j : Int) := by omega
              obtain ⟨Y, hY⟩ : ∃ Y, Y = BitVec.ofNat 32 x := ⟨_, rfl⟩
              have hyt : Y.toNat = x := by rw [hY, BitVec.toNat_ofNat]; omega
              have hyx : Value.int .u32 (x : Int) = W Y := by rw [W, hyt]
              have hca := gone_at k j x below (by omega) (by omega) hx1 (by omega)
              rw [← HE.out, ← hY] at hca
              have HCA := Lib.hid hca
              have HY := Lib.hid hY
              have HYT := Lib.hid hyt
              have HYX := Lib.hid hyx
              clear hca hY hyt hyx
              go_wp2_with fail
              rw [HYX.out]
              refine (key_any K b g seed _ cap Y (by rw [gl_length]; have := HN.out.1; omega) (by rw [gl_length]; omega) _ kx).mono ?_
              rintro e w6 ⟨rfl, hk6⟩
              rw [HCA.out]
              generalize keyP seed (gl E (k + 1) j) Y = q
              have hka : Kept w6 (w6.alloc (.cells #[U q.1, U q.2] 25)) := (Below.refl _ _).alloc (Nat.le_refl _) _
              have k7 := (kx.kept hk6).kept hka
              have o7 := (ox.kept hk6).kept hka
              clear kx ox hk6 hka
              by_cases hb : below ≤ Y
              · have hb2 : ∀ t, (binOp .geq t (.int .u32 (x : Int)) (W below) : Sem Value) = pure (.bool true) := fun t => by rw [HYX.out, binW_geq]; simp [hb]
                rw [show (decide (below ≤ Y) || decide (k < x)) = true by simp [hb]]
                have HB := Lib.hid hb
                clear hb
                go_wp2
                refine ⟨⟨x + 1, by omega, by omega, by go_num, k7, o7⟩, by simp [intOf]; omega⟩
              · have hb2 : ∀ t, (binOp .geq t (.int .u32 (x : Int)) (W below) : Sem Value) = pure (.bool false) := fun t => by rw [HYX.out, binW_geq]; simp [hb]
                by_cases hkx : k < x
                · have hkx2 : (k : Int) < (x : Int) := by omega
                  rw [show (decide (below ≤ Y) || decide (k < x)) = true by simp [hkx]]
                  have HB := Lib.hid hb
                  clear hb
                  go_wp2
                  refine ⟨⟨x + 1, by omega, by omega, by go_num, k7, o7⟩, by simp [intOf]; omega⟩
                · have hkx2 : ¬ (k : Int) < (x : Int) := by omega
                  rw [show (decide (below ≤ Y) || decide (k < x)) = false by simp [hkx, hb]]
                  have HB := Lib.hid hb
                  clear hb
                  go_wp2
                  refine ⟨⟨x + 1, by omega, by omega, by go_num, k7, o7⟩, by simp [intOf]; omega⟩
            · have n6 : ¬ (x : Int) ≤ (k : Int) + 1 + (j : Int) := by omega
              go_wp2_with fail
              refine (nil_key 1#32 _).mono ?_
              rintro e w6 ⟨rfl, hk6⟩
              have hka : Kept w6 (w6.alloc (.cells #[U 0#64, U 0#64] 25)) := (Below.refl _ _).alloc (Nat.le_refl _) _
              have o7 := (ox.kept hk6).kept hka
              clear kx ox hk6 hka
              go_wp2_with fail
              refine (nil_add _).mono ?_
              rintro e w7 ⟨rfl, rfl⟩
              go_wp2_with fail
              refine (nil_erase 1#32 _).mono ?_
              rintro e w8 ⟨rfl, hk8⟩
              have o8 := o7.kept hk8
              clear o7 hk8
              go_wp2_with fail
              refine (nil_cur _).mono ?_
              rintro e w9 ⟨rfl, rfl⟩
              go_wp2_with fail
              refine (nil_epochs _).mono ?_
              rintro e w9 ⟨rfl, rfl⟩
              go_wp2_with fail
              refine (known_any _).mono ?_
              rintro e w10 ⟨rfl, hk10⟩
              go_wp2
              go_ret
              exact ⟨rfl, (o8.kept hk10).below⟩


namespace keysGoneRow
open Go.ChangeShapes Go.WideShapes Go.ChangeAt Go.RowKit
theorem own : ownKnob Try.prog.godebug = none := by kernel_rfl
theorem laidOut : laidOutB Try.prog = true := by kernel_rfl

set_option maxRecDepth 100000 in
theorem lifted (os : Os) (started : os.Started) (H : Type) (enc : TypeId × Value → H) :
    ReturnsInHanded {} Try.checked os 4 .any (Rows.keysGoneSpec.pre6 enc Try.prog Try.f4 Rows.keysGoneRow.domain false) (Rows.keysGoneSpec.post enc Try.prog Try.f4 false true false false) := by
  refine returnsInHanded_of_change (C := Try.checked) own started (by kernel_rfl) Try.func4
    (ChangeSpec.witness6 (enc := enc) (C := Try.checked) false ⟨#[], #[.int .u64 0, .int .i64 0, .int .u32 0, .int .i64 0], []⟩ 8 (by kernel_rfl) (by kernel_rfl) (by kernel_rfl) (by kernel_rfl)) ?_
  intro W base args ds gs before hval0 hW _ hsz
  have hval : ∀ (j : Nat) t v, Try.f4.params[j]? = some t → args[j]? = some v → Value.okWide Try.prog W .any base t v := hval0
  have hW' := hW
  obtain ⟨p, q, hA0, hV, rfl, hfz, hnd⟩ := hW
  have hA : DataW.TrodAll enc Try.prog W 0 (fun _ => true) true Try.f4.params.toList args.toList ds p := hA0
  rw [Try.params4] at hA hval
  obtain ⟨v0, vs0, d0, ds0, p0, q0, hargs, rfl, rfl, h0, r0⟩ := trodAll_cons hA
  obtain ⟨v1, vs1, d1, ds1, p1, q1, rfl, rfl, rfl, h1, r1⟩ := trodAll_cons r0
  obtain ⟨v2, vs2, d2, ds2, p2, q2, rfl, rfl, rfl, h2, r2⟩ := trodAll_cons r1
  obtain ⟨v3, vs3, d3, ds3, p3, q3, rfl, rfl, rfl, h3, r3⟩ := trodAll_cons r2
  obtain ⟨rfl, rfl, rfl⟩ := trodAll_nil r3
  obtain rfl : args = #[v0, v1, v2, v3] := by cases args; simp_all
  obtain ⟨a0, rfl⟩ := open_U Try.underlying22 (hval 0 22 v0 rfl rfl) h0
  obtain ⟨a1, rfl, lo1, hi1⟩ := open_I Try.underlying3 (hval 1 3 v1 rfl rfl) h1
  obtain ⟨a2, rfl⟩ := open_W Try.underlying23 (hval 2 23 v2 rfl rfl) h2
  obtain ⟨a3, rfl, lo3, hi3⟩ := open_I Try.underlying3 (hval 3 3 v3 rfl rfl) h3
  refine (gone_walk a0 a1 a2 a3 W).mono fun e W' ⟨he, bel⟩ => ?_
  subst he
  exact ⟨_, rfl, law_post (tb := 4) laidOut (by kernel_rfl) Try.underlying4 (by rfl) rfl (by intro xs hxs; match xs, hxs with | [x0, x1, x2, x3], _ => rfl) hW' bel⟩

theorem over : Rows.keysGoneRow.holds Try.pinned (OpenSpec.ofChange Rows.keysGoneSpec) :=
  OpenClaim.holds_of_wide 4 Try.f4 rfl rfl rfl rfl rfl rfl rfl ⟨rfl, rfl, rfl, rfl, rfl⟩ rfl rfl rfl rfl rfl (by kernel_rfl) Try.func4 (by kernel_rfl)
    (of_decide_eq_true (by kernel_rfl)) (by unfold Func.isWrapper; rw [if_neg (of_decide_eq_false (by kernel_rfl))]; exact ⟨rfl, rfl⟩)
    (fun os started H enc _ => lifted os started H enc)
end keysGoneRow

theorem keysGone_holds : Rows.KeysGoneSaid := keysGoneRow.over
#print axioms keysGone_holds

end Go.Proofs.Ytdcejhplkhoboaa
