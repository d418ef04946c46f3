/- KeysCurrent: the current epoch is never gone, whatever is erased. -/
import Derived.Test.YtdcejhplkhoboaaKeysK
import Derived.Test.YtdcejhplkhoboaaActs
import Derived.Test.YtdcejhplkhoboaaRows
namespace Go.Proofs.Ytdcejhplkhoboaa
open Go Go.RowKit

set_option maxRecDepth 100000 in
set_option maxHeartbeats 4000000 in
theorem current_walk (seed : BitVec 64) (a : Int) (below : BitVec 32) (w : World) : Calls Try.prog 5 #[U seed, .int .i64 a, W below] w fun e w' => e = .returned (.bool true) ∧ Kept w w' := by
  by_cases hout : a < 0 ∨ 20 < a
  · rcases hout with h1 | h1
    · have h2 : ¬ 20 < a := by omega
      go_enter Try.func5, Try.ntmps5
      go_wp2
      go_ret
      exact ⟨rfl, Below.refl _ _⟩
    · have h2 : ¬ a < 0 := by omega
      go_enter Try.func5, Try.ntmps5
      go_wp2
      go_ret
      exact ⟨rfl, Below.refl _ _⟩
  obtain ⟨n, rfl⟩ : ∃ n : Nat, a = n := ⟨a.toNat, by omega⟩
  have hn : n ≤ 20 := by omega
  have hout1 : ¬ (n : Int) < 0 := by omega
  have hout2 : ¬ 20 < (n : Int) := by omega
  clear hout
  go_enter Try.func5, Try.ntmps5
  go_wp2_with fail
  refine (power_new _).mono ?_
  rintro e w1 ⟨rfl, p1, hk1, hz1⟩
  go_wp2_with fail
  refine (keys_new seed _ _).mono ?_
  rintro e w2 ⟨rfl, k2, hk2, hz2⟩
  have p2 := Blk.kept p1 hk2
  have own2 : Own w w2 w.heap.size (w1.heap.size + 1) w1.heap.size := ⟨by omega, by omega, by omega, Kept.of hk1 hk2, by omega⟩
  clear hk1 hk2 hz2 p1
  obtain ⟨b, hb⟩ : ∃ b, b = w.heap.size := ⟨_, rfl⟩
  obtain ⟨K, hK⟩ : ∃ K, K = w1.heap.size + 1 := ⟨_, rfl⟩
  obtain ⟨g, hg⟩ : ∃ g, g = w1.heap.size := ⟨_, rfl⟩
  rw [← hK, ← hg, ← hb] at own2 k2
  rw [← hb] at p2
  simp only [← hb, ← hK]
  clear hb hK hg hz1
  go_wp2_with fail
  go_loopw [8] (fun i wr => ∃ k : Nat, k ≤ n ∧ i = .int .i64 k ∧ ∃ g cap, PwAt wr b (Pw.nf k) ∧ KeysAt 56 wr K b g seed (up (k + 1)) cap ∧ Own w wr b K g) (fun i _ => n - (intOf i).toNat)
  case atStart => exact ⟨0, by omega, rfl, g, 1, p2, k2, own2⟩
  case round =>
    obtain ⟨k, hk, rfl, g, cap, pk, kk, ok⟩ := hrel
    clear p2 k2 own2
    by_cases hlt : k < n
    · have n3 : (k : Int) < (n : Int) := by omega
      have n4 : (0 : Int) ≤ (k : Int) := by omega
      go_wp2_with fail
      refine (add_any K b g _ _ _ (Pw.nf k) (Pw.nf (k + 1)) true (by rw [up_length]; omega) (by rw [up_length]; omega) _ kk pk (nf_ok k (by omega)) (nf_spend k)).mono ?_
      rintro e w3 ⟨g3, cap3, rfl, p3, k3, hg3, c3⟩
      have o3 := ok.step c3 hg3
      have e3 : addL true (up (k + 1)) = up (k + 1 + 1) := up_add k
      rw [e3] at k3
      clear pk kk ok c3 hg3 e3
      go_wp2
      exact ⟨⟨k + 1, by omega, by go_num, g3, cap3, p3, k3, o3⟩, by simp [intOf]; omega⟩
    · have hkn : k = n := by omega
      subst hkn
      have hn0 := eraseL_now (up (k + 1)) below (by rw [up_length]; omega)
      rw [now_up] at hn0
      have hlen : (eraseL (up (k + 1)) below).length ≤ k + 1 := Nat.le_trans (List.length_filter_le _ _) (by rw [up_length]; exact Nat.le_refl _)
      go_wp2_with fail
      refine (erase_any K b g _ _ _ below (Pw.nf k) (Pw.nf (k + 1)) true (by rw [up_length]; omega) (by rw [up_length]; omega) _ kk pk (nf_ok k (by omega)) (nf_spend k)).mono ?_
      rintro e w4 ⟨g4, cap4, rfl, p4, k4, hg4, c4⟩
      have o4 := ok.step c4 hg4
      have e4 : delL true (up (k + 1)) below = eraseL (up (k + 1)) below := rfl
      rw [e4] at k4
      obtain ⟨E, hE⟩ : ∃ E, E = eraseL (up (k + 1)) below := ⟨_, rfl⟩
      rw [← hE] at k4 hlen hn0
      have HE := Lib.hid hE
      clear pk kk ok c4 hg4 e4 hE
      obtain ⟨X, hX⟩ : ∃ X, X = BitVec.ofNat 32 (k + 1) := ⟨_, rfl⟩
      rw [← hX] at hn0
      have hofi : IntKind.u32.wrap ((k : Int) + 1) = (X.toNat : Int) := by
        rw [hX, BitVec.toNat_ofNat, wrap_u32]
        omega
      have HXX := Lib.hid hX
      clear hX
      go_wp2_with fail
      refine (cur_any _ _ _ _ _ _ hn0.1 (by omega) _ k4).mono ?_
      rintro e w5 ⟨rfl, hk5⟩
      go_wp2_with fail
      refine (key_any _ _ _ _ _ _ _ hn0.1 (by omega) _ (k4.kept hk5)).mono ?_
      rintro e w6 ⟨rfl, hk6⟩
      have hin : E.contains X = true := by rw [← hn0.2]; exact now_in E hn0.1
      have hkp : keyP seed E X = keyOf seed X := by rw [keyP, hin]; rfl
      rw [hkp, hin]
      obtain ⟨q, hq⟩ : ∃ q, q = keyOf seed X := ⟨_, rfl⟩
      rw [← hq]
      have HX := Lib.hid hq.symm
      clear hkp hq hin
      have hka : Kept w6 (w6.alloc (.cells #[U q.1, U q.2] 25)) := (Below.refl _ _).alloc (Nat.le_refl _) _
      have hbk := Blk.new w6 #[U q.1, U q.2] 25
      have b0 := hbk.cell 0
      have b1 := hbk.cell 1
      have k7 := ((k4.kept hk5).kept hk6).kept hka
      have o7 := ((o4.kept hk5).kept hk6).kept hka
      have hsum : IntKind.i64.wrap ((k : Int) + 1) = (k : Int) + 1 := IntWalk.i64_in _ (by omega)
      clear k4 o4 hk5 hk6 hka
      go_wp2_with fail
      refine wp_region_chainK [(0, 0), (1, 0), (2, 0), (3, 0), (4, 0), (5, 0), (6, 0), (7, 0), (8, 0), (9, 0), (10, 1), (11, 0), (12, 0), (13, 0), (14, 0), (16, 0), (17, 0), (18, 0), (15, 1), (19, 0), (20, 0), (21, 0), (22, 1), (23, 0), (24, 0)] (by kernel_rfl) (by kernel_rfl) ?_
      intro w7 hw7
      repeat
        refine chain_light _ rfl (fun K hK => ?_)
        first
          | (refine (if_pos (by rfl)).mpr ?_; apply Exists.intro; refine ⟨fun w' hw' => ?_, hK _ ?_⟩; (have d0 := hw'.at (hw7.at b0); have d1 := hw'.at (hw7.at b1); have hsum2 := hsum; have hofi2 := hofi; go_simp; done); (clear hK K; simp only [Act.put, List.setIfInBounds_toArray, List.set_cons_zero, List.set_cons_succ]))
          | (refine (if_pos (by rfl)).mpr ?_; apply Exists.intro; refine ⟨fun w' hw' => ?_, hK _ ?_⟩; (have d0 := hw'.at (hw7.at b0); have d1 := hw'.at (hw7.at b1); have hsum2 := hsum; have hofi2 := hofi; go_simp; rfl); (clear hK K; simp only [Act.put, List.setIfInBounds_toArray, List.set_cons_zero, List.set_cons_succ]))
          | (refine (if_neg (by rw [Bool.not_eq_true]; rfl)).mpr ?_; refine hK _ ?_; (clear hK K; simp only [Act.put, List.setIfInBounds_toArray, List.set_cons_zero, List.set_cons_succ]))
      refine chain_heavy _ rfl (fun K hK => ?_)
      refine (if_pos (by rfl)).mpr ?_
      go_wp2_with fail
      refine (keyof_any seed _ _).mono ?_
      rintro e w8 ⟨rfl, hk8⟩
      rw [HX.out]
      go_wp2
      refine hK _ _ (hk8) ?_
      clear hK K
      try simp only [Act.put, List.setIfInBounds_toArray, List.set_cons_zero, List.set_cons_succ]
      repeat
        refine chain_light _ rfl (fun K hK => ?_)
        first
          | (refine (if_pos (by rfl)).mpr ?_; apply Exists.intro; refine ⟨fun w' hw' => ?_, hK _ ?_⟩; (go_simp; done); (clear hK K; simp only [Act.put, List.setIfInBounds_toArray, List.set_cons_zero, List.set_cons_succ]))
          | (refine (if_pos (by rfl)).mpr ?_; apply Exists.intro; refine ⟨fun w' hw' => ?_, hK _ ?_⟩; (go_simp; rfl); (clear hK K; simp only [Act.put, List.setIfInBounds_toArray, List.set_cons_zero, List.set_cons_succ]))
          | (refine (if_neg (by rw [Bool.not_eq_true]; rfl)).mpr ?_; refine hK _ ?_; (clear hK K; simp only [Act.put, List.setIfInBounds_toArray, List.set_cons_zero, List.set_cons_succ]))
      refine chain_heavy _ rfl (fun K hK => ?_)
      refine (if_pos (by rfl)).mpr ?_
      go_wp2_with fail
      refine (cur_any _ _ _ _ _ _ hn0.1 (by omega) _ ((k7.kept hw7).kept hk8)).mono ?_
      rintro e w9 ⟨rfl, hk9⟩
      rw [hn0.2]
      go_wp2
      refine hK _ _ (hk9) ?_
      clear hK K
      try simp only [Act.put, List.setIfInBounds_toArray, List.set_cons_zero, List.set_cons_succ]
      repeat
        refine chain_light _ rfl (fun K hK => ?_)
        first
          | (refine (if_pos (by rfl)).mpr ?_; apply Exists.intro; refine ⟨fun w' hw' => ?_, hK _ ?_⟩; (go_simp; done); (clear hK K; simp only [Act.put, List.setIfInBounds_toArray, List.set_cons_zero, List.set_cons_succ]))
          | (refine (if_pos (by rfl)).mpr ?_; apply Exists.intro; refine ⟨fun w' hw' => ?_, hK _ ?_⟩; (go_simp; rfl); (clear hK K; simp only [Act.put, List.setIfInBounds_toArray, List.set_cons_zero, List.set_cons_succ]))
          | (refine (if_neg (by rw [Bool.not_eq_true]; rfl)).mpr ?_; refine hK _ ?_; (clear hK K; simp only [Act.put, List.setIfInBounds_toArray, List.set_cons_zero, List.set_cons_succ]))
      refine chain_heavy _ rfl (fun K hK => ?_)
      refine (if_pos (by rfl)).mpr ?_
      go_wp2_with fail
      refine (known_any _).mono ?_
      rintro e w10 ⟨rfl, hk10⟩
      go_wp2
      refine hK _ _ (hk10) ?_
      clear hK K
      try simp only [Act.put, List.setIfInBounds_toArray, List.set_cons_zero, List.set_cons_succ]
      repeat
        refine chain_light _ rfl (fun K hK => ?_)
        first
          | (refine (if_pos (by rfl)).mpr ?_; apply Exists.intro; refine ⟨fun w' hw' => ?_, hK _ ?_⟩; (go_simp; done); (clear hK K; simp only [Act.put, List.setIfInBounds_toArray, List.set_cons_zero, List.set_cons_succ]))
          | (refine (if_pos (by rfl)).mpr ?_; apply Exists.intro; refine ⟨fun w' hw' => ?_, hK _ ?_⟩; (go_simp; rfl); (clear hK K; simp only [Act.put, List.setIfInBounds_toArray, List.set_cons_zero, List.set_cons_succ]))
          | (refine (if_neg (by rw [Bool.not_eq_true]; rfl)).mpr ?_; refine hK _ ?_; (clear hK K; simp only [Act.put, List.setIfInBounds_toArray, List.set_cons_zero, List.set_cons_succ]))
      refine chain_nil ?_
      go_wp2
      go_ret
      exact ⟨rfl, ((((o7.kept hw7).kept hk8).kept hk9).kept hk10).below⟩


namespace keysCurrentRow
open Go.ChangeShapes Go.WideShapes Go.ChangeAt Go.RowKit
theorem own : ownKnob Try.prog.godebug = none := by kernel_rfl
theorem laidOut : laidOutB Try.prog = true := by kernel_rfl

set_option maxRecDepth 100000 in
theorem lifted (os : Os) (started : os.Started) (H : Type) (enc : TypeId × Value → H) :
    ReturnsInHanded {} Try.checked os 5 .any (Rows.keysCurrentSpec.pre6 enc Try.prog Try.f5 Rows.keysCurrentRow.domain false) (Rows.keysCurrentSpec.post enc Try.prog Try.f5 false true false false) := by
  refine returnsInHanded_of_change (C := Try.checked) own started (by kernel_rfl) Try.func5
    (ChangeSpec.witness6 (enc := enc) (C := Try.checked) false ⟨#[], #[.int .u64 0, .int .i64 0, .int .u32 0], []⟩ 8 (by kernel_rfl) (by kernel_rfl) (by kernel_rfl) (by kernel_rfl)) ?_
  intro W base args ds gs before hval0 hW _ hsz
  have hval : ∀ (j : Nat) t v, Try.f5.params[j]? = some t → args[j]? = some v → Value.okWide Try.prog W .any base t v := hval0
  have hW' := hW
  obtain ⟨p, q, hA0, hV, rfl, hfz, hnd⟩ := hW
  have hA : DataW.TrodAll enc Try.prog W 0 (fun _ => true) true Try.f5.params.toList args.toList ds p := hA0
  rw [Try.params5] at hA hval
  obtain ⟨v0, vs0, d0, ds0, p0, q0, hargs, rfl, rfl, h0, r0⟩ := trodAll_cons hA
  obtain ⟨v1, vs1, d1, ds1, p1, q1, rfl, rfl, rfl, h1, r1⟩ := trodAll_cons r0
  obtain ⟨v2, vs2, d2, ds2, p2, q2, rfl, rfl, rfl, h2, r2⟩ := trodAll_cons r1
  obtain ⟨rfl, rfl, rfl⟩ := trodAll_nil r2
  obtain rfl : args = #[v0, v1, v2] := by cases args; simp_all
  obtain ⟨a0, rfl⟩ := open_U Try.underlying22 (hval 0 22 v0 rfl rfl) h0
  obtain ⟨a1, rfl, lo1, hi1⟩ := open_I Try.underlying3 (hval 1 3 v1 rfl rfl) h1
  obtain ⟨a2, rfl⟩ := open_W Try.underlying23 (hval 2 23 v2 rfl rfl) h2
  refine (current_walk a0 a1 a2 W).mono fun e W' ⟨he, bel⟩ => ?_
  subst he
  exact ⟨_, rfl, law_post (tb := 4) laidOut (by kernel_rfl) Try.underlying4 (by rfl) rfl (by intro xs hxs; match xs, hxs with | [x0, x1, x2], _ => rfl) hW' bel⟩

theorem over : Rows.keysCurrentRow.holds Try.pinned (OpenSpec.ofChange Rows.keysCurrentSpec) :=
  OpenClaim.holds_of_wide 5 Try.f5 rfl rfl rfl rfl rfl rfl rfl ⟨rfl, rfl, rfl, rfl, rfl⟩ rfl rfl rfl rfl rfl (by kernel_rfl) Try.func5 (by kernel_rfl)
    (of_decide_eq_true (by kernel_rfl)) (by unfold Func.isWrapper; rw [if_neg (of_decide_eq_false (by kernel_rfl))]; exact ⟨rfl, rfl⟩)
    (fun os started H enc _ => lifted os started H enc)
end keysCurrentRow

theorem keysCurrent_holds : Rows.KeysCurrentSaid := keysCurrentRow.over
#print axioms keysCurrent_holds

end Go.Proofs.Ytdcejhplkhoboaa
