/- Two rows of Ops that read alike are the same. -/
import Derived.Test.YtpbdncnepcibaaaOpsAt
namespace Go.Proofs.Ytpbdncnepcibaaa
open Go Go.RowKit

set_option maxRecDepth 100000 in
set_option maxHeartbeats 4000000 in
theorem same_ops (v1 v2 : Value) (l : List Wr) (us1 us2 : List Value) (hl : l.length ≤ 1000) (w : World) (h1 : OpsAt w v1 l us1) (h2 : OpsAt w v2 l us2) : Calls Try.prog 28 #[v1, v2] w fun e w' => e = .returned (.bool true) ∧ Kept w w' := by
  obtain ⟨ta, tc, hve⟩ := h1.slice
  subst hve
  obtain ⟨ua, uc, hve⟩ := h2.slice
  subst hve
  obtain ⟨N, hN⟩ : ∃ N, N = l.length := ⟨_, rfl⟩
  rw [← hN]
  rw [← hN] at hl
  have i0 : (N : Int) ≤ 1000 := by omega
  have HN := Lib.hid hN
  clear hN
  go_enter Try.func28, Try.ntmps28
  go_wp2_with fail
  go_loopw [5] (fun i wr => ∃ k : Nat, k ≤ N ∧ i = .int .i64 k ∧ Kept w wr) (fun i _ => N - (intOf i).toNat)
  case atStart => exact ⟨0, by omega, rfl, Below.refl _ _⟩
  case round =>
    obtain ⟨k, hk, rfl, hkw⟩ := hrel
    by_cases hlt : k < N
    · have hkl : k < l.length := by rw [← HN.out]; exact hlt
      have n3 : (k : Int) < (N : Int) := by omega
      have n4 : (0 : Int) ≤ (k : Int) := by omega
      obtain ⟨g, cap2, u, hve, hui, d0, d1, hs1⟩ := (h1.kept hkw).get k hkl
      cases hve
      obtain ⟨g', cap3, u', hve, hui', e0, e1, hs2⟩ := (h2.kept hkw).get k hkl
      cases hve
      obtain ⟨x, hx⟩ : ∃ x, x = l[k] := ⟨_, rfl⟩
      rw [← hx] at d0 e0 hs1 hs2
      clear hx hui hui'
      go_wp2_with fail
      refine wp_region_chainK [(0, 0), (1, 0), (2, 0), (3, 0), (4, 0), (5, 0), (6, 0), (7, 0), (8, 0), (9, 0), (10, 0), (11, 0), (12, 0), (13, 0), (14, 0), (15, 0), (16, 0), (17, 0), (18, 0), (19, 0), (20, 0), (21, 0), (22, 0), (23, 0), (24, 0), (25, 0)] (by kernel_rfl) (by kernel_rfl) ?_
      intro w1 hw1
      repeat
        refine chain_light _ rfl (fun K hK => ?_)
        first
          | (refine (if_pos (by rfl)).mpr ?_; apply Exists.intro; refine ⟨fun w' hw' => ?_, hK _ ?_⟩; (have a0 := hw'.at (hw1.at d0); have a1 := hw'.at (hw1.at d1); have b0 := hw'.at (hw1.at e0); have b1 := hw'.at (hw1.at e1); have s1 := str_of ((hs1.kept hw1).kept hw'); have s2 := str_of ((hs2.kept hw1).kept hw'); go_simp; done); (clear hK K; simp only [Act.put, List.setIfInBounds_toArray, List.set_cons_zero, List.set_cons_succ]))
          | (refine (if_pos (by rfl)).mpr ?_; apply Exists.intro; refine ⟨fun w' hw' => ?_, hK _ ?_⟩; (have a0 := hw'.at (hw1.at d0); have a1 := hw'.at (hw1.at d1); have b0 := hw'.at (hw1.at e0); have b1 := hw'.at (hw1.at e1); have s1 := str_of ((hs1.kept hw1).kept hw'); have s2 := str_of ((hs2.kept hw1).kept hw'); go_simp; rfl); (clear hK K; simp only [Act.put, List.setIfInBounds_toArray, List.set_cons_zero, List.set_cons_succ]))
          | (refine (if_neg (by rw [Bool.not_eq_true]; rfl)).mpr ?_; refine hK _ ?_; (clear hK K; simp only [Act.put, List.setIfInBounds_toArray, List.set_cons_zero, List.set_cons_succ]))
      refine chain_nil ?_
      go_wp2
      exact ⟨⟨k + 1, by omega, by go_num, Kept.of hkw hw1⟩, by simp [intOf]; omega⟩
    · have : k = N := by omega
      have HK := Lib.hid this
      clear this
      go_wp2
      go_ret
      exact ⟨rfl, hkw⟩

end Go.Proofs.Ytpbdncnepcibaaa
