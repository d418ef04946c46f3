/- What the functions of package speck, and of its reference, compute. -/
import Derived.Test.YtlbogmpfjkendaaProg
import Derived.Test.YtlbogmpfjkendaaSpeckD
import Derived.Test.YtlbogmpfjkendaaPosts
import Derived.Outline
import Derived.Lib.Hide
namespace Go.Proofs.Ytlbogmpfjkendaa
open Go Go.RowKit

theorem sl_u64 : SlT Try.prog 55 22 1 8 (.int .u64 0) := SlT.mk' Try.underlying55 (by kernel_rfl) rfl (by omega)
theorem same_kept {P : Program} {f : FuncId} {args : Array Value} {w : World} {r : Value} (h : Calls P f args w fun e w' => e = .returned r ∧ w = w') : Calls P f args w fun e w' => e = .returned r ∧ Kept w w' :=
  h.mono fun e w' h => ⟨h.1, by rw [← h.2]; exact Below.refl _ _⟩
theorem ucells_length (l : List (BitVec 64)) : (ucells l).length = l.length := by simp [ucells]
theorem ucells_append (a b : List (BitVec 64)) : ucells (a ++ b) = ucells a ++ ucells b := by simp [ucells]
theorem ucells_get (l : List (BitVec 64)) (i : Nat) (x : BitVec 64) (h : l[i]? = some x) : (ucells l)[i]? = some (U x) := by simp [ucells, h]

set_option maxRecDepth 100000 in
set_option maxHeartbeats 2000000 in
theorem rot_m8 (x : BitVec 64) (w : World) : Calls Try.prog 46 #[U x, .int .i64 (-8)] w fun e w' => e = .returned (U (rr x 8)) ∧ w = w' := by
  have e3 : IntKind.u64.wrap (-3) = 18446744073709551613 := by decide
  have e8 : IntKind.u64.wrap (-8) = 18446744073709551608 := by decide
  go_enter Try.func46, Try.ntmps46
  go_wp2
  go_ret
  exact ⟨by rw [← rl_rr x 8 (by omega)]; rfl, rfl⟩

set_option maxRecDepth 100000 in
set_option maxHeartbeats 2000000 in
theorem rot_3 (x : BitVec 64) (w : World) : Calls Try.prog 46 #[U x, .int .i64 (3)] w fun e w' => e = .returned (U (rl x 3)) ∧ w = w' := by
  have e3 : IntKind.u64.wrap (-3) = 18446744073709551613 := by decide
  have e8 : IntKind.u64.wrap (-8) = 18446744073709551608 := by decide
  go_enter Try.func46, Try.ntmps46
  go_wp2
  go_ret
  exact ⟨by rfl, rfl⟩

set_option maxRecDepth 100000 in
set_option maxHeartbeats 2000000 in
theorem rot_m3 (x : BitVec 64) (w : World) : Calls Try.prog 46 #[U x, .int .i64 (-3)] w fun e w' => e = .returned (U (rr x 3)) ∧ w = w' := by
  have e3 : IntKind.u64.wrap (-3) = 18446744073709551613 := by decide
  have e8 : IntKind.u64.wrap (-8) = 18446744073709551608 := by decide
  go_enter Try.func46, Try.ntmps46
  go_wp2
  go_ret
  exact ⟨by rw [← rl_rr x 3 (by omega)]; rfl, rfl⟩

set_option maxRecDepth 100000 in
set_option maxHeartbeats 2000000 in
theorem rot_8 (x : BitVec 64) (w : World) : Calls Try.prog 46 #[U x, .int .i64 (8)] w fun e w' => e = .returned (U (rl x 8)) ∧ w = w' := by
  have e3 : IntKind.u64.wrap (-3) = 18446744073709551613 := by decide
  have e8 : IntKind.u64.wrap (-8) = 18446744073709551608 := by decide
  go_enter Try.func46, Try.ntmps46
  go_wp2
  go_ret
  exact ⟨by rfl, rfl⟩

set_option maxRecDepth 100000 in
set_option maxHeartbeats 2000000 in
theorem mix_any (x y k : BitVec 64) (w : World) : Calls Try.prog 36 #[U x, U y, U k] w fun e w' => e = .returned (.tuple #[U (mix2 (x, y) k).1, U (mix2 (x, y) k).2]) ∧ w = w' := by
  go_enter Try.func36, Try.ntmps36
  go_wp2_with fail
  refine (rot_m8 _ _).mono ?_
  rintro e w1 ⟨rfl, rfl⟩
  go_wp2_with fail
  refine (rot_3 _ _).mono ?_
  rintro e w1 ⟨rfl, rfl⟩
  go_wp2
  go_ret2
  exact ⟨rfl, rfl⟩

set_option maxRecDepth 100000 in
set_option maxHeartbeats 2000000 in
theorem rright_8 (x : BitVec 64) (w : World) : Calls Try.prog 39 #[U x, .int .u64 8] w fun e w' => e = .returned (U (rr x 8)) ∧ w = w' := by
  go_enter Try.func39, Try.ntmps39
  go_wp2
  go_ret
  exact ⟨rfl, rfl⟩

set_option maxRecDepth 100000 in
set_option maxHeartbeats 2000000 in
theorem rright_3 (x : BitVec 64) (w : World) : Calls Try.prog 39 #[U x, .int .u64 3] w fun e w' => e = .returned (U (rr x 3)) ∧ w = w' := by
  go_enter Try.func39, Try.ntmps39
  go_wp2
  go_ret
  exact ⟨rfl, rfl⟩

set_option maxRecDepth 100000 in
set_option maxHeartbeats 2000000 in
theorem rleft_3 (x : BitVec 64) (w : World) : Calls Try.prog 40 #[U x, .int .u64 3] w fun e w' => e = .returned (U (rl x 3)) ∧ w = w' := by
  go_enter Try.func40, Try.ntmps40
  go_wp2
  go_ret
  exact ⟨rfl, rfl⟩

set_option maxRecDepth 100000 in
set_option maxHeartbeats 2000000 in
theorem rleft_8 (x : BitVec 64) (w : World) : Calls Try.prog 40 #[U x, .int .u64 8] w fun e w' => e = .returned (U (rl x 8)) ∧ w = w' := by
  go_enter Try.func40, Try.ntmps40
  go_wp2
  go_ret
  exact ⟨rfl, rfl⟩

set_option maxRecDepth 100000 in
set_option maxHeartbeats 2000000 in
theorem keys_any (k1 k2 : BitVec 64) (w : World) : Calls Try.prog 35 #[.agg #[U k1, U k2]] w fun e w' => ∃ r, e = .returned r ∧ w'.ownsRow w.heap.size 22 1 r 32 (ucells (keysL (k1, k2) 32)) ∧ Kept w w' := by
  go_enter Try.func35, Try.ntmps35
  go_wp2_with fail
  have hA := Blk.new w #[U k1, U k2] 24
  refine wp_region_kept (by kernel_rfl) (by kernel_rfl) ?_
  repeat
    refine wpQuiet_step (fun K hK => ?_)
    refine (if_pos (by rfl)).mpr ?_
    first
      | (refine quiet_val_ex ?_; apply Exists.intro; refine ⟨fun w' hw' => ?_, hK _ ?_⟩; (have hA' := hA.kept hw'; have hA0 := hA'.cell 0; have hA1 := hA'.cell 1; go_simp; done); (clear hK K; simp only [Act.put, List.setIfInBounds_toArray, List.set_cons_zero, List.set_cons_succ]))
      | (refine quiet_val_ex ?_; apply Exists.intro; refine ⟨fun w' hw' => ?_, hK _ ?_⟩; (have hA' := hA.kept hw'; have hA0 := hA'.cell 0; have hA1 := hA'.cell 1; go_simp; rfl); (clear hK K; simp only [Act.put, List.setIfInBounds_toArray, List.set_cons_zero, List.set_cons_succ]))
      | (refine quiet_call_ex ?_; apply Exists.intro; apply Exists.intro; apply Exists.intro; refine ⟨fun w' hw' => ?_, fun w' hw' => ?_, hK _ ?_⟩; (go_simp; exact ⟨rfl, rfl⟩); (with_reducible first | exact Calls.kept hw' (trivial)); (clear hK K; simp only [Act.put, List.setIfInBounds_toArray, List.set_cons_zero, List.set_cons_succ]))
  refine wpQuiet_nil ?_
  intro w1 hw1
  have hb1 : Below w.heap.size w w1 := ((Below.refl _ _).alloc (Nat.le_refl _) _).trans (hw1.mono (by simp))
  have hs1 : w.heap.size ≤ w1.heap.size := Nat.le_trans (by simp) hw1.size
  clear hw1 hA
  go_wp2_with fail
  go_loopw [11, 5, 3, 4] (fun i o l k wr => ∃ n : Nat, n ≤ 32 ∧ i = U (BitVec.ofNat 64 n) ∧ l = U (kst (k1, k2) n).1 ∧ k = U (kst (k1, k2) n).2 ∧ wr.ownsRow w.heap.size 22 1 o n (ucells (keysL (k1, k2) n)) ∧ Below w.heap.size w wr ∧ w.heap.size ≤ wr.heap.size)
    (fun i _ _ _ _ => 32 - (intOf i).toNat)
  case atStart => exact ⟨0, by omega, by first | rfl | simp, rfl, rfl, World.ownsRow_nil _ _ _ _, hb1, hs1⟩
  case round =>
    obtain ⟨n, hn, rfl, rfl, rfl, hown, hb, hsz⟩ := hrel
    clear hb1 hs1
    by_cases hlt : n < 32
    · have HK := Lib.hid (keysL_succ (k1, k2) n)
      have i0 : (0 : Int) ≤ (n : Int) := by omega
      have i1 : (n : Int) ≤ 18446744073709551615 := by omega
      go_wp2_with (at_builtin; refine wpList_append sl_u64 rfl (by rfl) (by rfl) (by rfl) (hown.alloc _) (Sl.one _ _ _) (by rfl) (oneCell_U [(kst (k1, k2) n).2]) (by unfold maxLen; omega) (by omega) (by simp; omega) ?_; intro b' w1 hown1 hg1 hat1)
      refine (mix_any _ _ _ _).mono ?_
      rintro e w2 ⟨rfl, rfl⟩
      go_wp2
      refine ⟨⟨n + 1, by omega, by simp [BitVec.ofNat_add], rfl, rfl, ?_, below_append (hb.alloc hsz _) (hown.alloc _) hg1 (by simp; omega), Nat.le_trans (by simp; omega) hg1.size⟩, ?_⟩
      · rw [HK.out, ucells_append]; exact hown1
      · simp [intOf, U]; omega
    · have : n = 32 := by omega
      subst this
      clear hlt hn
      go_wp2
      go_ret
      exact ⟨_, rfl, hown, hb⟩

set_option maxRecDepth 100000 in
set_option maxHeartbeats 2000000 in
theorem rkeys_any (k1 k2 : BitVec 64) (w : World) : Calls Try.prog 38 #[.agg #[U k1, U k2]] w fun e w' => ∃ r, e = .returned r ∧ w'.ownsRow w.heap.size 22 1 r 32 (ucells (keysL (k1, k2) 32)) ∧ Kept w w' := by
  go_enter Try.func38, Try.ntmps38
  go_wp2_with fail
  have hA := Blk.new w #[U k1, U k2] 24
  refine wp_region_kept (by kernel_rfl) (by kernel_rfl) ?_
  repeat
    refine wpQuiet_step (fun K hK => ?_)
    refine (if_pos (by rfl)).mpr ?_
    first
      | (refine quiet_val_ex ?_; apply Exists.intro; refine ⟨fun w' hw' => ?_, hK _ ?_⟩; (have hA' := hA.kept hw'; have hA0 := hA'.cell 0; have hA1 := hA'.cell 1; go_simp; done); (clear hK K; simp only [Act.put, List.setIfInBounds_toArray, List.set_cons_zero, List.set_cons_succ]))
      | (refine quiet_val_ex ?_; apply Exists.intro; refine ⟨fun w' hw' => ?_, hK _ ?_⟩; (have hA' := hA.kept hw'; have hA0 := hA'.cell 0; have hA1 := hA'.cell 1; go_simp; rfl); (clear hK K; simp only [Act.put, List.setIfInBounds_toArray, List.set_cons_zero, List.set_cons_succ]))
      | (refine quiet_call_ex ?_; apply Exists.intro; apply Exists.intro; apply Exists.intro; refine ⟨fun w' hw' => ?_, fun w' hw' => ?_, hK _ ?_⟩; (go_simp; exact ⟨rfl, rfl⟩); (with_reducible first | exact Calls.kept hw' (trivial)); (clear hK K; simp only [Act.put, List.setIfInBounds_toArray, List.set_cons_zero, List.set_cons_succ]))
  refine wpQuiet_nil ?_
  intro w1 hw1
  have hb1 : Below w.heap.size w w1 := ((Below.refl _ _).alloc (Nat.le_refl _) _).trans (hw1.mono (by simp))
  have hs1 : w.heap.size ≤ w1.heap.size := Nat.le_trans (by simp) hw1.size
  clear hw1 hA
  go_wp2_with fail
  go_loopw [6, 5, 3, 4] (fun i o l k wr => ∃ n : Nat, n ≤ 32 ∧ i = .int .i64 n ∧ l = U (kst (k1, k2) n).1 ∧ k = U (kst (k1, k2) n).2 ∧ wr.ownsRow w.heap.size 22 1 o n (ucells (keysL (k1, k2) n)) ∧ Below w.heap.size w wr ∧ w.heap.size ≤ wr.heap.size)
    (fun i _ _ _ _ => 32 - (intOf i).toNat)
  case atStart => exact ⟨0, by omega, by first | rfl | simp, rfl, rfl, World.ownsRow_nil _ _ _ _, hb1, hs1⟩
  case round =>
    obtain ⟨n, hn, rfl, rfl, rfl, hown, hb, hsz⟩ := hrel
    clear hb1 hs1
    by_cases hlt : n < 32
    · have HK := Lib.hid (keysL_succ (k1, k2) n)
      have i0 : (0 : Int) ≤ (n : Int) := by omega
      have i1 : (n : Int) ≤ 18446744073709551615 := by omega
      go_wp2_with (at_builtin; refine wpList_append sl_u64 rfl (by rfl) (by rfl) (by rfl) (hown.alloc _) (Sl.one _ _ _) (by rfl) (oneCell_U [(kst (k1, k2) n).2]) (by unfold maxLen; omega) (by omega) (by simp; omega) ?_; intro b' w1 hown1 hg1 hat1)
      refine (rright_8 _ _).mono ?_
      rintro e w2 ⟨rfl, rfl⟩
      go_wp2_with fail
      refine (rleft_3 _ _).mono ?_
      rintro e w2 ⟨rfl, rfl⟩
      go_wp2
      refine ⟨⟨n + 1, by omega, by go_num, rfl, rfl, ?_, below_append (hb.alloc hsz _) (hown.alloc _) hg1 (by simp; omega), Nat.le_trans (by simp; omega) hg1.size⟩, ?_⟩
      · rw [HK.out, ucells_append]; exact hown1
      · simp [intOf]; omega
    · have : n = 32 := by omega
      subst this
      clear hlt hn
      go_wp2
      go_ret
      exact ⟨_, rfl, hown, hb⟩


end Go.Proofs.Ytlbogmpfjkendaa
