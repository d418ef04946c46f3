/- What is, and New. -/
import Derived.Test.YtpbdncnepcibaaaDiskE
namespace Go.Proofs.Ytpbdncnepcibaaa
open Go Go.RowKit

def isD (i : Int) : Bool := decide (0 ≤ i) && decide (i < 32)
set_option maxRecDepth 100000 in
set_option maxHeartbeats 4000000 in
theorem disk_is (K : Nat) (i : Int) (w : World) : Calls Try.prog 29 #[.pointer (some ⟨K, 0, none⟩), .int .i64 i] w fun e w' => e = .returned (.bool (isD i)) ∧ w = w' := by
  by_cases h1 : 0 ≤ i
  · by_cases h2 : i < 32
    · rw [show isD i = true by simp [isD]; omega]
      go_enter Try.func29, Try.ntmps29
      go_wp2
      go_ret
      exact ⟨rfl, rfl⟩
    · rw [show isD i = false by simp [isD]; omega]
      go_enter Try.func29, Try.ntmps29
      go_wp2
      go_ret
      exact ⟨rfl, rfl⟩
  · rw [show isD i = false by simp [isD]; omega]
    go_enter Try.func29, Try.ntmps29
    go_wp2
    go_ret
    exact ⟨rfl, rfl⟩

set_option maxRecDepth 100000 in
set_option maxHeartbeats 4000000 in
theorem disk_is_nil (i : Int) (w : World) : Calls Try.prog 29 #[.pointer none, .int .i64 i] w fun e w' => e = .returned (.bool false) ∧ w = w' := by
  go_enter Try.func29, Try.ntmps29
  go_wp2
  go_ret
  exact ⟨rfl, rfl⟩

set_option maxRecDepth 100000 in
set_option maxHeartbeats 4000000 in
theorem disk_new (b : Nat) (p : Pw) (A : Nat → Prop) (w : World) (hA : ∀ k, A k → k < w.heap.size) (hb : ¬ A b) (hp : PwAt w b p) : Calls Try.prog 7 #[.pointer (some ⟨b, 0, none⟩)] w fun e w' => ∃ K, e = .returned (.pointer (some ⟨K, 0, none⟩)) ∧ DkAt A w' K b ⟨p, List.replicate 32 (List.replicate 32 0), [], [], false⟩ ∧ Kept w w' := by
  obtain ⟨Z, hZ⟩ : ∃ Z, Z = List.replicate 32 (0 : UInt8) := ⟨_, rfl⟩
  have hmk : ∀ w : World, (Instr.makeSlice 22 (.int .i64 32) (.int .i64 32)).run Try.prog w = .ok (.slice (some ⟨w.heap.size, 0, none⟩) 32 32) (w.alloc (.cells (bcells Z).toArray 5)) := fun w => by rw [hZ]; exact run_make_b (P := Try.prog) w sl_bytes .i64 .i64 32 (by omega)
  have hzl : Z.length = 32 := by rw [hZ]; simp
  rw [← hZ]
  have HZL := Lib.hid hzl
  clear hZ hzl
  have hB0 := Blk.new w (dcells b (List.replicate 32 (.slice none 0 0)) (.slice none 0 0) (.slice none 0 0) false) 55
  have hk0 : Kept w (w.alloc (.cells (dcells b (List.replicate 32 (.slice none 0 0)) (.slice none 0 0) (.slice none 0 0) false) 55)) := (Below.refl _ _).alloc (Nat.le_refl _) _
  go_enter Try.func7, Try.ntmps7
  go_wp2_with fail
  go_loopw [8, 4] (fun i _ wr => ∃ k : Nat, k ≤ 32 ∧ i = .int .i64 k ∧ ∃ ls : List Value, ls.length = 32 ∧ Blk wr w.heap.size (dcells b ls (.slice none 0 0) (.slice none 0 0) false) 55 ∧ Kept w wr ∧ (∀ j, j < k → ∃ u, ls[j]? = some u ∧ wr.ownsRow w.heap.size 5 1 u 32 (bcells Z))) (fun i _ _ => 32 - (intOf i).toNat)
  case atStart => exact ⟨0, by omega, rfl, List.replicate 32 (.slice none 0 0), by simp, hB0, hk0, fun j h => absurd h (by omega)⟩
  case round =>
    obtain ⟨k, hk, rfl, ls, hl, hB, hkr, hz⟩ := hrel
    clear hB0 hk0
    by_cases hlt : k < 32
    · have n1 : (k : Int) < 32 := by omega
      have n2 : (0 : Int) ≤ (k : Int) := by omega
      have HLN := Lib.hid hl
      have hzr := hkr.size
      go_wp2_with fail
      refine wp_region_chainBelow (w.heap.size) [(0, 0), (1, 0), (3, 0), (4, 0), (2, 1), (5, 0), (6, 1)] (by kernel_rfl) (by kernel_rfl) ?_
      intro w2 hw2
      repeat
        refine chain_light _ rfl (fun K hK => ?_)
        first
          | (refine (if_pos (by rfl)).mpr ?_; apply Exists.intro; refine ⟨fun w' hw' => ?_, hK _ ?_⟩; (go_simp; done); (clear hK K; simp only [Act.put, List.setIfInBounds_toArray, List.set_cons_zero, List.set_cons_succ]))
          | (refine (if_pos (by rfl)).mpr ?_; apply Exists.intro; refine ⟨fun w' hw' => ?_, hK _ ?_⟩; (go_simp; rfl); (clear hK K; simp only [Act.put, List.setIfInBounds_toArray, List.set_cons_zero, List.set_cons_succ]))
          | (refine (if_neg (by rw [Bool.not_eq_true]; rfl)).mpr ?_; refine hK _ ?_; (clear hK K; simp only [Act.put, List.setIfInBounds_toArray, List.set_cons_zero, List.set_cons_succ]))
      refine chain_heavy _ rfl (fun K hK => ?_)
      refine (if_pos (by rfl)).mpr ?_
      have hs2 : w.heap.size ≤ w2.heap.size := Nat.le_trans hzr hw2.size
      go_wp2
      refine hK _ _ ((Below.refl _ w2).alloc hs2 _) ?_
      clear hK K
      try simp only [Act.put, List.setIfInBounds_toArray, List.set_cons_zero, List.set_cons_succ]
      repeat
        refine chain_light _ rfl (fun K hK => ?_)
        first
          | (refine (if_pos (by rfl)).mpr ?_; apply Exists.intro; refine ⟨fun w' hw' => ?_, hK _ ?_⟩; (go_simp; done); (clear hK K; simp only [Act.put, List.setIfInBounds_toArray, List.set_cons_zero, List.set_cons_succ]))
          | (refine (if_pos (by rfl)).mpr ?_; apply Exists.intro; refine ⟨fun w' hw' => ?_, hK _ ?_⟩; (go_simp; rfl); (clear hK K; simp only [Act.put, List.setIfInBounds_toArray, List.set_cons_zero, List.set_cons_succ]))
          | (refine (if_neg (by rw [Bool.not_eq_true]; rfl)).mpr ?_; refine hK _ ?_; (clear hK K; simp only [Act.put, List.setIfInBounds_toArray, List.set_cons_zero, List.set_cons_succ]))
      refine chain_heavy _ rfl (fun K hK => ?_)
      refine (if_pos (by rfl)).mpr ?_
      have bb := (hB.kept hw2).alloc (.cells (bcells Z).toArray 5)
      have ff := bb.free (1 + k)
      obtain ⟨cv, cc⟩ : ∃ cv, (w2.alloc (.cells (bcells Z).toArray 5)).cell? ⟨w.heap.size, 1 + k, none⟩ = some cv := by
        rw [bb.cell (1 + k), dcells_at hl k (by omega)]
        exact ⟨_, List.getElem?_eq_getElem (by omega)⟩
      go_wp2
      refine hK _ _ (Below.setCell (p := ⟨w.heap.size, 1 + k, none⟩) (Below.refl _ _) (Nat.le_refl _) _) ?_
      clear hK K
      try simp only [Act.put, List.setIfInBounds_toArray, List.set_cons_zero, List.set_cons_succ]
      refine chain_nil ?_
      have hs3 : (w2.alloc (.cells (bcells Z).toArray 5)).heap.size = w2.heap.size + 1 := by simp
      have hka : Kept w2 (w2.alloc (.cells (bcells Z).toArray 5)) := (Below.refl _ w2).alloc (Nat.le_refl _) _
      have hcb : Chg [w.heap.size] (w2.alloc (.cells (bcells Z).toArray 5)) ((w2.alloc (.cells (bcells Z).toArray 5)).setCell ⟨w.heap.size, 1 + k, none⟩ (.slice (some ⟨w2.heap.size, 0, none⟩) 32 32)) := Chg.step (by simp) _
      have hown : (w2.alloc (.cells (bcells Z).toArray 5)).ownsRow w.heap.size 5 1 (.slice (some ⟨w2.heap.size, 0, none⟩) 32 32) 32 (bcells Z) := own_made 32 (by decide) _ _ HZL.out (Blk.new _ _ _) hs2
      have bn := bb.set (1 + k) (.slice (some ⟨w2.heap.size, 0, none⟩) 32 32)
      rw [dset_at HLN.out k hlt] at bn
      go_wp2
      refine ⟨⟨k + 1, by omega, by go_num, ls.set k (.slice (some ⟨w2.heap.size, 0, none⟩) 32 32), by simp [HLN.out], bn, (hkr.of (hw2.of hka)).trans (Below.setCell (p := ⟨w.heap.size, 1 + k, none⟩) (Below.refl _ _) (Nat.le_refl _) _), fun j hj => ?_⟩, by simp [intOf]; omega⟩
      by_cases hjk : j = k
      · subst hjk
        exact ⟨_, by rw [List.getElem?_set_self (by rw [HLN.out]; omega)], own_kind hown hcb bb (by decide)⟩
      · obtain ⟨u, e1, e2⟩ := hz j (by omega)
        exact ⟨u, by rw [List.getElem?_set_ne (by omega)]; exact e1, own_kind (own_kept (own_kept e2 hw2) hka) hcb bb (by decide)⟩
    · have hkk : k = 32 := by omega
      have HK := Lib.hid hkk
      clear hkk
      go_wp2
      go_ret
      refine ⟨_, rfl, ⟨ls, .slice none 0 0, .slice none 0 0, [], [], ⟨hB, Blk.kept hp hkr, ⟨by simp [hl], fun i x u hx hu => ?_⟩, OpsAt.nil _, OpsAt.nil _, fun g hg => by cases hg⟩, ⟨fun ha => ?_, hb, fun u hu g hg ha => ?_, (fun g hg => by cases hg), (fun g hg => by cases hg), (by simp), (by simp)⟩, fun k ha => Nat.lt_of_lt_of_le (hA k ha) hkr.size⟩, hkr⟩
      · have hi := (List.getElem?_eq_some_iff.1 hu).1
        obtain ⟨u', e1, e2⟩ := hz i (by have := HK.out; omega)
        rw [hu] at e1
        cases e1
        have hx' : x = Z := by
          rw [List.getElem?_replicate] at hx
          split at hx
          · exact (Option.some.inj hx).symm
          · cases hx
        rw [hx', HZL.out]
        exact own_base e2 (Nat.zero_le _)
      · have := hA _ ha
        omega
      · obtain ⟨i, hi⟩ := List.getElem?_of_mem hu
        have hi' := (List.getElem?_eq_some_iff.1 hi).1
        obtain ⟨u', e1, e2⟩ := hz i (by have := HK.out; omega)
        rw [hi] at e1
        cases e1
        have := own_geV e2 hg
        have := hA _ ha
        omega

end Go.Proofs.Ytpbdncnepcibaaa
