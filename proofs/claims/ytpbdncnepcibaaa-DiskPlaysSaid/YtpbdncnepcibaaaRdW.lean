/- The reference: Is, New, Refuse. -/
import Derived.Test.YtpbdncnepcibaaaRdD
namespace Go.Proofs.Ytpbdncnepcibaaa
open Go Go.RowKit

set_option maxRecDepth 100000 in
set_option maxHeartbeats 4000000 in
theorem rd_is (i : Int) (w : World) : Calls Try.prog 33 #[.int .i64 i] w fun e w' => e = .returned (.bool (isD i)) ∧ w = w' := by
  by_cases h1 : 0 ≤ i
  · by_cases h2 : i < 32
    · rw [show isD i = true by simp [isD]; omega]
      go_enter Try.func33, Try.ntmps33
      go_wp2
      go_ret
      exact ⟨rfl, rfl⟩
    · rw [show isD i = false by simp [isD]; omega]
      go_enter Try.func33, Try.ntmps33
      go_wp2
      go_ret
      exact ⟨rfl, rfl⟩
  · rw [show isD i = false by simp [isD]; omega]
    go_enter Try.func33, Try.ntmps33
    go_wp2
    go_ret
    exact ⟨rfl, rfl⟩

theorem rf_spend (b : Nat) (p p' : Pw) (r : Bool) (w : World) (h : RfAt w b p) (hok : p.ok 9223372036854775806) (hs : p.spend = (r, p')) : Calls Try.prog 34 #[.pointer (some ⟨b, 0, none⟩)] w fun e w' => e = .returned (.bool r) ∧ RfAt w' b p' ∧ Chg [b] w w' := by
  obtain ⟨l, h1, h2⟩ := h
  have := ref_spend b p l w h1 h2 hok
  rw [hs] at this
  exact this.mono (fun e w' ⟨h1, h2, h3⟩ => ⟨h1, h2, Chg.of_grown h3⟩)
set_option maxRecDepth 100000 in
set_option maxHeartbeats 4000000 in
theorem rd_new (b : Nat) (p : Pw) (A : Nat → Prop) (w : World) (hA : ∀ k, A k → k < w.heap.size) (hb : ¬ A b) (hp : RfAt w b p) : Calls Try.prog 19 #[.pointer (some ⟨b, 0, none⟩)] w fun e w' => ∃ K, e = .returned (.pointer (some ⟨K, 0, none⟩)) ∧ RdAt A w' K b ⟨p, List.replicate 32 (List.replicate 32 0), [], [], false⟩ ∧ Kept w w' := by
  obtain ⟨Z, hZ⟩ : ∃ Z, Z = List.replicate 32 (0 : UInt8) := ⟨_, rfl⟩
  have hmk : ∀ w : World, (Instr.makeSlice 22 (.int .i64 32) (.int .i64 32)).run Try.prog w = .ok (.slice (some ⟨w.heap.size, 0, none⟩) 32 32) (w.alloc (.cells (bcells Z).toArray 5)) := fun w => by rw [hZ]; exact run_make_b (P := Try.prog) w sl_bytes .i64 .i64 32 (by omega)
  have hzl : Z.length = 32 := by rw [hZ]; simp
  rw [← hZ]
  have HZL := Lib.hid hzl
  clear hZ hzl
  have hB0 := Blk.new w (dcells b (List.replicate 32 (Str [])) (.slice none 0 0) (.slice none 0 0) false) 50
  have hk0 : Kept w (w.alloc (.cells (dcells b (List.replicate 32 (Str [])) (.slice none 0 0) (.slice none 0 0) false) 50)) := (Below.refl _ _).alloc (Nat.le_refl _) _
  go_enter Try.func19, Try.ntmps19
  go_wp2_with fail
  go_loopw [4] (fun i wr => ∃ k : Nat, k ≤ 32 ∧ i = .int .i64 k ∧ ∃ ls : List Value, ls.length = 32 ∧ Blk wr w.heap.size (dcells b ls (.slice none 0 0) (.slice none 0 0) false) 50 ∧ Kept w wr ∧ (∀ j, j < k → ls[j]? = some (Str Z))) (fun i _ => 32 - (intOf i).toNat)
  case atStart => exact ⟨0, by omega, rfl, List.replicate 32 (Str []), by simp, hB0, hk0, fun j h => absurd h (by omega)⟩
  case round =>
    obtain ⟨k, hk, rfl, ls, hl, hB, hkr, hz⟩ := hrel
    clear hB0 hk0
    by_cases hlt : k < 32
    · have n1 : (k : Int) < 32 := by omega
      have n2 : (0 : Int) ≤ (k : Int) := by omega
      have HLN := Lib.hid hl
      have hzr := hkr.size
      go_wp2_with fail
      refine wp_region_chainChg [w.heap.size] [(0, 0), (1, 0), (4, 0), (5, 0), (2, 1), (3, 0), (6, 0), (7, 1)] (by kernel_rfl) (by kernel_rfl) ?_
      intro w2 hw2
      repeat
        refine chain_light _ rfl (fun K hK => ?_)
        first
          | (refine (if_pos (by rfl)).mpr ?_; apply Exists.intro; refine ⟨fun w' hw' => ?_, hK _ ?_⟩; (go_simp; done); (clear hK K; simp only [Act.put, List.setIfInBounds_toArray, List.set_cons_zero, List.set_cons_succ]))
          | (refine (if_pos (by rfl)).mpr ?_; apply Exists.intro; refine ⟨fun w' hw' => ?_, hK _ ?_⟩; (go_simp; rfl); (clear hK K; simp only [Act.put, List.setIfInBounds_toArray, List.set_cons_zero, List.set_cons_succ]))
          | (refine (if_neg (by rw [Bool.not_eq_true]; rfl)).mpr ?_; refine hK _ ?_; (clear hK K; simp only [Act.put, List.setIfInBounds_toArray, List.set_cons_zero, List.set_cons_succ]))
      refine chain_heavy _ rfl (fun K hK => ?_)
      refine (if_pos (by rfl)).mpr ?_
      have hs2 : w.heap.size < w2.heap.size := Nat.lt_of_lt_of_le hB.lt hw2.size
      go_wp2
      refine hK _ _ (Chg.of_kept ((Below.refl _ _).alloc (Nat.le_refl _) _)) ?_
      clear hK K
      try simp only [Act.put, List.setIfInBounds_toArray, List.set_cons_zero, List.set_cons_succ]
      repeat
        refine chain_light _ rfl (fun K hK => ?_)
        first
          | (refine (if_pos (by rfl)).mpr ?_; apply Exists.intro; refine ⟨fun w' hw' => ?_, hK _ ?_⟩; (have s0 := str_of (bs := Z) (show Sl w' (.slice (some ⟨w2.heap.size, 0, none⟩) 32 32) Z.length (bcells Z) from by rw [HZL.out]; exact Chg.sl (Sl.of_own (own_made 32 (by decide) 5 Z HZL.out (Blk.new w2 _ _) (Nat.le_of_lt hs2))) hw' (fun a c e _ => by cases e; simp; omega)); go_simp; done); (clear hK K; simp only [Act.put, List.setIfInBounds_toArray, List.set_cons_zero, List.set_cons_succ]))
          | (refine (if_pos (by rfl)).mpr ?_; apply Exists.intro; refine ⟨fun w' hw' => ?_, hK _ ?_⟩; (have s0 := str_of (bs := Z) (show Sl w' (.slice (some ⟨w2.heap.size, 0, none⟩) 32 32) Z.length (bcells Z) from by rw [HZL.out]; exact Chg.sl (Sl.of_own (own_made 32 (by decide) 5 Z HZL.out (Blk.new w2 _ _) (Nat.le_of_lt hs2))) hw' (fun a c e _ => by cases e; simp; omega)); go_simp; rfl); (clear hK K; simp only [Act.put, List.setIfInBounds_toArray, List.set_cons_zero, List.set_cons_succ]))
          | (refine (if_neg (by rw [Bool.not_eq_true]; rfl)).mpr ?_; refine hK _ ?_; (clear hK K; simp only [Act.put, List.setIfInBounds_toArray, List.set_cons_zero, List.set_cons_succ]))
      refine chain_heavy _ rfl (fun K hK => ?_)
      refine (if_pos (by rfl)).mpr ?_
      have bb := (hB.kept hw2).alloc (.cells (bcells Z).toArray 5)
      have ff := bb.free (1 + k)
      obtain ⟨cv, cc⟩ : ∃ cv, (w2.alloc (.cells (bcells Z).toArray 5)).cell? ⟨w.heap.size, 1 + k, none⟩ = some cv := by
        rw [bb.cell (1 + k), dcells_at hl k (by omega)]
        exact ⟨_, List.getElem?_eq_getElem (by omega)⟩
      have hka : Kept w2 (w2.alloc (.cells (bcells Z).toArray 5)) := (Below.refl _ w2).alloc (Nat.le_refl _) _
      generalize (w2.alloc (.cells (bcells Z).toArray 5)) = w3 at *
      go_wp2
      refine hK _ _ (Chg.step (List.mem_singleton.2 rfl) _) ?_
      clear hK K
      try simp only [Act.put, List.setIfInBounds_toArray, List.set_cons_zero, List.set_cons_succ]
      refine chain_nil ?_
      have bn := bb.set (1 + k) (Str Z)
      rw [dset_at HLN.out k hlt] at bn
      go_wp2
      refine ⟨⟨k + 1, by omega, by go_num, ls.set k (Str Z), by simp [HLN.out], bn, (hkr.of (hw2.of hka)).trans (Below.setCell (p := ⟨w.heap.size, 1 + k, none⟩) (Below.refl _ _) (Nat.le_refl _) _), fun j hj => ?_⟩, by simp [intOf]; omega⟩
      by_cases hjk : j = k
      · subst hjk
        rw [List.getElem?_set_self (by rw [HLN.out]; omega)]
      · rw [List.getElem?_set_ne (by omega)]
        exact hz j (by omega)
    · have hkk : k = 32 := by omega
      have hls : ls = (List.replicate 32 Z).map Str := by
        apply List.ext_getElem?
        intro i
        by_cases hi : i < 32
        · rw [hz i (by omega)]; simp [hi, -List.reduceReplicate]
        · rw [List.getElem?_eq_none (by omega), List.getElem?_eq_none (by simp; omega)]
      have HK := Lib.hid hkk
      subst hls
      clear hkk hz
      go_wp2
      go_ret
      refine ⟨_, rfl, ⟨.slice none 0 0, .slice none 0 0, [], [], ⟨hB, hp.chg (bs := []) (Chg.of_kept hkr) (by simp), OpsAt.nil _, OpsAt.nil _, fun g hg => by cases hg⟩, ⟨fun ha => ?_, hb, (fun g hg => by cases hg), (fun g hg => by cases hg), (by simp), (by simp)⟩, fun k ha => Nat.lt_of_lt_of_le (hA k ha) hkr.size⟩, hkr⟩
      have := hA _ ha
      omega


end Go.Proofs.Ytpbdncnepcibaaa
