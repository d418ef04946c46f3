/- Speck's blocks: Encrypt, Decrypt, and their references. -/
import Derived.Test.YtlbogmpfjkendaaSpeckW
namespace Go.Proofs.Ytlbogmpfjkendaa
open Go Go.RowKit

set_option maxRecDepth 100000 in
set_option maxHeartbeats 2000000 in
theorem enc_any (k1 k2 b1 b2 : BitVec 64) (w : World) : Calls Try.prog 25 #[.agg #[U k1, U k2], .agg #[U b1, U b2]] w fun e w' => e = .returned (Pr (enc2 (k1, k2) (b1, b2))) ∧ Kept w w' := by
  go_enter Try.func25, Try.ntmps25
  go_wp2_with fail
  have hK : Blk (((w.alloc (.cells #[U k1, U k2] 24)).alloc (.cells #[U b1, U b2] 24)).alloc (.cells #[U 0#64, U 0#64] 24)) w.heap.size #[U k1, U k2] 24 := ((Blk.new w _ _).alloc _).alloc _
  have hB : Blk (((w.alloc (.cells #[U k1, U k2] 24)).alloc (.cells #[U b1, U b2] 24)).alloc (.cells #[U 0#64, U 0#64] 24)) (w.heap.size + 1) #[U b1, U b2] 24 := Blk.alloc (by simpa using Blk.new (w.alloc (.cells #[U k1, U k2] 24)) #[U b1, U b2] 24) _
  have hR : Blk (((w.alloc (.cells #[U k1, U k2] 24)).alloc (.cells #[U b1, U b2] 24)).alloc (.cells #[U 0#64, U 0#64] 24)) (w.heap.size + 1 + 1) #[U 0#64, U 0#64] 24 := by simpa using Blk.new ((w.alloc (.cells #[U k1, U k2] 24)).alloc (.cells #[U b1, U b2] 24)) #[U 0#64, U 0#64] 24
  refine wp_region_kept (by kernel_rfl) (by kernel_rfl) ?_
  repeat
    refine wpQuiet_step (fun K hK => ?_)
    refine (if_pos (by rfl)).mpr ?_
    first
      | (refine quiet_val_ex ?_; apply Exists.intro; refine ⟨fun w' hw' => ?_, hK _ ?_⟩; (have hB' := hB.kept hw'; have hB0 := hB'.cell 0; have hB1 := hB'.cell 1; go_simp; done); (clear hK K; simp only [Act.put, List.setIfInBounds_toArray, List.set_cons_zero, List.set_cons_succ]))
      | (refine quiet_val_ex ?_; apply Exists.intro; refine ⟨fun w' hw' => ?_, hK _ ?_⟩; (have hB' := hB.kept hw'; have hB0 := hB'.cell 0; have hB1 := hB'.cell 1; go_simp; rfl); (clear hK K; simp only [Act.put, List.setIfInBounds_toArray, List.set_cons_zero, List.set_cons_succ]))
      | (refine quiet_call_ex ?_; apply Exists.intro; apply Exists.intro; apply Exists.intro; refine ⟨fun w' hw' => ?_, fun w' hw' => ?_, hK _ ?_⟩; (go_simp; exact ⟨rfl, rfl⟩); (with_reducible first | exact Calls.kept hw' (trivial)); (clear hK K; simp only [Act.put, List.setIfInBounds_toArray, List.set_cons_zero, List.set_cons_succ]))
  refine wpQuiet_nil ?_
  intro w1 hw1
  have hb1 : Below w.heap.size w w1 := ((((Below.refl _ _).alloc (Nat.le_refl _) _).alloc (by simp) _).alloc (by simp; omega) _).trans (hw1.mono (by simp; omega))
  have hK1 := hK.kept hw1
  have hR1 := hR.kept hw1
  have k0 := hK1.cell 0
  have k1' := hK1.cell 1
  clear hw1 hK hB hR
  go_wp2_with fail
  refine (keys_any _ _ _).mono ?_
  rintro e w2 ⟨r, rfl, hown, hk2⟩
  have hs1 : w.heap.size ≤ w1.heap.size := by have := hK1.lt; omega
  have hb2 : Below w.heap.size w w2 := hb1.trans (hk2.mono hs1)
  have hR2 := hR1.kept hk2
  have hs2 : w.heap.size ≤ w2.heap.size := Nat.le_trans hs1 hk2.size
  obtain ⟨g, off, cap, rfl, hcap, hmax, hgl, hcell⟩ := (Sl.of_own hown).at (by rw [ucells_length, keysL_length]; omega)
  clear hk2 hown hs1 hb1 hK1 hR1 k0 k1'
  have hkey : ∀ n, n < 32 → w2.cell? ⟨g, off + n, none⟩ = some (U (kst (k1, k2) n).2) := fun n hn => hcell n _ (ucells_get _ _ _ (keysL_get _ _ _ hn))
  clear hcell
  go_wp2_with fail
  go_loopw [16, 5, 6] (fun i x y wr => ∃ n : Nat, n ≤ 32 ∧ i = .int .i64 n ∧ x = U (encTo (k1, k2) (b1, b2) n).1 ∧ y = U (encTo (k1, k2) (b1, b2) n).2 ∧ Kept w2 wr) (fun i _ _ _ => 32 - (intOf i).toNat)
  case atStart => exact ⟨0, by omega, rfl, rfl, rfl, Below.refl _ _⟩
  case round =>
    obtain ⟨n, hn, rfl, rfl, rfl, hkw⟩ := hrel
    by_cases hlt : n < 32
    · have hx := (hkw.cell (p := ⟨g, off + n, none⟩) hgl).trans (hkey n hlt)
      have hgw : g < wr.heap.size := Nat.lt_of_lt_of_le hgl hkw.size
      have i0 : (n : Int) < 32 := by omega
      clear hkey
      go_wp2_with fail
      refine (mix_any _ _ _ _).mono ?_
      rintro e w3 ⟨rfl, rfl⟩
      go_wp2
      exact ⟨⟨n + 1, by omega, by go_num, rfl, rfl, hkw⟩, by simp [intOf]; omega⟩
    · have : n = 32 := by omega
      subst this
      clear hlt hn hkey
      have hR3 := hR2.kept hkw
      have hb3 := hb2.trans (hkw.mono hs2)
      clear hR2 hb2
      have r0 := hR3.cell 0
      have r1 := hR3.cell 1
      have f0 := hR3.free 0
      have f1 := hR3.free 1
      go_wp2
      refine bodyPost_ret (v := Pr (enc2 (k1, k2) (b1, b2))) (by simp [results, Try.results25, go_sem, r0, r1]; try exact ⟨rfl, rfl⟩) rfl ⟨rfl, ?_⟩
      exact ((hb3.setCell (by simp; omega) _).setCell (by simp; omega) _)

set_option maxRecDepth 100000 in
set_option maxHeartbeats 2000000 in
theorem renc_any (k1 k2 b1 b2 : BitVec 64) (w : World) : Calls Try.prog 28 #[.agg #[U k1, U k2], .agg #[U b1, U b2]] w fun e w' => e = .returned (Pr (enc2 (k1, k2) (b1, b2))) ∧ Kept w w' := by
  go_enter Try.func28, Try.ntmps28
  go_wp2_with fail
  have hK : Blk (((w.alloc (.cells #[U k1, U k2] 24)).alloc (.cells #[U b1, U b2] 24)).alloc (.cells #[U 0#64, U 0#64] 24)) w.heap.size #[U k1, U k2] 24 := ((Blk.new w _ _).alloc _).alloc _
  have hB : Blk (((w.alloc (.cells #[U k1, U k2] 24)).alloc (.cells #[U b1, U b2] 24)).alloc (.cells #[U 0#64, U 0#64] 24)) (w.heap.size + 1) #[U b1, U b2] 24 := Blk.alloc (by simpa using Blk.new (w.alloc (.cells #[U k1, U k2] 24)) #[U b1, U b2] 24) _
  have hR : Blk (((w.alloc (.cells #[U k1, U k2] 24)).alloc (.cells #[U b1, U b2] 24)).alloc (.cells #[U 0#64, U 0#64] 24)) (w.heap.size + 1 + 1) #[U 0#64, U 0#64] 24 := by simpa using Blk.new ((w.alloc (.cells #[U k1, U k2] 24)).alloc (.cells #[U b1, U b2] 24)) #[U 0#64, U 0#64] 24
  refine wp_region_kept (by kernel_rfl) (by kernel_rfl) ?_
  repeat
    refine wpQuiet_step (fun K hK => ?_)
    refine (if_pos (by rfl)).mpr ?_
    first
      | (refine quiet_val_ex ?_; apply Exists.intro; refine ⟨fun w' hw' => ?_, hK _ ?_⟩; (have hB' := hB.kept hw'; have hB0 := hB'.cell 0; have hB1 := hB'.cell 1; go_simp; done); (clear hK K; simp only [Act.put, List.setIfInBounds_toArray, List.set_cons_zero, List.set_cons_succ]))
      | (refine quiet_val_ex ?_; apply Exists.intro; refine ⟨fun w' hw' => ?_, hK _ ?_⟩; (have hB' := hB.kept hw'; have hB0 := hB'.cell 0; have hB1 := hB'.cell 1; go_simp; rfl); (clear hK K; simp only [Act.put, List.setIfInBounds_toArray, List.set_cons_zero, List.set_cons_succ]))
      | (refine quiet_call_ex ?_; apply Exists.intro; apply Exists.intro; apply Exists.intro; refine ⟨fun w' hw' => ?_, fun w' hw' => ?_, hK _ ?_⟩; (go_simp; exact ⟨rfl, rfl⟩); (with_reducible first | exact Calls.kept hw' (trivial)); (clear hK K; simp only [Act.put, List.setIfInBounds_toArray, List.set_cons_zero, List.set_cons_succ]))
  refine wpQuiet_nil ?_
  intro w1 hw1
  have hb1 : Below w.heap.size w w1 := ((((Below.refl _ _).alloc (Nat.le_refl _) _).alloc (by simp) _).alloc (by simp; omega) _).trans (hw1.mono (by simp; omega))
  have hK1 := hK.kept hw1
  have hR1 := hR.kept hw1
  have k0 := hK1.cell 0
  have k1' := hK1.cell 1
  clear hw1 hK hB hR
  go_wp2_with fail
  refine (rkeys_any _ _ _).mono ?_
  rintro e w2 ⟨r, rfl, hown, hk2⟩
  have hs1 : w.heap.size ≤ w1.heap.size := by have := hK1.lt; omega
  have hb2 : Below w.heap.size w w2 := hb1.trans (hk2.mono hs1)
  have hR2 := hR1.kept hk2
  have hs2 : w.heap.size ≤ w2.heap.size := Nat.le_trans hs1 hk2.size
  obtain ⟨g, off, cap, rfl, hcap, hmax, hgl, hcell⟩ := (Sl.of_own hown).at (by rw [ucells_length, keysL_length]; omega)
  clear hk2 hown hs1 hb1 hK1 hR1 k0 k1'
  have hkey : ∀ n, n < 32 → w2.cell? ⟨g, off + n, none⟩ = some (U (kst (k1, k2) n).2) := fun n hn => hcell n _ (ucells_get _ _ _ (keysL_get _ _ _ hn))
  clear hcell
  go_wp2_with fail
  go_loopw [8, 5, 6] (fun i x y wr => ∃ n : Nat, n ≤ 32 ∧ i = .int .i64 n ∧ x = U (encTo (k1, k2) (b1, b2) n).1 ∧ y = U (encTo (k1, k2) (b1, b2) n).2 ∧ Kept w2 wr) (fun i _ _ _ => 32 - (intOf i).toNat)
  case atStart => exact ⟨0, by omega, rfl, rfl, rfl, Below.refl _ _⟩
  case round =>
    obtain ⟨n, hn, rfl, rfl, rfl, hkw⟩ := hrel
    by_cases hlt : n < 32
    · have hx := (hkw.cell (p := ⟨g, off + n, none⟩) hgl).trans (hkey n hlt)
      have hgw : g < wr.heap.size := Nat.lt_of_lt_of_le hgl hkw.size
      have i0 : (n : Int) < 32 := by omega
      clear hkey
      go_wp2_with fail
      refine wp_region_kept (by kernel_rfl) (by kernel_rfl) ?_
      repeat
        refine wpQuiet_step (fun K hK => ?_)
        refine (if_pos (by rfl)).mpr ?_
        first
          | (refine quiet_val_ex ?_; apply Exists.intro; refine ⟨fun w' hw' => ?_, hK _ ?_⟩; (have hx' := (hw'.cell (p := ⟨g, off + n, none⟩) hgw).trans hx; go_simp; done); (clear hK K; simp only [Act.put, List.setIfInBounds_toArray, List.set_cons_zero, List.set_cons_succ]))
          | (refine quiet_val_ex ?_; apply Exists.intro; refine ⟨fun w' hw' => ?_, hK _ ?_⟩; (have hx' := (hw'.cell (p := ⟨g, off + n, none⟩) hgw).trans hx; go_simp; rfl); (clear hK K; simp only [Act.put, List.setIfInBounds_toArray, List.set_cons_zero, List.set_cons_succ]))
          | (refine quiet_call_ex ?_; apply Exists.intro; apply Exists.intro; apply Exists.intro; refine ⟨fun w' hw' => ?_, fun w' hw' => ?_, hK _ ?_⟩; (go_simp; exact ⟨rfl, rfl⟩); (with_reducible first | exact Calls.kept hw' (same_kept (rright_8 _ _))); (clear hK K; simp only [Act.put, List.setIfInBounds_toArray, List.set_cons_zero, List.set_cons_succ]))
      refine wpQuiet_nil ?_
      intro w3 hw3
      go_wp2_with fail
      refine (rleft_3 _ _).mono ?_
      rintro e w4 ⟨rfl, rfl⟩
      go_wp2
      exact ⟨⟨n + 1, by omega, by go_num, rfl, rfl, hkw.of hw3⟩, by simp [intOf]; omega⟩
    · have : n = 32 := by omega
      subst this
      clear hlt hn hkey
      have hR3 := hR2.kept hkw
      have hb3 := hb2.trans (hkw.mono hs2)
      clear hR2 hb2
      have r0 := hR3.cell 0
      have r1 := hR3.cell 1
      have f0 := hR3.free 0
      have f1 := hR3.free 1
      go_wp2
      refine bodyPost_ret (v := Pr (enc2 (k1, k2) (b1, b2))) (by simp [results, Try.results28, go_sem, r0, r1]; try exact ⟨rfl, rfl⟩) rfl ⟨rfl, ?_⟩
      exact ((hb3.setCell (by simp; omega) _).setCell (by simp; omega) _)


end Go.Proofs.Ytlbogmpfjkendaa
