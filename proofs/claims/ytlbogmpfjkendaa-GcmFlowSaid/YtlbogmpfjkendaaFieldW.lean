/- What the functions of package field, and of its reference, compute: Add, double, Mul. -/
import Derived.Test.YtlbogmpfjkendaaProg
import Derived.Test.YtlbogmpfjkendaaRegion
import Derived.Test.YtlbogmpfjkendaaFieldD
import Derived.Outline
import Derived.Lib.Hide
namespace Go.Proofs.Ytlbogmpfjkendaa
open Go Go.RowKit


set_option maxHeartbeats 400000 in
theorem add_any (a1 a2 b1 b2 : BitVec 64) (w : World) :
    Calls Try.prog 26 #[.agg #[U a1, U a2], .agg #[U b1, U b2]] w fun e w' => e = .returned (Pr (add2 (a1, a2) (b1, b2))) ∧ Kept w w' := by
  go_enter Try.func26, Try.ntmps26
  go_wp2
  exact bodyPost_ret (v := Pr (add2 (a1, a2) (b1, b2))) (by simp [results, Try.results26, go_sem, add2]) rfl ⟨rfl, (((Below.refl _ _).alloc (Nat.le_refl _) _).alloc (by simp) _).alloc (by simp; omega) _⟩

set_option maxHeartbeats 400000 in
theorem radd_any (a1 a2 b1 b2 : BitVec 64) (w : World) :
    Calls Try.prog 30 #[.agg #[U a1, U a2], .agg #[U b1, U b2]] w fun e w' => e = .returned (Pr (add2 (a1, a2) (b1, b2))) ∧ Kept w w' := by
  go_enter Try.func30, Try.ntmps30
  go_wp2
  exact bodyPost_ret (v := Pr (add2 (a1, a2) (b1, b2))) (by simp [results, Try.results30, go_sem, add2]) rfl ⟨rfl, (((Below.refl _ _).alloc (Nat.le_refl _) _).alloc (by simp) _).alloc (by simp; omega) _⟩

set_option maxHeartbeats 400000 in
theorem double_any (a1 a2 : BitVec 64) (w : World) :
    Calls Try.prog 47 #[.agg #[U a1, U a2]] w fun e w' => e = .returned (Pr (dbl2 (a1, a2))) ∧ Kept w w' := by
  by_cases h : (a1 >>> 63 == 1#64) = true
  all_goals
    go_enter Try.func47, Try.ntmps47
    go_wp2
    exact bodyPost_ret (v := Pr (dbl2 (a1, a2))) (by simp [results, Try.results47, go_sem, dbl2, h]) rfl ⟨rfl, (((Below.refl _ _).alloc (Nat.le_refl _) _).alloc (by simp) _).alloc (by simp; omega) _⟩

set_option maxHeartbeats 400000 in
theorem rtwice_any (a1 a2 : BitVec 64) (w : World) :
    Calls Try.prog 49 #[.agg #[U a1, U a2]] w fun e w' => e = .returned (Pr (dbl2 (a1, a2))) ∧ Kept w w' := by
  by_cases h : (a1 >>> 63 == 1#64) = true
  all_goals
    go_enter Try.func49, Try.ntmps49
    go_wp2
    exact bodyPost_ret (v := Pr (dbl2 (a1, a2))) (by simp [results, Try.results49, go_sem, dbl2, h]) rfl ⟨rfl, (((Below.refl _ _).alloc (Nat.le_refl _) _).alloc (by simp) _).alloc (by simp; omega) _⟩

set_option maxRecDepth 100000 in
set_option maxHeartbeats 2000000 in
theorem mul_any (a1 a2 b1 b2 : BitVec 64) (w : World) :
    Calls Try.prog 37 #[.agg #[U a1, U a2], .agg #[U b1, U b2]] w fun e w' => e = .returned (Pr (mul2 (a1, a2) (b1, b2))) ∧ Kept w w' := by
  go_enter Try.func37, Try.ntmps37
  go_wp2_with fail
  go_loopw [7] (fun i wr => ∃ k : Nat, k ≤ 128 ∧ i = .int .i64 k ∧
      Blk wr (w.heap.size + 1 + 1 + 1) #[U (mulTo2 (a1, a2) (b1, b2) k).1, U (mulTo2 (a1, a2) (b1, b2) k).2] 24 ∧
      Below (w.heap.size + 1 + 1 + 1) ((((w.alloc (.cells #[U a1, U a2] 24)).alloc (.cells #[U b1, U b2] 24)).alloc (.cells #[U 0#64, U 0#64] 24)).alloc (.cells #[U 0#64, U 0#64] 24)) wr)
    (fun i _ => 128 - (intOf i).toNat)
  case atStart => exact ⟨0, by omega, rfl, by simpa [mulTo2] using Blk.new (((w.alloc (.cells #[U a1, U a2] 24)).alloc (.cells #[U b1, U b2] 24)).alloc (.cells #[U 0#64, U 0#64] 24)) #[U 0#64, U 0#64] 24, Below.refl _ _⟩
  case round =>
    obtain ⟨k, hk, rfl, ho, hb⟩ := hrel
    have hbA : Blk wr w.heap.size #[U a1, U a2] 24 := (((((Blk.new w _ _).alloc _).alloc _).alloc _)).below hb (by omega)
    have hbB : Blk wr (w.heap.size + 1) #[U b1, U b2] 24 := ((((by simpa using Blk.new (w.alloc (.cells #[U a1, U a2] 24)) #[U b1, U b2] 24 : Blk ((w.alloc (.cells #[U a1, U a2] 24)).alloc (.cells #[U b1, U b2] 24)) (w.heap.size + 1) #[U b1, U b2] 24).alloc _).alloc _)).below hb (by omega)
    have hbR : Blk wr (w.heap.size + 1 + 1) #[U 0#64, U 0#64] 24 := ((by simpa using Blk.new ((w.alloc (.cells #[U a1, U a2] 24)).alloc (.cells #[U b1, U b2] 24)) #[U 0#64, U 0#64] 24 : Blk (((w.alloc (.cells #[U a1, U a2] 24)).alloc (.cells #[U b1, U b2] 24)).alloc (.cells #[U 0#64, U 0#64] 24)) (w.heap.size + 1 + 1) #[U 0#64, U 0#64] 24).alloc _).below hb (by omega)
    by_cases hlt : k < 128
    · have o0 := ho.cell 0
      have o1 := ho.cell 1
      have f0 := ho.free 0
      have f1 := ho.free 1
      obtain ⟨q, hq, hr, hs, hs', hsel⟩ : ∃ q : Nat, (k : Int) / 64 = q ∧ (63 : Int) - (k : Int) % 64 = ((63 - k % 64 : Nat) : Int) ∧ q < 2 ∧ ((q : Int)).toNat = q ∧ (∀ w' : World, Blk w' (w.heap.size + 1) #[U b1, U b2] 24 → w'.cell? ⟨w.heap.size + 1, q, none⟩ = some (U (if k < 64 then b1 else b2))) := by
        refine ⟨k / 64, by omega, by omega, by omega, by omega, fun w' hw' => ?_⟩
        rw [hw'.cell]
        by_cases h64 : k < 64
        · rw [if_pos h64, show k / 64 = 0 by omega]; rfl
        · rw [if_neg h64, show k / 64 = 1 by omega]; rfl
      have hq2 : (q : Int) < 2 := by omega
      cases hbit : bit2 (b1, b2) k
      all_goals
        have hbit' : (((if k < 64 then b1 else b2) >>> (63 - k % 64)) &&& 1#64 == 1#64) = bit2 (b1, b2) k := by
          unfold bit2
          by_cases h64 : k < 64
          · rw [if_pos h64, if_pos h64, show k % 64 = k by omega]
          · rw [if_neg h64, if_neg h64, show 63 - k % 64 = 127 - k by omega]
        rw [hbit] at hbit'
        have HB := Lib.hid hbit
        clear hbit
        generalize (if k < 64 then b1 else b2) = sel at hbit' hsel
        go_wp2_with first | (go_at_call 26; refine (add_any _ _ _ _ _).mono ?_; rintro e w2 ⟨rfl, hb2⟩; have ho2 := ((ho1.set 0 _).set 1 _).kept hb2; clear o0 o1 f0 f1 p0 p1; have o0 := ho2.cell 0; have o1 := ho2.cell 1; have f0 := ho2.free 0; have f1 := ho2.free 1; have Hk2 := Lib.hid hb2; clear hb2) | (go_at_call 47; refine (double_any _ _ _).mono ?_; rintro e w1 ⟨rfl, hb1⟩; have ho1 := ho.kept hb1; have hA1 := hbA.kept hb1; have hB1 := hbB.kept hb1; have hcs := hsel _ hB1; clear o0 o1 f0 f1; have o0 := ho1.cell 0; have o1 := ho1.cell 1; have f0 := ho1.free 0; have f1 := ho1.free 1; have p0 := hA1.cell 0; have p1 := hA1.cell 1; have Hk := Lib.hid hb1; clear hb1)
      · exact ⟨⟨k + 1, by omega, by go_num, by rw [mulTo2_no HB.out]; exact (ho1.set 0 _).set 1 _, ((hb.trans (Hk.out.mono (Nat.le_of_lt ho.lt))).setCell (Nat.le_refl _) _).setCell (Nat.le_refl _) _⟩, by simp [intOf]; omega⟩
      · exact ⟨⟨k + 1, by omega, by go_num, by rw [mulTo2_yes HB.out]; exact (ho2.set 0 _).set 1 _, ((((((hb.trans (Hk.out.mono (Nat.le_of_lt ho.lt))).setCell (Nat.le_refl _) _).setCell (Nat.le_refl _) _)).trans (Hk2.out.mono (Nat.le_of_lt ((ho1.set 0 _).set 1 _).lt))).setCell (Nat.le_refl _) _).setCell (Nat.le_refl _) _⟩, by simp [intOf]; omega⟩
    · have : k = 128 := by omega
      subst this
      have o0 := ho.cell 0
      have o1 := ho.cell 1
      have r0 := hbR.cell 0
      have r1 := hbR.cell 1
      have f0 := hbR.free 0
      have f1 := hbR.free 1
      go_wp2
      refine bodyPost_ret (v := Pr (mul2 (a1, a2) (b1, b2))) (by simp [results, Try.results37, go_sem, mul2, r0, r1]) rfl ⟨rfl, ?_⟩
      exact ((((((((Below.refl _ _).alloc (Nat.le_refl _) _).alloc (by simp) _).alloc (by simp; omega) _).alloc (by simp; omega) _).trans (hb.mono (by omega))).setCell (by simp; omega) _).setCell (by simp; omega) _)

set_option maxRecDepth 100000 in
set_option maxHeartbeats 2000000 in
theorem rmul_any (a1 a2 b1 b2 : BitVec 64) (w : World) :
    Calls Try.prog 42 #[.agg #[U a1, U a2], .agg #[U b1, U b2]] w fun e w' => e = .returned (Pr (mul2 (a1, a2) (b1, b2))) ∧ Kept w w' := by
  go_enter Try.func42, Try.ntmps42
  go_wp2_with fail
  go_loopw [6] (fun i wr => ∃ k : Nat, k ≤ 128 ∧ i = .int .i64 (127 - (k : Int)) ∧
      Blk wr (w.heap.size + 1 + 1 + 1) #[U (mulTo2 (a1, a2) (b1, b2) k).1, U (mulTo2 (a1, a2) (b1, b2) k).2] 24 ∧
      Below (w.heap.size + 1 + 1 + 1) ((((w.alloc (.cells #[U a1, U a2] 24)).alloc (.cells #[U b1, U b2] 24)).alloc (.cells #[U 0#64, U 0#64] 24)).alloc (.cells #[U 0#64, U 0#64] 24)) wr)
    (fun i _ => (intOf i + 1).toNat)
  case atStart => exact ⟨0, by omega, rfl, by simpa [mulTo2] using Blk.new (((w.alloc (.cells #[U a1, U a2] 24)).alloc (.cells #[U b1, U b2] 24)).alloc (.cells #[U 0#64, U 0#64] 24)) #[U 0#64, U 0#64] 24, Below.refl _ _⟩
  case round =>
    obtain ⟨k, hk, rfl, ho, hb⟩ := hrel
    have hbA : Blk wr w.heap.size #[U a1, U a2] 24 := (((((Blk.new w _ _).alloc _).alloc _).alloc _)).below hb (by omega)
    have hbB : Blk wr (w.heap.size + 1) #[U b1, U b2] 24 := ((((by simpa using Blk.new (w.alloc (.cells #[U a1, U a2] 24)) #[U b1, U b2] 24 : Blk ((w.alloc (.cells #[U a1, U a2] 24)).alloc (.cells #[U b1, U b2] 24)) (w.heap.size + 1) #[U b1, U b2] 24).alloc _).alloc _)).below hb (by omega)
    have hbR : Blk wr (w.heap.size + 1 + 1) #[U 0#64, U 0#64] 24 := ((by simpa using Blk.new ((w.alloc (.cells #[U a1, U a2] 24)).alloc (.cells #[U b1, U b2] 24)) #[U 0#64, U 0#64] 24 : Blk (((w.alloc (.cells #[U a1, U a2] 24)).alloc (.cells #[U b1, U b2] 24)).alloc (.cells #[U 0#64, U 0#64] 24)) (w.heap.size + 1 + 1) #[U 0#64, U 0#64] 24).alloc _).below hb (by omega)
    by_cases hlt : k < 128
    · have o0 := ho.cell 0
      have o1 := ho.cell 1
      have f0 := ho.free 0
      have f1 := ho.free 1
      obtain ⟨m, hm, hm1, hm2⟩ : ∃ m : Nat, (127 - (k : Int)) % 64 = m ∧ m < 64 ∧ 63 - k % 64 = m := ⟨63 - k % 64, by omega, by omega, rfl⟩
      have hm3 : (BitVec.ofInt 64 (m : Int)).toNat = m := by simp; omega
      have hI : (k : Int) ≤ 127 := by omega
      cases hbit : bit2 (b1, b2) k
      all_goals
        have hbit' : (((if k < 64 then b1 else b2) >>> m) &&& 1#64 == 1#64) = bit2 (b1, b2) k := by
          rw [← hm2]
          unfold bit2
          by_cases h64 : k < 64
          · rw [if_pos h64, if_pos h64, show k % 64 = k by omega]
          · rw [if_neg h64, if_neg h64, show 63 - k % 64 = 127 - k by omega]
        rw [hbit] at hbit'
        have HB := Lib.hid hbit
        clear hbit hm2
        by_cases h64 : k < 64
        all_goals
          first | rw [if_pos h64] at hbit' | rw [if_neg h64] at hbit'
          first | (have h63 : (64 : Int) ≤ 127 - (k : Int) := by omega) | (have h63 : 127 - (k : Int) < 64 := by omega)
          go_wp2_with first | (go_at_call 30; refine (radd_any _ _ _ _ _).mono ?_; rintro e w2 ⟨rfl, hb2⟩; have ho2 := ((ho1.set 0 _).set 1 _).kept hb2; clear o0 o1 f0 f1 p0 p1; have o0 := ho2.cell 0; have o1 := ho2.cell 1; have f0 := ho2.free 0; have f1 := ho2.free 1; have Hk2 := Lib.hid hb2; clear hb2) | (go_at_call 49; refine (rtwice_any _ _ _).mono ?_; rintro e w1 ⟨rfl, hb1⟩; have ho1 := ho.kept hb1; have hA1 := hbA.kept hb1; have hB1 := hbB.kept hb1; have q0 := hB1.cell 0; have q1 := hB1.cell 1; clear o0 o1 f0 f1; have o0 := ho1.cell 0; have o1 := ho1.cell 1; have f0 := ho1.free 0; have f1 := ho1.free 1; have p0 := hA1.cell 0; have p1 := hA1.cell 1; have Hk := Lib.hid hb1; clear hb1)
          first
            | exact ⟨⟨k + 1, by omega, by go_num, by rw [mulTo2_no HB.out]; exact (ho1.set 0 _).set 1 _, ((hb.trans (Hk.out.mono (Nat.le_of_lt ho.lt))).setCell (Nat.le_refl _) _).setCell (Nat.le_refl _) _⟩, by simp [intOf]; omega⟩
            | exact ⟨⟨k + 1, by omega, by go_num, by rw [mulTo2_yes HB.out]; exact (ho2.set 0 _).set 1 _, ((((((hb.trans (Hk.out.mono (Nat.le_of_lt ho.lt))).setCell (Nat.le_refl _) _).setCell (Nat.le_refl _) _)).trans (Hk2.out.mono (Nat.le_of_lt ((ho1.set 0 _).set 1 _).lt))).setCell (Nat.le_refl _) _).setCell (Nat.le_refl _) _⟩, by simp [intOf]; omega⟩
    · have : k = 128 := by omega
      subst this
      have o0 := ho.cell 0
      have o1 := ho.cell 1
      have r0 := hbR.cell 0
      have r1 := hbR.cell 1
      have f0 := hbR.free 0
      have f1 := hbR.free 1
      go_wp2
      refine bodyPost_ret (v := Pr (mul2 (a1, a2) (b1, b2))) (by simp [results, Try.results42, go_sem, mul2, r0, r1]) rfl ⟨rfl, ?_⟩
      exact ((((((((Below.refl _ _).alloc (Nat.le_refl _) _).alloc (by simp) _).alloc (by simp; omega) _).alloc (by simp; omega) _).trans (hb.mono (by omega))).setCell (by simp; omega) _).setCell (by simp; omega) _)

end Go.Proofs.Ytlbogmpfjkendaa
