/- What the reference of leaf.Put answers for a leaf that a slot may have. -/
import Derived.Test.YtkbihhdgipckgaaLeafW
namespace Go.Proofs.Ytkbihhdgipckgaa
open Go Go.RowKit

def kb (k : Int) : UInt8 := UInt8.ofNat (k % 256).toNat
theorem kind_cases {l : Lf} {s : Int} (h : isLeaf l s = true) : l.kind = 0 ∨ l.kind = 1 ∨ l.kind = 2 := by
  rcases isLeaf_cases h with e | ⟨e, _⟩ | ⟨e, _⟩
  · exact .inl (by rw [e]; rfl)
  · exact .inr (.inr (by rw [e]))
  · exact .inr (.inl e)
set_option maxRecDepth 100000 in
set_option maxHeartbeats 4000000 in
theorem rput_leaf_false (k : Int) (z : Int) (e q : BitVec 32) (v t1 t2 : BitVec 64) (s : Int) (lo : -9223372036854775808 ≤ s) (hi : s ≤ 9223372036854775807) (h : isLeaf (⟨k, false, z, e, q, v, (t1, t2)⟩ : Lf) s = true) (w : World) : Calls Try.prog 10 #[.agg #[.int .i64 k, .bool false, .int .i64 z, W e, W q, U v, U t1, U t2], .int .i64 s] w fun e' w' => ∃ x, e' = .returned (.tuple #[x, .bool true]) ∧ w'.ownsRow w.heap.size 5 1 x 32 (bcells (leafB (⟨k, false, z, e, q, v, (t1, t2)⟩ : Lf))) ∧ Kept w w' := by
  have hk0 : Kept w (w.alloc (.cells #[.int .i64 k, .bool false, .int .i64 z, W e, W q, U v, U t1, U t2] 29)) := (Below.refl _ _).alloc (Nat.le_refl _) _
  have hR : Blk (w.alloc (.cells #[.int .i64 k, .bool false, .int .i64 z, W e, W q, U v, U t1, U t2] 29)) w.heap.size #[.int .i64 k, .bool false, .int .i64 z, W e, W q, U v, U t1, U t2] 29 := Blk.new _ _ _
  have hkk := kind_cases h
  simp only [] at hkk
  have hpk : putB (BitVec.ofInt 64 k) 1 = [kb k] := by rcases hkk with e | e | e <;> (subst e; decide)
  clear hkk
  have hu : ∀ (n : Int) (wx : World), (convert 3 23 (.int .i64 n)).run Try.prog wx = .ok (U (BitVec.ofInt 64 n)) wx := fun n wx => by
    rw [conv_int wx 3 23 _ .u64 _ (by kernel_rfl) Try.underlying23, U_ofInt]
  have hv : ∀ (wx : World), (convert 3 5 (.int .i64 k)).run Try.prog wx = .ok (V8 (kb k)) wx := fun wx => by
    rw [conv_int wx 3 5 _ .u8 _ (by kernel_rfl) Try.underlying5, V8_ofInt]; rfl
  have q0 := hR.cell 0
  have q1 := hR.cell 1
  have q2 := hR.cell 2
  have q3 := hR.cell 3
  have q4 := hR.cell 4
  have q5 := hR.cell 5
  have q6 := hR.cell 6
  have q7 := hR.cell 7
  go_enter Try.func10, Try.ntmps10
  go_wp2_with fail
  refine (ris_any _ _ _ _ _ _ _ _ _ lo hi _).mono ?_
  rintro e' w0 ⟨rfl, hk1⟩
  rw [h]
  replace hk0 := hk0.of hk1
  replace hR := hR.kept hk1
  have z0 : w.heap.size + 1 ≤ w0.heap.size := by have := hk1.size; simpa using this
  clear h hk1 q0 q1 q2 q3 q4 q5 q6 q7
  have q0 := hR.cell 0
  have q1 := (hR.alloc (.cells #[V8 (kb k), V8 0] 5)).cell 1
  have p2 := (hR.alloc (.cells #[V8 (kb k), V8 0] 5)).cell 2
  have o2 := ((hR.alloc (.cells #[V8 (kb k), V8 0] 5)).other (a := ⟨w0.heap.size, 1, none⟩) (by simp; omega) (V8 1)).cell 2
  have q2 := ((hR.alloc (.cells #[V8 (kb k), V8 0] 5))).cell 2
  go_wp2_with fail
  have hB0 : Blk (w0.alloc (.cells #[V8 (kb k), V8 0] 5)) w0.heap.size #[V8 (kb k), V8 0] 5 := Blk.new _ _ _
  have hB : Blk (w0.alloc (.cells #[V8 (kb k), V8 0] 5)) w0.heap.size (bcells [kb k, 0]).toArray 5 := hB0
  have hb1 : Below (w.heap.size + 1) w0 (w0.alloc (.cells #[V8 (kb k), V8 0] 5)) := ((Below.refl _ _).alloc z0 _)
  have hR1 := hR.below hb1 (by omega)
  obtain ⟨W1, hW1⟩ : ∃ W1, W1 = (w0.alloc (.cells #[V8 (kb k), V8 0] 5)) := ⟨_, rfl⟩
  have z1 : w0.heap.size + 1 = W1.heap.size := by rw [hW1]; simp
  rw [← hW1] at hB hb1 hR1 ⊢
  have o1 := own_made 2 (by decide) 5 [kb k, 0] rfl hB z0
  clear hB hB0 q0 q1 q2 p2 o2 hW1 hR
  refine (rput_some _ 2 (by omega) (by omega) _).mono ?_
  rintro e' w2 ⟨x2, rfl, hown2, hk2⟩
  have s2 := Sl.of_own hown2
  have z2 := hk2.size
  have hR2 := hR1.kept hk2
  have o2 := own_kept o1 hk2
  have hb2 := hb1.trans (hk2.mono (by omega))
  clear hown2 o1 hb1 hR1 hk2
  go_wp2_with (at_builtin; refine wpList_append sl_bytes rfl (by rfl) (by rfl) (by rfl) o2 s2 (by simp [bcells, putB_length, pairB_length]) (oneCell_V8 _) (by decide) (by omega) (by omega) ?_; intro v3 w3 hown3 hg3 hat3; have hb3 := below_append hb2 o2 hg3 (by omega); have z3 := hg3.size; have hR3 := hR2.below (below_append (Below.refl _ _) o2 hg3 (by omega)) (by omega); rw [← bcells_append] at hown3; clear hg3 hat3 hR2 hb2 o2 s2; have g3 := hR3.cell 3; have g4 := hR3.cell 4)
  refine (rput_some _ 4 (by omega) (by omega) _).mono ?_
  rintro e' w4 ⟨x4, rfl, hown4, hk4⟩
  have s4 := Sl.of_own hown4
  have z4 := hk4.size
  have hR4 := hR3.kept hk4
  have o4 := own_kept hown3 hk4
  have hb4 := hb3.trans (hk4.mono (by omega))
  clear hown4 hown3 hb3 hR3 hk4
  go_wp2_with (at_builtin; refine wpList_append sl_bytes rfl (by rfl) (by rfl) (by rfl) o4 s4 (by simp [bcells, putB_length, pairB_length]) (oneCell_V8 _) (by decide) (by omega) (by omega) ?_; intro v5 w5 hown5 hg5 hat5; have hb5 := below_append hb4 o4 hg5 (by omega); have z5 := hg5.size; have hR5 := hR4.below (below_append (Below.refl _ _) o4 hg5 (by omega)) (by omega); rw [← bcells_append] at hown5; clear hg5 hat5 hR4 hb4 o4 s4; have g5 := hR5.cell 5)
  refine (rput_some _ 8 (by omega) (by omega) _).mono ?_
  rintro e' w6 ⟨x6, rfl, hown6, hk6⟩
  have s6 := Sl.of_own hown6
  have z6 := hk6.size
  have hR6 := hR5.kept hk6
  have o6 := own_kept hown5 hk6
  have hb6 := hb5.trans (hk6.mono (by omega))
  clear hown6 hown5 hb5 hR5 hk6
  go_wp2_with (at_builtin; refine wpList_append sl_bytes rfl (by rfl) (by rfl) (by rfl) o6 s6 (by simp [bcells, putB_length, pairB_length]) (oneCell_V8 _) (by decide) (by omega) (by omega) ?_; intro v7 w7 hown7 hg7 hat7; have hb7 := below_append hb6 o6 hg7 (by omega); have z7 := hg7.size; have hR7 := hR6.below (below_append (Below.refl _ _) o6 hg7 (by omega)) (by omega); rw [← bcells_append] at hown7; clear hg7 hat7 hR6 hb6 o6 s6; have g6 := hR7.cell 6; have g7 := hR7.cell 7)
  refine (rbytes_any _ _ _).mono ?_
  rintro e' w8 ⟨x8, rfl, hown8, hk8⟩
  have s8 := Sl.of_own hown8
  have z8 := hk8.size
  have hR8 := hR7.kept hk8
  have o8 := own_kept hown7 hk8
  have hb8 := hb7.trans (hk8.mono (by omega))
  clear hown8 hown7 hb7 hR7 hk8
  go_wp2_with (at_builtin; refine wpList_append sl_bytes rfl (by rfl) (by rfl) (by rfl) o8 s8 (by simp [bcells, putB_length, pairB_length]) (oneCell_V8 _) (by decide) (by omega) (by omega) ?_; intro v9 w9 hown9 hg9 hat9; have hb9 := below_append hb8 o8 hg9 (by omega); have z9 := hg9.size; have hR9 := hR8.below (below_append (Below.refl _ _) o8 hg9 (by omega)) (by omega); rw [← bcells_append] at hown9; clear hg9 hat9 hR8 hb8 o8 s8)
  go_ret2
  have hfl : ((([kb k, 0] ++ putB (BitVec.ofInt 64 z) 2) ++ putB (e.setWidth 64) 4) ++ putB v 8) ++ pairB (t1, t2) = leafB ⟨k, false, z, e, q, v, (t1, t2)⟩ := by
    unfold leafB
    simp only [hpk, show putB (dirtyU false) 1 = [0] by decide]
    simp
  rw [hfl] at hown9
  exact ⟨v9, rfl, own_base hown9 (by omega), hk0.trans (hb9.mono (by omega))⟩

set_option maxRecDepth 100000 in
set_option maxHeartbeats 4000000 in
theorem rput_leaf_true (k : Int) (z : Int) (e q : BitVec 32) (v t1 t2 : BitVec 64) (s : Int) (lo : -9223372036854775808 ≤ s) (hi : s ≤ 9223372036854775807) (h : isLeaf (⟨k, true, z, e, q, v, (t1, t2)⟩ : Lf) s = true) (w : World) : Calls Try.prog 10 #[.agg #[.int .i64 k, .bool true, .int .i64 z, W e, W q, U v, U t1, U t2], .int .i64 s] w fun e' w' => ∃ x, e' = .returned (.tuple #[x, .bool true]) ∧ w'.ownsRow w.heap.size 5 1 x 32 (bcells (leafB (⟨k, true, z, e, q, v, (t1, t2)⟩ : Lf))) ∧ Kept w w' := by
  have hk0 : Kept w (w.alloc (.cells #[.int .i64 k, .bool true, .int .i64 z, W e, W q, U v, U t1, U t2] 29)) := (Below.refl _ _).alloc (Nat.le_refl _) _
  have hR : Blk (w.alloc (.cells #[.int .i64 k, .bool true, .int .i64 z, W e, W q, U v, U t1, U t2] 29)) w.heap.size #[.int .i64 k, .bool true, .int .i64 z, W e, W q, U v, U t1, U t2] 29 := Blk.new _ _ _
  have hkk := kind_cases h
  simp only [] at hkk
  have hpk : putB (BitVec.ofInt 64 k) 1 = [kb k] := by rcases hkk with e | e | e <;> (subst e; decide)
  clear hkk
  have hu : ∀ (n : Int) (wx : World), (convert 3 23 (.int .i64 n)).run Try.prog wx = .ok (U (BitVec.ofInt 64 n)) wx := fun n wx => by
    rw [conv_int wx 3 23 _ .u64 _ (by kernel_rfl) Try.underlying23, U_ofInt]
  have hv : ∀ (wx : World), (convert 3 5 (.int .i64 k)).run Try.prog wx = .ok (V8 (kb k)) wx := fun wx => by
    rw [conv_int wx 3 5 _ .u8 _ (by kernel_rfl) Try.underlying5, V8_ofInt]; rfl
  have q0 := hR.cell 0
  have q1 := hR.cell 1
  have q2 := hR.cell 2
  have q3 := hR.cell 3
  have q4 := hR.cell 4
  have q5 := hR.cell 5
  have q6 := hR.cell 6
  have q7 := hR.cell 7
  go_enter Try.func10, Try.ntmps10
  go_wp2_with fail
  refine (ris_any _ _ _ _ _ _ _ _ _ lo hi _).mono ?_
  rintro e' w0 ⟨rfl, hk1⟩
  rw [h]
  replace hk0 := hk0.of hk1
  replace hR := hR.kept hk1
  have z0 : w.heap.size + 1 ≤ w0.heap.size := by have := hk1.size; simpa using this
  clear h hk1 q0 q1 q2 q3 q4 q5 q6 q7
  have q0 := hR.cell 0
  have q1 := (hR.alloc (.cells #[V8 (kb k), V8 0] 5)).cell 1
  have p2 := (hR.alloc (.cells #[V8 (kb k), V8 0] 5)).cell 2
  have o2 := ((hR.alloc (.cells #[V8 (kb k), V8 0] 5)).other (a := ⟨w0.heap.size, 1, none⟩) (by simp; omega) (V8 1)).cell 2
  have q2 := ((hR.alloc (.cells #[V8 (kb k), V8 1] 5))).cell 2
  go_wp2_with fail
  have hB0 : Blk (w0.alloc (.cells #[V8 (kb k), V8 1] 5)) w0.heap.size #[V8 (kb k), V8 1] 5 := Blk.new _ _ _
  have hB : Blk (w0.alloc (.cells #[V8 (kb k), V8 1] 5)) w0.heap.size (bcells [kb k, 1]).toArray 5 := hB0
  have hb1 : Below (w.heap.size + 1) w0 (w0.alloc (.cells #[V8 (kb k), V8 1] 5)) := ((Below.refl _ _).alloc z0 _)
  have hR1 := hR.below hb1 (by omega)
  obtain ⟨W1, hW1⟩ : ∃ W1, W1 = (w0.alloc (.cells #[V8 (kb k), V8 1] 5)) := ⟨_, rfl⟩
  have z1 : w0.heap.size + 1 = W1.heap.size := by rw [hW1]; simp
  rw [← hW1] at hB hb1 hR1 ⊢
  have o1 := own_made 2 (by decide) 5 [kb k, 1] rfl hB z0
  clear hB hB0 q0 q1 q2 p2 o2 hW1 hR
  refine (rput_some _ 2 (by omega) (by omega) _).mono ?_
  rintro e' w2 ⟨x2, rfl, hown2, hk2⟩
  have s2 := Sl.of_own hown2
  have z2 := hk2.size
  have hR2 := hR1.kept hk2
  have o2 := own_kept o1 hk2
  have hb2 := hb1.trans (hk2.mono (by omega))
  clear hown2 o1 hb1 hR1 hk2
  go_wp2_with (at_builtin; refine wpList_append sl_bytes rfl (by rfl) (by rfl) (by rfl) o2 s2 (by simp [bcells, putB_length, pairB_length]) (oneCell_V8 _) (by decide) (by omega) (by omega) ?_; intro v3 w3 hown3 hg3 hat3; have hb3 := below_append hb2 o2 hg3 (by omega); have z3 := hg3.size; have hR3 := hR2.below (below_append (Below.refl _ _) o2 hg3 (by omega)) (by omega); rw [← bcells_append] at hown3; clear hg3 hat3 hR2 hb2 o2 s2; have g3 := hR3.cell 3; have g4 := hR3.cell 4)
  refine (rput_some _ 4 (by omega) (by omega) _).mono ?_
  rintro e' w4 ⟨x4, rfl, hown4, hk4⟩
  have s4 := Sl.of_own hown4
  have z4 := hk4.size
  have hR4 := hR3.kept hk4
  have o4 := own_kept hown3 hk4
  have hb4 := hb3.trans (hk4.mono (by omega))
  clear hown4 hown3 hb3 hR3 hk4
  go_wp2_with (at_builtin; refine wpList_append sl_bytes rfl (by rfl) (by rfl) (by rfl) o4 s4 (by simp [bcells, putB_length, pairB_length]) (oneCell_V8 _) (by decide) (by omega) (by omega) ?_; intro v5 w5 hown5 hg5 hat5; have hb5 := below_append hb4 o4 hg5 (by omega); have z5 := hg5.size; have hR5 := hR4.below (below_append (Below.refl _ _) o4 hg5 (by omega)) (by omega); rw [← bcells_append] at hown5; clear hg5 hat5 hR4 hb4 o4 s4; have g5 := hR5.cell 5)
  refine (rput_some _ 8 (by omega) (by omega) _).mono ?_
  rintro e' w6 ⟨x6, rfl, hown6, hk6⟩
  have s6 := Sl.of_own hown6
  have z6 := hk6.size
  have hR6 := hR5.kept hk6
  have o6 := own_kept hown5 hk6
  have hb6 := hb5.trans (hk6.mono (by omega))
  clear hown6 hown5 hb5 hR5 hk6
  go_wp2_with (at_builtin; refine wpList_append sl_bytes rfl (by rfl) (by rfl) (by rfl) o6 s6 (by simp [bcells, putB_length, pairB_length]) (oneCell_V8 _) (by decide) (by omega) (by omega) ?_; intro v7 w7 hown7 hg7 hat7; have hb7 := below_append hb6 o6 hg7 (by omega); have z7 := hg7.size; have hR7 := hR6.below (below_append (Below.refl _ _) o6 hg7 (by omega)) (by omega); rw [← bcells_append] at hown7; clear hg7 hat7 hR6 hb6 o6 s6; have g6 := hR7.cell 6; have g7 := hR7.cell 7)
  refine (rbytes_any _ _ _).mono ?_
  rintro e' w8 ⟨x8, rfl, hown8, hk8⟩
  have s8 := Sl.of_own hown8
  have z8 := hk8.size
  have hR8 := hR7.kept hk8
  have o8 := own_kept hown7 hk8
  have hb8 := hb7.trans (hk8.mono (by omega))
  clear hown8 hown7 hb7 hR7 hk8
  go_wp2_with (at_builtin; refine wpList_append sl_bytes rfl (by rfl) (by rfl) (by rfl) o8 s8 (by simp [bcells, putB_length, pairB_length]) (oneCell_V8 _) (by decide) (by omega) (by omega) ?_; intro v9 w9 hown9 hg9 hat9; have hb9 := below_append hb8 o8 hg9 (by omega); have z9 := hg9.size; have hR9 := hR8.below (below_append (Below.refl _ _) o8 hg9 (by omega)) (by omega); rw [← bcells_append] at hown9; clear hg9 hat9 hR8 hb8 o8 s8)
  go_ret2
  have hfl : ((([kb k, 1] ++ putB (BitVec.ofInt 64 z) 2) ++ putB (e.setWidth 64) 4) ++ putB v 8) ++ pairB (t1, t2) = leafB ⟨k, true, z, e, q, v, (t1, t2)⟩ := by
    unfold leafB
    simp only [hpk, show putB (dirtyU true) 1 = [1] by decide]
    simp
  rw [hfl] at hown9
  exact ⟨v9, rfl, own_base hown9 (by omega), hk0.trans (hb9.mono (by omega))⟩


end Go.Proofs.Ytkbihhdgipckgaa
