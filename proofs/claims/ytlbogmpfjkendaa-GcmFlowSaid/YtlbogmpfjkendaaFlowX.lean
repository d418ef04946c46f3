/- What flow.Xor, and its reference, compute. -/
import Derived.Test.YtlbogmpfjkendaaFlowK
import Derived.Test.YtlbogmpfjkendaaStr
namespace Go.Proofs.Ytlbogmpfjkendaa
open Go Go.RowKit

theorem xorB_length (a b : List UInt8) : (xorB a b).length = min a.length b.length := by simp [xorB]
theorem xorB_get (a b : List UInt8) (k : Nat) (ha : k < a.length) (hb : k < b.length) (h : k < (xorB a b).length) : (xorB a b)[k] = a[k] ^^^ b[k] := by simp [xorB]

set_option maxRecDepth 100000 in
set_option maxHeartbeats 2000000 in
theorem xor_any (va vb : Value) (a b : List UInt8) (ha : a.length ≤ 4000) (hb : b.length ≤ 4000) (w : World) (sa : Sl w va a.length (bcells a)) (sb : Sl w vb b.length (bcells b)) :
    Calls Try.prog 22 #[va, vb] w fun e w' => ∃ r, e = .returned r ∧ w'.ownsRow w.heap.size 5 1 r (xorB a b).length (bcells (xorB a b)) ∧ Kept w w' := by
  obtain ⟨pa, ca, hva⟩ := sa.len
  obtain ⟨pb, cb, hvb⟩ := sb.len
  obtain ⟨n, hn⟩ : ∃ n, n = (xorB a b).length := ⟨_, rfl⟩
  have hna : n ≤ a.length := by rw [hn, xorB_length]; omega
  have hnb : n ≤ b.length := by rw [hn, xorB_length]; omega
  have hmk := fun wx => run_make_b (P := Try.prog) wx sl_bytes .i64 .i64 n (by omega)
  have hmin : (if b.length < a.length then (b.length : Int) else (a.length : Int)) = (n : Int) := by rw [hn, xorB_length]; split <;> omega
  subst hva hvb
  rw [← hn]
  have HN := Lib.hid hn
  have HA := Lib.hid hna
  have HB := Lib.hid hnb
  have n0 : (n : Int) ≤ 4000 := by omega
  clear hn hna hnb
  go_enter Try.func22, Try.ntmps22
  go_wp2_with fail
  clear hmk hmin
  go_loopw [15, 6] (fun i _ wr => ∃ k : Nat, k ≤ n ∧ i = .int .i64 k ∧ Blk wr w.heap.size (bcells (fill (xorB a b) 0 k)).toArray 5 ∧ Below w.heap.size w wr)
    (fun i _ _ => n - (intOf i).toNat)
  case atStart => exact ⟨0, by omega, rfl, by rw [fill_zero, ← HN.out]; exact Blk.new _ _ _, (Below.refl _ _).alloc (Nat.le_refl _) _⟩
  case round =>
    obtain ⟨k, hk, rfl, ho, hb⟩ := hrel
    by_cases hlt : k < n
    · have hkL : k < (xorB a b).length := by rw [← HN.out]; exact hlt
      have hka : k < a.length := by have := HA.out; omega
      have hkb : k < b.length := by have := HB.out; omega
      have hset := fill_set (xorB a b) 0 k hkL
      rw [xorB_get a b k hka hkb] at hset
      have c := ho.cell k
      rw [show (bcells (fill (xorB a b) 0 k)).toArray[k]? = some (V8 0) by simp [bcells, fill_get _ _ _ hkL]] at c
      have f := ho.free k
      obtain ⟨ba, oa, capa, ea, _, _, la, xa⟩ := (sa.kept hb).byte (by omega)
      obtain ⟨bb, ob, capb, eb, _, _, lb, xb⟩ := (sb.kept hb).byte (by omega)
      cases ea
      cases eb
      have ca := xa k hka
      have cb := xb k hkb
      have i2 : (k : Int) < (n : Int) := by omega
      have i3 : (0 : Int) ≤ (k : Int) := by omega
      have i4 : (k : Int) < (a.length : Int) := by omega
      have i5 : (k : Int) < (b.length : Int) := by omega
      have HS := Lib.hid hset
      have XA := Lib.hid xa
      have XB := Lib.hid xb
      clear hset xa xb
      go_wp2
      refine wp_region_chainK [(0, 0), (1, 0), (2, 0), (3, 0), (4, 0), (5, 0), (6, 0), (7, 0), (8, 0), (9, 0), (10, 0), (11, 0), (12, 2)] (by kernel_rfl) (by kernel_rfl) ?_
      intro w1 hw1
      repeat
        refine chain_light _ rfl (fun K hK => ?_)
        first
          | (refine (if_pos (by rfl)).mpr ?_; apply Exists.intro; refine ⟨fun w' hw' => ?_, hK _ ?_⟩; (have ca1 := hw'.at (hw1.at ca); have cb1 := hw'.at (hw1.at cb); go_simp; done); (clear hK K; simp only [Act.put, List.setIfInBounds_toArray, List.set_cons_zero, List.set_cons_succ]))
          | (refine (if_pos (by rfl)).mpr ?_; apply Exists.intro; refine ⟨fun w' hw' => ?_, hK _ ?_⟩; (have ca1 := hw'.at (hw1.at ca); have cb1 := hw'.at (hw1.at cb); go_simp; rfl); (clear hK K; simp only [Act.put, List.setIfInBounds_toArray, List.set_cons_zero, List.set_cons_succ]))
          | (refine (if_neg (by rw [Bool.not_eq_true]; rfl)).mpr ?_; refine hK _ ?_; (clear hK K; simp only [Act.put, List.setIfInBounds_toArray, List.set_cons_zero, List.set_cons_succ]))
      refine chain_last _ rfl (fun K hK => ?_)
      refine (if_pos (by rfl)).mpr ?_
      have c1 := hw1.at c
      have f1 := (ho.kept hw1).free k
      go_wp2
      refine chain_nil ?_
      go_wp2
      refine ⟨⟨k + 1, by omega, by go_num, ?_, (Kept.of hb hw1).setCell (Nat.le_refl _) _⟩, by simp [intOf]; omega⟩
      have := (ho.kept hw1).set k (V8 (a[k] ^^^ b[k]))
      rw [bcells_set, HS.out] at this
      exact this
    · have : k = n := by omega
      subst this
      have hf : fill (xorB a b) 0 k = xorB a b := by have := fill_all (xorB a b) 0; rwa [← HN.out] at this
      rw [hf] at ho
      clear hf
      go_wp2
      go_ret
      exact ⟨_, rfl, own_made k (by unfold maxLen; omega) 5 _ HN.out.symm ho (Nat.le_refl _), hb⟩

set_option maxRecDepth 100000 in
set_option maxHeartbeats 2000000 in
theorem rxor_any (va vb : Value) (a b : List UInt8) (ha : a.length ≤ 4000) (hb : b.length ≤ 4000) (w : World) (sa : Sl w va a.length (bcells a)) (sb : Sl w vb b.length (bcells b)) :
    Calls Try.prog 17 #[va, vb] w fun e w' => ∃ r, e = .returned r ∧ w'.ownsRow w.heap.size 5 1 r (xorB a b).length (bcells (xorB a b)) ∧ Kept w w' := by
  obtain ⟨pa, ca, hva⟩ := sa.len
  obtain ⟨pb, cb, hvb⟩ := sb.len
  obtain ⟨n, hn⟩ : ∃ n, n = (xorB a b).length := ⟨_, rfl⟩
  have hna : n ≤ a.length := by rw [hn, xorB_length]; omega
  have hnb : n ≤ b.length := by rw [hn, xorB_length]; omega
  have hmin : a.length ≤ n ∨ b.length ≤ n := by rw [hn, xorB_length]; omega
  subst hva hvb
  rw [← hn]
  have HN := Lib.hid hn
  have HA := Lib.hid hna
  have HB := Lib.hid hnb
  have HM := Lib.hid hmin
  have n0 : (n : Int) ≤ 4000 := by omega
  have l0 : (a.length : Int) ≤ 4000 := by omega
  have l1 : (b.length : Int) ≤ 4000 := by omega
  clear hn hna hnb hmin
  go_enter Try.func17, Try.ntmps17
  go_wp2_with fail
  go_loopw [5, 6] (fun r i wr => ∃ k : Nat, k ≤ n ∧ i = .int .i64 k ∧ wr.ownsRow w.heap.size 5 1 r k (bcells ((xorB a b).take k)) ∧ Below w.heap.size w wr)
    (fun _ i _ => n - (intOf i).toNat)
  case atStart => exact ⟨0, by omega, rfl, World.ownsRow_nil _ _ _ _, Below.refl _ _⟩
  case round =>
    obtain ⟨k, hk, rfl, hown, hb⟩ := hrel
    have hsz := hb.size
    by_cases hlt : k < n
    · have hkL : k < (xorB a b).length := by rw [← HN.out]; exact hlt
      have hka : k < a.length := by have := HA.out; omega
      have hkb : k < b.length := by have := HB.out; omega
      have htake : (xorB a b).take (k + 1) = (xorB a b).take k ++ [a[k] ^^^ b[k]] := by rw [List.take_succ_eq_append_getElem hkL, xorB_get a b k hka hkb]
      obtain ⟨ba, oa, capa, ea, _, _, la, xa⟩ := sa.byte (by omega)
      obtain ⟨bb, ob, capb, eb, _, _, lb, xb⟩ := sb.byte (by omega)
      cases ea
      cases eb
      have ca := below_at hb (xa k hka) la
      have cb := below_at hb (xb k hkb) lb
      have i2 : (k : Int) < (n : Int) := by omega
      have i3 : (0 : Int) ≤ (k : Int) := by omega
      have i4 : (k : Int) < (a.length : Int) := by omega
      have i5 : (k : Int) < (b.length : Int) := by omega
      have HT := Lib.hid htake
      have XA := Lib.hid xa
      have XB := Lib.hid xb
      have SA := Lib.hid sa
      have SB := Lib.hid sb
      clear htake xa xb sa sb
      go_wp2
      refine wp_region_chainBelow (w.heap.size) [(0, 0), (1, 0), (2, 0), (3, 0), (4, 0), (5, 0), (6, 0), (7, 0), (8, 0), (9, 0), (10, 1), (11, 1), (12, 0)] (by kernel_rfl) (by kernel_rfl) ?_
      intro w1 hw1
      repeat
        refine chain_light _ rfl (fun K hK => ?_)
        first
          | (refine (if_pos (by rfl)).mpr ?_; apply Exists.intro; refine ⟨fun w' hw' => ?_, hK _ ?_⟩; (have ca1 := below_at hw' (hw1.at ca) la; have cb1 := below_at hw' (hw1.at cb) lb; go_simp; done); (clear hK K; simp only [Act.put, List.setIfInBounds_toArray, List.set_cons_zero, List.set_cons_succ]))
          | (refine (if_pos (by rfl)).mpr ?_; apply Exists.intro; refine ⟨fun w' hw' => ?_, hK _ ?_⟩; (have ca1 := below_at hw' (hw1.at ca) la; have cb1 := below_at hw' (hw1.at cb) lb; go_simp; rfl); (clear hK K; simp only [Act.put, List.setIfInBounds_toArray, List.set_cons_zero, List.set_cons_succ]))
          | (refine (if_neg (by rw [Bool.not_eq_true]; rfl)).mpr ?_; refine hK _ ?_; (clear hK K; simp only [Act.put, List.setIfInBounds_toArray, List.set_cons_zero, List.set_cons_succ]))
      refine chain_heavy _ rfl (fun K hK => ?_)
      refine (if_pos (by rfl)).mpr ?_
      go_wp2
      refine hK _ _ ((Below.refl _ _).alloc (Nat.le_trans hsz hw1.size) _) ?_
      clear hK K
      try simp only [Act.put, List.setIfInBounds_toArray, List.set_cons_zero, List.set_cons_succ]
      refine chain_heavy _ rfl (fun K hK => ?_)
      refine (if_pos (by rfl)).mpr ?_
      (refine wp_append sl_bytes (by rfl) (by rfl) (by rfl) ((own_kept hown hw1).alloc _) (Sl.one _ _ _) (by rfl) (oneCell_V8 [a[k] ^^^ b[k]]) (by unfold maxLen; omega) (by omega) (by simp; have := hw1.size; omega) ?_; intro b' w2 hown2 hg2 hat2)
      refine hK _ _ (below_append (Below.refl _ _) ((own_kept hown hw1).alloc _) hg2 (by simp; have := hw1.size; omega)) ?_
      clear hK K
      try simp only [Act.put, List.setIfInBounds_toArray, List.set_cons_zero, List.set_cons_succ]
      repeat
        refine chain_light _ rfl (fun K hK => ?_)
        first
          | (refine (if_pos (by rfl)).mpr ?_; apply Exists.intro; refine ⟨fun w' hw' => ?_, hK _ ?_⟩; (go_simp; done); (clear hK K; simp only [Act.put, List.setIfInBounds_toArray, List.set_cons_zero, List.set_cons_succ]))
          | (refine (if_pos (by rfl)).mpr ?_; apply Exists.intro; refine ⟨fun w' hw' => ?_, hK _ ?_⟩; (go_simp; rfl); (clear hK K; simp only [Act.put, List.setIfInBounds_toArray, List.set_cons_zero, List.set_cons_succ]))
          | (refine (if_neg (by rw [Bool.not_eq_true]; rfl)).mpr ?_; refine hK _ ?_; (clear hK K; simp only [Act.put, List.setIfInBounds_toArray, List.set_cons_zero, List.set_cons_succ]))
      refine chain_nil ?_
      go_wp2
      exact ⟨⟨k + 1, by omega, by go_num, by rw [HT.out, bcells_append]; exact hown2, below_append ((Kept.of hb hw1).alloc (Nat.le_trans hsz hw1.size) _) ((own_kept hown hw1).alloc _) hg2 (by simp; have := hw1.size; omega)⟩, by simp [intOf]; omega⟩
    · have : k = n := by omega
      subst this
      have hf : (xorB a b).take k = xorB a b := List.take_of_length_le (by rw [← HN.out]; exact Nat.le_refl _)
      rw [hf] at hown
      clear hf
      by_cases h1 : a.length ≤ k
      · have i4 : (a.length : Int) ≤ (k : Int) := by omega
        go_wp2
        go_ret
        exact ⟨_, rfl, hown, hb⟩
      · have i4 : (k : Int) < (a.length : Int) := by omega
        have i5 : (b.length : Int) ≤ (k : Int) := by have := HM.out; omega
        go_wp2
        go_ret
        exact ⟨_, rfl, hown, hb⟩

end Go.Proofs.Ytlbogmpfjkendaa
