/- What the SSD's smaller functions compute. -/
import Derived.Test.YtgbfgaeohnjmeaaSsdD
namespace Go.Proofs.Ytgbfgaeohnjmeaa
open Go Go.RowKit

theorem sl_ops : SlT Try.prog 36 42 2 32 (.agg #[.int .i64 0, .slice none 0 0]) := SlT.mk' Try.underlying36 (by kernel_rfl) rfl (by omega)
theorem copied_own {w : World} {B B' n g : Nat} {e t : TypeId} {v : Value} {xs : List Value} {cs : Array Value} {p q : Value} (h : w.ownsRow B e 1 v n xs) (hb : Blk w g cs t) (hne : e ≠ t) (hB : B' ≤ B) : ((w.setCell ⟨g, 0, none⟩ p).setCell ⟨g, 1, none⟩ q).ownsRow B' e 1 v n xs := by
  refine own_base ?_ hB
  have hc : Chg [g] w ((w.setCell ⟨g, 0, none⟩ p).setCell ⟨g, 1, none⟩ q) := ((Chg.refl [g] w).set (by simp) 0 p).set (by simp) 1 q
  refine own_chgV h hc fun g' hg' => ?_
  obtain ⟨c, hc'⟩ := own_blkOf h hg'
  simpa using blk_ne hc' hb hne
set_option maxRecDepth 100000 in
set_option maxHeartbeats 4000000 in
theorem copied_any (off : Int) (u : Value) (bs : List UInt8) (hl : bs.length ≤ 65536) (w : World) (hs : Sl w u bs.length (bcells bs)) : Calls Try.prog 22 #[.agg #[.int .i64 off, u]] w fun e w' => ∃ a c, e = .returned (.agg #[.int .i64 off, .slice a bs.length c]) ∧ w'.ownsRow w.heap.size 5 1 (.slice a bs.length c) bs.length (bcells bs) ∧ Kept w w' := by
  obtain ⟨a, c, he⟩ := hs.len
  subst he
  have hk0 : Kept w ((w.alloc (.cells #[.int .i64 off, .slice a bs.length c] 42)).alloc (.cells #[.int .i64 0, .slice none 0 0] 42)) := ((Below.refl _ _).alloc (Nat.le_refl _) _).alloc (by simp) _
  have hA : Blk ((w.alloc (.cells #[.int .i64 off, .slice a bs.length c] 42)).alloc (.cells #[.int .i64 0, .slice none 0 0] 42)) w.heap.size #[.int .i64 off, .slice a bs.length c] 42 := (Blk.new _ _ _).alloc _
  have hB : Blk ((w.alloc (.cells #[.int .i64 off, .slice a bs.length c] 42)).alloc (.cells #[.int .i64 0, .slice none 0 0] 42)) (w.heap.size + 1) #[.int .i64 0, .slice none 0 0] 42 := by simpa using Blk.new (w.alloc (.cells #[.int .i64 off, .slice a bs.length c] 42)) #[.int .i64 0, .slice none 0 0] 42
  go_enter Try.func22, Try.ntmps22
  go_wp2_with fail
  generalize ((w.alloc (.cells #[.int .i64 off, .slice a bs.length c] 42)).alloc (.cells #[.int .i64 0, .slice none 0 0] 42)) = w0 at *
  refine wp_region_chainK [(0, 0), (1, 0), (2, 0), (3, 0), (4, 1), (5, 0), (6, 2)] (by kernel_rfl) (by kernel_rfl) ?_
  intro w1 hw1
  replace hA := hA.kept hw1
  replace hB := hB.kept hw1
  repeat
    refine chain_light _ rfl (fun K hK => ?_)
    first
      | (refine (if_pos (by rfl)).mpr ?_; apply Exists.intro; refine ⟨fun w' hw' => ?_, hK _ ?_⟩; (have c := hA.kept hw'; have c0 := c.cell 0; have c1 := c.cell 1; clear c; go_simp; done); (clear hK K; simp only [Act.put, List.setIfInBounds_toArray, List.set_cons_zero, List.set_cons_succ]))
      | (refine (if_pos (by rfl)).mpr ?_; apply Exists.intro; refine ⟨fun w' hw' => ?_, hK _ ?_⟩; (have c := hA.kept hw'; have c0 := c.cell 0; have c1 := c.cell 1; clear c; go_simp; rfl); (clear hK K; simp only [Act.put, List.setIfInBounds_toArray, List.set_cons_zero, List.set_cons_succ]))
      | (refine (if_neg (by rw [Bool.not_eq_true]; rfl)).mpr ?_; refine hK _ ?_; (clear hK K; simp only [Act.put, List.setIfInBounds_toArray, List.set_cons_zero, List.set_cons_succ]))
  refine chain_heavy _ rfl (fun K hK => ?_)
  refine (if_pos (by rfl)).mpr ?_
  go_wp2_with fail
  refine (clone_any _ bs (by omega) _ ((hs.kept hk0).kept hw1)).mono ?_
  rintro e w2 ⟨v2, rfl, ho, hk2⟩
  replace hB := hB.kept hk2
  obtain ⟨a2, c2, he⟩ := (Sl.of_own ho).len
  subst he
  go_wp2
  refine hK _ _ (hk2) ?_
  clear hK K
  try simp only [Act.put, List.setIfInBounds_toArray, List.set_cons_zero, List.set_cons_succ]
  repeat
    refine chain_light _ rfl (fun K hK => ?_)
    first
      | (refine (if_pos (by rfl)).mpr ?_; apply Exists.intro; refine ⟨fun w' hw' => ?_, hK _ ?_⟩; (go_simp; done); (clear hK K; simp only [Act.put, List.setIfInBounds_toArray, List.set_cons_zero, List.set_cons_succ]))
      | (refine (if_pos (by rfl)).mpr ?_; apply Exists.intro; refine ⟨fun w' hw' => ?_, hK _ ?_⟩; (go_simp; rfl); (clear hK K; simp only [Act.put, List.setIfInBounds_toArray, List.set_cons_zero, List.set_cons_succ]))
      | (refine (if_neg (by rw [Bool.not_eq_true]; rfl)).mpr ?_; refine hK _ ?_; (clear hK K; simp only [Act.put, List.setIfInBounds_toArray, List.set_cons_zero, List.set_cons_succ]))
  refine chain_last _ rfl (fun K hK => ?_)
  refine (if_pos (by rfl)).mpr ?_
  have f0 := hB.free 0
  have f1 := hB.free 1
  have e0 := hB.cell 0
  have e1 := hB.cell 1
  go_wp2
  refine chain_nil ?_
  go_wp2
  have d := (hB.set 0 (.int .i64 off)).set 1 (.slice a2 bs.length c2)
  have d0 := d.cell 0
  have d1 := d.cell 1
  refine bodyPost_ret (v := .agg #[.int .i64 off, .slice a2 bs.length c2]) (by simp [results, Try.results22, go_sem, d0, d1]; try exact ⟨rfl, rfl⟩) rfl ⟨a2, c2, rfl, ?_, ?_⟩
  · exact copied_own ho hB (by decide) (by have := hk0.size; have := hw1.size; omega)
  · exact ((Kept.of (Kept.of hk0 hw1) hk2).setCell (p := ⟨w.heap.size + 1, 0, none⟩) (by show w.heap.size ≤ w.heap.size + 1; omega) _).setCell (p := ⟨w.heap.size + 1, 1, none⟩) (by show w.heap.size ≤ w.heap.size + 1; omega) _

set_option maxRecDepth 100000 in
set_option maxHeartbeats 4000000 in
theorem size_any (K : Nat) (a : Option Addr) (L c : Nat) (w : World) (h : w.cell? ⟨K, 1, none⟩ = some (.slice a L c)) : Calls Try.prog 19 #[.pointer (some ⟨K, 0, none⟩)] w fun e w' => e = .returned (.int .i64 L) ∧ w = w' := by
  go_enter Try.func19, Try.ntmps19
  go_wp2
  go_ret
  exact ⟨rfl, rfl⟩

def isB (L : Nat) (off n : Int) : Bool := decide (0 ≤ off) && decide (0 ≤ n) && decide (off ≤ L) && decide (n ≤ L - off)
set_option maxRecDepth 100000 in
set_option maxHeartbeats 4000000 in
theorem is_any (K : Nat) (a : Option Addr) (L c : Nat) (hL : L ≤ 100000) (off n : Int) (w : World) (h : w.cell? ⟨K, 1, none⟩ = some (.slice a L c)) : Calls Try.prog 20 #[.pointer (some ⟨K, 0, none⟩), .int .i64 off, .int .i64 n] w fun e w' => e = .returned (.bool (isB L off n)) ∧ w = w' := by
  by_cases h1 : 0 ≤ off
  · by_cases h2 : 0 ≤ n
    · by_cases h3 : off ≤ L
      · have hw : IntKind.i64.wrap ((L : Int) - off) = (L : Int) - off := IntWalk.i64_in _ (by omega)
        by_cases h4 : n ≤ (L : Int) - off
        · rw [show isB L off n = true by simp [isB]; omega]
          go_enter Try.func20, Try.ntmps20
          go_wp2_with fail
          refine (size_any K a L c _ h).mono ?_
          rintro e w1 ⟨rfl, rfl⟩
          go_wp2_with fail
          refine (size_any K a L c _ h).mono ?_
          rintro e w1 ⟨rfl, rfl⟩
          go_wp2
          go_ret
          exact ⟨congrArg (fun b => Ending.returned (Value.bool b)) (by first | rfl | exact decide_eq_false (by omega) | exact decide_eq_true (by omega)), rfl⟩
        · rw [show isB L off n = false by simp [isB]; omega]
          go_enter Try.func20, Try.ntmps20
          go_wp2_with fail
          refine (size_any K a L c _ h).mono ?_
          rintro e w1 ⟨rfl, rfl⟩
          go_wp2_with fail
          refine (size_any K a L c _ h).mono ?_
          rintro e w1 ⟨rfl, rfl⟩
          go_wp2
          go_ret
          exact ⟨congrArg (fun b => Ending.returned (Value.bool b)) (by first | rfl | exact decide_eq_false (by omega) | exact decide_eq_true (by omega)), rfl⟩
      · rw [show isB L off n = false by simp [isB]; omega]
        go_enter Try.func20, Try.ntmps20
        go_wp2_with fail
        refine (size_any K a L c _ h).mono ?_
        rintro e w1 ⟨rfl, rfl⟩
        go_wp2
        go_ret
        exact ⟨rfl, rfl⟩
    · rw [show isB L off n = false by simp [isB]; omega]
      go_enter Try.func20, Try.ntmps20
      go_wp2
      go_ret
      exact ⟨rfl, rfl⟩
  · rw [show isB L off n = false by simp [isB]; omega]
    go_enter Try.func20, Try.ntmps20
    go_wp2
    go_ret
    exact ⟨rfl, rfl⟩


end Go.Proofs.Ytgbfgaeohnjmeaa
