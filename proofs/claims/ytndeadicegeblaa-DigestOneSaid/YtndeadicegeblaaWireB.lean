/- Two numbers as 16 bytes, and back: wire.Bytes, wire.Pair, and their references. -/
import Derived.Test.YtndeadicegeblaaWireW
import Derived.Test.YtndeadicegeblaaWireP
import Derived.Test.YtndeadicegeblaaPosts
import Derived.Test.YtndeadicegeblaaApp
namespace Go.Proofs.Ytndeadicegeblaa
open Go Go.RowKit

def pairB (p : Pair) : List UInt8 := putB p.1 8 ++ putB p.2 8
def pairG (bs : List UInt8) : Pair := (getB (bs.take 8), getB (bs.drop 8))
theorem pairB_length (p : Pair) : (pairB p).length = 16 := by simp [pairB, putB_length]
theorem pairG_pairB (p : Pair) : pairG (pairB p) = p := by
  unfold pairG pairB
  rw [List.take_left' (putB_length _ _), List.drop_left' (putB_length _ _), getB_putB8, getB_putB8]
theorem pairB_pairG (bs : List UInt8) (h : bs.length = 16) : pairB (pairG bs) = bs := by
  have h1 : (bs.take 8).length = 8 := by simp; omega
  have h2 : (bs.drop 8).length = 8 := by simp; omega
  have e1 := putB_getB (bs.take 8) (by omega)
  have e2 := putB_getB (bs.drop 8) (by omega)
  rw [h1] at e1
  rw [h2] at e2
  unfold pairB pairG
  rw [e1, e2, List.take_append_drop]

theorem Sl.sub {w : World} {b off cap n : Nat} {cs : List Value} (h : Sl w (.slice (some ⟨b, off, none⟩) n cap) n cs) (i m cap' : Nat) (hm : m ≤ cap') (hc : cap' ≤ maxLen) :
    Sl w (.slice (some ⟨b, off + i, none⟩) m cap') m ((cs.drop i).take m) := by
  rcases h with ⟨h, _⟩ | ⟨a, c, ha, h1, h2, h3⟩
  · cases h
  · cases ha
    refine Sl.mk hm hc fun j u hj => ?_
    rw [List.getElem?_take] at hj
    split at hj
    · rw [List.getElem?_drop] at hj
      have := h3 _ _ hj
      rw [add_off] at this
      rw [show off + i + j = off + (i + j) by omega]
      exact this
    · cases hj


set_option maxRecDepth 100000 in
set_option maxHeartbeats 2000000 in
theorem pair_some (bv : Value) (bs : List UInt8) (w : World) (hs : Sl w bv bs.length (bcells bs)) (h : bs.length = 16) :
    Calls Try.prog 15 #[bv] w fun e w' => e = .returned (.tuple #[Pr (pairG bs), .bool true]) ∧ Kept w w' := by
  obtain ⟨b, off, cap, rfl, hc1, hc2, hc3, hc4⟩ := hs.at (by rw [bcells_length]; omega)
  rw [h] at hs hc1 ⊢
  have hk : Kept w (w.alloc (.cells #[U 0#64, U 0#64] 25)) := (Below.refl _ _).alloc (Nat.le_refl _) _
  have s1 := (hs.sub 0 8 cap (by omega) hc2).kept hk
  have s2 := (hs.sub 8 8 (cap - 8) (by omega) (by omega)).kept hk
  have hR := Blk.new w #[U 0#64, U 0#64] 25
  have e1 : (bcells bs).take 8 = bcells (bs.take 8) := by simp [bcells]
  have e2 : ((bcells bs).drop 8).take 8 = bcells (bs.drop 8) := by
    rw [List.take_of_length_le (by simp [bcells]; omega)]
    simp [bcells]
  rw [List.drop_zero, e1, Nat.add_zero] at s1
  rw [e2] at s2
  have l1 : (bs.take 8).length = 8 := by simp; omega
  have l2 : (bs.drop 8).length = 8 := by simp; omega
  have S1 := Lib.hid (show Sl (w.alloc (.cells #[U 0#64, U 0#64] 25)) (.slice (some ⟨b, off, none⟩) 8 cap) (bs.take 8).length (bcells (bs.take 8)) by rw [l1]; exact s1)
  have S2 := Lib.hid (show Sl (w.alloc (.cells #[U 0#64, U 0#64] 25)) (.slice (some ⟨b, off + 8, none⟩) 8 (cap - 8)) (bs.drop 8).length (bcells (bs.drop 8)) by rw [l2]; exact s2)
  have L1 := Lib.hid l1
  have L2 := Lib.hid l2
  have c8 : (8 : Int) ≤ (cap : Int) := by omega
  have c16 : (16 : Int) ≤ (cap : Int) := by omega
  have cm : (cap : Int) ≤ 9223372036854775807 := by unfold maxLen at hc2; omega
  have f0 := hR.free 0
  have f1 := hR.free 1
  have r0 := hR.cell 0
  have r1 := hR.cell 1
  clear hs hk s1 s2 hR e1 e2 l1 l2 hc1 hc2 hc4 hc3 h
  go_enter Try.func15, Try.ntmps15
  go_wp2_with fail
  refine (get_some _ (bs.take 8) _ S1.out (by rw [L1.out]; omega) (by rw [L1.out]; omega)).mono ?_
  rintro e w2 ⟨rfl, rfl⟩
  go_wp2_with fail
  refine (get_some _ (bs.drop 8) _ S2.out (by rw [L2.out]; omega) (by rw [L2.out]; omega)).mono ?_
  rintro e w2 ⟨rfl, rfl⟩
  go_wp2
  refine bodyPost_ret (v := .tuple #[Pr (pairG bs), .bool true]) (by simp [results, Try.results15, go_sem, r0, r1, pairG]; done) rfl ⟨rfl, ?_⟩
  first | exact (Below.refl _ _).alloc (Nat.le_refl _) _ | exact ((((Below.refl _ _).alloc (Nat.le_refl _) _).setCell (by simp) _).setCell (by simp) _)

set_option maxRecDepth 100000 in
set_option maxHeartbeats 2000000 in
theorem pair_none (bv : Value) (bs : List UInt8) (w : World) (hs : Sl w bv bs.length (bcells bs)) (h : bs.length ≠ 16) :
    Calls Try.prog 15 #[bv] w fun e w' => e = .returned (.tuple #[Pr (0#64, 0#64), .bool false]) ∧ Kept w w' := by
  have hle := hs.le
  unfold maxLen at hle
  obtain ⟨a, cap, rfl⟩ := hs.len
  obtain ⟨n, hn⟩ : ∃ n, n = bs.length := ⟨_, rfl⟩
  rw [← hn] at hs h hle ⊢
  have i1 : (n : Int) ≤ 9223372036854775807 := by omega
  have hne : ((n : Int) == 16) = false := by simp; omega
  have hR := Blk.new w #[U 0#64, U 0#64] 25
  have f0 := hR.free 0
  have f1 := hR.free 1
  have r0 := hR.cell 0
  have r1 := hR.cell 1
  clear hs hn h hle hR
  go_enter Try.func15, Try.ntmps15
  go_wp2
  refine bodyPost_ret (v := .tuple #[Pr (0#64, 0#64), .bool false]) (by simp [results, Try.results15, go_sem, r0, r1]; done) rfl ⟨rfl, ?_⟩
  first | exact (Below.refl _ _).alloc (Nat.le_refl _) _ | exact ((((Below.refl _ _).alloc (Nat.le_refl _) _).setCell (by simp) _).setCell (by simp) _)

set_option maxRecDepth 100000 in
set_option maxHeartbeats 2000000 in
theorem rpair_some (bv : Value) (bs : List UInt8) (w : World) (hs : Sl w bv bs.length (bcells bs)) (h : bs.length = 16) :
    Calls Try.prog 17 #[bv] w fun e w' => e = .returned (.tuple #[Pr (pairG bs), .bool true]) ∧ Kept w w' := by
  obtain ⟨b, off, cap, rfl, hc1, hc2, hc3, hc4⟩ := hs.at (by rw [bcells_length]; omega)
  rw [h] at hs hc1 ⊢
  have hk : Kept w (w.alloc (.cells #[U 0#64, U 0#64] 25)) := (Below.refl _ _).alloc (Nat.le_refl _) _
  have s1 := (hs.sub 0 8 cap (by omega) hc2).kept hk
  have s2 := (hs.sub 8 8 (cap - 8) (by omega) (by omega)).kept hk
  have hR := Blk.new w #[U 0#64, U 0#64] 25
  have e1 : (bcells bs).take 8 = bcells (bs.take 8) := by simp [bcells]
  have e2 : ((bcells bs).drop 8).take 8 = bcells (bs.drop 8) := by
    rw [List.take_of_length_le (by simp [bcells]; omega)]
    simp [bcells]
  rw [List.drop_zero, e1, Nat.add_zero] at s1
  rw [e2] at s2
  have l1 : (bs.take 8).length = 8 := by simp; omega
  have l2 : (bs.drop 8).length = 8 := by simp; omega
  have S1 := Lib.hid (show Sl (w.alloc (.cells #[U 0#64, U 0#64] 25)) (.slice (some ⟨b, off, none⟩) 8 cap) (bs.take 8).length (bcells (bs.take 8)) by rw [l1]; exact s1)
  have S2 := Lib.hid (show Sl (w.alloc (.cells #[U 0#64, U 0#64] 25)) (.slice (some ⟨b, off + 8, none⟩) 8 (cap - 8)) (bs.drop 8).length (bcells (bs.drop 8)) by rw [l2]; exact s2)
  have L1 := Lib.hid l1
  have L2 := Lib.hid l2
  have c8 : (8 : Int) ≤ (cap : Int) := by omega
  have c16 : (16 : Int) ≤ (cap : Int) := by omega
  have cm : (cap : Int) ≤ 9223372036854775807 := by unfold maxLen at hc2; omega
  have f0 := hR.free 0
  have f1 := hR.free 1
  have r0 := hR.cell 0
  have r1 := hR.cell 1
  clear hs hk s1 s2 hR e1 e2 l1 l2 hc1 hc2 hc4 hc3 h
  go_enter Try.func17, Try.ntmps17
  go_wp2_with fail
  refine (rget_some _ (bs.take 8) _ S1.out (by rw [L1.out]; omega) (by rw [L1.out]; omega)).mono ?_
  rintro e w2 ⟨rfl, rfl⟩
  go_wp2_with fail
  refine (rget_some _ (bs.drop 8) _ S2.out (by rw [L2.out]; omega) (by rw [L2.out]; omega)).mono ?_
  rintro e w2 ⟨rfl, rfl⟩
  go_wp2
  refine bodyPost_ret (v := .tuple #[Pr (pairG bs), .bool true]) (by simp [results, Try.results17, go_sem, r0, r1, pairG]; done) rfl ⟨rfl, ?_⟩
  first | exact (Below.refl _ _).alloc (Nat.le_refl _) _ | exact ((((Below.refl _ _).alloc (Nat.le_refl _) _).setCell (by simp) _).setCell (by simp) _)

set_option maxRecDepth 100000 in
set_option maxHeartbeats 2000000 in
theorem rpair_none (bv : Value) (bs : List UInt8) (w : World) (hs : Sl w bv bs.length (bcells bs)) (h : bs.length ≠ 16) :
    Calls Try.prog 17 #[bv] w fun e w' => e = .returned (.tuple #[Pr (0#64, 0#64), .bool false]) ∧ Kept w w' := by
  have hle := hs.le
  unfold maxLen at hle
  obtain ⟨a, cap, rfl⟩ := hs.len
  obtain ⟨n, hn⟩ : ∃ n, n = bs.length := ⟨_, rfl⟩
  rw [← hn] at hs h hle ⊢
  have i1 : (n : Int) ≤ 9223372036854775807 := by omega
  have hne : ((n : Int) == 16) = false := by simp; omega
  have hR := Blk.new w #[U 0#64, U 0#64] 25
  have f0 := hR.free 0
  have f1 := hR.free 1
  have r0 := hR.cell 0
  have r1 := hR.cell 1
  clear hs hn h hle hR
  go_enter Try.func17, Try.ntmps17
  go_wp2
  refine bodyPost_ret (v := .tuple #[Pr (0#64, 0#64), .bool false]) (by simp [results, Try.results17, go_sem, r0, r1]; done) rfl ⟨rfl, ?_⟩
  first | exact (Below.refl _ _).alloc (Nat.le_refl _) _ | exact ((((Below.refl _ _).alloc (Nat.le_refl _) _).setCell (by simp) _).setCell (by simp) _)


end Go.Proofs.Ytndeadicegeblaa
