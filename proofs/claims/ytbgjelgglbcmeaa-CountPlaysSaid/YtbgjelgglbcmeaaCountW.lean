/- What the functions of package count, and of its reference, do to a Counter in memory. -/
import Derived.Test.YtbgjelgglbcmeaaPowerR
namespace Go.Proofs.Ytbgjelgglbcmeaa
open Go Go.RowKit

/-- a Counter's numbers -/
structure Cn where
  value : BitVec 64
  boots : BitVec 64
  at_ : BitVec 64
def Cn.bump (n : Cn) : Cn := ⟨n.value + 1#64, n.boots, n.boots⟩
def Cn.boot (n : Cn) : Cn := ⟨n.value, n.boots + 1#64, n.at_⟩
def Cn.zero : Cn := ⟨0#64, 0#64, 0#64⟩

/-- a Counter at c, of a Power at b -/
def CtAt (w : World) (c b : Nat) (n : Cn) : Prop := Blk w c #[.pointer (some ⟨b, 0, none⟩), U n.value, U n.boots, U n.at_] 42
theorem CtAt.cells {w : World} {c b : Nat} {n : Cn} (h : CtAt w c b n) :
    w.cell? ⟨c, 0, none⟩ = some (.pointer (some ⟨b, 0, none⟩)) ∧ w.cell? ⟨c, 1, none⟩ = some (U n.value) ∧ w.cell? ⟨c, 2, none⟩ = some (U n.boots) ∧ w.cell? ⟨c, 3, none⟩ = some (U n.at_) :=
  ⟨Blk.cell h 0, Blk.cell h 1, Blk.cell h 2, Blk.cell h 3⟩
theorem CtAt.frees {w : World} {c b : Nat} {n : Cn} (h : CtAt w c b n) :
    w.frozen? ⟨c, 1, none⟩ = false ∧ w.frozen? ⟨c, 2, none⟩ = false ∧ w.frozen? ⟨c, 3, none⟩ = false :=
  ⟨Blk.free h 1, Blk.free h 2, Blk.free h 3⟩

/-- a Counter at c, of a Power at b -/
def RcAt (w : World) (c b : Nat) (n : Cn) : Prop := Blk w c #[.pointer (some ⟨b, 0, none⟩), U n.value, U n.boots, U n.at_] 38
theorem RcAt.cells {w : World} {c b : Nat} {n : Cn} (h : RcAt w c b n) :
    w.cell? ⟨c, 0, none⟩ = some (.pointer (some ⟨b, 0, none⟩)) ∧ w.cell? ⟨c, 1, none⟩ = some (U n.value) ∧ w.cell? ⟨c, 2, none⟩ = some (U n.boots) ∧ w.cell? ⟨c, 3, none⟩ = some (U n.at_) :=
  ⟨Blk.cell h 0, Blk.cell h 1, Blk.cell h 2, Blk.cell h 3⟩
theorem RcAt.frees {w : World} {c b : Nat} {n : Cn} (h : RcAt w c b n) :
    w.frozen? ⟨c, 1, none⟩ = false ∧ w.frozen? ⟨c, 2, none⟩ = false ∧ w.frozen? ⟨c, 3, none⟩ = false :=
  ⟨Blk.free h 1, Blk.free h 2, Blk.free h 3⟩

set_option maxRecDepth 100000 in
set_option maxHeartbeats 2000000 in
theorem count_new (b : Nat) (w : World) : Calls Try.prog 12 #[.pointer (some ⟨b, 0, none⟩)] w fun e w' => e = .returned (.pointer (some ⟨w.heap.size, 0, none⟩)) ∧ CtAt w' w.heap.size b Cn.zero ∧ Kept w w' ∧ w'.heap.size = w.heap.size + 1 := by
  go_enter Try.func12, Try.ntmps12
  go_wp2
  go_ret
  exact ⟨rfl, Blk.new _ _ _, (Below.refl _ _).alloc (Nat.le_refl _) _, by simp⟩

set_option maxRecDepth 100000 in
set_option maxHeartbeats 2000000 in
theorem count_value (c b : Nat) (n : Cn) (w : World) (h : CtAt w c b n) : Calls Try.prog 8 #[.pointer (some ⟨c, 0, none⟩)] w fun e w' => e = .returned (U n.value) ∧ w = w' := by
  obtain ⟨c0, c1, c2, c3⟩ := h.cells
  go_enter Try.func8, Try.ntmps8
  go_wp2
  go_ret
  exact ⟨rfl, rfl⟩

set_option maxRecDepth 100000 in
set_option maxHeartbeats 2000000 in
theorem nil_value (w : World) : Calls Try.prog 8 #[.pointer none] w fun e w' => e = .returned (U 0#64) ∧ w = w' := by
  go_enter Try.func8, Try.ntmps8
  go_wp2
  go_ret
  exact ⟨rfl, rfl⟩

set_option maxRecDepth 100000 in
set_option maxHeartbeats 2000000 in
theorem count_boots (c b : Nat) (n : Cn) (w : World) (h : CtAt w c b n) : Calls Try.prog 9 #[.pointer (some ⟨c, 0, none⟩)] w fun e w' => e = .returned (U n.boots) ∧ w = w' := by
  obtain ⟨c0, c1, c2, c3⟩ := h.cells
  go_enter Try.func9, Try.ntmps9
  go_wp2
  go_ret
  exact ⟨rfl, rfl⟩

set_option maxRecDepth 100000 in
set_option maxHeartbeats 2000000 in
theorem nil_boots (w : World) : Calls Try.prog 9 #[.pointer none] w fun e w' => e = .returned (U 0#64) ∧ w = w' := by
  go_enter Try.func9, Try.ntmps9
  go_wp2
  go_ret
  exact ⟨rfl, rfl⟩

set_option maxRecDepth 100000 in
set_option maxHeartbeats 2000000 in
theorem count_at (c b : Nat) (n : Cn) (w : World) (h : CtAt w c b n) : Calls Try.prog 10 #[.pointer (some ⟨c, 0, none⟩)] w fun e w' => e = .returned (U n.at_) ∧ w = w' := by
  obtain ⟨c0, c1, c2, c3⟩ := h.cells
  go_enter Try.func10, Try.ntmps10
  go_wp2
  go_ret
  exact ⟨rfl, rfl⟩

set_option maxRecDepth 100000 in
set_option maxHeartbeats 2000000 in
theorem nil_at (w : World) : Calls Try.prog 10 #[.pointer none] w fun e w' => e = .returned (U 0#64) ∧ w = w' := by
  go_enter Try.func10, Try.ntmps10
  go_wp2
  go_ret
  exact ⟨rfl, rfl⟩

set_option maxRecDepth 100000 in
set_option maxHeartbeats 2000000 in
theorem nil_bump (w : World) : Calls Try.prog 6 #[.pointer none] w fun e w' => e = .returned (.bool false) ∧ w = w' := by
  go_enter Try.func6, Try.ntmps6
  go_wp2
  go_ret
  exact ⟨rfl, rfl⟩

set_option maxRecDepth 100000 in
set_option maxHeartbeats 2000000 in
theorem count_bump (c b : Nat) (p p' : Pw) (r : Bool) (n : Cn) (w : World) (h : CtAt w c b n) (hp : PwAt w b p) (hne : c ≠ b) (hok : p.ok 9223372036854775806) (hs : p.spend = (r, p')) :
    Calls Try.prog 6 #[.pointer (some ⟨c, 0, none⟩)] w fun e w' => e = .returned (.bool r) ∧ CtAt w' c b (if r then n.bump else n) ∧ PwAt w' b p' ∧ Chg [b, c] w w' := by
  obtain ⟨c0, c1, c2, c3⟩ := h.cells
  have HS := Lib.hid hs
  have HN := Lib.hid hne
  clear hs hne
  cases r
  · go_enter Try.func6, Try.ntmps6
    go_wp2_with fail
    refine (power_spend_to _ _ _ _ _ hp hok HS.out).mono ?_
    rintro e w1 ⟨rfl, hp1, g⟩
    have h4 : CtAt w1 c b n := only_blk g h HN.out
    clear c0 c1 c2 c3
    go_wp2
    go_ret
    exact ⟨rfl, h4, hp1, (Chg.of_grown g).mono (by simp)⟩
  · go_enter Try.func6, Try.ntmps6
    go_wp2_with fail
    refine (power_spend_to _ _ _ _ _ hp hok HS.out).mono ?_
    rintro e w1 ⟨rfl, hp1, g⟩
    have h4 : CtAt w1 c b n := only_blk g h HN.out
    clear c0 c1 c2 c3
    obtain ⟨c0, c1, c2, c3⟩ := h4.cells
    obtain ⟨f1, f2, f3⟩ := h4.frees
    go_wp2
    go_ret
    exact ⟨rfl, (Blk.set ((Blk.set (h4) 1 _)) 3 _), (Blk.other ((Blk.other (hp1) (a := ⟨c, 1, none⟩) HN.out.symm _)) (a := ⟨c, 3, none⟩) HN.out.symm _), Chg.set (Chg.set ((Chg.of_grown g).mono (by simp)) (by simp) 1 _) (by simp) 3 _⟩

set_option maxRecDepth 100000 in
set_option maxHeartbeats 2000000 in
theorem rcount_bump (c b : Nat) (p p' : Pw) (l : Int) (r : Bool) (n : Cn) (w : World) (h : RcAt w c b n) (hp : RefAt w b p l) (ht : Twin p l) (hne : c ≠ b) (hok : p.ok 9223372036854775806) (hs : p.spend = (r, p')) :
    Calls Try.prog 14 #[.pointer (some ⟨c, 0, none⟩)] w fun e w' => e = .returned (.bool r) ∧ RcAt w' c b (if r then n.bump else n) ∧ (∃ l', RefAt w' b p' l' ∧ Twin p' l') ∧ Chg [b, c] w w' := by
  obtain ⟨c0, c1, c2, c3⟩ := h.cells
  have HS := Lib.hid hs
  have HN := Lib.hid hne
  clear hs hne
  cases r
  · go_enter Try.func14, Try.ntmps14
    go_wp2_with fail
    refine (ref_spend _ _ _ _ hp ht hok).mono ?_
    rw [HS.out]
    rintro e w1 ⟨rfl, hp1, g⟩
    have h4 : RcAt w1 c b n := only_blk g h HN.out
    clear c0 c1 c2 c3
    go_wp2
    go_ret
    exact ⟨rfl, h4, hp1, (Chg.of_grown g).mono (by simp)⟩
  · go_enter Try.func14, Try.ntmps14
    go_wp2_with fail
    refine (ref_spend _ _ _ _ hp ht hok).mono ?_
    rw [HS.out]
    rintro e w1 ⟨rfl, ⟨l', hp1, ht1⟩, g⟩
    have h4 : RcAt w1 c b n := only_blk g h HN.out
    clear c0 c1 c2 c3
    obtain ⟨c0, c1, c2, c3⟩ := h4.cells
    obtain ⟨f1, f2, f3⟩ := h4.frees
    go_wp2
    go_ret
    exact ⟨rfl, (Blk.set ((Blk.set (h4) 1 _)) 3 _), ⟨l', (Blk.other ((Blk.other (hp1) (a := ⟨c, 1, none⟩) HN.out.symm _)) (a := ⟨c, 3, none⟩) HN.out.symm _), ht1⟩, Chg.set (Chg.set ((Chg.of_grown g).mono (by simp)) (by simp) 1 _) (by simp) 3 _⟩

set_option maxRecDepth 100000 in
set_option maxHeartbeats 2000000 in
theorem nil_boot (w : World) : Calls Try.prog 7 #[.pointer none] w fun e w' => e = .returned (.bool false) ∧ w = w' := by
  go_enter Try.func7, Try.ntmps7
  go_wp2
  go_ret
  exact ⟨rfl, rfl⟩

set_option maxRecDepth 100000 in
set_option maxHeartbeats 2000000 in
theorem count_boot (c b : Nat) (p p' : Pw) (r : Bool) (n : Cn) (w : World) (h : CtAt w c b n) (hp : PwAt w b p) (hne : c ≠ b) (hok : p.ok 9223372036854775806) (hs : p.spend = (r, p')) :
    Calls Try.prog 7 #[.pointer (some ⟨c, 0, none⟩)] w fun e w' => e = .returned (.bool r) ∧ CtAt w' c b (if r then n.boot else n) ∧ PwAt w' b p' ∧ Chg [b, c] w w' := by
  obtain ⟨c0, c1, c2, c3⟩ := h.cells
  have HS := Lib.hid hs
  have HN := Lib.hid hne
  clear hs hne
  cases r
  · go_enter Try.func7, Try.ntmps7
    go_wp2_with fail
    refine (power_spend_to _ _ _ _ _ hp hok HS.out).mono ?_
    rintro e w1 ⟨rfl, hp1, g⟩
    have h4 : CtAt w1 c b n := only_blk g h HN.out
    clear c0 c1 c2 c3
    go_wp2
    go_ret
    exact ⟨rfl, h4, hp1, (Chg.of_grown g).mono (by simp)⟩
  · go_enter Try.func7, Try.ntmps7
    go_wp2_with fail
    refine (power_spend_to _ _ _ _ _ hp hok HS.out).mono ?_
    rintro e w1 ⟨rfl, hp1, g⟩
    have h4 : CtAt w1 c b n := only_blk g h HN.out
    clear c0 c1 c2 c3
    obtain ⟨c0, c1, c2, c3⟩ := h4.cells
    obtain ⟨f1, f2, f3⟩ := h4.frees
    go_wp2
    go_ret
    exact ⟨rfl, (Blk.set (h4) 2 _), (Blk.other (hp1) (a := ⟨c, 2, none⟩) HN.out.symm _), Chg.set ((Chg.of_grown g).mono (by simp)) (by simp) 2 _⟩

set_option maxRecDepth 100000 in
set_option maxHeartbeats 2000000 in
theorem rcount_boot (c b : Nat) (p p' : Pw) (l : Int) (r : Bool) (n : Cn) (w : World) (h : RcAt w c b n) (hp : RefAt w b p l) (ht : Twin p l) (hne : c ≠ b) (hok : p.ok 9223372036854775806) (hs : p.spend = (r, p')) :
    Calls Try.prog 15 #[.pointer (some ⟨c, 0, none⟩)] w fun e w' => e = .returned (.bool r) ∧ RcAt w' c b (if r then n.boot else n) ∧ (∃ l', RefAt w' b p' l' ∧ Twin p' l') ∧ Chg [b, c] w w' := by
  obtain ⟨c0, c1, c2, c3⟩ := h.cells
  have HS := Lib.hid hs
  have HN := Lib.hid hne
  clear hs hne
  cases r
  · go_enter Try.func15, Try.ntmps15
    go_wp2_with fail
    refine (ref_spend _ _ _ _ hp ht hok).mono ?_
    rw [HS.out]
    rintro e w1 ⟨rfl, hp1, g⟩
    have h4 : RcAt w1 c b n := only_blk g h HN.out
    clear c0 c1 c2 c3
    go_wp2
    go_ret
    exact ⟨rfl, h4, hp1, (Chg.of_grown g).mono (by simp)⟩
  · go_enter Try.func15, Try.ntmps15
    go_wp2_with fail
    refine (ref_spend _ _ _ _ hp ht hok).mono ?_
    rw [HS.out]
    rintro e w1 ⟨rfl, ⟨l', hp1, ht1⟩, g⟩
    have h4 : RcAt w1 c b n := only_blk g h HN.out
    clear c0 c1 c2 c3
    obtain ⟨c0, c1, c2, c3⟩ := h4.cells
    obtain ⟨f1, f2, f3⟩ := h4.frees
    go_wp2
    go_ret
    exact ⟨rfl, (Blk.set (h4) 2 _), ⟨l', (Blk.other (hp1) (a := ⟨c, 2, none⟩) HN.out.symm _), ht1⟩, Chg.set ((Chg.of_grown g).mono (by simp)) (by simp) 2 _⟩

end Go.Proofs.Ytbgjelgglbcmeaa
