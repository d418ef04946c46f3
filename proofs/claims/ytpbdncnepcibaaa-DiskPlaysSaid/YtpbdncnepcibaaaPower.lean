/- What the functions of package power do to a Power in memory. -/
import Derived.Test.YtpbdncnepcibaaaProg
import Derived.Test.YtpbdncnepcibaaaSlice
import Derived.Outline
import Derived.Lib.Hide
namespace Go.Proofs.Ytpbdncnepcibaaa
open Go Go.RowKit

/-- a Power -/
structure Pw where
  gone : Bool
  fuse : Bool
  left : Int
  steps : Int

def pwCells (p : Pw) : Array Value := #[.bool p.gone, .bool p.fuse, .int .i64 p.left, .int .i64 p.steps]
def PwAt (w : World) (b : Nat) (p : Pw) : Prop := Blk w b (pwCells p) 57
/-- what is asked of its numbers -/
def Pw.ok (p : Pw) (most : Int) : Prop := 0 ≤ p.steps ∧ p.steps ≤ most ∧ (p.fuse = true → 0 ≤ p.left ∧ p.left ≤ 9223372036854775807)

def Pw.new : Pw := ⟨false, false, 0, 0⟩
def Pw.setFuse (p : Pw) (n : Int) : Pw := { p with fuse := decide (0 ≤ n), left := n }
def Pw.spend (p : Pw) : Bool × Pw :=
  if p.gone then (false, p)
  else if p.fuse && p.left == 0 then (false, { p with gone := true })
  else (true, { p with left := if p.fuse then p.left - 1 else p.left, steps := p.steps + 1 })
def Pw.back (p : Pw) : Pw := { p with gone := false, fuse := false }

theorem pw_cells {w : World} {b : Nat} {p : Pw} (h : PwAt w b p) :
    w.cell? ⟨b, 0, none⟩ = some (.bool p.gone) ∧ w.cell? ⟨b, 1, none⟩ = some (.bool p.fuse) ∧ w.cell? ⟨b, 2, none⟩ = some (.int .i64 p.left) ∧ w.cell? ⟨b, 3, none⟩ = some (.int .i64 p.steps) :=
  ⟨Blk.cell h 0, Blk.cell h 1, Blk.cell h 2, Blk.cell h 3⟩
theorem pw_free {w : World} {b : Nat} {p : Pw} (h : PwAt w b p) :
    w.frozen? ⟨b, 0, none⟩ = false ∧ w.frozen? ⟨b, 1, none⟩ = false ∧ w.frozen? ⟨b, 2, none⟩ = false ∧ w.frozen? ⟨b, 3, none⟩ = false :=
  ⟨Blk.free h 0, Blk.free h 1, Blk.free h 2, Blk.free h 3⟩

theorem only_refl (w : World) (b : Nat) : w.grownBy w (some b) := ⟨rfl, rfl, rfl, Nat.le_refl _, fun _ _ _ => rfl⟩
theorem only_set {w0 w : World} {b : Nat} (h : w0.grownBy w (some b)) (o : Nat) (v : Value) : w0.grownBy (w.setCell ⟨b, o, none⟩ v) (some b) :=
  ⟨h.os, h.tape, h.output, Nat.le_trans h.size (by simp [World.setCell]), fun k hk hne => (Below.heap_setCell _ _ _ _ (fun e => hne (by rw [e]))).trans (h.block k hk hne)⟩
theorem only_blk {w w' : World} {b c : Nat} {cs : Array Value} {t : TypeId} (h : w.grownBy w' (some b)) (hc : Blk w c cs t) (hne : c ≠ b) : Blk w' c cs t :=
  (h.block c hc.lt (fun e => hne (Option.some.inj e))).trans hc
theorem only_below {w w' : World} {b B : Nat} (h : w.grownBy w' (some b)) (hB : B ≤ b) (hs : B ≤ w.heap.size) : Below B w w' :=
  below_grown h (fun k hk => by cases hk; exact hB) hs
theorem kept_only {w w' : World} {b : Nat} (h : Kept w w') : w.grownBy w' (some b) := ⟨h.os, h.tape, h.output, h.size, fun k hk _ => h.block k hk⟩

set_option maxRecDepth 100000 in
set_option maxHeartbeats 2000000 in
theorem power_new (w : World) : Calls Try.prog 8 #[] w fun e w' => e = .returned (.pointer (some ⟨w.heap.size, 0, none⟩)) ∧ PwAt w' w.heap.size Pw.new ∧ Kept w w' ∧ w'.heap.size = w.heap.size + 1 := by
  go_enter Try.func8, Try.ntmps8
  go_wp2
  go_ret
  exact ⟨rfl, Blk.new _ _ _, (Below.refl _ _).alloc (Nat.le_refl _) _, by simp⟩

set_option maxRecDepth 100000 in
set_option maxHeartbeats 2000000 in
theorem power_fuse (b : Nat) (p : Pw) (n : Int) (w : World) (h : PwAt w b p) : Calls Try.prog 24 #[.pointer (some ⟨b, 0, none⟩), .int .i64 n] w fun e w' => e = .returned (.tuple #[]) ∧ PwAt w' b (p.setFuse n) ∧ w.grownBy w' (some b) := by
  obtain ⟨c0, c1, c2, c3⟩ := pw_cells h
  obtain ⟨f0, f1, f2, f3⟩ := pw_free h
  go_enter Try.func24, Try.ntmps24
  go_wp2
  go_end0
  exact ⟨rfl, (Blk.set h 1 _).set 2 _, only_set (only_set (only_refl w b) 1 _) 2 _⟩

set_option maxRecDepth 100000 in
set_option maxHeartbeats 2000000 in
theorem power_back (b : Nat) (p : Pw) (w : World) (h : PwAt w b p) : Calls Try.prog 26 #[.pointer (some ⟨b, 0, none⟩)] w fun e w' => e = .returned (.tuple #[]) ∧ PwAt w' b p.back ∧ w.grownBy w' (some b) := by
  obtain ⟨c0, c1, c2, c3⟩ := pw_cells h
  obtain ⟨f0, f1, f2, f3⟩ := pw_free h
  go_enter Try.func26, Try.ntmps26
  go_wp2
  go_end0
  exact ⟨rfl, (Blk.set h 0 _).set 1 _, only_set (only_set (only_refl w b) 0 _) 1 _⟩

set_option maxRecDepth 100000 in
set_option maxHeartbeats 2000000 in
theorem power_on (b : Nat) (p : Pw) (w : World) (h : PwAt w b p) : Calls Try.prog 32 #[.pointer (some ⟨b, 0, none⟩)] w fun e w' => e = .returned (.bool (!p.gone)) ∧ w = w' := by
  obtain ⟨c0, c1, c2, c3⟩ := pw_cells h
  go_enter Try.func32, Try.ntmps32
  go_wp2
  go_ret
  exact ⟨rfl, rfl⟩

set_option maxRecDepth 100000 in
set_option maxHeartbeats 2000000 in
theorem power_steps (b : Nat) (p : Pw) (w : World) (h : PwAt w b p) : Calls Try.prog 16 #[.pointer (some ⟨b, 0, none⟩)] w fun e w' => e = .returned (.int .i64 p.steps) ∧ w = w' := by
  obtain ⟨c0, c1, c2, c3⟩ := pw_cells h
  go_enter Try.func16, Try.ntmps16
  go_wp2
  go_ret
  exact ⟨rfl, rfl⟩

set_option maxRecDepth 100000 in
set_option maxHeartbeats 2000000 in
theorem power_spend (b : Nat) (p : Pw) (w : World) (h : PwAt w b p) (hok : p.ok 9223372036854775806) : Calls Try.prog 30 #[.pointer (some ⟨b, 0, none⟩)] w fun e w' => e = .returned (.bool p.spend.1) ∧ PwAt w' b p.spend.2 ∧ w.grownBy w' (some b) := by
  obtain ⟨c0, c1, c2, c3⟩ := pw_cells h
  obtain ⟨f0, f1, f2, f3⟩ := pw_free h
  obtain ⟨gone, fuse, left, steps⟩ := p
  simp only at c0 c1 c2 c3
  obtain ⟨s0, s1, hl⟩ := hok
  simp only at s0 s1 hl
  cases gone
  · cases fuse
    · have hp : Pw.spend ⟨false, false, left, steps⟩ = (true, ⟨false, false, left, steps + 1⟩) := by simp [Pw.spend]
      rw [hp]
      have HP := Lib.hid hp
      clear hp hl
      go_enter Try.func30, Try.ntmps30
      go_wp2_with (go_at_call 32; refine (power_on b _ _ h).mono ?_; rintro e w1 ⟨rfl, rfl⟩)
      go_ret
      exact ⟨rfl, Blk.set h 3 _, only_set (only_refl w b) 3 _⟩
    · obtain ⟨l0, l1⟩ := hl rfl
      clear hl
      by_cases hz : left = 0
      · subst hz
        have hp : Pw.spend ⟨false, true, 0, steps⟩ = (false, ⟨true, true, 0, steps⟩) := by simp [Pw.spend]
        rw [hp]
        have HP := Lib.hid hp
        clear hp
        go_enter Try.func30, Try.ntmps30
        go_wp2_with (go_at_call 32; refine (power_on b _ _ h).mono ?_; rintro e w1 ⟨rfl, rfl⟩)
        go_ret
        exact ⟨rfl, Blk.set h 0 _, only_set (only_refl w b) 0 _⟩
      · have hz' : (left == 0) = false := by simpa using hz
        have hp : Pw.spend ⟨false, true, left, steps⟩ = (true, ⟨false, true, left - 1, steps + 1⟩) := by simp [Pw.spend, hz]
        rw [hp]
        have HP := Lib.hid hp
        clear hp
        go_enter Try.func30, Try.ntmps30
        go_wp2_with (go_at_call 32; refine (power_on b _ _ h).mono ?_; rintro e w1 ⟨rfl, rfl⟩)
        go_ret
        exact ⟨rfl, (Blk.set h 2 _).set 3 _, only_set (only_set (only_refl w b) 2 _) 3 _⟩
  · have hp : Pw.spend ⟨true, fuse, left, steps⟩ = (false, ⟨true, fuse, left, steps⟩) := by simp [Pw.spend]
    rw [hp]
    have HP := Lib.hid hp
    clear hp
    go_enter Try.func30, Try.ntmps30
    go_wp2_with (go_at_call 32; refine (power_on b _ _ h).mono ?_; rintro e w1 ⟨rfl, rfl⟩)
    go_ret
    exact ⟨rfl, h, only_refl w b⟩

theorem power_spend_to (b : Nat) (p p' : Pw) (r : Bool) (w : World) (h : PwAt w b p) (hok : p.ok 9223372036854775806) (hs : p.spend = (r, p')) : Calls Try.prog 30 #[.pointer (some ⟨b, 0, none⟩)] w fun e w' => e = .returned (.bool r) ∧ PwAt w' b p' ∧ w.grownBy w' (some b) := by
  have := power_spend b p w h hok
  rw [hs] at this
  exact this

theorem spend_ok {p : Pw} {most : Int} (h : p.ok most) : p.spend.2.ok (most + 1) := by
  obtain ⟨h0, h1, h2⟩ := h
  unfold Pw.spend
  split
  · exact ⟨h0, by show p.steps ≤ most + 1; omega, h2⟩
  · split
    · exact ⟨h0, by show p.steps ≤ most + 1; omega, h2⟩
    · rename_i hz
      refine ⟨by show 0 ≤ p.steps + 1; omega, by show p.steps + 1 ≤ most + 1; omega, fun hf => ?_⟩
      have hf' : p.fuse = true := hf
      have := h2 hf'
      have hne : p.left ≠ 0 := by intro e; apply hz; simp [hf', e]
      show 0 ≤ (if p.fuse = true then p.left - 1 else p.left) ∧ (if p.fuse = true then p.left - 1 else p.left) ≤ 9223372036854775807
      rw [if_pos hf']; omega
theorem fuse_ok {p : Pw} {most : Int} (h : p.ok most) (n : Int) (hn : n ≤ 9223372036854775807) : (p.setFuse n).ok most :=
  ⟨h.1, h.2.1, fun hf => ⟨of_decide_eq_true hf, hn⟩⟩
theorem back_ok {p : Pw} {most : Int} (h : p.ok most) : p.back.ok most := ⟨h.1, h.2.1, fun hf => by cases hf⟩
theorem new_ok : Pw.new.ok 0 := ⟨by decide, by decide, fun hf => by cases hf⟩
theorem ok_mono {p : Pw} {a b : Int} (h : p.ok a) (hab : a ≤ b) : p.ok b := ⟨h.1, by have := h.2.1; omega, h.2.2⟩

/-! a nil Power -/
set_option maxRecDepth 100000 in
set_option maxHeartbeats 2000000 in
theorem nil_fuse (n : Int) (w : World) : Calls Try.prog 24 #[.pointer none, .int .i64 n] w fun e w' => e = .returned (.tuple #[]) ∧ w = w' := by
  go_enter Try.func24, Try.ntmps24
  go_wp2
  go_end0
  exact ⟨rfl, rfl⟩

set_option maxRecDepth 100000 in
set_option maxHeartbeats 2000000 in
theorem nil_back (w : World) : Calls Try.prog 26 #[.pointer none] w fun e w' => e = .returned (.tuple #[]) ∧ w = w' := by
  go_enter Try.func26, Try.ntmps26
  go_wp2
  go_end0
  exact ⟨rfl, rfl⟩

set_option maxRecDepth 100000 in
set_option maxHeartbeats 2000000 in
theorem nil_on (w : World) : Calls Try.prog 32 #[.pointer none] w fun e w' => e = .returned (.bool false) ∧ w = w' := by
  go_enter Try.func32, Try.ntmps32
  go_wp2
  go_ret
  exact ⟨rfl, rfl⟩

set_option maxRecDepth 100000 in
set_option maxHeartbeats 2000000 in
theorem nil_steps (w : World) : Calls Try.prog 16 #[.pointer none] w fun e w' => e = .returned (.int .i64 0) ∧ w = w' := by
  go_enter Try.func16, Try.ntmps16
  go_wp2
  go_ret
  exact ⟨rfl, rfl⟩

set_option maxRecDepth 100000 in
set_option maxHeartbeats 2000000 in
theorem nil_spend (w : World) : Calls Try.prog 30 #[.pointer none] w fun e w' => e = .returned (.bool false) ∧ w = w' := by
  go_enter Try.func30, Try.ntmps30
  go_wp2_with (go_at_call 32; refine (nil_on _).mono ?_; rintro e w1 ⟨rfl, rfl⟩)
  go_ret
  exact ⟨rfl, rfl⟩

end Go.Proofs.Ytpbdncnepcibaaa
