/- The reference of chapter 10: what its functions do to its Power; and that it answers as the program's. -/
import Derived.Test.YtpbdncnepcibaaaPower
import Derived.Test.YtpbdncnepcibaaaActs
import Derived.Test.YtpbdncnepcibaaaChg
namespace Go.Proofs.Ytpbdncnepcibaaa
open Go Go.RowKit

/-- the reference's Power: as the program's, but for the number that is left -/
def RefAt (w : World) (b : Nat) (p : Pw) (l : Int) : Prop := Blk w b #[.bool p.gone, .bool p.fuse, .int .i64 l, .int .i64 p.steps] 43
def Twin (p : Pw) (l : Int) : Prop := p.fuse = true → l = p.left

theorem ref_free {w : World} {b : Nat} {p : Pw} {l : Int} (h : RefAt w b p l) :
    w.frozen? ⟨b, 0, none⟩ = false ∧ w.frozen? ⟨b, 1, none⟩ = false ∧ w.frozen? ⟨b, 2, none⟩ = false ∧ w.frozen? ⟨b, 3, none⟩ = false :=
  ⟨Blk.free h 0, Blk.free h 1, Blk.free h 2, Blk.free h 3⟩
theorem ref_cells {w : World} {b : Nat} {p : Pw} {l : Int} (h : RefAt w b p l) :
    w.cell? ⟨b, 0, none⟩ = some (.bool p.gone) ∧ w.cell? ⟨b, 1, none⟩ = some (.bool p.fuse) ∧ w.cell? ⟨b, 2, none⟩ = some (.int .i64 l) ∧ w.cell? ⟨b, 3, none⟩ = some (.int .i64 p.steps) :=
  ⟨Blk.cell h 0, Blk.cell h 1, Blk.cell h 2, Blk.cell h 3⟩

set_option maxRecDepth 100000 in
set_option maxHeartbeats 2000000 in
theorem ref_fuse (b : Nat) (p : Pw) (l n : Int) (w : World) (h : RefAt w b p l) : Calls Try.prog 25 #[.pointer (some ⟨b, 0, none⟩), .int .i64 n] w fun e w' => e = .returned (.tuple #[]) ∧ RefAt w' b (p.setFuse n) n ∧ w.grownBy w' (some b) := by
  obtain ⟨c0, c1, c2, c3⟩ := ref_cells h
  obtain ⟨f0, f1, f2, f3⟩ := ref_free h
  go_enter Try.func25, Try.ntmps25
  go_wp2
  go_end0
  exact ⟨rfl, (Blk.set h 1 _).set 2 _, only_set (only_set (only_refl w b) 1 _) 2 _⟩

set_option maxRecDepth 100000 in
set_option maxHeartbeats 2000000 in
theorem ref_back (b : Nat) (p : Pw) (l : Int) (w : World) (h : RefAt w b p l) : Calls Try.prog 27 #[.pointer (some ⟨b, 0, none⟩)] w fun e w' => e = .returned (.tuple #[]) ∧ RefAt w' b p.back l ∧ w.grownBy w' (some b) := by
  obtain ⟨c0, c1, c2, c3⟩ := ref_cells h
  obtain ⟨f0, f1, f2, f3⟩ := ref_free h
  go_enter Try.func27, Try.ntmps27
  go_wp2
  go_end0
  exact ⟨rfl, (Blk.set h 0 _).set 1 _, only_set (only_set (only_refl w b) 0 _) 1 _⟩

set_option maxRecDepth 100000 in
set_option maxHeartbeats 2000000 in
theorem ref_spend (b : Nat) (p : Pw) (l : Int) (w : World) (h : RefAt w b p l) (ht : Twin p l) (hok : p.ok 9223372036854775806) : Calls Try.prog 34 #[.pointer (some ⟨b, 0, none⟩)] w fun e w' => e = .returned (.bool p.spend.1) ∧ (∃ l', RefAt w' b p.spend.2 l' ∧ Twin p.spend.2 l') ∧ w.grownBy w' (some b) := by
  obtain ⟨c0, c1, c2, c3⟩ := ref_cells h
  obtain ⟨f0, f1, f2, f3⟩ := ref_free h
  obtain ⟨gone, fuse, left, steps⟩ := p
  simp only at c0 c1 c2 c3
  obtain ⟨s0, s1, hl⟩ := hok
  simp only at s0 s1 hl
  have HT := Lib.hid ht
  cases gone
  · cases fuse
    · have hp : Pw.spend ⟨false, false, left, steps⟩ = (true, ⟨false, false, left, steps + 1⟩) := by simp [Pw.spend]
      rw [hp]
      have HP := Lib.hid hp
      clear hp hl ht
      go_enter Try.func34, Try.ntmps34
      go_wp2
      go_ret
      exact ⟨rfl, ⟨_, (Blk.set h 2 _).set 3 _, fun h => by cases h⟩, only_set (only_set (only_refl w b) 2 _) 3 _⟩
    · obtain ⟨l0, l1⟩ := hl rfl
      have := ht rfl
      simp only at this
      subst this
      clear hl ht HT
      by_cases hz : l = 0
      · subst hz
        have hp : Pw.spend ⟨false, true, 0, steps⟩ = (false, ⟨true, true, 0, steps⟩) := by simp [Pw.spend]
        rw [hp]
        have HP := Lib.hid hp
        clear hp
        go_enter Try.func34, Try.ntmps34
        go_wp2
        go_ret
        exact ⟨rfl, ⟨_, Blk.set h 0 _, fun _ => rfl⟩, only_set (only_refl w b) 0 _⟩
      · have hz' : (l == 0) = false := by simpa using hz
        have hp : Pw.spend ⟨false, true, l, steps⟩ = (true, ⟨false, true, l - 1, steps + 1⟩) := by simp [Pw.spend, hz]
        rw [hp]
        have HP := Lib.hid hp
        clear hp
        go_enter Try.func34, Try.ntmps34
        go_wp2
        go_ret
        exact ⟨rfl, ⟨_, (Blk.set h 2 _).set 3 _, fun _ => rfl⟩, only_set (only_set (only_refl w b) 2 _) 3 _⟩
  · have hp : Pw.spend ⟨true, fuse, left, steps⟩ = (false, ⟨true, fuse, left, steps⟩) := by simp [Pw.spend]
    rw [hp]
    have HP := Lib.hid hp
    clear hp hl
    go_enter Try.func34, Try.ntmps34
    go_wp2
    go_ret
    exact ⟨rfl, ⟨_, h, HT.out⟩, only_refl w b⟩

end Go.Proofs.Ytpbdncnepcibaaa
