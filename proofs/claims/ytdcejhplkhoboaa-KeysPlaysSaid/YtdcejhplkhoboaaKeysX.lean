/- Keys in memory: Key, New. -/
import Derived.Test.YtdcejhplkhoboaaKeysW
namespace Go.Proofs.Ytdcejhplkhoboaa
open Go Go.RowKit

/-- what Key answers -/
def keyP (seed : BitVec 64) (l : List (BitVec 32)) (e : BitVec 32) : Pair := if l.contains e then keyOf seed e else (0#64, 0#64)

set_option maxRecDepth 100000 in
set_option maxHeartbeats 4000000 in
theorem key_any (K b g : Nat) (seed : BitVec 64) (l : List (BitVec 32)) (cap : Nat) (x : BitVec 32) (h0 : 0 < l.length) (hl : l.length ≤ 100000) (w : World) (h : KeysAt 56 w K b g seed l cap) : Calls Try.prog 14 #[.pointer (some ⟨K, 0, none⟩), W x] w fun r w' => r = .returned (.tuple #[Pr (keyP seed l x), .bool (l.contains x)]) ∧ Kept w w' := by
  have hka : Kept w (w.alloc (.cells #[U 0#64, U 0#64] 25)) := (Below.refl _ _).alloc (Nat.le_refl _) _
  have hsz : w.heap.size < (w.alloc (.cells #[U 0#64, U 0#64] 25)).heap.size := by simp
  have hbk := Blk.new w #[U 0#64, U 0#64] 25
  go_enter Try.func14, Try.ntmps14
  go_wp2_with fail
  refine (epochs_any _ _ _ _ l _ h0 hl _ (h.kept hka)).mono ?_
  rintro r w1 ⟨v, rfl, hown, hk1⟩
  obtain ⟨g1, cap1, rfl, _, _⟩ := own_open hown h0
  have hs := Sl.of_own hown
  have hb1 := hbk.kept hk1
  have k1 : Kept w w1 := Kept.of hka hk1
  clear hbk hk1 hka hsz
  go_wp2_with fail
  refine (contains_any _ _ l x hl _ hs).mono ?_
  rintro r w2 ⟨rfl, rfl⟩
  have c0 := hb1.cell 0
  have c1 := hb1.cell 1
  have f0 := hb1.free 0
  have f1 := hb1.free 1
  cases hc : l.contains x
  · have HC := Lib.hid hc
    clear hc
    go_wp2
    have d := (hb1.set 0 (U 0#64)).set 1 (U 0#64)
    have d0 := d.cell 0
    have d1 := d.cell 1
    refine bodyPost_ret (v := .tuple #[Pr (0#64, 0#64), .bool false]) (by simp [results, Try.results14, go_sem, d0, d1]; try exact ⟨rfl, rfl⟩) rfl ⟨by simp only [keyP, HC.out]; rfl, ?_⟩
    exact (k1.setCell (Nat.le_refl _) _).setCell (Nat.le_refl _) _
  · have HC := Lib.hid hc
    clear hc
    obtain ⟨_, e1, _⟩ := (h.kept k1).cells
    go_wp2_with fail
    refine (keyof_any seed x _).mono ?_
    rintro r w3 ⟨rfl, hk3⟩
    obtain ⟨q, hq⟩ : ∃ q, q = keyOf seed x := ⟨_, rfl⟩
    rw [← hq]
    have HQ := Lib.hid hq
    clear hq
    have hb3 := hb1.kept hk3
    have k3 : Kept w w3 := Kept.of k1 hk3
    clear hb1 c0 c1 f0 f1 k1 hk3 e1
    have c0 := hb3.cell 0
    have c1 := hb3.cell 1
    have f0 := hb3.free 0
    have f1 := hb3.free 1
    go_wp2
    have d := (hb3.set 0 (U q.1)).set 1 (U q.2)
    have d0 := d.cell 0
    have d1 := d.cell 1
    refine bodyPost_ret (v := .tuple #[Pr q, .bool true]) (by simp [results, Try.results14, go_sem, d0, d1]; try exact ⟨rfl, rfl⟩) rfl ⟨by simp only [keyP, HC.out, HQ.out]; rfl, ?_⟩
    exact (k3.setCell (Nat.le_refl _) _).setCell (Nat.le_refl _) _

set_option maxRecDepth 100000 in
set_option maxHeartbeats 4000000 in
theorem rkey_any (K b g : Nat) (seed : BitVec 64) (l : List (BitVec 32)) (cap : Nat) (x : BitVec 32) (h0 : 0 < l.length) (hl : l.length ≤ 100000) (w : World) (h : KeysAt 52 w K b g seed l cap) : Calls Try.prog 26 #[.pointer (some ⟨K, 0, none⟩), W x] w fun r w' => r = .returned (.tuple #[Pr (keyP seed l x), .bool (l.contains x)]) ∧ Kept w w' := by
  have hka : Kept w (w.alloc (.cells #[U 0#64, U 0#64] 25)) := (Below.refl _ _).alloc (Nat.le_refl _) _
  have hbk := Blk.new w #[U 0#64, U 0#64] 25
  obtain ⟨L, hL⟩ : ∃ L, L = l.length := ⟨_, rfl⟩
  obtain ⟨d0, d1, d2⟩ := (h.kept hka).cells
  have hget := (h.kept hka).get
  have hLc : L ≤ cap := by
    rcases h.row.2 with ⟨e, _⟩ | ⟨_, _, _, e, _, _, hh, _⟩
    · cases e
    · cases e; omega
  rw [← hL] at d2 hl h0
  have i0 : (L : Int) ≤ 100000 := by omega
  have HL := Lib.hid hL
  clear hL h
  go_enter Try.func26, Try.ntmps26
  go_wp2_with fail
  generalize hw1 : w.alloc (.cells #[U 0#64, U 0#64] 25) = w1 at *
  have c0 := hbk.cell 0
  have c1 := hbk.cell 1
  have f0 := hbk.free 0
  have f1 := hbk.free 1
  clear hw1
  go_loopw [6] (fun i wr => ∃ k : Nat, k ≤ L ∧ i = .int .i64 k ∧ (l.take k).contains x = false ∧ w1 = wr) (fun i _ => L - (intOf i).toNat)
  case atStart => exact ⟨0, by omega, rfl, by simp, rfl⟩
  case round =>
    obtain ⟨k, hk, rfl, hc, rfl⟩ := hrel
    by_cases hlt : k < L
    · have hkl : k < l.length := by rw [← HL.out]; exact hlt
      obtain ⟨y, hy⟩ : ∃ y, y = l[k] := ⟨_, rfl⟩
      have r0 := hget k y (by rw [hy]; exact List.getElem?_eq_getElem hkl)
      have hts : l.take (k + 1) = l.take k ++ [y] := by rw [List.take_succ_eq_append_getElem hkl, hy]
      have n3 : (k : Int) < (L : Int) := by omega
      have n4 : (0 : Int) ≤ (k : Int) := by omega
      have HC := Lib.hid hc
      have HY := Lib.hid hy
      have HTS := Lib.hid hts
      have HX := Lib.hid hget
      clear hc hy hts hget
      cases hxy : (y == x)
      · go_wp2
        refine ⟨⟨k + 1, by omega, by go_num, ?_, trivial⟩, by simp [intOf]; omega⟩
        rw [HTS.out]
        simp only [List.contains_append, HC.out, Bool.false_or]
        have hxy2 : ¬ y = x := by simpa using hxy
        have : ¬ x = y := fun e => hxy2 e.symm
        simpa using this
      · have hxy' : y = x := by simpa using hxy
        have HXY := Lib.hid hxy'
        have hmem : l.contains x = true := by
          have : x ∈ l := by rw [← HXY.out, HY.out]; exact List.getElem_mem hkl
          simpa using this
        have HM := Lib.hid hmem
        clear hxy' hmem
        go_wp2_with fail
        refine (rkeyof_any seed x _).mono ?_
        rintro r w3 ⟨rfl, hk3⟩
        obtain ⟨q, hq⟩ : ∃ q, q = keyOf seed x := ⟨_, rfl⟩
        rw [← hq]
        have HQ := Lib.hid hq
        clear hq
        have hb3 := hbk.kept hk3
        have k3 : Kept w w3 := Kept.of hka hk3
        clear c0 c1 f0 f1 d0 d1 d2 r0 hk3
        have c0 := hb3.cell 0
        have c1 := hb3.cell 1
        have f0 := hb3.free 0
        have f1 := hb3.free 1
        go_wp2
        try rw [Exit.noGoto_ret]
        have d := (hb3.set 0 (U q.1)).set 1 (U q.2)
        have d0 := d.cell 0
        have d1 := d.cell 1
        refine bodyPost_ret (v := .tuple #[Pr q, .bool true]) (by simp [results, Try.results26, go_sem, d0, d1]; try exact ⟨rfl, rfl⟩) rfl ⟨by simp only [keyP, HM.out, HQ.out]; rfl, ?_⟩
        exact (k3.setCell (Nat.le_refl _) _).setCell (Nat.le_refl _) _
    · have : k = L := by omega
      have HK := Lib.hid this
      have HC := Lib.hid hc
      clear this hc
      have hno : l.contains x = false := by
        have := HC.out
        rwa [List.take_of_length_le (by rw [HK.out, HL.out]; exact Nat.le_refl _)] at this
      have HN := Lib.hid hno
      clear hno
      go_wp2
      have d := (hbk.set 0 (U 0#64)).set 1 (U 0#64)
      have d0 := d.cell 0
      have d1 := d.cell 1
      refine bodyPost_ret (v := .tuple #[Pr (0#64, 0#64), .bool false]) (by simp [results, Try.results26, go_sem, d0, d1]; try exact ⟨rfl, rfl⟩) rfl ⟨by simp only [keyP, HN.out]; rfl, ?_⟩
      exact (hka.setCell (Nat.le_refl _) _).setCell (Nat.le_refl _) _

set_option maxRecDepth 100000 in
set_option maxHeartbeats 4000000 in
theorem keys_new (seed : BitVec 64) (b : Nat) (w : World) : Calls Try.prog 10 #[U seed, .pointer (some ⟨b, 0, none⟩)] w fun r w' => r = .returned (.pointer (some ⟨w.heap.size + 1, 0, none⟩)) ∧ KeysAt 56 w' (w.heap.size + 1) b w.heap.size seed [1#32] 1 ∧ Kept w w' ∧ w'.heap.size = w.heap.size + 2 := by
  go_enter Try.func10, Try.ntmps10
  go_wp2
  go_ret
  have h1 := (Blk.new w #[W 1#32] 23).alloc (.cells #[.pointer (some ⟨b, 0, none⟩), U seed, .slice (some ⟨w.heap.size, 0, none⟩) 1 1] 56)
  have h2 := Blk.new (w.alloc (.cells #[W 1#32] 23)) #[.pointer (some ⟨b, 0, none⟩), U seed, .slice (some ⟨w.heap.size, 0, none⟩) 1 1] 56
  rw [show (w.alloc (.cells #[W 1#32] 23)).heap.size = w.heap.size + 1 by simp] at h2
  refine ⟨rfl, ⟨h2, ⟨rfl, .inr ⟨w.heap.size, 1, #[W 1#32], rfl, Nat.zero_le _, h1, Nat.le_refl _, by decide, rfl, rfl⟩⟩⟩, ((Below.refl _ _).alloc (Nat.le_refl _) _).alloc (by simp) _, by simp⟩

set_option maxRecDepth 100000 in
set_option maxHeartbeats 4000000 in
theorem rkeys_new (seed : BitVec 64) (b : Nat) (w : World) : Calls Try.prog 17 #[U seed, .pointer (some ⟨b, 0, none⟩)] w fun r w' => r = .returned (.pointer (some ⟨w.heap.size + 1, 0, none⟩)) ∧ KeysAt 52 w' (w.heap.size + 1) b w.heap.size seed [1#32] 1 ∧ Kept w w' ∧ w'.heap.size = w.heap.size + 2 := by
  go_enter Try.func17, Try.ntmps17
  go_wp2
  go_ret
  have h1 := (Blk.new w #[W 1#32] 23).alloc (.cells #[.pointer (some ⟨b, 0, none⟩), U seed, .slice (some ⟨w.heap.size, 0, none⟩) 1 1] 52)
  have h2 := Blk.new (w.alloc (.cells #[W 1#32] 23)) #[.pointer (some ⟨b, 0, none⟩), U seed, .slice (some ⟨w.heap.size, 0, none⟩) 1 1] 52
  rw [show (w.alloc (.cells #[W 1#32] 23)).heap.size = w.heap.size + 1 by simp] at h2
  refine ⟨rfl, ⟨h2, ⟨rfl, .inr ⟨w.heap.size, 1, #[W 1#32], rfl, Nat.zero_le _, h1, Nat.le_refl _, by decide, rfl, rfl⟩⟩⟩, ((Below.refl _ _).alloc (Nat.le_refl _) _).alloc (by simp) _, by simp⟩


end Go.Proofs.Ytdcejhplkhoboaa
