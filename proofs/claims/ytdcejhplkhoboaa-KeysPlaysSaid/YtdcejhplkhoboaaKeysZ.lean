/- Keys in memory: Erase, and the reference's Add. -/
import Derived.Test.YtdcejhplkhoboaaKeysY
namespace Go.Proofs.Ytdcejhplkhoboaa
open Go Go.RowKit

set_option maxRecDepth 100000 in
set_option maxHeartbeats 4000000 in
theorem erase_any (K b g : Nat) (seed : BitVec 64) (l : List (BitVec 32)) (cap : Nat) (below : BitVec 32) (p p' : Pw) (r : Bool) (h0 : 0 < l.length) (hl : l.length ≤ 90000) (w : World) (h : KeysAt 56 w K b g seed l cap) (hp : PwAt w b p) (hok : p.ok 9223372036854775806) (hsp : p.spend = (r, p')) :
    Calls Try.prog 13 #[.pointer (some ⟨K, 0, none⟩), W below] w fun e w' => ∃ g' cap', e = .returned (.bool r) ∧ PwAt w' b p' ∧ KeysAt 56 w' K b g' seed (delL r l below) cap' ∧ (g' = g ∨ w.heap.size ≤ g') ∧ Chg [b, K, g] w w' := by
  obtain ⟨cur, hcur⟩ := h.blkg
  have hbK : b ≠ K := blk_ne hp h.blk (by decide)
  have hbg : b ≠ g := blk_ne hp hcur (by decide)
  have hKg : K ≠ g := blk_ne h.blk hcur (by decide)
  have hgl := hcur.lt
  have hKl := h.blk.lt
  have hbl := Blk.lt hp
  have hka : Chg [b] w (w.alloc (.cells #[W below] 23)) := Chg.of_kept ((Below.refl _ _).alloc (Nat.le_refl _) _)
  have ha := h.kept (((Below.refl _ _).alloc (Nat.le_refl _) _) : Kept w (w.alloc (.cells #[W below] 23)))
  have pa := Blk.kept hp (((Below.refl _ _).alloc (Nat.le_refl _) _) : Kept w (w.alloc (.cells #[W below] 23)))
  have hB1 := Blk.new w #[W below] 23
  obtain ⟨e0, _, _⟩ := ha.cells
  go_enter Try.func13, Try.ntmps13
  go_wp2_with fail
  generalize hwa : w.alloc (.cells #[W below] 23) = wa at *
  refine (power_spend_to b p p' r _ pa hok hsp).mono ?_
  rintro e w1 ⟨rfl, p1, g1⟩
  have g1 := Chg.of_grown g1
  have h1 := ha.chg g1 (by simpa using hbK.symm) (by simpa using hbg.symm)
  have hB2 := g1.blk hB1 (by simp; omega)
  have g2 := hka.trans g1
  have s2 := g2.size
  clear hwa e0 hcur
  cases r
  · go_wp2
    go_ret
    exact ⟨g, cap, rfl, p1, h1, .inl rfl, g2.mono (by simp)⟩
  · go_wp2_with fail
    refine (cur_any _ _ _ _ l _ h0 (by omega) _ h1).mono ?_
    rintro e w2 ⟨rfl, hk2⟩
    have hk3 : Kept w2 (w2.alloc (.cells #[W (nowOf l)] 23)) := (Below.refl _ _).alloc (Nat.le_refl _) _
    have h3 := (h1.kept hk2).kept hk3
    have b3 := (hB2.kept hk2).kept hk3
    have n3 := Blk.new w2 #[W (nowOf l)] 23
    have c3 : Chg [b] w (w2.alloc (.cells #[W (nowOf l)] 23)) := g2.trans (Chg.of_kept (Kept.of hk2 hk3))
    have p3 := Blk.kept (Blk.kept p1 hk2) hk3
    have s3 := hk2.size
    have d1 : w.heap.size ≠ g := by omega
    have d2 : w2.heap.size ≠ g := by omega
    obtain ⟨_, _, e2⟩ := h3.cells
    go_wp2_with fail
    refine (deletef_any below (nowOf l) _ _ g cap l (by omega) _ (b3.cell 0) (n3.cell 0) d1 d2 h3.row).mono ?_
    rintro e w4 ⟨rfl, hown4, c4⟩
    have hb4 := c4.blk h3.blk (by simpa using hKg)
    have f2 := hb4.free 2
    have e3 := hb4.cell 2
    obtain ⟨R, hR⟩ : ∃ R, R = l.filter fun e => !gone below (nowOf l) e := ⟨_, rfl⟩
    rw [← hR] at hown4 ⊢
    have HR := Lib.hid hR
    clear e2 hR
    go_wp2
    go_ret
    have hq : Chg [K] w4 (w4.setCell ⟨K, 2, none⟩ (.slice (some ⟨g, 0, none⟩) R.length cap)) := Chg.step (by simp) _
    have hd : delL true l below = R := HR.out.symm
    rw [hd]
    refine ⟨g, cap, rfl, ?_, ⟨by simpa using hb4.set 2 (.slice (some ⟨g, 0, none⟩) R.length cap), own_chg hown4 hq (by simpa using hKg.symm)⟩, .inl rfl, ?_⟩
    · exact hq.blk (c4.blk p3 (by simpa using hbg)) (by simpa using hbK)
    · exact (c3.mono (by simp)).trans ((c4.mono (by simp)).trans (hq.mono (by simp)))

set_option maxRecDepth 100000 in
set_option maxHeartbeats 4000000 in
theorem radd_any (K b g : Nat) (seed : BitVec 64) (l : List (BitVec 32)) (cap : Nat) (p p' : Pw) (r : Bool) (m : Int) (h0 : 0 < l.length) (hl : l.length ≤ 90000) (w : World) (h : KeysAt 52 w K b g seed l cap) (hp : RefAt w b p m) (ht : Twin p m) (hok : p.ok 9223372036854775806) (hsp : p.spend = (r, p')) :
    Calls Try.prog 18 #[.pointer (some ⟨K, 0, none⟩)] w fun e w' => ∃ g' cap', e = .returned (.bool r) ∧ (∃ m', RefAt w' b p' m' ∧ Twin p' m') ∧ KeysAt 52 w' K b g' seed (addL r l) cap' ∧ (g' = g ∨ w.heap.size ≤ g') ∧ Chg [b, K, g] w w' := by
  obtain ⟨cur, hcur⟩ := h.blkg
  have hbK : b ≠ K := blk_ne hp h.blk (by decide)
  have hbg : b ≠ g := blk_ne hp hcur (by decide)
  have hKg : K ≠ g := blk_ne h.blk hcur (by decide)
  obtain ⟨e0, _, _⟩ := h.cells
  go_enter Try.func18, Try.ntmps18
  go_wp2_with fail
  have hcall := ref_spend b p m _ hp ht hok
  rw [hsp] at hcall
  refine hcall.mono ?_
  rintro e w1 ⟨rfl, ⟨m1, p1, t1⟩, g1⟩
  have g1 := Chg.of_grown g1
  have h1 := h.chg g1 (by simpa using hbK.symm) (by simpa using hbg.symm)
  have s1 := g1.size
  cases r
  · go_wp2
    go_ret
    exact ⟨g, cap, rfl, ⟨m1, p1, t1⟩, h1, .inl rfl, g1.mono (by simp)⟩
  · clear e0 hcur
    have hk0 : Kept w1 (w1.alloc (.cells #[] 23)) := (Below.refl _ _).alloc (Nat.le_refl _) _
    have ho : (w1.alloc (.cells #[] 23)).ownsRow w1.heap.size 23 1 (.slice (some ⟨w1.heap.size, 0, none⟩) 0 0) 0 (wcells []) := ⟨rfl, .inr ⟨w1.heap.size, 0, #[], rfl, Nat.le_refl _, Blk.new w1 _ _, Nat.le_refl _, Nat.zero_le _, rfl, rfl⟩⟩
    have h2 := h1.kept hk0
    have hsl := Sl.of_own h2.row
    obtain ⟨_, _, e2⟩ := h2.cells
    go_wp2_with (at_builtin; refine wpList_append sl_words rfl (by rfl) (by rfl) (by rfl) ho hsl (by simp [wcells]) (oneCell_W _) (by unfold maxLen; omega) (by omega) (by simp) ?_; intro v3 w3 hown3 hg3 hat3)
    have hk3 : Kept w1 w3 := below_append hk0 ho hg3 (by simp)
    have h3 := h1.kept hk3
    obtain ⟨_, _, e3⟩ := h3.cells
    clear e2
    go_wp2_with fail
    refine (rcur_any _ _ _ _ l _ h0 (by omega) _ h3).mono ?_
    rintro e w4 ⟨rfl, hk4⟩
    have hk4' : Kept w1 w4 := Kept.of hk3 hk4
    have hsz4 := hk4'.size
    have ho4 : w4.ownsRow w1.heap.size 23 1 v3 (l.length) (wcells l) := by simpa [wcells] using own_kept hown3 hk4
    have ho4' := ho4.alloc (.cells #[W (nowOf l + 1#32)] 23)
    have hlen : (wcells l).length = l.length := wcells_length l
    go_wp2_with (at_builtin; refine wpList_append sl_words rfl (by rfl) (by rfl) (by rfl) ho4' (Sl.one _ _ _) (by rfl) (oneCell_W [nowOf l + 1#32]) (by unfold maxLen; omega) (by omega) (by simp; omega) ?_; intro v5 w5 hown5 hg5 hat5; have hk5 : Kept w1 w5 := below_append (hk4'.alloc (by omega) _) ho4' hg5 (by simp; omega); obtain ⟨g5, cap5, rfl, hg5l, _⟩ := own_open hown5 (by omega); obtain ⟨cur5, hcur5⟩ := own_blk hown5; have h5 := h1.kept hk5; have hK5 : K ≠ g5 := blk_ne h5.blk hcur5 (by decide); have f5 := h5.blk.free 2; have e5 := h5.blk.cell 2; clear e3)
    go_ret
    have hq : Chg [K] w5 (w5.setCell ⟨K, 2, none⟩ (.slice (some ⟨g5, 0, none⟩) (l.length + 1) cap5)) := Chg.step (by simp) _
    refine ⟨g5, cap5, rfl, ⟨m1, hq.blk (Blk.kept p1 hk5) (by simpa using hbK), t1⟩, ⟨by simpa [addL] using h5.blk.set 2 (.slice (some ⟨g5, 0, none⟩) (l.length + 1) cap5), ?_⟩, .inr (by omega), ?_⟩
    · have := own_base (own_chg hown5 hq (by simpa using hK5.symm)) (Nat.zero_le _)
      rw [addL, if_pos rfl, wcells_append, List.length_append]
      exact this
    · exact (g1.mono (by simp)).trans ((Chg.of_kept hk5).trans (hq.mono (by simp)))


end Go.Proofs.Ytdcejhplkhoboaa
