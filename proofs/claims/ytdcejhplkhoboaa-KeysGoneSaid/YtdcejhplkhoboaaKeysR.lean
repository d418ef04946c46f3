/- Keys in memory: the reference's Erase; a nil Keys. -/
import Derived.Test.YtdcejhplkhoboaaKeysY
namespace Go.Proofs.Ytdcejhplkhoboaa
open Go Go.RowKit

@[go_sem] theorem binW_geq (t : TypeId) (x y : BitVec 32) : binOp .geq t (W x) (W y) = pure (.bool (decide (y ≤ x))) := (binOp_geq ..).trans (by congr 2; simp [BitVec.le_def])
set_option maxRecDepth 100000 in
set_option maxHeartbeats 4000000 in
theorem rerase_any (K b g : Nat) (seed : BitVec 64) (l : List (BitVec 32)) (cap : Nat) (below : BitVec 32) (p p' : Pw) (r : Bool) (m : Int) (h0 : 0 < l.length) (hl : l.length ≤ 90000) (hri : Rising l) (w : World) (h : KeysAt 52 w K b g seed l cap) (hp : RefAt w b p m) (ht : Twin p m) (hok : p.ok 9223372036854775806) (hsp : p.spend = (r, p')) :
    Calls Try.prog 19 #[.pointer (some ⟨K, 0, none⟩), W below] w fun e w' => ∃ g' cap', e = .returned (.bool r) ∧ (∃ m', RefAt w' b p' m' ∧ Twin p' m') ∧ KeysAt 52 w' K b g' seed (delL r l below) cap' ∧ (g' = g ∨ w.heap.size ≤ g') ∧ Chg [b, K, g] w w' := by
  obtain ⟨cur, hcur⟩ := h.blkg
  have hbK : b ≠ K := blk_ne hp h.blk (by decide)
  have hbg : b ≠ g := blk_ne hp hcur (by decide)
  have hKg : K ≠ g := blk_ne h.blk hcur (by decide)
  obtain ⟨e0, _, _⟩ := h.cells
  go_enter Try.func19, Try.ntmps19
  go_wp2_with fail
  have hcall := ref_spend b p m _ hp ht hok
  rw [hsp] at hcall
  refine hcall.mono ?_
  rintro e w1 ⟨rfl, ⟨m1, p1, t1⟩, g1⟩
  have g1 := Chg.of_grown g1
  have h1 := h.chg g1 (by simpa using hbK.symm) (by simpa using hbg.symm)
  have s1 := g1.size
  cases r
  · go_wp2
    go_ret
    exact ⟨g, cap, rfl, ⟨m1, p1, t1⟩, h1, .inl rfl, g1.mono (by simp)⟩
  · clear e0 hcur
    obtain ⟨L, hL⟩ : ∃ L, L = l.length := ⟨_, rfl⟩
    have hLc : L ≤ cap := by
      rcases h.row.2 with ⟨e, _⟩ | ⟨_, _, _, e, _, _, hh, _⟩
      · cases e
      · cases e; omega
    have hnw := eraseL_now l below h0
    rw [← hL] at h0 hl
    have i0 : (L : Int) ≤ 100000 := by omega
    have i1 : IntKind.i64.wrap ((L : Int) - 1) = (L : Int) - 1 := IntWalk.i64_in _ (by omega)
    have HL := Lib.hid hL
    have HN := Lib.hid hnw
    clear hL hnw
    go_wp2_with fail
    go_loopw [5, 6] (fun v i wr => ∃ (k : Nat) (A : List (BitVec 32)), k ≤ L ∧ i = .int .i64 k ∧ A = (l.take k).filter (fun e => !gone below (nowOf l) e) ∧ wr.ownsRow w1.heap.size 23 1 v A.length (wcells A) ∧ Kept w1 wr) (fun _ i _ => L - (intOf i).toNat)
    case atStart => exact ⟨0, [], by omega, rfl, by simp, ⟨rfl, .inl ⟨rfl, rfl⟩⟩, Below.refl _ _⟩
    case round =>
      obtain ⟨k, A, hk, rfl, hA, hown, hb⟩ := hrel
      have hk1 := h1.kept hb
      obtain ⟨_, _, e2⟩ := hk1.cells
      have hAl : A.length ≤ L := by rw [hA, HL.out]; exact Nat.le_trans (List.length_filter_le _ _) (by simp; omega)
      rw [← HL.out] at e2
      have HA := Lib.hid hA
      clear hA
      by_cases hlt : k < L
      · have hkl : k < l.length := by rw [← HL.out]; exact hlt
        obtain ⟨y, hy⟩ : ∃ y, y = l[k] := ⟨_, rfl⟩
        have r0 := hk1.get k y (by rw [hy]; exact List.getElem?_eq_getElem hkl)
        have n3 : (k : Int) < (L : Int) := by omega
        have n4 : (0 : Int) ≤ (k : Int) := by omega
        have HY := Lib.hid hy
        clear hy
        cases hge : decide (below ≤ y)
        · have hlt2 : y < below := BitVec.not_le.1 (of_decide_eq_false hge)
          by_cases hlast : k = L - 1
          · have hq : ((k : Int) == (L : Int) - 1) = true := by simp; omega
            have hgq : gone below (nowOf l) y = false := by
              have : y = nowOf l := by
                rw [HY.out, ← Option.some_inj, ← List.getElem?_eq_getElem hkl, ← nowOf_get l (by omega), hlast, HL.out]
              unfold gone; rw [this]; simp
            have HG := Lib.hid hgq
            clear hlt2 hlast hgq
            have ho2 := hown.alloc (.cells #[W y] 23)
            have hsz := hb.size
            go_wp2_with (at_builtin; refine wpList_append sl_words rfl (by rfl) (by rfl) (by rfl) ho2 (Sl.one _ _ _) (by rfl) (oneCell_W [y]) (by unfold maxLen; omega) (by omega) (by simp; omega) ?_; intro v5 w5 hown5 hg5 hat5)
            refine ⟨⟨k + 1, A ++ [y], by omega, by go_num, ?_, ?_, below_append (hb.alloc (by omega) _) ho2 hg5 (by simp; omega)⟩, by simp [intOf]; omega⟩
            · rw [filter_snoc_keep below (nowOf l) l k hkl (by rw [← HY.out]; exact HG.out), ← HA.out, ← HY.out]
            · rw [wcells_append, List.length_append]; exact hown5
          · have hq : ((k : Int) == (L : Int) - 1) = false := by
              have : ¬ (k : Int) = (L : Int) - 1 := by omega
              simpa using this
            have hgq : gone below (nowOf l) y = true := by
              have : y ≠ nowOf l := by rw [HY.out]; exact rising_lt hri k (by rw [← HL.out]; omega)
              unfold gone; simp [hlt2, this]
            have HG := Lib.hid hgq
            clear hlt2 hlast hgq
            go_wp2
            refine ⟨⟨k + 1, A, by omega, by go_num, ?_, hown, hb⟩, by simp [intOf]; omega⟩
            rw [filter_snoc_gone below (nowOf l) l k hkl (by rw [← HY.out]; exact HG.out), ← HA.out]
        · have hgq : gone below (nowOf l) y = false := by
            have : ¬ y < below := BitVec.not_lt.2 (of_decide_eq_true hge)
            unfold gone; simp [this]
          have HG := Lib.hid hgq
          clear hgq
          have ho2 := hown.alloc (.cells #[W y] 23)
          have hsz := hb.size
          go_wp2_with (at_builtin; refine wpList_append sl_words rfl (by rfl) (by rfl) (by rfl) ho2 (Sl.one _ _ _) (by rfl) (oneCell_W [y]) (by unfold maxLen; omega) (by omega) (by simp; omega) ?_; intro v5 w5 hown5 hg5 hat5)
          refine ⟨⟨k + 1, A ++ [y], by omega, by go_num, ?_, ?_, below_append (hb.alloc (by omega) _) ho2 hg5 (by simp; omega)⟩, by simp [intOf]; omega⟩
          · rw [filter_snoc_keep below (nowOf l) l k hkl (by rw [← HY.out]; exact HG.out), ← HA.out, ← HY.out]
          · rw [wcells_append, List.length_append]; exact hown5
      · have hkL : k = L := by omega
        have hR : A = eraseL l below := by rw [HA.out, hkL, HL.out, List.take_length]; rfl
        obtain ⟨gN, capN, rfl, hgN, _⟩ := own_open hown (by rw [hR]; exact HN.out.1)
        obtain ⟨curN, hcurN⟩ := own_blk hown
        have hKN : K ≠ gN := blk_ne hk1.blk hcurN (by decide)
        have f2 := hk1.blk.free 2
        have HR := Lib.hid hR
        have HK := Lib.hid hkL
        clear hR hkL
        go_wp2
        go_ret
        have hq : Chg [K] wr (wr.setCell ⟨K, 2, none⟩ (.slice (some ⟨gN, 0, none⟩) A.length capN)) := Chg.step (by simp) _
        have hd : delL true l below = A := HR.out.symm
        rw [hd]
        refine ⟨gN, capN, rfl, ⟨m1, hq.blk (Blk.kept p1 hb) (by simpa using hbK), t1⟩, ⟨by simpa using hk1.blk.set 2 (.slice (some ⟨gN, 0, none⟩) A.length capN), own_base (own_chg hown hq (by simpa using hKN.symm)) (Nat.zero_le _)⟩, .inr (by omega), ?_⟩
        exact (g1.mono (by simp)).trans ((Chg.of_kept hb).trans (hq.mono (by simp)))


end Go.Proofs.Ytdcejhplkhoboaa
