/- Keys in memory: Add, Erase. -/
import Derived.Test.YtdcejhplkhoboaaKeysX
namespace Go.Proofs.Ytdcejhplkhoboaa
open Go Go.RowKit

attribute [go_sem] binW_add
@[go_sem] theorem binW_add1 (t : TypeId) (x : BitVec 32) : binOp .add t (W x) (.int .u32 1) = pure (W (x + 1#32)) := binW_add t x 1#32
theorem Grew.chg {g k : Nat} {e : TypeId} {w w' : World} {row : Option Nat} (h : Grew row k e w w') (hr : ∀ i, row = some i → i = g) : Chg [g] w w' :=
  ⟨h.os, h.tape, h.output, h.size, fun i hi hn => by
    rcases h.block i hi with hs | ⟨hr', _⟩
    · exact hs
    · exact absurd (hr i hr') (by simpa using hn)⟩
theorem own_blk {w : World} {B g n cap : Nat} {e : TypeId} {xs : List Value} (h : w.ownsRow B e 1 (.slice (some ⟨g, 0, none⟩) n cap) n xs) : ∃ cur, Blk w g cur e := by
  rcases h.2 with ⟨h0, _⟩ | ⟨_, _, cur, e', _, hb, _⟩
  · cases h0
  · cases e'; exact ⟨cur, hb⟩
/-- Add's row -/
def addL (r : Bool) (l : List (BitVec 32)) : List (BitVec 32) := if r then l ++ [nowOf l + 1#32] else l
def delL (r : Bool) (l : List (BitVec 32)) (below : BitVec 32) : List (BitVec 32) := if r then eraseL l below else l

set_option maxRecDepth 100000 in
set_option maxHeartbeats 4000000 in
theorem add_any (K b g : Nat) (seed : BitVec 64) (l : List (BitVec 32)) (cap : Nat) (p p' : Pw) (r : Bool) (h0 : 0 < l.length) (hl : l.length ≤ 90000) (w : World) (h : KeysAt 56 w K b g seed l cap) (hp : PwAt w b p) (hok : p.ok 9223372036854775806) (hsp : p.spend = (r, p')) :
    Calls Try.prog 12 #[.pointer (some ⟨K, 0, none⟩)] w fun e w' => ∃ g' cap', e = .returned (.bool r) ∧ PwAt w' b p' ∧ KeysAt 56 w' K b g' seed (addL r l) cap' ∧ (g' = g ∨ w.heap.size ≤ g') ∧ Chg [b, K, g] w w' := by
  obtain ⟨cur, hcur⟩ := h.blkg
  have hbK : b ≠ K := blk_ne hp h.blk (by decide)
  have hbg : b ≠ g := blk_ne hp hcur (by decide)
  have hKg : K ≠ g := blk_ne h.blk hcur (by decide)
  obtain ⟨e0, _, _⟩ := h.cells
  go_enter Try.func12, Try.ntmps12
  go_wp2_with fail
  refine (power_spend_to b p p' r _ hp hok hsp).mono ?_
  rintro e w1 ⟨rfl, p1, g1⟩
  have g1 := Chg.of_grown g1
  have h1 := h.chg g1 (by simpa using hbK.symm) (by simpa using hbg.symm)
  cases r
  · go_wp2
    go_ret
    exact ⟨g, cap, rfl, p1, h1, .inl rfl, g1.mono (by simp)⟩
  · clear e0 hcur
    have s1 := g1.size
    go_wp2_with fail
    refine wp_region_chainChg [g] [(0, 0), (1, 0), (2, 0), (3, 0), (4, 0), (5, 0), (6, 1), (7, 0), (8, 1), (9, 1), (10, 2), (11, 2), (12, 2)] (by kernel_rfl) (by kernel_rfl) ?_
    intro w2 hw2
    replace h1 := h1.kept hw2
    repeat
      refine chain_light _ rfl (fun K hK => ?_)
      first
        | (refine (if_pos (by rfl)).mpr ?_; apply Exists.intro; refine ⟨fun w' hw' => ?_, hK _ ?_⟩; (have d2 := hw'.cell h1.cells.2.2 (by simpa using hKg); go_simp; done); (clear hK K; simp only [Act.put, List.setIfInBounds_toArray, List.set_cons_zero, List.set_cons_succ]))
        | (refine (if_pos (by rfl)).mpr ?_; apply Exists.intro; refine ⟨fun w' hw' => ?_, hK _ ?_⟩; (have d2 := hw'.cell h1.cells.2.2 (by simpa using hKg); go_simp; rfl); (clear hK K; simp only [Act.put, List.setIfInBounds_toArray, List.set_cons_zero, List.set_cons_succ]))
        | (refine (if_neg (by rw [Bool.not_eq_true]; rfl)).mpr ?_; refine hK _ ?_; (clear hK K; simp only [Act.put, List.setIfInBounds_toArray, List.set_cons_zero, List.set_cons_succ]))
    refine chain_heavy _ rfl (fun K hK => ?_)
    refine (if_pos (by rfl)).mpr ?_
    go_wp2_with fail
    refine (cur_any _ _ _ _ l _ h0 (by omega) _ h1).mono ?_
    rintro e w3 ⟨rfl, hk3⟩
    go_wp2
    refine hK _ _ (Chg.of_kept hk3) ?_
    clear hK K
    try simp only [Act.put, List.setIfInBounds_toArray, List.set_cons_zero, List.set_cons_succ]
    repeat
      refine chain_light _ rfl (fun K hK => ?_)
      first
        | (refine (if_pos (by rfl)).mpr ?_; apply Exists.intro; refine ⟨fun w' hw' => ?_, hK _ ?_⟩; (go_simp; done); (clear hK K; simp only [Act.put, List.setIfInBounds_toArray, List.set_cons_zero, List.set_cons_succ]))
        | (refine (if_pos (by rfl)).mpr ?_; apply Exists.intro; refine ⟨fun w' hw' => ?_, hK _ ?_⟩; (go_simp; rfl); (clear hK K; simp only [Act.put, List.setIfInBounds_toArray, List.set_cons_zero, List.set_cons_succ]))
        | (refine (if_neg (by rw [Bool.not_eq_true]; rfl)).mpr ?_; refine hK _ ?_; (clear hK K; simp only [Act.put, List.setIfInBounds_toArray, List.set_cons_zero, List.set_cons_succ]))
    refine chain_heavy _ rfl (fun K hK => ?_)
    refine (if_pos (by rfl)).mpr ?_
    go_wp2
    refine hK _ _ (Chg.of_kept ((Below.refl _ _).alloc (Nat.le_refl _) _)) ?_
    clear hK K
    try simp only [Act.put, List.setIfInBounds_toArray, List.set_cons_zero, List.set_cons_succ]
    refine chain_heavy _ rfl (fun K hK => ?_)
    refine (if_pos (by rfl)).mpr ?_
    have h3 := h1.kept hk3
    have hro := h3.row
    refine wp_append3 sl_words (by rfl) (by rfl) (by rfl) (hro.alloc _) (Sl.one _ _ _) (by rfl) (oneCell_W [nowOf l + 1#32]) (by unfold maxLen; omega) (by omega) (Nat.zero_le _) ?_
    intro v5 w5 hown5 hgr5 hat5 _
    obtain ⟨g5, cap5, rfl, _, _⟩ := own_open hown5 (by omega)
    have c5 : Chg [g] (w3.alloc (.cells #[W (nowOf l + 1#32)] 23)) w5 := hgr5.chg (fun i hi => (Option.some.inj hi).symm)
    have ck : Chg [g] w1 w5 := (Chg.of_kept (Kept.of hw2 hk3)).trans ((Chg.of_kept ((Below.refl _ _).alloc (Nat.le_refl _) _)).trans c5)
    refine hK _ _ (c5) ?_
    clear hK K
    try simp only [Act.put, List.setIfInBounds_toArray, List.set_cons_zero, List.set_cons_succ]
    refine chain_last _ rfl (fun K hK => ?_)
    refine (if_pos (by rfl)).mpr ?_
    go_wp2
    refine chain_last _ rfl (fun K hK => ?_)
    refine (if_pos (by rfl)).mpr ?_
    go_wp2
    refine chain_last _ rfl (fun K hK => ?_)
    refine (if_pos (by rfl)).mpr ?_
    have hb5 := ck.blk (h.chg g1 (by simpa using hbK.symm) (by simpa using hbg.symm)).blk (by simpa using hKg)
    have f2 := hb5.free 2
    have e2 := hb5.cell 2
    go_wp2
    refine chain_nil ?_
    go_wp2
    go_ret
    obtain ⟨cur5, hcur5⟩ := own_blk hown5
    have hK5 : K ≠ g5 := blk_ne hb5 hcur5 (by decide)
    have hq : Chg [K] w5 (w5.setCell ⟨K, 2, none⟩ (.slice (some ⟨g5, 0, none⟩) (l.length + 1) cap5)) := Chg.step (by simp) _
    refine ⟨g5, cap5, rfl, ?_, ⟨by simpa [addL] using hb5.set 2 (.slice (some ⟨g5, 0, none⟩) (l.length + 1) cap5), ?_⟩, ?_, ?_⟩
    · exact hq.blk (ck.blk p1 (by simpa using hbg)) (by simpa using hbK)
    · have := own_chg hown5 hq (by simpa using hK5.symm)
      rw [addL, if_pos rfl, wcells_append, List.length_append]
      exact this
    · rcases hat5 with h5 | h5
      · exact .inl (Option.some.inj h5)
      · refine .inr ?_
        have := Option.some.inj h5
        have hz : (w3.alloc (.cells #[W (nowOf l + 1#32)] 23)).heap.size = w3.heap.size + 1 := by simp
        have q2 := hw2.size
        have q3 := hk3.size
        have : g5 = (w3.alloc (.cells #[W (nowOf l + 1#32)] 23)).heap.size := this
        omega
    · exact (g1.mono (by simp)).trans ((ck.mono (by simp)).trans (hq.mono (by simp)))


end Go.Proofs.Ytdcejhplkhoboaa
