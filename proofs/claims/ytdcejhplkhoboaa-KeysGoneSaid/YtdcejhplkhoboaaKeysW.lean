/- Keys in memory: what reads them. -/
import Derived.Test.YtdcejhplkhoboaaKeysE
import Derived.Test.YtdcejhplkhoboaaPowerR
namespace Go.Proofs.Ytdcejhplkhoboaa
open Go Go.RowKit

/-- Keys (the program's, or the reference's): its Power at b, its row in block g -/
structure KeysAt (t : TypeId) (w : World) (K b g : Nat) (seed : BitVec 64) (l : List (BitVec 32)) (cap : Nat) : Prop where
  blk : Blk w K #[.pointer (some ⟨b, 0, none⟩), U seed, .slice (some ⟨g, 0, none⟩) l.length cap] t
  row : w.ownsRow 0 23 1 (.slice (some ⟨g, 0, none⟩) l.length cap) l.length (wcells l)
theorem KeysAt.blkg {t : TypeId} {w : World} {K b g : Nat} {seed : BitVec 64} {l : List (BitVec 32)} {cap : Nat} (h : KeysAt t w K b g seed l cap) : ∃ cur, Blk w g cur 23 := by
  rcases h.row.2 with ⟨h0, _⟩ | ⟨_, _, cur, e, _, hb, _⟩
  · cases h0
  · cases e; exact ⟨cur, hb⟩
theorem blk_ne {w : World} {a b : Nat} {cs ds : Array Value} {t u : TypeId} (h : Blk w a cs t) (k : Blk w b ds u) (hne : t ≠ u) : a ≠ b := by
  intro e; subst e
  unfold Blk at h k
  rw [h] at k
  cases k; exact hne rfl
theorem own_chg {w w' : World} {bs : List Nat} {B g n cap : Nat} {e : TypeId} {xs : List Value} (h : w.ownsRow B e 1 (.slice (some ⟨g, 0, none⟩) n cap) n xs) (hc : Chg bs w w') (hn : g ∉ bs) : w'.ownsRow B e 1 (.slice (some ⟨g, 0, none⟩) n cap) n xs := by
  refine ⟨h.1, ?_⟩
  rcases h.2 with ⟨h0, _⟩ | ⟨g', cap', cur, e', hB, hb, h1, h2, h3, h4⟩
  · cases h0
  · cases e'
    exact .inr ⟨g, cap, cur, rfl, hB, hc.blk hb hn, h1, h2, h3, h4⟩
theorem own_open {w : World} {B : Nat} {e : TypeId} {v : Value} {n : Nat} {xs : List Value} (h : w.ownsRow B e 1 v n xs) (hn : 0 < n) : ∃ g cap, v = .slice (some ⟨g, 0, none⟩) n cap ∧ B ≤ g ∧ g < w.heap.size := by
  rcases h.2 with ⟨_, h0⟩ | ⟨g', cap', cur, e', hB, hb, r⟩
  · omega
  · exact ⟨g', cap', e', hB, (Array.getElem?_eq_some_iff.1 hb).1⟩
theorem KeysAt.chg {t : TypeId} {w w' : World} {K b g : Nat} {seed : BitVec 64} {l : List (BitVec 32)} {cap : Nat} (h : KeysAt t w K b g seed l cap) {bs : List Nat} (hc : Chg bs w w') (h1 : K ∉ bs) (h2 : g ∉ bs) : KeysAt t w' K b g seed l cap :=
  ⟨hc.blk h.blk h1, own_chg h.row hc h2⟩
theorem KeysAt.kept {t : TypeId} {w w' : World} {K b g : Nat} {seed : BitVec 64} {l : List (BitVec 32)} {cap : Nat} (h : KeysAt t w K b g seed l cap) (hk : Kept w w') : KeysAt t w' K b g seed l cap :=
  h.chg (bs := []) (Chg.of_kept hk) (by simp) (by simp)
theorem KeysAt.cells {t : TypeId} {w : World} {K b g : Nat} {seed : BitVec 64} {l : List (BitVec 32)} {cap : Nat} (h : KeysAt t w K b g seed l cap) :
    w.cell? ⟨K, 0, none⟩ = some (.pointer (some ⟨b, 0, none⟩)) ∧ w.cell? ⟨K, 1, none⟩ = some (U seed) ∧ w.cell? ⟨K, 2, none⟩ = some (.slice (some ⟨g, 0, none⟩) l.length cap) :=
  ⟨Blk.cell h.blk 0, Blk.cell h.blk 1, Blk.cell h.blk 2⟩
theorem KeysAt.get {t : TypeId} {w : World} {K b g : Nat} {seed : BitVec 64} {l : List (BitVec 32)} {cap : Nat} (h : KeysAt t w K b g seed l cap) (i : Nat) (y : BitVec 32) (hy : l[i]? = some y) : w.cell? ⟨g, i, none⟩ = some (W y) := by
  obtain ⟨hi, rfl⟩ := List.getElem?_eq_some_iff.1 hy
  obtain ⟨b0, off, cap', e, _, _, _, hx⟩ := (Sl.of_own h.row).at (by rw [wcells_length]; omega)
  cases e
  have := hx i _ (wcells_get l i hi)
  rwa [Nat.zero_add] at this

set_option maxRecDepth 100000 in
set_option maxHeartbeats 4000000 in
theorem keyof_any (seed : BitVec 64) (e : BitVec 32) (w : World) : Calls Try.prog 7 #[U seed, W e] w fun r w' => r = .returned (Pr (keyOf seed e)) ∧ Kept w w' := by
  go_enter Try.func7, Try.ntmps7
  go_wp2_with fail
  refine (enc_any _ _ _ _ _).mono ?_
  rintro r w1 ⟨rfl, hk1⟩
  obtain ⟨q, hq⟩ : ∃ q, q = keyOf seed e := ⟨_, rfl⟩
  rw [show enc2 (seed, seed) (0#64, BitVec.setWidth 64 e) = q from hq.symm]
  have HQ := Lib.hid hq
  clear hq
  have hb := (Blk.new w #[U 0#64, U 0#64] 25).kept hk1
  have c0 := hb.cell 0
  have c1 := hb.cell 1
  have f0 := hb.free 0
  have f1 := hb.free 1
  have hk : Kept w w1 := Kept.of ((Below.refl _ _).alloc (Nat.le_refl _) _) hk1
  clear hk1
  go_wp2
  have d := (hb.set 0 (U q.1)).set 1 (U q.2)
  have d0 := d.cell 0
  have d1 := d.cell 1
  refine bodyPost_ret (v := Pr q) (by simp [results, Try.results7, go_sem, d0, d1]; try exact ⟨rfl, rfl⟩) rfl ⟨by rw [HQ.out], ?_⟩
  exact (hk.setCell (Nat.le_refl _) _).setCell (Nat.le_refl _) _

set_option maxRecDepth 100000 in
set_option maxHeartbeats 4000000 in
theorem rkeyof_any (seed : BitVec 64) (e : BitVec 32) (w : World) : Calls Try.prog 8 #[U seed, W e] w fun r w' => r = .returned (Pr (keyOf seed e)) ∧ Kept w w' := by
  go_enter Try.func8, Try.ntmps8
  go_wp2_with fail
  refine (renc_any _ _ _ _ _).mono ?_
  rintro r w1 ⟨rfl, hk1⟩
  obtain ⟨q, hq⟩ : ∃ q, q = keyOf seed e := ⟨_, rfl⟩
  rw [show enc2 (seed, seed) (0#64, BitVec.setWidth 64 e) = q from hq.symm]
  have HQ := Lib.hid hq
  clear hq
  have hb := (Blk.new w #[U 0#64, U 0#64] 25).kept hk1
  have c0 := hb.cell 0
  have c1 := hb.cell 1
  have f0 := hb.free 0
  have f1 := hb.free 1
  have hk : Kept w w1 := Kept.of ((Below.refl _ _).alloc (Nat.le_refl _) _) hk1
  clear hk1
  go_wp2
  have d := (hb.set 0 (U q.1)).set 1 (U q.2)
  have d0 := d.cell 0
  have d1 := d.cell 1
  refine bodyPost_ret (v := Pr q) (by simp [results, Try.results8, go_sem, d0, d1]; try exact ⟨rfl, rfl⟩) rfl ⟨by rw [HQ.out], ?_⟩
  exact (hk.setCell (Nat.le_refl _) _).setCell (Nat.le_refl _) _

set_option maxRecDepth 100000 in
set_option maxHeartbeats 4000000 in
theorem cur_any (K b g : Nat) (seed : BitVec 64) (l : List (BitVec 32)) (cap : Nat) (h0 : 0 < l.length) (hl : l.length ≤ 100000) (w : World) (h : KeysAt 56 w K b g seed l cap) : Calls Try.prog 15 #[.pointer (some ⟨K, 0, none⟩)] w fun r w' => r = .returned (W (nowOf l)) ∧ Kept w w' := by
  obtain ⟨m, hm⟩ : ∃ m, l.length = m + 1 := ⟨l.length - 1, by omega⟩
  obtain ⟨_, _, c2⟩ := h.cells
  have r0 := h.get m (nowOf l) (by rw [← nowOf_get l h0]; congr 1; omega)
  have hcap : m < cap := by
    rcases h.row.2 with ⟨e, _⟩ | ⟨_, _, _, e, _, _, hh, _⟩
    · cases e
    · cases e; omega
  rw [hm] at c2
  have i0 : (m : Int) ≤ 100000 := by omega
  have i1 : IntKind.i64.wrap (m : Int) = (m : Int) := IntWalk.i64_in _ (by omega)
  have i2 : (m : Int) < (m : Int) + 1 := by omega
  have i3 : ((m + 1 : Nat) : Int) - 1 = (m : Int) := by omega
  clear hm h0 hl h
  go_enter Try.func15, Try.ntmps15
  go_wp2_with fail
  refine wp_region_chainK [(0, 0), (1, 0), (2, 0), (3, 0), (4, 0), (5, 0), (6, 0), (7, 0), (8, 0), (9, 0), (10, 0), (11, 0), (12, 0)] (by kernel_rfl) (by kernel_rfl) ?_
  intro w1 hw1
  repeat
    refine chain_light _ rfl (fun K hK => ?_)
    first
      | (refine (if_pos (by rfl)).mpr ?_; apply Exists.intro; refine ⟨fun w' hw' => ?_, hK _ ?_⟩; (have d2 := hw'.at (hw1.at c2); have d0 := hw'.at (hw1.at r0); go_simp; done); (clear hK K; simp only [Act.put, List.setIfInBounds_toArray, List.set_cons_zero, List.set_cons_succ]))
      | (refine (if_pos (by rfl)).mpr ?_; apply Exists.intro; refine ⟨fun w' hw' => ?_, hK _ ?_⟩; (have d2 := hw'.at (hw1.at c2); have d0 := hw'.at (hw1.at r0); go_simp; rfl); (clear hK K; simp only [Act.put, List.setIfInBounds_toArray, List.set_cons_zero, List.set_cons_succ]))
      | (refine (if_neg (by rw [Bool.not_eq_true]; rfl)).mpr ?_; refine hK _ ?_; (clear hK K; simp only [Act.put, List.setIfInBounds_toArray, List.set_cons_zero, List.set_cons_succ]))
  refine chain_nil ?_
  go_wp2
  go_ret
  exact ⟨rfl, hw1⟩

set_option maxRecDepth 100000 in
set_option maxHeartbeats 4000000 in
theorem rcur_any (K b g : Nat) (seed : BitVec 64) (l : List (BitVec 32)) (cap : Nat) (h0 : 0 < l.length) (hl : l.length ≤ 100000) (w : World) (h : KeysAt 52 w K b g seed l cap) : Calls Try.prog 24 #[.pointer (some ⟨K, 0, none⟩)] w fun r w' => r = .returned (W (nowOf l)) ∧ Kept w w' := by
  obtain ⟨m, hm⟩ : ∃ m, l.length = m + 1 := ⟨l.length - 1, by omega⟩
  obtain ⟨_, _, c2⟩ := h.cells
  have r0 := h.get m (nowOf l) (by rw [← nowOf_get l h0]; congr 1; omega)
  have hcap : m < cap := by
    rcases h.row.2 with ⟨e, _⟩ | ⟨_, _, _, e, _, _, hh, _⟩
    · cases e
    · cases e; omega
  rw [hm] at c2
  have i0 : (m : Int) ≤ 100000 := by omega
  have i1 : IntKind.i64.wrap (m : Int) = (m : Int) := IntWalk.i64_in _ (by omega)
  have i2 : (m : Int) < (m : Int) + 1 := by omega
  have i3 : ((m + 1 : Nat) : Int) - 1 = (m : Int) := by omega
  clear hm h0 hl h
  go_enter Try.func24, Try.ntmps24
  go_wp2_with fail
  refine wp_region_chainK [(0, 0), (1, 0), (2, 0), (3, 0), (4, 0), (5, 0), (6, 0), (7, 0), (8, 0), (9, 0), (10, 0), (11, 0), (12, 0)] (by kernel_rfl) (by kernel_rfl) ?_
  intro w1 hw1
  repeat
    refine chain_light _ rfl (fun K hK => ?_)
    first
      | (refine (if_pos (by rfl)).mpr ?_; apply Exists.intro; refine ⟨fun w' hw' => ?_, hK _ ?_⟩; (have d2 := hw'.at (hw1.at c2); have d0 := hw'.at (hw1.at r0); go_simp; done); (clear hK K; simp only [Act.put, List.setIfInBounds_toArray, List.set_cons_zero, List.set_cons_succ]))
      | (refine (if_pos (by rfl)).mpr ?_; apply Exists.intro; refine ⟨fun w' hw' => ?_, hK _ ?_⟩; (have d2 := hw'.at (hw1.at c2); have d0 := hw'.at (hw1.at r0); go_simp; rfl); (clear hK K; simp only [Act.put, List.setIfInBounds_toArray, List.set_cons_zero, List.set_cons_succ]))
      | (refine (if_neg (by rw [Bool.not_eq_true]; rfl)).mpr ?_; refine hK _ ?_; (clear hK K; simp only [Act.put, List.setIfInBounds_toArray, List.set_cons_zero, List.set_cons_succ]))
  refine chain_nil ?_
  go_wp2
  go_ret
  exact ⟨rfl, hw1⟩

set_option maxRecDepth 100000 in
set_option maxHeartbeats 4000000 in
theorem epochs_any (K b g : Nat) (seed : BitVec 64) (l : List (BitVec 32)) (cap : Nat) (h0 : 0 < l.length) (hl : l.length ≤ 100000) (w : World) (h : KeysAt 56 w K b g seed l cap) : Calls Try.prog 16 #[.pointer (some ⟨K, 0, none⟩)] w fun r w' => ∃ v, r = .returned v ∧ w'.ownsRow w.heap.size 23 1 v l.length (wcells l) ∧ Kept w w' := by
  obtain ⟨_, _, c2⟩ := h.cells
  have hs := Sl.of_own h.row
  go_enter Try.func16, Try.ntmps16
  go_wp2_with fail
  refine (clonew_any _ l h0 hl _ hs).mono ?_
  rintro r w1 ⟨v, rfl, hown, hk⟩
  go_wp2
  go_ret
  exact ⟨_, rfl, hown, hk⟩


end Go.Proofs.Ytdcejhplkhoboaa
