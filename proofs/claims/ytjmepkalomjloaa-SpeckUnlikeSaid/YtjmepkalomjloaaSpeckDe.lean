/- What speck.Decrypt, and its reference, compute. -/
import Derived.RegionTactic
import Derived.ChangeAlike
import Derived.Test.YtjmepkalomjloaaSpeckB
import Derived.Test.YtjmepkalomjloaaChain
namespace Go.Proofs.Ytjmepkalomjloaa
open Go Go.RowKit Go.Shelf

attribute [local go_sem] Oper.semAt_some

theorem dec_fold (key b : Pair) : ∀ n, n ≤ 32 → (upto (fun (j : Nat) => (((32 : Nat) : Int) - 1 - (j : Int), (keysL key 32)[32 - 1 - j]?.getD 0#64)) n).foldl (fun (s : Pair) (x : Int × BitVec 64) => unmix s x.2) b = decTo key b n
  | 0, _ => rfl
  | n + 1, h => by
    rw [upto_succ, List.foldl_append, dec_fold key b n (by omega), List.foldl_cons, List.foldl_nil]
    show unmix _ ((keysL key 32)[31 - n]?.getD 0#64) = _
    rw [keysL_get key 32 (31 - n) (by omega)]
    rfl
theorem blk_own {W W' : World} {row : Option Nat} {b : Nat} {cs : Array Value} {t : TypeId} (h : Blk W b cs t) (hg : W.grownBy W' row) (hrow : ∀ r, row = some r → ∃ o : Obj, W.heap[r]? = some o ∧ o.isCells = false) : Blk W' b cs t :=
  (grownBy_keeps_cells hg hrow h rfl).trans h
theorem stays_b {bs : List Nat} {w : World} (hn : ∀ b ∈ bs, b < w.heap.size) (W : World) (l : Nat) (o o' : Obj) (hl : w.heap.size ≤ l) (_ : W.heap[l]? = some o) (_ : o.isCells = false) (_ : o.isWalk = false) : Stays bs W (W.putObj l o') :=
  fun k hk => World.putObj_heap_other (by have := hn k hk; omega)

set_option maxRecDepth 100000 in
set_option maxHeartbeats 4000000 in
theorem dec_any (k1 k2 b1 b2 : BitVec 64) (w : World) : Calls Try.prog 12 #[.agg #[U k1, U k2], .agg #[U b1, U b2]] w fun e w' => e = .returned (Pr (dec2 (k1, k2) (b1, b2))) ∧ Kept w w' := by
  refine (callsIn_wide (n := 10)).1 ?_
  refine callsIn_of_wp_marks Try.func12 rfl trivial ?_ rfl
  simp only [Try.ntmps12, List.size_toArray, List.length_cons, List.length_nil, Nat.reduceAdd, Nat.reduceSub, Array.replicate_succ, Array.replicate_zero, List.push_toArray, List.append_toArray, List.nil_append, List.cons_append]
  refine wpIn_wide.2 ?_
  go_wp2_with fail
  go_region
  · generalize hW0 : World.drew _ = W0
    have hA : Blk W0 w.heap.size #[U k1, U k2] 24 := by rw [← hW0]; exact (((((Blk.new w _ _).alloc _).alloc _).alloc _).alloc _).drew
    have hR : Blk W0 (w.heap.size + 2) #[U 0#64, U 0#64] 24 := by rw [← hW0]; exact ((Blk.alloc (by simpa using Blk.new ((w.alloc (.cells #[U k1, U k2] 24)).alloc (.cells #[U b1, U b2] 24)) #[U 0#64, U 0#64] 24) _).alloc _).drew
    have h3 : Blk W0 (w.heap.size + 3) #[U b1] 22 := by rw [← hW0]; exact (Blk.alloc (by simpa using Blk.new (((w.alloc (.cells #[U k1, U k2] 24)).alloc (.cells #[U b1, U b2] 24)).alloc (.cells #[U 0#64, U 0#64] 24)) #[U b1] 22) _).drew
    have h4 : Blk W0 (w.heap.size + 4) #[U b2] 22 := by rw [← hW0]; refine Blk.drew ?_; simpa using Blk.new ((((w.alloc (.cells #[U k1, U k2] 24)).alloc (.cells #[U b1, U b2] 24)).alloc (.cells #[U 0#64, U 0#64] 24)).alloc (.cells #[U b1] 22)) #[U b2] 22
    have hsz0 : W0.heap.size = w.heap.size + 5 := by rw [← hW0]; simp
    have hk0 : Below w.heap.size w W0 := by rw [← hW0]; exact ((((((Below.refl _ w).alloc (Nat.le_refl _) _).alloc (by simp) _).alloc (by simp; omega) _).alloc (by simp; omega) _).alloc (by simp; omega) _).drew
    clear hW0
    try simp only [Nat.add_assoc, Nat.reduceAdd]
    have cA0 := hA.cell 0
    have cA1 := hA.cell 1
    obtain ⟨B, hB⟩ : ∃ B, B = w.heap.size := ⟨_, rfl⟩
    rw [← hB] at hk0 hsz0 hA hR h3 h4 cA0 cA1 ⊢
    have HB := Lib.hid hB
    have HS := Lib.hid hsz0
    clear hB hsz0
    go_wp2_with fail
    refine (keys_any _ _ _).mono ?_
    rintro e w1 ⟨r, rfl, hown, hk1⟩
    clear cA0 cA1
    obtain ⟨g, gc, cur, rfl, hg0, hg, hgc, hgm, hgs, htake⟩ : ∃ g cap cur, r = .slice (some ⟨g, 0, none⟩) 32 cap ∧ W0.heap.size ≤ g ∧ Blk w1 g cur 22 ∧ 32 ≤ cap ∧ cap ≤ maxLen ∧ cur.size = cap * 1 ∧ cur.toList.take (32 * 1) = ucells (keysL (k1, k2) 32) := by
      rcases hown.2 with ⟨_, h⟩ | ⟨g, cap, cur, h1', h2, h3, h4, h5, h6, h7⟩
      · omega
      · exact ⟨g, cap, cur, h1', h2, h3, h4, h5, h6, h7⟩
    have hcell : ∀ j, j < 32 → w1.cell? ⟨g, 0 + j, none⟩ = some (U ((keysL (k1, k2) 32)[j]?.getD 0#64)) := by
      intro j hj
      rw [Nat.zero_add, hg.cell j]
      have := congrArg (fun l => l[j]?) htake
      rw [Nat.mul_one, List.getElem?_take, if_pos hj, ucells_get _ j _ (keysL_get (k1, k2) 32 j hj)] at this
      rw [keysL_get (k1, k2) 32 j hj, Option.getD_some]
      simpa using this
    replace hR := hR.kept hk1
    replace h3 := h3.kept hk1
    replace h4 := h4.kept hk1
    have hk2 : Below B w w1 := hk0.trans (hk1.mono (by have := HS.out; omega))
    have hgl := hg.lt
    have hsz1 := hk1.size
    clear hown hk0 hk1 hA htake hgs hgc
    go_wp2_with fail
    refine (backward_any _ _ _ _).mono ?_
    rintro e w2 ⟨rfl, rfl⟩
    have hBx := Blk.new w1 #[.slice (some ⟨g, 0, none⟩) 32 gc] 25
    replace hR := hR.alloc (.cells #[.slice (some ⟨g, 0, none⟩) 32 gc] 25)
    replace h3 := h3.alloc (.cells #[.slice (some ⟨g, 0, none⟩) 32 gc] 25)
    replace h4 := h4.alloc (.cells #[.slice (some ⟨g, 0, none⟩) 32 gc] 25)
    have hcell2 : ∀ j, j < 32 → (w1.alloc (.cells #[.slice (some ⟨g, 0, none⟩) 32 gc] 25)).cell? ⟨g, 0 + j, none⟩ = some (U ((keysL (k1, k2) 32)[j]?.getD 0#64)) := fun j hj => (Kept.at ((Below.refl _ w1).alloc (Nat.le_refl _) _) (hcell j hj))
    have hk3 : Below B w (w1.alloc (.cells #[.slice (some ⟨g, 0, none⟩) 32 gc] 25)) := hk2.alloc (by have := HS.out; omega) _
    have hs2 : (w1.alloc (.cells #[.slice (some ⟨g, 0, none⟩) 32 gc] 25)).heap.size = w1.heap.size + 1 := by simp
    have hbx : (w1.alloc (.cells #[.slice (some ⟨g, 0, none⟩) 32 gc] 25)).cell? ⟨w1.heap.size, 0, none⟩ = some (.slice (some ⟨g, 0, none⟩) 32 gc) := hBx.cell 0
    clear hcell hk2 hg hBx
    go_wp2_with fail
    generalize w1.alloc (.cells #[.slice (some ⟨g, 0, none⟩) 32 gc] 25) = W2 at *
    have hBq : B + 5 ≤ g := by have := HS.out; omega
    refine (wpIn_wide (n := 10)).1 ?_
    refine wpIn_rangeFunc_ownG rfl (by omega) (gf := 18) (lb := #[.pointer (some ⟨w1.heap.size, 0, none⟩)]) rfl trivial (enters_of Try.func18 (by kernel_rfl) rfl)
      (backward_stops Fence.wide 9 trivial rfl (by omega) w1.heap.size g 0 32 gc (keysL (k1, k2) 32) (by omega) W2 (by omega) (by omega) hbx hcell2) (fun h k => h.trans k) (stays_b (by simp; omega)) (Below.refl _ _) (fun _ => rfl)
      (fun pre W => (Blk W (B + 3) #[U (pre.foldl (fun (s : Pair) (x : Int × BitVec 64) => unmix s x.2) (b1, b2)).1] 22 ∧ Blk W (B + 4) #[U (pre.foldl (fun (s : Pair) (x : Int × BitVec 64) => unmix s x.2) (b1, b2)).2] 22 ∧ Blk W (B + 2) #[U 0#64, U 0#64] 24) ∧ Below B w W)
      (fun _ _ _ => False)
      (OwnFrom.and (Own.from (fun s A C row hs hg hr => ⟨blk_own hs.1 hg hr, blk_own hs.2.1 hg hr, blk_own hs.2.2 hg hr⟩) _) (ownFrom_below (by rw [HB.out]; exact Nat.le_refl _) (by have := HS.out; omega)))
      (fun _ _ _ _ _ hs _ _ => hs)
      ⟨⟨h3, h4, hR⟩, hk3⟩
      (fun x => { tmps := #[.agg #[U k1, U k2], .agg #[U b1, U b2], .pointer (some ⟨B, 0, none⟩), .pointer (some ⟨B + 1, 0, none⟩), .pointer (some ⟨B + 2, 0, none⟩), .pointer (some ⟨B + 3, 0, none⟩), .pointer (some ⟨B + 4, 0, none⟩), undef, U x.2, .pointer (some ⟨B + 1, 0, none⟩), U b1, .pointer (some ⟨B + 1, 1, none⟩), U b2, .agg #[U k1, U k2], .slice (some ⟨g, 0, none⟩) 32 gc, .func (.func 18) #[] #[.pointer (some ⟨w1.heap.size, 0, none⟩)], .int .i64 x.1, U x.2, undef, undef, undef, undef, undef, undef, undef, undef, undef, undef, undef, undef, undef], defers := [] }) ?assign3 ?body3 ?done3 ?stop3
    case assign3 =>
      intro l x W K hK
      gi_wp2
      exact hK
    case body3 =>
      rintro l pre x W ⟨⟨hx, hy, hr⟩, hBl⟩ _
      obtain ⟨s, hs⟩ : ∃ s : Pair, s = pre.foldl (fun (s : Pair) (x : Int × BitVec 64) => unmix s x.2) (b1, b2) := ⟨_, rfl⟩
      rw [← hs] at hx hy
      have c5 := hx.cell 0
      have c6 := hy.cell 0
      have f5 := hx.free 0
      have f6 := hy.free 0
      have HSS := Lib.hid hs
      clear hs h3 h4 hR hk3 hcell2 hbx hs2
      gi_wp2_with fail
      refine ⟨trivial, ?_⟩
      refine (CallsIn.inRound l (callsIn_wide.2 (rot_m3 _ _))).mono ?_
      rintro e w3 ⟨rfl, rfl⟩
      gi_wp2_with fail
      refine ⟨trivial, ?_⟩
      refine (CallsIn.inRound l (callsIn_wide.2 (rot_8 _ _))).mono ?_
      rintro e w4 ⟨rfl, rfl⟩
      gi_wp2
      refine ⟨((KeepsOthers.setCell _ _ _).trans (KeepsOthers.setCell _ _ _)).from _, ((Stays.refl _ _).set (by simp; omega) _).set (by simp; omega) _, ⟨?_, ?_, ?_⟩, (hBl.setCell (by have := HB.out; show _ ≤ B + 4; omega) _).setCell (by have := HB.out; show _ ≤ B + 3; omega) _⟩
      · rw [List.foldl_append, List.foldl_cons, List.foldl_nil, ← HSS.out]
        have := (hx.other (a := ⟨B + 4, 0, none⟩) (by simp) (U (rr (s.2 ^^^ s.1) 3))).set 0 (U (rl ((s.1 ^^^ x.2) - rr (s.2 ^^^ s.1) 3) 8))
        simpa [unmix] using this
      · rw [List.foldl_append, List.foldl_cons, List.foldl_nil, ← HSS.out]
        have := (hy.set 0 (U (rr (s.2 ^^^ s.1) 3))).other (a := ⟨B + 3, 0, none⟩) (by simp) (U (rl ((s.1 ^^^ x.2) - rr (s.2 ^^^ s.1) 3) 8))
        simpa [unmix] using this
      · exact (hr.other (a := ⟨B + 4, 0, none⟩) (by simp) _).other (a := ⟨B + 3, 0, none⟩) (by simp) _
    case done3 =>
      rintro D ys W hD rfl ⟨⟨hx, hy, hr⟩, hBl⟩ hK
      have hf := dec_fold (k1, k2) (b1, b2) 32 (Nat.le_refl _)
      rw [hf] at hx hy
      have c5 := hx.cell 0
      have c6 := hy.cell 0
      have r0 := hr.cell 0
      have r1 := hr.cell 1
      have g0 := hr.free 0
      have g1 := hr.free 1
      clear hf h3 h4 hR hk3 hcell2 hbx
      go_wp2
      generalize hX : (decTo (k1, k2) (b1, b2) 32) = X at *
      have hD2 : D ≠ B + 2 := by omega
      have hK2 : ((W.setCell ⟨B + 2, 0, none⟩ (U X.1)).setCell ⟨B + 2, 1, none⟩ (U X.2)).heap[D]? = some (.deferred (some [])) := (Below.heap_setCell _ _ _ _ hD2).trans ((Below.heap_setCell _ _ _ _ hD2).trans hK)
      have hr2 : Blk ((W.setCell ⟨B + 2, 0, none⟩ (U X.1)).setCell ⟨B + 2, 1, none⟩ (U X.2)) (B + 2) #[U X.1, U X.2] 24 := by
        have := (hr.set 0 (U X.1)).set 1 (U X.2)
        simpa using this
      have hBl2 : Below B w ((W.setCell ⟨B + 2, 0, none⟩ (U X.1)).setCell ⟨B + 2, 1, none⟩ (U X.2)) := (hBl.setCell (by show B ≤ B + 2; omega) _).setCell (by show B ≤ B + 2; omega) _
      generalize ((W.setCell ⟨B + 2, 0, none⟩ (U X.1)).setCell ⟨B + 2, 1, none⟩ (U X.2)) = W9 at *
      have hr3 : Blk (W9.putObj D (.deferred none)) (B + 2) #[U X.1, U X.2] 24 := (World.putObj_heap_other (Ne.symm hD2)).trans hr2
      have q0 := hr3.cell 0
      have q1 := hr3.cell 1
      refine ⟨by simp, .inl ⟨_, _, rfl, run_takeDeferred hK2, ?_⟩⟩
      refine ⟨Pr X, ?_, ?_⟩
      · simp [results, Try.results12, go_sem, q0, q1]
        try exact ⟨rfl, rfl⟩
      · refine ⟨by rw [← hX]; rfl, ?_⟩
        show Below w.heap.size w _
        rw [← HB.out]
        exact hBl2.trans (belowK_b (w := w) (by rw [HB.out]; exact Nat.le_refl _) W9 D _ _ (by have := HB.out; have := HS.out; omega) hK2 rfl rfl)
    case stop3 =>
      rintro D c pre W _ _ h _
      exact h.elim
  · generalize hW0 : World.drew _ = W0
    have hA : Blk W0 w.heap.size #[U k1, U k2] 24 := by rw [← hW0]; exact (((((Blk.new w _ _).alloc _).alloc _).alloc _).alloc _).drew
    have hR : Blk W0 (w.heap.size + 2) #[U 0#64, U 0#64] 24 := by rw [← hW0]; exact ((Blk.alloc (by simpa using Blk.new ((w.alloc (.cells #[U k1, U k2] 24)).alloc (.cells #[U b1, U b2] 24)) #[U 0#64, U 0#64] 24) _).alloc _).drew
    have h3 : Blk W0 (w.heap.size + 3) #[U b2] 22 := by rw [← hW0]; exact (Blk.alloc (by simpa using Blk.new (((w.alloc (.cells #[U k1, U k2] 24)).alloc (.cells #[U b1, U b2] 24)).alloc (.cells #[U 0#64, U 0#64] 24)) #[U b2] 22) _).drew
    have h4 : Blk W0 (w.heap.size + 4) #[U b1] 22 := by rw [← hW0]; refine Blk.drew ?_; simpa using Blk.new ((((w.alloc (.cells #[U k1, U k2] 24)).alloc (.cells #[U b1, U b2] 24)).alloc (.cells #[U 0#64, U 0#64] 24)).alloc (.cells #[U b2] 22)) #[U b1] 22
    have hsz0 : W0.heap.size = w.heap.size + 5 := by rw [← hW0]; simp
    have hk0 : Below w.heap.size w W0 := by rw [← hW0]; exact ((((((Below.refl _ w).alloc (Nat.le_refl _) _).alloc (by simp) _).alloc (by simp; omega) _).alloc (by simp; omega) _).alloc (by simp; omega) _).drew
    clear hW0
    try simp only [Nat.add_assoc, Nat.reduceAdd]
    have cA0 := hA.cell 0
    have cA1 := hA.cell 1
    obtain ⟨B, hB⟩ : ∃ B, B = w.heap.size := ⟨_, rfl⟩
    rw [← hB] at hk0 hsz0 hA hR h3 h4 cA0 cA1 ⊢
    have HB := Lib.hid hB
    have HS := Lib.hid hsz0
    clear hB hsz0
    go_wp2_with fail
    refine (keys_any _ _ _).mono ?_
    rintro e w1 ⟨r, rfl, hown, hk1⟩
    clear cA0 cA1
    obtain ⟨g, gc, cur, rfl, hg0, hg, hgc, hgm, hgs, htake⟩ : ∃ g cap cur, r = .slice (some ⟨g, 0, none⟩) 32 cap ∧ W0.heap.size ≤ g ∧ Blk w1 g cur 22 ∧ 32 ≤ cap ∧ cap ≤ maxLen ∧ cur.size = cap * 1 ∧ cur.toList.take (32 * 1) = ucells (keysL (k1, k2) 32) := by
      rcases hown.2 with ⟨_, h⟩ | ⟨g, cap, cur, h1', h2, h3, h4, h5, h6, h7⟩
      · omega
      · exact ⟨g, cap, cur, h1', h2, h3, h4, h5, h6, h7⟩
    have hcell : ∀ j, j < 32 → w1.cell? ⟨g, 0 + j, none⟩ = some (U ((keysL (k1, k2) 32)[j]?.getD 0#64)) := by
      intro j hj
      rw [Nat.zero_add, hg.cell j]
      have := congrArg (fun l => l[j]?) htake
      rw [Nat.mul_one, List.getElem?_take, if_pos hj, ucells_get _ j _ (keysL_get (k1, k2) 32 j hj)] at this
      rw [keysL_get (k1, k2) 32 j hj, Option.getD_some]
      simpa using this
    replace hR := hR.kept hk1
    replace h3 := h3.kept hk1
    replace h4 := h4.kept hk1
    have hk2 : Below B w w1 := hk0.trans (hk1.mono (by have := HS.out; omega))
    have hgl := hg.lt
    have hsz1 := hk1.size
    clear hown hk0 hk1 hA htake hgs hgc
    go_wp2_with fail
    refine (backward_any _ _ _ _).mono ?_
    rintro e w2 ⟨rfl, rfl⟩
    have hBx := Blk.new w1 #[.slice (some ⟨g, 0, none⟩) 32 gc] 25
    replace hR := hR.alloc (.cells #[.slice (some ⟨g, 0, none⟩) 32 gc] 25)
    replace h3 := h3.alloc (.cells #[.slice (some ⟨g, 0, none⟩) 32 gc] 25)
    replace h4 := h4.alloc (.cells #[.slice (some ⟨g, 0, none⟩) 32 gc] 25)
    have hcell2 : ∀ j, j < 32 → (w1.alloc (.cells #[.slice (some ⟨g, 0, none⟩) 32 gc] 25)).cell? ⟨g, 0 + j, none⟩ = some (U ((keysL (k1, k2) 32)[j]?.getD 0#64)) := fun j hj => (Kept.at ((Below.refl _ w1).alloc (Nat.le_refl _) _) (hcell j hj))
    have hk3 : Below B w (w1.alloc (.cells #[.slice (some ⟨g, 0, none⟩) 32 gc] 25)) := hk2.alloc (by have := HS.out; omega) _
    have hs2 : (w1.alloc (.cells #[.slice (some ⟨g, 0, none⟩) 32 gc] 25)).heap.size = w1.heap.size + 1 := by simp
    have hbx : (w1.alloc (.cells #[.slice (some ⟨g, 0, none⟩) 32 gc] 25)).cell? ⟨w1.heap.size, 0, none⟩ = some (.slice (some ⟨g, 0, none⟩) 32 gc) := hBx.cell 0
    clear hcell hk2 hg hBx
    go_wp2_with fail
    generalize w1.alloc (.cells #[.slice (some ⟨g, 0, none⟩) 32 gc] 25) = W2 at *
    have hBq : B + 5 ≤ g := by have := HS.out; omega
    refine (wpIn_wide (n := 10)).1 ?_
    refine wpIn_rangeFunc_ownG rfl (by omega) (gf := 18) (lb := #[.pointer (some ⟨w1.heap.size, 0, none⟩)]) rfl trivial (enters_of Try.func18 (by kernel_rfl) rfl)
      (backward_stops Fence.wide 9 trivial rfl (by omega) w1.heap.size g 0 32 gc (keysL (k1, k2) 32) (by omega) W2 (by omega) (by omega) hbx hcell2) (fun h k => h.trans k) (stays_b (by simp; omega)) (Below.refl _ _) (fun _ => rfl)
      (fun pre W => (Blk W (B + 4) #[U (pre.foldl (fun (s : Pair) (x : Int × BitVec 64) => unmix s x.2) (b1, b2)).1] 22 ∧ Blk W (B + 3) #[U (pre.foldl (fun (s : Pair) (x : Int × BitVec 64) => unmix s x.2) (b1, b2)).2] 22 ∧ Blk W (B + 2) #[U 0#64, U 0#64] 24) ∧ Below B w W)
      (fun _ _ _ => False)
      (OwnFrom.and (Own.from (fun s A C row hs hg hr => ⟨blk_own hs.1 hg hr, blk_own hs.2.1 hg hr, blk_own hs.2.2 hg hr⟩) _) (ownFrom_below (by rw [HB.out]; exact Nat.le_refl _) (by have := HS.out; omega)))
      (fun _ _ _ _ _ hs _ _ => hs)
      ⟨⟨h4, h3, hR⟩, hk3⟩
      (fun x => { tmps := #[.agg #[U k1, U k2], .agg #[U b1, U b2], .pointer (some ⟨B, 0, none⟩), .pointer (some ⟨B + 1, 0, none⟩), .pointer (some ⟨B + 2, 0, none⟩), .pointer (some ⟨B + 4, 0, none⟩), .pointer (some ⟨B + 3, 0, none⟩), undef, U x.2, .pointer (some ⟨B + 1, 0, none⟩), U b1, .pointer (some ⟨B + 1, 1, none⟩), U b2, .agg #[U k1, U k2], .slice (some ⟨g, 0, none⟩) 32 gc, .func (.func 18) #[] #[.pointer (some ⟨w1.heap.size, 0, none⟩)], .int .i64 x.1, U x.2, undef, undef, undef, undef, undef, undef, undef, undef, undef, undef, undef, undef, undef], defers := [] }) ?assign4 ?body4 ?done4 ?stop4
    case assign4 =>
      intro l x W K hK
      gi_wp2
      exact hK
    case body4 =>
      rintro l pre x W ⟨⟨hx, hy, hr⟩, hBl⟩ _
      obtain ⟨s, hs⟩ : ∃ s : Pair, s = pre.foldl (fun (s : Pair) (x : Int × BitVec 64) => unmix s x.2) (b1, b2) := ⟨_, rfl⟩
      rw [← hs] at hx hy
      have c5 := hx.cell 0
      have c6 := hy.cell 0
      have f5 := hx.free 0
      have f6 := hy.free 0
      have HSS := Lib.hid hs
      clear hs h3 h4 hR hk3 hcell2 hbx hs2
      gi_wp2_with fail
      refine ⟨trivial, ?_⟩
      refine (CallsIn.inRound l (callsIn_wide.2 (rot_m3 _ _))).mono ?_
      rintro e w3 ⟨rfl, rfl⟩
      gi_wp2_with fail
      refine ⟨trivial, ?_⟩
      refine (CallsIn.inRound l (callsIn_wide.2 (rot_8 _ _))).mono ?_
      rintro e w4 ⟨rfl, rfl⟩
      gi_wp2
      refine ⟨((KeepsOthers.setCell _ _ _).trans (KeepsOthers.setCell _ _ _)).from _, ((Stays.refl _ _).set (by simp; omega) _).set (by simp; omega) _, ⟨?_, ?_, ?_⟩, (hBl.setCell (by have := HB.out; show _ ≤ B + 3; omega) _).setCell (by have := HB.out; show _ ≤ B + 4; omega) _⟩
      · rw [List.foldl_append, List.foldl_cons, List.foldl_nil, ← HSS.out]
        have := (hx.other (a := ⟨B + 3, 0, none⟩) (by simp) (U (rr (s.2 ^^^ s.1) 3))).set 0 (U (rl ((s.1 ^^^ x.2) - rr (s.2 ^^^ s.1) 3) 8))
        simpa [unmix] using this
      · rw [List.foldl_append, List.foldl_cons, List.foldl_nil, ← HSS.out]
        have := (hy.set 0 (U (rr (s.2 ^^^ s.1) 3))).other (a := ⟨B + 4, 0, none⟩) (by simp) (U (rl ((s.1 ^^^ x.2) - rr (s.2 ^^^ s.1) 3) 8))
        simpa [unmix] using this
      · exact (hr.other (a := ⟨B + 3, 0, none⟩) (by simp) _).other (a := ⟨B + 4, 0, none⟩) (by simp) _
    case done4 =>
      rintro D ys W hD rfl ⟨⟨hx, hy, hr⟩, hBl⟩ hK
      have hf := dec_fold (k1, k2) (b1, b2) 32 (Nat.le_refl _)
      rw [hf] at hx hy
      have c5 := hx.cell 0
      have c6 := hy.cell 0
      have r0 := hr.cell 0
      have r1 := hr.cell 1
      have g0 := hr.free 0
      have g1 := hr.free 1
      clear hf h3 h4 hR hk3 hcell2 hbx
      go_wp2
      generalize hX : (decTo (k1, k2) (b1, b2) 32) = X at *
      have hD2 : D ≠ B + 2 := by omega
      have hK2 : ((W.setCell ⟨B + 2, 0, none⟩ (U X.1)).setCell ⟨B + 2, 1, none⟩ (U X.2)).heap[D]? = some (.deferred (some [])) := (Below.heap_setCell _ _ _ _ hD2).trans ((Below.heap_setCell _ _ _ _ hD2).trans hK)
      have hr2 : Blk ((W.setCell ⟨B + 2, 0, none⟩ (U X.1)).setCell ⟨B + 2, 1, none⟩ (U X.2)) (B + 2) #[U X.1, U X.2] 24 := by
        have := (hr.set 0 (U X.1)).set 1 (U X.2)
        simpa using this
      have hBl2 : Below B w ((W.setCell ⟨B + 2, 0, none⟩ (U X.1)).setCell ⟨B + 2, 1, none⟩ (U X.2)) := (hBl.setCell (by show B ≤ B + 2; omega) _).setCell (by show B ≤ B + 2; omega) _
      generalize ((W.setCell ⟨B + 2, 0, none⟩ (U X.1)).setCell ⟨B + 2, 1, none⟩ (U X.2)) = W9 at *
      have hr3 : Blk (W9.putObj D (.deferred none)) (B + 2) #[U X.1, U X.2] 24 := (World.putObj_heap_other (Ne.symm hD2)).trans hr2
      have q0 := hr3.cell 0
      have q1 := hr3.cell 1
      refine ⟨by simp, .inl ⟨_, _, rfl, run_takeDeferred hK2, ?_⟩⟩
      refine ⟨Pr X, ?_, ?_⟩
      · simp [results, Try.results12, go_sem, q0, q1]
        try exact ⟨rfl, rfl⟩
      · refine ⟨by rw [← hX]; rfl, ?_⟩
        show Below w.heap.size w _
        rw [← HB.out]
        exact hBl2.trans (belowK_b (w := w) (by rw [HB.out]; exact Nat.le_refl _) W9 D _ _ (by have := HB.out; have := HS.out; omega) hK2 rfl rfl)
    case stop4 =>
      rintro D c pre W _ _ h _
      exact h.elim
end Go.Proofs.Ytjmepkalomjloaa
