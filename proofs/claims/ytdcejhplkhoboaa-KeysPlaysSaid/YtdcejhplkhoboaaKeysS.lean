/- KeysPlays's parts: two rows of epochs are one; both Keys in memory. -/
import Derived.Test.YtdcejhplkhoboaaKeysK
namespace Go.Proofs.Ytdcejhplkhoboaa
open Go Go.RowKit

set_option maxRecDepth 100000 in
set_option maxHeartbeats 4000000 in
theorem same_any (a b : Option Addr) (cap cap2 : Nat) (l : List (BitVec 32)) (hl : l.length ≤ 100000) (w : World) (hs : Sl w (.slice a l.length cap) l.length (wcells l)) (hs2 : Sl w (.slice b l.length cap2) l.length (wcells l)) : Calls Try.prog 25 #[.slice a l.length cap, .slice b l.length cap2] w fun e w' => e = .returned (.bool true) ∧ Kept w w' := by
  obtain ⟨L, hL⟩ : ∃ L, L = l.length := ⟨_, rfl⟩
  rw [← hL] at hs hs2 hl ⊢
  have i0 : (L : Int) ≤ 100000 := by omega
  have HL := Lib.hid hL
  clear hL
  go_enter Try.func25, Try.ntmps25
  go_wp2_with fail
  go_loopw [5] (fun i wr => ∃ k : Nat, k ≤ L ∧ i = .int .i64 k ∧ Kept w wr) (fun i _ => L - (intOf i).toNat)
  case atStart => exact ⟨0, by omega, rfl, Below.refl _ _⟩
  case round =>
    obtain ⟨k, hk, rfl, hkw⟩ := hrel
    by_cases hlt : k < L
    · obtain ⟨b1, off1, cap1', e1, _, _, _, hx1⟩ := hs.at (by rw [wcells_length, ← HL.out]; omega)
      obtain ⟨b2, off2, cap2', e2, _, _, _, hx2⟩ := hs2.at (by rw [wcells_length, ← HL.out]; omega)
      cases e1
      cases e2
      have hkl : k < l.length := by rw [← HL.out]; exact hlt
      have n3 : (k : Int) < (L : Int) := by omega
      have n4 : (0 : Int) ≤ (k : Int) := by omega
      have c1 := hkw.at (hx1 k _ (wcells_get l k hkl))
      have c2 := hkw.at (hx2 k _ (wcells_get l k hkl))
      generalize l[k] = y at c1 c2
      have HX1 := Lib.hid hx1
      have HX2 := Lib.hid hx2
      clear hx1 hx2
      go_wp2_with fail
      refine wp_region_chainK [(0, 0), (1, 0), (2, 0), (3, 0), (4, 0), (5, 0), (6, 0), (7, 0), (8, 0)] (by kernel_rfl) (by kernel_rfl) ?_
      intro w1 hw1
      repeat
        refine chain_light _ rfl (fun K hK => ?_)
        first
          | (refine (if_pos (by rfl)).mpr ?_; apply Exists.intro; refine ⟨fun w' hw' => ?_, hK _ ?_⟩; (have d1 := hw'.at (hw1.at c1); have d2 := hw'.at (hw1.at c2); go_simp; done); (clear hK K; simp only [Act.put, List.setIfInBounds_toArray, List.set_cons_zero, List.set_cons_succ]))
          | (refine (if_pos (by rfl)).mpr ?_; apply Exists.intro; refine ⟨fun w' hw' => ?_, hK _ ?_⟩; (have d1 := hw'.at (hw1.at c1); have d2 := hw'.at (hw1.at c2); go_simp; rfl); (clear hK K; simp only [Act.put, List.setIfInBounds_toArray, List.set_cons_zero, List.set_cons_succ]))
          | (refine (if_neg (by rw [Bool.not_eq_true]; rfl)).mpr ?_; refine hK _ ?_; (clear hK K; simp only [Act.put, List.setIfInBounds_toArray, List.set_cons_zero, List.set_cons_succ]))
      refine chain_nil ?_
      go_wp2
      exact ⟨⟨k + 1, by omega, by go_num, Kept.of hkw hw1⟩, by simp [intOf]; omega⟩
    · have : k = L := by omega
      have HK := Lib.hid this
      clear this
      go_wp2
      go_ret
      exact ⟨rfl, hkw⟩

/-- both Keys, each with its Power, in one memory -/
structure Both (w0 w : World) (b K g q X h : Nat) (seed : BitVec 64) (l l2 : List (BitVec 32)) (p p2 : Pw) (m : Int) (cap cap2 : Nat) : Prop where
  pw : PwAt w b p
  rf : RefAt w q p2 m
  ka : KeysAt 56 w K b g seed l cap
  xa : KeysAt 52 w X q h seed l2 cap2
  gh : g ≠ h
  own : Own w0 w b K g
  own2 : Own w0 w q X h
section
variable {w0 w w' : World} {b K g q X h g' h' : Nat} {seed : BitVec 64} {l l2 l' : List (BitVec 32)} {p p2 p' : Pw} {m m' : Int} {cap cap2 cap' : Nat}
theorem Both.ne (B : Both w0 w b K g q X h seed l l2 p p2 m cap cap2) : (q ≠ b ∧ q ≠ K ∧ q ≠ g) ∧ (X ≠ b ∧ X ≠ K ∧ X ≠ g) ∧ (h ≠ b ∧ h ≠ K ∧ h ≠ g) ∧ g < w.heap.size ∧ h < w.heap.size := by
  obtain ⟨c1, hc1⟩ := B.ka.blkg
  obtain ⟨c2, hc2⟩ := B.xa.blkg
  exact ⟨⟨blk_ne B.rf B.pw (by decide), blk_ne B.rf B.ka.blk (by decide), blk_ne B.rf hc1 (by decide)⟩, ⟨blk_ne B.xa.blk B.pw (by decide), blk_ne B.xa.blk B.ka.blk (by decide), blk_ne B.xa.blk hc1 (by decide)⟩,
    ⟨blk_ne hc2 B.pw (by decide), blk_ne hc2 B.ka.blk (by decide), fun e => B.gh e.symm⟩, hc1.lt, hc2.lt⟩
theorem Both.stepP (B : Both w0 w b K g q X h seed l l2 p p2 m cap cap2) (hc : Chg [b, K, g] w w') (hg : g' = g ∨ w.heap.size ≤ g') (hp : PwAt w' b p') (hk : KeysAt 56 w' K b g' seed l' cap') : Both w0 w' b K g' q X h seed l' l2 p' p2 m cap' cap2 := by
  obtain ⟨⟨q1, q2, q3⟩, ⟨x1, x2, x3⟩, ⟨h1, h2, h3⟩, hgl, hhl⟩ := B.ne
  refine ⟨hp, hc.blk B.rf (by simp [q1, q2, q3]), hk, B.xa.chg hc (by simp [x1, x2, x3]) (by simp [h1, h2, h3]), ?_, B.own.step hc hg, ?_⟩
  · rcases hg with rfl | hg
    · exact B.gh
    · omega
  · have := B.own.step hc hg
    exact ⟨B.own2.lb, B.own2.lK, B.own2.lg, this.below, this.size⟩
theorem Both.stepX (B : Both w0 w b K g q X h seed l l2 p p2 m cap cap2) (hc : Chg [q, X, h] w w') (hg : h' = h ∨ w.heap.size ≤ h') (hp : RefAt w' q p' m') (hk : KeysAt 52 w' X q h' seed l' cap') : Both w0 w' b K g q X h' seed l l' p p' m' cap cap' := by
  obtain ⟨⟨q1, q2, q3⟩, ⟨x1, x2, x3⟩, ⟨h1, h2, h3⟩, hgl, hhl⟩ := B.ne
  refine ⟨hc.blk B.pw (by simp [q1.symm, x1.symm, h1.symm]), hp, B.ka.chg hc (by simp [q2.symm, x2.symm, h2.symm]) (by simp [q3.symm, x3.symm, h3.symm]), hk, ?_, ?_, B.own2.step hc hg⟩
  · rcases hg with rfl | hg
    · exact B.gh
    · omega
  · have := B.own2.step hc hg
    exact ⟨B.own.lb, B.own.lK, B.own.lg, this.below, this.size⟩
theorem Both.kept (B : Both w0 w b K g q X h seed l l2 p p2 m cap cap2) (hk : Kept w w') : Both w0 w' b K g q X h seed l l2 p p2 m cap cap2 :=
  ⟨Blk.kept B.pw hk, Blk.kept B.rf hk, B.ka.kept hk, B.xa.kept hk, B.gh, B.own.kept hk, B.own2.kept hk⟩
theorem Both.bP (B : Both w0 w b K g q X h seed l l2 p p2 m cap cap2) : b ≠ K ∧ b ≠ g := by
  obtain ⟨c1, hc1⟩ := B.ka.blkg
  exact ⟨blk_ne B.pw B.ka.blk (by decide), blk_ne B.pw hc1 (by decide)⟩
theorem Both.bX (B : Both w0 w b K g q X h seed l l2 p p2 m cap cap2) : q ≠ X ∧ q ≠ h := by
  obtain ⟨c1, hc1⟩ := B.xa.blkg
  exact ⟨blk_ne B.rf B.xa.blk (by decide), blk_ne B.rf hc1 (by decide)⟩
/-- the program's Power alone turns -/
theorem Both.powP (B : Both w0 w b K g q X h seed l l2 p p2 m cap cap2) (hc : w.grownBy w' (some b)) (hp : PwAt w' b p') : Both w0 w' b K g q X h seed l l2 p' p2 m cap cap2 :=
  B.stepP ((Chg.of_grown hc).mono (by simp)) (.inl rfl) hp (B.ka.chg (Chg.of_grown hc) (by simpa using B.bP.1.symm) (by simpa using B.bP.2.symm))
theorem Both.powX (B : Both w0 w b K g q X h seed l l2 p p2 m cap cap2) (hc : w.grownBy w' (some q)) (hp : RefAt w' q p' m') : Both w0 w' b K g q X h seed l l2 p p' m' cap cap2 :=
  B.stepX ((Chg.of_grown hc).mono (by simp)) (.inl rfl) hp (B.xa.chg (Chg.of_grown hc) (by simpa using B.bX.1.symm) (by simpa using B.bX.2.symm))
end
/-- what is known of the row, k steps on -/
structure Fine (l : List (BitVec 32)) (k : Nat) : Prop where
  rising : Rising l
  pos : 0 < l.length
  len : l.length ≤ k + 1
  now : (nowOf l).toNat ≤ k + 1
theorem Fine.add {l : List (BitVec 32)} {k : Nat} (h : Fine l k) (hk : k ≤ 1000) (r : Bool) : Fine (addL r l) (k + 1) := by
  cases r
  · exact ⟨h.rising, h.pos, by have := h.len; show l.length ≤ _; omega, by have := h.now; show (nowOf l).toNat ≤ _; omega⟩
  · have h1 : (nowOf l + 1#32).toNat = (nowOf l).toNat + 1 := by
      have := h.now
      rw [BitVec.toNat_add]
      show ((nowOf l).toNat + 1) % 4294967296 = _
      omega
    have e : addL true l = l ++ [nowOf l + 1#32] := rfl
    refine ⟨?_, ?_, ?_, ?_⟩
    · rw [e]; exact rising_snoc h.rising h.pos _ (by rw [BitVec.lt_def, h1]; omega)
    · rw [e]; simp
    · rw [e]; have := h.len; simp; omega
    · rw [e, nowOf_snoc, h1]; have := h.now; omega
theorem Fine.del {l : List (BitVec 32)} {k : Nat} (h : Fine l k) (r : Bool) (below : BitVec 32) : Fine (delL r l below) (k + 1) := by
  cases r
  · exact ⟨h.rising, h.pos, by have := h.len; show l.length ≤ _; omega, by have := h.now; show (nowOf l).toNat ≤ _; omega⟩
  · have := eraseL_now l below h.pos
    exact ⟨eraseL_rising h.rising below, this.1, by have := h.len; exact Nat.le_trans (List.length_filter_le _ _) (by omega), by show (nowOf (eraseL l below)).toNat ≤ _; rw [this.2]; have := h.now; omega⟩
theorem Fine.mono {l : List (BitVec 32)} {k : Nat} (h : Fine l k) : Fine l (k + 1) := ⟨h.rising, h.pos, by have := h.len; omega, by have := h.now; omega⟩
theorem fine_one : Fine [1#32] 0 := ⟨by simp [Rising], by decide, by decide, by decide⟩

end Go.Proofs.Ytdcejhplkhoboaa
