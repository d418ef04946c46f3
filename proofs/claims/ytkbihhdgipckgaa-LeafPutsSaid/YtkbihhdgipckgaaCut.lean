/- What wire.Cut, its reference and Same compute. -/
import Derived.Test.YtkbihhdgipckgaaClone
import Derived.Test.YtkbihhdgipckgaaCutD
namespace Go.Proofs.Ytkbihhdgipckgaa
open Go Go.RowKit

theorem sl_rows : SlT Try.prog 45 31 1 24 (.slice none 0 0) := SlT.mk' Try.underlying45 (by kernel_rfl) rfl (by omega)
theorem sl_ints : SlT Try.prog 56 3 1 8 (.int .i64 0) := SlT.mk' Try.underlying56 (by kernel_rfl) rfl (by omega)

def cutV (v : Value) : Option (List (List UInt8)) → Value
  | none => .tuple #[.slice none 0 0, .bool false]
  | some _ => .tuple #[v, .bool true]

set_option maxRecDepth 100000 in
set_option maxHeartbeats 4000000 in
theorem cut_any (vb vs : Value) (b : List UInt8) (zs : List Int) (hl : b.length ≤ 4000) (hn : zs.length ≤ 100) (w : World) (hb : Sl w vb b.length (bcells b)) (hs : Sl w vs zs.length (icells zs)) :
    Calls Try.prog 20 #[vb, vs] w fun e w' => Kept w w' ∧ ∃ v, e = .returned (cutV v (cutB b zs)) ∧ ∀ rows, cutB b zs = some rows → RowsOwn 31 5 w' w.heap.size v rows := by
  have hlen := run_len (P := Try.prog) w 3 Try.underlying56 hs
  obtain ⟨sa, sc, hvs⟩ := hs.len
  subst hvs
  have ho0 : (w.alloc (.cells #[] 31)).ownsRow w.heap.size 31 1 (.slice (some ⟨w.heap.size, 0, none⟩) 0 0) 0 [] :=
    ⟨rfl, .inr ⟨w.heap.size, 0, #[], rfl, Nat.le_refl _, Blk.new _ _ _, Nat.le_refl _, Nat.zero_le _, rfl, rfl⟩⟩
  have n0 : (zs.length : Int) ≤ 100 := by omega
  clear hlen
  go_enter Try.func20, Try.ntmps20
  go_wp2_with fail
  go_loopw [12, 0, 6, 8] (fun i vr rs _ wr => ∃ k : Nat, k ≤ zs.length ∧ i = .int .i64 k ∧ ∃ (br : List UInt8) (pre : List (List UInt8)), br.length ≤ b.length ∧ pre.length = k ∧ Sl w vr br.length (bcells br) ∧
      RowsOwn 31 5 wr w.heap.size rs pre ∧ cutB b zs = (cutB br (zs.drop k)).map (pre ++ ·) ∧ Below w.heap.size w wr) (fun i _ _ _ _ => zs.length - (intOf i).toNat)
  case atStart => exact ⟨0, by omega, rfl, b, [], Nat.le_refl _, rfl, hb, RowsOwn.empty ho0, by simp, (Below.refl _ _).alloc (Nat.le_refl _) _⟩
  case round =>
    obtain ⟨k, hk, rfl, br, pre, hbr, hpre, hvr, hrs, hcut, hkw⟩ := hrel
    have hsz := hkw.size
    by_cases hlt : k < zs.length
    · obtain ⟨sb, so, sc, he, _, _, lb, xs⟩ := hs.int (by omega)
      cases he
      have c0 := below_at hkw (xs k hlt) lb
      have n1 : (k : Int) < (zs.length : Int) := by omega
      have n2 : (0 : Int) ≤ (k : Int) := by omega
      have n3 : (br.length : Int) ≤ 4000 := by omega
      have hlen := fun wx (hk : Kept w wx) => run_len (P := Try.prog) wx 3 Try.underlying31 (hvr.kept hk)
      have HC := Lib.hid hcut
      have HX := Lib.hid xs
      have HS := Lib.hid hs
      have HP := Lib.hid hpre
      clear hcut xs hs hpre
      by_cases h1 : zs[k] < 0
      · have hstop := cutB_stop hlt HC.out (by omega)
        clear hlen
        go_wp2
        go_ret2
        exact ⟨hkw, .slice none 0 0, by rw [hstop]; rfl, fun rows h => by rw [hstop] at h; cases h⟩
      obtain ⟨z, hz⟩ : ∃ z : Nat, zs[k] = (z : Int) := ⟨zs[k].toNat, by omega⟩
      rw [hz] at c0
      have hl := hlen wr hkw
      by_cases h2 : br.length < z
      · have hstop := cutB_stop hlt HC.out (by omega)
        have n4 : (br.length : Int) < (z : Int) := by omega
        clear hlen hz h1
        go_wp2
        go_ret2
        exact ⟨hkw, .slice none 0 0, by rw [hstop]; rfl, fun rows h => by rw [hstop] at h; cases h⟩
      · have hstep := cutB_step hlt HC.out (by omega) (by omega)
        rw [hz, Int.toNat_natCast] at hstep
        have n4 : (z : Int) ≤ (br.length : Int) := by omega
        have n5 : (0 : Int) ≤ (z : Int) := by omega
        obtain ⟨v1, hv1, s1⟩ := cut_to (P := Try.prog) sl_bytes hvr (k := z) (by omega) .i64
        obtain ⟨v2, hv2, s2⟩ := cut_from (P := Try.prog) sl_bytes hvr (k := z) (by omega) .i64
        obtain ⟨row, hrow⟩ : ∃ row, row = br.take z := ⟨_, rfl⟩
        rw [← hrow] at s1 hstep
        have hrl : row.length ≤ 4000 := by rw [hrow, List.length_take]; omega
        obtain ⟨us, u1, u2, u3, u4⟩ := hrs
        have HST := Lib.hid hstep
        clear hlen hz h1 hstep hrow
        go_wp2_with fail
        refine (clone_any v1 row (by omega) _ (s1.kept hkw)).mono ?_
        rintro e w1 ⟨u, rfl, hu, hk1⟩
        obtain ⟨ua, uc, hue⟩ := (Sl.of_own hu).len
        subst hue
        have H1 := Lib.hid u1
        clear hl c0 u1
        go_wp2_with (at_builtin; refine wpList_append sl_rows rfl (by rfl) (by rfl) (by rfl) ((own_kept u2 hk1).alloc _) (Sl.one _ _ _) (by rfl) (fun x hx => by rw [List.mem_singleton.1 hx]; exact own_oneCell hu) (by unfold maxLen; have := HP.out; omega) (by have := HP.out; omega) (by simp; have := hk1.size; omega) ?_; intro v3 w2 hown2 hg2 hat2)
        have hk2 : Kept w w2 := below_append ((Kept.of hkw hk1).alloc (by have := hk1.size; omega) _) ((own_kept u2 hk1).alloc _) hg2 (by simp; have := hk1.size; omega)
        refine ⟨⟨k + 1, by omega, by go_num, br.drop z, pre ++ [row], by rw [List.length_drop]; omega, by rw [List.length_append, HP.out]; rfl, s2, ?_, HST.out, hk2⟩, by simp [intOf]; omega⟩
        have hka := (Below.refl w1.heap.size w1).alloc (Nat.le_refl _) (.cells #[.slice ua row.length uc] 31)
        exact RowsOwn.snoc H1.out ((own_kept u2 hk1).alloc _) u3 (fun i bs x hi hx => own_kept (own_kept (u4 i bs x hi hx) hk1) hka) (own_base (own_kept hu hka) hsz) (by decide) hg2 hown2
    · have : k = zs.length := by omega
      subst this
      have hlen := fun wx (hk : Kept w wx) => run_len (P := Try.prog) wx 3 Try.underlying31 (hvr.kept hk)
      have hl := hlen wr hkw
      have hend := cutB_end hcut
      clear hlen hcut
      by_cases h0 : br = []
      · rw [if_pos h0] at hend
        have n3 : (br.length : Int) = 0 := by rw [h0]; rfl
        rw [n3] at hl
        have HE := Lib.hid hend
        clear hend h0 n3
        go_wp2
        go_ret2
        exact ⟨hkw, _, by rw [HE.out]; rfl, fun rows h => by rw [HE.out] at h; cases h; exact hrs⟩
      · rw [if_neg h0] at hend
        have n3 : (0 : Int) < (br.length : Int) := by have := List.length_pos_iff.2 h0; omega
        have HE := Lib.hid hend
        clear hend h0
        go_wp2
        go_ret2
        exact ⟨hkw, .slice none 0 0, by rw [HE.out]; rfl, fun rows h => by rw [HE.out] at h; cases h⟩
end Go.Proofs.Ytkbihhdgipckgaa
