/- Trace. -/
import Derived.Test.YtgbfgaeohnjmeaaSsdR
namespace Go.Proofs.Ytgbfgaeohnjmeaa
open Go Go.RowKit

theorem OpsAt.push {w w6 : World} {v v6 u6 : Value} {l : List Wr} {us : List Value} {x : Wr} (h : OpsAt w v l us) (hc : Chg v.ownBlock.toList w w6) (hrow : w6.ownsRow 0 42 2 v6 (l.length + 1) (ocells l us ++ [.int .i64 x.1, u6]))
    (hu : w6.ownsRow 0 5 1 u6 x.2.length (bcells x.2)) : OpsAt w6 v6 (l ++ [x]) (us ++ [u6]) := by
  refine ⟨?_, by simp [h.len], fun i y u hy hu' => ?_⟩
  · rw [ocells_snoc _ _ _ _ h.len]
    simpa using hrow
  · by_cases hi : i < l.length
    · rw [List.getElem?_append_left (by rw [h.len]; exact hi)] at hu'
      rw [show (l ++ [x])[i]? = l[i]? from List.getElem?_append_left hi] at hy
      refine own_chgV (h.each i y u hy hu') hc fun g hg hm => ?_
      obtain ⟨c, hc'⟩ := own_blkOf (h.each i y u hy hu') hg
      obtain ⟨c2, hc2⟩ := own_blkOf h.row (mem_own.1 hm)
      exact blk_ne hc' hc2 (by decide) rfl
    · have hil := (List.getElem?_eq_some_iff.1 hy).1
      simp only [List.length_append, List.length_singleton] at hil
      have hi' : i = l.length := by omega
      subst hi'
      have hy' : some x = some y := by simpa using hy
      rw [← h.len] at hu'
      have hu2 : some u6 = some u := by simpa using hu'
      cases hy'; cases hu2
      exact hu
set_option maxRecDepth 100000 in
set_option maxHeartbeats 4000000 in
theorem trace_any (A : Nat → Prop) (K : Nat) (s : Sd) (n m : Nat) (hm : m ≤ 1000) (w : World) (h : SdAt A w K s) (ok : s.ok n m) : Calls Try.prog 16 #[.pointer (some ⟨K, 0, none⟩)] w fun e w' => ∃ v us', e = .returned v ∧ OpsAt w' v s.trace us' ∧ Kept w w' ∧ (∀ g, v.ownBlock = some g → w.heap.size ≤ g) ∧ ∀ u ∈ us', ∀ g, u.ownBlock = some g → w.heap.size ≤ g := by
  obtain ⟨b, gl, cap, ex, vw, vt, us, ut, X, O, hA⟩ := h
  obtain ⟨ta, tc, hve⟩ := X.trc.slice
  subst hve
  have c3 := X.blk.cell 3
  have hdone := ok.done
  have HFP := Lib.hid ok.fitp
  have i0 : (s.trace.length : Int) ≤ 1000 := by omega
  obtain ⟨N, hN⟩ : ∃ N, N = s.trace.length := ⟨_, rfl⟩
  have c3' : w.cell? ⟨K, 3, none⟩ = some (.slice ta N tc) := by rw [hN]; exact c3
  rw [← hN] at i0 hdone
  have HN := Lib.hid hN
  clear hN c3
  go_enter Try.func16, Try.ntmps16
  go_wp2_with fail
  go_loopw [13, 5, 3] (fun i _ v wr => ∃ (k : Nat) (us' : List Value), k ≤ N ∧ i = .int .i64 k ∧ OpsAt wr v (s.trace.take k) us' ∧ Kept w wr ∧ (∀ g, v.ownBlock = some g → w.heap.size ≤ g) ∧ ∀ u ∈ us', ∀ g, u.ownBlock = some g → w.heap.size ≤ g) (fun i _ _ _ => N - (intOf i).toNat)
  case atStart => exact ⟨0, [], by omega, by go_num, OpsAt.nil _, Below.refl _ _, (by intro g hg; cases hg), by simp⟩
  case round =>
    obtain ⟨k, us', hk, rfl, hv, hkw, hvg, hug⟩ := hrel
    by_cases hlt : k < N
    · have hkl : k < s.trace.length := by rw [← HN.out]; exact hlt
      have n3 : (k : Int) < (N : Int) := by omega
      have n4 : (0 : Int) ≤ (k : Int) := by omega
      have hops := X.trc.kept hkw
      obtain ⟨g, cap2, u, hve, hui, d0, d1, hsu⟩ := hops.get k hkl
      cases hve
      obtain ⟨x, hx⟩ : ∃ x, x = s.trace[k] := ⟨_, rfl⟩
      rw [← hx] at d0 hsu
      have hxl : x.2.length ≤ 60000 := by rw [hx]; exact HFP.out _ (List.getElem_mem hkl)
      have htk : s.trace.take (k + 1) = s.trace.take k ++ [x] := by rw [List.take_succ_eq_append_getElem hkl, hx]
      have hlk : (s.trace.take k).length = k := by simp; omega
      obtain ⟨au, cu, hve⟩ := hsu.len
      subst hve
      have HX := Lib.hid hx
      have HT := Lib.hid htk
      have HLK := Lib.hid hlk
      have hka : Kept wr (wr.alloc (.cells #[.int .i64 x.1, .slice au x.2.length cu] 42)) := (Below.refl _ _).alloc (Nat.le_refl _) _
      have hbx := Blk.new wr #[.int .i64 x.1, .slice au x.2.length cu] 42
      have b0 := hbx.cell 0
      have b1 := hbx.cell 1
      replace hv := hv.kept hka
      replace hsu := hsu.kept hka
      replace hkw := Kept.of hkw hka
      clear hx htk hlk hops hbx hka
      go_wp2_with fail
      generalize (wr.alloc (.cells #[.int .i64 x.1, .slice au x.2.length cu] 42)) = wx at *
      refine (copied_any _ _ x.2 (by omega) _ hsu).mono ?_
      rintro e w2 ⟨a2, c2, rfl, ho2, hk2⟩
      have hkl2 : Kept w2 (w2.alloc (.cells #[.int .i64 x.1, .slice a2 x.2.length c2] 42)) := (Below.refl _ _).alloc (Nat.le_refl _) _
      have hv2 := (hv.kept hk2).kept hkl2
      have ho3 := own_kept ho2 hkl2
      have hz := hkw.size
      have hz2 := hk2.size
      have hz3 := hkl2.size
      have hkw2 := Kept.of (Kept.of hkw hk2) hkl2
      have hvr := hv2.row
      rw [HLK.out] at hvr
      go_wp2_with (at_builtin; refine wpList_append3 sl_ops rfl (by rfl) (by rfl) (by rfl) hvr (Sl.lit _ #[.int .i64 x.1, .slice a2 x.2.length c2] _ 1 (by decide)) (by rfl) (by intro u hu; simp at hu; rcases hu with rfl | rfl <;> rfl) (by unfold maxLen; omega) (by omega) (Nat.zero_le _) ?_; intro v3 w3 hown3 hgr3 hat3 _)
      have hu3 := own_chgV ho3 hgr3.chgL fun g hg hm => by
        obtain ⟨cc, hcc⟩ := own_blkOf ho3 hg
        obtain ⟨c4, hc4⟩ := own_blkOf hv2.row (mem_own.1 hm)
        exact blk_ne hcc hc4 (by decide) rfl
      have hza : (w2.alloc (.cells #[.int .i64 x.1, .slice a2 x.2.length c2] 42)).heap.size = w2.heap.size + 1 := by simp
      refine ⟨⟨k + 1, us' ++ [.slice a2 x.2.length c2], by omega, by go_num, ?_, ?_, fun g hg => ?_, fun u hu g hg => ?_⟩, by simp [intOf]; omega⟩
      · rw [HT.out]
        exact OpsAt.push hv2 hgr3.chgL (by rw [HLK.out]; exact hown3) (own_base hu3 (Nat.zero_le _))
      · exact hkw2.trans (hgr3.chgL.below (fun y hy => hvg y (mem_own.1 hy)) hkw2.size)
      · rcases hat3 with e | e
        · rw [e] at hg; exact hvg g hg
        · have := Option.some.inj (e.symm.trans hg)
          omega
      · rcases List.mem_append.1 hu with hu | hu
        · exact hug u hu g hg
        · rw [List.mem_singleton.1 hu] at hg
          have := own_geV ho2 hg
          omega
    · have hkN : k = N := by omega
      have HK := Lib.hid hkN
      clear hkN
      go_wp2
      go_ret
      rw [HK.out, HN.out, List.take_length] at hv
      exact ⟨_, us', rfl, hv, hkw, hvg, hug⟩


end Go.Proofs.Ytgbfgaeohnjmeaa
