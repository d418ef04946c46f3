/- Snap. -/
import Derived.Test.YtgbfgaeohnjmeaaSsdV
namespace Go.Proofs.Ytgbfgaeohnjmeaa
open Go Go.RowKit

set_option maxRecDepth 100000 in
set_option maxHeartbeats 4000000 in
theorem snap_any (A : Nat → Prop) (K : Nat) (s : Sd) (n m : Nat) (h0 : 0 < n) (hn : n ≤ 65536) (hm : m ≤ 1000) (w : World) (h : SdAt A w K s) (ok : s.ok n m) : Calls Try.prog 11 #[.pointer (some ⟨K, 0, none⟩)] w fun e w' => ∃ g c, e = .returned (.slice (some ⟨g, 0, none⟩) n c) ∧ w'.ownsRow w.heap.size 5 1 (.slice (some ⟨g, 0, none⟩) n c) n (bcells s.snap) ∧ Kept w w' := by
  obtain ⟨b, gl, cap, ex, vw, vt, us, ut, X, O, hA⟩ := h
  obtain ⟨wa, wc, hve⟩ := X.wts.slice
  subst hve
  have c1 := X.blk.cell 1
  have hbnd : s.lasts.length ≤ 65536 := by rw [ok.len]; omega
  have HW := Lib.hid ok.len
  have hfit := ok.fit
  have hfew := ok.few
  have hsl : Sl w (.slice (some ⟨gl, 0, none⟩) s.lasts.length cap) s.lasts.length (bcells s.lasts) := by
    have hcap := X.hcap
    have hmost := X.most
    refine Sl.mk (by omega) hmost fun j u hj => ?_
    have hjl := (List.getElem?_eq_some_iff.1 hj).1
    rw [Nat.zero_add, X.lst.cell j]
    simpa [List.getElem?_append_left hjl] using hj
  go_enter Try.func11, Try.ntmps11
  go_wp2_with fail
  refine (clone_any _ s.lasts (by omega) _ hsl).mono ?_
  rintro e w1 ⟨vb, rfl, hown, hk1⟩
  rw [HW.out] at hown
  obtain ⟨gb, cb, hve⟩ := own_some hown h0
  subst hve
  have hgb := own_geV hown rfl
  obtain ⟨exb, hB1, hcb⟩ : ∃ exb, Blk w1 gb (bcells s.lasts ++ exb).toArray 5 ∧ n + exb.length = cb := by
    rcases hown.2 with ⟨e, _⟩ | ⟨g', cap', cur, e, _, hb, h1, _, h2, h3⟩
    · cases e
    · cases e
      rw [Nat.mul_one] at h2 h3
      refine ⟨cur.toList.drop n, ?_, by simp; omega⟩
      rw [← h3, List.take_append_drop]
      exact hb
  have X1 := X.kept hk1
  have c2 := X1.blk.cell 2
  have i0 : (s.waits.length : Int) ≤ 1000 := by omega
  have i1 : n ≤ cb := by omega
  have hmc : cb ≤ maxLen := by
    rcases hown.2 with ⟨e, _⟩ | ⟨g', cap', cur, e, _, hb, h1, h4, h2, h3⟩
    · cases e
    · cases e; exact h4
  clear hown c1 hsl
  obtain ⟨N, hN⟩ : ∃ N, N = s.waits.length := ⟨_, rfl⟩
  rw [← hN] at c2 i0
  have HN := Lib.hid hN
  clear hN
  go_wp2_with fail
  go_loopw [18, 5] (fun i _ wr => ∃ k : Nat, k ≤ N ∧ i = .int .i64 k ∧ Blk wr gb (bcells (layAll s.lasts (s.waits.take k)) ++ exb).toArray 5 ∧ Kept w wr ∧ SdIn wr K b gl cap ex (.slice wa s.waits.length wc) vt us ut s) (fun i _ _ => N - (intOf i).toNat)
  case atStart => exact ⟨0, by omega, by go_num, hB1, hk1, X1⟩
  case round =>
    obtain ⟨k, hk, rfl, hbl, hkw, Xr⟩ := hrel
    clear hB1 hk1 X1 c2
    by_cases hlt : k < N
    · have hkl : k < s.waits.length := by rw [← HN.out]; exact hlt
      have n3 : (k : Int) < (N : Int) := by omega
      have n4 : (0 : Int) ≤ (k : Int) := by omega
      obtain ⟨g, cap2, u, hve, hui, d0, d1, hsu⟩ := Xr.wts.get k hkl
      cases hve
      obtain ⟨x, hx⟩ : ∃ x, x = s.waits[k] := ⟨_, rfl⟩
      rw [← hx] at d0 hsu
      have hinx : inB n x := by rw [hx]; exact hfit _ (List.getElem_mem hkl)
      have HIN := Lib.hid hinx
      obtain ⟨hx0, hx1⟩ := hinx
      have hlay : layAll s.lasts (s.waits.take (k + 1)) = layB (layAll s.lasts (s.waits.take k)) x := by rw [List.take_succ_eq_append_getElem hkl, layAll_snoc, hx]
      have hll : (layAll s.lasts (s.waits.take k)).length = n := by
        rw [← HW.out]
        exact layAll_length _ _ (fun y hy => by rw [HW.out]; exact hfit y (List.mem_of_mem_take hy))
      obtain ⟨o, ho⟩ : ∃ o : Nat, o = x.1.toNat := ⟨_, rfl⟩
      have hxo : x.1 = (o : Int) := by omega
      rw [← ho] at hx1
      rw [hxo] at d0
      obtain ⟨au, cu, hve⟩ := hsu.len
      subst hve
      have n5 : (o : Int) ≤ (n : Int) := by omega
      have n8 : ¬ cb = o := by omega
      have n9 : ¬ cb - o = 0 := by omega
      have n6 : (n : Int) ≤ (cb : Int) := by omega
      have n7 : (0 : Int) ≤ (o : Int) := by omega
      have HO := Lib.hid ho
      have HX := Lib.hid hx
      have HL := Lib.hid hll
      have HY := Lib.hid hlay
      have HXO := Lib.hid hxo
      have hgbr := hbl.lt
      have hka : Kept wr (wr.alloc (.cells #[.int .i64 (o : Int), .slice au x.2.length cu] 42)) := (Below.refl _ _).alloc (Nat.le_refl _) _
      have hbx := Blk.new wr #[.int .i64 (o : Int), .slice au x.2.length cu] 42
      have hbn : wr.heap.size ∉ [gb] := by simp; omega
      replace hbl := hbl.kept hka
      replace Xr := Xr.kept hka
      replace hsu := hsu.kept hka
      replace hkw := Kept.of hkw hka
      clear ho hx hll hlay hxo
      go_wp2_with fail
      generalize (wr.alloc (.cells #[.int .i64 (o : Int), .slice au x.2.length cu] 42)) = wx at *
      refine wp_region_chainChg [gb] [(0, 0), (1, 0), (2, 0), (3, 0), (4, 0), (5, 0), (6, 1)] (by kernel_rfl) (by kernel_rfl) ?_
      intro w2 hw2
      repeat
        refine chain_light _ rfl (fun K hK => ?_)
        first
          | (refine (if_pos (by rfl)).mpr ?_; apply Exists.intro; refine ⟨fun w' hw' => ?_, hK _ ?_⟩; (have bb := hw'.blk (hbx.kept hw2) hbn; have bb0 := bb.cell 0; have bb1 := bb.cell 1; clear bb; go_simp; done); (clear hK K; simp only [Act.put, List.setIfInBounds_toArray, List.set_cons_zero, List.set_cons_succ]))
          | (refine (if_pos (by rfl)).mpr ?_; apply Exists.intro; refine ⟨fun w' hw' => ?_, hK _ ?_⟩; (have bb := hw'.blk (hbx.kept hw2) hbn; have bb0 := bb.cell 0; have bb1 := bb.cell 1; clear bb; go_simp; rfl); (clear hK K; simp only [Act.put, List.setIfInBounds_toArray, List.set_cons_zero, List.set_cons_succ]))
          | (refine (if_neg (by rw [Bool.not_eq_true]; rfl)).mpr ?_; refine hK _ ?_; (clear hK K; simp only [Act.put, List.setIfInBounds_toArray, List.set_cons_zero, List.set_cons_succ]))
      refine chain_heavy _ rfl (fun K hK => ?_)
      refine (if_pos (by rfl)).mpr ?_
      obtain ⟨w3, hr, hB3, hc3⟩ := run_copyB (P := Try.prog) (w := w2) (dl := n - o) (dc := cb - o) (off := o) sl_bytes 3 (hbl.kept hw2) (hsu.kept hw2) (bcells_length _) (oneCell_V8 _) (by rw [List.length_append, bcells_length, HL.out]; omega)
      go_wp2
      refine hK _ _ (hc3) ?_
      clear hK K
      try simp only [Act.put, List.setIfInBounds_toArray, List.set_cons_zero, List.set_cons_succ]
      refine chain_nil ?_
      have hk3 : Kept w w3 := hkw.trans (((Chg.of_kept hw2).trans hc3).below (by simpa using hgb) hkw.size)
      have hB4 : Blk w3 gb (bcells (layAll s.lasts (s.waits.take (k + 1))) ++ exb).toArray 5 := by
        have hl := lay_cells (layAll s.lasts (s.waits.take k)) exb x n HL.out.symm HIN.out
        rw [← HO.out] at hl
        rw [hl, ← HY.out] at hB3
        exact hB3
      have X3 := X.kept hk3
      go_wp2
      exact ⟨⟨k + 1, by omega, by go_num, hB4, hk3, X3⟩, by simp [intOf]; omega⟩
    · have hkN : k = N := by omega
      have HK := Lib.hid hkN
      clear hkN
      have hsz := hkw.size
      go_wp2
      go_ret
      have hll : (layAll s.lasts s.waits).length = n := by
        rw [← HW.out]
        exact layAll_length _ _ (fun y hy => by rw [HW.out]; exact hfit y hy)
      rw [HK.out, HN.out, List.take_length] at hbl
      refine ⟨gb, cb, rfl, ⟨by rw [bcells_length]; show s.snap.length = _; rw [Sd.snap, hll, Nat.mul_one], .inr ⟨gb, cb, _, rfl, hgb, hbl, i1, hmc, ?_, ?_⟩⟩, hkw⟩
      · simp [bcells_length, hll]; omega
      · rw [Nat.mul_one, List.take_append_of_le_length (by rw [bcells_length, hll]; exact Nat.le_refl _), List.take_of_length_le (by rw [bcells_length, hll]; exact Nat.le_refl _)]
        rfl


end Go.Proofs.Ytgbfgaeohnjmeaa
