/- Trace. -/
import Derived.Test.YtpbdncnepcibaaaDiskK
namespace Go.Proofs.Ytpbdncnepcibaaa
open Go Go.RowKit

set_option maxRecDepth 100000 in
set_option maxHeartbeats 4000000 in
theorem disk_trace (A : Nat → Prop) (J b : Nat) (d : Dk) (m : Nat) (hm : m ≤ 1000) (w : World) (h : DkAt A w J b d) (ok : d.ok m) : Calls Try.prog 17 #[.pointer (some ⟨J, 0, none⟩)] w fun e w' => ∃ v us', e = .returned v ∧ OpsAt w' v d.trace us' ∧ Kept w w' ∧ (∀ g, v.ownBlock = some g → w.heap.size ≤ g) ∧ ∀ u ∈ us', ∀ g, u.ownBlock = some g → w.heap.size ≤ g := by
  obtain ⟨ls, vw, vt, us, ut, X, O, hA⟩ := h
  obtain ⟨ta, tc, hve⟩ := X.trc.slice
  subst hve
  have hll : ls.length = 32 := by rw [X.lst.len, ok.len]
  have c34 := X.blk.cell 34
  rw [dcells_34 hll] at c34
  have hdone := ok.done
  have HFP := Lib.hid ok.fitp
  have i0 : (d.trace.length : Int) ≤ 1000 := by omega
  obtain ⟨N, hN⟩ : ∃ N, N = d.trace.length := ⟨_, rfl⟩
  rw [← hN] at c34 hdone i0
  have HN := Lib.hid hN
  clear hN hll
  go_enter Try.func17, Try.ntmps17
  go_wp2_with fail
  go_loopw [13, 5, 3] (fun i _ v wr => ∃ (k : Nat) (us' : List Value), k ≤ N ∧ i = .int .i64 k ∧ OpsAt wr v (d.trace.take k) us' ∧ Kept w wr ∧ (∀ g, v.ownBlock = some g → w.heap.size ≤ g) ∧ ∀ u ∈ us', ∀ g, u.ownBlock = some g → w.heap.size ≤ g) (fun i _ _ _ => N - (intOf i).toNat)
  case atStart => exact ⟨0, [], by omega, by go_num, OpsAt.nil _, Below.refl _ _, (by intro g hg; cases hg), by simp⟩
  case round =>
    obtain ⟨k, us', hk, rfl, hv, hkw, hvg, hug⟩ := hrel
    by_cases hlt : k < N
    · have hkl : k < d.trace.length := by rw [← HN.out]; exact hlt
      have n3 : (k : Int) < (N : Int) := by omega
      have n4 : (0 : Int) ≤ (k : Int) := by omega
      have hops := X.trc.kept hkw
      obtain ⟨g, cap2, u, hve, hui, d0, d1, hsu⟩ := hops.get k hkl
      cases hve
      obtain ⟨x, hx⟩ : ∃ x, x = d.trace[k] := ⟨_, rfl⟩
      rw [← hx] at d0 hsu
      have hxl : x.2.length ≤ 60000 := by rw [hx]; exact HFP.out _ (List.getElem_mem hkl)
      have htk : d.trace.take (k + 1) = d.trace.take k ++ [x] := by rw [List.take_succ_eq_append_getElem hkl, hx]
      have hlk : (d.trace.take k).length = k := by simp; omega
      obtain ⟨au, cu, hve⟩ := hsu.len
      subst hve
      obtain ⟨vva, vvc, hve⟩ := hv.slice
      rw [hlk] at hve
      subst hve
      have HX := Lib.hid hx
      have HT := Lib.hid htk
      have HLK := Lib.hid hlk
      have hka : Kept wr (wr.alloc (.cells #[.int .i64 x.1, .slice au x.2.length cu] 61)) := (Below.refl _ _).alloc (Nat.le_refl _) _
      have hbx := Blk.new wr #[.int .i64 x.1, .slice au x.2.length cu] 61
      have hbv : wr.heap.size ∉ (Value.slice vva k vvc).ownBlock.toList := fun hm => by
        obtain ⟨c, hc⟩ := own_blkOf hv.row (mem_own.1 hm)
        have := hc.lt
        omega
      replace hv := hv.kept hka
      replace hsu := hsu.kept hka
      replace hkw := Kept.of hkw hka
      clear hx htk hlk hops hka
      go_wp2_with fail
      generalize (wr.alloc (.cells #[.int .i64 x.1, .slice au x.2.length cu] 61)) = wx at *
      refine wp_region_chainChg ((Value.slice vva k vvc).ownBlock.toList) [(0, 0), (1, 0), (2, 0), (3, 0), (4, 0), (5, 1), (6, 0), (7, 1), (8, 1), (9, 0)] (by kernel_rfl) (by kernel_rfl) ?_
      intro w1 hw1
      repeat
        refine chain_light _ rfl (fun K hK => ?_)
        first
          | (refine (if_pos (by rfl)).mpr ?_; apply Exists.intro; refine ⟨fun w' hw' => ?_, hK _ ?_⟩; (have bb0 := (hw'.blk (hbx.kept hw1) hbv).cell 0; have bb1 := (hw'.blk (hbx.kept hw1) hbv).cell 1; go_simp; done); (clear hK K; simp only [Act.put, List.setIfInBounds_toArray, List.set_cons_zero, List.set_cons_succ]))
          | (refine (if_pos (by rfl)).mpr ?_; apply Exists.intro; refine ⟨fun w' hw' => ?_, hK _ ?_⟩; (have bb0 := (hw'.blk (hbx.kept hw1) hbv).cell 0; have bb1 := (hw'.blk (hbx.kept hw1) hbv).cell 1; go_simp; rfl); (clear hK K; simp only [Act.put, List.setIfInBounds_toArray, List.set_cons_zero, List.set_cons_succ]))
          | (refine (if_neg (by rw [Bool.not_eq_true]; rfl)).mpr ?_; refine hK _ ?_; (clear hK K; simp only [Act.put, List.setIfInBounds_toArray, List.set_cons_zero, List.set_cons_succ]))
      refine chain_heavy _ rfl (fun K hK => ?_)
      refine (if_pos (by rfl)).mpr ?_
      go_wp2_with fail
      refine (clone_any _ x.2 (by omega) _ (hsu.kept hw1)).mono ?_
      rintro e w2 ⟨v2, rfl, ho2, hk2⟩
      obtain ⟨a2, c2, hve⟩ := (Sl.of_own ho2).len
      subst hve
      go_wp2
      refine hK _ _ (Chg.of_kept hk2) ?_
      clear hK K
      try simp only [Act.put, List.setIfInBounds_toArray, List.set_cons_zero, List.set_cons_succ]
      repeat
        refine chain_light _ rfl (fun K hK => ?_)
        first
          | (refine (if_pos (by rfl)).mpr ?_; apply Exists.intro; refine ⟨fun w' hw' => ?_, hK _ ?_⟩; (go_simp; done); (clear hK K; simp only [Act.put, List.setIfInBounds_toArray, List.set_cons_zero, List.set_cons_succ]))
          | (refine (if_pos (by rfl)).mpr ?_; apply Exists.intro; refine ⟨fun w' hw' => ?_, hK _ ?_⟩; (go_simp; rfl); (clear hK K; simp only [Act.put, List.setIfInBounds_toArray, List.set_cons_zero, List.set_cons_succ]))
          | (refine (if_neg (by rw [Bool.not_eq_true]; rfl)).mpr ?_; refine hK _ ?_; (clear hK K; simp only [Act.put, List.setIfInBounds_toArray, List.set_cons_zero, List.set_cons_succ]))
      refine chain_heavy _ rfl (fun K hK => ?_)
      refine (if_pos (by rfl)).mpr ?_
      go_wp2
      refine hK _ _ (Chg.of_kept ((Below.refl _ _).alloc (Nat.le_refl _) _)) ?_
      clear hK K
      try simp only [Act.put, List.setIfInBounds_toArray, List.set_cons_zero, List.set_cons_succ]
      refine chain_heavy _ rfl (fun K hK => ?_)
      refine (if_pos (by rfl)).mpr ?_
      have hkl2 : Kept w2 (w2.alloc (.cells #[.int .i64 x.1, .slice a2 x.2.length c2] 61)) := (Below.refl _ _).alloc (Nat.le_refl _) _
      have hv2 := ((hv.kept hw1).kept hk2).kept hkl2
      have ho3 := own_kept ho2 hkl2
      have hvr := hv2.row
      rw [HLK.out] at hvr
      refine wp_append3 sl_ops (by rfl) (by rfl) (by rfl) hvr (Sl.lit _ #[.int .i64 x.1, .slice a2 x.2.length c2] _ 1 (by decide)) (by rfl) (by intro u hu; simp at hu; rcases hu with rfl | rfl <;> rfl) (by unfold maxLen; omega) (by omega) (Nat.zero_le _) ?_
      intro v3 w3 hown3 hgr3 hat3 _
      refine hK _ _ (hgr3.chgL) ?_
      clear hK K
      try simp only [Act.put, List.setIfInBounds_toArray, List.set_cons_zero, List.set_cons_succ]
      repeat
        refine chain_light _ rfl (fun K hK => ?_)
        first
          | (refine (if_pos (by rfl)).mpr ?_; apply Exists.intro; refine ⟨fun w' hw' => ?_, hK _ ?_⟩; (go_simp; done); (clear hK K; simp only [Act.put, List.setIfInBounds_toArray, List.set_cons_zero, List.set_cons_succ]))
          | (refine (if_pos (by rfl)).mpr ?_; apply Exists.intro; refine ⟨fun w' hw' => ?_, hK _ ?_⟩; (go_simp; rfl); (clear hK K; simp only [Act.put, List.setIfInBounds_toArray, List.set_cons_zero, List.set_cons_succ]))
          | (refine (if_neg (by rw [Bool.not_eq_true]; rfl)).mpr ?_; refine hK _ ?_; (clear hK K; simp only [Act.put, List.setIfInBounds_toArray, List.set_cons_zero, List.set_cons_succ]))
      refine chain_nil ?_
      have hkw2 := Kept.of (Kept.of (Kept.of hkw hw1) hk2) hkl2
      have hz := hkw.size
      have hz1 := hw1.size
      have hz2 := hk2.size
      have hz3 := hkl2.size
      have hza : (w2.alloc (.cells #[.int .i64 x.1, .slice a2 x.2.length c2] 61)).heap.size = w2.heap.size + 1 := by simp
      have hu3 := own_chgV ho3 hgr3.chgL fun g hg hm => by
        obtain ⟨cc, hcc⟩ := own_blkOf ho3 hg
        exact not_own hv2.row hcc (by decide) hm
      go_wp2
      refine ⟨⟨k + 1, us' ++ [.slice a2 x.2.length c2], by omega, by go_num, ?_, ?_, fun g hg => ?_, fun u hu g hg => ?_⟩, by simp [intOf]; omega⟩
      · rw [HT.out]
        exact OpsAt.push hv2 hgr3.chgL (by rw [HLK.out]; exact hown3) (own_base hu3 (Nat.zero_le _))
      · exact hkw2.trans (hgr3.chgL.below (fun y hy => hvg y (mem_own.1 hy)) hkw2.size)
      · rcases hat3 with e | e
        · rw [e] at hg; exact hvg g hg
        · have := Option.some.inj (e.symm.trans hg)
          omega
      · rcases List.mem_append.1 hu with hu | hu
        · exact hug u hu g hg
        · rw [List.mem_singleton.1 hu] at hg
          have := own_geV ho2 hg
          omega
    · have hkN : k = N := by omega
      have HK := Lib.hid hkN
      clear hkN
      go_wp2
      go_ret
      rw [HK.out, HN.out, List.take_length] at hv
      exact ⟨_, us', rfl, hv, hkw, hvg, hug⟩


end Go.Proofs.Ytpbdncnepcibaaa
