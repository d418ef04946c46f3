/- What settles leaves: all that waits lasts, or what is kept. -/
import Derived.Test.YtgbfgaeohnjmeaaSsdV
namespace Go.Proofs.Ytgbfgaeohnjmeaa
open Go Go.RowKit

/-- what a row of truths keeps -/
def isK (ks : List Bool) (i : Nat) : Bool := ks[i]?.getD false
def kcells (ks : List Bool) : List Value := ks.map .bool
theorem kcells_length (ks : List Bool) : (kcells ks).length = ks.length := by simp [kcells]
set_option maxRecDepth 100000 in
set_option maxHeartbeats 4000000 in
theorem all_any (i : Int) (w : World) : Calls Try.prog 24 #[.int .i64 i] w fun e w' => e = .returned (.bool true) ∧ w = w' := by
  go_enter Try.func24, Try.ntmps24
  go_wp2
  go_ret
  exact ⟨rfl, rfl⟩

set_option maxRecDepth 100000 in
set_option maxHeartbeats 4000000 in
theorem crash1_any (k : Nat) (B : Nat) (a : Option Addr) (c : Nat) (ks : List Bool) (hl : ks.length ≤ 1000) (w : World) (h : w.cell? ⟨B, 0, none⟩ = some (.slice a ks.length c)) (hs : Sl w (.slice a ks.length c) ks.length (kcells ks)) : Calls Try.prog 26 #[.int .i64 k, .pointer (some ⟨B, 0, none⟩)] w fun e w' => e = .returned (.bool (isK ks k)) ∧ w = w' := by
  by_cases hk : k < ks.length
  · have n1 : (k : Int) < (ks.length : Int) := by omega
    have n2 : (0 : Int) ≤ (k : Int) := by omega
    obtain ⟨b, off, cap, e, _, _, _, hx⟩ := hs.at (by rw [kcells_length]; omega)
    cases e
    have r0 := hx k (.bool ks[k]) (by simp [kcells, hk])
    have hi : isK ks k = ks[k] := by simp [isK, hk]
    rw [hi]
    generalize ks[k] = q at *
    clear hx
    go_enter Try.func26, Try.ntmps26
    go_wp2
    go_ret
    exact ⟨rfl, rfl⟩
  · have n1 : ¬ (k : Int) < (ks.length : Int) := by omega
    have hi : isK ks k = false := by simp [isK, List.getElem?_eq_none (show ks.length ≤ k by omega)]
    rw [hi]
    clear hs
    go_enter Try.func26, Try.ntmps26
    go_wp2
    go_ret
    exact ⟨rfl, rfl⟩

theorem all_is (is : Nat → Bool) (h : is = fun _ => true) (i : Nat) (w : World) : Calls Try.prog 24 #[.int .i64 i] w fun e w' => e = .returned (.bool (is i)) ∧ w = w' := by
  subst h; exact all_any i w
theorem crash1_is (is : Nat → Bool) (k : Nat) (B : Nat) (a : Option Addr) (c : Nat) (ks : List Bool) (hi : is = isK ks) (hl : ks.length ≤ 1000) (w : World) (h : w.cell? ⟨B, 0, none⟩ = some (.slice a ks.length c)) (hs : Sl w (.slice a ks.length c) ks.length (kcells ks)) : Calls Try.prog 26 #[.int .i64 k, .pointer (some ⟨B, 0, none⟩)] w fun e w' => e = .returned (.bool (is k)) ∧ w = w' := by
  subst hi; exact crash1_any k B a c ks hl w h hs
set_option maxRecDepth 100000 in
set_option maxHeartbeats 4000000 in
theorem settle_all (K b gl cap : Nat) (ex : List Value) (vw vt : Value) (us ut : List Value) (s : Sd) (n m : Nat) (h0 : 0 < n) (hn : n ≤ 65536) (hm : m ≤ 1000) (is : Nat → Bool) (w : World) (X : SdIn w K b gl cap ex vw vt us ut s) (ok : s.ok n m) (his : is = fun _ => true) :
    Calls Try.prog 23 #[.pointer (some ⟨K, 0, none⟩), .func (.func 24) #[] #[]] w fun e w' => e = .returned (.tuple #[]) ∧ SdIn w' K b gl cap ex (.slice none 0 0) vt [] ut { s with lasts := layIs s.lasts s.waits is s.waits.length, waits := [] } ∧ Chg [gl, K] w w' := by
  have HISF := Lib.hid his
  clear his
  obtain ⟨wa, wc, hve⟩ := X.wts.slice
  subst hve
  obtain ⟨n1, n2, n3, n4, n5, n6, n7⟩ := X.ne
  have HF := Lib.hid ok.fit
  have hfew := ok.few
  have hcap := X.hcap
  have HW := Lib.hid ok.len
  rw [HW.out] at hcap
  have c2 := X.blk.cell 2
  have c1 := X.blk.cell 1
  have fK := X.blk.free 2
  have i0 : (s.waits.length : Int) ≤ 1000 := by omega
  have i1 : n ≤ cap := by omega
  have hKn : K ∉ [gl] := by simpa using n3
  have c1' : w.cell? ⟨K, 1, none⟩ = some (.slice (some ⟨gl, 0, none⟩) n cap) := by rw [← HW.out]; exact c1
  have HIS := Lib.hid (layIs_length s.lasts s.waits is (fun x hx => by rw [HW.out]; exact HF.out x hx))
  clear c1
  obtain ⟨N, hN⟩ : ∃ N, N = s.waits.length := ⟨_, rfl⟩
  have c2' : w.cell? ⟨K, 2, none⟩ = some (.slice wa N wc) := by rw [hN]; exact c2
  rw [← hN] at i0 hfew
  have HN := Lib.hid hN
  clear hN c2
  go_enter Try.func23, Try.ntmps23
  go_wp2_with fail
  go_loopw [11, 5, 4] (fun i _ _ wr => ∃ k : Nat, k ≤ N ∧ i = .int .i64 k ∧ Blk wr gl (bcells (layIs s.lasts s.waits is k) ++ ex).toArray 5 ∧ Chg [gl] w wr) (fun i _ _ _ => N - (intOf i).toNat)
  case atStart => exact ⟨0, by omega, by go_num, X.lst, Chg.refl _ _⟩
  case round =>
    obtain ⟨k, hk, rfl, hbl, hcw⟩ := hrel
    have kc2 := hcw.cell c2' hKn
    have kc1 := hcw.cell c1' hKn
    by_cases hlt : k < N
    · have hkl : k < s.waits.length := by rw [← HN.out]; exact hlt
      have n3' : (k : Int) < (N : Int) := by omega
      have n4' : (0 : Int) ≤ (k : Int) := by omega
      have hops := X.wts.chg hcw (fun g hg => by simpa using (n4 g hg).2.2) (fun u hu g hg => by simpa using (n6 u hu g hg).2.2.1)
      obtain ⟨g, cap2, u, hve, hui, d0, d1, hsu⟩ := hops.get k hkl
      cases hve
      obtain ⟨x, hx⟩ : ∃ x, x = s.waits[k] := ⟨_, rfl⟩
      rw [← hx] at d0 hsu
      have hinx : inB n x := by rw [hx]; exact HF.out _ (List.getElem_mem hkl)
      have HIN := Lib.hid hinx
      obtain ⟨hx0, hx1⟩ := hinx
      have hxg : s.waits[k]?.getD (0, []) = x := by rw [List.getElem?_eq_getElem hkl, hx]; rfl
      have hll : (layIs s.lasts s.waits is k).length = n := by rw [HIS.out k (by omega), HW.out]
      obtain ⟨o, ho⟩ : ∃ o : Nat, o = x.1.toNat := ⟨_, rfl⟩
      have hxo : x.1 = (o : Int) := by omega
      rw [← ho] at hx1
      rw [hxo] at d0
      obtain ⟨au, cu, hve⟩ := hsu.len
      subst hve
      have m5 : (o : Int) ≤ (n : Int) := by omega
      have m8 : ¬ cap = o := by omega
      have m9 : ¬ cap - o = 0 := by omega
      have m6 : (n : Int) ≤ (cap : Int) := by omega
      have m7 : (0 : Int) ≤ (o : Int) := by omega
      have HO := Lib.hid ho
      have HX := Lib.hid hx
      have HL := Lib.hid hll
      have HXG := Lib.hid hxg
      have HXO := Lib.hid hxo
      have hgbr := hbl.lt
      have hka : Kept wr (wr.alloc (.cells #[.int .i64 (o : Int), .slice au x.2.length cu] 42)) := (Below.refl _ _).alloc (Nat.le_refl _) _
      have hbx := Blk.new wr #[.int .i64 (o : Int), .slice au x.2.length cu] 42
      have hbn : wr.heap.size ∉ [gl] := by simp; omega
      replace hbl := hbl.kept hka
      replace hsu := hsu.kept hka
      replace kc1 := hka.at kc1
      replace hcw := hcw.trans (Chg.of_kept hka)
      clear ho hx hll hxg hxo hka
      go_wp2_with fail
      generalize (wr.alloc (.cells #[.int .i64 (o : Int), .slice au x.2.length cu] 42)) = wx at *
      refine (all_is is HISF.out k _).mono ?_
      rintro e w1 ⟨rfl, rfl⟩
      cases hq : is k
      · have hls : layIs s.lasts s.waits is (k + 1) = layIs s.lasts s.waits is k := by rw [layIs, hq]; rfl
        have HLS := Lib.hid hls
        clear hls hq
        go_wp2
        exact ⟨⟨k + 1, by omega, by go_num, by rw [HLS.out]; exact hbl, hcw⟩, by simp [intOf]; omega⟩
      · have hls : layIs s.lasts s.waits is (k + 1) = layB (layIs s.lasts s.waits is k) x := by rw [layIs, hq, if_pos rfl, HXG.out]
        have HLS := Lib.hid hls
        clear hls hq
        go_wp2_with fail
        refine wp_region_chainChg [gl] [(0, 0), (1, 0), (2, 0), (3, 0), (4, 0), (5, 0), (6, 0), (7, 0), (8, 0), (9, 1)] (by kernel_rfl) (by kernel_rfl) ?_
        intro w2 hw2
        repeat
          refine chain_light _ rfl (fun K hK => ?_)
          first
            | (refine (if_pos (by rfl)).mpr ?_; apply Exists.intro; refine ⟨fun w' hw' => ?_, hK _ ?_⟩; (have bb := hw'.blk (hbx.kept hw2) hbn; have bb0 := bb.cell 0; have bb1 := bb.cell 1; clear bb; have kk := hw'.cell (hw2.at kc1) hKn; go_simp; done); (clear hK K; simp only [Act.put, List.setIfInBounds_toArray, List.set_cons_zero, List.set_cons_succ]))
            | (refine (if_pos (by rfl)).mpr ?_; apply Exists.intro; refine ⟨fun w' hw' => ?_, hK _ ?_⟩; (have bb := hw'.blk (hbx.kept hw2) hbn; have bb0 := bb.cell 0; have bb1 := bb.cell 1; clear bb; have kk := hw'.cell (hw2.at kc1) hKn; go_simp; rfl); (clear hK K; simp only [Act.put, List.setIfInBounds_toArray, List.set_cons_zero, List.set_cons_succ]))
            | (refine (if_neg (by rw [Bool.not_eq_true]; rfl)).mpr ?_; refine hK _ ?_; (clear hK K; simp only [Act.put, List.setIfInBounds_toArray, List.set_cons_zero, List.set_cons_succ]))
        refine chain_heavy _ rfl (fun K hK => ?_)
        refine (if_pos (by rfl)).mpr ?_
        obtain ⟨w3, hr, hB3, hc3⟩ := run_copyB (P := Try.prog) (w := w2) (dl := n - o) (dc := cap - o) (off := o) sl_bytes 3 (hbl.kept hw2) (hsu.kept hw2) (bcells_length _) (oneCell_V8 _) (by rw [List.length_append, bcells_length, HL.out]; omega)
        go_wp2
        refine hK _ _ (hc3) ?_
        clear hK K
        try simp only [Act.put, List.setIfInBounds_toArray, List.set_cons_zero, List.set_cons_succ]
        refine chain_nil ?_
        have hB4 : Blk w3 gl (bcells (layIs s.lasts s.waits is (k + 1)) ++ ex).toArray 5 := by
          have hl := lay_cells (layIs s.lasts s.waits is k) ex x n HL.out.symm HIN.out
          rw [← HO.out] at hl
          rw [hl, ← HLS.out] at hB3
          exact hB3
        have hc4 : Chg [gl] w w3 := hcw.trans ((Chg.of_kept hw2).trans hc3)
        go_wp2
        exact ⟨⟨k + 1, by omega, by go_num, hB4, hc4⟩, by simp [intOf]; omega⟩
    · have hkN : k = N := by omega
      have HK := Lib.hid hkN
      clear hkN
      have bK := hcw.blk X.blk hKn
      have fK2 := bK.free 2
      go_wp2
      go_end0
      have hqK : Chg [K] wr (wr.setCell ⟨K, 2, none⟩ (.slice none 0 0)) := Chg.step (by simp) _
      rw [HK.out, HN.out] at hbl
      have tr := X.trc.chg hcw (fun g hg => by simpa using (n5 g hg).2.2) (fun u hu g hg => by simpa using (n7 u hu g hg).2.2.1)
      refine ⟨rfl, ⟨?_, hqK.blk (hcw.blk X.pw (by simpa using n2)) (by simpa using n1), hqK.blk hbl (by simpa using n3.symm), ?_, X.most, OpsAt.nil _, tr.chg hqK (fun g hg => by simpa using (n5 g hg).2.1) (fun u hu g hg => by simpa using (n7 u hu g hg).2.1), by simp, X.tne, by intro g hg; cases hg⟩, (hcw.mono (by simp)).trans (hqK.mono (by simp))⟩
      · have hl2 := HIS.out s.waits.length (Nat.le_refl _)
        have := bK.set 2 (.slice none 0 0)
        rw [← hl2] at this
        simpa using this
      · rw [← X.hcap, ← HIS.out s.waits.length (Nat.le_refl _)]

set_option maxRecDepth 100000 in
set_option maxHeartbeats 4000000 in
theorem settle_some (K b gl cap : Nat) (ex : List Value) (vw vt : Value) (us ut : List Value) (s : Sd) (n m : Nat) (h0 : 0 < n) (hn : n ≤ 65536) (hm : m ≤ 1000) (is : Nat → Bool) (B : Nat) (ka : Option Addr) (kc : Nat) (ks : List Bool) (kl : ks.length ≤ 1000) (w : World) (X : SdIn w K b gl cap ex vw vt us ut s) (ok : s.ok n m) (his : is = isK ks) (hB : w.cell? ⟨B, 0, none⟩ = some (.slice ka ks.length kc)) (hks : Sl w (.slice ka ks.length kc) ks.length (kcells ks)) (hBg : B ∉ [gl]) (hkg : ∀ a c, Value.slice ka ks.length kc = .slice (some a) ks.length c → 0 < (kcells ks).length → a.block ∉ [gl]) :
    Calls Try.prog 23 #[.pointer (some ⟨K, 0, none⟩), .func (.func 26) #[] #[.pointer (some ⟨B, 0, none⟩)]] w fun e w' => e = .returned (.tuple #[]) ∧ SdIn w' K b gl cap ex (.slice none 0 0) vt [] ut { s with lasts := layIs s.lasts s.waits is s.waits.length, waits := [] } ∧ Chg [gl, K] w w' := by
  have HISF := Lib.hid his
  clear his
  obtain ⟨wa, wc, hve⟩ := X.wts.slice
  subst hve
  obtain ⟨n1, n2, n3, n4, n5, n6, n7⟩ := X.ne
  have HF := Lib.hid ok.fit
  have hfew := ok.few
  have hcap := X.hcap
  have HW := Lib.hid ok.len
  rw [HW.out] at hcap
  have c2 := X.blk.cell 2
  have c1 := X.blk.cell 1
  have fK := X.blk.free 2
  have i0 : (s.waits.length : Int) ≤ 1000 := by omega
  have i1 : n ≤ cap := by omega
  have hKn : K ∉ [gl] := by simpa using n3
  have c1' : w.cell? ⟨K, 1, none⟩ = some (.slice (some ⟨gl, 0, none⟩) n cap) := by rw [← HW.out]; exact c1
  have HIS := Lib.hid (layIs_length s.lasts s.waits is (fun x hx => by rw [HW.out]; exact HF.out x hx))
  clear c1
  obtain ⟨N, hN⟩ : ∃ N, N = s.waits.length := ⟨_, rfl⟩
  have c2' : w.cell? ⟨K, 2, none⟩ = some (.slice wa N wc) := by rw [hN]; exact c2
  rw [← hN] at i0 hfew
  have HN := Lib.hid hN
  clear hN c2
  go_enter Try.func23, Try.ntmps23
  go_wp2_with fail
  go_loopw [11, 5, 4] (fun i _ _ wr => ∃ k : Nat, k ≤ N ∧ i = .int .i64 k ∧ Blk wr gl (bcells (layIs s.lasts s.waits is k) ++ ex).toArray 5 ∧ Chg [gl] w wr) (fun i _ _ _ => N - (intOf i).toNat)
  case atStart => exact ⟨0, by omega, by go_num, X.lst, Chg.refl _ _⟩
  case round =>
    obtain ⟨k, hk, rfl, hbl, hcw⟩ := hrel
    have kc2 := hcw.cell c2' hKn
    have kc1 := hcw.cell c1' hKn
    by_cases hlt : k < N
    · have hkl : k < s.waits.length := by rw [← HN.out]; exact hlt
      have n3' : (k : Int) < (N : Int) := by omega
      have n4' : (0 : Int) ≤ (k : Int) := by omega
      have hops := X.wts.chg hcw (fun g hg => by simpa using (n4 g hg).2.2) (fun u hu g hg => by simpa using (n6 u hu g hg).2.2.1)
      obtain ⟨g, cap2, u, hve, hui, d0, d1, hsu⟩ := hops.get k hkl
      cases hve
      obtain ⟨x, hx⟩ : ∃ x, x = s.waits[k] := ⟨_, rfl⟩
      rw [← hx] at d0 hsu
      have hinx : inB n x := by rw [hx]; exact HF.out _ (List.getElem_mem hkl)
      have HIN := Lib.hid hinx
      obtain ⟨hx0, hx1⟩ := hinx
      have hxg : s.waits[k]?.getD (0, []) = x := by rw [List.getElem?_eq_getElem hkl, hx]; rfl
      have hll : (layIs s.lasts s.waits is k).length = n := by rw [HIS.out k (by omega), HW.out]
      obtain ⟨o, ho⟩ : ∃ o : Nat, o = x.1.toNat := ⟨_, rfl⟩
      have hxo : x.1 = (o : Int) := by omega
      rw [← ho] at hx1
      rw [hxo] at d0
      obtain ⟨au, cu, hve⟩ := hsu.len
      subst hve
      have m5 : (o : Int) ≤ (n : Int) := by omega
      have m8 : ¬ cap = o := by omega
      have m9 : ¬ cap - o = 0 := by omega
      have m6 : (n : Int) ≤ (cap : Int) := by omega
      have m7 : (0 : Int) ≤ (o : Int) := by omega
      have HO := Lib.hid ho
      have HX := Lib.hid hx
      have HL := Lib.hid hll
      have HXG := Lib.hid hxg
      have HXO := Lib.hid hxo
      have hgbr := hbl.lt
      have hka : Kept wr (wr.alloc (.cells #[.int .i64 (o : Int), .slice au x.2.length cu] 42)) := (Below.refl _ _).alloc (Nat.le_refl _) _
      have hbx := Blk.new wr #[.int .i64 (o : Int), .slice au x.2.length cu] 42
      have hbn : wr.heap.size ∉ [gl] := by simp; omega
      replace hbl := hbl.kept hka
      replace hsu := hsu.kept hka
      replace kc1 := hka.at kc1
      replace hcw := hcw.trans (Chg.of_kept hka)
      clear ho hx hll hxg hxo hka
      go_wp2_with fail
      generalize (wr.alloc (.cells #[.int .i64 (o : Int), .slice au x.2.length cu] 42)) = wx at *
      refine (crash1_is is k B ka kc ks HISF.out kl _ (hcw.cell hB hBg) (Chg.sl hks hcw hkg)).mono ?_
      rintro e w1 ⟨rfl, rfl⟩
      cases hq : is k
      · have hls : layIs s.lasts s.waits is (k + 1) = layIs s.lasts s.waits is k := by rw [layIs, hq]; rfl
        have HLS := Lib.hid hls
        clear hls hq
        go_wp2
        exact ⟨⟨k + 1, by omega, by go_num, by rw [HLS.out]; exact hbl, hcw⟩, by simp [intOf]; omega⟩
      · have hls : layIs s.lasts s.waits is (k + 1) = layB (layIs s.lasts s.waits is k) x := by rw [layIs, hq, if_pos rfl, HXG.out]
        have HLS := Lib.hid hls
        clear hls hq
        go_wp2_with fail
        refine wp_region_chainChg [gl] [(0, 0), (1, 0), (2, 0), (3, 0), (4, 0), (5, 0), (6, 0), (7, 0), (8, 0), (9, 1)] (by kernel_rfl) (by kernel_rfl) ?_
        intro w2 hw2
        repeat
          refine chain_light _ rfl (fun K hK => ?_)
          first
            | (refine (if_pos (by rfl)).mpr ?_; apply Exists.intro; refine ⟨fun w' hw' => ?_, hK _ ?_⟩; (have bb := hw'.blk (hbx.kept hw2) hbn; have bb0 := bb.cell 0; have bb1 := bb.cell 1; clear bb; have kk := hw'.cell (hw2.at kc1) hKn; go_simp; done); (clear hK K; simp only [Act.put, List.setIfInBounds_toArray, List.set_cons_zero, List.set_cons_succ]))
            | (refine (if_pos (by rfl)).mpr ?_; apply Exists.intro; refine ⟨fun w' hw' => ?_, hK _ ?_⟩; (have bb := hw'.blk (hbx.kept hw2) hbn; have bb0 := bb.cell 0; have bb1 := bb.cell 1; clear bb; have kk := hw'.cell (hw2.at kc1) hKn; go_simp; rfl); (clear hK K; simp only [Act.put, List.setIfInBounds_toArray, List.set_cons_zero, List.set_cons_succ]))
            | (refine (if_neg (by rw [Bool.not_eq_true]; rfl)).mpr ?_; refine hK _ ?_; (clear hK K; simp only [Act.put, List.setIfInBounds_toArray, List.set_cons_zero, List.set_cons_succ]))
        refine chain_heavy _ rfl (fun K hK => ?_)
        refine (if_pos (by rfl)).mpr ?_
        obtain ⟨w3, hr, hB3, hc3⟩ := run_copyB (P := Try.prog) (w := w2) (dl := n - o) (dc := cap - o) (off := o) sl_bytes 3 (hbl.kept hw2) (hsu.kept hw2) (bcells_length _) (oneCell_V8 _) (by rw [List.length_append, bcells_length, HL.out]; omega)
        go_wp2
        refine hK _ _ (hc3) ?_
        clear hK K
        try simp only [Act.put, List.setIfInBounds_toArray, List.set_cons_zero, List.set_cons_succ]
        refine chain_nil ?_
        have hB4 : Blk w3 gl (bcells (layIs s.lasts s.waits is (k + 1)) ++ ex).toArray 5 := by
          have hl := lay_cells (layIs s.lasts s.waits is k) ex x n HL.out.symm HIN.out
          rw [← HO.out] at hl
          rw [hl, ← HLS.out] at hB3
          exact hB3
        have hc4 : Chg [gl] w w3 := hcw.trans ((Chg.of_kept hw2).trans hc3)
        go_wp2
        exact ⟨⟨k + 1, by omega, by go_num, hB4, hc4⟩, by simp [intOf]; omega⟩
    · have hkN : k = N := by omega
      have HK := Lib.hid hkN
      clear hkN
      have bK := hcw.blk X.blk hKn
      have fK2 := bK.free 2
      go_wp2
      go_end0
      have hqK : Chg [K] wr (wr.setCell ⟨K, 2, none⟩ (.slice none 0 0)) := Chg.step (by simp) _
      rw [HK.out, HN.out] at hbl
      have tr := X.trc.chg hcw (fun g hg => by simpa using (n5 g hg).2.2) (fun u hu g hg => by simpa using (n7 u hu g hg).2.2.1)
      refine ⟨rfl, ⟨?_, hqK.blk (hcw.blk X.pw (by simpa using n2)) (by simpa using n1), hqK.blk hbl (by simpa using n3.symm), ?_, X.most, OpsAt.nil _, tr.chg hqK (fun g hg => by simpa using (n5 g hg).2.1) (fun u hu g hg => by simpa using (n7 u hu g hg).2.1), by simp, X.tne, by intro g hg; cases hg⟩, (hcw.mono (by simp)).trans (hqK.mono (by simp))⟩
      · have hl2 := HIS.out s.waits.length (Nat.le_refl _)
        have := bK.set 2 (.slice none 0 0)
        rw [← hl2] at this
        simpa using this
      · rw [← X.hcap, ← HIS.out s.waits.length (Nat.le_refl _)]


end Go.Proofs.Ytgbfgaeohnjmeaa
