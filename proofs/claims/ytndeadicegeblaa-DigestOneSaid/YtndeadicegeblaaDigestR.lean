/- What the reference of digest.Sum computes. -/
import Derived.Test.YtndeadicegeblaaDigestW
namespace Go.Proofs.Ytndeadicegeblaa
open Go Go.RowKit

set_option maxRecDepth 100000 in
set_option maxHeartbeats 4000000 in
theorem rsum_any (v : Value) (bs : List UInt8) (hl : bs.length ≤ 60000) (w : World) (hb : Sl w v bs.length (bcells bs)) :
    Calls Try.prog 8 #[v] w fun e w' => e = .returned (Pr (sumB bs)) ∧ Kept w w' := by
  obtain ⟨va, vc, hv⟩ := hb.len
  subst hv
  have hk1 : Kept w (w.alloc (.cells #[U 0#64, U 0#64] 25)) := (Below.refl _ _).alloc (Nat.le_refl _) _
  have hR := Blk.new w #[U 0#64, U 0#64] 25
  have hs1 : (w.alloc (.cells #[U 0#64, U 0#64] 25)).heap.size = w.heap.size + 1 := by simp
  replace hb := hb.kept hk1
  have hk2 : Kept (w.alloc (.cells #[U 0#64, U 0#64] 25)) ((w.alloc (.cells #[U 0#64, U 0#64] 25)).alloc (.cells #[] 5)) := (Below.refl _ _).alloc (Nat.le_refl _) _
  have ho2 : ((w.alloc (.cells #[U 0#64, U 0#64] 25)).alloc (.cells #[] 5)).ownsRow (w.alloc (.cells #[U 0#64, U 0#64] 25)).heap.size 5 1 (.slice (some ⟨(w.alloc (.cells #[U 0#64, U 0#64] 25)).heap.size, 0, none⟩) 0 0) 0 (bcells []) := own_made 0 (by decide) 5 [] rfl (Blk.new _ _ _) (Nat.le_refl _)
  replace hb := hb.kept hk2
  rw [hs1] at ho2
  obtain ⟨N, hN⟩ : ∃ N, N = bs.length := ⟨_, rfl⟩
  have hb' : Sl ((w.alloc (.cells #[U 0#64, U 0#64] 25)).alloc (.cells #[] 5)) (.slice va N vc) N (bcells bs) := by rw [hN]; exact hb
  have hbl : (bcells bs).length = N := by rw [bcells_length, hN]
  rw [← hN] at hl ⊢
  have i0 : (N : Int) ≤ 60000 := by omega
  have HN := Lib.hid hN
  have HBL := Lib.hid hbl
  clear hb hN hbl
  go_enter Try.func8, Try.ntmps8
  go_wp2_with (at_builtin; refine wpList_append sl_bytes rfl (by rfl) (by rfl) (by rfl) ho2 hb' (by rw [HBL.out]; omega) (oneCell_V8 _) (by unfold maxLen; omega) (by omega) (by rw [← hs1]; exact hk2.size) ?_; intro v3 w3 hown3 hg3 hat3; obtain ⟨a3, c3, e3⟩ := (Sl.of_own hown3).len; subst e3; refine hold ?_)
  have hk3 : Kept (w.alloc (.cells #[U 0#64, U 0#64] 25)) w3 := below_append hk2 (own_base ho2 (by rw [hs1]; exact Nat.le_refl _)) hg3 hk2.size
  replace hk3 : Kept w w3 := hk1.of hk3
  have hZ3 := hR.kept (show Kept (w.alloc (.cells #[U 0#64, U 0#64] 25)) w3 from below_append hk2 (own_base ho2 (by rw [hs1]; exact Nat.le_refl _)) hg3 hk2.size)
  have hk4 : Kept w3 (w3.alloc (.cells #[V8 128] 5)) := (Below.refl _ _).alloc (Nat.le_refl _) _
  have hown3' : w3.ownsRow (w.heap.size + 1) 5 1 (.slice a3 N c3) N (bcells bs) := by simpa [bcells] using hown3
  have ho4 := own_kept hown3' hk4
  have hz3 := hk3.size
  have hl3 : w.heap.size + 1 ≤ w3.heap.size := by rw [← hs1]; exact Nat.le_trans hk2.size hg3.size
  clear hg3 hat3 hown3 ho2 hb' hR hk2 hk1 hs1
  unfold Hold
  go_wp2_with (at_builtin; refine wpList_append sl_bytes rfl (by rfl) (by rfl) (by rfl) ho4 (Sl.one w3 (V8 128) 5) (by simp) (by intro u hu; simp at hu; subst hu; rfl) (by unfold maxLen; omega) (by omega) (by simp; omega) ?_; intro v5 w5 hown5 hg5 hat5; obtain ⟨a5, c5, e5⟩ := (Sl.of_own hown5).len; subst e5; refine hold ?_)
  have hb5 : Below (w.heap.size + 1) w3 w5 := below_append (hk4.mono hl3) ho4 hg5 (by simp; omega)
  have hk5 : Kept w w5 := hk3.trans (hb5.mono (by omega))
  have hZ5 := hZ3.below hb5 (by omega)
  replace hown5 : w5.ownsRow (w.heap.size + 1) 5 1 (.slice a5 (N + 1) c5) (N + 1) (bcells (bs ++ [128] ++ List.replicate 0 0)) := by
    have : bcells bs ++ [V8 128] = bcells (bs ++ [128] ++ List.replicate 0 0) := by simp [bcells]
    rw [← this]; exact hown5
  have hz5 : w.heap.size + 1 ≤ w5.heap.size := Nat.le_trans hl3 hb5.size
  clear hg5 hat5 ho4 hown3' hk4 hk3 hZ3 hz3 hl3 hb5
  unfold Hold
  go_wp2_with fail
  obtain ⟨B, hB⟩ : ∃ B, B = w.heap.size := ⟨_, rfl⟩
  simp only [← hB] at hown5 hZ5 hz5 ⊢
  have hk5' : Below B w w5 := by rw [hB]; exact hk5
  have HB := Lib.hid hB
  clear hB hk5
  go_loopw [3] (fun bv wr => ∃ k : Nat, k ≤ padN N ∧ wr.ownsRow (B + 1) 5 1 bv (N + 1 + k) (bcells (bs ++ [128] ++ List.replicate k 0)) ∧ Below B w wr ∧ Blk wr B #[U 0#64, U 0#64] 25 ∧ B + 1 ≤ wr.heap.size) (fun bv _ => N + 17 - slen bv)
  case atStart => exact ⟨0, Nat.zero_le _, hown5, hk5', hZ5, hz5⟩
  case round =>
    obtain ⟨k, hk, hownk, hkk, hZk, hzk⟩ := hrel
    clear hown5 hk5' hZ5 hz5
    have hpl := padN_le N
    obtain ⟨ak, ck, ek⟩ := (Sl.of_own hownk).len
    subst ek
    obtain ⟨L, hL⟩ : ∃ L, L = N + 1 + k := ⟨_, rfl⟩
    rw [← hL] at hownk ⊢
    have hmod : (L : Int).tmod 16 = ((L % 16 : Nat) : Int) := by rw [Int.tmod_eq_emod_of_nonneg (by omega)]; omega
    obtain ⟨q, hq⟩ : ∃ q, q = L % 16 := ⟨_, rfl⟩
    rw [← hq] at hmod
    have i1 : (L : Int) ≤ 60020 := by omega
    have HL := Lib.hid hL
    have HQ := Lib.hid hq
    clear hL hq
    by_cases hlt : k < padN N
    · have q1 : ((q : Int) != 8) = true := by
        have := padN_lt N k hlt
        rw [← HL.out, ← HQ.out] at this
        simp; omega
      have hk6 : Kept wr (wr.alloc (.cells #[V8 0] 5)) := (Below.refl _ _).alloc (Nat.le_refl _) _
      have ho6 := own_kept hownk hk6
      go_wp2_with (at_builtin; refine wpList_append sl_bytes rfl (by rfl) (by rfl) (by rfl) ho6 (Sl.one wr (V8 0) 5) (by simp) (by intro u hu; simp at hu; subst hu; rfl) (by unfold maxLen; omega) (by omega) (by simp; omega) ?_; intro v6 w6 hown6 hg6 hat6; obtain ⟨a6, c6, e6⟩ := (Sl.of_own hown6).len; subst e6)
      have hb6 : Below (B + 1) wr w6 := below_append (hk6.mono hzk) ho6 hg6 (by simp; omega)
      refine ⟨⟨k + 1, by omega, ?_, hkk.trans (hb6.mono (by omega)), hZk.below hb6 (by omega), Nat.le_trans hzk hb6.size⟩, by simp [slen]; have := HL.out; omega⟩
      rw [← pad_one, show N + 1 + (k + 1) = L + 1 by have := HL.out; omega]
      exact hown6
    · obtain rfl : k = padN N := by omega
      have q1 : ((q : Int) != 8) = false := by
        have := padN_end N
        rw [← HL.out, ← HQ.out] at this
        simp; omega
      go_wp2_with fail
      rw [show Value.int IntKind.u64 (N : Int) = U (BitVec.ofInt 64 (N : Int)) from lit_U _ (by omega) (by omega)]
      refine (rput_some _ 8 (by omega) (by omega) _).mono ?_
      rintro e w7 ⟨x7, rfl, hown7, hk7⟩
      have s7 := Sl.of_own hown7
      have ho7 := own_kept hownk hk7
      have hz7 := hk7.size
      have hZ7 := hZk.kept hk7
      go_wp2_with (at_builtin; refine wpList_append sl_bytes rfl (by rfl) (by rfl) (by rfl) ho7 s7 (by simp [bcells, putB_length]) (oneCell_V8 _) (by unfold maxLen; omega) (by omega) (by omega) ?_; intro v9 w9 hown9 hg9 hat9; obtain ⟨a9, c9, e9⟩ := (Sl.of_own hown9).len; subst e9; refine hold ?_)
      have hb9 : Below (B + 1) w7 w9 := below_append (Below.refl _ _) ho7 hg9 (by omega)
      have hk9 : Below B w w9 := (hkk.trans (hk7.mono (by omega))).trans (hb9.mono (by omega))
      have hZ9 := hZ7.below hb9 (by omega)
      have hown9' : w9.ownsRow (B + 1) 5 1 (.slice a9 (L + 8) c9) (L + 8) (bcells (padB bs)) := by
        have : bcells (bs ++ [128] ++ List.replicate (padN N) 0) ++ bcells (putB (BitVec.ofInt 64 (N : Int)) 8) = bcells (padB bs) := by
          rw [HN.out, ← bcells_append]; rfl
        rw [← this]; exact hown9
      have hz9 : B + 1 ≤ w9.heap.size := Nat.le_trans hzk (Nat.le_trans hz7 hb9.size)
      clear hg9 hat9 hown9 ho7 hownk hkk s7 hown7 hk7 hZk hz7 hb9 hZ7
      obtain ⟨m, hm⟩ := padB_16 bs
      have hm2 : 16 * m = L + 8 := by rw [← hm, padB_length, ← HN.out]; have := HL.out; omega
      obtain ⟨g, gc, cur, hg1, hg0, hG, hgc, hgm, hgs, htake⟩ : ∃ g cap cur, (Value.slice a9 (L + 8) c9) = .slice (some ⟨g, 0, none⟩) (L + 8) cap ∧ B + 1 ≤ g ∧ Blk w9 g cur 5 ∧ L + 8 ≤ cap ∧ cap ≤ maxLen ∧ cur.size = cap * 1 ∧ cur.toList.take ((L + 8) * 1) = bcells (padB bs) := by
        rcases hown9'.2 with ⟨_, h⟩ | ⟨g, cap, cur, h1', h2, h3, h4, h5, h6, h7⟩
        · omega
        · exact ⟨g, cap, cur, h1', h2, h3, h4, h5, h6, h7⟩
      cases hg1
      clear hown9'
      unfold Hold
      go_wp2_with fail
      obtain ⟨S, hS⟩ : ∃ S, S = w9.heap.size := ⟨_, rfl⟩
      have hT0 := Blk.new w9 #[U 7640891576956012808#64, U 13503953896175478587#64] 25
      have hG0 := hG.alloc (.cells #[U 7640891576956012808#64, U 13503953896175478587#64] 25)
      have hZ0 := hZ9.alloc (.cells #[U 7640891576956012808#64, U 13503953896175478587#64] 25)
      have hb0 : Below B w (w9.alloc (.cells #[U 7640891576956012808#64, U 13503953896175478587#64] 25)) := hk9.alloc (by omega) _
      have hz0 : S + 1 ≤ (w9.alloc (.cells #[U 7640891576956012808#64, U 13503953896175478587#64] 25)).heap.size := by rw [hS]; simp
      have hgS : g < S := by rw [hS]; exact hG.lt
      have hWS : B + 1 ≤ S := by rw [hS]; exact hz9
      generalize w9.alloc (.cells #[U 7640891576956012808#64, U 13503953896175478587#64] 25) = w10 at *
      rw [← hS] at hT0
      simp only [← hS]
      clear hS hG hk9 hZ9 hz9
      have hpad : (padB bs).length = L + 8 := by rw [hm, hm2]
      have HM := Lib.hid hm
      have HM2 := Lib.hid hm2
      have HPAD := Lib.hid hpad
      have j2 : (c9 : Int) ≤ 9223372036854775807 := by unfold maxLen at hgm; omega
      have j3 : (L : Int) + 8 ≤ (c9 : Int) := by omega
      clear hm hm2 hpad
      go_loopw [5] (fun i wr => ∃ k : Nat, k ≤ m ∧ i = .int .i64 ((16 * k : Nat) : Int) ∧ (Blk wr S #[U (sumK (padB bs) k).1, U (sumK (padB bs) k).2] 25 ∧ Blk wr B #[U 0#64, U 0#64] 25 ∧ Blk wr g cur 5) ∧ Below B w wr ∧ S + 1 ≤ wr.heap.size) (fun i _ => ((L : Int) + 8 - intOf i).toNat)
      case atStart => exact ⟨0, Nat.zero_le _, rfl, ⟨hT0, hZ0, hG0⟩, hb0, hz0⟩
      case round =>
        obtain ⟨k, hk, rfl, ⟨hT, hZ, hG⟩, hBl, hSz⟩ := hrel
        clear hT0 hZ0 hG0 hb0 hz0
        obtain ⟨s, hs⟩ : ∃ s : Pair, s = sumK (padB bs) k := ⟨_, rfl⟩
        rw [← hs] at hT
        have HSS := Lib.hid hs
        clear hs
        by_cases hlt2 : k < m
        · have hrl := row16_length (padB bs) k m HM.out (by omega)
          have hrow : Sl wr (.slice (some ⟨g, 16 * k, none⟩) 16 (c9 - 16 * k)) (row16 (padB bs) k).length (bcells (row16 (padB bs) k)) := by
            rw [hrl]
            refine Sl.mk (by have := HM2.out; omega) (by omega) fun j u hj => ?_
            rw [hG.cell]
            have hj1 := (List.getElem?_eq_some_iff.1 hj).1
            rw [bcells_length, hrl] at hj1
            unfold row16 at hj
            rw [← bcells_take, ← bcells_drop, List.getElem?_take, if_pos hj1, List.getElem?_drop, ← htake, List.getElem?_take, if_pos (by have := HM2.out; omega)] at hj
            simpa using hj
          obtain ⟨q2, hq2⟩ : ∃ q2 : Nat, q2 = 16 * k := ⟨_, rfl⟩
          rw [← hq2] at hrow ⊢
          have j0 : (0 : Int) ≤ (q2 : Int) := by omega
          have j1 : (q2 : Int) < (L : Int) + 8 := by have := HM2.out; omega
          have j4 : (q2 : Int) + 16 ≤ (c9 : Int) := by have := HM2.out; omega
          have j5 : ¬ c9 = q2 := by have := HM2.out; omega
          have HQ2 := Lib.hid hq2
          have HRL := Lib.hid hrl
          clear hq2 hrl
          go_wp2_with fail
          refine (rpair_some _ _ _ hrow HRL.out).mono ?_
          rintro e w12 ⟨rfl, hk12⟩
          obtain ⟨M, hM⟩ : ∃ M, M = pairG (row16 (padB bs) k) := ⟨_, rfl⟩
          rw [← hM]
          have hP := Blk.new w12 #[U M.1, U M.2] 25
          have hka : Kept wr (w12.alloc (.cells #[U M.1, U M.2] 25)) := hk12.alloc (by have := hk12.size; omega) _
          replace hT := hT.kept hka
          replace hZ := hZ.kept hka
          replace hG := hG.kept hka
          have hBl2 := hBl.trans (hka.mono (by omega))
          have hSz2 := Nat.le_trans hSz hka.size
          have HMM := Lib.hid hM
          clear hk12 hrow hka hM
          have t0 := hT.cell 0
          have t1 := hT.cell 1
          have p0 := hP.cell 0
          have p1 := hP.cell 1
          go_wp2_with fail
          refine (rstep_any _ _ _ _ _).mono ?_
          rintro e w13 ⟨rfl, hk13⟩
          replace hT := hT.kept hk13
          replace hZ := hZ.kept hk13
          replace hG := hG.kept hk13
          replace hBl2 := hBl2.trans (hk13.mono (by omega))
          replace hSz2 := Nat.le_trans hSz2 hk13.size
          obtain ⟨E, hE⟩ : ∃ E, E = step2 (s.1, s.2) (M.1, M.2) := ⟨_, rfl⟩
          rw [← hE]
          have HE := Lib.hid hE
          clear t0 t1 p0 p1 hk13 hP hE
          have t0 := hT.cell 0
          have t1 := hT.cell 1
          have tf0 := hT.free 0
          have tf1 := hT.free 1
          go_wp2
          refine ⟨⟨k + 1, by omega, by have := HQ2.out; congr 1; omega, ⟨?_, ?_, ?_⟩, (hBl2.setCell (by show _ ≤ S; omega) _).setCell (by show _ ≤ S; omega) _, by simpa using hSz2⟩, by simp [intOf]; omega⟩
          · have := (hT.set 0 (U E.1)).set 1 (U E.2)
            have hfin : sumK (padB bs) (k + 1) = E := by
              show step2 (sumK (padB bs) k) (pairG (row16 (padB bs) k)) = E
              rw [← HSS.out, ← HMM.out, HE.out]
            rw [hfin]
            simpa using this
          · exact (hZ.other (a := ⟨S, 0, none⟩) (by show B ≠ S; omega) _).other (a := ⟨S, 1, none⟩) (by show B ≠ S; omega) _
          · exact (hG.other (a := ⟨S, 0, none⟩) (by show g ≠ S; omega) _).other (a := ⟨S, 1, none⟩) (by show g ≠ S; omega) _
        · obtain rfl : k = m := by omega
          have hXs : s = sumB bs := by
            rw [HSS.out, sumB, HM.out]
            congr 1; omega
          obtain ⟨q2, hq2⟩ : ∃ q2 : Nat, q2 = 16 * k := ⟨_, rfl⟩
          rw [← hq2]
          have j1 : (q2 : Int) = (L : Int) + 8 := by have := HM2.out; omega
          have HJ := Lib.hid j1
          have j6 : ¬ (q2 : Int) < (L : Int) + 8 := by omega
          have HQ2 := Lib.hid hq2
          have HX := Lib.hid hXs
          clear j1 hq2 hXs
          have c0 := hT.cell 0
          have c1 := hT.cell 1
          have r0 := hZ.cell 0
          have r1 := hZ.cell 1
          have g0 := hZ.free 0
          have g1 := hZ.free 1
          go_wp2
          refine bodyPost_ret (v := Pr s) (by simp [results, Try.results8, go_sem, r0, r1]; done) rfl ⟨by rw [HX.out], ?_⟩
          show Below w.heap.size w _
          rw [← HB.out]
          exact (hBl.setCell (Nat.le_refl _) _).setCell (Nat.le_refl _) _

end Go.Proofs.Ytndeadicegeblaa
