/- What gcm's pairs, and the reference's, compute. -/
import Derived.Test.YtlbogmpfjkendaaGcmD
import Derived.Test.YtlbogmpfjkendaaCopy
import Derived.Test.YtlbogmpfjkendaaChainC
import Derived.Test.YtlbogmpfjkendaaRowz
import Derived.Test.YtlbogmpfjkendaaStr
namespace Go.Proofs.Ytlbogmpfjkendaa
open Go Go.RowKit

theorem sl_pair : SlT Try.prog 47 24 2 16 (.agg #[.int .u64 0, .int .u64 0]) := SlT.mk' Try.underlying47 (by kernel_rfl) rfl (by omega)
def slen : Value → Nat | .slice _ n _ => n | _ => 0
theorem pcells_one (p : Pair) : pcells [p] = [U p.1, U p.2] := by simp [pcells]

set_option maxRecDepth 100000 in
set_option maxHeartbeats 4000000 in
theorem pairs_any (v : Value) (bs : List UInt8) (hl : bs.length ≤ 5000) (w : World) (hb : Sl w v bs.length (bcells bs)) :
    Calls Try.prog 24 #[v] w fun e w' => ∃ r, e = .returned r ∧ w'.ownsRow w.heap.size 24 2 r (nP bs.length) (pcells (pairsL bs)) ∧ Kept w w' := by
  obtain ⟨va, vc, hv⟩ := hb.len
  subst hv
  obtain ⟨N, hN⟩ : ∃ N, N = bs.length := ⟨_, rfl⟩
  rw [← hN] at hl
  have hb0 : Sl w (.slice va N vc) (bs.drop (16 * 0)).length (bcells (bs.drop (16 * 0))) := by rw [hN]; exact hb
  rw [← hN]
  have HN := Lib.hid hN
  clear hN hb
  obtain ⟨Z, hZ⟩ : ∃ Z, Z = List.replicate 16 (0 : UInt8) := ⟨_, rfl⟩
  have HZ := Lib.hid hZ
  clear hZ
  go_enter Try.func24, Try.ntmps24
  go_wp2_with fail
  go_loopw [0, 3] (fun bv lv wr => ∃ k : Nat, k ≤ nP N ∧ Sl w bv (bs.drop (16 * k)).length (bcells (bs.drop (16 * k))) ∧ wr.ownsRow w.heap.size 24 2 lv k (pcells ((pairsL bs).take k)) ∧ Kept w wr) (fun bv _ _ => slen bv)
  case atStart => exact ⟨0, Nat.zero_le _, hb0, World.ownsRow_nil _ _ _ _, Below.refl _ _⟩
  case round =>
    obtain ⟨k, hk, hs, hown, hkw⟩ := hrel
    clear hb0
    obtain ⟨S, hS⟩ : ∃ S, S = bs.drop (16 * k) := ⟨_, rfl⟩
    rw [← hS] at hs
    obtain ⟨ba, bc, eb⟩ := hs.len
    subst eb
    obtain ⟨n, hn⟩ : ∃ n, n = S.length := ⟨_, rfl⟩
    have hnk : n = N - 16 * k := by rw [hn, hS, List.length_drop, HN.out]
    rw [← hn] at hs ⊢
    have HS := Lib.hid hS
    have HNN := Lib.hid hn
    have HNK := Lib.hid hnk
    have hsz := hkw.size
    clear hS hn hnk
    by_cases hlt : k < nP N
    · have j0 : (0 : Int) < (n : Int) := by have := nP_lt _ _ hlt; have := HNK.out; omega
      have hmk : (Instr.makeSlice 28 (.int .i64 16) (.int .i64 16)).run Try.prog wr = .ok (.slice (some ⟨wr.heap.size, 0, none⟩) 16 16) (wr.alloc (.cells (bcells Z).toArray 5)) := by rw [HZ.out]; exact run_make_b (P := Try.prog) wr sl_bytes .i64 .i64 16 (by omega)
      have hB1 := Blk.new wr (bcells Z).toArray 5
      have hk1 : Kept wr (wr.alloc (.cells (bcells Z).toArray 5)) := (Below.refl _ _).alloc (Nat.le_refl _) _
      have hs1 := hs.kept (hkw.of hk1)
      have ho1 := own_kept hown hk1
      obtain ⟨M, hM⟩ : ∃ M, M = min n 16 := ⟨_, rfl⟩
      have HM := Lib.hid hM
      clear hM
      go_wp2_with (refine wpList_copyB (o := ⟨some 14, _, _, _, _, _⟩) sl_bytes rfl (by rfl) (by rfl) (by rfl) hB1 hs1 (by rw [bcells_length, HNN.out]) (oneCell_V8 _) (by rw [bcells_length, HZ.out, List.length_replicate]; omega) ?_; intro w2 hB2 hc2; rw [← HM.out] at hB2 ⊢; refine hold ?_)
      have hrow : (bs.drop (16 * k)).take 16 = S.take M := by
        rw [← HS.out]
        by_cases h16 : 16 ≤ n
        · congr 1; have := HM.out; omega
        · rw [List.take_of_length_le (by rw [← HNN.out]; omega), List.take_of_length_le (by rw [← HNN.out]; have := HM.out; omega)]
      have hBr : Blk w2 wr.heap.size (bcells (rowP bs k)).toArray 5 := by
        have e : (bcells Z).take 0 ++ (bcells S).take M ++ (bcells Z).drop (0 + M) = bcells (rowP bs k) := by
          unfold rowP padR
          rw [hrow, bcells_append, List.take_zero, List.nil_append, Nat.zero_add, bcells_take, bcells_drop, HZ.out, List.drop_replicate, List.length_take, ← HNN.out]
          congr 3
          have := HM.out; omega
        rw [← e]; exact hB2
      have hk2 : Kept wr w2 := hk1.trans (hc2.below (B := wr.heap.size) (by simp) (by simp))
      have hs2 : Sl w (.slice ba n bc) S.length (bcells S) := by rw [← HNN.out]; exact hs
      obtain ⟨v2, hcut, hs3⟩ := cut_from (P := Try.prog) (w := w) sl_bytes hs2 (k := M) (by rw [← HNN.out, HM.out]; exact Nat.min_le_left _ _) .i64
      have hS3 : S.drop M = bs.drop (16 * (k + 1)) := by
        rw [HS.out, List.drop_drop]
        by_cases h16 : 16 ≤ n
        · congr 1; have := HM.out; omega
        · have e1 := HM.out
          have e2 := HNK.out
          rw [List.drop_of_length_le (by rw [← HN.out]; omega), List.drop_of_length_le (by rw [← HN.out]; omega)]
      rw [hS3] at hs3
      have hrl : (rowP bs k).length = 16 := rowP_length bs k
      have hsr : Sl w2 (.slice (some ⟨wr.heap.size, 0, none⟩) 16 16) (rowP bs k).length (bcells (rowP bs k)) := by
        rw [hrl]
        exact Sl.of_own (own_made 16 (by decide) 5 (rowP bs k) hrl hBr (Nat.le_refl _))
      obtain ⟨v2a, v2c, hv2⟩ := hs3.len
      subst hv2
      obtain ⟨q, hq⟩ : ∃ q, q = (bs.drop (16 * (k + 1))).length := ⟨_, rfl⟩
      rw [← hq] at hs3 hcut
      have HQ := Lib.hid hq
      have HRL := Lib.hid hrl
      have HCU := Lib.hid hS3
      have ho2 := own_kept hown hk2
      have hkw2 := Kept.of hkw hk2
      clear hq hrl hS3 hs2 hmk hB1 hk1 hs1 ho1 hc2 hB2 hBr hrow hown hs hk2
      unfold Hold
      go_wp2_with fail
      refine (pair_some _ (rowP bs k) _ hsr HRL.out).mono ?_
      rintro e w3 ⟨rfl, hk3⟩
      obtain ⟨X, hX⟩ : ∃ X, X = pairG (rowP bs k) := ⟨_, rfl⟩
      rw [← hX]
      have HX := Lib.hid hX
      clear hX
      have hP := Blk.new w3 #[U X.1, U X.2] 24
      have hk4 : Kept w2 (w3.alloc (.cells #[U X.1, U X.2] 24)) := Kept.of hk3 ((Below.refl _ _).alloc (Nat.le_refl _) _)
      have p0 := hP.cell 0
      have p1 := hP.cell 1
      replace ho2 := own_kept ho2 hk4
      replace hkw2 := Kept.of hkw2 hk4
      have hk5 : Kept (w3.alloc (.cells #[U X.1, U X.2] 24)) ((w3.alloc (.cells #[U X.1, U X.2] 24)).alloc (.cells #[U X.1, U X.2] 24)) := (Below.refl _ _).alloc (Nat.le_refl _) _
      replace ho2 := own_kept ho2 hk5
      replace hkw2 := Kept.of hkw2 hk5
      have hz2 := hkw2.size
      have hkb : k ≤ 400 := by have := nP_lt _ _ hlt; omega
      have hL : Sl ((w3.alloc (.cells #[U X.1, U X.2] 24)).alloc (.cells #[U X.1, U X.2] 24)) (.slice (some ⟨w3.heap.size + 1, 0, none⟩) 1 1) 1 [U X.1, U X.2] := by simpa using Sl.lit (w3.alloc (.cells #[U X.1, U X.2] 24)) #[U X.1, U X.2] 24 1 (by decide)
      clear hsr hk3 hk4 hk5
      go_wp2_with (at_builtin; refine wpList_append sl_pair rfl (by rfl) (by rfl) (by rfl) ho2 hL (by rfl) (by intro u hu; simp at hu; rcases hu with rfl | rfl <;> rfl) (by unfold maxLen; omega) (by omega) hz2 ?_; intro v6 w6 hown6 hg6 hat6)
      refine ⟨⟨k + 1, by omega, by rw [← HQ.out]; exact hs3, ?_, below_append hkw2 ho2 hg6 hz2⟩, ?_⟩
      · rw [pairsL_take bs k (by rw [← HN.out]; omega), pcells_append, pcells_one, ← HX.out]
        exact hown6
      · show q < n
        rw [HQ.out, List.length_drop, ← HN.out, HNK.out]
        have := nP_lt _ _ hlt
        omega
    · have hkN : k = nP N := by omega
      have hn0 : n = 0 := by have := nP_ge N k (by omega); have := HNK.out; omega
      subst hn0
      have HK := Lib.hid hkN
      clear hkN
      go_wp2
      go_ret
      refine ⟨_, rfl, ?_, hkw⟩
      rw [← HK.out, show pcells (pairsL bs) = pcells ((pairsL bs).take k) by rw [List.take_of_length_le (by rw [pairsL_length, ← HN.out, HK.out]; exact Nat.le_refl _)]]
      exact hown

theorem fill_one (bs : List UInt8) (k : Nat) : bcells (bs ++ List.replicate k 0) ++ [V8 0] = bcells (bs ++ List.replicate (k + 1) 0) := by
  rw [List.replicate_succ', ← List.append_assoc]
  simp [bcells]
set_option maxRecDepth 100000 in
set_option maxHeartbeats 4000000 in
theorem rpairs_any (v : Value) (bs : List UInt8) (hl : bs.length ≤ 5000) (w : World) (hb : Sl w v bs.length (bcells bs)) :
    Calls Try.prog 29 #[v] w fun e w' => ∃ r, e = .returned r ∧ w'.ownsRow w.heap.size 24 2 r (nP bs.length) (pcells (pairsL bs)) ∧ Kept w w' := by
  obtain ⟨va, vc, hv⟩ := hb.len
  subst hv
  have hk2 : Kept w (w.alloc (.cells #[] 5)) := (Below.refl _ _).alloc (Nat.le_refl _) _
  have ho2 : (w.alloc (.cells #[] 5)).ownsRow w.heap.size 5 1 (.slice (some ⟨w.heap.size, 0, none⟩) 0 0) 0 (bcells []) := own_made 0 (by decide) 5 [] rfl (Blk.new _ _ _) (Nat.le_refl _)
  obtain ⟨N, hN⟩ : ∃ N, N = bs.length := ⟨_, rfl⟩
  have hb' : Sl (w.alloc (.cells #[] 5)) (.slice va N vc) N (bcells bs) := by rw [hN]; exact hb.kept hk2
  have hbl : (bcells bs).length = N := by rw [bcells_length, hN]
  rw [← hN] at hl ⊢
  have i0 : (N : Int) ≤ 5000 := by omega
  have HN := Lib.hid hN
  have HBL := Lib.hid hbl
  clear hb hN hbl
  go_enter Try.func29, Try.ntmps29
  go_wp2_with (at_builtin; refine wpList_append sl_bytes rfl (by rfl) (by rfl) (by rfl) ho2 hb' (by rw [HBL.out]; omega) (oneCell_V8 _) (by unfold maxLen; omega) (by omega) hk2.size ?_; intro v3 w3 hown3 hg3 hat3; obtain ⟨a3, c3, e3⟩ := (Sl.of_own hown3).len; subst e3; refine hold ?_)
  have hk3 : Kept w w3 := below_append hk2 ho2 hg3 hk2.size
  have hown3' : w3.ownsRow w.heap.size 5 1 (.slice a3 N c3) (N + 0) (bcells (bs ++ List.replicate 0 0)) := by simpa [bcells] using hown3
  clear hg3 hat3 hown3 ho2 hb' hk2
  unfold Hold
  try rw [show 0 + N = N by omega]
  go_wp2_with fail
  go_loopw [0] (fun bv wr => ∃ k : Nat, k ≤ padZ N ∧ wr.ownsRow w.heap.size 5 1 bv (N + k) (bcells (bs ++ List.replicate k 0)) ∧ Kept w wr) (fun bv _ => N + 17 - slen bv)
  case atStart => exact ⟨0, Nat.zero_le _, hown3', hk3⟩
  case round =>
    obtain ⟨k, hk, hownk, hkk⟩ := hrel
    clear hown3' hk3
    have hpl := padZ_le N
    obtain ⟨ak, ck, ek⟩ := (Sl.of_own hownk).len
    subst ek
    obtain ⟨L, hL⟩ : ∃ L, L = N + k := ⟨_, rfl⟩
    rw [← hL] at hownk ⊢
    have hmod : (L : Int).tmod 16 = ((L % 16 : Nat) : Int) := by rw [Int.tmod_eq_emod_of_nonneg (by omega)]; omega
    obtain ⟨q, hq⟩ : ∃ q, q = L % 16 := ⟨_, rfl⟩
    rw [← hq] at hmod
    have i1 : (L : Int) ≤ 5020 := by omega
    have HL := Lib.hid hL
    have HQ := Lib.hid hq
    clear hL hq
    by_cases hlt : k < padZ N
    · have q1 : ((q : Int) != 0) = true := by
        have := padZ_lt N k hlt
        rw [← HL.out, ← HQ.out] at this
        simp; omega
      have q2 : ¬ q = 0 := by simpa using q1
      have hk6 : Kept w (wr.alloc (.cells #[V8 0] 5)) := Kept.of hkk ((Below.refl _ _).alloc (Nat.le_refl _) _)
      have ho6 := own_kept hownk (show Kept wr (wr.alloc (.cells #[V8 0] 5)) from (Below.refl _ _).alloc (Nat.le_refl _) _)
      have hz6 := hk6.size
      go_wp2_with (at_builtin; refine wpList_append sl_bytes rfl (by rfl) (by rfl) (by rfl) ho6 (Sl.one wr (V8 0) 5) (by simp) (by intro u hu; simp at hu; subst hu; rfl) (by unfold maxLen; omega) (by omega) hz6 ?_; intro v6 w6 hown6 hg6 hat6; obtain ⟨a6, c6, e6⟩ := (Sl.of_own hown6).len; subst e6)
      refine ⟨⟨k + 1, by omega, ?_, below_append hk6 ho6 hg6 hz6⟩, by simp [slen]; have := HL.out; omega⟩
      rw [← fill_one, show N + (k + 1) = L + 1 by have := HL.out; omega]
      exact hown6
    · obtain rfl : k = padZ N := by omega
      have q1 : q = 0 := by
        have := padZ_end N
        rw [← HL.out, ← HQ.out] at this
        exact this
      subst q1
      obtain ⟨m, hm⟩ : ∃ m, m = nP N := ⟨_, rfl⟩
      have hfl : filled bs = bs ++ List.replicate (padZ N) 0 := by unfold filled; rw [HN.out]
      have hLm : L = 16 * m := by rw [HL.out, hm, HN.out]; have := filled_length bs; unfold filled at this; rw [List.length_append, List.length_replicate] at this; exact this
      rw [← hfl] at hownk
      have HF := Lib.hid hfl
      have HM := Lib.hid hm
      have HLM := Lib.hid hLm
      have hsF : Sl wr (.slice ak L ck) L (bcells (filled bs)) := Sl.of_own hownk
      have hcap := hsF.caps
      have j8 : (ck : Int) ≤ 9223372036854775807 := by have := hcap.2.2; unfold maxLen at this; omega
      have j9 : (L : Int) ≤ (ck : Int) := by omega
      have hmm : m ≤ 400 := by omega
      clear hfl hm hLm hcap
      go_wp2_with fail
      go_loopw [3, 4] (fun lv i wr2 => ∃ k : Nat, k ≤ m ∧ i = .int .i64 ((16 * k : Nat) : Int) ∧ wr2.ownsRow wr.heap.size 24 2 lv k (pcells ((pairsL bs).take k)) ∧ Kept wr wr2) (fun _ i _ => L - (intOf i).toNat)
      case atStart => exact ⟨0, Nat.zero_le _, rfl, World.ownsRow_nil _ _ _ _, Below.refl _ _⟩
      case round =>
        obtain ⟨k, hk4, rfl, hownp, hkp⟩ := hrel
        obtain ⟨q2, hq2⟩ : ∃ q2 : Nat, q2 = 16 * k := ⟨_, rfl⟩
        rw [← hq2]
        have j0 : (0 : Int) ≤ (q2 : Int) := by omega
        have HQ2 := Lib.hid hq2
        by_cases hlt2 : k < m
        · have j1 : (q2 : Int) < (L : Int) := by have := HLM.out; omega
          have j2 : (q2 : Int) + 16 ≤ (ck : Int) := by have := HLM.out; omega
          have j5 : ¬ ck = q2 := by have := HLM.out; omega
          have hrl := rowP_length bs k
          obtain ⟨g, off, c', eg, _, hcx, _, hcc⟩ := (hsF.kept hkp).at (by rw [bcells_length, filled_length]; have := HM.out; have := HN.out; rw [← HN.out]; omega)
          cases eg
          have hrow : Sl wr (.slice (some ⟨g, off + q2, none⟩) 16 (ck - q2)) (rowP bs k).length (bcells (rowP bs k)) := by
            rw [hrl, ← filled_row bs k (by rw [← HN.out, ← HM.out]; exact hlt2), ← bcells_take, ← bcells_drop, ← hq2]
            exact (show Sl wr (.slice (some ⟨g, off, none⟩) L ck) L (bcells (filled bs)) from hsF.kept hkp).sub q2 16 (ck - q2) (by omega) (by omega)
          have HRL := Lib.hid hrl
          have HCC := Lib.hid hcc
          have ho2 := hownp
          have hsz := hkp.size
          clear hq2 hrl hcc
          go_wp2_with fail
          refine (rpair_some _ (rowP bs k) _ hrow HRL.out).mono ?_
          rintro e w3 ⟨rfl, hk3⟩
          obtain ⟨X, hX⟩ : ∃ X, X = pairG (rowP bs k) := ⟨_, rfl⟩
          rw [← hX]
          have HX := Lib.hid hX
          clear hX
          have hP := Blk.new w3 #[U X.1, U X.2] 24
          have hk4' : Kept wr (w3.alloc (.cells #[U X.1, U X.2] 24)) := Kept.of hk3 ((Below.refl _ _).alloc (Nat.le_refl _) _)
          have p0 := hP.cell 0
          have p1 := hP.cell 1
          have hk5 : Kept wr ((w3.alloc (.cells #[U X.1, U X.2] 24)).alloc (.cells #[U X.1, U X.2] 24)) := hk4'.of ((Below.refl _ _).alloc (Nat.le_refl _) _)
          replace ho2 := own_kept ho2 hk5
          have hkw2 := Kept.of hkp hk5
          have hz2 := hkw2.size
          have hL9 : Sl ((w3.alloc (.cells #[U X.1, U X.2] 24)).alloc (.cells #[U X.1, U X.2] 24)) (.slice (some ⟨w3.heap.size + 1, 0, none⟩) 1 1) 1 [U X.1, U X.2] := by simpa using Sl.lit (w3.alloc (.cells #[U X.1, U X.2] 24)) #[U X.1, U X.2] 24 1 (by decide)
          clear hk3 hk4' hk5 hrow
          go_wp2_with (at_builtin; refine wpList_append sl_pair rfl (by rfl) (by rfl) (by rfl) ho2 hL9 (by rfl) (by intro u hu; simp at hu; rcases hu with rfl | rfl <;> rfl) (by unfold maxLen; omega) (by omega) hz2 ?_; intro v6 w6 hown6 hg6 hat6)
          refine ⟨⟨k + 1, by omega, by have := HQ2.out; congr 1; omega, ?_, below_append hkw2 ho2 hg6 hz2⟩, by simp [intOf]; omega⟩
          rw [pairsL_take bs k (by rw [← HN.out, ← HM.out]; exact hlt2), pcells_append, pcells_one, ← HX.out]
          exact hown6
        · have hkm : k = m := by omega
          have j1 : ¬ (q2 : Int) < (L : Int) := by have := HLM.out; omega
          have HK := Lib.hid hkm
          clear hkm hq2
          go_wp2
          go_ret
          refine ⟨_, rfl, ?_, hkk.of hkp⟩
          rw [← HM.out, ← HK.out, show pcells (pairsL bs) = pcells ((pairsL bs).take k) by rw [List.take_of_length_le (by rw [pairsL_length, ← HN.out, HK.out, HM.out]; exact Nat.le_refl _)]]
          exact own_base hownp hkk.size

end Go.Proofs.Ytlbogmpfjkendaa
