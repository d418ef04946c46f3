/- DigestOne: of seven bytes at most there is one step, by hand. -/
import Derived.Test.YtndeadicegeblaaDigestK
import Derived.Test.YtndeadicegeblaaCopy
import Derived.Test.YtndeadicegeblaaRows
namespace Go.Proofs.Ytndeadicegeblaa
open Go Go.RowKit

/-- sixteen bytes: some, 128, noughts, how many -/
def oneB (p : List UInt8) : List UInt8 := p ++ [128] ++ List.replicate (14 - p.length) 0 ++ [UInt8.ofNat p.length]
theorem putB_small (n : Nat) (h : n < 256) : putB (BitVec.ofInt 64 (n : Int)) 8 = List.replicate 7 0 ++ [UInt8.ofNat n] := by
  apply natB_inj
  · simp [putB_length]
  · rw [natB_putB, natB_snoc, show natB (List.replicate 7 0) = 0 by decide, BitVec.toNat_ofInt, UInt8.toNat_ofNat']
    omega
theorem oneB_pad (p : List UInt8) (h : p.length ≤ 7) : oneB p = padB p := by
  unfold oneB padB
  have e : padN p.length = 7 - p.length := by unfold padN; omega
  rw [putB_small _ (by omega), e, show 14 - p.length = (7 - p.length) + 7 by omega, ← List.replicate_append_replicate]
  simp only [List.append_assoc]
theorem oneB_length (p : List UInt8) (h : p.length ≤ 7) : (oneB p).length = 16 := by simp [oneB]; omega
theorem sum_one (p : List UInt8) (h : p.length ≤ 7) : sumB p = step2 iv (pairG (oneB p)) := by
  unfold sumB
  rw [← oneB_pad p h, oneB_length p h]
  show step2 iv (pairG (row16 (oneB p) 0)) = _
  unfold row16
  rw [Nat.mul_zero, List.drop_zero, List.take_of_length_le (by rw [oneB_length p h]; exact Nat.le_refl _)]
theorem oneB_set (p : List UInt8) (h : p.length ≤ 7) : ((p ++ List.replicate (16 - p.length) 0).set p.length 128).set 15 (UInt8.ofNat p.length) = oneB p := by
  have e : List.replicate (16 - p.length) (0 : UInt8) = 0 :: (List.replicate (14 - p.length) 0 ++ [0]) := by
    rw [← List.replicate_succ', ← List.replicate_succ]
    congr 1; omega
  rw [e, List.set_append_right _ _ (Nat.le_refl _), Nat.sub_self, List.set_cons_zero, List.set_append_right _ _ (by omega)]
  unfold oneB
  rw [List.append_assoc, List.append_assoc]
  congr 1
  obtain ⟨q, hq⟩ : ∃ q, 15 - p.length = q + 1 := ⟨14 - p.length, by omega⟩
  rw [hq, List.set_cons_succ, List.set_append_right _ _ (by rw [List.length_replicate]; omega)]
  have : q - (List.replicate (14 - p.length) (0 : UInt8)).length = 0 := by rw [List.length_replicate]; omega
  rw [this]
  rfl
theorem get_step (l : List UInt8) (k : Nat) (h : k < l.length) : getB (l.take (k + 1)) = getB (l.take k) <<< 8 ||| BitVec.ofNat 64 l[k].toNat := by
  rw [List.take_succ_eq_append_getElem h, getB_snoc]
set_option maxRecDepth 100000 in
set_option maxHeartbeats 4000000 in
theorem one_in (v : Value) (p : List UInt8) (hl : p.length ≤ 7) (w : World) (hb : Sl w v p.length (bcells p)) : Calls Try.prog 6 #[v] w fun e w' => e = .returned (.bool true) ∧ Kept w w' := by
  obtain ⟨va, vc, hv⟩ := hb.len
  subst hv
  obtain ⟨N, hN⟩ : ∃ N, N = p.length := ⟨_, rfl⟩
  have hb1 : Sl w (.slice va N vc) N (bcells p) := by rw [hN]; exact hb
  rw [← hN] at hl ⊢
  have i0 : (N : Int) ≤ 7 := by omega
  have HN := Lib.hid hN
  clear hN hb
  obtain ⟨Z, hZ⟩ : ∃ Z, Z = List.replicate 16 (0 : UInt8) := ⟨_, rfl⟩
  have hmk : (Instr.makeSlice 22 (.int .i64 16) (.int .i64 16)).run Try.prog w = .ok (.slice (some ⟨w.heap.size, 0, none⟩) 16 16) (w.alloc (.cells (bcells Z).toArray 5)) := by rw [hZ]; exact run_make_b (P := Try.prog) w sl_bytes .i64 .i64 16 (by omega)
  have hB1 := Blk.new w (bcells Z).toArray 5
  have hk0 : Kept w (w.alloc (.cells (bcells Z).toArray 5)) := (Below.refl _ _).alloc (Nat.le_refl _) _
  have HZ := Lib.hid hZ
  clear hZ
  obtain ⟨M, hM⟩ : ∃ M, M = min N 16 := ⟨_, rfl⟩
  have HM := Lib.hid hM
  clear hM
  go_enter Try.func6, Try.ntmps6
  go_wp2_with (refine wpList_copyB (o := ⟨some 12, _, _, _, _, _⟩) sl_bytes rfl (by rfl) (by rfl) (by rfl) hB1 (hb1.kept hk0) (by rw [bcells_length, HN.out]) (oneCell_V8 _) (by rw [bcells_length, HZ.out, List.length_replicate]; omega) ?_; intro w2 hB2 hc2; rw [← HM.out] at hB2 ⊢; refine hold ?_)
  have hcS : Blk w2 w.heap.size (bcells (p ++ List.replicate (16 - N) 0)).toArray 5 := by
    have e : (bcells Z).take 0 ++ (bcells p).take M ++ (bcells Z).drop (0 + M) = bcells (p ++ List.replicate (16 - N) 0) := by
      have hMN : M = N := by rw [HM.out]; omega
      rw [hMN, bcells_append, List.take_zero, List.nil_append, Nat.zero_add, List.take_of_length_le (by rw [bcells_length, HN.out]; exact Nat.le_refl _), bcells_drop, HZ.out, List.drop_replicate]
    rw [← e]; exact hB2
  have hk2 : Kept w w2 := hk0.trans (hc2.below (B := w.heap.size) (by simp) (by simp))
  obtain ⟨G, hG⟩ : ∃ G, G = w.heap.size := ⟨_, rfl⟩
  obtain ⟨c1, hc1⟩ : ∃ c, c = p ++ List.replicate (16 - N) (0 : UInt8) := ⟨_, rfl⟩
  have hcl : c1.length = 16 := by rw [hc1, List.length_append, List.length_replicate, ← HN.out]; omega
  rw [← hc1] at hcS
  have hset : (c1.set N 128).set 15 (UInt8.ofNat N) = oneB p := by rw [hc1, HN.out]; exact oneB_set p (by rw [← HN.out]; exact hl)
  have HS := Lib.hid hset
  rw [← hG] at hcS
  simp only [← hG]
  have hGs : w.heap.size ≤ G := by omega
  have e0 : w2.cell? ⟨G, N, none⟩ = some (V8 (c1[N]'(by omega))) := by rw [hcS.cell]; simpa using bcells_get c1 N (by omega)
  have e1 : w2.cell? ⟨G, 15, none⟩ = some (V8 (c1[15]'(by omega))) := by rw [hcS.cell]; simpa using bcells_get c1 15 (by omega)
  have f0 := hcS.free N
  have f1 := hcS.free 15
  have n15 : ¬ N = 15 := by omega
  have i1 : (0 : Int) ≤ (N : Int) := by omega
  have cv : ∀ wx : World, (convert 3 5 (.int .i64 (N : Int))).run Try.prog wx = .ok (V8 (UInt8.ofNat N)) wx := fun wx => by
    rw [conv_int wx 3 5 _ .u8 _ (by kernel_rfl) Try.underlying5, V8_ofInt]
    congr 3
    omega
  clear hmk hB1 hk0 hB2 hc2 hset hc1 hG
  unfold Hold
  go_wp2_with fail
  have hW : ((w2.setCell ⟨G, N, none⟩ (V8 128)).setCell ⟨G, 15, none⟩ (V8 (UInt8.ofNat N))).heap.size = w2.heap.size := by simp
  have hG3 := ((hcS.set N (V8 128)).set 15 (V8 (UInt8.ofNat N)))
  rw [bcells_set, bcells_set, HS.out] at hG3
  have hk3 : Kept w ((w2.setCell ⟨G, N, none⟩ (V8 128)).setCell ⟨G, 15, none⟩ (V8 (UInt8.ofNat N))) := (hk2.setCell (by show _ ≤ G; exact hGs) _).setCell (by show _ ≤ G; exact hGs) _
  have hGl := hG3.lt
  generalize (w2.setCell ⟨G, N, none⟩ (V8 128)).setCell ⟨G, 15, none⟩ (V8 (UInt8.ofNat N)) = w3 at *
  have hS4 := Blk.new w3 #[U 0#64, U 0#64] 25
  have hG4 := hG3.alloc (.cells #[U 0#64, U 0#64] 25)
  have hk4 : Kept w (w3.alloc (.cells #[U 0#64, U 0#64] 25)) := hk3.alloc (by have := hk3.size; omega) _
  have hws := hk3.size
  generalize w3.alloc (.cells #[U 0#64, U 0#64] 25) = w4 at *
  rw [hW] at hS4 hGl hws
  obtain ⟨S, hSS⟩ : ∃ S, S = w2.heap.size := ⟨_, rfl⟩
  rw [← hSS] at hS4 hGl hws
  simp only [← hSS]
  clear hSS hW hcS e0 e1 f0 f1 n15 cv hG3 hk3 hk2
  obtain ⟨B, hB⟩ : ∃ B, B = oneB p := ⟨_, rfl⟩
  have hBl : B.length = 16 := by rw [hB]; exact oneB_length p (by rw [← HN.out]; exact hl)
  rw [← hB] at hG4
  have HB := Lib.hid hB
  have HBL := Lib.hid hBl
  clear hB hBl hcl
  go_loopw [5] (fun i wr => ∃ k : Nat, k ≤ 8 ∧ i = .int .i64 k ∧ Blk wr S #[U (getB ((B.take 8).take k)), U (getB ((B.drop 8).take k))] 25 ∧ Blk wr G (bcells B).toArray 5 ∧ Kept w wr) (fun i _ => 8 - (intOf i).toNat)
  case atStart => exact ⟨0, by omega, rfl, by simpa [getB] using hS4, hG4, hk4⟩
  case round =>
    obtain ⟨k, hk, rfl, hS, hG, hkw⟩ := hrel
    clear hS4 hG4 hk4
    by_cases hlt : k < 8
    · have j0 : (0 : Int) ≤ (k : Int) := by omega
      have j1 : (k : Int) < 8 := by omega
      have j2 : (k : Int) < 16 := by omega
      have j3 : (0 : Int) ≤ 8 + (k : Int) := by omega
      have j4 : 8 + (k : Int) < 16 := by omega
      have t8 : (8 + (k : Int)).toNat = 8 + k := by omega
      have w8 : IntKind.i64.wrap (8 + (k : Int)) = 8 + (k : Int) := IntWalk.i64_in _ (by omega)
      have hl8 : (B.take 8).length = 8 := by rw [List.length_take, HBL.out]; rfl
      have hd8 : (B.drop 8).length = 8 := by rw [List.length_drop, HBL.out]
      obtain ⟨x, hx⟩ : ∃ x, x = getB ((B.take 8).take k) := ⟨_, rfl⟩
      obtain ⟨y, hy⟩ : ∃ y, y = getB ((B.drop 8).take k) := ⟨_, rfl⟩
      obtain ⟨c, hc⟩ : ∃ c, c = (B.take 8)[k]'(by omega) := ⟨_, rfl⟩
      obtain ⟨d, hd⟩ : ∃ d, d = (B.drop 8)[k]'(by omega) := ⟨_, rfl⟩
      have hx1 : getB ((B.take 8).take (k + 1)) = x <<< 8 ||| BitVec.ofNat 64 c.toNat := by rw [hx, hc]; exact get_step _ _ _
      have hy1 : getB ((B.drop 8).take (k + 1)) = y <<< 8 ||| BitVec.ofNat 64 d.toNat := by rw [hy, hd]; exact get_step _ _ _
      have gc : (bcells B).toArray[k]? = some (V8 c) := by
        have := bcells_get B k (by rw [HBL.out]; omega)
        rw [hc]; simpa using this
      have gd : (bcells B).toArray[8 + k]? = some (V8 d) := by
        have := bcells_get B (8 + k) (by rw [HBL.out]; omega)
        rw [hd]; simpa using this
      rw [← hx, ← hy] at hS
      have HX1 := Lib.hid hx1
      have HY1 := Lib.hid hy1
      have GC := Lib.hid gc
      have GD := Lib.hid gd
      clear hx hy hc hd hx1 hy1 gc gd hl8 hd8
      go_wp2_with fail
      refine wp_region_chainK [(0, 0), (1, 0), (2, 0), (3, 0), (4, 0), (5, 0), (6, 0), (7, 0), (8, 0), (9, 0), (10, 2)] (by kernel_rfl) (by kernel_rfl) ?_
      intro w5 hw5
      replace hS := hS.kept hw5
      replace hG := hG.kept hw5
      repeat
        refine chain_light _ rfl (fun K hK => ?_)
        first
          | (refine (if_pos (by rfl)).mpr ?_; apply Exists.intro; refine ⟨fun w' hw' => ?_, hK _ ?_⟩; (have c := hS.kept hw'; have c0 := c.cell 0; have c1 := c.cell 1; have d0 := (hG.kept hw').cell k; rw [GC.out] at d0; clear c; go_simp; done); (clear hK K; simp only [Act.put, List.setIfInBounds_toArray, List.set_cons_zero, List.set_cons_succ]))
          | (refine (if_pos (by rfl)).mpr ?_; apply Exists.intro; refine ⟨fun w' hw' => ?_, hK _ ?_⟩; (have c := hS.kept hw'; have c0 := c.cell 0; have c1 := c.cell 1; have d0 := (hG.kept hw').cell k; rw [GC.out] at d0; clear c; go_simp; rfl); (clear hK K; simp only [Act.put, List.setIfInBounds_toArray, List.set_cons_zero, List.set_cons_succ]))
          | (refine (if_neg (by rw [Bool.not_eq_true]; rfl)).mpr ?_; refine hK _ ?_; (clear hK K; simp only [Act.put, List.setIfInBounds_toArray, List.set_cons_zero, List.set_cons_succ]))
      refine chain_last _ rfl (fun K hK => ?_)
      refine (if_pos (by rfl)).mpr ?_
      have s0 := hS.cell 0
      have s1 := hS.cell 1
      have sf0 := hS.free 0
      go_wp2
      refine chain_nil ?_
      have hS6 := hS.set 0 (U (x <<< 8 ||| BitVec.ofNat 64 c.toNat))
      have hG6 := hG.other (a := ⟨S, 0, none⟩) (by show G ≠ S; omega) (U (x <<< 8 ||| BitVec.ofNat 64 c.toNat))
      have hk6 : Kept w (w5.setCell ⟨S, 0, none⟩ (U (x <<< 8 ||| BitVec.ofNat 64 c.toNat))) := (Kept.of hkw hw5).setCell (by show _ ≤ S; omega) _
      have hS7 : Blk (w5.setCell ⟨S, 0, none⟩ (U (x <<< 8 ||| BitVec.ofNat 64 c.toNat))) S #[U (x <<< 8 ||| BitVec.ofNat 64 c.toNat), U y] 25 := by simpa using hS6
      clear hS6 hS hG hw5 s0 s1 sf0
      go_wp2_with fail
      generalize w5.setCell ⟨S, 0, none⟩ (U (x <<< 8 ||| BitVec.ofNat 64 c.toNat)) = w6 at *
      refine wp_region_chainK [(0, 0), (1, 0), (2, 0), (3, 0), (4, 0), (5, 0), (6, 0), (7, 0), (8, 0), (9, 0), (10, 0), (11, 2)] (by kernel_rfl) (by kernel_rfl) ?_
      intro w7 hw7
      replace hS7 := hS7.kept hw7
      replace hG6 := hG6.kept hw7
      repeat
        refine chain_light _ rfl (fun K hK => ?_)
        first
          | (refine (if_pos (by rfl)).mpr ?_; apply Exists.intro; refine ⟨fun w' hw' => ?_, hK _ ?_⟩; (have c := hS7.kept hw'; have c0 := c.cell 0; have c1 := c.cell 1; have d0 := (hG6.kept hw').cell (8 + k); rw [GD.out] at d0; clear c; go_simp; done); (clear hK K; simp only [Act.put, List.setIfInBounds_toArray, List.set_cons_zero, List.set_cons_succ]))
          | (refine (if_pos (by rfl)).mpr ?_; apply Exists.intro; refine ⟨fun w' hw' => ?_, hK _ ?_⟩; (have c := hS7.kept hw'; have c0 := c.cell 0; have c1 := c.cell 1; have d0 := (hG6.kept hw').cell (8 + k); rw [GD.out] at d0; clear c; go_simp; rfl); (clear hK K; simp only [Act.put, List.setIfInBounds_toArray, List.set_cons_zero, List.set_cons_succ]))
          | (refine (if_neg (by rw [Bool.not_eq_true]; rfl)).mpr ?_; refine hK _ ?_; (clear hK K; simp only [Act.put, List.setIfInBounds_toArray, List.set_cons_zero, List.set_cons_succ]))
      refine chain_last _ rfl (fun K hK => ?_)
      refine (if_pos (by rfl)).mpr ?_
      have s0 := hS7.cell 0
      have s1 := hS7.cell 1
      have sf1 := hS7.free 1
      go_wp2
      refine chain_nil ?_
      have hS8 := hS7.set 1 (U (y <<< 8 ||| BitVec.ofNat 64 d.toNat))
      have hG8 := hG6.other (a := ⟨S, 1, none⟩) (by show G ≠ S; omega) (U (y <<< 8 ||| BitVec.ofNat 64 d.toNat))
      have hk8 : Kept w (w7.setCell ⟨S, 1, none⟩ (U (y <<< 8 ||| BitVec.ofNat 64 d.toNat))) := (Kept.of hk6 hw7).setCell (by show _ ≤ S; omega) _
      clear s0 s1 sf1
      go_wp2
      refine ⟨⟨k + 1, by omega, by go_num, ?_, hG8, hk8⟩, by simp [intOf]; omega⟩
      rw [HX1.out, HY1.out]
      simpa using hS8
    · obtain rfl : k = 8 := by omega
      have hX : getB ((B.take 8).take 8) = getB (B.take 8) := by rw [List.take_take]; rfl
      have hY : getB ((B.drop 8).take 8) = getB (B.drop 8) := by rw [List.take_of_length_le (l := B.drop 8) (by rw [List.length_drop, HBL.out]; exact Nat.le_refl _)]
      rw [hX, hY] at hS
      obtain ⟨X, hXX⟩ : ∃ X, X = sumB p := ⟨_, rfl⟩
      have hst : step2 (7640891576956012808#64, 13503953896175478587#64) (getB (B.take 8), getB (B.drop 8)) = X := by
        rw [hXX, sum_one p (by rw [← HN.out]; exact hl), ← HB.out]; rfl
      have HXX := Lib.hid hXX
      have HST := Lib.hid hst
      obtain ⟨x, hx⟩ : ∃ x, x = getB (B.take 8) := ⟨_, rfl⟩
      obtain ⟨y, hy⟩ : ∃ y, y = getB (B.drop 8) := ⟨_, rfl⟩
      rw [← hx, ← hy] at hS
      have HX := Lib.hid hx
      have HY := Lib.hid hy
      clear hX hY hXX hst hx hy hk hlt
      go_wp2_with fail
      refine wp_region_chainK [(0, 0), (3, 0), (4, 0), (1, 1), (2, 1), (5, 1), (6, 0), (7, 0), (8, 1), (9, 0), (10, 0)] (by kernel_rfl) (by kernel_rfl) ?_
      intro w5 hw5
      replace hS := hS.kept hw5
      repeat
        refine chain_light _ rfl (fun K hK => ?_)
        first
          | (refine (if_pos (by rfl)).mpr ?_; apply Exists.intro; refine ⟨fun w' hw' => ?_, hK _ ?_⟩; (have c := hS.kept hw'; have c0 := c.cell 0; have c1 := c.cell 1; clear c; go_simp; done); (clear hK K; simp only [Act.put, List.setIfInBounds_toArray, List.set_cons_zero, List.set_cons_succ]))
          | (refine (if_pos (by rfl)).mpr ?_; apply Exists.intro; refine ⟨fun w' hw' => ?_, hK _ ?_⟩; (have c := hS.kept hw'; have c0 := c.cell 0; have c1 := c.cell 1; clear c; go_simp; rfl); (clear hK K; simp only [Act.put, List.setIfInBounds_toArray, List.set_cons_zero, List.set_cons_succ]))
          | (refine (if_neg (by rw [Bool.not_eq_true]; rfl)).mpr ?_; refine hK _ ?_; (clear hK K; simp only [Act.put, List.setIfInBounds_toArray, List.set_cons_zero, List.set_cons_succ]))
      refine chain_heavy _ rfl (fun K hK => ?_)
      refine (if_pos (by rfl)).mpr ?_
      go_wp2
      refine hK _ _ ((Below.refl _ _).alloc (Nat.le_refl _) _) ?_
      clear hK K
      try simp only [Act.put, List.setIfInBounds_toArray, List.set_cons_zero, List.set_cons_succ]
      refine chain_heavy _ rfl (fun K hK => ?_)
      refine (if_pos (by rfl)).mpr ?_
      have hr := RowsSl.lit (us := [.slice va N vc]) (.cons (rs := []) (r := p) (by rw [← HN.out]; exact hb1.kept (Kept.of hkw hw5)) .nil) 22 1 rfl (by decide)
      go_wp2_with fail
      refine (sum_any _ [p] (by simp) (by simp; rw [← HN.out]; omega) _ hr).mono ?_
      rintro e w8 ⟨rfl, hk8⟩
      rw [show ([p] : List (List UInt8)).flatten = p by simp, ← HXX.out]
      have hkx := hk8
      replace hk8 : Kept w5 w8 := Kept.of ((Below.refl _ _).alloc (Nat.le_refl _) _) hk8
      go_wp2
      refine hK _ _ (hkx) ?_
      clear hK K
      try simp only [Act.put, List.setIfInBounds_toArray, List.set_cons_zero, List.set_cons_succ]
      refine chain_heavy _ rfl (fun K hK => ?_)
      refine (if_pos (by rfl)).mpr ?_
      go_wp2_with fail
      refine (step_any _ _ _ _ _).mono ?_
      rintro e w9 ⟨rfl, hk9⟩
      rw [HX.out, HY.out, HST.out]
      go_wp2
      refine hK _ _ (hk9) ?_
      clear hK K
      try simp only [Act.put, List.setIfInBounds_toArray, List.set_cons_zero, List.set_cons_succ]
      repeat
        refine chain_light _ rfl (fun K hK => ?_)
        first
          | (refine (if_pos (by rfl)).mpr ?_; apply Exists.intro; refine ⟨fun w' hw' => ?_, hK _ ?_⟩; (go_simp; done); (clear hK K; simp only [Act.put, List.setIfInBounds_toArray, List.set_cons_zero, List.set_cons_succ]))
          | (refine (if_pos (by rfl)).mpr ?_; apply Exists.intro; refine ⟨fun w' hw' => ?_, hK _ ?_⟩; (go_simp; rfl); (clear hK K; simp only [Act.put, List.setIfInBounds_toArray, List.set_cons_zero, List.set_cons_succ]))
          | (refine (if_neg (by rw [Bool.not_eq_true]; rfl)).mpr ?_; refine hK _ ?_; (clear hK K; simp only [Act.put, List.setIfInBounds_toArray, List.set_cons_zero, List.set_cons_succ]))
      refine chain_heavy _ rfl (fun K hK => ?_)
      refine (if_pos (by rfl)).mpr ?_
      go_wp2_with fail
      refine (known_any _).mono ?_
      rintro e w10 ⟨rfl, hk10⟩
      go_wp2
      refine hK _ _ (hk10) ?_
      clear hK K
      try simp only [Act.put, List.setIfInBounds_toArray, List.set_cons_zero, List.set_cons_succ]
      repeat
        refine chain_light _ rfl (fun K hK => ?_)
        first
          | (refine (if_pos (by rfl)).mpr ?_; apply Exists.intro; refine ⟨fun w' hw' => ?_, hK _ ?_⟩; (go_simp; done); (clear hK K; simp only [Act.put, List.setIfInBounds_toArray, List.set_cons_zero, List.set_cons_succ]))
          | (refine (if_pos (by rfl)).mpr ?_; apply Exists.intro; refine ⟨fun w' hw' => ?_, hK _ ?_⟩; (go_simp; rfl); (clear hK K; simp only [Act.put, List.setIfInBounds_toArray, List.set_cons_zero, List.set_cons_succ]))
          | (refine (if_neg (by rw [Bool.not_eq_true]; rfl)).mpr ?_; refine hK _ ?_; (clear hK K; simp only [Act.put, List.setIfInBounds_toArray, List.set_cons_zero, List.set_cons_succ]))
      refine chain_nil ?_
      go_wp2
      go_ret
      exact ⟨rfl, ((((Kept.of hkw hw5).of hk8).of hk9).of hk10)⟩

set_option maxRecDepth 100000 in
set_option maxHeartbeats 4000000 in
theorem one_walk (v : Value) (p : List UInt8) (w : World) (hb : Sl w v p.length (bcells p)) : Calls Try.prog 6 #[v] w fun e w' => e = .returned (.bool true) ∧ Kept w w' := by
  by_cases h1 : 7 < p.length
  · obtain ⟨va, vc, hv⟩ := hb.len
    subst hv
    have n0 : (7 : Int) < (p.length : Int) := by omega
    clear hb h1
    go_enter Try.func6, Try.ntmps6
    go_wp2
    go_ret
    exact ⟨rfl, Below.refl _ _⟩
  · exact one_in v p (by omega) w hb

namespace digestOneRow
open Go.ChangeShapes Go.WideShapes Go.ChangeAt Go.RowKit
theorem own : ownKnob Try.prog.godebug = none := by kernel_rfl
theorem laidOut : laidOutB Try.prog = true := by kernel_rfl

set_option maxRecDepth 100000 in
theorem lifted (os : Os) (started : os.Started) (H : Type) (enc : TypeId × Value → H) :
    ReturnsInHanded {} Try.checked os 6 .any (Rows.digestOneSpec.pre6 enc Try.prog Try.f6 Rows.digestOneRow.domain false) (Rows.digestOneSpec.post enc Try.prog Try.f6 false true false false) := by
  refine returnsInHanded_of_change (C := Try.checked) own started (by kernel_rfl) Try.func6
    (ChangeSpec.witness6 (enc := enc) (C := Try.checked) false ⟨#[], #[.slice none 0 0], []⟩ 8 (by kernel_rfl) (by kernel_rfl) (by kernel_rfl) (by kernel_rfl)) ?_
  intro W base args ds gs before hval0 hW _ hsz
  have hval : ∀ (j : Nat) t v, Try.f6.params[j]? = some t → args[j]? = some v → Value.okWide Try.prog W .any base t v := hval0
  have hW' := hW
  obtain ⟨p, q, hA0, hV, rfl, hfz, hnd⟩ := hW
  have hA : DataW.TrodAll enc Try.prog W 0 (fun _ => true) true Try.f6.params.toList args.toList ds p := hA0
  rw [Try.params6] at hA hval
  obtain ⟨v0, vs0, d0, ds0, p0, q0, hargs, rfl, rfl, h0, r0⟩ := trodAll_cons hA
  obtain ⟨rfl, rfl, rfl⟩ := trodAll_nil r0
  obtain rfl : args = #[v0] := by cases args; simp_all
  obtain ⟨a0b, a0⟩ := open_bytes (e := 5) Try.underlying22 Try.underlying5 (by kernel_rfl) (hval 0 22 v0 rfl rfl) h0
  refine (one_walk v0 a0b W a0).mono fun e W' ⟨he, bel⟩ => ?_
  subst he
  exact ⟨_, rfl, law_post (tb := 4) laidOut (by kernel_rfl) Try.underlying4 (by rfl) rfl (by intro xs hxs; match xs, hxs with | [x0], _ => rfl) hW' bel⟩

theorem over : Rows.digestOneRow.holds Try.pinned (OpenSpec.ofChange Rows.digestOneSpec) :=
  OpenClaim.holds_of_wide 6 Try.f6 rfl rfl rfl rfl rfl rfl rfl ⟨rfl, rfl, rfl, rfl, rfl⟩ rfl rfl rfl rfl rfl (by kernel_rfl) Try.func6 (by kernel_rfl)
    (of_decide_eq_true (by kernel_rfl)) (by unfold Func.isWrapper; rw [if_neg (of_decide_eq_false (by kernel_rfl))]; exact ⟨rfl, rfl⟩)
    (fun os started H enc _ => lifted os started H enc)
end digestOneRow

theorem digestOne_holds : Rows.DigestOneSaid := digestOneRow.over
#print axioms digestOne_holds

end Go.Proofs.Ytndeadicegeblaa
