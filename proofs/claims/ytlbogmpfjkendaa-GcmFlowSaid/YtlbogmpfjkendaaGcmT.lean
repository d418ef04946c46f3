/- What gcm.Tag, and its reference, compute. -/
import Derived.Test.YtlbogmpfjkendaaGcmP
import Derived.Test.YtlbogmpfjkendaaFlowX
namespace Go.Proofs.Ytlbogmpfjkendaa
open Go Go.RowKit

theorem u64_nat (n : Nat) (h : n < 18446744073709551616) : Value.int .u64 (n : Int) = U (BitVec.ofNat 64 n) := by
  rw [U, BitVec.toNat_ofNat, Nat.mod_eq_of_lt h]
theorem same_kept2 {P : Program} {f : FuncId} {args : Array Value} {w : World} {r : Value} (h : Calls P f args w fun e w' => e = .returned r ∧ w = w') : Calls P f args w fun e w' => e = .returned r ∧ Kept w w' :=
  h.mono fun _ _ ⟨h1, h2⟩ => ⟨h1, by rw [← h2]; exact Below.refl _ _⟩

set_option maxRecDepth 100000 in
set_option maxHeartbeats 4000000 in
theorem tag_any (s1 s2 : BitVec 64) (vh vb : Value) (head bytes : List UInt8) (hl : head.length ≤ 4000) (bl : bytes.length ≤ 4000) (w : World) (hh : Sl w vh head.length (bcells head)) (hb : Sl w vb bytes.length (bcells bytes)) :
    Calls Try.prog 12 #[.agg #[U s1, U s2], vh, vb] w fun e w' => e = .returned (Pr (tag2 (s1, s2) head bytes)) ∧ Kept w w' := by
  obtain ⟨ha, hc, hv⟩ := hh.len
  subst hv
  obtain ⟨ba, bc, hv⟩ := hb.len
  subst hv
  have hk0 : Kept w ((w.alloc (.cells #[U s1, U s2] 24)).alloc (.cells #[U 0#64, U 0#64] 24)) := ((Below.refl _ _).alloc (Nat.le_refl _) _).alloc (by simp) _
  have hS : Blk ((w.alloc (.cells #[U s1, U s2] 24)).alloc (.cells #[U 0#64, U 0#64] 24)) w.heap.size #[U s1, U s2] 24 := (Blk.new _ _ _).alloc _
  have hR : Blk ((w.alloc (.cells #[U s1, U s2] 24)).alloc (.cells #[U 0#64, U 0#64] 24)) (w.heap.size + 1) #[U 0#64, U 0#64] 24 := by simpa using Blk.new (w.alloc (.cells #[U s1, U s2] 24)) #[U 0#64, U 0#64] 24
  have hh0 := hh
  have hb0 := hb
  obtain ⟨H, hH⟩ : ∃ H, H = head.length := ⟨_, rfl⟩
  obtain ⟨B, hB⟩ : ∃ B, B = bytes.length := ⟨_, rfl⟩
  rw [← hH] at hl hh
  rw [← hB] at bl hb
  rw [← hH, ← hB]
  have i0 : (H : Int) ≤ 4000 := by omega
  have i1 : (B : Int) ≤ 4000 := by omega
  have HH := Lib.hid hH
  have HB := Lib.hid hB
  have hsh : Sl w (.slice ha H hc) head.length (bcells head) := by rw [hH]; exact hh0
  have hsb : Sl w (.slice ba B bc) bytes.length (bcells bytes) := by rw [hB]; exact hb0
  have hp1 : nP head.length ≤ 260 := by rw [← hH]; unfold nP; omega
  have hp2 : nP bytes.length ≤ 260 := by rw [← hB]; unfold nP; omega
  clear hH hB hh hb hh0 hb0
  have q0 := hS.cell 0
  have q1 := hS.cell 1
  go_enter Try.func12, Try.ntmps12
  go_wp2_with fail
  generalize ((w.alloc (.cells #[U s1, U s2] 24)).alloc (.cells #[U 0#64, U 0#64] 24)) = w0 at *
  clear q0 q1
  refine (pairs_any _ head (by rw [← HH.out]; omega) _ (hsh.kept hk0)).mono ?_
  rintro e w6 ⟨r1, rfl, o1, hk6⟩
  go_wp2_with fail
  refine (pairs_any _ bytes (by rw [← HB.out]; omega) _ (hsb.kept (hk0.of hk6))).mono ?_
  rintro e w7 ⟨r2, rfl, o2, hk7⟩
  have o1' := own_kept o1 hk7
  have s2 := Sl.of_own o2
  have hz7 : w0.heap.size ≤ w7.heap.size := Nat.le_trans hk6.size hk7.size
  go_wp2_with (at_builtin; refine wpList_append sl_pair rfl (by rfl) (by rfl) (by rfl) o1' s2 (by rw [pcells_length, pairsL_length]) (oneCell_pair _) (by unfold maxLen; omega) (by omega) hz7 ?_; intro v8 w8 o8 hg8 hat8; refine hold ?_)
  have hk8 : Kept w0 w8 := below_append (hk6.of hk7) o1' hg8 hz7
  rw [← pcells_append] at o8
  clear hg8 hat8 o1' o1 o2 s2 hk6 hk7 hz7
  unfold Hold
  have hk9 : Kept w8 (w8.alloc (.cells #[.int .u64 (H : Int), .int .u64 (B : Int)] 24)) := (Below.refl _ _).alloc (Nat.le_refl _) _
  have o9 := own_kept o8 hk9
  have hL9 := Sl.lit w8 #[.int .u64 (H : Int), .int .u64 (B : Int)] 24 1 (by decide)
  have hka := Kept.of hk8 hk9
  have hza := hka.size
  clear hk8 hk9 o8
  go_wp2_with (at_builtin; refine wpList_append sl_pair rfl (by rfl) (by rfl) (by rfl) o9 hL9 (by rfl) (by intro u hu; simp at hu; rcases hu with rfl | rfl <;> rfl) (by unfold maxLen; omega) (by omega) hza ?_; intro va wa oa hga hata; refine hold ?_)
  have hkb : Kept w0 wa := below_append hka o9 hga hza
  have sa : Sl wa va (tagL head bytes).length (pcells (tagL head bytes)) := by
    have e1 : (tagL head bytes).length = nP head.length + nP bytes.length + 1 := by simp [tagL, pairsL_length]; omega
    have e2 : pcells (pairsL head ++ pairsL bytes) ++ #[.int .u64 (H : Int), .int .u64 (B : Int)].toList = pcells (tagL head bytes) := by
      unfold tagL
      rw [pcells_append (pairsL head ++ pairsL bytes), pcells_one, ← HH.out, ← HB.out, ← u64_nat H (by omega), ← u64_nat B (by omega)]
    rw [e1, ← e2]
    exact Sl.of_own oa
  have htl : (tagL head bytes).length ≤ 1000 := by simp [tagL, pairsL_length]; omega
  replace hS := hS.kept hkb
  replace hR := hR.kept hkb
  replace hk0 := Kept.of hk0 hkb
  clear hga hata o9 hL9 hka hza oa hkb
  unfold Hold
  have q0 := hS.cell 0
  have q1 := hS.cell 1
  go_wp2_with fail
  refine (enc_any _ _ _ _ _).mono ?_
  rintro e w3 ⟨rfl, hk3⟩
  obtain ⟨E, hE⟩ : ∃ E, E = enc2 (s1, s2) (0#64, 1#64) := ⟨_, rfl⟩
  rw [← hE]
  have HE := Lib.hid hE
  clear hE
  have hT := Blk.new w3 #[U E.1, U E.2] 24
  have hk4 : Kept wa (w3.alloc (.cells #[U E.1, U E.2] 24)) := Kept.of hk3 ((Below.refl _ _).alloc (Nat.le_refl _) _)
  replace hS := hS.kept hk4
  replace hR := hR.kept hk4
  replace hk0 := Kept.of hk0 hk4
  replace sa := sa.kept hk4
  clear hk3 hk4 q0 q1
  go_wp2_with fail
  generalize w3.alloc (.cells #[U E.1, U E.2] 24) = w5 at *
  refine wp_region_chainK [(0, 0), (1, 0), (3, 0), (4, 0), (2, 1), (5, 1), (6, 1), (7, 2)] (by kernel_rfl) (by kernel_rfl) ?_
  intro wb hwb
  replace hS := hS.kept hwb
  replace hT := hT.kept hwb
  replace hR := hR.kept hwb
  repeat
    refine chain_light _ rfl (fun K hK => ?_)
    first
      | (refine (if_pos (by rfl)).mpr ?_; apply Exists.intro; refine ⟨fun w' hw' => ?_, hK _ ?_⟩; (have c := hS.kept hw'; have c0 := c.cell 0; have c1 := c.cell 1; have d := hT.kept hw'; have d0 := d.cell 0; have d1 := d.cell 1; clear c d; go_simp; done); (clear hK K; simp only [Act.put, List.setIfInBounds_toArray, List.set_cons_zero, List.set_cons_succ]))
      | (refine (if_pos (by rfl)).mpr ?_; apply Exists.intro; refine ⟨fun w' hw' => ?_, hK _ ?_⟩; (have c := hS.kept hw'; have c0 := c.cell 0; have c1 := c.cell 1; have d := hT.kept hw'; have d0 := d.cell 0; have d1 := d.cell 1; clear c d; go_simp; rfl); (clear hK K; simp only [Act.put, List.setIfInBounds_toArray, List.set_cons_zero, List.set_cons_succ]))
      | (refine (if_neg (by rw [Bool.not_eq_true]; rfl)).mpr ?_; refine hK _ ?_; (clear hK K; simp only [Act.put, List.setIfInBounds_toArray, List.set_cons_zero, List.set_cons_succ]))
  refine chain_heavy _ rfl (fun K hK => ?_)
  refine (if_pos (by rfl)).mpr ?_
  go_wp2_with fail
  refine (eval_sl _ _ _ _ htl (sa.kept hwb)).mono ?_
  rintro e wc ⟨rfl, hkc⟩
  replace hR := hR.kept hkc
  go_wp2
  refine hK _ _ (hkc) ?_
  clear hK K
  try simp only [Act.put, List.setIfInBounds_toArray, List.set_cons_zero, List.set_cons_succ]
  refine chain_heavy _ rfl (fun K hK => ?_)
  refine (if_pos (by rfl)).mpr ?_
  go_wp2_with fail
  refine (enc_any _ _ _ _ _).mono ?_
  rintro e wd ⟨rfl, hkd⟩
  replace hR := hR.kept hkd
  go_wp2
  refine hK _ _ (hkd) ?_
  clear hK K
  try simp only [Act.put, List.setIfInBounds_toArray, List.set_cons_zero, List.set_cons_succ]
  refine chain_heavy _ rfl (fun K hK => ?_)
  refine (if_pos (by rfl)).mpr ?_
  go_wp2_with fail
  refine (add_any _ _ _ _ _).mono ?_
  rintro e we ⟨rfl, hke⟩
  replace hR := hR.kept hke
  go_wp2
  refine hK _ _ (hke) ?_
  clear hK K
  try simp only [Act.put, List.setIfInBounds_toArray, List.set_cons_zero, List.set_cons_succ]
  refine chain_last _ rfl (fun K hK => ?_)
  refine (if_pos (by rfl)).mpr ?_
  have r0 := hR.cell 0
  have r1 := hR.cell 1
  have rf0 := hR.free 0
  have rf1 := hR.free 1
  go_wp2
  refine chain_nil ?_
  have hkz := (((hk0.of hwb).of hkc).of hkd).of hke
  go_wp2
  refine bodyPost_ret (v := Pr (tag2 (s1, s2) head bytes)) (by simp [results, Try.results12, go_sem, r0, r1, tag2, ← HE.out]; done) rfl ⟨rfl, ?_⟩
  exact (hkz.setCell (by show _ ≤ w.heap.size + 1; omega) _).setCell (by show _ ≤ w.heap.size + 1; omega) _

set_option maxRecDepth 100000 in
set_option maxHeartbeats 4000000 in
theorem rtag_any (s1 s2 : BitVec 64) (vh vb : Value) (head bytes : List UInt8) (hl : head.length ≤ 4000) (bl : bytes.length ≤ 4000) (w : World) (hh : Sl w vh head.length (bcells head)) (hb : Sl w vb bytes.length (bcells bytes)) :
    Calls Try.prog 13 #[.agg #[U s1, U s2], vh, vb] w fun e w' => e = .returned (Pr (tag2 (s1, s2) head bytes)) ∧ Kept w w' := by
  obtain ⟨ha, hc, hv⟩ := hh.len
  subst hv
  obtain ⟨ba, bc, hv⟩ := hb.len
  subst hv
  have hk0 : Kept w ((w.alloc (.cells #[U s1, U s2] 24)).alloc (.cells #[U 0#64, U 0#64] 24)) := ((Below.refl _ _).alloc (Nat.le_refl _) _).alloc (by simp) _
  have hS : Blk ((w.alloc (.cells #[U s1, U s2] 24)).alloc (.cells #[U 0#64, U 0#64] 24)) w.heap.size #[U s1, U s2] 24 := (Blk.new _ _ _).alloc _
  have hR : Blk ((w.alloc (.cells #[U s1, U s2] 24)).alloc (.cells #[U 0#64, U 0#64] 24)) (w.heap.size + 1) #[U 0#64, U 0#64] 24 := by simpa using Blk.new (w.alloc (.cells #[U s1, U s2] 24)) #[U 0#64, U 0#64] 24
  have hh0 := hh
  have hb0 := hb
  obtain ⟨H, hH⟩ : ∃ H, H = head.length := ⟨_, rfl⟩
  obtain ⟨B, hB⟩ : ∃ B, B = bytes.length := ⟨_, rfl⟩
  rw [← hH] at hl hh
  rw [← hB] at bl hb
  rw [← hH, ← hB]
  have i0 : (H : Int) ≤ 4000 := by omega
  have i1 : (B : Int) ≤ 4000 := by omega
  have HH := Lib.hid hH
  have HB := Lib.hid hB
  have hsh : Sl w (.slice ha H hc) head.length (bcells head) := by rw [hH]; exact hh0
  have hsb : Sl w (.slice ba B bc) bytes.length (bcells bytes) := by rw [hB]; exact hb0
  have hp1 : nP head.length ≤ 260 := by rw [← hH]; unfold nP; omega
  have hp2 : nP bytes.length ≤ 260 := by rw [← hB]; unfold nP; omega
  clear hH hB hh hb hh0 hb0
  have q0 := hS.cell 0
  have q1 := hS.cell 1
  go_enter Try.func13, Try.ntmps13
  go_wp2_with fail
  generalize ((w.alloc (.cells #[U s1, U s2] 24)).alloc (.cells #[U 0#64, U 0#64] 24)) = w0 at *
  refine (renc_any _ _ _ _ _).mono ?_
  rintro e w3 ⟨rfl, hk3⟩
  obtain ⟨E, hE⟩ : ∃ E, E = enc2 (s1, s2) (0#64, 1#64) := ⟨_, rfl⟩
  rw [← hE]
  have HE := Lib.hid hE
  clear hE
  have hT := Blk.new w3 #[U E.1, U E.2] 24
  have hk4 : Kept w0 (w3.alloc (.cells #[U E.1, U E.2] 24)) := Kept.of hk3 ((Below.refl _ _).alloc (Nat.le_refl _) _)
  replace hS := hS.kept hk4
  replace hR := hR.kept hk4
  replace hk0 := Kept.of hk0 hk4
  clear hk3 hk4 q0 q1
  go_wp2_with fail
  generalize w3.alloc (.cells #[U E.1, U E.2] 24) = w5 at *
  refine (rpairs_any _ head (by rw [← HH.out]; omega) _ (hsh.kept hk0)).mono ?_
  rintro e w6 ⟨r1, rfl, o1, hk6⟩
  go_wp2_with fail
  refine (rpairs_any _ bytes (by rw [← HB.out]; omega) _ (hsb.kept (hk0.of hk6))).mono ?_
  rintro e w7 ⟨r2, rfl, o2, hk7⟩
  have o1' := own_kept o1 hk7
  have s2 := Sl.of_own o2
  have hz7 : w5.heap.size ≤ w7.heap.size := Nat.le_trans hk6.size hk7.size
  go_wp2_with (at_builtin; refine wpList_append sl_pair rfl (by rfl) (by rfl) (by rfl) o1' s2 (by rw [pcells_length, pairsL_length]) (oneCell_pair _) (by unfold maxLen; omega) (by omega) hz7 ?_; intro v8 w8 o8 hg8 hat8; refine hold ?_)
  have hk8 : Kept w5 w8 := below_append (hk6.of hk7) o1' hg8 hz7
  rw [← pcells_append] at o8
  clear hg8 hat8 o1' o1 o2 s2 hk6 hk7 hz7
  unfold Hold
  have hk9 : Kept w8 (w8.alloc (.cells #[.int .u64 (H : Int), .int .u64 (B : Int)] 24)) := (Below.refl _ _).alloc (Nat.le_refl _) _
  have o9 := own_kept o8 hk9
  have hL9 := Sl.lit w8 #[.int .u64 (H : Int), .int .u64 (B : Int)] 24 1 (by decide)
  have hka := Kept.of hk8 hk9
  have hza := hka.size
  clear hk8 hk9 o8
  go_wp2_with (at_builtin; refine wpList_append sl_pair rfl (by rfl) (by rfl) (by rfl) o9 hL9 (by rfl) (by intro u hu; simp at hu; rcases hu with rfl | rfl <;> rfl) (by unfold maxLen; omega) (by omega) hza ?_; intro va wa oa hga hata; refine hold ?_)
  have hkb : Kept w5 wa := below_append hka o9 hga hza
  have sa : Sl wa va (tagL head bytes).length (pcells (tagL head bytes)) := by
    have e1 : (tagL head bytes).length = nP head.length + nP bytes.length + 1 := by simp [tagL, pairsL_length]; omega
    have e2 : pcells (pairsL head ++ pairsL bytes) ++ #[.int .u64 (H : Int), .int .u64 (B : Int)].toList = pcells (tagL head bytes) := by
      unfold tagL
      rw [pcells_append (pairsL head ++ pairsL bytes), pcells_one, ← HH.out, ← HB.out, ← u64_nat H (by omega), ← u64_nat B (by omega)]
    rw [e1, ← e2]
    exact Sl.of_own oa
  have htl : (tagL head bytes).length ≤ 1000 := by simp [tagL, pairsL_length]; omega
  replace hS := hS.kept hkb
  replace hR := hR.kept hkb
  replace hk0 := Kept.of hk0 hkb
  replace hT := hT.kept hkb
  clear hga hata o9 hL9 hka hza oa hkb
  unfold Hold
  go_wp2_with fail
  generalize wa = w5 at *
  refine wp_region_chainK [(0, 0), (1, 0), (3, 0), (4, 0), (2, 1), (5, 1), (6, 1), (7, 2)] (by kernel_rfl) (by kernel_rfl) ?_
  intro wb hwb
  replace hS := hS.kept hwb
  replace hT := hT.kept hwb
  replace hR := hR.kept hwb
  repeat
    refine chain_light _ rfl (fun K hK => ?_)
    first
      | (refine (if_pos (by rfl)).mpr ?_; apply Exists.intro; refine ⟨fun w' hw' => ?_, hK _ ?_⟩; (have c := hS.kept hw'; have c0 := c.cell 0; have c1 := c.cell 1; have d := hT.kept hw'; have d0 := d.cell 0; have d1 := d.cell 1; clear c d; go_simp; done); (clear hK K; simp only [Act.put, List.setIfInBounds_toArray, List.set_cons_zero, List.set_cons_succ]))
      | (refine (if_pos (by rfl)).mpr ?_; apply Exists.intro; refine ⟨fun w' hw' => ?_, hK _ ?_⟩; (have c := hS.kept hw'; have c0 := c.cell 0; have c1 := c.cell 1; have d := hT.kept hw'; have d0 := d.cell 0; have d1 := d.cell 1; clear c d; go_simp; rfl); (clear hK K; simp only [Act.put, List.setIfInBounds_toArray, List.set_cons_zero, List.set_cons_succ]))
      | (refine (if_neg (by rw [Bool.not_eq_true]; rfl)).mpr ?_; refine hK _ ?_; (clear hK K; simp only [Act.put, List.setIfInBounds_toArray, List.set_cons_zero, List.set_cons_succ]))
  refine chain_heavy _ rfl (fun K hK => ?_)
  refine (if_pos (by rfl)).mpr ?_
  go_wp2_with fail
  refine (reval_sl _ _ _ _ htl (sa.kept hwb)).mono ?_
  rintro e wc ⟨rfl, hkc⟩
  replace hR := hR.kept hkc
  go_wp2
  refine hK _ _ (hkc) ?_
  clear hK K
  try simp only [Act.put, List.setIfInBounds_toArray, List.set_cons_zero, List.set_cons_succ]
  refine chain_heavy _ rfl (fun K hK => ?_)
  refine (if_pos (by rfl)).mpr ?_
  go_wp2_with fail
  refine (renc_any _ _ _ _ _).mono ?_
  rintro e wd ⟨rfl, hkd⟩
  replace hR := hR.kept hkd
  go_wp2
  refine hK _ _ (hkd) ?_
  clear hK K
  try simp only [Act.put, List.setIfInBounds_toArray, List.set_cons_zero, List.set_cons_succ]
  refine chain_heavy _ rfl (fun K hK => ?_)
  refine (if_pos (by rfl)).mpr ?_
  go_wp2_with fail
  refine (radd_any _ _ _ _ _).mono ?_
  rintro e we ⟨rfl, hke⟩
  replace hR := hR.kept hke
  go_wp2
  refine hK _ _ (hke) ?_
  clear hK K
  try simp only [Act.put, List.setIfInBounds_toArray, List.set_cons_zero, List.set_cons_succ]
  refine chain_last _ rfl (fun K hK => ?_)
  refine (if_pos (by rfl)).mpr ?_
  have r0 := hR.cell 0
  have r1 := hR.cell 1
  have rf0 := hR.free 0
  have rf1 := hR.free 1
  go_wp2
  refine chain_nil ?_
  have hkz := (((hk0.of hwb).of hkc).of hkd).of hke
  go_wp2
  refine bodyPost_ret (v := Pr (tag2 (s1, s2) head bytes)) (by simp [results, Try.results13, go_sem, r0, r1, tag2, ← HE.out]; done) rfl ⟨rfl, ?_⟩
  exact (hkz.setCell (by show _ ≤ w.heap.size + 1; omega) _).setCell (by show _ ≤ w.heap.size + 1; omega) _


end Go.Proofs.Ytlbogmpfjkendaa
