/- GcmSeals: any bytes sealed, by any key, number, head. -/
import Derived.Test.YtlbogmpfjkendaaGcmK
import Derived.Test.YtlbogmpfjkendaaRows
namespace Go.Proofs.Ytlbogmpfjkendaa
open Go Go.RowKit

set_option maxRecDepth 100000 in
set_option maxHeartbeats 8000000 in
theorem seals_in (k1 k2 : BitVec 64) (n : Nn) (vh vd : Value) (head data : List UInt8) (hl : head.length ≤ 300) (dl : data.length ≤ 300) (w : World) (hh : Sl w vh head.length (bcells head)) (hd : Sl w vd data.length (bcells data)) : Calls Try.prog 3 #[.agg #[U k1, U k2], n.val, vh, vd] w fun e w' => e = .returned (.bool true) ∧ Kept w w' := by
  obtain ⟨ha, hc, hv⟩ := hh.len
  subst hv
  obtain ⟨da, dc, hv⟩ := hd.len
  subst hv
  obtain ⟨H, hH⟩ : ∃ H, H = head.length := ⟨_, rfl⟩
  obtain ⟨D, hD⟩ : ∃ D, D = data.length := ⟨_, rfl⟩
  have hh1 : Sl w (.slice ha H hc) head.length (bcells head) := by rw [hH]; exact hh
  have hd1 : Sl w (.slice da D dc) data.length (bcells data) := by rw [hD]; exact hd
  rw [← hH] at hl ⊢
  rw [← hD] at dl ⊢
  have HH := Lib.hid hH
  have HD := Lib.hid hD
  clear hh hd hH hD
  have i0 : (H : Int) ≤ 300 := by omega
  have i1 : (D : Int) ≤ 300 := by omega
  unfold Nn.val
  have hk0 : Kept w ((w.alloc (.cells #[U k1, U k2] 24)).alloc (.cells #[W n.epoch, W n.slot, U n.version] 27)) := (((Below.refl _ _).alloc (Nat.le_refl _) _).alloc (by simp) _)
  have hKe : Blk ((w.alloc (.cells #[U k1, U k2] 24)).alloc (.cells #[W n.epoch, W n.slot, U n.version] 27)) w.heap.size #[U k1, U k2] 24 := ((Blk.new _ _ _).alloc _)
  have hN : Blk ((w.alloc (.cells #[U k1, U k2] 24)).alloc (.cells #[W n.epoch, W n.slot, U n.version] 27)) (w.heap.size + 1) #[W n.epoch, W n.slot, U n.version] 27 := by simpa using Blk.new (w.alloc (.cells #[U k1, U k2] 24)) #[W n.epoch, W n.slot, U n.version] 27
  have q0 := hKe.cell 0
  have q1 := hKe.cell 1
  have n0 := hN.cell 0
  have n1 := hN.cell 1
  have n2 := hN.cell 2
  go_enter Try.func3, Try.ntmps3
  go_wp2_with fail
  generalize ((w.alloc (.cells #[U k1, U k2] 24)).alloc (.cells #[W n.epoch, W n.slot, U n.version] 27)) = w0 at *
  refine (seal_any _ _ n _ _ head data (by rw [← HH.out]; omega) (by rw [← HD.out]; omega) _ (hh1.kept hk0) (hd1.kept hk0)).mono ?_
  rintro e w1 ⟨ua, rfl, oa, hk1⟩
  rw [← HD.out] at oa
  obtain ⟨T, hT⟩ : ∃ T, T = sealT (k1, k2) n head data := ⟨_, rfl⟩
  obtain ⟨C, hC⟩ : ∃ C, C = ciph (k1, k2) n data := ⟨_, rfl⟩
  rw [← hT]
  rw [← hC] at oa
  have HT := Lib.hid hT
  have HC := Lib.hid hC
  clear hT hC
  obtain ⟨aa, ca, he⟩ := (Sl.of_own oa).len
  subst he
  have hXa := Blk.new w1 #[.slice aa D ca, U T.1, U T.2] 30
  have hka : Kept w1 (w1.alloc (.cells #[.slice aa D ca, U T.1, U T.2] 30)) := (Below.refl _ _).alloc (Nat.le_refl _) _
  have oax := own_kept oa hka
  replace hKe := (hKe.kept hk1).kept hka
  replace hN := (hN.kept hk1).kept hka
  replace hk0 := Kept.of (Kept.of hk0 hk1) hka
  clear hk1 hka oa
  clear q0 q1 n0 n1 n2
  have q0 := hKe.cell 0
  have q1 := hKe.cell 1
  have n0 := hN.cell 0
  have n1 := hN.cell 1
  have n2 := hN.cell 2
  go_wp2_with fail
  refine (rseal_any _ _ n _ _ head data (by rw [← HH.out]; omega) (by rw [← HD.out]; omega) _ (hh1.kept hk0) (hd1.kept hk0)).mono ?_
  rintro e w2 ⟨ub, rfl, ob, hk2⟩
  rw [← HD.out] at ob
  rw [← HT.out]
  rw [← HC.out] at ob
  obtain ⟨ab, cb, he⟩ := (Sl.of_own ob).len
  subst he
  have hXb := Blk.new w2 #[.slice ab D cb, U T.1, U T.2] 30
  have hka : Kept w2 (w2.alloc (.cells #[.slice ab D cb, U T.1, U T.2] 30)) := (Below.refl _ _).alloc (Nat.le_refl _) _
  have obx := own_kept ob hka
  replace hKe := (hKe.kept hk2).kept hka
  replace hN := (hN.kept hk2).kept hka
  replace hXa := (hXa.kept hk2).kept hka
  replace oax := own_kept (own_kept oax hk2) hka
  replace hk0 := Kept.of (Kept.of hk0 hk2) hka
  clear hk2 hka ob
  clear q0 q1 n0 n1 n2
  have sa := Sl.of_own oax
  have sb := Sl.of_own obx
  have hCl : C.length = D := by rw [HC.out, ciph_length, HD.out]
  have HCL := Lib.hid hCl
  clear hCl oax obx
  go_wp2_with fail
  generalize (w2.alloc (.cells #[.slice ab D cb, U T.1, U T.2] 30)) = w3 at *
  refine wp_region_chainK [(0, 0), (1, 0), (2, 0), (3, 0), (4, 0), (5, 0), (6, 1), (7, 0), (8, 0), (9, 0), (10, 0), (11, 0), (13, 0), (14, 0), (15, 0), (12, 1), (16, 1), (17, 0), (18, 0), (19, 0), (20, 1), (21, 0), (22, 0)] (by kernel_rfl) (by kernel_rfl) ?_
  intro w4 hw4
  replace hKe := hKe.kept hw4
  replace hN := hN.kept hw4
  replace hXa := hXa.kept hw4
  replace hXb := hXb.kept hw4
  repeat
    refine chain_light _ rfl (fun K hK => ?_)
    first
      | (refine (if_pos (by rfl)).mpr ?_; apply Exists.intro; refine ⟨fun w' hw' => ?_, hK _ ?_⟩; (have c := hXa.kept hw'; have c0 := c.cell 0; have c1 := c.cell 1; have c2 := c.cell 2; have d := hXb.kept hw'; have d0 := d.cell 0; have d1 := d.cell 1; have d2 := d.cell 2; clear c d; go_simp; done); (clear hK K; simp only [Act.put, List.setIfInBounds_toArray, List.set_cons_zero, List.set_cons_succ]))
      | (refine (if_pos (by rfl)).mpr ?_; apply Exists.intro; refine ⟨fun w' hw' => ?_, hK _ ?_⟩; (have c := hXa.kept hw'; have c0 := c.cell 0; have c1 := c.cell 1; have c2 := c.cell 2; have d := hXb.kept hw'; have d0 := d.cell 0; have d1 := d.cell 1; have d2 := d.cell 2; clear c d; go_simp; rfl); (clear hK K; simp only [Act.put, List.setIfInBounds_toArray, List.set_cons_zero, List.set_cons_succ]))
      | (refine (if_neg (by rw [Bool.not_eq_true]; rfl)).mpr ?_; refine hK _ ?_; (clear hK K; simp only [Act.put, List.setIfInBounds_toArray, List.set_cons_zero, List.set_cons_succ]))
  refine chain_heavy _ rfl (fun K hK => ?_)
  refine (if_pos (by rfl)).mpr ?_
  go_wp2_with fail
  refine (sealed_same _ _ C C _ _ _ _ _ (by rw [HCL.out]; exact sa.kept hw4) (by rw [HCL.out]; exact sb.kept hw4)).mono ?_
  rintro e w5 ⟨rfl, hk5⟩
  replace hKe := hKe.kept hk5
  go_wp2
  refine hK _ _ (hk5) ?_
  clear hK K
  try simp only [Act.put, List.setIfInBounds_toArray, List.set_cons_zero, List.set_cons_succ]
  repeat
    refine chain_light _ rfl (fun K hK => ?_)
    first
      | (refine (if_pos (by rfl)).mpr ?_; apply Exists.intro; refine ⟨fun w' hw' => ?_, hK _ ?_⟩; (have c := hKe.kept hw'; have c0 := c.cell 0; have c1 := c.cell 1; clear c; go_simp; done); (clear hK K; simp only [Act.put, List.setIfInBounds_toArray, List.set_cons_zero, List.set_cons_succ]))
      | (refine (if_pos (by rfl)).mpr ?_; apply Exists.intro; refine ⟨fun w' hw' => ?_, hK _ ?_⟩; (have c := hKe.kept hw'; have c0 := c.cell 0; have c1 := c.cell 1; clear c; go_simp; rfl); (clear hK K; simp only [Act.put, List.setIfInBounds_toArray, List.set_cons_zero, List.set_cons_succ]))
      | (refine (if_neg (by rw [Bool.not_eq_true]; rfl)).mpr ?_; refine hK _ ?_; (clear hK K; simp only [Act.put, List.setIfInBounds_toArray, List.set_cons_zero, List.set_cons_succ]))
  refine chain_heavy _ rfl (fun K hK => ?_)
  refine (if_pos (by rfl)).mpr ?_
  go_wp2_with fail
  refine (tag_any _ _ _ _ head data (by rw [← HH.out]; omega) (by rw [← HD.out]; omega) _ (hh1.kept ((hk0.of hw4).of hk5)) (hd1.kept ((hk0.of hw4).of hk5))).mono ?_
  rintro e w6 ⟨rfl, hk6⟩
  obtain ⟨Y, hY⟩ : ∃ Y, Y = tag2 (k1, k2) head data := ⟨_, rfl⟩
  rw [← hY]
  have HY := Lib.hid hY
  clear hY
  replace hKe := hKe.kept hk6
  go_wp2
  refine hK _ _ (hk6) ?_
  clear hK K
  try simp only [Act.put, List.setIfInBounds_toArray, List.set_cons_zero, List.set_cons_succ]
  refine chain_heavy _ rfl (fun K hK => ?_)
  refine (if_pos (by rfl)).mpr ?_
  go_wp2_with fail
  refine (rtag_any _ _ _ _ head data (by rw [← HH.out]; omega) (by rw [← HD.out]; omega) _ (hh1.kept (((hk0.of hw4).of hk5).of hk6)) (hd1.kept (((hk0.of hw4).of hk5).of hk6))).mono ?_
  rintro e w7 ⟨rfl, hk7⟩
  rw [← HY.out]
  replace hKe := hKe.kept hk7
  go_wp2
  refine hK _ _ (hk7) ?_
  clear hK K
  try simp only [Act.put, List.setIfInBounds_toArray, List.set_cons_zero, List.set_cons_succ]
  repeat
    refine chain_light _ rfl (fun K hK => ?_)
    first
      | (refine (if_pos (by rfl)).mpr ?_; apply Exists.intro; refine ⟨fun w' hw' => ?_, hK _ ?_⟩; (go_simp; done); (clear hK K; simp only [Act.put, List.setIfInBounds_toArray, List.set_cons_zero, List.set_cons_succ]))
      | (refine (if_pos (by rfl)).mpr ?_; apply Exists.intro; refine ⟨fun w' hw' => ?_, hK _ ?_⟩; (go_simp; rfl); (clear hK K; simp only [Act.put, List.setIfInBounds_toArray, List.set_cons_zero, List.set_cons_succ]))
      | (refine (if_neg (by rw [Bool.not_eq_true]; rfl)).mpr ?_; refine hK _ ?_; (clear hK K; simp only [Act.put, List.setIfInBounds_toArray, List.set_cons_zero, List.set_cons_succ]))
  refine chain_heavy _ rfl (fun K hK => ?_)
  refine (if_pos (by rfl)).mpr ?_
  go_wp2_with fail
  refine (known_any _).mono ?_
  rintro e w8 ⟨rfl, hk8⟩
  go_wp2
  refine hK _ _ (hk8) ?_
  clear hK K
  try simp only [Act.put, List.setIfInBounds_toArray, List.set_cons_zero, List.set_cons_succ]
  repeat
    refine chain_light _ rfl (fun K hK => ?_)
    first
      | (refine (if_pos (by rfl)).mpr ?_; apply Exists.intro; refine ⟨fun w' hw' => ?_, hK _ ?_⟩; (go_simp; done); (clear hK K; simp only [Act.put, List.setIfInBounds_toArray, List.set_cons_zero, List.set_cons_succ]))
      | (refine (if_pos (by rfl)).mpr ?_; apply Exists.intro; refine ⟨fun w' hw' => ?_, hK _ ?_⟩; (go_simp; rfl); (clear hK K; simp only [Act.put, List.setIfInBounds_toArray, List.set_cons_zero, List.set_cons_succ]))
      | (refine (if_neg (by rw [Bool.not_eq_true]; rfl)).mpr ?_; refine hK _ ?_; (clear hK K; simp only [Act.put, List.setIfInBounds_toArray, List.set_cons_zero, List.set_cons_succ]))
  refine chain_nil ?_
  go_wp2
  go_ret
  exact ⟨rfl, ((((hk0.of hw4).of hk5).of hk6).of hk7).of hk8⟩

set_option maxRecDepth 100000 in
set_option maxHeartbeats 8000000 in
theorem seals_long0 (k1 k2 : BitVec 64) (n : Nn) (vh vd : Value) (head data : List UInt8) (hl : 300 < head.length) (w : World) (hh : Sl w vh head.length (bcells head)) (hd : Sl w vd data.length (bcells data)) : Calls Try.prog 3 #[.agg #[U k1, U k2], n.val, vh, vd] w fun e w' => e = .returned (.bool true) ∧ Kept w w' := by
  obtain ⟨ha, hc, hv⟩ := hh.len
  subst hv
  obtain ⟨da, dc, hv⟩ := hd.len
  subst hv
  have i0 : (300 : Int) < (head.length : Int) := by omega
  clear hl hh hd
  unfold Nn.val
  go_enter Try.func3, Try.ntmps3
  go_wp2
  go_ret
  exact ⟨rfl, (((Below.refl _ _).alloc (Nat.le_refl _) _).alloc (by simp) _)⟩

set_option maxRecDepth 100000 in
set_option maxHeartbeats 8000000 in
theorem seals_long1 (k1 k2 : BitVec 64) (n : Nn) (vh vd : Value) (head data : List UInt8) (hl : head.length ≤ 300) (dl : 300 < data.length) (w : World) (hh : Sl w vh head.length (bcells head)) (hd : Sl w vd data.length (bcells data)) : Calls Try.prog 3 #[.agg #[U k1, U k2], n.val, vh, vd] w fun e w' => e = .returned (.bool true) ∧ Kept w w' := by
  obtain ⟨ha, hc, hv⟩ := hh.len
  subst hv
  obtain ⟨da, dc, hv⟩ := hd.len
  subst hv
  have i0 : (head.length : Int) ≤ 300 := by omega
  have i1 : (300 : Int) < (data.length : Int) := by omega
  clear hl dl hh hd
  unfold Nn.val
  go_enter Try.func3, Try.ntmps3
  go_wp2
  go_ret
  exact ⟨rfl, (((Below.refl _ _).alloc (Nat.le_refl _) _).alloc (by simp) _)⟩

theorem seals_walk (k1 k2 : BitVec 64) (n : Nn) (vh vd : Value) (head data : List UInt8) (w : World) (hh : Sl w vh head.length (bcells head)) (hd : Sl w vd data.length (bcells data)) : Calls Try.prog 3 #[.agg #[U k1, U k2], n.val, vh, vd] w fun e w' => e = .returned (.bool true) ∧ Kept w w' := by
  by_cases h1 : 300 < head.length
  · exact seals_long0 k1 k2 n vh vd head data h1 w hh hd
  by_cases h2 : 300 < data.length
  · exact seals_long1 k1 k2 n vh vd head data (by omega) h2 w hh hd
  · exact seals_in k1 k2 n vh vd head data (by omega) (by omega) w hh hd

namespace gcmSealsRow
open Go.ChangeShapes Go.WideShapes Go.ChangeAt Go.RowKit
theorem own : ownKnob Try.prog.godebug = none := by kernel_rfl
theorem laidOut : laidOutB Try.prog = true := by kernel_rfl

set_option maxRecDepth 100000 in
theorem lifted (os : Os) (started : os.Started) (H : Type) (enc : TypeId × Value → H) :
    ReturnsInHanded {} Try.checked os 3 .any (Rows.gcmSealsSpec.pre6 enc Try.prog Try.f3 Rows.gcmSealsRow.domain false) (Rows.gcmSealsSpec.post enc Try.prog Try.f3 false true false false) := by
  refine returnsInHanded_of_change (C := Try.checked) own started (by kernel_rfl) Try.func3
    (ChangeSpec.witness6 (enc := enc) (C := Try.checked) false ⟨#[], #[.agg #[.int .u64 0, .int .u64 0], .agg #[.int .u32 0, .int .u32 0, .int .u64 0], .slice none 0 0, .slice none 0 0], []⟩ 8 (by kernel_rfl) (by kernel_rfl) (by kernel_rfl) (by kernel_rfl)) ?_
  intro W base args ds gs before hval0 hW _ hsz
  have hval : ∀ (j : Nat) t v, Try.f3.params[j]? = some t → args[j]? = some v → Value.okWide Try.prog W .any base t v := hval0
  have hW' := hW
  obtain ⟨p, q, hA0, hV, rfl, hfz, hnd⟩ := hW
  have hA : DataW.TrodAll enc Try.prog W 0 (fun _ => true) true Try.f3.params.toList args.toList ds p := hA0
  rw [Try.params3] at hA hval
  obtain ⟨v0, vs0, d0, ds0, p0, q0, hargs, rfl, rfl, h0, r0⟩ := trodAll_cons hA
  obtain ⟨v1, vs1, d1, ds1, p1, q1, rfl, rfl, rfl, h1, r1⟩ := trodAll_cons r0
  obtain ⟨v2, vs2, d2, ds2, p2, q2, rfl, rfl, rfl, h2, r2⟩ := trodAll_cons r1
  obtain ⟨v3, vs3, d3, ds3, p3, q3, rfl, rfl, rfl, h3, r3⟩ := trodAll_cons r2
  obtain ⟨rfl, rfl, rfl⟩ := trodAll_nil r3
  obtain rfl : args = #[v0, v1, v2, v3] := by cases args; simp_all
  obtain ⟨a0, rfl⟩ := open_pair (e := 22) Try.underlying24 Try.underlying22 (by kernel_rfl) (by kernel_rfl) (hval 0 24 v0 rfl rfl) h0
  obtain ⟨a1, rfl⟩ := open_nonce (H := H) (hval 1 27 v1 rfl rfl) h1
  obtain ⟨a2b, a2⟩ := open_bytes (e := 5) Try.underlying28 Try.underlying5 (by kernel_rfl) (hval 2 28 v2 rfl rfl) h2
  obtain ⟨a3b, a3⟩ := open_bytes (e := 5) Try.underlying28 Try.underlying5 (by kernel_rfl) (hval 3 28 v3 rfl rfl) h3
  refine (seals_walk a0.1 a0.2 a1 v2 v3 a2b a3b W a2 a3).mono fun e W' ⟨he, bel⟩ => ?_
  subst he
  exact ⟨_, rfl, law_post (tb := 4) laidOut (by kernel_rfl) Try.underlying4 (by rfl) rfl (by intro xs hxs; match xs, hxs with | [x0, x1, x2, x3], _ => rfl) hW' bel⟩

theorem over : Rows.gcmSealsRow.holds Try.pinned (OpenSpec.ofChange Rows.gcmSealsSpec) :=
  OpenClaim.holds_of_wide 3 Try.f3 rfl rfl rfl rfl rfl rfl rfl ⟨rfl, rfl, rfl, rfl, rfl⟩ rfl rfl rfl rfl rfl (by kernel_rfl) Try.func3 (by kernel_rfl)
    (of_decide_eq_true (by kernel_rfl)) (by unfold Func.isWrapper; rw [if_neg (of_decide_eq_false (by kernel_rfl))]; exact ⟨rfl, rfl⟩)
    (fun os started H enc _ => lifted os started H enc)
end gcmSealsRow

theorem gcmSeals_holds : Rows.GcmSealsSaid := gcmSealsRow.over
#print axioms gcmSeals_holds

end Go.Proofs.Ytlbogmpfjkendaa
