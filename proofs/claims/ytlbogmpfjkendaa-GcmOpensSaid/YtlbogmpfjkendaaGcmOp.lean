/- GcmOpens: anything is opened, or refused, just as the document has it. -/
import Derived.Test.YtlbogmpfjkendaaGcmK
import Derived.Test.YtlbogmpfjkendaaRows
namespace Go.Proofs.Ytlbogmpfjkendaa
open Go Go.RowKit

set_option maxRecDepth 100000 in
set_option maxHeartbeats 8000000 in
theorem opens_in (k1 k2 : BitVec 64) (n : Nn) (vh vd : Value) (head data : List UInt8) (t1 t2 : BitVec 64) (hl : head.length ≤ 300) (dl : data.length ≤ 300) (w : World) (hh : Sl w vh head.length (bcells head)) (hd : Sl w vd data.length (bcells data)) : Calls Try.prog 5 #[.agg #[U k1, U k2], n.val, vh, .agg #[vd, U t1, U t2]] w fun e w' => e = .returned (.bool true) ∧ Kept w w' := by
  obtain ⟨ha, hc, hv⟩ := hh.len
  subst hv
  obtain ⟨da, dc, hv⟩ := hd.len
  subst hv
  obtain ⟨H, hH⟩ : ∃ H, H = head.length := ⟨_, rfl⟩
  obtain ⟨D, hD⟩ : ∃ D, D = data.length := ⟨_, rfl⟩
  have hh1 : Sl w (.slice ha H hc) head.length (bcells head) := by rw [hH]; exact hh
  have hd1 : Sl w (.slice da D dc) data.length (bcells data) := by rw [hD]; exact hd
  rw [← hH] at hl ⊢
  rw [← hD] at dl ⊢
  have HH := Lib.hid hH
  have HD := Lib.hid hD
  clear hh hd hH hD
  have i0 : (H : Int) ≤ 300 := by omega
  have i1 : (D : Int) ≤ 300 := by omega
  unfold Nn.val
  have hk0 : Kept w (((w.alloc (.cells #[U k1, U k2] 24)).alloc (.cells #[W n.epoch, W n.slot, U n.version] 27)).alloc (.cells #[.slice da D dc, U t1, U t2] 30)) := (((Below.refl _ _).alloc (Nat.le_refl _) _).alloc (by simp) _).alloc (by simp; omega) _
  have hKe : Blk (((w.alloc (.cells #[U k1, U k2] 24)).alloc (.cells #[W n.epoch, W n.slot, U n.version] 27)).alloc (.cells #[.slice da D dc, U t1, U t2] 30)) w.heap.size #[U k1, U k2] 24 := ((Blk.new _ _ _).alloc _).alloc _
  have hN : Blk (((w.alloc (.cells #[U k1, U k2] 24)).alloc (.cells #[W n.epoch, W n.slot, U n.version] 27)).alloc (.cells #[.slice da D dc, U t1, U t2] 30)) (w.heap.size + 1) #[W n.epoch, W n.slot, U n.version] 27 := Blk.alloc (by simpa using Blk.new (w.alloc (.cells #[U k1, U k2] 24)) #[W n.epoch, W n.slot, U n.version] 27) _
  have hX : Blk (((w.alloc (.cells #[U k1, U k2] 24)).alloc (.cells #[W n.epoch, W n.slot, U n.version] 27)).alloc (.cells #[.slice da D dc, U t1, U t2] 30)) (w.heap.size + 2) #[.slice da D dc, U t1, U t2] 30 := by simpa using Blk.new ((w.alloc (.cells #[U k1, U k2] 24)).alloc (.cells #[W n.epoch, W n.slot, U n.version] 27)) #[.slice da D dc, U t1, U t2] 30
  have q0 := hKe.cell 0
  have q1 := hKe.cell 1
  have n0 := hN.cell 0
  have n1 := hN.cell 1
  have n2 := hN.cell 2
  have x0 := hX.cell 0
  have x1 := hX.cell 1
  have x2 := hX.cell 2
  go_enter Try.func5, Try.ntmps5
  go_wp2_with fail
  generalize (((w.alloc (.cells #[U k1, U k2] 24)).alloc (.cells #[W n.epoch, W n.slot, U n.version] 27)).alloc (.cells #[.slice da D dc, U t1, U t2] 30)) = w0 at *
  refine (open_any k1 k2 n _ _ head data t1 t2 (by rw [← HH.out]; omega) (by rw [← HD.out]; omega) _ (hh1.kept hk0) (hd1.kept hk0)).mono ?_
  rintro e w1 ⟨y1, rfl, s1, hk1⟩
  obtain ⟨ok, hok⟩ : ∃ ok, ok = openK (k1, k2) n head data (t1, t2) := ⟨_, rfl⟩
  obtain ⟨B, hB⟩ : ∃ B, B = openB (k1, k2) n head data (t1, t2) := ⟨_, rfl⟩
  rw [← hok]
  rw [← hB] at s1
  have HOK := Lib.hid hok
  have HB := Lib.hid hB
  clear hok hB
  replace hKe := hKe.kept hk1
  replace hN := hN.kept hk1
  replace hX := hX.kept hk1
  replace hk0 := Kept.of hk0 hk1
  clear hk1
  clear q0 q1 n0 n1 n2
  clear x0 x1 x2
  have q0 := hKe.cell 0
  have q1 := hKe.cell 1
  have n0 := hN.cell 0
  have n1 := hN.cell 1
  have n2 := hN.cell 2
  have x0 := hX.cell 0
  have x1 := hX.cell 1
  have x2 := hX.cell 2
  go_wp2_with fail
  refine (ropen_any k1 k2 n _ _ head data t1 t2 (by rw [← HH.out]; omega) (by rw [← HD.out]; omega) _ (hh1.kept hk0) (hd1.kept hk0)).mono ?_
  rintro e w2 ⟨y2, rfl, s2, hk2⟩
  rw [← HOK.out]
  rw [← HB.out] at s2
  replace s1 := s1.kept hk2
  replace hKe := hKe.kept hk2
  replace hN := hN.kept hk2
  replace hX := hX.kept hk2
  replace hk0 := Kept.of hk0 hk2
  clear hk2
  clear q0 q1 n0 n1 n2
  clear x0 x1 x2
  have q0 := hKe.cell 0
  have q1 := hKe.cell 1
  have n0 := hN.cell 0
  have n1 := hN.cell 1
  have n2 := hN.cell 2
  have x0 := hX.cell 0
  have x1 := hX.cell 1
  have x2 := hX.cell 2
  have c1 := str_of s1
  have c2 := str_of s2
  clear s1 s2
  go_wp2_with fail
  refine (known_any _).mono ?_
  rintro e w9 ⟨rfl, hk9⟩
  go_wp2
  go_ret
  exact ⟨rfl, hk0.of hk9⟩

set_option maxRecDepth 100000 in
set_option maxHeartbeats 8000000 in
theorem opens_long0 (k1 k2 : BitVec 64) (n : Nn) (vh vd : Value) (head data : List UInt8) (t1 t2 : BitVec 64) (hl : 300 < head.length) (w : World) (hh : Sl w vh head.length (bcells head)) (hd : Sl w vd data.length (bcells data)) : Calls Try.prog 5 #[.agg #[U k1, U k2], n.val, vh, .agg #[vd, U t1, U t2]] w fun e w' => e = .returned (.bool true) ∧ Kept w w' := by
  obtain ⟨ha, hc, hv⟩ := hh.len
  subst hv
  obtain ⟨da, dc, hv⟩ := hd.len
  subst hv
  have i0 : (300 : Int) < (head.length : Int) := by omega
  clear hl hh hd
  unfold Nn.val
  go_enter Try.func5, Try.ntmps5
  go_wp2
  go_ret
  exact ⟨rfl, (((Below.refl _ _).alloc (Nat.le_refl _) _).alloc (by simp) _).alloc (by simp; omega) _⟩

set_option maxRecDepth 100000 in
set_option maxHeartbeats 8000000 in
theorem opens_long1 (k1 k2 : BitVec 64) (n : Nn) (vh vd : Value) (head data : List UInt8) (t1 t2 : BitVec 64) (hl : head.length ≤ 300) (dl : 300 < data.length) (w : World) (hh : Sl w vh head.length (bcells head)) (hd : Sl w vd data.length (bcells data)) : Calls Try.prog 5 #[.agg #[U k1, U k2], n.val, vh, .agg #[vd, U t1, U t2]] w fun e w' => e = .returned (.bool true) ∧ Kept w w' := by
  obtain ⟨ha, hc, hv⟩ := hh.len
  subst hv
  obtain ⟨da, dc, hv⟩ := hd.len
  subst hv
  have i0 : (head.length : Int) ≤ 300 := by omega
  have i1 : (300 : Int) < (data.length : Int) := by omega
  clear hl dl hh hd
  unfold Nn.val
  go_enter Try.func5, Try.ntmps5
  go_wp2
  go_ret
  exact ⟨rfl, (((Below.refl _ _).alloc (Nat.le_refl _) _).alloc (by simp) _).alloc (by simp; omega) _⟩

theorem opens_walk (k1 k2 : BitVec 64) (n : Nn) (vh vd : Value) (head data : List UInt8) (t1 t2 : BitVec 64) (w : World) (hh : Sl w vh head.length (bcells head)) (hd : Sl w vd data.length (bcells data)) : Calls Try.prog 5 #[.agg #[U k1, U k2], n.val, vh, .agg #[vd, U t1, U t2]] w fun e w' => e = .returned (.bool true) ∧ Kept w w' := by
  by_cases h1 : 300 < head.length
  · exact opens_long0 k1 k2 n vh vd head data t1 t2 h1 w hh hd
  by_cases h2 : 300 < data.length
  · exact opens_long1 k1 k2 n vh vd head data t1 t2 (by omega) h2 w hh hd
  · exact opens_in k1 k2 n vh vd head data t1 t2 (by omega) (by omega) w hh hd

namespace gcmOpensRow
open Go.ChangeShapes Go.WideShapes Go.ChangeAt Go.RowKit
theorem own : ownKnob Try.prog.godebug = none := by kernel_rfl
theorem laidOut : laidOutB Try.prog = true := by kernel_rfl

set_option maxRecDepth 100000 in
theorem lifted (os : Os) (started : os.Started) (H : Type) (enc : TypeId × Value → H) :
    ReturnsInHanded {} Try.checked os 5 .any (Rows.gcmOpensSpec.pre6 enc Try.prog Try.f5 Rows.gcmOpensRow.domain false) (Rows.gcmOpensSpec.post enc Try.prog Try.f5 false true false false) := by
  refine returnsInHanded_of_change (C := Try.checked) own started (by kernel_rfl) Try.func5
    (ChangeSpec.witness6 (enc := enc) (C := Try.checked) false ⟨#[], #[.agg #[.int .u64 0, .int .u64 0], .agg #[.int .u32 0, .int .u32 0, .int .u64 0], .slice none 0 0, .agg #[.slice none 0 0, .int .u64 0, .int .u64 0]], []⟩ 8 (by kernel_rfl) (by kernel_rfl) (by kernel_rfl) (by kernel_rfl)) ?_
  intro W base args ds gs before hval0 hW _ hsz
  have hval : ∀ (j : Nat) t v, Try.f5.params[j]? = some t → args[j]? = some v → Value.okWide Try.prog W .any base t v := hval0
  have hW' := hW
  obtain ⟨p, q, hA0, hV, rfl, hfz, hnd⟩ := hW
  have hA : DataW.TrodAll enc Try.prog W 0 (fun _ => true) true Try.f5.params.toList args.toList ds p := hA0
  rw [Try.params5] at hA hval
  obtain ⟨v0, vs0, d0, ds0, p0, q0, hargs, rfl, rfl, h0, r0⟩ := trodAll_cons hA
  obtain ⟨v1, vs1, d1, ds1, p1, q1, rfl, rfl, rfl, h1, r1⟩ := trodAll_cons r0
  obtain ⟨v2, vs2, d2, ds2, p2, q2, rfl, rfl, rfl, h2, r2⟩ := trodAll_cons r1
  obtain ⟨v3, vs3, d3, ds3, p3, q3, rfl, rfl, rfl, h3, r3⟩ := trodAll_cons r2
  obtain ⟨rfl, rfl, rfl⟩ := trodAll_nil r3
  obtain rfl : args = #[v0, v1, v2, v3] := by cases args; simp_all
  obtain ⟨a0, rfl⟩ := open_pair (e := 22) Try.underlying24 Try.underlying22 (by kernel_rfl) (by kernel_rfl) (hval 0 24 v0 rfl rfl) h0
  obtain ⟨a1, rfl⟩ := open_nonce (H := H) (hval 1 27 v1 rfl rfl) h1
  obtain ⟨a2b, a2⟩ := open_bytes (e := 5) Try.underlying28 Try.underlying5 (by kernel_rfl) (hval 2 28 v2 rfl rfl) h2
  obtain ⟨u3, b3, t3, rfl, s3⟩ := open_sealed (H := H) (hval 3 30 v3 rfl rfl) h3
  refine (opens_walk a0.1 a0.2 a1 v2 u3 a2b b3 t3.1 t3.2 W a2 s3).mono fun e W' ⟨he, bel⟩ => ?_
  subst he
  exact ⟨_, rfl, law_post (tb := 4) laidOut (by kernel_rfl) Try.underlying4 (by rfl) rfl (by intro xs hxs; match xs, hxs with | [x0, x1, x2, x3], _ => rfl) hW' bel⟩

theorem over : Rows.gcmOpensRow.holds Try.pinned (OpenSpec.ofChange Rows.gcmOpensSpec) :=
  OpenClaim.holds_of_wide 5 Try.f5 rfl rfl rfl rfl rfl rfl rfl ⟨rfl, rfl, rfl, rfl, rfl⟩ rfl rfl rfl rfl rfl (by kernel_rfl) Try.func5 (by kernel_rfl)
    (of_decide_eq_true (by kernel_rfl)) (by unfold Func.isWrapper; rw [if_neg (of_decide_eq_false (by kernel_rfl))]; exact ⟨rfl, rfl⟩)
    (fun os started H enc _ => lifted os started H enc)
end gcmOpensRow

theorem gcmOpens_holds : Rows.GcmOpensSaid := gcmOpensRow.over
#print axioms gcmOpens_holds

end Go.Proofs.Ytlbogmpfjkendaa
