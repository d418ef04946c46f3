/- DiskRefuses: while it refuses nothing is written, no step is spent. -/
import Derived.Test.YtpbdncnepcibaaaDiskM
import Derived.Test.YtpbdncnepcibaaaActs
import Derived.Test.YtpbdncnepcibaaaRows
namespace Go.Proofs.Ytpbdncnepcibaaa
open Go Go.RowKit

set_option maxRecDepth 100000 in
set_option maxHeartbeats 4000000 in
theorem refuses_walk (off : Int) (vb : Value) (a : List UInt8) (w : World) (hb : Sl w vb a.length (bcells a)) : Calls Try.prog 5 #[.int .i64 off, vb] w fun e w' => e = .returned (.bool true) ∧ Kept w w' := by
  have lb := hb.low
  by_cases hout : ¬ (0 ≤ off ∧ off < 32 ∧ a.length ≤ 32)
  · obtain ⟨ba, bc, hv⟩ := hb.len
    subst hv
    generalize a.length = B at *
    clear hb lb
    by_cases h1 : off < 0
    · clear hout
      go_enter Try.func5, Try.ntmps5
      go_wp2
      go_ret
      exact ⟨rfl, Below.refl _ _⟩
    by_cases h2 : 32 ≤ off
    · clear hout
      go_enter Try.func5, Try.ntmps5
      go_wp2
      go_ret
      exact ⟨rfl, Below.refl _ _⟩
    have h3 : 32 < (B : Int) := by omega
    clear hout
    go_enter Try.func5, Try.ntmps5
    go_wp2
    go_ret
    exact ⟨rfl, Below.refl _ _⟩
  have ⟨o0, o1, o2⟩ := Decidable.not_not.1 hout
  obtain ⟨o, rfl⟩ : ∃ o : Nat, off = o := ⟨off.toNat, by omega⟩
  obtain ⟨ba, bc, hv⟩ := hb.len
  subst hv
  have q0 : ¬ (o : Int) < 0 := by omega
  have q1 : ¬ 32 ≤ (o : Int) := by omega
  have q2 : ¬ 32 < (a.length : Int) := by omega
  have ho : o < 32 := by omega
  have HPL := Lib.hid (padB_length a)
  clear hout
  have hmk : ∀ w : World, ∃ Z : List UInt8, (Instr.makeSlice 22 (.int .i64 32) (.int .i64 32)).run Try.prog w = .ok (.slice (some ⟨w.heap.size, 0, none⟩) 32 32) (w.alloc (.cells (bcells Z).toArray 5)) := fun w => ⟨List.replicate 32 0, run_make_b (P := Try.prog) w sl_bytes .i64 .i64 32 (by omega)⟩
  go_enter Try.func5, Try.ntmps5
  go_wp2_with fail
  refine (power_new _).mono ?_
  rintro e w1 ⟨rfl, p1, hk1, hz1⟩
  go_wp2_with fail
  refine (disk_new w.heap.size Pw.new (fun k => k < w.heap.size) _ (fun k hk => by omega) (by simp) p1).mono ?_
  rintro e w2 ⟨J, rfl, S2, hk2⟩
  have S2 : DkAt _ w2 J w.heap.size Dk.fresh := S2
  have k2 := Kept.of hk1 hk2
  have hb2 := hb.kept k2
  clear hk1 hk2 hz1 p1
  go_wp2_with fail
  refine (disk_refuse _ J _ _ 0 _ S2 Dk.fresh_ok true).mono ?_
  rintro e w3 ⟨rfl, S3, hs3⟩
  have ok3 : ({ Dk.fresh with no := true } : Dk).ok 0 := ⟨Dk.fresh_ok.len, Dk.fresh_ok.all, Dk.fresh_ok.fit, Dk.fresh_ok.fitp, Dk.fresh_ok.few, Dk.fresh_ok.done, Dk.fresh_ok.pw⟩
  have b3 : Below w.heap.size w w3 := k2.trans (hs3.below (fun k hk => hk) k2.size)
  have hb3 := hb.kept b3
  clear S2 hs3 hb2 k2
  go_wp2_with fail
  refine (block_even _ a _ hb3).mono ?_
  rintro e w4 ⟨g4, rfl, ho4, hk4⟩
  have S4 := S3.kept hk4
  go_wp2_with fail
  refine (disk_write_ref _ J _ _ 0 _ S4 ok3 o _ 32 32 (by omega) (isD_nat o ho) rfl rfl).mono ?_
  rintro e w5 ⟨rfl, rfl⟩
  have b4 := b3.trans (hk4.mono b3.size)
  have hz4 := b4.size
  clear S3 ho4 hb3 hk4 b3
  go_wp2_with fail
  refine (power_steps w.heap.size Pw.new _ S4.pw).mono ?_
  rintro e w5 ⟨rfl, rfl⟩
  go_wp2_with fail
  refine (disk_refuse _ J _ _ 0 _ S4 ok3 false).mono ?_
  rintro e w5 ⟨rfl, S5, hs5⟩
  have S5 : DkAt _ w5 J w.heap.size Dk.fresh := S5
  have b5 : Below w.heap.size w w5 := b4.trans (hs5.below (fun k hk => hk) b4.size)
  have hb5 := hb.kept b5
  have hz5 := b5.size
  clear S4 hs5 b4
  go_wp2_with fail
  refine (block_even _ a _ hb5).mono ?_
  rintro e w6 ⟨g6, rfl, ho6, hk6⟩
  have hg6 := own_geV ho6 rfl
  have S6 := S5.more (A' := fun k => k < w.heap.size ∨ k = g6) hk6 (fun k hk => by rcases hk with h | rfl; exact .inl h; exact .inr hg6) (fun k hk => by rcases hk with h | rfl; exact Nat.lt_of_lt_of_le h (Nat.le_trans hz5 hk6.size); exact own_ltV ho6 rfl)
  go_wp2_with fail
  refine (disk_write _ J _ Dk.fresh 0 (by omega) _ S6 Dk.fresh_ok rfl o _ (padB a) (isD_nat o ho) HPL.out (by rw [HPL.out]; exact Sl.of_own ho6) (fun x y e _ => by obtain ⟨e, _, _⟩ := Value.slice.inj e; cases e; exact .inr rfl) true (Pw.nf 1) (nf_spend 0)).mono ?_
  rintro e w7 ⟨rfl, S7, hs7⟩
  have ok7 : (Dk.fresh.wrote true (Pw.nf 1) ((o : Int), padB a)).ok 1 := wrote_ok Dk.fresh_ok ⟨by simp, by simpa using ho, HPL.out⟩ (nf_okm 1 1 (by omega))
  have b7 : Below w.heap.size w w7 := (b5.trans (hk6.mono b5.size)).trans (hs7.below (fun k hk => .inl hk) (Nat.le_trans hz5 hk6.size))
  have hpw : PwAt w7 w.heap.size (Pw.nf 1) := S7.pw
  have htl : (Dk.fresh.wrote true (Pw.nf 1) ((o : Int), padB a)).trace.length = 1 := rfl
  generalize (Dk.fresh.wrote true (Pw.nf 1) ((o : Int), padB a)) = d at *
  have HTL := Lib.hid htl
  clear S5 S6 ho6 hs7 hb5 b5 hk6 htl
  go_wp2_with fail
  refine (disk_read_nil 0 _).mono ?_
  rintro e w8 ⟨rfl, rfl⟩
  go_wp2_with fail
  refine (disk_refuse_nil true _).mono ?_
  rintro e w8 ⟨rfl, rfl⟩
  go_wp2_with fail
  refine (disk_crash_nil none 0 0 _).mono ?_
  rintro e w8 ⟨rfl, rfl⟩
  go_wp2_with fail
  refine (power_steps w.heap.size _ _ hpw).mono ?_
  rintro e w8 ⟨rfl, rfl⟩
  go_wp2_with fail
  refine (disk_trace _ J _ d 1 (by omega) _ S7 ok7).mono ?_
  rintro e w9 ⟨v9, us9, rfl, t9, hk9, _, _⟩
  obtain ⟨a9, c9, hve⟩ := t9.slice
  rw [HTL.out] at hve
  subst hve
  obtain ⟨Z, hm9⟩ := hmk w9
  have hka : Kept w9 (w9.alloc (.cells (bcells Z).toArray 5)) := (Below.refl _ _).alloc (Nat.le_refl _) _
  clear t9 hmk
  go_wp2_with fail
  refine (disk_write_nil 0 _ 32 32 _).mono ?_
  rintro e wa ⟨rfl, rfl⟩
  go_wp2_with fail
  refine (disk_barrier_nil _).mono ?_
  rintro e wa ⟨rfl, rfl⟩
  go_wp2_with fail
  refine (disk_trace_nil _).mono ?_
  rintro e wa ⟨rfl, rfl⟩
  go_wp2_with fail
  refine (disk_known _).mono ?_
  rintro e wd ⟨rfl, hkd⟩
  go_wp2
  go_ret
  exact ⟨rfl, b7.trans ((Kept.of (Kept.of hk9 hka) hkd).mono b7.size)⟩

namespace diskRefusesRow
open Go.ChangeShapes Go.WideShapes Go.ChangeAt Go.RowKit
theorem own : ownKnob Try.prog.godebug = none := by kernel_rfl
theorem laidOut : laidOutB Try.prog = true := by kernel_rfl

set_option maxRecDepth 100000 in
theorem lifted (os : Os) (started : os.Started) (H : Type) (enc : TypeId × Value → H) :
    ReturnsInHanded {} Try.checked os 5 .any (Rows.diskRefusesSpec.pre6 enc Try.prog Try.f5 Rows.diskRefusesRow.domain false) (Rows.diskRefusesSpec.post enc Try.prog Try.f5 false true false false) := by
  refine returnsInHanded_of_change (C := Try.checked) own started (by kernel_rfl) Try.func5
    (ChangeSpec.witness6 (enc := enc) (C := Try.checked) false ⟨#[], #[.int .i64 0, .slice none 0 0], []⟩ 8 (by kernel_rfl) (by kernel_rfl) (by kernel_rfl) (by kernel_rfl)) ?_
  intro W base args ds gs before hval0 hW _ hsz
  have hval : ∀ (j : Nat) t v, Try.f5.params[j]? = some t → args[j]? = some v → Value.okWide Try.prog W .any base t v := hval0
  have hW' := hW
  obtain ⟨p, q, hA0, hV, rfl, hfz, hnd⟩ := hW
  have hA : DataW.TrodAll enc Try.prog W 0 (fun _ => true) true Try.f5.params.toList args.toList ds p := hA0
  rw [Try.params5] at hA hval
  obtain ⟨v0, vs0, d0, ds0, p0, q0, hargs, rfl, rfl, h0, r0⟩ := trodAll_cons hA
  obtain ⟨v1, vs1, d1, ds1, p1, q1, rfl, rfl, rfl, h1, r1⟩ := trodAll_cons r0
  obtain ⟨rfl, rfl, rfl⟩ := trodAll_nil r1
  obtain rfl : args = #[v0, v1] := by cases args; simp_all
  obtain ⟨a0, rfl, lo0, hi0⟩ := open_I Try.underlying3 (hval 0 3 v0 rfl rfl) h0
  obtain ⟨a1b, a1⟩ := open_bytes (e := 5) Try.underlying22 Try.underlying5 (by kernel_rfl) (hval 1 22 v1 rfl rfl) h1
  refine (refuses_walk a0 _ _ W a1).mono fun e W' ⟨he, bel⟩ => ?_
  subst he
  exact ⟨_, rfl, law_post (tb := 4) laidOut (by kernel_rfl) Try.underlying4 (by rfl) rfl (by intro xs hxs; match xs, hxs with | [x0, x1], _ => rfl) hW' bel⟩

theorem over : Rows.diskRefusesRow.holds Try.pinned (OpenSpec.ofChange Rows.diskRefusesSpec) :=
  OpenClaim.holds_of_wide 5 Try.f5 rfl rfl rfl rfl rfl rfl rfl ⟨rfl, rfl, rfl, rfl, rfl⟩ rfl rfl rfl rfl rfl (by kernel_rfl) Try.func5 (by kernel_rfl)
    (of_decide_eq_true (by kernel_rfl)) (by unfold Func.isWrapper; rw [if_neg (of_decide_eq_false (by kernel_rfl))]; exact ⟨rfl, rfl⟩)
    (fun os started H enc _ => lifted os started H enc)
end diskRefusesRow

theorem diskRefuses_holds : Rows.DiskRefusesSaid := diskRefusesRow.over
#print axioms diskRefuses_holds

end Go.Proofs.Ytpbdncnepcibaaa
