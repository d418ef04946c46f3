/- DiskApart: a block that is written is that one alone. -/
import Derived.Test.YtpbdncnepcibaaaDiskM
import Derived.Test.YtpbdncnepcibaaaActs
import Derived.Test.YtpbdncnepcibaaaRows
namespace Go.Proofs.Ytpbdncnepcibaaa
open Go Go.RowKit

set_option maxRecDepth 100000 in
set_option maxHeartbeats 4000000 in
theorem apart_walk (off : Int) (vb : Value) (a : List UInt8) (w : World) (hb : Sl w vb a.length (bcells a)) : Calls Try.prog 3 #[.int .i64 off, vb] w fun e w' => e = .returned (.bool true) ∧ Kept w w' := by
  have lb := hb.low
  by_cases hout : ¬ (0 ≤ off ∧ off < 32 ∧ a.length ≤ 32)
  · obtain ⟨ba, bc, hv⟩ := hb.len
    subst hv
    generalize a.length = B at *
    clear hb lb
    by_cases h1 : off < 0
    · clear hout
      go_enter Try.func3, Try.ntmps3
      go_wp2
      go_ret
      exact ⟨rfl, Below.refl _ _⟩
    by_cases h2 : 32 ≤ off
    · clear hout
      go_enter Try.func3, Try.ntmps3
      go_wp2
      go_ret
      exact ⟨rfl, Below.refl _ _⟩
    have h3 : 32 < (B : Int) := by omega
    clear hout
    go_enter Try.func3, Try.ntmps3
    go_wp2
    go_ret
    exact ⟨rfl, Below.refl _ _⟩
  have ⟨o0, o1, o2⟩ := Decidable.not_not.1 hout
  obtain ⟨o, rfl⟩ : ∃ o : Nat, off = o := ⟨off.toNat, by omega⟩
  obtain ⟨ba, bc, hv⟩ := hb.len
  subst hv
  have q0 : ¬ (o : Int) < 0 := by omega
  have q1 : ¬ 32 ≤ (o : Int) := by omega
  have q2 : ¬ 32 < (a.length : Int) := by omega
  have ho : o < 32 := by omega
  have HPL := Lib.hid (padB_length a)
  clear hout
  obtain ⟨Z, hZ⟩ : ∃ Z, Z = List.replicate 32 (0 : UInt8) := ⟨_, rfl⟩
  have hmk : ∀ w : World, (Instr.makeSlice 22 (.int .i64 32) (.int .i64 32)).run Try.prog w = .ok (.slice (some ⟨w.heap.size, 0, none⟩) 32 32) (w.alloc (.cells (bcells Z).toArray 5)) := fun w => by rw [hZ]; exact run_make_b (P := Try.prog) w sl_bytes .i64 .i64 32 (by omega)
  have hzl : Z.length = 32 := by rw [hZ]; simp
  have HZ := Lib.hid hZ
  have HZL := Lib.hid hzl
  clear hZ hzl
  go_enter Try.func3, Try.ntmps3
  go_wp2_with fail
  refine (power_new _).mono ?_
  rintro e w1 ⟨rfl, p1, hk1, hz1⟩
  go_wp2_with fail
  refine (disk_new w.heap.size Pw.new (fun k => k < w.heap.size) _ (fun k hk => by omega) (by simp) p1).mono ?_
  rintro e w2 ⟨J, rfl, S2, hk2⟩
  have S2 : DkAt _ w2 J w.heap.size Dk.fresh := S2
  have k2 := Kept.of hk1 hk2
  have hb2 := hb.kept k2
  clear hk1 hk2 hz1 p1
  go_wp2_with fail
  refine (block_even _ a _ hb2).mono ?_
  rintro e w3 ⟨g3, rfl, ho3, hk3⟩
  have hg3 := own_geV ho3 rfl
  have S3 := S2.more (A' := fun k => k < w.heap.size ∨ k = g3) hk3 (fun k hk => by rcases hk with h | rfl; exact .inl h; exact .inr hg3) (fun k hk => by rcases hk with h | rfl; exact Nat.lt_of_lt_of_le h (Nat.le_trans k2.size hk3.size); exact own_ltV ho3 rfl)
  go_wp2_with fail
  refine (disk_write _ J _ Dk.fresh 0 (by omega) _ S3 Dk.fresh_ok rfl o _ (padB a) (isD_nat o ho) HPL.out (by rw [HPL.out]; exact Sl.of_own ho3) (fun x y e _ => by obtain ⟨e, _, _⟩ := Value.slice.inj e; cases e; exact .inr rfl) true (Pw.nf 1) (nf_spend 0)).mono ?_
  rintro e w4 ⟨rfl, S4, hs4⟩
  have ok4 : (Dk.fresh.wrote true (Pw.nf 1) ((o : Int), padB a)).ok 1 := wrote_ok Dk.fresh_ok ⟨by simp, by simpa using ho, HPL.out⟩ (nf_okm 1 1 (by omega))
  have b4 : Below w.heap.size w w4 := (k2.trans (hk3.mono k2.size)).trans (hs4.below (fun k hk => .inl hk) (Nat.le_trans k2.size hk3.size))
  have hb4 := hb.kept b4
  have HR := Lib.hid (wrote_read Dk.fresh (Pw.nf 1) o (padB a))
  obtain ⟨d, hd⟩ : ∃ d, d = Dk.fresh.wrote true (Pw.nf 1) ((o : Int), padB a) := ⟨_, rfl⟩
  rw [← hd] at S4 ok4 HR
  have hgn : d.p.gone = false := by rw [hd]; rfl
  have HG := Lib.hid hgn
  clear S2 S3 ho3 hs4 hb2 k2 hk3 hd hgn
  go_wp2_with fail
  go_loopw [6, 7, 8, 9] (fun i _ _ _ wr => ∃ k : Nat, k ≤ 32 ∧ i = .int .i64 k ∧ Kept w4 wr) (fun i _ _ _ _ => 32 - (intOf i).toNat)
  case atStart => exact ⟨0, by omega, rfl, Below.refl _ _⟩
  case round =>
    obtain ⟨k, hk, rfl, hkr⟩ := hrel
    by_cases hlt : k < 32
    · have n1 : (k : Int) < 32 := by omega
      have n2 : (0 : Int) ≤ (k : Int) := by omega
      go_wp2_with fail
      refine (disk_read _ J _ d 1 (by omega) _ (S4.kept hkr) ok4 k hlt HG.out).mono ?_
      rintro e w5 ⟨v5, rfl, ho5, hk5⟩
      have hsl5 := Sl.of_own ho5
      have hb5 := ((hb4.kept hkr).kept hk5)
      have hk6 : Kept w5 (w5.alloc (.cells (bcells Z).toArray 5)) := (Below.refl _ _).alloc (Nat.le_refl _) _
      obtain ⟨a5, c5, hve⟩ := hsl5.len
      subst hve
      by_cases hko : (k : Int) = (o : Int)
      · have hrd : d.read k = padB a := by rw [HR.out, if_pos (by omega)]
        rw [hrd] at hsl5
        obtain rfl : k = o := by omega
        have HRD := Lib.hid hrd
        clear ho5 hrd
        go_wp2_with fail
        refine (block_even _ a _ (hb5.kept hk6)).mono ?_
        rintro e w7 ⟨g7, rfl, ho7, hk7⟩
        have s0 := str_of (bs := padB a) (by rw [HPL.out]; exact (hsl5.kept hk6).kept hk7)
        have s1 := str_of (bs := padB a) (by rw [HPL.out]; exact Sl.of_own ho7)
        go_wp2
        exact ⟨⟨k + 1, by omega, by go_num, Kept.of (Kept.of (Kept.of hkr hk5) hk6) hk7⟩, by simp [intOf]; omega⟩
      · have hrd : d.read k = Z := by rw [HR.out, if_neg (by omega), Dk.fresh_read k hlt, HZ.out]
        rw [hrd] at hsl5
        have HRD := Lib.hid hrd
        have s0 := str_of (bs := Z) (by rw [HZL.out]; exact hsl5.kept hk6)
        have s1 := str_of (bs := Z) (by rw [HZL.out]; exact Sl.of_own (own_made 32 (by decide) 5 Z HZL.out (Blk.new w5 _ _) (Nat.zero_le _)))
        clear ho5 hrd
        go_wp2
        exact ⟨⟨k + 1, by omega, by go_num, Kept.of (Kept.of hkr hk5) hk6⟩, by simp [intOf]; omega⟩
    · have hkk : k = 32 := by omega
      have HK := Lib.hid hkk
      clear hkk
      go_wp2_with fail
      refine (disk_known _).mono ?_
      rintro e w9 ⟨rfl, hk9⟩
      go_wp2
      go_ret
      have hkz := Kept.of hkr hk9
      exact ⟨rfl, b4.trans (hkz.mono b4.size)⟩

namespace diskApartRow
open Go.ChangeShapes Go.WideShapes Go.ChangeAt Go.RowKit
theorem own : ownKnob Try.prog.godebug = none := by kernel_rfl
theorem laidOut : laidOutB Try.prog = true := by kernel_rfl

set_option maxRecDepth 100000 in
theorem lifted (os : Os) (started : os.Started) (H : Type) (enc : TypeId × Value → H) :
    ReturnsInHanded {} Try.checked os 3 .any (Rows.diskApartSpec.pre6 enc Try.prog Try.f3 Rows.diskApartRow.domain false) (Rows.diskApartSpec.post enc Try.prog Try.f3 false true false false) := by
  refine returnsInHanded_of_change (C := Try.checked) own started (by kernel_rfl) Try.func3
    (ChangeSpec.witness6 (enc := enc) (C := Try.checked) false ⟨#[], #[.int .i64 0, .slice none 0 0], []⟩ 8 (by kernel_rfl) (by kernel_rfl) (by kernel_rfl) (by kernel_rfl)) ?_
  intro W base args ds gs before hval0 hW _ hsz
  have hval : ∀ (j : Nat) t v, Try.f3.params[j]? = some t → args[j]? = some v → Value.okWide Try.prog W .any base t v := hval0
  have hW' := hW
  obtain ⟨p, q, hA0, hV, rfl, hfz, hnd⟩ := hW
  have hA : DataW.TrodAll enc Try.prog W 0 (fun _ => true) true Try.f3.params.toList args.toList ds p := hA0
  rw [Try.params3] at hA hval
  obtain ⟨v0, vs0, d0, ds0, p0, q0, hargs, rfl, rfl, h0, r0⟩ := trodAll_cons hA
  obtain ⟨v1, vs1, d1, ds1, p1, q1, rfl, rfl, rfl, h1, r1⟩ := trodAll_cons r0
  obtain ⟨rfl, rfl, rfl⟩ := trodAll_nil r1
  obtain rfl : args = #[v0, v1] := by cases args; simp_all
  obtain ⟨a0, rfl, lo0, hi0⟩ := open_I Try.underlying3 (hval 0 3 v0 rfl rfl) h0
  obtain ⟨a1b, a1⟩ := open_bytes (e := 5) Try.underlying22 Try.underlying5 (by kernel_rfl) (hval 1 22 v1 rfl rfl) h1
  refine (apart_walk a0 _ _ W a1).mono fun e W' ⟨he, bel⟩ => ?_
  subst he
  exact ⟨_, rfl, law_post (tb := 4) laidOut (by kernel_rfl) Try.underlying4 (by rfl) rfl (by intro xs hxs; match xs, hxs with | [x0, x1], _ => rfl) hW' bel⟩

theorem over : Rows.diskApartRow.holds Try.pinned (OpenSpec.ofChange Rows.diskApartSpec) :=
  OpenClaim.holds_of_wide 3 Try.f3 rfl rfl rfl rfl rfl rfl rfl ⟨rfl, rfl, rfl, rfl, rfl⟩ rfl rfl rfl rfl rfl (by kernel_rfl) Try.func3 (by kernel_rfl)
    (of_decide_eq_true (by kernel_rfl)) (by unfold Func.isWrapper; rw [if_neg (of_decide_eq_false (by kernel_rfl))]; exact ⟨rfl, rfl⟩)
    (fun os started H enc _ => lifted os started H enc)
end diskApartRow

theorem diskApart_holds : Rows.DiskApartSaid := diskApartRow.over
#print axioms diskApart_holds

end Go.Proofs.Ytpbdncnepcibaaa
