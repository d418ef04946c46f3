/- DiskLasts: what a Barrier stands behind lasts; what waits lasts just if it is kept. -/
import Derived.Test.YtpbdncnepcibaaaDiskM
import Derived.Test.YtpbdncnepcibaaaActs
import Derived.Test.YtpbdncnepcibaaaRows
namespace Go.Proofs.Ytpbdncnepcibaaa
open Go Go.RowKit

def lastD (o : Nat) (x y : List UInt8) : Dk := ((Dk.fresh.wrote true (Pw.nf 1) ((o : Int), x)).barred true (Pw.nf 2)).wrote true (Pw.nf 3) ((o : Int), y)
theorem lastD_read (o : Nat) (ho : o < 32) (x y : List UInt8) (k : Bool) : ((lastD o x y).settled (isK [k])).read o = if k then y else x := by
  have h1 : ∀ (l : List (List UInt8)) (o : Nat), l.length = 32 → o < 32 → (l.set o x)[o]?.getD [] = x := fun l o hl ho => by rw [List.getElem?_set_self (by omega)]; rfl
  have hf : (Dk.fresh.lasts.set o x).length = 32 := by simp [Dk.fresh]
  cases k
  · show readD ((Dk.fresh.lasts.set o x)[o]?.getD []) [] o 0 = x
    rw [readD, h1 _ _ (by simp [Dk.fresh]) ho]
  · show readD (((Dk.fresh.lasts.set o x).set o y)[o]?.getD []) [] o 0 = y
    rw [readD, List.getElem?_set_self (by omega)]; rfl
set_option maxRecDepth 100000 in
set_option maxHeartbeats 4000000 in
theorem lasts_walk (off : Int) (va vb : Value) (a b : List UInt8) (k : Bool) (w : World) (hb : Sl w va a.length (bcells a)) (hc : Sl w vb b.length (bcells b)) : Calls Try.prog 4 #[.int .i64 off, va, vb, .bool k] w fun e w' => e = .returned (.bool true) ∧ Kept w w' := by
  have lb := hb.low
  have lc := hc.low
  by_cases hout : ¬ (0 ≤ off ∧ off < 32 ∧ a.length ≤ 32 ∧ b.length ≤ 32)
  · obtain ⟨ba, bc, hv⟩ := hb.len
    subst hv
    obtain ⟨ca, cc, hv⟩ := hc.len
    subst hv
    generalize a.length = B at *
    generalize b.length = C at *
    clear hb lb hc lc
    by_cases h1 : off < 0
    · clear hout
      go_enter Try.func4, Try.ntmps4
      go_wp2
      go_ret
      exact ⟨rfl, Below.refl _ _⟩
    by_cases h2 : 32 ≤ off
    · clear hout
      go_enter Try.func4, Try.ntmps4
      go_wp2
      go_ret
      exact ⟨rfl, Below.refl _ _⟩
    by_cases h3 : 32 < (B : Int)
    · clear hout
      go_enter Try.func4, Try.ntmps4
      go_wp2
      go_ret
      exact ⟨rfl, Below.refl _ _⟩
    have h4 : 32 < (C : Int) := by omega
    clear hout
    go_enter Try.func4, Try.ntmps4
    go_wp2
    go_ret
    exact ⟨rfl, Below.refl _ _⟩
  have ⟨o0, o1, o2, o3⟩ := Decidable.not_not.1 hout
  obtain ⟨o, rfl⟩ : ∃ o : Nat, off = o := ⟨off.toNat, by omega⟩
  obtain ⟨ba, bc, hv⟩ := hb.len
  subst hv
  obtain ⟨ca, cc, hv⟩ := hc.len
  subst hv
  have q0 : ¬ (o : Int) < 0 := by omega
  have q1 : ¬ 32 ≤ (o : Int) := by omega
  have q2 : ¬ 32 < (a.length : Int) := by omega
  have q3 : ¬ 32 < (b.length : Int) := by omega
  have ho : o < 32 := by omega
  have HPL := Lib.hid (padB_length a)
  have HPM := Lib.hid (padB_length b)
  clear hout
  go_enter Try.func4, Try.ntmps4
  go_wp2_with fail
  refine (power_new _).mono ?_
  rintro e w1 ⟨rfl, p1, hk1, hz1⟩
  go_wp2_with fail
  refine (disk_new w.heap.size Pw.new (fun k => k < w.heap.size) _ (fun k hk => by omega) (by simp) p1).mono ?_
  rintro e w2 ⟨J, rfl, S2, hk2⟩
  have S2 : DkAt _ w2 J w.heap.size Dk.fresh := S2
  have k2 := Kept.of hk1 hk2
  have hb2 := hb.kept k2
  clear hk1 hk2 hz1 p1
  go_wp2_with fail
  refine (block_even _ a _ hb2).mono ?_
  rintro e w3 ⟨g3, rfl, ho3, hk3⟩
  have hg3 := own_geV ho3 rfl
  have S3 := S2.more (A' := fun k => k < w.heap.size ∨ k = g3) hk3 (fun k hk => by rcases hk with h | rfl; exact .inl h; exact .inr hg3) (fun k hk => by rcases hk with h | rfl; exact Nat.lt_of_lt_of_le h (Nat.le_trans k2.size hk3.size); exact own_ltV ho3 rfl)
  go_wp2_with fail
  refine (disk_write _ J _ Dk.fresh 0 (by omega) _ S3 Dk.fresh_ok rfl o _ (padB a) (isD_nat o ho) HPL.out (by rw [HPL.out]; exact Sl.of_own ho3) (fun x y e _ => by obtain ⟨e, _, _⟩ := Value.slice.inj e; cases e; exact .inr rfl) true (Pw.nf 1) (nf_spend 0)).mono ?_
  rintro e w4 ⟨rfl, S4, hs4⟩
  have ok4 : (Dk.fresh.wrote true (Pw.nf 1) ((o : Int), padB a)).ok 1 := wrote_ok Dk.fresh_ok ⟨by simp, by simpa using ho, HPL.out⟩ (nf_okm 1 1 (by omega))
  have b4 : Below w.heap.size w w4 := (k2.trans (hk3.mono k2.size)).trans (hs4.below (fun k hk => .inl hk) (Nat.le_trans k2.size hk3.size))
  clear S2 S3 ho3 hs4 hb2 k2 hk3
  go_wp2_with fail
  refine (disk_barrier _ J _ _ 1 (by omega) _ S4 ok4 true (Pw.nf 2) (nf_spend 1)).mono ?_
  rintro e w5 ⟨rfl, S5, hs5⟩
  have ok5 := barred_ok ok4 (p' := Pw.nf 2) (nf_okm 2 2 (by omega))
  have b5 : Below w.heap.size w w5 := b4.trans (hs5.below (fun k hk => .inl hk) b4.size)
  have hc5 := hc.kept b5
  have hz5 := b5.size
  clear S4 hs5 b4
  go_wp2_with fail
  refine (block_even _ b _ hc5).mono ?_
  rintro e w6 ⟨g6, rfl, ho6, hk6⟩
  have hg6 := own_geV ho6 rfl
  have S6 := S5.more (A' := fun k => k < w.heap.size ∨ k = g6) hk6 (fun k hk => by rcases hk with h | rfl; exact .inl (.inl h); exact .inr hg6) (fun k hk => by rcases hk with h | rfl; exact Nat.lt_of_lt_of_le h (Nat.le_trans hz5 hk6.size); exact own_ltV ho6 rfl)
  go_wp2_with fail
  refine (disk_write _ J _ _ 2 (by omega) _ S6 ok5 rfl o _ (padB b) (isD_nat o ho) HPM.out (by rw [HPM.out]; exact Sl.of_own ho6) (fun x y e _ => by obtain ⟨e, _, _⟩ := Value.slice.inj e; cases e; exact .inr rfl) true (Pw.nf 3) (nf_spend 2)).mono ?_
  rintro e w7 ⟨rfl, S7, hs7⟩
  have ok7 := wrote_ok (x := ((o : Int), padB b)) (p' := Pw.nf 3) ok5 ⟨by simp, by simpa using ho, HPM.out⟩ (nf_okm 3 3 (by omega))
  have b7 : Below w.heap.size w w7 := (b5.trans (hk6.mono b5.size)).trans (hs7.below (fun k hk => .inl hk) (Nat.le_trans hz5 hk6.size))
  have HR := Lib.hid (lastD_read o ho (padB a) (padB b) k)
  obtain ⟨d, hd⟩ : ∃ d, d = lastD o (padB a) (padB b) := ⟨_, rfl⟩
  replace S7 : DkAt _ w7 J w.heap.size (lastD o (padB a) (padB b)) := S7
  replace ok7 : (lastD o (padB a) (padB b)).ok 3 := ok7
  rw [← hd] at S7 ok7 HR
  have hgn : (d.settled (isK [k])).p.gone = false := by rw [hd]; rfl
  have HG := Lib.hid hgn
  clear S5 S6 ho6 hs7 hc5 b5 hk6 hd hgn ok5 ok4
  have hz7 := b7.size
  have hk8 : Kept w7 (w7.alloc (.cells #[.bool k] 4)) := (Below.refl _ _).alloc (Nat.le_refl _) _
  have S8 := S7.more (A' := fun k => k < w.heap.size ∨ k = w7.heap.size) hk8 (fun k hk => by rcases hk with h | rfl; exact .inl (.inl h); exact .inr (Nat.le_refl _)) (fun k hk => by simp; rcases hk with h | rfl <;> omega)
  have sl8 : Sl (w7.alloc (.cells #[.bool k] 4)) (.slice (some ⟨w7.heap.size, 0, none⟩) 1 1) ([k] : List Bool).length (kcells [k]) := Sl.lit w7 #[.bool k] _ 1 (by decide)
  have b8 : Below w.heap.size w (w7.alloc (.cells #[.bool k] 4)) := b7.trans (hk8.mono b7.size)
  clear S7
  go_wp2_with fail
  refine (disk_crash _ J _ d 3 (by omega) _ S8 ok7 _ [k] (by simp) sl8 (fun x c e _ => by cases e; exact .inr rfl)).mono ?_
  rintro e w9 ⟨rfl, S9, hs9⟩
  have ok9 := Dk.settled_ok ok7 (isK [k])
  have b9 : Below w.heap.size w w9 := b8.trans (hs9.below (fun k hk => .inl hk) b8.size)
  clear S8 sl8 hs9 b8
  go_wp2_with fail
  refine (disk_read _ J _ _ 3 (by omega) _ S9 ok9 o ho HG.out).mono ?_
  rintro e wa ⟨v, rfl, hoa, hka⟩
  have hsl := Sl.of_own hoa
  obtain ⟨av, cv, hve⟩ := hsl.len
  subst hve
  rw [HR.out] at hsl
  have ba : Below w.heap.size w wa := b9.trans (hka.mono b9.size)
  have hba := hb.kept ba
  clear hoa S9 b9
  go_wp2_with fail
  refine (block_even _ a _ hba).mono ?_
  rintro e wb ⟨gb, rfl, hob, hkb⟩
  have slb := Sl.of_own hob
  have bb := ba.trans (hkb.mono ba.size)
  have hcb := hc.kept bb
  cases k
  · have s0 := str_of (bs := padB a) (by rw [HPL.out]; exact hsl.kept hkb)
    have s1 := str_of (bs := padB a) (by rw [HPL.out]; exact slb)
    go_wp2_with fail
    refine (disk_known _).mono ?_
    rintro e wc ⟨rfl, hkc⟩
    go_wp2
    go_ret
    exact ⟨rfl, bb.trans (hkc.mono bb.size)⟩
  · go_wp2_with fail
    refine (block_even _ b _ hcb).mono ?_
    rintro e wc ⟨gc, rfl, hoc, hkc⟩
    have s0 := str_of (bs := padB b) (by rw [HPM.out]; exact (hsl.kept hkb).kept hkc)
    have s1 := str_of (bs := padB b) (by rw [HPM.out]; exact Sl.of_own hoc)
    have bc' := bb.trans (hkc.mono bb.size)
    go_wp2_with fail
    refine (disk_known _).mono ?_
    rintro e wd ⟨rfl, hkd⟩
    go_wp2
    go_ret
    exact ⟨rfl, bc'.trans (hkd.mono bc'.size)⟩

namespace diskLastsRow
open Go.ChangeShapes Go.WideShapes Go.ChangeAt Go.RowKit
theorem own : ownKnob Try.prog.godebug = none := by kernel_rfl
theorem laidOut : laidOutB Try.prog = true := by kernel_rfl

set_option maxRecDepth 100000 in
theorem lifted (os : Os) (started : os.Started) (H : Type) (enc : TypeId × Value → H) :
    ReturnsInHanded {} Try.checked os 4 .any (Rows.diskLastsSpec.pre6 enc Try.prog Try.f4 Rows.diskLastsRow.domain false) (Rows.diskLastsSpec.post enc Try.prog Try.f4 false true false false) := by
  refine returnsInHanded_of_change (C := Try.checked) own started (by kernel_rfl) Try.func4
    (ChangeSpec.witness6 (enc := enc) (C := Try.checked) false ⟨#[], #[.int .i64 0, .slice none 0 0, .slice none 0 0, .bool false], []⟩ 8 (by kernel_rfl) (by kernel_rfl) (by kernel_rfl) (by kernel_rfl)) ?_
  intro W base args ds gs before hval0 hW _ hsz
  have hval : ∀ (j : Nat) t v, Try.f4.params[j]? = some t → args[j]? = some v → Value.okWide Try.prog W .any base t v := hval0
  have hW' := hW
  obtain ⟨p, q, hA0, hV, rfl, hfz, hnd⟩ := hW
  have hA : DataW.TrodAll enc Try.prog W 0 (fun _ => true) true Try.f4.params.toList args.toList ds p := hA0
  rw [Try.params4] at hA hval
  obtain ⟨v0, vs0, d0, ds0, p0, q0, hargs, rfl, rfl, h0, r0⟩ := trodAll_cons hA
  obtain ⟨v1, vs1, d1, ds1, p1, q1, rfl, rfl, rfl, h1, r1⟩ := trodAll_cons r0
  obtain ⟨v2, vs2, d2, ds2, p2, q2, rfl, rfl, rfl, h2, r2⟩ := trodAll_cons r1
  obtain ⟨v3, vs3, d3, ds3, p3, q3, rfl, rfl, rfl, h3, r3⟩ := trodAll_cons r2
  obtain ⟨rfl, rfl, rfl⟩ := trodAll_nil r3
  obtain rfl : args = #[v0, v1, v2, v3] := by cases args; simp_all
  obtain ⟨a0, rfl, lo0, hi0⟩ := open_I Try.underlying3 (hval 0 3 v0 rfl rfl) h0
  obtain ⟨a1b, a1⟩ := open_bytes (e := 5) Try.underlying22 Try.underlying5 (by kernel_rfl) (hval 1 22 v1 rfl rfl) h1
  obtain ⟨a2b, a2⟩ := open_bytes (e := 5) Try.underlying22 Try.underlying5 (by kernel_rfl) (hval 2 22 v2 rfl rfl) h2
  obtain ⟨a3, rfl, _, _⟩ := open_bool Try.underlying4 (hval 3 4 v3 rfl rfl) h3
  refine (lasts_walk a0 _ _ _ _ a3 W a1 a2).mono fun e W' ⟨he, bel⟩ => ?_
  subst he
  exact ⟨_, rfl, law_post (tb := 4) laidOut (by kernel_rfl) Try.underlying4 (by rfl) rfl (by intro xs hxs; match xs, hxs with | [x0, x1, x2, x3], _ => rfl) hW' bel⟩

theorem over : Rows.diskLastsRow.holds Try.pinned (OpenSpec.ofChange Rows.diskLastsSpec) :=
  OpenClaim.holds_of_wide 4 Try.f4 rfl rfl rfl rfl rfl rfl rfl ⟨rfl, rfl, rfl, rfl, rfl⟩ rfl rfl rfl rfl rfl (by kernel_rfl) Try.func4 (by kernel_rfl)
    (of_decide_eq_true (by kernel_rfl)) (by unfold Func.isWrapper; rw [if_neg (of_decide_eq_false (by kernel_rfl))]; exact ⟨rfl, rfl⟩)
    (fun os started H enc _ => lifted os started H enc)
end diskLastsRow

theorem diskLasts_holds : Rows.DiskLastsSaid := diskLastsRow.over
#print axioms diskLasts_holds

end Go.Proofs.Ytpbdncnepcibaaa
