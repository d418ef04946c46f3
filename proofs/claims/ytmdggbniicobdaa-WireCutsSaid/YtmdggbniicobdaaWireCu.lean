/- WireCuts: any bytes in any rows, or none; together they are as they were. -/
import Derived.Test.YtmdggbniicobdaaCut
import Derived.Test.YtmdggbniicobdaaWireK
import Derived.Test.YtmdggbniicobdaaRows
namespace Go.Proofs.Ytmdggbniicobdaa
open Go Go.RowKit

set_option maxRecDepth 100000 in
set_option maxHeartbeats 4000000 in
theorem cuts_none (vb vs : Value) (b : List UInt8) (zs : List Int) (hl : b.length ≤ 300) (hn : zs.length ≤ 50) (w : World) (hb : Sl w vb b.length (bcells b)) (hs : Sl w vs zs.length (icells zs)) (hc : cutB b zs = none) :
    Calls Try.prog 7 #[vb, vs] w fun e w' => e = .returned (.bool true) ∧ Kept w w' := by
  obtain ⟨ba, bc, hbv⟩ := hb.len
  obtain ⟨sa, sc, hsv⟩ := hs.len
  subst hbv hsv
  have n0 : (b.length : Int) ≤ 300 := by omega
  have n1 : (zs.length : Int) ≤ 50 := by omega
  have hk0 : Kept w (w.alloc (.cells #[] 5)) := (Below.refl _ _).alloc (Nat.le_refl _) _
  have ho : (w.alloc (.cells #[] 5)).ownsRow w.heap.size 5 1 (.slice (some ⟨w.heap.size, 0, none⟩) 0 0) 0 (bcells []) := own_made 0 (by decide) 5 [] rfl (Blk.new _ _ _) (Nat.le_refl _)
  go_enter Try.func7, Try.ntmps7
  go_wp2_with (at_builtin; refine wpList_append sl_bytes rfl (by rfl) (by rfl) (by rfl) ho (hb.kept hk0) (by simp [bcells]) (oneCell_V8 b) (by unfold maxLen; omega) (by omega) (by simp) ?_; intro v0 w1 hown1 hg1 hat1)
  have hk1 : Kept w w1 := below_append hk0 ho hg1 (by simp)
  have s1 : Sl w1 v0 b.length (bcells b) := by have := Sl.of_own hown1; simpa [bcells] using this
  refine (cut_any _ _ b zs (by omega) (by omega) _ s1 (hs.kept hk1)).mono ?_
  rintro e w2 ⟨hk2, v1, rfl, hr1⟩
  rw [hc]
  unfold cutV
  clear hown1 hg1 hat1 s1 ho hk0
  go_wp2_with fail
  refine (rcut_any _ _ b zs (by omega) (by omega) _ (hb.kept (hk1.of hk2)) (hs.kept (hk1.of hk2))).mono ?_
  rintro e w3 ⟨hk3, v2, rfl, hr2⟩
  rw [hc]
  unfold cutV
  have hk : Kept w w3 := (hk1.of hk2).of hk3
  clear hr1 hr2 hc hk1 hk2 hk3
  go_wp2_with fail
  refine (same_any _ _ [] (by simp) _ (RowsSl.nil _) (RowsSl.nil _)).mono ?_
  rintro e w4 ⟨rfl, hk4⟩
  go_wp2_with fail
  go_loopw [10] (fun i wr => i = .int .i64 0 ∧ Kept w wr) (fun _ _ => 0)
  case atStart => exact ⟨rfl, hk.of hk4⟩
  case round =>
    obtain ⟨rfl, hkw⟩ := hrel
    go_wp2_with fail
    refine (known_any _).mono ?_
    rintro e w5 ⟨rfl, hk5⟩
    go_wp2
    go_ret
    exact ⟨rfl, hkw.of hk5⟩

theorem flatten_take_succ (rows : List (List UInt8)) (k : Nat) (row : List UInt8) (h : rows[k]? = some row) : (rows.take (k + 1)).flatten = (rows.take k).flatten ++ row := by
  obtain ⟨hk, e⟩ := List.getElem?_eq_some_iff.1 h
  rw [List.take_succ_eq_append_getElem hk, List.flatten_append, e]
  simp
theorem flatten_take_le (rows : List (List UInt8)) (k : Nat) : (rows.take k).flatten.length ≤ rows.flatten.length := by
  have := congrArg (fun l => (List.flatten l).length) (List.take_append_drop k rows)
  simp only [List.flatten_append, List.length_append] at this
  omega

set_option maxRecDepth 100000 in
set_option maxHeartbeats 4000000 in
theorem cuts_some (vb vs : Value) (b : List UInt8) (zs : List Int) (rows : List (List UInt8)) (hl : b.length ≤ 300) (hn : zs.length ≤ 50) (w : World) (hb : Sl w vb b.length (bcells b)) (hs : Sl w vs zs.length (icells zs)) (hc : cutB b zs = some rows) :
    Calls Try.prog 7 #[vb, vs] w fun e w' => e = .returned (.bool true) ∧ Kept w w' := by
  have hrl := cutB_length zs b rows hc
  have hrf := cutB_flat zs b rows hc
  have HRF := Lib.hid hrf
  have HRL := Lib.hid hrl
  clear hrf hrl
  obtain ⟨ba, bc, hbv⟩ := hb.len
  obtain ⟨sa, sc, hsv⟩ := hs.len
  subst hbv hsv
  have n0 : (b.length : Int) ≤ 300 := by omega
  have n1 : (zs.length : Int) ≤ 50 := by omega
  have hk0 : Kept w (w.alloc (.cells #[] 5)) := (Below.refl _ _).alloc (Nat.le_refl _) _
  have ho : (w.alloc (.cells #[] 5)).ownsRow w.heap.size 5 1 (.slice (some ⟨w.heap.size, 0, none⟩) 0 0) 0 (bcells []) := own_made 0 (by decide) 5 [] rfl (Blk.new _ _ _) (Nat.le_refl _)
  go_enter Try.func7, Try.ntmps7
  go_wp2_with (at_builtin; refine wpList_append sl_bytes rfl (by rfl) (by rfl) (by rfl) ho (hb.kept hk0) (by simp [bcells]) (oneCell_V8 b) (by unfold maxLen; omega) (by omega) (by simp) ?_; intro v0 w1 hown1 hg1 hat1)
  have hk1 : Kept w w1 := below_append hk0 ho hg1 (by simp)
  have s1 : Sl w1 v0 b.length (bcells b) := by have := Sl.of_own hown1; simpa [bcells] using this
  refine (cut_any _ _ b zs (by omega) (by omega) _ s1 (hs.kept hk1)).mono ?_
  rintro e w2 ⟨hk2, v1, rfl, hr1⟩
  rw [hc]
  unfold cutV
  clear hown1 hg1 hat1 s1 ho hk0
  go_wp2_with fail
  refine (rcut_any _ _ b zs (by omega) (by omega) _ (hb.kept (hk1.of hk2)) (hs.kept (hk1.of hk2))).mono ?_
  rintro e w3 ⟨hk3, v2, rfl, hr2⟩
  rw [hc]
  unfold cutV
  have r1 := (hr1 rows hc).kept hk3
  have r2 := hr2 rows hc
  have s1 := r1.sl
  have hk : Kept w w3 := (hk1.of hk2).of hk3
  clear hr1 hr2 hk2 hk3 hc
  go_wp2_with fail
  refine (same_any _ _ rows (by rw [HRL.out]; omega) _ s1 r2).mono ?_
  rintro e w4 ⟨rfl, hk4⟩
  replace s1 := s1.kept hk4
  replace hk := hk.of hk4
  clear r1 r2 hk1 hk4
  obtain ⟨us, u1, u2, u3⟩ := s1
  obtain ⟨ra, rc, hrv⟩ := u2.len
  subst hrv
  have n2 : (rows.length : Int) ≤ 50 := by have := HRL.out; omega
  have U1 := Lib.hid u1
  have U3 := Lib.hid u3
  clear u1 u3
  go_wp2_with fail
  go_loopw [9, 10] (fun v i wr => ∃ k : Nat, k ≤ rows.length ∧ i = .int .i64 k ∧ wr.ownsRow w4.heap.size 5 1 v (rows.take k).flatten.length (bcells (rows.take k).flatten) ∧ Kept w4 wr) (fun _ i _ => rows.length - (intOf i).toNat)
  case atStart => exact ⟨0, by omega, rfl, World.ownsRow_nil _ _ _ _, Below.refl _ _⟩
  case round =>
    obtain ⟨k, hk', rfl, hown, hkw⟩ := hrel
    have hsz := hkw.size
    by_cases hlt : k < rows.length
    · obtain ⟨bA, oA, cA, eA, _, _, lA, xA⟩ := u2.at (by rw [U1.out]; omega)
      cases eA
      obtain ⟨u, hu⟩ : ∃ u, us[k]? = some u := ⟨us[k]'(by rw [U1.out]; exact hlt), by simp [U1.out, hlt]⟩
      obtain ⟨row, hr⟩ : ∃ row, rows[k]? = some row := ⟨rows[k], by simp⟩
      have cu := hkw.at (xA k u hu)
      have su := (U3.out k row u hr hu).kept hkw
      have n3 : (k : Int) < (rows.length : Int) := by omega
      have n4 : (0 : Int) ≤ (k : Int) := by omega
      have hle := flatten_take_le rows (k + 1)
      have hfl := flatten_take_succ rows k row hr
      rw [HRF.out, hfl, List.length_append] at hle
      have XA := Lib.hid xA
      have HU := Lib.hid hu
      have HR := Lib.hid hr
      have HF := Lib.hid hfl
      clear xA hu hr hfl
      go_wp2_with (at_builtin; refine wpList_append sl_bytes rfl (by rfl) (by rfl) (by rfl) hown su (by simp [bcells]) (oneCell_V8 row) (by unfold maxLen; omega) (by omega) (by omega) ?_; intro v3 w5 hown2 hg2 hat2)
      refine ⟨⟨k + 1, by omega, by go_num, ?_, below_append hkw hown hg2 (by omega)⟩, by simp [intOf]; omega⟩
      rw [HF.out, List.length_append, bcells_append]
      exact hown2
    · have : k = rows.length := by omega
      subst this
      have s9 := Sl.of_own hown
      rw [List.take_length, HRF.out] at s9
      have c1 := str_of s9
      have c2 := str_of ((hb.kept hk).kept hkw)
      have U1' := U1
      go_wp2_with fail
      refine (known_any _).mono ?_
      rintro e w5 ⟨rfl, hk5⟩
      go_wp2
      go_ret
      exact ⟨rfl, (hk.of hkw).of hk5⟩

set_option maxRecDepth 100000 in
set_option maxHeartbeats 4000000 in
theorem cuts_walk (vb vs : Value) (b : List UInt8) (zs : List Int) (w : World) (hb : Sl w vb b.length (bcells b)) (hs : Sl w vs zs.length (icells zs)) :
    Calls Try.prog 7 #[vb, vs] w fun e w' => e = .returned (.bool true) ∧ Kept w w' := by
  by_cases h1 : 300 < b.length
  · obtain ⟨ba, bc, hbv⟩ := hb.len
    subst hbv
    go_enter Try.func7, Try.ntmps7
    go_wp2
    go_ret
    exact ⟨rfl, Below.refl _ _⟩
  by_cases h2 : 50 < zs.length
  · obtain ⟨ba, bc, hbv⟩ := hb.len
    obtain ⟨sa, sc, hsv⟩ := hs.len
    subst hbv hsv
    have n0 : (b.length : Int) ≤ 300 := by omega
    go_enter Try.func7, Try.ntmps7
    go_wp2
    go_ret
    exact ⟨rfl, Below.refl _ _⟩
  cases hc : cutB b zs with
  | none => exact cuts_none vb vs b zs (by omega) (by omega) w hb hs hc
  | some rows => exact cuts_some vb vs b zs rows (by omega) (by omega) w hb hs hc

namespace wireCutsRow
open Go.ChangeShapes Go.WideShapes Go.ChangeAt Go.RowKit
theorem own : ownKnob Try.prog.godebug = none := by kernel_rfl
theorem laidOut : laidOutB Try.prog = true := by kernel_rfl

set_option maxRecDepth 100000 in
theorem lifted (os : Os) (started : os.Started) (H : Type) (enc : TypeId × Value → H) :
    ReturnsInHanded {} Try.checked os 7 .any (Rows.wireCutsSpec.pre6 enc Try.prog Try.f7 Rows.wireCutsRow.domain false) (Rows.wireCutsSpec.post enc Try.prog Try.f7 false true false false) := by
  refine returnsInHanded_of_change (C := Try.checked) own started (by kernel_rfl) Try.func7
    (ChangeSpec.witness6 (enc := enc) (C := Try.checked) false ⟨#[], #[.slice none 0 0, .slice none 0 0], []⟩ 8 (by kernel_rfl) (by kernel_rfl) (by kernel_rfl) (by kernel_rfl)) ?_
  intro W base args ds gs before hval0 hW _ hsz
  have hval : ∀ (j : Nat) t v, Try.f7.params[j]? = some t → args[j]? = some v → Value.okWide Try.prog W .any base t v := hval0
  have hW' := hW
  obtain ⟨p, q, hA0, hV, rfl, hfz, hnd⟩ := hW
  have hA : DataW.TrodAll enc Try.prog W 0 (fun _ => true) true Try.f7.params.toList args.toList ds p := hA0
  rw [Try.params7] at hA hval
  obtain ⟨v0, vs0, d0, ds0, p0, q0, hargs, rfl, rfl, h0, r0⟩ := trodAll_cons hA
  obtain ⟨v1, vs1, d1, ds1, p1, q1, rfl, rfl, rfl, h1, r1⟩ := trodAll_cons r0
  obtain ⟨rfl, rfl, rfl⟩ := trodAll_nil r1
  obtain rfl : args = #[v0, v1] := by cases args; simp_all
  obtain ⟨a0b, a0⟩ := open_bytes (e := 5) Try.underlying23 Try.underlying5 (by kernel_rfl) (hval 0 23 v0 rfl rfl) h0
  obtain ⟨z1, a1, _⟩ := open_ints' (e := 3) (H := H) Try.underlying38 Try.underlying3 (by kernel_rfl) (hval 1 38 v1 rfl rfl) h1
  refine (cuts_walk v0 v1 a0b z1 W a0 a1).mono fun e W' ⟨he, bel⟩ => ?_
  subst he
  exact ⟨_, rfl, law_post (tb := 4) laidOut (by kernel_rfl) Try.underlying4 (by rfl) rfl (by intro xs hxs; match xs, hxs with | [x0, x1], _ => rfl) hW' bel⟩

theorem over : Rows.wireCutsRow.holds Try.pinned (OpenSpec.ofChange Rows.wireCutsSpec) :=
  OpenClaim.holds_of_wide 7 Try.f7 rfl rfl rfl rfl rfl rfl rfl ⟨rfl, rfl, rfl, rfl, rfl⟩ rfl rfl rfl rfl rfl (by kernel_rfl) Try.func7 (by kernel_rfl)
    (of_decide_eq_true (by kernel_rfl)) (by unfold Func.isWrapper; rw [if_neg (of_decide_eq_false (by kernel_rfl))]; exact ⟨rfl, rfl⟩)
    (fun os started H enc _ => lifted os started H enc)
end wireCutsRow

theorem wireCuts_holds : Rows.WireCutsSaid := wireCutsRow.over
#print axioms wireCuts_holds

end Go.Proofs.Ytmdggbniicobdaa
