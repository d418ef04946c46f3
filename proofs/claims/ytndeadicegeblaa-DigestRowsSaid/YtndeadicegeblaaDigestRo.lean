/- DigestRows: how bytes are parted does not matter. -/
import Derived.Test.YtndeadicegeblaaDigestK
import Derived.Test.YtndeadicegeblaaRowsIn
import Derived.Test.YtndeadicegeblaaRows
namespace Go.Proofs.Ytndeadicegeblaa
open Go Go.RowKit

def slenR : Value → Nat | .slice _ n _ => n | _ => 0
set_option maxRecDepth 100000 in
set_option maxHeartbeats 4000000 in
theorem rows_walk (v : Value) (rows : List (List UInt8)) (w : World) (h : RowsSl w v rows) (hmax : ∀ row ∈ rows, row.length ≤ reachBytes) : Calls Try.prog 4 #[v] w fun e w' => e = .returned (.bool true) ∧ Kept w w' := by
  obtain ⟨us, q1, q2, q3⟩ := h
  obtain ⟨a, c, hv⟩ := q2.len
  have hv0 : RowsSl w v rows := ⟨us, q1, q2, q3⟩
  subst hv
  obtain ⟨R, hR⟩ : ∃ R, R = rows.length := ⟨_, rfl⟩
  have hcap := q2.le
  rw [← hR] at q1 q2 hcap hv0 ⊢
  have iR : (R : Int) ≤ 9223372036854775807 := by unfold maxLen at hcap; omega
  have HV := Lib.hid hv0
  have HX := Lib.hid hmax
  clear hcap hv0 hmax
  have HR := Lib.hid hR
  have U1 := Lib.hid q1
  have U3 := Lib.hid q3
  clear q1 q3 hR
  go_enter Try.func4, Try.ntmps4
  go_wp2_with fail
  go_loopw [3, 4] (fun b i wr => ∃ k : Nat, k ≤ R ∧ k ≤ 101 ∧ i = .int .i64 k ∧ (rows.take k).flatten.length ≤ 500 ∧ wr.ownsRow w.heap.size 5 1 b (rows.take k).flatten.length (bcells (rows.take k).flatten) ∧ Kept w wr) (fun _ i _ => (R - (intOf i).toNat))
  case atStart => exact ⟨0, by omega, by omega, rfl, by simp, World.ownsRow_nil _ _ _ _, Below.refl _ _⟩
  case round =>
    obtain ⟨k, hk, hk1, rfl, hle, hown, hkw⟩ := hrel
    obtain ⟨ba, bc, eb⟩ := (Sl.of_own hown).len
    subst eb
    obtain ⟨F, hF⟩ : ∃ F, F = (rows.take k).flatten := ⟨_, rfl⟩
    rw [← hF] at hown hle ⊢
    have HF := Lib.hid hF
    obtain ⟨M, hM⟩ : ∃ M, M = F.length := ⟨_, rfl⟩
    rw [← hM] at hown hle ⊢
    have HM := Lib.hid hM
    have j0 : (M : Int) ≤ 500 := by omega
    have j1 : (k : Int) ≤ 101 := by omega
    have hsz := hkw.size
    clear hF hM
    by_cases hlt : k < R
    · obtain ⟨bA, oA, cA, eA, _, _, lA, xA⟩ := q2.at (by rw [U1.out]; omega)
      cases eA
      obtain ⟨u, hu⟩ : ∃ u, us[k]? = some u := ⟨us[k]'(by rw [U1.out]; exact hlt), by simp [U1.out, hlt]⟩
      obtain ⟨row, hr⟩ : ∃ row, rows[k]? = some row := ⟨rows[k]'(by have := HR.out; omega), by simp⟩
      have cu := hkw.at (xA k u hu)
      have su := (U3.out k row u hr hu).kept hkw
      obtain ⟨ua, uc, hue⟩ := su.len
      subst hue
      have hfl := flatten_take_succ rows k row hr
      obtain ⟨r, hrl⟩ : ∃ r, r = row.length := ⟨_, rfl⟩
      rw [← hrl] at su cu
      have n3 : (k : Int) < (R : Int) := by omega
      have n4 : (0 : Int) ≤ (k : Int) := by omega
      have n5 : (r : Int) ≤ 140737488351232 := by
        have := HX.out row (List.mem_of_getElem? hr)
        rw [← hrl] at this
        unfold reachBytes at this
        omega
      have XA := Lib.hid xA
      have HU := Lib.hid hu
      have HRW := Lib.hid hr
      have HFL := Lib.hid hfl
      have HRL := Lib.hid hrl
      clear xA hu hr hfl hrl
      by_cases h100 : 100 < k
      · have n6 : (100 : Int) < (k : Int) := by omega
        go_wp2
        try rw [Exit.noGoto_ret]
        go_ret
        exact ⟨rfl, hkw⟩
      · have n6 : (k : Int) ≤ 100 := by omega
        by_cases h500 : 500 < M + r
        · have n7 : (500 : Int) < (M : Int) + (r : Int) := by omega
          go_wp2
          try rw [Exit.noGoto_ret]
          go_ret
          exact ⟨rfl, hkw⟩
        · have n7 : (M : Int) + (r : Int) ≤ 500 := by omega
          go_wp2_with (at_builtin; refine wpList_append sl_bytes rfl (by rfl) (by rfl) (by rfl) hown su (by simp [bcells, HRL.out]) (oneCell_V8 row) (by unfold maxLen; omega) (by omega) hsz ?_; intro v6 w6 hown6 hg6 hat6)
          have hk6 : Kept w w6 := below_append hkw hown hg6 hsz
          refine ⟨⟨k + 1, by omega, by omega, by go_num, ?_, ?_, hk6⟩, by simp [intOf]; omega⟩
          · rw [HFL.out, ← HF.out, List.length_append, ← HM.out, ← HRL.out]; omega
          · rw [HFL.out, ← HF.out, bcells_append, List.length_append, ← HM.out, ← HRL.out]
            exact hown6
    · have hkR : k = R := by omega
      subst hkR
      have hfl : F = rows.flatten := by rw [HF.out, HR.out, List.take_length]
      have hrows : (RowsSl wr (.slice a k c) rows) := HV.out.kept hkw
      have s6 : Sl wr (.slice ba M bc) F.length (bcells F) := by rw [← HM.out]; exact Sl.of_own hown
      have hr := RowsSl.lit (us := [.slice ba M bc]) (.cons (s6.kept (Below.refl _ _)) .nil) 22 1 rfl (by decide)
      have HFL := Lib.hid hfl
      clear hfl hr
      go_wp2_with fail
      refine (sum_any _ rows (by rw [← HR.out]; omega) (by rw [← HFL.out, ← HM.out]; omega) _ hrows).mono ?_
      rintro e w7 ⟨rfl, hk7⟩
      rw [← HFL.out]
      have hr := RowsSl.lit (us := [.slice ba M bc]) (.cons (s6.kept hk7) .nil) 22 1 rfl (by decide)
      obtain ⟨X, hX⟩ : ∃ X, X = sumB F := ⟨_, rfl⟩
      rw [← hX]
      have HXX := Lib.hid hX
      clear hX
      go_wp2_with fail
      refine (sum_any _ [F] (by simp) (by simp; rw [← HM.out]; omega) _ hr).mono ?_
      rintro e w8 ⟨rfl, hk8⟩
      rw [show ([F] : List (List UInt8)).flatten = F by simp, ← HXX.out]
      go_wp2_with fail
      refine (known_any _).mono ?_
      rintro e w9 ⟨rfl, hk9⟩
      go_wp2
      go_ret
      exact ⟨rfl, ((hkw.of hk7).of (Kept.of ((Below.refl _ _).alloc (Nat.le_refl _) _) hk8)).of hk9⟩

namespace digestRowsRow
open Go.ChangeShapes Go.WideShapes Go.ChangeAt Go.RowKit
theorem own : ownKnob Try.prog.godebug = none := by kernel_rfl
theorem laidOut : laidOutB Try.prog = true := by kernel_rfl

set_option maxRecDepth 100000 in
theorem lifted (os : Os) (started : os.Started) (H : Type) (enc : TypeId × Value → H) :
    ReturnsInHanded {} Try.checked os 4 .any (Rows.digestRowsSpec.pre6 enc Try.prog Try.f4 Rows.digestRowsRow.domain false) (Rows.digestRowsSpec.post enc Try.prog Try.f4 false true false false) := by
  refine returnsInHanded_of_change_sized (C := Try.checked) own started (by kernel_rfl) Try.func4
    (ChangeSpec.witness6 (enc := enc) (C := Try.checked) false ⟨#[], #[.slice none 0 0], []⟩ 8 (by kernel_rfl) (by kernel_rfl) (by kernel_rfl) (by kernel_rfl)) ?_
  intro W base args ds gs before hval0 hW _ hsz0 _
  have hsz : (DataW.weightsEach Try.prog (Try.f4.params.toList ++ Rows.digestRowsSpec.plain.varTypes Try.prog) (ds ++ gs)).all (· ≤ reachBytes) = true := hsz0
  have hval : ∀ (j : Nat) t v, Try.f4.params[j]? = some t → args[j]? = some v → Value.okWide Try.prog W .any base t v := hval0
  have hW' := hW
  obtain ⟨p, q, hA0, hV, rfl, hfz, hnd⟩ := hW
  have hA : DataW.TrodAll enc Try.prog W 0 (fun _ => true) true Try.f4.params.toList args.toList ds p := hA0
  rw [Try.params4] at hA hval hsz
  obtain ⟨v0, vs0, d0, ds0, p0, q0, hargs, rfl, rfl, h0, r0⟩ := trodAll_cons hA
  obtain ⟨rfl, rfl, rfl⟩ := trodAll_nil r0
  obtain rfl : args = #[v0] := by cases args; simp_all
  obtain ⟨a0, s0, x0⟩ := open_rows (e := 22) (u := 5) (H := H) Try.underlying31 Try.underlying22 Try.underlying5 (by kernel_rfl) (by kernel_rfl) (by kernel_rfl) (hval 0 31 v0 rfl rfl) h0 (fun n hn => by
    have := List.all_eq_true.1 hsz n (DataW.weights_mem_each (j := 0) (t := 31) rfl rfl n hn)
    simpa using this)
  refine (rows_walk v0 a0 W s0 x0).mono fun e W' ⟨he, bel⟩ => ?_
  subst he
  exact ⟨_, rfl, law_post (tb := 4) laidOut (by kernel_rfl) Try.underlying4 (by rfl) rfl (by intro xs hxs; match xs, hxs with | [x0], _ => rfl) hW' bel⟩

theorem over : Rows.digestRowsRow.holds Try.pinned (OpenSpec.ofChange Rows.digestRowsSpec) :=
  OpenClaim.holds_of_wide 4 Try.f4 rfl rfl rfl rfl rfl rfl rfl ⟨rfl, rfl, rfl, rfl, rfl⟩ rfl rfl rfl rfl rfl (by kernel_rfl) Try.func4 (by kernel_rfl)
    (of_decide_eq_true (by kernel_rfl)) (by unfold Func.isWrapper; rw [if_neg (of_decide_eq_false (by kernel_rfl))]; exact ⟨rfl, rfl⟩)
    (fun os started H enc _ => lifted os started H enc)
end digestRowsRow

theorem digestRows_holds : Rows.DigestRowsSaid := digestRowsRow.over
#print axioms digestRows_holds

end Go.Proofs.Ytndeadicegeblaa
