/- What the library's functions on rows of epochs compute. -/
import Derived.Test.YtdcejhplkhoboaaKeysD
import Derived.Test.YtdcejhplkhoboaaSpeckE
import Derived.Test.YtdcejhplkhoboaaApp
import Derived.Test.YtdcejhplkhoboaaChainC
import Derived.Test.YtdcejhplkhoboaaStr
import Derived.Lib.SliceRun
namespace Go.Proofs.Ytdcejhplkhoboaa
open Go Go.RowKit

theorem sl_words : SlT Try.prog 37 23 1 4 (.int .u32 0) := SlT.mk' Try.underlying37 (by kernel_rfl) rfl (by omega)
@[go_sem] theorem binW_lss (t : TypeId) (x y : BitVec 32) : binOp .lss t (W x) (W y) = pure (.bool (decide (x < y))) := (binOp_lss ..).trans (by congr 2; simp [BitVec.lt_def])
theorem binW_add (t : TypeId) (x y : BitVec 32) : binOp .add t (W x) (W y) = pure (W (x + y)) := by
  refine (binOp_add ..).trans ?_
  show pure (Value.int .u32 (IntKind.u32.wrap _)) = _
  rw [wrap_u32, W, BitVec.toNat_add]; congr 2
theorem lit_W1 : Value.int .u32 1 = W 1#32 := rfl

set_option maxRecDepth 100000 in
set_option maxHeartbeats 4000000 in
theorem erase1_any (e below now : BitVec 32) (B1 B2 : Nat) (w : World) (h1 : w.cell? ⟨B1, 0, none⟩ = some (W below)) (h2 : w.cell? ⟨B2, 0, none⟩ = some (W now)) : Calls Try.prog 31 #[W e, .pointer (some ⟨B1, 0, none⟩), .pointer (some ⟨B2, 0, none⟩)] w fun e' w' => e' = .returned (.bool (gone below now e)) ∧ w = w' := by
  unfold gone
  cases hl : decide (e < below)
  · go_enter Try.func31, Try.ntmps31
    go_wp2
    go_ret
    exact ⟨rfl, rfl⟩
  · go_enter Try.func31, Try.ntmps31
    go_wp2
    go_ret
    exact ⟨rfl, rfl⟩

set_option maxRecDepth 100000 in
set_option maxHeartbeats 4000000 in
theorem index_any (a : Option Addr) (cap : Nat) (l : List (BitVec 32)) (x : BitVec 32) (hl : l.length ≤ 100000) (w : World) (hs : Sl w (.slice a l.length cap) l.length (wcells l)) : Calls Try.prog 42 #[.slice a l.length cap, W x] w fun e w' => ∃ n : Int, e = .returned (.int .i64 n) ∧ decide (0 ≤ n) = l.contains x ∧ w = w' := by
  obtain ⟨L, hL⟩ : ∃ L, L = l.length := ⟨_, rfl⟩
  rw [← hL] at hs hl ⊢
  have i0 : (L : Int) ≤ 100000 := by omega
  have HL := Lib.hid hL
  clear hL
  go_enter Try.func42, Try.ntmps42
  go_wp2_with fail
  go_loopw [8] (fun i wr => ∃ k : Nat, k ≤ L ∧ i = .int .i64 k ∧ (l.take k).contains x = false ∧ w = wr) (fun i _ => L - (intOf i).toNat)
  case atStart => exact ⟨0, by omega, rfl, by simp, rfl⟩
  case round =>
    obtain ⟨k, hk, rfl, hc, rfl⟩ := hrel
    by_cases hlt : k < L
    · obtain ⟨b, off, cap', e', _, _, _, hx⟩ := hs.at (by rw [wcells_length, ← HL.out]; omega)
      cases e'
      have hkl : k < l.length := by rw [← HL.out]; exact hlt
      obtain ⟨y, hy⟩ : ∃ y, y = l[k] := ⟨_, rfl⟩
      have c0 := hx k (W y) (by rw [hy]; exact wcells_get l k hkl)
      have hts : l.take (k + 1) = l.take k ++ [y] := by rw [List.take_succ_eq_append_getElem hkl, hy]
      have n3 : (k : Int) < (L : Int) := by omega
      have n4 : (0 : Int) ≤ (k : Int) := by omega
      have HC := Lib.hid hc
      have HY := Lib.hid hy
      have HTS := Lib.hid hts
      have HX := Lib.hid hx
      clear hc hy hts hx
      cases hxy : (x == y)
      · go_wp2
        refine ⟨⟨k + 1, by omega, by go_num, ?_, trivial⟩, by simp [intOf]; omega⟩
        rw [HTS.out]
        simp only [List.contains_append, HC.out, Bool.false_or]
        simpa using hxy
      · have hxy' : x = y := by simpa using hxy
        have HXY := Lib.hid hxy'
        clear hxy'
        go_wp2
        try rw [Exit.noGoto_ret]
        go_ret
        refine ⟨_, rfl, ?_, rfl⟩
        have hmem : x ∈ l := by rw [HXY.out, HY.out]; exact List.getElem_mem hkl
        have : decide ((0 : Int) ≤ (k : Int)) = true := decide_eq_true (by omega)
        rw [this]
        simpa using hmem
    · have : k = L := by omega
      have HK := Lib.hid this
      have HC := Lib.hid hc
      clear this hc
      go_wp2
      go_ret
      refine ⟨_, rfl, ?_, rfl⟩
      have := HC.out
      rw [List.take_of_length_le (by rw [HK.out, HL.out]; exact Nat.le_refl _)] at this
      rw [this]; rfl

set_option maxRecDepth 100000 in
set_option maxHeartbeats 4000000 in
theorem contains_any (a : Option Addr) (cap : Nat) (l : List (BitVec 32)) (x : BitVec 32) (hl : l.length ≤ 100000) (w : World) (hs : Sl w (.slice a l.length cap) l.length (wcells l)) : Calls Try.prog 32 #[.slice a l.length cap, W x] w fun e w' => e = .returned (.bool (l.contains x)) ∧ w = w' := by
  go_enter Try.func32, Try.ntmps32
  go_wp2_with fail
  refine (index_any _ _ _ _ hl _ hs).mono ?_
  rintro e w' ⟨n, rfl, hn, rfl⟩
  have HN := Lib.hid hn
  clear hn
  go_wp2
  go_ret
  refine ⟨?_, rfl⟩
  show Ending.returned (Value.bool (decide (0 ≤ n))) = _
  rw [HN.out]

set_option maxRecDepth 100000 in
set_option maxHeartbeats 4000000 in
theorem clonew_any (v : Value) (l : List (BitVec 32)) (h0 : 0 < l.length) (hl : l.length ≤ 100000) (w : World) (hs : Sl w v l.length (wcells l)) : Calls Try.prog 33 #[v] w fun e w' => ∃ r, e = .returned r ∧ w'.ownsRow w.heap.size 23 1 r l.length (wcells l) ∧ Kept w w' := by
  obtain ⟨b, off, cap, e', _, _, _, hx⟩ := hs.at (by rw [wcells_length]; exact h0)
  subst e'
  have hnil := fun (wx : World) a n c => Lib.run_eql_slice_nil (P := Try.prog) wx 37 23 a n c 0 0 Try.underlying37
  have hk0 : Kept w (w.alloc (.cells #[] 23)) := (Below.refl _ _).alloc (Nat.le_refl _) _
  have ho : (w.alloc (.cells #[] 23)).ownsRow w.heap.size 23 1 (.slice (some ⟨w.heap.size, 0, none⟩) 0 0) 0 (wcells []) := ⟨rfl, .inr ⟨w.heap.size, 0, #[], rfl, Nat.le_refl _, Blk.new w _ _, Nat.le_refl _, Nat.zero_le _, rfl, rfl⟩⟩
  go_enter Try.func33, Try.ntmps33
  go_wp2_with (at_builtin; refine wpList_append sl_words rfl (by rfl) (by rfl) (by rfl) ho (hs.kept hk0) (by simp [wcells]) (oneCell_W l) (by unfold maxLen; omega) (by omega) (by simp) ?_; intro v0 w1 hown1 hg1 hat1)
  go_ret
  refine ⟨_, rfl, ?_, below_append hk0 ho hg1 (by simp)⟩
  simpa [wcells] using hown1

set_option maxRecDepth 100000 in
set_option maxHeartbeats 4000000 in
theorem indexf_any (below now : BitVec 32) (B1 B2 : Nat) (a : Option Addr) (cap : Nat) (l : List (BitVec 32)) (hl : l.length ≤ 100000) (w : World) (h1 : w.cell? ⟨B1, 0, none⟩ = some (W below)) (h2 : w.cell? ⟨B2, 0, none⟩ = some (W now)) (hs : Sl w (.slice a l.length cap) l.length (wcells l)) :
    Calls Try.prog 41 #[.slice a l.length cap, .func (.func 31) #[] #[.pointer (some ⟨B1, 0, none⟩), .pointer (some ⟨B2, 0, none⟩)]] w fun e w' => ((e = .returned (.int .i64 (-1)) ∧ ∀ x ∈ l, gone below now x = false) ∨ (∃ k : Nat, e = .returned (.int .i64 k) ∧ k < l.length ∧ (∀ x ∈ l.take k, gone below now x = false) ∧ ∀ x, l[k]? = some x → gone below now x = true)) ∧ w = w' := by
  obtain ⟨L, hL⟩ : ∃ L, L = l.length := ⟨_, rfl⟩
  rw [← hL] at hs hl ⊢
  have i0 : (L : Int) ≤ 100000 := by omega
  have HL := Lib.hid hL
  clear hL
  go_enter Try.func41, Try.ntmps41
  go_wp2_with fail
  go_loopw [8] (fun i wr => ∃ k : Nat, k ≤ L ∧ i = .int .i64 k ∧ (∀ x ∈ l.take k, gone below now x = false) ∧ w = wr) (fun i _ => L - (intOf i).toNat)
  case atStart => exact ⟨0, by omega, rfl, by simp, rfl⟩
  case round =>
    obtain ⟨k, hk, rfl, hc, rfl⟩ := hrel
    by_cases hlt : k < L
    · obtain ⟨b, off, cap', e', _, _, _, hx⟩ := hs.at (by rw [wcells_length, ← HL.out]; omega)
      cases e'
      have hkl : k < l.length := by rw [← HL.out]; exact hlt
      obtain ⟨y, hy⟩ : ∃ y, y = l[k] := ⟨_, rfl⟩
      have c0 := hx k (W y) (by rw [hy]; exact wcells_get l k hkl)
      have hts : l.take (k + 1) = l.take k ++ [y] := by rw [List.take_succ_eq_append_getElem hkl, hy]
      have n3 : (k : Int) < (L : Int) := by omega
      have n4 : (0 : Int) ≤ (k : Int) := by omega
      have HC := Lib.hid hc
      have HY := Lib.hid hy
      have HTS := Lib.hid hts
      have HX := Lib.hid hx
      clear hc hy hts hx
      go_wp2_with fail
      refine (erase1_any y below now B1 B2 _ h1 h2).mono ?_
      rintro e w' ⟨rfl, rfl⟩
      cases hg : gone below now y
      · have HG := Lib.hid hg
        clear hg
        go_wp2
        refine ⟨⟨k + 1, by omega, by go_num, ?_, trivial⟩, by simp [intOf]; omega⟩
        rw [HTS.out]
        intro z hz
        rcases List.mem_append.1 hz with hz | hz
        · exact HC.out z hz
        · rw [List.mem_singleton.1 hz]; exact HG.out
      · have HG := Lib.hid hg
        clear hg
        go_wp2
        try rw [Exit.noGoto_ret]
        go_ret
        refine ⟨.inr ⟨k, rfl, hlt, HC.out, fun z hz => ?_⟩, rfl⟩
        rw [List.getElem?_eq_getElem hkl, ← HY.out] at hz
        cases hz
        exact HG.out
    · have : k = L := by omega
      have HK := Lib.hid this
      have HC := Lib.hid hc
      clear this hc
      go_wp2
      go_ret
      refine ⟨.inl ⟨rfl, fun x hx => HC.out x ?_⟩, rfl⟩
      rw [List.take_of_length_le (by rw [HK.out, HL.out]; exact Nat.le_refl _)]
      exact hx


end Go.Proofs.Ytdcejhplkhoboaa
