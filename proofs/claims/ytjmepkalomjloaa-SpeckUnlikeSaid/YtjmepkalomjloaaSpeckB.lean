/- What slices.Backward hands to a loop's body, at rows of numbers of 64 digits. -/
import Derived.RangeFuncNested
import Derived.RangeFuncBound
import Derived.RangeFuncCalls
import Derived.RangeFuncLeaves
import Derived.Shelf.Abstract
import Derived.Shelf.RegionOpen
import Derived.WalkKit
import Derived.OwnWalkIn
import Derived.TacticsInMore
import Derived.LoopNIn
import Derived.LoopIn
import Derived.Test.YtjmepkalomjloaaSpeckE
namespace Go.Proofs.Ytjmepkalomjloaa
open Go Go.RowKit Go.Shelf

attribute [local go_sem] Oper.semAt_some

/-- what has come when k rounds are over -/
def upto {α : Type} (f : Nat → α) (k : Nat) : List α := (List.range k).map f
theorem upto_succ {α : Type} (f : Nat → α) (k : Nat) : upto f (k + 1) = upto f k ++ [f k] := by simp [upto, List.range_succ]
theorem upto_length {α : Type} (f : Nat → α) (k : Nat) : (upto f k).length = k := by simp [upto]

/-- the blocks bs lie as they lay -/
def Stays (bs : List Nat) (A B : World) : Prop := ∀ k, k ∈ bs → B.heap[k]? = A.heap[k]?
theorem Stays.trans {bs : List Nat} {A B C : World} (h : Stays bs A B) (k : Stays bs B C) : Stays bs A C := fun i hi => (k i hi).trans (h i hi)
theorem Stays.refl (bs : List Nat) (A : World) : Stays bs A A := fun _ _ => rfl
theorem Stays.cell {bs : List Nat} {A B : World} (h : Stays bs A B) {p : Addr} (hp : p.block ∈ bs) : B.cell? p = A.cell? p := by
  unfold World.cell?; rw [h _ hp]
theorem Stays.set {bs : List Nat} {A B : World} (h : Stays bs A B) {a : Addr} (ha : a.block ∉ bs) (v : Value) : Stays bs A (B.setCell a v) :=
  fun k hk => (Below.heap_setCell B a v k (fun e => ha (by rw [← e]; exact hk))).trans (h k hk)

set_option maxRecDepth 100000 in
set_option maxHeartbeats 2000000 in
theorem backward1_in (F : Fence) (n : Nat) (h8 : F.fn 18) (hro : F.round = none) (hn : 1 ≤ n) (l Bs b off len cap : Nat) (zs : List (BitVec 64)) (hl : len ≤ 1000) (J Jx : List (Int × BitVec 64) → World → Prop)
    (hY : ∀ pre x W, J pre W → pre.length < len → YieldAt F (n - 1) Try.prog l #[.int .i64 x.1, U x.2] W fun e W' =>
      (e = .returned (.bool true) ∧ J (pre ++ [x]) W' ∧ Stays [Bs, b] W W') ∨ (e = .returned (.bool false) ∧ Jx (pre ++ [x]) W'))
    (W : World) (hBs : W.cell? ⟨Bs, 0, none⟩ = some (.slice (some ⟨b, off, none⟩) len cap)) (hc : ∀ j, j < len → W.cell? ⟨b, off + j, none⟩ = some (U (zs[j]?.getD 0#64))) (h0 : J [] W) :
    CallsIn F n Try.prog 18 #[.func (.yield l) #[] #[], .pointer (some ⟨Bs, 0, none⟩)] W fun e W' => (∃ v, e = .returned v) ∧
      ((∃ ys, ys = upto (fun j => ((len : Int) - 1 - (j : Int), zs[len - 1 - j]?.getD 0#64)) len ∧ J ys W') ∨ (∃ pre, (∃ k, k ≤ len ∧ pre = upto (fun j => ((len : Int) - 1 - (j : Int), zs[len - 1 - j]?.getD 0#64)) k) ∧ Jx pre W')) := by
  refine callsIn_of_wp Try.func18 rfl h8 ?_ hro
  simp only [Try.ntmps18, List.size_toArray, List.length_cons, List.length_nil, Nat.reduceAdd, Nat.reduceSub, Array.replicate_succ, Array.replicate_zero, List.push_toArray, List.append_toArray, List.nil_append, List.cons_append]
  have i0 : (len : Int) ≤ 1000 := by omega
  gi_wp2
  gi_loopw [3] (fun i wr => ∃ k : Nat, k ≤ len ∧ i = .int .i64 ((len : Int) - 1 - (k : Int)) ∧ J (upto (fun j => ((len : Int) - 1 - (j : Int), zs[len - 1 - j]?.getD 0#64)) k) wr ∧ Stays [Bs, b] W wr)
    (fun i _ => (intOf i + 1).toNat)
  case atStart => exact ⟨0, Nat.zero_le _, by simp, h0, Stays.refl _ _⟩
  case round =>
    obtain ⟨k, hk, rfl, hJs, hst⟩ := hrel
    have hbx := (hst.cell (p := ⟨Bs, 0, none⟩) (by simp)).trans hBs
    by_cases hlt : k < len
    · obtain ⟨fn, tmps, assign, body, hy, hR⟩ := hY _ ((len : Int) - 1 - (k : Int), zs[len - 1 - k]?.getD 0#64) wr hJs (by rw [upto_length]; exact hlt)
      dsimp only at hy
      have hcx := (hst.cell (p := ⟨b, off + (len - 1 - k), none⟩) (by simp)).trans (hc (len - 1 - k) (by omega))
      obtain ⟨q, hq⟩ : ∃ q : Nat, q = len - 1 - k := ⟨_, rfl⟩
      have hqi : (len : Int) - 1 - (k : Int) = (q : Int) := by omega
      rw [hqi] at hy hR ⊢
      rw [← hq] at hcx hR hy
      have i1 : (0 : Int) ≤ (q : Int) := by omega
      have i2 : (q : Int) < (len : Int) := by omega
      clear hq
      gi_wp2
      refine hR.mono ?_
      rintro e W3 (⟨rfl, hJ3, hk3⟩ | ⟨rfl, hJx3⟩)
      · gi_wp2
        go_roundw
        case rel => exact ⟨k + 1, by omega, by congr 1 <;> omega, by rw [upto_succ, hqi, show len - 1 - k = q by omega]; exact hJ3, hst.trans hk3⟩
        case measure => simp [intOf] <;> omega
      · gi_wp2
        refine bodyPost_ret (results_none rfl _ _ _) rfl ?_
        exact ⟨⟨_, rfl⟩, .inr ⟨_, ⟨k + 1, by omega, by rw [upto_succ, hqi, show len - 1 - k = q by omega]⟩, hJx3⟩⟩
    · obtain rfl : k = len := by omega
      have i1 : (k : Int) - 1 - (k : Int) = -1 := by omega
      rw [i1]
      gi_wp2
      go_end0
      exact ⟨⟨_, rfl⟩, .inl ⟨_, rfl, hJs⟩⟩

set_option maxHeartbeats 1000000 in
/-- slices.Backward(s): the slice is boxed; the function value holds the box. -/
theorem backward_any (a : Option Addr) (len cap : Nat) (w : World) :
    Calls Try.prog 16 #[.slice a len cap] w fun e w' => e = .returned (.func (.func 18) #[] #[.pointer (some ⟨w.heap.size, 0, none⟩)]) ∧ w' = w.alloc (.cells #[.slice a len cap] 25) := by
  go_enter Try.func16, Try.ntmps16
  go_wp2
  go_ret
  exact ⟨rfl, rfl⟩

/-- what slices.Backward hands back goes through the row from its end -/
theorem backward_stops (F : Fence) (n : Nat) (h8 : F.fn 18) (hro : F.round = none) (hn : 1 ≤ n) (Bs b off len cap : Nat) (zs : List (BitVec 64)) (hl : len ≤ 1000) (w : World) (hBs : Bs < w.heap.size) (hb : b < w.heap.size)
    (hc : w.cell? ⟨Bs, 0, none⟩ = some (.slice (some ⟨b, off, none⟩) len cap)) (hI : ∀ j, j < len → w.cell? ⟨b, off + j, none⟩ = some (U (zs[j]?.getD 0#64))) :
    SeqStopsK F n Try.prog 18 #[.pointer (some ⟨Bs, 0, none⟩)] (fun x : Int × BitVec 64 => #[Value.int .i64 x.1, U x.2]) (Stays [Bs, b]) (fun ys => ys = upto (fun j => ((len : Int) - 1 - (j : Int), zs[len - 1 - j]?.getD 0#64)) len)
      (fun pre => ∃ k, k ≤ len ∧ pre = upto (fun j => ((len : Int) - 1 - (j : Int), zs[len - 1 - j]?.getD 0#64)) k) len w := fun l J Jx W hW _ _ hY h0 =>
  backward1_in F n h8 hro hn l Bs b off len cap zs hl J Jx hY W ((hW.cell (p := ⟨Bs, 0, none⟩) hBs).trans hc) (fun j hj => (hW.cell (p := ⟨b, off + j, none⟩) hb).trans (hI j hj)) h0
end Go.Proofs.Ytjmepkalomjloaa
