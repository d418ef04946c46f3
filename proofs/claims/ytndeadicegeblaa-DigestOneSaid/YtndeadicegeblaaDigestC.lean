/- What slices.Chunk hands to a loop's body, at sixteens of bytes. -/
import Derived.RegionTactic
import Derived.Test.YtndeadicegeblaaStays
import Derived.Test.YtndeadicegeblaaChainC
import Derived.Test.YtndeadicegeblaaWireW
import Derived.Test.YtndeadicegeblaaStr
namespace Go.Proofs.Ytndeadicegeblaa
open Go Go.RowKit Go.Shelf

attribute [local go_sem] Oper.semAt_some

/-- the k-th of p and one more -/
def fx (p k : Nat) : Fin (p + 1) := ⟨min k p, by omega⟩
theorem fx_val (p k : Nat) (h : k < p + 1) : (fx p k).val = k := by unfold fx; simp; omega

set_option maxRecDepth 100000 in
set_option maxHeartbeats 2000000 in
theorem chunk1_in (n : Nat) (hn : 1 ≤ n) (l Bs Bn b off p m cap : Nat) (hp : m = p + 1) (hm : m ≤ 10000) (hcap : 16 * m ≤ cap) (hcx : cap ≤ maxLen) (J Jx : List (Fin (p + 1)) → World → Prop) (hJd : ∀ s A, J s A → J s A.drew)
    (hY : ∀ pre x W, J pre W → pre.length < m → YieldAt Fence.wide (n - 1) Try.prog l #[.slice (some ⟨b, off + 16 * x.val, none⟩) 16 16] W fun e W' =>
      (e = .returned (.bool true) ∧ J (pre ++ [x]) W' ∧ Stays [Bs, Bn] W W') ∨ (e = .returned (.bool false) ∧ Jx (pre ++ [x]) W'))
    (W : World) (hBs : W.cell? ⟨Bs, 0, none⟩ = some (.slice (some ⟨b, off, none⟩) (16 * m) cap)) (hBn : W.cell? ⟨Bn, 0, none⟩ = some (.int .i64 16)) (h0 : J [] W) :
    CallsIn Fence.wide n Try.prog 21 #[.func (.yield l) #[] #[], .pointer (some ⟨Bs, 0, none⟩), .pointer (some ⟨Bn, 0, none⟩)] W fun e W' => (∃ v, e = .returned v) ∧
      ((∃ ys, ys = upto (fx p) m ∧ J ys W') ∨ (∃ pre, (∃ k, k ≤ m ∧ pre = upto (fx p) k) ∧ Jx pre W')) := by
  refine callsIn_of_wp Try.func21 rfl trivial ?_ rfl
  simp only [Try.ntmps21, List.size_toArray, List.length_cons, List.length_nil, Nat.reduceAdd, Nat.reduceSub, Array.replicate_succ, Array.replicate_zero, List.push_toArray, List.append_toArray, List.nil_append, List.cons_append]
  obtain ⟨len, hlen⟩ : ∃ len, len = 16 * m := ⟨_, rfl⟩
  rw [← hlen] at hcap hBs
  have i0 : (len : Int) ≤ 160000 := by omega
  have i9 : (cap : Int) ≤ 9223372036854775807 := by unfold maxLen at hcx; omega
  have i8 : (len : Int) ≤ (cap : Int) := by omega
  have HLEN := Lib.hid hlen
  clear hlen
  gi_wp2
  gi_loopw [4] (fun i wr => ∃ k : Nat, k ≤ m ∧ i = .int .i64 ((16 * k : Nat) : Int) ∧ J (upto (fx p) k) wr ∧ Stays [Bs, Bn] W wr)
    (fun i _ => ((len : Int) - intOf i).toNat)
  case atStart => exact ⟨0, Nat.zero_le _, by simp, h0, Stays.refl _ _⟩
  case round =>
    obtain ⟨k, hk, rfl, hJs, hst⟩ := hrel
    have hbx := (hst.cell (p := ⟨Bs, 0, none⟩) (by simp)).trans hBs
    have hby := (hst.cell (p := ⟨Bn, 0, none⟩) (by simp)).trans hBn
    by_cases hlt : k < m
    · obtain ⟨fn, tmps, assign, body, hy, hR⟩ := hY _ (fx p k) wr.drew (hJd _ _ hJs) (by rw [upto_length]; exact hlt)
      try dsimp only at hy
      rw [fx_val p k (by omega)] at hy
      obtain ⟨q, hq⟩ : ∃ q : Nat, q = 16 * k := ⟨_, rfl⟩
      rw [← hq] at hy ⊢
      have i1 : (0 : Int) ≤ (q : Int) := by omega
      have i2 : (q : Int) < (len : Int) := by have := HLEN.out; omega
      have i3 : (q : Int) + 16 ≤ (len : Int) := by have := HLEN.out; omega
      have i4 : ¬ cap = q := by omega
      have i5 : (16 : Int) ≤ ((len - q : Nat) : Int) := by omega
      have i6 : q ≤ len := by omega
      have HQ := Lib.hid hq
      clear hq
      gi_wp2_with fail
      refine wpIn_wide.2 ?_
      refine wp_region_chainD [(0, 0), (1, 0), (2, 0), (3, 0), (4, 0), (5, 0), (6, 0)] (by kernel_rfl) (by kernel_rfl) ?_
      obtain ⟨w1, hw1e⟩ : ∃ x, x = wr.drew := ⟨_, rfl⟩
      rw [← hw1e]
      have hw1 : Kept wr w1 := by rw [hw1e]; exact Kept.drawn wr
      repeat
        refine chain_light _ rfl (fun K hK => ?_)
        first
          | (refine (if_pos (by rfl)).mpr ?_; apply Exists.intro; refine ⟨fun w' hw' => ?_, hK _ ?_⟩; (have bx := hw'.at (hw1.at hbx); have by' := hw'.at (hw1.at hby); go_simp; done); (clear hK K; simp only [Act.put, List.setIfInBounds_toArray, List.set_cons_zero, List.set_cons_succ]))
          | (refine (if_pos (by rfl)).mpr ?_; apply Exists.intro; refine ⟨fun w' hw' => ?_, hK _ ?_⟩; (have bx := hw'.at (hw1.at hbx); have by' := hw'.at (hw1.at hby); go_simp; rfl); (clear hK K; simp only [Act.put, List.setIfInBounds_toArray, List.set_cons_zero, List.set_cons_succ]))
          | (refine (if_neg (by rw [Bool.not_eq_true]; rfl)).mpr ?_; refine hK _ ?_; (clear hK K; simp only [Act.put, List.setIfInBounds_toArray, List.set_cons_zero, List.set_cons_succ]))
      refine chain_nil ?_
      rw [if_neg (show ¬ ((len - q : Nat) : Int) < 16 by omega)]
      subst hw1e
      replace hbx := hw1.at hbx
      replace hby := hw1.at hby
      clear hw1
      gi_wp2_with fail
      refine hR.mono ?_
      rintro e W3 (⟨rfl, hJ3, hk3⟩ | ⟨rfl, hJx3⟩)
      · replace hby := (hk3.cell (p := ⟨Bn, 0, none⟩) (by simp)).trans hby
        gi_wp2
        go_roundw
        case rel => exact ⟨k + 1, by omega, by have := HQ.out; congr 1; omega, by rw [upto_succ]; exact hJ3, hst.trans hk3⟩
        case measure => simp [intOf] <;> omega
      · gi_wp2
        refine bodyPost_ret (results_none rfl _ _ _) rfl ?_
        exact ⟨⟨_, rfl⟩, .inr ⟨_, ⟨k + 1, by omega, by rw [upto_succ]⟩, hJx3⟩⟩
    · obtain rfl : k = m := by omega
      rw [← HLEN.out]
      gi_wp2
      go_end0
      exact ⟨⟨_, rfl⟩, .inl ⟨_, rfl, hJs⟩⟩

set_option maxRecDepth 100000 in
set_option maxHeartbeats 1000000 in
/-- slices.Chunk(s, 16): both are boxed; the function value holds the boxes. -/
theorem chunk_any (a : Option Addr) (len cap : Nat) (w : World) :
    Calls Try.prog 14 #[.slice a len cap, .int .i64 16] w fun e w' => e = .returned (.func (.func 21) #[] #[.pointer (some ⟨w.heap.size, 0, none⟩), .pointer (some ⟨w.heap.size + 1, 0, none⟩)]) ∧ w' = (w.alloc (.cells #[.slice a len cap] 22)).alloc (.cells #[.int .i64 16] 3) := by
  go_enter Try.func14, Try.ntmps14
  go_wp2
  go_ret
  exact ⟨rfl, rfl⟩

/-- what slices.Chunk hands back goes through the row by sixteens -/
theorem chunk_stops (n : Nat) (hn : 1 ≤ n) (Bs Bn b off p m cap : Nat) (hp : m = p + 1) (hm : m ≤ 10000) (hcap : 16 * m ≤ cap) (hcx : cap ≤ maxLen) (w : World) (hBs : Bs < w.heap.size) (hBn : Bn < w.heap.size)
    (hc : w.cell? ⟨Bs, 0, none⟩ = some (.slice (some ⟨b, off, none⟩) (16 * m) cap)) (hd : w.cell? ⟨Bn, 0, none⟩ = some (.int .i64 16)) :
    SeqStopsK Fence.wide n Try.prog 21 #[.pointer (some ⟨Bs, 0, none⟩), .pointer (some ⟨Bn, 0, none⟩)] (fun x : Fin (p + 1) => #[.slice (some ⟨b, off + 16 * x.val, none⟩) 16 16]) (Stays [Bs, Bn]) (fun ys => ys = upto (fx p) m)
      (fun pre => ∃ k, k ≤ m ∧ pre = upto (fx p) k) m w := fun l J Jx W hW hJ _ hY h0 =>
  chunk1_in n hn l Bs Bn b off p m cap hp hm hcap hcx J Jx (fun s A h => hJ s A A.drew none h ⟨rfl, rfl, rfl, Nat.le_refl _, fun _ _ _ => rfl⟩ (fun r e => by cases e)) hY W
    ((hW.cell (p := ⟨Bs, 0, none⟩) hBs).trans hc) ((hW.cell (p := ⟨Bn, 0, none⟩) hBn).trans hd) h0

end Go.Proofs.Ytndeadicegeblaa
