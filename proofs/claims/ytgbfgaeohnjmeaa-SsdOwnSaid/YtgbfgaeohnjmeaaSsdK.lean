/- The example that each law of chapter 11 holds beside. -/
import Derived.Test.YtgbfgaeohnjmeaaSsdT
import Derived.Test.YtgbfgaeohnjmeaaFrame
namespace Go.Proofs.Ytgbfgaeohnjmeaa
open Go Go.RowKit

def Pw.nf (k : Nat) : Pw := ⟨false, false, 0, k⟩
theorem nf_spend (k : Nat) : (Pw.nf k).spend = (true, Pw.nf (k + 1)) := by simp [Pw.nf, Pw.spend]
theorem nf_new : Pw.new = Pw.nf 0 := rfl
def Sd.fresh (n : Nat) : Sd := ⟨Pw.nf 0, List.replicate n 0, [], []⟩
theorem fresh_ok (n : Nat) : (Sd.fresh n).ok n 0 := ⟨by simp [Sd.fresh], by simp [Sd.fresh], by simp [Sd.fresh], by simp [Sd.fresh], by simp [Sd.fresh], ⟨by simp [Sd.fresh, Pw.nf], by simp [Sd.fresh, Pw.nf], fun h => by cases h⟩⟩
/-- a write, with its Power on -/
def Sd.put (s : Sd) (k : Nat) (x : Wr) : Sd := ⟨Pw.nf (k + 1), s.lasts, s.waits ++ [x], s.trace ++ [x]⟩
theorem nf_okm (k m : Nat) (h : k ≤ m) : (Pw.nf k).ok m := ⟨by simp [Pw.nf]; try omega, by simp [Pw.nf]; try omega, fun h => by cases h⟩
theorem put_ok {s : Sd} {n m k : Nat} {x : Wr} (h : s.ok n m) (hx : inB n x) (hn : n ≤ 60000) (hk : k ≤ m) : (s.put k x).ok n (m + 1) :=
  ⟨h.len, fun y hy => by
    rcases List.mem_append.1 hy with hy | hy
    · exact h.fit y hy
    · rw [List.mem_singleton.1 hy]; exact hx, fun y hy => by
    rcases List.mem_append.1 hy with hy | hy
    · exact h.fitp y hy
    · rw [List.mem_singleton.1 hy]; have := hx.2.2; omega, by have := h.few; simp [Sd.put]; omega, by have := h.done; simp [Sd.put]; omega, nf_okm _ _ (by omega)⟩
theorem write_nf (A : Nat → Prop) (K k : Nat) (s : Sd) (n m : Nat) (hn : n ≤ 65536) (hm : m ≤ 1000) (w : World) (h : SdAt A w K s) (ok : s.ok n m) (hp : s.p = Pw.nf k) (off : Int) (u : Value) (bs : List UInt8) (hin : inB n (off, bs)) (hs : Sl w u bs.length (bcells bs)) (hu : ∀ a c, u = .slice (some a) bs.length c → 0 < (bcells bs).length → A a.block) :
    Calls Try.prog 9 #[.pointer (some ⟨K, 0, none⟩), .int .i64 off, u] w fun e w' => e = .returned (.bool true) ∧ SdAt A w' K (s.put k (off, bs)) ∧ SameOn A w w' :=
  write_yes A K s n m hn hm w h ok off u bs hin hs hu true (Pw.nf (k + 1)) (by rw [hp]; exact nf_spend k)
theorem size_at (A : Nat → Prop) (K : Nat) (s : Sd) (n m : Nat) (w : World) (h : SdAt A w K s) (ok : s.ok n m) : Calls Try.prog 19 #[.pointer (some ⟨K, 0, none⟩)] w fun e w' => e = .returned (.int .i64 n) ∧ w = w' := by
  obtain ⟨b, gl, cap, ex, vw, vt, us, ut, X, O, hAl⟩ := h
  have c1 : w.cell? ⟨K, 1, none⟩ = some (.slice (some ⟨gl, 0, none⟩) n cap) := by have := X.blk.cell 1; rw [ok.len] at this; exact this
  exact size_any K _ n _ _ c1
/-- Snap as a string -/
theorem snap_at (A : Nat → Prop) (K : Nat) (s : Sd) (n m : Nat) (h0 : 0 < n) (hn : n ≤ 65536) (hm : m ≤ 1000) (w : World) (h : SdAt A w K s) (ok : s.ok n m) (bs : List UInt8) (hbs : s.snap = bs) : Calls Try.prog 11 #[.pointer (some ⟨K, 0, none⟩)] w fun e w' => ∃ g c, e = .returned (.slice (some ⟨g, 0, none⟩) n c) ∧ w'.ownsRow w.heap.size 5 1 (.slice (some ⟨g, 0, none⟩) n c) n (bcells bs) ∧ bs.length = n ∧ Kept w w' := by
  refine (snap_any A K s n m h0 hn hm w h ok).mono ?_
  rintro e w' ⟨g, c, he, ho, hk⟩
  rw [hbs] at ho
  exact ⟨g, c, he, ho, by rw [← hbs]; exact Sd.snap_length ok, hk⟩
set_option maxRecDepth 100000 in
set_option maxHeartbeats 4000000 in
theorem known_any (w : World) : Calls Try.prog 13 #[] w fun e w' => e = .returned (.bool true) ∧ Kept w w' := by
  go_enter Try.func13, Try.ntmps13
  go_wp2_with fail
  refine (power_new _).mono ?_
  rintro e w1 ⟨rfl, p1, hk1, hz1⟩
  go_wp2_with fail
  refine (ssd_new 4 (by omega) (by omega) w.heap.size Pw.new (fun k => k < w.heap.size) _ (fun k hk => by omega) (by simp) p1).mono ?_
  rintro e w2 ⟨K, rfl, S2, hk2⟩
  have k2 := Kept.of hk1 hk2
  have hka : Kept w2 (w2.alloc (.cells #[V8 7] 5)) := (Below.refl _ _).alloc (Nat.le_refl _) _
  have hz2 := k2.size
  have S3 := S2.more (A' := fun k => k < w.heap.size ∨ k = w2.heap.size) hka (fun k hk => by rcases hk with h | h <;> omega) (fun k hk => by simp; rcases hk with h | h <;> omega)
  have sl3 : Sl (w2.alloc (.cells #[V8 7] 5)) (.slice (some ⟨w2.heap.size, 0, none⟩) 1 1) ([7] : List UInt8).length (bcells [7]) := Sl.one _ _ _
  have k3 := Kept.of k2 hka
  clear hk1 hk2 S2 hz1 p1
  go_wp2_with fail
  refine (write_nf _ K 0 (Sd.fresh 4) 4 0 (by omega) (by omega) _ S3 (fresh_ok 4) rfl 1 _ [7] ⟨by decide, by decide, by decide⟩ sl3 (fun a c e _ => by cases e; exact .inr rfl)).mono ?_
  rintro e w4 ⟨rfl, S4, hs4⟩
  have ok4 := put_ok (k := 0) (x := (1, [7])) (fresh_ok 4) ⟨by decide, by decide, by decide⟩ (by omega) (by omega)
  have b4 : Below w.heap.size w w4 := k3.trans (hs4.below (fun k hk => .inl hk) k3.size)
  go_wp2_with fail
  refine (snap_at _ K _ 4 1 (by omega) (by omega) (by omega) _ S4 ok4 [0, 7, 0, 0] (by decide)).mono ?_
  rintro e w5 ⟨g5, c5, rfl, ho5, hl5, hk5⟩
  have s5 := str_of (bs := [0, 7, 0, 0]) (Sl.of_own ho5)
  have S5 := S4.kept hk5
  clear S4 ho5
  go_wp2_with fail
  refine (crash_any _ K _ 4 1 (by omega) (by omega) (by omega) _ S5 ok4 _ [] (by simp) (Sl.nil _) (fun a c e _ => by cases e)).mono ?_
  rintro e w6 ⟨rfl, S6, hs6⟩
  have ok6 : Sd.ok ⟨Pw.nf 1, List.replicate 4 0, [], [(1, [7])]⟩ 4 1 := ⟨by simp, by simp, by simp, by simp, by simp, nf_okm _ _ (by omega)⟩
  have b6 : Below w.heap.size w w6 := (b4.trans (hk5.mono (by have := hs4.size; have := k3.size; omega))).trans (hs6.below (fun k hk => .inl hk) (by have := hs4.size; have := k3.size; have := hk5.size; omega))
  have S6' : SdAt _ w6 K ⟨Pw.nf 1, List.replicate 4 0, [], [(1, [7])]⟩ := S6
  have hz6 : w.heap.size ≤ w6.heap.size := by have := hs4.size; have := k3.size; have := hk5.size; have := hs6.size; omega
  clear S6 S5 s5
  go_wp2_with fail
  refine (snap_at _ K _ 4 1 (by omega) (by omega) (by omega) _ S6' ok6 [0, 0, 0, 0] (by decide)).mono ?_
  rintro e w7 ⟨g7, c7, rfl, ho7, hl7, hk7⟩
  have s7 := str_of (bs := [0, 0, 0, 0]) (Sl.of_own ho7)
  have S7 := S6'.kept hk7
  clear ho7 S6'
  go_wp2_with fail
  refine (size_at _ K _ 4 1 _ S7 ok6).mono ?_
  rintro e w8 ⟨rfl, rfl⟩
  go_wp2_with fail
  refine (power_new _).mono ?_
  rintro e w8 ⟨rfl, _, hk8, _⟩
  go_wp2_with fail
  refine (ssd_none (-1) (by omega) _ _).mono ?_
  rintro e w9 ⟨rfl, rfl⟩
  go_wp2
  go_ret
  exact ⟨rfl, b6.trans ((Kept.of hk7 hk8).mono hz6)⟩


end Go.Proofs.Ytgbfgaeohnjmeaa
