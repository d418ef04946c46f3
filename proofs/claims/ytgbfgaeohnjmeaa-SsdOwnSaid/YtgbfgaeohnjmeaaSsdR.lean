/- Back, Read; a nil SSD. -/
import Derived.Test.YtgbfgaeohnjmeaaSsdC
namespace Go.Proofs.Ytgbfgaeohnjmeaa
open Go Go.RowKit

set_option maxRecDepth 100000 in
set_option maxHeartbeats 4000000 in
theorem read_yes (A : Nat → Prop) (K : Nat) (s : Sd) (n m : Nat) (h0 : 0 < n) (hn : n ≤ 65536) (hm : m ≤ 1000) (w : World) (h : SdAt A w K s) (ok : s.ok n m) (o len : Nat) (hol : o + len ≤ n) (ho : o < n) (hg : s.p.gone = false) :
    Calls Try.prog 14 #[.pointer (some ⟨K, 0, none⟩), .int .i64 o, .int .i64 len] w fun e w' => ∃ g c ex, e = .returned (.tuple #[.slice (some ⟨g, o, none⟩) len (c - o), .bool true]) ∧ Blk w' g (bcells s.snap ++ ex).toArray 5 ∧ n + ex.length = c ∧ w.heap.size ≤ g ∧ c ≤ maxLen ∧ Kept w w' := by
  obtain ⟨b, gl, cap, ex, vw, vt, us, ut, X, O, hAl⟩ := h
  have hS : SdAt A w K s := ⟨b, gl, cap, ex, vw, vt, us, ut, X, O, hAl⟩
  have c0 := X.blk.cell 0
  have c1 : w.cell? ⟨K, 1, none⟩ = some (.slice (some ⟨gl, 0, none⟩) n cap) := by have := X.blk.cell 1; rw [ok.len] at this; exact this
  have hiB : isB n o len = true := by simp [isB]; omega
  have hpo := power_on b s.p _ X.pw
  rw [hg] at hpo
  go_enter Try.func14, Try.ntmps14
  go_wp2_with fail
  refine (is_any K _ n _ (by omega) o len _ c1).mono ?_
  rintro e w1 ⟨rfl, rfl⟩
  rw [hiB]
  have HIB := Lib.hid hiB
  clear hiB
  go_wp2_with fail
  refine hpo.mono ?_
  rintro e w1 ⟨rfl, rfl⟩
  go_wp2_with fail
  refine (snap_any A K s n m h0 hn hm _ hS ok).mono ?_
  rintro e w2 ⟨g, c, rfl, hown, hk⟩
  obtain ⟨exb, hB, hc, hsl, hgl, hcm⟩ := own_blk1 hown
  have n1 : (o : Int) ≤ (o : Int) + (len : Int) := by omega
  have n2 : (o : Int) + (len : Int) ≤ (c : Int) := by omega
  have n3 : ¬ c = o := by omega
  have n4 : ¬ c - o = 0 := by omega
  have n5 : IntKind.i64.wrap ((o : Int) + (len : Int)) = (o : Int) + (len : Int) := IntWalk.i64_in _ (by omega)
  have n6 : (0 : Int) ≤ (o : Int) := by omega
  have n7 : (o : Int) ≤ (c : Int) := by omega
  clear hpo c0 c1
  go_wp2
  go_ret2
  refine ⟨g, c, exb, ?_, hB, hc, hgl, hcm, hk⟩
  congr 3; first | omega | (simp; omega) | simp

set_option maxRecDepth 100000 in
set_option maxHeartbeats 4000000 in
theorem back_no (A : Nat → Prop) (K : Nat) (s : Sd) (n m : Nat) (hn : n ≤ 65536) (w : World) (h : SdAt A w K s) (ok : s.ok n m) (a : Option Addr) (L c : Nat) (hL : L ≤ 100000) (hne : L ≠ n) : Calls Try.prog 18 #[.pointer (some ⟨K, 0, none⟩), .slice a L c] w fun e w' => e = .returned (.bool false) ∧ w = w' := by
  obtain ⟨b, gl, cap, ex, vw, vt, us, ut, X, O, hAl⟩ := h
  have c1 : w.cell? ⟨K, 1, none⟩ = some (.slice (some ⟨gl, 0, none⟩) n cap) := by have := X.blk.cell 1; rw [ok.len] at this; exact this
  have i1 : ((L : Int) == (n : Int)) = false := by simp; omega
  have i2 : ¬ L = n := hne
  go_enter Try.func18, Try.ntmps18
  go_wp2_with fail
  refine (size_any K _ n _ _ c1).mono ?_
  rintro e w1 ⟨rfl, rfl⟩
  go_wp2
  go_ret
  exact ⟨rfl, rfl⟩

set_option maxRecDepth 100000 in
set_option maxHeartbeats 4000000 in
theorem back_yes (A : Nat → Prop) (K : Nat) (s : Sd) (n m : Nat) (h0 : 0 < n) (hn : n ≤ 65536) (w : World) (h : SdAt A w K s) (ok : s.ok n m) (v : Value) (bs : List UInt8) (hbs : bs.length = n) (hs : Sl w v bs.length (bcells bs)) :
    Calls Try.prog 18 #[.pointer (some ⟨K, 0, none⟩), v] w fun e w' => e = .returned (.bool true) ∧ SdAt A w' K { s with lasts := bs, waits := [] } ∧ SameOn A w w' ∧ Chg [K] w w' := by
  obtain ⟨a, c, he⟩ := hs.len
  subst he
  obtain ⟨b, gl, cap, ex, vw, vt, us, ut, X, O, hAl⟩ := h
  have c1 : w.cell? ⟨K, 1, none⟩ = some (.slice (some ⟨gl, 0, none⟩) n cap) := by have := X.blk.cell 1; rw [ok.len] at this; exact this
  rw [hbs] at hs ⊢
  have hk0 : Kept w (w.alloc (.cells #[] 5)) := (Below.refl _ _).alloc (Nat.le_refl _) _
  have ho : (w.alloc (.cells #[] 5)).ownsRow w.heap.size 5 1 (.slice (some ⟨w.heap.size, 0, none⟩) 0 0) 0 (bcells []) := own_made 0 (by decide) 5 [] rfl (Blk.new _ _ _) (Nat.le_refl _)
  have h2 := hs.kept hk0
  have hlen : (bcells bs).length = n := by rw [bcells_length, hbs]
  go_enter Try.func18, Try.ntmps18
  go_wp2_with fail
  refine (size_any K _ n _ _ c1).mono ?_
  rintro e w1 ⟨rfl, rfl⟩
  go_wp2_with (at_builtin; refine wpList_append sl_bytes rfl (by rfl) (by rfl) (by rfl) ho h2 (by rw [hlen, Nat.mul_one]) (oneCell_V8 bs) (by unfold maxLen; omega) (by omega) (by simp) ?_; intro v3 w3 hown3 hg3 hat3; obtain ⟨g3, cap3, hve⟩ := own_some hown3 (by omega); subst hve; have hk3 : Kept _ w3 := below_append hk0 ho hg3 (by simp); have X3 := X.kept hk3; have e1 := X3.blk.cell 1; have f1 := X3.blk.free 1; have e2 := X3.blk.cell 2; have f2 := X3.blk.free 2)
  go_ret
  obtain ⟨exb, hB, hc3, _, hgl3, hcm⟩ := own_blk1 (n := n) (bs := bs) (by simpa [bcells] using hown3)
  obtain ⟨n1, n2, n3, n4, n5, n6, n7⟩ := X3.ne
  have hK3 : K ≠ g3 := blk_ne X3.blk hB (by decide)
  have hq : Chg [K] w3 ((w3.setCell ⟨K, 1, none⟩ (.slice (some ⟨g3, 0, none⟩) n cap3)).setCell ⟨K, 2, none⟩ (.slice none 0 0)) := ((Chg.refl [K] w3).set (by simp) 1 _).set (by simp) 2 _
  have hall : SameOn A w _ := (SameOn.of_kept hk3).trans (O.sameK hq)
  refine ⟨rfl, ⟨b, g3, cap3, exb, _, _, _, _, ⟨?_, hq.blk X3.pw (by simpa using n1), hq.blk hB (by simpa using hK3.symm), ?_, hcm, OpsAt.nil _, X3.trc.chg hq (fun g hg => by simpa using (n5 g hg).2.1) (fun u hu g hg => by simpa using (n7 u hu g hg).2.1), by simp, fun u hu e => ?_, (by intro g hg; cases hg)⟩, ⟨O.K, O.b, fun ha => by have := hAl _ ha; omega, (by intro g hg; cases hg), O.vt, by simp, O.ut⟩, fun k ha => Nat.lt_of_lt_of_le (hAl k ha) hall.size⟩, hall, (Chg.of_kept hk3).trans hq⟩
  · have := (X3.blk.set 1 (.slice (some ⟨g3, 0, none⟩) n cap3)).set 2 (.slice none 0 0)
    show Blk _ _ #[_, .slice _ bs.length _, _, _] _
    rw [hbs]
    simpa using this
  · show bs.length + exb.length = cap3
    rw [hbs]; exact hc3
  · obtain ⟨cc, hcc⟩ := X.trc.blk hu e
    have := hcc.lt
    omega

set_option maxRecDepth 100000 in
set_option maxHeartbeats 4000000 in
theorem nil_is (o k : Int) (w : World) : Calls Try.prog 20 #[.pointer none, .int .i64 o, .int .i64 k] w fun e w' => e = .returned (.bool false) ∧ w = w' := by
  go_enter Try.func20, Try.ntmps20
  go_wp2
  go_ret
  exact ⟨rfl, rfl⟩

set_option maxRecDepth 100000 in
set_option maxHeartbeats 4000000 in
theorem nil_size (w : World) : Calls Try.prog 19 #[.pointer none] w fun e w' => e = .returned (.int .i64 0) ∧ w = w' := by
  go_enter Try.func19, Try.ntmps19
  go_wp2
  go_ret
  exact ⟨rfl, rfl⟩

set_option maxRecDepth 100000 in
set_option maxHeartbeats 4000000 in
theorem nil_barrier (w : World) : Calls Try.prog 10 #[.pointer none] w fun e w' => e = .returned (.bool false) ∧ w = w' := by
  go_enter Try.func10, Try.ntmps10
  go_wp2
  go_ret
  exact ⟨rfl, rfl⟩

set_option maxRecDepth 100000 in
set_option maxHeartbeats 4000000 in
theorem nil_snap (w : World) : Calls Try.prog 11 #[.pointer none] w fun e w' => e = .returned (.slice none 0 0) ∧ w = w' := by
  go_enter Try.func11, Try.ntmps11
  go_wp2
  go_ret
  exact ⟨rfl, rfl⟩

set_option maxRecDepth 100000 in
set_option maxHeartbeats 4000000 in
theorem nil_trace (w : World) : Calls Try.prog 16 #[.pointer none] w fun e w' => e = .returned (.slice none 0 0) ∧ w = w' := by
  go_enter Try.func16, Try.ntmps16
  go_wp2
  go_ret
  exact ⟨rfl, rfl⟩

set_option maxRecDepth 100000 in
set_option maxHeartbeats 4000000 in
theorem nil_back (a : Option Addr) (L c : Nat) (w : World) : Calls Try.prog 18 #[.pointer none, .slice a L c] w fun e w' => e = .returned (.bool false) ∧ w = w' := by
  go_enter Try.func18, Try.ntmps18
  go_wp2
  go_ret
  exact ⟨rfl, rfl⟩

set_option maxRecDepth 100000 in
set_option maxHeartbeats 4000000 in
theorem nil_write (o : Int) (a : Option Addr) (L c : Nat) (w : World) : Calls Try.prog 9 #[.pointer none, .int .i64 o, .slice a L c] w fun e w' => e = .returned (.bool false) ∧ w = w' := by
  go_enter Try.func9, Try.ntmps9
  go_wp2_with fail
  refine (nil_is o L _).mono ?_
  rintro e w1 ⟨rfl, rfl⟩
  go_wp2
  go_ret
  exact ⟨rfl, rfl⟩

set_option maxRecDepth 100000 in
set_option maxHeartbeats 4000000 in
theorem nil_smash (o : Int) (a : Option Addr) (L c : Nat) (w : World) : Calls Try.prog 17 #[.pointer none, .int .i64 o, .slice a L c] w fun e w' => e = .returned (.bool false) ∧ w = w' := by
  go_enter Try.func17, Try.ntmps17
  go_wp2_with fail
  refine (nil_is o L _).mono ?_
  rintro e w1 ⟨rfl, rfl⟩
  go_wp2
  go_ret
  exact ⟨rfl, rfl⟩

set_option maxRecDepth 100000 in
set_option maxHeartbeats 4000000 in
theorem nil_read (o k : Int) (w : World) : Calls Try.prog 14 #[.pointer none, .int .i64 o, .int .i64 k] w fun e w' => e = .returned (.tuple #[.slice none 0 0, .bool false]) ∧ w = w' := by
  go_enter Try.func14, Try.ntmps14
  go_wp2_with fail
  refine (nil_is o k _).mono ?_
  rintro e w1 ⟨rfl, rfl⟩
  go_wp2
  go_ret2
  exact ⟨rfl, rfl⟩

set_option maxRecDepth 100000 in
set_option maxHeartbeats 4000000 in
theorem nil_crash (a : Option Addr) (L c : Nat) (w : World) : Calls Try.prog 12 #[.pointer none, .slice a L c] w fun e w' => e = .returned (.tuple #[]) ∧ Kept w w' := by
  go_enter Try.func12, Try.ntmps12
  go_wp2
  go_end0
  exact ⟨rfl, (Below.refl _ _).alloc (Nat.le_refl _) _⟩


end Go.Proofs.Ytgbfgaeohnjmeaa
