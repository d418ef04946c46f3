/- Barrier, Crash, Smash, Back, Read. -/
import Derived.Test.YtgbfgaeohnjmeaaSsdS
import Derived.Test.YtgbfgaeohnjmeaaSsdN
namespace Go.Proofs.Ytgbfgaeohnjmeaa
open Go Go.RowKit

set_option maxRecDepth 100000 in
set_option maxHeartbeats 4000000 in
theorem crash_any (A : Nat → Prop) (K : Nat) (s : Sd) (n m : Nat) (h0 : 0 < n) (hn : n ≤ 65536) (hm : m ≤ 1000) (w : World) (h : SdAt A w K s) (ok : s.ok n m) (v : Value) (ks : List Bool) (kl : ks.length ≤ 1000) (hks : Sl w v ks.length (kcells ks)) (hA : ∀ a c, v = .slice (some a) ks.length c → 0 < (kcells ks).length → A a.block) :
    Calls Try.prog 12 #[.pointer (some ⟨K, 0, none⟩), v] w fun e w' => e = .returned (.tuple #[]) ∧ SdAt A w' K { s with lasts := layIs s.lasts s.waits (isK ks) s.waits.length, waits := [] } ∧ SameOn A w w' := by
  obtain ⟨ka, kc, he⟩ := hks.len
  subst he
  obtain ⟨b, gl, cap, ex, vw, vt, us, ut, X, O, hAl⟩ := h
  have hka : Kept w (w.alloc (.cells #[.slice ka ks.length kc] 23)) := (Below.refl _ _).alloc (Nat.le_refl _) _
  have hB := Blk.new w #[.slice ka ks.length kc] 23
  have low := X.low
  have hag : ∀ a c, Value.slice ka ks.length kc = .slice (some a) ks.length c → 0 < (kcells ks).length → a.block ∉ [gl] := fun a c e hl hm2 => by
    have := hA a c e hl
    rw [List.mem_singleton.1 hm2] at this
    exact O.gl this
  go_enter Try.func12, Try.ntmps12
  go_wp2_with fail
  refine (settle_some K b gl cap ex vw vt us ut s n m h0 hn hm (isK ks) w.heap.size ka kc ks kl _ (X.kept hka) ok rfl (hB.cell 0) (hks.kept hka) (by simp; omega) hag).mono ?_
  rintro e w2 ⟨rfl, X2, c2⟩
  go_wp2
  go_end0
  have hs2 := (SameOn.of_kept hka).trans (SameOn.of_chg c2 (by intro x hx; simp at hx; rcases hx with rfl | rfl; exact O.gl; exact O.K))
  exact ⟨rfl, ⟨b, gl, cap, ex, _, _, _, _, X2, ⟨O.K, O.b, O.gl, (by intro g hg; cases hg), O.vt, by simp, O.ut⟩, fun k ha => Nat.lt_of_lt_of_le (hAl k ha) hs2.size⟩, hs2⟩

set_option maxRecDepth 100000 in
set_option maxHeartbeats 4000000 in
theorem smash_yes (A : Nat → Prop) (K : Nat) (s : Sd) (n m : Nat) (h0 : 0 < n) (hn : n ≤ 65536) (hm : m ≤ 1000) (w : World) (h : SdAt A w K s) (ok : s.ok n m) (o : Nat) (v : Value) (bs : List UInt8) (hin : inB n ((o : Int), bs)) (hs : Sl w v bs.length (bcells bs)) (hA : ∀ a c, v = .slice (some a) bs.length c → 0 < (bcells bs).length → A a.block) :
    Calls Try.prog 17 #[.pointer (some ⟨K, 0, none⟩), .int .i64 o, v] w fun e w' => e = .returned (.bool true) ∧ SdAt A w' K { s with lasts := layB s.snap ((o : Int), bs), waits := [] } ∧ SameOn A w w' := by
  obtain ⟨a, c, he⟩ := hs.len
  subst he
  obtain ⟨b, gl, cap, ex, vw, vt, us, ut, X, O, hAl⟩ := h
  have c1 : w.cell? ⟨K, 1, none⟩ = some (.slice (some ⟨gl, 0, none⟩) n cap) := by have := X.blk.cell 1; rw [ok.len] at this; exact this
  have hiB := isB_in hin
  have hsn := Sd.snap_length ok
  have hcap := X.hcap
  rw [ok.len] at hcap
  have hmost := X.most
  go_enter Try.func17, Try.ntmps17
  go_wp2_with fail
  refine (is_any K _ n _ (by omega) o bs.length _ c1).mono ?_
  rintro e w1 ⟨rfl, rfl⟩
  rw [hiB]
  have HIB := Lib.hid hiB
  have HOK := Lib.hid ok
  clear hiB ok
  go_wp2_with fail
  refine (settle_all K b gl cap ex vw vt us ut s n m h0 hn hm (fun _ => true) _ X HOK.out rfl).mono ?_
  rintro e w2 ⟨rfl, X2, c2⟩
  rw [layIs_all _ _ _ (Nat.le_refl _), List.take_length] at X2
  have hs2 : SameOn A _ w2 := SameOn.of_chg c2 (by intro x hx; simp at hx; rcases hx with rfl | rfl; exact O.gl; exact O.K)
  obtain ⟨n1, n2, n3, n4, n5, n6, n7⟩ := X2.ne
  have hsl := hs2.sl hs hA
  have k1 : w2.cell? ⟨K, 1, none⟩ = some (.slice (some ⟨gl, 0, none⟩) n cap) := by
    have := X2.blk.cell 1
    rw [show ({ s with lasts := layAll s.lasts s.waits, waits := [] } : Sd).lasts.length = n from hsn] at this
    exact this
  obtain ⟨hi0, hi1, hi2⟩ := hin
  have hi1' : o < n := by simpa using hi1
  have hi2' : o + bs.length ≤ n := by simpa using hi2
  have HI := Lib.hid (show inB n ((o : Int), bs) from ⟨hi0, hi1, hi2⟩)
  have HSN := Lib.hid hsn
  clear hsn hi0 hi1 hi2
  have m5 : (o : Int) ≤ (n : Int) := by omega
  have m8 : ¬ cap = o := by omega
  have m9 : ¬ cap - o = 0 := by omega
  have m6 : (n : Int) ≤ (cap : Int) := by omega
  have m7 : (0 : Int) ≤ (o : Int) := by omega
  obtain ⟨w3, hr, hB3, hc3⟩ := run_copyB (P := Try.prog) (w := w2) (dl := n - o) (dc := cap - o) (off := o) sl_bytes 3 X2.lst hsl (bcells_length _) (oneCell_V8 _) (by rw [List.length_append, bcells_length]; show _ ≤ (layAll s.lasts s.waits).length + _; have := HSN.out; unfold Sd.snap at this; omega)
  go_wp2
  go_ret
  have hl := lay_cells (layAll s.lasts s.waits) ex ((o : Int), bs) n HSN.out.symm HI.out
  have hB4 : Blk w3 gl (bcells (layB s.snap ((o : Int), bs)) ++ ex).toArray 5 := by
    show Blk w3 gl (bcells (layB (layAll s.lasts s.waits) ((o : Int), bs)) ++ ex).toArray _
    rw [← hl]
    exact hB3
  have hlen : (layB s.snap ((o : Int), bs)).length = n := by rw [layB_length _ _ (by rw [HSN.out]; exact HI.out), HSN.out]
  have hs3 : SameOn A w2 w3 := SameOn.of_chg hc3 (by simpa using O.gl)
  refine ⟨rfl, ⟨b, gl, cap, ex, _, _, _, _, ⟨?_, hc3.blk X2.pw (by simpa using n2), hB4, ?_, X2.most, OpsAt.nil _, X2.trc.chg hc3 (fun g hg => by simpa using (n5 g hg).2.2) (fun u hu g hg => by simpa using (n7 u hu g hg).2.2.1), by simp, X2.tne, (by intro g hg; cases hg)⟩, ⟨O.K, O.b, O.gl, (by intro g hg; cases hg), O.vt, by simp, O.ut⟩, fun k ha => Nat.lt_of_lt_of_le (hAl k ha) (hs2.trans hs3).size⟩, hs2.trans hs3⟩
  · have := hc3.blk X2.blk (by simpa using n3)
    rw [show ({ s with lasts := layAll s.lasts s.waits, waits := [] } : Sd).lasts.length = n from HSN.out] at this
    show Blk _ _ #[_, .slice _ (layB s.snap ((o : Int), bs)).length _, _, _] _
    rw [hlen]; exact this
  · show (layB s.snap ((o : Int), bs)).length + ex.length = cap
    rw [hlen]; exact hcap


end Go.Proofs.Ytgbfgaeohnjmeaa
