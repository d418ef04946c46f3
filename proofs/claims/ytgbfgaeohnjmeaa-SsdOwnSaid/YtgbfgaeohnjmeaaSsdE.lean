/- What a write, or a mark, does to an SSD in memory. -/
import Derived.Test.YtgbfgaeohnjmeaaSsdD
namespace Go.Proofs.Ytgbfgaeohnjmeaa
open Go Go.RowKit

theorem Grew.chgL {row : Option Nat} {k : Nat} {e : TypeId} {w w' : World} (h : Grew row k e w w') : Chg row.toList w w' :=
  ⟨h.os, h.tape, h.output, h.size, fun i hi hn => by
    rcases h.block i hi with hs | ⟨hr', _⟩
    · exact hs
    · exact absurd (by rw [hr']; simp) hn⟩
theorem own_some {w : World} {B n size : Nat} {e : TypeId} {v : Value} {xs : List Value} (h : w.ownsRow B e size v n xs) (hn : 0 < n) : ∃ g cap, v = .slice (some ⟨g, 0, none⟩) n cap := by
  rcases h.2 with ⟨_, h0⟩ | ⟨g', cap, cur, rfl, _⟩
  · omega
  · exact ⟨g', cap, rfl⟩
section
variable {w w6 : World} {K b gl cap : Nat} {ex : List Value} {vw vt v6 u6 : Value} {us ut : List Value} {s : Sd} {x : Wr} {A : Nat → Prop}
theorem mem_own {v : Value} {g : Nat} : g ∈ v.ownBlock.toList ↔ v.ownBlock = some g := by simp [Option.mem_toList]

/-- one more waits -/
theorem SdIn.pushW (X : SdIn w K b gl cap ex vw vt us ut s) (hc : Chg vw.ownBlock.toList w w6) (hrow : w6.ownsRow 0 42 2 v6 (s.waits.length + 1) (ocells s.waits us ++ [.int .i64 x.1, u6]))
    (hu : w6.ownsRow w.heap.size 5 1 u6 x.2.length (bcells x.2)) (hv : ∀ g, v6.ownBlock = some g → vw.ownBlock = some g ∨ w.heap.size ≤ g) :
    SdIn (w6.setCell ⟨K, 2, none⟩ v6) K b gl cap ex v6 vt (us ++ [u6]) ut { s with waits := s.waits ++ [x] } := by
  obtain ⟨n1, n2, n3, n4, n5, n6, n7⟩ := X.ne
  obtain ⟨l1, l2, l3, l4, l5⟩ := X.low
  have hq : Chg [K] w6 (w6.setCell ⟨K, 2, none⟩ v6) := Chg.step (by simp) _
  have hKv : K ∉ vw.ownBlock.toList := fun h => (n4 K (mem_own.1 h)).2.1 rfl
  have hbv : b ∉ vw.ownBlock.toList := fun h => (n4 b (mem_own.1 h)).1 rfl
  have hgv : gl ∉ vw.ownBlock.toList := fun h => (n4 gl (mem_own.1 h)).2.2 rfl
  have bK := (hc.blk X.blk hKv)
  have kind : ∀ g cur, Blk w6 g cur 5 → g ∉ [K] := fun g cur h => by simpa using blk_ne h bK (by decide)
  have kindO : ∀ g cur, Blk w6 g cur 42 → g ∉ [K] := fun g cur h => by simpa using blk_ne h bK (by decide)
  have tr6 : OpsAt w6 vt s.trace ut := X.trc.chg hc (fun g hg h => X.wt g (mem_own.1 h) hg) (fun u hu g hg h => (n7 u hu g hg).2.2.2.1 (mem_own.1 h))
  have wt6 : ∀ (i : Nat) (y : Wr) (u : Value), s.waits[i]? = some y → us[i]? = some u → w6.ownsRow 0 5 1 u y.2.length (bcells y.2) := fun i y u hy hu' =>
    own_chgV (X.wts.each i y u hy hu') hc fun g hg h => (n6 u (List.mem_of_getElem? hu') g hg).2.2.2.1 (mem_own.1 h)
  refine ⟨?_, hq.blk (hc.blk X.pw hbv) (by simpa using n1), hq.blk (hc.blk X.lst hgv) (by simpa using n3.symm), X.hcap, X.most, ?_, ?_, ?_, X.tne, ?_⟩
  · simpa using bK.set 2 v6
  · refine ⟨?_, by simp [X.wts.len], fun i y u hy hu' => ?_⟩
    · rw [ocells_snoc _ _ _ _ X.wts.len]
      have : w6.ownsRow 0 42 2 v6 (s.waits ++ [x]).length (ocells s.waits us ++ [.int .i64 x.1, u6]) := by simpa using hrow
      refine own_chgV this hq fun g hg => ?_
      obtain ⟨c, hc'⟩ := own_blkOf this hg
      exact kindO g c hc'
    · have key : w6.ownsRow 0 5 1 u y.2.length (bcells y.2) := by
        by_cases hi : i < s.waits.length
        · rw [List.getElem?_append_left (by rw [X.wts.len]; exact hi)] at hu'
          rw [show (s.waits ++ [x])[i]? = s.waits[i]? from List.getElem?_append_left hi] at hy
          exact wt6 i y u hy hu'
        · have hil := (List.getElem?_eq_some_iff.1 hy).1
          simp only [List.length_append, List.length_singleton] at hil
          have hi' : i = s.waits.length := by omega
          subst hi'
          have hy' : some x = some y := by simpa using hy
          rw [← X.wts.len] at hu'
          have hu2 : some u6 = some u := by simpa using hu'
          cases hy'; cases hu2
          exact own_base hu (Nat.zero_le _)
      refine own_chgV key hq fun g hg => ?_
      obtain ⟨c, hc'⟩ := own_blkOf key hg
      exact kind g c hc'
  · refine tr6.chg hq (fun g hg => ?_) (fun u hu' g hg => ?_)
    · obtain ⟨c, hc'⟩ := own_blkOf tr6.row hg
      exact kindO g c hc'
    · obtain ⟨c, hc'⟩ := tr6.blk hu' hg
      exact kind g c hc'
  · intro u hu' e
    rcases List.mem_append.1 hu' with h | h
    · exact X.wne u h e
    · rw [List.mem_singleton.1 h] at e
      have := own_geV hu e
      omega
  · intro g hg e
    rcases hv g hg with h | h
    · exact X.wt g h e
    · have := l5 g e
      omega
/-- one more was done -/
theorem SdIn.pushT (X : SdIn w K b gl cap ex vw vt us ut s) (hc : Chg vt.ownBlock.toList w w6) (hrow : w6.ownsRow 0 42 2 v6 (s.trace.length + 1) (ocells s.trace ut ++ [.int .i64 x.1, u6]))
    (hu : w6.ownsRow w.heap.size 5 1 u6 x.2.length (bcells x.2)) (hv : ∀ g, v6.ownBlock = some g → vt.ownBlock = some g ∨ w.heap.size ≤ g) :
    SdIn (w6.setCell ⟨K, 3, none⟩ v6) K b gl cap ex vw v6 us (ut ++ [u6]) { s with trace := s.trace ++ [x] } := by
  obtain ⟨n1, n2, n3, n4, n5, n6, n7⟩ := X.ne
  obtain ⟨l1, l2, l3, l4, l5⟩ := X.low
  have hq : Chg [K] w6 (w6.setCell ⟨K, 3, none⟩ v6) := Chg.step (by simp) _
  have hKv : K ∉ vt.ownBlock.toList := fun h => (n5 K (mem_own.1 h)).2.1 rfl
  have hbv : b ∉ vt.ownBlock.toList := fun h => (n5 b (mem_own.1 h)).1 rfl
  have hgv : gl ∉ vt.ownBlock.toList := fun h => (n5 gl (mem_own.1 h)).2.2 rfl
  have bK := (hc.blk X.blk hKv)
  have kind : ∀ g cur, Blk w6 g cur 5 → g ∉ [K] := fun g cur h => by simpa using blk_ne h bK (by decide)
  have kindO : ∀ g cur, Blk w6 g cur 42 → g ∉ [K] := fun g cur h => by simpa using blk_ne h bK (by decide)
  have tr6 : OpsAt w6 vw s.waits us := X.wts.chg hc (fun g hg h => X.wt g hg (mem_own.1 h)) (fun u hu g hg h => (n6 u hu g hg).2.2.2.2 (mem_own.1 h))
  have wt6 : ∀ (i : Nat) (y : Wr) (u : Value), s.trace[i]? = some y → ut[i]? = some u → w6.ownsRow 0 5 1 u y.2.length (bcells y.2) := fun i y u hy hu' =>
    own_chgV (X.trc.each i y u hy hu') hc fun g hg h => (n7 u (List.mem_of_getElem? hu') g hg).2.2.2.2 (mem_own.1 h)
  refine ⟨?_, hq.blk (hc.blk X.pw hbv) (by simpa using n1), hq.blk (hc.blk X.lst hgv) (by simpa using n3.symm), X.hcap, X.most, ?_, ?_, X.wne, ?_, ?_⟩
  · simpa using bK.set 3 v6
  · refine tr6.chg hq (fun g hg => ?_) (fun u hu' g hg => ?_)
    · obtain ⟨c, hc'⟩ := own_blkOf tr6.row hg
      exact kindO g c hc'
    · obtain ⟨c, hc'⟩ := tr6.blk hu' hg
      exact kind g c hc'
  · refine ⟨?_, by simp [X.trc.len], fun i y u hy hu' => ?_⟩
    · rw [ocells_snoc _ _ _ _ X.trc.len]
      have : w6.ownsRow 0 42 2 v6 (s.trace ++ [x]).length (ocells s.trace ut ++ [.int .i64 x.1, u6]) := by simpa using hrow
      refine own_chgV this hq fun g hg => ?_
      obtain ⟨c, hc'⟩ := own_blkOf this hg
      exact kindO g c hc'
    · have key : w6.ownsRow 0 5 1 u y.2.length (bcells y.2) := by
        by_cases hi : i < s.trace.length
        · rw [List.getElem?_append_left (by rw [X.trc.len]; exact hi)] at hu'
          rw [show (s.trace ++ [x])[i]? = s.trace[i]? from List.getElem?_append_left hi] at hy
          exact wt6 i y u hy hu'
        · have hil := (List.getElem?_eq_some_iff.1 hy).1
          simp only [List.length_append, List.length_singleton] at hil
          have hi' : i = s.trace.length := by omega
          subst hi'
          have hy' : some x = some y := by simpa using hy
          rw [← X.trc.len] at hu'
          have hu2 : some u6 = some u := by simpa using hu'
          cases hy'; cases hu2
          exact own_base hu (Nat.zero_le _)
      refine own_chgV key hq fun g hg => ?_
      obtain ⟨c, hc'⟩ := own_blkOf key hg
      exact kind g c hc'
  · intro u hu' e
    rcases List.mem_append.1 hu' with h | h
    · exact X.tne u h e
    · rw [List.mem_singleton.1 h] at e
      have := own_geV hu e
      omega
  · intro g hg e
    rcases hv g e with h | h
    · exact X.wt g hg h
    · have := l4 g hg
      omega
/-- its Power turns -/
theorem SdIn.power (X : SdIn w K b gl cap ex vw vt us ut s) {p' : Pw} (hc : Chg [b] w w6) (hp : PwAt w6 b p') : SdIn w6 K b gl cap ex vw vt us ut { s with p := p' } := by
  obtain ⟨n1, n2, n3, n4, n5, n6, n7⟩ := X.ne
  exact ⟨hc.blk X.blk (by simpa using n1.symm), hp, hc.blk X.lst (by simpa using n2.symm), X.hcap, X.most,
    X.wts.chg hc (fun g hg => by simpa using (n4 g hg).1) (fun u hu g hg => by simpa using (n6 u hu g hg).1),
    X.trc.chg hc (fun g hg => by simpa using (n5 g hg).1) (fun u hu g hg => by simpa using (n7 u hu g hg).1), X.wne, X.tne, X.wt⟩
theorem Off.same (O : Off A K b gl vw vt us ut) (hc : Chg [b] w w6) : SameOn A w w6 := .of_chg hc (by simpa using O.b)
theorem Off.sameW (O : Off A K b gl vw vt us ut) (hc : Chg vw.ownBlock.toList w w6) : SameOn A w w6 := .of_chg hc (fun g hg => O.vw g (mem_own.1 hg))
theorem Off.sameT (O : Off A K b gl vw vt us ut) (hc : Chg vt.ownBlock.toList w w6) : SameOn A w w6 := .of_chg hc (fun g hg => O.vt g (mem_own.1 hg))
theorem Off.sameK (O : Off A K b gl vw vt us ut) (hc : Chg [K] w w6) : SameOn A w w6 := .of_chg hc (by simpa using O.K)
theorem Off.sameL (O : Off A K b gl vw vt us ut) (hc : Chg [gl] w w6) : SameOn A w w6 := .of_chg hc (by simpa using O.gl)
theorem Off.setW (O : Off A K b gl vw vt us ut) (hA : ∀ k, A k → k < w.heap.size) (hv : ∀ g, v6.ownBlock = some g → vw.ownBlock = some g ∨ w.heap.size ≤ g) (hu : ∀ g, u6.ownBlock = some g → w.heap.size ≤ g) : Off A K b gl v6 vt (us ++ [u6]) ut :=
  ⟨O.K, O.b, O.gl, fun g hg ha => by
    rcases hv g hg with h | h
    · exact O.vw g h ha
    · have := hA g ha; omega, O.vt, fun u hm g hg ha => by
    rcases List.mem_append.1 hm with h | h
    · exact O.us u h g hg ha
    · rw [List.mem_singleton.1 h] at hg
      have := hu g hg; have := hA g ha; omega, O.ut⟩
theorem Off.setT (O : Off A K b gl vw vt us ut) (hA : ∀ k, A k → k < w.heap.size) (hv : ∀ g, v6.ownBlock = some g → vt.ownBlock = some g ∨ w.heap.size ≤ g) (hu : ∀ g, u6.ownBlock = some g → w.heap.size ≤ g) : Off A K b gl vw v6 us (ut ++ [u6]) :=
  ⟨O.K, O.b, O.gl, O.vw, fun g hg ha => by
    rcases hv g hg with h | h
    · exact O.vt g h ha
    · have := hA g ha; omega, O.us, fun u hm g hg ha => by
    rcases List.mem_append.1 hm with h | h
    · exact O.ut u h g hg ha
    · rw [List.mem_singleton.1 h] at hg
      have := hu g hg; have := hA g ha; omega⟩
end
end Go.Proofs.Ytgbfgaeohnjmeaa
