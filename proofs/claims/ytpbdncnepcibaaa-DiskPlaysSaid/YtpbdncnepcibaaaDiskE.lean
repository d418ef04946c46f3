/- What a write, or a mark, does to a disk in memory. -/
import Derived.Test.YtpbdncnepcibaaaDiskD
namespace Go.Proofs.Ytpbdncnepcibaaa
open Go Go.RowKit

theorem Grew.chgL {row : Option Nat} {k : Nat} {e : TypeId} {w w' : World} (h : Grew row k e w w') : Chg row.toList w w' :=
  ⟨h.os, h.tape, h.output, h.size, fun i hi hn => by
    rcases h.block i hi with hs | ⟨hr', _⟩
    · exact hs
    · exact absurd (by rw [hr']; simp) hn⟩
theorem own_some {w : World} {B n size : Nat} {e : TypeId} {v : Value} {xs : List Value} (h : w.ownsRow B e size v n xs) (hn : 0 < n) : ∃ g cap, v = .slice (some ⟨g, 0, none⟩) n cap := by
  rcases h.2 with ⟨_, h0⟩ | ⟨g', cap, cur, rfl, _⟩
  · omega
  · exact ⟨g', cap, rfl⟩
theorem mem_own {v : Value} {g : Nat} : g ∈ v.ownBlock.toList ↔ v.ownBlock = some g := by simp [Option.mem_toList]
theorem OpsAt.push {w w6 : World} {v v6 u6 : Value} {l : List Wr} {us : List Value} {x : Wr} (h : OpsAt w v l us) (hc : Chg v.ownBlock.toList w w6) (hrow : w6.ownsRow 0 61 2 v6 (l.length + 1) (ocells l us ++ [.int .i64 x.1, u6]))
    (hu : w6.ownsRow 0 5 1 u6 x.2.length (bcells x.2)) : OpsAt w6 v6 (l ++ [x]) (us ++ [u6]) := by
  refine ⟨?_, by simp [h.len], fun i y u hy hu' => ?_⟩
  · rw [ocells_snoc _ _ _ _ h.len]
    simpa using hrow
  · by_cases hi : i < l.length
    · rw [List.getElem?_append_left (by rw [h.len]; exact hi)] at hu'
      rw [show (l ++ [x])[i]? = l[i]? from List.getElem?_append_left hi] at hy
      exact own_chgV (h.each i y u hy hu') hc fun g hg hm => by
        obtain ⟨c, hc'⟩ := h.blk (List.mem_of_getElem? hu') hg
        obtain ⟨c2, hc2⟩ := own_blkOf h.row (mem_own.1 hm)
        exact blk_ne hc' hc2 (by decide) rfl
    · have hil := (List.getElem?_eq_some_iff.1 hy).1
      simp only [List.length_append, List.length_singleton] at hil
      have hi' : i = l.length := by omega
      subst hi'
      have hy' : some x = some y := by simpa using hy
      rw [← h.len] at hu'
      have hu2 : some u6 = some u := by simpa using hu'
      cases hy'; cases hu2
      exact hu
section
variable {w w' w6 : World} {K b : Nat} {ls : List Value} {vw vt v6 u6 : Value} {us ut : List Value} {d : Dk} {x : Wr} {A : Nat → Prop}
theorem own_kind {g n B size : Nat} {cs : Array Value} {e t : TypeId} {v : Value} {xs : List Value} (h : w.ownsRow B e size v n xs) (hc : Chg [g] w w') (hg : Blk w g cs t) (hne : e ≠ t) : w'.ownsRow B e size v n xs :=
  own_chgV h hc fun k hk hm => by
    obtain ⟨c, hc'⟩ := own_blkOf h hk
    exact blk_ne hc' hg hne (List.mem_singleton.1 hm)
theorem OpsAt.kind {g : Nat} {cs : Array Value} {t : TypeId} {v : Value} {l : List Wr} {us : List Value} (h : OpsAt w v l us) (hc : Chg [g] w w') (hg : Blk w g cs t) (h1 : 61 ≠ t) (h2 : 5 ≠ t) : OpsAt w' v l us :=
  ⟨own_kind h.row hc hg h1, h.len, fun i x u hx hu => own_kind (h.each i x u hx hu) hc hg h2⟩
theorem LastAt.kind {g : Nat} {cs : Array Value} {t : TypeId} {ls : List Value} {l : List (List UInt8)} (h : LastAt w ls l) (hc : Chg [g] w w') (hg : Blk w g cs t) (h2 : 5 ≠ t) : LastAt w' ls l :=
  ⟨h.len, fun i x u hx hu => own_kind (h.each i x u hx hu) hc hg h2⟩
/-- what a row's own block is, is no block of another kind -/
theorem not_own {v : Value} {g n size : Nat} {cs : Array Value} {e t : TypeId} {xs : List Value} (h : w.ownsRow 0 e size v n xs) (hg : Blk w g cs t) (hne : t ≠ e) : g ∉ v.ownBlock.toList := fun hm => by
  obtain ⟨c, hc⟩ := own_blkOf h (mem_own.1 hm)
  exact blk_ne hg hc hne rfl
theorem OpsAt.row' {v : Value} {l : List Wr} {us : List Value} (h : OpsAt w v l us) (hc : Chg vw.ownBlock.toList w w') {m size : Nat} {xs : List Value} (hw : w.ownsRow 0 61 size vw m xs) (hn : ∀ g, vw.ownBlock = some g → v.ownBlock ≠ some g) : OpsAt w' v l us :=
  h.chg hc (fun g hg hm => hn g (mem_own.1 hm) hg) (fun u hu g hg => by
    obtain ⟨c, hc'⟩ := h.blk hu hg
    exact not_own hw hc' (by decide))
theorem LastAt.row' {l : List (List UInt8)} (h : LastAt w ls l) (hc : Chg vw.ownBlock.toList w w') {m size : Nat} {xs : List Value} (hw : w.ownsRow 0 61 size vw m xs) : LastAt w' ls l :=
  h.chg hc (fun u hu g hg => by
    obtain ⟨c, hc'⟩ := h.blk hu hg
    exact not_own hw hc' (by decide))

/-- one more waits -/
theorem DkIn.pushW (X : DkIn w K b ls vw vt us ut d) (hl : ls.length = 32) (hc : Chg vw.ownBlock.toList w w6) (hrow : w6.ownsRow 0 61 2 v6 (d.waits.length + 1) (ocells d.waits us ++ [.int .i64 x.1, u6]))
    (hu : w6.ownsRow w.heap.size 5 1 u6 x.2.length (bcells x.2)) (hv : ∀ g, v6.ownBlock = some g → vw.ownBlock = some g ∨ w.heap.size ≤ g) :
    DkIn (w6.setCell ⟨K, 33, none⟩ v6) K b ls v6 vt (us ++ [u6]) ut { d with waits := d.waits ++ [x] } := by
  have hq : Chg [K] w6 (w6.setCell ⟨K, 33, none⟩ v6) := Chg.step (by simp) _
  have bK := hc.blk X.blk (not_own X.wts.row X.blk (by decide))
  refine ⟨?_, hq.blk (hc.blk X.pw (not_own X.wts.row X.pw (by decide))) (by simpa using X.ne.1), (X.lst.row' hc X.wts.row).kind hq bK (by decide), (X.wts.push hc hrow (own_base hu (Nat.zero_le _))).kind hq bK (by decide) (by decide), (X.trc.row' hc X.wts.row X.wt).kind hq bK (by decide) (by decide), fun g hg => ?_⟩
  · have := bK.set 33 v6
    rwa [dset_33 hl] at this
  · rcases hv g hg with h | h
    · exact X.wt g h
    · intro e
      have := X.low.2.2.2 g e
      omega
/-- one more was done -/
theorem DkIn.pushT (X : DkIn w K b ls vw vt us ut d) (hl : ls.length = 32) (hc : Chg vt.ownBlock.toList w w6) (hrow : w6.ownsRow 0 61 2 v6 (d.trace.length + 1) (ocells d.trace ut ++ [.int .i64 x.1, u6]))
    (hu : w6.ownsRow 0 5 1 u6 x.2.length (bcells x.2)) (hv : ∀ g, v6.ownBlock = some g → vt.ownBlock = some g ∨ w.heap.size ≤ g) :
    DkIn (w6.setCell ⟨K, 34, none⟩ v6) K b ls vw v6 us (ut ++ [u6]) { d with trace := d.trace ++ [x] } := by
  have hq : Chg [K] w6 (w6.setCell ⟨K, 34, none⟩ v6) := Chg.step (by simp) _
  have bK := hc.blk X.blk (not_own X.trc.row X.blk (by decide))
  refine ⟨?_, hq.blk (hc.blk X.pw (not_own X.trc.row X.pw (by decide))) (by simpa using X.ne.1), (X.lst.row' hc X.trc.row).kind hq bK (by decide), (X.wts.row' hc X.trc.row (fun g h1 h2 => X.wt g h2 h1)).kind hq bK (by decide) (by decide), (X.trc.push hc hrow hu).kind hq bK (by decide) (by decide), fun g hg e => ?_⟩
  · have := bK.set 34 v6
    rwa [dset_34 hl] at this
  · rcases hv g e with h | h
    · exact X.wt g hg h
    · have := X.low.2.2.1 g hg
      omega
/-- one block lasts -/
theorem DkIn.lay (X : DkIn w K b ls vw vt us ut d) (hl : ls.length = 32) (i : Nat) (hi : i < 32) {y : List UInt8} {u : Value} (hu : w.ownsRow 0 5 1 u y.length (bcells y)) :
    DkIn (w.setCell ⟨K, 1 + i, none⟩ u) K b (ls.set i u) vw vt us ut { d with lasts := d.lasts.set i y } := by
  have hq : Chg [K] w (w.setCell ⟨K, 1 + i, none⟩ u) := Chg.step (by simp) _
  refine ⟨?_, hq.blk X.pw (by simpa using X.ne.1), (X.lst.set i hu).kind hq X.blk (by decide), X.wts.kind hq X.blk (by decide) (by decide), X.trc.kind hq X.blk (by decide) (by decide), X.wt⟩
  have := X.blk.set (1 + i) u
  rwa [dset_at hl i hi] at this
/-- nothing waits -/
theorem DkIn.clear (X : DkIn w K b ls vw vt us ut d) (hl : ls.length = 32) : DkIn (w.setCell ⟨K, 33, none⟩ (.slice none 0 0)) K b ls (.slice none 0 0) vt [] ut { d with waits := [] } := by
  have hq : Chg [K] w (w.setCell ⟨K, 33, none⟩ (.slice none 0 0)) := Chg.step (by simp) _
  refine ⟨?_, hq.blk X.pw (by simpa using X.ne.1), X.lst.kind hq X.blk (by decide), OpsAt.nil _, X.trc.kind hq X.blk (by decide) (by decide), fun g hg => by cases hg⟩
  have := X.blk.set 33 (.slice none 0 0)
  rwa [dset_33 hl] at this
theorem DkIn.refuse (X : DkIn w K b ls vw vt us ut d) (hl : ls.length = 32) (q : Bool) : DkIn (w.setCell ⟨K, 35, none⟩ (.bool q)) K b ls vw vt us ut { d with no := q } := by
  have hq : Chg [K] w (w.setCell ⟨K, 35, none⟩ (.bool q)) := Chg.step (by simp) _
  refine ⟨?_, hq.blk X.pw (by simpa using X.ne.1), X.lst.kind hq X.blk (by decide), X.wts.kind hq X.blk (by decide) (by decide), X.trc.kind hq X.blk (by decide) (by decide), X.wt⟩
  have := X.blk.set 35 (.bool q)
  rwa [dset_35 hl] at this
theorem OffD.same (O : OffD A K b ls vw vt us ut) (hc : Chg [b] w w6) : SameOn A w w6 := .of_chg hc (by simpa using O.b)
theorem OffD.sameK (O : OffD A K b ls vw vt us ut) (hc : Chg [K] w w6) : SameOn A w w6 := .of_chg hc (by simpa using O.K)
theorem OffD.sameW (O : OffD A K b ls vw vt us ut) (hc : Chg vw.ownBlock.toList w w6) : SameOn A w w6 := .of_chg hc (fun g hg => O.vw g (mem_own.1 hg))
theorem OffD.sameT (O : OffD A K b ls vw vt us ut) (hc : Chg vt.ownBlock.toList w w6) : SameOn A w w6 := .of_chg hc (fun g hg => O.vt g (mem_own.1 hg))
theorem OffD.setW (O : OffD A K b ls vw vt us ut) (hA : ∀ k, A k → k < w.heap.size) (hv : ∀ g, v6.ownBlock = some g → vw.ownBlock = some g ∨ w.heap.size ≤ g) (hu : ∀ g, u6.ownBlock = some g → w.heap.size ≤ g) : OffD A K b ls v6 vt (us ++ [u6]) ut :=
  ⟨O.K, O.b, O.ls, fun g hg ha => by
    rcases hv g hg with h | h
    · exact O.vw g h ha
    · have := hA g ha; omega, O.vt, fun u hm g hg ha => by
    rcases List.mem_append.1 hm with h | h
    · exact O.us u h g hg ha
    · rw [List.mem_singleton.1 h] at hg
      have := hu g hg; have := hA g ha; omega, O.ut⟩
theorem OffD.setT (O : OffD A K b ls vw vt us ut) (hA : ∀ k, A k → k < w.heap.size) (hv : ∀ g, v6.ownBlock = some g → vt.ownBlock = some g ∨ w.heap.size ≤ g) (hu : ∀ g, u6.ownBlock = some g → w.heap.size ≤ g) : OffD A K b ls vw v6 us (ut ++ [u6]) :=
  ⟨O.K, O.b, O.ls, O.vw, fun g hg ha => by
    rcases hv g hg with h | h
    · exact O.vt g h ha
    · have := hA g ha; omega, O.us, fun u hm g hg ha => by
    rcases List.mem_append.1 hm with h | h
    · exact O.ut u h g hg ha
    · rw [List.mem_singleton.1 h] at hg
      have := hu g hg; have := hA g ha; omega⟩
theorem OffD.lay (O : OffD A K b ls vw vt us ut) (i : Nat) {u : Value} (hu : ∀ g, u.ownBlock = some g → ¬ A g) : OffD A K b (ls.set i u) vw vt us ut :=
  ⟨O.K, O.b, fun v hv g hg => by
    rcases List.mem_or_eq_of_mem_set hv with h | h
    · exact O.ls v h g hg
    · rw [h] at hg; exact hu g hg, O.vw, O.vt, O.us, O.ut⟩
theorem OffD.clear (O : OffD A K b ls vw vt us ut) : OffD A K b ls (.slice none 0 0) vt [] ut := ⟨O.K, O.b, O.ls, (fun g hg => by cases hg), O.vt, (by simp), O.ut⟩
end
end Go.Proofs.Ytpbdncnepcibaaa
