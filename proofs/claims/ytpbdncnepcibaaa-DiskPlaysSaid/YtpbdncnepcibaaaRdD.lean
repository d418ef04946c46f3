/- The reference's disk, how it lies in memory. -/
import Derived.Test.YtpbdncnepcibaaaDiskM
import Derived.Test.YtpbdncnepcibaaaPowerR
namespace Go.Proofs.Ytpbdncnepcibaaa
open Go Go.RowKit

@[go_sem] theorem run_store_Str (P : Program) (w : World) (a : Addr) (m : Mode) (x : List UInt8) : (store a (Str x) m).run P w = stored P w a (Str x) m := run_store P w a _ m rfl
@[go_sem] theorem cells_Str (a : List UInt8) : (Str a).cells = #[Str a] := rfl
@[go_sem] theorem match_Str (a : List UInt8) : Value.cells.match_1 (motive := fun _ => Array Value) (Str a) (fun cs => cs) (fun v => #[v]) = #[Str a] := rfl
def RfAt (w : World) (b : Nat) (p : Pw) : Prop := ∃ l, RefAt w b p l ∧ Twin p l
theorem RfAt.blk {w : World} {b : Nat} {p : Pw} (h : RfAt w b p) : ∃ cs, Blk w b cs 43 := by
  obtain ⟨l, h, _⟩ := h
  exact ⟨_, h⟩
theorem RfAt.chg {w w' : World} {b : Nat} {p : Pw} {bs : List Nat} (h : RfAt w b p) (hc : Chg bs w w') (hn : b ∉ bs) : RfAt w' b p := by
  obtain ⟨l, h, t⟩ := h
  exact ⟨l, hc.blk h hn, t⟩
/-- the reference's disk in memory: its parts -/
structure RdIn (w : World) (K b : Nat) (vw vt : Value) (us ut : List Value) (d : Dk) : Prop where
  blk : Blk w K (dcells b (d.lasts.map Str) vw vt d.no) 50
  pw : RfAt w b d.p
  wts : OpsAt w vw d.waits us
  trc : OpsAt w vt d.trace ut
  wt : ∀ g, vw.ownBlock = some g → vt.ownBlock ≠ some g
structure OffR (A : Nat → Prop) (K b : Nat) (vw vt : Value) (us ut : List Value) : Prop where
  K : ¬ A K
  b : ¬ A b
  vw : ∀ g, vw.ownBlock = some g → ¬ A g
  vt : ∀ g, vt.ownBlock = some g → ¬ A g
  us : ∀ u ∈ us, ∀ g, u.ownBlock = some g → ¬ A g
  ut : ∀ u ∈ ut, ∀ g, u.ownBlock = some g → ¬ A g
def RdAt (A : Nat → Prop) (w : World) (K b : Nat) (d : Dk) : Prop := ∃ vw vt us ut, RdIn w K b vw vt us ut d ∧ OffR A K b vw vt us ut ∧ ∀ k, A k → k < w.heap.size
section
variable {w w' w6 : World} {K b : Nat} {vw vt v6 u6 : Value} {us ut : List Value} {d : Dk} {x : Wr} {A A' : Nat → Prop}
theorem RdIn.kept (h : RdIn w K b vw vt us ut d) (hk : Kept w w') : RdIn w' K b vw vt us ut d :=
  ⟨h.blk.kept hk, h.pw.chg (bs := []) (Chg.of_kept hk) (by simp), h.wts.kept hk, h.trc.kept hk, h.wt⟩
theorem RdIn.bK (h : RdIn w K b vw vt us ut d) : b ≠ K := by
  obtain ⟨c, hc⟩ := h.pw.blk
  exact blk_ne hc h.blk (by decide)
theorem RdIn.low (h : RdIn w K b vw vt us ut d) : K < w.heap.size ∧ b < w.heap.size ∧ (∀ g, vw.ownBlock = some g → g < w.heap.size) ∧ (∀ g, vt.ownBlock = some g → g < w.heap.size) :=
  ⟨h.blk.lt, by obtain ⟨c, hc⟩ := h.pw.blk; exact hc.lt, fun _ hg => own_ltV h.wts.row hg, fun _ hg => own_ltV h.trc.row hg⟩
theorem RdAt.kept (h : RdAt A w K b d) (hk : Kept w w') : RdAt A w' K b d := by
  obtain ⟨vw, vt, us, ut, h1, h2, h3⟩ := h
  exact ⟨vw, vt, us, ut, h1.kept hk, h2, fun k hA => Nat.lt_of_lt_of_le (h3 k hA) hk.size⟩
theorem RdIn.power (X : RdIn w K b vw vt us ut d) {p' : Pw} (hc : Chg [b] w w') (hp : RfAt w' b p') : RdIn w' K b vw vt us ut { d with p := p' } := by
  obtain ⟨c, hb⟩ := X.pw.blk
  exact ⟨hc.blk X.blk (by simpa using X.bK.symm), hp, X.wts.kind hc hb (by decide) (by decide), X.trc.kind hc hb (by decide) (by decide), X.wt⟩
theorem RdAt.power (X : RdAt A w K b d) {p' : Pw} (hc : Chg [b] w w') (hp : RfAt w' b p') : RdAt A w' K b { d with p := p' } := by
  obtain ⟨vw, vt, us, ut, X, O, h3⟩ := X
  exact ⟨vw, vt, us, ut, X.power hc hp, O, fun k ha => Nat.lt_of_lt_of_le (h3 k ha) hc.size⟩
theorem RdAt.pw (X : RdAt A w K b d) : RfAt w b d.p := by
  obtain ⟨vw, vt, us, ut, X, O, h3⟩ := X
  exact X.pw
theorem RdAt.off (X : RdAt A w K b d) : ¬ A b ∧ ¬ A K := by
  obtain ⟨vw, vt, us, ut, X, O, h3⟩ := X
  exact ⟨O.b, O.K⟩
theorem not_own2 {v1 v2 : Value} {g n1 n2 size : Nat} {cs : Array Value} {e t : TypeId} {xs1 xs2 : List Value} (h1 : w.ownsRow 0 e size v1 n1 xs1) (h2 : w.ownsRow 0 e size v2 n2 xs2) (hg : Blk w g cs t) (hne : t ≠ e) : g ∉ v1.ownBlock.toList ++ v2.ownBlock.toList := fun hm => by
  rcases List.mem_append.1 hm with h | h
  · exact not_own h1 hg hne h
  · exact not_own h2 hg hne h
/-- one more waits, and was done -/
theorem RdIn.push (X : RdIn w K b vw vt us ut d) (hl : d.lasts.length = 32) {v7 : Value} (hc : Chg (vw.ownBlock.toList ++ vt.ownBlock.toList) w w6) (hrow : w6.ownsRow 0 61 2 v6 (d.waits.length + 1) (ocells d.waits us ++ [.int .i64 x.1, u6])) (hrow2 : w6.ownsRow 0 61 2 v7 (d.trace.length + 1) (ocells d.trace ut ++ [.int .i64 x.1, u6]))
    (hu : w6.ownsRow 0 5 1 u6 x.2.length (bcells x.2)) (hne : ∀ g, v6.ownBlock = some g → v7.ownBlock ≠ some g) :
    RdIn ((w6.setCell ⟨K, 33, none⟩ v6).setCell ⟨K, 34, none⟩ v7) K b v6 v7 (us ++ [u6]) (ut ++ [u6]) { d with waits := d.waits ++ [x], trace := d.trace ++ [x] } := by
  have hm : (d.lasts.map Str).length = 32 := by simpa using hl
  have hq : Chg [K] w6 ((w6.setCell ⟨K, 33, none⟩ v6).setCell ⟨K, 34, none⟩ v7) := (Chg.step (by simp) _).trans (Chg.step (by simp) _)
  have bK := hc.blk X.blk (not_own2 X.wts.row X.trc.row X.blk (by decide))
  have hun : ∀ (l : List Wr) (us : List Value) (v : Value), OpsAt w v l us → ∀ u ∈ us, ∀ g, u.ownBlock = some g → g ∉ vw.ownBlock.toList ++ vt.ownBlock.toList := fun l us v h u hu g hg => by
    obtain ⟨c, hc'⟩ := h.blk hu hg
    exact not_own2 X.wts.row X.trc.row hc' (by decide)
  have mk : ∀ (l : List Wr) (us : List Value) (v v' : Value), OpsAt w v l us → w6.ownsRow 0 61 2 v' (l.length + 1) (ocells l us ++ [.int .i64 x.1, u6]) → OpsAt w6 v' (l ++ [x]) (us ++ [u6]) := fun l us v v' h hr => by
    refine ⟨?_, by simp [h.len], fun i y u hy hu' => ?_⟩
    · rw [ocells_snoc _ _ _ _ h.len]
      simpa using hr
    · by_cases hi : i < l.length
      · rw [List.getElem?_append_left (by rw [h.len]; exact hi)] at hu'
        rw [show (l ++ [x])[i]? = l[i]? from List.getElem?_append_left hi] at hy
        exact own_chgV (h.each i y u hy hu') hc (hun l us v h u (List.mem_of_getElem? hu'))
      · have hil := (List.getElem?_eq_some_iff.1 hy).1
        simp only [List.length_append, List.length_singleton] at hil
        have hi' : i = l.length := by omega
        subst hi'
        have hy' : some x = some y := by simpa using hy
        rw [← h.len] at hu'
        have hu2 : some u6 = some u := by simpa using hu'
        cases hy'; cases hu2
        exact hu
  refine ⟨?_, (X.pw.chg hc (by obtain ⟨c, hb⟩ := X.pw.blk; exact not_own2 X.wts.row X.trc.row hb (by decide))).chg hq (by simpa using X.bK), (mk _ _ _ _ X.wts hrow).kind hq bK (by decide) (by decide), (mk _ _ _ _ X.trc hrow2).kind hq bK (by decide) (by decide), hne⟩
  have := (bK.set 33 v6).set 34 v7
  rwa [dset_33 hm, dset_34 hm] at this
theorem RdIn.pushT (X : RdIn w K b vw vt us ut d) (hl : d.lasts.length = 32) (hc : Chg vt.ownBlock.toList w w6) (hrow : w6.ownsRow 0 61 2 v6 (d.trace.length + 1) (ocells d.trace ut ++ [.int .i64 x.1, u6]))
    (hu : w6.ownsRow 0 5 1 u6 x.2.length (bcells x.2)) (hv : ∀ g, v6.ownBlock = some g → vt.ownBlock = some g ∨ w.heap.size ≤ g) :
    RdIn (w6.setCell ⟨K, 34, none⟩ v6) K b vw v6 us (ut ++ [u6]) { d with trace := d.trace ++ [x] } := by
  have hm : (d.lasts.map Str).length = 32 := by simpa using hl
  have hq : Chg [K] w6 (w6.setCell ⟨K, 34, none⟩ v6) := Chg.step (by simp) _
  have bK := hc.blk X.blk (not_own X.trc.row X.blk (by decide))
  refine ⟨?_, (X.pw.chg hc (by obtain ⟨c, hb⟩ := X.pw.blk; exact not_own X.trc.row hb (by decide))).chg hq (by simpa using X.bK), (X.wts.row' hc X.trc.row (fun g h1 h2 => X.wt g h2 h1)).kind hq bK (by decide) (by decide), (X.trc.push hc hrow hu).kind hq bK (by decide) (by decide), fun g hg e => ?_⟩
  · have := bK.set 34 v6
    rwa [dset_34 hm] at this
  · rcases hv g e with h | h
    · exact X.wt g hg h
    · have := X.low.2.2.1 g hg
      omega
/-- one block lasts -/
theorem RdIn.lay (X : RdIn w K b vw vt us ut d) (hl : d.lasts.length = 32) (i : Nat) (hi : i < 32) (y : List UInt8) :
    RdIn (w.setCell ⟨K, 1 + i, none⟩ (Str y)) K b vw vt us ut { d with lasts := d.lasts.set i y } := by
  have hm : (d.lasts.map Str).length = 32 := by simpa using hl
  have hq : Chg [K] w (w.setCell ⟨K, 1 + i, none⟩ (Str y)) := Chg.step (by simp) _
  refine ⟨?_, X.pw.chg hq (by simpa using X.bK), X.wts.kind hq X.blk (by decide) (by decide), X.trc.kind hq X.blk (by decide) (by decide), X.wt⟩
  have := X.blk.set (1 + i) (Str y)
  rw [dset_at hm i hi] at this
  rwa [← List.map_set] at this
theorem RdIn.clear (X : RdIn w K b vw vt us ut d) (hl : d.lasts.length = 32) : RdIn (w.setCell ⟨K, 33, none⟩ (.slice none 0 0)) K b (.slice none 0 0) vt [] ut { d with waits := [] } := by
  have hm : (d.lasts.map Str).length = 32 := by simpa using hl
  have hq : Chg [K] w (w.setCell ⟨K, 33, none⟩ (.slice none 0 0)) := Chg.step (by simp) _
  refine ⟨?_, X.pw.chg hq (by simpa using X.bK), OpsAt.nil _, X.trc.kind hq X.blk (by decide) (by decide), fun g hg => by cases hg⟩
  have := X.blk.set 33 (.slice none 0 0)
  rwa [dset_33 hm] at this
theorem RdIn.refuse (X : RdIn w K b vw vt us ut d) (hl : d.lasts.length = 32) (q : Bool) : RdIn (w.setCell ⟨K, 35, none⟩ (.bool q)) K b vw vt us ut { d with no := q } := by
  have hm : (d.lasts.map Str).length = 32 := by simpa using hl
  have hq : Chg [K] w (w.setCell ⟨K, 35, none⟩ (.bool q)) := Chg.step (by simp) _
  refine ⟨?_, X.pw.chg hq (by simpa using X.bK), X.wts.kind hq X.blk (by decide) (by decide), X.trc.kind hq X.blk (by decide) (by decide), X.wt⟩
  have := X.blk.set 35 (.bool q)
  rwa [dset_35 hm] at this
theorem OffR.same (O : OffR A K b vw vt us ut) (hc : Chg [b] w w6) : SameOn A w w6 := .of_chg hc (by simpa using O.b)
theorem OffR.sameK (O : OffR A K b vw vt us ut) (hc : Chg [K] w w6) : SameOn A w w6 := .of_chg hc (by simpa using O.K)
theorem OffR.sameT (O : OffR A K b vw vt us ut) (hc : Chg vt.ownBlock.toList w w6) : SameOn A w w6 := .of_chg hc (fun g hg => O.vt g (mem_own.1 hg))
theorem OffR.sameWT (O : OffR A K b vw vt us ut) (hc : Chg (vw.ownBlock.toList ++ vt.ownBlock.toList) w w6) : SameOn A w w6 := .of_chg hc (fun g hg => by
  rcases List.mem_append.1 hg with h | h
  · exact O.vw g (mem_own.1 h)
  · exact O.vt g (mem_own.1 h))
theorem OffR.setT (O : OffR A K b vw vt us ut) (hA : ∀ k, A k → k < w.heap.size) (hv : ∀ g, v6.ownBlock = some g → vt.ownBlock = some g ∨ w.heap.size ≤ g) (hu : ∀ g, u6.ownBlock = some g → w.heap.size ≤ g) : OffR A K b vw v6 us (ut ++ [u6]) :=
  ⟨O.K, O.b, O.vw, fun g hg ha => by
    rcases hv g hg with h | h
    · exact O.vt g h ha
    · have := hA g ha; omega, O.us, fun u hm g hg ha => by
    rcases List.mem_append.1 hm with h | h
    · exact O.ut u h g hg ha
    · rw [List.mem_singleton.1 h] at hg
      have := hu g hg; have := hA g ha; omega⟩
theorem OffR.setW (O : OffR A K b vw vt us ut) (hA : ∀ k, A k → k < w.heap.size) (hv : ∀ g, v6.ownBlock = some g → vw.ownBlock = some g ∨ w.heap.size ≤ g) (hu : ∀ g, u6.ownBlock = some g → w.heap.size ≤ g) : OffR A K b v6 vt (us ++ [u6]) ut :=
  ⟨O.K, O.b, fun g hg ha => by
    rcases hv g hg with h | h
    · exact O.vw g h ha
    · have := hA g ha; omega, O.vt, fun u hm g hg ha => by
    rcases List.mem_append.1 hm with h | h
    · exact O.us u h g hg ha
    · rw [List.mem_singleton.1 h] at hg
      have := hu g hg; have := hA g ha; omega, O.ut⟩
theorem OffR.clear (O : OffR A K b vw vt us ut) : OffR A K b (.slice none 0 0) vt [] ut := ⟨O.K, O.b, (fun g hg => by cases hg), O.vt, (by simp), O.ut⟩
end
end Go.Proofs.Ytpbdncnepcibaaa
