/- What a disk is, and how it lies in memory. -/
import Derived.Test.YtpbdncnepcibaaaOpsAt
import Derived.Test.YtpbdncnepcibaaaPower
namespace Go.Proofs.Ytpbdncnepcibaaa
open Go Go.RowKit

/-- what lasts, what waits, what was done; does it refuse? -/
structure Dk where
  p : Pw
  lasts : List (List UInt8)
  waits : List Wr
  trace : List Wr
  no : Bool
def inD (x : Wr) : Prop := 0 ≤ x.1 ∧ x.1.toNat < 32 ∧ x.2.length = 32
structure Dk.ok (d : Dk) (m : Nat) : Prop where
  len : d.lasts.length = 32
  all : ∀ x ∈ d.lasts, x.length = 32
  fit : ∀ x ∈ d.waits, inD x
  fitp : ∀ x ∈ d.trace, x.2.length ≤ 60000
  few : d.waits.length ≤ m
  done : d.trace.length ≤ m
  pw : d.p.ok m

/-- a disk's cells -/
def dcells (b : Nat) (ls : List Value) (vw vt : Value) (r : Bool) : Array Value := (.pointer (some ⟨b, 0, none⟩) :: (ls ++ [vw, vt, .bool r])).toArray
section
variable {b : Nat} {ls : List Value} {vw vt : Value} {r : Bool} (hl : ls.length = 32)
theorem dcells_0 : (dcells b ls vw vt r)[0]? = some (.pointer (some ⟨b, 0, none⟩)) := by simp [dcells]
include hl
theorem dcells_33 : (dcells b ls vw vt r)[33]? = some vw := by
  simp [dcells, List.getElem?_append, hl]
theorem dcells_34 : (dcells b ls vw vt r)[34]? = some vt := by simp [dcells, List.getElem?_append, hl]
theorem dcells_35 : (dcells b ls vw vt r)[35]? = some (.bool r) := by simp [dcells, List.getElem?_append, hl]
theorem dcells_at (i : Nat) (hi : i < 32) : (dcells b ls vw vt r)[1 + i]? = ls[i]? := by
  rw [Nat.add_comm]
  simp [dcells, List.getElem?_append, hl, hi]
theorem dset_33 (v : Value) : (dcells b ls vw vt r).setIfInBounds 33 v = dcells b ls v vt r := by
  simp [dcells, List.set_append, hl]
theorem dset_34 (v : Value) : (dcells b ls vw vt r).setIfInBounds 34 v = dcells b ls vw v r := by
  simp [dcells, List.set_append, hl]
theorem dset_35 (q : Bool) : (dcells b ls vw vt r).setIfInBounds 35 (.bool q) = dcells b ls vw vt q := by
  simp [dcells, List.set_append, hl]
theorem dset_at (i : Nat) (hi : i < 32) (v : Value) : (dcells b ls vw vt r).setIfInBounds (1 + i) v = dcells b (ls.set i v) vw vt r := by
  rw [Nat.add_comm]
  simp [dcells, List.set_append, hl, hi]
end

/-- blocks that last, in memory -/
structure LastAt (w : World) (ls : List Value) (bs : List (List UInt8)) : Prop where
  len : ls.length = bs.length
  each : ∀ (i : Nat) (x : List UInt8) (u : Value), bs[i]? = some x → ls[i]? = some u → w.ownsRow 0 5 1 u x.length (bcells x)
theorem LastAt.chg {w w' : World} {ls : List Value} {xs : List (List UInt8)} {bs : List Nat} (h : LastAt w ls xs) (hc : Chg bs w w') (h1 : ∀ u ∈ ls, ∀ g, u.ownBlock = some g → g ∉ bs) : LastAt w' ls xs :=
  ⟨h.len, fun i x u hx hu => own_chgV (h.each i x u hx hu) hc (h1 u (List.mem_of_getElem? hu))⟩
theorem LastAt.kept {w w' : World} {ls : List Value} {xs : List (List UInt8)} (h : LastAt w ls xs) (hk : Kept w w') : LastAt w' ls xs := h.chg (bs := []) (Chg.of_kept hk) (by simp)
theorem LastAt.blk {w : World} {ls : List Value} {xs : List (List UInt8)} (h : LastAt w ls xs) {u : Value} (hu : u ∈ ls) {g : Nat} (hg : u.ownBlock = some g) : ∃ cur, Blk w g cur 5 := by
  obtain ⟨i, hi⟩ := List.getElem?_of_mem hu
  have hil : i < ls.length := (List.getElem?_eq_some_iff.1 hi).1
  rw [h.len] at hil
  exact own_blkOf (h.each i _ u (List.getElem?_eq_getElem hil) hi) hg
theorem LastAt.set {w : World} {ls : List Value} {xs : List (List UInt8)} (h : LastAt w ls xs) (k : Nat) {x : List UInt8} {u : Value} (hu : w.ownsRow 0 5 1 u x.length (bcells x)) : LastAt w (ls.set k u) (xs.set k x) := by
  refine ⟨by simp [h.len], fun i y v hy hv => ?_⟩
  rw [List.getElem?_set] at hy hv
  by_cases hk : k = i
  · subst hk
    rw [if_pos rfl] at hy hv
    by_cases hl : k < xs.length
    · rw [if_pos hl] at hy
      rw [if_pos (by rw [h.len]; exact hl)] at hv
      cases hy; cases hv; exact hu
    · rw [if_neg hl] at hy
      cases hy
  · rw [if_neg hk] at hy hv
    exact h.each i y v hy hv
theorem LastAt.get {w : World} {ls : List Value} {xs : List (List UInt8)} (h : LastAt w ls xs) (i : Nat) (hi : i < xs.length) : ∃ u, ls[i]? = some u ∧ u ∈ ls ∧ w.ownsRow 0 5 1 u xs[i].length (bcells xs[i]) := by
  have hu : i < ls.length := by rw [h.len]; exact hi
  exact ⟨ls[i], List.getElem?_eq_getElem hu, List.getElem_mem hu, h.each i _ _ (List.getElem?_eq_getElem hi) (List.getElem?_eq_getElem hu)⟩

/-- a disk in memory: its parts -/
structure DkIn (w : World) (K b : Nat) (ls : List Value) (vw vt : Value) (us ut : List Value) (d : Dk) : Prop where
  blk : Blk w K (dcells b ls vw vt d.no) 55
  pw : PwAt w b d.p
  lst : LastAt w ls d.lasts
  wts : OpsAt w vw d.waits us
  trc : OpsAt w vt d.trace ut
  wt : ∀ g, vw.ownBlock = some g → vt.ownBlock ≠ some g
/-- none of its blocks is one of A's -/
structure OffD (A : Nat → Prop) (K b : Nat) (ls : List Value) (vw vt : Value) (us ut : List Value) : Prop where
  K : ¬ A K
  b : ¬ A b
  ls : ∀ u ∈ ls, ∀ g, u.ownBlock = some g → ¬ A g
  vw : ∀ g, vw.ownBlock = some g → ¬ A g
  vt : ∀ g, vt.ownBlock = some g → ¬ A g
  us : ∀ u ∈ us, ∀ g, u.ownBlock = some g → ¬ A g
  ut : ∀ u ∈ ut, ∀ g, u.ownBlock = some g → ¬ A g
def DkAt (A : Nat → Prop) (w : World) (K b : Nat) (d : Dk) : Prop := ∃ ls vw vt us ut, DkIn w K b ls vw vt us ut d ∧ OffD A K b ls vw vt us ut ∧ ∀ k, A k → k < w.heap.size
section
variable {w w' : World} {K b : Nat} {ls : List Value} {vw vt : Value} {us ut : List Value} {d : Dk} {A A' : Nat → Prop}
theorem DkIn.kept (h : DkIn w K b ls vw vt us ut d) (hk : Kept w w') : DkIn w' K b ls vw vt us ut d :=
  ⟨h.blk.kept hk, Blk.kept h.pw hk, h.lst.kept hk, h.wts.kept hk, h.trc.kept hk, h.wt⟩
theorem DkIn.low (h : DkIn w K b ls vw vt us ut d) : K < w.heap.size ∧ b < w.heap.size ∧ (∀ g, vw.ownBlock = some g → g < w.heap.size) ∧ (∀ g, vt.ownBlock = some g → g < w.heap.size) :=
  ⟨h.blk.lt, Blk.lt h.pw, fun _ hg => own_ltV h.wts.row hg, fun _ hg => own_ltV h.trc.row hg⟩
theorem DkIn.ne (h : DkIn w K b ls vw vt us ut d) : b ≠ K ∧ (∀ g, vw.ownBlock = some g → g ≠ b ∧ g ≠ K) ∧ (∀ g, vt.ownBlock = some g → g ≠ b ∧ g ≠ K) ∧
    (∀ g cur, Blk w g cur 5 → g ≠ b ∧ g ≠ K ∧ vw.ownBlock ≠ some g ∧ vt.ownBlock ≠ some g) := by
  refine ⟨blk_ne h.pw h.blk (by decide), fun g hg => ?_, fun g hg => ?_, fun g cur hc => ⟨blk_ne hc h.pw (by decide), blk_ne hc h.blk (by decide), fun e => ?_, fun e => ?_⟩⟩
  · obtain ⟨c, hc⟩ := own_blkOf h.wts.row hg
    exact ⟨blk_ne hc h.pw (by decide), blk_ne hc h.blk (by decide)⟩
  · obtain ⟨c, hc⟩ := own_blkOf h.trc.row hg
    exact ⟨blk_ne hc h.pw (by decide), blk_ne hc h.blk (by decide)⟩
  · obtain ⟨c2, h2⟩ := own_blkOf h.wts.row e
    exact blk_ne hc h2 (by decide) rfl
  · obtain ⟨c2, h2⟩ := own_blkOf h.trc.row e
    exact blk_ne hc h2 (by decide) rfl
theorem DkAt.kept (h : DkAt A w K b d) (hk : Kept w w') : DkAt A w' K b d := by
  obtain ⟨ls, vw, vt, us, ut, h1, h2, h3⟩ := h
  exact ⟨ls, vw, vt, us, ut, h1.kept hk, h2, fun k hA => Nat.lt_of_lt_of_le (h3 k hA) hk.size⟩
/-- blocks more are looked at -/
theorem DkAt.more (h : DkAt A w K b d) (hk : Kept w w') (hA : ∀ k, A' k → A k ∨ w.heap.size ≤ k) (hlt : ∀ k, A' k → k < w'.heap.size) : DkAt A' w' K b d := by
  obtain ⟨ls, vw, vt, us, ut, h1, h2, h3⟩ := h
  obtain ⟨l1, l2, l4, l5⟩ := h1.low
  have no : ∀ k, k < w.heap.size → ¬ A k → ¬ A' k := fun k hk hn ha => by
    rcases hA k ha with h | h
    · exact hn h
    · omega
  exact ⟨ls, vw, vt, us, ut, h1.kept hk, ⟨no _ l1 h2.K, no _ l2 h2.b, fun u hu g hg => no _ (by obtain ⟨c, hc⟩ := h1.lst.blk hu hg; exact hc.lt) (h2.ls u hu g hg), fun g hg => no _ (l4 g hg) (h2.vw g hg), fun g hg => no _ (l5 g hg) (h2.vt g hg), fun u hu g hg => no _ (by obtain ⟨c, hc⟩ := h1.wts.blk hu hg; exact hc.lt) (h2.us u hu g hg), fun u hu g hg => no _ (by obtain ⟨c, hc⟩ := h1.trc.blk hu hg; exact hc.lt) (h2.ut u hu g hg)⟩, hlt⟩
/-- what is written to A's blocks does not matter to it -/
theorem DkAt.chg {bs : List Nat} (h : DkAt A w K b d) (hc : Chg bs w w') (hb : ∀ x ∈ bs, A x) : DkAt A w' K b d := by
  obtain ⟨ls, vw, vt, us, ut, X, O, h3⟩ := h
  have no : ∀ g, ¬ A g → g ∉ bs := fun g hn hm => hn (hb g hm)
  exact ⟨ls, vw, vt, us, ut, ⟨hc.blk X.blk (no _ O.K), hc.blk X.pw (no _ O.b), X.lst.chg hc (fun u hu g hg => no _ (O.ls u hu g hg)),
    X.wts.chg hc (fun g hg => no _ (O.vw g hg)) (fun u hu g hg => no _ (O.us u hu g hg)),
    X.trc.chg hc (fun g hg => no _ (O.vt g hg)) (fun u hu g hg => no _ (O.ut u hu g hg)), X.wt⟩, O, fun k ha => Nat.lt_of_lt_of_le (h3 k ha) hc.size⟩
theorem DkIn.chgB {bs : List Nat} (X : DkIn w K b ls vw vt us ut d) (hc : Chg bs w w') (hk : ∀ g ∈ bs, g = K ∨ g = b) :
    LastAt w' ls d.lasts ∧ OpsAt w' vw d.waits us ∧ OpsAt w' vt d.trace ut := by
  obtain ⟨n1, n2, n3, n4⟩ := X.ne
  have nb : ∀ g cur, Blk w g cur 5 → g ∉ bs := fun g cur h hm => by
    have := n4 g cur h
    rcases hk g hm with e | e
    · exact this.2.1 e
    · exact this.1 e
  refine ⟨X.lst.chg hc (fun u hu g hg => ?_), X.wts.chg hc (fun g hg hm => ?_) (fun u hu g hg => ?_), X.trc.chg hc (fun g hg hm => ?_) (fun u hu g hg => ?_)⟩
  · obtain ⟨c, hc'⟩ := X.lst.blk hu hg
    exact nb g c hc'
  · have := n2 g hg
    rcases hk g hm with e | e
    · exact this.2 e
    · exact this.1 e
  · obtain ⟨c, hc'⟩ := X.wts.blk hu hg
    exact nb g c hc'
  · have := n3 g hg
    rcases hk g hm with e | e
    · exact this.2 e
    · exact this.1 e
  · obtain ⟨c, hc'⟩ := X.trc.blk hu hg
    exact nb g c hc'
theorem DkIn.power (X : DkIn w K b ls vw vt us ut d) {p' : Pw} (hc : Chg [b] w w') (hp : PwAt w' b p') : DkIn w' K b ls vw vt us ut { d with p := p' } := by
  obtain ⟨h1, h2, h3⟩ := X.chgB hc (by simp)
  exact ⟨hc.blk X.blk (by simpa using X.ne.1.symm), hp, h1, h2, h3, X.wt⟩
theorem DkAt.power (X : DkAt A w K b d) {p' : Pw} (hc : Chg [b] w w') (hp : PwAt w' b p') : DkAt A w' K b { d with p := p' } := by
  obtain ⟨ls, vw, vt, us, ut, X, O, h3⟩ := X
  exact ⟨ls, vw, vt, us, ut, X.power hc hp, O, fun k ha => Nat.lt_of_lt_of_le (h3 k ha) hc.size⟩
theorem DkAt.pw (X : DkAt A w K b d) : PwAt w b d.p := by
  obtain ⟨ls, vw, vt, us, ut, X, O, h3⟩ := X
  exact X.pw
theorem DkAt.off (X : DkAt A w K b d) : ¬ A b ∧ ¬ A K ∧ ∀ k, A k → k < w.heap.size := by
  obtain ⟨ls, vw, vt, us, ut, X, O, h3⟩ := X
  exact ⟨O.b, O.K, h3⟩
end
end Go.Proofs.Ytpbdncnepcibaaa
