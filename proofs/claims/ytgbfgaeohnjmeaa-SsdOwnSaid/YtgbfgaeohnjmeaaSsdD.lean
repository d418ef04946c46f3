/- What an SSD is, and how it lies in memory. -/
import Derived.Test.YtgbfgaeohnjmeaaOpsAt
import Derived.Test.YtgbfgaeohnjmeaaPower
namespace Go.Proofs.Ytgbfgaeohnjmeaa
open Go Go.RowKit

/-- bytes laid over others -/
def layB (b : List UInt8) (x : Wr) : List UInt8 := b.take x.1.toNat ++ x.2 ++ b.drop (x.1.toNat + x.2.length)
def inB (n : Nat) (x : Wr) : Prop := 0 ≤ x.1 ∧ x.1.toNat < n ∧ x.1.toNat + x.2.length ≤ n
theorem layB_length (b : List UInt8) (x : Wr) (h : inB b.length x) : (layB b x).length = b.length := by
  obtain ⟨h1, h2⟩ := h
  simp [layB]; omega
def layAll (b : List UInt8) (l : List Wr) : List UInt8 := l.foldl layB b
theorem layAll_snoc (b : List UInt8) (l : List Wr) (x : Wr) : layAll b (l ++ [x]) = layB (layAll b l) x := by simp [layAll]
theorem layAll_length : ∀ (l : List Wr) (b : List UInt8), (∀ x ∈ l, inB b.length x) → (layAll b l).length = b.length
  | [], b, _ => rfl
  | x :: l, b, h => by
    have h1 := layB_length b x (h x (by simp))
    have := layAll_length l (layB b x) (fun y hy => by rw [h1]; exact h y (by simp [hy]))
    show (layAll (layB b x) l).length = _
    rw [this, h1]
/-- the first k of what waits, as far as it is kept -/
def layIs (b : List UInt8) (l : List Wr) (is : Nat → Bool) : Nat → List UInt8
  | 0 => b
  | k + 1 => if is k then layB (layIs b l is k) (l[k]?.getD (0, [])) else layIs b l is k
theorem layIs_length (b : List UInt8) (l : List Wr) (is : Nat → Bool) (h : ∀ x ∈ l, inB b.length x) : ∀ k, k ≤ l.length → (layIs b l is k).length = b.length
  | 0, _ => rfl
  | k + 1, hk => by
    have ih := layIs_length b l is h k (by omega)
    unfold layIs
    split
    · have hx : l[k]?.getD (0, []) = l[k] := by rw [List.getElem?_eq_getElem (by omega)]; rfl
      rw [hx, layB_length _ _ (by rw [ih]; exact h _ (List.getElem_mem _)), ih]
    · exact ih
theorem layIs_all (b : List UInt8) (l : List Wr) : ∀ k, k ≤ l.length → layIs b l (fun _ => true) k = layAll b (l.take k)
  | 0, _ => rfl
  | k + 1, hk => by
    unfold layIs
    rw [if_pos rfl, layIs_all b l k (by omega), List.take_succ_eq_append_getElem (by omega), layAll_snoc, List.getElem?_eq_getElem (by omega)]
    rfl
/-- laid over a row whose block is longer -/
theorem lay_cells (b : List UInt8) (ex : List Value) (x : Wr) (n : Nat) (hn : n = b.length) (h : inB n x) :
    (bcells b ++ ex).take x.1.toNat ++ (bcells x.2).take (min x.2.length (n - x.1.toNat)) ++ (bcells b ++ ex).drop (x.1.toNat + min x.2.length (n - x.1.toNat)) = bcells (layB b x) ++ ex := by
  obtain ⟨h1, h2⟩ := h
  subst hn
  rw [show min x.2.length (b.length - x.1.toNat) = x.2.length by omega]
  rw [List.take_of_length_le (l := bcells x.2) (by rw [bcells_length]; omega), List.take_append_of_le_length (by rw [bcells_length]; omega), List.drop_append_of_le_length (by rw [bcells_length]; omega)]
  simp [layB, bcells, List.map_take, List.map_drop]

/-- what lasts, what waits, what was done -/
structure Sd where
  p : Pw
  lasts : List UInt8
  waits : List Wr
  trace : List Wr
def Sd.snap (s : Sd) : List UInt8 := layAll s.lasts s.waits
structure Sd.ok (s : Sd) (n m : Nat) : Prop where
  len : s.lasts.length = n
  fit : ∀ x ∈ s.waits, inB n x
  fitp : ∀ x ∈ s.trace, x.2.length ≤ 60000
  few : s.waits.length ≤ m
  done : s.trace.length ≤ m
  pw : s.p.ok m
theorem Sd.snap_length {s : Sd} {n m : Nat} (h : s.ok n m) : s.snap.length = n := by
  rw [← h.len]
  exact layAll_length _ _ (fun x hx => by rw [h.len]; exact h.fit x hx)

/-- an SSD in memory: its parts -/
structure SdIn (w : World) (K b gl : Nat) (cap : Nat) (ex : List Value) (vw vt : Value) (us ut : List Value) (s : Sd) : Prop where
  blk : Blk w K #[.pointer (some ⟨b, 0, none⟩), .slice (some ⟨gl, 0, none⟩) s.lasts.length cap, vw, vt] 45
  pw : PwAt w b s.p
  lst : Blk w gl (bcells s.lasts ++ ex).toArray 5
  hcap : s.lasts.length + ex.length = cap
  most : cap ≤ maxLen
  wts : OpsAt w vw s.waits us
  trc : OpsAt w vt s.trace ut
  wne : ∀ u ∈ us, u.ownBlock ≠ some gl
  tne : ∀ u ∈ ut, u.ownBlock ≠ some gl
  wt : ∀ g, vw.ownBlock = some g → vt.ownBlock ≠ some g
/-- none of its blocks that it may write is one of A's -/
structure Off (A : Nat → Prop) (K b gl : Nat) (vw vt : Value) (us ut : List Value) : Prop where
  K : ¬ A K
  b : ¬ A b
  gl : ¬ A gl
  vw : ∀ g, vw.ownBlock = some g → ¬ A g
  vt : ∀ g, vt.ownBlock = some g → ¬ A g
  us : ∀ u ∈ us, ∀ g, u.ownBlock = some g → ¬ A g
  ut : ∀ u ∈ ut, ∀ g, u.ownBlock = some g → ¬ A g
def SdAt (A : Nat → Prop) (w : World) (K : Nat) (s : Sd) : Prop := ∃ b gl cap ex vw vt us ut, SdIn w K b gl cap ex vw vt us ut s ∧ Off A K b gl vw vt us ut ∧ ∀ k, A k → k < w.heap.size
section
variable {w w' : World} {K b gl cap : Nat} {ex : List Value} {vw vt : Value} {us ut : List Value} {s : Sd} {A A' : Nat → Prop}
theorem SdIn.kept (h : SdIn w K b gl cap ex vw vt us ut s) (hk : Kept w w') : SdIn w' K b gl cap ex vw vt us ut s :=
  ⟨h.blk.kept hk, Blk.kept h.pw hk, h.lst.kept hk, h.hcap, h.most, h.wts.kept hk, h.trc.kept hk, h.wne, h.tne, h.wt⟩
theorem SdIn.low (h : SdIn w K b gl cap ex vw vt us ut s) : K < w.heap.size ∧ b < w.heap.size ∧ gl < w.heap.size ∧ (∀ g, vw.ownBlock = some g → g < w.heap.size) ∧ (∀ g, vt.ownBlock = some g → g < w.heap.size) :=
  ⟨h.blk.lt, Blk.lt h.pw, h.lst.lt, fun _ hg => own_ltV h.wts.row hg, fun _ hg => own_ltV h.trc.row hg⟩
/-- the kinds of its blocks tell them apart -/
theorem SdIn.ne (h : SdIn w K b gl cap ex vw vt us ut s) : b ≠ K ∧ b ≠ gl ∧ K ≠ gl ∧ (∀ g, vw.ownBlock = some g → g ≠ b ∧ g ≠ K ∧ g ≠ gl) ∧ (∀ g, vt.ownBlock = some g → g ≠ b ∧ g ≠ K ∧ g ≠ gl) ∧
    (∀ u ∈ us, ∀ g, u.ownBlock = some g → g ≠ b ∧ g ≠ K ∧ g ≠ gl ∧ vw.ownBlock ≠ some g ∧ vt.ownBlock ≠ some g) ∧ (∀ u ∈ ut, ∀ g, u.ownBlock = some g → g ≠ b ∧ g ≠ K ∧ g ≠ gl ∧ vw.ownBlock ≠ some g ∧ vt.ownBlock ≠ some g) := by
  have hu : ∀ g cur, Blk w g cur 5 → g ≠ b ∧ g ≠ K ∧ vw.ownBlock ≠ some g ∧ vt.ownBlock ≠ some g := fun g cur hc => by
    refine ⟨blk_ne hc h.pw (by decide), blk_ne hc h.blk (by decide), fun e => ?_, fun e => ?_⟩
    · obtain ⟨c2, h2⟩ := own_blkOf h.wts.row e
      exact blk_ne hc h2 (by decide) rfl
    · obtain ⟨c2, h2⟩ := own_blkOf h.trc.row e
      exact blk_ne hc h2 (by decide) rfl
  refine ⟨blk_ne h.pw h.blk (by decide), blk_ne h.pw h.lst (by decide), blk_ne h.blk h.lst (by decide), fun g hg => ?_, fun g hg => ?_, fun u hu' g hg => ?_, fun u hu' g hg => ?_⟩
  · obtain ⟨c, hc⟩ := own_blkOf h.wts.row hg
    exact ⟨blk_ne hc h.pw (by decide), blk_ne hc h.blk (by decide), blk_ne hc h.lst (by decide)⟩
  · obtain ⟨c, hc⟩ := own_blkOf h.trc.row hg
    exact ⟨blk_ne hc h.pw (by decide), blk_ne hc h.blk (by decide), blk_ne hc h.lst (by decide)⟩
  · obtain ⟨c, hc⟩ := h.wts.blk hu' hg
    obtain ⟨h1, h2, h3, h4⟩ := hu g c hc
    exact ⟨h1, h2, fun e => h.wne u hu' (by rw [hg, e]), h3, h4⟩
  · obtain ⟨c, hc⟩ := h.trc.blk hu' hg
    obtain ⟨h1, h2, h3, h4⟩ := hu g c hc
    exact ⟨h1, h2, fun e => h.tne u hu' (by rw [hg, e]), h3, h4⟩
theorem SdAt.kept (h : SdAt A w K s) (hk : Kept w w') : SdAt A w' K s := by
  obtain ⟨b, gl, cap, ex, vw, vt, us, ut, h1, h2, h3⟩ := h
  exact ⟨b, gl, cap, ex, vw, vt, us, ut, h1.kept hk, h2, fun k hA => Nat.lt_of_lt_of_le (h3 k hA) hk.size⟩
/-- one block more is looked at -/
theorem SdAt.more (h : SdAt A w K s) (hk : Kept w w') (hA : ∀ k, A' k → A k ∨ w.heap.size ≤ k) (hlt : ∀ k, A' k → k < w'.heap.size) : SdAt A' w' K s := by
  obtain ⟨b, gl, cap, ex, vw, vt, us, ut, h1, h2, h3⟩ := h
  obtain ⟨l1, l2, l3, l4, l5⟩ := h1.low
  have no : ∀ k, k < w.heap.size → ¬ A k → ¬ A' k := fun k hk hn ha => by
    rcases hA k ha with h | h
    · exact hn h
    · omega
  exact ⟨b, gl, cap, ex, vw, vt, us, ut, h1.kept hk, ⟨no _ l1 h2.K, no _ l2 h2.b, no _ l3 h2.gl, fun g hg => no _ (l4 g hg) (h2.vw g hg), fun g hg => no _ (l5 g hg) (h2.vt g hg), fun u hu g hg => no _ (by obtain ⟨c, hc⟩ := h1.wts.blk hu hg; exact hc.lt) (h2.us u hu g hg), fun u hu g hg => no _ (by obtain ⟨c, hc⟩ := h1.trc.blk hu hg; exact hc.lt) (h2.ut u hu g hg)⟩, hlt⟩
/-- what is written to A's blocks does not matter to it -/
theorem SdAt.chg {bs : List Nat} (h : SdAt A w K s) (hc : Chg bs w w') (hb : ∀ x ∈ bs, A x) : SdAt A w' K s := by
  obtain ⟨b, gl, cap, ex, vw, vt, us, ut, X, O, h3⟩ := h
  have no : ∀ g, ¬ A g → g ∉ bs := fun g hn hm => hn (hb g hm)
  exact ⟨b, gl, cap, ex, vw, vt, us, ut, ⟨hc.blk X.blk (no _ O.K), hc.blk X.pw (no _ O.b), hc.blk X.lst (no _ O.gl), X.hcap, X.most,
    X.wts.chg hc (fun g hg => no _ (O.vw g hg)) (fun u hu g hg => no _ (O.us u hu g hg)),
    X.trc.chg hc (fun g hg => no _ (O.vt g hg)) (fun u hu g hg => no _ (O.ut u hu g hg)), X.wne, X.tne, X.wt⟩, O, fun k ha => Nat.lt_of_lt_of_le (h3 k ha) hc.size⟩
end
end Go.Proofs.Ytgbfgaeohnjmeaa
