/- The disk and the reference's, in one memory. -/
import Derived.Test.YtpbdncnepcibaaaRdR
import Derived.Test.YtpbdncnepcibaaaDiskT
import Derived.Test.YtpbdncnepcibaaaOpsSame
import Derived.Test.YtpbdncnepcibaaaBoolz
namespace Go.Proofs.Ytpbdncnepcibaaa
open Go Go.RowKit

theorem wp_region_chainSame {P : Program} {ops : Array Oper} {Q : Exit → Act → World → Prop} {id : Nat} {a : Act} {w : World} (A : Nat → Prop) (l : List (Nat × Nat)) (hm : P.follows .mixedOrders = true)
    (hB : (Region.noSelect ops && decide (l.length = ops.size) && chainB .any ops l l (Array.replicate ops.size false)) = true)
    (h : ∀ w0, Kept w w0 → wpChain P ops (SameOn A) Q l a w0) : (Code.region id ops true).wp P Q a w :=
  wp_region_chain (SameOn A) l hm hB (fun _ => SameOn.refl _) (fun _ _ _ h1 h2 => h1.trans h2) (h _ (Kept.drawn w))
section
variable {w w' : World} {A : Nat → Prop}
theorem SameOn.blk {g : Nat} {cs : Array Value} {t : TypeId} (h : SameOn A w w') (hb : Blk w g cs t) (ha : A g) : Blk w' g cs t := (h.block g hb.lt ha).trans hb
theorem OpsAt.sameOn {v : Value} {l : List Wr} {us : List Value} (h : OpsAt w v l us) (hs : SameOn A w w') (h1 : ∀ g, v.ownBlock = some g → A g) (h2 : ∀ u ∈ us, ∀ g, u.ownBlock = some g → A g) : OpsAt w' v l us :=
  ⟨hs.own h.row h1, h.len, fun i x u hx hu => hs.own (h.each i x u hx hu) (h2 u (List.mem_of_getElem? hu))⟩
theorem LastAt.sameOn {ls : List Value} {l : List (List UInt8)} (h : LastAt w ls l) (hs : SameOn A w w') (h2 : ∀ u ∈ ls, ∀ g, u.ownBlock = some g → A g) : LastAt w' ls l :=
  ⟨h.len, fun i x u hx hu => hs.own (h.each i x u hx hu) (h2 u (List.mem_of_getElem? hu))⟩
/-- all blocks that there are, but F's -/
def Out (F : Nat → Prop) (w : World) (k : Nat) : Prop := k < w.heap.size ∧ ¬ F k
theorem out_no {F : Nat → Prop} {k : Nat} (h : ¬ Out F w k) (hl : k < w.heap.size) : F k := Classical.byContradiction fun hn => h ⟨hl, hn⟩
theorem DkAt.frame {F : Nat → Prop} {J b : Nat} {d : Dk} (h : DkAt (Out F w) w J b d) (hs : SameOn A w w') (hA : ∀ k, k < w.heap.size → F k → A k) : DkAt (Out F w') w' J b d := by
  obtain ⟨ls, vw, vt, us, ut, X, O, _⟩ := h
  obtain ⟨l1, l2, l3, l4⟩ := X.low
  have lu : ∀ (v : Value) (l : List Wr) (us : List Value), OpsAt w v l us → ∀ u ∈ us, ∀ g, u.ownBlock = some g → g < w.heap.size := fun v l us h u hu g hg => by
    obtain ⟨c, hc⟩ := h.blk hu hg; exact hc.lt
  have ll : ∀ u ∈ ls, ∀ g, u.ownBlock = some g → g < w.heap.size := fun u hu g hg => by
    obtain ⟨c, hc⟩ := X.lst.blk hu hg; exact hc.lt
  have fin : ∀ k, k < w.heap.size → ¬ Out F w k → F k := fun k hl h => out_no h hl
  have no : ∀ k, F k → ¬ Out F w' k := fun k hf ho => ho.2 hf
  refine ⟨ls, vw, vt, us, ut, ⟨hs.blk X.blk (hA _ l1 (fin _ l1 O.K)), hs.blk X.pw (hA _ l2 (fin _ l2 O.b)), X.lst.sameOn hs (fun u hu g hg => hA _ (ll u hu g hg) (fin _ (ll u hu g hg) (O.ls u hu g hg))),
    X.wts.sameOn hs (fun g hg => hA _ (l3 g hg) (fin _ (l3 g hg) (O.vw g hg))) (fun u hu g hg => hA _ (lu _ _ _ X.wts u hu g hg) (fin _ (lu _ _ _ X.wts u hu g hg) (O.us u hu g hg))),
    X.trc.sameOn hs (fun g hg => hA _ (l4 g hg) (fin _ (l4 g hg) (O.vt g hg))) (fun u hu g hg => hA _ (lu _ _ _ X.trc u hu g hg) (fin _ (lu _ _ _ X.trc u hu g hg) (O.ut u hu g hg))), X.wt⟩,
    ⟨no _ (fin _ l1 O.K), no _ (fin _ l2 O.b), fun u hu g hg => no _ (fin _ (ll u hu g hg) (O.ls u hu g hg)), fun g hg => no _ (fin _ (l3 g hg) (O.vw g hg)), fun g hg => no _ (fin _ (l4 g hg) (O.vt g hg)),
      fun u hu g hg => no _ (fin _ (lu _ _ _ X.wts u hu g hg) (O.us u hu g hg)), fun u hu g hg => no _ (fin _ (lu _ _ _ X.trc u hu g hg) (O.ut u hu g hg))⟩, fun k h => h.1⟩
theorem RdAt.frame {F : Nat → Prop} {J b : Nat} {d : Dk} (h : RdAt (Out F w) w J b d) (hs : SameOn A w w') (hA : ∀ k, k < w.heap.size → F k → A k) : RdAt (Out F w') w' J b d := by
  obtain ⟨vw, vt, us, ut, X, O, _⟩ := h
  obtain ⟨l1, l2, l3, l4⟩ := X.low
  have lu : ∀ (v : Value) (l : List Wr) (us : List Value), OpsAt w v l us → ∀ u ∈ us, ∀ g, u.ownBlock = some g → g < w.heap.size := fun v l us h u hu g hg => by
    obtain ⟨c, hc⟩ := h.blk hu hg; exact hc.lt
  have fin : ∀ k, k < w.heap.size → ¬ Out F w k → F k := fun k hl h => out_no h hl
  have no : ∀ k, F k → ¬ Out F w' k := fun k hf ho => ho.2 hf
  refine ⟨vw, vt, us, ut, ⟨hs.blk X.blk (hA _ l1 (fin _ l1 O.K)), (by obtain ⟨l, hp, t⟩ := X.pw; exact ⟨l, hs.blk hp (hA _ l2 (fin _ l2 O.b)), t⟩),
    X.wts.sameOn hs (fun g hg => hA _ (l3 g hg) (fin _ (l3 g hg) (O.vw g hg))) (fun u hu g hg => hA _ (lu _ _ _ X.wts u hu g hg) (fin _ (lu _ _ _ X.wts u hu g hg) (O.us u hu g hg))),
    X.trc.sameOn hs (fun g hg => hA _ (l4 g hg) (fin _ (l4 g hg) (O.vt g hg))) (fun u hu g hg => hA _ (lu _ _ _ X.trc u hu g hg) (fin _ (lu _ _ _ X.trc u hu g hg) (O.ut u hu g hg))), X.wt⟩,
    ⟨no _ (fin _ l1 O.K), no _ (fin _ l2 O.b), fun g hg => no _ (fin _ (l3 g hg) (O.vw g hg)), fun g hg => no _ (fin _ (l4 g hg) (O.vt g hg)),
      fun u hu g hg => no _ (fin _ (lu _ _ _ X.wts u hu g hg) (O.us u hu g hg)), fun u hu g hg => no _ (fin _ (lu _ _ _ X.trc u hu g hg) (O.ut u hu g hg))⟩, fun k h => h.1⟩
theorem DkAt.same {A' : Nat → Prop} {J b : Nat} {d : Dk} (h : DkAt A w J b d) (ha : ∀ k, A k ↔ A' k) : DkAt A' w J b d := by
  have : A = A' := funext fun k => propext (ha k)
  rw [← this]; exact h
theorem RdAt.same {A' : Nat → Prop} {J b : Nat} {d : Dk} (h : RdAt A w J b d) (ha : ∀ k, A k ↔ A' k) : RdAt A' w J b d := by
  have : A = A' := funext fun k => propext (ha k)
  rw [← this]; exact h
end
/-- F, and what is new -/
def Fresh (F : Nat → Prop) (w w' : World) (k : Nat) : Prop := F k ∨ (w.heap.size ≤ k ∧ k < w'.heap.size)
/-- the disk and the reference's, apart -/
structure Two (w0 w : World) (J b X q : Nat) (d e : Dk) (F G : Nat → Prop) : Prop where
  a : DkAt (Out F w) w J b d
  x : RdAt (Out G w) w X q e
  fg : ∀ k, F k → ¬ G k
  fl : ∀ k, F k → w0.heap.size ≤ k ∧ k < w.heap.size
  gl : ∀ k, G k → w0.heap.size ≤ k ∧ k < w.heap.size
  bel : Kept w0 w
section
variable {w0 w w' : World} {J b X q : Nat} {d d' e e' : Dk} {F G : Nat → Prop}
theorem out_fresh {k : Nat} (hF : ∀ k, F k → k < w.heap.size) (hz : w.heap.size ≤ w'.heap.size) : Out F w k ↔ Out (Fresh F w w') w' k := by
  constructor
  · intro h
    exact ⟨Nat.lt_of_lt_of_le h.1 hz, fun hf => by
      rcases hf with hf | hf
      · exact h.2 hf
      · have := h.1; omega⟩
  · intro h
    refine ⟨Classical.byContradiction fun hn => h.2 (.inr ⟨by omega, h.1⟩), fun hf => h.2 (.inl hf)⟩
theorem Two.stepA (T : Two w0 w J b X q d e F G) (hd : DkAt (Out F w) w' J b d') (hs : SameOn (Out F w) w w') : Two w0 w' J b X q d' e (Fresh F w w') G := by
  have hz := hs.size
  refine ⟨hd.same fun k => out_fresh (fun k h => (T.fl k h).2) hz, T.x.frame hs (fun k hk hg => ⟨hk, fun hf => T.fg k hf hg⟩), fun k hf hg => ?_, fun k hf => ?_, fun k hg => ?_, T.bel.trans (hs.below (fun k hk => ⟨Nat.lt_of_lt_of_le hk T.bel.size, fun hf => by have := T.fl k hf; omega⟩) T.bel.size)⟩
  · rcases hf with hf | hf
    · exact T.fg k hf hg
    · have := T.gl k hg; omega
  · rcases hf with hf | hf
    · have := T.fl k hf; omega
    · have := T.bel.size; omega
  · have := T.gl k hg; omega
theorem Two.stepX (T : Two w0 w J b X q d e F G) (hd : RdAt (Out G w) w' X q e') (hs : SameOn (Out G w) w w') : Two w0 w' J b X q d e' F (Fresh G w w') := by
  have hz := hs.size
  refine ⟨T.a.frame hs (fun k hk hf => ⟨hk, T.fg k hf⟩), hd.same fun k => out_fresh (fun k h => (T.gl k h).2) hz, fun k hf hg => ?_, fun k hg => ?_, fun k hf => ?_, T.bel.trans (hs.below (fun k hk => ⟨Nat.lt_of_lt_of_le hk T.bel.size, fun hf => by have := T.gl k hf; omega⟩) T.bel.size)⟩
  · rcases hg with hg | hg
    · exact T.fg k hf hg
    · have := T.fl k hf; omega
  · have := T.fl k hg; omega
  · rcases hf with hf | hf
    · have := T.gl k hf; omega
    · have := T.bel.size; omega
theorem Two.kept (T : Two w0 w J b X q d e F G) (hk : Kept w w') : Two w0 w' J b X q d e F G := by
  have hs : SameOn (fun _ => True) w w' := SameOn.of_kept hk
  have hz := hk.size
  exact ⟨T.a.frame hs (fun _ _ _ => trivial), T.x.frame hs (fun _ _ _ => trivial), T.fg, fun k h => by have := T.fl k h; omega, fun k h => by have := T.gl k h; omega, Kept.of T.bel hk⟩
/-- what is there and neither's -/
theorem Two.offF (T : Two w0 w J b X q d e F G) {k : Nat} (hk : k < w0.heap.size) : Out F w k ∧ Out G w k :=
  ⟨⟨Nat.lt_of_lt_of_le hk T.bel.size, fun h => by have := T.fl k h; omega⟩, ⟨Nat.lt_of_lt_of_le hk T.bel.size, fun h => by have := T.gl k h; omega⟩⟩
theorem Two.powA (T : Two w0 w J b X q d e F G) {p' : Pw} (hc : w.grownBy w' (some b)) (hp : PwAt w' b p') : Two w0 w' J b X q { d with p := p' } e (Fresh F w w') G :=
  T.stepA (T.a.power (Chg.of_grown hc) hp) (SameOn.of_chg (Chg.of_grown hc) (by intro x hx; rw [List.mem_singleton.1 hx]; exact T.a.off.1))
theorem Two.powX (T : Two w0 w J b X q d e F G) {p' : Pw} (hc : w.grownBy w' (some q)) (hp : RfAt w' q p') : Two w0 w' J b X q d { e with p := p' } F (Fresh G w w') :=
  T.stepX (T.x.power (Chg.of_grown hc) hp) (SameOn.of_chg (Chg.of_grown hc) (by intro x hx; rw [List.mem_singleton.1 hx]; exact T.x.off.1))
end
theorem Dk.ok.mono {d : Dk} {m n : Nat} (h : d.ok m) (hmn : m ≤ n) : d.ok n :=
  ⟨h.len, h.all, h.fit, h.fitp, Nat.le_trans h.few hmn, Nat.le_trans h.done hmn, ok_mono h.pw (by omega)⟩
theorem Dk.ok.pow {d : Dk} {m : Nat} {p' : Pw} (h : d.ok m) (hp : p'.ok m) : ({ d with p := p' } : Dk).ok m := ⟨h.len, h.all, h.fit, h.fitp, h.few, h.done, hp⟩
theorem Dk.ok.refuse {d : Dk} {m : Nat} (h : d.ok m) (q : Bool) : ({ d with no := q } : Dk).ok m := ⟨h.len, h.all, h.fit, h.fitp, h.few, h.done, h.pw⟩
theorem wrote_ok2 {d : Dk} {m : Nat} {x : Wr} {p' : Pw} {r : Bool} (h : d.ok m) (hx : inD x) (hs : d.p.spend = (r, p')) : (d.wrote r p' x).ok (m + 1) := by
  have hp : p'.ok ((m + 1 : Nat) : Int) := by have := spend_ok h.pw; rw [hs] at this; simpa using this
  cases r
  · exact (h.mono (by omega)).pow hp
  · exact wrote_ok h hx hp
theorem barred_ok2 {d : Dk} {m : Nat} {p' : Pw} {r : Bool} (h : d.ok m) (hs : d.p.spend = (r, p')) : (d.barred r p').ok (m + 1) := by
  have hp : p'.ok ((m + 1 : Nat) : Int) := by have := spend_ok h.pw; rw [hs] at this; simpa using this
  cases r
  · exact (h.mono (by omega)).pow hp
  · exact barred_ok h hp
end Go.Proofs.Ytpbdncnepcibaaa
