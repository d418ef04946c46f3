/- Rows of Ops (a place, and bytes) in memory. -/
import Derived.Test.YtpbdncnepcibaaaClone
import Derived.Test.YtpbdncnepcibaaaChainC
import Derived.Test.YtpbdncnepcibaaaApp
import Derived.Test.YtpbdncnepcibaaaCopy
namespace Go.Proofs.Ytpbdncnepcibaaa
open Go Go.RowKit

abbrev Wr := Int × List UInt8
def ocells : List Wr → List Value → List Value
  | x :: l, u :: us => .int .i64 x.1 :: u :: ocells l us
  | _, _ => []
theorem ocells_length : ∀ (l : List Wr) (us : List Value), us.length = l.length → (ocells l us).length = l.length * 2
  | [], _, _ => by simp [ocells]
  | x :: l, [], h => by simp at h
  | x :: l, u :: us, h => by
    have := ocells_length l us (by simpa using h)
    simp [ocells, this]; omega
theorem ocells_get : ∀ (l : List Wr) (us : List Value) (i : Nat) (x : Wr) (u : Value), l[i]? = some x → us[i]? = some u → (ocells l us)[i * 2]? = some (.int .i64 x.1) ∧ (ocells l us)[i * 2 + 1]? = some u
  | [], _, i, x, u, h, _ => by simp at h
  | _ :: _, [], i, x, u, _, h => by simp at h
  | y :: l, v :: us, 0, x, u, h, k => by
    simp at h k
    subst h; subst k
    simp [ocells]
  | y :: l, v :: us, i + 1, x, u, h, k => by
    have := ocells_get l us i x u (by simpa using h) (by simpa using k)
    rw [show (i + 1) * 2 = i * 2 + 1 + 1 by omega]
    simpa [ocells] using this
theorem ocells_snoc : ∀ (l : List Wr) (us : List Value) (x : Wr) (u : Value), us.length = l.length → ocells (l ++ [x]) (us ++ [u]) = ocells l us ++ [.int .i64 x.1, u]
  | [], [], x, u, _ => by simp [ocells]
  | [], _ :: _, x, u, h => by simp at h
  | _ :: _, [], x, u, h => by simp at h
  | y :: l, v :: us, x, u, h => by
    have := ocells_snoc l us x u (by simpa using h)
    simp [ocells, this]

/-- the block of a row of the call's own, and its kind -/
theorem own_blkOf {w : World} {B n size g : Nat} {e : TypeId} {v : Value} {xs : List Value} (h : w.ownsRow B e size v n xs) (hg : v.ownBlock = some g) : ∃ cur, Blk w g cur e := by
  rcases h.2 with ⟨rfl, _⟩ | ⟨g', cap, cur, rfl, _, hb, _⟩
  · cases hg
  · cases hg; exact ⟨cur, hb⟩
theorem own_chgV {w w' : World} {bs : List Nat} {B n size : Nat} {e : TypeId} {v : Value} {xs : List Value} (h : w.ownsRow B e size v n xs) (hc : Chg bs w w') (hn : ∀ g, v.ownBlock = some g → g ∉ bs) : w'.ownsRow B e size v n xs := by
  refine ⟨h.1, ?_⟩
  rcases h.2 with h0 | ⟨g', cap', cur, rfl, hB, hb, r⟩
  · exact .inl h0
  · exact .inr ⟨g', cap', cur, rfl, hB, hc.blk hb (hn g' rfl), r⟩
theorem blk_ne {w : World} {a b : Nat} {cs ds : Array Value} {t u : TypeId} (h : Blk w a cs t) (k : Blk w b ds u) (hne : t ≠ u) : a ≠ b := by
  intro e; subst e
  unfold Blk at h k
  rw [h] at k
  cases k; exact hne rfl
theorem own_ltV {w : World} {B n size g : Nat} {e : TypeId} {v : Value} {xs : List Value} (h : w.ownsRow B e size v n xs) (hg : v.ownBlock = some g) : g < w.heap.size := by
  obtain ⟨c, hc⟩ := own_blkOf h hg
  exact hc.lt
theorem own_geV {w : World} {B n size g : Nat} {e : TypeId} {v : Value} {xs : List Value} (h : w.ownsRow B e size v n xs) (hg : v.ownBlock = some g) : B ≤ g := by
  rcases h.2 with ⟨rfl, _⟩ | ⟨g', cap, cur, rfl, hB, hb, _⟩
  · cases hg
  · cases hg; exact hB

/-- the row v of Ops: each place, and bytes of the row's own -/
structure OpsAt (w : World) (v : Value) (l : List Wr) (us : List Value) : Prop where
  row : w.ownsRow 0 61 2 v l.length (ocells l us)
  len : us.length = l.length
  each : ∀ (i : Nat) (x : Wr) (u : Value), l[i]? = some x → us[i]? = some u → w.ownsRow 0 5 1 u x.2.length (bcells x.2)
theorem OpsAt.nil (w : World) : OpsAt w (.slice none 0 0) [] [] := ⟨⟨rfl, .inl ⟨rfl, rfl⟩⟩, rfl, by simp⟩
theorem OpsAt.chg {w w' : World} {v : Value} {l : List Wr} {us : List Value} {bs : List Nat} (h : OpsAt w v l us) (hc : Chg bs w w') (h1 : ∀ g, v.ownBlock = some g → g ∉ bs) (h2 : ∀ u ∈ us, ∀ g, u.ownBlock = some g → g ∉ bs) : OpsAt w' v l us :=
  ⟨own_chgV h.row hc h1, h.len, fun i x u hx hu => own_chgV (h.each i x u hx hu) hc (h2 u (List.mem_of_getElem? hu))⟩
theorem OpsAt.kept {w w' : World} {v : Value} {l : List Wr} {us : List Value} (h : OpsAt w v l us) (hk : Kept w w') : OpsAt w' v l us :=
  h.chg (bs := []) (Chg.of_kept hk) (by simp) (by simp)
/-- where its bytes lie there are bytes -/
theorem OpsAt.blk {w : World} {v : Value} {l : List Wr} {us : List Value} (h : OpsAt w v l us) {u : Value} (hu : u ∈ us) {g : Nat} (hg : u.ownBlock = some g) : ∃ cur, Blk w g cur 5 := by
  obtain ⟨i, hi⟩ := List.getElem?_of_mem hu
  have hil : i < us.length := (List.getElem?_eq_some_iff.1 hi).1
  rw [h.len] at hil
  exact own_blkOf (h.each i _ u (List.getElem?_eq_getElem hil) hi) hg
/-- one Op read -/
theorem OpsAt.get {w : World} {v : Value} {l : List Wr} {us : List Value} (h : OpsAt w v l us) (i : Nat) (hi : i < l.length) : ∃ g cap u, v = .slice (some ⟨g, 0, none⟩) l.length cap ∧ us[i]? = some u ∧ w.cell? ⟨g, i * 2, none⟩ = some (.int .i64 l[i].1) ∧ w.cell? ⟨g, i * 2 + 1, none⟩ = some u ∧ Sl w u l[i].2.length (bcells l[i].2) := by
  have hu : i < us.length := by rw [h.len]; exact hi
  obtain ⟨h1, h2⟩ := ocells_get l us i l[i] us[i] (List.getElem?_eq_getElem hi) (List.getElem?_eq_getElem hu)
  obtain ⟨b, off, cap, e, _, _, _, hx⟩ := (Sl.of_own h.row).at (by rw [ocells_length l us h.len]; omega)
  have hoff : ∃ g, v = .slice (some ⟨g, 0, none⟩) l.length cap ∧ b = g ∧ off = 0 := by
    rcases h.row.2 with ⟨_, h0⟩ | ⟨g', cap', cur, e', _⟩
    · omega
    · rw [e] at e'
      cases e'
      exact ⟨b, e, rfl, rfl⟩
  obtain ⟨g, hv, rfl, rfl⟩ := hoff
  refine ⟨b, cap, us[i], hv, List.getElem?_eq_getElem hu, ?_, ?_, Sl.of_own (h.each i _ _ (List.getElem?_eq_getElem hi) (List.getElem?_eq_getElem hu))⟩
  · have := hx _ _ h1; rwa [Nat.zero_add] at this
  · have := hx _ _ h2; rwa [Nat.zero_add] at this
theorem OpsAt.slice {w : World} {v : Value} {l : List Wr} {us : List Value} (h : OpsAt w v l us) : ∃ a cap, v = .slice a l.length cap := (Sl.of_own h.row).len

/-- what others see: all that A names is as it was -/
structure SameOn (A : Nat → Prop) (w w' : World) : Prop where
  os : w'.os = w.os
  tape : w'.tape = w.tape
  output : w'.output = w.output
  size : w.heap.size ≤ w'.heap.size
  block : ∀ k, k < w.heap.size → A k → w'.heap[k]? = w.heap[k]?
section
variable {A : Nat → Prop} {w w' w'' : World}
theorem SameOn.refl (w : World) : SameOn A w w := ⟨rfl, rfl, rfl, Nat.le_refl _, fun _ _ _ => rfl⟩
theorem SameOn.trans (h : SameOn A w w') (k : SameOn A w' w'') : SameOn A w w'' :=
  ⟨k.os.trans h.os, k.tape.trans h.tape, k.output.trans h.output, Nat.le_trans h.size k.size, fun i hi hA => (k.block i (Nat.lt_of_lt_of_le hi h.size) hA).trans (h.block i hi hA)⟩
theorem SameOn.of_kept (h : Kept w w') : SameOn A w w' := ⟨h.os, h.tape, h.output, h.size, fun k hk _ => h.block k hk⟩
theorem SameOn.of_chg {bs : List Nat} (h : Chg bs w w') (hn : ∀ b ∈ bs, ¬ A b) : SameOn A w w' := ⟨h.os, h.tape, h.output, h.size, fun k hk hA => h.block k hk fun hm => hn k hm hA⟩
theorem SameOn.mono {A' : Nat → Prop} (h : SameOn A w w') (ha : ∀ k, A' k → A k) : SameOn A' w w' := ⟨h.os, h.tape, h.output, h.size, fun k hk hA => h.block k hk (ha k hA)⟩
theorem SameOn.below {B : Nat} (h : SameOn A w w') (ha : ∀ k, k < B → A k) (hB : B ≤ w.heap.size) : Below B w w' := ⟨h.os, h.tape, h.output, h.size, fun k hk => h.block k (Nat.lt_of_lt_of_le hk hB) (ha k hk)⟩
theorem SameOn.sl {v : Value} {n : Nat} {cs : List Value} (h : SameOn A w w') (hs : Sl w v n cs) (ha : ∀ a c, v = .slice (some a) n c → 0 < cs.length → A a.block) : Sl w' v n cs := by
  rcases hs with hs | ⟨a, cap, rfl, h1, h2, h3⟩
  · exact .inl hs
  · refine .inr ⟨a, cap, rfl, h1, h2, fun j u hj => ?_⟩
    have e : (a.add j).block = a.block := by unfold Addr.add; split <;> rfl
    have hc := h3 j u hj
    have hlt : (a.add j).block < w.heap.size := World.block_lt_of_cell? w _ hc
    have hA := ha a cap rfl (by have := (List.getElem?_eq_some_iff.1 hj).1; omega)
    unfold World.cell? at hc ⊢
    rw [h.block _ hlt (by rw [e]; exact hA)]
    exact hc
theorem SameOn.own {B n size : Nat} {e : TypeId} {v : Value} {xs : List Value} (h : SameOn A w w') (hs : w.ownsRow B e size v n xs) (ha : ∀ g, v.ownBlock = some g → A g) : w'.ownsRow B e size v n xs := by
  refine ⟨hs.1, ?_⟩
  rcases hs.2 with h0 | ⟨g', cap', cur, rfl, hB, hb, r⟩
  · exact .inl h0
  · exact .inr ⟨g', cap', cur, rfl, hB, (h.block g' (Array.getElem?_eq_some_iff.1 hb).1 (ha g' rfl)).trans hb, r⟩
end
end Go.Proofs.Ytpbdncnepcibaaa
