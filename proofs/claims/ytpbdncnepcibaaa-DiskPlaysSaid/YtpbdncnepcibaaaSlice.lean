/- Slices: what one reads as, what a call's own one holds; append, make, conversion to a string, strings. No function of the program is named here. -/
import Derived.Test.YtpbdncnepcibaaaRegion
import Derived.Maps.AppendAt
import Derived.Laws.BytesArg
import Derived.WalkLawsBesides
namespace Go.Proofs.Ytpbdncnepcibaaa
open Go Go.RowKit

def bcells (bs : List UInt8) : List Value := bs.map V8
theorem bcells_length (bs : List UInt8) : (bcells bs).length = bs.length := by simp [bcells]
theorem bcells_append (a b : List UInt8) : bcells (a ++ b) = bcells a ++ bcells b := by simp [bcells]
theorem bcells_get (bs : List UInt8) (i : Nat) (h : i < bs.length) : (bcells bs)[i]? = some (V8 bs[i]) := by simp [bcells, h]

def ucells (l : List (BitVec 64)) : List Value := l.map U

def pcells (l : List Pair) : List Value := l.flatMap fun p => [U p.1, U p.2]
theorem pcells_length (l : List Pair) : (pcells l).length = l.length * 2 := by
  induction l with
  | nil => rfl
  | cons p l ih => simp only [pcells, List.flatMap_cons, List.length_append] at *; rw [ih]; simp; omega
theorem pcells_append (a b : List Pair) : pcells (a ++ b) = pcells a ++ pcells b := by simp [pcells]
theorem pcells_get (l : List Pair) (i : Nat) (h : i < l.length) : (pcells l)[i * 2]? = some (U l[i].1) ∧ (pcells l)[i * 2 + 1]? = some (U l[i].2) := by
  induction l generalizing i with
  | nil => simp at h
  | cons p l ih =>
    cases i with
    | zero => simp [pcells]
    | succ i =>
      have := ih i (by simpa using h)
      have e : pcells (p :: l) = U p.1 :: U p.2 :: pcells l := by simp [pcells]
      rw [e, show (i + 1) * 2 = (i * 2 + 1) + 1 by omega]
      simpa using this

/-- the slice v of n elements reads, in w, as the cells cs -/
def Sl (w : World) (v : Value) (n : Nat) (cs : List Value) : Prop :=
  (v = .slice none 0 0 ∧ n = 0 ∧ cs = []) ∨
  ∃ a cap, v = .slice (some a) n cap ∧ n ≤ cap ∧ cap ≤ maxLen ∧ ∀ j u, cs[j]? = some u → w.cell? (a.add j) = some u

theorem add_off (b off j : Nat) : (⟨b, off, none⟩ : Addr).add j = ⟨b, off + j, none⟩ := by unfold Addr.add; split <;> simp_all

section
variable {w w' : World} {v : Value} {n : Nat} {cs : List Value} {B : Nat} {e : TypeId} {size : Nat}
theorem Sl.nil (w : World) : Sl w (.slice none 0 0) 0 [] := .inl ⟨rfl, rfl, rfl⟩
/-- where a slice that is not empty lies -/
theorem Sl.at (h : Sl w v n cs) (hc : 0 < cs.length) : ∃ b off cap, v = .slice (some ⟨b, off, none⟩) n cap ∧ n ≤ cap ∧ cap ≤ maxLen ∧ b < w.heap.size ∧ ∀ j u, cs[j]? = some u → w.cell? ⟨b, off + j, none⟩ = some u := by
  rcases h with ⟨_, _, rfl⟩ | ⟨a, cap, rfl, h1, h2, h3⟩
  · simp at hc
  · have h0 := h3 0 cs[0] (by simp [hc])
    have hspot : (a.add 0).spot = none := World.cell?_spot h0
    rw [Addr.add_zero'] at hspot h0
    obtain ⟨b, off, spot⟩ := a
    simp only at hspot
    subst hspot
    exact ⟨b, off, cap, rfl, h1, h2, World.block_lt_of_cell? w _ h0, fun j u hj => by rw [← add_off]; exact h3 j u hj⟩
theorem Sl.mk {b off cap : Nat} (h1 : n ≤ cap) (h2 : cap ≤ maxLen) (h3 : ∀ j u, cs[j]? = some u → w.cell? ⟨b, off + j, none⟩ = some u) : Sl w (.slice (some ⟨b, off, none⟩) n cap) n cs :=
  .inr ⟨⟨b, off, none⟩, cap, rfl, h1, h2, fun j u hj => by rw [add_off]; exact h3 j u hj⟩
theorem Sl.below {B : Nat} (h : Sl w v n cs) (hb : Below B w w') (hB : ∀ a c, v = .slice (some a) n c → 0 < cs.length → a.block < B) : Sl w' v n cs := by
  rcases h with h | ⟨a, cap, rfl, h1, h2, h3⟩
  · exact .inl h
  · refine .inr ⟨a, cap, rfl, h1, h2, fun j u hj => ?_⟩
    have hlt : 0 < cs.length := by
      have := (List.getElem?_eq_some_iff.1 hj).1; omega
    have e : (a.add j).block = a.block := by unfold Addr.add; split <;> rfl
    exact (hb.cell (p := a.add j) (by rw [e]; exact hB a cap rfl hlt)).trans (h3 j u hj)
theorem Sl.kept (h : Sl w v n cs) (hb : Kept w w') : Sl w' v n cs := by
  refine h.below hb fun a c hv hc => ?_
  obtain ⟨b, off, cap, e, _, _, h3, _⟩ := h.at hc
  rw [hv] at e
  cases e; exact h3
theorem Sl.of_own (h : w.ownsRow B e size v n cs) : Sl w v n cs := by
  obtain ⟨hl, h⟩ := h
  rcases h with ⟨rfl, rfl⟩ | ⟨g, cap, cur, rfl, hb, hg, hn, hc, hs, ht⟩
  · exact .inl ⟨rfl, rfl, List.eq_nil_of_length_eq_zero (by simpa using hl)⟩
  · refine Sl.mk hn hc fun j u hj => ?_
    rw [Nat.zero_add, cell_of_row w g j cur e (0, 0) hg]
    rw [← ht, List.getElem?_take] at hj
    split at hj
    · simpa using hj
    · cases hj
theorem own_kept (h : w.ownsRow B e size v n cs) (hb : Kept w w') : w'.ownsRow B e size v n cs := by
  obtain ⟨hl, h⟩ := h
  refine ⟨hl, ?_⟩
  rcases h with h | ⟨g, cap, cur, rfl, hbg, hg, hn, hc, hs, ht⟩
  · exact .inl h
  · exact .inr ⟨g, cap, cur, rfl, hbg, (hb.block g (Array.getElem?_eq_some_iff.1 hg).1).trans hg, hn, hc, hs, ht⟩
theorem own_base {B' : Nat} (h : w.ownsRow B e size v n cs) (hB : B' ≤ B) : w.ownsRow B' e size v n cs := by
  obtain ⟨hl, h⟩ := h
  refine ⟨hl, ?_⟩
  rcases h with h | ⟨g, cap, cur, rfl, hbg, rest⟩
  · exact .inl h
  · exact .inr ⟨g, cap, cur, rfl, by omega, rest⟩
theorem own_drew (h : w.ownsRow B e size v n cs) : w.drew.ownsRow B e size v n cs := h
/-- what is grown by a row of the call's own is, below that row, as it was -/
theorem below_grown {row : Option Nat} {B : Nat} (hg : w.grownBy w' row) (hr : ∀ k, row = some k → B ≤ k) (hB : B ≤ w.heap.size) : Below B w w' :=
  ⟨hg.os, hg.tape, hg.output, hg.size, fun k hk => hg.block k (by omega) (fun e => by have := hr k e.symm; omega)⟩

/-- a slice is nil, or leads somewhere; its length stands in it -/
theorem Sl.form (h : Sl w v n cs) : (v = .slice none 0 0 ∧ n = 0 ∧ cs = []) ∨ ∃ a cap, v = .slice (some a) n cap := by
  rcases h with h | ⟨a, cap, rfl, _⟩
  · exact .inl h
  · exact .inr ⟨_, _, rfl⟩
theorem Sl.len (h : Sl w v n cs) : ∃ a cap, v = .slice a n cap := by
  rcases h with ⟨rfl, rfl, _⟩ | ⟨a, cap, rfl, _⟩
  · exact ⟨none, 0, rfl⟩
  · exact ⟨_, _, rfl⟩
theorem Sl.le (h : Sl w v n cs) : n ≤ maxLen := by
  rcases h with ⟨_, rfl, _⟩ | ⟨a, cap, _, h1, h2, _⟩
  · exact Nat.zero_le _
  · exact Nat.le_trans h1 h2
end

/-- a slice type's row of the table -/
structure SlT (P : Program) (t e size bytes : Nat) (z : Value) : Prop where
  under : P.underlying t = some (.slice e)
  info : ∃ i, P.info? e = some i ∧ i.zero = some z ∧ i.size = size ∧ i.bytes = bytes
  zero : z.cells.size = size
  pos : 0 < size

section
variable {P : Program} (w : World)

theorem SlT.mk' {t e size bytes : Nat} {z : Value} (h1 : P.underlying t = some (.slice e)) (h2 : (P.info? e).map (fun i => (i.zero, i.size, i.bytes)) = some (some z, size, bytes)) (h3 : z.cells.size = size) (h4 : 0 < size) : SlT P t e size bytes z := by
  refine ⟨h1, ?_, h3, h4⟩
  cases h : P.info? e with
  | none => rw [h] at h2; cases h2
  | some i => rw [h] at h2; simp at h2; exact ⟨i, rfl, h2.1, h2.2.1, h2.2.2⟩

/-- append to a slice of the call's own -/
theorem run_append {t e size bytes : Nat} {z : Value} (T : SlT P t e size bytes z) (ty : TypeId) {base : Nat} {v u : Value} {n m : Nat} {xs ys : List Value}
    (hown : w.ownsRow base e size v n xs) (hu : Sl w u m ys) (hl : ys.length = m * size) (h1 : ∀ u ∈ ys, u.oneCell' = true) (h63 : n + m ≤ maxLen) (hbytes : (n + m) * bytes ≤ 140737488355328) (hbase : base ≤ w.heap.size) :
    ∃ v' w', (Builtin.append_ #[t, t] ty #[v, u]).run P w = .ok v' w' ∧ w'.ownsRow base e size v' (n + m) (xs ++ ys) ∧ w.grownBy w' v.ownBlock ∧ (v'.ownBlock = v.ownBlock ∨ v'.ownBlock = some w.heap.size) := by
  obtain ⟨i, hi, hz, hs, hb⟩ := T.info
  rcases hu with ⟨rfl, rfl, rfl⟩ | ⟨ad, cap, rfl, hc1, hc2, hc4⟩
  · refine ⟨v, w, run_append_owned_none w base t ty e i size T.under hi v n xs hown, by simpa using hown, ⟨rfl, rfl, rfl, Nat.le_refl _, fun _ _ _ => rfl⟩, .inl rfl⟩
  · obtain ⟨v', w', hr, h2, h3, _, h5⟩ := run_append_own_at w base t ty e i z size bytes T.under hi hz hs hb T.zero T.pos v n xs hown ad m cap ys hl hc4 h1 h63 hbytes hbase
    exact ⟨v', w', hr, h2, h3, h5⟩

theorem oneCell_V8 (bs : List UInt8) : ∀ u ∈ bcells bs, u.oneCell' = true := by
  intro u hu; simp [bcells] at hu; obtain ⟨x, _, rfl⟩ := hu; rfl
theorem oneCell_U (l : List (BitVec 64)) : ∀ u ∈ ucells l, u.oneCell' = true := by
  intro u hu; simp [ucells] at hu; obtain ⟨x, _, rfl⟩ := hu; rfl
theorem oneCell_pair (l : List Pair) : ∀ u ∈ pcells l, u.oneCell' = true := by
  intro u hu; simp [pcells] at hu; obtain ⟨x, y, _, rfl | rfl⟩ := hu <;> rfl

/-! ### strings -/
def Str (bs : List UInt8) : Value := .string ⟨bs.toArray⟩

theorem strOf_bytes (bs : List UInt8) : strOfNums (bs.map fun x => (x.toNat : Int)) = ⟨bs.toArray⟩ := by
  unfold strOfNums
  rw [List.map_map]
  have : (fun n : Int => UInt8.ofNat n.toNat) ∘ (fun x : UInt8 => (x.toNat : Int)) = id := by
    funext x; simp
  rw [this, List.map_id]

theorem conv_bytes {src dst e : TypeId} (hs : P.underlying src = some (.slice e)) (he : P.underlying e = some (.int .u8)) (hd : P.underlying dst = some .string) {v : Value} {bs : List UInt8}
    (h : Sl w v bs.length (bcells bs)) : (convert src dst v).run P w = .ok (Str bs) w := by
  rcases h with ⟨rfl, h0, hb⟩ | ⟨a, cap, rfl, h1, h2, h4⟩
  · have : bs = [] := List.eq_nil_of_length_eq_zero h0
    subst this
    exact run_convert_bytes_nil w src e hs he 0 0 dst hd
  · have hl : (loadCells a bs.length).run P w = .ok ((bs.map fun x => (x.toNat : Int)).map (Value.int .u8)).toArray w := by
      have hm : (bs.map fun x => (x.toNat : Int)).map (Value.int .u8) = bcells bs := by simp [bcells, V8]
      have := run_loadCells_list (P := P) w a (bcells bs) h4
      rw [hm]
      simpa [bcells_length] using this
    rw [run_convert_bytes_string w src dst e _ bs.length cap hs he hd, run_bytesToString w _ bs.length cap _ hl, foldl_push_bytes]
    have := strOf_bytes bs
    unfold strOfNums at this
    simp only [ByteArray.mk.injEq] at this
    unfold Str
    rw [this]
    simp [ByteArray.empty, ByteArray.emptyWithCapacity]
    rfl

@[go_sem] theorem binS_eql (t : TypeId) (a b : List UInt8) : binOp .eql t (Str a) (Str b) = pure (.bool (a == b)) := by
  unfold Str; rw [binOp_string_eql, ByteArray.toList_mk, ByteArray.toList_mk]
@[go_sem] theorem binS_neq (t : TypeId) (a b : List UInt8) : binOp .neq t (Str a) (Str b) = pure (.bool !(a == b)) := by
  unfold Str; rw [binOp_string_neq, ByteArray.toList_mk, ByteArray.toList_mk]
@[go_sem] theorem binS_lss (t : TypeId) (a b : List UInt8) : binOp .lss t (Str a) (Str b) = pure (.bool (Op.bytesLess a b)) := by
  unfold Str; rw [binOp_string_lss, ByteArray.toList_mk, ByteArray.toList_mk]
@[go_sem] theorem binSl_eql (t : TypeId) (a l : List UInt8) : binOp .eql t (Str a) (.string ⟨l.toArray⟩) = pure (.bool (a == l)) := binS_eql t a l
@[go_sem] theorem binSl_neq (t : TypeId) (a l : List UInt8) : binOp .neq t (Str a) (.string ⟨l.toArray⟩) = pure (.bool !(a == l)) := binS_neq t a l
@[go_sem] theorem eqGuard_at_Str (op : BinOp) (t : TypeId) (x y : Operand) (v : Value) (a : List UInt8) : eqGuard op t x y (Str a) v = pure () := by cases op <;> rfl

/-- the length of a slice -/
theorem run_len {t e : TypeId} (ty : TypeId) (ht : P.underlying t = some (.slice e)) {v : Value} {n : Nat} {cs : List Value} (h : Sl w v n cs) : (Builtin.len_ #[t] ty #[v]).run P w = .ok (.int .i64 n) w := by
  obtain ⟨a, cap, rfl⟩ := h.len
  have hel : P.elem t = e := by simp [Program.elem, ht]
  have := run_len_slice (P := P) w t ty a n cap (by rw [hel]; exact ht)
  exact this
end

/-! ### a row that is filled from its beginning on -/
section
variable {α : Type}
def fill (xs : List α) (z : α) (k : Nat) : List α := xs.take k ++ List.replicate (xs.length - k) z
theorem fill_zero (xs : List α) (z : α) : fill xs z 0 = List.replicate xs.length z := by simp [fill]
theorem fill_all (xs : List α) (z : α) : fill xs z xs.length = xs := by simp [fill]
theorem fill_length (xs : List α) (z : α) (k : Nat) (h : k ≤ xs.length) : (fill xs z k).length = xs.length := by simp [fill]; omega
theorem fill_set (xs : List α) (z : α) (k : Nat) (h : k < xs.length) : (fill xs z k).set k xs[k] = fill xs z (k + 1) := by
  unfold fill
  rw [List.set_append_right _ _ (by simp; omega)]
  have e : xs.length - k = (xs.length - (k + 1)) + 1 := by omega
  rw [e, List.replicate_succ]
  have e2 : k - (xs.take k).length = 0 := by simp; omega
  have e3 : xs.take (k + 1) = xs.take k ++ [xs[k]] := List.take_succ_eq_append_getElem h
  rw [e2, List.set_cons_zero, e3, List.append_assoc]
  rfl
theorem fill_get (xs : List α) (z : α) (k : Nat) (h : k < xs.length) : (fill xs z k)[k]? = some z := by
  unfold fill
  rw [List.getElem?_append_right (by simp; omega)]
  have : k - (xs.take k).length = 0 := by simp; omega
  rw [this, List.getElem?_replicate, if_pos (by omega)]
end

theorem bcells_set (bs : List UInt8) (k : Nat) (x : UInt8) : (bcells bs).toArray.setIfInBounds k (V8 x) = (bcells (bs.set k x)).toArray := by
  simp [bcells, List.map_set]

section
variable {P : Program} (w : World)
/-- make of bytes -/
theorem run_make_b {t e : TypeId} (T : SlT P t e 1 1 (.int .u8 0)) (k k' : IntKind) (n : Nat) (hn : n ≤ 140737488355328) :
    (Instr.makeSlice t (.int k (n : Int)) (.int k' (n : Int))).run P w = .ok (.slice (some ⟨w.heap.size, 0, none⟩) n n) (w.alloc (.cells (bcells (List.replicate n 0)).toArray e)) := by
  obtain ⟨i, hi, hz, hs, hb⟩ := T.info
  have := run_make (P := P) w t e i _ T.under hi hz k k' n n (by omega) (Int.le_refl _) (by rw [hb]; omega) (by omega)
  rw [this, hs]
  simp only [Int.toNat_natCast]
  congr 4
  apply Array.ext'
  rw [Nat.mul_one]
  show (madeCells #[Value.int .u8 0] n).toList = _
  rw [toList_madeCells_one]
  have : Value.int .u8 0 = V8 0 := rfl
  rw [this]
  simp [bcells]
theorem own_made (n : Nat) (hn : n ≤ maxLen) (e : TypeId) (bs : List UInt8) (hb : bs.length = n) {B : Nat} {w : World} (h : Blk w B (bcells bs).toArray e) {base : Nat} (hB : base ≤ B) :
    w.ownsRow base e 1 (.slice (some ⟨B, 0, none⟩) n n) n (bcells bs) :=
  ⟨by simp [bcells, hb], .inr ⟨B, n, _, rfl, hB, h, Nat.le_refl _, hn, by simp [bcells, hb], List.take_of_length_le (by simp [bcells, hb])⟩⟩
end

/-! ### append at the operation -/
section
variable {P : Program} {w : World} {ops : Array Oper} {rest : List Oper} {o : Oper} {a : Act} {Q : Exit → Act → World → Prop} {K : Act → World → Prop}

theorem wp_append {t e size bytes : Nat} {z : Value} (T : SlT P t e size bytes z) {s x : Operand} (ho : o.op = .call { callee := .builtin .append, args := #[s, x], argTypes := #[t, t] })
    {base : Nat} {v u : Value} {n m : Nat} {xs ys : List Value} (hs : a.eval s = v) (hx : a.eval x = u)
    (hown : w.ownsRow base e size v n xs) (hu : Sl w u m ys) (hl : ys.length = m * size) (h1 : ∀ u ∈ ys, u.oneCell' = true) (h63 : n + m ≤ maxLen) (hbytes : (n + m) * bytes ≤ 140737488355328) (hbase : base ≤ w.heap.size)
    (h : ∀ v' w', w'.ownsRow base e size v' (n + m) (xs ++ ys) → w.grownBy w' v.ownBlock → (v'.ownBlock = v.ownBlock ∨ v'.ownBlock = some w.heap.size) → K (a.put o.dst v') w') : o.wp P a w K Q := by
  obtain ⟨v', w', hr, h2, h3, h4⟩ := run_append (P := P) w T o.type hown hu hl h1 h63 hbytes hbase
  unfold Oper.wp execOp
  simp only [ho, resolve, invoke, builtin, Sem.run_bind, Sem.run_pure, Result.andThen_ok, List.map_toArray, List.map_cons, List.map_nil, hs, hx, hr]
  exact h v' w' h2 h3 h4

theorem wpList_append {t e size bytes : Nat} {z : Value} (T : SlT P t e size bytes z) {s x : Operand} (hgd : o.guard = none) (ho : o.op = .call { callee := .builtin .append, args := #[s, x], argTypes := #[t, t] })
    {base : Nat} {v u : Value} {n m : Nat} {xs ys : List Value} (hs : a.eval s = v) (hx : a.eval x = u)
    (hown : w.ownsRow base e size v n xs) (hu : Sl w u m ys) (hl : ys.length = m * size) (h1 : ∀ u ∈ ys, u.oneCell' = true) (h63 : n + m ≤ maxLen) (hbytes : (n + m) * bytes ≤ 140737488355328) (hbase : base ≤ w.heap.size)
    (h : ∀ v' w', w'.ownsRow base e size v' (n + m) (xs ++ ys) → w.grownBy w' v.ownBlock → (v'.ownBlock = v.ownBlock ∨ v'.ownBlock = some w.heap.size) → wpList P ops Q rest (a.put o.dst v') w') : wpList P ops Q (o :: rest) a w :=
  wpList_plain hgd fun _ hK => wp_append T ho hs hx hown hu hl h1 h63 hbytes hbase fun v' w' h2 h3 h4 => hK _ _ (h v' w' h2 h3 h4)

theorem Sl.lit (w : World) (cs : Array Value) (t : TypeId) (n : Nat) (hn : n ≤ maxLen) : Sl (w.alloc (.cells cs t)) (.slice (some ⟨w.heap.size, 0, none⟩) n n) n cs.toList := by
  refine Sl.mk (Nat.le_refl _) hn fun j u hj => ?_
  rw [Nat.zero_add, (Blk.new w cs t).cell j]
  simpa using hj
theorem Sl.one (w : World) (x : Value) (t : TypeId) : Sl (w.alloc (.cells #[x] t)) (.slice (some ⟨w.heap.size, 0, none⟩) 1 1) 1 [x] := Sl.lit w #[x] t 1 (by decide)

theorem below_append {B e size n : Nat} {w0 w w' : World} {v : Value} {xs : List Value} (hb : Below B w0 w) (hown : w.ownsRow B e size v n xs) (hg : w.grownBy w' v.ownBlock) (hB : B ≤ w.heap.size) : Below B w0 w' :=
  hb.trans (below_grown hg (fun k hk => (hown.lt k hk).1) hB)
end

end Go.Proofs.Ytpbdncnepcibaaa
