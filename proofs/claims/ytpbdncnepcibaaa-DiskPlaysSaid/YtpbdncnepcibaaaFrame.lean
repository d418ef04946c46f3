/- The frame of a law's row: a call that answers true and leaves all that was there as it was meets the row's statement; what each kind of argument reads as. No function of the program is named here. -/
import Derived.Test.YtpbdncnepcibaaaSlice
import Derived.WalkKit
import Derived.ProofKit
import Derived.OpenShut
import Derived.ShutString
import Derived.ChangeOld
import Derived.Below
import Derived.JoinedCond
namespace Go.Proofs.Ytpbdncnepcibaaa
open Go Go.RowKit Go.ChangeShapes Go.WideShapes Go.ChangeAt

section
variable {H : Type} {enc : TypeId × Value → H} {P : Program}

theorem trodAll_below (hl : laidOutB P = true) {W W' : World} (hb : Below W.heap.size W W') : ∀ (ts : List TypeId) (vs : List Value) (ds : List (DataW H)) (p : List MemPlace),
    ts.all (fun t => P.readableRec t && decide (t < P.types.size)) = true → DataW.TrodAll enc P W 0 (fun _ => true) true ts vs ds p →
    DataW.TrodAll enc P W' 0 (fun b => decide (b < W.heap.size)) true ts vs ds p
  | [], vs, ds, p, _, h => by
    obtain ⟨rfl, rfl, rfl⟩ := trodAll_nil h
    exact rfl
  | t :: ts, vs, ds, p, hr, h => by
    obtain ⟨v, vs', d, ds', p1, p2, rfl, rfl, rfl, h1, h2⟩ := trodAll_cons h
    simp only [List.all_cons, Bool.and_eq_true, decide_eq_true_eq] at hr
    have lt : ∀ x ∈ p1, x.block < W.heap.size := by obtain ⟨m, hm⟩ := h1; exact DataW.trod_lt m _ _ _ hm
    exact ⟨p1, p2, Below.trod hl hr.1.1 hr.1.2 h1 hb lt, trodAll_below hl hb ts vs' ds' p2 hr.2 h2, rfl⟩

/-- a call that answers true and leaves what was there: all that a law's row asks -/
theorem law_post {f : Func} {s : ChangeSpec} {W W' : World} {args : Array Value} {ds gs : List (DataW H)} {before : List MemPlace} {tb : TypeId} (hl : laidOutB P = true)
    (hr : f.params.toList.all (fun t => P.readableRec t && decide (t < P.types.size)) = true) (hb : P.underlying tb = some .bool) (hrt : f.resultTypes = #[tb]) (hv : s.vars = [])
    (hfn : ∀ (xs : List (DataW H)), xs.length = f.params.size → s.fn H xs = { results := [.lit (.bool true)], args := xs })
    (hW : DataW.Whole enc P f.params.toList s.vars false W args.toList ds gs before) (bel : Below W.heap.size W W') :
    s.post enc P f false true false false W args (.bool true) W' := by
  have hW' := hW
  obtain ⟨p, q, hA, hV, rfl, hfz, hnd⟩ := hW
  rw [hv] at hV
  obtain ⟨rfl, rfl⟩ := trodVars_none hV
  have hlen : ∀ (ts : List TypeId) (vs : List Value) (ds : List (DataW H)) (p : List MemPlace), DataW.TrodAll enc P W 0 (fun _ => true) true ts vs ds p → ds.length = ts.length := by
    intro ts
    induction ts with
    | nil => intro vs ds p h; obtain ⟨rfl, rfl, rfl⟩ := trodAll_nil h; rfl
    | cons t ts ih =>
      intro vs ds p h
      obtain ⟨v, vs', d, ds', p1, p2, rfl, rfl, rfl, h1, h2⟩ := trodAll_cons h
      simp [ih _ _ _ h2]
  have e := hfn (ds ++ []) (by rw [List.append_nil, hlen _ _ _ _ hA]; simp)
  refine ⟨ds, [], p ++ [], [], p, [], hW', ?_, ?_, ?_, bel.frame _, fun h => by cases h⟩
  · rw [e, hrt]; exact trodAll_mk1 (shut_bool hb _)
  · rw [e]; simp only [List.append_nil]; exact trodAll_below hl bel _ _ _ _ hr hA
  · rw [e, hv]; exact rfl
end

/-! ### what an argument reads as -/
section
variable {H : Type} {enc : TypeId × Value → H} {P : Program} {w : World} {base : Nat} {spare : Nat → Bool} {held : Bool} {r : Reach} {b0 : Nat} {t : TypeId} {v : Value} {d : DataW H} {ps : List MemPlace}

theorem wf_U {n : Int} (h : (Lit.int .u64 n).wf = true) : ∃ x, Value.int .u64 n = U x := by
  have := bounds_u64 h
  exact ⟨BitVec.ofInt 64 n, by rw [U, BitVec.toNat_ofInt]; congr 1; omega⟩
theorem wf_W {n : Int} (h : (Lit.int .u32 n).wf = true) : ∃ x, Value.int .u32 n = W x := by
  have := bounds_u32 h
  exact ⟨BitVec.ofInt 32 n, by rw [W, BitVec.toNat_ofInt]; congr 1; omega⟩
theorem wf_V8 {n : Int} (h : (Lit.int .u8 n).wf = true) : ∃ x, Value.int .u8 n = V8 x := by
  have := bounds_u8 h
  exact ⟨UInt8.ofNat n.toNat, by rw [V8, UInt8.toNat_ofNat']; congr 1; omega⟩

theorem open_U (ht : P.underlying t = some (.int .u64)) (hval : Value.okWide P w r b0 t v) (hd : DataW.Trod enc P w base spare held t v d ps) : ∃ x, v = U x := by
  obtain ⟨n, rfl, _, _, hw⟩ := open_int ht hval hd
  exact wf_U hw
theorem open_W (ht : P.underlying t = some (.int .u32)) (hval : Value.okWide P w r b0 t v) (hd : DataW.Trod enc P w base spare held t v d ps) : ∃ x, v = W x := by
  obtain ⟨n, rfl, _, _, hw⟩ := open_int ht hval hd
  exact wf_W hw
theorem open_V8 (ht : P.underlying t = some (.int .u8)) (hval : Value.okWide P w r b0 t v) (hd : DataW.Trod enc P w base spare held t v d ps) : ∃ x, v = V8 x := by
  obtain ⟨n, rfl, _, _, hw⟩ := open_int ht hval hd
  exact wf_V8 hw
theorem open_I (ht : P.underlying t = some (.int .i64)) (hval : Value.okWide P w r b0 t v) (hd : DataW.Trod enc P w base spare held t v d ps) : ∃ n, v = .int .i64 n ∧ -9223372036854775808 ≤ n ∧ n ≤ 9223372036854775807 := by
  obtain ⟨n, rfl, _, _, hw⟩ := open_int ht hval hd
  exact ⟨n, rfl, bounds_i64 hw⟩

theorem open_pair {e : TypeId} (ht : P.underlying t = some (.array 2 e)) (he : P.underlying e = some (.int .u64)) (hc : P.cellsOf t = 2) (hce : P.cellsOf e = 1) (hval : Value.okWide P w r b0 t v)
    (hd : DataW.Trod enc P w base spare held t v d ps) : ∃ p : Pair, v = Pr p := by
  obtain ⟨cs, rfl, hsz, _⟩ : ∃ cs, v = .agg cs ∧ cs.size = P.cellsOf t ∧ Row.okWide P w r b0 t cs := by
    simpa [Value.okWide, ht] using hval
  rw [hc] at hsz
  obtain ⟨l⟩ := cs
  match l, hsz with
  | [c0, c1], _ =>
    obtain ⟨fuel, hf⟩ := hd
    obtain ⟨xs, m, _, _, _, hl, hel⟩ := DataW.trod_array ht hf
    match xs, hl with
    | [x0, x1], _ =>
      have e0 := hel 0 (by omega)
      have e1 := hel 1 (by omega)
      simp only [hce, Value.cells] at e0 e1
      obtain ⟨n0, h0, _, w0⟩ := DataW.trod_int he (x := x0) (by simpa using e0)
      obtain ⟨n1, h1, _, w1⟩ := DataW.trod_int he (x := x1) (by simpa using e1)
      simp at h0 h1
      subst h0 h1
      obtain ⟨y0, k0⟩ := wf_U w0
      obtain ⟨y1, k1⟩ := wf_U w1
      exact ⟨(y0, y1), by rw [k0, k1]⟩

theorem bytes_of : ∀ (zs : List Int), (∀ n ∈ zs, (Lit.int .u8 n).wf = true) → ∃ bs : List UInt8, zs.map (Value.int .u8) = bcells bs
  | [], _ => ⟨[], rfl⟩
  | z :: zs, h => by
    obtain ⟨x, hx⟩ := wf_V8 (h z (by simp))
    obtain ⟨bs, hb⟩ := bytes_of zs fun n hn => h n (by simp [hn])
    exact ⟨x :: bs, by simp only [List.map_cons, bcells]; rw [hx]; congr 1⟩

theorem open_bytes {e : TypeId} (ht : P.underlying t = some (.slice e)) (he : P.underlying e = some (.int .u8)) (hce : P.cellsOf e = 1) (hval : Value.okWide P w r b0 t v)
    (hd : DataW.Trod enc P w base spare held t v d ps) : ∃ bs : List UInt8, Sl w v bs.length (bcells bs) := by
  obtain ⟨a0, len, cap, rfl⟩ := okWide_slice ht hval
  obtain ⟨fuel, hf⟩ := hd
  rcases open_ints ht he hce hf with ⟨hcs, _⟩ | ⟨x, l, c, zs, hcs, _, hl, hm, hz, _, hcell, hwz⟩
  · simp [Value.cells] at hcs
    obtain ⟨rfl, rfl, rfl⟩ := hcs
    exact ⟨[], Sl.nil w⟩
  · simp [Value.cells] at hcs
    obtain ⟨rfl, rfl, rfl⟩ := hcs
    obtain ⟨bs, hb⟩ := bytes_of (zs.take len) fun n hn => hwz n (List.mem_of_mem_take hn)
    have hlen : bs.length = len := by
      have := congrArg List.length hb
      simp only [List.length_map, bcells, List.length_take] at this
      have hz2 : len ≤ zs.length := by rw [hz]; split <;> omega
      omega
    refine ⟨bs, ?_⟩
    rw [hlen]
    refine .inr ⟨x, cap, rfl, hl, hm, fun j u hj => ?_⟩
    rw [← hb] at hj
    obtain ⟨hj1, hj2⟩ := List.getElem?_eq_some_iff.1 hj
    have hj3 : j < zs.length := by simp only [List.length_map, List.length_take] at hj1; omega
    rw [hcell j hj3]
    simp at hj2
    rw [← hj2]
    simp [List.getD, hj3]
end

end Go.Proofs.Ytpbdncnepcibaaa
