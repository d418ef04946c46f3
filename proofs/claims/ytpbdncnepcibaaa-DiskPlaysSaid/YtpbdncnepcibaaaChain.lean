/- A statement whose order Go leaves open, whose heavy operations (calls, what makes memory) wait for each other in one row: one walk, the light operations (reads, sums) as early as they may come up, each with a value that is the same in all worlds that follow. No function of the program is named here. -/
import Derived.Test.YtpbdncnepcibaaaPosts
import Derived.Still
namespace Go.Proofs.Ytpbdncnepcibaaa
open Go Go.RowKit

/-- no way out of an operation but its value -/
def NoExit : Exit → Act → World → Prop := fun _ _ _ => False

theorem noExit_wp {P : Program} {o : Oper} {a : Act} {w : World} {K : Act → World → Prop} {Q : Exit → Act → World → Prop} (h : o.wp P a w K NoExit) : o.wp P a w K Q := by
  unfold Oper.wp at *
  generalize (execOp a.eval o).run P w = r at *
  cases r with
  | ok n w' =>
    cases n <;> simp only [Oper.upon] at h ⊢ <;>
      first
        | exact h
        | exact Calls.mono h (fun e w'' he => by
            match e, he with
            | .returned _, he => exact he
            | .panicked _, he => exact absurd he id
            | .outgrown, he => exact absurd he (fun ⟨_, _, h⟩ => h))
  | halt x w' => cases x <;> simp only [Oper.upon] at h ⊢ <;> first | exact h | exact absurd h id

section
variable {P : Program} {ops : Array Oper} {R : World → World → Prop} {Q : Exit → Act → World → Prop} {md : Region.Mode}

/-- in all worlds that follow it yields v, and leaves the world -/
def Light (P : Program) (ops : Array Oper) (R : World → World → Prop) (o : Oper) (v : Value) (a : Act) (w : World) : Prop :=
  (Region.wanted o (yielded ops a.tmps) = true ∧ ∀ w', R w w' → (execOp a.eval o).run P w' = .ok (.value v) w' ∨ ((execOp a.eval o).run P w' = .ok .skip w' ∧ v = undef)) ∨
  (Region.wanted o (yielded ops a.tmps) = false ∧ v = undef)

/-- operation i waits for all the light ones (lt) -/
def Ends (md : Region.Mode) (ops : Array Oper) (lt : Nat → Bool) (i : Nat) : Prop := ∀ o, ops[i]? = some o → ∀ j, lt j = true → ∃ e ∈ o.after, Region.binds md e = true ∧ e.on = j
def endsB (md : Region.Mode) (ops : Array Oper) (L : List (Nat × Nat)) (i : Nat) : Bool :=
  match ops[i]? with
  | some o => L.all fun (j, k) => k != 0 || o.after.any fun e => Region.binds md e && e.on == j
  | none => true
def lightOf (L : List (Nat × Nat)) (i : Nat) : Bool := L.any fun (j, k) => j == i && k == 0
theorem ends_of {L : List (Nat × Nat)} {i : Nat} (h : endsB md ops L i = true) : Ends md ops (lightOf L) i := by
  intro o ho j hj
  unfold endsB at h
  rw [ho] at h
  obtain ⟨⟨j', k⟩, hm, hp⟩ := List.any_eq_true.1 hj
  simp only [Bool.and_eq_true, beq_iff_eq] at hp
  have := List.all_eq_true.1 h _ hm
  simp only [hp.1, hp.2, bne_self_eq_false, Bool.false_or] at this
  obtain ⟨e, he, hb⟩ := Array.any_eq_true'.1 this
  simp only [Bool.and_eq_true, beq_iff_eq] at hb
  exact ⟨e, he, hb.1, hb.2⟩

/-- the walk: the operations' numbers in an order of ours; 0: light, 1: heavy, 2: heavy, and behind all the light ones -/
def wpChain (P : Program) (ops : Array Oper) (R : World → World → Prop) (Q : Exit → Act → World → Prop) : List (Nat × Nat) → Act → World → Prop
  | [], a, w => Q .normal a w
  | (i, 0) :: rest, a, w => ∃ o v, ops[i]? = some o ∧ Light P ops R o v a w ∧ wpChain P ops R Q rest (a.put o.dst v) w
  | (i, 1) :: rest, a, w => ∃ o, ops[i]? = some o ∧ if Region.wanted o (yielded ops a.tmps) then o.wp P a w (fun a' w' => R w w' ∧ wpChain P ops R Q rest a' w') NoExit else wpChain P ops R Q rest (a.put o.dst undef) w
  | (i, _) :: rest, a, w => ∃ o, ops[i]? = some o ∧ if Region.wanted o (yielded ops a.tmps) then o.wp P a w (wpChain P ops R Q rest) NoExit else wpChain P ops R Q rest (a.put o.dst undef) w

def chainB (md : Region.Mode) (ops : Array Oper) (L : List (Nat × Nat)) : List (Nat × Nat) → Array Bool → Bool
  | [], listed => (Region.ready md ops listed).isEmpty
  | (i, 0) :: rest, listed => (Region.ready md ops listed).contains i && Region.free md ops listed i && L.contains (i, 0) && chainB md ops L rest (listed.setIfInBounds i true)
  | (i, 1) :: rest, listed => decide (Region.ready md ops listed = [i]) && chainB md ops L rest (listed.setIfInBounds i true)
  | (i, _) :: rest, listed => decide (Region.ready md ops listed = [i]) && endsB md ops L i && chainB md ops L rest (listed.setIfInBounds i true)

def wpAnyR (P : Program) (md : Region.Mode) (ops : Array Oper) (R : World → World → Prop) (lt : Nat → Bool) (Q : Exit → Act → World → Prop) : Nat → Array Bool → Act → World → Prop
  | 0, listed, a, w => Region.ready md ops listed = [] ∧ Q .normal a w
  | fuel + 1, listed, a, w =>
    (Region.ready md ops listed = [] → Q .normal a w) ∧
    ∀ i ∈ Region.ready md ops listed, ∃ o, ops[i]? = some o ∧
      if Region.wanted o (yielded ops a.tmps) then o.wp P a w (fun a' w' => (¬ Ends md ops lt i → R w w') ∧ wpAnyR P md ops R lt Q fuel (listed.setIfInBounds i true) a' w') NoExit
      else wpAnyR P md ops R lt Q fuel (listed.setIfInBounds i true) (a.put o.dst undef) w

theorem wpAny_of_R {lt : Nat → Bool} : ∀ (fuel : Nat) (listed : Array Bool) (a : Act) (w : World), wpAnyR P md ops R lt Q fuel listed a w → wpAny P md ops Q fuel listed a w
  | 0, _, _, _, h => h
  | fuel + 1, _, _, _, h => ⟨h.1, fun i hi => by
      obtain ⟨o, ho, h2⟩ := h.2 i hi
      unfold wpOp
      simp only [ho]
      split
      · rename_i hw; rw [if_pos hw] at h2
        exact .inl (noExit_wp (Oper.wp_mono (fun a' w' ⟨_, h⟩ => wpAny_of_R fuel _ a' w' h) h2))
      · rename_i hw; rw [if_neg hw] at h2
        exact wpAny_of_R fuel _ _ _ h2⟩

theorem Light.later {o : Oper} {v : Value} {a : Act} {w w' : World} (ht : ∀ a b c : World, R a b → R b c → R a c) (h : Light P ops R o v a w) (hr : R w w') : Light P ops R o v a w' := by
  rcases h with ⟨h1, h2⟩ | h
  · exact .inl ⟨h1, fun w'' hw => h2 w'' (ht _ _ _ hr hw)⟩
  · exact .inr h
theorem Light.of_same {o : Oper} {v : Value} {a a' : Act} {w : World} (hy : Light P ops R o v a w) (he : execOp a'.eval o = execOp a.eval o)
    (hw : Region.wanted o (yielded ops a'.tmps) = Region.wanted o (yielded ops a.tmps)) : Light P ops R o v a' w := by
  unfold Light at *
  rw [he, hw]
  exact hy

theorem wpAnyR_first {lt : Nat → Bool} {i : Nat} {oi : Oper} {v : Value} (hi : ops[i]? = some oi) (hli : lt i = true) (hsel : ∀ (j : Nat) (o : Oper) cs b, ops[j]? = some o → o.op ≠ .select cs b) (hr0 : ∀ w : World, R w w) (ht : ∀ a b c : World, R a b → R b c → R a c) :
    ∀ (fuel : Nat) (listed : Array Bool) (a : Act) (w : World),
      (∀ j oj, ops[j]? = some oj → j ≠ i → listed.getD j true = false → (∀ e ∈ oj.after, Region.binds md e = true → e.on ≠ i) → oi.apart ops oj = true) →
      i ∈ Region.ready md ops listed → Light P ops R oi v a w →
      wpAnyR P md ops R lt Q fuel (listed.setIfInBounds i true) (a.put oi.dst v) w → wpAnyR P md ops R lt Q (fuel + 1) listed a w := by
  have self : ∀ (fuel : Nat) (listed : Array Bool) (a : Act) (w : World), Light P ops R oi v a w → wpAnyR P md ops R lt Q fuel (listed.setIfInBounds i true) (a.put oi.dst v) w →
      ∃ o, ops[i]? = some o ∧ if Region.wanted o (yielded ops a.tmps) then o.wp P a w (fun a' w' => (¬ Ends md ops lt i → R w w') ∧ wpAnyR P md ops R lt Q fuel (listed.setIfInBounds i true) a' w') NoExit
        else wpAnyR P md ops R lt Q fuel (listed.setIfInBounds i true) (a.put o.dst undef) w := by
    intro fuel listed a w hy H
    refine ⟨oi, hi, ?_⟩
    rcases hy with ⟨hw, hv⟩ | ⟨hw, rfl⟩
    · rw [if_pos hw]
      unfold Oper.wp
      rcases hv w (hr0 w) with e | ⟨e, rfl⟩
      · rw [e]; exact ⟨fun _ => hr0 w, H⟩
      · rw [e]; exact ⟨fun _ => hr0 w, H⟩
    · rw [if_neg (by rw [hw]; simp)]; exact H
  intro fuel
  induction fuel with
  | zero =>
    intro listed a w _ hr hy H
    refine ⟨fun h => (by rw [h] at hr; cases hr), fun j hj => ?_⟩
    by_cases hji : j = i
    · subst hji; exact self 0 listed a w hy H
    · have := ready_mono hj hji
      rw [H.1] at this
      cases this
  | succ fuel ih =>
    intro listed a w hfree hr hy H
    refine ⟨fun h => (by rw [h] at hr; cases hr), fun j hj => ?_⟩
    by_cases hji : j = i
    · subst hji; exact self (fuel + 1) listed a w hy H
    · obtain ⟨oj, hoj, h1⟩ := H.2 j (ready_mono hj hji)
      obtain ⟨hjun, oj', hoj', hall⟩ := mem_ready.1 hj
      have hnot : ∀ e ∈ oj.after, Region.binds md e = true → e.on ≠ i := fun e he hb heq => by
        have e1 : oj' = oj := Option.some.inj (hoj'.symm.trans hoj)
        subst e1
        have h1 := hall e he hb
        have h0 := (mem_ready.1 hr).1
        rw [heq] at h1
        rcases Nat.lt_or_ge i listed.size with h' | h'
        · simp [h'] at h0 h1; rw [h0] at h1; cases h1
        · simp [Array.getElem?_eq_none h'] at h1
      have hap := hfree j oj hoj hji hjun hnot
      have hne : ¬ Ends md ops lt j := fun hE => by
        obtain ⟨e, he, hb, hon⟩ := hE oj hoj i hli
        exact hnot e he hb hon
      obtain ⟨a1, a2, a3⟩ := Oper.apart_spec hap
      have hfree' : ∀ k ok, ops[k]? = some ok → k ≠ i → (listed.setIfInBounds j true).getD k true = false →
          (∀ e ∈ ok.after, Region.binds md e = true → e.on ≠ i) → oi.apart ops ok = true := fun k ok hk hki hun hno => by
        refine hfree k ok hk hki ?_ hno
        by_cases hjk : j = k
        · subst hjk; exact hjun
        · rw [getD_set_ne true hjk] at hun; exact hun
      have hsi := fun cs b => hsel i oi cs b hi
      have hsj := fun cs b => hsel j oj cs b hoj
      have keep : ∀ (a : Act) (w : World), Light P ops R oi v a w → ∀ u, Light P ops R oi v (a.put oj.dst u) w := fun a w hy u =>
        hy.of_same (execOp_put oi hsi a oj.dst u a3) (wanted_put oi a oj.dst u a3)
      have go : ∀ (u : Value) (w' : World), R w w' → wpAnyR P md ops R lt Q fuel ((listed.setIfInBounds i true).setIfInBounds j true) ((a.put oi.dst v).put oj.dst u) w' →
          wpAnyR P md ops R lt Q (fuel + 1) (listed.setIfInBounds j true) (a.put oj.dst u) w' := by
        intro u w' hrw h3
        refine ih (listed.setIfInBounds j true) _ w' hfree' (ready_mono hr (Ne.symm hji)) ((keep a w hy u).later ht hrw) ?_
        rw [Array.setIfInBounds_comm _ _ hji, ← Act.put_comm a v u a2]
        exact h3
      refine ⟨oj, hoj, ?_⟩
      rw [wanted_put oj a oi.dst v a1] at h1
      split
      · rename_i hw
        rw [if_pos hw] at h1
        unfold Oper.wp at *
        rw [execOp_put oj hsj a oi.dst v a1] at h1
        generalize (execOp a.eval oj).run P w = r at *
        cases r with
        | ok n w' =>
          cases n <;> simp only [Oper.upon] at h1 ⊢
          case value u => exact ⟨h1.1, go u w' (h1.1 hne) h1.2⟩
          case skip => exact ⟨h1.1, go undef w' (h1.1 hne) h1.2⟩
          case defer d =>
            have keepD : Light P ops R oi v { a with defers := d :: a.defers } w := hy.of_same rfl rfl
            refine ⟨h1.1, ?_⟩
            refine ih (listed.setIfInBounds j true) _ w' hfree' (ready_mono hr (Ne.symm hji)) ((keep _ w keepD undef).later ht (h1.1 hne)) ?_
            rw [Array.setIfInBounds_comm _ _ hji, ← Act.put_comm _ v undef a2, ← Act.put_defers]
            exact h1.2
          case enter f args =>
            refine Calls.mono h1 fun e w'' he => ?_
            cases e with
            | returned u => exact ⟨he.1, go u w'' (he.1 hne) he.2⟩
            | panicked c => exact he
            | outgrown => exact he
          case row row args => exact Rows.mono h1 fun u w'' he => ⟨he.1, go u w'' (he.1 hne) he.2⟩
        | halt x w' =>
          cases x <;> simp only [Oper.upon] at h1 ⊢
          case panic u => exact h1
      · rename_i hw
        rw [if_neg hw] at h1
        exact go undef w (hr0 w) h1

theorem lightOf_mem {L : List (Nat × Nat)} {i : Nat} (h : L.contains (i, 0) = true) : lightOf L i = true :=
  List.any_eq_true.2 ⟨(i, 0), by simpa using h, by simp⟩

theorem wpAnyR_chain {L : List (Nat × Nat)} (hs : Region.noSelect ops = true) (hr0 : ∀ w : World, R w w) (ht : ∀ a b c : World, R a b → R b c → R a c) : ∀ (l : List (Nat × Nat)) (listed : Array Bool) (a : Act) (w : World),
    chainB md ops L l listed = true → wpChain P ops R Q l a w → wpAnyR P md ops R (lightOf L) Q l.length listed a w
  | [], listed, a, w, hB, h => ⟨by simpa [chainB] using hB, h⟩
  | (i, 0) :: l, listed, a, w, hB, h => by
    simp only [chainB, Bool.and_eq_true] at hB
    obtain ⟨⟨⟨hr, hf⟩, hL⟩, hB'⟩ := hB
    obtain ⟨o, v, ho, hy, h1⟩ := h
    exact wpAnyR_first ho (lightOf_mem hL) (Region.noSelect_spec hs) hr0 ht l.length listed a w (Region.free_spec ho hf) (by simpa using hr) hy (wpAnyR_chain hs hr0 ht l _ _ w hB' h1)
  | (i, 1) :: l, listed, a, w, hB, h => by
    simp only [chainB, Bool.and_eq_true, decide_eq_true_eq] at hB
    obtain ⟨o, ho, h1⟩ := h
    refine ⟨fun h0 => (by rw [h0] at hB; cases hB.1), fun j hj => ?_⟩
    rw [hB.1, List.mem_singleton] at hj
    subst hj
    refine ⟨o, ho, ?_⟩
    split
    · rename_i hw; rw [if_pos hw] at h1
      exact Oper.wp_mono (fun a' w' ⟨h2, h3⟩ => ⟨fun _ => h2, wpAnyR_chain hs hr0 ht l _ a' w' hB.2 h3⟩) h1
    · rename_i hw; rw [if_neg hw] at h1
      exact wpAnyR_chain hs hr0 ht l _ _ w hB.2 h1
  | (i, n + 2) :: l, listed, a, w, hB, h => by
    simp only [chainB, Bool.and_eq_true, decide_eq_true_eq] at hB
    obtain ⟨⟨hB1, hE⟩, hB2⟩ := hB
    obtain ⟨o, ho, h1⟩ := h
    refine ⟨fun h0 => (by rw [h0] at hB1; cases hB1), fun j hj => ?_⟩
    rw [hB1, List.mem_singleton] at hj
    subst hj
    refine ⟨o, ho, ?_⟩
    split
    · rename_i hw; rw [if_pos hw] at h1
      exact Oper.wp_mono (fun a' w' h3 => ⟨fun hn => absurd (ends_of hE) hn, wpAnyR_chain hs hr0 ht l _ a' w' hB2 h3⟩) h1
    · rename_i hw; rw [if_neg hw] at h1
      exact wpAnyR_chain hs hr0 ht l _ _ w hB2 h1

/-- **a drawn region by one walk** -/
theorem wp_region_chain {id : Nat} {a : Act} {w : World} (R : World → World → Prop) (l : List (Nat × Nat)) (hm : P.follows .mixedOrders = true)
    (hB : (Region.noSelect ops && decide (l.length = ops.size) && chainB .any ops l l (Array.replicate ops.size false)) = true)
    (hr0 : ∀ w : World, R w w) (ht : ∀ a b c : World, R a b → R b c → R a c)
    (h : wpChain P ops R Q l a { w with drawn := w.drawn + 1 }) : (Code.region id ops true).wp P Q a w := by
  simp only [Bool.and_eq_true, decide_eq_true_eq] at hB
  refine wp_region_any hm ?_
  rw [← hB.1.2]
  exact wpAny_of_R _ _ _ _ (wpAnyR_chain hB.1.1 hr0 ht l _ a _ (by rw [hB.1.2]; exact hB.2) h)

/-- the same, all calls leave what was there -/
theorem wp_region_chainK {id : Nat} {a : Act} {w : World} (l : List (Nat × Nat)) (hm : P.follows .mixedOrders = true)
    (hB : (Region.noSelect ops && decide (l.length = ops.size) && chainB .any ops l l (Array.replicate ops.size false)) = true)
    (h : ∀ w0, Kept w w0 → wpChain P ops Kept Q l a w0) : (Code.region id ops true).wp P Q a w :=
  wp_region_chain Kept l hm hB (fun _ => Below.refl _ _) (fun _ _ _ h1 h2 => h1.of h2) (h _ (Kept.drawn w))

/-- the same, all that lies below B is left as it was -/
theorem wp_region_chainBelow {id : Nat} {a : Act} {w : World} (B : Nat) (l : List (Nat × Nat)) (hm : P.follows .mixedOrders = true)
    (hB : (Region.noSelect ops && decide (l.length = ops.size) && chainB .any ops l l (Array.replicate ops.size false)) = true)
    (h : ∀ w0, Kept w w0 → wpChain P ops (Below B) Q l a w0) : (Code.region id ops true).wp P Q a w :=
  wp_region_chain (Below B) l hm hB (fun _ => Below.refl _ _) (fun _ _ _ h1 h2 => h1.trans h2) (h _ (Kept.drawn w))

theorem chain_heavy {i : Nat} {rest : List (Nat × Nat)} {a : Act} {w : World} (o : Oper) (ho' : ops.toList[i]? = some o)
    (h : ∀ K : Act → World → Prop, (∀ a' w', R w w' → wpChain P ops R Q rest a' w' → K a' w') → if Region.wanted o (yielded ops a.tmps) then o.wp P a w K NoExit else (∀ a' w', wpChain P ops R Q rest a' w' → K a' w') → K (a.put o.dst undef) w) : wpChain P ops R Q ((i, 1) :: rest) a w := by
  have ho : ops[i]? = some o := by rw [← ho', Array.getElem?_toList]
  refine ⟨o, ho, ?_⟩
  split
  · rename_i hw
    have := h (fun a' w' => R w w' ∧ wpChain P ops R Q rest a' w') (fun a' w' h1 h2 => ⟨h1, h2⟩)
    rw [if_pos hw] at this; exact this
  · rename_i hw
    have := h (wpChain P ops R Q rest) (fun a' w' h1 h2 => h2)
    rw [if_neg hw] at this; exact this fun _ _ h => h
theorem chain_last {i : Nat} {rest : List (Nat × Nat)} {a : Act} {w : World} (o : Oper) (ho' : ops.toList[i]? = some o)
    (h : ∀ K : Act → World → Prop, (∀ a' w', wpChain P ops R Q rest a' w' → K a' w') → if Region.wanted o (yielded ops a.tmps) then o.wp P a w K NoExit else K (a.put o.dst undef) w) : wpChain P ops R Q ((i, 2) :: rest) a w := by
  have ho : ops[i]? = some o := by rw [← ho', Array.getElem?_toList]
  exact ⟨o, ho, h _ fun _ _ h => h⟩
theorem chain_light {i : Nat} {rest : List (Nat × Nat)} {a : Act} {w : World} (o : Oper) (ho' : ops.toList[i]? = some o)
    (h : ∀ K : Act → Prop, (∀ a', wpChain P ops R Q rest a' w → K a') → if Region.wanted o (yielded ops a.tmps) then (∃ v, (∀ w', R w w' → (execOp a.eval o).run P w' = .ok (.value v) w') ∧ K (a.put o.dst v)) else K (a.put o.dst undef)) :
    wpChain P ops R Q ((i, 0) :: rest) a w := by
  have ho : ops[i]? = some o := by rw [← ho', Array.getElem?_toList]
  have := h (fun a' => wpChain P ops R Q rest a' w) (fun _ h => h)
  by_cases hw : Region.wanted o (yielded ops a.tmps) = true
  · rw [if_pos hw] at this
    obtain ⟨v, h1, h2⟩ := this
    exact ⟨o, v, ho, .inl ⟨hw, fun w' hr => .inl (h1 w' hr)⟩, h2⟩
  · rw [if_neg hw] at this
    exact ⟨o, undef, ho, .inr ⟨by simpa using hw, rfl⟩, this⟩
theorem chain_nil {a : Act} {w : World} (h : Q .normal a w) : wpChain P ops R Q [] a w := h

theorem Kept.at {W w : World} (h : Kept W w) {a : Addr} {v : Value} (hc : W.cell? a = some v) : w.cell? a = some v := (h.cell (World.block_lt_of_cell? W _ hc)).trans hc
theorem below_at {B : Nat} {W w : World} (h : Below B W w) {a : Addr} {v : Value} (hc : W.cell? a = some v) (hlt : a.block < B) : w.cell? a = some v := (h.cell hlt).trans hc
end
end Go.Proofs.Ytpbdncnepcibaaa
