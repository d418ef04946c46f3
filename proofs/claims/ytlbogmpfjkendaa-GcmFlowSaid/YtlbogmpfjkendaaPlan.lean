/- A drawn region two of whose heavy operations do not wait for each other: one walk for each order of these. No function of the program is named here. -/
import Derived.Test.YtlbogmpfjkendaaChain
namespace Go.Proofs.Ytlbogmpfjkendaa
open Go Go.RowKit

inductive Plan
  | nil : Plan
  | light : Nat → Plan → Plan
  | heavy : Nat → Plan → Plan
  | last : Nat → Plan → Plan
  | two : Nat → Nat → Plan → Plan → Plan
def Plan.size : Plan → Nat
  | .nil => 0
  | .light _ p => p.size + 1
  | .heavy _ p => p.size + 1
  | .last _ p => p.size + 1
  | .two _ _ p _ => p.size + 1

section
variable {P : Program} {ops : Array Oper} {R : World → World → Prop} {Q : Exit → Act → World → Prop} {md : Region.Mode}
/-- one heavy operation, and what follows -/
def Step (P : Program) (ops : Array Oper) (R : World → World → Prop) (i : Nat) (F : Act → World → Prop) (a : Act) (w : World) : Prop :=
  ∃ o, ops[i]? = some o ∧ if Region.wanted o (yielded ops a.tmps) then o.wp P a w (fun a' w' => R w w' ∧ F a' w') NoExit else F (a.put o.dst undef) w
def wpPlan (P : Program) (ops : Array Oper) (R : World → World → Prop) (Q : Exit → Act → World → Prop) : Plan → Act → World → Prop
  | .nil, a, w => Q .normal a w
  | .light i p, a, w => ∃ o v, ops[i]? = some o ∧ Light P ops R o v a w ∧ wpPlan P ops R Q p (a.put o.dst v) w
  | .heavy i p, a, w => Step P ops R i (wpPlan P ops R Q p) a w
  | .last i p, a, w => ∃ o, ops[i]? = some o ∧ if Region.wanted o (yielded ops a.tmps) then o.wp P a w (wpPlan P ops R Q p) NoExit else wpPlan P ops R Q p (a.put o.dst undef) w
  | .two i j p q, a, w => Step P ops R i (wpPlan P ops R Q p) a w ∧ Step P ops R j (wpPlan P ops R Q q) a w
def planB (md : Region.Mode) (ops : Array Oper) (L : List (Nat × Nat)) : Plan → Array Bool → Bool
  | .nil, listed => (Region.ready md ops listed).isEmpty
  | .light i p, listed => (Region.ready md ops listed).contains i && Region.free md ops listed i && L.contains (i, 0) && planB md ops L p (listed.setIfInBounds i true)
  | .heavy i p, listed => decide (Region.ready md ops listed = [i]) && planB md ops L p (listed.setIfInBounds i true)
  | .last i p, listed => decide (Region.ready md ops listed = [i]) && endsB md ops L i && planB md ops L p (listed.setIfInBounds i true)
  | .two i j p q, listed => decide (Region.ready md ops listed = [i, j]) && decide (p.size = q.size) && planB md ops L p (listed.setIfInBounds i true) && planB md ops L q (listed.setIfInBounds j true)

theorem Step.any {lt : Nat → Bool} {i fuel : Nat} {F : Act → World → Prop} {listed : Array Bool} {a : Act} {w : World} (h : Step P ops R i F a w)
    (hF : ∀ a' w', F a' w' → wpAnyR P md ops R lt Q fuel (listed.setIfInBounds i true) a' w') :
    ∃ o, ops[i]? = some o ∧ if Region.wanted o (yielded ops a.tmps) then o.wp P a w (fun a' w' => (¬ Ends md ops lt i → R w w') ∧ wpAnyR P md ops R lt Q fuel (listed.setIfInBounds i true) a' w') NoExit
      else wpAnyR P md ops R lt Q fuel (listed.setIfInBounds i true) (a.put o.dst undef) w := by
  obtain ⟨o, ho, h1⟩ := h
  refine ⟨o, ho, ?_⟩
  split
  · rename_i hw; rw [if_pos hw] at h1
    exact Oper.wp_mono (fun a' w' ⟨h2, h3⟩ => ⟨fun _ => h2, hF a' w' h3⟩) h1
  · rename_i hw; rw [if_neg hw] at h1
    exact hF _ _ h1
theorem wpAnyR_plan {L : List (Nat × Nat)} (hs : Region.noSelect ops = true) (hr0 : ∀ w : World, R w w) (ht : ∀ a b c : World, R a b → R b c → R a c) : ∀ (l : Plan) (listed : Array Bool) (a : Act) (w : World),
    planB md ops L l listed = true → wpPlan P ops R Q l a w → wpAnyR P md ops R (lightOf L) Q l.size listed a w
  | .nil, listed, a, w, hB, h => ⟨by simpa [planB] using hB, h⟩
  | .light i l, listed, a, w, hB, h => by
    simp only [planB, Bool.and_eq_true] at hB
    obtain ⟨⟨⟨hr, hf⟩, hL⟩, hB'⟩ := hB
    obtain ⟨o, v, ho, hy, h1⟩ := h
    exact wpAnyR_first ho (lightOf_mem hL) (Region.noSelect_spec hs) hr0 ht l.size listed a w (Region.free_spec ho hf) (by simpa using hr) hy (wpAnyR_plan hs hr0 ht l _ _ w hB' h1)
  | .heavy i l, listed, a, w, hB, h => by
    simp only [planB, Bool.and_eq_true, decide_eq_true_eq] at hB
    refine ⟨fun h0 => (by rw [h0] at hB; cases hB.1), fun j hj => ?_⟩
    rw [hB.1, List.mem_singleton] at hj
    subst hj
    exact Step.any h fun a' w' h3 => wpAnyR_plan hs hr0 ht l _ a' w' hB.2 h3
  | .last i l, listed, a, w, hB, h => by
    simp only [planB, Bool.and_eq_true, decide_eq_true_eq] at hB
    obtain ⟨⟨hB1, hE⟩, hB2⟩ := hB
    obtain ⟨o, ho, h1⟩ := h
    refine ⟨fun h0 => (by rw [h0] at hB1; cases hB1), fun j hj => ?_⟩
    rw [hB1, List.mem_singleton] at hj
    subst hj
    refine ⟨o, ho, ?_⟩
    split
    · rename_i hw; rw [if_pos hw] at h1
      exact Oper.wp_mono (fun a' w' h3 => ⟨fun hn => absurd (ends_of hE) hn, wpAnyR_plan hs hr0 ht l _ a' w' hB2 h3⟩) h1
    · rename_i hw; rw [if_neg hw] at h1
      exact wpAnyR_plan hs hr0 ht l _ _ w hB2 h1
  | .two i j p q, listed, a, w, hB, h => by
    simp only [planB, Bool.and_eq_true, decide_eq_true_eq] at hB
    obtain ⟨⟨⟨hB1, hsz⟩, hp⟩, hq⟩ := hB
    refine ⟨fun h0 => (by rw [h0] at hB1; cases hB1), fun k hk => ?_⟩
    rw [hB1, List.mem_cons, List.mem_singleton] at hk
    rcases hk with rfl | rfl
    · exact Step.any h.1 fun a' w' h3 => wpAnyR_plan hs hr0 ht p _ a' w' hp h3
    · refine Step.any h.2 fun a' w' h3 => ?_
      have := wpAnyR_plan hs hr0 ht q _ a' w' hq h3
      rw [← hsz] at this
      exact this

/-- **a drawn region, one walk for each order of two heavy operations** -/
theorem wp_region_plan {id : Nat} {a : Act} {w : World} (R : World → World → Prop) (L : List (Nat × Nat)) (l : Plan) (hm : P.follows .mixedOrders = true)
    (hB : (Region.noSelect ops && decide (l.size = ops.size) && planB .any ops L l (Array.replicate ops.size false)) = true)
    (hr0 : ∀ w : World, R w w) (ht : ∀ a b c : World, R a b → R b c → R a c)
    (h : wpPlan P ops R Q l a { w with drawn := w.drawn + 1 }) : (Code.region id ops true).wp P Q a w := by
  simp only [Bool.and_eq_true, decide_eq_true_eq] at hB
  refine wp_region_any hm ?_
  rw [← hB.1.2]
  exact wpAny_of_R _ _ _ _ (wpAnyR_plan hB.1.1 hr0 ht l _ a _ (by rw [hB.1.2]; exact hB.2) h)
theorem wp_region_planBelow {id : Nat} {a : Act} {w : World} (B : Nat) (L : List (Nat × Nat)) (l : Plan) (hm : P.follows .mixedOrders = true)
    (hB : (Region.noSelect ops && decide (l.size = ops.size) && planB .any ops L l (Array.replicate ops.size false)) = true)
    (h : ∀ w0, Kept w w0 → wpPlan P ops (Below B) Q l a w0) : (Code.region id ops true).wp P Q a w :=
  wp_region_plan (Below B) L l hm hB (fun _ => Below.refl _ _) (fun _ _ _ h1 h2 => h1.trans h2) (h _ (Kept.drawn w))

theorem step_of {i : Nat} {F : Act → World → Prop} {a : Act} {w : World} (o : Oper) (ho' : ops.toList[i]? = some o)
    (h : ∀ K : Act → World → Prop, (∀ a' w', R w w' → F a' w' → K a' w') → if Region.wanted o (yielded ops a.tmps) then o.wp P a w K NoExit else (∀ a' w', F a' w' → K a' w') → K (a.put o.dst undef) w) : Step P ops R i F a w := by
  have ho : ops[i]? = some o := by rw [← ho', Array.getElem?_toList]
  refine ⟨o, ho, ?_⟩
  split
  · rename_i hw
    have := h (fun a' w' => R w w' ∧ F a' w') (fun a' w' h1 h2 => ⟨h1, h2⟩)
    rw [if_pos hw] at this; exact this
  · rename_i hw
    have := h F (fun a' w' h1 h2 => h2)
    rw [if_neg hw] at this; exact this fun _ _ h => h
theorem plan_heavy {i : Nat} {rest : Plan} {a : Act} {w : World} (o : Oper) (ho' : ops.toList[i]? = some o)
    (h : ∀ K : Act → World → Prop, (∀ a' w', R w w' → wpPlan P ops R Q rest a' w' → K a' w') → if Region.wanted o (yielded ops a.tmps) then o.wp P a w K NoExit else (∀ a' w', wpPlan P ops R Q rest a' w' → K a' w') → K (a.put o.dst undef) w) : wpPlan P ops R Q (.heavy i rest) a w :=
  step_of o ho' h
theorem plan_two {i j : Nat} {p q : Plan} {a : Act} {w : World} (h1 : wpPlan P ops R Q (.heavy i p) a w) (h2 : wpPlan P ops R Q (.heavy j q) a w) : wpPlan P ops R Q (.two i j p q) a w := ⟨h1, h2⟩
theorem plan_light {i : Nat} {rest : Plan} {a : Act} {w : World} (o : Oper) (ho' : ops.toList[i]? = some o)
    (h : ∀ K : Act → Prop, (∀ a', wpPlan P ops R Q rest a' w → K a') → if Region.wanted o (yielded ops a.tmps) then (∃ v, (∀ w', R w w' → (execOp a.eval o).run P w' = .ok (.value v) w') ∧ K (a.put o.dst v)) else K (a.put o.dst undef)) :
    wpPlan P ops R Q (.light i rest) a w := by
  have ho : ops[i]? = some o := by rw [← ho', Array.getElem?_toList]
  have := h (fun a' => wpPlan P ops R Q rest a' w) (fun _ h => h)
  by_cases hw : Region.wanted o (yielded ops a.tmps) = true
  · rw [if_pos hw] at this
    obtain ⟨v, h1, h2⟩ := this
    exact ⟨o, v, ho, .inl ⟨hw, fun w' hr => .inl (h1 w' hr)⟩, h2⟩
  · rw [if_neg hw] at this
    exact ⟨o, undef, ho, .inr ⟨by simpa using hw, rfl⟩, this⟩
theorem plan_nil {a : Act} {w : World} (h : Q .normal a w) : wpPlan P ops R Q .nil a w := h
end
end Go.Proofs.Ytlbogmpfjkendaa
