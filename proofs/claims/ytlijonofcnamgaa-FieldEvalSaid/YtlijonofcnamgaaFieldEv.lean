/- FieldEval: any row's sum of powers; a Pair more behind. -/
import Derived.Test.YtlijonofcnamgaaFieldE
import Derived.Test.YtlijonofcnamgaaFieldK
import Derived.Test.YtlijonofcnamgaaApp
import Derived.Test.YtlijonofcnamgaaPairs
import Derived.Test.YtlijonofcnamgaaRows
namespace Go.Proofs.Ytlijonofcnamgaa
open Go Go.RowKit

theorem sl_pair : SlT Try.prog 33 24 2 16 (.agg #[.int .u64 0, .int .u64 0]) := SlT.mk' Try.underlying33 (by kernel_rfl) rfl (by omega)

set_option maxRecDepth 100000 in
set_option maxHeartbeats 4000000 in
theorem eval_walk (h : Pair) (v : Value) (l : List Pair) (p : Pair) (w : World) (hs : Sl w v l.length (pcells l)) : Calls Try.prog 7 #[Pr h, v, Pr p] w fun e w' => e = .returned (.bool true) ∧ Kept w w' := by
  have hle := hs.le
  unfold maxLen at hle
  obtain ⟨a, cap, rfl⟩ := hs.len
  have hk0 : Kept w ((w.alloc (.cells #[U h.1, U h.2] 24)).alloc (.cells #[U p.1, U p.2] 24)) := (((Below.refl _ _).alloc (Nat.le_refl _) _).alloc (by simp) _)
  by_cases h50 : 50 < l.length
  · have i50 : (50 : Int) < (l.length : Int) := by omega
    clear hs
    generalize l.length = n at *
    go_enter Try.func7, Try.ntmps7
    go_wp2
    go_ret
    exact ⟨rfl, hk0⟩
  have i50 : (l.length : Int) ≤ 50 := by omega
  have hH0 : Blk ((w.alloc (.cells #[U h.1, U h.2] 24)).alloc (.cells #[U p.1, U p.2] 24)) w.heap.size #[U h.1, U h.2] 24 := (Blk.new _ _ _).alloc _
  have hP0 : Blk ((w.alloc (.cells #[U h.1, U h.2] 24)).alloc (.cells #[U p.1, U p.2] 24)) (w.heap.size + 1) #[U p.1, U p.2] 24 := by simpa using Blk.new (w.alloc (.cells #[U h.1, U h.2] 24)) #[U p.1, U p.2] 24
  have q0 := hH0.cell 0
  have q1 := hH0.cell 1
  go_enter Try.func7, Try.ntmps7
  go_wp2_with fail
  refine (eval_sl h _ l _ (by omega) (hs.kept hk0)).mono ?_
  rintro e w3 ⟨rfl, hk3⟩
  have hk4 : Kept w3 (w3.alloc (.cells #[U (eval2 h l).1, U (eval2 h l).2] 24)) := (Below.refl _ _).alloc (Nat.le_refl _) _
  have hH := (hH0.kept hk3).kept hk4
  have hP := (hP0.kept hk3).kept hk4
  have hA := Blk.new w3 #[U (eval2 h l).1, U (eval2 h l).2] 24
  have hs := ((hs.kept hk0).kept hk3).kept hk4
  have g4 := (hk0.of hk3).of hk4
  clear hk0 hk3 hk4 q0 q1 hH0 hP0
  go_wp2_with fail
  have hst : ∀ (i : Nat) (v : Value) (w1 w2 : World), ((fun i (vv : Value) w' => match i with | 0 => vv = Pr h | 1 => w'.ownsRow ((w3.alloc (.cells #[U (eval2 h l).1, U (eval2 h l).2] 24)).heap.size) 24 2 vv 0 ([]) ∧ ∃ g, vv = .slice (some ⟨g, 0, none⟩) 0 0 | 2 => vv = .slice a l.length cap | 3 => w'.ownsRow ((w3.alloc (.cells #[U (eval2 h l).1, U (eval2 h l).2] 24)).heap.size) 24 2 vv l.length (pcells l) ∧ (l.length = 0 → ∃ g, vv = .slice (some ⟨g, 0, none⟩) 0 0) | 4 => vv = Pr p | 5 => ∃ g, vv = .slice (some ⟨g, 0, none⟩) 1 1 ∧ ((w3.alloc (.cells #[U (eval2 h l).1, U (eval2 h l).2] 24)).heap.size) ≤ g ∧ Blk w' g #[U p.1, U p.2] 24 | 6 => w'.ownsRow ((w3.alloc (.cells #[U (eval2 h l).1, U (eval2 h l).2] 24)).heap.size) 24 2 vv (l.length + 1) (pcells (l ++ [p])) | 7 => vv = Pr (eval2 h (l ++ [p])) | 8 => ∃ g, vv = .pointer (some ⟨g, 0, none⟩) ∧ ((w3.alloc (.cells #[U (eval2 h l).1, U (eval2 h l).2] 24)).heap.size) ≤ g ∧ Blk w' g #[U 0#64, U 0#64] 24 | _ => True) : Nat → Value → World → Prop) i v w1 → Kept w1 w2 → ((fun i (vv : Value) w' => match i with | 0 => vv = Pr h | 1 => w'.ownsRow ((w3.alloc (.cells #[U (eval2 h l).1, U (eval2 h l).2] 24)).heap.size) 24 2 vv 0 ([]) ∧ ∃ g, vv = .slice (some ⟨g, 0, none⟩) 0 0 | 2 => vv = .slice a l.length cap | 3 => w'.ownsRow ((w3.alloc (.cells #[U (eval2 h l).1, U (eval2 h l).2] 24)).heap.size) 24 2 vv l.length (pcells l) ∧ (l.length = 0 → ∃ g, vv = .slice (some ⟨g, 0, none⟩) 0 0) | 4 => vv = Pr p | 5 => ∃ g, vv = .slice (some ⟨g, 0, none⟩) 1 1 ∧ ((w3.alloc (.cells #[U (eval2 h l).1, U (eval2 h l).2] 24)).heap.size) ≤ g ∧ Blk w' g #[U p.1, U p.2] 24 | 6 => w'.ownsRow ((w3.alloc (.cells #[U (eval2 h l).1, U (eval2 h l).2] 24)).heap.size) 24 2 vv (l.length + 1) (pcells (l ++ [p])) | 7 => vv = Pr (eval2 h (l ++ [p])) | 8 => ∃ g, vv = .pointer (some ⟨g, 0, none⟩) ∧ ((w3.alloc (.cells #[U (eval2 h l).1, U (eval2 h l).2] 24)).heap.size) ≤ g ∧ Blk w' g #[U 0#64, U 0#64] 24 | _ => True) : Nat → Value → World → Prop) i v w2 := by
    intro i v w1 w2 h hk
    match i, h with
    | 0, h => exact h
    | 1, h => exact ⟨own_kept h.1 hk, h.2⟩
    | 2, h => exact h
    | 3, h => exact ⟨own_kept h.1 hk, h.2⟩
    | 4, h => exact h
    | 5, h => exact by obtain ⟨g, hv, hb, hx⟩ := h; exact ⟨g, hv, hb, hx.kept hk⟩
    | 6, h => exact own_kept h hk
    | 7, h => exact h
    | 8, h => exact by obtain ⟨g, hv, hb, hx⟩ := h; exact ⟨g, hv, hb, hx.kept hk⟩
    | _ + 9, _ => trivial
  refine wp_region_postsG 9 (fun i (vv : Value) w' => match i with | 0 => vv = Pr h | 1 => w'.ownsRow ((w3.alloc (.cells #[U (eval2 h l).1, U (eval2 h l).2] 24)).heap.size) 24 2 vv 0 ([]) ∧ ∃ g, vv = .slice (some ⟨g, 0, none⟩) 0 0 | 2 => vv = .slice a l.length cap | 3 => w'.ownsRow ((w3.alloc (.cells #[U (eval2 h l).1, U (eval2 h l).2] 24)).heap.size) 24 2 vv l.length (pcells l) ∧ (l.length = 0 → ∃ g, vv = .slice (some ⟨g, 0, none⟩) 0 0) | 4 => vv = Pr p | 5 => ∃ g, vv = .slice (some ⟨g, 0, none⟩) 1 1 ∧ ((w3.alloc (.cells #[U (eval2 h l).1, U (eval2 h l).2] 24)).heap.size) ≤ g ∧ Blk w' g #[U p.1, U p.2] 24 | 6 => w'.ownsRow ((w3.alloc (.cells #[U (eval2 h l).1, U (eval2 h l).2] 24)).heap.size) 24 2 vv (l.length + 1) (pcells (l ++ [p])) | 7 => vv = Pr (eval2 h (l ++ [p])) | 8 => ∃ g, vv = .pointer (some ⟨g, 0, none⟩) ∧ ((w3.alloc (.cells #[U (eval2 h l).1, U (eval2 h l).2] 24)).heap.size) ≤ g ∧ Blk w' g #[U 0#64, U 0#64] 24 | _ => True) (by kernel_rfl) (by kernel_rfl) ?_ ?_
  · intro i o hi ho x w1 hw hpre K hK
    match i, hi, ho with
    | 0, _, ho =>
      have e := Option.some.inj ho; subst e
      have hKK : ∀ (vv : Value) (w'' : World), Kept w1 w'' → (vv = Pr h) → K _ w'' := fun v w'' h1 h2 => hK v w'' (hw.of h1) (fun j _ _ h => hst j _ _ _ h h1) h2
      clear hK hpre hst
      simp only [putAll, dstOf, List.getElem?_toArray, List.getElem?_cons_zero, List.getElem?_cons_succ, Option.bind_some, Act.put, List.setIfInBounds_toArray, List.set_cons_zero, List.set_cons_succ] at hKK ⊢
      refine (if_pos (by rfl)).mpr ?_
      have c := hH.kept hw; have c0 := c.cell 0; have c1 := c.cell 1; clear c
      go_wp2
      exact hKK _ _ (Below.refl _ _) rfl
    | 1, _, ho =>
      have e := Option.some.inj ho; subst e
      have hKK : ∀ (vv : Value) (w'' : World), Kept w1 w'' → (w''.ownsRow ((w3.alloc (.cells #[U (eval2 h l).1, U (eval2 h l).2] 24)).heap.size) 24 2 vv 0 ([]) ∧ ∃ g, vv = .slice (some ⟨g, 0, none⟩) 0 0) → K _ w'' := fun v w'' h1 h2 => hK v w'' (hw.of h1) (fun j _ _ h => hst j _ _ _ h h1) h2
      clear hK hpre hst
      simp only [putAll, dstOf, List.getElem?_toArray, List.getElem?_cons_zero, List.getElem?_cons_succ, Option.bind_some, Act.put, List.setIfInBounds_toArray, List.set_cons_zero, List.set_cons_succ] at hKK ⊢
      refine (if_pos (by rfl)).mpr ?_
      go_wp2
      exact hKK _ _ ((Below.refl _ _).alloc (Nat.le_refl _) _) ⟨⟨by simp, .inr ⟨_, 0, _, rfl, hw.size, heap_alloc_new _ _, Nat.le_refl _, Nat.zero_le _, by simp, by simp⟩⟩, _, rfl⟩
    | 2, _, ho =>
      have e := Option.some.inj ho; subst e
      have hKK : ∀ (vv : Value) (w'' : World), Kept w1 w'' → (vv = .slice a l.length cap) → K _ w'' := fun v w'' h1 h2 => hK v w'' (hw.of h1) (fun j _ _ h => hst j _ _ _ h h1) h2
      clear hK hpre hst
      simp only [putAll, dstOf, List.getElem?_toArray, List.getElem?_cons_zero, List.getElem?_cons_succ, Option.bind_some, Act.put, List.setIfInBounds_toArray, List.set_cons_zero, List.set_cons_succ] at hKK ⊢
      refine (if_pos (by rfl)).mpr ?_
      go_wp2
      exact hKK _ _ (Below.refl _ _) rfl
    | 3, _, ho =>
      have e := Option.some.inj ho; subst e
      have p1 : w1.ownsRow ((w3.alloc (.cells #[U (eval2 h l).1, U (eval2 h l).2] 24)).heap.size) 24 2 (x 1) 0 ([]) ∧ ∃ g, (x 1) = .slice (some ⟨g, 0, none⟩) 0 0 := hpre 1 (by kernel_rfl)
      have p2 : x 2 = .slice a l.length cap := hpre 2 (by kernel_rfl)
      have hKK : ∀ (vv : Value) (w'' : World), Kept _ w'' → ((w1.ownsRow ((w3.alloc (.cells #[U (eval2 h l).1, U (eval2 h l).2] 24)).heap.size) 24 2 (x 1) 0 ([]) ∧ ∃ g, (x 1) = .slice (some ⟨g, 0, none⟩) 0 0) → (w''.ownsRow ((w3.alloc (.cells #[U (eval2 h l).1, U (eval2 h l).2] 24)).heap.size) 24 2 (x 1) 0 ([]) ∧ ∃ g, (x 1) = .slice (some ⟨g, 0, none⟩) 0 0)) → ((∃ g, (x 5) = .slice (some ⟨g, 0, none⟩) 1 1 ∧ ((w3.alloc (.cells #[U (eval2 h l).1, U (eval2 h l).2] 24)).heap.size) ≤ g ∧ Blk w1 g #[U p.1, U p.2] 24) → (∃ g, (x 5) = .slice (some ⟨g, 0, none⟩) 1 1 ∧ ((w3.alloc (.cells #[U (eval2 h l).1, U (eval2 h l).2] 24)).heap.size) ≤ g ∧ Blk w'' g #[U p.1, U p.2] 24)) → ((w1.ownsRow ((w3.alloc (.cells #[U (eval2 h l).1, U (eval2 h l).2] 24)).heap.size) 24 2 (x 6) (l.length + 1) (pcells (l ++ [p]))) → (w''.ownsRow ((w3.alloc (.cells #[U (eval2 h l).1, U (eval2 h l).2] 24)).heap.size) 24 2 (x 6) (l.length + 1) (pcells (l ++ [p])))) → ((∃ g, (x 8) = .pointer (some ⟨g, 0, none⟩) ∧ ((w3.alloc (.cells #[U (eval2 h l).1, U (eval2 h l).2] 24)).heap.size) ≤ g ∧ Blk w1 g #[U 0#64, U 0#64] 24) → (∃ g, (x 8) = .pointer (some ⟨g, 0, none⟩) ∧ ((w3.alloc (.cells #[U (eval2 h l).1, U (eval2 h l).2] 24)).heap.size) ≤ g ∧ Blk w'' g #[U 0#64, U 0#64] 24)) → (w''.ownsRow ((w3.alloc (.cells #[U (eval2 h l).1, U (eval2 h l).2] 24)).heap.size) 24 2 vv l.length (pcells l) ∧ (l.length = 0 → ∃ g, vv = .slice (some ⟨g, 0, none⟩) 0 0)) → K _ w'' := fun v w'' h0 s1 s5 s6 s8 h2 => hK v w'' h0 (fun j hj hne h => by
        match j, hj, hne, h with
        | 0, _, hne, h => exact h
        | 1, _, hne, h => exact s1 h
        | 2, _, hne, h => exact h
        | 3, _, hne, h => exact absurd rfl hne
        | 4, _, hne, h => exact h
        | 5, _, hne, h => exact s5 h
        | 6, _, hne, h => exact s6 h
        | 7, _, hne, h => exact h
        | 8, _, hne, h => exact s8 h
        | j + 9, hj, _, _ => exact absurd hj (by omega)) h2
      clear hK hpre hst
      simp only [putAll, dstOf, List.getElem?_toArray, List.getElem?_cons_zero, List.getElem?_cons_succ, Option.bind_some, Act.put, List.setIfInBounds_toArray, List.set_cons_zero, List.set_cons_succ] at hKK ⊢
      simp only [p2] at hKK ⊢
      clear p2
      refine (if_pos (by rfl)).mpr ?_
      obtain ⟨p1, g1, hg1⟩ := p1
      refine wp_append3 sl_pair (by rfl) (by rfl) (by rfl) p1 (hs.kept hw) (pcells_length l) (oneCell_pair _) (by unfold maxLen; omega) (by omega) hw.size ?_
      intro v2 w2 hown hg _ h0
      rw [Nat.zero_add, List.nil_append] at hown
      have hk2 : Kept w1 w2 := hg.kept (fun i cur hi hc => by
        rw [hg1] at hi p1
        cases hi
        obtain ⟨_, hh | ⟨g, c, cu, hv, _, hgg, _, _, hcs, _⟩⟩ := p1
        · cases hh.1
        · cases hv
          rw [hgg] at hc
          cases hc
          omega)
      exact hKK v2 w2 (hw.of hk2) (fun h => ⟨own_kept h.1 hk2, h.2⟩) (fun h => by obtain ⟨g, hv, hb, hx⟩ := h; exact ⟨g, hv, hb, hx.kept hk2⟩) (fun h => own_kept h hk2) (fun h => by obtain ⟨g, hv, hb, hx⟩ := h; exact ⟨g, hv, hb, hx.kept hk2⟩) ⟨hown, fun h => ⟨g1, by rw [h0 h, hg1]⟩⟩
    | 4, _, ho =>
      have e := Option.some.inj ho; subst e
      have hKK : ∀ (vv : Value) (w'' : World), Kept w1 w'' → (vv = Pr p) → K _ w'' := fun v w'' h1 h2 => hK v w'' (hw.of h1) (fun j _ _ h => hst j _ _ _ h h1) h2
      clear hK hpre hst
      simp only [putAll, dstOf, List.getElem?_toArray, List.getElem?_cons_zero, List.getElem?_cons_succ, Option.bind_some, Act.put, List.setIfInBounds_toArray, List.set_cons_zero, List.set_cons_succ] at hKK ⊢
      refine (if_pos (by rfl)).mpr ?_
      have c := hP.kept hw; have c0 := c.cell 0; have c1 := c.cell 1; clear c
      go_wp2
      exact hKK _ _ (Below.refl _ _) rfl
    | 5, _, ho =>
      have e := Option.some.inj ho; subst e
      have p4 : x 4 = Pr p := hpre 4 (by kernel_rfl)
      have hKK : ∀ (vv : Value) (w'' : World), Kept w1 w'' → (∃ g, vv = .slice (some ⟨g, 0, none⟩) 1 1 ∧ ((w3.alloc (.cells #[U (eval2 h l).1, U (eval2 h l).2] 24)).heap.size) ≤ g ∧ Blk w'' g #[U p.1, U p.2] 24) → K _ w'' := fun v w'' h1 h2 => hK v w'' (hw.of h1) (fun j _ _ h => hst j _ _ _ h h1) h2
      clear hK hpre hst
      simp only [putAll, dstOf, List.getElem?_toArray, List.getElem?_cons_zero, List.getElem?_cons_succ, Option.bind_some, Act.put, List.setIfInBounds_toArray, List.set_cons_zero, List.set_cons_succ] at hKK ⊢
      simp only [p4] at hKK ⊢
      clear p4
      refine (if_pos (by rfl)).mpr ?_
      go_wp2
      exact hKK _ _ ((Below.refl _ _).alloc (Nat.le_refl _) _) ⟨_, rfl, hw.size, Blk.new _ _ _⟩
    | 6, _, ho =>
      have e := Option.some.inj ho; subst e
      have p3 : w1.ownsRow ((w3.alloc (.cells #[U (eval2 h l).1, U (eval2 h l).2] 24)).heap.size) 24 2 (x 3) l.length (pcells l) ∧ (l.length = 0 → ∃ g, (x 3) = .slice (some ⟨g, 0, none⟩) 0 0) := hpre 3 (by kernel_rfl)
      have p5 : ∃ g, (x 5) = .slice (some ⟨g, 0, none⟩) 1 1 ∧ ((w3.alloc (.cells #[U (eval2 h l).1, U (eval2 h l).2] 24)).heap.size) ≤ g ∧ Blk w1 g #[U p.1, U p.2] 24 := hpre 5 (by kernel_rfl)
      have hKK : ∀ (vv : Value) (w'' : World), Kept _ w'' → ((w1.ownsRow ((w3.alloc (.cells #[U (eval2 h l).1, U (eval2 h l).2] 24)).heap.size) 24 2 (x 1) 0 ([]) ∧ ∃ g, (x 1) = .slice (some ⟨g, 0, none⟩) 0 0) → (w''.ownsRow ((w3.alloc (.cells #[U (eval2 h l).1, U (eval2 h l).2] 24)).heap.size) 24 2 (x 1) 0 ([]) ∧ ∃ g, (x 1) = .slice (some ⟨g, 0, none⟩) 0 0)) → ((w1.ownsRow ((w3.alloc (.cells #[U (eval2 h l).1, U (eval2 h l).2] 24)).heap.size) 24 2 (x 3) l.length (pcells l) ∧ (l.length = 0 → ∃ g, (x 3) = .slice (some ⟨g, 0, none⟩) 0 0)) → (w''.ownsRow ((w3.alloc (.cells #[U (eval2 h l).1, U (eval2 h l).2] 24)).heap.size) 24 2 (x 3) l.length (pcells l) ∧ (l.length = 0 → ∃ g, (x 3) = .slice (some ⟨g, 0, none⟩) 0 0))) → ((∃ g, (x 5) = .slice (some ⟨g, 0, none⟩) 1 1 ∧ ((w3.alloc (.cells #[U (eval2 h l).1, U (eval2 h l).2] 24)).heap.size) ≤ g ∧ Blk w1 g #[U p.1, U p.2] 24) → (∃ g, (x 5) = .slice (some ⟨g, 0, none⟩) 1 1 ∧ ((w3.alloc (.cells #[U (eval2 h l).1, U (eval2 h l).2] 24)).heap.size) ≤ g ∧ Blk w'' g #[U p.1, U p.2] 24)) → ((∃ g, (x 8) = .pointer (some ⟨g, 0, none⟩) ∧ ((w3.alloc (.cells #[U (eval2 h l).1, U (eval2 h l).2] 24)).heap.size) ≤ g ∧ Blk w1 g #[U 0#64, U 0#64] 24) → (∃ g, (x 8) = .pointer (some ⟨g, 0, none⟩) ∧ ((w3.alloc (.cells #[U (eval2 h l).1, U (eval2 h l).2] 24)).heap.size) ≤ g ∧ Blk w'' g #[U 0#64, U 0#64] 24)) → (w''.ownsRow ((w3.alloc (.cells #[U (eval2 h l).1, U (eval2 h l).2] 24)).heap.size) 24 2 vv (l.length + 1) (pcells (l ++ [p]))) → K _ w'' := fun v w'' h0 s1 s3 s5 s8 h2 => hK v w'' h0 (fun j hj hne h => by
        match j, hj, hne, h with
        | 0, _, hne, h => exact h
        | 1, _, hne, h => exact s1 h
        | 2, _, hne, h => exact h
        | 3, _, hne, h => exact s3 h
        | 4, _, hne, h => exact h
        | 5, _, hne, h => exact s5 h
        | 6, _, hne, h => exact absurd rfl hne
        | 7, _, hne, h => exact h
        | 8, _, hne, h => exact s8 h
        | j + 9, hj, _, _ => exact absurd hj (by omega)) h2
      clear hK hpre hst
      simp only [putAll, dstOf, List.getElem?_toArray, List.getElem?_cons_zero, List.getElem?_cons_succ, Option.bind_some, Act.put, List.setIfInBounds_toArray, List.set_cons_zero, List.set_cons_succ] at hKK ⊢
      refine (if_pos (by rfl)).mpr ?_
      obtain ⟨p3, hz⟩ := p3
      obtain ⟨g5, hv5, hb5, hx5⟩ := p5
      have hs5 : Sl w1 (x 5) 1 [U p.1, U p.2] := by
        rw [hv5]
        refine Sl.mk (Nat.le_refl _) (by unfold maxLen; omega) fun j u hj => ?_
        rw [Nat.zero_add, hx5.cell j]
        simpa using hj
      refine wp_append3 sl_pair (by rfl) (by rfl) (by rfl) p3 hs5 (by rfl) (oneCell_pair [p]) (by unfold maxLen; omega) (by omega) hw.size ?_
      intro v2 w2 hown hg _ _
      have hsm : ∀ g8 (cs : Array Value), cs.size = 2 → Blk w1 g8 cs 24 → Blk w2 g8 cs 24 := by
        intro g8 cs hsz hx8
        by_cases hl0 : l.length = 0
        · rcases hg.block g8 hx8.lt with hsame | ⟨hr, c1, c2, h1, h2, h3, h4, h5⟩
          · exact hsame.trans hx8
          · obtain ⟨g, hv⟩ := hz hl0
            have p3' := p3
            rw [hv] at hr p3'
            rw [hl0] at p3'
            cases hr
            obtain ⟨_, hh | ⟨g', c, cu, hv', _, hgg, _, _, hcs, _⟩⟩ := p3'
            · cases hh.1
            · cases hv'
              rw [h1] at hgg
              cases hgg
              omega
        · exact hg.small hx8 (by omega)
      exact hKK v2 w2 (Below.trans hw (hg.below (fun i hi => (p3.lt i hi).1) hw.size)) (fun h => ⟨hg.own h.1 (by omega), h.2⟩) (fun h => ⟨hg.own h.1 (Nat.le_refl _), h.2⟩) (fun h => by obtain ⟨g, hv, hb, hx⟩ := h; rw [hv5] at hv; cases hv; exact ⟨g5, hv5, hb5, hsm _ _ rfl hx5⟩) (fun h => by obtain ⟨g, hv, hb, hx⟩ := h; exact ⟨g, hv, hb, hsm _ _ rfl hx⟩) (by rw [pcells_append]; exact hown)
    | 7, _, ho =>
      have e := Option.some.inj ho; subst e
      have p0 : x 0 = Pr h := hpre 0 (by kernel_rfl)
      have p6 : w1.ownsRow ((w3.alloc (.cells #[U (eval2 h l).1, U (eval2 h l).2] 24)).heap.size) 24 2 (x 6) (l.length + 1) (pcells (l ++ [p])) := hpre 6 (by kernel_rfl)
      have hKK : ∀ (vv : Value) (w'' : World), Kept w1 w'' → (vv = Pr (eval2 h (l ++ [p]))) → K _ w'' := fun v w'' h1 h2 => hK v w'' (hw.of h1) (fun j _ _ h => hst j _ _ _ h h1) h2
      clear hK hpre hst
      simp only [putAll, dstOf, List.getElem?_toArray, List.getElem?_cons_zero, List.getElem?_cons_succ, Option.bind_some, Act.put, List.setIfInBounds_toArray, List.set_cons_zero, List.set_cons_succ] at hKK ⊢
      simp only [p0] at hKK ⊢
      clear p0
      refine (if_pos (by rfl)).mpr ?_
      have hl6 : (l ++ [p]).length = l.length + 1 := by simp
      go_wp2_with fail
      refine (eval_sl h _ (l ++ [p]) _ (by omega) (by rw [hl6]; exact Sl.of_own p6)).mono ?_
      rintro e w2 ⟨rfl, hk2⟩
      exact hKK _ _ hk2 rfl
    | 8, _, ho =>
      have e := Option.some.inj ho; subst e
      have hKK : ∀ (vv : Value) (w'' : World), Kept w1 w'' → (∃ g, vv = .pointer (some ⟨g, 0, none⟩) ∧ ((w3.alloc (.cells #[U (eval2 h l).1, U (eval2 h l).2] 24)).heap.size) ≤ g ∧ Blk w'' g #[U 0#64, U 0#64] 24) → K _ w'' := fun v w'' h1 h2 => hK v w'' (hw.of h1) (fun j _ _ h => hst j _ _ _ h h1) h2
      clear hK hpre hst
      simp only [putAll, dstOf, List.getElem?_toArray, List.getElem?_cons_zero, List.getElem?_cons_succ, Option.bind_some, Act.put, List.setIfInBounds_toArray, List.set_cons_zero, List.set_cons_succ] at hKK ⊢
      refine (if_pos (by rfl)).mpr ?_
      go_wp2
      exact hKK _ _ ((Below.refl _ _).alloc (Nat.le_refl _) _) ⟨_, rfl, hw.size, Blk.new _ _ _⟩
    | i + 9, hi, _ => exact absurd hi (by omega)
  · intro x w1 hw hA
    have p0 : x 0 = Pr h := hA 0 (by omega)
    have p1 : w1.ownsRow ((w3.alloc (.cells #[U (eval2 h l).1, U (eval2 h l).2] 24)).heap.size) 24 2 (x 1) 0 ([]) ∧ ∃ g, (x 1) = .slice (some ⟨g, 0, none⟩) 0 0 := hA 1 (by omega)
    have p2 : x 2 = .slice a l.length cap := hA 2 (by omega)
    have p3 : w1.ownsRow ((w3.alloc (.cells #[U (eval2 h l).1, U (eval2 h l).2] 24)).heap.size) 24 2 (x 3) l.length (pcells l) ∧ (l.length = 0 → ∃ g, (x 3) = .slice (some ⟨g, 0, none⟩) 0 0) := hA 3 (by omega)
    have p4 : x 4 = Pr p := hA 4 (by omega)
    have p5 : ∃ g, (x 5) = .slice (some ⟨g, 0, none⟩) 1 1 ∧ ((w3.alloc (.cells #[U (eval2 h l).1, U (eval2 h l).2] 24)).heap.size) ≤ g ∧ Blk w1 g #[U p.1, U p.2] 24 := hA 5 (by omega)
    have p6 : w1.ownsRow ((w3.alloc (.cells #[U (eval2 h l).1, U (eval2 h l).2] 24)).heap.size) 24 2 (x 6) (l.length + 1) (pcells (l ++ [p])) := hA 6 (by omega)
    have p7 : x 7 = Pr (eval2 h (l ++ [p])) := hA 7 (by omega)
    have p8 : ∃ g, (x 8) = .pointer (some ⟨g, 0, none⟩) ∧ ((w3.alloc (.cells #[U (eval2 h l).1, U (eval2 h l).2] 24)).heap.size) ≤ g ∧ Blk w1 g #[U 0#64, U 0#64] 24 := hA 8 (by omega)
    clear hA hst
    simp only [List.drop_succ_cons, List.drop_zero, putAll, dstOf, List.getElem?_toArray, List.getElem?_cons_zero, List.getElem?_cons_succ, Option.bind_some, Act.put, List.setIfInBounds_toArray, List.set_cons_zero, List.set_cons_succ]
    simp only [p0, p2, p4, p7]
    clear p0 p2 p4 p7
    obtain ⟨g8, hv8, hb8, hx8⟩ := p8
    rw [hv8]
    have f0 := hx8.free 0
    have f1 := hx8.free 1
    have c0 := hx8.cell 0
    have c1 := hx8.cell 1
    clear p1 p3 p5 p6 hv8
    have hes : eval2 h (l ++ [p]) = mul2 (add2 (eval2 h l) p) h := by rw [eval2_snoc, add2_comm]
    rw [hes]
    clear hes
    have hk5 : Kept (w3.alloc (.cells #[U (eval2 h l).1, U (eval2 h l).2] 24)) ((w1.setCell ⟨g8, 0, none⟩ (U (mul2 (add2 (eval2 h l) p) h).1)).setCell ⟨g8, 1, none⟩ (U (mul2 (add2 (eval2 h l) p) h).2)) := (Below.setCell hw hb8 _).setCell hb8 _
    have hH5 := hH.kept hk5
    have hP5 := hP.kept hk5
    have hA5 := hA.kept hk5
    have hs5 := hs.kept hk5
    have hE5 := (hx8.set 0 (U (mul2 (add2 (eval2 h l) p) h).1)).set 1 (U (mul2 (add2 (eval2 h l) p) h).2)
    have g5 := g4.of hk5
    clear hH hP hA hs g4 hk5 hw hb8 hx8
    go_wp2_with fail
    refine wp_region_posts 17 (fun i (vv : Value) w' => match i with | 0 => vv = Pr (eval2 h l) | 1 => vv = Pr h | 2 => vv = .slice a l.length cap | 3 => vv = Pr (eval2 h l) | 4 => vv = .bool true | 5 => vv = .bool true | 6 => vv = Pr (mul2 (add2 (eval2 h l) p) h) | 7 => vv = Pr (eval2 h l) | 8 => vv = Pr p | 9 => vv = Pr (add2 (eval2 h l) p) | 10 => vv = Pr h | 11 => vv = Pr (mul2 (add2 (eval2 h l) p) h) | 12 => vv = .bool true | 13 => vv = .bool true | 14 => vv = .bool true | 15 => vv = .bool true | 16 => vv = .bool true | _ => True) (by kernel_rfl) (by kernel_rfl) ?_ ?_ ?_
    · intro i v w1 w2 h hk
      match i, h with
      | 0, h => exact h
      | 1, h => exact h
      | 2, h => exact h
      | 3, h => exact h
      | 4, h => exact h
      | 5, h => exact h
      | 6, h => exact h
      | 7, h => exact h
      | 8, h => exact h
      | 9, h => exact h
      | 10, h => exact h
      | 11, h => exact h
      | 12, h => exact h
      | 13, h => exact h
      | 14, h => exact h
      | 15, h => exact h
      | 16, h => exact h
      | _ + 17, _ => trivial
    · intro i o hi ho x w1 hw hpre K hK
      match i, hi, ho with
      | 0, _, ho =>
        have e := Option.some.inj ho; subst e
        have hKK : ∀ (vv : Value) (w'' : World), Kept w1 w'' → (vv = Pr (eval2 h l)) → K _ w'' := fun v w'' h1 h2 => hK v w'' h1 h2
        clear hK hpre
        simp only [putAll, dstOf, List.getElem?_toArray, List.getElem?_cons_zero, List.getElem?_cons_succ, Option.bind_some, Act.put, List.setIfInBounds_toArray, List.set_cons_zero, List.set_cons_succ] at hKK ⊢
        refine (if_pos (by rfl)).mpr ?_
        have c := hA5.kept hw; have c0 := c.cell 0; have c1 := c.cell 1; clear c
        go_wp2
        exact hKK _ _ (Below.refl _ _) rfl
      | 1, _, ho =>
        have e := Option.some.inj ho; subst e
        have hKK : ∀ (vv : Value) (w'' : World), Kept w1 w'' → (vv = Pr h) → K _ w'' := fun v w'' h1 h2 => hK v w'' h1 h2
        clear hK hpre
        simp only [putAll, dstOf, List.getElem?_toArray, List.getElem?_cons_zero, List.getElem?_cons_succ, Option.bind_some, Act.put, List.setIfInBounds_toArray, List.set_cons_zero, List.set_cons_succ] at hKK ⊢
        refine (if_pos (by rfl)).mpr ?_
        have c := hH5.kept hw; have c0 := c.cell 0; have c1 := c.cell 1; clear c
        go_wp2
        exact hKK _ _ (Below.refl _ _) rfl
      | 2, _, ho =>
        have e := Option.some.inj ho; subst e
        have hKK : ∀ (vv : Value) (w'' : World), Kept w1 w'' → (vv = .slice a l.length cap) → K _ w'' := fun v w'' h1 h2 => hK v w'' h1 h2
        clear hK hpre
        simp only [putAll, dstOf, List.getElem?_toArray, List.getElem?_cons_zero, List.getElem?_cons_succ, Option.bind_some, Act.put, List.setIfInBounds_toArray, List.set_cons_zero, List.set_cons_succ] at hKK ⊢
        refine (if_pos (by rfl)).mpr ?_
        go_wp2
        exact hKK _ _ (Below.refl _ _) rfl
      | 3, _, ho =>
        have e := Option.some.inj ho; subst e
        have p1 : x 1 = Pr h := hpre 1 (by kernel_rfl)
        have p2 : x 2 = .slice a l.length cap := hpre 2 (by kernel_rfl)
        have hKK : ∀ (vv : Value) (w'' : World), Kept w1 w'' → (vv = Pr (eval2 h l)) → K _ w'' := fun v w'' h1 h2 => hK v w'' h1 h2
        clear hK hpre
        simp only [putAll, dstOf, List.getElem?_toArray, List.getElem?_cons_zero, List.getElem?_cons_succ, Option.bind_some, Act.put, List.setIfInBounds_toArray, List.set_cons_zero, List.set_cons_succ] at hKK ⊢
        simp only [p1, p2] at hKK ⊢
        clear p1 p2
        refine (if_pos (by rfl)).mpr ?_
        go_wp2_with fail
        refine (reval_sl h _ l _ (by omega) (hs5.kept hw)).mono ?_
        rintro e w2 ⟨rfl, hk2⟩
        exact hKK _ _ hk2 rfl
      | 4, _, ho =>
        have e := Option.some.inj ho; subst e
        have p0 : x 0 = Pr (eval2 h l) := hpre 0 (by kernel_rfl)
        have p3 : x 3 = Pr (eval2 h l) := hpre 3 (by kernel_rfl)
        have hKK : ∀ (vv : Value) (w'' : World), Kept w1 w'' → (vv = .bool true) → K _ w'' := fun v w'' h1 h2 => hK v w'' h1 h2
        clear hK hpre
        simp only [putAll, dstOf, List.getElem?_toArray, List.getElem?_cons_zero, List.getElem?_cons_succ, Option.bind_some, Act.put, List.setIfInBounds_toArray, List.set_cons_zero, List.set_cons_succ] at hKK ⊢
        simp only [p0, p3] at hKK ⊢
        clear p0 p3
        refine (if_pos (by rfl)).mpr ?_
        go_wp2
        exact hKK _ _ (Below.refl _ _) rfl
      | 5, _, ho =>
        have e := Option.some.inj ho; subst e
        have p4 : x 4 = .bool true := hpre 4 (by kernel_rfl)
        have hKK : ∀ (vv : Value) (w'' : World), Kept w1 w'' → (vv = .bool true) → K _ w'' := fun v w'' h1 h2 => hK v w'' h1 h2
        clear hK hpre
        simp only [putAll, dstOf, List.getElem?_toArray, List.getElem?_cons_zero, List.getElem?_cons_succ, Option.bind_some, Act.put, List.setIfInBounds_toArray, List.set_cons_zero, List.set_cons_succ] at hKK ⊢
        simp only [p4] at hKK ⊢
        clear p4
        refine (if_pos (by rfl)).mpr ?_
        go_wp2
        exact hKK _ _ (Below.refl _ _) rfl
      | 6, _, ho =>
        have e := Option.some.inj ho; subst e
        have p5 : x 5 = .bool true := hpre 5 (by kernel_rfl)
        have hKK : ∀ (vv : Value) (w'' : World), Kept w1 w'' → (vv = Pr (mul2 (add2 (eval2 h l) p) h)) → K _ w'' := fun v w'' h1 h2 => hK v w'' h1 h2
        clear hK hpre
        simp only [putAll, dstOf, List.getElem?_toArray, List.getElem?_cons_zero, List.getElem?_cons_succ, Option.bind_some, Act.put, List.setIfInBounds_toArray, List.set_cons_zero, List.set_cons_succ] at hKK ⊢
        simp only [p5] at hKK ⊢
        clear p5
        refine (if_pos (by rfl)).mpr ?_
        have c := hE5.kept hw; have c0 := c.cell 0; have c1 := c.cell 1; clear c
        go_wp2
        exact hKK _ _ (Below.refl _ _) rfl
      | 7, _, ho =>
        have e := Option.some.inj ho; subst e
        have p5 : x 5 = .bool true := hpre 5 (by kernel_rfl)
        have hKK : ∀ (vv : Value) (w'' : World), Kept w1 w'' → (vv = Pr (eval2 h l)) → K _ w'' := fun v w'' h1 h2 => hK v w'' h1 h2
        clear hK hpre
        simp only [putAll, dstOf, List.getElem?_toArray, List.getElem?_cons_zero, List.getElem?_cons_succ, Option.bind_some, Act.put, List.setIfInBounds_toArray, List.set_cons_zero, List.set_cons_succ] at hKK ⊢
        simp only [p5] at hKK ⊢
        clear p5
        refine (if_pos (by rfl)).mpr ?_
        have c := hA5.kept hw; have c0 := c.cell 0; have c1 := c.cell 1; clear c
        go_wp2
        exact hKK _ _ (Below.refl _ _) rfl
      | 8, _, ho =>
        have e := Option.some.inj ho; subst e
        have p5 : x 5 = .bool true := hpre 5 (by kernel_rfl)
        have hKK : ∀ (vv : Value) (w'' : World), Kept w1 w'' → (vv = Pr p) → K _ w'' := fun v w'' h1 h2 => hK v w'' h1 h2
        clear hK hpre
        simp only [putAll, dstOf, List.getElem?_toArray, List.getElem?_cons_zero, List.getElem?_cons_succ, Option.bind_some, Act.put, List.setIfInBounds_toArray, List.set_cons_zero, List.set_cons_succ] at hKK ⊢
        simp only [p5] at hKK ⊢
        clear p5
        refine (if_pos (by rfl)).mpr ?_
        have c := hP5.kept hw; have c0 := c.cell 0; have c1 := c.cell 1; clear c
        go_wp2
        exact hKK _ _ (Below.refl _ _) rfl
      | 9, _, ho =>
        have e := Option.some.inj ho; subst e
        have p5 : x 5 = .bool true := hpre 5 (by kernel_rfl)
        have p7 : x 7 = Pr (eval2 h l) := hpre 7 (by kernel_rfl)
        have p8 : x 8 = Pr p := hpre 8 (by kernel_rfl)
        have hKK : ∀ (vv : Value) (w'' : World), Kept w1 w'' → (vv = Pr (add2 (eval2 h l) p)) → K _ w'' := fun v w'' h1 h2 => hK v w'' h1 h2
        clear hK hpre
        simp only [putAll, dstOf, List.getElem?_toArray, List.getElem?_cons_zero, List.getElem?_cons_succ, Option.bind_some, Act.put, List.setIfInBounds_toArray, List.set_cons_zero, List.set_cons_succ] at hKK ⊢
        simp only [p5, p7, p8] at hKK ⊢
        clear p5 p7 p8
        refine (if_pos (by rfl)).mpr ?_
        go_wp2_with fail
        refine (add_any _ _ _ _ _).mono ?_
        rintro e w2 ⟨rfl, hk2⟩
        exact hKK _ _ hk2 rfl
      | 10, _, ho =>
        have e := Option.some.inj ho; subst e
        have p5 : x 5 = .bool true := hpre 5 (by kernel_rfl)
        have hKK : ∀ (vv : Value) (w'' : World), Kept w1 w'' → (vv = Pr h) → K _ w'' := fun v w'' h1 h2 => hK v w'' h1 h2
        clear hK hpre
        simp only [putAll, dstOf, List.getElem?_toArray, List.getElem?_cons_zero, List.getElem?_cons_succ, Option.bind_some, Act.put, List.setIfInBounds_toArray, List.set_cons_zero, List.set_cons_succ] at hKK ⊢
        simp only [p5] at hKK ⊢
        clear p5
        refine (if_pos (by rfl)).mpr ?_
        have c := hH5.kept hw; have c0 := c.cell 0; have c1 := c.cell 1; clear c
        go_wp2
        exact hKK _ _ (Below.refl _ _) rfl
      | 11, _, ho =>
        have e := Option.some.inj ho; subst e
        have p5 : x 5 = .bool true := hpre 5 (by kernel_rfl)
        have p9 : x 9 = Pr (add2 (eval2 h l) p) := hpre 9 (by kernel_rfl)
        have p10 : x 10 = Pr h := hpre 10 (by kernel_rfl)
        have hKK : ∀ (vv : Value) (w'' : World), Kept w1 w'' → (vv = Pr (mul2 (add2 (eval2 h l) p) h)) → K _ w'' := fun v w'' h1 h2 => hK v w'' h1 h2
        clear hK hpre
        simp only [putAll, dstOf, List.getElem?_toArray, List.getElem?_cons_zero, List.getElem?_cons_succ, Option.bind_some, Act.put, List.setIfInBounds_toArray, List.set_cons_zero, List.set_cons_succ] at hKK ⊢
        simp only [p5, p9, p10] at hKK ⊢
        clear p5 p9 p10
        refine (if_pos (by rfl)).mpr ?_
        go_wp2_with fail
        refine (mul_any _ _ _ _ _).mono ?_
        rintro e w2 ⟨rfl, hk2⟩
        exact hKK _ _ hk2 rfl
      | 12, _, ho =>
        have e := Option.some.inj ho; subst e
        have p5 : x 5 = .bool true := hpre 5 (by kernel_rfl)
        have p6 : x 6 = Pr (mul2 (add2 (eval2 h l) p) h) := hpre 6 (by kernel_rfl)
        have p11 : x 11 = Pr (mul2 (add2 (eval2 h l) p) h) := hpre 11 (by kernel_rfl)
        have hKK : ∀ (vv : Value) (w'' : World), Kept w1 w'' → (vv = .bool true) → K _ w'' := fun v w'' h1 h2 => hK v w'' h1 h2
        clear hK hpre
        simp only [putAll, dstOf, List.getElem?_toArray, List.getElem?_cons_zero, List.getElem?_cons_succ, Option.bind_some, Act.put, List.setIfInBounds_toArray, List.set_cons_zero, List.set_cons_succ] at hKK ⊢
        simp only [p5, p6, p11] at hKK ⊢
        clear p5 p6 p11
        refine (if_pos (by rfl)).mpr ?_
        go_wp2
        exact hKK _ _ (Below.refl _ _) rfl
      | 13, _, ho =>
        have e := Option.some.inj ho; subst e
        have p5 : x 5 = .bool true := hpre 5 (by kernel_rfl)
        have p12 : x 12 = .bool true := hpre 12 (by kernel_rfl)
        have hKK : ∀ (vv : Value) (w'' : World), Kept w1 w'' → (vv = .bool true) → K _ w'' := fun v w'' h1 h2 => hK v w'' h1 h2
        clear hK hpre
        simp only [putAll, dstOf, List.getElem?_toArray, List.getElem?_cons_zero, List.getElem?_cons_succ, Option.bind_some, Act.put, List.setIfInBounds_toArray, List.set_cons_zero, List.set_cons_succ] at hKK ⊢
        simp only [p5, p12] at hKK ⊢
        clear p5 p12
        refine (if_pos (by rfl)).mpr ?_
        go_wp2
        exact hKK _ _ (Below.refl _ _) rfl
      | 14, _, ho =>
        have e := Option.some.inj ho; subst e
        have p13 : x 13 = .bool true := hpre 13 (by kernel_rfl)
        have hKK : ∀ (vv : Value) (w'' : World), Kept w1 w'' → (vv = .bool true) → K _ w'' := fun v w'' h1 h2 => hK v w'' h1 h2
        clear hK hpre
        simp only [putAll, dstOf, List.getElem?_toArray, List.getElem?_cons_zero, List.getElem?_cons_succ, Option.bind_some, Act.put, List.setIfInBounds_toArray, List.set_cons_zero, List.set_cons_succ] at hKK ⊢
        simp only [p13] at hKK ⊢
        clear p13
        refine (if_pos (by rfl)).mpr ?_
        go_wp2
        exact hKK _ _ (Below.refl _ _) rfl
      | 15, _, ho =>
        have e := Option.some.inj ho; subst e
        have p14 : x 14 = .bool true := hpre 14 (by kernel_rfl)
        have hKK : ∀ (vv : Value) (w'' : World), Kept w1 w'' → (vv = .bool true) → K _ w'' := fun v w'' h1 h2 => hK v w'' h1 h2
        clear hK hpre
        simp only [putAll, dstOf, List.getElem?_toArray, List.getElem?_cons_zero, List.getElem?_cons_succ, Option.bind_some, Act.put, List.setIfInBounds_toArray, List.set_cons_zero, List.set_cons_succ] at hKK ⊢
        simp only [p14] at hKK ⊢
        clear p14
        refine (if_pos (by rfl)).mpr ?_
        go_wp2_with fail
        refine (known_any _).mono ?_
        rintro e w2 ⟨rfl, hk2⟩
        go_wp2
        exact hKK _ _ hk2 rfl
      | 16, _, ho =>
        have e := Option.some.inj ho; subst e
        have p14 : x 14 = .bool true := hpre 14 (by kernel_rfl)
        have p15 : x 15 = .bool true := hpre 15 (by kernel_rfl)
        have hKK : ∀ (vv : Value) (w'' : World), Kept w1 w'' → (vv = .bool true) → K _ w'' := fun v w'' h1 h2 => hK v w'' h1 h2
        clear hK hpre
        simp only [putAll, dstOf, List.getElem?_toArray, List.getElem?_cons_zero, List.getElem?_cons_succ, Option.bind_some, Act.put, List.setIfInBounds_toArray, List.set_cons_zero, List.set_cons_succ] at hKK ⊢
        simp only [p14, p15] at hKK ⊢
        clear p14 p15
        refine (if_pos (by rfl)).mpr ?_
        go_wp2
        exact hKK _ _ (Below.refl _ _) rfl
      | i + 17, hi, _ => exact absurd hi (by omega)
    · intro x w1 hw hA
      have p0 : x 0 = Pr (eval2 h l) := hA 0 (by omega)
      have p1 : x 1 = Pr h := hA 1 (by omega)
      have p2 : x 2 = .slice a l.length cap := hA 2 (by omega)
      have p3 : x 3 = Pr (eval2 h l) := hA 3 (by omega)
      have p4 : x 4 = .bool true := hA 4 (by omega)
      have p5 : x 5 = .bool true := hA 5 (by omega)
      have p6 : x 6 = Pr (mul2 (add2 (eval2 h l) p) h) := hA 6 (by omega)
      have p7 : x 7 = Pr (eval2 h l) := hA 7 (by omega)
      have p8 : x 8 = Pr p := hA 8 (by omega)
      have p9 : x 9 = Pr (add2 (eval2 h l) p) := hA 9 (by omega)
      have p10 : x 10 = Pr h := hA 10 (by omega)
      have p11 : x 11 = Pr (mul2 (add2 (eval2 h l) p) h) := hA 11 (by omega)
      have p12 : x 12 = .bool true := hA 12 (by omega)
      have p13 : x 13 = .bool true := hA 13 (by omega)
      have p14 : x 14 = .bool true := hA 14 (by omega)
      have p15 : x 15 = .bool true := hA 15 (by omega)
      have p16 : x 16 = .bool true := hA 16 (by omega)
      clear hA
      simp only [List.drop_succ_cons, List.drop_zero, putAll, dstOf, List.getElem?_toArray, List.getElem?_cons_zero, List.getElem?_cons_succ, Option.bind_some, Act.put, List.setIfInBounds_toArray, List.set_cons_zero, List.set_cons_succ]
      simp only [p0, p1, p2, p3, p4, p5, p6, p7, p8, p9, p10, p11, p12, p13, p14, p15, p16]
      clear p0 p1 p2 p3 p4 p5 p6 p7 p8 p9 p10 p11 p12 p13 p14 p15 p16
      go_wp2
      go_ret
      exact ⟨rfl, g5.of hw⟩

namespace fieldEvalRow
open Go.ChangeShapes Go.WideShapes Go.ChangeAt Go.RowKit
theorem own : ownKnob Try.prog.godebug = none := by kernel_rfl
theorem laidOut : laidOutB Try.prog = true := by kernel_rfl

set_option maxRecDepth 100000 in
theorem lifted (os : Os) (started : os.Started) (H : Type) (enc : TypeId × Value → H) :
    ReturnsInHanded {} Try.checked os 7 .any (Rows.fieldEvalSpec.pre6 enc Try.prog Try.f7 Rows.fieldEvalRow.domain false) (Rows.fieldEvalSpec.post enc Try.prog Try.f7 false true false false) := by
  refine returnsInHanded_of_change (C := Try.checked) own started (by kernel_rfl) Try.func7
    (ChangeSpec.witness6 (enc := enc) (C := Try.checked) false ⟨#[], #[.agg #[.int .u64 0, .int .u64 0], .slice none 0 0, .agg #[.int .u64 0, .int .u64 0]], []⟩ 8 (by kernel_rfl) (by kernel_rfl) (by kernel_rfl) (by kernel_rfl)) ?_
  intro W base args ds gs before hval0 hW _ hsz
  have hval : ∀ (j : Nat) t v, Try.f7.params[j]? = some t → args[j]? = some v → Value.okWide Try.prog W .any base t v := hval0
  have hW' := hW
  obtain ⟨p, q, hA0, hV, rfl, hfz, hnd⟩ := hW
  have hA : DataW.TrodAll enc Try.prog W 0 (fun _ => true) true Try.f7.params.toList args.toList ds p := hA0
  rw [Try.params7] at hA hval
  obtain ⟨v0, vs0, d0, ds0, p0, q0, hargs, rfl, rfl, h0, r0⟩ := trodAll_cons hA
  obtain ⟨v1, vs1, d1, ds1, p1, q1, rfl, rfl, rfl, h1, r1⟩ := trodAll_cons r0
  obtain ⟨v2, vs2, d2, ds2, p2, q2, rfl, rfl, rfl, h2, r2⟩ := trodAll_cons r1
  obtain ⟨rfl, rfl, rfl⟩ := trodAll_nil r2
  obtain rfl : args = #[v0, v1, v2] := by cases args; simp_all
  obtain ⟨a0, rfl⟩ := open_pair (e := 22) Try.underlying24 Try.underlying22 (by kernel_rfl) (by kernel_rfl) (hval 0 24 v0 rfl rfl) h0
  obtain ⟨l1, a1⟩ := open_pairs (p := 24) (e := 22) (H := H) Try.underlying33 Try.underlying24 Try.underlying22 (by kernel_rfl) (by kernel_rfl) (hval 1 33 v1 rfl rfl) h1
  obtain ⟨a2, rfl⟩ := open_pair (e := 22) Try.underlying24 Try.underlying22 (by kernel_rfl) (by kernel_rfl) (hval 2 24 v2 rfl rfl) h2
  refine (eval_walk a0 v1 l1 a2 W a1).mono fun e W' ⟨he, bel⟩ => ?_
  subst he
  exact ⟨_, rfl, law_post (tb := 4) laidOut (by kernel_rfl) Try.underlying4 (by rfl) rfl (by intro xs hxs; match xs, hxs with | [x0, x1, x2], _ => rfl) hW' bel⟩

theorem over : Rows.fieldEvalRow.holds Try.pinned (OpenSpec.ofChange Rows.fieldEvalSpec) :=
  OpenClaim.holds_of_wide 7 Try.f7 rfl rfl rfl rfl rfl rfl rfl ⟨rfl, rfl, rfl, rfl, rfl⟩ rfl rfl rfl rfl rfl (by kernel_rfl) Try.func7 (by kernel_rfl)
    (of_decide_eq_true (by kernel_rfl)) (by unfold Func.isWrapper; rw [if_neg (of_decide_eq_false (by kernel_rfl))]; exact ⟨rfl, rfl⟩)
    (fun os started H enc _ => lifted os started H enc)
end fieldEvalRow

theorem fieldEval_holds : Rows.FieldEvalSaid := fieldEvalRow.over
#print axioms fieldEval_holds

end Go.Proofs.Ytlijonofcnamgaa
