/- field.Eval and its reference: a row of numbers of 128 digits as one, by the powers of another one. -/
import Derived.Test.YtlbogmpfjkendaaFieldW
import Derived.Test.YtlbogmpfjkendaaPosts
import Derived.Test.YtlbogmpfjkendaaSlice
import Derived.Lib.Hide
namespace Go.Proofs.Ytlbogmpfjkendaa
open Go Go.RowKit

def eval2 (h : Pair) (l : List Pair) : Pair := l.foldl (fun out x => mul2 (add2 x out) h) (0#64, 0#64)

theorem eval2_snoc (h : Pair) (l : List Pair) (x : Pair) : eval2 h (l ++ [x]) = mul2 (add2 x (eval2 h l)) h := by
  unfold eval2; rw [List.foldl_append]; rfl

theorem take_succ {α : Type} (l : List α) (k : Nat) (d : α) (h : k < l.length) : l.take (k + 1) = l.take k ++ [l.getD k d] := by
  rw [List.take_succ_eq_append_getElem h]; simp [List.getD, h]
set_option maxRecDepth 100000 in
set_option maxHeartbeats 2000000 in
theorem eval_any (h1 h2 : BitVec 64) (a : Option Addr) (cap : Nat) (l : List Pair) (w : World) (hm : l.length * 16 ≤ 140737488351232)
    (hc : ∀ i, i < l.length → ∃ b off, a = some ⟨b, off, none⟩ ∧ w.cell? ⟨b, off + i * 2, none⟩ = some (U (l.getD i (0#64, 0#64)).1) ∧ w.cell? ⟨b, off + i * 2 + 1, none⟩ = some (U (l.getD i (0#64, 0#64)).2)) :
    Calls Try.prog 27 #[.agg #[U h1, U h2], .slice a l.length cap] w fun e w' => e = .returned (Pr (eval2 (h1, h2) l)) ∧ Kept w w' := by
  go_enter Try.func27, Try.ntmps27
  go_wp2_with fail
  go_loopw [10] (fun i wr => ∃ k : Nat, k ≤ l.length ∧ i = .int .i64 k ∧
      Blk wr (w.heap.size + 1 + 1) #[U (eval2 (h1, h2) (l.take k)).1, U (eval2 (h1, h2) (l.take k)).2] 24 ∧
      Below (w.heap.size + 1 + 1) (((w.alloc (.cells #[U h1, U h2] 24)).alloc (.cells #[U 0#64, U 0#64] 24)).alloc (.cells #[U 0#64, U 0#64] 24)) wr)
    (fun i _ => l.length - (intOf i).toNat)
  case atStart => exact ⟨0, by omega, rfl, by simpa [eval2] using Blk.new ((w.alloc (.cells #[U h1, U h2] 24)).alloc (.cells #[U 0#64, U 0#64] 24)) #[U 0#64, U 0#64] 24, Below.refl _ _⟩
  case round =>
    obtain ⟨k, hk, rfl, ho, hb⟩ := hrel
    have hbH : Blk wr w.heap.size #[U h1, U h2] 24 := ((((Blk.new w _ _).alloc _).alloc _)).below hb (by omega)
    have hbR : Blk wr (w.heap.size + 1) #[U 0#64, U 0#64] 24 := ((by simpa using Blk.new (w.alloc (.cells #[U h1, U h2] 24)) #[U 0#64, U 0#64] 24 : Blk ((w.alloc (.cells #[U h1, U h2] 24)).alloc (.cells #[U 0#64, U 0#64] 24)) (w.heap.size + 1) #[U 0#64, U 0#64] 24).alloc _).below hb (by omega)
    by_cases hlt : k < l.length
    · obtain ⟨b, off, rfl, hx0, hx1⟩ := hc k hlt
      have hbw : b < w.heap.size := World.block_lt_of_cell? w _ hx0
      have hold : Below w.heap.size w wr := (((((Below.refl _ _).alloc (Nat.le_refl _) _).alloc (by simp) _).alloc (by simp; omega) _).trans (hb.mono (by omega)))
      have x0 := (hold.cell (p := ⟨b, off + k * 2, none⟩) hbw).trans hx0
      have x1 := (hold.cell (p := ⟨b, off + k * 2 + 1, none⟩) hbw).trans hx1
      clear hx0 hx1 hc
      go_wp2_with fail
      have hX := Blk.new wr #[U l[k].fst, U l[k].snd] 24
      have hH := hbH.alloc (.cells #[U l[k].fst, U l[k].snd] 24)
      have hO := ho.alloc (.cells #[U l[k].fst, U l[k].snd] 24)
      refine wp_region_posts 5 (fun i (vv : Value) w' => match i with | 0 => vv = Pr l[k] | 1 => vv = Pr (eval2 (h1, h2) (List.take k l)) | 2 => vv = Pr (add2 l[k] (eval2 (h1, h2) (List.take k l))) | 3 => vv = Pr (h1, h2) | 4 => vv = Pr (mul2 (add2 l[k] (eval2 (h1, h2) (List.take k l))) (h1, h2)) | _ => True) (by kernel_rfl) (by kernel_rfl) ?_ ?_ ?_
      · intro i v w1 w2 h hk
        match i, h with
        | 0, h => exact h
        | 1, h => exact h
        | 2, h => exact h
        | 3, h => exact h
        | 4, h => exact h
        | _ + 5, _ => trivial
      · intro i o hi ho x w1 hw hpre K hK
        match i, hi, ho with
        | 0, _, ho =>
          have e := Option.some.inj ho; subst e
          have hKK : ∀ (vv : Value) (w'' : World), Kept w1 w'' → (vv = Pr l[k]) → K _ w'' := fun v w'' h1 h2 => hK v w'' h1 h2
          clear hK hpre
          simp only [putAll, dstOf, List.getElem?_toArray, List.getElem?_cons_zero, List.getElem?_cons_succ, Option.bind_some, Act.put, List.setIfInBounds_toArray, List.set_cons_zero, List.set_cons_succ] at hKK ⊢
          refine (if_pos (by rfl)).mpr ?_
          have c := hX.kept hw; have c0 := c.cell 0; have c1 := c.cell 1; clear c
          go_wp2
          exact hKK _ _ (Below.refl _ _) rfl
        | 1, _, ho =>
          have e := Option.some.inj ho; subst e
          have hKK : ∀ (vv : Value) (w'' : World), Kept w1 w'' → (vv = Pr (eval2 (h1, h2) (List.take k l))) → K _ w'' := fun v w'' h1 h2 => hK v w'' h1 h2
          clear hK hpre
          simp only [putAll, dstOf, List.getElem?_toArray, List.getElem?_cons_zero, List.getElem?_cons_succ, Option.bind_some, Act.put, List.setIfInBounds_toArray, List.set_cons_zero, List.set_cons_succ] at hKK ⊢
          refine (if_pos (by rfl)).mpr ?_
          have c := hO.kept hw; have c0 := c.cell 0; have c1 := c.cell 1; clear c
          go_wp2
          exact hKK _ _ (Below.refl _ _) rfl
        | 2, _, ho =>
          have e := Option.some.inj ho; subst e
          have p0 : x 0 = Pr l[k] := hpre 0 (by kernel_rfl)
          have p1 : x 1 = Pr (eval2 (h1, h2) (List.take k l)) := hpre 1 (by kernel_rfl)
          have hKK : ∀ (vv : Value) (w'' : World), Kept w1 w'' → (vv = Pr (add2 l[k] (eval2 (h1, h2) (List.take k l)))) → K _ w'' := fun v w'' h1 h2 => hK v w'' h1 h2
          clear hK hpre
          simp only [putAll, dstOf, List.getElem?_toArray, List.getElem?_cons_zero, List.getElem?_cons_succ, Option.bind_some, Act.put, List.setIfInBounds_toArray, List.set_cons_zero, List.set_cons_succ] at hKK ⊢
          simp only [p0, p1] at hKK ⊢
          clear p0 p1
          refine (if_pos (by rfl)).mpr ?_
          go_wp2_with fail
          refine (add_any _ _ _ _ _).mono ?_
          rintro e w2 ⟨rfl, hb2⟩
          go_wp2
          exact hKK _ _ hb2 rfl
        | 3, _, ho =>
          have e := Option.some.inj ho; subst e
          have hKK : ∀ (vv : Value) (w'' : World), Kept w1 w'' → (vv = Pr (h1, h2)) → K _ w'' := fun v w'' h1 h2 => hK v w'' h1 h2
          clear hK hpre
          simp only [putAll, dstOf, List.getElem?_toArray, List.getElem?_cons_zero, List.getElem?_cons_succ, Option.bind_some, Act.put, List.setIfInBounds_toArray, List.set_cons_zero, List.set_cons_succ] at hKK ⊢
          refine (if_pos (by rfl)).mpr ?_
          have c := hH.kept hw; have c0 := c.cell 0; have c1 := c.cell 1; clear c
          go_wp2
          exact hKK _ _ (Below.refl _ _) rfl
        | 4, _, ho =>
          have e := Option.some.inj ho; subst e
          have p2 : x 2 = Pr (add2 l[k] (eval2 (h1, h2) (List.take k l))) := hpre 2 (by kernel_rfl)
          have p3 : x 3 = Pr (h1, h2) := hpre 3 (by kernel_rfl)
          have hKK : ∀ (vv : Value) (w'' : World), Kept w1 w'' → (vv = Pr (mul2 (add2 l[k] (eval2 (h1, h2) (List.take k l))) (h1, h2))) → K _ w'' := fun v w'' h1 h2 => hK v w'' h1 h2
          clear hK hpre
          simp only [putAll, dstOf, List.getElem?_toArray, List.getElem?_cons_zero, List.getElem?_cons_succ, Option.bind_some, Act.put, List.setIfInBounds_toArray, List.set_cons_zero, List.set_cons_succ] at hKK ⊢
          simp only [p2, p3] at hKK ⊢
          clear p2 p3
          refine (if_pos (by rfl)).mpr ?_
          go_wp2_with fail
          refine (mul_any _ _ _ _ _).mono ?_
          rintro e w2 ⟨rfl, hb2⟩
          go_wp2
          exact hKK _ _ hb2 rfl
        | i + 5, hi, _ => exact absurd hi (by omega)
      · intro x w1 hw hA
        have p0 : x 0 = Pr l[k] := hA 0 (by omega)
        have p1 : x 1 = Pr (eval2 (h1, h2) (List.take k l)) := hA 1 (by omega)
        have p2 : x 2 = Pr (add2 l[k] (eval2 (h1, h2) (List.take k l))) := hA 2 (by omega)
        have p3 : x 3 = Pr (h1, h2) := hA 3 (by omega)
        have p4 : x 4 = Pr (mul2 (add2 l[k] (eval2 (h1, h2) (List.take k l))) (h1, h2)) := hA 4 (by omega)
        clear hA
        simp only [List.drop_succ_cons, List.drop_zero, putAll, dstOf, List.getElem?_toArray, List.getElem?_cons_zero, List.getElem?_cons_succ, Option.bind_some, Act.put, List.setIfInBounds_toArray, List.set_cons_zero, List.set_cons_succ]
        simp only [p0, p1, p2, p3, p4]
        clear p0 p1 p2 p3 p4
        have hO1 := hO.kept hw
        have f0 := hO1.free 0; have f1 := hO1.free 1; have c0 := hO1.cell 0; have c1 := hO1.cell 1
        have HK := Lib.hid hw; clear hw
        have he : eval2 (h1, h2) (List.take (k + 1) l) = mul2 (add2 l[k] (eval2 (h1, h2) (List.take k l))) (h1, h2) := by rw [List.take_succ_eq_append_getElem hlt, eval2_snoc]
        have HE := Lib.hid he; clear he
        go_wp2
        exact ⟨⟨k + 1, by omega, by go_num, by rw [HE.out]; exact (hO1.set 0 _).set 1 _, (((hb.trans (((Below.refl wr.heap.size wr).alloc (Nat.le_refl _) _).mono (Nat.le_of_lt ho.lt))).trans (HK.out.mono (by have := ho.lt; simp; omega))).setCell (Nat.le_refl _) _).setCell (Nat.le_refl _) _⟩, by simp [intOf]; omega⟩
    · have : k = l.length := by omega
      subst this
      have o0 := ho.cell 0
      have o1 := ho.cell 1
      have r0 := hbR.cell 0
      have r1 := hbR.cell 1
      have f0 := hbR.free 0
      have f1 := hbR.free 1
      go_wp2
      refine bodyPost_ret (v := Pr (eval2 (h1, h2) l)) (by simp [results, Try.results27, go_sem, r0, r1]) rfl ⟨rfl, ?_⟩
      exact (((((((Below.refl _ _).alloc (Nat.le_refl _) _).alloc (by simp) _).alloc (by simp; omega) _).trans (hb.mono (by omega))).setCell (by simp) _).setCell (by simp) _)

set_option maxRecDepth 100000 in
set_option maxHeartbeats 2000000 in
theorem reval_any (h1 h2 : BitVec 64) (a : Option Addr) (cap : Nat) (l : List Pair) (w : World) (hm : l.length * 16 ≤ 140737488351232)
    (hc : ∀ i, i < l.length → ∃ b off, a = some ⟨b, off, none⟩ ∧ w.cell? ⟨b, off + i * 2, none⟩ = some (U (l.getD i (0#64, 0#64)).1) ∧ w.cell? ⟨b, off + i * 2 + 1, none⟩ = some (U (l.getD i (0#64, 0#64)).2)) :
    Calls Try.prog 31 #[.agg #[U h1, U h2], .slice a l.length cap] w fun e w' => e = .returned (Pr (eval2 (h1, h2) l)) ∧ Kept w w' := by
  go_enter Try.func31, Try.ntmps31
  go_wp2_with fail
  go_loopw [6] (fun i wr => ∃ k : Nat, k ≤ l.length ∧ i = .int .i64 k ∧
      Blk wr (w.heap.size + 1 + 1) #[U (eval2 (h1, h2) (l.take k)).1, U (eval2 (h1, h2) (l.take k)).2] 24 ∧
      Below (w.heap.size + 1 + 1) (((w.alloc (.cells #[U h1, U h2] 24)).alloc (.cells #[U 0#64, U 0#64] 24)).alloc (.cells #[U 0#64, U 0#64] 24)) wr)
    (fun i _ => l.length - (intOf i).toNat)
  case atStart => exact ⟨0, by omega, rfl, by simpa [eval2] using Blk.new ((w.alloc (.cells #[U h1, U h2] 24)).alloc (.cells #[U 0#64, U 0#64] 24)) #[U 0#64, U 0#64] 24, Below.refl _ _⟩
  case round =>
    obtain ⟨k, hk, rfl, ho, hb⟩ := hrel
    have hbH : Blk wr w.heap.size #[U h1, U h2] 24 := ((((Blk.new w _ _).alloc _).alloc _)).below hb (by omega)
    have hbR : Blk wr (w.heap.size + 1) #[U 0#64, U 0#64] 24 := ((by simpa using Blk.new (w.alloc (.cells #[U h1, U h2] 24)) #[U 0#64, U 0#64] 24 : Blk ((w.alloc (.cells #[U h1, U h2] 24)).alloc (.cells #[U 0#64, U 0#64] 24)) (w.heap.size + 1) #[U 0#64, U 0#64] 24).alloc _).below hb (by omega)
    by_cases hlt : k < l.length
    · obtain ⟨b, off, rfl, hx0, hx1⟩ := hc k hlt
      have hbw : b < w.heap.size := World.block_lt_of_cell? w _ hx0
      have hold : Below w.heap.size w wr := (((((Below.refl _ _).alloc (Nat.le_refl _) _).alloc (by simp) _).alloc (by simp; omega) _).trans (hb.mono (by omega)))
      have x0 := (hold.cell (p := ⟨b, off + k * 2, none⟩) hbw).trans hx0
      have x1 := (hold.cell (p := ⟨b, off + k * 2 + 1, none⟩) hbw).trans hx1
      have hg : l.getD k (0#64, 0#64) = l[k] := by simp [List.getD, hlt]
      rw [hg] at x0 x1
      have hbr : b < wr.heap.size := World.block_lt_of_cell? wr _ x0
      clear hx0 hx1 hc hg
      have hO := ho
      go_wp2_with fail
      refine wp_region_posts 8 (fun i (vv : Value) w' => match i with | 0 => vv = Pr (eval2 (h1, h2) (List.take k l)) | 1 => vv = .slice (some ⟨b, off, none⟩) l.length cap | 2 => vv = .int .i64 k | 3 => vv = .pointer (some ⟨b, off + k * 2, none⟩) | 4 => vv = Pr l[k] | 5 => vv = Pr (add2 (eval2 (h1, h2) (List.take k l)) l[k]) | 6 => vv = Pr (h1, h2) | 7 => vv = Pr (mul2 (add2 (eval2 (h1, h2) (List.take k l)) l[k]) (h1, h2)) | _ => True) (by kernel_rfl) (by kernel_rfl) ?_ ?_ ?_
      · intro i v w1 w2 h hk
        match i, h with
        | 0, h => exact h
        | 1, h => exact h
        | 2, h => exact h
        | 3, h => exact h
        | 4, h => exact h
        | 5, h => exact h
        | 6, h => exact h
        | 7, h => exact h
        | _ + 8, _ => trivial
      · intro i o hi ho x w1 hw hpre K hK
        match i, hi, ho with
        | 0, _, ho =>
          have e := Option.some.inj ho; subst e
          have hKK : ∀ (vv : Value) (w'' : World), Kept w1 w'' → (vv = Pr (eval2 (h1, h2) (List.take k l))) → K _ w'' := fun v w'' h1 h2 => hK v w'' h1 h2
          clear hK hpre
          simp only [putAll, dstOf, List.getElem?_toArray, List.getElem?_cons_zero, List.getElem?_cons_succ, Option.bind_some, Act.put, List.setIfInBounds_toArray, List.set_cons_zero, List.set_cons_succ] at hKK ⊢
          refine (if_pos (by rfl)).mpr ?_
          have c := hO.kept hw; have c0 := c.cell 0; have c1 := c.cell 1; clear c
          go_wp2
          exact hKK _ _ (Below.refl _ _) rfl
        | 1, _, ho =>
          have e := Option.some.inj ho; subst e
          have hKK : ∀ (vv : Value) (w'' : World), Kept w1 w'' → (vv = .slice (some ⟨b, off, none⟩) l.length cap) → K _ w'' := fun v w'' h1 h2 => hK v w'' h1 h2
          clear hK hpre
          simp only [putAll, dstOf, List.getElem?_toArray, List.getElem?_cons_zero, List.getElem?_cons_succ, Option.bind_some, Act.put, List.setIfInBounds_toArray, List.set_cons_zero, List.set_cons_succ] at hKK ⊢
          refine (if_pos (by rfl)).mpr ?_
          go_wp2
          exact hKK _ _ (Below.refl _ _) rfl
        | 2, _, ho =>
          have e := Option.some.inj ho; subst e
          have hKK : ∀ (vv : Value) (w'' : World), Kept w1 w'' → (vv = .int .i64 k) → K _ w'' := fun v w'' h1 h2 => hK v w'' h1 h2
          clear hK hpre
          simp only [putAll, dstOf, List.getElem?_toArray, List.getElem?_cons_zero, List.getElem?_cons_succ, Option.bind_some, Act.put, List.setIfInBounds_toArray, List.set_cons_zero, List.set_cons_succ] at hKK ⊢
          refine (if_pos (by rfl)).mpr ?_
          go_wp2
          exact hKK _ _ (Below.refl _ _) rfl
        | 3, _, ho =>
          have e := Option.some.inj ho; subst e
          have p1 : x 1 = .slice (some ⟨b, off, none⟩) l.length cap := hpre 1 (by kernel_rfl)
          have p2 : x 2 = .int .i64 k := hpre 2 (by kernel_rfl)
          have hKK : ∀ (vv : Value) (w'' : World), Kept w1 w'' → (vv = .pointer (some ⟨b, off + k * 2, none⟩)) → K _ w'' := fun v w'' h1 h2 => hK v w'' h1 h2
          clear hK hpre
          simp only [putAll, dstOf, List.getElem?_toArray, List.getElem?_cons_zero, List.getElem?_cons_succ, Option.bind_some, Act.put, List.setIfInBounds_toArray, List.set_cons_zero, List.set_cons_succ] at hKK ⊢
          simp only [p1, p2] at hKK ⊢
          clear p1 p2
          refine (if_pos (by rfl)).mpr ?_
          go_wp2
          exact hKK _ _ (Below.refl _ _) rfl
        | 4, _, ho =>
          have e := Option.some.inj ho; subst e
          have p3 : x 3 = .pointer (some ⟨b, off + k * 2, none⟩) := hpre 3 (by kernel_rfl)
          have hKK : ∀ (vv : Value) (w'' : World), Kept w1 w'' → (vv = Pr l[k]) → K _ w'' := fun v w'' h1 h2 => hK v w'' h1 h2
          clear hK hpre
          simp only [putAll, dstOf, List.getElem?_toArray, List.getElem?_cons_zero, List.getElem?_cons_succ, Option.bind_some, Act.put, List.setIfInBounds_toArray, List.set_cons_zero, List.set_cons_succ] at hKK ⊢
          simp only [p3] at hKK ⊢
          clear p3
          refine (if_pos (by rfl)).mpr ?_
          have y0 := (hw.cell (p := ⟨b, off + k * 2, none⟩) hbr).trans x0
          have y1 := (hw.cell (p := ⟨b, off + k * 2 + 1, none⟩) hbr).trans x1
          go_wp2
          exact hKK _ _ (Below.refl _ _) rfl
        | 5, _, ho =>
          have e := Option.some.inj ho; subst e
          have p0 : x 0 = Pr (eval2 (h1, h2) (List.take k l)) := hpre 0 (by kernel_rfl)
          have p4 : x 4 = Pr l[k] := hpre 4 (by kernel_rfl)
          have hKK : ∀ (vv : Value) (w'' : World), Kept w1 w'' → (vv = Pr (add2 (eval2 (h1, h2) (List.take k l)) l[k])) → K _ w'' := fun v w'' h1 h2 => hK v w'' h1 h2
          clear hK hpre
          simp only [putAll, dstOf, List.getElem?_toArray, List.getElem?_cons_zero, List.getElem?_cons_succ, Option.bind_some, Act.put, List.setIfInBounds_toArray, List.set_cons_zero, List.set_cons_succ] at hKK ⊢
          simp only [p0, p4] at hKK ⊢
          clear p0 p4
          refine (if_pos (by rfl)).mpr ?_
          go_wp2_with fail
          refine (radd_any _ _ _ _ _).mono ?_
          rintro e w2 ⟨rfl, hb2⟩
          go_wp2
          exact hKK _ _ hb2 rfl
        | 6, _, ho =>
          have e := Option.some.inj ho; subst e
          have hKK : ∀ (vv : Value) (w'' : World), Kept w1 w'' → (vv = Pr (h1, h2)) → K _ w'' := fun v w'' h1 h2 => hK v w'' h1 h2
          clear hK hpre
          simp only [putAll, dstOf, List.getElem?_toArray, List.getElem?_cons_zero, List.getElem?_cons_succ, Option.bind_some, Act.put, List.setIfInBounds_toArray, List.set_cons_zero, List.set_cons_succ] at hKK ⊢
          refine (if_pos (by rfl)).mpr ?_
          have c := hbH.kept hw; have c0 := c.cell 0; have c1 := c.cell 1; clear c
          go_wp2
          exact hKK _ _ (Below.refl _ _) rfl
        | 7, _, ho =>
          have e := Option.some.inj ho; subst e
          have p5 : x 5 = Pr (add2 (eval2 (h1, h2) (List.take k l)) l[k]) := hpre 5 (by kernel_rfl)
          have p6 : x 6 = Pr (h1, h2) := hpre 6 (by kernel_rfl)
          have hKK : ∀ (vv : Value) (w'' : World), Kept w1 w'' → (vv = Pr (mul2 (add2 (eval2 (h1, h2) (List.take k l)) l[k]) (h1, h2))) → K _ w'' := fun v w'' h1 h2 => hK v w'' h1 h2
          clear hK hpre
          simp only [putAll, dstOf, List.getElem?_toArray, List.getElem?_cons_zero, List.getElem?_cons_succ, Option.bind_some, Act.put, List.setIfInBounds_toArray, List.set_cons_zero, List.set_cons_succ] at hKK ⊢
          simp only [p5, p6] at hKK ⊢
          clear p5 p6
          refine (if_pos (by rfl)).mpr ?_
          go_wp2_with fail
          refine (rmul_any _ _ _ _ _).mono ?_
          rintro e w2 ⟨rfl, hb2⟩
          go_wp2
          exact hKK _ _ hb2 rfl
        | i + 8, hi, _ => exact absurd hi (by omega)
      · intro x w1 hw hA
        have p0 : x 0 = Pr (eval2 (h1, h2) (List.take k l)) := hA 0 (by omega)
        have p1 : x 1 = .slice (some ⟨b, off, none⟩) l.length cap := hA 1 (by omega)
        have p2 : x 2 = .int .i64 k := hA 2 (by omega)
        have p3 : x 3 = .pointer (some ⟨b, off + k * 2, none⟩) := hA 3 (by omega)
        have p4 : x 4 = Pr l[k] := hA 4 (by omega)
        have p5 : x 5 = Pr (add2 (eval2 (h1, h2) (List.take k l)) l[k]) := hA 5 (by omega)
        have p6 : x 6 = Pr (h1, h2) := hA 6 (by omega)
        have p7 : x 7 = Pr (mul2 (add2 (eval2 (h1, h2) (List.take k l)) l[k]) (h1, h2)) := hA 7 (by omega)
        clear hA
        simp only [List.drop_succ_cons, List.drop_zero, putAll, dstOf, List.getElem?_toArray, List.getElem?_cons_zero, List.getElem?_cons_succ, Option.bind_some, Act.put, List.setIfInBounds_toArray, List.set_cons_zero, List.set_cons_succ]
        simp only [p0, p1, p2, p3, p4, p5, p6, p7]
        clear p0 p1 p2 p3 p4 p5 p6 p7
        have hO1 := hO.kept hw
        have f0 := hO1.free 0; have f1 := hO1.free 1; have c0 := hO1.cell 0; have c1 := hO1.cell 1
        have HK := Lib.hid hw; clear hw x0 x1
        have he : eval2 (h1, h2) (List.take (k + 1) l) = mul2 (add2 (eval2 (h1, h2) (List.take k l)) l[k]) (h1, h2) := by rw [List.take_succ_eq_append_getElem hlt, eval2_snoc, add2_comm]
        have HE := Lib.hid he; clear he
        go_wp2
        exact ⟨⟨k + 1, by omega, by go_num, by rw [HE.out]; exact (hO1.set 0 _).set 1 _, ((hb.trans (HK.out.mono (by have := hO.lt; omega))).setCell (Nat.le_refl _) _).setCell (Nat.le_refl _) _⟩, by simp [intOf]; omega⟩
    · have : k = l.length := by omega
      subst this
      have o0 := ho.cell 0
      have o1 := ho.cell 1
      have r0 := hbR.cell 0
      have r1 := hbR.cell 1
      have f0 := hbR.free 0
      have f1 := hbR.free 1
      go_wp2
      refine bodyPost_ret (v := Pr (eval2 (h1, h2) l)) (by simp [results, Try.results31, go_sem, r0, r1]) rfl ⟨rfl, ?_⟩
      exact (((((((Below.refl _ _).alloc (Nat.le_refl _) _).alloc (by simp) _).alloc (by simp; omega) _).trans (hb.mono (by omega))).setCell (by simp) _).setCell (by simp) _)

theorem cells_of_sl {w : World} {a : Option Addr} {cap : Nat} {l : List Pair} (hs : Sl w (.slice a l.length cap) l.length (pcells l)) :
    ∀ i, i < l.length → ∃ b off, a = some ⟨b, off, none⟩ ∧ w.cell? ⟨b, off + i * 2, none⟩ = some (U (l.getD i (0#64, 0#64)).1) ∧ w.cell? ⟨b, off + i * 2 + 1, none⟩ = some (U (l.getD i (0#64, 0#64)).2) := by
  intro i hi
  obtain ⟨b, off, c, hv, _, _, _, h⟩ := hs.at (by rw [pcells_length]; omega)
  cases hv
  have hg : l.getD i (0#64, 0#64) = l[i] := by simp [List.getD, hi]
  obtain ⟨g0, g1⟩ := pcells_get l i hi
  rw [hg]
  exact ⟨b, off, rfl, h _ _ g0, h _ _ g1⟩
theorem eval_sl (h : Pair) (v : Value) (l : List Pair) (w : World) (hm : l.length ≤ 1000) (hs : Sl w v l.length (pcells l)) :
    Calls Try.prog 27 #[.agg #[U h.1, U h.2], v] w fun e w' => e = .returned (Pr (eval2 h l)) ∧ Kept w w' := by
  obtain ⟨a, cap, rfl⟩ := hs.len
  exact eval_any h.1 h.2 a cap l w (by omega) (cells_of_sl hs)
theorem reval_sl (h : Pair) (v : Value) (l : List Pair) (w : World) (hm : l.length ≤ 1000) (hs : Sl w v l.length (pcells l)) :
    Calls Try.prog 31 #[.agg #[U h.1, U h.2], v] w fun e w' => e = .returned (Pr (eval2 h l)) ∧ Kept w w' := by
  obtain ⟨a, cap, rfl⟩ := hs.len
  exact reval_any h.1 h.2 a cap l w (by omega) (cells_of_sl hs)

end Go.Proofs.Ytlbogmpfjkendaa
