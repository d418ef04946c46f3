/- SsdOrder: of two writes to one place the later one is read, whichever is kept alone. -/
import Derived.Test.YtgbfgaeohnjmeaaSsdM
import Derived.Test.YtgbfgaeohnjmeaaBools
import Derived.Test.YtgbfgaeohnjmeaaRows
namespace Go.Proofs.Ytgbfgaeohnjmeaa
open Go Go.RowKit

/-- a part of a block that is known whole -/
theorem sl_part {w : World} {g : Nat} {bs : List UInt8} {ex : List Value} {c : Nat} (hB : Blk w g (bcells bs ++ ex).toArray 5) (hc : bs.length + ex.length = c) (hm : c ≤ maxLen) (o len : Nat) (h : o + len ≤ bs.length) (cs : List UInt8) (hcs : (bs.drop o).take len = cs) :
    Sl w (.slice (some ⟨g, o, none⟩) len (c - o)) cs.length (bcells cs) := by
  have hl : cs.length = len := by rw [← hcs]; simp; omega
  rw [hl]
  refine Sl.mk (by omega) (by omega) fun j u hj => ?_
  have hjl := (List.getElem?_eq_some_iff.1 hj).1
  rw [bcells_length, hl] at hjl
  rw [hB.cell (o + j)]
  rw [← hcs] at hj
  have h1 : (bcells bs)[o + j]? = some u := by
    simp only [bcells, List.map_take, List.map_drop] at hj
    rw [List.getElem?_take_of_lt hjl, List.getElem?_drop] at hj
    exact hj
  rw [List.getElem?_toArray, List.getElem?_append_left (by rw [bcells_length]; omega)]
  exact h1

set_option maxRecDepth 100000 in
set_option maxHeartbeats 4000000 in
theorem order_walk (a b : UInt8) (p q : Bool) (w : World) : Calls Try.prog 4 #[V8 a, V8 b, .bool p, .bool q] w fun e w' => e = .returned (.bool true) ∧ Kept w w' := by
  go_enter Try.func4, Try.ntmps4
  go_wp2_with fail
  refine (power_new _).mono ?_
  rintro e w1 ⟨rfl, p1, hk1, hz1⟩
  go_wp2_with fail
  refine (ssd_new 9 (by omega) (by omega) w.heap.size Pw.new (fun k => k < w.heap.size) _ (fun k hk => by omega) (by simp) p1).mono ?_
  rintro e w2 ⟨K, rfl, S2, hk2⟩
  have k2 := Kept.of hk1 hk2
  have S2 : SdAt _ w2 K (Sd.fresh 9) := S2
  have sm2 : SameOn (fun k => k < w.heap.size) w w2 := SameOn.of_kept k2
  clear hk1 hk2 hz1 p1
  have hka : Kept w2 (w2.alloc (.cells #[V8 a, V8 a] 5)) := (Below.refl _ _).alloc (Nat.le_refl _) _
  have hz2 := k2.size
  have S3 := S2.more (A' := fun k => k < w.heap.size ∨ k = w2.heap.size) hka (fun k hk => by rcases hk with h | h <;> omega) (fun k hk => by simp; rcases hk with h | h <;> omega)
  have sl3 : Sl (w2.alloc (.cells #[V8 a, V8 a] 5)) (.slice (some ⟨w2.heap.size, 0, none⟩) 2 2) ([a, a] : List UInt8).length (bcells [a, a]) := Sl.lit w2 #[V8 a, V8 a] _ 2 (by decide)
  have k3 := Kept.of k2 hka
  clear S2 sm2
  go_wp2_with fail
  refine (write_nf _ K 0 (Sd.fresh 9) 9 0 (by omega) (by omega) _ S3 (fresh_ok 9) rfl 3 _ [a, a] ⟨by simp, by simp, by simp⟩ sl3 (fun x c e _ => by cases e; exact .inr rfl)).mono ?_
  rintro e w4 ⟨rfl, S4, hs4⟩
  have ok4 := put_ok (k := 0) (x := (3, [a, a])) (fresh_ok 9) ⟨by simp, by simp, by simp⟩ (by omega) (by omega)
  have b4 : Below w.heap.size w w4 := k3.trans (hs4.below (fun k hk => .inl hk) k3.size)
  have hz4 : w.heap.size ≤ w4.heap.size := b4.size
  have hkb : Kept w4 (w4.alloc (.cells #[V8 b] 5)) := (Below.refl _ _).alloc (Nat.le_refl _) _
  have S5 := S4.more (A' := fun k => k < w.heap.size ∨ k = w4.heap.size) hkb (fun k hk => by rcases hk with h | h; exact .inl (.inl h); exact .inr (by omega)) (fun k hk => by simp; rcases hk with h | h <;> omega)
  have sl5 : Sl (w4.alloc (.cells #[V8 b] 5)) (.slice (some ⟨w4.heap.size, 0, none⟩) 1 1) ([b] : List UInt8).length (bcells [b]) := Sl.one _ _ _
  have b5 : Below w.heap.size w (w4.alloc (.cells #[V8 b] 5)) := b4.trans (hkb.mono hz4)
  clear S3 S4 sl3 k3 hs4 hka
  go_wp2_with fail
  refine (write_nf _ K 1 _ 9 1 (by omega) (by omega) _ S5 ok4 rfl 4 _ [b] ⟨by simp, by simp, by simp⟩ sl5 (fun x c e _ => by cases e; exact .inr rfl)).mono ?_
  rintro e w6 ⟨rfl, S6, hs6⟩
  have ok6 := put_ok (k := 1) (x := (4, [b])) ok4 ⟨by simp, by simp, by simp⟩ (by omega) (by omega)
  have b6 : Below w.heap.size w w6 := b5.trans (hs6.below (fun k hk => .inl hk) b5.size)
  clear S5 sl5 hs6 hkb b5
  obtain ⟨s, hs⟩ : ∃ s, s = ((Sd.fresh 9).put 0 (3, [a, a])).put 1 (4, [b]) := ⟨_, rfl⟩
  rw [← hs] at S6 ok6
  have hg : s.p.gone = false := by rw [hs]; rfl
  have hsn : (s.snap.drop 3).take 2 = [a, b] := by rw [hs]; rfl
  have htr : s.trace = [(3, [a, a]), (4, [b])] := by rw [hs]; rfl
  have hcr : ∀ ks : List Bool, layIs s.lasts s.waits (isK ks) s.waits.length = (if isK ks 1 then layB (if isK ks 0 then layB (List.replicate 9 0) (3, [a, a]) else List.replicate 9 0) (4, [b]) else (if isK ks 0 then layB (List.replicate 9 0) (3, [a, a]) else List.replicate 9 0)) := by rw [hs]; intro ks; rfl
  have HG := Lib.hid hg
  have HSN := Lib.hid hsn
  have HTR := Lib.hid htr
  have HCR := Lib.hid hcr
  clear hs hg hsn htr hcr ok4
  go_wp2_with fail
  refine (read_yes _ K s 9 2 (by omega) (by omega) (by omega) _ S6 ok6 3 2 (by omega) (by omega) HG.out).mono ?_
  rintro e w7 ⟨g7, c7, ex7, rfl, hB7, hc7, hl7, hm7, hk7⟩
  have hsl9 : s.snap.length = 9 := Sd.snap_length ok6
  have sx : Sl w7 (.slice (some ⟨g7, 3, none⟩) 2 (c7 - 3)) ([a, b] : List UInt8).length (bcells [a, b]) := sl_part hB7 (by rw [hsl9]; exact hc7) hm7 3 2 (by rw [hsl9]; omega) [a, b] HSN.out
  have b7 : Below w.heap.size w w7 := b6.trans (hk7.mono b6.size)
  have hg7 := hB7.lt
  have hkc : Kept w7 (w7.alloc (.cells #[.bool p, .bool q] 4)) := (Below.refl _ _).alloc (Nat.le_refl _) _
  have hz7 := hk7.size
  have hz6 := b6.size
  have S8 := S6.more (A' := fun k => k < w.heap.size ∨ k = w7.heap.size ∨ k = g7) (Kept.of hk7 hkc) (fun k hk => by rcases hk with h | h | h; exact .inl (.inl h); exact .inr (by omega); exact .inr (by omega)) (fun k hk => by simp; rcases hk with h | h | h <;> omega)
  have sl8 : Sl (w7.alloc (.cells #[.bool p, .bool q] 4)) (.slice (some ⟨w7.heap.size, 0, none⟩) 2 2) ([p, q] : List Bool).length (kcells [p, q]) := Sl.lit w7 #[.bool p, .bool q] _ 2 (by decide)
  have b8 : Below w.heap.size w (w7.alloc (.cells #[.bool p, .bool q] 4)) := b7.trans (hkc.mono b7.size)
  have sx8 := sx.kept hkc
  clear S6 sx hB7 b6 b7 hk7 hkc hc7 hsl9
  go_wp2_with fail
  refine (crash_any _ K s 9 2 (by omega) (by omega) (by omega) _ S8 ok6 _ [p, q] (by simp) sl8 (fun x c e _ => by cases e; exact .inr (.inl rfl))).mono ?_
  rintro e w9 ⟨rfl, S9, hs9⟩
  have ok9 := crashed_ok ok6 (isK [p, q])
  have sx9 := hs9.sl sx8 (fun x c e _ => by cases e; exact .inr (.inr rfl))
  have b9 : Below w.heap.size w w9 := b8.trans (hs9.below (fun k hk => .inl hk) b8.size)
  obtain ⟨R, hR⟩ : ∃ R, R = (if q then layB (if p then layB (List.replicate 9 0) (3, [a, a]) else List.replicate 9 0) (4, [b]) else (if p then layB (List.replicate 9 0) (3, [a, a]) else List.replicate 9 0)) := ⟨_, rfl⟩
  have hR2 : layIs s.lasts s.waits (isK [p, q]) s.waits.length = R := by rw [HCR.out, hR]; rfl
  rw [hR2] at S9 ok9
  have HR := Lib.hid hR
  clear hR hR2 S8 sl8 hs9 sx8
  go_wp2_with fail
  refine (read_yes _ K _ 9 2 (by omega) (by omega) (by omega) _ S9 ok9 3 2 (by omega) (by omega) HG.out).mono ?_
  rintro e w10 ⟨g10, c10, ex10, rfl, hB10, hc10, hl10, hm10, hk10⟩
  have hsl10 : R.length = 9 := ok9.len
  obtain ⟨Y, hY⟩ : ∃ Y, Y = (R.drop 3).take 2 := ⟨_, rfl⟩
  have hYl : Y.length = 2 := by rw [hY]; simp; omega
  have sy : Sl w10 (.slice (some ⟨g10, 3, none⟩) 2 (c10 - 3)) Y.length (bcells Y) := sl_part (bs := R) hB10 (by rw [hsl10]; exact hc10) hm10 3 2 (by rw [hsl10]; omega) Y hY.symm
  have sx10 := sx9.kept hk10
  have S10 := S9.kept hk10
  have b10 : Below w.heap.size w w10 := b9.trans (hk10.mono b9.size)
  have hYv : Y = [if p then a else 0, if q then b else if p then a else 0] := by rw [hY, HR.out]; cases p <;> cases q <;> rfl
  have HYV := Lib.hid hYv
  have HYL := Lib.hid hYl
  clear hY hYv hYl S9 sx9 hB10 hk10 hc10 hsl10 b9 b8
  cases p
  · cases q
    · have hkw : Kept w10 (w10.alloc (.cells #[V8 0, V8 0] 5)) := (Below.refl _ _).alloc (Nat.le_refl _) _
      have hkl : Kept w10 ((w10.alloc (.cells #[V8 0, V8 0] 5)).alloc (.cells #[V8 a, V8 b] 5)) := Kept.of hkw ((Below.refl _ _).alloc (Nat.le_refl _) _)
      have e0 := str_of (sx10.kept hkw)
      have e1 : Sl ((w10.alloc (.cells #[V8 0, V8 0] 5)).alloc (.cells #[V8 a, V8 b] 5)) (.slice (some ⟨(w10.alloc (.cells #[V8 0, V8 0] 5)).heap.size, 0, none⟩) 2 2) ([a, b] : List UInt8).length (bcells [a, b]) := Sl.lit (w10.alloc (.cells #[V8 0, V8 0] 5)) #[V8 a, V8 b] _ 2 (by decide)
      have hws : (w10.alloc (.cells #[V8 0, V8 0] 5)).heap.size = w10.heap.size + 1 := by simp
      rw [hws] at e1
      have e1 := str_of e1
      have e2 := str_of (sy.kept hkl)
      have e3 : Sl (w10.alloc (.cells #[V8 0, V8 0] 5)) (.slice (some ⟨w10.heap.size, 0, none⟩) 2 2) ([0, 0] : List UInt8).length (bcells [0, 0]) := by have := Sl.lit w10 #[V8 0, V8 0] 5 2 (by decide); simpa [bcells] using this
      have e3 := str_of (e3.kept (show Kept (w10.alloc (.cells #[V8 0, V8 0] 5)) ((w10.alloc (.cells #[V8 0, V8 0] 5)).alloc (.cells #[V8 a, V8 b] 5)) from (Below.refl _ _).alloc (Nat.le_refl _) _))
      rw [show Y = [0, 0] from HYV.out] at e2
      have SL := S10.kept hkl
      have bL := b10.trans (hkl.mono b10.size)
      clear hws hkw hkl S10 sx10 sy b10
      go_wp2_with fail
      generalize ((w10.alloc (.cells #[V8 0, V8 0] 5)).alloc (.cells #[V8 a, V8 b] 5)) = wl at *
      refine (trace_any _ K _ 9 2 (by omega) _ SL ok9).mono ?_
      rintro e w11 ⟨v11, us11, rfl, t11, hk11, _, _⟩
      go_wp2_with fail
      refine (trace_any _ K _ 9 2 (by omega) _ (SL.kept hk11) ok9).mono ?_
      rintro e w12 ⟨v12, us12, rfl, t12, hk12, _, _⟩
      go_wp2_with fail
      refine (same_ops _ _ _ _ _ (by show s.trace.length ≤ 1000; rw [HTR.out]; simp) _ (t11.kept hk12) t12).mono ?_
      rintro e w13 ⟨rfl, hk13⟩
      go_wp2_with fail
      refine (trace_any _ K _ 9 2 (by omega) _ (((SL.kept hk11).kept hk12).kept hk13) ok9).mono ?_
      rintro e w14 ⟨v14, us14, rfl, t14, hk14, _, _⟩
      obtain ⟨a14, c14, hv14⟩ := t14.slice
      rw [show ({ s with lasts := R, waits := [] } : Sd).trace.length = 2 from by show s.trace.length = 2; rw [HTR.out]; rfl] at hv14
      subst hv14
      go_wp2_with fail
      refine (known_any _).mono ?_
      rintro e w15 ⟨rfl, hk15⟩
      go_wp2
      go_ret
      exact ⟨rfl, bL.trans ((Kept.of (Kept.of (Kept.of (Kept.of hk11 hk12) hk13) hk14) hk15).mono bL.size)⟩
    · have hkw : Kept w10 (w10.alloc (.cells #[V8 0, V8 b] 5)) := (Below.refl _ _).alloc (Nat.le_refl _) _
      have hkl : Kept w10 ((w10.alloc (.cells #[V8 0, V8 b] 5)).alloc (.cells #[V8 a, V8 b] 5)) := Kept.of hkw ((Below.refl _ _).alloc (Nat.le_refl _) _)
      have e0 := str_of (sx10.kept hkw)
      have e1 : Sl ((w10.alloc (.cells #[V8 0, V8 b] 5)).alloc (.cells #[V8 a, V8 b] 5)) (.slice (some ⟨(w10.alloc (.cells #[V8 0, V8 b] 5)).heap.size, 0, none⟩) 2 2) ([a, b] : List UInt8).length (bcells [a, b]) := Sl.lit (w10.alloc (.cells #[V8 0, V8 b] 5)) #[V8 a, V8 b] _ 2 (by decide)
      have hws : (w10.alloc (.cells #[V8 0, V8 b] 5)).heap.size = w10.heap.size + 1 := by simp
      rw [hws] at e1
      have e1 := str_of e1
      have e2 := str_of (sy.kept hkl)
      have e3 : Sl (w10.alloc (.cells #[V8 0, V8 b] 5)) (.slice (some ⟨w10.heap.size, 0, none⟩) 2 2) ([0, b] : List UInt8).length (bcells [0, b]) := by have := Sl.lit w10 #[V8 0, V8 b] 5 2 (by decide); simpa [bcells] using this
      have e3 := str_of (e3.kept (show Kept (w10.alloc (.cells #[V8 0, V8 b] 5)) ((w10.alloc (.cells #[V8 0, V8 b] 5)).alloc (.cells #[V8 a, V8 b] 5)) from (Below.refl _ _).alloc (Nat.le_refl _) _))
      rw [show Y = [0, b] from HYV.out] at e2
      have SL := S10.kept hkl
      have bL := b10.trans (hkl.mono b10.size)
      clear hws hkw hkl S10 sx10 sy b10
      go_wp2_with fail
      generalize ((w10.alloc (.cells #[V8 0, V8 b] 5)).alloc (.cells #[V8 a, V8 b] 5)) = wl at *
      refine (trace_any _ K _ 9 2 (by omega) _ SL ok9).mono ?_
      rintro e w11 ⟨v11, us11, rfl, t11, hk11, _, _⟩
      go_wp2_with fail
      refine (trace_any _ K _ 9 2 (by omega) _ (SL.kept hk11) ok9).mono ?_
      rintro e w12 ⟨v12, us12, rfl, t12, hk12, _, _⟩
      go_wp2_with fail
      refine (same_ops _ _ _ _ _ (by show s.trace.length ≤ 1000; rw [HTR.out]; simp) _ (t11.kept hk12) t12).mono ?_
      rintro e w13 ⟨rfl, hk13⟩
      go_wp2_with fail
      refine (trace_any _ K _ 9 2 (by omega) _ (((SL.kept hk11).kept hk12).kept hk13) ok9).mono ?_
      rintro e w14 ⟨v14, us14, rfl, t14, hk14, _, _⟩
      obtain ⟨a14, c14, hv14⟩ := t14.slice
      rw [show ({ s with lasts := R, waits := [] } : Sd).trace.length = 2 from by show s.trace.length = 2; rw [HTR.out]; rfl] at hv14
      subst hv14
      go_wp2_with fail
      refine (known_any _).mono ?_
      rintro e w15 ⟨rfl, hk15⟩
      go_wp2
      go_ret
      exact ⟨rfl, bL.trans ((Kept.of (Kept.of (Kept.of (Kept.of hk11 hk12) hk13) hk14) hk15).mono bL.size)⟩
  · cases q
    · have hkw : Kept w10 ((w10.alloc (.cells #[V8 0, V8 0] 5)).alloc (.cells #[V8 a, V8 a] 5)) := ((Below.refl _ _).alloc (Nat.le_refl _) _).alloc (by simp) _
      have hkl : Kept w10 (((w10.alloc (.cells #[V8 0, V8 0] 5)).alloc (.cells #[V8 a, V8 a] 5)).alloc (.cells #[V8 a, V8 b] 5)) := Kept.of hkw ((Below.refl _ _).alloc (Nat.le_refl _) _)
      have e0 := str_of (sx10.kept hkw)
      have e1 : Sl (((w10.alloc (.cells #[V8 0, V8 0] 5)).alloc (.cells #[V8 a, V8 a] 5)).alloc (.cells #[V8 a, V8 b] 5)) (.slice (some ⟨((w10.alloc (.cells #[V8 0, V8 0] 5)).alloc (.cells #[V8 a, V8 a] 5)).heap.size, 0, none⟩) 2 2) ([a, b] : List UInt8).length (bcells [a, b]) := Sl.lit ((w10.alloc (.cells #[V8 0, V8 0] 5)).alloc (.cells #[V8 a, V8 a] 5)) #[V8 a, V8 b] _ 2 (by decide)
      have hws : ((w10.alloc (.cells #[V8 0, V8 0] 5)).alloc (.cells #[V8 a, V8 a] 5)).heap.size = w10.heap.size + 2 := by simp
      rw [hws] at e1
      have e1 := str_of e1
      have e2 := str_of (sy.kept hkl)
      have e3 : Sl ((w10.alloc (.cells #[V8 0, V8 0] 5)).alloc (.cells #[V8 a, V8 a] 5)) (.slice (some ⟨(w10.heap.size + 1), 0, none⟩) 2 2) ([a, a] : List UInt8).length (bcells [a, a]) := by have := Sl.lit (w10.alloc (.cells #[V8 0, V8 0] 5)) #[V8 a, V8 a] 5 2 (by decide); simpa [bcells] using this
      have e3 := str_of (e3.kept (show Kept ((w10.alloc (.cells #[V8 0, V8 0] 5)).alloc (.cells #[V8 a, V8 a] 5)) (((w10.alloc (.cells #[V8 0, V8 0] 5)).alloc (.cells #[V8 a, V8 a] 5)).alloc (.cells #[V8 a, V8 b] 5)) from (Below.refl _ _).alloc (Nat.le_refl _) _))
      rw [show Y = [a, a] from HYV.out] at e2
      have SL := S10.kept hkl
      have bL := b10.trans (hkl.mono b10.size)
      clear hws hkw hkl S10 sx10 sy b10
      go_wp2_with fail
      generalize (((w10.alloc (.cells #[V8 0, V8 0] 5)).alloc (.cells #[V8 a, V8 a] 5)).alloc (.cells #[V8 a, V8 b] 5)) = wl at *
      refine (trace_any _ K _ 9 2 (by omega) _ SL ok9).mono ?_
      rintro e w11 ⟨v11, us11, rfl, t11, hk11, _, _⟩
      go_wp2_with fail
      refine (trace_any _ K _ 9 2 (by omega) _ (SL.kept hk11) ok9).mono ?_
      rintro e w12 ⟨v12, us12, rfl, t12, hk12, _, _⟩
      go_wp2_with fail
      refine (same_ops _ _ _ _ _ (by show s.trace.length ≤ 1000; rw [HTR.out]; simp) _ (t11.kept hk12) t12).mono ?_
      rintro e w13 ⟨rfl, hk13⟩
      go_wp2_with fail
      refine (trace_any _ K _ 9 2 (by omega) _ (((SL.kept hk11).kept hk12).kept hk13) ok9).mono ?_
      rintro e w14 ⟨v14, us14, rfl, t14, hk14, _, _⟩
      obtain ⟨a14, c14, hv14⟩ := t14.slice
      rw [show ({ s with lasts := R, waits := [] } : Sd).trace.length = 2 from by show s.trace.length = 2; rw [HTR.out]; rfl] at hv14
      subst hv14
      go_wp2_with fail
      refine (known_any _).mono ?_
      rintro e w15 ⟨rfl, hk15⟩
      go_wp2
      go_ret
      exact ⟨rfl, bL.trans ((Kept.of (Kept.of (Kept.of (Kept.of hk11 hk12) hk13) hk14) hk15).mono bL.size)⟩
    · have hkw : Kept w10 ((w10.alloc (.cells #[V8 0, V8 0] 5)).alloc (.cells #[V8 a, V8 b] 5)) := ((Below.refl _ _).alloc (Nat.le_refl _) _).alloc (by simp) _
      have hkl : Kept w10 (((w10.alloc (.cells #[V8 0, V8 0] 5)).alloc (.cells #[V8 a, V8 b] 5)).alloc (.cells #[V8 a, V8 b] 5)) := Kept.of hkw ((Below.refl _ _).alloc (Nat.le_refl _) _)
      have e0 := str_of (sx10.kept hkw)
      have e1 : Sl (((w10.alloc (.cells #[V8 0, V8 0] 5)).alloc (.cells #[V8 a, V8 b] 5)).alloc (.cells #[V8 a, V8 b] 5)) (.slice (some ⟨((w10.alloc (.cells #[V8 0, V8 0] 5)).alloc (.cells #[V8 a, V8 b] 5)).heap.size, 0, none⟩) 2 2) ([a, b] : List UInt8).length (bcells [a, b]) := Sl.lit ((w10.alloc (.cells #[V8 0, V8 0] 5)).alloc (.cells #[V8 a, V8 b] 5)) #[V8 a, V8 b] _ 2 (by decide)
      have hws : ((w10.alloc (.cells #[V8 0, V8 0] 5)).alloc (.cells #[V8 a, V8 b] 5)).heap.size = w10.heap.size + 2 := by simp
      rw [hws] at e1
      have e1 := str_of e1
      have e2 := str_of (sy.kept hkl)
      have e3 : Sl ((w10.alloc (.cells #[V8 0, V8 0] 5)).alloc (.cells #[V8 a, V8 b] 5)) (.slice (some ⟨(w10.heap.size + 1), 0, none⟩) 2 2) ([a, b] : List UInt8).length (bcells [a, b]) := by have := Sl.lit (w10.alloc (.cells #[V8 0, V8 0] 5)) #[V8 a, V8 b] 5 2 (by decide); simpa [bcells] using this
      have e3 := str_of (e3.kept (show Kept ((w10.alloc (.cells #[V8 0, V8 0] 5)).alloc (.cells #[V8 a, V8 b] 5)) (((w10.alloc (.cells #[V8 0, V8 0] 5)).alloc (.cells #[V8 a, V8 b] 5)).alloc (.cells #[V8 a, V8 b] 5)) from (Below.refl _ _).alloc (Nat.le_refl _) _))
      rw [show Y = [a, b] from HYV.out] at e2
      have SL := S10.kept hkl
      have bL := b10.trans (hkl.mono b10.size)
      clear hws hkw hkl S10 sx10 sy b10
      go_wp2_with fail
      generalize (((w10.alloc (.cells #[V8 0, V8 0] 5)).alloc (.cells #[V8 a, V8 b] 5)).alloc (.cells #[V8 a, V8 b] 5)) = wl at *
      refine (trace_any _ K _ 9 2 (by omega) _ SL ok9).mono ?_
      rintro e w11 ⟨v11, us11, rfl, t11, hk11, _, _⟩
      go_wp2_with fail
      refine (trace_any _ K _ 9 2 (by omega) _ (SL.kept hk11) ok9).mono ?_
      rintro e w12 ⟨v12, us12, rfl, t12, hk12, _, _⟩
      go_wp2_with fail
      refine (same_ops _ _ _ _ _ (by show s.trace.length ≤ 1000; rw [HTR.out]; simp) _ (t11.kept hk12) t12).mono ?_
      rintro e w13 ⟨rfl, hk13⟩
      go_wp2_with fail
      refine (trace_any _ K _ 9 2 (by omega) _ (((SL.kept hk11).kept hk12).kept hk13) ok9).mono ?_
      rintro e w14 ⟨v14, us14, rfl, t14, hk14, _, _⟩
      obtain ⟨a14, c14, hv14⟩ := t14.slice
      rw [show ({ s with lasts := R, waits := [] } : Sd).trace.length = 2 from by show s.trace.length = 2; rw [HTR.out]; rfl] at hv14
      subst hv14
      go_wp2_with fail
      refine (known_any _).mono ?_
      rintro e w15 ⟨rfl, hk15⟩
      go_wp2
      go_ret
      exact ⟨rfl, bL.trans ((Kept.of (Kept.of (Kept.of (Kept.of hk11 hk12) hk13) hk14) hk15).mono bL.size)⟩


namespace ssdOrderRow
open Go.ChangeShapes Go.WideShapes Go.ChangeAt Go.RowKit
theorem own : ownKnob Try.prog.godebug = none := by kernel_rfl
theorem laidOut : laidOutB Try.prog = true := by kernel_rfl

set_option maxRecDepth 100000 in
theorem lifted (os : Os) (started : os.Started) (H : Type) (enc : TypeId × Value → H) :
    ReturnsInHanded {} Try.checked os 4 .any (Rows.ssdOrderSpec.pre6 enc Try.prog Try.f4 Rows.ssdOrderRow.domain false) (Rows.ssdOrderSpec.post enc Try.prog Try.f4 false true false false) := by
  refine returnsInHanded_of_change (C := Try.checked) own started (by kernel_rfl) Try.func4
    (ChangeSpec.witness6 (enc := enc) (C := Try.checked) false ⟨#[], #[.int .u8 0, .int .u8 0, .bool false, .bool false], []⟩ 8 (by kernel_rfl) (by kernel_rfl) (by kernel_rfl) (by kernel_rfl)) ?_
  intro W base args ds gs before hval0 hW _ hsz
  have hval : ∀ (j : Nat) t v, Try.f4.params[j]? = some t → args[j]? = some v → Value.okWide Try.prog W .any base t v := hval0
  have hW' := hW
  obtain ⟨p, q, hA0, hV, rfl, hfz, hnd⟩ := hW
  have hA : DataW.TrodAll enc Try.prog W 0 (fun _ => true) true Try.f4.params.toList args.toList ds p := hA0
  rw [Try.params4] at hA hval
  obtain ⟨v0, vs0, d0, ds0, p0, q0, hargs, rfl, rfl, h0, r0⟩ := trodAll_cons hA
  obtain ⟨v1, vs1, d1, ds1, p1, q1, rfl, rfl, rfl, h1, r1⟩ := trodAll_cons r0
  obtain ⟨v2, vs2, d2, ds2, p2, q2, rfl, rfl, rfl, h2, r2⟩ := trodAll_cons r1
  obtain ⟨v3, vs3, d3, ds3, p3, q3, rfl, rfl, rfl, h3, r3⟩ := trodAll_cons r2
  obtain ⟨rfl, rfl, rfl⟩ := trodAll_nil r3
  obtain rfl : args = #[v0, v1, v2, v3] := by cases args; simp_all
  obtain ⟨a0, rfl⟩ := open_V8 Try.underlying5 (hval 0 5 v0 rfl rfl) h0
  obtain ⟨a1, rfl⟩ := open_V8 Try.underlying5 (hval 1 5 v1 rfl rfl) h1
  obtain ⟨a2, rfl, _, _⟩ := open_bool Try.underlying4 (hval 2 4 v2 rfl rfl) h2
  obtain ⟨a3, rfl, _, _⟩ := open_bool Try.underlying4 (hval 3 4 v3 rfl rfl) h3
  refine (order_walk a0 a1 a2 a3 W).mono fun e W' ⟨he, bel⟩ => ?_
  subst he
  exact ⟨_, rfl, law_post (tb := 4) laidOut (by kernel_rfl) Try.underlying4 (by rfl) rfl (by intro xs hxs; match xs, hxs with | [x0, x1, x2, x3], _ => rfl) hW' bel⟩

theorem over : Rows.ssdOrderRow.holds Try.pinned (OpenSpec.ofChange Rows.ssdOrderSpec) :=
  OpenClaim.holds_of_wide 4 Try.f4 rfl rfl rfl rfl rfl rfl rfl ⟨rfl, rfl, rfl, rfl, rfl⟩ rfl rfl rfl rfl rfl (by kernel_rfl) Try.func4 (by kernel_rfl)
    (of_decide_eq_true (by kernel_rfl)) (by unfold Func.isWrapper; rw [if_neg (of_decide_eq_false (by kernel_rfl))]; exact ⟨rfl, rfl⟩)
    (fun os started H enc _ => lifted os started H enc)
end ssdOrderRow

theorem ssdOrder_holds : Rows.SsdOrderSaid := ssdOrderRow.over
#print axioms ssdOrder_holds

end Go.Proofs.Ytgbfgaeohnjmeaa
