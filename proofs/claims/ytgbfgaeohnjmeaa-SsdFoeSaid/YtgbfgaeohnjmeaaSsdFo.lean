/- SsdFoe: what the foe lays is what is read, all else stays; a copy laid back is all that is there. -/
import Derived.Test.YtgbfgaeohnjmeaaSsdM
import Derived.Test.YtgbfgaeohnjmeaaBools
import Derived.Test.YtgbfgaeohnjmeaaRows
namespace Go.Proofs.Ytgbfgaeohnjmeaa
open Go Go.RowKit

theorem lay_step (b c : List UInt8) (p k : Nat) (hp : p + c.length ≤ b.length) (hk : k < c.length) : layB b ((p : Int), c.take (k + 1)) = (layB b ((p : Int), c.take k)).set (p + k) c[k] := by
  have h1 : (c.take (k + 1)).length = k + 1 := by simp; omega
  have h2 : (c.take k).length = k := by simp; omega
  have h3 : (b.take p).length = p := by simp; omega
  simp only [layB, Int.toNat_natCast]
  rw [h1, h2]
  apply List.ext_getElem?
  intro i
  rw [List.getElem?_set]
  by_cases hi : p + k = i
  · subst hi
    rw [if_pos rfl, if_pos (by simp; omega)]
    simp only [List.getElem?_append, List.length_append, h1, h3]
    rw [if_pos (by omega), if_neg (by omega), Nat.add_sub_cancel_left, List.getElem?_take_of_lt (by omega), List.getElem?_eq_getElem hk]
  · rw [if_neg hi]
    simp only [List.getElem?_append, List.length_append, h1, h2, h3]
    by_cases h4 : i < p
    · rw [if_pos (by omega), if_pos h4, if_pos (by omega), if_pos h4]
    · by_cases h5 : i < p + k
      · rw [if_pos (by omega), if_neg h4, if_pos (by omega), if_neg h4, List.getElem?_take_of_lt (by omega), List.getElem?_take_of_lt (by omega)]
      · rw [if_neg (by omega), if_neg (by omega), List.getElem?_drop, List.getElem?_drop]
        congr 1; omega
theorem lay_zero (b : List UInt8) (p : Nat) (c : List UInt8) : layB b ((p : Int), c.take 0) = b := by simp [layB]
theorem sl_blkx {w : World} {g n c : Nat} {bs : List UInt8} {ex : List Value} {e : TypeId} (h : Blk w g (bcells bs ++ ex).toArray e) (hl : bs.length = n) (hn : n ≤ c) (hc : c ≤ maxLen) : Sl w (.slice (some ⟨g, 0, none⟩) n c) n (bcells bs) := by
  refine Sl.mk hn hc fun j u hj => ?_
  have hjl := (List.getElem?_eq_some_iff.1 hj).1
  rw [Nat.zero_add, h.cell j]
  simpa [List.getElem?_append_left hjl] using hj
set_option maxRecDepth 100000 in
set_option maxHeartbeats 4000000 in
theorem foe_walk (off : Int) (vb : Value) (at_ : Int) (vc : Value) (b c : List UInt8) (w : World) (hb : Sl w vb b.length (bcells b)) (hc : Sl w vc c.length (bcells c)) : Calls Try.prog 5 #[.int .i64 off, vb, .int .i64 at_, vc] w fun e w' => e = .returned (.bool true) ∧ Kept w w' := by
  have lb := hb.low
  have lc := hc.low
  by_cases hout : ¬ (0 ≤ off ∧ off ≤ 50 ∧ b.length ≤ 50 ∧ 0 ≤ at_ ∧ at_ ≤ 50 ∧ c.length ≤ 50)
  · obtain ⟨ba, bc, hv⟩ := hb.len
    subst hv
    obtain ⟨ca, cc, hv⟩ := hc.len
    subst hv
    generalize b.length = B at *
    generalize c.length = C at *
    clear hb hc
    by_cases h1 : off < 0
    · clear hout
      go_enter Try.func5, Try.ntmps5
      go_wp2
      go_ret
      exact ⟨rfl, Below.refl _ _⟩
    by_cases h2 : 50 < off
    · clear hout
      go_enter Try.func5, Try.ntmps5
      go_wp2
      go_ret
      exact ⟨rfl, Below.refl _ _⟩
    by_cases h3 : 50 < (B : Int)
    · clear hout
      go_enter Try.func5, Try.ntmps5
      go_wp2
      go_ret
      exact ⟨rfl, Below.refl _ _⟩
    by_cases h4 : at_ < 0
    · clear hout
      go_enter Try.func5, Try.ntmps5
      go_wp2
      go_ret
      exact ⟨rfl, Below.refl _ _⟩
    by_cases h5 : 50 < at_
    · clear hout
      go_enter Try.func5, Try.ntmps5
      go_wp2
      go_ret
      exact ⟨rfl, Below.refl _ _⟩
    have h6 : 50 < (C : Int) := by omega
    clear hout
    go_enter Try.func5, Try.ntmps5
    go_wp2
    go_ret
    exact ⟨rfl, Below.refl _ _⟩
  have ⟨o0, o1, o2, o3, o4, o5⟩ := Decidable.not_not.1 hout
  obtain ⟨o, rfl⟩ : ∃ o : Nat, off = o := ⟨off.toNat, by omega⟩
  obtain ⟨p, rfl⟩ : ∃ p : Nat, at_ = p := ⟨at_.toNat, by omega⟩
  obtain ⟨ba, bc, hv⟩ := hb.len
  subst hv
  obtain ⟨ca, cc, hv⟩ := hc.len
  subst hv
  have q0 : ¬ (o : Int) < 0 := by omega
  have q1 : ¬ 50 < (o : Int) := by omega
  have q2 : ¬ 50 < (b.length : Int) := by omega
  have q3 : ¬ (p : Int) < 0 := by omega
  have q4 : ¬ 50 < (p : Int) := by omega
  have q5 : ¬ 50 < (c.length : Int) := by omega
  have hinb : inB 100 ((o : Int), b) := ⟨by simp, by simp; omega, by simp; omega⟩
  have hinc : inB 100 ((p : Int), c) := ⟨by simp, by simp; omega, by simp; omega⟩
  clear hout
  go_enter Try.func5, Try.ntmps5
  go_wp2_with fail
  refine (power_new _).mono ?_
  rintro e w1 ⟨rfl, p1, hk1, hz1⟩
  go_wp2_with fail
  refine (ssd_new 100 (by omega) (by omega) w.heap.size Pw.new (fun k => k < w.heap.size) _ (fun k hk => by omega) (by simp) p1).mono ?_
  rintro e w2 ⟨J, rfl, S2, hk2⟩
  have k2 := Kept.of hk1 hk2
  have S2 : SdAt _ w2 J (Sd.fresh 100) := S2
  have sm2 : SameOn (fun k => k < w.heap.size) w w2 := SameOn.of_kept k2
  clear hk1 hk2 hz1 p1
  go_wp2_with fail
  refine (write_nf _ J 0 _ 100 0 (by omega) (by omega) _ S2 (fresh_ok 100) rfl o _ b hinb (sm2.sl hb lb) lb).mono ?_
  rintro e w3 ⟨rfl, S3, hs3⟩
  have ok3 := put_ok (k := 0) (fresh_ok 100) hinb (by omega) (by omega)
  have sm3 := sm2.trans hs3
  clear S2 hs3 sm2
  obtain ⟨s, hs⟩ : ∃ s, s = (Sd.fresh 100).put 0 ((o : Int), b) := ⟨_, rfl⟩
  rw [← hs] at S3 ok3
  have htr : s.trace.length = 1 := by rw [hs]; rfl
  obtain ⟨L, hL⟩ : ∃ L, L = s.snap := ⟨_, rfl⟩
  have HS := Lib.hid hs
  have HTR := Lib.hid htr
  have HL := Lib.hid hL
  clear hs htr hL
  go_wp2_with fail
  refine (snap_at _ J _ 100 1 (by omega) (by omega) (by omega) _ S3 ok3 L HL.out.symm).mono ?_
  rintro e w4 ⟨g4, c4, rfl, ho4, hl4, hk4⟩
  obtain ⟨ex4, hB4, hc4, _, hg4, hm4⟩ := own_blk1 ho4
  have hz3 := sm3.size
  have sl4 := Sl.of_own ho4
  have hk0 : Kept w4 (w4.alloc (.cells #[] 5)) := (Below.refl _ _).alloc (Nat.le_refl _) _
  have ho : (w4.alloc (.cells #[] 5)).ownsRow w4.heap.size 5 1 (.slice (some ⟨w4.heap.size, 0, none⟩) 0 0) 0 (bcells []) := own_made 0 (by decide) 5 [] rfl (Blk.new _ _ _) (Nat.le_refl _)
  have sl4' := sl4.kept hk0
  have hlb : (bcells L).length = 100 := by rw [bcells_length, hl4]
  go_wp2_with (at_builtin; refine wpList_append sl_bytes rfl (by rfl) (by rfl) (by rfl) ho sl4' (by rw [hlb]) (oneCell_V8 L) (by unfold maxLen; omega) (by omega) (by simp) ?_; intro v6 w6 hown6 hg6 hat6; obtain ⟨g6, c6, hve⟩ := own_some hown6 (by omega); subst hve)
  have k6 : Kept w4 w6 := below_append hk0 ho hg6 (by simp)
  have hown6' : w6.ownsRow w4.heap.size 5 1 (.slice (some ⟨g6, 0, none⟩) 100 c6) 100 (bcells L) := by simpa [bcells] using hown6
  have hg6l := own_geV hown6' rfl
  have hg6h := own_ltV hown6' rfl
  have hg4h := hB4.lt
  have hz4 := hk4.size
  have hz6 := k6.size
  have S6 := S3.more (A' := fun k => k < w.heap.size ∨ k = g4 ∨ k = g6) (Kept.of hk4 k6) (fun k hk => by rcases hk with h | rfl | rfl; exact .inl h; exact .inr hg4; exact .inr (Nat.le_trans hz4 hg6l)) (fun k hk => by rcases hk with h | rfl | rfl; exact Nat.lt_of_lt_of_le h (Nat.le_trans hz3 (Nat.le_trans hz4 hz6)); exact Nat.lt_of_lt_of_le hg4h hz6; exact hg6h)
  have hB6 := hB4.kept k6
  have sm6 := (sm3.trans (SameOn.of_kept hk4)).trans (SameOn.of_kept k6)
  have hcs := sm6.sl hc lc
  clear S3 hB4 ho4 sl4 sl4' ho hk0 hown6 hg6 hat6 sm3
  go_wp2_with fail
  have hsn := Sd.snap_length ok3
  refine (smash_yes _ J s 100 1 (by omega) (by omega) (by omega) _ S6 ok3 p _ c hinc hcs (fun x y e hl => .inl (lc x y e hl))).mono ?_
  rintro e w7 ⟨rfl, S7, hs7⟩
  rw [← HL.out] at S7
  have hB7 : Blk w7 g4 (bcells L ++ ex4).toArray 5 := (hs7.block g4 hB6.lt (.inr (.inl rfl))).trans hB6
  have hown7 := hs7.own hown6' (fun g hg => by cases hg; exact .inr (.inr rfl))
  have sm7 := sm6.trans (hs7.mono (fun k hk => .inl hk))
  have hc7 := sm7.sl hc lc
  have hLl : L.length = 100 := hl4
  clear S6 hs7 hB6 hown6' hcs sm6 hsn
  go_wp2_with fail
  have hgw : w.heap.size ≤ g4 := Nat.le_trans hz3 hg4
  have i100 : 100 ≤ c4 := by omega
  go_loopw [12] (fun i wr => ∃ k : Nat, k ≤ c.length ∧ i = .int .i64 k ∧ Blk wr g4 (bcells (layB L ((p : Int), c.take k)) ++ ex4).toArray 5 ∧ Chg [g4] w7 wr) (fun i _ => c.length - (intOf i).toNat)
  case atStart => exact ⟨0, by omega, rfl, by rw [lay_zero]; exact hB7, Chg.refl _ _⟩
  case round =>
    obtain ⟨k, hk, rfl, hBr, hcr⟩ := hrel
    clear hB7
    have hpl : p + c.length ≤ L.length := by omega
    by_cases hlt : k < c.length
    · obtain ⟨cb, co, ccap, he, _, _, _, hx⟩ := hc7.at (by rw [bcells_length]; omega)
      cases he
      have hcbw : cb < w.heap.size := lc ⟨cb, co, none⟩ _ rfl (by rw [bcells_length]; omega)
      have x0 := hcr.cell (hx k _ (bcells_get c k hlt)) (by show cb ∉ _; simp; omega)
      have hst := lay_step L c p k hpl hlt
      obtain ⟨y, hy⟩ : ∃ y, y = c[k] := ⟨_, rfl⟩
      rw [← hy] at x0 hst
      have hlen : (layB L ((p : Int), c.take k)).length = 100 := by rw [layB_length _ _ ⟨by simp, by simp; omega, by simp; omega⟩]; exact hLl
      have z0 := hBr.cell (p + k)
      have zf := hBr.free (p + k)
      obtain ⟨u0, hu0⟩ : ∃ u0, (bcells (layB L ((p : Int), c.take k)) ++ ex4).toArray[p + k]? = some u0 := ⟨_, Array.getElem?_eq_getElem (by simp [bcells_length, hlen]; omega)⟩
      rw [hu0] at z0
      have n1 : (k : Int) < (c.length : Int) := by omega
      have n2 : (0 : Int) ≤ (k : Int) := by omega
      have n3 : IntKind.i64.wrap ((p : Int) + (k : Int)) = (p : Int) + (k : Int) := IntWalk.i64_in _ (by omega)
      have n4 : (p : Int) + (k : Int) < 100 := by omega
      have n5 : (0 : Int) ≤ (p : Int) + (k : Int) := by omega
      have HST := Lib.hid hst
      have HY := Lib.hid hy
      have HLEN := Lib.hid hlen
      clear hst hy hx hu0 hlen
      go_wp2
      refine ⟨⟨k + 1, by omega, by go_num, ?_, chg_set hcr _ _⟩, by simp [intOf]; omega⟩
      have hset := hBr.set (p + k) (V8 y)
      have e : (bcells (layB L ((p : Int), c.take k)) ++ ex4).set (p + k) (V8 y) = bcells ((layB L ((p : Int), c.take k)).set (p + k) y) ++ ex4 := by
        rw [List.set_append_left _ _ (by rw [bcells_length, HLEN.out]; omega)]
        simp [bcells, List.map_set]
      rw [HST.out, ← e]
      simpa using hset
    · have hkc : k = c.length := by omega
      have hVl : (layB L ((p : Int), c.take k)).length = 100 := by rw [layB_length _ _ ⟨by simp, by simp; omega, by simp; omega⟩]; exact hLl
      have e1 : c.take k = c := by rw [hkc, List.take_length]
      rw [e1] at hBr hVl
      have m1 : ¬ (k : Int) < (c.length : Int) := by omega
      have Sr := S7.chg hcr (by intro x hx; rw [List.mem_singleton.1 hx]; exact .inr (.inl rfl))
      have hownr := own_chgV hown7 hcr (by intro g hg; cases hg; simp; omega)
      have smr := sm7.trans (SameOn.of_chg hcr (by intro x hx; rw [List.mem_singleton.1 hx]; omega))
      obtain ⟨V, hV⟩ : ∃ V, V = layB L ((p : Int), c) := ⟨_, rfl⟩
      rw [← hV] at Sr hBr hVl
      have okr : Sd.ok { s with lasts := V, waits := [] } 100 1 := ⟨hVl, by simp, ok3.fitp, by simp, ok3.done, ok3.pw⟩
      have okb : Sd.ok { s with lasts := L, waits := [] } 100 1 := ⟨hLl, by simp, ok3.fitp, by simp, ok3.done, ok3.pw⟩
      have hslv : Sl wr (.slice (some ⟨g4, 0, none⟩) 100 c4) V.length (bcells V) := by rw [hVl]; exact sl_blkx hBr hVl (by omega) (by omega)
      have hslc : Sl wr (.slice (some ⟨g6, 0, none⟩) 100 c6) L.length (bcells L) := by rw [hLl]; exact Sl.of_own hownr
      have hK4 : ∀ (a : Addr) (n : Nat), Value.slice (some ⟨g4, 0, none⟩) 100 c4 = .slice (some a) V.length n → 0 < (bcells V).length → a.block ∉ [J] := fun a n e _ => by
        obtain ⟨e, _, _⟩ := Value.slice.inj e
        cases e
        obtain ⟨b, gl, cap, ex, vw, vt, us, ut, X, O, _⟩ := Sr
        intro h
        exact O.K (.inr (.inl (List.mem_singleton.1 h).symm))
      have hK6 : ∀ (a : Addr) (n : Nat), Value.slice (some ⟨g6, 0, none⟩) 100 c6 = .slice (some a) L.length n → 0 < (bcells L).length → a.block ∉ [J] := fun a n e _ => by
        obtain ⟨e, _, _⟩ := Value.slice.inj e
        cases e
        obtain ⟨b, gl, cap, ex, vw, vt, us, ut, X, O, _⟩ := Sr
        intro h
        exact O.K (.inr (.inr (List.mem_singleton.1 h).symm))
      have HV := Lib.hid hV
      have HVL := Lib.hid hVl
      have HLL := Lib.hid hLl
      have HKC := Lib.hid hkc
      have HE := Lib.hid e1
      clear hV hVl hLl hBr hown7 hownr hcr S7 sm7 hkc e1 hl4 hlb
      go_wp2_with fail
      refine (crash_any _ J _ 100 1 (by omega) (by omega) (by omega) _ Sr okr (.slice none 0 0) [] (by simp) (Sl.nil _) (by intro a c e; cases e)).mono ?_
      rintro e w8 ⟨rfl, S8, hs8⟩
      have S8 : SdAt (fun k => k < w.heap.size ∨ k = g4 ∨ k = g6) w8 J { s with lasts := V, waits := [] } := S8
      replace smr := smr.trans (hs8.mono (fun k hk => .inl hk))
      replace hslv := hs8.sl hslv (fun a n e _ => by obtain ⟨e, _, _⟩ := Value.slice.inj e; cases e; exact .inr (.inl rfl))
      replace hslc := hs8.sl hslc (fun a n e _ => by obtain ⟨e, _, _⟩ := Value.slice.inj e; cases e; exact .inr (.inr rfl))
      clear Sr hs8
      go_wp2_with fail
      refine wp_region_chainChg [J] [(0, 0), (3, 0), (4, 0), (1, 1), (2, 0), (5, 0), (6, 0), (7, 0), (8, 0), (9, 1), (10, 0), (11, 0), (12, 0), (15, 0), (16, 0), (13, 1), (14, 0), (17, 0), (18, 0), (19, 0), (20, 0), (21, 1), (22, 0), (23, 0), (24, 0), (25, 0), (26, 1), (27, 0), (28, 0), (29, 0), (30, 0), (31, 1), (32, 0), (33, 0)] (by kernel_rfl) (by kernel_rfl) ?_
      intro wr0 hwr0
      replace hslv := hslv.kept hwr0
      replace hslc := hslc.kept hwr0
      replace S8 := S8.kept hwr0
      repeat
        refine chain_light _ rfl (fun K hK => ?_)
        first
          | (refine (if_pos (by rfl)).mpr ?_; apply Exists.intro; refine ⟨fun w' hw' => ?_, hK _ ?_⟩; (have q0 := str_of (bs := V) (Chg.sl hslv hw' hK4); go_simp; done); (clear hK K; simp only [Act.put, List.setIfInBounds_toArray, List.set_cons_zero, List.set_cons_succ]))
          | (refine (if_pos (by rfl)).mpr ?_; apply Exists.intro; refine ⟨fun w' hw' => ?_, hK _ ?_⟩; (have q0 := str_of (bs := V) (Chg.sl hslv hw' hK4); go_simp; rfl); (clear hK K; simp only [Act.put, List.setIfInBounds_toArray, List.set_cons_zero, List.set_cons_succ]))
          | (refine (if_neg (by rw [Bool.not_eq_true]; rfl)).mpr ?_; refine hK _ ?_; (clear hK K; simp only [Act.put, List.setIfInBounds_toArray, List.set_cons_zero, List.set_cons_succ]))
      refine chain_heavy _ rfl (fun K hK => ?_)
      refine (if_pos (by rfl)).mpr ?_
      go_wp2_with fail
      refine (snap_at _ J _ 100 1 (by omega) (by omega) (by omega) _ S8 okr V rfl).mono ?_
      rintro e w9 ⟨g9, c9, rfl, ho9, hl9, hk9⟩
      have hsl9 : Sl w9 (.slice (some ⟨g9, 0, none⟩) 100 c9) V.length (bcells V) := by rw [HVL.out]; exact Sl.of_own ho9
      have hK9 : ∀ (a : Addr) (n : Nat), Value.slice (some ⟨g9, 0, none⟩) 100 c9 = .slice (some a) V.length n → 0 < (bcells V).length → a.block ∉ [J] := fun a n e _ => by
        obtain ⟨e, _, _⟩ := Value.slice.inj e
        cases e
        have h1 : wr0.heap.size ≤ g9 := own_geV ho9 rfl
        have h2 : J < wr0.heap.size := by obtain ⟨b, gl, cap, ex, vw, vt, us, ut, X, O, _⟩ := S8; exact X.blk.lt
        show g9 ∉ [J]
        simp; omega
      replace S8 := S8.kept hk9
      replace hslv := hslv.kept hk9
      replace hslc := hslc.kept hk9
      clear ho9
      go_wp2
      refine hK _ _ (Chg.of_kept hk9) ?_
      clear hK K
      try simp only [Act.put, List.setIfInBounds_toArray, List.set_cons_zero, List.set_cons_succ]
      repeat
        refine chain_light _ rfl (fun K hK => ?_)
        first
          | (refine (if_pos (by rfl)).mpr ?_; apply Exists.intro; refine ⟨fun w' hw' => ?_, hK _ ?_⟩; (have q0 := str_of (bs := V) (Chg.sl hslv hw' hK4); have q1 := str_of (bs := V) (Chg.sl hsl9 hw' hK9); go_simp; done); (clear hK K; simp only [Act.put, List.setIfInBounds_toArray, List.set_cons_zero, List.set_cons_succ]))
          | (refine (if_pos (by rfl)).mpr ?_; apply Exists.intro; refine ⟨fun w' hw' => ?_, hK _ ?_⟩; (have q0 := str_of (bs := V) (Chg.sl hslv hw' hK4); have q1 := str_of (bs := V) (Chg.sl hsl9 hw' hK9); go_simp; rfl); (clear hK K; simp only [Act.put, List.setIfInBounds_toArray, List.set_cons_zero, List.set_cons_succ]))
          | (refine (if_neg (by rw [Bool.not_eq_true]; rfl)).mpr ?_; refine hK _ ?_; (clear hK K; simp only [Act.put, List.setIfInBounds_toArray, List.set_cons_zero, List.set_cons_succ]))
      refine chain_heavy _ rfl (fun K hK => ?_)
      refine (if_pos (by rfl)).mpr ?_
      go_wp2_with fail
      refine (back_yes _ J _ 100 1 (by omega) (by omega) _ S8 okr _ L HLL.out hslc).mono ?_
      rintro e w10 ⟨rfl, S10, hs10, hc10⟩
      replace hslc := Chg.sl hslc hc10 hK6
      replace smr := (((smr.trans (SameOn.of_kept hwr0)).trans (SameOn.of_kept hk9)).trans (hs10.mono (fun k hk => .inl hk)))
      clear hs10 S8
      go_wp2
      refine hK _ _ (hc10) ?_
      clear hK K
      try simp only [Act.put, List.setIfInBounds_toArray, List.set_cons_zero, List.set_cons_succ]
      repeat
        refine chain_light _ rfl (fun K hK => ?_)
        first
          | (refine (if_pos (by rfl)).mpr ?_; apply Exists.intro; refine ⟨fun w' hw' => ?_, hK _ ?_⟩; (have q0 := str_of (bs := L) (Chg.sl hslc hw' hK6); go_simp; done); (clear hK K; simp only [Act.put, List.setIfInBounds_toArray, List.set_cons_zero, List.set_cons_succ]))
          | (refine (if_pos (by rfl)).mpr ?_; apply Exists.intro; refine ⟨fun w' hw' => ?_, hK _ ?_⟩; (have q0 := str_of (bs := L) (Chg.sl hslc hw' hK6); go_simp; rfl); (clear hK K; simp only [Act.put, List.setIfInBounds_toArray, List.set_cons_zero, List.set_cons_succ]))
          | (refine (if_neg (by rw [Bool.not_eq_true]; rfl)).mpr ?_; refine hK _ ?_; (clear hK K; simp only [Act.put, List.setIfInBounds_toArray, List.set_cons_zero, List.set_cons_succ]))
      refine chain_heavy _ rfl (fun K hK => ?_)
      refine (if_pos (by rfl)).mpr ?_
      go_wp2_with fail
      refine (snap_at _ J _ 100 1 (by omega) (by omega) (by omega) _ S10 okb L rfl).mono ?_
      rintro e w11 ⟨g11, c11, rfl, ho11, hl11, hk11⟩
      have hsl11 : Sl w11 (.slice (some ⟨g11, 0, none⟩) 100 c11) L.length (bcells L) := by rw [HLL.out]; exact Sl.of_own ho11
      have hK11 : ∀ (a : Addr) (n : Nat), Value.slice (some ⟨g11, 0, none⟩) 100 c11 = .slice (some a) L.length n → 0 < (bcells L).length → a.block ∉ [J] := fun a n e _ => by
        obtain ⟨e, _, _⟩ := Value.slice.inj e
        cases e
        have h1 : w10.heap.size ≤ g11 := own_geV ho11 rfl
        have h2 : J < w10.heap.size := by obtain ⟨b, gl, cap, ex, vw, vt, us, ut, X, O, _⟩ := S10; exact X.blk.lt
        show g11 ∉ [J]
        simp; omega
      replace S10 := S10.kept hk11
      replace hslc := hslc.kept hk11
      clear ho11
      go_wp2
      refine hK _ _ (Chg.of_kept hk11) ?_
      clear hK K
      try simp only [Act.put, List.setIfInBounds_toArray, List.set_cons_zero, List.set_cons_succ]
      repeat
        refine chain_light _ rfl (fun K hK => ?_)
        first
          | (refine (if_pos (by rfl)).mpr ?_; apply Exists.intro; refine ⟨fun w' hw' => ?_, hK _ ?_⟩; (have q0 := str_of (bs := L) (Chg.sl hslc hw' hK6); have q1 := str_of (bs := L) (Chg.sl hsl11 hw' hK11); go_simp; done); (clear hK K; simp only [Act.put, List.setIfInBounds_toArray, List.set_cons_zero, List.set_cons_succ]))
          | (refine (if_pos (by rfl)).mpr ?_; apply Exists.intro; refine ⟨fun w' hw' => ?_, hK _ ?_⟩; (have q0 := str_of (bs := L) (Chg.sl hslc hw' hK6); have q1 := str_of (bs := L) (Chg.sl hsl11 hw' hK11); go_simp; rfl); (clear hK K; simp only [Act.put, List.setIfInBounds_toArray, List.set_cons_zero, List.set_cons_succ]))
          | (refine (if_neg (by rw [Bool.not_eq_true]; rfl)).mpr ?_; refine hK _ ?_; (clear hK K; simp only [Act.put, List.setIfInBounds_toArray, List.set_cons_zero, List.set_cons_succ]))
      refine chain_heavy _ rfl (fun K hK => ?_)
      refine (if_pos (by rfl)).mpr ?_
      go_wp2_with fail
      refine (back_no _ J _ 100 1 (by omega) _ S10 okb none 0 0 (by omega) (by omega)).mono ?_
      rintro e w12 ⟨rfl, rfl⟩
      go_wp2
      refine hK _ _ (Chg.refl _ _) ?_
      clear hK K
      try simp only [Act.put, List.setIfInBounds_toArray, List.set_cons_zero, List.set_cons_succ]
      repeat
        refine chain_light _ rfl (fun K hK => ?_)
        first
          | (refine (if_pos (by rfl)).mpr ?_; apply Exists.intro; refine ⟨fun w' hw' => ?_, hK _ ?_⟩; (go_simp; done); (clear hK K; simp only [Act.put, List.setIfInBounds_toArray, List.set_cons_zero, List.set_cons_succ]))
          | (refine (if_pos (by rfl)).mpr ?_; apply Exists.intro; refine ⟨fun w' hw' => ?_, hK _ ?_⟩; (go_simp; rfl); (clear hK K; simp only [Act.put, List.setIfInBounds_toArray, List.set_cons_zero, List.set_cons_succ]))
          | (refine (if_neg (by rw [Bool.not_eq_true]; rfl)).mpr ?_; refine hK _ ?_; (clear hK K; simp only [Act.put, List.setIfInBounds_toArray, List.set_cons_zero, List.set_cons_succ]))
      refine chain_heavy _ rfl (fun K hK => ?_)
      refine (if_pos (by rfl)).mpr ?_
      go_wp2_with fail
      refine (trace_any _ J _ 100 1 (by omega) _ S10 okb).mono ?_
      rintro e w13 ⟨v13, us13, rfl, t13, hk13, _, _⟩
      obtain ⟨a13, c13, hv13⟩ := t13.slice
      rw [show ({ s with lasts := L, waits := [] } : Sd).trace.length = 1 from HTR.out] at hv13
      subst hv13
      go_wp2
      refine hK _ _ (Chg.of_kept hk13) ?_
      clear hK K
      try simp only [Act.put, List.setIfInBounds_toArray, List.set_cons_zero, List.set_cons_succ]
      repeat
        refine chain_light _ rfl (fun K hK => ?_)
        first
          | (refine (if_pos (by rfl)).mpr ?_; apply Exists.intro; refine ⟨fun w' hw' => ?_, hK _ ?_⟩; (go_simp; done); (clear hK K; simp only [Act.put, List.setIfInBounds_toArray, List.set_cons_zero, List.set_cons_succ]))
          | (refine (if_pos (by rfl)).mpr ?_; apply Exists.intro; refine ⟨fun w' hw' => ?_, hK _ ?_⟩; (go_simp; rfl); (clear hK K; simp only [Act.put, List.setIfInBounds_toArray, List.set_cons_zero, List.set_cons_succ]))
          | (refine (if_neg (by rw [Bool.not_eq_true]; rfl)).mpr ?_; refine hK _ ?_; (clear hK K; simp only [Act.put, List.setIfInBounds_toArray, List.set_cons_zero, List.set_cons_succ]))
      refine chain_heavy _ rfl (fun K hK => ?_)
      refine (if_pos (by rfl)).mpr ?_
      go_wp2_with fail
      refine (known_any _).mono ?_
      rintro e w14 ⟨rfl, hk14⟩
      go_wp2
      refine hK _ _ (Chg.of_kept hk14) ?_
      clear hK K
      try simp only [Act.put, List.setIfInBounds_toArray, List.set_cons_zero, List.set_cons_succ]
      repeat
        refine chain_light _ rfl (fun K hK => ?_)
        first
          | (refine (if_pos (by rfl)).mpr ?_; apply Exists.intro; refine ⟨fun w' hw' => ?_, hK _ ?_⟩; (go_simp; done); (clear hK K; simp only [Act.put, List.setIfInBounds_toArray, List.set_cons_zero, List.set_cons_succ]))
          | (refine (if_pos (by rfl)).mpr ?_; apply Exists.intro; refine ⟨fun w' hw' => ?_, hK _ ?_⟩; (go_simp; rfl); (clear hK K; simp only [Act.put, List.setIfInBounds_toArray, List.set_cons_zero, List.set_cons_succ]))
          | (refine (if_neg (by rw [Bool.not_eq_true]; rfl)).mpr ?_; refine hK _ ?_; (clear hK K; simp only [Act.put, List.setIfInBounds_toArray, List.set_cons_zero, List.set_cons_succ]))
      refine chain_nil ?_
      go_wp2
      go_ret
      exact ⟨rfl, ((((smr.trans (SameOn.of_kept hk11)).trans (SameOn.of_kept hk13)).trans (SameOn.of_kept hk14)).below (fun k hk => hk) (Nat.le_refl _))⟩


namespace ssdFoeRow
open Go.ChangeShapes Go.WideShapes Go.ChangeAt Go.RowKit
theorem own : ownKnob Try.prog.godebug = none := by kernel_rfl
theorem laidOut : laidOutB Try.prog = true := by kernel_rfl

set_option maxRecDepth 100000 in
theorem lifted (os : Os) (started : os.Started) (H : Type) (enc : TypeId × Value → H) :
    ReturnsInHanded {} Try.checked os 5 .any (Rows.ssdFoeSpec.pre6 enc Try.prog Try.f5 Rows.ssdFoeRow.domain false) (Rows.ssdFoeSpec.post enc Try.prog Try.f5 false true false false) := by
  refine returnsInHanded_of_change (C := Try.checked) own started (by kernel_rfl) Try.func5
    (ChangeSpec.witness6 (enc := enc) (C := Try.checked) false ⟨#[], #[.int .i64 0, .slice none 0 0, .int .i64 0, .slice none 0 0], []⟩ 8 (by kernel_rfl) (by kernel_rfl) (by kernel_rfl) (by kernel_rfl)) ?_
  intro W base args ds gs before hval0 hW _ hsz
  have hval : ∀ (j : Nat) t v, Try.f5.params[j]? = some t → args[j]? = some v → Value.okWide Try.prog W .any base t v := hval0
  have hW' := hW
  obtain ⟨p, q, hA0, hV, rfl, hfz, hnd⟩ := hW
  have hA : DataW.TrodAll enc Try.prog W 0 (fun _ => true) true Try.f5.params.toList args.toList ds p := hA0
  rw [Try.params5] at hA hval
  obtain ⟨v0, vs0, d0, ds0, p0, q0, hargs, rfl, rfl, h0, r0⟩ := trodAll_cons hA
  obtain ⟨v1, vs1, d1, ds1, p1, q1, rfl, rfl, rfl, h1, r1⟩ := trodAll_cons r0
  obtain ⟨v2, vs2, d2, ds2, p2, q2, rfl, rfl, rfl, h2, r2⟩ := trodAll_cons r1
  obtain ⟨v3, vs3, d3, ds3, p3, q3, rfl, rfl, rfl, h3, r3⟩ := trodAll_cons r2
  obtain ⟨rfl, rfl, rfl⟩ := trodAll_nil r3
  obtain rfl : args = #[v0, v1, v2, v3] := by cases args; simp_all
  obtain ⟨a0, rfl, lo0, hi0⟩ := open_I Try.underlying3 (hval 0 3 v0 rfl rfl) h0
  obtain ⟨a1b, a1⟩ := open_bytes (e := 5) Try.underlying22 Try.underlying5 (by kernel_rfl) (hval 1 22 v1 rfl rfl) h1
  obtain ⟨a2, rfl, lo2, hi2⟩ := open_I Try.underlying3 (hval 2 3 v2 rfl rfl) h2
  obtain ⟨a3b, a3⟩ := open_bytes (e := 5) Try.underlying22 Try.underlying5 (by kernel_rfl) (hval 3 22 v3 rfl rfl) h3
  refine (foe_walk a0 _ a2 _ _ _ W a1 a3).mono fun e W' ⟨he, bel⟩ => ?_
  subst he
  exact ⟨_, rfl, law_post (tb := 4) laidOut (by kernel_rfl) Try.underlying4 (by rfl) rfl (by intro xs hxs; match xs, hxs with | [x0, x1, x2, x3], _ => rfl) hW' bel⟩

theorem over : Rows.ssdFoeRow.holds Try.pinned (OpenSpec.ofChange Rows.ssdFoeSpec) :=
  OpenClaim.holds_of_wide 5 Try.f5 rfl rfl rfl rfl rfl rfl rfl ⟨rfl, rfl, rfl, rfl, rfl⟩ rfl rfl rfl rfl rfl (by kernel_rfl) Try.func5 (by kernel_rfl)
    (of_decide_eq_true (by kernel_rfl)) (by unfold Func.isWrapper; rw [if_neg (of_decide_eq_false (by kernel_rfl))]; exact ⟨rfl, rfl⟩)
    (fun os started H enc _ => lifted os started H enc)
end ssdFoeRow

theorem ssdFoe_holds : Rows.SsdFoeSaid := ssdFoeRow.over
#print axioms ssdFoe_holds

end Go.Proofs.Ytgbfgaeohnjmeaa
