/- SsdOwn: what is handed in is not kept, what is told is new memory; a nil SSD is nothing. -/
import Derived.Test.YtgbfgaeohnjmeaaSsdM
import Derived.Test.YtgbfgaeohnjmeaaBools
import Derived.Test.YtgbfgaeohnjmeaaRows
import Derived.Test.YtgbfgaeohnjmeaaTurn
namespace Go.Proofs.Ytgbfgaeohnjmeaa
open Go Go.RowKit

/-- a part of a block that is known whole -/
theorem sl_part2 {w : World} {g : Nat} {bs : List UInt8} {ex : List Value} {c : Nat} (hB : Blk w g (bcells bs ++ ex).toArray 5) (hc : bs.length + ex.length = c) (hm : c ≤ maxLen) (o len : Nat) (h : o + len ≤ bs.length) (cs : List UInt8) (hcs : (bs.drop o).take len = cs) :
    Sl w (.slice (some ⟨g, o, none⟩) len (c - o)) cs.length (bcells cs) := by
  have hl : cs.length = len := by rw [← hcs]; simp; omega
  rw [hl]
  refine Sl.mk (by omega) (by omega) fun j u hj => ?_
  have hjl := (List.getElem?_eq_some_iff.1 hj).1
  rw [bcells_length, hl] at hjl
  rw [hB.cell (o + j)]
  rw [← hcs] at hj
  have h1 : (bcells bs)[o + j]? = some u := by
    simp only [bcells, List.map_take, List.map_drop] at hj
    rw [List.getElem?_take_of_lt hjl, List.getElem?_drop] at hj
    exact hj
  rw [List.getElem?_toArray, List.getElem?_append_left (by rw [bcells_length]; omega)]
  exact h1

theorem snap_put (n : Nat) (b : List UInt8) (hb : b.length ≤ n) : (((Sd.fresh n).put 0 (0, b)).snap.drop 0).take b.length = b := by
  show ((b ++ (List.replicate n (0 : UInt8)).drop (0 + b.length)).drop 0).take b.length = b
  simp
set_option maxRecDepth 100000 in
set_option maxHeartbeats 4000000 in
theorem own_walk (vb : Value) (b : List UInt8) (w : World) (hb : Sl w vb b.length (bcells b)) : Calls Try.prog 6 #[vb] w fun e w' => e = .returned (.bool true) ∧ Kept w w' := by
  have lb := hb.low
  have hb0 := hb
  obtain ⟨ba, bc, hv⟩ := hb.len
  subst hv
  by_cases h1 : b.length < 1
  · clear hb hb0 lb
    generalize b.length = B at *
    go_enter Try.func6, Try.ntmps6
    go_wp2
    go_ret
    exact ⟨rfl, Below.refl _ _⟩
  by_cases h2 : 50 < b.length
  · clear hb hb0 lb
    generalize b.length = B at *
    go_enter Try.func6, Try.ntmps6
    go_wp2
    go_ret
    exact ⟨rfl, Below.refl _ _⟩
  have q1 : ¬ (b.length : Int) < 1 := by omega
  have q2 : ¬ 50 < (b.length : Int) := by omega
  have o2 : b.length ≤ 50 := by omega
  have hinb : inB 100 ((0 : Int), b) := ⟨by simp, by simp, by simp; omega⟩
  go_enter Try.func6, Try.ntmps6
  go_wp2_with fail
  refine (power_new _).mono ?_
  rintro e w1 ⟨rfl, p1, hk1, hz1⟩
  go_wp2_with fail
  refine (ssd_new 100 (by omega) (by omega) w.heap.size Pw.new (fun k => k < w.heap.size) _ (fun k hk => by omega) (by simp) p1).mono ?_
  rintro e w2 ⟨J, rfl, S2, hk2⟩
  have k2 := Kept.of hk1 hk2
  have S2 : SdAt _ w2 J (Sd.fresh 100) := S2
  have sm2 : SameOn (fun k => k < w.heap.size) w w2 := SameOn.of_kept k2
  clear hk1 hk2 hz1 p1
  have hb2 := sm2.sl hb lb
  have hk0 : Kept w2 (w2.alloc (.cells #[] 5)) := (Below.refl _ _).alloc (Nat.le_refl _) _
  have ho : (w2.alloc (.cells #[] 5)).ownsRow w2.heap.size 5 1 (.slice (some ⟨w2.heap.size, 0, none⟩) 0 0) 0 (bcells []) := own_made 0 (by decide) 5 [] rfl (Blk.new _ _ _) (Nat.le_refl _)
  have hb2' := hb2.kept hk0
  go_wp2_with (at_builtin; refine wpList_append sl_bytes rfl (by rfl) (by rfl) (by rfl) ho hb2' (by rw [bcells_length, Nat.mul_one]) (oneCell_V8 b) (by unfold maxLen; omega) (by omega) (by simp) ?_; intro vi w3 howni hgi hati; obtain ⟨gi, ci, hve⟩ := own_some howni (by omega); subst hve)
  have k3 : Kept w2 w3 := below_append hk0 ho hgi (by simp)
  have howni' : w3.ownsRow w2.heap.size 5 1 (.slice (some ⟨gi, 0, none⟩) b.length ci) b.length (bcells b) := by simpa [bcells] using howni
  have hgil : w2.heap.size ≤ gi := own_geV howni' rfl
  have hgih : gi < w3.heap.size := own_ltV howni' rfl
  have hz2 := k2.size
  have hz3 := k3.size
  have S3 := S2.more (A' := fun k => k < w.heap.size ∨ k = gi) k3 (fun k hk => by rcases hk with h | rfl; exact .inl h; exact .inr hgil) (fun k hk => by rcases hk with h | rfl; exact Nat.lt_of_lt_of_le h (Nat.le_trans hz2 hz3); exact hgih)
  have sm3 := sm2.trans (SameOn.of_kept k3)
  clear S2 hk0 ho hb2' howni hgi hati hb2 sm2
  go_wp2_with fail
  refine (write_nf _ J 0 _ 100 0 (by omega) (by omega) _ S3 (fresh_ok 100) rfl 0 _ b hinb (Sl.of_own howni') (fun x y e _ => by obtain ⟨e, _, _⟩ := Value.slice.inj e; cases e; exact .inr rfl)).mono ?_
  rintro e w4 ⟨rfl, S4, hs4⟩
  have ok4 := put_ok (k := 0) (fresh_ok 100) hinb (by omega) (by omega)
  have sm4 := sm3.trans (hs4.mono (fun k hk => .inl hk))
  have hown4 := hs4.own howni' (fun g hg => by cases hg; exact .inr rfl)
  clear S3 hs4 sm3 howni'
  obtain ⟨s, hs⟩ : ∃ s, s = (Sd.fresh 100).put 0 ((0 : Int), b) := ⟨_, rfl⟩
  rw [← hs] at S4 ok4
  have hsn : (s.snap.drop 0).take b.length = b := by rw [hs]; exact snap_put 100 b (by omega)
  have htr : s.trace = [(0, b)] := by rw [hs]; rfl
  have hgn : s.p.gone = false := by rw [hs]; rfl
  have HSN := Lib.hid hsn
  have HTR := Lib.hid htr
  have HG := Lib.hid hgn
  obtain ⟨_, _, e1, _, _, _, _, _, hcf, _⟩ := own_set hown4 (by omega)
  cases e1
  obtain ⟨i0, f0⟩ := hcf 0 (by omega)
  clear hs hsn htr hgn hcf
  generalize b[0] = x0 at i0
  go_wp2_with fail
  have hci : Chg [gi] w4 (w4.setCell ⟨gi, 0, none⟩ (V8 (x0 ^^^ 255))) := Chg.step (by simp) _
  have S5 := S4.chg hci (by intro x hx; rw [List.mem_singleton.1 hx]; exact .inr rfl)
  have sm5 := sm4.trans (SameOn.of_chg hci (by intro x hx; rw [List.mem_singleton.1 hx]; omega))
  clear S4 sm4 hown4
  generalize (w4.setCell ⟨gi, 0, none⟩ (V8 (x0 ^^^ 255))) = w5 at *
  refine (read_yes _ J _ 100 1 (by omega) (by omega) (by omega) _ S5 ok4 0 b.length (by omega) (by omega) HG.out).mono ?_
  rintro e w6 ⟨g6, c6, ex6, rfl, hB6, hc6, hl6, hm6, hk6⟩
  have hsl6 : s.snap.length = 100 := Sd.snap_length ok4
  have hsr : Sl w6 (.slice (some ⟨g6, 0, none⟩) b.length (c6 - 0)) b.length (bcells b) := sl_part2 (bs := s.snap) hB6 (by rw [hsl6]; exact hc6) hm6 0 b.length (by rw [hsl6]; omega) b HSN.out
  rw [Nat.sub_zero] at hsr
  have S6 := S5.kept hk6
  have hrc : ∃ y, w6.cell? ⟨g6, 0, none⟩ = some (V8 y) ∧ w6.frozen? ⟨g6, 0, none⟩ = false := by
    obtain ⟨_, _, _, e, _, _, _, hx⟩ := hsr.at (by rw [bcells_length]; omega)
    cases e
    have := hx 0 _ (bcells_get b 0 (by omega))
    exact ⟨_, this, hB6.free 0⟩
  obtain ⟨y0, r0, rf0⟩ := hrc
  have hg6 := hB6.lt
  go_wp2_with fail
  refine (trace_any _ J _ 100 1 (by omega) _ S6 ok4).mono ?_
  rintro e w7 ⟨v7, us7, rfl, t7, hk7, hv7, hu7⟩
  rw [HTR.out] at t7
  obtain ⟨gt, ct, u, hve, hui, d0, d1, hsu⟩ := t7.get 0 (by simp)
  subst hve
  replace d1 : w7.cell? ⟨gt, 1, none⟩ = some u := d1
  replace hsu : Sl w7 u b.length (bcells b) := hsu
  have huo : w7.ownsRow 0 5 1 u b.length (bcells b) := t7.each 0 (0, b) u rfl hui
  have hgtb : ∃ cur, Blk w7 gt cur 42 := own_blkOf t7.row rfl
  have hgtl : w6.heap.size ≤ gt := hv7 gt rfl
  obtain ⟨gu, cu, e1, _, _, _, _, hgul, _, _⟩ := own_set huo (by omega)
  subst e1
  have hguh : w6.heap.size ≤ gu := hu7 _ (List.mem_of_getElem? hui) gu rfl
  have hA5 : ∀ k, (k < w.heap.size ∨ k = gi) → k < w5.heap.size := by obtain ⟨_, _, _, _, _, _, _, _, _, _, h⟩ := S5; exact h
  have S7 := S5.more (A' := fun k => k < w.heap.size ∨ k = gi ∨ k = g6 ∨ k = gu) (Kept.of hk6 hk7) (fun k hk => by have := hk6.size; rcases hk with h | h | h | h; exact .inl (.inl h); exact .inl (.inr h); exact .inr (by omega); exact .inr (by omega)) (fun k hk => by have := hk7.size; have := hk6.size; have := hA5 k; rcases hk with h | h | h | h <;> omega)
  replace hsr := hsr.kept hk7
  have hsb := (((sm5.sl hb lb).kept hk6).kept hk7)
  have sm7 := (sm5.trans (SameOn.of_kept hk6)).trans (SameOn.of_kept hk7)
  have hcut : ct = ct := rfl
  replace r0 := hk7.at r0
  have hB7 := hB6.kept hk7
  have hg7 := hk7.size
  have hgw6 : w.heap.size ≤ w6.heap.size := (sm5.trans (SameOn.of_kept hk6)).size
  have hg6w : w.heap.size ≤ g6 := Nat.le_trans sm5.size hl6
  have ha1 : ct = ct := rfl
  have L1 : (1 : Int) ≤ 1 := by omega
  clear S5 S6 hB6 hk6 hk7 sm5 d0 hui hv7 hu7 hb
  go_wp2_with fail
  refine wp_region_chainK [(0, 0), (1, 0), (2, 0), (3, 0), (4, 0), (5, 0), (6, 0), (7, 0), (8, 0), (9, 0), (10, 0), (11, 0), (12, 0), (13, 0), (14, 0), (15, 0), (16, 0), (17, 0), (18, 0), (19, 0), (20, 0), (21, 0), (22, 0), (23, 0)] (by kernel_rfl) (by kernel_rfl) ?_
  intro wx hwx
  replace hsr := hsr.kept hwx
  replace hsb := hsb.kept hwx
  replace hsu := hsu.kept hwx
  repeat
    refine chain_light _ rfl (fun K hK => ?_)
    first
      | (refine (if_pos (by rfl)).mpr ?_; apply Exists.intro; refine ⟨fun w' hw' => ?_, hK _ ?_⟩; (have q0 := str_of (bs := b) (hsr.kept hw'); have q1 := str_of (bs := b) (hsb.kept hw'); have q2 := hw'.at (hwx.at d1); have q3 := str_of (bs := b) (hsu.kept hw'); go_simp; done); (clear hK K; simp only [Act.put, List.setIfInBounds_toArray, List.set_cons_zero, List.set_cons_succ]))
      | (refine (if_pos (by rfl)).mpr ?_; apply Exists.intro; refine ⟨fun w' hw' => ?_, hK _ ?_⟩; (have q0 := str_of (bs := b) (hsr.kept hw'); have q1 := str_of (bs := b) (hsb.kept hw'); have q2 := hw'.at (hwx.at d1); have q3 := str_of (bs := b) (hsu.kept hw'); go_simp; rfl); (clear hK K; simp only [Act.put, List.setIfInBounds_toArray, List.set_cons_zero, List.set_cons_succ]))
      | (refine (if_neg (by rw [Bool.not_eq_true]; rfl)).mpr ?_; refine hK _ ?_; (clear hK K; simp only [Act.put, List.setIfInBounds_toArray, List.set_cons_zero, List.set_cons_succ]))
  refine chain_nil ?_
  replace S7 := S7.kept hwx
  replace r0 := hwx.at r0
  replace rf0 : wx.frozen? ⟨g6, 0, none⟩ = false := (hB7.kept hwx).free 0
  replace d1 := hwx.at d1
  replace huo := own_kept huo hwx
  replace sm7 := sm7.trans (SameOn.of_kept hwx)
  clear hB7 hwx
  have hx1 : Chg [g6] wx (wx.setCell ⟨g6, 0, none⟩ (V8 (y0 ^^^ 255))) := Chg.step (by simp) _
  have e1 := hx1.cell d1 (by show gt ∉ _; simp; omega)
  have huo2 := own_chgV huo hx1 (by intro g hg; cases hg; simp; omega)
  obtain ⟨_, _, e2, _, _, _, _, _, hcf, _⟩ := own_set huo2 (by omega)
  cases e2
  obtain ⟨i1, f1⟩ := hcf 0 (by omega)
  clear hcf huo2 huo
  generalize b[0] = z0 at i1
  have hx2 := hx1.mono (cs := [g6, gu]) (by simp)
  have hx3 : Chg [g6, gu] wx ((wx.setCell ⟨g6, 0, none⟩ (V8 (y0 ^^^ 255))).setCell ⟨gu, 0, none⟩ (V8 (z0 ^^^ 255))) := hx2.set (by simp) 0 _
  clear hx1 hx2
  go_wp2_with fail
  have S9 := S7.chg hx3 (by intro x hx; simp at hx; rcases hx with rfl | rfl; exact .inr (.inr (.inl rfl)); exact .inr (.inr (.inr rfl)))
  have sm9 := sm7.trans (SameOn.of_chg hx3 (by intro x hx; simp at hx; omega))
  clear S7 sm7 r0 rf0 d1 e1 i1 f1 hsr hsb hsu t7 hgtb
  generalize ((wx.setCell ⟨g6, 0, none⟩ (V8 (y0 ^^^ 255))).setCell ⟨gu, 0, none⟩ (V8 (z0 ^^^ 255))) = w9 at *
  refine (read_yes _ J _ 100 1 (by omega) (by omega) (by omega) _ S9 ok4 0 b.length (by omega) (by omega) HG.out).mono ?_
  rintro e wa ⟨ga, ca, exa, rfl, hBa, hca, hla, hma, hka⟩
  have hsr : Sl wa (.slice (some ⟨ga, 0, none⟩) b.length (ca - 0)) b.length (bcells b) := sl_part2 (bs := s.snap) hBa (by rw [hsl6]; exact hca) hma 0 b.length (by rw [hsl6]; omega) b HSN.out
  rw [Nat.sub_zero] at hsr
  go_wp2_with fail
  refine (trace_any _ J _ 100 1 (by omega) _ (S9.kept hka) ok4).mono ?_
  rintro e wb ⟨vb', usb, rfl, tb, hkb, _, _⟩
  rw [HTR.out] at tb
  obtain ⟨gtb, ctb, ub, hve, huib, _, d1, hsu⟩ := tb.get 0 (by simp)
  subst hve
  replace d1 : wb.cell? ⟨gtb, 1, none⟩ = some ub := d1
  replace hsu : Sl wb ub b.length (bcells b) := hsu
  obtain ⟨ab, cb, hve⟩ := hsu.len
  subst hve
  replace hsr := hsr.kept hkb
  have hsb := ((sm9.sl hb0 lb).kept hka).kept hkb
  have fin : ∀ w', Kept wb w' → Kept w w' := fun w' hk => (((sm9.trans (SameOn.of_kept hka)).trans (SameOn.of_kept hkb)).trans (SameOn.of_kept hk)).below (fun k hk => hk) (Nat.le_refl _)
  clear S9 sm9 hBa hka hkb tb huib
  go_wp2_with fail
  refine (nil_read 0 0 _).mono ?_
  rintro e wc ⟨rfl, rfl⟩
  go_wp2_with fail
  refine (nil_crash none 0 0 _).mono ?_
  rintro e wd ⟨rfl, hkd⟩
  replace fin : ∀ w', Kept wd w' → Kept w w' := fun w' hk => fin w' (hkd.trans (hk.mono hkd.size))
  replace hsr := hsr.kept hkd
  replace hsb := hsb.kept hkd
  replace hsu := hsu.kept hkd
  replace d1 := hkd.at d1
  clear hkd
  go_wp2_with fail
  refine wp_region_chainK [(0, 0), (1, 0), (2, 0), (3, 0), (4, 0), (5, 0), (6, 0), (7, 0), (8, 0), (9, 0), (10, 0), (11, 0), (12, 0), (13, 0), (14, 0), (15, 0), (16, 0), (17, 0), (18, 0), (19, 0), (20, 0), (21, 0), (22, 0), (23, 0), (24, 0), (25, 0), (26, 1), (27, 0), (28, 0), (29, 0), (30, 0), (31, 1), (32, 0), (33, 0), (34, 0), (35, 0), (36, 1), (37, 0), (38, 0), (39, 0), (40, 0), (41, 1), (42, 0), (43, 0), (44, 0), (45, 0), (48, 0), (52, 0), (46, 1), (47, 0), (49, 1), (50, 0), (51, 0), (53, 1), (54, 0), (55, 0), (56, 0), (57, 0), (58, 1), (59, 0), (60, 0)] (by kernel_rfl) (by kernel_rfl) ?_
  intro wy hwy
  replace hsr := hsr.kept hwy
  replace hsb := hsb.kept hwy
  replace hsu := hsu.kept hwy
  repeat
    refine chain_light _ rfl (fun K hK => ?_)
    first
      | (refine (if_pos (by rfl)).mpr ?_; apply Exists.intro; refine ⟨fun w' hw' => ?_, hK _ ?_⟩; (have q0 := str_of (bs := b) (hsr.kept hw'); have q1 := str_of (bs := b) (hsb.kept hw'); have q2 := hw'.at (hwy.at d1); have q3 := str_of (bs := b) (hsu.kept hw'); go_simp; done); (clear hK K; simp only [Act.put, List.setIfInBounds_toArray, List.set_cons_zero, List.set_cons_succ]))
      | (refine (if_pos (by rfl)).mpr ?_; apply Exists.intro; refine ⟨fun w' hw' => ?_, hK _ ?_⟩; (have q0 := str_of (bs := b) (hsr.kept hw'); have q1 := str_of (bs := b) (hsb.kept hw'); have q2 := hw'.at (hwy.at d1); have q3 := str_of (bs := b) (hsu.kept hw'); go_simp; rfl); (clear hK K; simp only [Act.put, List.setIfInBounds_toArray, List.set_cons_zero, List.set_cons_succ]))
      | (refine (if_neg (by rw [Bool.not_eq_true]; rfl)).mpr ?_; refine hK _ ?_; (clear hK K; simp only [Act.put, List.setIfInBounds_toArray, List.set_cons_zero, List.set_cons_succ]))
  refine chain_heavy _ rfl (fun K hK => ?_)
  refine (if_pos (by rfl)).mpr ?_
  go_wp2_with fail
  refine (nil_write 0 none 0 0 _).mono ?_
  rintro e wy0 ⟨rfl, rfl⟩
  go_wp2
  refine hK _ _ (Below.refl _ _) ?_
  clear hK K
  try simp only [Act.put, List.setIfInBounds_toArray, List.set_cons_zero, List.set_cons_succ]
  repeat
    refine chain_light _ rfl (fun K hK => ?_)
    first
      | (refine (if_pos (by rfl)).mpr ?_; apply Exists.intro; refine ⟨fun w' hw' => ?_, hK _ ?_⟩; (go_simp; done); (clear hK K; simp only [Act.put, List.setIfInBounds_toArray, List.set_cons_zero, List.set_cons_succ]))
      | (refine (if_pos (by rfl)).mpr ?_; apply Exists.intro; refine ⟨fun w' hw' => ?_, hK _ ?_⟩; (go_simp; rfl); (clear hK K; simp only [Act.put, List.setIfInBounds_toArray, List.set_cons_zero, List.set_cons_succ]))
      | (refine (if_neg (by rw [Bool.not_eq_true]; rfl)).mpr ?_; refine hK _ ?_; (clear hK K; simp only [Act.put, List.setIfInBounds_toArray, List.set_cons_zero, List.set_cons_succ]))
  refine chain_heavy _ rfl (fun K hK => ?_)
  refine (if_pos (by rfl)).mpr ?_
  go_wp2_with fail
  refine (nil_barrier _).mono ?_
  rintro e wy1 ⟨rfl, rfl⟩
  go_wp2
  refine hK _ _ (Below.refl _ _) ?_
  clear hK K
  try simp only [Act.put, List.setIfInBounds_toArray, List.set_cons_zero, List.set_cons_succ]
  repeat
    refine chain_light _ rfl (fun K hK => ?_)
    first
      | (refine (if_pos (by rfl)).mpr ?_; apply Exists.intro; refine ⟨fun w' hw' => ?_, hK _ ?_⟩; (go_simp; done); (clear hK K; simp only [Act.put, List.setIfInBounds_toArray, List.set_cons_zero, List.set_cons_succ]))
      | (refine (if_pos (by rfl)).mpr ?_; apply Exists.intro; refine ⟨fun w' hw' => ?_, hK _ ?_⟩; (go_simp; rfl); (clear hK K; simp only [Act.put, List.setIfInBounds_toArray, List.set_cons_zero, List.set_cons_succ]))
      | (refine (if_neg (by rw [Bool.not_eq_true]; rfl)).mpr ?_; refine hK _ ?_; (clear hK K; simp only [Act.put, List.setIfInBounds_toArray, List.set_cons_zero, List.set_cons_succ]))
  refine chain_heavy _ rfl (fun K hK => ?_)
  refine (if_pos (by rfl)).mpr ?_
  go_wp2_with fail
  refine (nil_smash 0 none 0 0 _).mono ?_
  rintro e wy2 ⟨rfl, rfl⟩
  go_wp2
  refine hK _ _ (Below.refl _ _) ?_
  clear hK K
  try simp only [Act.put, List.setIfInBounds_toArray, List.set_cons_zero, List.set_cons_succ]
  repeat
    refine chain_light _ rfl (fun K hK => ?_)
    first
      | (refine (if_pos (by rfl)).mpr ?_; apply Exists.intro; refine ⟨fun w' hw' => ?_, hK _ ?_⟩; (go_simp; done); (clear hK K; simp only [Act.put, List.setIfInBounds_toArray, List.set_cons_zero, List.set_cons_succ]))
      | (refine (if_pos (by rfl)).mpr ?_; apply Exists.intro; refine ⟨fun w' hw' => ?_, hK _ ?_⟩; (go_simp; rfl); (clear hK K; simp only [Act.put, List.setIfInBounds_toArray, List.set_cons_zero, List.set_cons_succ]))
      | (refine (if_neg (by rw [Bool.not_eq_true]; rfl)).mpr ?_; refine hK _ ?_; (clear hK K; simp only [Act.put, List.setIfInBounds_toArray, List.set_cons_zero, List.set_cons_succ]))
  refine chain_heavy _ rfl (fun K hK => ?_)
  refine (if_pos (by rfl)).mpr ?_
  go_wp2_with fail
  refine (nil_back none 0 0 _).mono ?_
  rintro e wy3 ⟨rfl, rfl⟩
  go_wp2
  refine hK _ _ (Below.refl _ _) ?_
  clear hK K
  try simp only [Act.put, List.setIfInBounds_toArray, List.set_cons_zero, List.set_cons_succ]
  repeat
    refine chain_light _ rfl (fun K hK => ?_)
    first
      | (refine (if_pos (by rfl)).mpr ?_; apply Exists.intro; refine ⟨fun w' hw' => ?_, hK _ ?_⟩; (go_simp; done); (clear hK K; simp only [Act.put, List.setIfInBounds_toArray, List.set_cons_zero, List.set_cons_succ]))
      | (refine (if_pos (by rfl)).mpr ?_; apply Exists.intro; refine ⟨fun w' hw' => ?_, hK _ ?_⟩; (go_simp; rfl); (clear hK K; simp only [Act.put, List.setIfInBounds_toArray, List.set_cons_zero, List.set_cons_succ]))
      | (refine (if_neg (by rw [Bool.not_eq_true]; rfl)).mpr ?_; refine hK _ ?_; (clear hK K; simp only [Act.put, List.setIfInBounds_toArray, List.set_cons_zero, List.set_cons_succ]))
  refine chain_heavy _ rfl (fun K hK => ?_)
  refine (if_pos (by rfl)).mpr ?_
  go_wp2_with fail
  refine (nil_snap _).mono ?_
  rintro e wy4 ⟨rfl, rfl⟩
  go_wp2
  refine hK _ _ (Below.refl _ _) ?_
  clear hK K
  try simp only [Act.put, List.setIfInBounds_toArray, List.set_cons_zero, List.set_cons_succ]
  repeat
    refine chain_light _ rfl (fun K hK => ?_)
    first
      | (refine (if_pos (by rfl)).mpr ?_; apply Exists.intro; refine ⟨fun w' hw' => ?_, hK _ ?_⟩; (go_simp; done); (clear hK K; simp only [Act.put, List.setIfInBounds_toArray, List.set_cons_zero, List.set_cons_succ]))
      | (refine (if_pos (by rfl)).mpr ?_; apply Exists.intro; refine ⟨fun w' hw' => ?_, hK _ ?_⟩; (go_simp; rfl); (clear hK K; simp only [Act.put, List.setIfInBounds_toArray, List.set_cons_zero, List.set_cons_succ]))
      | (refine (if_neg (by rw [Bool.not_eq_true]; rfl)).mpr ?_; refine hK _ ?_; (clear hK K; simp only [Act.put, List.setIfInBounds_toArray, List.set_cons_zero, List.set_cons_succ]))
  refine chain_heavy _ rfl (fun K hK => ?_)
  refine (if_pos (by rfl)).mpr ?_
  go_wp2_with fail
  refine (nil_trace _).mono ?_
  rintro e wy5 ⟨rfl, rfl⟩
  go_wp2
  refine hK _ _ (Below.refl _ _) ?_
  clear hK K
  try simp only [Act.put, List.setIfInBounds_toArray, List.set_cons_zero, List.set_cons_succ]
  repeat
    refine chain_light _ rfl (fun K hK => ?_)
    first
      | (refine (if_pos (by rfl)).mpr ?_; apply Exists.intro; refine ⟨fun w' hw' => ?_, hK _ ?_⟩; (go_simp; done); (clear hK K; simp only [Act.put, List.setIfInBounds_toArray, List.set_cons_zero, List.set_cons_succ]))
      | (refine (if_pos (by rfl)).mpr ?_; apply Exists.intro; refine ⟨fun w' hw' => ?_, hK _ ?_⟩; (go_simp; rfl); (clear hK K; simp only [Act.put, List.setIfInBounds_toArray, List.set_cons_zero, List.set_cons_succ]))
      | (refine (if_neg (by rw [Bool.not_eq_true]; rfl)).mpr ?_; refine hK _ ?_; (clear hK K; simp only [Act.put, List.setIfInBounds_toArray, List.set_cons_zero, List.set_cons_succ]))
  refine chain_heavy _ rfl (fun K hK => ?_)
  refine (if_pos (by rfl)).mpr ?_
  go_wp2_with fail
  refine (nil_size _).mono ?_
  rintro e wy6 ⟨rfl, rfl⟩
  go_wp2
  refine hK _ _ (Below.refl _ _) ?_
  clear hK K
  try simp only [Act.put, List.setIfInBounds_toArray, List.set_cons_zero, List.set_cons_succ]
  repeat
    refine chain_light _ rfl (fun K hK => ?_)
    first
      | (refine (if_pos (by rfl)).mpr ?_; apply Exists.intro; refine ⟨fun w' hw' => ?_, hK _ ?_⟩; (go_simp; done); (clear hK K; simp only [Act.put, List.setIfInBounds_toArray, List.set_cons_zero, List.set_cons_succ]))
      | (refine (if_pos (by rfl)).mpr ?_; apply Exists.intro; refine ⟨fun w' hw' => ?_, hK _ ?_⟩; (go_simp; rfl); (clear hK K; simp only [Act.put, List.setIfInBounds_toArray, List.set_cons_zero, List.set_cons_succ]))
      | (refine (if_neg (by rw [Bool.not_eq_true]; rfl)).mpr ?_; refine hK _ ?_; (clear hK K; simp only [Act.put, List.setIfInBounds_toArray, List.set_cons_zero, List.set_cons_succ]))
  refine chain_heavy _ rfl (fun K hK => ?_)
  refine (if_pos (by rfl)).mpr ?_
  go_wp2_with fail
  refine (known_any _).mono ?_
  rintro e wk ⟨rfl, hkk⟩
  go_wp2
  refine hK _ _ (hkk) ?_
  clear hK K
  try simp only [Act.put, List.setIfInBounds_toArray, List.set_cons_zero, List.set_cons_succ]
  repeat
    refine chain_light _ rfl (fun K hK => ?_)
    first
      | (refine (if_pos (by rfl)).mpr ?_; apply Exists.intro; refine ⟨fun w' hw' => ?_, hK _ ?_⟩; (go_simp; done); (clear hK K; simp only [Act.put, List.setIfInBounds_toArray, List.set_cons_zero, List.set_cons_succ]))
      | (refine (if_pos (by rfl)).mpr ?_; apply Exists.intro; refine ⟨fun w' hw' => ?_, hK _ ?_⟩; (go_simp; rfl); (clear hK K; simp only [Act.put, List.setIfInBounds_toArray, List.set_cons_zero, List.set_cons_succ]))
      | (refine (if_neg (by rw [Bool.not_eq_true]; rfl)).mpr ?_; refine hK _ ?_; (clear hK K; simp only [Act.put, List.setIfInBounds_toArray, List.set_cons_zero, List.set_cons_succ]))
  refine chain_nil ?_
  go_wp2
  go_ret
  exact ⟨rfl, fin _ (Kept.of hwy hkk)⟩


namespace ssdOwnRow
open Go.ChangeShapes Go.WideShapes Go.ChangeAt Go.RowKit
theorem own : ownKnob Try.prog.godebug = none := by kernel_rfl
theorem laidOut : laidOutB Try.prog = true := by kernel_rfl

set_option maxRecDepth 100000 in
theorem lifted (os : Os) (started : os.Started) (H : Type) (enc : TypeId × Value → H) :
    ReturnsInHanded {} Try.checked os 6 .any (Rows.ssdOwnSpec.pre6 enc Try.prog Try.f6 Rows.ssdOwnRow.domain false) (Rows.ssdOwnSpec.post enc Try.prog Try.f6 false true false false) := by
  refine returnsInHanded_of_change (C := Try.checked) own started (by kernel_rfl) Try.func6
    (ChangeSpec.witness6 (enc := enc) (C := Try.checked) false ⟨#[], #[.slice none 0 0], []⟩ 8 (by kernel_rfl) (by kernel_rfl) (by kernel_rfl) (by kernel_rfl)) ?_
  intro W base args ds gs before hval0 hW _ hsz
  have hval : ∀ (j : Nat) t v, Try.f6.params[j]? = some t → args[j]? = some v → Value.okWide Try.prog W .any base t v := hval0
  have hW' := hW
  obtain ⟨p, q, hA0, hV, rfl, hfz, hnd⟩ := hW
  have hA : DataW.TrodAll enc Try.prog W 0 (fun _ => true) true Try.f6.params.toList args.toList ds p := hA0
  rw [Try.params6] at hA hval
  obtain ⟨v0, vs0, d0, ds0, p0, q0, hargs, rfl, rfl, h0, r0⟩ := trodAll_cons hA
  obtain ⟨rfl, rfl, rfl⟩ := trodAll_nil r0
  obtain rfl : args = #[v0] := by cases args; simp_all
  obtain ⟨a0b, a0⟩ := open_bytes (e := 5) Try.underlying22 Try.underlying5 (by kernel_rfl) (hval 0 22 v0 rfl rfl) h0
  refine (own_walk _ _ W a0).mono fun e W' ⟨he, bel⟩ => ?_
  subst he
  exact ⟨_, rfl, law_post (tb := 4) laidOut (by kernel_rfl) Try.underlying4 (by rfl) rfl (by intro xs hxs; match xs, hxs with | [x0], _ => rfl) hW' bel⟩

theorem over : Rows.ssdOwnRow.holds Try.pinned (OpenSpec.ofChange Rows.ssdOwnSpec) :=
  OpenClaim.holds_of_wide 6 Try.f6 rfl rfl rfl rfl rfl rfl rfl ⟨rfl, rfl, rfl, rfl, rfl⟩ rfl rfl rfl rfl rfl (by kernel_rfl) Try.func6 (by kernel_rfl)
    (of_decide_eq_true (by kernel_rfl)) (by unfold Func.isWrapper; rw [if_neg (of_decide_eq_false (by kernel_rfl))]; exact ⟨rfl, rfl⟩)
    (fun os started H enc _ => lifted os started H enc)
end ssdOwnRow

theorem ssdOwn_holds : Rows.SsdOwnSaid := ssdOwnRow.over
#print axioms ssdOwn_holds

end Go.Proofs.Ytgbfgaeohnjmeaa
