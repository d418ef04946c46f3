/- The reference: what waits lasts, all of it or what is kept. -/
import Derived.Test.YtpbdncnepcibaaaRdV
namespace Go.Proofs.Ytpbdncnepcibaaa
open Go Go.RowKit

set_option maxRecDepth 100000 in
set_option maxHeartbeats 4000000 in
theorem rd_barrier (A : Nat → Prop) (J b : Nat) (d0 : Dk) (m : Nat) (hm : m ≤ 999) (w : World) (h : RdAt A w J b d0) (ok0 : d0.ok m) (r : Bool) (p' : Pw) (hsp : d0.p.spend = (r, p')) :
    Calls Try.prog 21 #[.pointer (some ⟨J, 0, none⟩)] w fun e w' => e = .returned (.bool r) ∧ RdAt A w' J b (d0.barred r p') ∧ SameOn A w w' := by
  obtain ⟨vw, vt, us, ut, X, O, hA0⟩ := h
  have c0 := X.blk.cell 0
  rw [dcells_0] at c0
  have hok : d0.p.ok 9223372036854775806 := ok_mono ok0.pw (by omega)
  go_enter Try.func21, Try.ntmps21
  go_wp2_with fail
  refine (rf_spend b d0.p p' r _ X.pw hok hsp).mono ?_
  rintro e w1 ⟨rfl, p1, g1⟩
  have X1 := X.power g1 p1
  have hsm1 := O.same g1
  have hA : ∀ k, A k → k < w1.heap.size := fun k ha => Nat.lt_of_lt_of_le (hA0 k ha) g1.size
  cases r
  · go_wp2
    go_ret
    exact ⟨rfl, ⟨vw, vt, us, ut, X1, O, hA⟩, hsm1⟩
  have hp' : p'.ok (m + 1 : Int) := by have := spend_ok ok0.pw; rw [hsp] at this; exact this
  obtain ⟨d, hd⟩ : ∃ d : Dk, d = { d0 with p := p' } := ⟨_, rfl⟩
  have ok : d.ok (m + 1) := by rw [hd]; exact ⟨ok0.len, ok0.all, ok0.fit, ok0.fitp, by have := ok0.few; show d0.waits.length ≤ _; omega, by have := ok0.done; show d0.trace.length ≤ _; omega, by simpa using hp'⟩
  have hres : d0.barred true p' = { d.settled (fun _ => true) with trace := d.trace ++ [(-1, [])] } := by rw [hd]; rfl
  have HRES := Lib.hid hres
  rw [← hd] at X1
  clear hres hd c0 X p1 hp' ok0 hok
  obtain ⟨wa, wc, hve⟩ := X1.wts.slice
  subst hve
  have HLN := Lib.hid ok.len
  have HF := Lib.hid ok.fit
  have hfew := ok.few
  have hft := ok.done
  have c33 : True := trivial
  obtain ⟨N, hN⟩ : ∃ N, N = d.waits.length := ⟨_, rfl⟩
  rw [← hN] at hfew
  have HN := Lib.hid hN
  clear hN
  go_wp2_with fail
  go_loopw [3] (fun i wr => ∃ k : Nat, k ≤ N ∧ i = .int .i64 k ∧ RdIn wr J b (.slice wa d.waits.length wc) vt us ut { d with lasts := layD d.lasts d.waits (fun _ => true) k } ∧ SameOn A w1 wr) (fun i _ => N - (intOf i).toNat)
  case atStart => exact ⟨0, by omega, by go_num, X1, SameOn.refl _⟩
  case round =>
    obtain ⟨k, hk, rfl, Xr, hsr⟩ := hrel
    clear X1 c33
    have hlr : (layD d.lasts d.waits (fun _ => true) k).length = 32 := (layD_length _ _ _ _).trans HLN.out
    have hlm : ((layD d.lasts d.waits (fun _ => true) k).map Str).length = 32 := by simpa using hlr
    have kW := Xr.blk.cell 33
    rw [dcells_33 hlm, ← HN.out] at kW
    by_cases hlt : k < N
    · have hkl : k < d.waits.length := by rw [← HN.out]; exact hlt
      have n3 : (k : Int) < (N : Int) := by omega
      have n4 : (0 : Int) ≤ (k : Int) := by omega
      obtain ⟨g, cap2, u, hve, hui, d0, d1, hsu⟩ := Xr.wts.get k hkl
      cases hve
      have hfx : inD d.waits[k] := HF.out _ (List.getElem_mem hkl)
      have hxg : d.waits[k]?.getD (0, []) = d.waits[k] := by rw [List.getElem?_eq_getElem hkl]; rfl
      replace d0 : wr.cell? ⟨g, k * 2, none⟩ = some (.int .i64 d.waits[k].1) := d0
      replace hsu : Sl wr u d.waits[k].2.length (bcells d.waits[k].2) := hsu
      generalize d.waits[k] = x at *
      obtain ⟨hx0, hx1, hx2⟩ := hfx
      obtain ⟨o, ho⟩ : ∃ o : Nat, o = x.1.toNat := ⟨_, rfl⟩
      have hxo : x.1 = (o : Int) := by omega
      rw [← ho] at hx1
      rw [hxo] at d0
      obtain ⟨au, cu, hve⟩ := hsu.len
      subst hve
      have n5 : (o : Int) < 32 := by omega
      have n7 : (0 : Int) ≤ (o : Int) := by omega
      have HO := Lib.hid ho
      have HXG := Lib.hid hxg
      have HXO := Lib.hid hxo
      have HX2 := Lib.hid hx2
      have HLR := Lib.hid hlr
      have HLM := Lib.hid hlm
      clear ho hxg hxo hx2 hlr hlm
      go_wp2_with fail
      have hlr := HLR.out
      have hlm := HLM.out
      refine wp_region_chainK [(0, 0), (1, 0), (2, 0), (3, 0), (4, 0), (5, 0), (6, 0), (7, 0), (8, 0), (9, 0), (10, 0), (11, 0), (12, 0), (13, 0), (14, 0), (15, 0), (16, 0), (17, 0), (18, 1), (19, 1), (20, 0), (21, 2)] (by kernel_rfl) (by kernel_rfl) ?_
      intro w2 hw2
      repeat
        refine chain_light _ rfl (fun K hK => ?_)
        first
          | (refine (if_pos (by rfl)).mpr ?_; apply Exists.intro; refine ⟨fun w' hw' => ?_, hK _ ?_⟩; (have k0 := (hw2.at kW); replace k0 := hw'.at k0; have k1 := hw'.at (hw2.at d0); have k2 := hw'.at (hw2.at d1); have s0 := str_of (bs := x.2) ((hsu.kept hw2).kept hw'); go_simp; done); (clear hK K; simp only [Act.put, List.setIfInBounds_toArray, List.set_cons_zero, List.set_cons_succ]))
          | (refine (if_pos (by rfl)).mpr ?_; apply Exists.intro; refine ⟨fun w' hw' => ?_, hK _ ?_⟩; (have k0 := (hw2.at kW); replace k0 := hw'.at k0; have k1 := hw'.at (hw2.at d0); have k2 := hw'.at (hw2.at d1); have s0 := str_of (bs := x.2) ((hsu.kept hw2).kept hw'); go_simp; rfl); (clear hK K; simp only [Act.put, List.setIfInBounds_toArray, List.set_cons_zero, List.set_cons_succ]))
          | (refine (if_neg (by rw [Bool.not_eq_true]; rfl)).mpr ?_; refine hK _ ?_; (clear hK K; simp only [Act.put, List.setIfInBounds_toArray, List.set_cons_zero, List.set_cons_succ]))
      refine chain_heavy _ rfl (fun K hK => ?_)
      refine (if_pos (by rfl)).mpr ?_
      go_wp2
      refine hK _ _ (Below.refl _ _) ?_
      clear hK K
      try simp only [Act.put, List.setIfInBounds_toArray, List.set_cons_zero, List.set_cons_succ]
      refine chain_heavy _ rfl (fun K hK => ?_)
      refine (if_pos (by rfl)).mpr ?_
      go_wp2
      refine hK _ _ (Below.refl _ _) ?_
      clear hK K
      try simp only [Act.put, List.setIfInBounds_toArray, List.set_cons_zero, List.set_cons_succ]
      repeat
        refine chain_light _ rfl (fun K hK => ?_)
        first
          | (refine (if_pos (by rfl)).mpr ?_; apply Exists.intro; refine ⟨fun w' hw' => ?_, hK _ ?_⟩; (go_simp; done); (clear hK K; simp only [Act.put, List.setIfInBounds_toArray, List.set_cons_zero, List.set_cons_succ]))
          | (refine (if_pos (by rfl)).mpr ?_; apply Exists.intro; refine ⟨fun w' hw' => ?_, hK _ ?_⟩; (go_simp; rfl); (clear hK K; simp only [Act.put, List.setIfInBounds_toArray, List.set_cons_zero, List.set_cons_succ]))
          | (refine (if_neg (by rw [Bool.not_eq_true]; rfl)).mpr ?_; refine hK _ ?_; (clear hK K; simp only [Act.put, List.setIfInBounds_toArray, List.set_cons_zero, List.set_cons_succ]))
      refine chain_last _ rfl (fun K hK => ?_)
      refine (if_pos (by rfl)).mpr ?_
      have bK := Xr.blk.kept hw2
      have fK := bK.free (1 + o)
      obtain ⟨cv, eK⟩ : ∃ cv, w2.cell? ⟨J, 1 + o, none⟩ = some cv := by
        rw [bK.cell (1 + o), dcells_at hlm o hx1]
        exact ⟨_, List.getElem?_eq_getElem (by rw [hlm]; exact hx1)⟩
      go_wp2
      refine chain_nil ?_
      have Xn := (Xr.kept hw2).lay hlr o hx1 x.2
      have hsn := (hsr.trans (SameOn.of_kept hw2)).trans (O.sameK (Chg.step (List.mem_singleton.2 rfl) (Str x.2) (o := 1 + o)))
      go_wp2
      refine ⟨⟨k + 1, by omega, by go_num, ?_, hsn⟩, by simp [intOf]; omega⟩
      have hlay : layD d.lasts d.waits (fun _ => true) (k + 1) = (layD d.lasts d.waits (fun _ => true) k).set o x.2 := by
        rw [layD, HXG.out, HO.out]; rfl
      rw [hlay]
      exact Xn
    · have hkN : k = N := by omega
      have HK := Lib.hid hkN
      clear hkN
      rw [HK.out, HN.out] at Xr
      have hlz : (layD d.lasts d.waits (fun _ => true) d.waits.length).length = 32 := (layD_length _ _ _ _).trans HLN.out
      have hlm2 : ((layD d.lasts d.waits (fun _ => true) d.waits.length).map Str).length = 32 := by simpa using hlz
      have fK := Xr.blk.free 33
      have eK := Xr.blk.cell 33
      rw [dcells_33 hlm2, ← HN.out] at eK
      have X2 := Xr.clear hlz
      have O2 := O.clear
      have hs2 := hsr.trans (O2.sameK (Chg.step (List.mem_singleton.2 rfl) (.slice none 0 0) (o := 33)))
      have HLM2 := Lib.hid hlm2
      clear hlm2 hlz hlm hlr
      have hft2 : d.trace.length ≤ m + 1 := hft
      have hA2' : ∀ k, A k → k < (wr.setCell ⟨J, 33, none⟩ (.slice none 0 0)).heap.size := fun k ha => Nat.lt_of_lt_of_le (hA k ha) hs2.size
      obtain ⟨ta, tc, hve⟩ := X2.trc.slice
      subst hve
      have hka : Kept (wr.setCell ⟨J, 33, none⟩ (.slice none 0 0)) ((wr.setCell ⟨J, 33, none⟩ (.slice none 0 0)).alloc (.cells #[.int .i64 (-1), .slice none 0 0] 61)) := (Below.refl _ _).alloc (Nat.le_refl _) _
      have c3 := X2.blk.cell 34
      rw [dcells_34 HLM2.out] at c3
      have hro := X2.trc.row.alloc (.cells #[.int .i64 (-1), .slice none 0 0] 61)
      have hKv : J ∉ (Value.slice ta d.trace.length tc).ownBlock.toList := not_own X2.trc.row X2.blk (by decide)
      have hsl1 := Sl.lit (wr.setCell ⟨J, 33, none⟩ (.slice none 0 0)) #[.int .i64 (-1), .slice none 0 0] 61 1 (by decide)
      rw [show (wr.setCell ⟨J, 33, none⟩ (.slice none 0 0)).heap.size = wr.heap.size by simp [World.setCell]] at hsl1
      clear hsr
      go_wp2_with (at_builtin; refine wpList_append3 sl_ops rfl (by rfl) (by rfl) (by rfl) hro hsl1 (by rfl) (by intro u hu; simp at hu; rcases hu with rfl | rfl <;> rfl) (by show d.trace.length + 1 ≤ maxLen; unfold maxLen; omega) (by show (d.trace.length + 1) * 32 ≤ 140737488355328; omega) (Nat.zero_le _) ?_; intro v3 w3 hown3 hgr3 hat3 _; obtain ⟨g3, cap3, hve⟩ := own_some hown3 (by omega); subst hve; have ck3 := (Chg.of_kept hka (bs := (Value.slice ta d.trace.length tc).ownBlock.toList)).trans hgr3.chgL; have hb5 := ck3.blk X2.blk hKv; have fK := hb5.free 34; have eK := hb5.cell 34; rw [dcells_34 HLM2.out] at eK)
      go_ret
      have hz : ((wr.setCell ⟨J, 33, none⟩ (.slice none 0 0)).alloc (.cells #[.int .i64 (-1), .slice none 0 0] 61)).heap.size = (wr.setCell ⟨J, 33, none⟩ (.slice none 0 0)).heap.size + 1 := by simp
      have hv3 : ∀ g, (Value.slice (some ⟨g3, 0, none⟩) (d.trace.length + 1) cap3).ownBlock = some g → (Value.slice ta d.trace.length tc).ownBlock = some g ∨ (wr.setCell ⟨J, 33, none⟩ (.slice none 0 0)).heap.size ≤ g := fun g hg => by
        rcases hat3 with e | e
        · left; rw [← e]; exact hg
        · right
          have h3 := Option.some.inj (hg.symm.trans e)
          omega
      have X3 := RdIn.pushT (x := (-1, [])) X2 ((layD_length _ _ _ _).trans HLN.out) ck3 hown3 (World.ownsRow_nil _ _ _ _) hv3
      have hqK : Chg [J] w3 (w3.setCell ⟨J, 34, none⟩ (.slice (some ⟨g3, 0, none⟩) (d.trace.length + 1) cap3)) := Chg.step (by simp) _
      have hs3 := (O2.sameT ck3).trans (O2.sameK hqK)
      have O3 := OffR.setT (u6 := .slice none 0 0) O2 hA2' hv3 (by intro g hg; cases hg)
      have hall := (hsm1.trans hs2).trans hs3
      rw [HRES.out]
      exact ⟨rfl, ⟨_, _, _, _, X3, O3, fun k ha => Nat.lt_of_lt_of_le (hA0 k ha) hall.size⟩, hall⟩


set_option maxRecDepth 100000 in
set_option maxHeartbeats 4000000 in
theorem rd_crash (A : Nat → Prop) (J b : Nat) (d : Dk) (m : Nat) (hm : m ≤ 1000) (w1 : World) (h : RdAt A w1 J b d) (ok : d.ok m) (v : Value) (ks : List Bool) (kl : ks.length ≤ 1000) (hks : Sl w1 v ks.length (kcells ks)) (hkA : ∀ a c, v = .slice (some a) ks.length c → 0 < (kcells ks).length → A a.block) :
    Calls Try.prog 23 #[.pointer (some ⟨J, 0, none⟩), v] w1 fun e w' => e = .returned (.tuple #[]) ∧ RdAt A w' J b (d.settled (isK ks)) ∧ SameOn A w1 w' := by
  obtain ⟨ka, kc, he⟩ := hks.len
  subst he
  obtain ⟨vw, vt, us, ut, X1, O, hA⟩ := h
  obtain ⟨wa, wc, hve⟩ := X1.wts.slice
  subst hve
  have HLN := Lib.hid ok.len
  have HF := Lib.hid ok.fit
  have hfew := ok.few
  have c33 : True := trivial
  obtain ⟨N, hN⟩ : ∃ N, N = d.waits.length := ⟨_, rfl⟩
  rw [← hN] at hfew
  have HN := Lib.hid hN
  clear hN
  go_enter Try.func23, Try.ntmps23
  go_wp2_with fail
  go_loopw [4] (fun i wr => ∃ k : Nat, k ≤ N ∧ i = .int .i64 k ∧ RdIn wr J b (.slice wa d.waits.length wc) vt us ut { d with lasts := layD d.lasts d.waits (isK ks) k } ∧ SameOn A w1 wr) (fun i _ => N - (intOf i).toNat)
  case atStart => exact ⟨0, by omega, by go_num, X1, SameOn.refl _⟩
  case round =>
    obtain ⟨k, hk, rfl, Xr, hsr⟩ := hrel
    clear X1 c33
    have hlr : (layD d.lasts d.waits (isK ks) k).length = 32 := (layD_length _ _ _ _).trans HLN.out
    have hlm : ((layD d.lasts d.waits (isK ks) k).map Str).length = 32 := by simpa using hlr
    have kW := Xr.blk.cell 33
    rw [dcells_33 hlm, ← HN.out] at kW
    by_cases hlt : k < N
    · have hkl : k < d.waits.length := by rw [← HN.out]; exact hlt
      have n3 : (k : Int) < (N : Int) := by omega
      have n4 : (0 : Int) ≤ (k : Int) := by omega
      obtain ⟨g, cap2, u, hve, hui, d0, d1, hsu⟩ := Xr.wts.get k hkl
      cases hve
      have hfx : inD d.waits[k] := HF.out _ (List.getElem_mem hkl)
      have hxg : d.waits[k]?.getD (0, []) = d.waits[k] := by rw [List.getElem?_eq_getElem hkl]; rfl
      replace d0 : wr.cell? ⟨g, k * 2, none⟩ = some (.int .i64 d.waits[k].1) := d0
      replace hsu : Sl wr u d.waits[k].2.length (bcells d.waits[k].2) := hsu
      generalize d.waits[k] = x at *
      obtain ⟨hx0, hx1, hx2⟩ := hfx
      obtain ⟨o, ho⟩ : ∃ o : Nat, o = x.1.toNat := ⟨_, rfl⟩
      have hxo : x.1 = (o : Int) := by omega
      rw [← ho] at hx1
      rw [hxo] at d0
      obtain ⟨au, cu, hve⟩ := hsu.len
      subst hve
      have n5 : (o : Int) < 32 := by omega
      have n7 : (0 : Int) ≤ (o : Int) := by omega
      have HO := Lib.hid ho
      have HXG := Lib.hid hxg
      have HXO := Lib.hid hxo
      have HX2 := Lib.hid hx2
      have HLR := Lib.hid hlr
      have HLM := Lib.hid hlm
      clear ho hxg hxo hx2 hlr hlm
      by_cases hkk : k < ks.length
      · have r1 : (k : Int) < (ks.length : Int) := by omega
        obtain ⟨bk, offk, capk, e, _, _, _, hx⟩ := (hsr.sl hks hkA).at (by rw [kcells_length]; omega)
        cases e
        have r0 := hx k (.bool ks[k]) (by simp [kcells, hkk])
        have hi : isK ks k = ks[k] := by simp [isK, hkk]
        cases hq : ks[k]
        · rw [hq] at r0 hi
          have hls : layD d.lasts d.waits (isK ks) (k + 1) = layD d.lasts d.waits (isK ks) k := by rw [layD, hi]; rfl
          have HL2 := Lib.hid hls
          clear hi hq hls hx
          go_wp2
          refine ⟨⟨k + 1, by omega, by go_num, ?_, hsr⟩, by simp [intOf]; omega⟩
          rw [HL2.out]
          exact Xr
        · rw [hq] at r0 hi
          have HI := Lib.hid hi
          clear hi hq hx
          go_wp2_with fail
          have hlr := HLR.out
          have hlm := HLM.out
          refine wp_region_chainK [(0, 0), (1, 0), (2, 0), (3, 0), (4, 0), (5, 0), (6, 0), (7, 0), (8, 0), (9, 0), (10, 0), (11, 0), (12, 0), (13, 0), (14, 0), (15, 0), (16, 0), (17, 0), (18, 1), (19, 1), (20, 0), (21, 2)] (by kernel_rfl) (by kernel_rfl) ?_
          intro w2 hw2
          repeat
            refine chain_light _ rfl (fun K hK => ?_)
            first
              | (refine (if_pos (by rfl)).mpr ?_; apply Exists.intro; refine ⟨fun w' hw' => ?_, hK _ ?_⟩; (have k0 := (hw2.at kW); replace k0 := hw'.at k0; have k1 := hw'.at (hw2.at d0); have k2 := hw'.at (hw2.at d1); have s0 := str_of (bs := x.2) ((hsu.kept hw2).kept hw'); go_simp; done); (clear hK K; simp only [Act.put, List.setIfInBounds_toArray, List.set_cons_zero, List.set_cons_succ]))
              | (refine (if_pos (by rfl)).mpr ?_; apply Exists.intro; refine ⟨fun w' hw' => ?_, hK _ ?_⟩; (have k0 := (hw2.at kW); replace k0 := hw'.at k0; have k1 := hw'.at (hw2.at d0); have k2 := hw'.at (hw2.at d1); have s0 := str_of (bs := x.2) ((hsu.kept hw2).kept hw'); go_simp; rfl); (clear hK K; simp only [Act.put, List.setIfInBounds_toArray, List.set_cons_zero, List.set_cons_succ]))
              | (refine (if_neg (by rw [Bool.not_eq_true]; rfl)).mpr ?_; refine hK _ ?_; (clear hK K; simp only [Act.put, List.setIfInBounds_toArray, List.set_cons_zero, List.set_cons_succ]))
          refine chain_heavy _ rfl (fun K hK => ?_)
          refine (if_pos (by rfl)).mpr ?_
          go_wp2
          refine hK _ _ (Below.refl _ _) ?_
          clear hK K
          try simp only [Act.put, List.setIfInBounds_toArray, List.set_cons_zero, List.set_cons_succ]
          refine chain_heavy _ rfl (fun K hK => ?_)
          refine (if_pos (by rfl)).mpr ?_
          go_wp2
          refine hK _ _ (Below.refl _ _) ?_
          clear hK K
          try simp only [Act.put, List.setIfInBounds_toArray, List.set_cons_zero, List.set_cons_succ]
          repeat
            refine chain_light _ rfl (fun K hK => ?_)
            first
              | (refine (if_pos (by rfl)).mpr ?_; apply Exists.intro; refine ⟨fun w' hw' => ?_, hK _ ?_⟩; (go_simp; done); (clear hK K; simp only [Act.put, List.setIfInBounds_toArray, List.set_cons_zero, List.set_cons_succ]))
              | (refine (if_pos (by rfl)).mpr ?_; apply Exists.intro; refine ⟨fun w' hw' => ?_, hK _ ?_⟩; (go_simp; rfl); (clear hK K; simp only [Act.put, List.setIfInBounds_toArray, List.set_cons_zero, List.set_cons_succ]))
              | (refine (if_neg (by rw [Bool.not_eq_true]; rfl)).mpr ?_; refine hK _ ?_; (clear hK K; simp only [Act.put, List.setIfInBounds_toArray, List.set_cons_zero, List.set_cons_succ]))
          refine chain_last _ rfl (fun K hK => ?_)
          refine (if_pos (by rfl)).mpr ?_
          have bK := Xr.blk.kept hw2
          have fK := bK.free (1 + o)
          obtain ⟨cv, eK⟩ : ∃ cv, w2.cell? ⟨J, 1 + o, none⟩ = some cv := by
            rw [bK.cell (1 + o), dcells_at hlm o hx1]
            exact ⟨_, List.getElem?_eq_getElem (by rw [hlm]; exact hx1)⟩
          go_wp2
          refine chain_nil ?_
          have Xn := (Xr.kept hw2).lay hlr o hx1 x.2
          have hsn := (hsr.trans (SameOn.of_kept hw2)).trans (O.sameK (Chg.step (List.mem_singleton.2 rfl) (Str x.2) (o := 1 + o)))
          go_wp2
          refine ⟨⟨k + 1, by omega, by go_num, ?_, hsn⟩, by simp [intOf]; omega⟩
          have hlay : layD d.lasts d.waits (isK ks) (k + 1) = (layD d.lasts d.waits (isK ks) k).set o x.2 := by
            rw [layD, HXG.out, HO.out]; rw [HI.out]; rfl
          rw [hlay]
          exact Xn
      · have r1 : ¬ (k : Int) < (ks.length : Int) := by omega
        have hi : isK ks k = false := by simp [isK, List.getElem?_eq_none (show ks.length ≤ k by omega)]
        have hls : layD d.lasts d.waits (isK ks) (k + 1) = layD d.lasts d.waits (isK ks) k := by rw [layD, hi]; rfl
        have HL2 := Lib.hid hls
        clear hi hls
        go_wp2
        refine ⟨⟨k + 1, by omega, by go_num, ?_, hsr⟩, by simp [intOf]; omega⟩
        rw [HL2.out]
        exact Xr
    · have hkN : k = N := by omega
      have HK := Lib.hid hkN
      clear hkN
      rw [HK.out, HN.out] at Xr
      have hlz : (layD d.lasts d.waits (isK ks) d.waits.length).length = 32 := (layD_length _ _ _ _).trans HLN.out
      have hlm2 : ((layD d.lasts d.waits (isK ks) d.waits.length).map Str).length = 32 := by simpa using hlz
      have fK := Xr.blk.free 33
      have eK := Xr.blk.cell 33
      rw [dcells_33 hlm2, ← HN.out] at eK
      have X2 := Xr.clear hlz
      have O2 := O.clear
      have hs2 := hsr.trans (O2.sameK (Chg.step (List.mem_singleton.2 rfl) (.slice none 0 0) (o := 33)))
      have HLM2 := Lib.hid hlm2
      clear hlm2 hlz hlm hlr
      clear hsr
      go_wp2
      go_end0
      exact ⟨rfl, ⟨_, _, _, _, X2, O2, fun k ha => Nat.lt_of_lt_of_le (hA k ha) hs2.size⟩, hs2⟩



end Go.Proofs.Ytpbdncnepcibaaa
