/- What waits lasts, all of it or what is kept. -/
import Derived.Test.YtpbdncnepcibaaaDiskV
import Derived.Test.YtpbdncnepcibaaaBoolz
namespace Go.Proofs.Ytpbdncnepcibaaa
open Go Go.RowKit

/-- the first k of what waits, as far as it is kept -/
def layD (b : List (List UInt8)) (l : List Wr) (is : Nat → Bool) : Nat → List (List UInt8)
  | 0 => b
  | k + 1 => if is k then (layD b l is k).set (l[k]?.getD (0, [])).1.toNat (l[k]?.getD (0, [])).2 else layD b l is k
theorem layD_length (b : List (List UInt8)) (l : List Wr) (is : Nat → Bool) : ∀ k, (layD b l is k).length = b.length
  | 0 => rfl
  | k + 1 => by
    unfold layD
    split
    · rw [List.length_set, layD_length b l is k]
    · exact layD_length b l is k
theorem layD_all (b : List (List UInt8)) (l : List Wr) (is : Nat → Bool) (hb : ∀ x ∈ b, x.length = 32) (hl : ∀ x ∈ l, inD x) : ∀ k, k ≤ l.length → ∀ x ∈ layD b l is k, x.length = 32
  | 0, _ => hb
  | k + 1, hk => by
    unfold layD
    split
    · intro x hx
      rcases List.mem_or_eq_of_mem_set hx with h | h
      · exact layD_all b l is hb hl k (by omega) x h
      · rw [h, List.getElem?_eq_getElem (by omega)]
        exact (hl _ (List.getElem_mem (by omega))).2.2
    · exact layD_all b l is hb hl k (by omega)
def Dk.settled (d : Dk) (is : Nat → Bool) : Dk := { d with lasts := layD d.lasts d.waits is d.waits.length, waits := [] }
theorem Dk.settled_ok {d : Dk} {m : Nat} (h : d.ok m) (is : Nat → Bool) : (d.settled is).ok m :=
  ⟨(layD_length _ _ _ _).trans h.len, layD_all _ _ _ h.all h.fit _ (Nat.le_refl _), by simp [Dk.settled], h.fitp, by simp [Dk.settled], h.done, h.pw⟩

def Dk.barred (d : Dk) (r : Bool) (p' : Pw) : Dk := if r then { ({ d with p := p' } : Dk).settled (fun _ => true) with trace := d.trace ++ [(-1, [])] } else { d with p := p' }
set_option maxRecDepth 100000 in
set_option maxHeartbeats 4000000 in
theorem disk_barrier (A : Nat → Prop) (J b : Nat) (d0 : Dk) (m : Nat) (hm : m ≤ 999) (w : World) (h : DkAt A w J b d0) (ok0 : d0.ok m) (r : Bool) (p' : Pw) (hsp : d0.p.spend = (r, p')) :
    Calls Try.prog 13 #[.pointer (some ⟨J, 0, none⟩)] w fun e w' => e = .returned (.bool r) ∧ DkAt A w' J b (d0.barred r p') ∧ SameOn A w w' := by
  obtain ⟨ls, vw, vt, us, ut, X, O, hA0⟩ := h
  have c0 := X.blk.cell 0
  rw [dcells_0] at c0
  have hok : d0.p.ok 9223372036854775806 := ok_mono ok0.pw (by omega)
  go_enter Try.func13, Try.ntmps13
  go_wp2_with fail
  refine (power_spend_to b d0.p p' r _ X.pw hok hsp).mono ?_
  rintro e w1 ⟨rfl, p1, g1⟩
  have g1 := Chg.of_grown g1
  have X1 := X.power g1 p1
  have hsm1 := O.same g1
  have hA : ∀ k, A k → k < w1.heap.size := fun k ha => Nat.lt_of_lt_of_le (hA0 k ha) g1.size
  cases r
  · go_wp2
    go_ret
    exact ⟨rfl, ⟨ls, vw, vt, us, ut, X1, O, hA⟩, hsm1⟩
  have hp' : p'.ok (m + 1 : Int) := by have := spend_ok ok0.pw; rw [hsp] at this; exact this
  obtain ⟨d, hd⟩ : ∃ d : Dk, d = { d0 with p := p' } := ⟨_, rfl⟩
  have ok : d.ok (m + 1) := by rw [hd]; exact ⟨ok0.len, ok0.all, ok0.fit, ok0.fitp, by have := ok0.few; show d0.waits.length ≤ _; omega, by have := ok0.done; show d0.trace.length ≤ _; omega, by simpa using hp'⟩
  have hres : d0.barred true p' = { d.settled (fun _ => true) with trace := d.trace ++ [(-1, [])] } := by rw [hd]; rfl
  have HRES := Lib.hid hres
  rw [← hd] at X1
  clear hres hd c0 X p1 hp' ok0 hok
  obtain ⟨wa, wc, hve⟩ := X1.wts.slice
  subst hve
  have hll : ls.length = 32 := by rw [X1.lst.len, ok.len]
  have c33 := X1.blk.cell 33
  rw [dcells_33 hll] at c33
  have HF := Lib.hid ok.fit
  have hfew := ok.few
  have hft := ok.done
  obtain ⟨N, hN⟩ : ∃ N, N = d.waits.length := ⟨_, rfl⟩
  rw [← hN] at hfew c33
  have HN := Lib.hid hN
  clear hN
  go_wp2_with fail
  go_loopw [20, 4] (fun i _ wr => ∃ k : Nat, k ≤ N ∧ i = .int .i64 k ∧ ∃ ls', ls'.length = 32 ∧ DkIn wr J b ls' (.slice wa d.waits.length wc) vt us ut { d with lasts := layD d.lasts d.waits (fun _ => true) k } ∧ OffD A J b ls' (.slice wa d.waits.length wc) vt us ut ∧ SameOn A w1 wr) (fun i _ _ => N - (intOf i).toNat)
  case atStart => exact ⟨0, by omega, by go_num, ls, hll, X1, O, SameOn.refl _⟩
  case round =>
    obtain ⟨k, hk, rfl, ls', hls, Xr, Or, hsr⟩ := hrel
    clear X1 c33
    have HLS := Lib.hid hls
    clear hls
    by_cases hlt : k < N
    · have hkl : k < d.waits.length := by rw [← HN.out]; exact hlt
      have n3 : (k : Int) < (N : Int) := by omega
      have n4 : (0 : Int) ≤ (k : Int) := by omega
      obtain ⟨g, cap2, u, hve, hui, d0, d1, hsu⟩ := Xr.wts.get k hkl
      cases hve
      have huo : wr.ownsRow 0 5 1 u d.waits[k].2.length (bcells d.waits[k].2) := Xr.wts.each k _ u (List.getElem?_eq_getElem hkl) hui
      have hun : ∀ g, u.ownBlock = some g → ¬ A g := Or.us u (List.mem_of_getElem? hui)
      have hfx : inD d.waits[k] := HF.out _ (List.getElem_mem hkl)
      have hxg : d.waits[k]?.getD (0, []) = d.waits[k] := by rw [List.getElem?_eq_getElem hkl]; rfl
      replace d0 : wr.cell? ⟨g, k * 2, none⟩ = some (.int .i64 d.waits[k].1) := d0
      generalize d.waits[k] = x at *
      obtain ⟨hx0, hx1, hx2⟩ := hfx
      obtain ⟨o, ho⟩ : ∃ o : Nat, o = x.1.toNat := ⟨_, rfl⟩
      have hxo : x.1 = (o : Int) := by omega
      rw [← ho] at hx1
      rw [hxo] at d0
      obtain ⟨au, cu, hve⟩ := hsu.len
      subst hve
      have n5 : (o : Int) < 32 := by omega
      have n7 : (0 : Int) ≤ (o : Int) := by omega
      have HO := Lib.hid ho
      have HXG := Lib.hid hxg
      have HXO := Lib.hid hxo
      have HX2 := Lib.hid hx2
      have hka : Kept wr (wr.alloc (.cells #[.int .i64 (o : Int), .slice au x.2.length cu] 61)) := (Below.refl _ _).alloc (Nat.le_refl _) _
      have hbx := Blk.new wr #[.int .i64 (o : Int), .slice au x.2.length cu] 61
      have hbn : wr.heap.size ∉ [J] := by have := Xr.low.1; simp; omega
      replace Xr := Xr.kept hka
      replace huo := own_kept huo hka
      replace hsr := hsr.trans (SameOn.of_kept hka)
      clear ho hxg hxo hx2 hsu
      go_wp2_with fail
      generalize (wr.alloc (.cells #[.int .i64 (o : Int), .slice au x.2.length cu] 61)) = wx at *
      refine wp_region_chainChg [J] [(0, 0), (1, 0), (2, 0), (3, 0), (4, 0), (5, 0), (6, 0), (7, 0), (8, 1)] (by kernel_rfl) (by kernel_rfl) ?_
      intro w2 hw2
      repeat
        refine chain_light _ rfl (fun K hK => ?_)
        first
          | (refine (if_pos (by rfl)).mpr ?_; apply Exists.intro; refine ⟨fun w' hw' => ?_, hK _ ?_⟩; (have kd0 := (hbx.kept hw2); have bb0 := (hw'.blk kd0 hbn).cell 0; have bb1 := (hw'.blk kd0 hbn).cell 1; go_simp; done); (clear hK K; simp only [Act.put, List.setIfInBounds_toArray, List.set_cons_zero, List.set_cons_succ]))
          | (refine (if_pos (by rfl)).mpr ?_; apply Exists.intro; refine ⟨fun w' hw' => ?_, hK _ ?_⟩; (have kd0 := (hbx.kept hw2); have bb0 := (hw'.blk kd0 hbn).cell 0; have bb1 := (hw'.blk kd0 hbn).cell 1; go_simp; rfl); (clear hK K; simp only [Act.put, List.setIfInBounds_toArray, List.set_cons_zero, List.set_cons_succ]))
          | (refine (if_neg (by rw [Bool.not_eq_true]; rfl)).mpr ?_; refine hK _ ?_; (clear hK K; simp only [Act.put, List.setIfInBounds_toArray, List.set_cons_zero, List.set_cons_succ]))
      refine chain_heavy _ rfl (fun K hK => ?_)
      refine (if_pos (by rfl)).mpr ?_
      have bK := Xr.blk.kept hw2
      have fK := bK.free (1 + o)
      obtain ⟨cv, eK⟩ : ∃ cv, w2.cell? ⟨J, 1 + o, none⟩ = some cv := by
        rw [bK.cell (1 + o), dcells_at HLS.out o hx1]
        exact ⟨_, List.getElem?_eq_getElem (by rw [HLS.out]; exact hx1)⟩
      go_wp2
      refine hK _ _ (Chg.step (by simp) _) ?_
      clear hK K
      try simp only [Act.put, List.setIfInBounds_toArray, List.set_cons_zero, List.set_cons_succ]
      refine chain_nil ?_
      have Xn := (Xr.kept hw2).lay HLS.out o hx1 (own_kept huo hw2)
      have On := Or.lay o hun
      have hsn := (hsr.trans (SameOn.of_kept hw2)).trans (On.sameK (Chg.step (List.mem_singleton.2 rfl) (.slice au x.2.length cu) (o := 1 + o)))
      go_wp2
      refine ⟨⟨k + 1, by omega, by go_num, _, by rw [List.length_set]; exact HLS.out, ?_, On, hsn⟩, by simp [intOf]; omega⟩
      have hlay : layD d.lasts d.waits (fun _ => true) (k + 1) = (layD d.lasts d.waits (fun _ => true) k).set o x.2 := by
        rw [layD, HXG.out, HO.out]; rfl
      rw [hlay]
      exact Xn
    · have hkN : k = N := by omega
      have HK := Lib.hid hkN
      clear hkN
      rw [HK.out, HN.out] at Xr
      have fK := Xr.blk.free 33
      have eK := Xr.blk.cell 33
      rw [dcells_33 HLS.out] at eK
      have X2 := Xr.clear HLS.out
      have O2 := Or.clear
      have hs2 := hsr.trans (O2.sameK (Chg.step (List.mem_singleton.2 rfl) (.slice none 0 0) (o := 33)))
      have hft2 : d.trace.length ≤ m + 1 := hft
      have hA2' : ∀ k, A k → k < (wr.setCell ⟨J, 33, none⟩ (.slice none 0 0)).heap.size := fun k ha => Nat.lt_of_lt_of_le (hA k ha) hs2.size
      obtain ⟨ta, tc, hve⟩ := X2.trc.slice
      subst hve
      have hka : Kept (wr.setCell ⟨J, 33, none⟩ (.slice none 0 0)) ((wr.setCell ⟨J, 33, none⟩ (.slice none 0 0)).alloc (.cells #[.int .i64 (-1), .slice none 0 0] 61)) := (Below.refl _ _).alloc (Nat.le_refl _) _
      have c3 := X2.blk.cell 34
      rw [dcells_34 HLS.out] at c3
      have hro := X2.trc.row.alloc (.cells #[.int .i64 (-1), .slice none 0 0] 61)
      have hKv : J ∉ (Value.slice ta d.trace.length tc).ownBlock.toList := not_own X2.trc.row X2.blk (by decide)
      have hsl1 := Sl.lit (wr.setCell ⟨J, 33, none⟩ (.slice none 0 0)) #[.int .i64 (-1), .slice none 0 0] 61 1 (by decide)
      rw [show (wr.setCell ⟨J, 33, none⟩ (.slice none 0 0)).heap.size = wr.heap.size by simp [World.setCell]] at hsl1
      clear hsr Or
      go_wp2_with (at_builtin; refine wpList_append3 sl_ops rfl (by rfl) (by rfl) (by rfl) hro hsl1 (by rfl) (by intro u hu; simp at hu; rcases hu with rfl | rfl <;> rfl) (by show d.trace.length + 1 ≤ maxLen; unfold maxLen; omega) (by show (d.trace.length + 1) * 32 ≤ 140737488355328; omega) (Nat.zero_le _) ?_; intro v3 w3 hown3 hgr3 hat3 _; obtain ⟨g3, cap3, hve⟩ := own_some hown3 (by omega); subst hve; have ck3 := (Chg.of_kept hka (bs := (Value.slice ta d.trace.length tc).ownBlock.toList)).trans hgr3.chgL; have hb5 := ck3.blk X2.blk hKv; have fK := hb5.free 34; have eK := hb5.cell 34; rw [dcells_34 HLS.out] at eK)
      go_ret
      have hz : ((wr.setCell ⟨J, 33, none⟩ (.slice none 0 0)).alloc (.cells #[.int .i64 (-1), .slice none 0 0] 61)).heap.size = (wr.setCell ⟨J, 33, none⟩ (.slice none 0 0)).heap.size + 1 := by simp
      have hv3 : ∀ g, (Value.slice (some ⟨g3, 0, none⟩) (d.trace.length + 1) cap3).ownBlock = some g → (Value.slice ta d.trace.length tc).ownBlock = some g ∨ (wr.setCell ⟨J, 33, none⟩ (.slice none 0 0)).heap.size ≤ g := fun g hg => by
        rcases hat3 with e | e
        · left; rw [← e]; exact hg
        · right
          have h3 := Option.some.inj (hg.symm.trans e)
          omega
      have X3 := DkIn.pushT (x := (-1, [])) X2 HLS.out ck3 hown3 (World.ownsRow_nil _ _ _ _) hv3
      have hqK : Chg [J] w3 (w3.setCell ⟨J, 34, none⟩ (.slice (some ⟨g3, 0, none⟩) (d.trace.length + 1) cap3)) := Chg.step (by simp) _
      have hs3 := (O2.sameT ck3).trans (O2.sameK hqK)
      have O3 := OffD.setT (u6 := .slice none 0 0) O2 hA2' hv3 (by intro g hg; cases hg)
      have hall := (hsm1.trans hs2).trans hs3
      rw [HRES.out]
      exact ⟨rfl, ⟨_, _, _, _, _, X3, O3, fun k ha => Nat.lt_of_lt_of_le (hA0 k ha) hall.size⟩, hall⟩


set_option maxRecDepth 100000 in
set_option maxHeartbeats 4000000 in
theorem disk_crash (A : Nat → Prop) (J b : Nat) (d : Dk) (m : Nat) (hm : m ≤ 1000) (w1 : World) (h : DkAt A w1 J b d) (ok : d.ok m) (v : Value) (ks : List Bool) (kl : ks.length ≤ 1000) (hks : Sl w1 v ks.length (kcells ks)) (hkA : ∀ a c, v = .slice (some a) ks.length c → 0 < (kcells ks).length → A a.block) :
    Calls Try.prog 14 #[.pointer (some ⟨J, 0, none⟩), v] w1 fun e w' => e = .returned (.tuple #[]) ∧ DkAt A w' J b (d.settled (isK ks)) ∧ SameOn A w1 w' := by
  obtain ⟨ka, kc, he⟩ := hks.len
  subst he
  obtain ⟨ls, vw, vt, us, ut, X1, O, hA⟩ := h
  obtain ⟨wa, wc, hve⟩ := X1.wts.slice
  subst hve
  have hll : ls.length = 32 := by rw [X1.lst.len, ok.len]
  have c33 := X1.blk.cell 33
  rw [dcells_33 hll] at c33
  have HF := Lib.hid ok.fit
  have hfew := ok.few
  obtain ⟨N, hN⟩ : ∃ N, N = d.waits.length := ⟨_, rfl⟩
  rw [← hN] at hfew c33
  have HN := Lib.hid hN
  clear hN
  go_enter Try.func14, Try.ntmps14
  go_wp2_with fail
  go_loopw [13, 4, 5] (fun i _ _ wr => ∃ k : Nat, k ≤ N ∧ i = .int .i64 k ∧ ∃ ls', ls'.length = 32 ∧ DkIn wr J b ls' (.slice wa d.waits.length wc) vt us ut { d with lasts := layD d.lasts d.waits (isK ks) k } ∧ OffD A J b ls' (.slice wa d.waits.length wc) vt us ut ∧ SameOn A w1 wr) (fun i _ _ _ => N - (intOf i).toNat)
  case atStart => exact ⟨0, by omega, by go_num, ls, hll, X1, O, SameOn.refl _⟩
  case round =>
    obtain ⟨k, hk, rfl, ls', hls, Xr, Or, hsr⟩ := hrel
    clear X1 c33
    have HLS := Lib.hid hls
    clear hls
    by_cases hlt : k < N
    · have hkl : k < d.waits.length := by rw [← HN.out]; exact hlt
      have n3 : (k : Int) < (N : Int) := by omega
      have n4 : (0 : Int) ≤ (k : Int) := by omega
      obtain ⟨g, cap2, u, hve, hui, d0, d1, hsu⟩ := Xr.wts.get k hkl
      cases hve
      have huo : wr.ownsRow 0 5 1 u d.waits[k].2.length (bcells d.waits[k].2) := Xr.wts.each k _ u (List.getElem?_eq_getElem hkl) hui
      have hun : ∀ g, u.ownBlock = some g → ¬ A g := Or.us u (List.mem_of_getElem? hui)
      have hfx : inD d.waits[k] := HF.out _ (List.getElem_mem hkl)
      have hxg : d.waits[k]?.getD (0, []) = d.waits[k] := by rw [List.getElem?_eq_getElem hkl]; rfl
      replace d0 : wr.cell? ⟨g, k * 2, none⟩ = some (.int .i64 d.waits[k].1) := d0
      generalize d.waits[k] = x at *
      obtain ⟨hx0, hx1, hx2⟩ := hfx
      obtain ⟨o, ho⟩ : ∃ o : Nat, o = x.1.toNat := ⟨_, rfl⟩
      have hxo : x.1 = (o : Int) := by omega
      rw [← ho] at hx1
      rw [hxo] at d0
      obtain ⟨au, cu, hve⟩ := hsu.len
      subst hve
      have n5 : (o : Int) < 32 := by omega
      have n7 : (0 : Int) ≤ (o : Int) := by omega
      have HO := Lib.hid ho
      have HXG := Lib.hid hxg
      have HXO := Lib.hid hxo
      have HX2 := Lib.hid hx2
      have hka : Kept wr (wr.alloc (.cells #[.int .i64 (o : Int), .slice au x.2.length cu] 61)) := (Below.refl _ _).alloc (Nat.le_refl _) _
      have hbx := Blk.new wr #[.int .i64 (o : Int), .slice au x.2.length cu] 61
      have hbn : wr.heap.size ∉ [J] := by have := Xr.low.1; simp; omega
      replace Xr := Xr.kept hka
      replace huo := own_kept huo hka
      replace hsr := hsr.trans (SameOn.of_kept hka)
      clear ho hxg hxo hx2 hsu
      by_cases hkk : k < ks.length
      · have r1 : (k : Int) < (ks.length : Int) := by omega
        obtain ⟨bk, offk, capk, e, _, _, _, hx⟩ := (hsr.sl hks hkA).at (by rw [kcells_length]; omega)
        cases e
        have r0 := hx k (.bool ks[k]) (by simp [kcells, hkk])
        have hi : isK ks k = ks[k] := by simp [isK, hkk]
        cases hq : ks[k]
        · rw [hq] at r0 hi
          have hls : layD d.lasts d.waits (isK ks) (k + 1) = layD d.lasts d.waits (isK ks) k := by rw [layD, hi]; rfl
          have HL2 := Lib.hid hls
          clear hi hq hls hx
          go_wp2
          refine ⟨⟨k + 1, by omega, by go_num, _, HLS.out, ?_, Or, hsr⟩, by simp [intOf]; omega⟩
          rw [HL2.out]
          exact Xr
        · rw [hq] at r0 hi
          have HI := Lib.hid hi
          clear hi hq hx
          go_wp2_with fail
          generalize (wr.alloc (.cells #[.int .i64 (o : Int), .slice au x.2.length cu] 61)) = wx at *
          refine wp_region_chainChg [J] [(0, 0), (1, 0), (2, 0), (3, 0), (4, 0), (5, 0), (6, 0), (7, 0), (8, 1)] (by kernel_rfl) (by kernel_rfl) ?_
          intro w2 hw2
          repeat
            refine chain_light _ rfl (fun K hK => ?_)
            first
              | (refine (if_pos (by rfl)).mpr ?_; apply Exists.intro; refine ⟨fun w' hw' => ?_, hK _ ?_⟩; (have kd0 := (hbx.kept hw2); have bb0 := (hw'.blk kd0 hbn).cell 0; have bb1 := (hw'.blk kd0 hbn).cell 1; go_simp; done); (clear hK K; simp only [Act.put, List.setIfInBounds_toArray, List.set_cons_zero, List.set_cons_succ]))
              | (refine (if_pos (by rfl)).mpr ?_; apply Exists.intro; refine ⟨fun w' hw' => ?_, hK _ ?_⟩; (have kd0 := (hbx.kept hw2); have bb0 := (hw'.blk kd0 hbn).cell 0; have bb1 := (hw'.blk kd0 hbn).cell 1; go_simp; rfl); (clear hK K; simp only [Act.put, List.setIfInBounds_toArray, List.set_cons_zero, List.set_cons_succ]))
              | (refine (if_neg (by rw [Bool.not_eq_true]; rfl)).mpr ?_; refine hK _ ?_; (clear hK K; simp only [Act.put, List.setIfInBounds_toArray, List.set_cons_zero, List.set_cons_succ]))
          refine chain_heavy _ rfl (fun K hK => ?_)
          refine (if_pos (by rfl)).mpr ?_
          have bK := Xr.blk.kept hw2
          have fK := bK.free (1 + o)
          obtain ⟨cv, eK⟩ : ∃ cv, w2.cell? ⟨J, 1 + o, none⟩ = some cv := by
            rw [bK.cell (1 + o), dcells_at HLS.out o hx1]
            exact ⟨_, List.getElem?_eq_getElem (by rw [HLS.out]; exact hx1)⟩
          go_wp2
          refine hK _ _ (Chg.step (by simp) _) ?_
          clear hK K
          try simp only [Act.put, List.setIfInBounds_toArray, List.set_cons_zero, List.set_cons_succ]
          refine chain_nil ?_
          have Xn := (Xr.kept hw2).lay HLS.out o hx1 (own_kept huo hw2)
          have On := Or.lay o hun
          have hsn := (hsr.trans (SameOn.of_kept hw2)).trans (On.sameK (Chg.step (List.mem_singleton.2 rfl) (.slice au x.2.length cu) (o := 1 + o)))
          go_wp2
          refine ⟨⟨k + 1, by omega, by go_num, _, by rw [List.length_set]; exact HLS.out, ?_, On, hsn⟩, by simp [intOf]; omega⟩
          have hlay : layD d.lasts d.waits (isK ks) (k + 1) = (layD d.lasts d.waits (isK ks) k).set o x.2 := by
            rw [layD, HXG.out, HO.out]; rw [HI.out]; rfl
          rw [hlay]
          exact Xn
      · have r1 : ¬ (k : Int) < (ks.length : Int) := by omega
        have hi : isK ks k = false := by simp [isK, List.getElem?_eq_none (show ks.length ≤ k by omega)]
        have hls : layD d.lasts d.waits (isK ks) (k + 1) = layD d.lasts d.waits (isK ks) k := by rw [layD, hi]; rfl
        have HL2 := Lib.hid hls
        clear hi hls
        go_wp2
        refine ⟨⟨k + 1, by omega, by go_num, _, HLS.out, ?_, Or, hsr⟩, by simp [intOf]; omega⟩
        rw [HL2.out]
        exact Xr
    · have hkN : k = N := by omega
      have HK := Lib.hid hkN
      clear hkN
      rw [HK.out, HN.out] at Xr
      have fK := Xr.blk.free 33
      have eK := Xr.blk.cell 33
      rw [dcells_33 HLS.out] at eK
      have X2 := Xr.clear HLS.out
      have O2 := Or.clear
      have hs2 := hsr.trans (O2.sameK (Chg.step (List.mem_singleton.2 rfl) (.slice none 0 0) (o := 33)))
      clear hsr Or
      go_wp2
      go_end0
      exact ⟨rfl, ⟨_, _, _, _, _, X2, O2, fun k ha => Nat.lt_of_lt_of_le (hA k ha) hs2.size⟩, hs2⟩



end Go.Proofs.Ytpbdncnepcibaaa
