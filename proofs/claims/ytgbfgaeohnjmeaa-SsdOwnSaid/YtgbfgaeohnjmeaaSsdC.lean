/- Barrier, Back, Read. -/
import Derived.Test.YtgbfgaeohnjmeaaSsdB
namespace Go.Proofs.Ytgbfgaeohnjmeaa
open Go Go.RowKit

theorem own_blk1 {w : World} {B n g c : Nat} {bs : List UInt8} (h : w.ownsRow B 5 1 (.slice (some ⟨g, 0, none⟩) n c) n (bcells bs)) : ∃ ex, Blk w g (bcells bs ++ ex).toArray 5 ∧ n + ex.length = c ∧ bs.length = n ∧ B ≤ g ∧ c ≤ maxLen := by
  have hl := h.1
  rw [bcells_length, Nat.mul_one] at hl
  rcases h.2 with ⟨e, _⟩ | ⟨g', cap', cur, e, hB, hb, h1, h4, h2, h3⟩
  · cases e
  · cases e
    rw [Nat.mul_one] at h2 h3
    refine ⟨cur.toList.drop n, ?_, by simp; omega, hl, hB, h4⟩
    rw [← h3, List.take_append_drop]
    exact hb
def Sd.barred (s : Sd) (r : Bool) (p' : Pw) : Sd := if r then ⟨p', s.snap, [], s.trace ++ [(-1, [])]⟩ else { s with p := p' }
set_option maxRecDepth 100000 in
set_option maxHeartbeats 4000000 in
theorem barrier_any (A : Nat → Prop) (K : Nat) (s : Sd) (n m : Nat) (h0 : 0 < n) (hn : n ≤ 65536) (hm : m ≤ 999) (w : World) (h : SdAt A w K s) (ok : s.ok n m) (r : Bool) (p' : Pw) (hsp : s.p.spend = (r, p')) :
    Calls Try.prog 10 #[.pointer (some ⟨K, 0, none⟩)] w fun e w' => e = .returned (.bool r) ∧ SdAt A w' K (s.barred r p') ∧ SameOn A w w' := by
  obtain ⟨b, gl, cap, ex, vw, vt, us, ut, X, O, hAl⟩ := h
  have c0 := X.blk.cell 0
  have hok : s.p.ok 9223372036854775806 := ok_mono ok.pw (by omega)
  go_enter Try.func10, Try.ntmps10
  go_wp2_with fail
  refine (power_spend_to b s.p p' r _ X.pw hok hsp).mono ?_
  rintro e w1 ⟨rfl, p1, g1⟩
  have g1 := Chg.of_grown g1
  have X1 := X.power g1 p1
  have hsm1 := O.same g1
  cases r
  · go_wp2
    go_ret
    exact ⟨rfl, ⟨b, gl, cap, ex, vw, vt, us, ut, X1, O, fun k ha => Nat.lt_of_lt_of_le (hAl k ha) g1.size⟩, hsm1⟩
  · have hp' : p'.ok (m + 1 : Int) := by have := spend_ok ok.pw; rw [hsp] at this; exact this
    have ok1 : ({ s with p := p' } : Sd).ok n (m + 1) := ⟨ok.len, ok.fit, ok.fitp, by have := ok.few; show s.waits.length ≤ _; omega, by have := ok.done; show s.trace.length ≤ _; omega, by simpa using hp'⟩
    go_wp2_with fail
    refine (settle_all K b gl cap ex vw vt us ut { s with p := p' } n (m + 1) h0 hn (by omega) (fun _ => true) _ X1 ok1 rfl).mono ?_
    rintro e w2 ⟨rfl, X2, c2⟩
    rw [layIs_all _ _ _ (Nat.le_refl _), List.take_length] at X2
    have hs2 : SameOn A w1 w2 := SameOn.of_chg c2 (by intro x hx; simp at hx; rcases hx with rfl | rfl; exact O.gl; exact O.K)
    obtain ⟨ta, tc, hve⟩ := X2.trc.slice
    subst hve
    have hka : Kept w2 (w2.alloc (.cells #[.int .i64 (-1), .slice none 0 0] 42)) := (Below.refl _ _).alloc (Nat.le_refl _) _
    have c3 := X2.blk.cell 3
    have hro := X2.trc.row.alloc (.cells #[.int .i64 (-1), .slice none 0 0] 42)
    have hft := ok.done
    have hKv : K ∉ (Value.slice ta s.trace.length tc).ownBlock.toList := fun h => ((X2.ne).2.2.2.2.1 K (mem_own.1 h)).2.1 rfl
    clear c0
    go_wp2_with (at_builtin; refine wpList_append3 sl_ops rfl (by rfl) (by rfl) (by rfl) hro (Sl.lit _ #[.int .i64 (-1), .slice none 0 0] _ 1 (by decide)) (by rfl) (by intro u hu; simp at hu; rcases hu with rfl | rfl <;> rfl) (by show s.trace.length + 1 ≤ maxLen; unfold maxLen; omega) (by show (s.trace.length + 1) * 32 ≤ 140737488355328; omega) (Nat.zero_le _) ?_; intro v3 w3 hown3 hgr3 hat3 _; obtain ⟨g3, cap3, hve⟩ := own_some hown3 (by omega); subst hve; have ck3 := (Chg.of_kept hka (bs := (Value.slice ta s.trace.length tc).ownBlock.toList)).trans hgr3.chgL; have hb5 := ck3.blk X2.blk hKv; have fK := hb5.free 3; have eK := hb5.cell 3)
    go_ret
    have hz : (w2.alloc (.cells #[.int .i64 (-1), .slice none 0 0] 42)).heap.size = w2.heap.size + 1 := by simp
    have hv3 : ∀ g, (Value.slice (some ⟨g3, 0, none⟩) (s.trace.length + 1) cap3).ownBlock = some g → (Value.slice ta s.trace.length tc).ownBlock = some g ∨ w2.heap.size ≤ g := fun g hg => by
      rcases hat3 with e | e
      · left; rw [← e]; exact hg
      · right
        have h3 := Option.some.inj (hg.symm.trans e)
        omega
    have X3 := SdIn.pushT (x := (-1, [])) X2 ck3 hown3 (World.ownsRow_nil _ _ _ _) hv3
    have hqK : Chg [K] w3 (w3.setCell ⟨K, 3, none⟩ (.slice (some ⟨g3, 0, none⟩) (s.trace.length + 1) cap3)) := Chg.step (by simp) _
    have hs3 := (SameOn.of_chg (A := A) ck3 (fun g hg => O.vt g (mem_own.1 hg))).trans (O.sameK hqK)
    have hall := (hsm1.trans hs2).trans hs3
    have hA2 : ∀ k, A k → k < w2.heap.size := fun k ha => Nat.lt_of_lt_of_le (hAl k ha) (hsm1.trans hs2).size
    have O3 := Off.setT (u6 := .slice none 0 0) (⟨O.K, O.b, O.gl, (by intro g hg; cases hg), O.vt, by simp, O.ut⟩ : Off A K b gl (.slice none 0 0) (.slice ta s.trace.length tc) [] ut) hA2 hv3 (by intro g hg; cases hg)
    exact ⟨rfl, ⟨b, gl, cap, ex, _, _, _, _, X3, O3, fun k ha => Nat.lt_of_lt_of_le (hAl k ha) hall.size⟩, hall⟩


end Go.Proofs.Ytgbfgaeohnjmeaa
