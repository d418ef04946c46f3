/- SsdLasts: what a Barrier stands behind lasts, whatever is kept. -/
import Derived.Test.YtgbfgaeohnjmeaaSsdK
import Derived.Test.YtgbfgaeohnjmeaaBools
import Derived.Test.YtgbfgaeohnjmeaaRows
namespace Go.Proofs.Ytgbfgaeohnjmeaa
open Go Go.RowKit

theorem nf_pok (k : Nat) : (Pw.nf k).gone = false := rfl
theorem barrier_nf (A : Nat → Prop) (K k : Nat) (s : Sd) (n m : Nat) (h0 : 0 < n) (hn : n ≤ 65536) (hm : m ≤ 999) (w : World) (h : SdAt A w K s) (ok : s.ok n m) (hp : s.p = Pw.nf k) :
    Calls Try.prog 10 #[.pointer (some ⟨K, 0, none⟩)] w fun e w' => e = .returned (.bool true) ∧ SdAt A w' K ⟨Pw.nf (k + 1), s.snap, [], s.trace ++ [(-1, [])]⟩ ∧ SameOn A w w' :=
  barrier_any A K s n m h0 hn hm w h ok true (Pw.nf (k + 1)) (by rw [hp]; exact nf_spend k)
theorem barred_ok {s : Sd} {n m k : Nat} (h : s.ok n m) (hk : k ≤ m) : Sd.ok ⟨Pw.nf (k + 1), s.snap, [], s.trace ++ [(-1, [])]⟩ n (m + 1) :=
  ⟨Sd.snap_length h, by simp, fun y hy => by
    rcases List.mem_append.1 hy with hy | hy
    · exact h.fitp y hy
    · rw [List.mem_singleton.1 hy]; decide, by simp, by have := h.done; simp; omega, nf_okm _ _ (by omega)⟩
theorem crashed_ok {s : Sd} {n m : Nat} (h : s.ok n m) (is : Nat → Bool) : Sd.ok { s with lasts := layIs s.lasts s.waits is s.waits.length, waits := [] } n m :=
  ⟨(layIs_length _ _ _ (fun x hx => by rw [h.len]; exact h.fit x hx) _ (Nat.le_refl _)).trans h.len, by simp, h.fitp, by simp, h.done, h.pw⟩

set_option maxRecDepth 100000 in
set_option maxHeartbeats 4000000 in
theorem lasts_walk (off : Int) (vb vc vk : Value) (b c : List UInt8) (ks : List Bool) (w : World) (hb : Sl w vb b.length (bcells b)) (hc : Sl w vc c.length (bcells c)) (hks : Sl w vk ks.length (kcells ks)) : Calls Try.prog 3 #[.int .i64 off, vb, vc, vk] w fun e w' => e = .returned (.bool true) ∧ Kept w w' := by
  have lb := hb.low
  have lc := hc.low
  have lk := hks.low
  by_cases hout : ¬ (0 ≤ off ∧ off ≤ 50 ∧ b.length ≤ 50 ∧ c.length ≤ 50 ∧ ks.length ≤ 20)
  · obtain ⟨ba, bc, hv⟩ := hb.len
    subst hv
    obtain ⟨ca, cc, hv⟩ := hc.len
    subst hv
    obtain ⟨ka, kc, hv⟩ := hks.len
    subst hv
    generalize b.length = B at *
    generalize c.length = C at *
    generalize ks.length = N at *
    clear hb hc hks
    by_cases h1 : off < 0
    · clear hout
      go_enter Try.func3, Try.ntmps3
      go_wp2
      go_ret
      exact ⟨rfl, Below.refl _ _⟩
    by_cases h2 : 50 < off
    · clear hout
      go_enter Try.func3, Try.ntmps3
      go_wp2
      go_ret
      exact ⟨rfl, Below.refl _ _⟩
    by_cases h3 : 50 < (B : Int)
    · clear hout
      go_enter Try.func3, Try.ntmps3
      go_wp2
      go_ret
      exact ⟨rfl, Below.refl _ _⟩
    by_cases h4 : 50 < (C : Int)
    · clear hout
      go_enter Try.func3, Try.ntmps3
      go_wp2
      go_ret
      exact ⟨rfl, Below.refl _ _⟩
    have h5 : 20 < (N : Int) := by omega
    clear hout
    go_enter Try.func3, Try.ntmps3
    go_wp2
    go_ret
    exact ⟨rfl, Below.refl _ _⟩
  have ⟨o0, o1, o2, o3, o4⟩ := Decidable.not_not.1 hout
  obtain ⟨o, rfl⟩ : ∃ o : Nat, off = o := ⟨off.toNat, by omega⟩
  obtain ⟨ba, bc, hv⟩ := hb.len
  subst hv
  obtain ⟨ca, cc, hv⟩ := hc.len
  subst hv
  obtain ⟨ka, kc, hv⟩ := hks.len
  subst hv
  have q0 : ¬ (o : Int) < 0 := by omega
  have q1 : ¬ 50 < (o : Int) := by omega
  have q2 : ¬ 50 < (b.length : Int) := by omega
  have q3 : ¬ 50 < (c.length : Int) := by omega
  have q4 : ¬ 20 < (ks.length : Int) := by omega
  have hinb : inB 100 ((o : Int), b) := ⟨by simp, by simp; omega, by simp; omega⟩
  have hinc : inB 100 ((o : Int), c) := ⟨by simp, by simp; omega, by simp; omega⟩
  clear hout
  go_enter Try.func3, Try.ntmps3
  go_wp2_with fail
  refine (power_new _).mono ?_
  rintro e w1 ⟨rfl, p1, hk1, hz1⟩
  go_wp2_with fail
  refine (ssd_new 100 (by omega) (by omega) w.heap.size Pw.new (fun k => k < w.heap.size) _ (fun k hk => by omega) (by simp) p1).mono ?_
  rintro e w2 ⟨K, rfl, S2, hk2⟩
  have k2 := Kept.of hk1 hk2
  have S2 : SdAt _ w2 K (Sd.fresh 100) := S2
  have sm2 : SameOn (fun k => k < w.heap.size) w w2 := SameOn.of_kept k2
  clear hk1 hk2 hz1 p1
  go_wp2_with fail
  refine (write_nf _ K 0 _ 100 0 (by omega) (by omega) _ S2 (fresh_ok 100) rfl o _ b hinb (sm2.sl hb lb) lb).mono ?_
  rintro e w3 ⟨rfl, S3, hs3⟩
  have ok3 := put_ok (k := 0) (fresh_ok 100) hinb (by omega) (by omega)
  have sm3 := sm2.trans hs3
  clear S2 hs3 sm2
  go_wp2_with fail
  refine (barrier_nf _ K 1 _ 100 1 (by omega) (by omega) (by omega) _ S3 ok3 rfl).mono ?_
  rintro e w4 ⟨rfl, S4, hs4⟩
  have ok4 := barred_ok (k := 1) ok3 (by omega)
  have sm4 := sm3.trans hs4
  obtain ⟨L, hL⟩ : ∃ L, L = (Sd.put (Sd.fresh 100) 0 ((o : Int), b)).snap := ⟨_, rfl⟩
  rw [← hL] at S4 ok4
  clear S3 hs4 sm3 hL
  go_wp2_with fail
  refine (snap_at _ K _ 100 2 (by omega) (by omega) (by omega) _ S4 ok4 L rfl).mono ?_
  rintro e w5 ⟨g5, c5, rfl, ho5, hl5, hk5⟩
  have s5 := str_of (bs := L) (by rw [hl5]; exact Sl.of_own ho5)
  have S5 := S4.kept hk5
  have sm5 := sm4.trans (SameOn.of_kept hk5)
  clear S4 ho5 hk5 sm4 k2
  go_wp2_with fail
  refine (write_nf _ K 2 _ 100 2 (by omega) (by omega) _ S5 ok4 rfl o _ c hinc (sm5.sl hc lc) lc).mono ?_
  rintro e w6 ⟨rfl, S6, hs6⟩
  have ok6 := put_ok (k := 2) ok4 hinc (by omega) (by omega)
  have sm6 := sm5.trans hs6
  obtain ⟨L2, hL2⟩ : ∃ L2, L2 = layB L ((o : Int), c) := ⟨_, rfl⟩
  have HL2 := Lib.hid hL2
  clear S5 hs6 sm5 hL2
  go_wp2_with fail
  refine (snap_at _ K _ 100 3 (by omega) (by omega) (by omega) _ S6 ok6 L2 (by rw [HL2.out]; rfl)).mono ?_
  rintro e w7 ⟨g7, c7, rfl, ho7, hl7, hk7⟩
  have s7 := str_of (bs := L2) (by rw [hl7]; exact Sl.of_own ho7)
  have S7 := S6.kept hk7
  have sm7 := sm6.trans (SameOn.of_kept hk7)
  clear S6 ho7 hk7 sm6
  go_wp2_with fail
  refine (crash_any _ K _ 100 3 (by omega) (by omega) (by omega) _ S7 ok6 _ ks (by omega) (sm7.sl hks lk) lk).mono ?_
  rintro e w8 ⟨rfl, S8, hs8⟩
  have ok8 := crashed_ok ok6 (isK ks)
  have sm8 := sm7.trans hs8
  obtain ⟨R, hR⟩ : ∃ R, R = (if isK ks 0 then L2 else L) := ⟨_, rfl⟩
  have hR2 : R = layIs L [((o : Int), c)] (isK ks) 1 := by rw [hR, HL2.out]; rfl
  have HR := Lib.hid hR
  have HR2 := Lib.hid hR2
  clear hR hR2 S7 hs8 sm7
  go_wp2_with fail
  refine (snap_at _ K _ 100 3 (by omega) (by omega) (by omega) _ S8 ok8 R (by rw [HR2.out]; rfl)).mono ?_
  rintro e w9 ⟨g9, c9, rfl, ho9, hl9, hk9⟩
  have s9 := str_of (bs := R) (by rw [hl9]; exact Sl.of_own ho9)
  have sm9 := sm8.trans (SameOn.of_kept hk9)
  have hkr := sm9.sl hks lk
  have fin : ∀ w', Kept w9 w' → Kept w w' := fun w' hk => (sm9.below (fun k hk => hk) (Nat.le_refl _)).trans (hk.mono sm9.size)
  clear S8 ho9 hk9 sm8 sm9 ok8 ok6 ok4 ok3 hb hc lb lc lk hinb hinc
  cases ks with
  | nil =>
    have hq : R = L := by rw [HR.out]; simp [isK]
    subst hq
    clear hks
    go_wp2_with fail
    refine (known_any _).mono ?_
    rintro e w10 ⟨rfl, hk10⟩
    go_wp2
    go_ret
    exact ⟨rfl, fin _ hk10⟩
  | cons q rest =>
    obtain ⟨kb, ko, kcap, he, _, _, _, hx⟩ := hkr.at (by rw [kcells_length]; simp)
    cases he
    have x0 := hx 0 (.bool q) (by simp [kcells])
    rw [Nat.add_zero] at x0
    have hpos : (0 : Int) < ((q :: rest).length : Int) := by simp only [List.length_cons]; omega
    obtain ⟨N, hN⟩ : ∃ N, N = (q :: rest).length := ⟨_, rfl⟩
    rw [← hN] at hpos q4
    have hN0 : ¬ N = 0 := by omega
    simp only [← hN]
    have HN := Lib.hid hN
    clear hx hks hkr hN o4
    cases q
    · have hq : R = L := by rw [HR.out]; simp [isK]
      subst hq
      go_wp2_with fail
      refine (known_any _).mono ?_
      rintro e w10 ⟨rfl, hk10⟩
      go_wp2
      go_ret
      exact ⟨rfl, fin _ hk10⟩
    · have hq : R = L2 := by rw [HR.out]; simp [isK]
      subst hq
      go_wp2_with fail
      refine (known_any _).mono ?_
      rintro e w10 ⟨rfl, hk10⟩
      go_wp2
      go_ret
      exact ⟨rfl, fin _ hk10⟩


namespace ssdLastsRow
open Go.ChangeShapes Go.WideShapes Go.ChangeAt Go.RowKit
theorem own : ownKnob Try.prog.godebug = none := by kernel_rfl
theorem laidOut : laidOutB Try.prog = true := by kernel_rfl

set_option maxRecDepth 100000 in
theorem lifted (os : Os) (started : os.Started) (H : Type) (enc : TypeId × Value → H) :
    ReturnsInHanded {} Try.checked os 3 .any (Rows.ssdLastsSpec.pre6 enc Try.prog Try.f3 Rows.ssdLastsRow.domain false) (Rows.ssdLastsSpec.post enc Try.prog Try.f3 false true false false) := by
  refine returnsInHanded_of_change (C := Try.checked) own started (by kernel_rfl) Try.func3
    (ChangeSpec.witness6 (enc := enc) (C := Try.checked) false ⟨#[], #[.int .i64 0, .slice none 0 0, .slice none 0 0, .slice none 0 0], []⟩ 8 (by kernel_rfl) (by kernel_rfl) (by kernel_rfl) (by kernel_rfl)) ?_
  intro W base args ds gs before hval0 hW _ hsz
  have hval : ∀ (j : Nat) t v, Try.f3.params[j]? = some t → args[j]? = some v → Value.okWide Try.prog W .any base t v := hval0
  have hW' := hW
  obtain ⟨p, q, hA0, hV, rfl, hfz, hnd⟩ := hW
  have hA : DataW.TrodAll enc Try.prog W 0 (fun _ => true) true Try.f3.params.toList args.toList ds p := hA0
  rw [Try.params3] at hA hval
  obtain ⟨v0, vs0, d0, ds0, p0, q0, hargs, rfl, rfl, h0, r0⟩ := trodAll_cons hA
  obtain ⟨v1, vs1, d1, ds1, p1, q1, rfl, rfl, rfl, h1, r1⟩ := trodAll_cons r0
  obtain ⟨v2, vs2, d2, ds2, p2, q2, rfl, rfl, rfl, h2, r2⟩ := trodAll_cons r1
  obtain ⟨v3, vs3, d3, ds3, p3, q3, rfl, rfl, rfl, h3, r3⟩ := trodAll_cons r2
  obtain ⟨rfl, rfl, rfl⟩ := trodAll_nil r3
  obtain rfl : args = #[v0, v1, v2, v3] := by cases args; simp_all
  obtain ⟨a0, rfl, lo0, hi0⟩ := open_I Try.underlying3 (hval 0 3 v0 rfl rfl) h0
  obtain ⟨a1b, a1⟩ := open_bytes (e := 5) Try.underlying22 Try.underlying5 (by kernel_rfl) (hval 1 22 v1 rfl rfl) h1
  obtain ⟨a2b, a2⟩ := open_bytes (e := 5) Try.underlying22 Try.underlying5 (by kernel_rfl) (hval 2 22 v2 rfl rfl) h2
  obtain ⟨k3, a3⟩ := open_bools (H := H) Try.underlying23 Try.underlying4 (by kernel_rfl) (hval 3 23 v3 rfl rfl) h3
  refine (lasts_walk a0 v1 v2 v3 a1b a2b k3 W a1 a2 a3).mono fun e W' ⟨he, bel⟩ => ?_
  subst he
  exact ⟨_, rfl, law_post (tb := 4) laidOut (by kernel_rfl) Try.underlying4 (by rfl) rfl (by intro xs hxs; match xs, hxs with | [x0, x1, x2, x3], _ => rfl) hW' bel⟩

theorem over : Rows.ssdLastsRow.holds Try.pinned (OpenSpec.ofChange Rows.ssdLastsSpec) :=
  OpenClaim.holds_of_wide 3 Try.f3 rfl rfl rfl rfl rfl rfl rfl ⟨rfl, rfl, rfl, rfl, rfl⟩ rfl rfl rfl rfl rfl (by kernel_rfl) Try.func3 (by kernel_rfl)
    (of_decide_eq_true (by kernel_rfl)) (by unfold Func.isWrapper; rw [if_neg (of_decide_eq_false (by kernel_rfl))]; exact ⟨rfl, rfl⟩)
    (fun os started H enc _ => lifted os started H enc)
end ssdLastsRow

theorem ssdLasts_holds : Rows.SsdLastsSaid := ssdLastsRow.over
#print axioms ssdLasts_holds

end Go.Proofs.Ytgbfgaeohnjmeaa
