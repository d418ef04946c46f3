/- RootTurned: a root's bytes with one turned are taken just as the document takes them. -/
import Derived.Test.YtldgmilfihkkdaaRootL
import Derived.Test.YtldgmilfihkkdaaRows
namespace Go.Proofs.Ytldgmilfihkkdaa
open Go Go.RowKit

theorem turn_eq (b : List UInt8) (i : Nat) (hi : i < b.length) (y : UInt8) : (b.set i (b[i] ^^^ y) = b) ↔ y = 0 := by
  constructor
  · intro h
    have := congrArg (fun l => l[i]?) h
    simp [hi] at this
    have h2 := congrArg (b[i] ^^^ ·) this
    simp only [← UInt8.xor_assoc, UInt8.xor_self, UInt8.zero_xor] at h2
    exact h2
  · rintro rfl
    rw [UInt8.xor_zero]
    exact List.set_getElem_self hi
theorem turned (x : Rt) (h : isSl x.slots = true) (i : Nat) (hi : i < 32) (y : UInt8) (z : Rt) (hz : rootG ((rootB x).set i ((rootB x)[i]'(by rw [rootB_length]; exact hi) ^^^ y)) = some z) : (z = x) ↔ y = 0 := by
  unfold rootG at hz
  split at hz
  · cases hz
    have hl : ((rootB x).set i ((rootB x)[i]'(by rw [rootB_length]; exact hi) ^^^ y)).length = 32 := by rw [List.length_set, rootB_length]
    rw [← turn_eq (rootB x) i (by rw [rootB_length]; exact hi) y]
    constructor
    · intro e
      have := congrArg rootB e
      rw [rootB_rootOf _ hl] at this
      exact this
    · intro e
      rw [e, rootOf_rootB x h]
  · cases hz

/-- a byte of a row of the call's own is turned -/
theorem own_set {w : World} {B n : Nat} {e : TypeId} {v : Value} {bs : List UInt8} (h : w.ownsRow B e 1 v n (bcells bs)) (hn : 0 < n) : ∃ g cap, v = .slice (some ⟨g, 0, none⟩) n cap ∧ B ≤ g ∧ n ≤ cap ∧ cap ≤ maxLen ∧ bs.length = n ∧ g < w.heap.size ∧ (∀ (i : Nat) (hi : i < bs.length), w.cell? ⟨g, i, none⟩ = some (V8 bs[i]) ∧ w.frozen? ⟨g, i, none⟩ = false) ∧
    ∀ (i : Nat) (x : UInt8), i < n → Sl (w.setCell ⟨g, i, none⟩ (V8 x)) v n (bcells (bs.set i x)) := by
  obtain ⟨hl, h⟩ := h
  rcases h with ⟨_, h⟩ | ⟨g, cap, cur, rfl, hb, hg, hnc, hc, hs, ht⟩
  · omega
  · have hlen : bs.length = n := by rw [bcells_length] at hl; omega
    have hB : Blk w g cur e := hg
    refine ⟨g, cap, rfl, hb, hnc, hc, hlen, hB.lt, fun i hi => ⟨?_, hB.free i⟩, fun i x hi => ?_⟩
    · rw [hB.cell i]
      have := congrArg (fun l => l[i]?) ht
      rw [bcells_get bs i hi, List.getElem?_take, if_pos (by omega)] at this
      simpa using this
    · have hS := hB.set i (V8 x)
      refine Sl.mk hnc hc fun j u hj => ?_
      rw [Nat.zero_add, hS.cell j]
      have := congrArg (fun l => l[j]?) ht
      have hj2 : j < n := by
        have := (List.getElem?_eq_some_iff.1 hj).1
        rw [bcells_length, List.length_set] at this; omega
      rw [List.getElem?_take, if_pos (by omega)] at this
      have hj3 : j < cur.size := by omega
      by_cases hij : i = j
      · subst hij
        rw [bcells_get _ i (by rw [List.length_set]; omega)] at hj
        simp at hj
        simp [hj3, ← hj]
      · rw [Array.getElem?_setIfInBounds_ne hij]
        rw [bcells_get _ j (by rw [List.length_set]; omega)] at hj
        rw [bcells_get _ j (by omega)] at this
        simp [hij] at hj
        simpa [← hj] using this

theorem and_low (n : Int) : ∃ i : Nat, i < 65536 ∧ bits .and .i64 n 65535 = (i : Int) := by
  have h : (BitVec.ofInt 64 n &&& BitVec.ofInt 64 65535).toNat < 65536 := by
    rw [BitVec.toNat_and]
    have : (BitVec.ofInt 64 65535).toNat = 65535 := by decide
    rw [this]
    exact Nat.lt_of_le_of_lt Nat.and_le_right (by omega)
  refine ⟨_, h, ?_⟩
  show IntKind.i64.wrap ((BitVec.ofInt 64 n &&& BitVec.ofInt 64 65535).toNat : Int) = _
  exact IntWalk.i64_in _ (by omega)

set_option maxRecDepth 100000 in
set_option maxHeartbeats 4000000 in
theorem turned_in (x : Rt) (h : isSl x.slots = true) (at_ : Int) (lo : -9223372036854775808 ≤ at_) (hi : at_ ≤ 9223372036854775807) (y : UInt8) (w : World) : Calls Try.prog 5 #[.agg #[U x.count, W x.epoch, .int .i64 x.slots, U x.hash.1, U x.hash.2], .int .i64 at_, V8 y] w fun e w' => e = .returned (.bool true) ∧ Kept w w' := by
  have hR : Blk (w.alloc (.cells #[U x.count, W x.epoch, .int .i64 x.slots, U x.hash.1, U x.hash.2] 27)) w.heap.size #[U x.count, W x.epoch, .int .i64 x.slots, U x.hash.1, U x.hash.2] 27 := Blk.new _ _ _
  have hk0 : Kept w (w.alloc (.cells #[U x.count, W x.epoch, .int .i64 x.slots, U x.hash.1, U x.hash.2] 27)) := (Below.refl _ _).alloc (Nat.le_refl _) _
  have r0 := hR.cell 0
  have r1 := hR.cell 1
  have r2 := hR.cell 2
  have r3 := hR.cell 3
  have r4 := hR.cell 4
  go_enter Try.func5, Try.ntmps5
  go_wp2_with fail
  refine (rput_root_lit _ (isSl_cases h) _ _ _ _ _).mono ?_
  rintro e w1 ⟨v1, rfl, hown1, hk1⟩
  replace hR := hR.kept hk1
  obtain ⟨g, cap, rfl, hg1, hg2, hg3, hg4, hg5, hg6, hg7⟩ := own_set hown1 (by omega)
  clear r0 r1 r2 r3 r4
  obtain ⟨m, hm, hbm⟩ := and_low at_
  obtain ⟨i, hi⟩ : ∃ i, i = m % 32 := ⟨_, rfl⟩
  have hmi : (m : Int).tmod 32 = (i : Int) := by rw [Int.tmod_eq_emod_of_nonneg (by omega)]; omega
  have i0 : (0 : Int) ≤ (i : Int) := by omega
  have i1 : (i : Int) < 32 := by omega
  obtain ⟨B, hB⟩ : ∃ B, B = rootB ⟨x.count, x.epoch, x.slots, (x.hash.1, x.hash.2)⟩ := ⟨_, rfl⟩
  rw [← hB] at hg4 hg6 hg7 hown1
  have hil : i < B.length := by omega
  have c0 := (hg6 i hil).1
  have f0 := (hg6 i hil).2
  obtain ⟨y0, hy0⟩ : ∃ y0, y0 = B[i] := ⟨_, rfl⟩
  rw [← hy0] at c0
  obtain ⟨b', hb'⟩ : ∃ b' : List UInt8, b' = B.set i (y0 ^^^ y) := ⟨_, rfl⟩
  have hl' : b'.length = 32 := by rw [hb', List.length_set]; omega
  have s1 := hg7 i (y0 ^^^ y) (by omega)
  rw [← hb'] at s1
  have s1' : Sl (w1.setCell ⟨g, i, none⟩ (V8 (y0 ^^^ y))) (.slice (some ⟨g, 0, none⟩) 32 cap) b'.length (bcells b') := by rw [hl']; exact s1
  have hk2 : Kept w (w1.setCell ⟨g, i, none⟩ (V8 (y0 ^^^ y))) := (Kept.of hk0 hk1).setCell (by have := hg1; simp at this; show _ ≤ g; omega) _
  replace hR := hR.other (a := ⟨g, i, none⟩) (by have := hg1; simp at this; show _ ≠ g; omega) (V8 (y0 ^^^ y))
  have HT : ∀ z, rootG b' = some z → ((z = x) ↔ y = 0) := fun z hz => turned x h i (by omega) y z (by rw [← hz, hb', hy0]; subst hB; rfl)
  have HB := Lib.hid hb'
  have HL := Lib.hid hl'
  have HI := Lib.hid hi
  clear hb' hl' s1 hi hown1 hg6 hg7 hg4 hk0 hk1 h hil hy0 hB
  go_wp2_with fail
  refine (get_root_any _ b' (by rw [HL.out]; omega) _ s1').mono ?_
  rintro e w3 ⟨rfl, hk3⟩
  obtain ⟨z, hz⟩ : ∃ z, z = (rootG b').getD Rt.zero := ⟨_, rfl⟩
  obtain ⟨ok, hok⟩ : ∃ ok, ok = (rootG b').isSome := ⟨_, rfl⟩
  have htz : ok = true → ((z = x) ↔ y = 0) := by
    intro e
    rw [hok] at e
    obtain ⟨z', hz'⟩ := Option.isSome_iff_exists.1 e
    have : z = z' := by rw [hz, hz']; rfl
    rw [this]
    exact HT z' hz'
  have HZ := Lib.hid hz
  have HOK := Lib.hid hok
  have HTZ := Lib.hid htz
  rw [← hz, ← hok]
  unfold Rt.val
  have hX := Blk.new w3 #[U z.count, W z.epoch, .int .i64 z.slots, U z.hash.1, U z.hash.2] 27
  have hk4 := (Below.refl w3.heap.size w3).alloc (Nat.le_refl _) (.cells #[U z.count, W z.epoch, .int .i64 z.slots, U z.hash.1, U z.hash.2] 27)
  replace hR := (hR.kept hk3).kept hk4
  replace s1' := (s1'.kept hk3).kept hk4
  replace hk2 := (hk2.of hk3).of hk4
  clear hz hok hk3 hk4 c0 f0 HT htz hbm hmi
  go_wp2_with fail
  refine (rget_root_any _ b' (by rw [HL.out]; omega) _ s1').mono ?_
  rintro e w5 ⟨rfl, hk5⟩
  rw [← HZ.out, ← HOK.out]
  unfold Rt.val
  have hk6 := (Below.refl w5.heap.size w5).alloc (Nat.le_refl _) (.cells #[U z.count, W z.epoch, .int .i64 z.slots, U z.hash.1, U z.hash.2] 27)
  have hY := Blk.new w5 #[U z.count, W z.epoch, .int .i64 z.slots, U z.hash.1, U z.hash.2] 27
  replace hR := (hR.kept hk5).kept hk6
  replace hX := (hX.kept hk5).kept hk6
  replace hk2 := (hk2.of hk5).of hk6
  have r0 := hR.cell 0
  have r1 := hR.cell 1
  have r2 := hR.cell 2
  have r3 := hR.cell 3
  have r4 := hR.cell 4
  have x0 := hX.cell 0
  have x1 := hX.cell 1
  have x2 := hX.cell 2
  have x3 := hX.cell 3
  have x4 := hX.cell 4
  have y0 := hY.cell 0
  have y1 := hY.cell 1
  have y2 := hY.cell 2
  have y3 := hY.cell 3
  have y4 := hY.cell 4

  clear hR hX hY s1' hk5 hk6
  cases ok
  · go_wp2_with fail
    refine (known_any _).mono ?_
    rintro e w9 ⟨rfl, hk9⟩
    go_wp2
    go_ret
    exact ⟨rfl, hk2.of hk9⟩
  · have htz2 := HTZ.out rfl
    by_cases hy : y = 0
    · have hzx := htz2.2 hy
      subst hy
      subst hzx
      clear htz2
      go_wp2_with fail
      refine (known_any _).mono ?_
      rintro e w9 ⟨rfl, hk9⟩
      go_wp2
      go_ret
      exact ⟨rfl, hk2.of hk9⟩
    · have hzx : ¬ z = x := fun e => hy (htz2.1 e)
      have hzd : decide ((⟨z.count, z.epoch, z.slots, (z.hash.1, z.hash.2)⟩ : Rt) = ⟨x.count, x.epoch, x.slots, (x.hash.1, x.hash.2)⟩) = false := decide_eq_false (fun e => hzx e)
      have hyb : (y == 0) = false := by simpa using hy
      clear htz2
      go_wp2_with fail
      refine (known_any _).mono ?_
      rintro e w9 ⟨rfl, hk9⟩
      go_wp2
      go_ret
      exact ⟨rfl, hk2.of hk9⟩

set_option maxRecDepth 100000 in
set_option maxHeartbeats 4000000 in
theorem turned_no (x : Rt) (h : isSl x.slots = false) (at_ : Int) (y : UInt8) (w : World) : Calls Try.prog 5 #[.agg #[U x.count, W x.epoch, .int .i64 x.slots, U x.hash.1, U x.hash.2], .int .i64 at_, V8 y] w fun e w' => e = .returned (.bool true) ∧ Kept w w' := by
  have hR : Blk (w.alloc (.cells #[U x.count, W x.epoch, .int .i64 x.slots, U x.hash.1, U x.hash.2] 27)) w.heap.size #[U x.count, W x.epoch, .int .i64 x.slots, U x.hash.1, U x.hash.2] 27 := Blk.new _ _ _
  have hk0 : Kept w (w.alloc (.cells #[U x.count, W x.epoch, .int .i64 x.slots, U x.hash.1, U x.hash.2] 27)) := (Below.refl _ _).alloc (Nat.le_refl _) _
  have r0 := hR.cell 0
  have r1 := hR.cell 1
  have r2 := hR.cell 2
  have r3 := hR.cell 3
  have r4 := hR.cell 4
  go_enter Try.func5, Try.ntmps5
  go_wp2_with fail
  refine (rput_root_none _ h _ _ _ _ _).mono ?_
  rintro e w1 ⟨rfl, hk1⟩
  clear r0 r1 r2 r3 r4
  go_wp2
  go_ret
  exact ⟨rfl, hk0.of hk1⟩

theorem turned_walk (x : Rt) (at_ : Int) (lo : -9223372036854775808 ≤ at_) (hi : at_ ≤ 9223372036854775807) (y : UInt8) (w : World) : Calls Try.prog 5 #[x.val, .int .i64 at_, V8 y] w fun e w' => e = .returned (.bool true) ∧ Kept w w' := by
  unfold Rt.val
  cases h : isSl x.slots
  · exact turned_no x h at_ y w
  · exact turned_in x h at_ lo hi y w

namespace rootTurnedRow
open Go.ChangeShapes Go.WideShapes Go.ChangeAt Go.RowKit
theorem own : ownKnob Try.prog.godebug = none := by kernel_rfl
theorem laidOut : laidOutB Try.prog = true := by kernel_rfl

set_option maxRecDepth 100000 in
theorem lifted (os : Os) (started : os.Started) (H : Type) (enc : TypeId × Value → H) :
    ReturnsInHanded {} Try.checked os 5 .any (Rows.rootTurnedSpec.pre6 enc Try.prog Try.f5 Rows.rootTurnedRow.domain false) (Rows.rootTurnedSpec.post enc Try.prog Try.f5 false true false false) := by
  refine returnsInHanded_of_change (C := Try.checked) own started (by kernel_rfl) Try.func5
    (ChangeSpec.witness6 (enc := enc) (C := Try.checked) false ⟨#[], #[.agg #[.int .u64 0, .int .u32 0, .int .i64 0, .int .u64 0, .int .u64 0], .int .i64 0, .int .u8 0], []⟩ 8 (by kernel_rfl) (by kernel_rfl) (by kernel_rfl) (by kernel_rfl)) ?_
  intro W base args ds gs before hval0 hW _ hsz
  have hval : ∀ (j : Nat) t v, Try.f5.params[j]? = some t → args[j]? = some v → Value.okWide Try.prog W .any base t v := hval0
  have hW' := hW
  obtain ⟨p, q, hA0, hV, rfl, hfz, hnd⟩ := hW
  have hA : DataW.TrodAll enc Try.prog W 0 (fun _ => true) true Try.f5.params.toList args.toList ds p := hA0
  rw [Try.params5] at hA hval
  obtain ⟨v0, vs0, d0, ds0, p0, q0, hargs, rfl, rfl, h0, r0⟩ := trodAll_cons hA
  obtain ⟨v1, vs1, d1, ds1, p1, q1, rfl, rfl, rfl, h1, r1⟩ := trodAll_cons r0
  obtain ⟨v2, vs2, d2, ds2, p2, q2, rfl, rfl, rfl, h2, r2⟩ := trodAll_cons r1
  obtain ⟨rfl, rfl, rfl⟩ := trodAll_nil r2
  obtain rfl : args = #[v0, v1, v2] := by cases args; simp_all
  obtain ⟨a0, rfl, lo0, hi0⟩ := open_root (H := H) (hval 0 27 v0 rfl rfl) h0
  obtain ⟨a1, rfl, lo1, hi1⟩ := open_I Try.underlying3 (hval 1 3 v1 rfl rfl) h1
  obtain ⟨a2, rfl⟩ := open_V8 Try.underlying5 (hval 2 5 v2 rfl rfl) h2
  refine (turned_walk a0 a1 lo1 hi1 a2 W).mono fun e W' ⟨he, bel⟩ => ?_
  subst he
  exact ⟨_, rfl, law_post (tb := 4) laidOut (by kernel_rfl) Try.underlying4 (by rfl) rfl (by intro xs hxs; match xs, hxs with | [x0, x1, x2], _ => rfl) hW' bel⟩

theorem over : Rows.rootTurnedRow.holds Try.pinned (OpenSpec.ofChange Rows.rootTurnedSpec) :=
  OpenClaim.holds_of_wide 5 Try.f5 rfl rfl rfl rfl rfl rfl rfl ⟨rfl, rfl, rfl, rfl, rfl⟩ rfl rfl rfl rfl rfl (by kernel_rfl) Try.func5 (by kernel_rfl)
    (of_decide_eq_true (by kernel_rfl)) (by unfold Func.isWrapper; rw [if_neg (of_decide_eq_false (by kernel_rfl))]; exact ⟨rfl, rfl⟩)
    (fun os started H enc _ => lifted os started H enc)
end rootTurnedRow

theorem rootTurned_holds : Rows.RootTurnedSaid := rootTurnedRow.over
#print axioms rootTurned_holds

end Go.Proofs.Ytldgmilfihkkdaa
