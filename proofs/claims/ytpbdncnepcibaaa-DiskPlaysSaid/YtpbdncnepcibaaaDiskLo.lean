/- The scripts that are handed in: what an act has; is it long? -/
import Derived.Test.YtpbdncnepcibaaaActs
import Derived.Test.YtpbdncnepcibaaaRdU
import Derived.Test.YtpbdncnepcibaaaRows
namespace Go.Proofs.Ytpbdncnepcibaaa
open Go Go.RowKit Go.ChangeShapes Go.WideShapes Go.ChangeAt Go.Deep
section
variable {H : Type} {enc : TypeId × Value → H} {P : Program} {w : World} {base : Nat} {spare : Nat → Bool} {held : Bool}
theorem acts_bytes {e : TypeId} {fuel : Nat} {fl : Field} {v : Value} {y : DataW H × List MemPlace} (ht : P.underlying fl.type = some (.slice e)) (he : P.underlying e = some (.int .u8)) (hce : P.cellsOf e = 1) (hf : DataW.trod enc P w base spare held fuel fl.type [v] = some y) : ∃ bs : List UInt8, Sl w v bs.length (bcells bs) := by
  rcases open_ints ht he hce hf with ⟨hcs, _⟩ | ⟨x, l, c, zs, hcs, _, hl, hm, hz, _, hcell, hwz⟩
  · simp at hcs
    subst hcs
    exact ⟨[], Sl.nil w⟩
  · simp at hcs
    subst hcs
    obtain ⟨bs, hb⟩ := bytes_of (zs.take l) fun n hn => hwz n (List.mem_of_mem_take hn)
    have hlen : bs.length = l := by
      have := congrArg List.length hb
      simp only [List.length_map, bcells, List.length_take] at this
      have hz2 : l ≤ zs.length := by rw [hz]; split <;> omega
      omega
    refine ⟨bs, ?_⟩
    rw [hlen]
    refine .inr ⟨x, c, rfl, hl, hm, fun j u hj => ?_⟩
    rw [← hb] at hj
    obtain ⟨hj1, hj2⟩ := List.getElem?_eq_some_iff.1 hj
    have hj3 : j < zs.length := by simp only [List.length_map, List.length_take] at hj1; omega
    rw [hcell j hj3]
    simp at hj2
    rw [← hj2]
    simp [List.getD, hj3]
theorem acts_bools {e : TypeId} {fuel : Nat} {fl : Field} {v : Value} {y : DataW H × List MemPlace} (ht : P.underlying fl.type = some (.slice e)) (he : P.underlying e = some .bool) (hC : P.cellsOf e = 1) (hf : DataW.trod enc P w base spare held fuel fl.type [v] = some y) : ∃ ks : List Bool, Sl w v ks.length (kcells ks) := by
  rcases open_slice ht hf with ⟨hcs, _⟩ | ⟨a, l, c, m, n, D, Pl, hcs, hb, hl, hm, hmm, hx, hi⟩
  · simp at hcs
    subst hcs
    exact ⟨[], .inl ⟨rfl, rfl, rfl⟩⟩
  · simp at hcs
    subst hcs
    have hlm : l ≤ m := by rw [hmm]; split <;> omega
    obtain ⟨ks, hk, hkl⟩ := bools_of (w := w) (a := a) hl hm (fun i h => by
      obtain ⟨cs', hc, ht'⟩ := hi i (by omega)
      rw [hC, Nat.mul_one] at hc
      obtain ⟨_, hcl, _⟩ := World.cells?_some hc
      match cs', hcl with
      | [v], _ =>
        obtain ⟨q, hq⟩ := acts_bool he ht'
        exact ⟨q, by rw [← hq]; exact cell_of_cells?_one hc⟩)
    exact ⟨ks, hk⟩
end
/-- what an act has -/
def IsAct (w : World) (f : Nat → Value) : Prop :=
  (∃ m, f 0 = .int .i64 m ∧ -9223372036854775808 ≤ m ∧ m ≤ 9223372036854775807) ∧ (∃ m, f 1 = .int .i64 m ∧ -9223372036854775808 ≤ m ∧ m ≤ 9223372036854775807) ∧ (∃ m, f 2 = .int .i64 m ∧ -9223372036854775808 ≤ m ∧ m ≤ 9223372036854775807) ∧ (∃ bs : List UInt8, Sl w (f 3) bs.length (bcells bs)) ∧ (∃ ks : List Bool, Sl w (f 4) ks.length (kcells ks))
def LongR (n : Nat) (f : Nat → Nat → Value) (w : World) (e : Ending) (w' : World) : Prop := ∃ r, e = .returned (.bool r) ∧ w = w' ∧ (r = false → n < 120 ∧ ∀ i, i < n → ∀ ks : List Bool, Sl w (f i 4) ks.length (kcells ks) → ks.length ≤ 100)
set_option maxRecDepth 100000 in
set_option maxHeartbeats 8000000 in
theorem long_any (n : Nat) (f : Nat → Nat → Value) (v : Value) (w : World) (hl : Acts w v n 5 f) (hi : ∀ i, i < n → IsAct w (f i)) :
    Calls Try.prog 18 #[v] w fun e w' => LongR n f w e w' := by
  obtain ⟨a, cap, rfl, hn, hm, ha⟩ := hl
  have hm' : cap ≤ maxLen := hm
  go_enter Try.func18, Try.ntmps18
  go_wp2_with fail
  go_loopw [3] (fun i wr => ∃ k : Nat, k ≤ n ∧ k ≤ 120 ∧ i = .int .i64 k ∧ wr = w ∧ ∀ i, i < k → ∀ ks : List Bool, Sl w (f i 4) ks.length (kcells ks) → ks.length ≤ 100) (fun i _ => n - (intOf i).toNat)
  case atStart => exact ⟨0, by omega, by omega, rfl, rfl, fun i h => absurd h (by omega)⟩
  case round =>
    obtain ⟨k, hk, hk120, rfl, rfl, hks⟩ := hrel
    by_cases hlt : k < n
    · have hn3 : (k : Int) < (n : Int) := by omega
      have hn4 : (0 : Int) ≤ (k : Int) := by omega
      by_cases h120 : k < 120
      · have hn5 : (k : Int) < 120 := by omega
        obtain ⟨bA, off, rfl, hbA, hcell⟩ := ha k hlt
        obtain ⟨_, _, _, ⟨bs, h3⟩, ⟨ks, h4⟩⟩ := hi k hlt
        have x3 := hcell 3 (by omega)
        have x4 := hcell 4 (by omega)
        have hks' := hks
        have e4 : ∀ ks' : List Bool, Sl wr (f k 4) ks'.length (kcells ks') → ks'.length = ks.length := fun ks' h => by
          obtain ⟨a1, c1, e1⟩ := h.len
          obtain ⟨a2, c2, e2⟩ := h4.len
          rw [e1] at e2
          exact (Value.slice.inj e2).2.1
        obtain ⟨a3, c3, e3⟩ := h3.len
        obtain ⟨a4, c4, e4'⟩ := h4.len
        rw [e3] at x3
        rw [e4'] at x4
        generalize bs.length = B at *
        generalize ks.length = C at *
        have HA := Lib.hid ha
        have HI := Lib.hid hi
        have HC := Lib.hid hcell
        have HKS := Lib.hid hks
        have HE := Lib.hid e4
        clear ha hi hcell hks hks' h3 h4 e3 e4' e4
        by_cases hb : 300 < (B : Int)
        · go_wp2
          go_ret
          exact ⟨true, rfl, rfl, fun h => by cases h⟩
        · by_cases hc : 100 < (C : Int)
          · go_wp2
            go_ret
            exact ⟨true, rfl, rfl, fun h => by cases h⟩
          · go_wp2
            refine ⟨⟨k + 1, by omega, by omega, by go_num, by trivial, fun i hi' ks' h' => ?_⟩, by simp [intOf]; omega⟩
            by_cases hik : i = k
            · subst hik
              rw [HE.out ks' h']; omega
            · exact HKS.out i (by omega) ks' h'
      · have hn5 : ¬ (k : Int) < 120 := by omega
        have hn6 : 120 ≤ (n : Int) := by omega
        clear ha hi hks
        go_wp2
        go_ret
        exact ⟨true, rfl, rfl, fun h => by cases h⟩
    · have hkn : k = n := by omega
      have HKS := Lib.hid hks
      have HK := Lib.hid hkn
      have hn3 : ¬ (k : Int) < (n : Int) := by omega
      by_cases h120 : n < 120
      · have hn6 : ¬ 120 ≤ (n : Int) := by omega
        clear ha hi hks hkn
        go_wp2
        go_ret
        exact ⟨false, rfl, rfl, fun _ => ⟨h120, fun i hi' => HKS.out i (by rw [HK.out]; exact hi')⟩⟩
      · have hn6 : 120 ≤ (n : Int) := by omega
        clear ha hi hks hkn
        go_wp2
        go_ret
        exact ⟨true, rfl, rfl, fun h => by cases h⟩


end Go.Proofs.Ytpbdncnepcibaaa
