/- What the functions of package wire, and of its reference, compute: Put, Get. -/
import Derived.Test.YtlbogmpfjkendaaProg
import Derived.Test.YtlbogmpfjkendaaSlice
import Derived.Test.YtlbogmpfjkendaaWireD
import Derived.Outline
import Derived.Lib.Hide
namespace Go.Proofs.Ytlbogmpfjkendaa
open Go Go.RowKit

theorem sl_bytes : SlT Try.prog 28 5 1 1 (.int .u8 0) := SlT.mk' Try.underlying28 (by kernel_rfl) rfl (by omega)

set_option maxRecDepth 100000 in
set_option maxHeartbeats 2000000 in
theorem put_none (v : BitVec 64) (n : Int) (lo : -9223372036854775808 ≤ n) (hi : n ≤ 9223372036854775807) (h : n < 1 ∨ 8 < n) (w : World) :
    Calls Try.prog 44 #[U v, .int .i64 n] w fun e w' => e = .returned (.slice none 0 0) ∧ w = w' := by
  by_cases h1 : n < 1
  · clear h
    go_enter Try.func44, Try.ntmps44
    go_wp2
    go_ret
    exact ⟨rfl, rfl⟩
  · have h2 : 8 < n := by omega
    clear h
    go_enter Try.func44, Try.ntmps44
    go_wp2
    go_ret
    exact ⟨rfl, rfl⟩

set_option maxRecDepth 100000 in
set_option maxHeartbeats 2000000 in
theorem put_some (v : BitVec 64) (n : Nat) (h1 : 1 ≤ n) (h8 : n ≤ 8) (w : World) :
    Calls Try.prog 44 #[U v, .int .i64 n] w fun e w' => ∃ r, e = .returned r ∧ w'.ownsRow w.heap.size 5 1 r n (bcells (putB v n)) ∧ Kept w w' := by
  have hmk := fun wx => run_make_b (P := Try.prog) wx sl_bytes .i64 .i64 n (by omega)
  have i1 : (1 : Int) ≤ (n : Int) := by omega
  have i8 : (n : Int) ≤ 8 := by omega
  have hL := putB_length v n
  go_enter Try.func44, Try.ntmps44
  go_wp2_with fail
  clear hmk
  go_loopw [17] (fun i wr => ∃ k : Nat, k ≤ n ∧ i = .int .i64 k ∧ Blk wr w.heap.size (bcells (fill (putB v n) 0 k)).toArray 5 ∧ Below w.heap.size w wr)
    (fun i _ => n - (intOf i).toNat)
  case atStart => exact ⟨0, by omega, rfl, by rw [fill_zero, hL]; exact Blk.new _ _ _, (Below.refl _ _).alloc (Nat.le_refl _) _⟩
  case round =>
    obtain ⟨k, hk, rfl, ho, hb⟩ := hrel
    by_cases hlt : k < n
    · have hkL : k < (putB v n).length := by rw [hL]; exact hlt
      have hset := fill_set (putB v n) 0 k hkL
      rw [putB_get] at hset
      have c := ho.cell k
      rw [show (bcells (fill (putB v n) 0 k)).toArray[k]? = some (V8 0) by simp [bcells, fill_get _ _ _ hkL]] at c
      have f := ho.free k
      obtain ⟨m, hm⟩ : ∃ m : Nat, m = 8 * (n - 1 - k) := ⟨_, rfl⟩
      have hm1 : (8 : Int) * ((n : Int) - 1 - (k : Int)) = (m : Int) := by omega
      have i2 : (k : Int) < (n : Int) := by omega
      have i3 : (0 : Int) ≤ (k : Int) := by omega
      have hbyte : UInt8.ofNat (v.toNat >>> m) = byteAt v n k := by rw [hm]; rfl
      have HS := Lib.hid hset
      have HM := Lib.hid hm
      have HL := Lib.hid hL
      clear hset hm hL hkL
      go_wp2
      refine ⟨⟨k + 1, by omega, by go_num, ?_, hb.setCell (Nat.le_refl _) _⟩, by simp [intOf]; omega⟩
      have := ho.set k (V8 (byteAt v n k))
      rw [bcells_set, HS.out] at this
      exact this
    · have : k = n := by omega
      subst this
      have hf : fill (putB v k) 0 k = putB v k := by have := fill_all (putB v k) 0; rwa [hL] at this
      rw [hf] at ho
      have HL := Lib.hid hL
      clear hL hf
      go_wp2
      go_ret
      exact ⟨_, rfl, own_made k (by unfold maxLen; omega) 5 _ HL.out ho (Nat.le_refl _), hb⟩



set_option maxRecDepth 100000 in
set_option maxHeartbeats 2000000 in
theorem rput_none (v : BitVec 64) (n : Int) (lo : -9223372036854775808 ≤ n) (hi : n ≤ 9223372036854775807) (h : n < 1 ∨ 8 < n) (w : World) :
    Calls Try.prog 43 #[U v, .int .i64 n] w fun e w' => e = .returned (.slice none 0 0) ∧ w = w' := by
  by_cases h1 : n < 1
  · clear h
    go_enter Try.func43, Try.ntmps43
    go_wp2
    go_ret
    exact ⟨rfl, rfl⟩
  · have h2 : 8 < n := by omega
    clear h
    go_enter Try.func43, Try.ntmps43
    go_wp2
    go_ret
    exact ⟨rfl, rfl⟩

set_option maxRecDepth 100000 in
set_option maxHeartbeats 2000000 in
theorem rput_some (v : BitVec 64) (n : Nat) (h1 : 1 ≤ n) (h8 : n ≤ 8) (w : World) :
    Calls Try.prog 43 #[U v, .int .i64 n] w fun e w' => ∃ r, e = .returned r ∧ w'.ownsRow w.heap.size 5 1 r n (bcells (putB v n)) ∧ Kept w w' := by
  have i1 : (1 : Int) ≤ (n : Int) := by omega
  have i8 : (n : Int) ≤ 8 := by omega
  have HL := Lib.hid (putB_length v n)
  go_enter Try.func43, Try.ntmps43
  go_wp2_with fail
  go_loopw [5, 6] (fun b i wr => ∃ k : Nat, k ≤ n ∧ i = .int .i64 ((n : Int) - 1 - (k : Int)) ∧ wr.ownsRow w.heap.size 5 1 b k (bcells ((putB v n).take k)) ∧ Below w.heap.size w wr)
    (fun _ i _ => (intOf i + 1).toNat)
  case atStart => exact ⟨0, by omega, by go_num, World.ownsRow_nil _ _ _ _, Below.refl _ _⟩
  case round =>
    obtain ⟨k, hk, rfl, hown, hb⟩ := hrel
    have hsz := hb.size
    by_cases hlt : k < n
    · have hkL : k < (putB v n).length := by rw [HL.out]; exact hlt
      have htake : (putB v n).take (k + 1) = (putB v n).take k ++ [byteAt v n k] := by rw [List.take_succ_eq_append_getElem hkL, putB_get]
      have HT := Lib.hid htake
      clear htake hkL
      obtain ⟨m, hm⟩ : ∃ m : Nat, m = 8 * (n - 1 - k) := ⟨_, rfl⟩
      have hm1 : (8 : Int) * ((n : Int) - 1 - (k : Int)) = (m : Int) := by omega
      have hm2 : (BitVec.ofInt 64 (m : Int)).toNat = m := by rw [BitVec.toNat_ofInt]; omega
      have hbyte : UInt8.ofNat (v.toNat >>> m) = byteAt v n k := by rw [hm]; rfl
      have i2 : (k : Int) < (n : Int) := by omega
      have HM := Lib.hid hm
      clear hm
      go_wp2_with (at_builtin; refine wpList_append sl_bytes rfl (by rfl) (by rfl) (by rfl) (hown.alloc _) (Sl.one _ _ _) (by rfl) (oneCell_V8 [byteAt v n k]) (by unfold maxLen; omega) (by omega) (by simp; omega) ?_; intro b' w1 hown1 hg1 hat1)
      exact ⟨⟨k + 1, by omega, by go_num, by rw [HT.out, bcells_append]; exact hown1, below_append (hb.alloc hsz _) (hown.alloc _) hg1 (by simp; omega)⟩, by simp [intOf]; omega⟩
    · have : k = n := by omega
      subst this
      have hf : (putB v k).take k = putB v k := List.take_of_length_le (by rw [HL.out]; exact Nat.le_refl _)
      rw [hf] at hown
      clear hf
      go_wp2
      go_ret
      exact ⟨_, rfl, hown, hb⟩



set_option maxRecDepth 100000 in
set_option maxHeartbeats 2000000 in
theorem get_none (bv : Value) (bs : List UInt8) (w : World) (hs : Sl w bv bs.length (bcells bs)) (h : bs.length < 1 ∨ 8 < bs.length) :
    Calls Try.prog 45 #[bv] w fun e w' => e = .returned (.tuple #[U 0#64, .bool false]) ∧ w = w' := by
  have hle := hs.le
  unfold maxLen at hle
  by_cases h1 : bs.length < 1
  · have h0 : bs.length = 0 := by omega
    obtain ⟨a, cap, rfl⟩ := hs.len
    rw [h0]
    clear h hs h1 h0 hle
    go_enter Try.func45, Try.ntmps45
    go_wp2
    go_ret2
    exact ⟨rfl, rfl⟩
  · have h2 : (8 : Int) < (bs.length : Int) := by omega
    have h3 : (1 : Int) ≤ (bs.length : Int) := by omega
    have h4 : 8 < bs.length := by omega
    have h5 : ¬ bs.length < 1 := by omega
    obtain ⟨a, cap, rfl⟩ := hs.len
    generalize bs.length = n at *
    clear h hs
    go_enter Try.func45, Try.ntmps45
    go_wp2
    go_ret2
    exact ⟨rfl, rfl⟩

set_option maxRecDepth 100000 in
set_option maxHeartbeats 2000000 in
theorem get_some (bv : Value) (bs : List UInt8) (w : World) (hs : Sl w bv bs.length (bcells bs)) (h1 : 1 ≤ bs.length) (h8 : bs.length ≤ 8) :
    Calls Try.prog 45 #[bv] w fun e w' => e = .returned (.tuple #[U (getB bs), .bool true]) ∧ w = w' := by
  obtain ⟨b, off, cap, rfl, hc1, hc2, hc3, hc4⟩ := hs.at (by rw [bcells_length]; omega)
  have i1 : (1 : Int) ≤ (bs.length : Int) := by omega
  have i8 : (bs.length : Int) ≤ 8 := by omega
  generalize hn : bs.length = n at *
  have HN := Lib.hid hn
  clear hn
  go_enter Try.func45, Try.ntmps45
  go_wp2_with fail
  go_loop [4, 17] (fun v i => ∃ k : Nat, k ≤ n ∧ i = .int .i64 k ∧ v = U (getB (bs.take k)))
    (fun _ i => n - (intOf i).toNat)
  case atStart => exact ⟨0, by omega, rfl, rfl⟩
  case round =>
    obtain ⟨k, hk, rfl, rfl⟩ := hrel
    by_cases hlt : k < n
    · have hkl : k < bs.length := by rw [HN.out]; exact hlt
      have htake : getB (bs.take (k + 1)) = getB (bs.take k) <<< 8 ||| BitVec.ofNat 64 bs[k].toNat := by rw [List.take_succ_eq_append_getElem hkl, getB_snoc]
      have c := hc4 k (V8 bs[k]) (bcells_get bs k hkl)
      have HT := Lib.hid htake
      generalize bs[k] = x at c HT
      clear htake hkl hc4
      have i2 : (k : Int) < (n : Int) := by omega
      have i3 : (0 : Int) ≤ (k : Int) := by omega
      go_wp2
      go_round
      case rel => exact ⟨k + 1, by omega, by go_num, by rw [HT.out]⟩
      case measure => simp [intOf]; omega
    · have : k = n := by omega
      subst this
      have hf : bs.take k = bs := List.take_of_length_le (by rw [HN.out]; exact Nat.le_refl _)
      rw [hf]
      clear hf hc4
      go_wp2
      go_ret2
      exact ⟨rfl, rfl⟩



set_option maxRecDepth 100000 in
set_option maxHeartbeats 2000000 in
theorem rget_none (bv : Value) (bs : List UInt8) (w : World) (hs : Sl w bv bs.length (bcells bs)) (h : bs.length < 1 ∨ 8 < bs.length) :
    Calls Try.prog 48 #[bv] w fun e w' => e = .returned (.tuple #[U 0#64, .bool false]) ∧ w = w' := by
  have hle := hs.le
  unfold maxLen at hle
  by_cases h1 : bs.length < 1
  · have h0 : bs.length = 0 := by omega
    obtain ⟨a, cap, rfl⟩ := hs.len
    rw [h0]
    clear h hs h1 h0 hle
    go_enter Try.func48, Try.ntmps48
    go_wp2
    go_ret2
    exact ⟨rfl, rfl⟩
  · have h2 : (8 : Int) < (bs.length : Int) := by omega
    have h3 : (1 : Int) ≤ (bs.length : Int) := by omega
    have h4 : 8 < bs.length := by omega
    have h5 : ¬ bs.length < 1 := by omega
    obtain ⟨a, cap, rfl⟩ := hs.len
    generalize bs.length = n at *
    clear h hs
    go_enter Try.func48, Try.ntmps48
    go_wp2
    go_ret2
    exact ⟨rfl, rfl⟩

set_option maxRecDepth 100000 in
set_option maxHeartbeats 2000000 in
theorem rget_some (bv : Value) (bs : List UInt8) (w : World) (hs : Sl w bv bs.length (bcells bs)) (h1 : 1 ≤ bs.length) (h8 : bs.length ≤ 8) :
    Calls Try.prog 48 #[bv] w fun e w' => e = .returned (.tuple #[U (getB bs), .bool true]) ∧ w = w' := by
  obtain ⟨b, off, cap, rfl, hc1, hc2, hc3, hc4⟩ := hs.at (by rw [bcells_length]; omega)
  have i1 : (1 : Int) ≤ (bs.length : Int) := by omega
  have i8 : (bs.length : Int) ≤ 8 := by omega
  generalize hn : bs.length = n at *
  have HN := Lib.hid hn
  clear hn
  go_enter Try.func48, Try.ntmps48
  go_wp2_with fail
  go_loop [4, 5] (fun v i => ∃ k : Nat, k ≤ n ∧ i = .int .i64 k ∧ v = U (getB (bs.take k)))
    (fun _ i => n - (intOf i).toNat)
  case atStart => exact ⟨0, by omega, rfl, rfl⟩
  case round =>
    obtain ⟨k, hk, rfl, rfl⟩ := hrel
    by_cases hlt : k < n
    · have hkl : k < bs.length := by rw [HN.out]; exact hlt
      have htake : getB (bs.take (k + 1)) = getB (bs.take k) <<< 8 ||| BitVec.ofNat 64 bs[k].toNat := by rw [List.take_succ_eq_append_getElem hkl, getB_snoc]
      have c := hc4 k (V8 bs[k]) (bcells_get bs k hkl)
      have HT := Lib.hid htake
      generalize bs[k] = x at c HT
      clear htake hkl hc4
      have i2 : (k : Int) < (n : Int) := by omega
      have i3 : (0 : Int) ≤ (k : Int) := by omega
      go_wp2
      go_round
      case rel => exact ⟨k + 1, by omega, by go_num, by rw [HT.out]⟩
      case measure => simp [intOf]; omega
    · have : k = n := by omega
      subst this
      have hf : bs.take k = bs := List.take_of_length_le (by rw [HN.out]; exact Nat.le_refl _)
      rw [hf]
      clear hf hc4
      go_wp2
      go_ret2
      exact ⟨rfl, rfl⟩



end Go.Proofs.Ytlbogmpfjkendaa
