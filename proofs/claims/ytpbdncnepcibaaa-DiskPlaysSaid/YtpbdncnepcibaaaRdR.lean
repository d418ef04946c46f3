/- The reference: Read. -/
import Derived.Test.YtpbdncnepcibaaaRdB
import Derived.Laws.IdiomStrings
namespace Go.Proofs.Ytpbdncnepcibaaa
open Go Go.RowKit

theorem bytes_ofS (w : World) (Y : List UInt8) (hl : Y.length ≤ 1000000) : ∃ c w', (convert 9 22 (Str Y)).run Try.prog w = .ok (.slice (some ⟨w.heap.size, 0, none⟩) Y.length c) w' ∧ Sl w' (.slice (some ⟨w.heap.size, 0, none⟩) Y.length c) Y.length (bcells Y) ∧ Kept w w' := by
  have h := run_bytes_of_string (P := Try.prog) w 9 22 5 ⟨Y.toArray⟩ Try.underlying9 Try.underlying22 Try.underlying5
  have hs : (⟨Y.toArray⟩ : ByteArray).size = Y.length := rfl
  rw [hs] at h
  refine ⟨_, _, h, ?_, ?_⟩
  · refine Sl.mk (grownCap_ge w Y.length 0 _) (grownCap_le_maxLen w _ 0 _ (by unfold maxLen; omega)) fun j u hj => ?_
    have hjl := (List.getElem?_eq_some_iff.1 hj).1
    rw [bcells_length] at hjl
    rw [bcells_get Y j hjl] at hj
    have : (bytesRow ⟨Y.toArray⟩ (grownCap w Y.length 0 5))[0 + j]? = some u := by
      rw [← hj]
      simp [bytesRow, Array.getElem?_append, hjl, V8]
    generalize bytesRow ⟨Y.toArray⟩ (grownCap w Y.length 0 5) = C at *
    have hh : (w.drew.alloc (.cells C 5 (C.size, C.size + 1))).heap[w.heap.size]? = some (.cells C 5 (C.size, C.size + 1)) := by
      show (w.heap.push _)[w.heap.size]? = _
      simp
    unfold World.cell?
    rw [hh]
    exact this
  · exact Below.alloc (Kept.drawn w : Kept w w.drew) (Nat.le_refl _) _
set_option maxRecDepth 100000 in
set_option maxHeartbeats 4000000 in
theorem rd_read_no (J : Nat) (w : World) (off : Int) (hn : isD off = false) : Calls Try.prog 22 #[.pointer (some ⟨J, 0, none⟩), .int .i64 off] w fun e w' => e = .returned (.tuple #[.slice none 0 0, .bool false]) ∧ w = w' := by
  go_enter Try.func22, Try.ntmps22
  go_wp2_with fail
  refine (rd_is off _).mono ?_
  rintro e w1 ⟨rfl, rfl⟩
  rw [hn]
  go_wp2
  go_ret2
  exact ⟨rfl, rfl⟩

set_option maxRecDepth 100000 in
set_option maxHeartbeats 4000000 in
theorem rd_read_off (A : Nat → Prop) (J b : Nat) (d : Dk) (w : World) (h : RdAt A w J b d) (off : Int) (hn : isD off = true) (hg : d.p.gone = true) : Calls Try.prog 22 #[.pointer (some ⟨J, 0, none⟩), .int .i64 off] w fun e w' => e = .returned (.tuple #[.slice none 0 0, .bool false]) ∧ w = w' := by
  obtain ⟨vw, vt, us, ut, X, O, hA⟩ := h
  have c0 := X.blk.cell 0
  rw [dcells_0] at c0
  obtain ⟨l, hp, _⟩ := X.pw
  have g0 := (ref_cells hp).1
  rw [hg] at g0
  go_enter Try.func22, Try.ntmps22
  go_wp2_with fail
  refine (rd_is off _).mono ?_
  rintro e w1 ⟨rfl, rfl⟩
  rw [hn]
  go_wp2
  go_ret2
  exact ⟨rfl, rfl⟩

set_option maxRecDepth 100000 in
set_option maxHeartbeats 4000000 in
theorem rd_read (A : Nat → Prop) (J b : Nat) (d : Dk) (m : Nat) (hm : m ≤ 1000) (w : World) (h : RdAt A w J b d) (ok : d.ok m) (o : Nat) (ho : o < 32) (hg : d.p.gone = false) : Calls Try.prog 22 #[.pointer (some ⟨J, 0, none⟩), .int .i64 o] w fun e w' => ∃ v, e = .returned (.tuple #[v, .bool true]) ∧ Sl w' v (d.read o).length (bcells (d.read o)) ∧ Kept w w' := by
  obtain ⟨vw, vt, us, ut, X, O, hA⟩ := h
  obtain ⟨wa, wc, hve⟩ := X.wts.slice
  subst hve
  have c0 := X.blk.cell 0
  rw [dcells_0] at c0
  obtain ⟨l, hp, _⟩ := X.pw
  have g0 := (ref_cells hp).1
  rw [hg] at g0
  have hll : (d.lasts.map Str).length = 32 := by simpa using ok.len
  have c33 := X.blk.cell 33
  rw [dcells_33 hll] at c33
  have hol : o < d.lasts.length := by rw [ok.len]; exact ho
  have c1 := X.blk.cell (1 + o)
  rw [dcells_at hll o ho] at c1
  have hd0 : d.lasts[o]?.getD [] = d.lasts[o] := by rw [List.getElem?_eq_getElem hol]; rfl
  have hd1 : (d.lasts.map Str)[o]? = some (Str d.lasts[o]) := by rw [List.getElem?_map, List.getElem?_eq_getElem hol]; rfl
  rw [hd1] at c1
  have hrd : d.read o = readD d.lasts[o] d.waits o d.waits.length := by rw [Dk.read, hd0]
  rw [hrd]
  have HRD := Lib.hid (readD_length d.lasts[o] d.waits o (ok.all _ (List.getElem_mem hol)) ok.fit _ (Nat.le_refl _))
  generalize d.lasts[o] = y0 at *
  have hfew := ok.few
  obtain ⟨N, hN⟩ : ∃ N, N = d.waits.length := ⟨_, rfl⟩
  rw [← hN] at hfew c33
  have n1 : (0 : Int) ≤ (o : Int) := by omega
  have n2 : (o : Int) < 32 := by omega
  have HN := Lib.hid hN
  clear hN hll hol hd0 hd1 hrd
  go_enter Try.func22, Try.ntmps22
  go_wp2_with fail
  refine (rd_is o _).mono ?_
  rintro e w1 ⟨rfl, rfl⟩
  rw [show isD (o : Int) = true by simp [isD]; omega]
  go_wp2_with fail
  go_loopw [7, 6] (fun i v wr => ∃ k : Nat, k ≤ N ∧ i = .int .i64 k ∧ v = Str (readD y0 d.waits o k) ∧ wr = w) (fun i _ _ => N - (intOf i).toNat)
  case atStart => exact ⟨0, by omega, by go_num, rfl, rfl⟩
  case round =>
    obtain ⟨k, hk, rfl, rfl, rfl⟩ := hrel
    by_cases hlt : k < N
    · have hkl : k < d.waits.length := by rw [← HN.out]; exact hlt
      have n3 : (k : Int) < (N : Int) := by omega
      have n4 : (0 : Int) ≤ (k : Int) := by omega
      obtain ⟨g, cap2, u, hve, hui, d0, d1, hsu⟩ := X.wts.get k hkl
      cases hve
      have hxg : d.waits[k]?.getD (0, []) = d.waits[k] := by rw [List.getElem?_eq_getElem hkl]; rfl
      generalize d.waits[k] = x at *
      have s0 := str_of (bs := x.2) hsu
      obtain ⟨au, cu, hve⟩ := hsu.len
      subst hve
      by_cases hxo : x.1 = (o : Int)
      · have hre : readD y0 d.waits o (k + 1) = x.2 := by rw [readD, hxg, if_pos hxo]
        have HRE := Lib.hid hre
        have HXG := Lib.hid hxg
        rw [hxo] at d0
        clear hre hxg hxo hsu
        go_wp2
        exact ⟨⟨k + 1, by omega, by go_num, by rw [HRE.out], by trivial⟩, by simp [intOf]; omega⟩
      · have hre : readD y0 d.waits o (k + 1) = readD y0 d.waits o k := by rw [readD, hxg, if_neg hxo]
        have i1 : (x.1 == (o : Int)) = false := by simpa using hxo
        have HRE := Lib.hid hre
        have HXG := Lib.hid hxg
        clear hre hxg hxo hsu
        go_wp2
        exact ⟨⟨k + 1, by omega, by go_num, by rw [HRE.out], by trivial⟩, by simp [intOf]; omega⟩
    · have hkN : k = N := by omega
      have HK := Lib.hid hkN
      have hkk : readD y0 d.waits o k = readD y0 d.waits o d.waits.length := by rw [hkN, HN.out]
      have hY : (readD y0 d.waits o d.waits.length).length = 32 := HRD.out
      obtain ⟨cy, wy, hcv, hsy, hky⟩ := bytes_ofS wr (readD y0 d.waits o d.waits.length) (by omega)
      obtain ⟨Y, hYe⟩ : ∃ Y, Y = readD y0 d.waits o d.waits.length := ⟨_, rfl⟩
      rw [← hYe] at hcv hsy hkk
      have HYE := Lib.hid hYe
      have HKK := Lib.hid hkk
      rw [hkk]
      clear hkN hkk hY hYe
      go_wp2
      go_ret2
      exact ⟨_, rfl, by rw [← HYE.out]; exact hsy, hky⟩


end Go.Proofs.Ytpbdncnepcibaaa
