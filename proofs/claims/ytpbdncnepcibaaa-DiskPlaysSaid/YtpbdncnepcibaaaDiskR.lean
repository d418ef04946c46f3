/- Read, Refuse, what a nil disk does. -/
import Derived.Test.YtpbdncnepcibaaaDiskB
namespace Go.Proofs.Ytpbdncnepcibaaa
open Go Go.RowKit

/-- what is read of a block: what lasts, or the last that waits of it -/
def readD (b : List UInt8) (l : List Wr) (o : Int) : Nat → List UInt8
  | 0 => b
  | k + 1 => if (l[k]?.getD (0, [])).1 = o then (l[k]?.getD (0, [])).2 else readD b l o k
theorem readD_length (b : List UInt8) (l : List Wr) (o : Int) (hb : b.length = 32) (hl : ∀ x ∈ l, inD x) : ∀ k, k ≤ l.length → (readD b l o k).length = 32
  | 0, _ => hb
  | k + 1, hk => by
    unfold readD
    split
    · rw [List.getElem?_eq_getElem (by omega)]
      exact (hl _ (List.getElem_mem (by omega))).2.2
    · exact readD_length b l o hb hl k (by omega)
def Dk.read (d : Dk) (o : Nat) : List UInt8 := readD (d.lasts[o]?.getD []) d.waits o d.waits.length
theorem Dk.read_length {d : Dk} {m : Nat} (h : d.ok m) {o : Nat} (ho : o < 32) : (d.read o).length = 32 :=
  readD_length _ _ _ (by rw [List.getElem?_eq_getElem (by rw [h.len]; exact ho)]; exact h.all _ (List.getElem_mem (by rw [h.len]; exact ho))) h.fit _ (Nat.le_refl _)
set_option maxRecDepth 100000 in
set_option maxHeartbeats 4000000 in
theorem disk_read_no (A : Nat → Prop) (K b : Nat) (d : Dk) (w : World) (h : DkAt A w K b d) (off : Int) (hn : isD off = false) : Calls Try.prog 11 #[.pointer (some ⟨K, 0, none⟩), .int .i64 off] w fun e w' => e = .returned (.tuple #[.slice none 0 0, .bool false]) ∧ w = w' := by
  go_enter Try.func11, Try.ntmps11
  go_wp2_with fail
  refine (disk_is K off _).mono ?_
  rintro e w1 ⟨rfl, rfl⟩
  rw [hn]
  go_wp2
  go_ret2
  exact ⟨rfl, rfl⟩

set_option maxRecDepth 100000 in
set_option maxHeartbeats 4000000 in
theorem disk_read_off (A : Nat → Prop) (K b : Nat) (d : Dk) (m : Nat) (w : World) (h : DkAt A w K b d) (ok : d.ok m) (off : Int) (hn : isD off = true) (hg : d.p.gone = true) : Calls Try.prog 11 #[.pointer (some ⟨K, 0, none⟩), .int .i64 off] w fun e w' => e = .returned (.tuple #[.slice none 0 0, .bool false]) ∧ w = w' := by
  obtain ⟨ls, vw, vt, us, ut, X, O, hA⟩ := h
  have c0 := X.blk.cell 0
  rw [dcells_0] at c0
  go_enter Try.func11, Try.ntmps11
  go_wp2_with fail
  refine (disk_is K off _).mono ?_
  rintro e w1 ⟨rfl, rfl⟩
  rw [hn]
  go_wp2_with fail
  refine (power_on b _ _ X.pw).mono ?_
  rintro e w1 ⟨rfl, rfl⟩
  rw [hg]
  go_wp2
  go_ret2
  exact ⟨rfl, rfl⟩

set_option maxRecDepth 100000 in
set_option maxHeartbeats 4000000 in
theorem disk_read (A : Nat → Prop) (K b : Nat) (d : Dk) (m : Nat) (hm : m ≤ 1000) (w : World) (h : DkAt A w K b d) (ok : d.ok m) (o : Nat) (ho : o < 32) (hg : d.p.gone = false) : Calls Try.prog 11 #[.pointer (some ⟨K, 0, none⟩), .int .i64 o] w fun e w' => ∃ v, e = .returned (.tuple #[v, .bool true]) ∧ w'.ownsRow w.heap.size 5 1 v 32 (bcells (d.read o)) ∧ Kept w w' := by
  obtain ⟨ls, vw, vt, us, ut, X, O, hA⟩ := h
  obtain ⟨wa, wc, hve⟩ := X.wts.slice
  subst hve
  have c0 := X.blk.cell 0
  rw [dcells_0] at c0
  have hll : ls.length = 32 := by rw [X.lst.len, ok.len]
  have c33 := X.blk.cell 33
  rw [dcells_33 hll] at c33
  have hol : o < d.lasts.length := by rw [ok.len]; exact ho
  obtain ⟨u0, hu0, _, hown0⟩ := X.lst.get o hol
  have c1 := X.blk.cell (1 + o)
  rw [dcells_at hll o ho, hu0] at c1
  have hd0 : d.lasts[o]?.getD [] = d.lasts[o] := by rw [List.getElem?_eq_getElem hol]; rfl
  have h32 := ok.all _ (List.getElem_mem hol)
  rw [h32] at hown0
  have HRD := Lib.hid (readD_length d.lasts[o] d.waits o h32 ok.fit)
  have hrd : d.read o = readD d.lasts[o] d.waits o d.waits.length := by rw [Dk.read, hd0]
  rw [hrd]
  generalize d.lasts[o] = y0 at *
  have hfew := ok.few
  have HF := Lib.hid ok.fit
  obtain ⟨N, hN⟩ : ∃ N, N = d.waits.length := ⟨_, rfl⟩
  rw [← hN] at hfew c33
  have n1 : (0 : Int) ≤ (o : Int) := by omega
  have n2 : (o : Int) < 32 := by omega
  have HN := Lib.hid hN
  have HLL := Lib.hid hll
  obtain ⟨a0, k0, hve⟩ := (Sl.of_own hown0).len
  subst hve
  clear hN hll hu0 hol hd0 h32 hrd
  go_enter Try.func11, Try.ntmps11
  go_wp2_with fail
  refine (disk_is K o _).mono ?_
  rintro e w1 ⟨rfl, rfl⟩
  rw [show isD (o : Int) = true by simp [isD]; omega]
  go_wp2_with fail
  refine (power_on b _ _ X.pw).mono ?_
  rintro e w1 ⟨rfl, rfl⟩
  rw [hg]
  go_wp2_with fail
  go_loopw [32, 8, 6] (fun i _ v wr => ∃ k : Nat, k ≤ N ∧ i = .int .i64 k ∧ (∃ a c, v = .slice a 32 c) ∧ wr.ownsRow 0 5 1 v 32 (bcells (readD y0 d.waits o k)) ∧ Kept w wr) (fun i _ _ _ => N - (intOf i).toNat)
  case atStart => exact ⟨0, by omega, by go_num, ⟨_, _, rfl⟩, hown0, Below.refl _ _⟩
  case round =>
    obtain ⟨k, hk, rfl, ⟨va, vc, rfl⟩, hv, hkw⟩ := hrel
    by_cases hlt : k < N
    · have hkl : k < d.waits.length := by rw [← HN.out]; exact hlt
      have n3 : (k : Int) < (N : Int) := by omega
      have n4 : (0 : Int) ≤ (k : Int) := by omega
      have hops := X.wts.kept hkw
      obtain ⟨g, cap2, u, hve, hui, d0, d1, hsu⟩ := hops.get k hkl
      cases hve
      have huo : wr.ownsRow 0 5 1 u d.waits[k].2.length (bcells d.waits[k].2) := hops.each k _ u (List.getElem?_eq_getElem hkl) hui
      have hfx : inD d.waits[k] := HF.out _ (List.getElem_mem hkl)
      have hxg : d.waits[k]?.getD (0, []) = d.waits[k] := by rw [List.getElem?_eq_getElem hkl]; rfl
      replace d0 : wr.cell? ⟨g, k * 2, none⟩ = some (.int .i64 d.waits[k].1) := d0
      generalize d.waits[k] = x at *
      obtain ⟨hx0, hx1, hx2⟩ := hfx
      rw [hx2] at huo hsu
      obtain ⟨au, cu, hve⟩ := hsu.len
      subst hve
      have hka : Kept wr (wr.alloc (.cells #[.int .i64 x.1, .slice au 32 cu] 61)) := (Below.refl _ _).alloc (Nat.le_refl _) _
      have hvk := own_kept hv hka
      have huk := own_kept huo hka
      have hkk := Kept.of hkw hka
      by_cases hxo : x.1 = (o : Int)
      · have hre : readD y0 d.waits o (k + 1) = x.2 := by rw [readD, hxg, if_pos hxo]
        have HRE := Lib.hid hre
        have HXG := Lib.hid hxg
        rw [hxo] at d0 hka hvk huk hkk
        clear hre hxg hxo hx2 hsu hops
        go_wp2
        exact ⟨⟨k + 1, by omega, by go_num, ⟨_, _, rfl⟩, by rw [HRE.out]; exact huk, hkk⟩, by simp [intOf]; omega⟩
      · have hre : readD y0 d.waits o (k + 1) = readD y0 d.waits o k := by rw [readD, hxg, if_neg hxo]
        have i1 : (x.1 == (o : Int)) = false := by simpa using hxo
        have HRE := Lib.hid hre
        have HXG := Lib.hid hxg
        clear hre hxg hxo hx2 hsu hops
        go_wp2
        exact ⟨⟨k + 1, by omega, by go_num, ⟨_, _, rfl⟩, by rw [HRE.out]; exact hvk, hkk⟩, by simp [intOf]; omega⟩
    · have hkN : k = N := by omega
      have hl32 := HRD.out k (by rw [← HN.out]; omega)
      have HK := Lib.hid hkN
      clear hkN
      rw [HK.out, HN.out] at hv hl32
      have hsl := Sl.of_own hv
      obtain ⟨Y, hYe⟩ : ∃ Y, Y = readD y0 d.waits o d.waits.length := ⟨_, rfl⟩
      rw [← hYe] at hsl hl32 hv
      have HYE := Lib.hid hYe
      clear hYe
      have hsl' : Sl wr (.slice va 32 vc) Y.length (bcells Y) := by rw [hl32]; exact hsl
      have HY := Lib.hid hl32
      clear hl32 hv
      go_wp2_with fail
      refine (clone_any _ Y (by rw [HY.out]; omega) _ hsl').mono ?_
      rintro e w3 ⟨v3, rfl, ho3, hk3⟩
      rw [HY.out] at ho3
      go_wp2
      go_ret2
      exact ⟨v3, rfl, by rw [← HYE.out]; exact own_base ho3 hkw.size, Kept.of hkw hk3⟩

set_option maxRecDepth 100000 in
set_option maxHeartbeats 4000000 in
theorem disk_refuse (A : Nat → Prop) (K b : Nat) (d : Dk) (m : Nat) (w : World) (h : DkAt A w K b d) (ok : d.ok m) (q : Bool) : Calls Try.prog 15 #[.pointer (some ⟨K, 0, none⟩), .bool q] w fun e w' => e = .returned (.tuple #[]) ∧ DkAt A w' K b { d with no := q } ∧ SameOn A w w' := by
  obtain ⟨ls, vw, vt, us, ut, X, O, hA⟩ := h
  have hll : ls.length = 32 := by rw [X.lst.len, ok.len]
  have c35 := X.blk.cell 35
  rw [dcells_35 hll] at c35
  have f35 := X.blk.free 35
  have X2 := X.refuse hll q
  have hs := O.sameK (Chg.step (List.mem_singleton.2 rfl) (.bool q) (o := 35) : Chg [K] w _)
  have HL := Lib.hid hll
  clear hll
  go_enter Try.func15, Try.ntmps15
  go_wp2
  go_end0
  exact ⟨rfl, ⟨ls, vw, vt, us, ut, X2, O, fun k ha => Nat.lt_of_lt_of_le (hA k ha) hs.size⟩, hs⟩

theorem disk_refuse_nil (q : Bool) (w : World) : Calls Try.prog 15 #[.pointer none, .bool q] w fun e w' => e = .returned (.tuple #[]) ∧ w = w' := by
  go_enter Try.func15, Try.ntmps15
  go_wp2
  go_end0
  exact ⟨rfl, rfl⟩

set_option maxRecDepth 100000 in
set_option maxHeartbeats 4000000 in
theorem disk_write_nil (o : Int) (a : Option Addr) (L c : Nat) (w : World) : Calls Try.prog 9 #[.pointer none, .int .i64 o, .slice a L c] w fun e w' => e = .returned (.bool false) ∧ w = w' := by
  go_enter Try.func9, Try.ntmps9
  go_wp2_with fail
  refine (disk_is_nil o _).mono ?_
  rintro e w1 ⟨rfl, rfl⟩
  go_wp2
  go_ret
  exact ⟨rfl, rfl⟩

set_option maxRecDepth 100000 in
set_option maxHeartbeats 4000000 in
theorem disk_read_nil (o : Int) (w : World) : Calls Try.prog 11 #[.pointer none, .int .i64 o] w fun e w' => e = .returned (.tuple #[.slice none 0 0, .bool false]) ∧ w = w' := by
  go_enter Try.func11, Try.ntmps11
  go_wp2_with fail
  refine (disk_is_nil o _).mono ?_
  rintro e w1 ⟨rfl, rfl⟩
  go_wp2
  go_ret2
  exact ⟨rfl, rfl⟩

set_option maxRecDepth 100000 in
set_option maxHeartbeats 4000000 in
theorem disk_barrier_nil (w : World) : Calls Try.prog 13 #[.pointer none] w fun e w' => e = .returned (.bool false) ∧ w = w' := by
  go_enter Try.func13, Try.ntmps13
  go_wp2
  go_ret
  exact ⟨rfl, rfl⟩

set_option maxRecDepth 100000 in
set_option maxHeartbeats 4000000 in
theorem disk_trace_nil (w : World) : Calls Try.prog 17 #[.pointer none] w fun e w' => e = .returned (.slice none 0 0) ∧ w = w' := by
  go_enter Try.func17, Try.ntmps17
  go_wp2
  go_ret
  exact ⟨rfl, rfl⟩

set_option maxRecDepth 100000 in
set_option maxHeartbeats 4000000 in
theorem disk_crash_nil (a : Option Addr) (L c : Nat) (w : World) : Calls Try.prog 14 #[.pointer none, .slice a L c] w fun e w' => e = .returned (.tuple #[]) ∧ w = w' := by
  go_enter Try.func14, Try.ntmps14
  go_wp2
  (try simp only [Exit.inBlock, Exit.then])
  refine bodyPost_ret (results_none rfl _ _ _) rfl ?_
  exact ⟨rfl, rfl⟩


end Go.Proofs.Ytpbdncnepcibaaa
