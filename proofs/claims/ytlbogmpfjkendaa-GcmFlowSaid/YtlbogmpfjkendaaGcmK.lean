/- The example that each law of chapter 5 holds beside; Open at any input. -/
import Derived.Test.YtlbogmpfjkendaaGcmO
namespace Go.Proofs.Ytlbogmpfjkendaa
open Go Go.RowKit

def openK (key : Pair) (n : Nn) (head data : List UInt8) (t : Pair) : Bool := tag2 (sub2 key n) head data == t
def openB (key : Pair) (n : Nn) (head data : List UInt8) (t : Pair) : List UInt8 := if openK key n head data t then ciph key n data else []
theorem open_any (k1 k2 : BitVec 64) (n : Nn) (vh vd : Value) (head data : List UInt8) (t1 t2 : BitVec 64) (hl : head.length ≤ 4000) (dl : data.length ≤ 4000) (w : World) (hh : Sl w vh head.length (bcells head)) (hd : Sl w vd data.length (bcells data)) :
    Calls Try.prog 15 #[.agg #[U k1, U k2], n.val, vh, .agg #[vd, U t1, U t2]] w fun e w' => ∃ u, e = .returned (.tuple #[u, .bool (openK (k1, k2) n head data (t1, t2))]) ∧ Sl w' u (openB (k1, k2) n head data (t1, t2)).length (bcells (openB (k1, k2) n head data (t1, t2))) ∧ Kept w w' := by
  unfold openB
  cases h : openK (k1, k2) n head data (t1, t2)
  · refine (open_no k1 k2 n vh vd head data t1 t2 hl dl h w hh hd).mono ?_
    rintro e w' ⟨rfl, hk⟩
    exact ⟨_, rfl, Sl.nil w', hk⟩
  · refine (open_yes k1 k2 n vh vd head data t1 t2 hl dl h w hh hd).mono ?_
    rintro e w' ⟨u, rfl, hs, hk⟩
    refine ⟨_, rfl, ?_, hk⟩
    simp only [if_true, ciph_length]
    exact hs
theorem ropen_any (k1 k2 : BitVec 64) (n : Nn) (vh vd : Value) (head data : List UInt8) (t1 t2 : BitVec 64) (hl : head.length ≤ 4000) (dl : data.length ≤ 4000) (w : World) (hh : Sl w vh head.length (bcells head)) (hd : Sl w vd data.length (bcells data)) :
    Calls Try.prog 16 #[.agg #[U k1, U k2], n.val, vh, .agg #[vd, U t1, U t2]] w fun e w' => ∃ u, e = .returned (.tuple #[u, .bool (openK (k1, k2) n head data (t1, t2))]) ∧ Sl w' u (openB (k1, k2) n head data (t1, t2)).length (bcells (openB (k1, k2) n head data (t1, t2))) ∧ Kept w w' := by
  unfold openB
  cases h : openK (k1, k2) n head data (t1, t2)
  · refine (ropen_no k1 k2 n vh vd head data t1 t2 hl dl h w hh hd).mono ?_
    rintro e w' ⟨rfl, hk⟩
    exact ⟨_, rfl, Sl.nil w', hk⟩
  · refine (ropen_yes k1 k2 n vh vd head data t1 t2 hl dl h w hh hd).mono ?_
    rintro e w' ⟨u, rfl, hs, hk⟩
    refine ⟨_, rfl, ?_, hk⟩
    simp only [if_true, ciph_length]
    exact hs
theorem openK_seal (key : Pair) (n : Nn) (head data : List UInt8) : openK key n head (ciph key n data) ((sealT key n head data).1, (sealT key n head data).2) = true := by
  unfold openK sealT
  exact beq_self_eq_true _
theorem openB_seal (key : Pair) (n : Nn) (head data : List UInt8) : openB key n head (ciph key n data) ((sealT key n head data).1, (sealT key n head data).2) = data := by
  unfold openB
  rw [openK_seal, if_pos rfl, ciph_ciph]
set_option maxRecDepth 100000 in
set_option maxHeartbeats 8000000 in
theorem known_any (w : World) : Calls Try.prog 14 #[] w fun e w' => e = .returned (.bool true) ∧ Kept w w' := by
  go_enter Try.func14, Try.ntmps14
  go_wp2_with fail
  refine (seal_any 1#64 2#64 ⟨1#32, 0#32, 0#64⟩ _ _ [] [] (by simp) (by simp) _ (Sl.nil _) (Sl.nil _)).mono ?_
  rintro e w1 ⟨u, rfl, o1, hk1⟩
  have s1 := Sl.of_own o1
  obtain ⟨ua, uc, he⟩ := s1.len
  subst he
  obtain ⟨T, hT⟩ : ∃ T, T = sealT (1#64, 2#64) ⟨1#32, 0#32, 0#64⟩ [] [] := ⟨_, rfl⟩
  have ht : openK (1#64, 2#64) ⟨1#32, 0#32, 0#64⟩ [] (ciph (1#64, 2#64) ⟨1#32, 0#32, 0#64⟩ []) (T.1, T.2) = true := by rw [hT]; exact openK_seal _ _ _ _
  have hb : openB (1#64, 2#64) ⟨1#32, 0#32, 0#64⟩ [] (ciph (1#64, 2#64) ⟨1#32, 0#32, 0#64⟩ []) (T.1, T.2) = [] := by rw [hT]; exact openB_seal _ _ _ _
  rw [← hT]
  have HT := Lib.hid ht
  have HB := Lib.hid hb
  have hX := Blk.new w1 #[.slice ua 0 uc, U T.1, U T.2] 30
  have hk2 : Kept w (w1.alloc (.cells #[.slice ua 0 uc, U T.1, U T.2] 30)) := hk1.alloc (by have := hk1.size; omega) _
  have s2 := s1.kept (show Kept w1 (w1.alloc (.cells #[.slice ua 0 uc, U T.1, U T.2] 30)) from (Below.refl _ _).alloc (Nat.le_refl _) _)
  have x0 := hX.cell 0
  have x1 := hX.cell 1
  have x2 := hX.cell 2
  clear hT ht hb o1 s1 hk1
  go_wp2_with fail
  refine (open_any 1#64 2#64 ⟨1#32, 0#32, 0#64⟩ _ _ [] (ciph (1#64, 2#64) ⟨1#32, 0#32, 0#64⟩ []) _ _ (by simp) (by rw [ciph_length]; simp) _ (Sl.nil _) (by rw [ciph_length]; exact s2)).mono ?_
  rintro e w3 ⟨x, rfl, s3, hk3⟩
  rw [HT.out]
  rw [HB.out] at s3
  obtain ⟨xa, xc, he⟩ := s3.len
  subst he
  replace hX := hX.kept hk3
  clear x0 x1 x2
  have x0 := hX.cell 0
  have x1 := hX.cell 1
  have x2 := hX.cell 2
  simp only [List.length_nil] at *
  go_wp2
  go_ret
  exact ⟨rfl, hk2.of hk3⟩

end Go.Proofs.Ytlbogmpfjkendaa
