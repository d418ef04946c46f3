/- root.GetRec and its reference at any bytes. -/
import Derived.Test.YtldgmilfihkkdaaRecO
namespace Go.Proofs.Ytldgmilfihkkdaa
open Go Go.RowKit

def gN (bs : List UInt8) : Nn := if bs.length = 60 then recN bs else ⟨0#32, 0#32, 0#64⟩
def gS (bs : List UInt8) : List UInt8 := if bs.length = 60 then recS bs else []
def gT (bs : List UInt8) : Pair := if bs.length = 60 then recT bs else (0#64, 0#64)
def gK (bs : List UInt8) : Bool := decide (bs.length = 60)
theorem getrec_any (vb : Value) (bs : List UInt8) (hl : bs.length ≤ 4000) (w : World) (hb : Sl w vb bs.length (bcells bs)) : Calls Try.prog 14 #[vb] w fun e w' => ∃ u, e = .returned (.tuple #[(gN bs).val, .agg #[u, U (gT bs).1, U (gT bs).2], .bool (gK bs)]) ∧ Sl w' u (gS bs).length (bcells (gS bs)) ∧ Kept w w' := by
  unfold gN gS gT gK
  by_cases h : bs.length = 60
  · rw [if_pos h, if_pos h, if_pos h, decide_eq_true h]
    exact getrec_some vb bs hl w hb h
  · rw [if_neg h, if_neg h, if_neg h, decide_eq_false h]
    refine (getrec_none vb bs hl w hb h).mono ?_
    rintro e w' ⟨rfl, hk⟩
    exact ⟨_, rfl, Sl.nil w', hk⟩
theorem rgetrec_any (vb : Value) (bs : List UInt8) (hl : bs.length ≤ 4000) (w : World) (hb : Sl w vb bs.length (bcells bs)) : Calls Try.prog 15 #[vb] w fun e w' => ∃ u, e = .returned (.tuple #[(gN bs).val, .agg #[u, U (gT bs).1, U (gT bs).2], .bool (gK bs)]) ∧ Sl w' u (gS bs).length (bcells (gS bs)) ∧ Kept w w' := by
  unfold gN gS gT gK
  by_cases h : bs.length = 60
  · rw [if_pos h, if_pos h, if_pos h, decide_eq_true h]
    exact rgetrec_some vb bs w hb h
  · rw [if_neg h, if_neg h, if_neg h, decide_eq_false h]
    refine (rgetrec_none vb bs hl w hb h).mono ?_
    rintro e w' ⟨rfl, hk⟩
    exact ⟨_, rfl, Sl.nil w', hk⟩
theorem g_recB (n : Nn) (bs : List UInt8) (t : Pair) (hs : n.slot = 65535#32) (h : bs.length = 32) : gN (recB n bs t) = n ∧ gS (recB n bs t) = bs ∧ gT (recB n bs t) = t ∧ gK (recB n bs t) = true := by
  have hl := recB_length n bs t h
  obtain ⟨h1, h2, h3⟩ := rec_back n bs t hs h
  unfold gN gS gT gK
  rw [if_pos hl, if_pos hl, if_pos hl, decide_eq_true hl]
  exact ⟨h1, h2, h3, rfl⟩
end Go.Proofs.Ytldgmilfihkkdaa
