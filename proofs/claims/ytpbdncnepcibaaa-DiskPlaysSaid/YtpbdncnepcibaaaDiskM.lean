/- What the laws of chapter 12 share: states. -/
import Derived.Test.YtpbdncnepcibaaaDiskT
namespace Go.Proofs.Ytpbdncnepcibaaa
open Go Go.RowKit

def Pw.nf (k : Nat) : Pw := ⟨false, false, 0, k⟩
theorem nf_spend (k : Nat) : (Pw.nf k).spend = (true, Pw.nf (k + 1)) := by simp [Pw.nf, Pw.spend]
theorem nf_new : Pw.new = Pw.nf 0 := rfl
theorem nf_okm (k m : Nat) (h : k ≤ m) : (Pw.nf k).ok m := ⟨by simp [Pw.nf]; try omega, by simp [Pw.nf]; try omega, fun h => by cases h⟩
theorem wrote_ok {d : Dk} {m : Nat} {x : Wr} {p' : Pw} (h : d.ok m) (hx : inD x) (hp : p'.ok (m + 1 : Nat)) : (d.wrote true p' x).ok (m + 1) :=
  ⟨h.len, h.all, fun y hy => by
    rcases List.mem_append.1 hy with hy | hy
    · exact h.fit y hy
    · rw [List.mem_singleton.1 hy]; exact hx, fun y hy => by
    rcases List.mem_append.1 hy with hy | hy
    · exact h.fitp y hy
    · rw [List.mem_singleton.1 hy, hx.2.2]; omega, by show (d.waits ++ [x]).length ≤ _; have := h.few; simp; omega, by show (d.trace ++ [x]).length ≤ _; have := h.done; simp; omega, hp⟩
theorem barred_ok {d : Dk} {m : Nat} {p' : Pw} (h : d.ok m) (hp : p'.ok (m + 1 : Nat)) : (d.barred true p').ok (m + 1) :=
  ⟨(layD_length _ _ _ _).trans h.len, layD_all _ _ _ h.all h.fit _ (Nat.le_refl _), fun y hy => (by cases hy), fun y hy => by
    rcases List.mem_append.1 hy with hy | hy
    · exact h.fitp y hy
    · rw [List.mem_singleton.1 hy]; decide, Nat.zero_le _, by show (d.trace ++ [((-1 : Int), ([] : List UInt8))]).length ≤ _; have := h.done; simp; omega, hp⟩
theorem wrote_read (d : Dk) (p' : Pw) (o : Nat) (y : List UInt8) (i : Nat) : (d.wrote true p' ((o : Int), y)).read i = if o = i then y else d.read i := by
  have : ∀ (b : List UInt8) (l : List Wr) (x : Wr) (k : Nat), k ≤ l.length → readD b (l ++ [x]) i k = readD b l i k := by
    intro b l x k
    induction k with
    | zero => intro _; rfl
    | succ k ih =>
      intro hk
      simp only [readD]
      rw [ih (by omega), List.getElem?_append_left (by omega)]
  show readD _ (d.waits ++ [((o : Int), y)]) i (d.waits ++ [((o : Int), y)]).length = _
  rw [List.length_append, List.length_singleton]
  simp only [readD]
  rw [this _ _ _ _ (Nat.le_refl _)]
  simp only [List.getElem?_concat_length, Option.getD_some]
  by_cases h : o = i
  · rw [if_pos h, if_pos (by omega)]
  · rw [if_neg h, if_neg (by omega)]; rfl

end Go.Proofs.Ytpbdncnepcibaaa
