/- Write and Read of both disks, at all arguments. -/
import Derived.Test.YtpbdncnepcibaaaRdT
namespace Go.Proofs.Ytpbdncnepcibaaa
open Go Go.RowKit

def Dk.wr (d : Dk) (off : Int) (bs : List UInt8) : Bool × Dk :=
  if isD off = true ∧ bs.length = 32 ∧ d.no = false then (d.p.spend.1, d.wrote d.p.spend.1 d.p.spend.2 (off, bs)) else (false, d)
def Dk.rd (d : Dk) (off : Int) : Option (List UInt8) := if isD off = true ∧ d.p.gone = false then some (d.read off.toNat) else none
theorem isD_lt {off : Int} (h : isD off = true) : ∃ o : Nat, off = o ∧ o < 32 := by
  simp [isD] at h
  exact ⟨off.toNat, by omega, by omega⟩
theorem Dk.wr_ok {d : Dk} {m : Nat} (h : d.ok m) (off : Int) (bs : List UInt8) : (d.wr off bs).2.ok (m + 1) := by
  unfold Dk.wr
  split
  · rename_i hc
    obtain ⟨o, rfl, ho⟩ := isD_lt hc.1
    exact wrote_ok2 h ⟨by simp, by simpa using ho, hc.2.1⟩ rfl
  · exact h.mono (by omega)
theorem disk_wr (A : Nat → Prop) (K b : Nat) (d : Dk) (m : Nat) (hm : m ≤ 1000) (w : World) (h : DkAt A w K b d) (ok : d.ok m) (off : Int) (u : Value) (bs : List UInt8) (hb : bs.length ≤ 1000000) (hs : Sl w u bs.length (bcells bs)) (hu : ∀ a c, u = .slice (some a) bs.length c → 0 < (bcells bs).length → A a.block) :
    Calls Try.prog 9 #[.pointer (some ⟨K, 0, none⟩), .int .i64 off, u] w fun e w' => e = .returned (.bool (d.wr off bs).1) ∧ DkAt A w' K b (d.wr off bs).2 ∧ SameOn A w w' := by
  obtain ⟨a, c, rfl⟩ := hs.len
  by_cases h1 : isD off = true
  · by_cases h2 : bs.length = 32
    · by_cases h3 : d.no = false
      · rw [show d.wr off bs = (d.p.spend.1, d.wrote d.p.spend.1 d.p.spend.2 (off, bs)) from if_pos ⟨h1, h2, h3⟩]
        exact disk_write A K b d m hm w h ok h3 off _ bs h1 h2 hs hu _ _ rfl
      · rw [show d.wr off bs = (false, d) from if_neg fun h => h3 h.2.2]
        refine (disk_write_ref A K b d m w h ok off a bs.length c hb h1 h2 (by simpa using h3)).mono ?_
        rintro e w' ⟨rfl, rfl⟩
        exact ⟨rfl, h, SameOn.refl _⟩
    · rw [show d.wr off bs = (false, d) from if_neg fun h => h2 h.2.1]
      refine (disk_write_len A K b d m w h ok off a bs.length c hb h1 h2).mono ?_
      rintro e w' ⟨rfl, rfl⟩
      exact ⟨rfl, h, SameOn.refl _⟩
  · rw [show d.wr off bs = (false, d) from if_neg fun h => h1 h.1]
    refine (disk_write_no A K b d m w h ok off a bs.length c hb (by simpa using h1)).mono ?_
    rintro e w' ⟨rfl, rfl⟩
    exact ⟨rfl, h, SameOn.refl _⟩
theorem rd_wr (A : Nat → Prop) (K b : Nat) (d : Dk) (m : Nat) (hm : m ≤ 1000) (w : World) (h : RdAt A w K b d) (ok : d.ok m) (off : Int) (u : Value) (bs : List UInt8) (hb : bs.length ≤ 1000000) (hs : Sl w u bs.length (bcells bs)) (hu : ∀ a c, u = .slice (some a) bs.length c → 0 < (bcells bs).length → A a.block) :
    Calls Try.prog 20 #[.pointer (some ⟨K, 0, none⟩), .int .i64 off, u] w fun e w' => e = .returned (.bool (d.wr off bs).1) ∧ RdAt A w' K b (d.wr off bs).2 ∧ SameOn A w w' := by
  obtain ⟨a, c, rfl⟩ := hs.len
  by_cases h1 : isD off = true
  · by_cases h2 : bs.length = 32
    · by_cases h3 : d.no = false
      · rw [show d.wr off bs = (d.p.spend.1, d.wrote d.p.spend.1 d.p.spend.2 (off, bs)) from if_pos ⟨h1, h2, h3⟩]
        exact rd_write A K b d m hm w h ok h3 off _ bs h1 h2 hs hu _ _ rfl
      · rw [show d.wr off bs = (false, d) from if_neg fun h => h3 h.2.2]
        refine (rd_write_ref A K b d m w h ok off a bs.length c hb h1 h2 (by simpa using h3)).mono ?_
        rintro e w' ⟨rfl, rfl⟩
        exact ⟨rfl, h, SameOn.refl _⟩
    · rw [show d.wr off bs = (false, d) from if_neg fun h => h2 h.2.1]
      refine (rd_write_len A K b d m w h ok off a bs.length c hb h1 h2).mono ?_
      rintro e w' ⟨rfl, rfl⟩
      exact ⟨rfl, h, SameOn.refl _⟩
  · rw [show d.wr off bs = (false, d) from if_neg fun h => h1 h.1]
    refine (rd_write_no A K b d m w h ok off a bs.length c hb (by simpa using h1)).mono ?_
    rintro e w' ⟨rfl, rfl⟩
    exact ⟨rfl, h, SameOn.refl _⟩
theorem disk_rd (A : Nat → Prop) (K b : Nat) (d : Dk) (m : Nat) (hm : m ≤ 1000) (w : World) (h : DkAt A w K b d) (ok : d.ok m) (off : Int) :
    Calls Try.prog 11 #[.pointer (some ⟨K, 0, none⟩), .int .i64 off] w fun e w' => ∃ v, e = .returned (.tuple #[v, .bool (d.rd off).isSome]) ∧ Sl w' v ((d.rd off).getD []).length (bcells ((d.rd off).getD [])) ∧ Kept w w' := by
  by_cases h1 : isD off = true
  · by_cases h2 : d.p.gone = false
    · obtain ⟨o, rfl, ho⟩ := isD_lt h1
      rw [show d.rd (o : Int) = some (d.read o) from if_pos ⟨h1, h2⟩]
      refine (disk_read A K b d m hm w h ok o ho h2).mono ?_
      rintro e w' ⟨v, rfl, hv, hk⟩
      exact ⟨v, rfl, by show Sl w' v (d.read o).length (bcells (d.read o)); rw [Dk.read_length ok ho]; exact Sl.of_own hv, hk⟩
    · rw [show d.rd off = none from if_neg fun h => h2 h.2]
      refine (disk_read_off A K b d m w h ok off h1 (by simpa using h2)).mono ?_
      rintro e w' ⟨rfl, rfl⟩
      exact ⟨_, rfl, Sl.nil _, Below.refl _ _⟩
  · rw [show d.rd off = none from if_neg fun h => h1 h.1]
    refine (disk_read_no A K b d w h off (by simpa using h1)).mono ?_
    rintro e w' ⟨rfl, rfl⟩
    exact ⟨_, rfl, Sl.nil _, Below.refl _ _⟩
theorem rd_rd (A : Nat → Prop) (K b : Nat) (d : Dk) (m : Nat) (hm : m ≤ 1000) (w : World) (h : RdAt A w K b d) (ok : d.ok m) (off : Int) :
    Calls Try.prog 22 #[.pointer (some ⟨K, 0, none⟩), .int .i64 off] w fun e w' => ∃ v, e = .returned (.tuple #[v, .bool (d.rd off).isSome]) ∧ Sl w' v ((d.rd off).getD []).length (bcells ((d.rd off).getD [])) ∧ Kept w w' := by
  by_cases h1 : isD off = true
  · by_cases h2 : d.p.gone = false
    · obtain ⟨o, rfl, ho⟩ := isD_lt h1
      rw [show d.rd (o : Int) = some (d.read o) from if_pos ⟨h1, h2⟩]
      exact rd_read A K b d m hm w h ok o ho h2
    · rw [show d.rd off = none from if_neg fun h => h2 h.2]
      refine (rd_read_off A K b d w h off h1 (by simpa using h2)).mono ?_
      rintro e w' ⟨rfl, rfl⟩
      exact ⟨_, rfl, Sl.nil _, Below.refl _ _⟩
  · rw [show d.rd off = none from if_neg fun h => h1 h.1]
    refine (rd_read_no K w off (by simpa using h1)).mono ?_
    rintro e w' ⟨rfl, rfl⟩
    exact ⟨_, rfl, Sl.nil _, Below.refl _ _⟩
end Go.Proofs.Ytpbdncnepcibaaa
