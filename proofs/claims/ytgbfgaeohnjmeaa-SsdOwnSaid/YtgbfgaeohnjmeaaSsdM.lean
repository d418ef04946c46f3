/- More that the laws of chapter 11 share. -/
import Derived.Test.YtgbfgaeohnjmeaaSsdK
import Derived.Test.YtgbfgaeohnjmeaaOpsSame
namespace Go.Proofs.Ytgbfgaeohnjmeaa
open Go Go.RowKit

theorem nf_pok (k : Nat) : (Pw.nf k).gone = false := rfl
theorem barrier_nf (A : Nat → Prop) (K k : Nat) (s : Sd) (n m : Nat) (h0 : 0 < n) (hn : n ≤ 65536) (hm : m ≤ 999) (w : World) (h : SdAt A w K s) (ok : s.ok n m) (hp : s.p = Pw.nf k) :
    Calls Try.prog 10 #[.pointer (some ⟨K, 0, none⟩)] w fun e w' => e = .returned (.bool true) ∧ SdAt A w' K ⟨Pw.nf (k + 1), s.snap, [], s.trace ++ [(-1, [])]⟩ ∧ SameOn A w w' :=
  barrier_any A K s n m h0 hn hm w h ok true (Pw.nf (k + 1)) (by rw [hp]; exact nf_spend k)
theorem barred_ok {s : Sd} {n m k : Nat} (h : s.ok n m) (hk : k ≤ m) : Sd.ok ⟨Pw.nf (k + 1), s.snap, [], s.trace ++ [(-1, [])]⟩ n (m + 1) :=
  ⟨Sd.snap_length h, by simp, fun y hy => by
    rcases List.mem_append.1 hy with hy | hy
    · exact h.fitp y hy
    · rw [List.mem_singleton.1 hy]; decide, by simp, by have := h.done; simp; omega, nf_okm _ _ (by omega)⟩
theorem crashed_ok {s : Sd} {n m : Nat} (h : s.ok n m) (is : Nat → Bool) : Sd.ok { s with lasts := layIs s.lasts s.waits is s.waits.length, waits := [] } n m :=
  ⟨(layIs_length _ _ _ (fun x hx => by rw [h.len]; exact h.fit x hx) _ (Nat.le_refl _)).trans h.len, by simp, h.fitp, by simp, h.done, h.pw⟩

end Go.Proofs.Ytgbfgaeohnjmeaa
