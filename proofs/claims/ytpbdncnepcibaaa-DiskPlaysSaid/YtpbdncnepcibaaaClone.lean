/- What bytes.Clone computes. -/
import Derived.Test.YtpbdncnepcibaaaStr
import Derived.Test.YtpbdncnepcibaaaRowz
import Derived.Test.YtpbdncnepcibaaaWireW
namespace Go.Proofs.Ytpbdncnepcibaaa
open Go Go.RowKit

set_option maxRecDepth 100000 in
set_option maxHeartbeats 2000000 in
theorem clone_any (v : Value) (bs : List UInt8) (hl : bs.length ≤ 70000) (w : World) (h : Sl w v bs.length (bcells bs)) :
    Calls Try.prog 31 #[v] w fun e w' => ∃ r, e = .returned r ∧ w'.ownsRow w.heap.size 5 1 r bs.length (bcells bs) ∧ Kept w w' := by
  have hnil := fun (wx : World) a n c => Lib.run_eql_slice_nil (P := Try.prog) wx 22 5 a n c 0 0 Try.underlying22
  rcases h.form with ⟨rfl, h0, h1⟩ | ⟨a, cap, hv⟩
  · rw [h0, h1]
    go_enter Try.func31, Try.ntmps31
    go_wp2
    go_ret
    exact ⟨_, rfl, World.ownsRow_nil _ _ _ _, Below.refl _ _⟩
  · subst hv
    have hk : Kept w (w.alloc (.cells #[] 5)) := (Below.refl _ _).alloc (Nat.le_refl _) _
    have ho : (w.alloc (.cells #[] 5)).ownsRow w.heap.size 5 1 (.slice (some ⟨w.heap.size, 0, none⟩) 0 0) 0 (bcells []) := own_made 0 (by decide) 5 [] rfl (Blk.new _ _ _) (Nat.le_refl _)
    have h2 := h.kept hk
    go_enter Try.func31, Try.ntmps31
    go_wp2_with (at_builtin; refine wpList_append sl_bytes rfl (by rfl) (by rfl) (by rfl) ho h2 (by simp [bcells]) (oneCell_V8 bs) (by unfold maxLen; omega) (by omega) (by simp) ?_; intro v' w1 hown1 hg1 hat1)
    go_ret
    exact ⟨_, rfl, by simpa [bcells] using hown1, below_append hk ho hg1 (by simp)⟩
end Go.Proofs.Ytpbdncnepcibaaa
