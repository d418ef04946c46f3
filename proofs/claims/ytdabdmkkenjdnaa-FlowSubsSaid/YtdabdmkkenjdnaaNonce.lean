/- What a Nonce that is handed in reads as. -/
import Derived.Test.YtdabdmkkenjdnaaFlowD
import Derived.Test.YtdabdmkkenjdnaaFrame
import Derived.Lib.SmallJoins
namespace Go.Proofs.Ytdabdmkkenjdnaa
open Go Go.RowKit Go.ChangeShapes Go.WideShapes Go.ChangeAt Go.Deep Go.Joins

section
variable {H : Type} {enc : TypeId × Value → H} {P : Program} {w : World} {base : Nat} {spare : Nat → Bool} {held : Bool} {r : Reach} {b0 : Nat}
theorem open_nonce {t : TypeId} {f0 f1 f2 : Field} {v : Value} {d : DataW H} {p : List MemPlace} (hs : P.underlying t = some (.struct #[f0, f1, f2])) (hone : oneCellFields P #[f0, f1, f2] = true) (hC : P.cellsOf t = 3)
    (h0 : P.underlying f0.type = some (.int .u32)) (h1 : P.underlying f1.type = some (.int .u32)) (h2 : P.underlying f2.type = some (.int .u64))
    (hval : Value.okWide P w r b0 t v) (hd : DataW.Trod enc P w base spare held t v d p) : ∃ n : Nn, v = n.val := by
  obtain ⟨v0, v1, v2, y0, y1, y2, n, rfl, _, _, g0, g1, g2⟩ := open_agg3 hs hone hC hval hd
  obtain ⟨n0, e0, _, w0⟩ := DataW.trod_int h0 g0
  obtain ⟨n1, e1, _, w1⟩ := DataW.trod_int h1 g1
  obtain ⟨n2, e2, _, w2⟩ := DataW.trod_int h2 g2
  simp at e0 e1 e2
  subst e0 e1 e2
  obtain ⟨x0, k0⟩ := wf_W w0
  obtain ⟨x1, k1⟩ := wf_W w1
  obtain ⟨x2, k2⟩ := wf_U w2
  exact ⟨⟨x0, x1, x2⟩, by rw [Nn.val, k0, k1, k2]⟩
end

end Go.Proofs.Ytdabdmkkenjdnaa
