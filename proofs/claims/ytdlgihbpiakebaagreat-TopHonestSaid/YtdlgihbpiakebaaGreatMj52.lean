import Derived.Test.YtdlgihbpiakebaaGreatMj50
set_option maxRecDepth 100000
set_option maxHeartbeats 4000000
namespace Go.Proofs.YtdlgihbpiakebaaGreat
open Go Go.RowKit


theorem qNS {log : Int} (h : 2 ≤ log ∧ log ≤ 4) : ∃ n : Nat,wrap64 (2 ^ log.toNat) = (n : Int) ∧ qD9 (n : Int) = true:=by
 have : log = 2 ∨ log = 3 ∨ log = 4:=by omega
 rcases this with rfl | rfl | rfl
 · exact ⟨4,by first | kernel_rfl | (unfold wrap64;decide) | simp [wrap64],rfl⟩
 · exact ⟨8,by first | kernel_rfl | (unfold wrap64;decide) | simp [wrap64],rfl⟩
 · exact ⟨16,by first | kernel_rfl | (unfold wrap64;decide) | simp [wrap64],rfl⟩
theorem AcRows.at {col' : Nat → Nat} {w w' : World} {m : Nat} {x : Ac} {r : Value × Value × Value} (h : AcRows w x r) (hs : qMw x) (e : Ext m (fun _=>0) col' w w') : AcAt col' w' x r.1 r.2.1 r.2.2 :=
 (⟨⟨h.s1,fun _ _ _ _ _=>rfl⟩,⟨h.s2,fun _ _ _ _ _=>rfl⟩,h.s3,fun _ _ _ _=>rfl,by have:=hs.2.1;omega,by have:=hs.1;omega,by have:=hs.2.2;omega⟩ : AcAt (fun _=>0) w x r.1 r.2.1 r.2.2).ext e
end Go.Proofs.YtdlgihbpiakebaaGreat
