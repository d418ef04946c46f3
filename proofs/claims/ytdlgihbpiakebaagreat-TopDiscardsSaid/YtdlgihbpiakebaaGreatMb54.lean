import Derived.Test.YtdlgihbpiakebaaGreatMb53
import Derived.Test.YtdlgihbpiakebaaGreatRows
set_option maxRecDepth 100000
set_option maxHeartbeats 4000000
namespace Go.Proofs.YtdlgihbpiakebaaGreat
open Go Go.RowKit
theorem qFv (lba : Int) (d : UInt8) (rot : Bool) (v : Value) (ks : List Bool) (w : World) (h : Sl w v ks.length (qB6 ks)) : Calls Tryz.prog 4 #[.int .i64 lba,V8 d,.bool rot,v] w fun e w'=>e = .returned (.bool true) ∧ qA4 w w':=by
 obtain ⟨a,cap,rfl⟩:=h.len
 by_cases l1 : lba < 0
 · go_enter Tryz.func4,Tryz.ntmps4
   go_wp2_with fail
   refine bodyPost_ret (v:=.bool true) (by simp [results,Tryz.results4,go_sem];done) rfl ⟨rfl,Below.refl _ _⟩
 by_cases l2 : 32 ≤ lba
 · go_enter Tryz.func4,Tryz.ntmps4
   go_wp2_with fail
   refine bodyPost_ret (v:=.bool true) (by simp [results,Tryz.results4,go_sem];done) rfl ⟨rfl,Below.refl _ _⟩
 by_cases l3 : (20 : Int) < (ks.length : Int)
 · obtain ⟨N,hN⟩ : ∃ N,N = ks.length:=⟨_,rfl⟩
   rw [← hN] at l3 ⊢
   clear hN h
   go_enter Tryz.func4,Tryz.ntmps4
   go_wp2_with fail
   refine bodyPost_ret (v:=.bool true) (by simp [results,Tryz.results4,go_sem];done) rfl ⟨rfl,Below.refl _ _⟩
 · exact qGv lba d rot a cap ks w h (by omega) (by omega)
namespace topDiscardsRow
open Go.ChangeShapes Go.WideShapes Go.ChangeAt Go.RowKit
theorem own : ownKnob Tryz.prog.godebug = none:=by kernel_rfl
theorem qQt : laidOutB Tryz.prog = true:=by kernel_rfl
theorem qRo (os : Os) (started : os.Started) (H : Type) (enc : TypeId × Value → H) :
 ReturnsInHanded {} Tryz.checked os 4 .any (Rows.topDiscardsSpec.pre6 enc Tryz.prog Tryz.f4 Rows.topDiscardsRow.domain false) (Rows.topDiscardsSpec.post enc Tryz.prog Tryz.f4 false true false false):=by
 refine returnsInHanded_of_change (C:=Tryz.checked) own started (by kernel_rfl) Tryz.func4
  (ChangeSpec.witness6 (enc:=enc) (C:=Tryz.checked) false ⟨#[],#[.int .i64 0,.int .u8 0,.bool false,.slice none 0 0],[]⟩ 8 (by kernel_rfl) (by kernel_rfl) (by kernel_rfl) (by kernel_rfl)) ?_
 intro W base args ds gs before hval0 hW _ hsz
 have hval : ∀ (j : Nat) t v,Tryz.f4.params[j]? = some t → args[j]? = some v → Value.okWide Tryz.prog W .any base t v:=hval0
 have hW':=hW
 obtain ⟨p,q,hA0,hV,rfl,hfz,hnd⟩:=hW
 have hA : DataW.TrodAll enc Tryz.prog W 0 (fun _=>true) true Tryz.f4.params.toList args.toList ds p:=hA0
 rw [Tryz.params4] at hA hval
 obtain ⟨v0,vs0,d0,ds0,p0,q0,hargs,rfl,rfl,h0,r0⟩:=trodAll_cons hA
 obtain ⟨v1,vs1,d1,ds1,p1,q1,rfl,rfl,rfl,h1,r1⟩:=trodAll_cons r0
 obtain ⟨v2,vs2,d2,ds2,p2,q2,rfl,rfl,rfl,h2,r2⟩:=trodAll_cons r1
 obtain ⟨v3,vs3,d3,ds3,p3,q3,rfl,rfl,rfl,h3,r3⟩:=trodAll_cons r2
 obtain ⟨rfl,rfl,rfl⟩:=trodAll_nil r3
 obtain rfl : args = #[v0,v1,v2,v3]:=by cases args;simp_all
 obtain ⟨a0,rfl,lo0,hi0⟩:=qQX Tryz.underlying3 (hval 0 3 v0 rfl rfl) h0
 obtain ⟨a1,rfl⟩:=qPM Tryz.underlying5 (hval 1 5 v1 rfl rfl) h1
 obtain ⟨a2,rfl,_,_⟩:=open_bool Tryz.underlying4 (hval 2 4 v2 rfl rfl) h2
 obtain ⟨k3,a3⟩:=qLf (H:=H) Tryz.underlying35 Tryz.underlying4 (by kernel_rfl) (hval 3 35 v3 rfl rfl) h3
 refine (qFv a0 a1 a2 v3 k3 W a3).mono fun e W' ⟨he,bel⟩=>?_
 subst he
 exact ⟨_,rfl,qOh (tb:=4) qQt (by kernel_rfl) Tryz.underlying4 (by rfl) rfl (by intro xs hxs;match xs,hxs with | [x0,x1,x2,x3],_=>rfl) hW' bel⟩
theorem qS2 : Rows.topDiscardsRow.holds Tryz.pinned (OpenSpec.ofChange Rows.topDiscardsSpec) :=
 OpenClaim.holds_of_wide 4 Tryz.f4 rfl rfl rfl rfl rfl rfl rfl ⟨rfl,rfl,rfl,rfl,rfl⟩ rfl rfl rfl rfl rfl (by kernel_rfl) Tryz.func4 (by kernel_rfl)
  (of_decide_eq_true (by kernel_rfl)) (by unfold Func.isWrapper;rw [if_neg (of_decide_eq_false (by kernel_rfl))];exact ⟨rfl,rfl⟩)
  (fun os started H enc _=>qRo os started H enc)
end topDiscardsRow
theorem topDiscards_holds : Rows.TopDiscardsSaid:=topDiscardsRow.qS2
#print axioms topDiscards_holds
end Go.Proofs.YtdlgihbpiakebaaGreat
