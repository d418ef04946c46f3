import Derived.Test.YtdlgihbpiakebaaGreatMd53
import Derived.Test.YtdlgihbpiakebaaGreatRows
set_option maxRecDepth 100000
set_option maxHeartbeats 4000000
namespace Go.Proofs.YtdlgihbpiakebaaGreat
open Go Go.RowKit
theorem qIR (lba : Int) (a c : UInt8) (fl cr : Bool) (w : World) : Calls Tryz.prog 5 #[.int .i64 lba,V8 a,V8 c,.bool fl,.bool cr] w fun e w'=>e = .returned (.bool true) ∧ qA4 w w':=by
 by_cases l1 : lba < 0
 · go_enter Tryz.func5,Tryz.ntmps5
   go_wp2_with fail
   refine bodyPost_ret (v:=.bool true) (by simp [results,Tryz.results5,go_sem];done) rfl ⟨rfl,Below.refl _ _⟩
 by_cases l2 : 32 ≤ lba
 · go_enter Tryz.func5,Tryz.ntmps5
   go_wp2_with fail
   refine bodyPost_ret (v:=.bool true) (by simp [results,Tryz.results5,go_sem];done) rfl ⟨rfl,Below.refl _ _⟩
 · exact qLQ lba a c fl cr w (by omega)
namespace topBackRow
open Go.ChangeShapes Go.WideShapes Go.ChangeAt Go.RowKit
theorem own : ownKnob Tryz.prog.godebug = none:=by kernel_rfl
theorem qQp : laidOutB Tryz.prog = true:=by kernel_rfl
theorem qRi (os : Os) (started : os.Started) (H : Type) (enc : TypeId × Value → H) :
 ReturnsInHanded {} Tryz.checked os 5 .any (Rows.topBackSpec.pre6 enc Tryz.prog Tryz.f5 Rows.topBackRow.domain false) (Rows.topBackSpec.post enc Tryz.prog Tryz.f5 false true false false):=by
 refine returnsInHanded_of_change (C:=Tryz.checked) own started (by kernel_rfl) Tryz.func5
  (ChangeSpec.witness6 (enc:=enc) (C:=Tryz.checked) false ⟨#[],#[.int .i64 0,.int .u8 0,.int .u8 0,.bool false,.bool false],[]⟩ 8 (by kernel_rfl) (by kernel_rfl) (by kernel_rfl) (by kernel_rfl)) ?_
 intro W base args ds gs before hval0 hW _ hsz
 have hval : ∀ (j : Nat) t v,Tryz.f5.params[j]? = some t → args[j]? = some v → Value.okWide Tryz.prog W .any base t v:=hval0
 have hW':=hW
 obtain ⟨p,q,hA0,hV,rfl,hfz,hnd⟩:=hW
 have hA : DataW.TrodAll enc Tryz.prog W 0 (fun _=>true) true Tryz.f5.params.toList args.toList ds p:=hA0
 rw [Tryz.params5] at hA hval
 obtain ⟨v0,vs0,d0,ds0,p0,q0,hargs,rfl,rfl,h0,r0⟩:=trodAll_cons hA
 obtain ⟨v1,vs1,d1,ds1,p1,q1,rfl,rfl,rfl,h1,r1⟩:=trodAll_cons r0
 obtain ⟨v2,vs2,d2,ds2,p2,q2,rfl,rfl,rfl,h2,r2⟩:=trodAll_cons r1
 obtain ⟨v3,vs3,d3,ds3,p3,q3,rfl,rfl,rfl,h3,r3⟩:=trodAll_cons r2
 obtain ⟨v4,vs4,d4,ds4,p4,q4,rfl,rfl,rfl,h4,r4⟩:=trodAll_cons r3
 obtain ⟨rfl,rfl,rfl⟩:=trodAll_nil r4
 obtain rfl : args = #[v0,v1,v2,v3,v4]:=by cases args;simp_all
 obtain ⟨a0,rfl,lo0,hi0⟩:=qQT Tryz.underlying3 (hval 0 3 v0 rfl rfl) h0
 obtain ⟨a1,rfl⟩:=qMb Tryz.underlying5 (hval 1 5 v1 rfl rfl) h1
 obtain ⟨a2,rfl⟩:=qMb Tryz.underlying5 (hval 2 5 v2 rfl rfl) h2
 obtain ⟨a3,rfl,_,_⟩:=open_bool Tryz.underlying4 (hval 3 4 v3 rfl rfl) h3
 obtain ⟨a4,rfl,_,_⟩:=open_bool Tryz.underlying4 (hval 4 4 v4 rfl rfl) h4
 refine (qIR a0 a1 a2 a3 a4 W).mono fun e W' ⟨he,bel⟩=>?_
 subst he
 exact ⟨_,rfl,qOb (tb:=4) qQp (by kernel_rfl) Tryz.underlying4 (by rfl) rfl (by intro xs hxs;match xs,hxs with | [x0,x1,x2,x3,x4],_=>rfl) hW' bel⟩
theorem qRW : Rows.topBackRow.holds Tryz.pinned (OpenSpec.ofChange Rows.topBackSpec) :=
 OpenClaim.holds_of_wide 5 Tryz.f5 rfl rfl rfl rfl rfl rfl rfl ⟨rfl,rfl,rfl,rfl,rfl⟩ rfl rfl rfl rfl rfl (by kernel_rfl) Tryz.func5 (by kernel_rfl)
  (of_decide_eq_true (by kernel_rfl)) (by unfold Func.isWrapper;rw [if_neg (of_decide_eq_false (by kernel_rfl))];exact ⟨rfl,rfl⟩)
  (fun os started H enc _=>qRi os started H enc)
end topBackRow
theorem topBack_holds : Rows.TopBackSaid:=topBackRow.qRW
#print axioms topBack_holds
end Go.Proofs.YtdlgihbpiakebaaGreat
