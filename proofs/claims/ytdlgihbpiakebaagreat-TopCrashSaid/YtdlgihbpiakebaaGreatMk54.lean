import Derived.Test.YtdlgihbpiakebaaGreatMk53
import Derived.Test.YtdlgihbpiakebaaGreatRows
set_option maxRecDepth 100000
set_option maxHeartbeats 4000000
namespace Go.Proofs.YtdlgihbpiakebaaGreat
open Go Go.RowKit
namespace topCrashRow
open Go.ChangeShapes Go.WideShapes Go.ChangeAt Go.RowKit
theorem own:ownKnob Tryz.prog.godebug=none:=by kernel_rfl
theorem qRB:laidOutB Tryz.prog=true:=by kernel_rfl
theorem qSz (os:Os)(started:os.Started)(H:Type)(enc:TypeId×Value→H) :
 ReturnsInHanded {} Tryz.checked os 6 .any (Rows.topCrashSpec.pre6 enc Tryz.prog Tryz.f6 Rows.topCrashRow.domain false) (Rows.topCrashSpec.post enc Tryz.prog Tryz.f6 false true false false):=by
 refine returnsInHanded_of_change (C:=Tryz.checked) own started (by kernel_rfl) Tryz.func6
  (ChangeSpec.witness6 (enc:=enc) (C:=Tryz.checked) false ⟨#[],#[.int .i64 0,.slice none 0 0],[]⟩ 8 (by kernel_rfl) (by kernel_rfl) (by kernel_rfl) (by kernel_rfl)) ?_
 intro W base args ds gs h f hW _ a6
 have c:∀(j:Nat) t v,Tryz.f6.params[j]? = some t→args[j]? = some v→Value.okWide Tryz.prog W .any base t v:=f
 have N:=hW
 obtain⟨p,q,F,hV,rfl,a2,V⟩:=hW
 have O:DataW.TrodAll enc Tryz.prog W 0 (fun _=>true) true Tryz.f6.params.toList args.toList ds p:=F
 rw[Tryz.params6]at O c
 obtain⟨v0,Y,d0,a7,p0,q0,I,rfl,rfl,Z,r0⟩:=trodAll_cons O
 obtain⟨l,a3,d1,a4,p1,q1,rfl,rfl,rfl,h1,r1⟩:=trodAll_cons r0
 obtain⟨rfl,rfl,rfl⟩:=trodAll_nil r1
 obtain rfl:args=#[v0,l]:=by cases args;simp_all
 obtain⟨a0,rfl,a8,a5⟩:=qS5 Tryz.underlying3 (c 0 3 v0 rfl rfl) Z
 obtain⟨l1,G,a1⟩:=qJu (c 1 22 l rfl rfl) h1
 refine(qIs a0 l l1 G W a1).mono fun e W' ⟨he,bel⟩=>?_
 subst he
 exact⟨_,rfl,qP8 (tb:=4) qRB (by kernel_rfl) Tryz.underlying4 (by rfl) rfl (by intro xs J;match xs,J with| [x0,x1],_=>rfl) N bel⟩
theorem over:Rows.topCrashRow.holds Tryz.pinned (OpenSpec.ofChange Rows.topCrashSpec):=
 OpenClaim.holds_of_wide 6 Tryz.f6 rfl rfl rfl rfl rfl rfl rfl ⟨rfl,rfl,rfl,rfl,rfl⟩ rfl rfl rfl rfl rfl (by kernel_rfl) Tryz.func6 (by kernel_rfl)
  (of_decide_eq_true (by kernel_rfl)) (by unfold Func.isWrapper;rw[if_neg (of_decide_eq_false (by kernel_rfl))];exact⟨rfl,rfl⟩)
  (fun os c H enc _=>qSz os c H enc)
end topCrashRow
theorem topCrash_holds:Rows.TopCrashSaid:=topCrashRow.over
#print axioms topCrash_holds
end Go.Proofs.YtdlgihbpiakebaaGreat
