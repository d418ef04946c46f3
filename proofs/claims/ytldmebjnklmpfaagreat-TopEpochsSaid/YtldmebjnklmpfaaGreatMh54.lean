import Derived.Test.YtldmebjnklmpfaaGreatMh53
import Derived.Test.YtldmebjnklmpfaaGreatRows
set_option maxRecDepth 100000
set_option maxHeartbeats 4000000
namespace Go.Proofs.YtldmebjnklmpfaaGreat
open Go Go.RowKit
namespace topEpochsRow
open Go.ChangeShapes Go.WideShapes Go.ChangeAt Go.RowKit
theorem own : ownKnob Tryz.prog.godebug = none:=by kernel_rfl
theorem laidOut : laidOutB Tryz.prog = true:=by kernel_rfl
theorem lifted (os : Os) (started : os.Started) (H : Type) (enc : TypeId × Value → H) :
 ReturnsInHanded {} Tryz.checked os 7 .any (Rows.topEpochsSpec.pre6 enc Tryz.prog Tryz.f7 Rows.topEpochsRow.domain false) (Rows.topEpochsSpec.post enc Tryz.prog Tryz.f7 false true false false):=by
 refine returnsInHanded_of_change (C:=Tryz.checked) own started (by kernel_rfl) Tryz.func7
  (ChangeSpec.witness6 (enc:=enc) (C:=Tryz.checked) false ⟨#[],#[.int .i64 0,.slice none 0 0],[]⟩ 8 (by kernel_rfl) (by kernel_rfl) (by kernel_rfl) (by kernel_rfl)) ?_
 intro W base args ds gs before hval0 hW _ hsz
 have hval : ∀ (j : Nat) t v,Tryz.f7.params[j]? = some t → args[j]? = some v → Value.okWide Tryz.prog W .any base t v:=hval0
 have hW':=hW
 obtain ⟨p,q,hA0,hV,rfl,hfz,hnd⟩:=hW
 have hA : DataW.TrodAll enc Tryz.prog W 0 (fun _=>true) true Tryz.f7.params.toList args.toList ds p:=hA0
 rw [Tryz.params7] at hA hval
 obtain ⟨v0,vs0,d0,ds0,p0,q0,hargs,rfl,rfl,h0,r0⟩:=trodAll_cons hA
 obtain ⟨v1,vs1,d1,ds1,p1,q1,rfl,rfl,rfl,h1,r1⟩:=trodAll_cons r0
 obtain ⟨rfl,rfl,rfl⟩:=trodAll_nil r1
 obtain rfl : args = #[v0,v1]:=by cases args;simp_all
 obtain ⟨a0,rfl,lo0,hi0⟩:=open_I Tryz.underlying3 (hval 0 3 v0 rfl rfl) h0
 obtain ⟨l1,rs1,a1⟩:=open_topacts (hval 1 22 v1 rfl rfl) h1
 refine (topEpochs_walk a0 v1 l1 rs1 W a1).mono fun e W' ⟨he,bel⟩=>?_
 subst he
 exact ⟨_,rfl,law_post (tb:=4) laidOut (by kernel_rfl) Tryz.underlying4 (by rfl) rfl (by intro xs hxs;match xs,hxs with | [x0,x1],_=>rfl) hW' bel⟩
theorem over : Rows.topEpochsRow.holds Tryz.pinned (OpenSpec.ofChange Rows.topEpochsSpec) :=
 OpenClaim.holds_of_wide 7 Tryz.f7 rfl rfl rfl rfl rfl rfl rfl ⟨rfl,rfl,rfl,rfl,rfl⟩ rfl rfl rfl rfl rfl (by kernel_rfl) Tryz.func7 (by kernel_rfl)
  (of_decide_eq_true (by kernel_rfl)) (by unfold Func.isWrapper;rw [if_neg (of_decide_eq_false (by kernel_rfl))];exact ⟨rfl,rfl⟩)
  (fun os started H enc _=>lifted os started H enc)
end topEpochsRow
theorem topEpochs_holds : Rows.TopEpochsSaid:=topEpochsRow.over
#print axioms topEpochs_holds
end Go.Proofs.YtldmebjnklmpfaaGreat
