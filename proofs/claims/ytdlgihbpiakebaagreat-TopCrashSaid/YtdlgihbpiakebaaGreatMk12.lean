import Derived.Test.YtdlgihbpiakebaaGreatMk02
import Derived.Test.YtdlgihbpiakebaaGreatProg
import Derived.Outline
import Derived.Lib.Hide
set_option maxRecDepth 100000
set_option maxHeartbeats 4000000
namespace Go.Proofs.YtdlgihbpiakebaaGreat
open Go Go.RowKit Tryz
theorem qJW (a1 a2 b1 b2:BitVec 64)(w:World) :
 Calls prog 130 #[.agg #[U a1,U a2],.agg #[U b1,U b2]] w fun e w'=>e= .returned (Pr (qJF (a1,a2) (b1,b2)))∧qA4 w w':=by
 go_enter func130,ntmps130
 go_wp2
 exact bodyPost_ret (v:=Pr (qJF (a1,a2) (b1,b2))) (by simp[results,results130,go_sem,qJF]) rfl ⟨rfl,((qal _).alloc (by simp) _).alloc (by simp;omega) _⟩
theorem qLO (a1 a2:BitVec 64)(w:World) :
 Calls prog 182 #[.agg #[U a1,U a2]] w fun e w'=>e= .returned (Pr (qQz (a1,a2)))∧qA4 w w':=by
 by_cases h:(a1>>>63==1#64)=true
 all_goals
  go_enter func182,ntmps182
  go_wp2
  exact bodyPost_ret (v:=Pr (qQz (a1,a2))) (by simp[results,results182,go_sem,qQz,h]) rfl ⟨rfl,((qal _).alloc (by simp) _).alloc (by simp;omega) _⟩
theorem qQG (a1 a2 b1 b2:BitVec 64)(w:World) :
 Calls prog 166 #[.agg #[U a1,U a2],.agg #[U b1,U b2]] w fun e w'=>e= .returned (Pr (qOU (a1,a2) (b1,b2)))∧qA4 w w':=by
 go_enter func166,ntmps166
 go_wp2_with fail
 go_loopw [7] (fun i wr=>∃k:Nat,k≤128∧i= .int .i64 k ∧
  Blk wr (w.heap.size+1+1+1) #[U (qDj (a1,a2) (b1,b2) k).1,U (qDj (a1,a2) (b1,b2) k).2] 115 ∧
  Below (w.heap.size+1+1+1) ((((w.alloc (.cells #[U a1,U a2] 115)).alloc (.cells #[U b1,U b2] 115)).alloc (.cells #[U 0#64,U 0#64] 115)).alloc (.cells #[U 0#64,U 0#64] 115)) wr)
  (fun i _=>128 - (intOf i).toNat)
 case atStart=>exact⟨0,by omega,rfl,by simpa [qDj] using Blk.new (((w.alloc (.cells #[U a1,U a2] 115)).alloc (.cells #[U b1,U b2] 115)).alloc (.cells #[U 0#64,U 0#64] 115)) #[U 0#64,U 0#64] 115,Below.refl _ _⟩
 case round =>
  obtain⟨k,hk,rfl,F,N⟩:=hrel
  have a3:Blk wr w.heap.size #[U a1,U a2] 115:=(((((Blk.new w _ _).alloc _).alloc _).alloc _)).below N (by omega)
  have a5:Blk wr (w.heap.size+1) #[U b1,U b2] 115:=((((by simpa using Blk.new (w.alloc (.cells #[U a1,U a2] 115)) #[U b1,U b2] 115:Blk ((w.alloc (.cells #[U a1,U a2] 115)).alloc (.cells #[U b1,U b2] 115)) (w.heap.size+1) #[U b1,U b2] 115).alloc _).alloc _)).below N (by omega)
  have G:Blk wr (w.heap.size+1+1) #[U 0#64,U 0#64] 115:=((by simpa using Blk.new ((w.alloc (.cells #[U a1,U a2] 115)).alloc (.cells #[U b1,U b2] 115)) #[U 0#64,U 0#64] 115:Blk (((w.alloc (.cells #[U a1,U a2] 115)).alloc (.cells #[U b1,U b2] 115)).alloc (.cells #[U 0#64,U 0#64] 115)) (w.heap.size+1+1) #[U 0#64,U 0#64] 115).alloc _).below N (by omega)
  by_cases a9:k<128
  · have O:=F.cell 0
    have Y:=F.cell 1
    have Z:=F.free 0
    have V:=F.free 1
    obtain⟨q,hq,hr,hs,b3,I⟩:∃q:Nat,(k:Int) / 64=q∧(63:Int) - (k:Int) % 64=((63 - k % 64:Nat):Int)∧q<2∧((q:Int)).toNat=q∧(∀w':World,Blk w' (w.heap.size+1) #[U b1,U b2] 115→w'.cell? ⟨w.heap.size+1,q,none⟩=some (U (if k<64 then b1 else b2))):=by
     refine⟨k / 64,by omega,by omega,by omega,by omega,fun w' a6=>?_⟩
     rw[a6.cell]
     by_cases f:k<64
     · rw[if_pos f,show k / 64=0 by omega];rfl
     · rw[if_neg f,show k / 64=1 by omega];rfl
    have a8:(q:Int)<2:=by omega
    cases hbit:qRF (b1,b2) k
    all_goals
     have l:(((if k<64 then b1 else b2)>>>(63 - k % 64)) &&& 1#64==1#64)=qRF (b1,b2) k:=by
      unfold qRF
      by_cases f:k<64
      · rw[if_pos f,if_pos f,show k % 64=k by omega]
      · rw[if_neg f,if_neg f,show 63 - k % 64=127 - k by omega]
     rw[hbit]at l
     have HB:=qh hbit
     clear hbit
     generalize (if k<64 then b1 else b2)=sel at l I
     go_wp2_with first|(go_at_call 130;refine(qJW _ _ _ _ _).mono ?_;rintro e w2 ⟨rfl,J⟩;have h:=((c.set 0 _).set 1 _).kept J;clear O Y Z V p0 p1;have O:=h.cell 0;have Y:=h.cell 1;have Z:=h.free 0;have V:=h.free 1;have a4:=qh J;clear J)|(go_at_call 182;refine(qLO _ _ _).mono ?_;rintro e w1 ⟨rfl,j⟩;have c:=F.kept j;have a0:=a3.kept j;have a7:=a5.kept j;have hcs:=I _ a7;clear O Y Z V;have O:=c.cell 0;have Y:=c.cell 1;have Z:=c.free 0;have V:=c.free 1;have p0:=a0.cell 0;have p1:=a0.cell 1;have Hk:=qh j;clear j)
    · exact⟨⟨k+1,by omega,by go_num,by rw[qMQ HB.out];exact(c.set 0 _).set 1 _,((N.trans (Hk.out.mono (Nat.le_of_lt F.lt))).setCell qle _).setCell qle _⟩,by simp[intOf];omega⟩
    · exact⟨⟨k+1,by omega,by go_num,by rw[qLF HB.out];exact(h.set 0 _).set 1 _,((((((N.trans (Hk.out.mono (Nat.le_of_lt F.lt))).setCell qle _).setCell qle _)).trans (a4.out.mono (Nat.le_of_lt ((c.set 0 _).set 1 _).lt))).setCell qle _).setCell qle _⟩,by simp[intOf];omega⟩
  · have:k=128:=by omega
    subst this
    have O:=F.cell 0
    have Y:=F.cell 1
    have r0:=G.cell 0
    have r1:=G.cell 1
    have Z:=G.free 0
    have V:=G.free 1
    go_wp2
    refine bodyPost_ret (v:=Pr (qOU (a1,a2) (b1,b2))) (by simp[results,results166,go_sem,qOU,r0,r1]) rfl ⟨rfl,?_⟩
    exact(((((((qal _).alloc (by simp) _).alloc (by simp;omega) _).alloc (by simp;omega) _).trans (N.mono (by omega))).setCell (by simp;omega) _).setCell (by simp;omega) _)
theorem qN2:prog.cellsOf 29=1:=by kernel_rfl
@[go_sem] theorem qSL (a b c f:BitVec 64) (w:World):(Op.equalIn 10000 115 (.agg #[U a,U b]) (.agg #[U c,U f])).run prog w= .ok ((a,b)==(c,f)) w:=
 qDs w 9998 115 29 underlying115 underlying29 qN2 a b c f
end Go.Proofs.YtdlgihbpiakebaaGreat
