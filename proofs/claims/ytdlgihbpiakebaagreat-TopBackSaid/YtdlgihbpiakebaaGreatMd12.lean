import Derived.Test.YtdlgihbpiakebaaGreatMd02
import Derived.Test.YtdlgihbpiakebaaGreatProg
import Derived.Outline
import Derived.Lib.Hide
set_option maxRecDepth 100000
set_option maxHeartbeats 4000000
namespace Go.Proofs.YtdlgihbpiakebaaGreat
open Go Go.RowKit Tryz
theorem qJb (a1 a2 b1 b2 : BitVec 64) (w : World) :
 Calls prog 130 #[.agg #[U a1,U a2],.agg #[U b1,U b2]] w fun e w'=>e = .returned (Pr (qIS (a1,a2) (b1,b2))) ∧ qA4 w w':=by
 go_enter func130,ntmps130
 go_wp2
 exact bodyPost_ret (v:=Pr (qIS (a1,a2) (b1,b2))) (by simp [results,results130,go_sem,qIS]) rfl ⟨rfl,((qal _).alloc (by simp) _).alloc (by simp;omega) _⟩
theorem qKU (a1 a2 : BitVec 64) (w : World) :
 Calls prog 182 #[.agg #[U a1,U a2]] w fun e w'=>e = .returned (Pr (qPy (a1,a2))) ∧ qA4 w w':=by
 by_cases h : (a1 >>> 63 == 1#64) = true
 all_goals
  go_enter func182,ntmps182
  go_wp2
  exact bodyPost_ret (v:=Pr (qPy (a1,a2))) (by simp [results,results182,go_sem,qPy,h]) rfl ⟨rfl,((qal _).alloc (by simp) _).alloc (by simp;omega) _⟩
theorem qPF (a1 a2 b1 b2 : BitVec 64) (w : World) :
 Calls prog 166 #[.agg #[U a1,U a2],.agg #[U b1,U b2]] w fun e w'=>e = .returned (Pr (qNY (a1,a2) (b1,b2))) ∧ qA4 w w':=by
 go_enter func166,ntmps166
 go_wp2_with fail
 go_loopw [7] (fun i wr=>∃ k : Nat,k ≤ 128 ∧ i = .int .i64 k ∧
  Blk wr (w.heap.size + 1 + 1 + 1) #[U (qD5 (a1,a2) (b1,b2) k).1,U (qD5 (a1,a2) (b1,b2) k).2] 115 ∧
  Below (w.heap.size + 1 + 1 + 1) ((((w.alloc (.cells #[U a1,U a2] 115)).alloc (.cells #[U b1,U b2] 115)).alloc (.cells #[U 0#64,U 0#64] 115)).alloc (.cells #[U 0#64,U 0#64] 115)) wr)
  (fun i _=>128 - (intOf i).toNat)
 case atStart=>exact ⟨0,by omega,rfl,by simpa [qD5] using Blk.new (((w.alloc (.cells #[U a1,U a2] 115)).alloc (.cells #[U b1,U b2] 115)).alloc (.cells #[U 0#64,U 0#64] 115)) #[U 0#64,U 0#64] 115,Below.refl _ _⟩
 case round =>
  obtain ⟨k,hk,rfl,ho,hb⟩:=hrel
  have hbA : Blk wr w.heap.size #[U a1,U a2] 115:=(((((Blk.new w _ _).alloc _).alloc _).alloc _)).below hb (by omega)
  have hbB : Blk wr (w.heap.size + 1) #[U b1,U b2] 115:=((((by simpa using Blk.new (w.alloc (.cells #[U a1,U a2] 115)) #[U b1,U b2] 115 : Blk ((w.alloc (.cells #[U a1,U a2] 115)).alloc (.cells #[U b1,U b2] 115)) (w.heap.size + 1) #[U b1,U b2] 115).alloc _).alloc _)).below hb (by omega)
  have hbR : Blk wr (w.heap.size + 1 + 1) #[U 0#64,U 0#64] 115:=((by simpa using Blk.new ((w.alloc (.cells #[U a1,U a2] 115)).alloc (.cells #[U b1,U b2] 115)) #[U 0#64,U 0#64] 115 : Blk (((w.alloc (.cells #[U a1,U a2] 115)).alloc (.cells #[U b1,U b2] 115)).alloc (.cells #[U 0#64,U 0#64] 115)) (w.heap.size + 1 + 1) #[U 0#64,U 0#64] 115).alloc _).below hb (by omega)
  by_cases hlt : k < 128
  · have o0:=ho.cell 0
    have o1:=ho.cell 1
    have f0:=ho.free 0
    have f1:=ho.free 1
    obtain ⟨q,hq,hr,hs,hs',hsel⟩ : ∃ q : Nat,(k : Int) / 64 = q ∧ (63 : Int) - (k : Int) % 64 = ((63 - k % 64 : Nat) : Int) ∧ q < 2 ∧ ((q : Int)).toNat = q ∧ (∀ w' : World,Blk w' (w.heap.size + 1) #[U b1,U b2] 115 → w'.cell? ⟨w.heap.size + 1,q,none⟩ = some (U (if k < 64 then b1 else b2))):=by
     refine ⟨k / 64,by omega,by omega,by omega,by omega,fun w' hw'=>?_⟩
     rw [hw'.cell]
     by_cases h64 : k < 64
     · rw [if_pos h64,show k / 64 = 0 by omega];rfl
     · rw [if_neg h64,show k / 64 = 1 by omega];rfl
    have hq2 : (q : Int) < 2:=by omega
    cases hbit : qQt (b1,b2) k
    all_goals
     have hbit' : (((if k < 64 then b1 else b2) >>> (63 - k % 64)) &&& 1#64 == 1#64) = qQt (b1,b2) k:=by
      unfold qQt
      by_cases h64 : k < 64
      · rw [if_pos h64,if_pos h64,show k % 64 = k by omega]
      · rw [if_neg h64,if_neg h64,show 63 - k % 64 = 127 - k by omega]
     rw [hbit] at hbit'
     have HB:=qh hbit
     clear hbit
     generalize (if k < 64 then b1 else b2) = sel at hbit' hsel
     go_wp2_with first | (go_at_call 130;refine (qJb _ _ _ _ _).mono ?_;rintro e w2 ⟨rfl,hb2⟩;have ho2:=((ho1.set 0 _).set 1 _).kept hb2;clear o0 o1 f0 f1 p0 p1;have o0:=ho2.cell 0;have o1:=ho2.cell 1;have f0:=ho2.free 0;have f1:=ho2.free 1;have Hk2:=qh hb2;clear hb2) | (go_at_call 182;refine (qKU _ _ _).mono ?_;rintro e w1 ⟨rfl,hb1⟩;have ho1:=ho.kept hb1;have hA1:=hbA.kept hb1;have hB1:=hbB.kept hb1;have hcs:=hsel _ hB1;clear o0 o1 f0 f1;have o0:=ho1.cell 0;have o1:=ho1.cell 1;have f0:=ho1.free 0;have f1:=ho1.free 1;have p0:=hA1.cell 0;have p1:=hA1.cell 1;have Hk:=qh hb1;clear hb1)
    · exact ⟨⟨k + 1,by omega,by go_num,by rw [qLW HB.out];exact (ho1.set 0 _).set 1 _,((hb.trans (Hk.out.mono (Nat.le_of_lt ho.lt))).setCell qle _).setCell qle _⟩,by simp [intOf];omega⟩
    · exact ⟨⟨k + 1,by omega,by go_num,by rw [qKL HB.out];exact (ho2.set 0 _).set 1 _,((((((hb.trans (Hk.out.mono (Nat.le_of_lt ho.lt))).setCell qle _).setCell qle _)).trans (Hk2.out.mono (Nat.le_of_lt ((ho1.set 0 _).set 1 _).lt))).setCell qle _).setCell qle _⟩,by simp [intOf];omega⟩
  · have : k = 128:=by omega
    subst this
    have o0:=ho.cell 0
    have o1:=ho.cell 1
    have r0:=hbR.cell 0
    have r1:=hbR.cell 1
    have f0:=hbR.free 0
    have f1:=hbR.free 1
    go_wp2
    refine bodyPost_ret (v:=Pr (qNY (a1,a2) (b1,b2))) (by simp [results,results166,go_sem,qNY,r0,r1]) rfl ⟨rfl,?_⟩
    exact (((((((qal _).alloc (by simp) _).alloc (by simp;omega) _).alloc (by simp;omega) _).trans (hb.mono (by omega))).setCell (by simp;omega) _).setCell (by simp;omega) _)
theorem qM8 : prog.cellsOf 29 = 1:=by kernel_rfl
@[go_sem] theorem qRu (a b c f : BitVec 64) (w : World) : (Op.equalIn 10000 115 (.agg #[U a,U b]) (.agg #[U c,U f])).run prog w = .ok ((a,b) == (c,f)) w :=
 qDf w 9998 115 29 underlying115 underlying29 qM8 a b c f
end Go.Proofs.YtdlgihbpiakebaaGreat
