import Derived.Test.YtdlgihbpiakebaaGreatMk07
import Derived.Test.YtdlgihbpiakebaaGreatMk12
import Derived.Test.YtdlgihbpiakebaaGreatMk20
import Derived.Test.YtdlgihbpiakebaaGreatMk28
import Derived.Test.YtdlgihbpiakebaaGreatMk30
import Derived.Test.YtdlgihbpiakebaaGreatMk33
import Derived.Test.YtdlgihbpiakebaaGreatMk34
import Derived.IntWalk
set_option maxRecDepth 100000
set_option maxHeartbeats 4000000
namespace Go.Proofs.YtdlgihbpiakebaaGreat
open Go Go.RowKit Tryz
@[go_sem high] theorem qSR (a a' d d' e e':BitVec 64) (b b':BitVec 32) (c c':Int) (w:World):(Op.equalIn 10000 148 (.agg #[U a,W b,.int .i64 c,U d,U e]) (.agg #[U a',W b',.int .i64 c',U d',U e'])).run prog w= .ok (decide ((⟨a,b,c,(d,e)⟩:Rt)=⟨a',b',c',(d',e')⟩)) w:=by
 rw[run_equalIn_struct (P:=prog) w 9999 148 _ _ (by kernel_rfl) (by kernel_rfl)]
 have h0:=underlying148
 have u32:=underlying94
 have u64:=underlying29
 have i64:=underlying3
 have pr:=underlying115
 unfold Program.fieldsOf
 rw[h0]
 have n0:("Count" ≠ "_")=True:=by decide
 have n1:("Epoch" ≠ "_")=True:=by decide
 have n2:("Slots" ≠ "_")=True:=by decide
 have n3:("Hash" ≠ "_")=True:=by decide
 have pu:∀(w:World) (x y z:BitVec 64) (b:BitVec 32) (c:Int),(part 29 #[U x,W b,.int .i64 c,U y,U z] 0).run prog w= .ok (U x) w:=fun w x y z b c=>qBP w 29 .u64 u64 _ 0 _ rfl
 have pw:∀(w:World) (x y z:BitVec 64) (b:BitVec 32) (c:Int),(part 94 #[U x,W b,.int .i64 c,U y,U z] 1).run prog w= .ok (W b) w:=fun w x y z b c=>qBP w 94 .u32 u32 _ 1 _ rfl
 have pi:∀(w:World) (x y z:BitVec 64) (b:BitVec 32) (c:Int),(part 3 #[U x,W b,.int .i64 c,U y,U z] 2).run prog w= .ok (.int .i64 c) w:=fun w x y z b c=>qBP w 3 .i64 i64 _ 2 _ rfl
 have pp:∀(w:World) (x y z:BitVec 64) (b:BitVec 32) (c:Int),(part 115 #[U x,W b,.int .i64 c,U y,U z] 3).run prog w= .ok (.agg #[U y,U z]) w:=fun w x y z b c=>qJ1 w _ _ pr qJ2 _ 3
 simp only[Op.eqFields,Sem.run_bind,Sem.run_ite,n0,n1,n2,n3,if_true,pu,pw,pi,pp,Result.andThen_ok,
  fun w=>qGf (P:=prog) w 9998 94 u32,fun w=>qDr (P:=prog) w 9998 29 u64,fun (w:World) (x y:Int)=>run_equalIn_int (P:=prog) w 9998 3 .i64 .i64 x y i64,
  fun w x y z v=>qDs (P:=prog) w 9997 115 29 pr u64 qHg x y z v,Sem.run_pure]
 by_cases h1:a=a'
 · by_cases h2:b=b'
   · by_cases h3:c=c'
     · by_cases h4:(d,e)=(d',e')
       · simp_all
       · have:((d,e)==(d',e'))=false:=by simpa using h4
         simp[h1,h2,h3,this,h4]
     · simp[h1,h2,h3]
   · simp[h1,h2]
 · simp[h1]
@[go_sem] theorem qSS (t:TypeId) (x y:BitVec 32):binOp .neq t (W x) (W y)=pure (.bool (x != y)):=(binOp_neq ..).trans (by
 have:((x.toNat:Int)==(y.toNat:Int))=(x==y):=by
  rw[Bool.eq_iff_iff,beq_iff_eq,beq_iff_eq]
  exact⟨fun h=>BitVec.eq_of_toNat_eq (by omega),fun h=>by rw[h]⟩
 rw[bne,this];rfl)
theorem qKk (n:Nn)(t1 t2:BitVec 64)(vb:Value)(bs:List UInt8)(hl:bs.length=32)(hs:n.slot=65535#32)(w:World)(h:Sl w vb bs.length (qA1 bs)):Calls prog 187 #[n.val,.agg #[vb,U t1,U t2]] w fun e' w'=>∃b,e'= .returned (.tuple #[b,.bool true])∧w'.ownsRow w.heap.size 5 1 b 60 (qA1 (qFV n bs (t1,t2)))∧qA4 w w':=by
 obtain⟨sa,sc,a6⟩:=h.len
 subst a6
 rw[hl]at h ⊢
 unfold Nn.val
 have a1:qA4 w ((w.alloc (.cells #[W n.epoch,W n.slot,U n.version] 113)).alloc (.cells #[.slice sa 32 sc,U t1,U t2] 165)):=(qal _).alloc (by simp) _
 have I:Blk ((w.alloc (.cells #[W n.epoch,W n.slot,U n.version] 113)).alloc (.cells #[.slice sa 32 sc,U t1,U t2] 165)) w.heap.size #[W n.epoch,W n.slot,U n.version] 113:=(Blk.new _ _ _).alloc _
 have J:Blk ((w.alloc (.cells #[W n.epoch,W n.slot,U n.version] 113)).alloc (.cells #[.slice sa 32 sc,U t1,U t2] 165)) (w.heap.size+1) #[.slice sa 32 sc,U t1,U t2] 165:=by simpa using Blk.new (w.alloc (.cells #[W n.epoch,W n.slot,U n.version] 113)) #[.slice sa 32 sc,U t1,U t2] 165
 have V:=h.kept a1
 have b4:(n.slot != 65535#32)=false:=by rw[hs];rfl
 have n0:=I.cell 0
 have n1:=I.cell 1
 have n2:=I.cell 2
 have q0:=J.cell 0
 have q1:=J.cell 1
 have q2:=J.cell 2
 have HL:=qh hl
 have HS:=qh hs
 clear hl hs h
 go_enter func187,ntmps187
 go_wp2_with fail
 clear n0 n1 n2 q0 q1 q2
 refine qA3 [(0,0),(1,0),(2,0),(4,0),(5,0),(7,0),(8,0),(9,0),(10,0),(3,1),(6,1),(11,1),(12,1),(13,1),(14,0),(15,0)] (by kernel_rfl) (by kernel_rfl) ?_
 intro w1 Y
 replace I:=I.kept Y
 replace J:=J.kept Y
 replace V:=V.kept Y
 repeat
  refine qA0 _ rfl (fun K f=>?_)
  first
   | (refine qqP (by rfl) ?_;apply Exists.intro;refine⟨fun w' Z=>?_,f _ ?_⟩;(have c:=I.kept Z;have n0:=c.cell 0;have n1:=c.cell 1;have n2:=c.cell 2;clear c;have d:=J.kept Z;have q0:=d.cell 0;have q1:=d.cell 1;have q2:=d.cell 2;clear d;go_simp;first|done|rfl))
   | refine qqN (by rfl) (f _ ?_)
  clear f K;simp only[Act.put,qqB]
 refine qqH _ rfl (by rfl) (fun K f=>?_)
 go_wp2_with fail
 refine(qAS _ 4 (by omega) (by omega) _).mono ?_
 rintro e w2 ⟨x2,rfl,j,N⟩
 obtain⟨a2,c2,a9⟩:=(Sl.of_own j).len
 subst a9
 have s2:=Sl.of_own j
 clear j
 replace I:=I.kept N
 replace J:=J.kept N
 replace V:=V.kept N
 go_wp2
 refine f _ _ (N) ?_
 clear f K
 try simp only[Act.put,qqB]
 refine qqH _ rfl (by rfl) (fun K f=>?_)
 go_wp2_with fail
 refine(qAS _ 8 (by omega) (by omega) _).mono ?_
 rintro e w3 ⟨x3,rfl,q,G⟩
 obtain⟨a3,c3,a7⟩:=(Sl.of_own q).len
 subst a7
 have s3:=Sl.of_own q
 clear q
 replace I:=I.kept G
 replace J:=J.kept G
 replace V:=V.kept G
 replace s2:=s2.kept G
 go_wp2
 refine f _ _ (G) ?_
 clear f K
 try simp only[Act.put,qqB]
 refine qqH _ rfl (by rfl) (fun K f=>?_)
 go_wp2_with fail
 refine(qBs _ _ _).mono ?_
 rintro e w4 ⟨x4,rfl,F,l⟩
 obtain⟨a4,c4,a8⟩:=(Sl.of_own F).len
 subst a8
 have s4:=Sl.of_own F
 clear F
 replace I:=I.kept l
 replace J:=J.kept l
 replace V:=V.kept l
 replace s2:=s2.kept l
 replace s3:=s3.kept l
 go_wp2
 refine f _ _ (l) ?_
 clear f K
 try simp only[Act.put,qqB]
 refine qqH _ rfl (by rfl) (fun K f=>?_)
 go_wp2
 refine f _ _ (qal _) ?_
 clear f K
 try simp only[Act.put,qqB]
 refine qqH _ rfl (by rfl) (fun K f=>?_)
 go_wp2_with fail
 refine(qCj _ [qAI (n.epoch.setWidth 64) 4,qAI n.version 8,bs,qAJ (t1,t2)] (by simp) (by simp[qA9,qAs,HL.out]) _ (qBG.lit (us:=[.slice a2 4 c2,.slice a3 8 c3,.slice sa 32 sc,.slice a4 16 c4]) (.cons (by rw[qA9];exact s2) (.cons (by rw[qA9];exact s3) (.cons (by rw[HL.out];exact V) (.cons (by rw[qAs];exact s4) .nil)))) 32 4 rfl (by decide))).mono ?_
 rintro e w6 ⟨x6,rfl,O,a5⟩
 go_wp2
 refine f _ _ (a5) ?_
 clear f K
 try simp only[Act.put,qqB]
 repeat
  refine qA0 _ rfl (fun K f=>?_)
  first
   | (refine qqP (by rfl) ?_;apply Exists.intro;refine⟨fun w' Z=>?_,f _ ?_⟩;go_simp;first|done|rfl)
   | refine qqN (by rfl) (f _ ?_)
  clear f K;simp only[Act.put,qqB]
 refine qA6 ?_
 go_wp2
 go_ret2
 have b3: [qAI (n.epoch.setWidth 64) 4,qAI n.version 8,bs,qAJ (t1,t2)].flatten=qFV n bs (t1,t2):=by simp[qFV]
 rw[b3,qCt n bs _ HL.out]at O
 have a0:=(((a1.of Y).of N).of G).of l
 refine⟨x6,rfl,qAh O ?_,(a0.of (qal _)).of a5⟩
 have:=a0.size
 simp
 omega
theorem qMa:∀w:World,(sizeOf 113).run prog w= .ok 3 w:=fun w=>by kernel_rfl
theorem qHV (w:World)(a b c d:BitVec 32)(x y:BitVec 64):(Op.equalIn 9999 113 (.agg #[W a,W b,U x]) (.agg #[W c,W d,U y])).run prog w= .ok (decide (a=c∧b=d∧x=y)) w:=by
 rw[run_equalIn_struct (P:=prog) w 9998 113 _ _ (by kernel_rfl) (by kernel_rfl)]
 have G:=underlying113
 have f:=underlying94
 have h:=underlying29
 unfold Program.fieldsOf
 rw[G]
 have F:("Epoch" ≠ "_")=True:=by decide
 have V:("Slot" ≠ "_")=True:=by decide
 have O:("Version" ≠ "_")=True:=by decide
 have J:∀(w:World) (a b:BitVec 32) (x:BitVec 64),(part 94 #[W a,W b,U x] 0).run prog w= .ok (W a) w:=fun w a b x=>qBP w _ .u32 f _ 0 _ rfl
 have I:∀(w:World) (a b:BitVec 32) (x:BitVec 64),(part 94 #[W a,W b,U x] 1).run prog w= .ok (W b) w:=fun w a b x=>qBP w _ .u32 f _ 1 _ rfl
 have N:∀(w:World) (a b:BitVec 32) (x:BitVec 64),(part 29 #[W a,W b,U x] 2).run prog w= .ok (U x) w:=fun w a b x=>qBP w _ .u64 h _ 2 _ rfl
 simp only[Op.eqFields,Sem.run_bind,Sem.run_ite,F,V,O,if_true,J,I,N,Result.andThen_ok,fun w=>qGf (P:=prog) w 9997 94 f,fun w=>qDr (P:=prog) w 9997 29 h,Sem.run_pure]
 by_cases j:a=c
 · by_cases l:b=d
   · by_cases q:x=y
     · simp[j,l,q]
     · simp[j,l,q]
   · simp[j,l]
 · simp[j]
@[go_sem high] theorem qST (k k' z z':Int) (b b':Bool) (e e' s s':BitVec 32) (v v' t t' u u':BitVec 64) (w:World) :
 (Op.equalIn 10000 117 (.agg #[.int .i64 k,.bool b,.int .i64 z,W e,W s,U v,U t,U u]) (.agg #[.int .i64 k',.bool b',.int .i64 z',W e',W s',U v',U t',U u'])).run prog w =
  .ok (qSP ⟨k,b,z,e,s,v,(t,u)⟩ ⟨k',b',z',e',s',v',(t',u')⟩) w:=by
 unfold qSP
 rw[run_equalIn_struct (P:=prog) w 9999 117 _ _ (by kernel_rfl) (by kernel_rfl)]
 have h0:=underlying117
 have u64:=underlying29
 have i64:=underlying3
 have bo:=underlying4
 have pr:=underlying115
 have nn:=underlying113
 unfold Program.fieldsOf
 rw[h0]
 have n0:("Kind" ≠ "_")=True:=by decide
 have n1:("Dirty" ≠ "_")=True:=by decide
 have n2:("Lba" ≠ "_")=True:=by decide
 have n3:("Nonce" ≠ "_")=True:=by decide
 have n4:("Tag" ≠ "_")=True:=by decide
 have p0:∀(w:World) (k z:Int) (b:Bool) (e s:BitVec 32) (v t u:BitVec 64),(part 3 #[.int .i64 k,.bool b,.int .i64 z,W e,W s,U v,U t,U u] 0).run prog w= .ok (.int .i64 k) w:=fun w k z b e s v t u=>qBP w _ .i64 i64 _ 0 _ rfl
 have p1:∀(w:World) (k z:Int) (b:Bool) (e s:BitVec 32) (v t u:BitVec 64),(part 4 #[.int .i64 k,.bool b,.int .i64 z,W e,W s,U v,U t,U u] 1).run prog w= .ok (.bool b) w:=fun w k z b e s v t u=>qNy w _ bo _ 1 _ rfl
 have p2:∀(w:World) (k z:Int) (b:Bool) (e s:BitVec 32) (v t u:BitVec 64),(part 3 #[.int .i64 k,.bool b,.int .i64 z,W e,W s,U v,U t,U u] 2).run prog w= .ok (.int .i64 z) w:=fun w k z b e s v t u=>qBP w _ .i64 i64 _ 2 _ rfl
 have p3:∀(w:World) (k z:Int) (b:Bool) (e s:BitVec 32) (v t u:BitVec 64),(part 113 #[.int .i64 k,.bool b,.int .i64 z,W e,W s,U v,U t,U u] 3).run prog w= .ok (.agg #[W e,W s,U v]) w:=fun w k z b e s v t u=>qPq w _ _ 3 nn qMa _ 3
 have p4:∀(w:World) (k z:Int) (b:Bool) (e s:BitVec 32) (v t u:BitVec 64),(part 115 #[.int .i64 k,.bool b,.int .i64 z,W e,W s,U v,U t,U u] 6).run prog w= .ok (.agg #[U t,U u]) w:=fun w k z b e s v t u=>qJ1 w _ _ pr qJ2 _ 6
 have eb:∀(w:World) (x y:Bool),(Op.equalIn 9999 4 (.bool x) (.bool y)).run prog w= .ok (x==y) w:=fun w x y=>run_equalIn_bool' w 9998 _ x y bo
 simp only[Op.eqFields,Sem.run_bind,Sem.run_ite,n0,n1,n2,n3,n4,if_true,p0,p1,p2,p3,p4,eb,Result.andThen_ok,fun (w:World) (x y:Int)=>run_equalIn_int (P:=prog) w 9998 3 .i64 .i64 x y i64,qHV,
  fun w x y z v=>qDs (P:=prog) w 9997 115 29 pr u64 qHg x y z v,Sem.run_pure]
 by_cases h1:k=k'
 · by_cases h2:b=b'
   · by_cases h3:z=z'
     · by_cases h4:e=e'∧s=s'∧v=v'
       · by_cases h5:(t,u)=(t',u')
         · simp_all
         · have:((t,u)==(t',u'))=false:=by simpa using h5
           obtain⟨ha,hb,hc⟩:=h4
           simp[h1,h2,h3,ha,hb,hc,this,h5]
       · have h6:¬((⟨k,b,z,e,s,v,(t,u)⟩:Lf)=⟨k',b',z',e',s',v',(t',u')⟩):=fun e=>by
          simp only[Lf.mk.injEq]at e
          exact h4 ⟨e.2.2.2.1,e.2.2.2.2.1,e.2.2.2.2.2.1⟩
         rw[decide_eq_false h6,decide_eq_false h4]
         simp[h1,h2,h3]
     · simp[h1,h2,h3]
   · simp[h1,h2]
 · simp[h1]
theorem qHh {l:Lf}{s:Int}(h:s<0∨16≤s):qAM l s=false:=by
 unfold qAM
 rcases h with h|h
 · have:decide (0≤s)=false:=by simp;omega
   rw[this];rfl
 · have:decide (s<16)=false:=by simp;omega
   rw[this];simp
theorem qPr {l:Lf}{s:Int}(h0:0≤s)(h1:s<16)(hk:l.kind=0):qAM l s=qSP l ⟨0,false,0,0#32,0#32,0#64,(0#64,0#64)⟩:=by
 unfold qAM;rw[if_pos hk,decide_eq_true h0,decide_eq_true h1];rfl
theorem qPs {l:Lf}{s:Int}(h0:0≤s)(h1:s<16)(hk:l.kind=2):qAM l s=(qBR l.lba&&qSP l ⟨2,true,l.lba,0#32,0#32,0#64,(0#64,0#64)⟩):=by
 unfold qAM;rw[if_neg (by omega),if_pos hk,decide_eq_true h0,decide_eq_true h1];rfl
theorem qPt {l:Lf}{s:Int}(h0:0≤s)(h1:s<16)(hk:l.kind=1):qAM l s=(qBR l.lba&&(l.sl==BitVec.ofInt 32 s)&&decide (0#32<l.ep)):=by
 unfold qAM;rw[if_neg (by omega),if_neg (by omega),if_pos hk,decide_eq_true h0,decide_eq_true h1];rfl
theorem qPu {l:Lf}{s:Int}(h0:l.kind≠0)(h2:l.kind≠2)(h1:l.kind≠1):qAM l s=false:=by
 unfold qAM;rw[if_neg h0,if_neg h2,if_neg h1];simp
theorem qDB (n:Int)(w:World):Calls prog 184 #[.int .i64 n] w fun e w'=>e= .returned (.bool (qBR n))∧w=w':=by
 unfold qBR
 by_cases c:0≤n
 · rw[decide_eq_true c]
   by_cases f:n<32
   · rw[decide_eq_true f]
     go_enter func184,ntmps184
     go_wp2
     go_ret
     exact⟨rfl,rfl⟩
   · rw[decide_eq_false f]
     have h:32≤n:=by omega
     go_enter func184,ntmps184
     go_wp2
     go_ret
     exact⟨rfl,rfl⟩
 · rw[decide_eq_false c]
   have h:n<0:=by omega
   go_enter func184,ntmps184
   go_wp2
   go_ret
   exact⟨rfl,rfl⟩
theorem qNz (k:Int)(b:Bool)(z:Int)(e q:BitVec 32)(v t1 t2:BitVec 64)(s:Int)(lo: -9223372036854775808≤s)(hi:s≤9223372036854775807)(w:World):Calls prog 173 #[.agg #[.int .i64 k,.bool b,.int .i64 z,W e,W q,U v,U t1,U t2],.int .i64 s] w fun e' w'=>e'= .returned (.bool (qAM (⟨k,b,z,e,q,v,(t1,t2)⟩:Lf) s))∧qA4 w w':=by
 have c:qA4 w (w.alloc (.cells #[.int .i64 k,.bool b,.int .i64 z,W e,W q,U v,U t1,U t2] 117)):=qal _
 have h:Blk (w.alloc (.cells #[.int .i64 k,.bool b,.int .i64 z,W e,W q,U v,U t1,U t2] 117)) w.heap.size #[.int .i64 k,.bool b,.int .i64 z,W e,W q,U v,U t1,U t2] 117:=Blk.new _ _ _
 have r0:=h.cell 0
 have r1:=h.cell 1
 have r2:=h.cell 2
 have r3:=h.cell 3
 have r4:=h.cell 4
 have r5:=h.cell 5
 have r6:=h.cell 6
 have r7:=h.cell 7
 clear h
 by_cases j:s<0
 · rw[qHh (.inl j)]
   go_enter func173,ntmps173
   go_wp2
   go_ret
   exact⟨rfl,c⟩
 by_cases l:16≤s
 · rw[qHh (.inr l)]
   have a2:0≤s:=by omega
   go_enter func173,ntmps173
   go_wp2
   go_ret
   exact⟨rfl,c⟩
 have G:0≤s:=by omega
 have J:s<16:=by omega
 clear j l
 by_cases V:k=0
 · subst V
   rw[qPr G J rfl]
   go_enter func173,ntmps173
   go_wp2
   go_ret
   exact⟨rfl,c⟩
 have a0:(k==0)=false:=by simpa using V
 by_cases O:k=2
 · subst O
   rw[qPs G J rfl]
   simp only[]
   cases hz:qBR z
   · have f:z<0∨32≤z:=by simp[qBR]at hz;omega
     rw[Bool.false_and]
     go_enter func173,ntmps173
     go_wp2_with fail
     refine(qDB _ _).mono ?_
     rintro e' w1 ⟨rfl,rfl⟩
     rw[hz]
     go_wp2
     go_ret
     exact⟨rfl,c⟩
   · have f:0≤z∧z<32:=by simpa [qBR] using hz
     obtain⟨I,Y⟩:=f
     rw[Bool.true_and]
     go_enter func173,ntmps173
     go_wp2_with fail
     refine(qDB _ _).mono ?_
     rintro e' w1 ⟨rfl,rfl⟩
     rw[hz]
     go_wp2
     go_ret
     exact⟨rfl,c⟩
 have a3:(k==2)=false:=by simpa using O
 by_cases N:k=1
 · subst N
   rw[qPt G J rfl]
   simp only[]
   cases hz:qBR z
   · have f:z<0∨32≤z:=by simp[qBR]at hz;omega
     rw[Bool.false_and,Bool.false_and]
     go_enter func173,ntmps173
     go_wp2_with fail
     refine(qDB _ _).mono ?_
     rintro e' w1 ⟨rfl,rfl⟩
     rw[hz]
     go_wp2
     go_ret
     exact⟨rfl,c⟩
   · have f:0≤z∧z<32:=by simpa [qBR] using hz
     obtain⟨I,Y⟩:=f
     rw[Bool.true_and]
     have a1:∀F:World,(convert 3 94 (.int .i64 s)).run prog F= .ok (W (BitVec.ofInt 32 s)) F:=fun F=>by
      rw[qAH F 3 94 _ .u32 _ (by kernel_rfl) underlying94,qJI]
     cases hq:q==BitVec.ofInt 32 s
     · rw[Bool.false_and]
       go_enter func173,ntmps173
       go_wp2_with fail
       refine(qDB _ _).mono ?_
       rintro e' w1 ⟨rfl,rfl⟩
       rw[hz]
       go_wp2
       go_ret
       exact⟨rfl,c⟩
     · rw[Bool.true_and]
       go_enter func173,ntmps173
       go_wp2_with fail
       refine(qDB _ _).mono ?_
       rintro e' w1 ⟨rfl,rfl⟩
       rw[hz]
       go_wp2
       go_ret
       exact⟨by rfl,c⟩
 have Z:(k==1)=false:=by simpa using N
 rw[qPu V O N]
 go_enter func173,ntmps173
 go_wp2
 go_ret
 exact⟨rfl,c⟩
theorem qGU (k:Int)(z:Int)(e q:BitVec 32)(v t1 t2:BitVec 64)(s:Int)(lo: -9223372036854775808≤s)(hi:s≤9223372036854775807)(h:qAM (⟨k,false,z,e,q,v,(t1,t2)⟩:Lf) s=true)(w:World):Calls prog 146 #[.agg #[.int .i64 k,.bool false,.int .i64 z,W e,W q,U v,U t1,U t2],.int .i64 s] w fun e' w'=>∃x,e'= .returned (.tuple #[x,.bool true])∧w'.ownsRow w.heap.size 5 1 x 32 (qA1 (qBr (⟨k,false,z,e,q,v,(t1,t2)⟩:Lf)))∧qA4 w w':=by
 have a9:qA4 w (w.alloc (.cells #[.int .i64 k,.bool false,.int .i64 z,W e,W q,U v,U t1,U t2] 117)):=qal _
 have j:Blk (w.alloc (.cells #[.int .i64 k,.bool false,.int .i64 z,W e,W q,U v,U t1,U t2] 117)) w.heap.size #[.int .i64 k,.bool false,.int .i64 z,W e,W q,U v,U t1,U t2] 117:=Blk.new _ _ _
 have hu:∀(n:Int) (wx:World),(convert 3 29 (.int .i64 n)).run prog wx= .ok (U (BitVec.ofInt 64 n)) wx:=fun n wx=>by
  rw[qAH wx 3 29 _ .u64 _ (by kernel_rfl) underlying29,qDq]
 have q0:=j.cell 0
 have q1:=j.cell 1
 have q2:=j.cell 2
 have q3:=j.cell 3
 have q4:=j.cell 4
 have q5:=j.cell 5
 have q6:=j.cell 6
 have q7:=j.cell 7
 go_enter func146,ntmps146
 go_wp2_with fail
 refine(qNz _ _ _ _ _ _ _ _ _ lo hi _).mono ?_
 rintro e' w0 ⟨rfl,b3⟩
 rw[h]
 replace a9:=a9.of b3
 replace j:=j.kept b3
 clear q0 q1 q2 q3 q4 q5 q6 q7
 have q0:=j.cell 0
 have q1:=j.cell 1
 clear h b3
 go_wp2_with fail
 refine qA3 [(0,0),(1,0),(2,0),(4,0),(6,0),(7,0),(8,0),(10,0),(11,0),(12,0),(13,0),(15,0),(16,0),(17,0),(19,0),(20,0),(3,1),(5,1),(9,1),(14,1),(18,1),(21,1),(22,1),(23,1),(24,0),(25,0)] (by kernel_rfl) (by kernel_rfl) ?_
 intro w1 b6
 replace j:=j.kept b6
 repeat
  refine qA0 _ rfl (fun K f=>?_)
  first
   | (refine qqP (by rfl) ?_;apply Exists.intro;refine⟨fun w' b7=>?_,f _ ?_⟩;(have c:=j.kept b7;have r0:=c.cell 0;have r1:=c.cell 1;have r2:=c.cell 2;have r3:=c.cell 3;have r4:=c.cell 4;have r5:=c.cell 5;have r6:=c.cell 6;have r7:=c.cell 7;clear c;go_simp;first|done|rfl))
   | refine qqN (by rfl) (f _ ?_)
  clear f K;simp only[Act.put,qqB]
 refine qqH _ rfl (by rfl) (fun K f=>?_)
 go_wp2_with fail
 refine(qAS _ 1 (by omega) (by omega) _).mono ?_
 rintro e w2 ⟨x2,rfl,G,a8⟩
 obtain⟨a2,c2,c0⟩:=(Sl.of_own G).len
 subst c0
 have s2:=Sl.of_own G
 clear G
 replace j:=j.kept a8
 go_wp2
 refine f _ _ (a8) ?_
 clear f K
 try simp only[Act.put,qqB]
 refine qqH _ rfl (by rfl) (fun K f=>?_)
 go_wp2_with fail
 refine(qAS _ 1 (by omega) (by omega) _).mono ?_
 rintro e w3 ⟨x3,rfl,V,a1⟩
 obtain⟨a3,c3,b8⟩:=(Sl.of_own V).len
 subst b8
 have s3:=Sl.of_own V
 clear V
 replace j:=j.kept a1
 replace s2:=s2.kept a1
 go_wp2
 refine f _ _ (a1) ?_
 clear f K
 try simp only[Act.put,qqB]
 refine qqH _ rfl (by rfl) (fun K f=>?_)
 go_wp2_with fail
 refine(qAS _ 2 (by omega) (by omega) _).mono ?_
 rintro e w4 ⟨x4,rfl,J,Z⟩
 obtain⟨a4,c4,b9⟩:=(Sl.of_own J).len
 subst b9
 have s4:=Sl.of_own J
 clear J
 replace j:=j.kept Z
 replace s2:=s2.kept Z
 replace s3:=s3.kept Z
 go_wp2
 refine f _ _ (Z) ?_
 clear f K
 try simp only[Act.put,qqB]
 refine qqH _ rfl (by rfl) (fun K f=>?_)
 go_wp2_with fail
 refine(qAS _ 4 (by omega) (by omega) _).mono ?_
 rintro e w5 ⟨x5,rfl,O,Y⟩
 obtain⟨a5,c5,c1⟩:=(Sl.of_own O).len
 subst c1
 have s5:=Sl.of_own O
 clear O
 replace j:=j.kept Y
 replace s2:=s2.kept Y
 replace s3:=s3.kept Y
 replace s4:=s4.kept Y
 go_wp2
 refine f _ _ (Y) ?_
 clear f K
 try simp only[Act.put,qqB]
 refine qqH _ rfl (by rfl) (fun K f=>?_)
 go_wp2_with fail
 refine(qAS _ 8 (by omega) (by omega) _).mono ?_
 rintro e w6 ⟨x6,rfl,N,I⟩
 obtain⟨a6,c6,d0⟩:=(Sl.of_own N).len
 subst d0
 have s6:=Sl.of_own N
 clear N
 replace j:=j.kept I
 replace s2:=s2.kept I
 replace s3:=s3.kept I
 replace s4:=s4.kept I
 replace s5:=s5.kept I
 go_wp2
 refine f _ _ (I) ?_
 clear f K
 try simp only[Act.put,qqB]
 refine qqH _ rfl (by rfl) (fun K f=>?_)
 go_wp2_with fail
 refine(qBs _ _ _).mono ?_
 rintro e w7 ⟨x7,rfl,F,l⟩
 obtain⟨a7,c7,c8⟩:=(Sl.of_own F).len
 subst c8
 have s7:=Sl.of_own F
 clear F
 replace j:=j.kept l
 replace s2:=s2.kept l
 replace s3:=s3.kept l
 replace s4:=s4.kept l
 replace s5:=s5.kept l
 replace s6:=s6.kept l
 go_wp2
 refine f _ _ (l) ?_
 clear f K
 try simp only[Act.put,qqB]
 refine qqH _ rfl (by rfl) (fun K f=>?_)
 go_wp2
 refine f _ _ (qal _) ?_
 clear f K
 try simp only[Act.put,qqB]
 refine qqH _ rfl (by rfl) (fun K f=>?_)
 go_wp2_with fail
 refine(qCj _ [qAI (BitVec.ofInt 64 k) 1,qAI (0#64) 1,qAI (BitVec.ofInt 64 z) 2,qAI (e.setWidth 64) 4,qAI v 8,qAJ (t1,t2)] (by simp) (by simp[qA9,qAs]) _ (qBG.lit (us:=[.slice a2 1 c2,.slice a3 1 c3,.slice a4 2 c4,.slice a5 4 c5,.slice a6 8 c6,.slice a7 16 c7]) (.cons (by rw[qA9];exact s2) (.cons (by rw[qA9];exact s3) (.cons (by rw[qA9];exact s4) (.cons (by rw[qA9];exact s5) (.cons (by rw[qA9];exact s6) (.cons (by rw[qAs];exact s7) .nil)))))) 32 6 rfl (by decide))).mono ?_
 rintro e w8 ⟨x8,rfl,a0,b5⟩
 go_wp2
 refine f _ _ (b5) ?_
 clear f K
 try simp only[Act.put,qqB]
 repeat
  refine qA0 _ rfl (fun K f=>?_)
  first
   | (refine qqP (by rfl) ?_;apply Exists.intro;refine⟨fun w' b7=>?_,f _ ?_⟩;go_simp;first|done|rfl)
   | refine qqN (by rfl) (f _ ?_)
  clear f K;simp only[Act.put,qqB]
 refine qA6 ?_
 go_wp2
 go_ret2
 have c9: [qAI (BitVec.ofInt 64 k) 1,qAI (0#64) 1,qAI (BitVec.ofInt 64 z) 2,qAI (e.setWidth 64) 4,qAI v 8,qAJ (t1,t2)].flatten=qBr ⟨k,false,z,e,q,v,(t1,t2)⟩:=by simp[qBr,qEG]
 rw[c9,qBi]at a0
 have b4:=((((((a9.of b6).of a8).of a1).of Z).of Y).of I).of l
 refine⟨x8,rfl,qAh a0 ?_,(b4.of (qal _)).of b5⟩
 have:=b4.size
 simp
 omega
theorem qHW (k:Int)(z:Int)(e q:BitVec 32)(v t1 t2:BitVec 64)(s:Int)(lo: -9223372036854775808≤s)(hi:s≤9223372036854775807)(h:qAM (⟨k,true,z,e,q,v,(t1,t2)⟩:Lf) s=true)(w:World):Calls prog 146 #[.agg #[.int .i64 k,.bool true,.int .i64 z,W e,W q,U v,U t1,U t2],.int .i64 s] w fun e' w'=>∃x,e'= .returned (.tuple #[x,.bool true])∧w'.ownsRow w.heap.size 5 1 x 32 (qA1 (qBr (⟨k,true,z,e,q,v,(t1,t2)⟩:Lf)))∧qA4 w w':=by
 have a9:qA4 w (w.alloc (.cells #[.int .i64 k,.bool true,.int .i64 z,W e,W q,U v,U t1,U t2] 117)):=qal _
 have j:Blk (w.alloc (.cells #[.int .i64 k,.bool true,.int .i64 z,W e,W q,U v,U t1,U t2] 117)) w.heap.size #[.int .i64 k,.bool true,.int .i64 z,W e,W q,U v,U t1,U t2] 117:=Blk.new _ _ _
 have hu:∀(n:Int) (wx:World),(convert 3 29 (.int .i64 n)).run prog wx= .ok (U (BitVec.ofInt 64 n)) wx:=fun n wx=>by
  rw[qAH wx 3 29 _ .u64 _ (by kernel_rfl) underlying29,qDq]
 have q0:=j.cell 0
 have q1:=j.cell 1
 have q2:=j.cell 2
 have q3:=j.cell 3
 have q4:=j.cell 4
 have q5:=j.cell 5
 have q6:=j.cell 6
 have q7:=j.cell 7
 go_enter func146,ntmps146
 go_wp2_with fail
 refine(qNz _ _ _ _ _ _ _ _ _ lo hi _).mono ?_
 rintro e' w0 ⟨rfl,b3⟩
 rw[h]
 replace a9:=a9.of b3
 replace j:=j.kept b3
 clear q0 q1 q2 q3 q4 q5 q6 q7
 have q0:=j.cell 0
 have q1:=j.cell 1
 clear h b3
 go_wp2_with fail
 refine qA3 [(0,0),(1,0),(2,0),(4,0),(6,0),(7,0),(8,0),(10,0),(11,0),(12,0),(13,0),(15,0),(16,0),(17,0),(19,0),(20,0),(3,1),(5,1),(9,1),(14,1),(18,1),(21,1),(22,1),(23,1),(24,0),(25,0)] (by kernel_rfl) (by kernel_rfl) ?_
 intro w1 b6
 replace j:=j.kept b6
 repeat
  refine qA0 _ rfl (fun K f=>?_)
  first
   | (refine qqP (by rfl) ?_;apply Exists.intro;refine⟨fun w' b7=>?_,f _ ?_⟩;(have c:=j.kept b7;have r0:=c.cell 0;have r1:=c.cell 1;have r2:=c.cell 2;have r3:=c.cell 3;have r4:=c.cell 4;have r5:=c.cell 5;have r6:=c.cell 6;have r7:=c.cell 7;clear c;go_simp;first|done|rfl))
   | refine qqN (by rfl) (f _ ?_)
  clear f K;simp only[Act.put,qqB]
 refine qqH _ rfl (by rfl) (fun K f=>?_)
 go_wp2_with fail
 refine(qAS _ 1 (by omega) (by omega) _).mono ?_
 rintro e w2 ⟨x2,rfl,G,a8⟩
 obtain⟨a2,c2,c0⟩:=(Sl.of_own G).len
 subst c0
 have s2:=Sl.of_own G
 clear G
 replace j:=j.kept a8
 go_wp2
 refine f _ _ (a8) ?_
 clear f K
 try simp only[Act.put,qqB]
 refine qqH _ rfl (by rfl) (fun K f=>?_)
 go_wp2_with fail
 refine(qAS _ 1 (by omega) (by omega) _).mono ?_
 rintro e w3 ⟨x3,rfl,V,a1⟩
 obtain⟨a3,c3,b8⟩:=(Sl.of_own V).len
 subst b8
 have s3:=Sl.of_own V
 clear V
 replace j:=j.kept a1
 replace s2:=s2.kept a1
 go_wp2
 refine f _ _ (a1) ?_
 clear f K
 try simp only[Act.put,qqB]
 refine qqH _ rfl (by rfl) (fun K f=>?_)
 go_wp2_with fail
 refine(qAS _ 2 (by omega) (by omega) _).mono ?_
 rintro e w4 ⟨x4,rfl,J,Z⟩
 obtain⟨a4,c4,b9⟩:=(Sl.of_own J).len
 subst b9
 have s4:=Sl.of_own J
 clear J
 replace j:=j.kept Z
 replace s2:=s2.kept Z
 replace s3:=s3.kept Z
 go_wp2
 refine f _ _ (Z) ?_
 clear f K
 try simp only[Act.put,qqB]
 refine qqH _ rfl (by rfl) (fun K f=>?_)
 go_wp2_with fail
 refine(qAS _ 4 (by omega) (by omega) _).mono ?_
 rintro e w5 ⟨x5,rfl,O,Y⟩
 obtain⟨a5,c5,c1⟩:=(Sl.of_own O).len
 subst c1
 have s5:=Sl.of_own O
 clear O
 replace j:=j.kept Y
 replace s2:=s2.kept Y
 replace s3:=s3.kept Y
 replace s4:=s4.kept Y
 go_wp2
 refine f _ _ (Y) ?_
 clear f K
 try simp only[Act.put,qqB]
 refine qqH _ rfl (by rfl) (fun K f=>?_)
 go_wp2_with fail
 refine(qAS _ 8 (by omega) (by omega) _).mono ?_
 rintro e w6 ⟨x6,rfl,N,I⟩
 obtain⟨a6,c6,d0⟩:=(Sl.of_own N).len
 subst d0
 have s6:=Sl.of_own N
 clear N
 replace j:=j.kept I
 replace s2:=s2.kept I
 replace s3:=s3.kept I
 replace s4:=s4.kept I
 replace s5:=s5.kept I
 go_wp2
 refine f _ _ (I) ?_
 clear f K
 try simp only[Act.put,qqB]
 refine qqH _ rfl (by rfl) (fun K f=>?_)
 go_wp2_with fail
 refine(qBs _ _ _).mono ?_
 rintro e w7 ⟨x7,rfl,F,l⟩
 obtain⟨a7,c7,c8⟩:=(Sl.of_own F).len
 subst c8
 have s7:=Sl.of_own F
 clear F
 replace j:=j.kept l
 replace s2:=s2.kept l
 replace s3:=s3.kept l
 replace s4:=s4.kept l
 replace s5:=s5.kept l
 replace s6:=s6.kept l
 go_wp2
 refine f _ _ (l) ?_
 clear f K
 try simp only[Act.put,qqB]
 refine qqH _ rfl (by rfl) (fun K f=>?_)
 go_wp2
 refine f _ _ (qal _) ?_
 clear f K
 try simp only[Act.put,qqB]
 refine qqH _ rfl (by rfl) (fun K f=>?_)
 go_wp2_with fail
 refine(qCj _ [qAI (BitVec.ofInt 64 k) 1,qAI (1#64) 1,qAI (BitVec.ofInt 64 z) 2,qAI (e.setWidth 64) 4,qAI v 8,qAJ (t1,t2)] (by simp) (by simp[qA9,qAs]) _ (qBG.lit (us:=[.slice a2 1 c2,.slice a3 1 c3,.slice a4 2 c4,.slice a5 4 c5,.slice a6 8 c6,.slice a7 16 c7]) (.cons (by rw[qA9];exact s2) (.cons (by rw[qA9];exact s3) (.cons (by rw[qA9];exact s4) (.cons (by rw[qA9];exact s5) (.cons (by rw[qA9];exact s6) (.cons (by rw[qAs];exact s7) .nil)))))) 32 6 rfl (by decide))).mono ?_
 rintro e w8 ⟨x8,rfl,a0,b5⟩
 go_wp2
 refine f _ _ (b5) ?_
 clear f K
 try simp only[Act.put,qqB]
 repeat
  refine qA0 _ rfl (fun K f=>?_)
  first
   | (refine qqP (by rfl) ?_;apply Exists.intro;refine⟨fun w' b7=>?_,f _ ?_⟩;go_simp;first|done|rfl)
   | refine qqN (by rfl) (f _ ?_)
  clear f K;simp only[Act.put,qqB]
 refine qA6 ?_
 go_wp2
 go_ret2
 have c9: [qAI (BitVec.ofInt 64 k) 1,qAI (1#64) 1,qAI (BitVec.ofInt 64 z) 2,qAI (e.setWidth 64) 4,qAI v 8,qAJ (t1,t2)].flatten=qBr ⟨k,true,z,e,q,v,(t1,t2)⟩:=by simp[qBr,qEG]
 rw[c9,qBi]at a0
 have b4:=((((((a9.of b6).of a8).of a1).of Z).of Y).of I).of l
 refine⟨x8,rfl,qAh a0 ?_,(b4.of (qal _)).of b5⟩
 have:=b4.size
 simp
 omega
theorem qEM (k:Int)(b:Bool)(z:Int)(e q:BitVec 32)(v t1 t2:BitVec 64)(s:Int)(lo: -9223372036854775808≤s)(hi:s≤9223372036854775807)(h:qAM (⟨k,b,z,e,q,v,(t1,t2)⟩:Lf) s=false)(w:World):Calls prog 146 #[.agg #[.int .i64 k,.bool b,.int .i64 z,W e,W q,U v,U t1,U t2],.int .i64 s] w fun e' w'=>e'= .returned (.tuple #[.slice none 0 0,.bool false])∧qA4 w w':=by
 have f:qA4 w (w.alloc (.cells #[.int .i64 k,.bool b,.int .i64 z,W e,W q,U v,U t1,U t2] 117)):=qal _
 have c:Blk (w.alloc (.cells #[.int .i64 k,.bool b,.int .i64 z,W e,W q,U v,U t1,U t2] 117)) w.heap.size #[.int .i64 k,.bool b,.int .i64 z,W e,W q,U v,U t1,U t2] 117:=Blk.new _ _ _
 have G:=c.cell 0
 have V:=c.cell 1
 have F:=c.cell 2
 have O:=c.cell 3
 have N:=c.cell 4
 have I:=c.cell 5
 have J:=c.cell 6
 have l:=c.cell 7
 clear c
 go_enter func146,ntmps146
 go_wp2_with fail
 refine(qNz _ _ _ _ _ _ _ _ _ lo hi _).mono ?_
 rintro e' w0 ⟨rfl,j⟩
 rw[h]
 replace f:=f.of j
 clear h j
 go_wp2
 go_ret2
 exact⟨rfl,f⟩
def kb (k:Int):UInt8:=UInt8.ofNat (k % 256).toNat
end Go.Proofs.YtdlgihbpiakebaaGreat
