import Derived.Test.YtdlgihbpiakebaaGreatMd07
import Derived.Test.YtdlgihbpiakebaaGreatMd12
import Derived.Test.YtdlgihbpiakebaaGreatMd21
import Derived.Test.YtdlgihbpiakebaaGreatMd29
import Derived.Test.YtdlgihbpiakebaaGreatMd31
import Derived.Test.YtdlgihbpiakebaaGreatMd34
import Derived.Test.YtdlgihbpiakebaaGreatMd35
import Derived.IntWalk
set_option maxRecDepth 100000
set_option maxHeartbeats 4000000
namespace Go.Proofs.YtdlgihbpiakebaaGreat
open Go Go.RowKit Tryz
@[go_sem high] theorem qRA (a a' d d' e e' : BitVec 64) (b b' : BitVec 32) (c c' : Int) (w : World) : (Op.equalIn 10000 148 (.agg #[U a,W b,.int .i64 c,U d,U e]) (.agg #[U a',W b',.int .i64 c',U d',U e'])).run prog w = .ok (decide ((⟨a,b,c,(d,e)⟩ : Rt) = ⟨a',b',c',(d',e')⟩)) w:=by
 rw [run_equalIn_struct (P:=prog) w 9999 148 _ _ (by kernel_rfl) (by kernel_rfl)]
 have h0:=underlying148
 have u32:=underlying94
 have u64:=underlying29
 have i64:=underlying3
 have pr:=underlying115
 unfold Program.fieldsOf
 rw [h0]
 have n0 : ("Count" ≠ "_") = True:=by decide
 have n1 : ("Epoch" ≠ "_") = True:=by decide
 have n2 : ("Slots" ≠ "_") = True:=by decide
 have n3 : ("Hash" ≠ "_") = True:=by decide
 have pu : ∀ (w : World) (x y z : BitVec 64) (b : BitVec 32) (c : Int),(part 29 #[U x,W b,.int .i64 c,U y,U z] 0).run prog w = .ok (U x) w:=fun w x y z b c=>qBN w 29 .u64 u64 _ 0 _ rfl
 have pw : ∀ (w : World) (x y z : BitVec 64) (b : BitVec 32) (c : Int),(part 94 #[U x,W b,.int .i64 c,U y,U z] 1).run prog w = .ok (W b) w:=fun w x y z b c=>qBN w 94 .u32 u32 _ 1 _ rfl
 have pi : ∀ (w : World) (x y z : BitVec 64) (b : BitVec 32) (c : Int),(part 3 #[U x,W b,.int .i64 c,U y,U z] 2).run prog w = .ok (.int .i64 c) w:=fun w x y z b c=>qBN w 3 .i64 i64 _ 2 _ rfl
 have pp : ∀ (w : World) (x y z : BitVec 64) (b : BitVec 32) (c : Int),(part 115 #[U x,W b,.int .i64 c,U y,U z] 3).run prog w = .ok (.agg #[U y,U z]) w:=fun w x y z b c=>qIn w _ _ pr qIo _ 3
 simp only [Op.eqFields,Sem.run_bind,Sem.run_ite,n0,n1,n2,n3,if_true,pu,pw,pi,pp,Result.andThen_ok,
  fun w=>qFU (P:=prog) w 9998 94 u32,fun w=>qDe (P:=prog) w 9998 29 u64,fun (w : World) (x y : Int)=>run_equalIn_int (P:=prog) w 9998 3 .i64 .i64 x y i64,
  fun w x y z v=>qDf (P:=prog) w 9997 115 29 pr u64 qGP x y z v,Sem.run_pure]
 by_cases h1 : a = a'
 · by_cases h2 : b = b'
   · by_cases h3 : c = c'
     · by_cases h4 : (d,e) = (d',e')
       · simp_all
       · have : ((d,e) == (d',e')) = false:=by simpa using h4
         simp [h1,h2,h3,this,h4]
     · simp [h1,h2,h3]
   · simp [h1,h2]
 · simp [h1]
@[go_sem] theorem qRB (t : TypeId) (x y : BitVec 32) : binOp .neq t (W x) (W y) = pure (.bool (x != y)):=(binOp_neq ..).trans (by
 have : ((x.toNat : Int) == (y.toNat : Int)) = (x == y):=by
  rw [Bool.eq_iff_iff,beq_iff_eq,beq_iff_eq]
  exact ⟨fun h=>BitVec.eq_of_toNat_eq (by omega),fun h=>by rw [h]⟩
 rw [bne,this];rfl)
theorem qJx (n : Nn) (t1 t2 : BitVec 64) (vb : Value) (bs : List UInt8) (hl : bs.length = 32) (hs : n.slot = 65535#32) (w : World) (h : Sl w vb bs.length (qA1 bs)) : Calls prog 187 #[n.val,.agg #[vb,U t1,U t2]] w fun e' w'=>∃ b,e' = .returned (.tuple #[b,.bool true]) ∧ w'.ownsRow w.heap.size 5 1 b 60 (qA1 (qFA n bs (t1,t2))) ∧ qA4 w w':=by
 obtain ⟨sa,sc,hvb⟩:=h.len
 subst hvb
 rw [hl] at h ⊢
 unfold Nn.val
 have hk0 : qA4 w ((w.alloc (.cells #[W n.epoch,W n.slot,U n.version] 113)).alloc (.cells #[.slice sa 32 sc,U t1,U t2] 165)):=(qal _).alloc (by simp) _
 have hN : Blk ((w.alloc (.cells #[W n.epoch,W n.slot,U n.version] 113)).alloc (.cells #[.slice sa 32 sc,U t1,U t2] 165)) w.heap.size #[W n.epoch,W n.slot,U n.version] 113:=(Blk.new _ _ _).alloc _
 have hS : Blk ((w.alloc (.cells #[W n.epoch,W n.slot,U n.version] 113)).alloc (.cells #[.slice sa 32 sc,U t1,U t2] 165)) (w.heap.size + 1) #[.slice sa 32 sc,U t1,U t2] 165:=by simpa using Blk.new (w.alloc (.cells #[W n.epoch,W n.slot,U n.version] 113)) #[.slice sa 32 sc,U t1,U t2] 165
 have sb:=h.kept hk0
 have hss : (n.slot != 65535#32) = false:=by rw [hs];rfl
 have n0:=hN.cell 0
 have n1:=hN.cell 1
 have n2:=hN.cell 2
 have q0:=hS.cell 0
 have q1:=hS.cell 1
 have q2:=hS.cell 2
 have HL:=qh hl
 have HS:=qh hs
 clear hl hs h
 go_enter func187,ntmps187
 go_wp2_with fail
 clear n0 n1 n2 q0 q1 q2
 refine qA5 [(0,0),(1,0),(2,0),(4,0),(5,0),(7,0),(8,0),(9,0),(10,0),(3,1),(6,1),(11,1),(12,1),(13,1),(14,0),(15,0)] (by kernel_rfl) (by kernel_rfl) ?_
 intro w1 hw1
 replace hN:=hN.kept hw1
 replace hS:=hS.kept hw1
 replace sb:=sb.kept hw1
 repeat
  refine qA0 _ rfl (fun K hK=>?_)
  first
   | (refine qqP (by rfl) ?_;apply Exists.intro;refine ⟨fun w' hw'=>?_,hK _ ?_⟩;(have c:=hN.kept hw';have n0:=c.cell 0;have n1:=c.cell 1;have n2:=c.cell 2;clear c;have d:=hS.kept hw';have q0:=d.cell 0;have q1:=d.cell 1;have q2:=d.cell 2;clear d;go_simp;first|done|rfl))
   | refine qqN (by rfl) (hK _ ?_)
  clear hK K;simp only [Act.put,qqB]
 refine qqH _ rfl (by rfl) (fun K hK=>?_)
 go_wp2_with fail
 refine (qAO _ 4 (by omega) (by omega) _).mono ?_
 rintro e w2 ⟨x2,rfl,hown2,hk2⟩
 obtain ⟨a2,c2,he2⟩:=(Sl.of_own hown2).len
 subst he2
 have s2:=Sl.of_own hown2
 clear hown2
 replace hN:=hN.kept hk2
 replace hS:=hS.kept hk2
 replace sb:=sb.kept hk2
 go_wp2
 refine hK _ _ (hk2) ?_
 clear hK K
 try simp only [Act.put,qqB]
 refine qqH _ rfl (by rfl) (fun K hK=>?_)
 go_wp2_with fail
 refine (qAO _ 8 (by omega) (by omega) _).mono ?_
 rintro e w3 ⟨x3,rfl,hown3,hk3⟩
 obtain ⟨a3,c3,he3⟩:=(Sl.of_own hown3).len
 subst he3
 have s3:=Sl.of_own hown3
 clear hown3
 replace hN:=hN.kept hk3
 replace hS:=hS.kept hk3
 replace sb:=sb.kept hk3
 replace s2:=s2.kept hk3
 go_wp2
 refine hK _ _ (hk3) ?_
 clear hK K
 try simp only [Act.put,qqB]
 refine qqH _ rfl (by rfl) (fun K hK=>?_)
 go_wp2_with fail
 refine (qBl _ _ _).mono ?_
 rintro e w4 ⟨x4,rfl,hown4,hk4⟩
 obtain ⟨a4,c4,he4⟩:=(Sl.of_own hown4).len
 subst he4
 have s4:=Sl.of_own hown4
 clear hown4
 replace hN:=hN.kept hk4
 replace hS:=hS.kept hk4
 replace sb:=sb.kept hk4
 replace s2:=s2.kept hk4
 replace s3:=s3.kept hk4
 go_wp2
 refine hK _ _ (hk4) ?_
 clear hK K
 try simp only [Act.put,qqB]
 refine qqH _ rfl (by rfl) (fun K hK=>?_)
 go_wp2
 refine hK _ _ (qal _) ?_
 clear hK K
 try simp only [Act.put,qqB]
 refine qqH _ rfl (by rfl) (fun K hK=>?_)
 go_wp2_with fail
 refine (qCb _ [qB2 (n.epoch.setWidth 64) 4,qB2 n.version 8,bs,qAN (t1,t2)] (by simp) (by simp [qAb,qAr,HL.out]) _ (qBE.lit (us:=[.slice a2 4 c2,.slice a3 8 c3,.slice sa 32 sc,.slice a4 16 c4]) (.cons (by rw [qAb];exact s2) (.cons (by rw [qAb];exact s3) (.cons (by rw [HL.out];exact sb) (.cons (by rw [qAr];exact s4) .nil)))) 32 4 rfl (by decide))).mono ?_
 rintro e w6 ⟨x6,rfl,hown6,hk6⟩
 go_wp2
 refine hK _ _ (hk6) ?_
 clear hK K
 try simp only [Act.put,qqB]
 repeat
  refine qA0 _ rfl (fun K hK=>?_)
  first
   | (refine qqP (by rfl) ?_;apply Exists.intro;refine ⟨fun w' hw'=>?_,hK _ ?_⟩;go_simp;first|done|rfl)
   | refine qqN (by rfl) (hK _ ?_)
  clear hK K;simp only [Act.put,qqB]
 refine qA7 ?_
 go_wp2
 go_ret2
 have hfl : [qB2 (n.epoch.setWidth 64) 4,qB2 n.version 8,bs,qAN (t1,t2)].flatten = qFA n bs (t1,t2):=by simp [qFA]
 rw [hfl,qCn n bs _ HL.out] at hown6
 have hk9:=(((hk0.of hw1).of hk2).of hk3).of hk4
 refine ⟨x6,rfl,qAg hown6 ?_,(hk9.of (qal _)).of hk6⟩
 have:=hk9.size
 simp
 omega
theorem qLi : ∀ w : World,(sizeOf 113).run prog w = .ok 3 w:=fun w=>by kernel_rfl
theorem qHq (w : World) (a b c d : BitVec 32) (x y : BitVec 64) : (Op.equalIn 9999 113 (.agg #[W a,W b,U x]) (.agg #[W c,W d,U y])).run prog w = .ok (decide (a = c ∧ b = d ∧ x = y)) w:=by
 rw [run_equalIn_struct (P:=prog) w 9998 113 _ _ (by kernel_rfl) (by kernel_rfl)]
 have h0:=underlying113
 have u32:=underlying94
 have u64:=underlying29
 unfold Program.fieldsOf
 rw [h0]
 have n0 : ("Epoch" ≠ "_") = True:=by decide
 have n1 : ("Slot" ≠ "_") = True:=by decide
 have n2 : ("Version" ≠ "_") = True:=by decide
 have p0 : ∀ (w : World) (a b : BitVec 32) (x : BitVec 64),(part 94 #[W a,W b,U x] 0).run prog w = .ok (W a) w:=fun w a b x=>qBN w _ .u32 u32 _ 0 _ rfl
 have p1 : ∀ (w : World) (a b : BitVec 32) (x : BitVec 64),(part 94 #[W a,W b,U x] 1).run prog w = .ok (W b) w:=fun w a b x=>qBN w _ .u32 u32 _ 1 _ rfl
 have p2 : ∀ (w : World) (a b : BitVec 32) (x : BitVec 64),(part 29 #[W a,W b,U x] 2).run prog w = .ok (U x) w:=fun w a b x=>qBN w _ .u64 u64 _ 2 _ rfl
 simp only [Op.eqFields,Sem.run_bind,Sem.run_ite,n0,n1,n2,if_true,p0,p1,p2,Result.andThen_ok,fun w=>qFU (P:=prog) w 9997 94 u32,fun w=>qDe (P:=prog) w 9997 29 u64,Sem.run_pure]
 by_cases h1 : a = c
 · by_cases h2 : b = d
   · by_cases h3 : x = y
     · simp [h1,h2,h3]
     · simp [h1,h2,h3]
   · simp [h1,h2]
 · simp [h1]
@[go_sem high] theorem qRC (k k' z z' : Int) (b b' : Bool) (e e' s s' : BitVec 32) (v v' t t' u u' : BitVec 64) (w : World) :
 (Op.equalIn 10000 117 (.agg #[.int .i64 k,.bool b,.int .i64 z,W e,W s,U v,U t,U u]) (.agg #[.int .i64 k',.bool b',.int .i64 z',W e',W s',U v',U t',U u'])).run prog w =
  .ok (qRy ⟨k,b,z,e,s,v,(t,u)⟩ ⟨k',b',z',e',s',v',(t',u')⟩) w:=by
 unfold qRy
 rw [run_equalIn_struct (P:=prog) w 9999 117 _ _ (by kernel_rfl) (by kernel_rfl)]
 have h0:=underlying117
 have u64:=underlying29
 have i64:=underlying3
 have bo:=underlying4
 have pr:=underlying115
 have nn:=underlying113
 unfold Program.fieldsOf
 rw [h0]
 have n0 : ("Kind" ≠ "_") = True:=by decide
 have n1 : ("Dirty" ≠ "_") = True:=by decide
 have n2 : ("Lba" ≠ "_") = True:=by decide
 have n3 : ("Nonce" ≠ "_") = True:=by decide
 have n4 : ("Tag" ≠ "_") = True:=by decide
 have p0 : ∀ (w : World) (k z : Int) (b : Bool) (e s : BitVec 32) (v t u : BitVec 64),(part 3 #[.int .i64 k,.bool b,.int .i64 z,W e,W s,U v,U t,U u] 0).run prog w = .ok (.int .i64 k) w:=fun w k z b e s v t u=>qBN w _ .i64 i64 _ 0 _ rfl
 have p1 : ∀ (w : World) (k z : Int) (b : Bool) (e s : BitVec 32) (v t u : BitVec 64),(part 4 #[.int .i64 k,.bool b,.int .i64 z,W e,W s,U v,U t,U u] 1).run prog w = .ok (.bool b) w:=fun w k z b e s v t u=>qMF w _ bo _ 1 _ rfl
 have p2 : ∀ (w : World) (k z : Int) (b : Bool) (e s : BitVec 32) (v t u : BitVec 64),(part 3 #[.int .i64 k,.bool b,.int .i64 z,W e,W s,U v,U t,U u] 2).run prog w = .ok (.int .i64 z) w:=fun w k z b e s v t u=>qBN w _ .i64 i64 _ 2 _ rfl
 have p3 : ∀ (w : World) (k z : Int) (b : Bool) (e s : BitVec 32) (v t u : BitVec 64),(part 113 #[.int .i64 k,.bool b,.int .i64 z,W e,W s,U v,U t,U u] 3).run prog w = .ok (.agg #[W e,W s,U v]) w:=fun w k z b e s v t u=>qOt w _ _ 3 nn qLi _ 3
 have p4 : ∀ (w : World) (k z : Int) (b : Bool) (e s : BitVec 32) (v t u : BitVec 64),(part 115 #[.int .i64 k,.bool b,.int .i64 z,W e,W s,U v,U t,U u] 6).run prog w = .ok (.agg #[U t,U u]) w:=fun w k z b e s v t u=>qIn w _ _ pr qIo _ 6
 have eb : ∀ (w : World) (x y : Bool),(Op.equalIn 9999 4 (.bool x) (.bool y)).run prog w = .ok (x == y) w:=fun w x y=>run_equalIn_bool' w 9998 _ x y bo
 simp only [Op.eqFields,Sem.run_bind,Sem.run_ite,n0,n1,n2,n3,n4,if_true,p0,p1,p2,p3,p4,eb,Result.andThen_ok,fun (w : World) (x y : Int)=>run_equalIn_int (P:=prog) w 9998 3 .i64 .i64 x y i64,qHq,
  fun w x y z v=>qDf (P:=prog) w 9997 115 29 pr u64 qGP x y z v,Sem.run_pure]
 by_cases h1 : k = k'
 · by_cases h2 : b = b'
   · by_cases h3 : z = z'
     · by_cases h4 : e = e' ∧ s = s' ∧ v = v'
       · by_cases h5 : (t,u) = (t',u')
         · simp_all
         · have : ((t,u) == (t',u')) = false:=by simpa using h5
           obtain ⟨ha,hb,hc⟩:=h4
           simp [h1,h2,h3,ha,hb,hc,this,h5]
       · have h6 : ¬ ((⟨k,b,z,e,s,v,(t,u)⟩ : Lf) = ⟨k',b',z',e',s',v',(t',u')⟩):=fun e=>by
          simp only [Lf.mk.injEq] at e
          exact h4 ⟨e.2.2.2.1,e.2.2.2.2.1,e.2.2.2.2.2.1⟩
         rw [decide_eq_false h6,decide_eq_false h4]
         simp [h1,h2,h3]
     · simp [h1,h2,h3]
   · simp [h1,h2]
 · simp [h1]
theorem qGQ {l : Lf} {s : Int} (h : s < 0 ∨ 16 ≤ s) : qAR l s = false:=by
 unfold qAR
 rcases h with h | h
 · have : decide (0 ≤ s) = false:=by simp;omega
   rw [this];rfl
 · have : decide (s < 16) = false:=by simp;omega
   rw [this];simp
theorem qOu {l : Lf} {s : Int} (h0 : 0 ≤ s) (h1 : s < 16) (hk : l.kind = 0) : qAR l s = qRy l ⟨0,false,0,0#32,0#32,0#64,(0#64,0#64)⟩:=by
 unfold qAR;rw [if_pos hk,decide_eq_true h0,decide_eq_true h1];rfl
theorem qOv {l : Lf} {s : Int} (h0 : 0 ≤ s) (h1 : s < 16) (hk : l.kind = 2) : qAR l s = (qC4 l.lba && qRy l ⟨2,true,l.lba,0#32,0#32,0#64,(0#64,0#64)⟩):=by
 unfold qAR;rw [if_neg (by omega),if_pos hk,decide_eq_true h0,decide_eq_true h1];rfl
theorem qOw {l : Lf} {s : Int} (h0 : 0 ≤ s) (h1 : s < 16) (hk : l.kind = 1) : qAR l s = (qC4 l.lba && (l.sl == BitVec.ofInt 32 s) && decide (0#32 < l.ep)):=by
 unfold qAR;rw [if_neg (by omega),if_neg (by omega),if_pos hk,decide_eq_true h0,decide_eq_true h1];rfl
theorem qOx {l : Lf} {s : Int} (h0 : l.kind ≠ 0) (h2 : l.kind ≠ 2) (h1 : l.kind ≠ 1) : qAR l s = false:=by
 unfold qAR;rw [if_neg h0,if_neg h2,if_neg h1];simp
theorem qDo (n : Int) (w : World) : Calls prog 184 #[.int .i64 n] w fun e w'=>e = .returned (.bool (qC4 n)) ∧ w = w':=by
 unfold qC4
 by_cases h0 : 0 ≤ n
 · rw [decide_eq_true h0]
   by_cases h1 : n < 32
   · rw [decide_eq_true h1]
     go_enter func184,ntmps184
     go_wp2
     go_ret
     exact ⟨rfl,rfl⟩
   · rw [decide_eq_false h1]
     have h2 : 32 ≤ n:=by omega
     go_enter func184,ntmps184
     go_wp2
     go_ret
     exact ⟨rfl,rfl⟩
 · rw [decide_eq_false h0]
   have h2 : n < 0:=by omega
   go_enter func184,ntmps184
   go_wp2
   go_ret
   exact ⟨rfl,rfl⟩
theorem qMG (k : Int) (b : Bool) (z : Int) (e q : BitVec 32) (v t1 t2 : BitVec 64) (s : Int) (lo : -9223372036854775808 ≤ s) (hi : s ≤ 9223372036854775807) (w : World) : Calls prog 173 #[.agg #[.int .i64 k,.bool b,.int .i64 z,W e,W q,U v,U t1,U t2],.int .i64 s] w fun e' w'=>e' = .returned (.bool (qAR (⟨k,b,z,e,q,v,(t1,t2)⟩ : Lf) s)) ∧ qA4 w w':=by
 have hk0 : qA4 w (w.alloc (.cells #[.int .i64 k,.bool b,.int .i64 z,W e,W q,U v,U t1,U t2] 117)):=qal _
 have hR : Blk (w.alloc (.cells #[.int .i64 k,.bool b,.int .i64 z,W e,W q,U v,U t1,U t2] 117)) w.heap.size #[.int .i64 k,.bool b,.int .i64 z,W e,W q,U v,U t1,U t2] 117:=Blk.new _ _ _
 have r0:=hR.cell 0
 have r1:=hR.cell 1
 have r2:=hR.cell 2
 have r3:=hR.cell 3
 have r4:=hR.cell 4
 have r5:=hR.cell 5
 have r6:=hR.cell 6
 have r7:=hR.cell 7
 clear hR
 by_cases hs0 : s < 0
 · rw [qGQ (.inl hs0)]
   go_enter func173,ntmps173
   go_wp2
   go_ret
   exact ⟨rfl,hk0⟩
 by_cases hs1 : 16 ≤ s
 · rw [qGQ (.inr hs1)]
   have hs2 : 0 ≤ s:=by omega
   go_enter func173,ntmps173
   go_wp2
   go_ret
   exact ⟨rfl,hk0⟩
 have g0 : 0 ≤ s:=by omega
 have g1 : s < 16:=by omega
 clear hs0 hs1
 by_cases k0 : k = 0
 · subst k0
   rw [qOu g0 g1 rfl]
   go_enter func173,ntmps173
   go_wp2
   go_ret
   exact ⟨rfl,hk0⟩
 have k0' : (k == 0) = false:=by simpa using k0
 by_cases k2 : k = 2
 · subst k2
   rw [qOv g0 g1 rfl]
   simp only []
   cases hz : qC4 z
   · have hz0 : z < 0 ∨ 32 ≤ z:=by simp [qC4] at hz;omega
     rw [Bool.false_and]
     go_enter func173,ntmps173
     go_wp2_with fail
     refine (qDo _ _).mono ?_
     rintro e' w1 ⟨rfl,rfl⟩
     rw [hz]
     go_wp2
     go_ret
     exact ⟨rfl,hk0⟩
   · have hz0 : 0 ≤ z ∧ z < 32:=by simpa [qC4] using hz
     obtain ⟨hz1,hz2⟩:=hz0
     rw [Bool.true_and]
     go_enter func173,ntmps173
     go_wp2_with fail
     refine (qDo _ _).mono ?_
     rintro e' w1 ⟨rfl,rfl⟩
     rw [hz]
     go_wp2
     go_ret
     exact ⟨rfl,hk0⟩
 have k2' : (k == 2) = false:=by simpa using k2
 by_cases k1 : k = 1
 · subst k1
   rw [qOw g0 g1 rfl]
   simp only []
   cases hz : qC4 z
   · have hz0 : z < 0 ∨ 32 ≤ z:=by simp [qC4] at hz;omega
     rw [Bool.false_and,Bool.false_and]
     go_enter func173,ntmps173
     go_wp2_with fail
     refine (qDo _ _).mono ?_
     rintro e' w1 ⟨rfl,rfl⟩
     rw [hz]
     go_wp2
     go_ret
     exact ⟨rfl,hk0⟩
   · have hz0 : 0 ≤ z ∧ z < 32:=by simpa [qC4] using hz
     obtain ⟨hz1,hz2⟩:=hz0
     rw [Bool.true_and]
     have hcv : ∀ wx : World,(convert 3 94 (.int .i64 s)).run prog wx = .ok (W (BitVec.ofInt 32 s)) wx:=fun wx=>by
      rw [qAF wx 3 94 _ .u32 _ (by kernel_rfl) underlying94,qIV]
     cases hq : q == BitVec.ofInt 32 s
     · rw [Bool.false_and]
       go_enter func173,ntmps173
       go_wp2_with fail
       refine (qDo _ _).mono ?_
       rintro e' w1 ⟨rfl,rfl⟩
       rw [hz]
       go_wp2
       go_ret
       exact ⟨rfl,hk0⟩
     · rw [Bool.true_and]
       go_enter func173,ntmps173
       go_wp2_with fail
       refine (qDo _ _).mono ?_
       rintro e' w1 ⟨rfl,rfl⟩
       rw [hz]
       go_wp2
       go_ret
       exact ⟨by rfl,hk0⟩
 have k1' : (k == 1) = false:=by simpa using k1
 rw [qOx k0 k2 k1]
 go_enter func173,ntmps173
 go_wp2
 go_ret
 exact ⟨rfl,hk0⟩
theorem qGw (k : Int) (z : Int) (e q : BitVec 32) (v t1 t2 : BitVec 64) (s : Int) (lo : -9223372036854775808 ≤ s) (hi : s ≤ 9223372036854775807) (h : qAR (⟨k,false,z,e,q,v,(t1,t2)⟩ : Lf) s = true) (w : World) : Calls prog 146 #[.agg #[.int .i64 k,.bool false,.int .i64 z,W e,W q,U v,U t1,U t2],.int .i64 s] w fun e' w'=>∃ x,e' = .returned (.tuple #[x,.bool true]) ∧ w'.ownsRow w.heap.size 5 1 x 32 (qA1 (qDc (⟨k,false,z,e,q,v,(t1,t2)⟩ : Lf))) ∧ qA4 w w':=by
 have hk0 : qA4 w (w.alloc (.cells #[.int .i64 k,.bool false,.int .i64 z,W e,W q,U v,U t1,U t2] 117)):=qal _
 have hR : Blk (w.alloc (.cells #[.int .i64 k,.bool false,.int .i64 z,W e,W q,U v,U t1,U t2] 117)) w.heap.size #[.int .i64 k,.bool false,.int .i64 z,W e,W q,U v,U t1,U t2] 117:=Blk.new _ _ _
 have hu : ∀ (n : Int) (wx : World),(convert 3 29 (.int .i64 n)).run prog wx = .ok (U (BitVec.ofInt 64 n)) wx:=fun n wx=>by
  rw [qAF wx 3 29 _ .u64 _ (by kernel_rfl) underlying29,qDd]
 have q0:=hR.cell 0
 have q1:=hR.cell 1
 have q2:=hR.cell 2
 have q3:=hR.cell 3
 have q4:=hR.cell 4
 have q5:=hR.cell 5
 have q6:=hR.cell 6
 have q7:=hR.cell 7
 go_enter func146,ntmps146
 go_wp2_with fail
 refine (qMG _ _ _ _ _ _ _ _ _ lo hi _).mono ?_
 rintro e' w0 ⟨rfl,hk1⟩
 rw [h]
 replace hk0:=hk0.of hk1
 replace hR:=hR.kept hk1
 clear q0 q1 q2 q3 q4 q5 q6 q7
 have q0:=hR.cell 0
 have q1:=hR.cell 1
 clear h hk1
 go_wp2_with fail
 refine qA5 [(0,0),(1,0),(2,0),(4,0),(6,0),(7,0),(8,0),(10,0),(11,0),(12,0),(13,0),(15,0),(16,0),(17,0),(19,0),(20,0),(3,1),(5,1),(9,1),(14,1),(18,1),(21,1),(22,1),(23,1),(24,0),(25,0)] (by kernel_rfl) (by kernel_rfl) ?_
 intro w1 hw1
 replace hR:=hR.kept hw1
 repeat
  refine qA0 _ rfl (fun K hK=>?_)
  first
   | (refine qqP (by rfl) ?_;apply Exists.intro;refine ⟨fun w' hw'=>?_,hK _ ?_⟩;(have c:=hR.kept hw';have r0:=c.cell 0;have r1:=c.cell 1;have r2:=c.cell 2;have r3:=c.cell 3;have r4:=c.cell 4;have r5:=c.cell 5;have r6:=c.cell 6;have r7:=c.cell 7;clear c;go_simp;first|done|rfl))
   | refine qqN (by rfl) (hK _ ?_)
  clear hK K;simp only [Act.put,qqB]
 refine qqH _ rfl (by rfl) (fun K hK=>?_)
 go_wp2_with fail
 refine (qAO _ 1 (by omega) (by omega) _).mono ?_
 rintro e w2 ⟨x2,rfl,hown2,hk2⟩
 obtain ⟨a2,c2,he2⟩:=(Sl.of_own hown2).len
 subst he2
 have s2:=Sl.of_own hown2
 clear hown2
 replace hR:=hR.kept hk2
 go_wp2
 refine hK _ _ (hk2) ?_
 clear hK K
 try simp only [Act.put,qqB]
 refine qqH _ rfl (by rfl) (fun K hK=>?_)
 go_wp2_with fail
 refine (qAO _ 1 (by omega) (by omega) _).mono ?_
 rintro e w3 ⟨x3,rfl,hown3,hk3⟩
 obtain ⟨a3,c3,he3⟩:=(Sl.of_own hown3).len
 subst he3
 have s3:=Sl.of_own hown3
 clear hown3
 replace hR:=hR.kept hk3
 replace s2:=s2.kept hk3
 go_wp2
 refine hK _ _ (hk3) ?_
 clear hK K
 try simp only [Act.put,qqB]
 refine qqH _ rfl (by rfl) (fun K hK=>?_)
 go_wp2_with fail
 refine (qAO _ 2 (by omega) (by omega) _).mono ?_
 rintro e w4 ⟨x4,rfl,hown4,hk4⟩
 obtain ⟨a4,c4,he4⟩:=(Sl.of_own hown4).len
 subst he4
 have s4:=Sl.of_own hown4
 clear hown4
 replace hR:=hR.kept hk4
 replace s2:=s2.kept hk4
 replace s3:=s3.kept hk4
 go_wp2
 refine hK _ _ (hk4) ?_
 clear hK K
 try simp only [Act.put,qqB]
 refine qqH _ rfl (by rfl) (fun K hK=>?_)
 go_wp2_with fail
 refine (qAO _ 4 (by omega) (by omega) _).mono ?_
 rintro e w5 ⟨x5,rfl,hown5,hk5⟩
 obtain ⟨a5,c5,he5⟩:=(Sl.of_own hown5).len
 subst he5
 have s5:=Sl.of_own hown5
 clear hown5
 replace hR:=hR.kept hk5
 replace s2:=s2.kept hk5
 replace s3:=s3.kept hk5
 replace s4:=s4.kept hk5
 go_wp2
 refine hK _ _ (hk5) ?_
 clear hK K
 try simp only [Act.put,qqB]
 refine qqH _ rfl (by rfl) (fun K hK=>?_)
 go_wp2_with fail
 refine (qAO _ 8 (by omega) (by omega) _).mono ?_
 rintro e w6 ⟨x6,rfl,hown6,hk6⟩
 obtain ⟨a6,c6,he6⟩:=(Sl.of_own hown6).len
 subst he6
 have s6:=Sl.of_own hown6
 clear hown6
 replace hR:=hR.kept hk6
 replace s2:=s2.kept hk6
 replace s3:=s3.kept hk6
 replace s4:=s4.kept hk6
 replace s5:=s5.kept hk6
 go_wp2
 refine hK _ _ (hk6) ?_
 clear hK K
 try simp only [Act.put,qqB]
 refine qqH _ rfl (by rfl) (fun K hK=>?_)
 go_wp2_with fail
 refine (qBl _ _ _).mono ?_
 rintro e w7 ⟨x7,rfl,hown7,hk7⟩
 obtain ⟨a7,c7,he7⟩:=(Sl.of_own hown7).len
 subst he7
 have s7:=Sl.of_own hown7
 clear hown7
 replace hR:=hR.kept hk7
 replace s2:=s2.kept hk7
 replace s3:=s3.kept hk7
 replace s4:=s4.kept hk7
 replace s5:=s5.kept hk7
 replace s6:=s6.kept hk7
 go_wp2
 refine hK _ _ (hk7) ?_
 clear hK K
 try simp only [Act.put,qqB]
 refine qqH _ rfl (by rfl) (fun K hK=>?_)
 go_wp2
 refine hK _ _ (qal _) ?_
 clear hK K
 try simp only [Act.put,qqB]
 refine qqH _ rfl (by rfl) (fun K hK=>?_)
 go_wp2_with fail
 refine (qCb _ [qB2 (BitVec.ofInt 64 k) 1,qB2 (0#64) 1,qB2 (BitVec.ofInt 64 z) 2,qB2 (e.setWidth 64) 4,qB2 v 8,qAN (t1,t2)] (by simp) (by simp [qAb,qAr]) _ (qBE.lit (us:=[.slice a2 1 c2,.slice a3 1 c3,.slice a4 2 c4,.slice a5 4 c5,.slice a6 8 c6,.slice a7 16 c7]) (.cons (by rw [qAb];exact s2) (.cons (by rw [qAb];exact s3) (.cons (by rw [qAb];exact s4) (.cons (by rw [qAb];exact s5) (.cons (by rw [qAb];exact s6) (.cons (by rw [qAr];exact s7) .nil)))))) 32 6 rfl (by decide))).mono ?_
 rintro e w8 ⟨x8,rfl,hown8,hk8⟩
 go_wp2
 refine hK _ _ (hk8) ?_
 clear hK K
 try simp only [Act.put,qqB]
 repeat
  refine qA0 _ rfl (fun K hK=>?_)
  first
   | (refine qqP (by rfl) ?_;apply Exists.intro;refine ⟨fun w' hw'=>?_,hK _ ?_⟩;go_simp;first|done|rfl)
   | refine qqN (by rfl) (hK _ ?_)
  clear hK K;simp only [Act.put,qqB]
 refine qA7 ?_
 go_wp2
 go_ret2
 have hfl : [qB2 (BitVec.ofInt 64 k) 1,qB2 (0#64) 1,qB2 (BitVec.ofInt 64 z) 2,qB2 (e.setWidth 64) 4,qB2 v 8,qAN (t1,t2)].flatten = qDc ⟨k,false,z,e,q,v,(t1,t2)⟩:=by simp [qDc,qMv]
 rw [hfl,qBp] at hown8
 have hk9:=((((((hk0.of hw1).of hk2).of hk3).of hk4).of hk5).of hk6).of hk7
 refine ⟨x8,rfl,qAg hown8 ?_,(hk9.of (qal _)).of hk8⟩
 have:=hk9.size
 simp
 omega
theorem qHr (k : Int) (z : Int) (e q : BitVec 32) (v t1 t2 : BitVec 64) (s : Int) (lo : -9223372036854775808 ≤ s) (hi : s ≤ 9223372036854775807) (h : qAR (⟨k,true,z,e,q,v,(t1,t2)⟩ : Lf) s = true) (w : World) : Calls prog 146 #[.agg #[.int .i64 k,.bool true,.int .i64 z,W e,W q,U v,U t1,U t2],.int .i64 s] w fun e' w'=>∃ x,e' = .returned (.tuple #[x,.bool true]) ∧ w'.ownsRow w.heap.size 5 1 x 32 (qA1 (qDc (⟨k,true,z,e,q,v,(t1,t2)⟩ : Lf))) ∧ qA4 w w':=by
 have hk0 : qA4 w (w.alloc (.cells #[.int .i64 k,.bool true,.int .i64 z,W e,W q,U v,U t1,U t2] 117)):=qal _
 have hR : Blk (w.alloc (.cells #[.int .i64 k,.bool true,.int .i64 z,W e,W q,U v,U t1,U t2] 117)) w.heap.size #[.int .i64 k,.bool true,.int .i64 z,W e,W q,U v,U t1,U t2] 117:=Blk.new _ _ _
 have hu : ∀ (n : Int) (wx : World),(convert 3 29 (.int .i64 n)).run prog wx = .ok (U (BitVec.ofInt 64 n)) wx:=fun n wx=>by
  rw [qAF wx 3 29 _ .u64 _ (by kernel_rfl) underlying29,qDd]
 have q0:=hR.cell 0
 have q1:=hR.cell 1
 have q2:=hR.cell 2
 have q3:=hR.cell 3
 have q4:=hR.cell 4
 have q5:=hR.cell 5
 have q6:=hR.cell 6
 have q7:=hR.cell 7
 go_enter func146,ntmps146
 go_wp2_with fail
 refine (qMG _ _ _ _ _ _ _ _ _ lo hi _).mono ?_
 rintro e' w0 ⟨rfl,hk1⟩
 rw [h]
 replace hk0:=hk0.of hk1
 replace hR:=hR.kept hk1
 clear q0 q1 q2 q3 q4 q5 q6 q7
 have q0:=hR.cell 0
 have q1:=hR.cell 1
 clear h hk1
 go_wp2_with fail
 refine qA5 [(0,0),(1,0),(2,0),(4,0),(6,0),(7,0),(8,0),(10,0),(11,0),(12,0),(13,0),(15,0),(16,0),(17,0),(19,0),(20,0),(3,1),(5,1),(9,1),(14,1),(18,1),(21,1),(22,1),(23,1),(24,0),(25,0)] (by kernel_rfl) (by kernel_rfl) ?_
 intro w1 hw1
 replace hR:=hR.kept hw1
 repeat
  refine qA0 _ rfl (fun K hK=>?_)
  first
   | (refine qqP (by rfl) ?_;apply Exists.intro;refine ⟨fun w' hw'=>?_,hK _ ?_⟩;(have c:=hR.kept hw';have r0:=c.cell 0;have r1:=c.cell 1;have r2:=c.cell 2;have r3:=c.cell 3;have r4:=c.cell 4;have r5:=c.cell 5;have r6:=c.cell 6;have r7:=c.cell 7;clear c;go_simp;first|done|rfl))
   | refine qqN (by rfl) (hK _ ?_)
  clear hK K;simp only [Act.put,qqB]
 refine qqH _ rfl (by rfl) (fun K hK=>?_)
 go_wp2_with fail
 refine (qAO _ 1 (by omega) (by omega) _).mono ?_
 rintro e w2 ⟨x2,rfl,hown2,hk2⟩
 obtain ⟨a2,c2,he2⟩:=(Sl.of_own hown2).len
 subst he2
 have s2:=Sl.of_own hown2
 clear hown2
 replace hR:=hR.kept hk2
 go_wp2
 refine hK _ _ (hk2) ?_
 clear hK K
 try simp only [Act.put,qqB]
 refine qqH _ rfl (by rfl) (fun K hK=>?_)
 go_wp2_with fail
 refine (qAO _ 1 (by omega) (by omega) _).mono ?_
 rintro e w3 ⟨x3,rfl,hown3,hk3⟩
 obtain ⟨a3,c3,he3⟩:=(Sl.of_own hown3).len
 subst he3
 have s3:=Sl.of_own hown3
 clear hown3
 replace hR:=hR.kept hk3
 replace s2:=s2.kept hk3
 go_wp2
 refine hK _ _ (hk3) ?_
 clear hK K
 try simp only [Act.put,qqB]
 refine qqH _ rfl (by rfl) (fun K hK=>?_)
 go_wp2_with fail
 refine (qAO _ 2 (by omega) (by omega) _).mono ?_
 rintro e w4 ⟨x4,rfl,hown4,hk4⟩
 obtain ⟨a4,c4,he4⟩:=(Sl.of_own hown4).len
 subst he4
 have s4:=Sl.of_own hown4
 clear hown4
 replace hR:=hR.kept hk4
 replace s2:=s2.kept hk4
 replace s3:=s3.kept hk4
 go_wp2
 refine hK _ _ (hk4) ?_
 clear hK K
 try simp only [Act.put,qqB]
 refine qqH _ rfl (by rfl) (fun K hK=>?_)
 go_wp2_with fail
 refine (qAO _ 4 (by omega) (by omega) _).mono ?_
 rintro e w5 ⟨x5,rfl,hown5,hk5⟩
 obtain ⟨a5,c5,he5⟩:=(Sl.of_own hown5).len
 subst he5
 have s5:=Sl.of_own hown5
 clear hown5
 replace hR:=hR.kept hk5
 replace s2:=s2.kept hk5
 replace s3:=s3.kept hk5
 replace s4:=s4.kept hk5
 go_wp2
 refine hK _ _ (hk5) ?_
 clear hK K
 try simp only [Act.put,qqB]
 refine qqH _ rfl (by rfl) (fun K hK=>?_)
 go_wp2_with fail
 refine (qAO _ 8 (by omega) (by omega) _).mono ?_
 rintro e w6 ⟨x6,rfl,hown6,hk6⟩
 obtain ⟨a6,c6,he6⟩:=(Sl.of_own hown6).len
 subst he6
 have s6:=Sl.of_own hown6
 clear hown6
 replace hR:=hR.kept hk6
 replace s2:=s2.kept hk6
 replace s3:=s3.kept hk6
 replace s4:=s4.kept hk6
 replace s5:=s5.kept hk6
 go_wp2
 refine hK _ _ (hk6) ?_
 clear hK K
 try simp only [Act.put,qqB]
 refine qqH _ rfl (by rfl) (fun K hK=>?_)
 go_wp2_with fail
 refine (qBl _ _ _).mono ?_
 rintro e w7 ⟨x7,rfl,hown7,hk7⟩
 obtain ⟨a7,c7,he7⟩:=(Sl.of_own hown7).len
 subst he7
 have s7:=Sl.of_own hown7
 clear hown7
 replace hR:=hR.kept hk7
 replace s2:=s2.kept hk7
 replace s3:=s3.kept hk7
 replace s4:=s4.kept hk7
 replace s5:=s5.kept hk7
 replace s6:=s6.kept hk7
 go_wp2
 refine hK _ _ (hk7) ?_
 clear hK K
 try simp only [Act.put,qqB]
 refine qqH _ rfl (by rfl) (fun K hK=>?_)
 go_wp2
 refine hK _ _ (qal _) ?_
 clear hK K
 try simp only [Act.put,qqB]
 refine qqH _ rfl (by rfl) (fun K hK=>?_)
 go_wp2_with fail
 refine (qCb _ [qB2 (BitVec.ofInt 64 k) 1,qB2 (1#64) 1,qB2 (BitVec.ofInt 64 z) 2,qB2 (e.setWidth 64) 4,qB2 v 8,qAN (t1,t2)] (by simp) (by simp [qAb,qAr]) _ (qBE.lit (us:=[.slice a2 1 c2,.slice a3 1 c3,.slice a4 2 c4,.slice a5 4 c5,.slice a6 8 c6,.slice a7 16 c7]) (.cons (by rw [qAb];exact s2) (.cons (by rw [qAb];exact s3) (.cons (by rw [qAb];exact s4) (.cons (by rw [qAb];exact s5) (.cons (by rw [qAb];exact s6) (.cons (by rw [qAr];exact s7) .nil)))))) 32 6 rfl (by decide))).mono ?_
 rintro e w8 ⟨x8,rfl,hown8,hk8⟩
 go_wp2
 refine hK _ _ (hk8) ?_
 clear hK K
 try simp only [Act.put,qqB]
 repeat
  refine qA0 _ rfl (fun K hK=>?_)
  first
   | (refine qqP (by rfl) ?_;apply Exists.intro;refine ⟨fun w' hw'=>?_,hK _ ?_⟩;go_simp;first|done|rfl)
   | refine qqN (by rfl) (hK _ ?_)
  clear hK K;simp only [Act.put,qqB]
 refine qA7 ?_
 go_wp2
 go_ret2
 have hfl : [qB2 (BitVec.ofInt 64 k) 1,qB2 (1#64) 1,qB2 (BitVec.ofInt 64 z) 2,qB2 (e.setWidth 64) 4,qB2 v 8,qAN (t1,t2)].flatten = qDc ⟨k,true,z,e,q,v,(t1,t2)⟩:=by simp [qDc,qMv]
 rw [hfl,qBp] at hown8
 have hk9:=((((((hk0.of hw1).of hk2).of hk3).of hk4).of hk5).of hk6).of hk7
 refine ⟨x8,rfl,qAg hown8 ?_,(hk9.of (qal _)).of hk8⟩
 have:=hk9.size
 simp
 omega
theorem qEx (k : Int) (b : Bool) (z : Int) (e q : BitVec 32) (v t1 t2 : BitVec 64) (s : Int) (lo : -9223372036854775808 ≤ s) (hi : s ≤ 9223372036854775807) (h : qAR (⟨k,b,z,e,q,v,(t1,t2)⟩ : Lf) s = false) (w : World) : Calls prog 146 #[.agg #[.int .i64 k,.bool b,.int .i64 z,W e,W q,U v,U t1,U t2],.int .i64 s] w fun e' w'=>e' = .returned (.tuple #[.slice none 0 0,.bool false]) ∧ qA4 w w':=by
 have hk0 : qA4 w (w.alloc (.cells #[.int .i64 k,.bool b,.int .i64 z,W e,W q,U v,U t1,U t2] 117)):=qal _
 have hR : Blk (w.alloc (.cells #[.int .i64 k,.bool b,.int .i64 z,W e,W q,U v,U t1,U t2] 117)) w.heap.size #[.int .i64 k,.bool b,.int .i64 z,W e,W q,U v,U t1,U t2] 117:=Blk.new _ _ _
 have q0:=hR.cell 0
 have q1:=hR.cell 1
 have q2:=hR.cell 2
 have q3:=hR.cell 3
 have q4:=hR.cell 4
 have q5:=hR.cell 5
 have q6:=hR.cell 6
 have q7:=hR.cell 7
 clear hR
 go_enter func146,ntmps146
 go_wp2_with fail
 refine (qMG _ _ _ _ _ _ _ _ _ lo hi _).mono ?_
 rintro e' w0 ⟨rfl,hk1⟩
 rw [h]
 replace hk0:=hk0.of hk1
 clear h hk1
 go_wp2
 go_ret2
 exact ⟨rfl,hk0⟩
def kb (k : Int) : UInt8:=UInt8.ofNat (k % 256).toNat
end Go.Proofs.YtdlgihbpiakebaaGreat
