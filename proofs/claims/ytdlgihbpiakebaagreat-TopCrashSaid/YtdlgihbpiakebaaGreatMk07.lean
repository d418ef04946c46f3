import Derived.Test.YtdlgihbpiakebaaGreatMk01
import Derived.Test.YtdlgihbpiakebaaGreatMk04
import Derived.Test.YtdlgihbpiakebaaGreatMk05
import Derived.Test.YtdlgihbpiakebaaGreatMk06
import Derived.Test.YtdlgihbpiakebaaGreatProg
import Derived.Lib.Hide
import Derived.IntWalk
set_option maxRecDepth 100000
set_option maxHeartbeats 4000000
namespace Go.Proofs.YtdlgihbpiakebaaGreat
open Go Go.RowKit Tryz
@[go_sem] theorem qSG (t:TypeId) (x y:BitVec 64):binOp .gtr t (U x) (U y)=pure (.bool (decide (y<x))):=by
 refine(binOp_gtr ..).trans ?_
 congr 2
 simp only[gt_iff_lt,BitVec.lt_def,decide_eq_decide]
 omega
theorem qDt {bs:List Nat}{g:Nat}{w w1 w2:World}(h1:Chg bs w w1)(h2:Chg [g] w1 w2)(hg:w.heap.size≤g):Chg bs w w2:=
 ⟨h2.os.trans h1.os,h2.tape.trans h1.tape,h2.output.trans h1.output,Nat.le_trans h1.size h2.size,fun k c hn=>(h2.block k (Nat.lt_of_lt_of_le c h1.size) (by simp;omega)).trans (h1.block k c hn)⟩
def qJS (w:World)(M:Nat)(boot:BitVec 64)(k:Nat):Prop:=Blk w M #[U boot,.int .i64 k] 153
theorem qMW (boot:BitVec 64)(h:boot.toNat≤4294967295)(w:World):Calls prog 45 #[U boot] w fun e w'=>e= .returned (.tuple #[.pointer (some ⟨w.heap.size,0,none⟩),.int .i64 0])∧qJS w' w.heap.size boot 0∧qA4 w w':=by
 have f:decide ((4294967295#64:BitVec 64)<boot)=false:=by simp[BitVec.lt_def];exact h
 have c:¬((4294967295#64:BitVec 64)<boot):=by simp[BitVec.lt_def];exact h
 go_enter func45,ntmps45
 go_wp2
 go_ret2
 exact⟨rfl,Blk.new _ _ _,qal _⟩
theorem qF9 (M:Nat)(boot:BitVec 64)(k:Nat)(hk:k≤100)(w:World)(h:qJS w M boot k):Calls prog 121 #[.pointer (some ⟨M,0,none⟩)] w fun e w'=>e= .returned (.int .i64 (100 - k:Nat))∧w=w':=by
 have f:=Blk.cell h 1
 have c:((100 - k:Nat):Int)=100 - (k:Int):=by omega
 rw[c]
 have j:=qh c
 clear c
 go_enter func121,ntmps121
 go_wp2
 go_ret
 exact⟨rfl,rfl⟩
theorem qLL (n:Nn)(w:World):Calls prog 139 #[n.val] w fun e w'=>e= .returned (U (n.version>>>32))∧qA4 w w':=by
 have c:=Blk.new w #[W n.epoch,W n.slot,U n.version] 113
 have f:=c.cell 2
 unfold Nn.val
 go_enter func139,ntmps139
 go_wp2
 go_ret
 exact⟨rfl,qal _⟩
def qOG (epoch:BitVec 32)(slot:Int)(boot:BitVec 64)(k:Nat):Nn:=⟨epoch,BitVec.ofInt 32 slot,boot<<<32+BitVec.ofInt 64 (k:Int)⟩
theorem qH3 (M:Nat)(boot:BitVec 64)(epoch:BitVec 32)(slot:Nat)(hs:slot≤65535)(w:World)(h:qJS w M boot 100):Calls prog 159 #[.pointer (some ⟨M,0,none⟩),W epoch,.int .i64 slot] w fun e w'=>e= .returned (.tuple #[.agg #[W 0#32,W 0#32,U 0#64],.int .i64 6])∧qA4 w w':=by
 have c:=Blk.new w #[W 0#32,W 0#32,U 0#64] 113
 have f:qA4 w (w.alloc (.cells #[W 0#32,W 0#32,U 0#64] 113)):=qal _
 have F:¬(slot:Int)<0:=by omega
 have G:¬65535<(slot:Int):=by omega
 go_enter func159,ntmps159
 go_wp2_with fail
 refine(qF9 M boot 100 (by omega) _ (Blk.kept h f)).mono ?_
 rintro e w1 ⟨rfl,rfl⟩
 go_wp2
 have l:=c.cell 0
 have q:=c.cell 1
 have j:=c.cell 2
 refine bodyPost_ret (v:=.tuple #[.agg #[W 0#32,W 0#32,U 0#64],.int .i64 6]) (by simp[results,results159,go_sem,l,q,j];try exact⟨rfl,rfl,rfl⟩) rfl ⟨rfl,f⟩
theorem qH4 (M:Nat)(boot:BitVec 64)(k:Nat)(hk100:k<100)(epoch:BitVec 32)(slot:Nat)(hs:slot≤65535)(w:World)(h:qJS w M boot k):Calls prog 159 #[.pointer (some ⟨M,0,none⟩),W epoch,.int .i64 slot] w fun e w'=>e= .returned (.tuple #[(qOG epoch slot boot (k+1)).val,.int .i64 0])∧qJS w' M boot (k+1)∧Chg [M] w w':=by
 have hk:qA4 w (w.alloc (.cells #[W 0#32,W 0#32,U 0#64] 113)):=qal _
 have a1:M<w.heap.size:=Blk.lt h
 have q:qJS (w.alloc (.cells #[W 0#32,W 0#32,U 0#64] 113)) M boot k:=Blk.kept h hk
 have Z:=Blk.new w #[W 0#32,W 0#32,U 0#64] 113
 have n1:¬(slot:Int)<0:=by omega
 have n2:¬65535<(slot:Int):=by omega
 have n3:¬((100 - k:Nat):Int)=0:=by omega
 have n4:(((100 - k:Nat):Int)==0)=false:=by simpa using n3
 have c1:=Blk.cell q 1
 have f1:=Blk.free q 1
 have a3:k<100:=hk100
 have hu:∀(n:Int) (l:World),(convert 3 29 (.int .i64 n)).run prog l= .ok (U (BitVec.ofInt 64 n)) l:=fun n l=>by
  rw[qAH l 3 29 _ .u64 _ (by kernel_rfl) underlying29,qDq]
 obtain⟨j,J⟩:∃j,j=BitVec.ofInt 32 (slot:Int):=⟨_,rfl⟩
 have hv:∀(l:World),(convert 3 94 (.int .i64 (slot:Int))).run prog l= .ok (W j) l:=fun l=>by
  rw[J,qAH l 3 94 _ .u32 _ (by kernel_rfl) underlying94,qJI]
 have a0:=qh J
 clear J
 go_enter func159,ntmps159
 go_wp2_with fail
 generalize (w.alloc (.cells #[W 0#32,W 0#32,U 0#64] 113))=w0 at *
 refine(qF9 M boot k (by omega) _ q).mono ?_
 rintro e w1 ⟨rfl,rfl⟩
 have hq:Chg [M] w0 (w0.setCell ⟨M,1,none⟩ (.int .i64 ((k:Int)+1))):=Chg.step (by simp) _
 have G:Blk (w0.setCell ⟨M,1,none⟩ (.int .i64 ((k:Int)+1))) M #[U boot,.int .i64 ((k:Int)+1)] 153:=by
  have:=q.set 1 (.int .i64 ((k:Int)+1))
  simpa using this
 replace Z:=hq.blk Z (by simp;omega)
 have a2:=hk.size
 go_wp2_with fail
 clear c1 f1
 generalize (w0.setCell ⟨M,1,none⟩ (.int .i64 ((k:Int)+1)))=w2 at *
 refine qAb [w.heap.size] [(0,0),(1,0),(2,0),(3,0),(4,0),(5,0),(6,0),(7,0),(8,0),(9,0),(10,0),(11,0),(12,0),(13,0),(14,0),(15,1),(16,0)] (by kernel_rfl) (by kernel_rfl) ?_
 intro V c
 repeat
  refine qA0 _ rfl (fun K f=>?_)
  first
   | (refine qqP (by rfl) ?_;apply Exists.intro;refine⟨fun w' I=>?_,f _ ?_⟩;(have q0:=(I.blk (G.kept c) (by simp;omega)).cell 0;have q1:=(I.blk (G.kept c) (by simp;omega)).cell 1;go_simp;first|done|rfl))
   | refine qqN (by rfl) (f _ ?_)
  clear f K;simp only[Act.put,qqB]
 refine qqH _ rfl (by rfl) (fun K f=>?_)
 have F:=Z.kept c
 have g0:=F.free 0
 have g1:=F.free 1
 have g2:=F.free 2
 have e0:=F.cell 0
 have a5:=F.cell 1
 have a4:=F.cell 2
 go_wp2
 refine f _ _ (((Chg.refl _ _).set qsm 0 _ |>.set qsm 1 _ |>.set qsm 2 _)) ?_
 clear f K
 try simp only[Act.put,qqB]
 repeat
  refine qA0 _ rfl (fun K f=>?_)
  first
   | (refine qqP (by rfl) ?_;apply Exists.intro;refine⟨fun w' I=>?_,f _ ?_⟩;go_simp;first|done|rfl)
   | refine qqN (by rfl) (f _ ?_)
  clear f K;simp only[Act.put,qqB]
 refine qA6 ?_
 go_wp2
 have Y:Blk (((V.setCell ⟨w.heap.size,0,none⟩ (W epoch)).setCell ⟨w.heap.size,1,none⟩ (W j)).setCell ⟨w.heap.size,2,none⟩ (U (boot<<<32+BitVec.ofInt 64 ((k:Int)+1)))) w.heap.size #[W epoch,W j,U (boot<<<32+BitVec.ofInt 64 ((k:Int)+1))] 113:=by
  have:=((F.set 0 (W epoch)).set 1 (W j)).set 2 (U (boot<<<32+BitVec.ofInt 64 ((k:Int)+1)))
  simpa using this
 have d0:=Y.cell 0
 have d1:=Y.cell 1
 have d2:=Y.cell 2
 have N:Chg [w.heap.size] V (((V.setCell ⟨w.heap.size,0,none⟩ (W epoch)).setCell ⟨w.heap.size,1,none⟩ (W j)).setCell ⟨w.heap.size,2,none⟩ (U (boot<<<32+BitVec.ofInt 64 ((k:Int)+1)))):=((((Chg.refl _ _).set qsm 0 _).set qsm 1 _).set qsm 2 _)
 have O:((k:Int)+1)=((k+1:Nat):Int):=by omega
 generalize (((V.setCell ⟨w.heap.size,0,none⟩ (W epoch)).setCell ⟨w.heap.size,1,none⟩ (W j)).setCell ⟨w.heap.size,2,none⟩ (U (boot<<<32+BitVec.ofInt 64 ((k:Int)+1))))=we at *
 refine bodyPost_ret (v:=.tuple #[.agg #[W epoch,W j,U (boot<<<32+BitVec.ofInt 64 ((k:Int)+1))],.int .i64 0]) (by simp[results,results159,go_sem,d0,d1,d2];try exact⟨rfl,rfl,rfl⟩) rfl ⟨by rw[O,a0.out];rfl,?_,?_⟩
 · have:=N.blk (G.kept c) (by simp;omega)
   rw[O]at this
   exact this
 · exact qDt ((Chg.of_kept hk).trans (hq.trans (Chg.of_kept c))) N qle
theorem qDu {w:World}{v:Value}{bs:List UInt8}(h:Sl w v bs.length (qA1 bs)):(convert 32 9 v).run prog w= .ok (Str bs) w:=
 qDM (P:=prog) w (src:=32) (dst:=9) underlying32 underlying5 underlying9 h
theorem Sl.byte {w:World}{v:Value}{bs:List UInt8}(h:Sl w v bs.length (qA1 bs))(hc:0<bs.length):∃b off cap,v= .slice (some ⟨b,off,none⟩) bs.length cap∧bs.length≤cap∧cap≤maxLen∧b<w.heap.size∧∀k (c:k<bs.length),w.cell? ⟨b,off+k,none⟩=some (V8 bs[k]):=by
 obtain⟨b,off,cap,j,F,q,f,l⟩:=h.at (by simpa [qA1] using hc)
 exact⟨b,off,cap,j,F,q,f,fun k c=>l k _ (qBT bs k c)⟩
theorem Sl.first {w:World}{p:Option Addr}{m cap n:Nat}{bs:List UInt8}(h:Sl w (.slice p m cap) bs.length (qA1 bs))(hn:n≤bs.length):Sl w (.slice p n cap) (bs.take n).length (qA1 (bs.take n)):=by
 have hl:(bs.take n).length=n:=by rw[List.length_take];omega
 rw[hl]
 rcases h with ⟨h1,h2,h3⟩|⟨a,c,h1,h2,h3,h4⟩
 · cases h1
   obtain rfl:n=0:=by omega
   exact .inl ⟨rfl,rfl,by simp[qA1]⟩
 · cases h1
   refine .inr ⟨a,cap,rfl,by omega,h3,fun j u f=>h4 j u ?_⟩
   unfold qA1 at f ⊢
   rw[List.map_take,List.getElem?_take]at f
   split at f
   · exact f
   · cases f
theorem qQg (a b:UInt8):((a.toNat:Int)==(b.toNat:Int))=(a==b):=by
 rw[Bool.eq_iff_iff,beq_iff_eq,beq_iff_eq]
 exact⟨fun h=>UInt8.toNat_inj.1 (by omega),fun h=>by rw[h]⟩
@[go_sem] theorem qS0 (t:TypeId) (x y:UInt8):binOp .eql t (V8 x) (V8 y)=pure (.bool (x==y)):=(binOp_eql ..).trans (by rw[qQg])
@[go_sem] theorem qS1 (t:TypeId) (x y:UInt8):binOp .neq t (V8 x) (V8 y)=pure (.bool (x != y)):=(binOp_neq ..).trans (by rw[bne,qQg];rfl)
@[go_sem] theorem qSH (t:TypeId) (x y:BitVec 32):binOp .eql t (W x) (W y)=pure (.bool (x==y)):=(binOp_eql ..).trans (by rw[qCO])
@[go_sem] theorem qSI (t:TypeId) (x y:BitVec 32):binOp .neq t (W x) (W y)=pure (.bool (x != y)):=(binOp_neq ..).trans (by rw[bne,qCO];rfl)
theorem qP3 (x y:UInt8):Op.intBits .xor .u8 (x.toNat:Int) (y.toNat:Int)=pure (V8 (x ^^^ y)):=by
 show pure (Value.int .u8 (IntKind.u8.wrap ((BitVec.ofInt 8 _ ^^^ BitVec.ofInt 8 _).toNat:Int)))=_
 have e:∀z:UInt8,BitVec.ofInt 8 (z.toNat:Int)=z.toBitVec:=by
  intro z;apply BitVec.eq_of_toNat_eq;rw[BitVec.toNat_ofInt];have:=z.toNat_lt;show _=z.toNat;omega
 rw[e,e,qMO,V8]
 congr 2
 have h:(x ^^^ y).toNat=(x.toBitVec ^^^ y.toBitVec).toNat:=rfl
 rw[h]
 have:=(x ^^^ y).toNat_lt
 rw[h]at this
 omega
@[go_sem] theorem qS2 (t:TypeId) (x y:UInt8):binOp .xor t (V8 x) (V8 y)=pure (V8 (x ^^^ y)):=(binOp_xor ..).trans (qP3 x y)
end Go.Proofs.YtdlgihbpiakebaaGreat
