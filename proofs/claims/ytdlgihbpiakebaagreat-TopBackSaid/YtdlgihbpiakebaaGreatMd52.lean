import Derived.Test.YtdlgihbpiakebaaGreatMd07
import Derived.Test.YtdlgihbpiakebaaGreatMd15
import Derived.Test.YtdlgihbpiakebaaGreatMd28
import Derived.Test.YtdlgihbpiakebaaGreatMd31
import Derived.Test.YtdlgihbpiakebaaGreatMd51
import Derived.Deep.Slices
set_option maxRecDepth 100000
set_option maxHeartbeats 4000000
namespace Go.Proofs.YtdlgihbpiakebaaGreat
open Go Go.RowKit Tryz
theorem qQ9 {col : Nat → Nat} {w : World} {P : qAQ} {x : Wd} {m : Nat} (h : qAS col w P x) (ok : x.ok m) (hm : m ≤ 100000) : Calls prog 29 #[.pointer (some ⟨P.s,0,none⟩)] w fun e w'=>∃ g c,e = .returned (.slice (some ⟨g,0,none⟩) (gSize x.n) c) ∧ w'.ownsRow w.heap.size 5 1 (.slice (some ⟨g,0,none⟩) (gSize x.n) c) (gSize x.n) (qA1 x.sd.snap) ∧ qA4 w w' :=
 qKg _ P.s P.b x.sd (gSize x.n) m ok.size.1 (by have:=ok.size;omega) hm w h.sdAt ok.s
theorem qJV {col : Nat → Nat} {w : World} {P : qAQ} {x : Wd} {m : Nat} (h : qAS col w P x) (ok : x.ok m) (off : Int) (a : Option Addr) (L c : Nat) (hno : isB (gSize x.n) off (L : Int) = false) : Calls prog 28 #[.pointer (some ⟨P.s,0,none⟩),.int .i64 off,.slice a L c] w fun e w'=>e = .returned (.bool false) ∧ w = w':=by
 obtain ⟨gl,cap,ex,vw,vt,us,ut,X,_⟩:=h.ssd
 have q1:=X.blk.cell 1
 have hl : x.s.lasts.length = gSize x.n:=ok.s.len
 have hsz:=ok.size
 have CI:=qCP P.s (some ⟨gl,0,none⟩) (gSize x.n) cap (by omega) off (L : Int) w (by rw [q1];show some (Value.slice _ x.s.lasts.length _) = _;rw [hl])
 rw [hno] at CI
 clear q1 hl hsz
 go_enter func28,ntmps28
 go_wp2_with fail
 refine CI.mono ?_
 rintro e w1 ⟨rfl,rfl⟩
 go_wp2_with fail
 go_ret
 exact ⟨rfl,rfl⟩
theorem qNn (A : Nat → Prop) (K b : Nat) (s : Sd) (n m : Nat) (h0 : 0 < n) (hn : n ≤ 65536) (hm : m ≤ 100000) (w : World) (h : qGr A w K b s) (ok : s.ok n m) (a : Option Addr) (c : Nat) (_ : Sl w (.slice a 0 c) 0 (qA1 [])) :
 Calls prog 28 #[.pointer (some ⟨K,0,none⟩),.int .i64 (n : Int),.slice a 0 c] w fun e w'=>e = .returned (.bool true) ∧ qGr A w' K b { s with lasts:=qBQ s.snap ((n : Int),[]),waits:=[] } ∧ qA8 A w w':=by
 obtain ⟨gl,cap,ex,vw,vt,us,ut,X,O,hAl⟩:=h
 have c1 : w.cell? ⟨K,1,none⟩ = some (.slice (some ⟨gl,0,none⟩) n cap):=by have:=X.blk.cell 1;rw [ok.len] at this;exact this
 have hiB : isB n (n : Int) 0 = true:=by unfold isB;simp
 have hsn:=Sd.snap_length ok
 have hcap:=X.hcap
 rw [ok.len] at hcap
 have hmost:=X.most
 go_enter func28,ntmps28
 go_wp2_with fail
 refine (qCP K _ n _ (by omega) n 0 _ c1).mono ?_
 rintro e w1 ⟨rfl,rfl⟩
 rw [hiB]
 have HIB:=qh hiB
 have HOK:=qh ok
 clear hiB ok
 go_wp2_with fail
 refine (qEW K b gl cap ex vw vt us ut s n m h0 hn hm (fun _=>true) _ X HOK.out rfl).mono ?_
 rintro e w2 ⟨rfl,X2,c2⟩
 rw [qEp _ _ _ qle,List.take_length] at X2
 have hs2 : qA8 A _ w2:=qA8.of_chg c2 (by intro x hx;simp at hx;rcases hx with rfl | rfl;exact O.gl;exact O.K)
 have hfin : qBQ s.snap ((n : Int),[]) = s.snap:=by unfold qBQ;rw [List.append_nil];simp
 have X3 : qEV w2 K b gl cap ex (.slice none 0 0) vt [] ut { s with lasts:=qBQ s.snap ((n : Int),[]),waits:=[] }:=by rw [hfin];exact X2
 have k1 : w2.cell? ⟨K,1,none⟩ = some (.slice (some ⟨gl,0,none⟩) n cap):=by
  have:=X2.blk.cell 1
  rw [show ({ s with lasts:=qBn s.lasts s.waits,waits:=[] } : Sd).lasts.length = n from hsn] at this
  exact this
 have FIN : Ending.returned (Value.bool true) = Ending.returned (Value.bool true) ∧ qGr A w2 K b { s with lasts:=qBQ s.snap ((n : Int),[]),waits:=[] } ∧ qA8 A w w2:=⟨rfl,⟨gl,cap,ex,_,_,_,_,X3,⟨O.K,O.b,O.gl,(by intro g hg;cases hg),O.vt,by simp,O.ut⟩,fun k ha=>Nat.lt_of_lt_of_le (hAl k ha) hs2.size⟩,hs2⟩
 replace FIN:=qh FIN
 have HSN:=qh hsn
 clear hsn hfin
 have m5 : (n : Int) ≤ (n : Int):=Int.le_refl _
 have m6 : (n : Int) ≤ (cap : Int):=by omega
 have m7 : (0 : Int) ≤ (n : Int):=by omega
 obtain ⟨i,hi,hz,hsi,hbb⟩:=qAw.info
 have hsz : (prog.info? 5).map (·.size) = some 1:=by rw [hi];simp [hsi]
 have hcp:=fun (base : Option Addr) (dc : Nat)=>run_copy_none (P:=prog) w2 32 32 3 5 base a 0 dc 0 c qAw.under hsz rfl
 by_cases hc0 : cap = n
 · subst hc0
   go_wp2
   go_ret
   exact ⟨rfl,FIN.out.2⟩
 · have m8 : ¬ cap = n:=hc0
   have m9 : ¬ cap - n = 0:=by omega
   go_wp2
   go_ret
   exact ⟨rfl,FIN.out.2⟩
theorem qIG {col : Nat → Nat} {w : World} {P : qAQ} {x : Wd} {m : Nat} (h : qAS col w P x) (ok : x.ok m) (hm : m ≤ 100000) (a : Option Addr) (c : Nat) (hsv : Sl w (.slice a 0 c) 0 (qA1 [])) :
 Calls prog 28 #[.pointer (some ⟨P.s,0,none⟩),.int .i64 (gSize x.n : Nat),.slice a 0 c] w fun e w'=>e = .returned (.bool true) ∧ qGM 6 col w P (x.sSmash ((gSize x.n : Nat),[])) w':=by
 refine (qNn _ P.s P.b x.sd (gSize x.n) m ok.size.1 (by have:=ok.size;omega) hm w h.sdAt ok.s a c hsv).mono ?_
 rintro e w' ⟨rfl,ha,hsm⟩
 exact ⟨rfl,_,h.stepS ha hsm⟩
theorem qQa {n : Nat} {off : Int} {L : Nat} {bs : List UInt8} (hb : bs.length = L) (h0 : 0 < L ∨ off < (n : Int)) (h : isB n off (L : Int) = true) : inB n (off,bs) ∧ off = ((off.toNat : Nat) : Int):=by
 unfold isB at h
 simp only [Bool.and_eq_true,decide_eq_true_eq] at h
 have hl : 0 < L ∨ off < (n : Int):=h0
 exact ⟨⟨by show 0 ≤ off;omega,by show off.toNat < n;omega,by show off.toNat + bs.length ≤ n;omega⟩,by omega⟩
structure Bo where
 x : Wd
 c : Option Bx
 snaps : List (List UInt8)
def Bo.cur (o : Bo) : Wd:=match o.c with
 | none=>o.x
 | some B=>B.x
def Bo.setX (o : Bo) (x : Wd) : Bo:=⟨x,o.c.map (fun B=>B.setX x),o.snaps⟩
theorem Bo.cur_setX (o : Bo) (x : Wd) : (o.setX x).cur = x:=by
 unfold Bo.cur Bo.setX
 cases o.c <;> rfl
def Bo.open_ (s : List (List UInt8)) (r : Int × Wd × Option Bx) : (Int × List UInt8) × Bo:=((r.1,[]),⟨r.2.1,r.2.2,s⟩)
def Bo.call (o : Bo) (c : Cl) : (Int × List UInt8) × Bo:=match o.c with
 | none=>((8,[]),o)
 | some B=>((B.doC c).1,⟨(B.doC c).2.x,some (B.doC c).2,o.snaps⟩)
def Bo.crash (o : Bo) (ks : List Bool) : (Int × List UInt8) × Bo:=Bo.open_ o.snaps (o.cur.crash ks).opens
def Bo.smash (o : Bo) (off : Int) (d : List UInt8) : (Int × List UInt8) × Bo:=if isB (gSize o.cur.n) off (d.length : Int) then ((0,[]),o.setX (o.cur.sSmash (off,d))) else ((1,[]),o)
def Bo.snap (o : Bo) : Bo:=⟨o.x,o.c,o.snaps ++ [o.cur.sd.snap]⟩
def Bo.back (o : Bo) (n : Int) : (Int × List UInt8) × Bo:=if 0 ≤ n ∧ n < (o.snaps.length : Int) then ((0,[]),o.setX (o.cur.sBack (o.snaps[n.toNat]?.getD []))) else ((1,[]),o)
def Bo.act (o : Bo) (a : Ac) : (Int × List UInt8) × Bo :=
 if a.kind = 1 then o.call a.call
 else if a.kind = 2 then ((0,[]),o.setX (o.cur.setP (o.cur.p.setFuse a.n)))
 else if a.kind = 3 then o.crash a.keep
 else if a.kind = 4 then o.smash a.off a.data
 else if a.kind = 5 then ((0,[]),o.snap)
 else if a.kind = 6 then o.back a.n
 else if a.kind = 7 then ((0,[]),o.setX (o.cur.dRefuse (decide (a.n ≠ 0))))
 else ((1,[]),o)
structure Bo.good (o : Bo) (m : Nat) : Prop where
 f : o.cur.fine m
 ep : 0#32 < qAi o.cur.eps
 bx : ∀ B,o.c = some B → B.good m
 sn : ∀ s ∈ o.snaps,s.length = gSize o.cur.n
 few : o.snaps.length ≤ m
structure qJW (col : Nat → Nat) (w : World) (sv : Value) (snaps : List (List UInt8)) (us : List Value) : Prop where
 len : us.length = snaps.length
 row : w.ownsRow 0 32 1 sv snaps.length us
 one : ∀ u ∈ us,u.oneCell' = true
 cs : ∀ g,sv.ownBlock = some g → col g = 12
 each : ∀ (i : Nat) (bs : List UInt8) (u : Value),snaps[i]? = some bs → us[i]? = some u → w.ownsRow 0 5 1 u bs.length (qA1 bs) ∧ ∀ g,u.ownBlock = some g → col g = 12
theorem qJW.nil {col : Nat → Nat} {w : World} : qJW col w (.slice none 0 0) [] []:=⟨rfl,⟨rfl,.inl ⟨rfl,rfl⟩⟩,fun u hu=>(by cases hu),fun g hg=>(by cases hg),fun i bs u h=>(by cases i <;> cases h)⟩
theorem qJW.frame {col col' : Nat → Nat} {w w' : World} {sv : Value} {snaps : List (List UInt8)} {us : List Value} (h : qJW col w sv snaps us) (s : qAZ 12 col col' w w') : qJW col' w' sv snaps us :=
 ⟨h.len,s.own h.row h.cs,h.one,fun g hg=>s.old g (qAo h.row hg) (h.cs g hg),fun i bs u hb hu=>by
  obtain ⟨h1,h2⟩:=h.each i bs u hb hu
  exact ⟨s.own h1 h2,fun g hg=>s.old g (qAo h1 hg) (h2 g hg)⟩⟩
structure qC8 (col : Nat → Nat) (w : World) (P : qAQ) (X : Nat) (cv sv : Value) (us : List Value) (o : Bo) : Prop where
 blk : Blk w X #[.pointer (some ⟨P.W,0,none⟩),cv,sv] 83
 cX : col X = 12
 bc : qF7 col w P o.c o.x cv
 sn : qJW col w sv o.snaps us
def qAH (col : Nat → Nat) (w : World) (P : qAQ) (X : Nat) (o : Bo) : Prop:=∃ cv sv us,qC8 col w P X cv sv us o
section
variable {col col' : Nat → Nat} {w w' : World} {P : qAQ} {X : Nat} {cv sv : Value} {us : List Value} {o : Bo} {m : Nat}
theorem qF7.wd {c : Option Bx} {x : Wd} (h : qF7 col w P c x cv) : qAS col w P (Bo.cur ⟨x,c,[]⟩):=by
 cases c with
 | none=>exact h.2
 | some B =>
  obtain ⟨M,C,_,A,vn,vw,h0⟩:=h
  exact h0.wm.wd
theorem qC8.wd (h : qC8 col w P X cv sv us o) : qAS col w P o.cur:=qF7.wd h.bc
theorem qC8.top (h : qC8 col w P X cv sv us o) : Top col w:=h.wd.top
theorem qF7.kept {c : Option Bx} {x : Wd} (h : qF7 col w P c x cv) (hk : qA4 w w') : qF7 col w' P c x cv:=by
 cases c with
 | none=>exact ⟨h.1,h.2.kept hk⟩
 | some B =>
  obtain ⟨M,C,e,A,vn,vw,h0⟩:=h
  exact ⟨M,C,e,A,vn,vw,h0.kept hk⟩
theorem qC8.kept (h : qC8 col w P X cv sv us o) (hk : qA4 w w') : qC8 col w' P X cv sv us o :=
 ⟨h.blk.kept hk,h.cX,h.bc.kept hk,h.sn.frame (qAZ.kept hk 12)⟩
theorem qF7.next {c : Option Bx} {x x' : Wd} (h : qF7 col w P c x cv) (hw : qAS col' w' P x') (e : Ext 6 col col' w w') : qF7 col' w' P (c.map fun B=>B.setX x') x' cv:=by
 cases c with
 | none=>exact ⟨h.1,hw⟩
 | some B =>
  obtain ⟨M,C,e1,A,vn,vw,h0⟩:=h
  exact ⟨M,C,e1,A,vn,vw,h0.world (h0.wm.ext6 hw e) (e.mono (by decide))⟩
theorem qC8.next (h : qC8 col w P X cv sv us o) {x' : Wd} (hw : qAS col' w' P x') (e : Ext 6 col col' w w') : qC8 col' w' P X cv sv us (o.setX x'):=by
 obtain ⟨b1,d1⟩:=(e.same (i:=12) (by decide)).blk h.blk h.cX
 exact ⟨b1,d1,h.bc.next hw e,h.sn.frame (e.same (by decide))⟩
theorem qC8.cache (h : qC8 col w P X cv sv us o) {B : Bx} {M C : Nat} (hcv : cv = .pointer (some ⟨C,0,none⟩)) (hc : qCG col' w' P M C B) (e : Ext 11 col col' w w') : qC8 col' w' P X cv sv us ⟨B.x,some B,o.snaps⟩:=by
 obtain ⟨b1,d1⟩:=(e.same (i:=12) (by decide)).blk h.blk h.cX
 exact ⟨b1,d1,⟨M,C,hcv,hc⟩,h.sn.frame (e.same (by decide))⟩
theorem qF7.chg0 {c : Option Bx} {x : Wd} {g : Nat} (h : qF7 col w P c x cv) (hc : Chg [g] w w') (hg : col g = 0) : qF7 col w' P c x cv:=by
 cases c with
 | none=>exact ⟨h.1,h.2.chg hc (fun b hb=>by rw [List.mem_singleton] at hb;subst hb;exact .inl hg)⟩
 | some B =>
  obtain ⟨M,C,e,A,vn,vw,h0⟩:=h
  exact ⟨M,C,e,A,vn,vw,h0.chg0 hc hg⟩
theorem qC8.chg0 {g : Nat} (h : qC8 col w P X cv sv us o) (hc : Chg [g] w w') (hg : col g = 0) : qC8 col w' P X cv sv us o:=by
 have s : qAZ 12 col col w w':=qAZ.chg hc fun b hb=>by rw [List.mem_singleton] at hb;subst hb;rw [hg];decide
 obtain ⟨b1,d1⟩:=s.blk h.blk h.cX
 exact ⟨b1,d1,h.bc.chg0 hc hg,h.sn.frame s⟩
theorem Bo.good.up {k : Nat} (g : o.good m) (h : m ≤ k) : o.good k:=⟨g.f.up h,g.ep,fun B hB=>(g.bx B hB).up h,g.sn,Nat.le_trans g.few h⟩
theorem Bo.good.setX (g : o.good m) {x : Wd} {k : Nat} (f : x.fine k) (hk : m ≤ k) (hn : x.n = o.cur.n) (he : x.eps = o.cur.eps) : (o.setX x).good k:=by
 refine ⟨by rw [Bo.cur_setX];exact f,by rw [Bo.cur_setX,he];exact g.ep,fun B hB=>?_,fun s hs=>by rw [Bo.cur_setX,hn];exact g.sn s hs,Nat.le_trans g.few hk⟩
 unfold Bo.setX at hB
 cases hc : o.c with
 | none=>rw [hc] at hB;cases hB
 | some B0 =>
  rw [hc] at hB
  cases hB
  have g0:=g.bx B0 hc
  have hcu : o.cur = B0.x:=by unfold Bo.cur;rw [hc]
  exact g0.as ⟨f,g0.f.k,by rw [show (B0.setX x).x.n = x.n from rfl,hn,hcu];exact g0.f.nl,by rw [show (B0.setX x).x.n = x.n from rfl,hn,hcu];exact g0.f.wl,g0.f.nok,g0.f.wok⟩ hk rfl rfl (by show qAi x.eps = _;rw [he,hcu])
end
theorem qOX {col : Nat → Nat} {w : World} {P : qAQ} {X : Nat} {o : Bo} (h : qAH col w P X o) {m : Nat} (g : o.good m) (hm : m ≤ 39000) (cl : Cl) (a : Option Addr) (c : Nat) (hn : cl.data.length ≤ 1000000) (sd : SlC col w (.slice a cl.data.length c) cl.data) : Calls prog 25 #[.pointer (some ⟨X,0,none⟩),.agg #[.int .i64 cl.kind,.int .i64 cl.lba,.slice a cl.data.length c]] w fun e w'=>∃ v col',e = .returned (.agg #[.int .i64 (o.call cl).1.1,v]) ∧ qC0 col' w' w.heap.size v (o.call cl).1.2 ∧ qAH col' w' P X (o.call cl).2 ∧ Ext 12 col col' w w':=by
 obtain ⟨cv,sv,us,h0⟩:=h
 obtain ⟨kd,hkd⟩ : ∃ k,k = cl.kind:=⟨_,rfl⟩
 obtain ⟨lba,hlba⟩ : ∃ k,k = cl.lba:=⟨_,rfl⟩
 obtain ⟨n,hnn⟩ : ∃ k,k = cl.data.length:=⟨_,rfl⟩
 obtain ⟨wA,hwA⟩ : ∃ y,y = ((w.alloc (.cells #[.int .i64 kd,.int .i64 lba,.slice a n c] 34)).alloc (.cells #[.int .i64 0,.slice none 0 0] 39)):=⟨_,rfl⟩
 have hkA : qA4 w wA:=by rw [hwA];exact (qal _).alloc (by simp) _
 have bX1 : Blk wA w.heap.size #[.int .i64 kd,.int .i64 lba,.slice a n c] 34:=by
  rw [hwA]
  exact (Blk.new w _ _).kept ((Below.refl _ _).alloc (by simp) _)
 have bT : Blk wA (w.heap.size + 1) #[.int .i64 0,.slice none 0 0] 39:=by
  rw [hwA]
  have:=Blk.new (w.alloc (.cells #[.int .i64 kd,.int .i64 lba,.slice a n c] 34)) #[.int .i64 0,.slice none 0 0] 39
  rw [World.size_alloc] at this
  exact this
 have h1:=h0.kept hkA
 have exA : Ext 12 col col w wA:=Ext.kept h0.top hkA
 have cT : col (w.heap.size + 1) = 0:=h0.top _ (by omega)
 have q1:=h1.blk.cell 1
 obtain ⟨R,hR⟩ : ∃ R,R = o.call cl:=⟨_,rfl⟩
 rw [← hR]
 obtain ⟨oc,hoc⟩ : ∃ oc,oc = o.c:=⟨_,rfl⟩
 have hbc:=h1.bc
 rw [← hoc] at hbc
 replace hR:=qh hR
 cases oc with
 | none =>
  have hr : R = ((8,[]),o):=by rw [hR.out];unfold Bo.call;rw [← hoc]
  replace hr:=qh hr
  have hcv:=hbc.1
  subst hcv
  rw [← hkd,← hlba,← hnn]
  clear hoc hkd hlba hnn sd hn hbc
  rw [hwA] at q1
  go_enter func25,ntmps25
  go_wp2_with fail
  have hk8 : qA4 w ((w.alloc (.cells #[.int .i64 kd,.int .i64 lba,.slice a n c] 34)).alloc (.cells #[.int .i64 8,.slice none 0 0] 39)):=(qal _).alloc (by simp) _
  refine bodyPost_ret (v:=.agg #[.int .i64 8,.slice none 0 0]) (by simp [results,results25,go_sem];try exact ⟨rfl,rfl⟩) rfl ⟨_,col,by rw [hr.out],by rw [hr.out];exact qC0.nil,by rw [hr.out];exact ⟨_,_,_,h0.kept hk8⟩,Ext.kept h0.top hk8⟩
 | some b =>
  have hr : R = ((b.doC cl).1,⟨(b.doC cl).2.x,some (b.doC cl).2,o.snaps⟩):=by rw [hR.out];unfold Bo.call;rw [← hoc]
  obtain ⟨M,C,hcv,hca⟩:=hbc
  subst hcv
  have gb:=g.bx b hoc.symm
  have CD:=fun z (hz : qA4 wA z)=>qRR (w:=z) (by obtain ⟨A,vn,vw,h9⟩:=hca;exact ⟨A,vn,vw,h9.kept hz⟩) gb hm cl a c hn (sd.ext (Ext.kept (m:=11) h0.top (hkA.of hz)))
  obtain ⟨F,hF⟩ : ∃ F,F = b.doC cl:=⟨_,rfl⟩
  rw [← hF] at CD hr
  obtain ⟨⟨E,D⟩,B⟩:=F
  simp only at CD hr
  rw [← hkd,← hlba,← hnn] at CD ⊢
  replace hr:=qh hr
  replace CD : ∀ z,qA4 wA z → Calls prog 51 #[.pointer (some ⟨C,0,none⟩),.agg #[.int .i64 kd,.int .i64 lba,.slice a n c]] z fun e w'=>∃ v col',e = .returned (.agg #[.int .i64 E,v]) ∧ qC0 col' w' z.heap.size v D ∧ qCG col' w' P M C B ∧ Ext 11 col col' z w':=CD
  clear hoc hkd hlba hnn sd hn hF gb
  have hszA:=bT.lt
  rw [hwA] at q1
  go_enter func25,ntmps25
  go_wp2_with fail
  rw [← hwA]
  rw [← hwA] at q1
  clear hwA
  refine qAe (qA8 (fun k=>k < wA.heap.size ∧ (col k = 0 ∨ 11 < col k))) [(0,0),(1,0),(2,0),(3,0),(4,0),(5,1),(6,2)] (by kernel_rfl) (by kernel_rfl) ?_ ?_ ?_
  · exact fun _=>qA8.refl _
  · exact fun _ _ _ h1 h2=>h1.trans h2
  intro z1 hz1
  have hbz:=h1.blk.kept hz1
  have hxz:=bX1.kept hz1
  repeat
   refine qA0 _ rfl (fun K hK=>?_)
   first
    | (refine qqP (by rfl) ?_;apply Exists.intro;refine ⟨fun w' hw'=>?_,hK _ ?_⟩;(have q:=(hw'.block _ hbz.lt ⟨h1.blk.lt,.inr (by rw [h1.cX];decide)⟩).trans hbz;have q1:=Blk.cell q 1;clear q;have d:=(hw'.block _ hxz.lt ⟨bX1.lt,.inl (h0.top _ qle)⟩).trans hxz;have d0:=Blk.cell d 0;have d1:=Blk.cell d 1;have d2:=Blk.cell d 2;clear d;go_simp;first|done|rfl))
    | refine qqN (by rfl) (hK _ ?_)
   clear hK K;simp only [Act.put,qqB]
  refine qqH _ rfl (by rfl) (fun K hK=>?_)
  go_wp2_with fail
  refine (CD z1 hz1).mono ?_
  rintro e w4 ⟨v,col4,rfl,hv,h4,e4⟩
  obtain ⟨va,vc,rfl⟩:=(Sl.of_own hv.1).len
  obtain ⟨bT4,cT4⟩:=e4.blk0 (bT.kept hz1) cT
  have S4:=e4.sameOn (w0:=wA) (col0:=col) (fun k hk=>rfl)
  go_wp2
  refine hK _ _ (S4) ?_
  clear hK K
  try simp only [Act.put,qqB]
  refine qAh _ rfl (fun K hK=>?_)
  refine qqP (by rfl) ?_
  have f0:=bT4.free 0
  have f1:=bT4.free 1
  have y0:=bT4.cell 0
  have y1:=bT4.cell 1
  go_wp2_with fail
  have bR:=(bT4.set 0 (.int .i64 E)).set 1 (.slice va D.length vc)
  have hcE : Chg [w.heap.size + 1] w4 ((w4.setCell ⟨w.heap.size + 1,0,none⟩ (.int .i64 E)).setCell ⟨w.heap.size + 1,1,none⟩ (.slice va D.length vc)):=((Chg.refl _ _).set qsm 0 _).set qsm 1 _
  have r0:=bR.cell 0
  have r1:=bR.cell 1
  clear f0 f1 y0 y1
  generalize ((w4.setCell ⟨w.heap.size + 1,0,none⟩ (.int .i64 E)).setCell ⟨w.heap.size + 1,1,none⟩ (.slice va D.length vc)) = wE at *
  go_wp2
  refine qA7 ?_
  go_wp2_with fail
  have hz1s:=hz1.size
  refine bodyPost_ret (v:=.agg #[.int .i64 E,.slice va D.length vc]) (by simp [results,results25,go_sem,r0,r1];try exact ⟨rfl,rfl⟩) rfl ⟨_,col4,by rw [hr.out],by rw [hr.out];exact (hv.chg hcE (by omega)).base (by omega),by rw [hr.out];exact ⟨_,_,_,qC8.chg0 (qC8.cache (h1.kept hz1) rfl h4 e4) hcE cT4⟩,((exA.trans (Ext.kept (m:=12) h1.top hz1)).trans (e4.mono (show 11 ≤ 12 by decide))).newset hcE (by omega)⟩
theorem qBh.paintI {i : Nat} {col : Nat → Nat} {w w1 : World} {P : qAQ} {M C A : Nat} {vn vw : Value} {b : Bx} (h : qBh col w P M C A vn vw b) (hk : qA4 w w1) (hi : 11 < i) : qBh (qAj col i w w1) w1 P M C A vn vw b:=by
 refine ⟨h.wm.paint hk (by omega),h.blk.kept hk,by rw [qAc h.blk.lt];exact h.cC,qA3 h.now hk,qA3 h.was hk,fun g hg=>?_,fun g hg=>?_,h.ne,h.age.frame (qAZ.paint hk)⟩
 · rw [qAc (qAo h.now hg)];exact h.cn g hg
 · rw [qAc (qAo h.was hg)];exact h.cw g hg
theorem qF7.paintI {i : Nat} {col : Nat → Nat} {w w1 : World} {P : qAQ} {c : Option Bx} {x : Wd} {cv : Value} (h : qF7 col w P c x cv) (hk : qA4 w w1) (hi : 11 < i) : qF7 (qAj col i w w1) w1 P c x cv:=by
 cases c with
 | none=>exact ⟨h.1,h.2.paint hk (by omega)⟩
 | some B =>
  obtain ⟨M,C,e,A,vn,vw,h0⟩:=h
  exact ⟨M,C,e,A,vn,vw,h0.paintI hk hi⟩
def Bo.newB (n : Nat) (seed : BitVec 64) (ideal : Bool) : Bx:=(Wd.new n seed ideal).boot.fresh (List.replicate n Lf.zero)
def Bo.new (n : Nat) (seed : BitVec 64) (ideal : Bool) : Bo:=⟨(Bo.newB n seed ideal).x,some (Bo.newB n seed ideal),[]⟩
theorem qNo (n : Nat) (seed : BitVec 64) (ideal : Bool) : (Wd.new n seed ideal).opens = (0,(Bo.new n seed ideal).x,(Bo.new n seed ideal).c):=by
 have h1 : (Wd.new n seed ideal).boot.loadO = some (List.replicate n Lf.zero):=by
  unfold Wd.loadO
  rw [if_pos (show (Wd.new n seed ideal).boot.c.value = 0#64 from rfl)]
  rfl
 have h2 : (Wd.new n seed ideal).boot.loadX = (Wd.new n seed ideal).boot:=by
  unfold Wd.loadX
  rw [if_pos (show (Wd.new n seed ideal).boot.c.value = 0#64 from rfl)]
 unfold Wd.opens
 rw [if_neg (show ¬ (Wd.new n seed ideal).p.gone = true by show ¬ false = true;decide),if_neg (show ¬ (Wd.new n seed ideal).p.spend.1 = false by show ¬ true = false;decide),h1]
 show Bx.openR ((Wd.new n seed ideal).boot.loadX.fresh (List.replicate n Lf.zero)).finish = _
 rw [h2]
 have h3 : ((Wd.new n seed ideal).boot.fresh (List.replicate n Lf.zero)).finish = (0,(Wd.new n seed ideal).boot.fresh (List.replicate n Lf.zero)):=by
  unfold Bx.finish
  rw [if_pos (show ((Wd.new n seed ideal).boot.fresh (List.replicate n Lf.zero)).x.eps.length < 2 by show [1#32].length < 2;decide)]
 rw [h3]
 rfl
theorem Bo.new_good (n : Nat) (seed : BitVec 64) (ideal : Bool) (hs : qDR (n : Int) = true) : (Bo.new n seed ideal).good 17:=by
 have hn:=qAm hs
 have f:=(Wd.new_fine n seed ideal hs).boot
 have g : (Bo.newB n seed ideal).good (0 + 1 + 16):=qF6 f (by show 0#32 < qAi [1#32];decide) (by show (List.replicate n Lf.zero).length = n;exact List.length_replicate) (qKB n (by omega))
 exact ⟨f.up (by omega),by show 0#32 < qAi [1#32];decide,fun B hB=>(by cases hB;exact g),fun s h=>(by cases h),Nat.zero_le _⟩
theorem qHP (n : Nat) (hsl : qDR (n : Int) = true) (seed : BitVec 64) (ideal : Bool) (w : World) :
 Calls prog 9 #[.int .i64 (n : Int),U seed,.bool ideal] w fun e w'=>∃ P X col',e = .returned (.tuple #[.pointer (some ⟨X,0,none⟩),.int .i64 0]) ∧ qAH col' w' P X (Bo.new n seed ideal) ∧ Ext 12 (fun _=>0) col' w w':=by
 have CW:=qNm n hsl seed ideal w
 have ff:=Wd.new_fine n seed ideal hsl
 have hop:=qNo n seed ideal
 obtain ⟨x,hx⟩ : ∃ x,x = Wd.new n seed ideal:=⟨_,rfl⟩
 have hp : 0#32 < qAi x.eps:=by rw [hx];show 0#32 < qAi [1#32];decide
 rw [← hx] at CW ff hop
 obtain ⟨o,ho⟩ : ∃ o,o = Bo.new n seed ideal:=⟨_,rfl⟩
 have hos : o.snaps = []:=by rw [ho];rfl
 have hoc : o.c = some (Bo.newB n seed ideal):=by rw [ho];rfl
 rw [← ho] at hop ⊢
 replace hop:=qh hop
 replace hos:=qh hos
 replace hoc:=qh hoc
 clear hx ho
 go_enter func9,ntmps9
 go_wp2_with fail
 refine CW.mono ?_
 rintro e w1 ⟨P,col1,rfl,h1,e1⟩
 have CO:=qNl h1 ff (by omega) hp
 rw [hop.out] at CO
 go_wp2_with fail
 refine CO.mono ?_
 rintro e w2 ⟨v,col2,rfl,h2,e2⟩
 have hv : ∃ C,v = .pointer (some ⟨C,0,none⟩):=by rw [hoc.out] at h2;obtain ⟨M,C,e,_⟩:=h2;exact ⟨C,e⟩
 obtain ⟨C,rfl⟩:=hv
 go_wp2_with fail
 have hk : qA4 w2 (w2.alloc (.cells #[.pointer (some ⟨P.W,0,none⟩),.pointer (some ⟨C,0,none⟩),.slice none 0 0] 83)):=qal _
 have bX:=Blk.new w2 #[.pointer (some ⟨P.W,0,none⟩),.pointer (some ⟨C,0,none⟩),.slice none 0 0] 83
 refine bodyPost_ret (v:=.tuple #[.pointer (some ⟨w2.heap.size,0,none⟩),.int .i64 0]) (by simp [results,results9,go_sem];done) rfl ⟨P,w2.heap.size,qAj col2 12 w2 _,rfl,⟨_,_,[],bX,qAl qle bX.lt,h2.paintI hk (by decide),by rw [hos.out];exact qJW.nil⟩,((e1.mono (show 7 ≤ 12 by decide)).trans (e2.mono (show 11 ≤ 12 by decide))).trans (Ext.paint e2.top hk (by decide))⟩
theorem qBh.chgI {col : Nat → Nat} {w w' : World} {P : qAQ} {M C A g : Nat} {vn vw : Value} {b : Bx} (h : qBh col w P M C A vn vw b) (hc : Chg [g] w w') (hg : 11 < col g) : qBh col w' P M C A vn vw b:=by
 have hb : ∀ x ∈ [g],11 < col x:=fun x hx=>by rw [List.mem_singleton.1 hx];exact hg
 have s : ∀ j,j ≤ 11 → qAZ j col col w w':=fun j hj=>qAZ.chg hc fun x hx=>by have:=hb x hx;omega
 obtain ⟨b9,d9⟩:=(s 9 (by decide)).blk h.blk h.cC
 exact ⟨⟨h.wm.wd.chg hc (fun x hx=>.inr (by have:=hb x hx;omega)),((s 8 (by decide)).blk h.wm.mkr h.wm.cM).1,h.wm.cM⟩,b9,d9,(s 10 (by decide)).own h.now h.cn,(s 10 (by decide)).own h.was h.cw,h.cn,h.cw,h.ne,h.age.frame (s 11 (by decide))⟩
section
variable {col col' : Nat → Nat} {w w1 w' : World} {P : qAQ} {X : Nat} {cv sv : Value} {us : List Value} {o : Bo}
theorem qF7.chgI {c : Option Bx} {x : Wd} {g : Nat} (h : qF7 col w P c x cv) (hc : Chg [g] w w') (hg : 11 < col g) : qF7 col w' P c x cv:=by
 cases c with
 | none=>exact ⟨h.1,h.2.chg hc (fun b hb=>by rw [List.mem_singleton] at hb;subst hb;exact .inr (by omega))⟩
 | some B =>
  obtain ⟨M,C,e,A,vn,vw,h0⟩:=h
  exact ⟨M,C,e,A,vn,vw,h0.chgI hc hg⟩
theorem qF7.ptr {c : Option Bx} {x : Wd} (h : qF7 col w P c x cv) : ∃ p,cv = .pointer p:=by
 cases c with
 | none=>exact ⟨_,h.1⟩
 | some B =>
  obtain ⟨M,C,e,_⟩:=h
  exact ⟨_,e⟩
theorem qRS (ht : Top col w) (hX : col X = 12) (hc : Chg [X] w w') : Ext 12 col col w w' :=
 ⟨hc.os,hc.tape,hc.output,hc.size,fun _ _=>rfl,fun k hk=>by rw [ht k hk];omega,fun k hk=>ht k (Nat.le_trans hc.size hk),fun k hk hcc=>hc.block k hk (by rw [List.mem_singleton];intro e;rw [e,hX] at hcc;omega)⟩
theorem qC8.setC (h : qC8 col w P X cv sv us o) {c : Option Bx} {x : Wd} {p : Option Addr} (hb : qF7 col' w1 P c x (.pointer p)) (e : Ext 11 col col' w w1) :
 qC8 col' (w1.setCell ⟨X,1,none⟩ (.pointer p)) P X (.pointer p) sv us ⟨x,c,o.snaps⟩ ∧ Ext 12 col col' w (w1.setCell ⟨X,1,none⟩ (.pointer p)):=by
 obtain ⟨b1,d1⟩:=(e.same (i:=12) (by decide)).blk h.blk h.cX
 have hc : Chg [X] w1 (w1.setCell ⟨X,1,none⟩ (.pointer p)):=(Chg.refl _ _).set qsm 1 _
 have b2:=b1.set 1 (.pointer p)
 simp only [qqA,qq0,qq1] at b2
 have ht : Top col' w1:=qF7.wd hb |>.top
 have e2:=qRS ht d1 hc
 have sn:=h.sn.frame (e.same (i:=12) (by decide))
 refine ⟨⟨b2,d1,hb.chgI hc (by rw [d1];decide),⟨sn.len,qAt sn.row hc b1 (by decide),sn.one,sn.cs,fun i bs u hb hu=>?_⟩⟩,(e.mono (show 11 ≤ 12 by decide)).trans e2⟩
 obtain ⟨h1,h2⟩:=sn.each i bs u hb hu
 exact ⟨qAt h1 hc b1 (by decide),h2⟩
end
theorem qNp {col : Nat → Nat} {w : World} {P : qAQ} {X : Nat} {o : Bo} (h : qAH col w P X o) {m : Nat} (g : o.good m) (hm : m ≤ 37000) (v : Value) (ks : List Bool) (kl : ks.length ≤ 100000) (hks : Sl w v ks.length (qBo ks)) (hu : ∀ a c,v = .slice (some a) ks.length c → 0 < (qBo ks).length → col a.block = 0) :
 Calls prog 27 #[.pointer (some ⟨X,0,none⟩),v] w fun e w'=>∃ col',e = .returned (.int .i64 (o.crash ks).1.1) ∧ qAH col' w' P X (o.crash ks).2 ∧ Ext 12 col col' w w':=by
 obtain ⟨cv,sv,us,h0⟩:=h
 have q0:=h0.blk.cell 0
 have CC:=qOW h0.wd g.f (by omega) v ks kl hks hu
 have fc:=g.f.crash ks
 have hep : 0#32 < qAi (o.cur.crash ks).eps:=g.ep
 obtain ⟨R,hR⟩ : ∃ R,R = o.crash ks:=⟨_,rfl⟩
 rw [← hR]
 have hr : R = Bo.open_ o.snaps (o.cur.crash ks).opens:=hR
 obtain ⟨y,hy⟩ : ∃ y,y = o.cur.crash ks:=⟨_,rfl⟩
 rw [← hy] at CC fc hep hr
 replace hr:=qh hr
 clear hR hy hks hu
 go_enter func27,ntmps27
 go_wp2_with fail
 refine CC.mono ?_
 rintro e w1 ⟨rfl,col1,hW1,e1⟩
 have h1:=h0.next hW1 e1
 have p0:=h1.blk.cell 0
 have CO:=qNl hW1 fc (by omega) hep
 obtain ⟨F,hF⟩ : ∃ F,F = y.opens:=⟨_,rfl⟩
 rw [← hF] at CO
 have hr1 : R = Bo.open_ o.snaps F:=by rw [hr.out,hF]
 obtain ⟨E,x2,c2⟩:=F
 simp only at CO
 have hr2 : R = ((E,[]),⟨x2,c2,o.snaps⟩):=hr1
 replace hr2:=qh hr2
 clear q0 hr1 hF
 go_wp2_with fail
 refine CO.mono ?_
 rintro e w2 ⟨v2,col2,rfl,hb2,e2⟩
 obtain ⟨p,rfl⟩:=hb2.ptr
 obtain ⟨h3,e3⟩:=h1.setC hb2 e2
 obtain ⟨b1,d1⟩:=(e2.same (i:=12) (by decide)).blk h1.blk h1.cX
 have y1:=b1.free 1
 have x1:=b1.cell 1
 clear p0
 go_wp2_with fail
 refine bodyPost_ret (v:=.int .i64 E) (by simp [results,results27,go_sem];done) rfl ⟨col2,by rw [hr2.out],by rw [hr2.out];exact ⟨_,_,_,h3⟩,(e1.mono (show 6 ≤ 12 by decide)).trans e3⟩
theorem qJX {col : Nat → Nat} {w : World} {P : qAQ} {X : Nat} {o : Bo} (h : qAH col w P X o) (n : Int) (hn : ¬ (0 ≤ n ∧ n < (o.snaps.length : Int))) :
 Calls prog 30 #[.pointer (some ⟨X,0,none⟩),.int .i64 n] w fun e w'=>∃ col',e = .returned (.int .i64 (o.back n).1.1) ∧ qAH col' w' P X (o.back n).2 ∧ Ext 12 col col' w w':=by
 obtain ⟨cv,sv,us,h0⟩:=h
 have hr : o.back n = ((1,[]),o):=by unfold Bo.back;rw [if_neg hn]
 rw [hr]
 replace hr:=qh hr
 obtain ⟨sa,sc,rfl⟩:=(Sl.of_own h0.sn.row).len
 obtain ⟨L,hL⟩ : ∃ L,L = o.snaps.length:=⟨_,rfl⟩
 rw [← hL] at h0 hn
 replace hL:=qh hL
 by_cases hn0 : n < 0
 · clear hn
   go_enter func30,ntmps30
   go_wp2_with fail
   refine qA5 [(0,0),(1,0),(2,0),(3,0),(4,0),(5,0),(6,0),(7,0),(8,0),(9,0),(10,0),(11,0),(12,0),(13,0),(14,0),(15,0),(16,0),(17,0),(18,0),(19,0),(20,0),(21,0),(22,0),(23,0),(24,0),(25,0),(26,1),(27,0),(28,0)] (by kernel_rfl) (by kernel_rfl) ?_
   intro z1 hz1
   repeat
    refine qA0 _ rfl (fun K hK=>?_)
    first
     | (refine qqP (by rfl) ?_;apply Exists.intro;refine ⟨fun w' hw'=>?_,hK _ ?_⟩;(have b:=h0.blk.kept (hz1.of hw');have b0:=Blk.cell b 0;have b2:=Blk.cell b 2;clear b;go_simp;first|done|rfl))
     | refine qqN (by rfl) (hK _ ?_)
    clear hK K;simp only [Act.put,qqB]
   refine qB5 _ rfl (fun K hK=>?_)
   refine qqN (by rfl) ?_
   intro hK'
   refine hK' _ _ ?_
   clear hK hK' K
   simp only [Act.put,qqB]
   repeat
    refine qA0 _ rfl (fun K hK=>?_)
    first
     | (refine qqP (by rfl) ?_;apply Exists.intro;refine ⟨fun w' hw'=>?_,hK _ ?_⟩;go_simp;first|done|rfl)
     | refine qqN (by rfl) (hK _ ?_)
    clear hK K;simp only [Act.put,qqB]
   refine qA7 ?_
   go_wp2_with fail
   refine bodyPost_ret (v:=.int .i64 1) (by simp [results,results30,go_sem];done) rfl ⟨col,rfl,⟨_,_,_,h0.kept hz1⟩,Ext.kept h0.top hz1⟩
 · have hn1 : (L : Int) ≤ n:=by omega
   have e1 : decide (n < 0) = false:=by simpa using hn0
   have e2 : decide ((L : Int) ≤ n) = true:=by simpa using hn1
   clear hn
   go_enter func30,ntmps30
   go_wp2_with fail
   refine qA5 [(0,0),(1,0),(2,0),(3,0),(4,0),(5,0),(6,0),(7,0),(8,0),(9,0),(10,0),(11,0),(12,0),(13,0),(14,0),(15,0),(16,0),(17,0),(18,0),(19,0),(20,0),(21,0),(22,0),(23,0),(24,0),(25,0),(26,1),(27,0),(28,0)] (by kernel_rfl) (by kernel_rfl) ?_
   intro z1 hz1
   repeat
    refine qA0 _ rfl (fun K hK=>?_)
    first
     | (refine qqP (by rfl) ?_;apply Exists.intro;refine ⟨fun w' hw'=>?_,hK _ ?_⟩;(have b:=h0.blk.kept (hz1.of hw');have b0:=Blk.cell b 0;have b2:=Blk.cell b 2;clear b;go_simp;first|done|rfl))
     | refine qqN (by rfl) (hK _ ?_)
    clear hK K;simp only [Act.put,qqB]
   refine qB5 _ rfl (fun K hK=>?_)
   refine qqN (by rfl) ?_
   intro hK'
   refine hK' _ _ ?_
   clear hK hK' K
   simp only [Act.put,qqB]
   repeat
    refine qA0 _ rfl (fun K hK=>?_)
    first
     | (refine qqP (by rfl) ?_;apply Exists.intro;refine ⟨fun w' hw'=>?_,hK _ ?_⟩;go_simp;first|done|rfl)
     | refine qqN (by rfl) (hK _ ?_)
    clear hK K;simp only [Act.put,qqB]
   refine qA7 ?_
   go_wp2_with fail
   refine bodyPost_ret (v:=.int .i64 1) (by simp [results,results30,go_sem];done) rfl ⟨col,rfl,⟨_,_,_,h0.kept hz1⟩,Ext.kept h0.top hz1⟩
theorem qIH {col : Nat → Nat} {w : World} {P : qAQ} {X : Nat} {o : Bo} (h : qAH col w P X o) {m : Nat} (g : o.good m) (k : Nat) (hk : k < o.snaps.length) (hl9 : o.snaps.length ≤ 100000) :
 Calls prog 30 #[.pointer (some ⟨X,0,none⟩),.int .i64 (k : Int)] w fun e w'=>∃ col',e = .returned (.int .i64 (o.back (k : Int)).1.1) ∧ qAH col' w' P X (o.back (k : Int)).2 ∧ Ext 12 col col' w w':=by
 obtain ⟨cv,sv,us,h0⟩:=h
 obtain ⟨bs,hbs⟩ : ∃ bs,bs = o.snaps[k]:=⟨_,rfl⟩
 have hsk : o.snaps[k]? = some bs:=by rw [List.getElem?_eq_getElem hk,hbs]
 have hr : o.back (k : Int) = ((0,[]),o.setX (o.cur.sBack bs)):=by
  unfold Bo.back
  rw [if_pos ⟨by omega,by omega⟩]
  simp only [Int.toNat_natCast]
  rw [hsk]
  rfl
 rw [hr]
 replace hr:=qh hr
 have hbl : bs.length = gSize o.cur.n:=g.sn bs (by rw [hbs];exact List.getElem_mem hk)
 have hku : k < us.length:=by rw [h0.sn.len];exact hk
 obtain ⟨u,hu⟩ : ∃ u,u = us[k]:=⟨_,rfl⟩
 have huk : us[k]? = some u:=by rw [List.getElem?_eq_getElem hku,hu]
 have hus:=(h0.sn.each k bs u hsk huk).1
 obtain ⟨g1,c1,hsv⟩:=qAx h0.sn.row (by omega)
 subst hsv
 have hcu : w.cell? ⟨g1,k,none⟩ = some u:=by
  obtain ⟨b',off',cap',e,_,_,_,hx⟩:=(Sl.of_own h0.sn.row).at (by rw [h0.sn.len];omega)
  cases e
  have:=hx k u huk
  simpa using this
 obtain ⟨L,hL⟩ : ∃ L,L = o.snaps.length:=⟨_,rfl⟩
 rw [← hL] at h0 hk
 have i1 : (k : Int) < (L : Int):=by omega
 have i2 : ¬ (k : Int) < 0:=by omega
 have i3 : ¬ (L : Int) ≤ (k : Int):=by omega
 have i4 : (0 : Int) ≤ (k : Int):=by omega
 have e1 : decide ((k : Int) < 0) = false:=decide_eq_false i2
 have e2 : decide ((L : Int) ≤ (k : Int)) = false:=decide_eq_false i3
 have e3 : decide (L ≤ k) = false:=decide_eq_false (by omega)
 have i5 : ¬ L ≤ k:=by omega
 have i6 : k < L:=by omega
 obtain ⟨cur,hgb⟩:=qAp h0.sn.row rfl
 have hck : cur[k]? = some u:=(hgb.cell k).symm.trans hcu
 replace hL:=qh hL
 replace hbl':=qh hbl
 clear hsk hbs hku hu huk hl9 hk
 go_enter func30,ntmps30
 go_wp2_with fail
 refine qAe (qA8 (fun k=>k < w.heap.size ∧ (col k = 0 ∨ 6 < col k))) [(0,0),(1,0),(2,0),(3,0),(4,0),(5,0),(6,0),(7,0),(8,0),(9,0),(10,0),(11,0),(12,0),(13,0),(14,0),(15,0),(16,0),(17,0),(18,0),(19,0),(20,0),(21,0),(22,0),(23,0),(24,0),(25,0),(26,1),(27,0),(28,0)] (by kernel_rfl) (by kernel_rfl) ?_ ?_ ?_
 · exact fun _=>qA8.refl _
 · exact fun _ _ _ h1 h2=>h1.trans h2
 intro z1 hz1
 have hbz:=h0.blk.kept hz1
 have hdz:=h0.wd.blk.kept hz1
 have hgz:=hgb.kept hz1
 repeat
  refine qA0 _ rfl (fun K hK=>?_)
  first
   | (refine qqP (by rfl) ?_;apply Exists.intro;refine ⟨fun w' hw'=>?_,hK _ ?_⟩;(have b:=(hw'.block _ hbz.lt ⟨h0.blk.lt,.inr (by rw [h0.cX];decide)⟩).trans hbz;have b0:=Blk.cell b 0;have b2:=Blk.cell b 2;clear b;have d:=(hw'.block _ hdz.lt ⟨h0.wd.blk.lt,.inr (by rw [h0.wd.cW];decide)⟩).trans hdz;have d2:=Blk.cell d 2;clear d;have v:=(hw'.block _ hgz.lt ⟨hgb.lt,.inr (by rw [h0.sn.cs g1 rfl];decide)⟩).trans hgz;have u0:=(Blk.cell v k).trans hck;clear v;go_simp;first|done|rfl))
   | refine qqN (by rfl) (hK _ ?_)
  clear hK K;simp only [Act.put,qqB]
 refine qqH _ rfl (by rfl) (fun K hK=>?_)
 go_wp2_with fail
 refine (qPT (h0.wd.kept hz1) g.f.ok u bs hbl (Sl.of_own (qA3 hus hz1))).mono ?_
 rintro e w2 ⟨rfl,col2,hW2,e2⟩
 have S2:=e2.sameOn (w0:=w) (col0:=col) (fun k hk=>rfl)
 go_wp2
 refine hK _ _ (S2) ?_
 clear hK K
 try simp only [Act.put,qqB]
 repeat
  refine qA0 _ rfl (fun K hK=>?_)
  first
   | (refine qqP (by rfl) ?_;apply Exists.intro;refine ⟨fun w' hw'=>?_,hK _ ?_⟩;go_simp;first|done|rfl)
   | refine qqN (by rfl) (hK _ ?_)
  clear hK K;simp only [Act.put,qqB]
 refine qA7 ?_
 have h2:=(h0.kept hz1).next hW2 e2
 go_wp2_with fail
 refine bodyPost_ret (v:=.int .i64 0) (by simp [results,results30,go_sem];done) rfl ⟨col2,rfl,⟨_,_,_,h2⟩,(Ext.kept (m:=12) h0.top hz1).trans (e2.mono (show 6 ≤ 12 by decide))⟩
structure qEe (col : Nat → Nat) (w : World) (a : Ac) (v1 v2 v3 : Value) : Prop where
 s1 : SlC col w v1 a.call.data
 s2 : SlC col w v2 a.data
 s3 : Sl w v3 a.keep.length (qBo a.keep)
 c3 : ∀ a' c,v3 = .slice (some a') a.keep.length c → 0 < (qBo a.keep).length → col a'.block = 0
 l1 : a.call.data.length ≤ 1000
 l2 : a.data.length ≤ 1000
 l3 : a.keep.length ≤ 1000
theorem qEe.ext {m : Nat} {col col' : Nat → Nat} {w w' : World} {a : Ac} {v1 v2 v3 : Value} (h : qEe col w a v1 v2 v3) (e : Ext m col col' w w') : qEe col' w' a v1 v2 v3 :=
 ⟨h.s1.ext e,h.s2.ext e,(e.sl0c h.s3 h.c3).1,(e.sl0c h.s3 h.c3).2,h.l1,h.l2,h.l3⟩
theorem qAH.kept {col : Nat → Nat} {w w' : World} {P : qAQ} {X : Nat} {o : Bo} (h : qAH col w P X o) (hk : qA4 w w') : qAH col w' P X o:=by
 obtain ⟨cv,sv,us,h0⟩:=h
 exact ⟨cv,sv,us,h0.kept hk⟩
theorem qAH.chg0 {col : Nat → Nat} {w w' : World} {P : qAQ} {X g : Nat} {o : Bo} (h : qAH col w P X o) (hc : Chg [g] w w') (hg : col g = 0) : qAH col w' P X o:=by
 obtain ⟨cv,sv,us,h0⟩:=h
 exact ⟨cv,sv,us,h0.chg0 hc hg⟩
theorem qAH.top {col : Nat → Nat} {w : World} {P : qAQ} {X : Nat} {o : Bo} (h : qAH col w P X o) : Top col w:=by
 obtain ⟨cv,sv,us,h0⟩:=h
 exact h0.top
theorem qQb {col : Nat → Nat} {w : World} {P : qAQ} {X : Nat} {o : Bo} (h : qAH col w P X o) {m : Nat} (_ : o.good m) (_ : m ≤ 36000) (a : Ac) (kd : Int) (hnk : kd ≠ 1 ∧ kd ≠ 2 ∧ kd ≠ 3 ∧ kd ≠ 4 ∧ kd ≠ 5 ∧ kd ≠ 6 ∧ kd ≠ 7) (hkd : a.kind = kd) (a1 a2 a3 : Option Addr) (c1 c2 c3 : Nat) (_ : qEe col w a (.slice a1 a.call.data.length c1) (.slice a2 a.data.length c2) (.slice a3 a.keep.length c3)) : Calls prog 11 #[.pointer (some ⟨X,0,none⟩),.agg #[.int .i64 a.kind,.int .i64 a.call.kind,.int .i64 a.call.lba,.slice a1 a.call.data.length c1,.int .i64 a.n,.int .i64 a.off,.slice a2 a.data.length c2,.slice a3 a.keep.length c3]] w fun e w'=>∃ v col',e = .returned (.agg #[.int .i64 (o.act a).1.1,v]) ∧ qC0 col' w' w.heap.size v (o.act a).1.2 ∧ qAH col' w' P X (o.act a).2 ∧ Ext 12 col col' w w':=by
 obtain ⟨ck,hck⟩ : ∃ k,k = a.call.kind:=⟨_,rfl⟩
 obtain ⟨lba,hlba⟩ : ∃ k,k = a.call.lba:=⟨_,rfl⟩
 obtain ⟨n1,hn1⟩ : ∃ k,k = a.call.data.length:=⟨_,rfl⟩
 obtain ⟨n2,hn2⟩ : ∃ k,k = a.data.length:=⟨_,rfl⟩
 obtain ⟨n3,hn3⟩ : ∃ k,k = a.keep.length:=⟨_,rfl⟩
 obtain ⟨an,han⟩ : ∃ k,k = a.n:=⟨_,rfl⟩
 obtain ⟨off,hoff⟩ : ∃ k,k = a.off:=⟨_,rfl⟩
 obtain ⟨R,hR⟩ : ∃ R,R = o.act a:=⟨_,rfl⟩
 obtain ⟨wA,hwA⟩ : ∃ y,y = ((w.alloc (.cells #[.int .i64 kd,.int .i64 ck,.int .i64 lba,.slice a1 n1 c1,.int .i64 an,.int .i64 off,.slice a2 n2 c2,.slice a3 n3 c3] 37)).alloc (.cells #[.int .i64 0,.slice none 0 0] 39)):=⟨_,rfl⟩
 have hkA : qA4 w wA:=by rw [hwA];exact (qal _).alloc (by simp) _
 have bX : Blk wA w.heap.size #[.int .i64 kd,.int .i64 ck,.int .i64 lba,.slice a1 n1 c1,.int .i64 an,.int .i64 off,.slice a2 n2 c2,.slice a3 n3 c3] 37:=by
  rw [hwA]
  exact (Blk.new w _ _).kept ((Below.refl _ _).alloc (by simp) _)
 have bT : Blk wA (w.heap.size + 1) #[.int .i64 0,.slice none 0 0] 39:=by
  rw [hwA]
  have:=Blk.new (w.alloc (.cells #[.int .i64 kd,.int .i64 ck,.int .i64 lba,.slice a1 n1 c1,.int .i64 an,.int .i64 off,.slice a2 n2 c2,.slice a3 n3 c3] 37)) #[.int .i64 0,.slice none 0 0] 39
  rw [World.size_alloc] at this
  exact this
 have hA:=h.kept hkA
 have exA : Ext 12 col col w wA:=Ext.kept h.top hkA
 have cX : col w.heap.size = 0:=h.top _ qle
 have cT : col (w.heap.size + 1) = 0:=h.top _ (by omega)
 have hszA:=bT.lt
 have hr : R = ((1,[]),o):=by
  rw [hR];unfold Bo.act;rw [if_neg (by rw [hkd];omega),if_neg (by rw [hkd];omega),if_neg (by rw [hkd];omega),if_neg (by rw [hkd];omega),if_neg (by rw [hkd];omega),if_neg (by rw [hkd];omega),if_neg (by rw [hkd];omega)]
 rw [hkd,← hck,← hlba,← hn1,← hn2,← hn3,← han,← hoff,← hR]
 replace hr:=qh hr
 clear hck hlba hn1 hn2 hn3 han hoff hR
 have e1 : (kd == 1) = false:=by simp;omega
 have e2 : (kd == 2) = false:=by simp;omega
 have e3 : (kd == 3) = false:=by simp;omega
 have e4 : (kd == 4) = false:=by simp;omega
 have e5 : (kd == 5) = false:=by simp;omega
 have e6 : (kd == 6) = false:=by simp;omega
 have e7 : (kd == 7) = false:=by simp;omega
 clear hnk
 go_enter func11,ntmps11
 go_wp2_with fail
 have hk8 : qA4 w ((w.alloc (.cells #[.int .i64 kd,.int .i64 ck,.int .i64 lba,.slice a1 n1 c1,.int .i64 an,.int .i64 off,.slice a2 n2 c2,.slice a3 n3 c3] 37)).alloc (.cells #[.int .i64 1,.slice none 0 0] 39)):=(qal _).alloc (by simp) _
 refine bodyPost_ret (v:=.agg #[.int .i64 1,.slice none 0 0]) (by simp [results,results11,go_sem];try exact ⟨rfl,rfl⟩) rfl ⟨_,col,by rw [hr.out],by rw [hr.out];exact qC0.nil,by rw [hr.out];exact h.kept hk8,Ext.kept h.top hk8⟩
theorem qQc {col : Nat → Nat} {w : World} {P : qAQ} {X : Nat} {o : Bo} (h : qAH col w P X o) {m : Nat} (g : o.good m) (hm : m ≤ 36000) (a : Ac) (hkd : a.kind = 1) (a1 a2 a3 : Option Addr) (c1 c2 c3 : Nat) (ha : qEe col w a (.slice a1 a.call.data.length c1) (.slice a2 a.data.length c2) (.slice a3 a.keep.length c3)) : Calls prog 11 #[.pointer (some ⟨X,0,none⟩),.agg #[.int .i64 a.kind,.int .i64 a.call.kind,.int .i64 a.call.lba,.slice a1 a.call.data.length c1,.int .i64 a.n,.int .i64 a.off,.slice a2 a.data.length c2,.slice a3 a.keep.length c3]] w fun e w'=>∃ v col',e = .returned (.agg #[.int .i64 (o.act a).1.1,v]) ∧ qC0 col' w' w.heap.size v (o.act a).1.2 ∧ qAH col' w' P X (o.act a).2 ∧ Ext 12 col col' w w':=by
 obtain ⟨ck,hck⟩ : ∃ k,k = a.call.kind:=⟨_,rfl⟩
 obtain ⟨lba,hlba⟩ : ∃ k,k = a.call.lba:=⟨_,rfl⟩
 obtain ⟨n1,hn1⟩ : ∃ k,k = a.call.data.length:=⟨_,rfl⟩
 obtain ⟨n2,hn2⟩ : ∃ k,k = a.data.length:=⟨_,rfl⟩
 obtain ⟨n3,hn3⟩ : ∃ k,k = a.keep.length:=⟨_,rfl⟩
 obtain ⟨an,han⟩ : ∃ k,k = a.n:=⟨_,rfl⟩
 obtain ⟨off,hoff⟩ : ∃ k,k = a.off:=⟨_,rfl⟩
 obtain ⟨R,hR⟩ : ∃ R,R = o.act a:=⟨_,rfl⟩
 obtain ⟨wA,hwA⟩ : ∃ y,y = ((w.alloc (.cells #[.int .i64 1,.int .i64 ck,.int .i64 lba,.slice a1 n1 c1,.int .i64 an,.int .i64 off,.slice a2 n2 c2,.slice a3 n3 c3] 37)).alloc (.cells #[.int .i64 0,.slice none 0 0] 39)):=⟨_,rfl⟩
 have hkA : qA4 w wA:=by rw [hwA];exact (qal _).alloc (by simp) _
 have bX : Blk wA w.heap.size #[.int .i64 1,.int .i64 ck,.int .i64 lba,.slice a1 n1 c1,.int .i64 an,.int .i64 off,.slice a2 n2 c2,.slice a3 n3 c3] 37:=by
  rw [hwA]
  exact (Blk.new w _ _).kept ((Below.refl _ _).alloc (by simp) _)
 have bT : Blk wA (w.heap.size + 1) #[.int .i64 0,.slice none 0 0] 39:=by
  rw [hwA]
  have:=Blk.new (w.alloc (.cells #[.int .i64 1,.int .i64 ck,.int .i64 lba,.slice a1 n1 c1,.int .i64 an,.int .i64 off,.slice a2 n2 c2,.slice a3 n3 c3] 37)) #[.int .i64 0,.slice none 0 0] 39
  rw [World.size_alloc] at this
  exact this
 have hA:=h.kept hkA
 have exA : Ext 12 col col w wA:=Ext.kept h.top hkA
 have cX : col w.heap.size = 0:=h.top _ qle
 have cT : col (w.heap.size + 1) = 0:=h.top _ (by omega)
 have hszA:=bT.lt
 have CB:=qOX hA g (by omega) a.call a1 c1 (by have:=ha.l1;omega) ((ha.ext (Ext.kept (m:=12) h.top hkA)).s1)
 have hr : R = o.call a.call:=by rw [hR];unfold Bo.act;rw [if_pos hkd]
 rw [hkd,← hck,← hlba,← hn1,← hn2,← hn3,← han,← hoff,← hR]
 rw [← hr,← hck,← hlba,← hn1] at CB
 replace hr:=qh hr
 rw [hwA] at CB
 clear hck hlba hn1 hn2 hn3 han hoff hR
 obtain ⟨⟨E,D⟩,o2⟩:=R
 simp only at CB ⊢
 go_enter func11,ntmps11
 go_wp2_with fail
 refine CB.mono ?_
 rintro e w2 ⟨v,col2,rfl,hv,h2,e2⟩
 rw [← hwA] at e2 hv
 obtain ⟨va,vc,rfl⟩:=(Sl.of_own hv.1).len
 obtain ⟨bT2,cT2⟩:=e2.blk0 bT cT
 have hrr : Hid (((E,D),o2) = ((E,D),o2)):=qh rfl
 have f0:=(bT2).free 0
 have f1:=(bT2).free 1
 have y0:=(bT2).cell 0
 have y1:=(bT2).cell 1
 go_wp2_with fail
 have bR:=((bT2).set 0 (.int .i64 (E))).set 1 (.slice va D.length vc)
 have hcE : Chg [w.heap.size + 1] w2 ((w2.setCell ⟨w.heap.size + 1,0,none⟩ (.int .i64 (E))).setCell ⟨w.heap.size + 1,1,none⟩ (.slice va D.length vc)):=((Chg.refl _ _).set qsm 0 _).set qsm 1 _
 have r0:=bR.cell 0
 have r1:=bR.cell 1
 clear f0 f1 y0 y1
 generalize ((w2.setCell ⟨w.heap.size + 1,0,none⟩ (.int .i64 (E))).setCell ⟨w.heap.size + 1,1,none⟩ (.slice va D.length vc)) = wE at *
 refine bodyPost_ret (v:=.agg #[.int .i64 (E),.slice va D.length vc]) (by simp [results,results11,go_sem,r0,r1];try exact ⟨rfl,rfl⟩) rfl ⟨_,col2,rfl,(hv.chg hcE (by omega)).base (by omega),qAH.chg0 h2 hcE cT2,(exA.trans e2).newset hcE (by omega)⟩
theorem qQd {col : Nat → Nat} {w : World} {P : qAQ} {X : Nat} {o : Bo} (h : qAH col w P X o) {m : Nat} (_ : o.good m) (_ : m ≤ 36000) (a : Ac) (hkd : a.kind = 2) (a1 a2 a3 : Option Addr) (c1 c2 c3 : Nat) (_ : qEe col w a (.slice a1 a.call.data.length c1) (.slice a2 a.data.length c2) (.slice a3 a.keep.length c3)) : Calls prog 11 #[.pointer (some ⟨X,0,none⟩),.agg #[.int .i64 a.kind,.int .i64 a.call.kind,.int .i64 a.call.lba,.slice a1 a.call.data.length c1,.int .i64 a.n,.int .i64 a.off,.slice a2 a.data.length c2,.slice a3 a.keep.length c3]] w fun e w'=>∃ v col',e = .returned (.agg #[.int .i64 (o.act a).1.1,v]) ∧ qC0 col' w' w.heap.size v (o.act a).1.2 ∧ qAH col' w' P X (o.act a).2 ∧ Ext 12 col col' w w':=by
 obtain ⟨ck,hck⟩ : ∃ k,k = a.call.kind:=⟨_,rfl⟩
 obtain ⟨lba,hlba⟩ : ∃ k,k = a.call.lba:=⟨_,rfl⟩
 obtain ⟨n1,hn1⟩ : ∃ k,k = a.call.data.length:=⟨_,rfl⟩
 obtain ⟨n2,hn2⟩ : ∃ k,k = a.data.length:=⟨_,rfl⟩
 obtain ⟨n3,hn3⟩ : ∃ k,k = a.keep.length:=⟨_,rfl⟩
 obtain ⟨an,han⟩ : ∃ k,k = a.n:=⟨_,rfl⟩
 obtain ⟨off,hoff⟩ : ∃ k,k = a.off:=⟨_,rfl⟩
 obtain ⟨R,hR⟩ : ∃ R,R = o.act a:=⟨_,rfl⟩
 obtain ⟨wA,hwA⟩ : ∃ y,y = ((w.alloc (.cells #[.int .i64 2,.int .i64 ck,.int .i64 lba,.slice a1 n1 c1,.int .i64 an,.int .i64 off,.slice a2 n2 c2,.slice a3 n3 c3] 37)).alloc (.cells #[.int .i64 0,.slice none 0 0] 39)):=⟨_,rfl⟩
 have hkA : qA4 w wA:=by rw [hwA];exact (qal _).alloc (by simp) _
 have bX : Blk wA w.heap.size #[.int .i64 2,.int .i64 ck,.int .i64 lba,.slice a1 n1 c1,.int .i64 an,.int .i64 off,.slice a2 n2 c2,.slice a3 n3 c3] 37:=by
  rw [hwA]
  exact (Blk.new w _ _).kept ((Below.refl _ _).alloc (by simp) _)
 have bT : Blk wA (w.heap.size + 1) #[.int .i64 0,.slice none 0 0] 39:=by
  rw [hwA]
  have:=Blk.new (w.alloc (.cells #[.int .i64 2,.int .i64 ck,.int .i64 lba,.slice a1 n1 c1,.int .i64 an,.int .i64 off,.slice a2 n2 c2,.slice a3 n3 c3] 37)) #[.int .i64 0,.slice none 0 0] 39
  rw [World.size_alloc] at this
  exact this
 have hA:=h.kept hkA
 have exA : Ext 12 col col w wA:=Ext.kept h.top hkA
 have cX : col w.heap.size = 0:=h.top _ qle
 have cT : col (w.heap.size + 1) = 0:=h.top _ (by omega)
 have hszA:=bT.lt
 obtain ⟨cv,sv,us,hb0⟩:=hA
 have hr : R = ((0,[]),o.setX (o.cur.setP (o.cur.p.setFuse an))):=by
  rw [hR];unfold Bo.act;rw [if_neg (by rw [hkd];decide),if_pos hkd,← han]
 rw [hkd,← hck,← hlba,← hn1,← hn2,← hn3,← han,← hoff,← hR]
 replace hr:=qh hr
 clear hck hlba hn1 hn2 hn3 han hoff hR
 go_enter func11,ntmps11
 go_wp2_with fail
 rw [← hwA]
 clear hwA
 refine qAe (qA8 (fun k=>k < wA.heap.size ∧ (col k = 0 ∨ 6 < col k))) [(0,0),(1,0),(2,0),(3,0),(4,0),(5,0),(6,0),(7,0),(8,0),(9,1)] (by kernel_rfl) (by kernel_rfl) ?_ ?_ ?_
 · exact fun _=>qA8.refl _
 · exact fun _ _ _ h1 h2=>h1.trans h2
 intro z1 hz1
 have hbz:=hb0.blk.kept hz1
 have hdz:=hb0.wd.blk.kept hz1
 have hxz:=bX.kept hz1
 repeat
  refine qA0 _ rfl (fun K hK=>?_)
  first
   | (refine qqP (by rfl) ?_;apply Exists.intro;refine ⟨fun w' hw'=>?_,hK _ ?_⟩;(have b:=(hw'.block _ hbz.lt ⟨hb0.blk.lt,.inr (by rw [hb0.cX];decide)⟩).trans hbz;have b0:=Blk.cell b 0;clear b;have d:=(hw'.block _ hdz.lt ⟨hb0.wd.blk.lt,.inr (by rw [hb0.wd.cW];decide)⟩).trans hdz;have d1:=Blk.cell d 1;clear d;have x:=(hw'.block _ hxz.lt ⟨bX.lt,.inl cX⟩).trans hxz;have x4:=Blk.cell x 4;clear x;go_simp;first|done|rfl))
   | refine qqN (by rfl) (hK _ ?_)
  clear hK K;simp only [Act.put,qqB]
 refine qqH _ rfl (by rfl) (fun K hK=>?_)
 go_wp2_with fail
 refine (qPW (hb0.wd.kept hz1) an).mono ?_
 rintro e w2 ⟨rfl,col2,hW2,e2⟩
 have S2:=e2.sameOn (w0:=wA) (col0:=col) (fun k hk=>rfl)
 go_wp2
 refine hK _ _ (S2) ?_
 clear hK K
 try simp only [Act.put,qqB]
 refine qA7 ?_
 have h2 : qAH col2 w2 P X (o.setX (o.cur.setP (o.cur.p.setFuse an))):=⟨_,_,_,(hb0.kept hz1).next hW2 e2⟩
 have ex2:=(exA.trans (Ext.kept (m:=12) hb0.top hz1)).trans (e2.mono (show 6 ≤ 12 by decide))
 have hz1s:=hz1.size
 obtain ⟨bT2,cT2⟩:=e2.blk0 (bT.kept hz1) cT
 have f0:=(bT2).free 0
 have f1:=(bT2).free 1
 have y0:=(bT2).cell 0
 have y1:=(bT2).cell 1
 go_wp2_with fail
 have bR:=((bT2).set 0 (.int .i64 (0))).set 1 (.slice none 0 0)
 have hcE : Chg [w.heap.size + 1] w2 ((w2.setCell ⟨w.heap.size + 1,0,none⟩ (.int .i64 (0))).setCell ⟨w.heap.size + 1,1,none⟩ (.slice none 0 0)):=((Chg.refl _ _).set qsm 0 _).set qsm 1 _
 have r0:=bR.cell 0
 have r1:=bR.cell 1
 clear f0 f1 y0 y1
 generalize ((w2.setCell ⟨w.heap.size + 1,0,none⟩ (.int .i64 (0))).setCell ⟨w.heap.size + 1,1,none⟩ (.slice none 0 0)) = wE at *
 refine bodyPost_ret (v:=.agg #[.int .i64 (0),.slice none 0 0]) (by simp [results,results11,go_sem,r0,r1];try exact ⟨rfl,rfl⟩) rfl ⟨_,col2,by rw [hr.out],by rw [hr.out];exact qC0.nil,by rw [hr.out];exact qAH.chg0 h2 hcE cT2,(ex2).newset hcE (by omega)⟩
theorem qQe {col : Nat → Nat} {w : World} {P : qAQ} {X : Nat} {o : Bo} (h : qAH col w P X o) {m : Nat} (g : o.good m) (hm : m ≤ 36000) (a : Ac) (hkd : a.kind = 3) (a1 a2 a3 : Option Addr) (c1 c2 c3 : Nat) (ha : qEe col w a (.slice a1 a.call.data.length c1) (.slice a2 a.data.length c2) (.slice a3 a.keep.length c3)) : Calls prog 11 #[.pointer (some ⟨X,0,none⟩),.agg #[.int .i64 a.kind,.int .i64 a.call.kind,.int .i64 a.call.lba,.slice a1 a.call.data.length c1,.int .i64 a.n,.int .i64 a.off,.slice a2 a.data.length c2,.slice a3 a.keep.length c3]] w fun e w'=>∃ v col',e = .returned (.agg #[.int .i64 (o.act a).1.1,v]) ∧ qC0 col' w' w.heap.size v (o.act a).1.2 ∧ qAH col' w' P X (o.act a).2 ∧ Ext 12 col col' w w':=by
 obtain ⟨ck,hck⟩ : ∃ k,k = a.call.kind:=⟨_,rfl⟩
 obtain ⟨lba,hlba⟩ : ∃ k,k = a.call.lba:=⟨_,rfl⟩
 obtain ⟨n1,hn1⟩ : ∃ k,k = a.call.data.length:=⟨_,rfl⟩
 obtain ⟨n2,hn2⟩ : ∃ k,k = a.data.length:=⟨_,rfl⟩
 obtain ⟨n3,hn3⟩ : ∃ k,k = a.keep.length:=⟨_,rfl⟩
 obtain ⟨an,han⟩ : ∃ k,k = a.n:=⟨_,rfl⟩
 obtain ⟨off,hoff⟩ : ∃ k,k = a.off:=⟨_,rfl⟩
 obtain ⟨R,hR⟩ : ∃ R,R = o.act a:=⟨_,rfl⟩
 obtain ⟨wA,hwA⟩ : ∃ y,y = ((w.alloc (.cells #[.int .i64 3,.int .i64 ck,.int .i64 lba,.slice a1 n1 c1,.int .i64 an,.int .i64 off,.slice a2 n2 c2,.slice a3 n3 c3] 37)).alloc (.cells #[.int .i64 0,.slice none 0 0] 39)):=⟨_,rfl⟩
 have hkA : qA4 w wA:=by rw [hwA];exact (qal _).alloc (by simp) _
 have bX : Blk wA w.heap.size #[.int .i64 3,.int .i64 ck,.int .i64 lba,.slice a1 n1 c1,.int .i64 an,.int .i64 off,.slice a2 n2 c2,.slice a3 n3 c3] 37:=by
  rw [hwA]
  exact (Blk.new w _ _).kept ((Below.refl _ _).alloc (by simp) _)
 have bT : Blk wA (w.heap.size + 1) #[.int .i64 0,.slice none 0 0] 39:=by
  rw [hwA]
  have:=Blk.new (w.alloc (.cells #[.int .i64 3,.int .i64 ck,.int .i64 lba,.slice a1 n1 c1,.int .i64 an,.int .i64 off,.slice a2 n2 c2,.slice a3 n3 c3] 37)) #[.int .i64 0,.slice none 0 0] 39
  rw [World.size_alloc] at this
  exact this
 have hA:=h.kept hkA
 have exA : Ext 12 col col w wA:=Ext.kept h.top hkA
 have cX : col w.heap.size = 0:=h.top _ qle
 have cT : col (w.heap.size + 1) = 0:=h.top _ (by omega)
 have hszA:=bT.lt
 have hs3:=(ha.ext (Ext.kept (m:=12) h.top hkA))
 have CB:=qNp hA g (by omega) (.slice a3 a.keep.length c3) a.keep (by have:=ha.l3;omega) hs3.s3 hs3.c3
 obtain ⟨E,hE⟩ : ∃ E,E = (o.crash a.keep).1.1:=⟨_,rfl⟩
 obtain ⟨o2,ho2⟩ : ∃ o2,o2 = (o.crash a.keep).2:=⟨_,rfl⟩
 rw [← hE,← ho2] at CB
 have hnil : (o.crash a.keep).1.2 = []:=by unfold Bo.crash Bo.open_;rfl
 have hr : R = ((E,[]),o2):=by
  rw [hR,hE,ho2];unfold Bo.act;rw [if_neg (by rw [hkd];decide),if_neg (by rw [hkd];decide)];rw [if_pos hkd,← hnil]
 rw [hkd,← hck,← hlba,← hn1,← hn2,← hn3,← han,← hoff,← hR]
 replace hr:=qh hr
 rw [← hn3] at CB
 rw [hwA] at CB
 clear hE ho2 hnil
 clear hck hlba hn1 hn2 hn3 han hoff hR
 go_enter func11,ntmps11
 go_wp2_with fail
 refine CB.mono ?_
 rintro e w2 ⟨col2,rfl,h2,e2⟩
 rw [← hwA] at e2
 obtain ⟨bT2,cT2⟩:=e2.blk0 bT cT
 have f0:=(bT2).free 0
 have f1:=(bT2).free 1
 have y0:=(bT2).cell 0
 have y1:=(bT2).cell 1
 go_wp2_with fail
 have bR:=((bT2).set 0 (.int .i64 (E))).set 1 (.slice none 0 0)
 have hcE : Chg [w.heap.size + 1] w2 ((w2.setCell ⟨w.heap.size + 1,0,none⟩ (.int .i64 (E))).setCell ⟨w.heap.size + 1,1,none⟩ (.slice none 0 0)):=((Chg.refl _ _).set qsm 0 _).set qsm 1 _
 have r0:=bR.cell 0
 have r1:=bR.cell 1
 clear f0 f1 y0 y1
 generalize ((w2.setCell ⟨w.heap.size + 1,0,none⟩ (.int .i64 (E))).setCell ⟨w.heap.size + 1,1,none⟩ (.slice none 0 0)) = wE at *
 refine bodyPost_ret (v:=.agg #[.int .i64 (E),.slice none 0 0]) (by simp [results,results11,go_sem,r0,r1];try exact ⟨rfl,rfl⟩) rfl ⟨_,col2,by rw [hr.out],by rw [hr.out];exact qC0.nil,by rw [hr.out];exact qAH.chg0 h2 hcE cT2,(exA.trans e2).newset hcE (by omega)⟩
theorem qQf {col : Nat → Nat} {w : World} {P : qAQ} {X : Nat} {o : Bo} (h : qAH col w P X o) {m : Nat} (g : o.good m) (hm : m ≤ 36000) (a : Ac) (hkd : a.kind = 4) (a1 a2 a3 : Option Addr) (c1 c2 c3 : Nat) (ha : qEe col w a (.slice a1 a.call.data.length c1) (.slice a2 a.data.length c2) (.slice a3 a.keep.length c3)) : Calls prog 11 #[.pointer (some ⟨X,0,none⟩),.agg #[.int .i64 a.kind,.int .i64 a.call.kind,.int .i64 a.call.lba,.slice a1 a.call.data.length c1,.int .i64 a.n,.int .i64 a.off,.slice a2 a.data.length c2,.slice a3 a.keep.length c3]] w fun e w'=>∃ v col',e = .returned (.agg #[.int .i64 (o.act a).1.1,v]) ∧ qC0 col' w' w.heap.size v (o.act a).1.2 ∧ qAH col' w' P X (o.act a).2 ∧ Ext 12 col col' w w':=by
 obtain ⟨ck,hck⟩ : ∃ k,k = a.call.kind:=⟨_,rfl⟩
 obtain ⟨lba,hlba⟩ : ∃ k,k = a.call.lba:=⟨_,rfl⟩
 obtain ⟨n1,hn1⟩ : ∃ k,k = a.call.data.length:=⟨_,rfl⟩
 obtain ⟨n2,hn2⟩ : ∃ k,k = a.data.length:=⟨_,rfl⟩
 obtain ⟨n3,hn3⟩ : ∃ k,k = a.keep.length:=⟨_,rfl⟩
 obtain ⟨an,han⟩ : ∃ k,k = a.n:=⟨_,rfl⟩
 obtain ⟨off,hoff⟩ : ∃ k,k = a.off:=⟨_,rfl⟩
 obtain ⟨R,hR⟩ : ∃ R,R = o.act a:=⟨_,rfl⟩
 obtain ⟨wA,hwA⟩ : ∃ y,y = ((w.alloc (.cells #[.int .i64 4,.int .i64 ck,.int .i64 lba,.slice a1 n1 c1,.int .i64 an,.int .i64 off,.slice a2 n2 c2,.slice a3 n3 c3] 37)).alloc (.cells #[.int .i64 0,.slice none 0 0] 39)):=⟨_,rfl⟩
 have hkA : qA4 w wA:=by rw [hwA];exact (qal _).alloc (by simp) _
 have bX : Blk wA w.heap.size #[.int .i64 4,.int .i64 ck,.int .i64 lba,.slice a1 n1 c1,.int .i64 an,.int .i64 off,.slice a2 n2 c2,.slice a3 n3 c3] 37:=by
  rw [hwA]
  exact (Blk.new w _ _).kept ((Below.refl _ _).alloc (by simp) _)
 have bT : Blk wA (w.heap.size + 1) #[.int .i64 0,.slice none 0 0] 39:=by
  rw [hwA]
  have:=Blk.new (w.alloc (.cells #[.int .i64 4,.int .i64 ck,.int .i64 lba,.slice a1 n1 c1,.int .i64 an,.int .i64 off,.slice a2 n2 c2,.slice a3 n3 c3] 37)) #[.int .i64 0,.slice none 0 0] 39
  rw [World.size_alloc] at this
  exact this
 have hA:=h.kept hkA
 have exA : Ext 12 col col w wA:=Ext.kept h.top hkA
 have cX : col w.heap.size = 0:=h.top _ qle
 have cT : col (w.heap.size + 1) = 0:=h.top _ (by omega)
 have hszA:=bT.lt
 obtain ⟨cv,sv,us,hb0⟩:=hA
 have hr0 : R = o.smash off a.data:=by
  rw [hR];unfold Bo.act;rw [if_neg (by rw [hkd];decide),if_neg (by rw [hkd];decide),if_neg (by rw [hkd];decide),if_pos hkd,← hoff]
 have has:=ha.ext (Ext.kept (m:=12) h.top hkA)
 rw [hkd,← hck,← hlba,← hn1,← hn2,← hn3,← han,← hoff,← hR]
 cases his : isB (gSize o.cur.n) off (n2 : Int) with
 | false =>
  have hr : R = ((1,[]),o):=by rw [hr0];unfold Bo.smash;rw [← hn2,his];rfl
  replace hr:=qh hr
  clear hr0 hck hlba hn1 hn2 hn3 han hoff hR
  go_enter func11,ntmps11
  go_wp2_with fail
  rw [← hwA]
  clear hwA
  refine qAe (qA8 (fun k=>k < wA.heap.size ∧ (col k = 0 ∨ 6 < col k))) [(0,0),(1,0),(2,0),(3,0),(4,0),(5,0),(6,0),(7,0),(8,0),(9,0),(10,0),(11,1),(12,0)] (by kernel_rfl) (by kernel_rfl) ?_ ?_ ?_
  · exact fun _=>qA8.refl _
  · exact fun _ _ _ h1 h2=>h1.trans h2
  intro z1 hz1
  have hbz:=hb0.blk.kept hz1
  have hdz:=hb0.wd.blk.kept hz1
  have hxz:=bX.kept hz1
  repeat
   refine qA0 _ rfl (fun K hK=>?_)
   first
    | (refine qqP (by rfl) ?_;apply Exists.intro;refine ⟨fun w' hw'=>?_,hK _ ?_⟩;(have b:=(hw'.block _ hbz.lt ⟨hb0.blk.lt,.inr (by rw [hb0.cX];decide)⟩).trans hbz;have b0:=Blk.cell b 0;clear b;have d:=(hw'.block _ hdz.lt ⟨hb0.wd.blk.lt,.inr (by rw [hb0.wd.cW];decide)⟩).trans hdz;have d2:=Blk.cell d 2;clear d;have x:=(hw'.block _ hxz.lt ⟨bX.lt,.inl cX⟩).trans hxz;have x5:=Blk.cell x 5;have x6:=Blk.cell x 6;clear x;go_simp;first|done|rfl))
    | refine qqN (by rfl) (hK _ ?_)
   clear hK K;simp only [Act.put,qqB]
  refine qqH _ rfl (by rfl) (fun K hK=>?_)
  go_wp2_with fail
  refine (qJV (hb0.wd.kept hz1) g.f.ok off a2 n2 c2 his).mono ?_
  rintro e w2 ⟨rfl,rfl⟩
  go_wp2
  refine hK _ _ (qA8.refl _) ?_
  clear hK K
  try simp only [Act.put,qqB]
  repeat
   refine qA0 _ rfl (fun K hK=>?_)
   first
    | (refine qqP (by rfl) ?_;apply Exists.intro;refine ⟨fun w' hw'=>?_,hK _ ?_⟩;go_simp;first|done|rfl)
    | refine qqN (by rfl) (hK _ ?_)
   clear hK K;simp only [Act.put,qqB]
  refine qA7 ?_
  have h2 : qAH col z1 P X o:=⟨_,_,_,hb0.kept hz1⟩
  have ex2:=exA.trans (Ext.kept (m:=12) hb0.top hz1)
  have hz1s:=hz1.size
  have bT2:=bT.kept hz1
  have f0:=(bT2).free 0
  have f1:=(bT2).free 1
  have y0:=(bT2).cell 0
  have y1:=(bT2).cell 1
  go_wp2_with fail
  have bR:=((bT2).set 0 (.int .i64 (1))).set 1 (.slice none 0 0)
  have hcE : Chg [w.heap.size + 1] z1 ((z1.setCell ⟨w.heap.size + 1,0,none⟩ (.int .i64 (1))).setCell ⟨w.heap.size + 1,1,none⟩ (.slice none 0 0)):=((Chg.refl _ _).set qsm 0 _).set qsm 1 _
  have r0:=bR.cell 0
  have r1:=bR.cell 1
  clear f0 f1 y0 y1
  generalize ((z1.setCell ⟨w.heap.size + 1,0,none⟩ (.int .i64 (1))).setCell ⟨w.heap.size + 1,1,none⟩ (.slice none 0 0)) = wE at *
  refine bodyPost_ret (v:=.agg #[.int .i64 (1),.slice none 0 0]) (by simp [results,results11,go_sem,r0,r1];try exact ⟨rfl,rfl⟩) rfl ⟨_,col,by rw [hr.out],by rw [hr.out];exact qC0.nil,by rw [hr.out];exact qAH.chg0 h2 hcE cT,(ex2).newset hcE (by omega)⟩
 | true =>
  have hr : R = ((0,[]),o.setX (o.cur.sSmash (off,a.data))):=by rw [hr0];unfold Bo.smash;rw [← hn2,his];rfl
  have CS : ∀ z,qA4 wA z → Calls prog 28 #[.pointer (some ⟨P.s,0,none⟩),.int .i64 off,.slice a2 n2 c2] z fun e w'=>e = .returned (.bool true) ∧ qGM 6 col z P (o.cur.sSmash (off,a.data)) w':=fun z hz=>by
   have sz:=has.s2.ext (Ext.kept (m:=12) hb0.top hz)
   by_cases h0 : 0 < n2 ∨ off < (gSize o.cur.n : Int)
   · obtain ⟨hin,hof⟩:=qQa hn2.symm h0 his
     have:=qOl (hb0.wd.kept hz) g.f.ok (by omega) off.toNat (.slice a2 a.data.length c2) a.data (by rw [← hof];exact hin) sz.1 (fun a c e hl=>sz.2 a _ c e (by rw [qA6] at hl;exact hl))
     rw [← hof,← hn2] at this
     exact this
   · have hn0 : n2 = 0:=by omega
     have hoe : off = (gSize o.cur.n : Int):=by
      unfold isB at his
      simp only [Bool.and_eq_true,decide_eq_true_eq] at his
      omega
     have hd0 : a.data = []:=List.eq_nil_of_length_eq_zero (by omega)
     subst hn0
     have s1:=sz.1
     rw [hd0] at s1 ⊢
     rw [hoe]
     exact qIG (hb0.wd.kept hz) g.f.ok (by omega) a2 c2 s1
  replace hr:=qh hr
  clear his hr0 hck hlba hn1 hn2 hn3 han hoff hR
  go_enter func11,ntmps11
  go_wp2_with fail
  rw [← hwA]
  clear hwA
  refine qAe (qA8 (fun k=>k < wA.heap.size ∧ (col k = 0 ∨ 6 < col k))) [(0,0),(1,0),(2,0),(3,0),(4,0),(5,0),(6,0),(7,0),(8,0),(9,0),(10,0),(11,1),(12,0)] (by kernel_rfl) (by kernel_rfl) ?_ ?_ ?_
  · exact fun _=>qA8.refl _
  · exact fun _ _ _ h1 h2=>h1.trans h2
  intro z1 hz1
  have hbz:=hb0.blk.kept hz1
  have hdz:=hb0.wd.blk.kept hz1
  have hxz:=bX.kept hz1
  repeat
   refine qA0 _ rfl (fun K hK=>?_)
   first
    | (refine qqP (by rfl) ?_;apply Exists.intro;refine ⟨fun w' hw'=>?_,hK _ ?_⟩;(have b:=(hw'.block _ hbz.lt ⟨hb0.blk.lt,.inr (by rw [hb0.cX];decide)⟩).trans hbz;have b0:=Blk.cell b 0;clear b;have d:=(hw'.block _ hdz.lt ⟨hb0.wd.blk.lt,.inr (by rw [hb0.wd.cW];decide)⟩).trans hdz;have d2:=Blk.cell d 2;clear d;have x:=(hw'.block _ hxz.lt ⟨bX.lt,.inl cX⟩).trans hxz;have x5:=Blk.cell x 5;have x6:=Blk.cell x 6;clear x;go_simp;first|done|rfl))
    | refine qqN (by rfl) (hK _ ?_)
   clear hK K;simp only [Act.put,qqB]
  refine qqH _ rfl (by rfl) (fun K hK=>?_)
  go_wp2_with fail
  refine (CS z1 hz1).mono ?_
  rintro e w2 ⟨rfl,col2,hW2,e2⟩
  have S2:=e2.sameOn (w0:=wA) (col0:=col) (fun k hk=>rfl)
  go_wp2
  refine hK _ _ (S2) ?_
  clear hK K
  try simp only [Act.put,qqB]
  repeat
   refine qA0 _ rfl (fun K hK=>?_)
   first
    | (refine qqP (by rfl) ?_;apply Exists.intro;refine ⟨fun w' hw'=>?_,hK _ ?_⟩;go_simp;first|done|rfl)
    | refine qqN (by rfl) (hK _ ?_)
   clear hK K;simp only [Act.put,qqB]
  refine qA7 ?_
  have h2 : qAH col2 w2 P X (o.setX (o.cur.sSmash (off,a.data))):=⟨_,_,_,(hb0.kept hz1).next hW2 e2⟩
  have ex2:=(exA.trans (Ext.kept (m:=12) hb0.top hz1)).trans (e2.mono (show 6 ≤ 12 by decide))
  have hz1s:=hz1.size
  obtain ⟨bT2,cT2⟩:=e2.blk0 (bT.kept hz1) cT
  have f0:=(bT2).free 0
  have f1:=(bT2).free 1
  have y0:=(bT2).cell 0
  have y1:=(bT2).cell 1
  go_wp2_with fail
  have bR:=((bT2).set 0 (.int .i64 (0))).set 1 (.slice none 0 0)
  have hcE : Chg [w.heap.size + 1] w2 ((w2.setCell ⟨w.heap.size + 1,0,none⟩ (.int .i64 (0))).setCell ⟨w.heap.size + 1,1,none⟩ (.slice none 0 0)):=((Chg.refl _ _).set qsm 0 _).set qsm 1 _
  have r0:=bR.cell 0
  have r1:=bR.cell 1
  clear f0 f1 y0 y1
  generalize ((w2.setCell ⟨w.heap.size + 1,0,none⟩ (.int .i64 (0))).setCell ⟨w.heap.size + 1,1,none⟩ (.slice none 0 0)) = wE at *
  refine bodyPost_ret (v:=.agg #[.int .i64 (0),.slice none 0 0]) (by simp [results,results11,go_sem,r0,r1];try exact ⟨rfl,rfl⟩) rfl ⟨_,col2,by rw [hr.out],by rw [hr.out];exact qC0.nil,by rw [hr.out];exact qAH.chg0 h2 hcE cT2,(ex2).newset hcE (by omega)⟩
section
variable {col col' : Nat → Nat} {w w' : World} {P : qAQ} {X : Nat} {cv sv : Value} {us : List Value} {o : Bo}
theorem qBh.same {M C A : Nat} {vn vw : Value} {b : Bx} (h : qBh col w P M C A vn vw b) (hs : ∀ j,1 ≤ j → j ≤ 11 → qAZ j col col' w w') (ht : Top col' w') (h6 : ∀ k,k < w'.heap.size → col' k = 6 → k < w.heap.size ∧ col k = 6) : qBh col' w' P M C A vn vw b:=by
 obtain ⟨b9,d9⟩:=(hs 9 (by decide) (by decide)).blk h.blk h.cC
 obtain ⟨b8,d8⟩:=(hs 8 (by decide) (by decide)).blk h.wm.mkr h.wm.cM
 have s10:=hs 10 (by decide) (by decide)
 exact ⟨⟨h.wm.wd.free (fun j h1 h7=>hs j h1 (by omega)) ht h6,b8,d8⟩,b9,d9,s10.own h.now h.cn,s10.own h.was h.cw,fun g hg=>s10.old g (qAo h.now hg) (h.cn g hg),fun g hg=>s10.old g (qAo h.was hg) (h.cw g hg),h.ne,h.age.frame (hs 11 (by decide) (by decide))⟩
theorem qF7.same {c : Option Bx} {x : Wd} (h : qF7 col w P c x cv) (hs : ∀ j,1 ≤ j → j ≤ 11 → qAZ j col col' w w') (ht : Top col' w') (h6 : ∀ k,k < w'.heap.size → col' k = 6 → k < w.heap.size ∧ col k = 6) : qF7 col' w' P c x cv:=by
 cases c with
 | none=>exact ⟨h.1,h.2.free (fun j h1 h7=>hs j h1 (by omega)) ht h6⟩
 | some B =>
  obtain ⟨M,C,e,A,vn,vw,h0⟩:=h
  exact ⟨M,C,e,A,vn,vw,h0.same hs ht h6⟩
theorem qLH {z2 z3 z4 : World} {ob : Obj} {v u : Value} {s : List UInt8} (h : qC8 col w P X cv sv us o) (k2 : qA4 w z2) (h3 : z3 = z2.alloc ob) (hu : z2.ownsRow w.heap.size 5 1 u s.length (qA1 s))
 (hown : z4.ownsRow 0 32 1 v (o.snaps.length + 1) (us ++ [u])) (hg : z3.grownBy z4 sv.ownBlock) (hv : v.ownBlock = sv.ownBlock ∨ v.ownBlock = some z3.heap.size) :
 qC8 (qAj col 12 w z4) (z4.setCell ⟨X,2,none⟩ v) P X cv v (us ++ [u]) ⟨o.x,o.c,o.snaps ++ [s]⟩ ∧ Ext 12 col (qAj col 12 w z4) w (z4.setCell ⟨X,2,none⟩ v):=by
 have k3 : qA4 w z3:=by rw [h3];exact k2.of (qal _)
 have sz3:=k3.size
 have sz4:=hg.size
 have hX:=h.blk.lt
 have hXs : ∀ g,sv.ownBlock = some g → g ≠ X:=fun g hg e=>by
  obtain ⟨a,c,hsv⟩:=(Sl.of_own h.sn.row).len
  subst hsv
  rcases h.sn.row.2 with ⟨h0,_⟩ | ⟨g',cap',cur,hv',_,hb,_⟩
  · rw [h0] at hg;cases hg
  · cases hv'
    have e2 : g' = g:=by simpa [Value.ownBlock] using hg
    subst e2
    subst e
    have h4:=h.blk
    unfold Blk at h4
    rw [hb] at h4
    cases h4
 have b4 : ∀ k,k < w.heap.size → sv.ownBlock ≠ some k → z4.heap[k]? = w.heap[k]?:=fun k hk hn=>(hg.block k (by omega) (fun e=>hn e.symm)).trans (k3.block k hk)
 have bX : Blk z4 X #[.pointer (some ⟨P.W,0,none⟩),cv,sv] 83:=(b4 X hX (fun e=>hXs X e rfl)).trans h.blk
 have hcS : Chg [X] z4 (z4.setCell ⟨X,2,none⟩ v):=(Chg.refl _ _).set qsm 2 _
 have sz5:=hcS.size
 have szz : (z4.setCell ⟨X,2,none⟩ v).heap.size = z4.heap.size:=by simp
 have b5 : ∀ k,k < w.heap.size → sv.ownBlock ≠ some k → k ≠ X → (z4.setCell ⟨X,2,none⟩ v).heap[k]? = w.heap[k]?:=fun k hk hn hx=>(hcS.block k (by omega) (by rw [List.mem_singleton];exact hx)).trans (b4 k hk hn)
 have hss : ∀ j,1 ≤ j → j ≤ 11 → qAZ j col (qAj col 12 w z4) w (z4.setCell ⟨X,2,none⟩ v):=fun j h1 h11 =>
  ⟨by omega,fun k hk hc=>by rw [qAc hk];exact hc,fun k hk hc=>b5 k hk (fun e=>by have:=h.sn.cs k e;omega) (fun e=>by have:=h.cX;rw [e] at hc;omega)⟩
 have ht : Top (qAj col 12 w z4) (z4.setCell ⟨X,2,none⟩ v):=fun k hk=>by
  rw [szz] at hk
  unfold qAj
  rw [if_neg (by omega)]
  exact h.top k (by omega)
 have h6 : ∀ k,k < (z4.setCell ⟨X,2,none⟩ v).heap.size → qAj col 12 w z4 k = 6 → k < w.heap.size ∧ col k = 6:=fun k hk hc=>by
  by_cases hkw : k < w.heap.size
  · rw [qAc hkw] at hc;exact ⟨hkw,hc⟩
  · rw [qAl (by omega) (by rw [szz] at hk;exact hk)] at hc;cases hc
 have b2:=bX.set 2 v
 simp only [qqA,qq0,qq1] at b2
 have kk : ∀ {B : Nat} {x : Value} {bs : List UInt8},z2.ownsRow B 5 1 x bs.length (qA1 bs) → z4.ownsRow B 5 1 x bs.length (qA1 bs):=fun {B x bs} hx=>by
  have h9 : z3.ownsRow B 5 1 x bs.length (qA1 bs):=by rw [h3];exact qA3 hx (qal _)
  refine ⟨h9.1,?_⟩
  rcases h9.2 with h0 | ⟨g',cap',cur,rfl,hB,hb,r⟩
  · exact .inl h0
  · refine .inr ⟨g',cap',cur,rfl,hB,?_,r⟩
    refine (hg.block g' (Blk.lt hb) (fun e=>?_)).trans hb
    rcases h.sn.row.2 with ⟨h0,_⟩ | ⟨g2,cap2,cur2,hv2,_,hb2,_⟩
    · rw [h0] at e;cases e
    · rw [hv2] at e
      have e2 : g' = g2:=by simpa [Value.ownBlock] using e
      subst e2
      have h4 : z3.heap[g']? = w.heap[g']?:=k3.block g' (Blk.lt hb2)
      rw [hb] at h4
      have h5 : w.heap[g']? = _:=hb2
      rw [h5] at h4
      cases h4
 refine ⟨⟨b2,by rw [qAc hX];exact h.cX,h.bc.same hss ht h6,⟨by simp [h.sn.len],?_,?_,?_,?_⟩⟩,⟨hcS.os.trans (hg.os.trans k3.os),hcS.tape.trans (hg.tape.trans k3.tape),hcS.output.trans (hg.output.trans k3.output),by omega,fun k hk=>qAc hk,fun k hk=>?_,ht,fun k hk hc=>?_⟩⟩
 · rw [List.length_append]
   exact qAt hown hcS bX (by decide)
 · intro x hx
   rcases List.mem_append.1 hx with hx | hx
   · exact h.sn.one x hx
   · rw [List.mem_singleton.1 hx];exact qCY hu
 · intro g hg2
   rcases hv with e | e
   · rw [e] at hg2
     rw [qAc (qAo h.sn.row hg2)]
     exact h.sn.cs g hg2
   · rw [e] at hg2
     cases hg2
     refine qAl (by omega) ?_
     have:=qAo hown e
     exact this
 · intro i bs x hb hx
   by_cases hi : i < o.snaps.length
   · rw [List.getElem?_append_left hi] at hb
     rw [List.getElem?_append_left (by rw [h.sn.len];exact hi)] at hx
     obtain ⟨h1,h2⟩:=h.sn.each i bs x hb hx
     refine ⟨qAt (kk (qA3 h1 k2)) hcS bX (by decide),fun g hg2=>?_⟩
     rw [qAc (qAo h1 hg2)]
     exact h2 g hg2
   · have hie : i = o.snaps.length:=by
      have:=(List.getElem?_eq_some_iff.1 hb).1
      simp at this
      omega
     subst hie
     rw [List.getElem?_append_right qle] at hb
     rw [← h.sn.len,List.getElem?_append_right qle] at hx
     simp at hb hx
     subst hb
     subst hx
     refine ⟨qAg (qAt (kk hu) hcS bX (by decide)) (Nat.zero_le _),fun g hg2=>qAl (qAM hu hg2) ?_⟩
     have:=qAo hu hg2
     have : z2.heap.size ≤ z3.heap.size:=by rw [h3];simp
     omega
 · unfold qAj
   split
   · decide
   · rw [h.top k hk];decide
 · exact b5 k hk (fun e=>by have:=h.sn.cs k e;omega) (fun e=>by have:=h.cX;rw [e] at hc;omega)
end
theorem qQg {col : Nat → Nat} {w : World} {P : qAQ} {X : Nat} {o : Bo} (h : qAH col w P X o) {m : Nat} (g : o.good m) (hm : m ≤ 36000) (a : Ac) (hkd : a.kind = 5) (a1 a2 a3 : Option Addr) (c1 c2 c3 : Nat) (_ : qEe col w a (.slice a1 a.call.data.length c1) (.slice a2 a.data.length c2) (.slice a3 a.keep.length c3)) : Calls prog 11 #[.pointer (some ⟨X,0,none⟩),.agg #[.int .i64 a.kind,.int .i64 a.call.kind,.int .i64 a.call.lba,.slice a1 a.call.data.length c1,.int .i64 a.n,.int .i64 a.off,.slice a2 a.data.length c2,.slice a3 a.keep.length c3]] w fun e w'=>∃ v col',e = .returned (.agg #[.int .i64 (o.act a).1.1,v]) ∧ qC0 col' w' w.heap.size v (o.act a).1.2 ∧ qAH col' w' P X (o.act a).2 ∧ Ext 12 col col' w w':=by
 obtain ⟨ck,hck⟩ : ∃ k,k = a.call.kind:=⟨_,rfl⟩
 obtain ⟨lba,hlba⟩ : ∃ k,k = a.call.lba:=⟨_,rfl⟩
 obtain ⟨n1,hn1⟩ : ∃ k,k = a.call.data.length:=⟨_,rfl⟩
 obtain ⟨n2,hn2⟩ : ∃ k,k = a.data.length:=⟨_,rfl⟩
 obtain ⟨n3,hn3⟩ : ∃ k,k = a.keep.length:=⟨_,rfl⟩
 obtain ⟨an,han⟩ : ∃ k,k = a.n:=⟨_,rfl⟩
 obtain ⟨off,hoff⟩ : ∃ k,k = a.off:=⟨_,rfl⟩
 obtain ⟨R,hR⟩ : ∃ R,R = o.act a:=⟨_,rfl⟩
 obtain ⟨wA,hwA⟩ : ∃ y,y = ((w.alloc (.cells #[.int .i64 5,.int .i64 ck,.int .i64 lba,.slice a1 n1 c1,.int .i64 an,.int .i64 off,.slice a2 n2 c2,.slice a3 n3 c3] 37)).alloc (.cells #[.int .i64 0,.slice none 0 0] 39)):=⟨_,rfl⟩
 have hkA : qA4 w wA:=by rw [hwA];exact (qal _).alloc (by simp) _
 have bX : Blk wA w.heap.size #[.int .i64 5,.int .i64 ck,.int .i64 lba,.slice a1 n1 c1,.int .i64 an,.int .i64 off,.slice a2 n2 c2,.slice a3 n3 c3] 37:=by
  rw [hwA]
  exact (Blk.new w _ _).kept ((Below.refl _ _).alloc (by simp) _)
 have bT : Blk wA (w.heap.size + 1) #[.int .i64 0,.slice none 0 0] 39:=by
  rw [hwA]
  have:=Blk.new (w.alloc (.cells #[.int .i64 5,.int .i64 ck,.int .i64 lba,.slice a1 n1 c1,.int .i64 an,.int .i64 off,.slice a2 n2 c2,.slice a3 n3 c3] 37)) #[.int .i64 0,.slice none 0 0] 39
  rw [World.size_alloc] at this
  exact this
 have hA:=h.kept hkA
 have exA : Ext 12 col col w wA:=Ext.kept h.top hkA
 have cX : col w.heap.size = 0:=h.top _ qle
 have cT : col (w.heap.size + 1) = 0:=h.top _ (by omega)
 have hszA:=bT.lt
 obtain ⟨cv,sv,us,hb0⟩:=hA
 have hr : R = ((0,[]),o.snap):=by
  rw [hR];unfold Bo.act;rw [if_neg (by rw [hkd];decide),if_neg (by rw [hkd];decide),if_neg (by rw [hkd];decide),if_neg (by rw [hkd];decide),if_pos hkd]
 rw [hkd,← hck,← hlba,← hn1,← hn2,← hn3,← han,← hoff,← hR]
 replace hr:=qh hr
 clear hck hlba hn1 hn2 hn3 han hoff hR
 have hsx : sv.ownBlock ≠ some X ∧ sv.ownBlock ≠ some P.W:=by
  obtain ⟨a,c,hsv⟩:=(Sl.of_own hb0.sn.row).len
  refine ⟨fun e=>?_,fun e=>by have:=hb0.sn.cs _ e;rw [hb0.wd.cW] at this;cases this⟩
  rcases hb0.sn.row.2 with ⟨h0,_⟩ | ⟨g',cap',cur,hv',_,hb,_⟩
  · rw [h0] at e;cases e
  · rw [hv'] at e
    have e2 : g' = X:=by simpa [Value.ownBlock] using e
    subst e2
    have h4:=hb0.blk
    unfold Blk at h4
    rw [hb] at h4
    cases h4
 have hXs:=hsx.1
 have hWs:=hsx.2
 have hfew:=g.few
 have hsl : o.cur.sd.snap.length = gSize o.cur.n:=Sd.snap_length g.f.ok.s
 replace hsl:=qh hsl
 go_enter func11,ntmps11
 go_wp2_with fail
 rw [← hwA]
 clear hwA
 refine qAe (qA8 (fun k=>k < wA.heap.size ∧ sv.ownBlock ≠ some k)) [(0,0),(1,0),(2,0),(3,0),(4,0),(5,0),(6,0),(7,0),(8,0),(9,0),(10,0),(11,0),(12,1),(13,1),(14,1),(15,2),(16,2),(17,2)] (by kernel_rfl) (by kernel_rfl) ?_ ?_ ?_
 · exact fun _=>qA8.refl _
 · exact fun _ _ _ h1 h2=>h1.trans h2
 intro z1 hz1
 have hbz:=hb0.blk.kept hz1
 have hdz:=hb0.wd.blk.kept hz1
 repeat
  refine qA0 _ rfl (fun K hK=>?_)
  first
   | (refine qqP (by rfl) ?_;apply Exists.intro;refine ⟨fun w' hw'=>?_,hK _ ?_⟩;(have b:=(hw'.block _ hbz.lt ⟨hb0.blk.lt,hXs⟩).trans hbz;have b0:=Blk.cell b 0;have b2:=Blk.cell b 2;clear b;have d:=(hw'.block _ hdz.lt ⟨hb0.wd.blk.lt,hWs⟩).trans hdz;have d2:=Blk.cell d 2;clear d;go_simp;first|done|rfl))
   | refine qqN (by rfl) (hK _ ?_)
  clear hK K;simp only [Act.put,qqB]
 refine qqH _ rfl (by rfl) (fun K hK=>?_)
 go_wp2_with fail
 refine (qQ9 (hb0.wd.kept hz1) g.f.ok (by omega)).mono ?_
 rintro e z2 ⟨g1,c1,rfl,hu,hk2⟩
 go_wp2
 refine hK _ _ (qA8.of_kept hk2) ?_
 clear hK K
 try simp only [Act.put,qqB]
 refine qqH _ rfl (by rfl) (fun K hK=>?_)
 go_wp2
 refine hK _ _ (qA8.of_kept (qal _)) ?_
 clear hK K
 try simp only [Act.put,qqB]
 refine qqH _ rfl (by rfl) (fun K hK=>?_)
 refine qI2 qHm (by rfl) (by rfl) (by rfl) ((qA3 (qA3 hb0.sn.row hz1) hk2).alloc _) (Sl.one _ _ _) (by rfl) (fun x hx=>by rw [List.mem_singleton.1 hx];rfl) (by unfold maxLen;omega) (by omega) (Nat.zero_le _) ?_
 intro v z4 hown hg hv
 refine hK _ _ ((⟨hg.os,hg.tape,hg.output,hg.size,fun k hk hA=>hg.block k hk (fun e=>hA.2 e.symm)⟩ : qA8 (fun k=>k < wA.heap.size ∧ sv.ownBlock ≠ some k) _ z4)) ?_
 clear hK K
 try simp only [Act.put,qqB]
 refine qAh _ rfl (fun K hK=>?_)
 refine qqP (by rfl) ?_
 go_wp2
 refine qAh _ rfl (fun K hK=>?_)
 refine qqP (by rfl) ?_
 go_wp2
 refine qAh _ rfl (fun K hK=>?_)
 refine qqP (by rfl) ?_
 have hbx : Blk z4 X #[.pointer (some ⟨P.W,0,none⟩),cv,sv] 83:=(hg.block X ((((hb0.blk.kept hz1).kept hk2).kept (qal _)).lt) (fun e=>hXs e.symm)).trans (((hb0.blk.kept hz1).kept hk2).kept (qal _))
 have hfr:=qLH (hb0.kept hz1) hk2 rfl (s:=o.cur.sd.snap) (by rw [hsl.out];exact hu) hown hg hv
 have f2:=hbx.free 2
 have y2:=hbx.cell 2
 obtain ⟨gv,cv2,rfl⟩:=qAx hown (by omega)
 go_wp2
 refine qA7 ?_
 generalize (z4.setCell ⟨X,2,none⟩ (.slice (some ⟨gv,0,none⟩) (o.snaps.length + 1) cv2)) = z5 at *
 have h2 : qAH (qAj col 12 z1 z4) z5 P X o.snap:=⟨_,_,_,hfr.1⟩
 have ex2:=(exA.trans (Ext.kept (m:=12) hb0.top hz1)).trans hfr.2
 have hz1s:=hz1.size
 obtain ⟨bT2,cT2⟩:=hfr.2.blk0 (bT.kept hz1) cT
 have f0:=(bT2).free 0
 have f1:=(bT2).free 1
 have y0:=(bT2).cell 0
 have y1:=(bT2).cell 1
 go_wp2_with fail
 have bR:=((bT2).set 0 (.int .i64 (0))).set 1 (.slice none 0 0)
 have hcE : Chg [w.heap.size + 1] z5 ((z5.setCell ⟨w.heap.size + 1,0,none⟩ (.int .i64 (0))).setCell ⟨w.heap.size + 1,1,none⟩ (.slice none 0 0)):=((Chg.refl _ _).set qsm 0 _).set qsm 1 _
 have r0:=bR.cell 0
 have r1:=bR.cell 1
 clear f0 f1 y0 y1
 generalize ((z5.setCell ⟨w.heap.size + 1,0,none⟩ (.int .i64 (0))).setCell ⟨w.heap.size + 1,1,none⟩ (.slice none 0 0)) = wE at *
 refine bodyPost_ret (v:=.agg #[.int .i64 (0),.slice none 0 0]) (by simp [results,results11,go_sem,r0,r1];try exact ⟨rfl,rfl⟩) rfl ⟨_,(qAj col 12 z1 z4),by rw [hr.out],by rw [hr.out];exact qC0.nil,by rw [hr.out];exact qAH.chg0 h2 hcE cT2,(ex2).newset hcE (by omega)⟩
theorem qQh {col : Nat → Nat} {w : World} {P : qAQ} {X : Nat} {o : Bo} (h : qAH col w P X o) {m : Nat} (g : o.good m) (hm : m ≤ 36000) (a : Ac) (hkd : a.kind = 6) (a1 a2 a3 : Option Addr) (c1 c2 c3 : Nat) (_ : qEe col w a (.slice a1 a.call.data.length c1) (.slice a2 a.data.length c2) (.slice a3 a.keep.length c3)) : Calls prog 11 #[.pointer (some ⟨X,0,none⟩),.agg #[.int .i64 a.kind,.int .i64 a.call.kind,.int .i64 a.call.lba,.slice a1 a.call.data.length c1,.int .i64 a.n,.int .i64 a.off,.slice a2 a.data.length c2,.slice a3 a.keep.length c3]] w fun e w'=>∃ v col',e = .returned (.agg #[.int .i64 (o.act a).1.1,v]) ∧ qC0 col' w' w.heap.size v (o.act a).1.2 ∧ qAH col' w' P X (o.act a).2 ∧ Ext 12 col col' w w':=by
 obtain ⟨ck,hck⟩ : ∃ k,k = a.call.kind:=⟨_,rfl⟩
 obtain ⟨lba,hlba⟩ : ∃ k,k = a.call.lba:=⟨_,rfl⟩
 obtain ⟨n1,hn1⟩ : ∃ k,k = a.call.data.length:=⟨_,rfl⟩
 obtain ⟨n2,hn2⟩ : ∃ k,k = a.data.length:=⟨_,rfl⟩
 obtain ⟨n3,hn3⟩ : ∃ k,k = a.keep.length:=⟨_,rfl⟩
 obtain ⟨an,han⟩ : ∃ k,k = a.n:=⟨_,rfl⟩
 obtain ⟨off,hoff⟩ : ∃ k,k = a.off:=⟨_,rfl⟩
 obtain ⟨R,hR⟩ : ∃ R,R = o.act a:=⟨_,rfl⟩
 obtain ⟨wA,hwA⟩ : ∃ y,y = ((w.alloc (.cells #[.int .i64 6,.int .i64 ck,.int .i64 lba,.slice a1 n1 c1,.int .i64 an,.int .i64 off,.slice a2 n2 c2,.slice a3 n3 c3] 37)).alloc (.cells #[.int .i64 0,.slice none 0 0] 39)):=⟨_,rfl⟩
 have hkA : qA4 w wA:=by rw [hwA];exact (qal _).alloc (by simp) _
 have bX : Blk wA w.heap.size #[.int .i64 6,.int .i64 ck,.int .i64 lba,.slice a1 n1 c1,.int .i64 an,.int .i64 off,.slice a2 n2 c2,.slice a3 n3 c3] 37:=by
  rw [hwA]
  exact (Blk.new w _ _).kept ((Below.refl _ _).alloc (by simp) _)
 have bT : Blk wA (w.heap.size + 1) #[.int .i64 0,.slice none 0 0] 39:=by
  rw [hwA]
  have:=Blk.new (w.alloc (.cells #[.int .i64 6,.int .i64 ck,.int .i64 lba,.slice a1 n1 c1,.int .i64 an,.int .i64 off,.slice a2 n2 c2,.slice a3 n3 c3] 37)) #[.int .i64 0,.slice none 0 0] 39
  rw [World.size_alloc] at this
  exact this
 have hA:=h.kept hkA
 have exA : Ext 12 col col w wA:=Ext.kept h.top hkA
 have cX : col w.heap.size = 0:=h.top _ qle
 have cT : col (w.heap.size + 1) = 0:=h.top _ (by omega)
 have hszA:=bT.lt
 have CB : Calls prog 30 #[.pointer (some ⟨X,0,none⟩),.int .i64 a.n] wA fun e w'=>∃ col',e = .returned (.int .i64 (o.back a.n).1.1) ∧ qAH col' w' P X (o.back a.n).2 ∧ Ext 12 col col' wA w':=by
  by_cases hb : 0 ≤ a.n ∧ a.n < (o.snaps.length : Int)
  · have hbn : a.n = ((a.n.toNat : Nat) : Int):=by omega
    have:=qIH hA g a.n.toNat (by omega) (by have:=g.few;omega)
    rw [← hbn] at this
    exact this
  · exact qJX hA a.n hb
 obtain ⟨E,hE⟩ : ∃ E,E = (o.back a.n).1.1:=⟨_,rfl⟩
 obtain ⟨o2,ho2⟩ : ∃ o2,o2 = (o.back a.n).2:=⟨_,rfl⟩
 rw [← hE,← ho2] at CB
 have hnil : (o.back a.n).1.2 = []:=by unfold Bo.back;split <;> rfl
 have hr : R = ((E,[]),o2):=by
  rw [hR,hE,ho2];unfold Bo.act;rw [if_neg (by rw [hkd];decide),if_neg (by rw [hkd];decide),if_neg (by rw [hkd];decide),if_neg (by rw [hkd];decide),if_neg (by rw [hkd];decide)];rw [if_pos hkd,← hnil]
 rw [hkd,← hck,← hlba,← hn1,← hn2,← hn3,← han,← hoff,← hR]
 replace hr:=qh hr
 rw [← han] at CB
 rw [hwA] at CB
 clear hE ho2 hnil
 clear hck hlba hn1 hn2 hn3 han hoff hR
 go_enter func11,ntmps11
 go_wp2_with fail
 refine CB.mono ?_
 rintro e w2 ⟨col2,rfl,h2,e2⟩
 rw [← hwA] at e2
 obtain ⟨bT2,cT2⟩:=e2.blk0 bT cT
 have f0:=(bT2).free 0
 have f1:=(bT2).free 1
 have y0:=(bT2).cell 0
 have y1:=(bT2).cell 1
 go_wp2_with fail
 have bR:=((bT2).set 0 (.int .i64 (E))).set 1 (.slice none 0 0)
 have hcE : Chg [w.heap.size + 1] w2 ((w2.setCell ⟨w.heap.size + 1,0,none⟩ (.int .i64 (E))).setCell ⟨w.heap.size + 1,1,none⟩ (.slice none 0 0)):=((Chg.refl _ _).set qsm 0 _).set qsm 1 _
 have r0:=bR.cell 0
 have r1:=bR.cell 1
 clear f0 f1 y0 y1
 generalize ((w2.setCell ⟨w.heap.size + 1,0,none⟩ (.int .i64 (E))).setCell ⟨w.heap.size + 1,1,none⟩ (.slice none 0 0)) = wE at *
 refine bodyPost_ret (v:=.agg #[.int .i64 (E),.slice none 0 0]) (by simp [results,results11,go_sem,r0,r1];try exact ⟨rfl,rfl⟩) rfl ⟨_,col2,by rw [hr.out],by rw [hr.out];exact qC0.nil,by rw [hr.out];exact qAH.chg0 h2 hcE cT2,(exA.trans e2).newset hcE (by omega)⟩
theorem qQi {col : Nat → Nat} {w : World} {P : qAQ} {X : Nat} {o : Bo} (h : qAH col w P X o) {m : Nat} (g : o.good m) (_ : m ≤ 36000) (a : Ac) (hkd : a.kind = 7) (a1 a2 a3 : Option Addr) (c1 c2 c3 : Nat) (_ : qEe col w a (.slice a1 a.call.data.length c1) (.slice a2 a.data.length c2) (.slice a3 a.keep.length c3)) : Calls prog 11 #[.pointer (some ⟨X,0,none⟩),.agg #[.int .i64 a.kind,.int .i64 a.call.kind,.int .i64 a.call.lba,.slice a1 a.call.data.length c1,.int .i64 a.n,.int .i64 a.off,.slice a2 a.data.length c2,.slice a3 a.keep.length c3]] w fun e w'=>∃ v col',e = .returned (.agg #[.int .i64 (o.act a).1.1,v]) ∧ qC0 col' w' w.heap.size v (o.act a).1.2 ∧ qAH col' w' P X (o.act a).2 ∧ Ext 12 col col' w w':=by
 obtain ⟨ck,hck⟩ : ∃ k,k = a.call.kind:=⟨_,rfl⟩
 obtain ⟨lba,hlba⟩ : ∃ k,k = a.call.lba:=⟨_,rfl⟩
 obtain ⟨n1,hn1⟩ : ∃ k,k = a.call.data.length:=⟨_,rfl⟩
 obtain ⟨n2,hn2⟩ : ∃ k,k = a.data.length:=⟨_,rfl⟩
 obtain ⟨n3,hn3⟩ : ∃ k,k = a.keep.length:=⟨_,rfl⟩
 obtain ⟨an,han⟩ : ∃ k,k = a.n:=⟨_,rfl⟩
 obtain ⟨off,hoff⟩ : ∃ k,k = a.off:=⟨_,rfl⟩
 obtain ⟨R,hR⟩ : ∃ R,R = o.act a:=⟨_,rfl⟩
 obtain ⟨wA,hwA⟩ : ∃ y,y = ((w.alloc (.cells #[.int .i64 7,.int .i64 ck,.int .i64 lba,.slice a1 n1 c1,.int .i64 an,.int .i64 off,.slice a2 n2 c2,.slice a3 n3 c3] 37)).alloc (.cells #[.int .i64 0,.slice none 0 0] 39)):=⟨_,rfl⟩
 have hkA : qA4 w wA:=by rw [hwA];exact (qal _).alloc (by simp) _
 have bX : Blk wA w.heap.size #[.int .i64 7,.int .i64 ck,.int .i64 lba,.slice a1 n1 c1,.int .i64 an,.int .i64 off,.slice a2 n2 c2,.slice a3 n3 c3] 37:=by
  rw [hwA]
  exact (Blk.new w _ _).kept ((Below.refl _ _).alloc (by simp) _)
 have bT : Blk wA (w.heap.size + 1) #[.int .i64 0,.slice none 0 0] 39:=by
  rw [hwA]
  have:=Blk.new (w.alloc (.cells #[.int .i64 7,.int .i64 ck,.int .i64 lba,.slice a1 n1 c1,.int .i64 an,.int .i64 off,.slice a2 n2 c2,.slice a3 n3 c3] 37)) #[.int .i64 0,.slice none 0 0] 39
  rw [World.size_alloc] at this
  exact this
 have hA:=h.kept hkA
 have exA : Ext 12 col col w wA:=Ext.kept h.top hkA
 have cX : col w.heap.size = 0:=h.top _ qle
 have cT : col (w.heap.size + 1) = 0:=h.top _ (by omega)
 have hszA:=bT.lt
 obtain ⟨cv,sv,us,hb0⟩:=hA
 have hr : R = ((0,[]),o.setX (o.cur.dRefuse (an != 0))):=by
  rw [hR];unfold Bo.act;rw [if_neg (by rw [hkd];decide),if_neg (by rw [hkd];decide),if_neg (by rw [hkd];decide),if_neg (by rw [hkd];decide),if_neg (by rw [hkd];decide),if_neg (by rw [hkd];decide),if_pos hkd,← han,show decide (an ≠ 0) = (an != 0) by by_cases h : an = 0 <;> simp [h]]
 rw [hkd,← hck,← hlba,← hn1,← hn2,← hn3,← han,← hoff,← hR]
 replace hr:=qh hr
 clear hck hlba hn1 hn2 hn3 han hoff hR
 go_enter func11,ntmps11
 go_wp2_with fail
 rw [← hwA]
 clear hwA
 refine qAe (qA8 (fun k=>k < wA.heap.size ∧ (col k = 0 ∨ 6 < col k))) [(0,0),(1,0),(2,0),(3,0),(4,0),(5,0),(6,0),(7,0),(8,0),(9,0),(10,1)] (by kernel_rfl) (by kernel_rfl) ?_ ?_ ?_
 · exact fun _=>qA8.refl _
 · exact fun _ _ _ h1 h2=>h1.trans h2
 intro z1 hz1
 have hbz:=hb0.blk.kept hz1
 have hdz:=hb0.wd.blk.kept hz1
 have hxz:=bX.kept hz1
 repeat
  refine qA0 _ rfl (fun K hK=>?_)
  first
   | (refine qqP (by rfl) ?_;apply Exists.intro;refine ⟨fun w' hw'=>?_,hK _ ?_⟩;(have b:=(hw'.block _ hbz.lt ⟨hb0.blk.lt,.inr (by rw [hb0.cX];decide)⟩).trans hbz;have b0:=Blk.cell b 0;clear b;have d:=(hw'.block _ hdz.lt ⟨hb0.wd.blk.lt,.inr (by rw [hb0.wd.cW];decide)⟩).trans hdz;have d3:=Blk.cell d 3;clear d;have x:=(hw'.block _ hxz.lt ⟨bX.lt,.inl cX⟩).trans hxz;have x4:=Blk.cell x 4;clear x;go_simp;first|done|rfl))
   | refine qqN (by rfl) (hK _ ?_)
  clear hK K;simp only [Act.put,qqB]
 refine qqH _ rfl (by rfl) (fun K hK=>?_)
 go_wp2_with fail
 refine (qLe (hb0.wd.kept hz1) g.f.ok (an != 0)).mono ?_
 rintro e w2 ⟨rfl,col2,hW2,e2⟩
 have S2:=e2.sameOn (w0:=wA) (col0:=col) (fun k hk=>rfl)
 go_wp2
 refine hK _ _ (S2) ?_
 clear hK K
 try simp only [Act.put,qqB]
 refine qA7 ?_
 have h2 : qAH col2 w2 P X (o.setX (o.cur.dRefuse (an != 0))):=⟨_,_,_,(hb0.kept hz1).next hW2 e2⟩
 have ex2:=(exA.trans (Ext.kept (m:=12) hb0.top hz1)).trans (e2.mono (show 6 ≤ 12 by decide))
 have hz1s:=hz1.size
 obtain ⟨bT2,cT2⟩:=e2.blk0 (bT.kept hz1) cT
 have f0:=(bT2).free 0
 have f1:=(bT2).free 1
 have y0:=(bT2).cell 0
 have y1:=(bT2).cell 1
 go_wp2_with fail
 have bR:=((bT2).set 0 (.int .i64 (0))).set 1 (.slice none 0 0)
 have hcE : Chg [w.heap.size + 1] w2 ((w2.setCell ⟨w.heap.size + 1,0,none⟩ (.int .i64 (0))).setCell ⟨w.heap.size + 1,1,none⟩ (.slice none 0 0)):=((Chg.refl _ _).set qsm 0 _).set qsm 1 _
 have r0:=bR.cell 0
 have r1:=bR.cell 1
 clear f0 f1 y0 y1
 generalize ((w2.setCell ⟨w.heap.size + 1,0,none⟩ (.int .i64 (0))).setCell ⟨w.heap.size + 1,1,none⟩ (.slice none 0 0)) = wE at *
 refine bodyPost_ret (v:=.agg #[.int .i64 (0),.slice none 0 0]) (by simp [results,results11,go_sem,r0,r1];try exact ⟨rfl,rfl⟩) rfl ⟨_,col2,by rw [hr.out],by rw [hr.out];exact qC0.nil,by rw [hr.out];exact qAH.chg0 h2 hcE cT2,(ex2).newset hcE (by omega)⟩
theorem qH2 {col : Nat → Nat} {w : World} {P : qAQ} {X : Nat} {o : Bo} (h : qAH col w P X o) {m : Nat} (g : o.good m) (hm : m ≤ 36000) (a : Ac) (a1 a2 a3 : Option Addr) (c1 c2 c3 : Nat) (ha : qEe col w a (.slice a1 a.call.data.length c1) (.slice a2 a.data.length c2) (.slice a3 a.keep.length c3)) : Calls prog 11 #[.pointer (some ⟨X,0,none⟩),.agg #[.int .i64 a.kind,.int .i64 a.call.kind,.int .i64 a.call.lba,.slice a1 a.call.data.length c1,.int .i64 a.n,.int .i64 a.off,.slice a2 a.data.length c2,.slice a3 a.keep.length c3]] w fun e w'=>∃ v col',e = .returned (.agg #[.int .i64 (o.act a).1.1,v]) ∧ qC0 col' w' w.heap.size v (o.act a).1.2 ∧ qAH col' w' P X (o.act a).2 ∧ Ext 12 col col' w w':=by
 by_cases k1 : a.kind = 1
 · exact qQc h g hm a k1 a1 a2 a3 c1 c2 c3 ha
 by_cases k2 : a.kind = 2
 · exact qQd h g hm a k2 a1 a2 a3 c1 c2 c3 ha
 by_cases k3 : a.kind = 3
 · exact qQe h g hm a k3 a1 a2 a3 c1 c2 c3 ha
 by_cases k4 : a.kind = 4
 · exact qQf h g hm a k4 a1 a2 a3 c1 c2 c3 ha
 by_cases k5 : a.kind = 5
 · exact qQg h g hm a k5 a1 a2 a3 c1 c2 c3 ha
 by_cases k6 : a.kind = 6
 · exact qQh h g hm a k6 a1 a2 a3 c1 c2 c3 ha
 by_cases k7 : a.kind = 7
 · exact qQi h g hm a k7 a1 a2 a3 c1 c2 c3 ha
 exact qQb h g hm a a.kind ⟨k1,k2,k3,k4,k5,k6,k7⟩ rfl a1 a2 a3 c1 c2 c3 ha
theorem Bx.good.doC {b : Bx} {m : Nat} (g : b.good m) (hm : m ≤ 100000) (c : Cl) : (b.doC c).2.good (m + 97):=by
 unfold Bx.doC
 split
 · exact g.up (by omega)
 split
 · exact g.up (by omega)
 split
 · exact g.up (by omega)
 rename_i h1 h2 h3
 have his : c.is = true:=by simpa using h3
 unfold Cl.is at his
 split
 · rename_i hk
   rw [if_pos hk] at his
   have hl : c.lba.toNat < 32:=by
    unfold isD at his
    simp at his
    omega
   exact (g.read his (Dk.read_length g.f.x.ok.d hl)).up (by omega)
 rename_i hk1
 rw [if_neg hk1] at his
 split
 · rename_i hk2
   rw [if_neg (by omega),if_pos hk2] at his
   simp only [Bool.and_eq_true,decide_eq_true_eq] at his
   exact (g.write his.2 his.1).up (by omega)
 rename_i hk2
 split
 · exact g.commit.up (by omega)
 split
 · rename_i hk3 hk4
   rw [if_pos hk4] at his
   exact (g.discard his).up (by omega)
 · exact (g.rotate (by omega)).up (by omega)
theorem qNq (F : Int × Bx) : Bo.cur ⟨(Bx.openR F).2.1,(Bx.openR F).2.2,[]⟩ = F.2.x ∧ ∀ B,(Bx.openR F).2.2 = some B → B = F.2:=by
 unfold Bx.openR
 split
 · exact ⟨rfl,fun B h=>(by cases h)⟩
 · exact ⟨rfl,fun B h=>(by cases h;rfl)⟩
theorem qGi (b : Bx) (s : Nat) : (b.spillX s).x.n = b.x.n:=by
 unfold Bx.spillX
 cases b.valD s with
 | none=>rfl
 | some d =>
  show (b.x.dPut _ d).n = _
  unfold Wd.dPut;split <;> rfl
theorem qBw (b : Bx) : b.commit.2.x.n = b.x.n:=qCA
theorem qH3 : ∀ (k s : Nat) (b : Bx) (d : Bool),(Bx.empF k s b d).2.1.x.n = b.x.n
 | 0,_,_,_=>rfl
 | k + 1,s,b,d=>by
  unfold Bx.empF
  split
  · split
    · exact qGi b s
    · rw [qH3 k (s + 1)];exact qGi b s
  · exact qH3 k (s + 1) b d
theorem qGj (b : Bx) : b.empty.2.x.n = b.x.n:=by
 unfold Bx.empty Bx.empR
 split
 · exact qH3 _ _ _ _
 · unfold Bx.empD
   split
   · exact qH3 _ _ _ _
   · show (if _ then _ else _ : Bx).x.n = _
     split
     · exact qH3 _ _ _ _
     · exact qH3 _ _ _ _
theorem qKD (b : Bx) : b.forget.2.x.n = b.x.n:=by
 unfold Bx.forget
 split
 · exact qBw b
 · exact qBw b
theorem qOY (b : Bx) : b.finish.2.x.n = b.x.n:=by
 unfold Bx.finish
 split
 · rfl
 split
 · exact qGj b
 · rw [qKD];exact qGj b
theorem qNr (b : Bx) (s : Nat) (l : Lf) : (b.puts s l).x = b.x:=by
 unfold Bx.puts;split <;> rfl
theorem qPn (b : Bx) (lba : Int) (d : List UInt8) (y : Bool) : (b.lays lba d y).2.x.n = b.x.n:=by
 unfold Bx.lays
 split
 · rfl
 split
 · rw [qNr];rfl
 · rfl
theorem qQj (b : Bx) : b.evict.2.x.n = b.x.n:=by
 unfold Bx.evict
 split
 · split
   · exact qGi _ _
   split
   · exact qGi _ _
   · rw [qBw];exact qGi b b.oldest
 · rw [qBw];rfl
theorem qKE (b : Bx) : b.room.2.x.n = b.x.n:=by
 unfold Bx.room
 split
 · rfl
 split
 · exact qBw b
 split
 · exact qBw b
 · rw [qQj];exact qBw b
theorem qRT (b : Bx) (c : Cl) : (b.doC c).2.x.n = b.x.n:=by
 unfold Bx.doC
 split
 · rfl
 split
 · rfl
 split
 · rfl
 split
 · unfold Bx.read
   cases b.c.slot c.lba with
   | some s =>
    show (b.readV s (b.valD s)).2.x.n = _
    cases b.valD s <;> rfl
   | none =>
    show (b.readD c.lba _).2.x.n = _
    unfold Bx.readD
    split
    · rfl
    · unfold Bx.readN
      split <;> exact qPn _ _ _ _
 split
 · show (b.write c.lba c.data).2.x.n = _
   unfold Bx.write
   split
   · exact qKE b
   · rw [qPn];exact qKE b
 split
 · exact qBw b
 split
 · show (b.discard c.lba).2.x.n = _
   unfold Bx.discard
   split
   · exact qKE b
   · show (Bx.puts _ _ _).x.n = _
     rw [qNr];exact qKE b
 · show b.rotate.2.x.n = _
   unfold Bx.rotate
   split
   · exact qBw b
   · unfold Bx.rotE
     split
     · rw [qGj];exact qBw b
     split
     · show b.commit.2.empty.2.x.n = _
       rw [qGj];exact qBw b
     · rw [qKD]
       show b.commit.2.empty.2.x.n = _
       rw [qGj];exact qBw b
theorem Wd.opens_good {x : Wd} {m : Nat} (f : x.fine m) (hp : 0#32 < qAi x.eps) : ∀ r,r = x.opens → (Bo.cur ⟨r.2.1,r.2.2,[]⟩).fine (m + 106) ∧ 0#32 < qAi (Bo.cur ⟨r.2.1,r.2.2,[]⟩).eps ∧ (Bo.cur ⟨r.2.1,r.2.2,[]⟩).n = x.n ∧ ∀ B,r.2.2 = some B → B.good (m + 106):=by
 rintro r rfl
 unfold Wd.opens
 split
 · exact ⟨f.up (by omega),hp,rfl,fun B h=>(by cases h)⟩
 split
 · exact ⟨f.boot.up (by omega),hp,rfl,fun B h=>(by cases h)⟩
 have hn:=qAm f.ok.sl
 cases hl : x.boot.loadO with
 | none =>
  refine ⟨f.boot.loadX.up (by omega),?_,?_,fun B h=>(by cases h)⟩
  · show 0#32 < qAi x.boot.loadX.eps
    rw [qBH.2.1];exact hp
  · show x.boot.loadX.n = x.n
    rw [qBH.1];rfl
 | some ls =>
  have h1:=qKC (x:=x.boot) (by show x.n ≤ 16;omega) hl
  have g:=qF6 (x:=x.boot.loadX) f.boot.loadX (by rw [qBH.2.1];exact hp) (by rw [qBH.1];exact h1.1) h1.2
  have gf:=g.finish
  have hnf : (x.boot.loadX.fresh ls).finish.2.x.n = x.n:=by
   rw [qOY]
   show x.boot.loadX.n = x.n
   rw [qBH.1];rfl
  obtain ⟨h2,h3⟩:=qNq (x.boot.loadX.fresh ls).finish
  have h4 : ∀ (r : Int × Wd × Option Bx),r = Bx.openR (x.boot.loadX.fresh ls).finish → (Bo.cur ⟨r.2.1,r.2.2,[]⟩).fine (m + 106) ∧ 0#32 < qAi (Bo.cur ⟨r.2.1,r.2.2,[]⟩).eps ∧ (Bo.cur ⟨r.2.1,r.2.2,[]⟩).n = x.n ∧ ∀ B,r.2.2 = some B → B.good (m + 106):=by
   rintro r rfl
   rw [h2]
   exact ⟨gf.f.x.up (by omega),gf.ep,hnf,fun B hB=>by rw [h3 B hB];exact gf.up (by omega)⟩
  exact h4 _ rfl
theorem Wd.fine.sBack {x : Wd} {m : Nat} (f : x.fine m) {bs : List UInt8} (hb : bs.length = gSize x.n) : (x.sBack bs).fine (m + 1):=by
 refine f.setS ?_
 exact ⟨hb,fun y hy=>(by cases hy),fun y hy=>f.ok.s.fitp y hy,Nat.zero_le _,Nat.le_succ_of_le f.ok.s.done,qE0 f.ok.s.pw (by omega)⟩
theorem Wd.fine.sSmash {x : Wd} {m : Nat} (f : x.fine m) {off : Int} {bs : List UInt8} (hb : isB (gSize x.n) off (bs.length : Int) = true) : (x.sSmash (off,bs)).fine (m + 1):=by
 refine f.setS ?_
 refine ⟨?_,fun y hy=>(by cases hy),fun y hy=>f.ok.s.fitp y hy,Nat.zero_le _,Nat.le_succ_of_le f.ok.s.done,qE0 f.ok.s.pw (by omega)⟩
 show (qBQ x.sd.snap (off,bs)).length = _
 have hs : x.sd.snap.length = gSize x.n:=Sd.snap_length f.ok.s
 unfold isB at hb
 simp only [Bool.and_eq_true,decide_eq_true_eq] at hb
 unfold qBQ
 simp only [List.length_append,List.length_take,List.length_drop,hs]
 omega
theorem Bo.good.act {o : Bo} {m : Nat} (g : o.good m) (hm : m ≤ 90000) (a : Ac) (hl : a.n ≤ 9223372036854775807) : (o.act a).2.good (m + 110):=by
 unfold Bo.act
 split
 · unfold Bo.call
   cases hc : o.c with
   | none=>exact g.up (by omega)
   | some B =>
    have gB:=g.bx B hc
    have g2:=gB.doC (by omega) a.call
    have hcu : o.cur = B.x:=by unfold Bo.cur;rw [hc]
    exact ⟨g2.f.x.up (by omega),g2.ep,fun B2 h2=>(by cases h2;exact g2.up (by omega)),fun s hs=>by
     show s.length = gSize (B.doC a.call).2.x.n
     rw [qRT,← hcu]
     exact g.sn s hs,Nat.le_trans g.few (by omega)⟩
 split
 · refine g.setX ((g.f.setP ?_).up (by omega)) (by omega) rfl rfl
   obtain ⟨h1,h2,h3⟩:=g.f.ok.s.pw
   refine ⟨h1,?_,fun hf=>?_⟩
   · show o.cur.p.steps ≤ _
     have : o.cur.p.steps ≤ (m : Int):=h2
     omega
   · have hf2 : decide (0 ≤ a.n) = true:=hf
     exact ⟨of_decide_eq_true hf2,hl⟩
 split
 · unfold Bo.crash Bo.open_
   obtain ⟨h1,h2,h3,h4⟩:=Wd.opens_good (g.f.crash a.keep) (show 0#32 < qAi (o.cur.crash a.keep).eps from g.ep) _ rfl
   exact ⟨h1.up (by omega),h2,fun B hB=>(h4 B hB).up (by omega),fun s hs=>by
    show s.length = gSize (Bo.cur ⟨(o.cur.crash a.keep).opens.2.1,(o.cur.crash a.keep).opens.2.2,[]⟩).n
    rw [h3]
    exact g.sn s hs,Nat.le_trans g.few (by omega)⟩
 split
 · unfold Bo.smash
   split
   · rename_i h1
     exact g.setX ((g.f.sSmash h1).up (by omega)) (by omega) rfl rfl
   · exact g.up (by omega)
 split
 · have hs : o.cur.sd.snap.length = gSize o.cur.n:=Sd.snap_length g.f.ok.s
   exact ⟨g.f.up (by omega),g.ep,fun B hB=>(g.bx B hB).up (by omega),fun s h=>by
    rcases List.mem_append.1 h with h | h
    · exact g.sn s h
    · rw [List.mem_singleton.1 h];exact hs,by
    show (o.snaps ++ [o.cur.sd.snap]).length ≤ _
    have:=g.few
    simp;omega⟩
 split
 · unfold Bo.back
   split
   · rename_i h1
     refine g.setX ((g.f.sBack ?_).up (by omega)) (by omega) rfl rfl
     have hlt : a.n.toNat < o.snaps.length:=by omega
     rw [List.getElem?_eq_getElem hlt]
     exact g.sn _ (List.getElem_mem hlt)
   · exact g.up (by omega)
 split
 · exact g.setX ((g.f.dRefuse _).up (by omega)) (by omega) rfl rfl
 · exact g.up (by omega)
def Lk.numb : Lk → Prop
 | .real=>True
 | .ideal iss _=>∀ (i : Nat) (x : Iss),iss[i]? = some x → x.tag = (18446744073709551615#64,BitVec.ofNat 64 (i + 1))
theorem Lk.numb_seal {l : Lk} (h : l.numb) (key : qAB) (n : Nn) (head data : List UInt8) : (l.sealL key n head data).numb:=by
 cases l with
 | real=>trivial
 | ideal iss sums =>
  intro i x hx
  have hx2 : (iss ++ [qEy iss key n head data])[i]? = some x:=hx
  by_cases hi : i < iss.length
  · rw [List.getElem?_append_left hi] at hx2
    exact h i x hx2
  · rw [List.getElem?_append_right (by omega)] at hx2
    have hi2 : i - iss.length = 0:=by
     have:=(List.getElem?_eq_some_iff.1 hx2).1
     simp at this
     omega
    rw [hi2] at hx2
    simp at hx2
    subst hx2
    rw [show i = iss.length by omega]
    rfl
theorem Lk.numb_sum {l : Lk} (h : l.numb) (row : List UInt8) : (l.sumL row).numb:=by
 cases l with
 | real=>trivial
 | ideal iss sums=>exact h
theorem qHQ {iss : List Iss} {key : qAB} {n : Nn} {head out : List UInt8} {tag : qAB} (h : ∀ x ∈ iss,x.tag ≠ tag) : iss.find? (fun x=>x.opens key n head out tag) = none:=by
 rw [List.find?_eq_none]
 intro x hx ho
 unfold Iss.opens at ho
 simp only [Bool.and_eq_true,beq_iff_eq] at ho
 exact h x hx ho.2.2.1
theorem Lk.open_seal {l : Lk} (h : l.numb) (hf : l.few 1000000) (key : qAB) (n : Nn) (head data : List UInt8) : (l.sealL key n head data).openP key n head (l.sealP key n head data).1 (l.sealP key n head data).2 = some data:=by
 cases l with
 | real =>
  show (if qHt key n head (qGF key n data) ((qE1 key n head data).1,(qE1 key n head data).2) then some (qGF key n (qGF key n data)) else none) = some data
  rw [qLj,if_pos rfl,qMa]
 | ideal iss sums =>
  show qDS (iss ++ [qEy iss key n head data]) key n head (qDT (iss.length + 1) data.length) (18446744073709551615#64,BitVec.ofNat 64 (iss.length + 1)) = some data
  unfold qDS
  have hn:=qHQ (iss:=iss) (key:=key) (n:=n) (head:=head) (out:=qDT (iss.length + 1) data.length) (tag:=(18446744073709551615#64,BitVec.ofNat 64 (iss.length + 1))) (fun x hx e=>by
   obtain ⟨i,hi,hxi⟩:=List.getElem_of_mem hx
   have h1:=h i x (by rw [List.getElem?_eq_getElem hi,hxi])
   rw [h1] at e
   have e2 : BitVec.ofNat 64 (i + 1) = BitVec.ofNat 64 (iss.length + 1):=(Prod.mk.inj e).2
   have e3:=congrArg BitVec.toNat e2
   have hf1 : iss.length ≤ 1000000:=hf.1
   rw [BitVec.toNat_ofNat,BitVec.toNat_ofNat,Nat.mod_eq_of_lt (by omega),Nat.mod_eq_of_lt (by omega)] at e3
   omega)
  rw [List.find?_append,hn]
  have ho : (qEy iss key n head data).opens key n head (qDT (iss.length + 1) data.length) (18446744073709551615#64,BitVec.ofNat 64 (iss.length + 1)) = true:=by
   unfold Iss.opens qEy
   simp
  simp [ho]
  rfl
theorem qOZ (b : List UInt8) (x : Wr) (h : inB b.length x) : ((qBQ b x).drop x.1.toNat).take x.2.length = x.2:=by
 obtain ⟨h0,h1,h2⟩:=h
 unfold qBQ
 rw [List.append_assoc,List.drop_append_of_le_length (by rw [List.length_take];omega)]
 rw [List.drop_of_length_le (by rw [List.length_take];omega),List.nil_append,List.take_left]
theorem qJY {l : List (BitVec 32)} (h : 0 < l.length) : l.contains (qAi l) = true:=by
 have:=qFI l h
 rw [List.contains_iff_mem]
 exact List.mem_of_getElem? this
theorem qII {b : Bx} {m : Nat} (f : b.fine m) (hm : m ≤ 1000000) (hnb : b.x.l.numb) (s : Nat) (hs : s < b.c.now.length) (lba : Int) (data : List UInt8) (hd : data.length = 32) (hsp : b.x.p.spend.1 = true) (c : Bx) (hx : c.x = b.layX s lba data) (dirty : Bool) (hl : c.leaf s = b.layF s lba data dirty) : c.valD s = some data:=by
 have hn : s < b.x.n:=by have:=f.nl;omega
 have hin:=qG9 b s lba data hn hd
 have hlen : b.x.sd.snap.length = gSize b.x.n:=Sd.snap_length f.x.ok.s
 have hsn : c.x.sd.snap = qBQ b.x.sd.snap ((gData b.x.n s : Nat),(b.layS s lba data).1):=by
  rw [hx]
  show ((b.layL s lba data).sd.wrote (b.layL s lba data).p.spend.1 _ _).snap = _
  rw [show (b.layL s lba data).p.spend.1 = true from hsp]
  show qBn b.x.s.lasts (b.x.s.waits ++ [_]) = _
  rw [qCk]
  rfl
 have hda : c.dataAt s = (b.layS s lba data).1:=by
  unfold Bx.dataAt
  rw [hsn,show c.x.n = b.x.n by rw [hx];rfl]
  have:=qOZ b.x.sd.snap ((gData b.x.n s : Nat),(b.layS s lba data).1) (by rw [hlen];exact hin)
  rw [show (((gData b.x.n s : Nat),(b.layS s lba data).1) : Wr).2.length = 32 by show (b.layS s lba data).1.length = 32;rw [qD4];exact hd] at this
  simpa using this
 unfold Bx.valD
 rw [hl,if_neg (show ¬ (b.layF s lba data dirty).kind = 2 by show ¬ (1 : Int) = 2;decide),hda]
 unfold Bx.openL
 have he : c.x.eps = b.x.eps:=by rw [hx];rfl
 rw [he,if_pos (show b.x.eps.contains (b.layF s lba data dirty).ep = true from qJY f.x.ok.ep)]
 have hll : c.x.l = b.x.l.sealL b.x.logK (b.layN s) (qCO lba) data:=by rw [hx];rfl
 have hk : qFO c.x.seed b.x.eps (b.layF s lba data dirty).ep = b.x.logK:=by rw [hx];rfl
 rw [hll,hk]
 exact Lk.open_seal hnb (Lk.few_mono f.x.few hm) b.x.logK (b.layN s) (qCO lba) data
def kW : Ac:=⟨1,⟨2,3,List.replicate 32 5⟩,0,0,[],[]⟩
def kR : Ac:=⟨1,⟨1,3,[]⟩,0,0,[],[]⟩
def kB (ideal : Bool) : Bx:=(((Bo.newB 4 1#64 ideal).lay 0 3 (List.replicate 32 5)).puts 0 ((Bo.newB 4 1#64 ideal).layF 0 3 (List.replicate 32 5) true))
theorem qGk (ideal : Bool) : ((Bo.new 4 1#64 ideal).act kW) = ((0,[]),⟨(kB ideal).x,some (kB ideal),[]⟩):=by
 have hw : (Bo.newB 4 1#64 ideal).doC ⟨2,3,List.replicate 32 5⟩ = ((0,[]),kB ideal):=by
  have h1 : (Bo.newB 4 1#64 ideal).write 3 (List.replicate 32 5) = (0,kB ideal):=by
   unfold Bx.write
   have hr : (Bo.newB 4 1#64 ideal).room = (0,Bo.newB 4 1#64 ideal):=by
    unfold Bx.room
    rw [if_pos (show (Bo.newB 4 1#64 ideal).c.free.isSome = true from rfl)]
   rw [hr,if_neg (fun e=>e rfl)]
   unfold Bx.lays
   rw [if_neg (show ¬ (Bo.newB 4 1#64 ideal).k = 100 by show ¬ (0 : Nat) = 100;decide),if_pos (show (Bo.newB 4 1#64 ideal).x.p.spend.1 = true from rfl)]
   rfl
  unfold Bx.doC
  rw [if_neg (show ¬ (Bo.newB 4 1#64 ideal).x.p.gone = true by show ¬ false = true;decide),if_neg (show ¬ (Bo.newB 4 1#64 ideal).c.bad = true by show ¬ false = true;decide),if_neg (by decide),if_neg (by decide),if_pos rfl]
  rw [h1]
 show (Bo.new 4 1#64 ideal).call ⟨2,3,List.replicate 32 5⟩ = _
 unfold Bo.call
 show ((Bx.doC _ _).1,(⟨(Bx.doC _ _).2.x,some (Bx.doC _ _).2,_⟩ : Bo)) = _
 rw [hw]
 rfl
theorem qLI (ideal : Bool) : ((⟨(kB ideal).x,some (kB ideal),[]⟩ : Bo).act kR).1 = (0,List.replicate 32 5):=by
 have g:=(Bo.new_good 4 1#64 ideal (by decide)).bx (Bo.newB 4 1#64 ideal) rfl
 have hput : kB ideal = ((Bo.newB 4 1#64 ideal).lay 0 3 (List.replicate 32 5)).put1 0 ((Bo.newB 4 1#64 ideal).layF 0 3 (List.replicate 32 5) true):=by
  unfold kB Bx.puts
  rw [show ((Bo.newB 4 1#64 ideal).lay 0 3 (List.replicate 32 5)).c.slot ((Bo.newB 4 1#64 ideal).layF 0 3 (List.replicate 32 5) true).lba = none from rfl]
 have hnb : (Bo.newB 4 1#64 ideal).x.l.numb:=by
  cases ideal
  · trivial
  · intro i x hx
    cases hx
 have hv : (kB ideal).valD 0 = some (List.replicate 32 5) :=
  qII g.f (by decide) hnb 0 (by show 0 < 4;decide) 3 (List.replicate 32 5) (by decide) rfl (kB ideal) (by rw [hput];rfl) true (by rw [hput];rfl)
 have hr : (kB ideal).read 3 = ((0,List.replicate 32 5),(kB ideal).touch 0):=by
  unfold Bx.read
  rw [show (kB ideal).c.slot 3 = some 0 by rw [hput];rfl]
  show (kB ideal).readV 0 ((kB ideal).valD 0) = _
  rw [hv]
  rfl
 have hw : ((kB ideal).doC ⟨1,3,[]⟩).1 = (0,List.replicate 32 5):=by
  unfold Bx.doC
  rw [if_neg (show ¬ (kB ideal).x.p.gone = true by rw [hput];show ¬ false = true;decide),if_neg (show ¬ (kB ideal).c.bad = true by rw [hput];show ¬ false = true;decide),if_neg (by decide),if_pos rfl]
  rw [hr]
 exact hw
def Pw.ez (p : Pw) : Prop:=p.gone = false ∧ p.fuse = false
theorem Pw.ez.spend {p : Pw} (h : p.ez) : p.spend.1 = true ∧ p.spend.2.ez:=by
 obtain ⟨h1,h2⟩:=h
 unfold Pw.spend
 rw [if_neg (by rw [h1];decide),if_neg (by rw [h2];simp)]
 exact ⟨rfl,h1,h2⟩
def Lk.le (l l' : Lk) : Prop:=∀ key n head out tag d,l.openP key n head out tag = some d → l'.openP key n head out tag = some d
theorem Lk.le.refl (l : Lk) : l.le l:=fun _ _ _ _ _ _ h=>h
theorem Lk.le.trans {l l' l'' : Lk} (h : l.le l') (k : l'.le l'') : l.le l'':=fun _ _ _ _ _ _ h1=>k _ _ _ _ _ _ (h _ _ _ _ _ _ h1)
theorem Lk.le_seal (l : Lk) (key : qAB) (n : Nn) (head data : List UInt8) : l.le (l.sealL key n head data):=by
 cases l with
 | real=>exact Lk.le.refl _
 | ideal iss sums =>
  intro k2 n2 h2 o2 t2 d h
  have h' : qDS iss k2 n2 h2 o2 t2 = some d:=h
  show qDS (iss ++ [qEy iss key n head data]) k2 n2 h2 o2 t2 = some d
  unfold qDS at h' ⊢
  rw [List.find?_append]
  cases hf : iss.find? (fun x=>x.opens k2 n2 h2 o2 t2) with
  | none=>rw [hf] at h';cases h'
  | some y=>rw [hf] at h';exact h'
theorem Lk.le_sum (l : Lk) (row : List UInt8) : l.le (l.sumL row):=by
 cases l with
 | real=>exact Lk.le.refl _
 | ideal iss sums=>exact fun _ _ _ _ _ _ h=>h
theorem qH4 (l : Lk) (rows : List (List UInt8)) : ∀ i,l.le (qAA l rows i).2
 | 0=>Lk.le.refl _
 | i + 1=>(qH4 l rows i).trans (Lk.le_sum _ _)
theorem qH5 (l : Lk) (rows : List (List UInt8)) : ∀ i,l.le (qAy l rows i).2
 | 0=>qH4 l rows _
 | i + 1=>(qH5 l rows i).trans (Lk.le_sum _ _)
theorem qFj {l : Lk} (h : l.numb) (rows : List (List UInt8)) : ∀ i,(qAA l rows i).2.numb
 | 0=>h
 | i + 1=>Lk.numb_sum (qFj h rows i) _
theorem qFk {l : Lk} (h : l.numb) (rows : List (List UInt8)) : ∀ i,(qAy l rows i).2.numb
 | 0=>qFj h rows _
 | i + 1=>Lk.numb_sum (qFk h rows i) _
def Wd.dat (x : Wd) (s : Nat) : List UInt8:=(x.sd.snap.drop (gData x.n s)).take 32
theorem qP0 {b : List UInt8} {x : Wr} (h : inB b.length x) {o : Nat} (hf : o + 32 ≤ x.1.toNat ∨ x.1.toNat + x.2.length ≤ o) : ((qBQ b x).drop o).take 32 = (b.drop o).take 32:=by
 obtain ⟨h0,h1,h2⟩:=h
 apply List.ext_getElem?
 intro i
 simp only [List.getElem?_take,List.getElem?_drop]
 split
 · rename_i hi
   unfold qBQ
   rcases hf with hf | hf
   · rw [List.append_assoc,List.getElem?_append_left (by rw [List.length_take];omega),List.getElem?_take,if_pos (by omega)]
   · rw [List.getElem?_append_right (by simp;omega),List.getElem?_drop]
     congr 1
     simp
     omega
 · rfl
structure Wd.calm (x x' : Wd) : Prop where
 n : x'.n = x.n
 seed : x'.seed = x.seed
 eps : x'.eps = x.eps
 d : x'.d = x.d
 le : x.l.le x'.l
 nb : x.l.numb → x'.l.numb
 ez : x.p.ez → x'.p.ez
 dat : ∀ m,x.fine m → ∀ s,s < x.n → x'.dat s = x.dat s
theorem Wd.calm.refl (x : Wd) : x.calm x:=⟨rfl,rfl,rfl,rfl,Lk.le.refl _,id,id,fun _ _ _ _=>rfl⟩
theorem Wd.calm.trans {x y z : Wd} (h : x.calm y) (k : y.calm z) (hy : ∀ m,x.fine m → ∃ m',y.fine m') : x.calm z :=
 ⟨k.n.trans h.n,k.seed.trans h.seed,k.eps.trans h.eps,k.d.trans h.d,h.le.trans k.le,fun q=>k.nb (h.nb q),fun q=>k.ez (h.ez q),fun m f s hs=>by
  obtain ⟨m',f'⟩:=hy m f
  rw [k.dat m' f' s (by rw [h.n];exact hs),h.dat m f s hs]⟩
theorem qNs (x : Wd) (key : qAB) (n : Nn) (head data : List UInt8) : x.calm (x.setL (x.l.sealL key n head data)) :=
 ⟨rfl,rfl,rfl,rfl,Lk.le_seal _ _ _ _ _,fun h=>Lk.numb_seal h _ _ _ _,id,fun _ _ _ _=>rfl⟩
theorem qLJ (x : Wd) (rows : List (List UInt8)) : x.calm (x.setL (qAT x.l rows).2) :=
 ⟨rfl,rfl,rfl,rfl,qH5 _ _ _,fun h=>qFk h _ _,id,fun _ _ _ _=>rfl⟩
theorem qIJ {x : Wd} {y : Wr} {m : Nat} (f : x.fine m) (hy : inB (gSize x.n) y) {s : Nat} (hf : gData x.n s + 32 ≤ y.1.toNat ∨ y.1.toNat + y.2.length ≤ gData x.n s) : (x.sWrite y).dat s = x.dat s:=by
 have hlen : x.sd.snap.length = gSize x.n:=Sd.snap_length f.ok.s
 unfold Wd.dat
 show (((x.sd.wrote x.p.spend.1 x.p.spend.2 y).snap).drop _).take 32 = _
 cases hsp : x.p.spend.1 with
 | false=>rfl
 | true =>
  show ((qBn x.s.lasts (x.s.waits ++ [y])).drop _).take 32 = _
  rw [qCk]
  exact qP0 (by show inB x.sd.snap.length y;rw [hlen];exact hy) hf
theorem qF8 {x : Wd} {y : Wr} (hy : inB (gSize x.n) y) (hf : x.n * 32 ≤ y.1.toNat) : x.calm (x.sWrite y) :=
 ⟨rfl,rfl,rfl,rfl,Lk.le.refl _,id,fun h=>by
  have:=h.spend.2
  show (x.sd.wrote x.p.spend.1 x.p.spend.2 y).p.ez
  unfold Sd.wrote
  split <;> exact this,fun m f s hs=>qIJ f hy (.inl (by unfold gData;omega))⟩
theorem qFl (x : Wd) : x.calm x.sBarrier :=
 ⟨rfl,rfl,rfl,rfl,Lk.le.refl _,id,fun h=>by
  have:=h.spend.2
  show (x.sd.barred x.p.spend.1 x.p.spend.2).p.ez
  unfold Sd.barred
  split <;> exact this,fun m f s hs=>by
  unfold Wd.dat
  show (((x.sd.barred x.p.spend.1 x.p.spend.2).snap).drop _).take 32 = _
  unfold Sd.barred
  split <;> rfl⟩
theorem qNt (x : Wd) : x.calm x.bump :=
 ⟨rfl,rfl,rfl,rfl,Lk.le.refl _,id,fun h=>h.spend.2,fun _ _ _ _=>rfl⟩
section
variable {x : Wd} {ls : List Lf} {boot : BitVec 64} {k : Nat}
theorem qNu (a : Nat) (ha : a < 2) (hl : ls.length = x.n) (h0 : 0 < x.n) : x.calm (x.areaW a ls):=by
 have c1 : x.calm (x.areaW1 a ls):=(qLJ x (qAd ls)).trans (qF8 (x:=x.setL (x.areaB ls).2) (qDr ha hl h0) (by show x.n * 32 ≤ (((gLeaf x.n a 0 : Nat) : Int)).toNat;unfold gLeaf;rw [Int.toNat_natCast];omega)) (fun m f=>⟨_,f.build _⟩)
 unfold Wd.areaW
 split
 · refine c1.trans (qF8 (x:=x.areaW1 a ls) (qDs ha hl h0) ?_) (fun m f=>⟨_,f.areaW1 ha hl h0⟩)
   show x.n * 32 ≤ (((gNode x.n a 0 : Nat) : Int)).toNat
   unfold gNode;rw [Int.toNat_natCast];omega
 · exact c1
theorem qP1 (hl : ls.length = x.n) (h0 : 0 < x.n) : x.calm (x.commit1 ls):=qNu _ (qBO _) hl h0
theorem qJZ (hl : ls.length = x.n) (h0 : 0 < x.n) : x.calm (x.commit2 ls):=(qP1 hl h0).trans (qFl _) (fun _ f=>⟨_,f.commit1 hl⟩)
theorem qP2 (r : Rt) (h0 : 0 < x.n) : x.calm (x.logX boot k r):=by
 unfold Wd.logX
 split
 · refine (qNs x x.logK (x.logN boot k) [] (qDm r)).trans (qF8 (x:=x.logL boot k r) (qG2 x boot k r h0) ?_) (fun m f=>⟨_,f.seal _ _ _ _ (by rw [qBd];decide)⟩)
   show x.n * 32 ≤ (((gRec x.n (qDt r.count) : Nat) : Int)).toNat
   unfold gRec;rw [Int.toNat_natCast];omega
 · exact Wd.calm.refl x
theorem qNv (hl : ls.length = x.n) (h0 : 0 < x.n) : x.calm (x.commit3 boot k ls):=(qJZ hl h0).trans (qP2 _ (by rw [qAE.1];exact h0)) (fun m f=>⟨_,f.commit2 hl⟩)
theorem qNw (hl : ls.length = x.n) (h0 : 0 < x.n) : x.calm (x.commit4 boot k ls):=(qNv hl h0).trans (qFl _) (fun _ f=>⟨_,f.commit3 hl⟩)
theorem qK0 (hl : ls.length = x.n) (h0 : 0 < x.n) : x.calm (x.commit5 boot k ls):=(qNw hl h0).trans (qNt _) (fun _ f=>⟨_,f.commit4 hl⟩)
theorem qGl (hl : ls.length = x.n) (h0 : 0 < x.n) : x.calm (x.commit boot k ls).2.1:=by
 unfold Wd.commit
 split
 · exact qP1 hl h0
 split
 · exact qJZ hl h0
 split
 · exact qNv hl h0
 split
 · exact qNw hl h0
 split
 · exact qK0 hl h0
 · exact qK0 hl h0
theorem qNx (hz : x.p.ez) (hl : ls.length = x.n) (h0 : 0 < x.n) : (x.commit boot k ls).1 = 0 ∨ (x.commit boot k ls).1 = 6:=by
 have hs:=hz.spend
 have c1 : (x.areaW1 (x.commitA) ls).p.ez:=by
  show ((x.setL (x.areaB ls).2).sd.wrote x.p.spend.1 x.p.spend.2 _).p.ez
  unfold Sd.wrote
  split <;> exact hs.2
 have ok : x.areaOk x.commitA ls = true:=by
  unfold Wd.areaOk
  rw [hs.1,c1.spend.1];rfl
 unfold Wd.commit
 rw [if_neg (by rw [ok];decide),if_neg (by rw [((qP1 hl h0).ez hz).spend.1];decide)]
 split
 · rename_i h1
   right
   unfold Wd.logE at h1 ⊢
   split
   · rename_i h2
     rw [if_pos h2,if_pos ((qJZ hl h0).ez hz).spend.1] at h1
     exact absurd rfl h1
   · rfl
 · rw [if_neg (by rw [((qNv hl h0).ez hz).spend.1];decide),if_neg (by rw [((qNw hl h0).ez hz).spend.1];decide)]
   exact .inl rfl
end
structure Hon (b : Bx) (B : Nat → List UInt8) : Prop where
 ez : b.x.p.ez
 no : b.x.d.no = false
 bad : b.c.bad = false
 nb : b.x.l.numb
 val : ∀ s,(b.leaf s).kind ≠ 0 → b.valD s = some (B (b.leaf s).lba.toNat)
 uniq : ∀ s t,(b.leaf s).kind ≠ 0 → (b.leaf t).kind ≠ 0 → (b.leaf s).lba = (b.leaf t).lba → s = t
 dsk : ∀ i : Nat,i < 32 → (∀ s,(b.leaf s).kind ≠ 0 → (b.leaf s).lba = (i : Int) → (b.leaf s).dirty = false) → b.x.dk.read i = B i
theorem qKF {b b' : Bx} {s : Nat} (_ : b'.x.n = b.x.n) (hse : b'.x.seed = b.x.seed) (he : b'.x.eps = b.x.eps) (hle : b.x.l.le b'.x.l) (hd : b'.x.dat s = b.x.dat s) (hl : b'.leaf s = b.leaf s) {v : List UInt8} (h : b.valD s = some v) : b'.valD s = some v:=by
 unfold Bx.valD at h ⊢
 rw [hl]
 split
 · rename_i h2
   rw [if_pos h2] at h
   exact h
 · rename_i h2
   rw [if_neg h2] at h
   unfold Bx.openL at h ⊢
   rw [he]
   split
   · rename_i h3
     rw [if_pos h3] at h
     have h4 : b'.dataAt s = b.dataAt s:=hd
     rw [h4,hse]
     exact hle _ _ _ _ _ _ h
   · rename_i h3
     rw [if_neg h3] at h
     cases h
section
variable {b b' : Bx} {B : Nat → List UInt8} {m : Nat}
theorem qNy {x x' : Wd} (h : x'.d = x.d) (i : Nat) : x'.dk.read i = x.dk.read i:=by
 unfold Wd.dk Dk.read
 rw [h]
theorem Hon.go (H : Hon b B) (f : b.fine m) (c : b.x.calm b'.x) (hnow : b'.c.now = b.c.now) (hbad : b'.c.bad = b.c.bad) : Hon b' B:=by
 have hl:=qDI hnow
 refine ⟨c.ez H.ez,by rw [c.d];exact H.no,by rw [hbad];exact H.bad,c.nb H.nb,fun s hk=>?_,fun s t h1 h2 h3=>?_,fun i hi h=>?_⟩
 · rw [hl] at hk ⊢
   have hs:=qCH hk
   exact qKF c.n c.seed c.eps c.le (c.dat m f.x s (by rw [← f.nl];exact hs)) (hl s) (H.val s hk)
 · rw [hl s] at h1 h3
   rw [hl t] at h2 h3
   exact H.uniq s t h1 h2 h3
 · rw [qNy c.d]
   exact H.dsk i hi (fun s h1 h2=>by
    have:=h s (by rw [hl];exact h1) (by rw [hl];exact h2)
    rw [hl] at this
    exact this)
theorem Hon.disk (H : Hon b B) {x' : Wd} (hn : x'.n = b.x.n) (hse : x'.seed = b.x.seed) (he : x'.eps = b.x.eps) (hl : x'.l = b.x.l) (hd : ∀ s,x'.dat s = b.x.dat s) (hz : x'.p.ez) (hno : x'.d.no = false) (hr : ∀ i : Nat,i < 32 → x'.dk.read i = b.x.dk.read i ∨ x'.dk.read i = B i) : Hon (b.setX x') B :=
 ⟨hz,hno,H.bad,by show x'.l.numb;rw [hl];exact H.nb,fun s hk=>qKF (b:=b) (b':=b.setX x') hn hse he (by show b.x.l.le x'.l;rw [hl];exact Lk.le.refl _) (hd s) rfl (H.val s hk),H.uniq,fun i hi h=>by
  rcases hr i hi with h1 | h1
  · exact h1.trans (H.dsk i hi h)
  · exact h1⟩
theorem Hon.commit (H : Hon b B) (g : b.good m) : Hon b.commit.2 B ∧ (b.commit.1 = 0 ∨ b.commit.1 = 6):=by
 have h0 : 0 < b.x.n:=by have:=qAm g.f.x.ok.sl;omega
 exact ⟨H.go g.f (qGl g.f.nl h0) (qBq b).1 (qBq b).2.2.1,qNx H.ez g.f.nl h0⟩
theorem qDJ (s t : Nat) : (b.drops s).leaf t = if t = s ∧ s < b.c.now.length then Lf.zero else b.leaf t:=qEF b s t Lf.zero
theorem qGm (s t : Nat) (l : Lf) : (b.put1 s l).leaf t = if t = s ∧ s < b.c.now.length then l else b.leaf t:=qEF b s t l
theorem Hon.drops (H : Hon b B) (s : Nat) (hr : (b.leaf s).kind ≠ 0 → b.x.dk.read (b.leaf s).lba.toNat = B (b.leaf s).lba.toNat) : Hon (b.drops s) B:=by
 have hz : ∀ t,((b.drops s).leaf t).kind ≠ 0 → (b.drops s).leaf t = b.leaf t:=fun t ht=>by
  rw [qDJ] at ht ⊢
  split
  · rename_i h;rw [if_pos h] at ht;exact absurd rfl ht
  · rfl
 refine ⟨H.ez,H.no,H.bad,H.nb,fun t ht=>?_,fun t u h1 h2 h3=>?_,fun i hi h=>?_⟩
 · have e:=hz t ht
   rw [e] at ht ⊢
   exact qKF (b:=b) (b':=b.drops s) rfl rfl rfl (Lk.le.refl _) rfl e (H.val t ht)
 · have e1:=hz t h1
   have e2:=hz u h2
   rw [e1] at h1 h3
   rw [e2] at h2 h3
   exact H.uniq t u h1 h2 h3
 · by_cases hs : (b.leaf s).kind ≠ 0 ∧ (b.leaf s).lba = (i : Int)
   · have:=hr hs.1
     rw [hs.2] at this
     exact this
   · refine H.dsk i hi (fun t h1 h2=>?_)
     have hts : ¬ (t = s ∧ s < b.c.now.length):=fun e=>hs (by rw [← e.1];exact ⟨h1,h2⟩)
     have e : (b.drops s).leaf t = b.leaf t:=by rw [qDJ,if_neg hts]
     have:=h t (by rw [e];exact h1) (by rw [e];exact h2)
     rw [e] at this
     exact this
theorem qLK (c : List UInt8) (l : List Wr) (x : Wr) (o : Int) : qCm c (l ++ [x]) o (l ++ [x]).length = if x.1 = o then x.2 else qCm c l o l.length:=by
 have h1 : ∀ k,k ≤ l.length → qCm c (l ++ [x]) o k = qCm c l o k:=by
  intro k
  induction k with
  | zero=>intro _;rfl
  | succ k ih =>
   intro hk
   unfold qCm
   rw [List.getElem?_append_left (by omega),ih (by omega)]
 rw [List.length_append]
 show qCm c (l ++ [x]) o (l.length + 1) = _
 conv=>lhs;unfold qCm
 rw [List.getElem?_append_right qle,h1 _ qle]
 simp
theorem qH6 (x : Wd) (y : Wr) (hs : x.p.spend.1 = true) (i : Nat) : (x.dWrite y).dk.read i = if y.1 = (i : Int) then y.2 else x.dk.read i:=by
 have e : (x.dWrite y).dk = x.dk.wrote true x.p.spend.2 y:=by
  unfold Wd.dWrite
  rw [hs]
  rfl
 rw [e]
 exact qLK _ _ _ _
theorem qIK (c : List (List UInt8)) (l : List Wr) (o : Nat) (ho : o < c.length) (hl : ∀ x ∈ l,inD x) : ∀ k,k ≤ l.length → (qFs c l (fun _=>true) k)[o]?.getD [] = qCm (c[o]?.getD []) l (o : Int) k
 | 0,_=>rfl
 | k + 1,hk=>by
  have ih:=qIK c l o ho hl k (by omega)
  unfold qFs qCm
  rw [if_pos rfl]
  have hx : l[k]? = some l[k]:=List.getElem?_eq_getElem (by omega)
  have hin:=hl l[k] (List.getElem_mem (by omega))
  rw [hx]
  simp only [Option.getD_some]
  rw [List.getElem?_set]
  by_cases h : l[k].1.toNat = o
  · have h1 : l[k].1 = (o : Int):=by have:=hin.1;omega
    have h2 : o < (qFs c l (fun _=>true) k).length:=by rw [qD0];exact ho
    rw [if_pos h,if_pos h1,h,if_pos h2]
    rfl
  · rw [if_neg h,if_neg (by intro e;rw [e] at h;simp at h)]
    exact ih
theorem qDz {x : Wd} {m : Nat} (f : x.fine m) (i : Nat) (hi : i < 32) : x.dBarrier.dk.read i = x.dk.read i:=by
 have e : x.dBarrier.dk = x.dk.barred x.p.spend.1 x.p.spend.2:=by unfold Wd.dBarrier;rfl
 rw [e]
 unfold Dk.barred
 split
 · show qCm ((qFs x.d.lasts x.d.waits (fun _=>true) x.d.waits.length)[i]?.getD []) [] i 0 = _
   have:=qIK x.d.lasts x.d.waits i (by have:=f.ok.d.len;show i < x.d.lasts.length;rw [show x.d.lasts.length = 32 from this];exact hi) f.ok.d.fit x.d.waits.length qle
   exact this
 · rfl
theorem Hon.spill (H : Hon b B) (g : b.good m) (s : Nat) (hk : (b.leaf s).kind ≠ 0) : b.spillE s = 0 ∧ b.spillX s = b.setX (b.x.dWrite ((b.leaf s).lba,B (b.leaf s).lba.toNat)) ∧ Hon (b.spillX s) B ∧ ∀ i : Nat,i < 32 → (b.spillX s).x.dk.read i = b.x.dk.read i ∨ (b.spillX s).x.dk.read i = B i:=by
 have hv:=H.val s hk
 have hs:=H.ez.spend
 have hlb:=qCC g.f (qCH hk) hk
 have e1 : b.spillE s = 0:=by
  unfold Bx.spillE Bx.spE
  rw [hv]
  simp only
  rw [if_pos (by unfold Wd.dOk;rw [H.no,hs.1];rfl)]
 have e2 : b.spillX s = b.setX (b.x.dWrite ((b.leaf s).lba,B (b.leaf s).lba.toNat)):=by
  unfold Bx.spillX Bx.spX
  rw [hv]
  simp only
  unfold Wd.dPut
  rw [if_neg (by rw [H.no];decide)]
  rfl
 have hr : ∀ i : Nat,i < 32 → (b.x.dWrite ((b.leaf s).lba,B (b.leaf s).lba.toNat)).dk.read i = b.x.dk.read i ∨ (b.x.dWrite ((b.leaf s).lba,B (b.leaf s).lba.toNat)).dk.read i = B i:=fun i hi=>by
  rw [qH6 _ _ hs.1]
  split
  · rename_i h
    right
    show B (b.leaf s).lba.toNat = B i
    rw [show (b.leaf s).lba = (i : Int) from h]
    rfl
  · exact .inl rfl
 have hz : (b.x.dWrite ((b.leaf s).lba,B (b.leaf s).lba.toNat)).p.ez:=by
  have : (b.x.dWrite ((b.leaf s).lba,B (b.leaf s).lba.toNat)).p = b.x.p.spend.2:=by unfold Wd.dWrite Wd.setD Dk.wrote;split <;> rfl
  rw [this];exact hs.2
 refine ⟨e1,e2,?_,?_⟩
 · rw [e2]
   refine H.disk rfl rfl rfl rfl (fun _=>rfl) hz ?_ hr
   show (b.x.dWrite _).d.no = false
   unfold Wd.dWrite Wd.setD Dk.wrote
   split <;> exact H.no
 · rw [e2];exact hr
theorem qH7 (H : Hon b B) (g : b.good m) (s : Nat) (hk : (b.leaf s).kind ≠ 0) : (b.spillX s).x.dk.read (b.leaf s).lba.toNat = B (b.leaf s).lba.toNat:=by
 obtain ⟨_,e2,_,_⟩:=H.spill g s hk
 have hlb:=qCC g.f (qCH hk) hk
 rw [e2]
 show (b.x.dWrite _).dk.read _ = _
 rw [qH6 _ _ H.ez.spend.1,if_pos (by show (b.leaf s).lba = _;omega)]
theorem Hon.barrier (H : Hon b B) (g : b.good m) : Hon (b.setX b.x.dBarrier) B ∧ b.x.p.spend.1 = true:=by
 have hs:=H.ez.spend
 refine ⟨H.disk rfl rfl rfl rfl (fun _=>rfl) ?_ ?_ (fun i hi=>.inl (qDz g.f.x i hi)),hs.1⟩
 · have : b.x.dBarrier.p = b.x.p.spend.2:=by unfold Wd.dBarrier Wd.setD Dk.barred;split <;> rfl
   rw [this];exact hs.2
 · show b.x.dBarrier.d.no = false
   unfold Wd.dBarrier Wd.setD Dk.barred
   split <;> exact H.no
theorem Hon.evict (H : Hon b B) (g : b.good m) (hq : 0 < b.c.age.q.length) : Hon b.evict.2 B ∧ (b.evict.1 = 0 ∨ b.evict.1 = 6):=by
 obtain ⟨h1,h2⟩:=g.old hq
 unfold Bx.evict
 split
 · obtain ⟨e1,e2,H2,_⟩:=H.spill g b.oldest h2
   have gs:=g.spill h2
   obtain ⟨H3,hsp⟩:=H2.barrier gs
   rw [if_neg (by rw [e1];decide),if_neg (by rw [hsp];decide)]
   have H4 : Hon (((b.spillX b.oldest).setX (b.spillX b.oldest).x.dBarrier).drops b.oldest) B:=by
    refine H3.drops _ (fun hk=>?_)
    show (b.spillX b.oldest).x.dBarrier.dk.read ((b.spillX b.oldest).leaf b.oldest).lba.toNat = B _
    have hle : (b.spillX b.oldest).leaf b.oldest = b.leaf b.oldest:=qDI (qB1 b b.oldest).1 _
    have hlb:=qCC g.f h1 h2
    rw [show ((b.spillX b.oldest).setX (b.spillX b.oldest).x.dBarrier).leaf b.oldest = b.leaf b.oldest from hle,hle,qDz gs.f.x _ (by omega)]
    exact qH7 H g b.oldest h2
   exact H4.commit ((gs.dBarrier).drops _ (by show _ < (b.spillX b.oldest).c.now.length;rw [(qB1 b _).1];exact h1))
 · rename_i hd
   have H4 : Hon (b.drops b.oldest) B:=by
    refine H.drops _ (fun hk=>?_)
    have hlb:=qCC g.f h1 h2
    have:=H.dsk (b.leaf b.oldest).lba.toNat (by omega) (fun s hs hl=>by
     have : s = b.oldest:=H.uniq s b.oldest hs h2 (by omega)
     rw [this];simpa using hd)
    exact this
   exact H4.commit (g.drops _ h1)
theorem Hon.room (H : Hon b B) (g : b.good m) : Hon b.room.2 B ∧ (b.room.1 = 0 ∨ b.room.1 = 6):=by
 unfold Bx.room
 split
 · exact ⟨H,.inl rfl⟩
 · obtain ⟨H1,h1⟩:=H.commit g
   split
   · exact ⟨H1,h1⟩
   · rename_i h2 h3
     split
     · exact ⟨H1,.inl rfl⟩
     · rename_i h4
       have h5 : b.commit.1 = 0:=by omega
       exact H1.evict g.commit (g.commit.full (by simpa using h4) (by rw [qCc h5,(qBq b).1]))
end
def upd (B : Nat → List UInt8) (i : Nat) (d : List UInt8) : Nat → List UInt8:=fun j=>if j = i then d else B j
theorem qHR (B : Nat → List UInt8) (i : Nat) (d : List UInt8) : upd B i d i = d:=if_pos rfl
theorem qPo {B : Nat → List UInt8} {i j : Nat} {d : List UInt8} (h : j ≠ i) : upd B i d j = B j:=if_neg h
section
variable {b b' : Bx} {B : Nat → List UInt8} {m : Nat}
theorem qIL {lba : Int} (h : b.c.slot lba = none) (t : Nat) (hk : (b.leaf t).kind ≠ 0) : (b.leaf t).lba ≠ lba:=fun e=>by
 unfold Ca.slot at h
 have h1:=List.find?_range_eq_none.1 h t (qCH hk)
 have h2 : (b.leaf t).kind ≠ 0 ∧ (b.leaf t).lba = lba:=⟨hk,e⟩
 unfold Bx.leaf at h2
 simp [h2.1,h2.2] at h1
theorem qNz {s : Nat} (h : b.c.free = some s) : (b.leaf s).kind = 0:=by
 unfold Ca.free at h
 have h1:=(List.find?_range_eq_some.1 h).1
 unfold Ca.isFree at h1
 simp only [Bool.and_eq_true,beq_iff_eq] at h1
 exact h1.1
theorem qNA (c : Bx) (hc : c.c.now = b.c.now) (s : Nat) (hs : s < b.c.now.length) (hfr : (b.leaf s).kind = 0) (l : Lf) (_ : l.kind ≠ 0) (hu : ∀ s t,(b.leaf s).kind ≠ 0 → (b.leaf t).kind ≠ 0 → (b.leaf s).lba = (b.leaf t).lba → s = t) (t : Nat) :
 (c.puts s l).leaf t = if t = s then l else if (b.leaf t).kind ≠ 0 ∧ (b.leaf t).lba = l.lba then Lf.zero else b.leaf t:=by
 have hlc : ∀ t,c.leaf t = b.leaf t:=qDI hc
 have hsl : c.c.slot l.lba = b.c.slot l.lba:=by unfold Ca.slot;rw [hc]
 have hsc : s < c.c.now.length:=by rw [hc];exact hs
 unfold Bx.puts
 rw [hsl]
 cases ho : b.c.slot l.lba with
 | none =>
  show (c.put1 s l).leaf t = _
  rw [qGm,hlc]
  by_cases ht : t = s
  · rw [if_pos ⟨ht,hsc⟩,if_pos ht]
  · rw [if_neg (fun e=>ht e.1),if_neg ht,if_neg (fun e=>qIL ho t e.1 e.2)]
 | some o =>
  show ((c.put1 s l).drops o).leaf t = _
  obtain ⟨ok,ol⟩:=qEG ho
  have hos : o ≠ s:=fun e=>by rw [e] at ok;exact ok hfr
  have hol : o < c.c.now.length:=by rw [hc];exact qHL ho
  rw [qDJ,qGm,hlc,qGa]
  by_cases hto : t = o
  · rw [if_pos ⟨hto,hol⟩,if_neg (by rw [hto];exact hos),if_pos (by rw [hto];exact ⟨ok,ol⟩)]
  · rw [if_neg (fun e=>hto e.1)]
    by_cases ht : t = s
    · rw [if_pos ⟨ht,hsc⟩,if_pos ht]
    · rw [if_neg (fun e=>ht e.1),if_neg ht,if_neg (fun e=>hto (hu t o e.1 ok (by rw [e.2,ol])))]
theorem Hon.puts (H : Hon b B) (g : b.good m) (c : Bx) (hc : c.c.now = b.c.now) (hbad : c.c.bad = b.c.bad) (s : Nat) (hs : s < b.c.now.length) (hfr : (b.leaf s).kind = 0) (l : Lf) (hk : l.kind ≠ 0) (hlb : 0 ≤ l.lba ∧ l.lba < 32) (d : List UInt8)
 (hn : c.x.n = b.x.n) (hse : c.x.seed = b.x.seed) (he : c.x.eps = b.x.eps) (hle : b.x.l.le c.x.l) (hnb : c.x.l.numb) (hz : c.x.p.ez) (hdd : c.x.d = b.x.d)
 (hdat : ∀ t,t < b.c.now.length → t ≠ s → c.x.dat t = b.x.dat t) (hval : ∀ c' : Bx,c'.x = c.x → c'.leaf s = l → c'.valD s = some d)
 (hdk : l.dirty = true ∨ b.x.dk.read l.lba.toNat = d) : Hon (c.puts s l) (upd B l.lba.toNat d):=by
 have hL:=qNA (b:=b) c hc s hs hfr l hk H.uniq
 have hx : (c.puts s l).x = c.x:=qNr c s l
 have hb : (c.puts s l).c.bad = false:=by
  rw [← H.bad,← hbad]
  unfold Bx.puts
  split <;> rfl
 have old : ∀ t,t ≠ s → ((c.puts s l).leaf t).kind ≠ 0 → (c.puts s l).leaf t = b.leaf t ∧ (b.leaf t).kind ≠ 0 ∧ (b.leaf t).lba ≠ l.lba:=fun t ht h=>by
  rw [hL,if_neg ht] at h ⊢
  split
  · rename_i h2;rw [if_pos h2] at h;exact absurd rfl h
  · rename_i h2
    rw [if_neg h2] at h
    exact ⟨rfl,h,fun e=>h2 ⟨h,e⟩⟩
 have new : (c.puts s l).leaf s = l:=by rw [hL,if_pos rfl]
 refine ⟨by rw [hx];exact hz,by rw [hx,hdd];exact H.no,hb,by rw [hx];exact hnb,fun t ht=>?_,fun t u h1 h2 h3=>?_,fun i hi h=>?_⟩
 · by_cases hts : t = s
   · subst hts
     rw [new,qHR]
     exact hval _ hx new
   · obtain ⟨h1,h2,h3⟩:=old t hts ht
     have hlt:=qCH h2
     have hv:=H.val t h2
     have h0:=qCC g.f hlt h2
     rw [h1,qPo (by omega)]
     exact qKF (b:=b) (b':=c.puts s l) (by rw [hx];exact hn) (by rw [hx];exact hse) (by rw [hx];exact he) (by rw [hx];exact hle) (by rw [hx];exact hdat t hlt hts) h1 hv
 · by_cases hts : t = s
   · by_cases hus : u = s
     · rw [hts,hus]
     · obtain ⟨k1,k2,k3⟩:=old u hus h2
       rw [hts,new,k1] at h3
       exact absurd h3.symm k3
   · obtain ⟨k1,k2,k3⟩:=old t hts h1
     by_cases hus : u = s
     · rw [hus,new,k1] at h3
       exact absurd h3 k3
     · obtain ⟨j1,j2,j3⟩:=old u hus h2
       rw [k1,j1] at h3
       exact H.uniq t u k2 j2 h3
 · rw [hx,qNy hdd]
   by_cases hil : (i : Int) = l.lba
   · have hi2 : i = l.lba.toNat:=by omega
     rw [hi2,qHR]
     rcases hdk with h1 | h1
     · have:=h s (by rw [new];exact hk) (by rw [new];exact hil.symm)
       rw [new,h1] at this
       cases this
     · exact h1
   · rw [qPo (by omega)]
     refine H.dsk i hi (fun t h1 h2=>?_)
     have hts : t ≠ s:=fun e=>by rw [e] at h1;exact h1 hfr
     have e : (c.puts s l).leaf t = b.leaf t:=by rw [hL,if_neg hts,if_neg (fun e=>hil (by rw [← h2];exact e.2))]
     have:=h t (by rw [e];exact h1) (by rw [e];exact h2)
     rw [e] at this
     exact this
theorem qP3 {x : Wd} (h : x.p.ez) (y : Wr) : (x.sWrite y).p.ez:=by
 have:=h.spend.2
 show (x.sd.wrote x.p.spend.1 x.p.spend.2 y).p.ez
 unfold Sd.wrote
 split <;> exact this
theorem Hon.lays (H : Hon b B) (g : b.good m) (hm : m ≤ 100000) (hf : b.c.free.isSome = true) {lba : Int} {data : List UInt8} {dirty : Bool} (hd : data.length = 32) (hl : isD lba = true) (hdk : dirty = true ∨ b.x.dk.read lba.toNat = data) :
 (b.lays lba data dirty).1 = 6 ∨ ((b.lays lba data dirty).1 = 0 ∧ Hon (b.lays lba data dirty).2 (upd B lba.toNat data)):=by
 obtain ⟨s,hs⟩:=Option.isSome_iff_exists.1 hf
 have hlt:=qDx hs
 have hlb : 0 ≤ lba ∧ lba < 32:=by
  unfold isD at hl
  simp at hl
  exact hl
 unfold Bx.lays
 rw [hs]
 split
 · exact .inl rfl
 · rw [if_pos H.ez.spend.1]
   refine .inr ⟨rfl,?_⟩
   have hsn : s < b.x.n:=by have:=g.f.nl;omega
   have hin:=qG9 b s lba data hsn hd
   have fL : (b.layL s lba data).fine (m + 1):=g.f.x.seal _ _ _ _ (by omega)
   refine H.puts g (b.lay s lba data) rfl rfl s hlt (qNz hs) (b.layF s lba data dirty) (by show (1 : Int) ≠ 0;decide) hlb data rfl rfl rfl (Lk.le_seal _ _ _ _ _) (Lk.numb_seal H.nb _ _ _ _) (qP3 (x:=b.layL s lba data) H.ez _) rfl (fun t ht hts=>?_) (fun c' hx hll=>qII g.f (by omega) H.nb s hlt lba data hd H.ez.spend.1 c' hx dirty hll) hdk
   show (b.layX s lba data).dat t = b.x.dat t
   unfold Bx.layX
   rw [qIJ fL hin (s:=t) (by
    show gData b.x.n t + 32 ≤ (((gData b.x.n s : Nat) : Int)).toNat ∨ (((gData b.x.n s : Nat) : Int)).toNat + (b.layS s lba data).1.length ≤ gData b.x.n t
    rw [qD4,hd,Int.toNat_natCast]
    unfold gData
    omega)]
   rfl
theorem Hon.write (H : Hon b B) (g : b.good m) (hm : m ≤ 99000) {lba : Int} {data : List UInt8} (hd : data.length = 32) (hl : isD lba = true) :
 (b.write lba data).1 = 6 ∨ ((b.write lba data).1 = 0 ∧ Hon (b.write lba data).2 (upd B lba.toNat data)):=by
 obtain ⟨H1,h1⟩:=H.room g
 unfold Bx.write
 split
 · rename_i h2
   rcases h1 with h1 | h1
   · exact absurd h1 h2
   · exact .inl h1
 · rename_i h2
   exact H1.lays g.room (by omega) (qDy g (by omega)) hd hl (.inl rfl)
end
section
variable {b b' : Bx} {B : Nat → List UInt8} {m : Nat}
def qQk (b : Bx) (B : Nat → List UInt8) (s : Nat) : Prop:=∀ t,t < s → (b.leaf t).kind ≠ 0 → (b.leaf t).dirty = true → b.x.dk.read (b.leaf t).lba.toNat = B (b.leaf t).lba.toNat
theorem Hon.empF : ∀ (k s : Nat) (b : Bx) (d : Bool) (m : Nat),Hon b B → b.good m → k + s = b.c.now.length → qQk b B s →
 (Bx.empF k s b d).1 = 0 ∧ Hon (Bx.empF k s b d).2.1 B ∧ (Bx.empF k s b d).2.1.c.now = b.c.now ∧ qQk (Bx.empF k s b d).2.1 B b.c.now.length
 | 0,s,b,d,m,H,g,hk,hs=>⟨rfl,H,rfl,by rw [show b.c.now.length = s by omega];exact hs⟩
 | k + 1,s,b,d,m,H,g,hk,hs=>by
  unfold Bx.empF
  split
  · rename_i hd
    have hk1:=qCR g.f hd
    obtain ⟨e1,e2,H2,hr⟩:=H.spill g s hk1
    rw [if_neg (by rw [e1];decide)]
    have hnow:=(qB1 b s).1
    have hl:=qDI hnow
    have:=Hon.empF k (s + 1) (b.spillX s) true (m + 1) H2 (g.spill hk1) (by rw [hnow];omega) (fun t ht h1 h2=>by
     rw [hl] at h1 h2 ⊢
     have hlb:=qCC g.f (qCH h1) h1
     by_cases hts : t = s
     · rw [hts];exact qH7 H g s hk1
     · rcases hr (b.leaf t).lba.toNat (by omega) with h3 | h3
       · rw [h3];exact hs t (by omega) h1 h2
       · exact h3)
    rw [hnow] at this
    exact this
  · rename_i hd
    exact Hon.empF k (s + 1) b d m H g (by omega) (fun t ht h1 h2=>by
     by_cases hts : t = s
     · rw [hts] at h2;exact absurd h2 hd
     · exact hs t (by omega) h1 h2)
theorem qDK (b : Bx) (t : Nat) : (b.clear.leaf t).kind = 0:=by
 show ((List.replicate b.c.now.length Lf.zero)[t]?.getD Lf.zero).kind = 0
 rw [List.getElem?_replicate]
 split <;> rfl
theorem Hon.bare {c : Bx} (hz : c.x.p.ez) (hno : c.x.d.no = false) (hb : c.c.bad = false) (hnb : c.x.l.numb) (hk : ∀ t,(c.leaf t).kind = 0) (hr : ∀ i : Nat,i < 32 → c.x.dk.read i = B i) : Hon c B :=
 ⟨hz,hno,hb,hnb,fun s h=>absurd (hk s) h,fun s _ h=>absurd (hk s) h,fun i hi _=>hr i hi⟩
theorem Hon.spilt_all (H : Hon b B) (hs : qQk b B b.c.now.length) : ∀ i : Nat,i < 32 → b.x.dk.read i = B i:=fun i hi=>by
 by_cases h : ∃ s,(b.leaf s).kind ≠ 0 ∧ (b.leaf s).lba = (i : Int) ∧ (b.leaf s).dirty = true
 · obtain ⟨s,h1,h2,h3⟩:=h
   have:=hs s (qCH h1) h1 h3
   rw [h2] at this
   simpa using this
 · refine H.dsk i hi (fun s h1 h2=>?_)
   cases hd : (b.leaf s).dirty with
   | false=>rfl
   | true=>exact absurd ⟨s,h1,h2,hd⟩ h
theorem Hon.empty (H : Hon b B) (g : b.good m) : b.empty.1 = 0 ∧ Hon b.empty.2 B ∧ ∀ t,(b.empty.2.leaf t).kind = 0:=by
 obtain ⟨h1,H1,h2,h3⟩:=Hon.empF (B:=B) b.c.now.length 0 b false m H g rfl (fun t ht=>absurd ht (by omega))
 have g1:=Bx.good.empF b.c.now.length 0 b false m g qle
 unfold Bx.empty Bx.empR
 obtain ⟨r,hr⟩ : ∃ r,r = Bx.empF b.c.now.length 0 b false:=⟨_,rfl⟩
 rw [← hr] at h1 H1 h2 h3 g1 ⊢
 rw [if_neg (by rw [h1];decide)]
 rw [← h2] at h3
 have hall:=H1.spilt_all h3
 unfold Bx.empD
 cases hd : r.2.2 with
 | false=>exact ⟨rfl,Hon.bare H1.ez H1.no H1.bad H1.nb (qDK _) hall,qDK _⟩
 | true =>
  obtain ⟨H2,hsp⟩:=H1.barrier g1
  rw [hsp]
  exact ⟨rfl,Hon.bare H2.ez H2.no H2.bad H2.nb (qDK (r.2.1.setX r.2.1.x.dBarrier)) (fun i hi=>by
   show r.2.1.x.dBarrier.dk.read i = B i
   rw [qDz g1.f.x i hi]
   exact hall i hi),qDK _⟩
theorem Hon.bare_read (H : Hon b B) (hk : ∀ t,(b.leaf t).kind = 0) (i : Nat) (hi : i < 32) : b.x.dk.read i = B i:=H.dsk i hi (fun s h=>absurd (hk s) h)
theorem Hon.forget (H : Hon b B) (g : b.good m) (hk : ∀ t,(b.leaf t).kind = 0) : Hon b.forget.2 B ∧ (b.forget.1 = 0 ∨ b.forget.1 = 6):=by
 obtain ⟨H1,h1⟩:=H.commit g
 unfold Bx.forget
 split
 · exact ⟨H1,h1⟩
 · have hs:=H1.ez.spend
   have hk1 : ∀ t,(b.commit.2.leaf t).kind = 0:=fun t=>by rw [qDI (qBq b).1];exact hk t
   refine ⟨Hon.bare hs.2 H1.no H1.bad H1.nb hk1 (fun i hi=>H1.bare_read hk1 i hi),?_⟩
   show (if b.commit.2.x.p.spend.1 then (0 : Int) else 7) = 0 ∨ _
   rw [hs.1]
   exact .inl rfl
theorem Hon.rotate (H : Hon b B) (g : b.good m) (hm : m ≤ 900000) : Hon b.rotate.2 B ∧ (b.rotate.1 = 0 ∨ b.rotate.1 = 6):=by
 obtain ⟨H1,h1⟩:=H.commit g
 unfold Bx.rotate
 split
 · exact ⟨H1,h1⟩
 · obtain ⟨e1,H2,hk⟩:=H1.empty g.commit
   have hs:=H2.ez.spend
   unfold Bx.rotE
   rw [if_neg (by rw [e1];decide),if_neg (by rw [hs.1];decide)]
   have H3 : Hon (b.commit.2.empty.2.setX b.commit.2.empty.2.x.kAdd) B:=Hon.bare hs.2 H2.no H2.bad H2.nb hk (fun i hi=>H2.bare_read hk i hi)
   exact H3.forget (g.commit.empty.kAdd (by omega)) hk
theorem Hon.new (n : Nat) (_ : qDR (n : Int) = true) (ideal : Bool) : Hon (Bo.newB n 1#64 ideal) (fun _=>List.replicate 32 0):=by
 have hk : ∀ t,((Bo.newB n 1#64 ideal).leaf t).kind = 0:=fun t=>by
  show ((List.replicate n Lf.zero)[t]?.getD Lf.zero).kind = 0
  rw [List.getElem?_replicate]
  split <;> rfl
 refine Hon.bare ⟨rfl,rfl⟩ rfl rfl ?_ hk (fun i hi=>?_)
 · cases ideal
   · trivial
   · intro i x hx;cases hx
 · show qCm ((List.replicate 32 (List.replicate 32 (0 : UInt8)))[i]?.getD []) [] i 0 = _
   rw [List.getElem?_replicate,if_pos hi]
   rfl
end
def Lk.sle : Lk → Lk → Prop
 | .real,.real=>True
 | .ideal _ s,.ideal _ s'=>∃ t,s' = s ++ t
 | _,_=>False
theorem Lk.sle.refl (l : Lk) : l.sle l:=by
 cases l with
 | real=>trivial
 | ideal iss s=>exact ⟨[],by simp⟩
theorem Lk.sle.trans {l l' l'' : Lk} (h : l.sle l') (k : l'.sle l'') : l.sle l'':=by
 cases l with
 | real =>
  cases l' with
  | real=>exact k
  | ideal _ _=>exact h.elim
 | ideal i s =>
  cases l' with
  | real=>exact h.elim
  | ideal i' s' =>
   cases l'' with
   | real=>exact k.elim
   | ideal i'' s'' =>
    obtain ⟨t,rfl⟩:=h
    obtain ⟨u,rfl⟩:=k
    exact ⟨t ++ u,by simp⟩
theorem Lk.sle_seal (l : Lk) (key : qAB) (n : Nn) (head data : List UInt8) : l.sle (l.sealL key n head data):=by
 cases l with
 | real=>trivial
 | ideal iss s=>exact ⟨[],by simp⟩
theorem Lk.sle_sum (l : Lk) (row : List UInt8) : l.sle (l.sumL row):=by
 cases l with
 | real=>trivial
 | ideal iss s =>
  show ∃ t,qAW s row = s ++ t
  unfold qAW
  split
  · exact ⟨[],by simp⟩
  · exact ⟨[row],rfl⟩
theorem qLL (s : List (List UInt8)) (row : List UInt8) : (qAW s row).contains row = true:=by
 unfold qAW
 split
 · rename_i h;exact h
 · simp
theorem qIM {s t : List (List UInt8)} {row : List UInt8} (h : s.contains row = true) : sumNo (s ++ t) row = sumNo s row:=by
 unfold sumNo
 rw [List.findIdx_append,if_pos]
 rw [List.findIdx_lt_length]
 exact ⟨row,List.contains_iff_mem.1 h,by simp⟩
theorem Lk.again {l l' : Lk} {row : List UInt8} (h : (l.sumL row).sle l') : l'.sumL row = l' ∧ l'.sumP row = l.sumP row:=by
 cases l with
 | real =>
  cases l' with
  | real=>exact ⟨rfl,rfl⟩
  | ideal _ _=>exact h.elim
 | ideal i s =>
  cases l' with
  | real=>exact h.elim
  | ideal i' s' =>
   have h2 : ∃ t,s' = qAW s row ++ t:=h
   obtain ⟨t,rfl⟩:=h2
   have hc:=qLL s row
   have hc2 : (qAW s row ++ t).contains row = true:=by
    rw [List.contains_iff_mem] at hc ⊢
    exact List.mem_append_left _ hc
   have he : qAW (qAW s row ++ t) row = qAW s row ++ t:=by
    rw [qAW,if_pos hc2]
   refine ⟨?_,?_⟩
   · show Lk.ideal i' (qAW (qAW s row ++ t) row) = _
     rw [he]
   · show (_,BitVec.ofNat 64 (sumNo (qAW (qAW s row ++ t) row) row)) = (_,BitVec.ofNat 64 (sumNo (qAW s row) row))
     rw [he,qIM hc]
theorem qEJ {l l' : Lk} {rows : List (List UInt8)} : ∀ i,(qAA l rows i).2.sle l' → qAA l' rows i = ((qAA l rows i).1,l')
 | 0,_=>rfl
 | i + 1,h=>by
  have h1 : ((qAA l rows i).2.sumL (0 :: rows[i]?.getD [])).sle l':=h
  have h2:=qEJ i ((Lk.sle_sum _ _).trans h1)
  obtain ⟨h3,h4⟩:=Lk.again h1
  show ((qAA l' rows i).1.set (rows.length + i) ((qAA l' rows i).2.sumP (0 :: rows[i]?.getD [])),(qAA l' rows i).2.sumL (0 :: rows[i]?.getD [])) = _
  rw [h2]
  show ((qAA l rows i).1.set (rows.length + i) (l'.sumP (0 :: rows[i]?.getD [])),l'.sumL (0 :: rows[i]?.getD [])) = _
  rw [h3,h4]
  rfl
theorem qEK {l l' : Lk} {rows : List (List UInt8)} : ∀ k,(qAy l rows k).2.sle l' → qAy l' rows k = ((qAy l rows k).1,l')
 | 0,h=>qEJ _ h
 | k + 1,h=>by
  have h1 : ((qAy l rows k).2.sumL (qCo (qAy l rows k).1 (rows.length - 1 - k))).sle l':=h
  have h2:=qEK k ((Lk.sle_sum _ _).trans h1)
  obtain ⟨h3,h4⟩:=Lk.again h1
  show ((qAy l' rows k).1.set (rows.length - 1 - k) ((qAy l' rows k).2.sumP (qCo (qAy l' rows k).1 (rows.length - 1 - k))),(qAy l' rows k).2.sumL (qCo (qAy l' rows k).1 (rows.length - 1 - k))) = _
  rw [h2]
  show ((qAy l rows k).1.set (rows.length - 1 - k) (l'.sumP (qCo (qAy l rows k).1 (rows.length - 1 - k))),l'.sumL (qCo (qAy l rows k).1 (rows.length - 1 - k))) = _
  rw [h3,h4]
  rfl
theorem qK1 {l l' : Lk} {rows : List (List UInt8)} (h : (qAT l rows).2.sle l') : qAT l' rows = ((qAT l rows).1,l'):=qEK _ h
theorem qDL {b : List UInt8} {x : Wr} (h : inB b.length x) {o n : Nat} (hf : o + n ≤ x.1.toNat ∨ x.1.toNat + x.2.length ≤ o) : ((qBQ b x).drop o).take n = (b.drop o).take n:=by
 obtain ⟨h0,h1,h2⟩:=h
 apply List.ext_getElem?
 intro i
 simp only [List.getElem?_take,List.getElem?_drop]
 split
 · rename_i hi
   unfold qBQ
   rcases hf with hf | hf
   · rw [List.append_assoc,List.getElem?_append_left (by rw [List.length_take];omega),List.getElem?_take,if_pos (by omega)]
   · rw [List.getElem?_append_right (by simp;omega),List.getElem?_drop]
     congr 1
     simp
     omega
 · rfl
theorem qKG {b : List UInt8} {x : Wr} (h : inB b.length x) {o n : Nat} (h1 : x.1.toNat ≤ o) (h2 : o + n ≤ x.1.toNat + x.2.length) : ((qBQ b x).drop o).take n = (x.2.drop (o - x.1.toNat)).take n:=by
 obtain ⟨h0,h3,h4⟩:=h
 apply List.ext_getElem?
 intro i
 simp only [List.getElem?_take,List.getElem?_drop]
 split
 · rename_i hi
   unfold qBQ
   rw [List.append_assoc,List.getElem?_append_right (by rw [List.length_take];omega),List.length_take,List.getElem?_append_left (by omega)]
   congr 1
   omega
 · rfl
theorem qKH : ∀ (rows : List (List UInt8)) (i : Nat),(∀ r ∈ rows,r.length = 32) → i < rows.length → (rows.flatten.drop (i * 32)).take 32 = rows[i]?.getD []
 | [],i,_,h=>by simp at h
 | r :: rows,0,h,_=>by
  have h0:=h r (by simp)
  simp [List.take_append_of_le_length (Nat.le_of_eq h0.symm),List.take_of_length_le (Nat.le_of_eq h0)]
 | r :: rows,i + 1,h,hi=>by
  have h0:=h r (by simp)
  have:=qKH rows i (fun x hx=>h x (by simp [hx])) (by simpa using hi)
  simp only [List.flatten_cons,List.getElem?_cons_succ]
  rw [← this,show (i + 1) * 32 = r.length + i * 32 by rw [h0];omega,← List.drop_drop,List.drop_left]
def qCI (n : Nat) (b : List UInt8) (c : BitVec 64) : List UInt8:=(b.drop (gRec n (qDt c))).take 60
def qNB (n : Nat) (b : List UInt8) (a : Nat) : List (List UInt8):=(List.range n).map fun i=>(b.drop (gLeaf n a i)).take 32
structure Wd.holds (x : Wd) (b : List UInt8) (ls : List Lf) (e : BitVec 32) : Prop where
 ln : ls.length = x.n
 ok : qB7 ls
 z : x.c.value = 0#64 → ls = List.replicate x.n Lf.zero
 rc : x.c.value ≠ 0#64 → ∃ (nn : Nn) (out : List UInt8) (tag : qAB) (ep : BitVec 32) (top : qAB),qCI x.n b x.c.value = qFA nn out tag ∧ out.length = 32 ∧ nn.slot = 65535#32 ∧ (nn.epoch = e ∧ x.eps.contains e = true) ∧ nn.version >>> 32 = x.c.at_ ∧ x.l.openP (qFO x.seed x.eps nn.epoch) nn [] out tag = some (qDm ⟨x.c.value,ep,(x.n : Int),top⟩) ∧ qNB x.n b (qDt x.c.value) = qAd ls ∧ ∀ l',x.l.sle l' → (qAT l' (qAd ls)).1[1]?.getD (0#64,0#64) = top
theorem Wd.holds.as {x y : Wd} {b : List UInt8} {ls : List Lf} {e : BitVec 32} (h : x.holds b ls e) (hn : y.n = x.n) (hse : y.seed = x.seed) (he : y.eps.contains e = true) (hv : y.c.value = x.c.value) (ha : y.c.at_ = x.c.at_) (hle : x.l.le y.l) (hsl : x.l.sle y.l) : y.holds b ls e:=by
 refine ⟨by rw [hn];exact h.ln,h.ok,fun h0=>by rw [hn];exact h.z (by rw [← hv];exact h0),fun h0=>?_⟩
 obtain ⟨nn,out,tag,ep,top,h1,h2,h3,h4,h5,h6,h7,h8⟩:=h.rc (by rw [← hv];exact h0)
 have hk : qFO y.seed y.eps nn.epoch = qFO x.seed x.eps nn.epoch:=by
  unfold qFO
  rw [h4.1,if_pos he,if_pos h4.2,hse]
 refine ⟨nn,out,tag,ep,top,by rw [hn,hv];exact h1,h2,h3,⟨h4.1,he⟩,by rw [ha];exact h5,?_,by rw [hn,hv];exact h7,fun l' hl'=>h8 l' (hsl.trans hl')⟩
 rw [hk,hn,hv]
 exact hle _ _ _ _ _ _ h6
theorem qDM {x : Wd} (h : x.p.spend.1 = true) (y : Wr) : (x.sWrite y).sd.snap = qBQ x.sd.snap y:=by
 show (x.sd.wrote x.p.spend.1 x.p.spend.2 y).snap = _
 rw [h]
 show qBn x.s.lasts (x.s.waits ++ [y]) = _
 rw [qCk]
 rfl
theorem qFm (x : Wd) : x.sBarrier.sd.snap = x.sd.snap:=by
 show (x.sd.barred x.p.spend.1 x.p.spend.2).snap = _
 unfold Sd.barred
 split <;> rfl
theorem qHS {x : Wd} (h : x.p.spend.1 = true) : x.sBarrier.s.waits = []:=by
 show (x.sd.barred x.p.spend.1 x.p.spend.2).waits = _
 rw [h]
 rfl
theorem qDA {x : Wd} (h : x.p.ez) (y : Wr) : (x.sWrite y).p.ez:=by
 have:=h.spend.2
 show (x.sd.wrote x.p.spend.1 x.p.spend.2 y).p.ez
 unfold Sd.wrote
 split <;> exact this
theorem qP4 (boot : BitVec 64) (k : Nat) (hb : boot.toNat < 2147483648) (hk : k ≤ 1000) : (boot <<< 32 + BitVec.ofInt 64 (k : Int)) >>> 32 = boot:=by
 apply BitVec.eq_of_toNat_eq
 rw [BitVec.toNat_ushiftRight,BitVec.toNat_add,BitVec.toNat_shiftLeft,BitVec.toNat_ofInt,Nat.shiftRight_eq_div_pow,Nat.shiftLeft_eq]
 have h1 : ((k : Int) % ((2 ^ 64 : Nat) : Int)).toNat = k:=by
  rw [Int.emod_eq_of_lt (by omega) (by rw [show ((2 ^ 64 : Nat) : Int) = 18446744073709551616 by decide];omega)]
  rfl
 rw [h1]
 have h2 : (2 : Nat) ^ 32 = 4294967296:=by decide
 have h3 : (2 : Nat) ^ 64 = 18446744073709551616:=by decide
 rw [h2,h3]
 omega
section
variable {x : Wd} {m k : Nat} {boot : BitVec 64} {ls : List Lf}
theorem qK2 {n a : Nat} (hn : n = 4 ∨ n = 8 ∨ n = 16) (ha : a < 2) {S : List UInt8} (hS : S.length = gSize n) (hl : ls.length = n) (nb rb : List UInt8) (q : Nat) (hq : q < 2) (h2 : inB (gSize n) ((gNode n a 0 : Nat),nb)) (h3 : inB (gSize n) ((gRec n q : Nat),rb)) (h1 : inB (gSize n) ((gLeaf n a 0 : Nat),(qAd ls).flatten)) :
 qNB n (qBQ (qBQ (qBQ S ((gLeaf n a 0 : Nat),(qAd ls).flatten)) ((gNode n a 0 : Nat),nb)) ((gRec n q : Nat),rb)) a = qAd ls:=by
 have hr32 : ∀ r ∈ qAd ls,r.length = 32:=fun r hr=>by
  unfold qAd at hr
  obtain ⟨l,_,rfl⟩:=List.mem_map.1 hr
  exact qBp l
 have hrl : (qAd ls).length = n:=by unfold qAd;simpa using hl
 have hfl : (qAd ls).flatten.length = n * 32:=by rw [qD2];omega
 have l1 : (qBQ S ((gLeaf n a 0 : Nat),(qAd ls).flatten)).length = gSize n:=(qBz _ _ (by rw [hS];exact h1)).trans hS
 have l2 : (qBQ (qBQ S ((gLeaf n a 0 : Nat),(qAd ls).flatten)) ((gNode n a 0 : Nat),nb)).length = gSize n:=(qBz _ _ (by rw [l1];exact h2)).trans l1
 apply List.ext_getElem?
 intro i
 unfold qNB
 rw [List.getElem?_map]
 by_cases hi : i < n
 · rw [List.getElem?_range hi]
   show some _ = _
   have hg : gLeaf n a i + 32 ≤ gNode n a 0 ∧ gNode n a 0 ≤ gRec n q ∧ gLeaf n a 0 ≤ gLeaf n a i ∧ gLeaf n a i - gLeaf n a 0 = i * 32 ∧ gLeaf n a i + 32 ≤ gLeaf n a 0 + n * 32:=by
    unfold gLeaf gNode gRec
    have : a = 0 ∨ a = 1:=by omega
    rcases this with rfl | rfl <;> rcases hn with rfl | rfl | rfl <;> omega
   show some (((qBQ (qBQ (qBQ S ((gLeaf n a 0 : Nat),(qAd ls).flatten)) ((gNode n a 0 : Nat),nb)) ((gRec n q : Nat),rb)).drop (gLeaf n a i)).take 32) = _
   rw [qDL (x:=((gRec n q : Nat),rb)) (by rw [l2];exact h3) (.inl (by rw [Int.toNat_natCast];omega)),qDL (x:=((gNode n a 0 : Nat),nb)) (by rw [l1];exact h2) (.inl (by rw [Int.toNat_natCast];omega)),qKG (x:=((gLeaf n a 0 : Nat),(qAd ls).flatten)) (by rw [hS];exact h1) (by rw [Int.toNat_natCast];omega) (by rw [Int.toNat_natCast];show _ ≤ _ + (qAd ls).flatten.length;omega)]
   rw [Int.toNat_natCast,hg.2.2.2.1]
   show some (((qAd ls).flatten.drop (i * 32)).take 32) = _
   rw [qKH _ _ hr32 (by omega),List.getElem?_eq_getElem (by omega)]
   rfl
 · rw [List.getElem?_eq_none (by simpa using hi),List.getElem?_eq_none (by omega)]
   rfl
theorem qIN (hz : x.p.ez) (hl : ls.length = x.n) (h0 : 0 < x.n) (hk : k < 100) :
 (x.commit2 ls).sd.snap = qBQ (qBQ x.sd.snap ((gLeaf x.n x.commitA 0 : Nat),(qAd ls).flatten)) ((gNode x.n x.commitA 0 : Nat),qBv (x.areaB ls).1) ∧
 (x.commit5 boot k ls).sd.snap = qBQ (x.commit2 ls).sd.snap ((gRec x.n (qDt (x.c.value + 1#64)) : Nat),(x.commit2 ls).logR boot k (x.commitR ls)):=by
 have z1:=hz.spend
 have e1 : x.commit1 ls = x.areaW2 x.commitA ls:=by unfold Wd.commit1 Wd.areaW;rw [if_pos z1.1]
 have za : (x.areaW1 x.commitA ls).p.ez:=qDA (x:=x.setL (x.areaB ls).2) hz _
 have zb : (x.areaW2 x.commitA ls).p.ez:=qDA za _
 have z2 : (x.commit1 ls).p.ez:=by rw [e1];exact zb
 have z3 : (x.commit2 ls).p.ez:=(qJZ hl h0).ez hz
 have e3 : x.commit3 boot k ls = (x.commit2 ls).logW boot k (x.commitR ls):=by unfold Wd.commit3 Wd.logX;rw [if_pos hk]
 have s2:=@qAE x ls
 have sn2 : (x.commit2 ls).sd.snap = qBQ (qBQ x.sd.snap ((gLeaf x.n x.commitA 0 : Nat),(qAd ls).flatten)) ((gNode x.n x.commitA 0 : Nat),qBv (x.areaB ls).1):=by
  unfold Wd.commit2
  rw [qFm,e1]
  unfold Wd.areaW2
  rw [qDM za.spend.1]
  congr 1
  unfold Wd.areaW1
  rw [qDM (x:=x.setL (x.areaB ls).2) z1.1]
  rfl
 have sn5 : (x.commit5 boot k ls).sd.snap = qBQ (x.commit2 ls).sd.snap ((gRec x.n (qDt (x.c.value + 1#64)) : Nat),(x.commit2 ls).logR boot k (x.commitR ls)):=by
  show (x.commit4 boot k ls).sd.snap = _
  unfold Wd.commit4
  rw [qFm,e3]
  unfold Wd.logW
  rw [qDM (x:=(x.commit2 ls).logL boot k (x.commitR ls)) z3.spend.1]
  show qBQ _ ((gRec (x.commit2 ls).n _ : Nat),_) = _
  rw [s2.1]
  rfl
 exact ⟨sn2,sn5⟩
theorem qIO (f : x.fine m) (hm : m ≤ 900000) (hz : x.p.ez) (hnb : x.l.numb) (hl : ls.length = x.n) (hok : qB7 ls) (hk : k < 100) (hb : x.c.boots.toNat < 2147483648) (hbt : boot = x.c.boots) :
 (x.commit5 boot k ls).holds (x.commit5 boot k ls).sd.snap ls (qAi x.eps) ∧ (x.commit5 boot k ls).s.waits = [] ∧ (x.commit5 boot k ls).c.value = x.c.value + 1#64 ∧ (x.commit5 boot k ls).c.boots = x.c.boots ∧ (x.commit5 boot k ls).l.sle (x.commit5 boot k ls).l:=by
 have hn:=qAm f.ok.sl
 have h0 : 0 < x.n:=by omega
 have z1:=hz.spend
 have e1 : x.commit1 ls = x.areaW2 x.commitA ls:=by unfold Wd.commit1 Wd.areaW;rw [if_pos z1.1]
 have za : (x.areaW1 x.commitA ls).p.ez:=qDA (x:=x.setL (x.areaB ls).2) hz _
 have zb : (x.areaW2 x.commitA ls).p.ez:=qDA za _
 have z2 : (x.commit1 ls).p.ez:=by rw [e1];exact zb
 have z3 : (x.commit2 ls).p.ez:=(qJZ hl h0).ez hz
 have e3 : x.commit3 boot k ls = (x.commit2 ls).logW boot k (x.commitR ls):=by unfold Wd.commit3 Wd.logX;rw [if_pos hk]
 have z4 : (x.commit3 boot k ls).p.ez:=(qNv hl h0).ez hz
 have z5 : (x.commit4 boot k ls).p.ez:=(qNw hl h0).ez hz
 have s2:=@qAE x ls
 have hS : x.sd.snap.length = gSize x.n:=Sd.snap_length f.ok.s
 obtain ⟨sn2,sn5⟩:=qIN (boot:=boot) (k:=k) hz hl h0 hk
 have hc5 : (x.commit5 boot k ls).c = x.c.bump:=by
  unfold Wd.commit5 Wd.bump
  rw [z5.spend.1]
  show (x.commit4 boot k ls).c.bump = _
  have : (x.commit4 boot k ls).c = x.c:=qAU.2.2.1
  rw [this]
 have l2 : (x.commit2 ls).l = (qAT x.l (qAd ls)).2:=by
  show (x.commit1 ls).l = _
  rw [e1]
  rfl
 have l5 : (x.commit5 boot k ls).l = (x.commit2 ls).l.sealL (x.commit2 ls).logK ((x.commit2 ls).logN boot k) [] (qDm (x.commitR ls)):=by
  show (x.commit3 boot k ls).l = _
  rw [e3]
  rfl
 have n5 : (x.commit5 boot k ls).n = x.n:=(qK0 hl h0).n
 have se5 : (x.commit5 boot k ls).seed = x.seed:=(qK0 hl h0).seed
 have ep5 : (x.commit5 boot k ls).eps = x.eps:=(qK0 hl h0).eps
 have f2:=f.commit2 hl
 have hval:=f.ok.cv
 have hA : x.commitA < 2:=qBO _
 have i1 : inB (gSize x.n) ((gLeaf x.n x.commitA 0 : Nat),(qAd ls).flatten):=qDr hA hl h0
 have i2 : inB (gSize x.n) ((gNode x.n x.commitA 0 : Nat),qBv (x.areaB ls).1):=qDs hA hl h0
 have i3 : inB (gSize x.n) ((gRec x.n (qDt (x.c.value + 1#64)) : Nat),(x.commit2 ls).logR boot k (x.commitR ls)):=by
  have:=qG2 (x.commit2 ls) boot k (x.commitR ls) (by rw [s2.1];exact h0)
  rw [s2.1] at this
  exact this
 have hlen2 : (x.commit2 ls).sd.snap.length = gSize x.n:=by have:=Sd.snap_length f2.ok.s;rw [s2.1] at this;exact this
 refine ⟨⟨by rw [n5];exact hl,hok,fun h=>?_,fun _=>?_⟩,?_,by rw [hc5];rfl,by rw [hc5];rfl,Lk.sle.refl _⟩
 · rw [hc5] at h
   have h':=congrArg BitVec.toNat h
   have h'' : (x.c.value + 1#64).toNat = 0:=h'
   rw [BitVec.toNat_add] at h''
   have : (1#64).toNat = 1:=rfl
   rw [this,Nat.mod_eq_of_lt (by omega)] at h''
   omega
 · have hvn : (x.commit5 boot k ls).c.value = x.c.value + 1#64:=by rw [hc5];rfl
   rw [hvn,n5,ep5,se5]
   have hkk : (x.commit2 ls).logN boot k = qNK (qAi x.eps) 65535 boot (k + 1):=by unfold Wd.logN;rw [s2.2.1]
   have hK : (x.commit2 ls).logK = qFO x.seed x.eps (qAi x.eps):=by unfold Wd.logK;rw [s2.2.2.2,s2.2.1]
   have hout : ((x.commit2 ls).logS boot k (x.commitR ls)).1.length = 32:=by
    unfold Wd.logS
    rw [Lk.sealP_length,qBd]
   refine ⟨(x.commit2 ls).logN boot k,((x.commit2 ls).logS boot k (x.commitR ls)).1,((x.commit2 ls).logS boot k (x.commitR ls)).2,qAi x.eps,x.areaTop ls,?_,hout,?_,?_,?_,?_,?_,?_⟩
   · unfold qCI
     rw [sn5]
     have hlr : ((x.commit2 ls).logR boot k (x.commitR ls)).length = 60:=qCn _ _ _ hout
     rw [qKG (x:=((gRec x.n (qDt (x.c.value + 1#64)) : Nat),(x.commit2 ls).logR boot k (x.commitR ls))) (by rw [hlen2];exact i3) (by rw [Int.toNat_natCast];omega) (by rw [Int.toNat_natCast];show _ ≤ _ + ((x.commit2 ls).logR boot k (x.commitR ls)).length;omega),Int.toNat_natCast,Nat.sub_self,List.drop_zero,List.take_of_length_le (Nat.le_of_eq hlr)]
     rfl
   · rw [hkk];rfl
   · rw [hkk];exact ⟨rfl,qJY f.ok.ep⟩
   · rw [hkk,hc5]
     show (boot <<< 32 + BitVec.ofInt 64 ((k + 1 : Nat) : Int)) >>> 32 = x.c.boots
     rw [hbt]
     exact qP4 _ _ hb (by omega)
   · rw [l5,hkk,hK]
     have:=Lk.open_seal ((qJZ hl h0).nb hnb) (Lk.few_mono f2.few (by omega)) (qFO x.seed x.eps (qAi x.eps)) (qNK (qAi x.eps) 65535 boot (k + 1)) [] (qDm (x.commitR ls))
     unfold Wd.logS
     rw [hkk,hK]
     exact this
   · rw [sn5,sn2]
     exact qK2 hn hA hS hl _ _ _ (qBO _) i2 i3 i1
   · intro l' hl'
     have h1 : (qAT x.l (qAd ls)).2.sle l':=by
      rw [l5,l2] at hl'
      exact (Lk.sle_seal _ _ _ _ _).trans hl'
     rw [qK1 h1]
     rfl
 · show (x.commit4 boot k ls).s.waits = []
   unfold Wd.commit4
   exact qHS z4.spend.1
theorem qLM (f : x.fine m) (hz : x.p.ez) (hl : ls.length = x.n) (hk : k < 100) (q : BitVec 64) (hq : qDt q ≠ qDt (x.c.value + 1#64)) : qCI x.n (x.commit5 boot k ls).sd.snap q = qCI x.n x.sd.snap q:=by
 have hn:=qAm f.ok.sl
 have h0 : 0 < x.n:=by omega
 have hS : x.sd.snap.length = gSize x.n:=Sd.snap_length f.ok.s
 have s2:=@qAE x ls
 obtain ⟨sn2,sn5⟩:=qIN (boot:=boot) (k:=k) hz hl h0 hk
 have hA : x.commitA < 2:=qBO _
 have i1 : inB (gSize x.n) ((gLeaf x.n x.commitA 0 : Nat),(qAd ls).flatten):=qDr hA hl h0
 have i2 : inB (gSize x.n) ((gNode x.n x.commitA 0 : Nat),qBv (x.areaB ls).1):=qDs hA hl h0
 have i3 : inB (gSize x.n) ((gRec x.n (qDt (x.c.value + 1#64)) : Nat),(x.commit2 ls).logR boot k (x.commitR ls)):=by
  have:=qG2 (x.commit2 ls) boot k (x.commitR ls) (by rw [s2.1];exact h0)
  rw [s2.1] at this
  exact this
 have l1 : (qBQ x.sd.snap ((gLeaf x.n x.commitA 0 : Nat),(qAd ls).flatten)).length = gSize x.n:=(qBz _ _ (by rw [hS];exact i1)).trans hS
 have l2 : (qBQ (qBQ x.sd.snap ((gLeaf x.n x.commitA 0 : Nat),(qAd ls).flatten)) ((gNode x.n x.commitA 0 : Nat),qBv (x.areaB ls).1)).length = gSize x.n:=(qBz _ _ (by rw [l1];exact i2)).trans l1
 have hout : ((x.commit2 ls).logS boot k (x.commitR ls)).1.length = 32:=by
  unfold Wd.logS
  rw [Lk.sealP_length,qBd]
 have hlr : ((x.commit2 ls).logR boot k (x.commitR ls)).length = 60:=qCn _ _ _ hout
 have hfl : (qAd ls).flatten.length = x.n * 32:=by rw [qD2];omega
 have hnl : (qBv (x.areaB ls).1).length = 2 * x.n * 16:=by rw [qD3,qFg,hl]
 have hcq:=qBO q
 have hcv:=qBO (x.c.value + 1#64)
 rw [sn5,sn2]
 unfold qCI
 rw [qDL (x:=((gRec x.n (qDt (x.c.value + 1#64)) : Nat),(x.commit2 ls).logR boot k (x.commitR ls))) (by rw [l2];exact i3) ?_,qDL (x:=((gNode x.n x.commitA 0 : Nat),qBv (x.areaB ls).1)) (by rw [l1];exact i2) ?_,qDL (x:=((gLeaf x.n x.commitA 0 : Nat),(qAd ls).flatten)) (by rw [hS];exact i1) ?_]
 · refine .inr ?_
   show (((gLeaf x.n x.commitA 0 : Nat) : Int)).toNat + (qAd ls).flatten.length ≤ _
   rw [Int.toNat_natCast,hfl]
   unfold gLeaf gRec
   have : x.commitA = 0 ∨ x.commitA = 1:=by omega
   rcases this with h | h <;> rw [h] <;> omega
 · refine .inr ?_
   show (((gNode x.n x.commitA 0 : Nat) : Int)).toNat + (qBv (x.areaB ls).1).length ≤ _
   rw [Int.toNat_natCast,hnl]
   unfold gNode gRec
   have : x.commitA = 0 ∨ x.commitA = 1:=by omega
   rcases this with h | h <;> rw [h] <;> omega
 · show _ ≤ (((gRec x.n (qDt (x.c.value + 1#64)) : Nat) : Int)).toNat ∨ (((gRec x.n (qDt (x.c.value + 1#64)) : Nat) : Int)).toNat + ((x.commit2 ls).logR boot k (x.commitR ls)).length ≤ _
   rw [Int.toNat_natCast,hlr]
   unfold gRec
   omega
end
theorem qEL (a b : Value) (w : World) : (Instr.field 39 (.agg #[a,b]) 0).run prog w = .ok a w:=by kernel_rfl
theorem Ext.kept0 {m : Nat} {col' : Nat → Nat} {w w' : World} (e : Ext m (fun _=>0) col' w w') : qA4 w w':=⟨e.os,e.tape,e.output,e.size,fun k hk=>e.block k hk (.inl rfl)⟩
theorem qEe.nil {col : Nat → Nat} {w : World} (k ck lba n off : Int) : qEe col w ⟨k,⟨ck,lba,[]⟩,n,off,[],[]⟩ (.slice none 0 0) (.slice none 0 0) (.slice none 0 0) :=
 ⟨SlC.nil,SlC.nil,.inl ⟨rfl,rfl,rfl⟩,fun a c e=>(by cases e),Nat.zero_le _,Nat.zero_le _,Nat.zero_le _⟩
theorem qEe.wr {col : Nat → Nat} {w : World} (ck lba : Int) {v : Value} {d : List UInt8} (h : SlC col w v d) (hl : d.length ≤ 1000) : qEe col w ⟨1,⟨ck,lba,d⟩,0,0,[],[]⟩ v (.slice none 0 0) (.slice none 0 0) :=
 ⟨h,SlC.nil,.inl ⟨rfl,rfl,rfl⟩,fun a c e=>(by cases e),hl,by show (0 : Nat) ≤ 1000;decide,by show (0 : Nat) ≤ 1000;decide⟩
theorem qGn (ideal : Bool) {col : Nat → Nat} {w : World} {P : qAQ} {X : Nat} (h : qAH col w P X (Bo.new 4 1#64 ideal)) (w1 : World) (k1 : qA4 w w1) (hd : SlC col w1 (.slice (some ⟨w.heap.size,0,none⟩) 32 32) (List.replicate 32 5)) :
 Calls prog 11 #[.pointer (some ⟨X,0,none⟩),.agg #[.int .i64 1,.int .i64 2,.int .i64 3,.slice (some ⟨w.heap.size,0,none⟩) 32 32,.int .i64 0,.int .i64 0,.slice none 0 0,.slice none 0 0]] w1 fun e w'=>∃ v col',e = .returned (.agg #[.int .i64 0,v]) ∧ qAH col' w' P X ⟨(kB ideal).x,some (kB ideal),[]⟩ ∧ Ext 12 col col' w1 w':=by
 have g:=Bo.new_good 4 1#64 ideal (by decide)
 have:=qH2 (h.kept k1) g (by decide) kW (some ⟨w.heap.size,0,none⟩) none none 32 0 0 (qEe.wr 2 3 hd (by decide))
 rw [qGk] at this
 refine this.mono ?_
 rintro e w' ⟨v,col',h1,_,h3,h4⟩
 exact ⟨v,col',h1,h3,h4⟩
theorem qFn (ideal : Bool) {col : Nat → Nat} {w : World} {P : qAQ} {X : Nat} (h : qAH col w P X ⟨(kB ideal).x,some (kB ideal),[]⟩) :
 Calls prog 11 #[.pointer (some ⟨X,0,none⟩),.agg #[.int .i64 1,.int .i64 1,.int .i64 3,.slice none 0 0,.int .i64 0,.int .i64 0,.slice none 0 0,.slice none 0 0]] w fun e w'=>∃ v col',e = .returned (.agg #[.int .i64 0,v]) ∧ w'.ownsRow w.heap.size 5 1 v (List.replicate 32 (5 : UInt8)).length (qA1 (List.replicate 32 5)) ∧ Ext 12 col col' w w':=by
 have g0:=(Bo.new_good 4 1#64 ideal (by decide)).act (by decide) kW (by decide)
 rw [qGk] at g0
 have:=qH2 h g0 (by decide) kR none none none 0 0 0 (qEe.nil 1 1 3 0 0)
 rw [qLI] at this
 refine this.mono ?_
 rintro e w' ⟨v,col',h1,h2,h3,h4⟩
 exact ⟨v,col',h1,h2.1,h4⟩
theorem qGo (w : World) : Calls prog 12 #[] w fun e w'=>e = .returned (.bool true) ∧ qA4 w w':=by
 go_enter func12,ntmps12
 go_wp2_with fail
 go_loopw [1] (fun i wr=>∃ k : Nat,i = .int .i64 k ∧ k ≤ 2 ∧ qA4 w wr) (fun i _=>2 - (intOf i).toNat)
 case atStart=>exact ⟨0,rfl,by omega,Below.refl _ _⟩
 case round =>
  obtain ⟨k,rfl,hk,hkr⟩:=hrel
  match k,hk with
  | 0,_ =>
   have CN : Calls prog 9 #[.int .i64 4,.int .u64 1,.bool true] wr fun e w'=>∃ P X col',e = .returned (.tuple #[.pointer (some ⟨X,0,none⟩),.int .i64 0]) ∧ qAH col' w' P X (Bo.new 4 1#64 true) ∧ Ext 12 (fun _=>0) col' wr w':=qHP 4 rfl 1#64 true wr
   go_wp2_with fail
   refine CN.mono ?_
   rintro e w1 ⟨P,X,col1,rfl,h1,e1⟩
   go_wp2_with fail
   refine (qBT 5 w1).mono ?_
   rintro e w2 ⟨rfl,ho,k2⟩
   go_wp2_with fail
   refine (qBu 2 3 (some ⟨w1.heap.size,0,none⟩) 32 32 w2).mono ?_
   rintro e w3 ⟨rfl,k3⟩
   have CW:=qGn true h1 w3 (k2.of k3) (SlC.of_own (qA3 ho k3) h1.top qle)
   go_wp2_with fail
   refine CW.mono ?_
   rintro e w4 ⟨v,col4,rfl,h4,e4⟩
   have hfd:=qEL (.int .i64 0) v w4
   go_wp2_with fail
   refine (qBu 1 3 none 0 0 w4).mono ?_
   rintro e w5 ⟨rfl,k5⟩
   have CR:=qFn true (h4.kept k5)
   go_wp2_with fail
   refine CR.mono ?_
   rintro e w6 ⟨v6,col6,rfl,hv6,e6⟩
   obtain ⟨va,vc,rfl⟩:=(Sl.of_own hv6).len
   have kk6 : qA4 wr w6:=by
    have e7:=((e1.trans (Ext.kept (m:=12) h1.top (k2.of k3))).trans (e4.trans (Ext.kept (m:=12) h4.top k5))).trans e6
    exact e7.kept0
   have bR:=Blk.new w6 #[.int .i64 0,.slice va (List.replicate 32 (5 : UInt8)).length vc] 39
   have hkR : qA4 w6 (w6.alloc (.cells #[.int .i64 0,.slice va (List.replicate 32 (5 : UInt8)).length vc] 39)):=qal _
   have hv4:=qA3 hv6 hkR
   obtain ⟨dd,hdd⟩ : ∃ d,d = List.replicate 32 (5 : UInt8):=⟨_,rfl⟩
   have hd32 : dd.length = 32:=by rw [hdd];rfl
   rw [← hdd] at hv4 bR hkR
   rw [hd32] at hv4 bR hkR
   replace hdd:=qh hdd
   replace hd32:=qh hd32
   go_wp2_with fail
   obtain ⟨w7,hw7⟩ : ∃ y,y = (w6.alloc (.cells #[.int .i64 0,.slice va 32 vc] 39)):=⟨_,rfl⟩
   rw [← hw7] at hv4 bR hkR ⊢
   clear hw7
   refine qA5 [(0,0),(1,0),(2,0),(3,0),(4,0),(5,0),(6,0),(7,1),(8,0),(9,0),(10,0)] (by kernel_rfl) (by kernel_rfl) ?_
   intro z1 hz1
   repeat
    refine qA0 _ rfl (fun K hK=>?_)
    first
     | (refine qqP (by rfl) ?_;apply Exists.intro;refine ⟨fun w' hw'=>?_,hK _ ?_⟩;(have hb:=(bR.kept (hz1.of hw'));have b0:=Blk.cell hb 0;have b1:=Blk.cell hb 1;clear hb;have s1:=qFd (v:=.slice va 32 vc) (bs:=dd) (by rw [hd32.out];exact Sl.of_own (qA3 hv4 (hz1.of hw')));go_simp;first|done|rfl))
     | refine qqN (by rfl) (hK _ ?_)
    clear hK K;simp only [Act.put,qqB]
   refine qqH _ rfl (by rfl) (fun K hK=>?_)
   go_wp2_with fail
   refine (qBT 5 z1).mono ?_
   rintro e z2 ⟨rfl,ho5,k5⟩
   go_wp2
   refine hK _ _ (k5) ?_
   clear hK K
   try simp only [Act.put,qqB]
   repeat
    refine qA0 _ rfl (fun K hK=>?_)
    first
     | (refine qqP (by rfl) ?_;apply Exists.intro;refine ⟨fun w' hw'=>?_,hK _ ?_⟩;(have s2:=qFd (v:=.slice (some ⟨z1.heap.size,0,none⟩) 32 32) (bs:=List.replicate 32 5) (Sl.of_own (qA3 ho5 hw'));rw [← hdd.out] at s2;go_simp;first|done|rfl))
     | refine qqN (by rfl) (hK _ ?_)
    clear hK K;simp only [Act.put,qqB]
   refine qA7 ?_
   go_wp2_with fail
   have kz:=(kk6.of hkR).of (hz1.of k5)
   exact ⟨⟨1,rfl,by omega,hkr.of kz⟩,by simp [intOf]⟩
  | 1,_ =>
   have CN : Calls prog 9 #[.int .i64 4,.int .u64 1,.bool false] wr fun e w'=>∃ P X col',e = .returned (.tuple #[.pointer (some ⟨X,0,none⟩),.int .i64 0]) ∧ qAH col' w' P X (Bo.new 4 1#64 false) ∧ Ext 12 (fun _=>0) col' wr w':=qHP 4 rfl 1#64 false wr
   go_wp2_with fail
   refine CN.mono ?_
   rintro e w1 ⟨P,X,col1,rfl,h1,e1⟩
   go_wp2_with fail
   refine (qBT 5 w1).mono ?_
   rintro e w2 ⟨rfl,ho,k2⟩
   go_wp2_with fail
   refine (qBu 2 3 (some ⟨w1.heap.size,0,none⟩) 32 32 w2).mono ?_
   rintro e w3 ⟨rfl,k3⟩
   have CW:=qGn false h1 w3 (k2.of k3) (SlC.of_own (qA3 ho k3) h1.top qle)
   go_wp2_with fail
   refine CW.mono ?_
   rintro e w4 ⟨v,col4,rfl,h4,e4⟩
   have hfd:=qEL (.int .i64 0) v w4
   go_wp2_with fail
   refine (qBu 1 3 none 0 0 w4).mono ?_
   rintro e w5 ⟨rfl,k5⟩
   have CR:=qFn false (h4.kept k5)
   go_wp2_with fail
   refine CR.mono ?_
   rintro e w6 ⟨v6,col6,rfl,hv6,e6⟩
   obtain ⟨va,vc,rfl⟩:=(Sl.of_own hv6).len
   have kk6 : qA4 wr w6:=by
    have e7:=((e1.trans (Ext.kept (m:=12) h1.top (k2.of k3))).trans (e4.trans (Ext.kept (m:=12) h4.top k5))).trans e6
    exact e7.kept0
   have bR:=Blk.new w6 #[.int .i64 0,.slice va (List.replicate 32 (5 : UInt8)).length vc] 39
   have hkR : qA4 w6 (w6.alloc (.cells #[.int .i64 0,.slice va (List.replicate 32 (5 : UInt8)).length vc] 39)):=qal _
   have hv4:=qA3 hv6 hkR
   obtain ⟨dd,hdd⟩ : ∃ d,d = List.replicate 32 (5 : UInt8):=⟨_,rfl⟩
   have hd32 : dd.length = 32:=by rw [hdd];rfl
   rw [← hdd] at hv4 bR hkR
   rw [hd32] at hv4 bR hkR
   replace hdd:=qh hdd
   replace hd32:=qh hd32
   go_wp2_with fail
   obtain ⟨w7,hw7⟩ : ∃ y,y = (w6.alloc (.cells #[.int .i64 0,.slice va 32 vc] 39)):=⟨_,rfl⟩
   rw [← hw7] at hv4 bR hkR ⊢
   clear hw7
   refine qA5 [(0,0),(1,0),(2,0),(3,0),(4,0),(5,0),(6,0),(7,1),(8,0),(9,0),(10,0)] (by kernel_rfl) (by kernel_rfl) ?_
   intro z1 hz1
   repeat
    refine qA0 _ rfl (fun K hK=>?_)
    first
     | (refine qqP (by rfl) ?_;apply Exists.intro;refine ⟨fun w' hw'=>?_,hK _ ?_⟩;(have hb:=(bR.kept (hz1.of hw'));have b0:=Blk.cell hb 0;have b1:=Blk.cell hb 1;clear hb;have s1:=qFd (v:=.slice va 32 vc) (bs:=dd) (by rw [hd32.out];exact Sl.of_own (qA3 hv4 (hz1.of hw')));go_simp;first|done|rfl))
     | refine qqN (by rfl) (hK _ ?_)
    clear hK K;simp only [Act.put,qqB]
   refine qqH _ rfl (by rfl) (fun K hK=>?_)
   go_wp2_with fail
   refine (qBT 5 z1).mono ?_
   rintro e z2 ⟨rfl,ho5,k5⟩
   go_wp2
   refine hK _ _ (k5) ?_
   clear hK K
   try simp only [Act.put,qqB]
   repeat
    refine qA0 _ rfl (fun K hK=>?_)
    first
     | (refine qqP (by rfl) ?_;apply Exists.intro;refine ⟨fun w' hw'=>?_,hK _ ?_⟩;(have s2:=qFd (v:=.slice (some ⟨z1.heap.size,0,none⟩) 32 32) (bs:=List.replicate 32 5) (Sl.of_own (qA3 ho5 hw'));rw [← hdd.out] at s2;go_simp;first|done|rfl))
     | refine qqN (by rfl) (hK _ ?_)
    clear hK K;simp only [Act.put,qqB]
   refine qA7 ?_
   go_wp2_with fail
   have kz:=(kk6.of hkR).of (hz1.of k5)
   exact ⟨⟨2,rfl,by omega,hkr.of kz⟩,by simp [intOf]⟩
  | 2,_ =>
   go_wp2_with fail
   refine bodyPost_ret (v:=.bool true) (by simp [results,results12,go_sem];done) rfl ⟨rfl,hkr⟩
end Go.Proofs.YtdlgihbpiakebaaGreat
namespace Go.Proofs.YtdlgihbpiakebaaGreat
open Go Go.RowKit Go.ChangeShapes Go.WideShapes Go.ChangeAt Go.Deep
def qF9 (x : Ac) (r : Value × Value × Value) : List Value:=[.int .i64 x.kind,.int .i64 x.call.kind,.int .i64 x.call.lba,r.1,.int .i64 x.n,.int .i64 x.off,r.2.1,r.2.2]
end Go.Proofs.YtdlgihbpiakebaaGreat
namespace Go.Proofs.YtdlgihbpiakebaaGreat
open Go Go.RowKit Tryz

end Go.Proofs.YtdlgihbpiakebaaGreat
