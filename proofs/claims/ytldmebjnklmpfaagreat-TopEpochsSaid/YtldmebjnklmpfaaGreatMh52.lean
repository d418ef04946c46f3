import Derived.Test.YtldmebjnklmpfaaGreatMh07
import Derived.Test.YtldmebjnklmpfaaGreatMh15
import Derived.Test.YtldmebjnklmpfaaGreatMh28
import Derived.Test.YtldmebjnklmpfaaGreatMh31
import Derived.Test.YtldmebjnklmpfaaGreatMh51
import Derived.Deep.Slices
set_option maxRecDepth 100000
set_option maxHeartbeats 4000000
namespace Go.Proofs.YtldmebjnklmpfaaGreat
open Go Go.RowKit
theorem wd_snap {col : Nat → Nat} {w : World} {P : Ptrs} {x : Wd} {m : Nat} (h : WdIn col w P x) (ok : x.ok m) (hm : m ≤ 100000) : Calls Tryz.prog 29 #[.pointer (some ⟨P.s,0,none⟩)] w fun e w'=>∃ g c,e = .returned (.slice (some ⟨g,0,none⟩) (gSize x.n) c) ∧ w'.ownsRow w.heap.size 5 1 (.slice (some ⟨g,0,none⟩) (gSize x.n) c) (gSize x.n) (bcells x.sd.snap) ∧ Kept w w' :=
 snap_any _ P.s P.b x.sd (gSize x.n) m ok.size.1 (by have:=ok.size;omega) hm w h.sdAt ok.s
theorem wd_smash_no {col : Nat → Nat} {w : World} {P : Ptrs} {x : Wd} {m : Nat} (h : WdIn col w P x) (ok : x.ok m) (off : Int) (a : Option Addr) (L c : Nat) (hno : isB (gSize x.n) off (L : Int) = false) : Calls Tryz.prog 28 #[.pointer (some ⟨P.s,0,none⟩),.int .i64 off,.slice a L c] w fun e w'=>e = .returned (.bool false) ∧ w = w':=by
 obtain ⟨gl,cap,ex,vw,vt,us,ut,X,_⟩:=h.ssd
 have q1:=X.blk.cell 1
 have hl : x.s.lasts.length = gSize x.n:=ok.s.len
 have hsz:=ok.size
 have CI:=ssd_is_any P.s (some ⟨gl,0,none⟩) (gSize x.n) cap (by omega) off (L : Int) w (by rw [q1];show some (Value.slice _ x.s.lasts.length _) = _;rw [hl])
 rw [hno] at CI
 clear q1 hl hsz
 go_enter Tryz.func28,Tryz.ntmps28
 go_wp2_with fail
 refine CI.mono ?_
 rintro e w1 ⟨rfl,rfl⟩
 go_wp2_with fail
 go_ret
 exact ⟨rfl,rfl⟩
theorem smash_end (A : Nat → Prop) (K b : Nat) (s : Sd) (n m : Nat) (h0 : 0 < n) (hn : n ≤ 65536) (hm : m ≤ 100000) (w : World) (h : SdAt A w K b s) (ok : s.ok n m) (a : Option Addr) (c : Nat) (hsv : Sl w (.slice a 0 c) 0 (bcells [])) :
 Calls Tryz.prog 28 #[.pointer (some ⟨K,0,none⟩),.int .i64 (n : Int),.slice a 0 c] w fun e w'=>e = .returned (.bool true) ∧ SdAt A w' K b { s with lasts:=layB s.snap ((n : Int),[]),waits:=[] } ∧ SameOn A w w':=by
 obtain ⟨gl,cap,ex,vw,vt,us,ut,X,O,hAl⟩:=h
 have c1 : w.cell? ⟨K,1,none⟩ = some (.slice (some ⟨gl,0,none⟩) n cap):=by have:=X.blk.cell 1;rw [ok.len] at this;exact this
 have hiB : isB n (n : Int) 0 = true:=by unfold isB;simp
 have hsn:=Sd.snap_length ok
 have hcap:=X.hcap
 rw [ok.len] at hcap
 have hmost:=X.most
 go_enter Tryz.func28,Tryz.ntmps28
 go_wp2_with fail
 refine (ssd_is_any K _ n _ (by omega) n 0 _ c1).mono ?_
 rintro e w1 ⟨rfl,rfl⟩
 rw [hiB]
 have HIB:=Lib.hid hiB
 have HOK:=Lib.hid ok
 clear hiB ok
 go_wp2_with fail
 refine (settle_all K b gl cap ex vw vt us ut s n m h0 hn hm (fun _=>true) _ X HOK.out rfl).mono ?_
 rintro e w2 ⟨rfl,X2,c2⟩
 rw [layIs_all _ _ _ (Nat.le_refl _),List.take_length] at X2
 have hs2 : SameOn A _ w2:=SameOn.of_chg c2 (by intro x hx;simp at hx;rcases hx with rfl | rfl;exact O.gl;exact O.K)
 have hfin : layB s.snap ((n : Int),[]) = s.snap:=by unfold layB;rw [List.append_nil];simp
 have X3 : SdIn w2 K b gl cap ex (.slice none 0 0) vt [] ut { s with lasts:=layB s.snap ((n : Int),[]),waits:=[] }:=by rw [hfin];exact X2
 have k1 : w2.cell? ⟨K,1,none⟩ = some (.slice (some ⟨gl,0,none⟩) n cap):=by
  have:=X2.blk.cell 1
  rw [show ({ s with lasts:=layAll s.lasts s.waits,waits:=[] } : Sd).lasts.length = n from hsn] at this
  exact this
 have FIN : Ending.returned (Value.bool true) = Ending.returned (Value.bool true) ∧ SdAt A w2 K b { s with lasts:=layB s.snap ((n : Int),[]),waits:=[] } ∧ SameOn A w w2:=⟨rfl,⟨gl,cap,ex,_,_,_,_,X3,⟨O.K,O.b,O.gl,(by intro g hg;cases hg),O.vt,by simp,O.ut⟩,fun k ha=>Nat.lt_of_lt_of_le (hAl k ha) hs2.size⟩,hs2⟩
 replace FIN:=Lib.hid FIN
 have HSN:=Lib.hid hsn
 clear hsn hfin
 have m5 : (n : Int) ≤ (n : Int):=Int.le_refl _
 have m6 : (n : Int) ≤ (cap : Int):=by omega
 have m7 : (0 : Int) ≤ (n : Int):=by omega
 obtain ⟨i,hi,hz,hsi,hbb⟩:=sl_bytes.info
 have hsz : (Tryz.prog.info? 5).map (·.size) = some 1:=by rw [hi];simp [hsi]
 have hcp:=fun (base : Option Addr) (dc : Nat)=>run_copy_none (P:=Tryz.prog) w2 32 32 3 5 base a 0 dc 0 c sl_bytes.under hsz rfl
 by_cases hc0 : cap = n
 · subst hc0
   go_wp2
   go_ret
   exact ⟨rfl,FIN.out.2⟩
 · have m8 : ¬ cap = n:=hc0
   have m9 : ¬ cap - n = 0:=by omega
   go_wp2
   go_ret
   exact ⟨rfl,FIN.out.2⟩
theorem wd_smash_end {col : Nat → Nat} {w : World} {P : Ptrs} {x : Wd} {m : Nat} (h : WdIn col w P x) (ok : x.ok m) (hm : m ≤ 100000) (a : Option Addr) (c : Nat) (hsv : Sl w (.slice a 0 c) 0 (bcells [])) :
 Calls Tryz.prog 28 #[.pointer (some ⟨P.s,0,none⟩),.int .i64 (gSize x.n : Nat),.slice a 0 c] w fun e w'=>e = .returned (.bool true) ∧ Next 6 col w P (x.sSmash ((gSize x.n : Nat),[])) w':=by
 refine (smash_end _ P.s P.b x.sd (gSize x.n) m ok.size.1 (by have:=ok.size;omega) hm w h.sdAt ok.s a c hsv).mono ?_
 rintro e w' ⟨rfl,ha,hsm⟩
 exact ⟨rfl,_,h.stepS ha hsm⟩
theorem isB_inB {n : Nat} {off : Int} {L : Nat} {bs : List UInt8} (hb : bs.length = L) (h0 : 0 < L ∨ off < (n : Int)) (h : isB n off (L : Int) = true) : inB n (off,bs) ∧ off = ((off.toNat : Nat) : Int):=by
 unfold isB at h
 simp only [Bool.and_eq_true,decide_eq_true_eq] at h
 have hl : 0 < L ∨ off < (n : Int):=h0
 exact ⟨⟨by show 0 ≤ off;omega,by show off.toNat < n;omega,by show off.toNat + bs.length ≤ n;omega⟩,by omega⟩
structure Bo where
 x : Wd
 c : Option Bx
 snaps : List (List UInt8)
def Bo.cur (o : Bo) : Wd:=match o.c with
 | none=>o.x
 | some B=>B.x
def Bo.setX (o : Bo) (x : Wd) : Bo:=⟨x,o.c.map (fun B=>B.setX x),o.snaps⟩
theorem Bo.cur_setX (o : Bo) (x : Wd) : (o.setX x).cur = x:=by
 unfold Bo.cur Bo.setX
 cases o.c <;> rfl
def Bo.open_ (s : List (List UInt8)) (r : Int × Wd × Option Bx) : (Int × List UInt8) × Bo:=((r.1,[]),⟨r.2.1,r.2.2,s⟩)
def Bo.call (o : Bo) (c : Cl) : (Int × List UInt8) × Bo:=match o.c with
 | none=>((8,[]),o)
 | some B=>((B.doC c).1,⟨(B.doC c).2.x,some (B.doC c).2,o.snaps⟩)
def Bo.crash (o : Bo) (ks : List Bool) : (Int × List UInt8) × Bo:=Bo.open_ o.snaps (o.cur.crash ks).opens
def Bo.smash (o : Bo) (off : Int) (d : List UInt8) : (Int × List UInt8) × Bo:=if isB (gSize o.cur.n) off (d.length : Int) then ((0,[]),o.setX (o.cur.sSmash (off,d))) else ((1,[]),o)
def Bo.snap (o : Bo) : Bo:=⟨o.x,o.c,o.snaps ++ [o.cur.sd.snap]⟩
def Bo.back (o : Bo) (n : Int) : (Int × List UInt8) × Bo:=if 0 ≤ n ∧ n < (o.snaps.length : Int) then ((0,[]),o.setX (o.cur.sBack (o.snaps[n.toNat]?.getD []))) else ((1,[]),o)
def Bo.act (o : Bo) (a : Ac) : (Int × List UInt8) × Bo :=
 if a.kind = 1 then o.call a.call
 else if a.kind = 2 then ((0,[]),o.setX (o.cur.setP (o.cur.p.setFuse a.n)))
 else if a.kind = 3 then o.crash a.keep
 else if a.kind = 4 then o.smash a.off a.data
 else if a.kind = 5 then ((0,[]),o.snap)
 else if a.kind = 6 then o.back a.n
 else if a.kind = 7 then ((0,[]),o.setX (o.cur.dRefuse (decide (a.n ≠ 0))))
 else ((1,[]),o)
structure Bo.good (o : Bo) (m : Nat) : Prop where
 f : o.cur.fine m
 ep : 0#32 < nowOf o.cur.eps
 bx : ∀ B,o.c = some B → B.good m
 sn : ∀ s ∈ o.snaps,s.length = gSize o.cur.n
 few : o.snaps.length ≤ m
structure SnapC (col : Nat → Nat) (w : World) (sv : Value) (snaps : List (List UInt8)) (us : List Value) : Prop where
 len : us.length = snaps.length
 row : w.ownsRow 0 32 1 sv snaps.length us
 one : ∀ u ∈ us,u.oneCell' = true
 cs : ∀ g,sv.ownBlock = some g → col g = 12
 each : ∀ (i : Nat) (bs : List UInt8) (u : Value),snaps[i]? = some bs → us[i]? = some u → w.ownsRow 0 5 1 u bs.length (bcells bs) ∧ ∀ g,u.ownBlock = some g → col g = 12
theorem SnapC.nil {col : Nat → Nat} {w : World} : SnapC col w (.slice none 0 0) [] []:=⟨rfl,⟨rfl,.inl ⟨rfl,rfl⟩⟩,fun u hu=>(by cases hu),fun g hg=>(by cases hg),fun i bs u h=>(by cases i <;> cases h)⟩
theorem SnapC.frame {col col' : Nat → Nat} {w w' : World} {sv : Value} {snaps : List (List UInt8)} {us : List Value} (h : SnapC col w sv snaps us) (s : Same 12 col col' w w') : SnapC col' w' sv snaps us :=
 ⟨h.len,s.own h.row h.cs,h.one,fun g hg=>s.old g (own_ltV h.row hg) (h.cs g hg),fun i bs u hb hu=>by
  obtain ⟨h1,h2⟩:=h.each i bs u hb hu
  exact ⟨s.own h1 h2,fun g hg=>s.old g (own_ltV h1 hg) (h2 g hg)⟩⟩
structure BoxAt (col : Nat → Nat) (w : World) (P : Ptrs) (X : Nat) (cv sv : Value) (us : List Value) (o : Bo) : Prop where
 blk : Blk w X #[.pointer (some ⟨P.W,0,none⟩),cv,sv] 83
 cX : col X = 12
 bc : BoxC col w P o.c o.x cv
 sn : SnapC col w sv o.snaps us
def BoxIn (col : Nat → Nat) (w : World) (P : Ptrs) (X : Nat) (o : Bo) : Prop:=∃ cv sv us,BoxAt col w P X cv sv us o
section
variable {col col' : Nat → Nat} {w w' : World} {P : Ptrs} {X : Nat} {cv sv : Value} {us : List Value} {o : Bo} {m : Nat}
theorem BoxC.wd {c : Option Bx} {x : Wd} (h : BoxC col w P c x cv) : WdIn col w P (Bo.cur ⟨x,c,[]⟩):=by
 cases c with
 | none=>exact h.2
 | some B =>
  obtain ⟨M,C,_,A,vn,vw,h0⟩:=h
  exact h0.wm.wd
theorem BoxAt.wd (h : BoxAt col w P X cv sv us o) : WdIn col w P o.cur:=BoxC.wd h.bc
theorem BoxAt.top (h : BoxAt col w P X cv sv us o) : Top col w:=h.wd.top
theorem BoxC.kept {c : Option Bx} {x : Wd} (h : BoxC col w P c x cv) (hk : Kept w w') : BoxC col w' P c x cv:=by
 cases c with
 | none=>exact ⟨h.1,h.2.kept hk⟩
 | some B =>
  obtain ⟨M,C,e,A,vn,vw,h0⟩:=h
  exact ⟨M,C,e,A,vn,vw,h0.kept hk⟩
theorem BoxAt.kept (h : BoxAt col w P X cv sv us o) (hk : Kept w w') : BoxAt col w' P X cv sv us o :=
 ⟨h.blk.kept hk,h.cX,h.bc.kept hk,h.sn.frame (Same.kept hk 12)⟩
theorem BoxC.next {c : Option Bx} {x x' : Wd} (h : BoxC col w P c x cv) (hw : WdIn col' w' P x') (e : Ext 6 col col' w w') : BoxC col' w' P (c.map fun B=>B.setX x') x' cv:=by
 cases c with
 | none=>exact ⟨h.1,hw⟩
 | some B =>
  obtain ⟨M,C,e1,A,vn,vw,h0⟩:=h
  exact ⟨M,C,e1,A,vn,vw,h0.world (h0.wm.ext6 hw e) (e.mono (by decide))⟩
theorem BoxAt.next (h : BoxAt col w P X cv sv us o) {x' : Wd} (hw : WdIn col' w' P x') (e : Ext 6 col col' w w') : BoxAt col' w' P X cv sv us (o.setX x'):=by
 obtain ⟨b1,d1⟩:=(e.same (i:=12) (by decide)).blk h.blk h.cX
 exact ⟨b1,d1,h.bc.next hw e,h.sn.frame (e.same (by decide))⟩
theorem BoxAt.cache (h : BoxAt col w P X cv sv us o) {B : Bx} {M C : Nat} (hcv : cv = .pointer (some ⟨C,0,none⟩)) (hc : CaIn col' w' P M C B) (e : Ext 11 col col' w w') : BoxAt col' w' P X cv sv us ⟨B.x,some B,o.snaps⟩:=by
 obtain ⟨b1,d1⟩:=(e.same (i:=12) (by decide)).blk h.blk h.cX
 exact ⟨b1,d1,⟨M,C,hcv,hc⟩,h.sn.frame (e.same (by decide))⟩
theorem BoxC.chg0 {c : Option Bx} {x : Wd} {g : Nat} (h : BoxC col w P c x cv) (hc : Chg [g] w w') (hg : col g = 0) : BoxC col w' P c x cv:=by
 cases c with
 | none=>exact ⟨h.1,h.2.chg hc (fun b hb=>by rw [List.mem_singleton] at hb;subst hb;exact .inl hg)⟩
 | some B =>
  obtain ⟨M,C,e,A,vn,vw,h0⟩:=h
  exact ⟨M,C,e,A,vn,vw,h0.chg0 hc hg⟩
theorem BoxAt.chg0 {g : Nat} (h : BoxAt col w P X cv sv us o) (hc : Chg [g] w w') (hg : col g = 0) : BoxAt col w' P X cv sv us o:=by
 have s : Same 12 col col w w':=Same.chg hc fun b hb=>by rw [List.mem_singleton] at hb;subst hb;rw [hg];decide
 obtain ⟨b1,d1⟩:=s.blk h.blk h.cX
 exact ⟨b1,d1,h.bc.chg0 hc hg,h.sn.frame s⟩
theorem Bo.good.up {k : Nat} (g : o.good m) (h : m ≤ k) : o.good k:=⟨g.f.up h,g.ep,fun B hB=>(g.bx B hB).up h,g.sn,Nat.le_trans g.few h⟩
theorem Bo.good.setX (g : o.good m) {x : Wd} {k : Nat} (f : x.fine k) (hk : m ≤ k) (hn : x.n = o.cur.n) (he : x.eps = o.cur.eps) : (o.setX x).good k:=by
 refine ⟨by rw [Bo.cur_setX];exact f,by rw [Bo.cur_setX,he];exact g.ep,fun B hB=>?_,fun s hs=>by rw [Bo.cur_setX,hn];exact g.sn s hs,Nat.le_trans g.few hk⟩
 unfold Bo.setX at hB
 cases hc : o.c with
 | none=>rw [hc] at hB;cases hB
 | some B0 =>
  rw [hc] at hB
  cases hB
  have g0:=g.bx B0 hc
  have hcu : o.cur = B0.x:=by unfold Bo.cur;rw [hc]
  exact g0.as ⟨f,g0.f.k,by rw [show (B0.setX x).x.n = x.n from rfl,hn,hcu];exact g0.f.nl,by rw [show (B0.setX x).x.n = x.n from rfl,hn,hcu];exact g0.f.wl,g0.f.nok,g0.f.wok⟩ hk rfl rfl (by show nowOf x.eps = _;rw [he,hcu])
end
theorem box_call {col : Nat → Nat} {w : World} {P : Ptrs} {X : Nat} {o : Bo} (h : BoxIn col w P X o) {m : Nat} (g : o.good m) (hm : m ≤ 39000) (cl : Cl) (a : Option Addr) (c : Nat) (hn : cl.data.length ≤ 1000000) (sd : SlC col w (.slice a cl.data.length c) cl.data) : Calls Tryz.prog 25 #[.pointer (some ⟨X,0,none⟩),.agg #[.int .i64 cl.kind,.int .i64 cl.lba,.slice a cl.data.length c]] w fun e w'=>∃ v col',e = .returned (.agg #[.int .i64 (o.call cl).1.1,v]) ∧ RowC col' w' w.heap.size v (o.call cl).1.2 ∧ BoxIn col' w' P X (o.call cl).2 ∧ Ext 12 col col' w w':=by
 obtain ⟨cv,sv,us,h0⟩:=h
 obtain ⟨kd,hkd⟩ : ∃ k,k = cl.kind:=⟨_,rfl⟩
 obtain ⟨lba,hlba⟩ : ∃ k,k = cl.lba:=⟨_,rfl⟩
 obtain ⟨n,hnn⟩ : ∃ k,k = cl.data.length:=⟨_,rfl⟩
 obtain ⟨wA,hwA⟩ : ∃ y,y = ((w.alloc (.cells #[.int .i64 kd,.int .i64 lba,.slice a n c] 34)).alloc (.cells #[.int .i64 0,.slice none 0 0] 39)):=⟨_,rfl⟩
 have hkA : Kept w wA:=by rw [hwA];exact ((Below.refl _ _).alloc (Nat.le_refl _) _).alloc (by simp) _
 have bX1 : Blk wA w.heap.size #[.int .i64 kd,.int .i64 lba,.slice a n c] 34:=by
  rw [hwA]
  exact (Blk.new w _ _).kept ((Below.refl _ _).alloc (by simp) _)
 have bT : Blk wA (w.heap.size + 1) #[.int .i64 0,.slice none 0 0] 39:=by
  rw [hwA]
  have:=Blk.new (w.alloc (.cells #[.int .i64 kd,.int .i64 lba,.slice a n c] 34)) #[.int .i64 0,.slice none 0 0] 39
  rw [World.size_alloc] at this
  exact this
 have h1:=h0.kept hkA
 have exA : Ext 12 col col w wA:=Ext.kept h0.top hkA
 have cT : col (w.heap.size + 1) = 0:=h0.top _ (by omega)
 have q1:=h1.blk.cell 1
 obtain ⟨R,hR⟩ : ∃ R,R = o.call cl:=⟨_,rfl⟩
 rw [← hR]
 obtain ⟨oc,hoc⟩ : ∃ oc,oc = o.c:=⟨_,rfl⟩
 have hbc:=h1.bc
 rw [← hoc] at hbc
 replace hR:=Lib.hid hR
 cases oc with
 | none =>
  have hr : R = ((8,[]),o):=by rw [hR.out];unfold Bo.call;rw [← hoc]
  replace hr:=Lib.hid hr
  have hcv:=hbc.1
  subst hcv
  rw [← hkd,← hlba,← hnn]
  clear hoc hkd hlba hnn sd hn hbc
  rw [hwA] at q1
  go_enter Tryz.func25,Tryz.ntmps25
  go_wp2_with fail
  have hk8 : Kept w ((w.alloc (.cells #[.int .i64 kd,.int .i64 lba,.slice a n c] 34)).alloc (.cells #[.int .i64 8,.slice none 0 0] 39)):=((Below.refl _ _).alloc (Nat.le_refl _) _).alloc (by simp) _
  refine bodyPost_ret (v:=.agg #[.int .i64 8,.slice none 0 0]) (by simp [results,Tryz.results25,go_sem];try exact ⟨rfl,rfl⟩) rfl ⟨_,col,by rw [hr.out],by rw [hr.out];exact RowC.nil,by rw [hr.out];exact ⟨_,_,_,h0.kept hk8⟩,Ext.kept h0.top hk8⟩
 | some b =>
  have hr : R = ((b.doC cl).1,⟨(b.doC cl).2.x,some (b.doC cl).2,o.snaps⟩):=by rw [hR.out];unfold Bo.call;rw [← hoc]
  obtain ⟨M,C,hcv,hca⟩:=hbc
  subst hcv
  have gb:=g.bx b hoc.symm
  have CD:=fun z (hz : Kept wA z)=>ca_do (w:=z) (by obtain ⟨A,vn,vw,h9⟩:=hca;exact ⟨A,vn,vw,h9.kept hz⟩) gb hm cl a c hn (sd.ext (Ext.kept (m:=11) h0.top (hkA.of hz)))
  obtain ⟨F,hF⟩ : ∃ F,F = b.doC cl:=⟨_,rfl⟩
  rw [← hF] at CD hr
  obtain ⟨⟨E,D⟩,B⟩:=F
  simp only at CD hr
  rw [← hkd,← hlba,← hnn] at CD ⊢
  replace hr:=Lib.hid hr
  replace CD : ∀ z,Kept wA z → Calls Tryz.prog 51 #[.pointer (some ⟨C,0,none⟩),.agg #[.int .i64 kd,.int .i64 lba,.slice a n c]] z fun e w'=>∃ v col',e = .returned (.agg #[.int .i64 E,v]) ∧ RowC col' w' z.heap.size v D ∧ CaIn col' w' P M C B ∧ Ext 11 col col' z w':=CD
  clear hoc hkd hlba hnn sd hn hF gb
  have hszA:=bT.lt
  rw [hwA] at q1
  go_enter Tryz.func25,Tryz.ntmps25
  go_wp2_with fail
  rw [← hwA]
  rw [← hwA] at q1
  clear hwA
  refine wp_region_chainRel (SameOn (fun k=>k < wA.heap.size ∧ (col k = 0 ∨ 11 < col k))) [(0,0),(1,0),(2,0),(3,0),(4,0),(5,1),(6,2)] (by kernel_rfl) (by kernel_rfl) ?_ ?_ ?_
  · exact fun _=>SameOn.refl _
  · exact fun _ _ _ h1 h2=>h1.trans h2
  intro z1 hz1
  have hbz:=h1.blk.kept hz1
  have hxz:=bX1.kept hz1
  repeat
   refine chain_light _ rfl (fun K hK=>?_)
   first
    | (refine qqP (by rfl) ?_;apply Exists.intro;refine ⟨fun w' hw'=>?_,hK _ ?_⟩;(have q:=(hw'.block _ hbz.lt ⟨h1.blk.lt,.inr (by rw [h1.cX];decide)⟩).trans hbz;have q1:=Blk.cell q 1;clear q;have d:=(hw'.block _ hxz.lt ⟨bX1.lt,.inl (h0.top _ (Nat.le_refl _))⟩).trans hxz;have d0:=Blk.cell d 0;have d1:=Blk.cell d 1;have d2:=Blk.cell d 2;clear d;first | (go_simp;done) | (go_simp;rfl)))
    | refine qqN (by rfl) (hK _ ?_)
   clear hK K;simp only [Act.put,qqA,qq0,qq1]
  refine chain_heavy _ rfl (fun K hK=>?_)
  refine qqP (by rfl) ?_
  go_wp2_with fail
  refine (CD z1 hz1).mono ?_
  rintro e w4 ⟨v,col4,rfl,hv,h4,e4⟩
  obtain ⟨va,vc,rfl⟩:=(Sl.of_own hv.1).len
  obtain ⟨bT4,cT4⟩:=e4.blk0 (bT.kept hz1) cT
  have S4:=e4.sameOn (w0:=wA) (col0:=col) (fun k hk=>rfl)
  go_wp2
  refine hK _ _ (S4) ?_
  clear hK K
  try simp only [Act.put,qqA,qq0,qq1]
  refine chain_last _ rfl (fun K hK=>?_)
  refine qqP (by rfl) ?_
  have f0:=bT4.free 0
  have f1:=bT4.free 1
  have y0:=bT4.cell 0
  have y1:=bT4.cell 1
  go_wp2_with fail
  have bR:=(bT4.set 0 (.int .i64 E)).set 1 (.slice va D.length vc)
  have hcE : Chg [w.heap.size + 1] w4 ((w4.setCell ⟨w.heap.size + 1,0,none⟩ (.int .i64 E)).setCell ⟨w.heap.size + 1,1,none⟩ (.slice va D.length vc)):=((Chg.refl _ _).set (List.mem_singleton.2 rfl) 0 _).set (List.mem_singleton.2 rfl) 1 _
  have r0:=bR.cell 0
  have r1:=bR.cell 1
  clear f0 f1 y0 y1
  generalize ((w4.setCell ⟨w.heap.size + 1,0,none⟩ (.int .i64 E)).setCell ⟨w.heap.size + 1,1,none⟩ (.slice va D.length vc)) = wE at *
  go_wp2
  refine chain_nil ?_
  go_wp2_with fail
  have hz1s:=hz1.size
  refine bodyPost_ret (v:=.agg #[.int .i64 E,.slice va D.length vc]) (by simp [results,Tryz.results25,go_sem,r0,r1];try exact ⟨rfl,rfl⟩) rfl ⟨_,col4,by rw [hr.out],by rw [hr.out];exact (hv.chg hcE (by omega)).base (by omega),by rw [hr.out];exact ⟨_,_,_,BoxAt.chg0 (BoxAt.cache (h1.kept hz1) rfl h4 e4) hcE cT4⟩,((exA.trans (Ext.kept (m:=12) h1.top hz1)).trans (e4.mono (show 11 ≤ 12 by decide))).newset hcE (by omega)⟩
theorem CaAt.paintI {i : Nat} {col : Nat → Nat} {w w1 : World} {P : Ptrs} {M C A : Nat} {vn vw : Value} {b : Bx} (h : CaAt col w P M C A vn vw b) (hk : Kept w w1) (hi : 11 < i) : CaAt (paint col i w w1) w1 P M C A vn vw b:=by
 refine ⟨h.wm.paint hk (by omega),h.blk.kept hk,by rw [paint_old h.blk.lt];exact h.cC,own_kept h.now hk,own_kept h.was hk,fun g hg=>?_,fun g hg=>?_,h.ne,h.age.frame (Same.paint hk)⟩
 · rw [paint_old (own_ltV h.now hg)];exact h.cn g hg
 · rw [paint_old (own_ltV h.was hg)];exact h.cw g hg
theorem BoxC.paintI {i : Nat} {col : Nat → Nat} {w w1 : World} {P : Ptrs} {c : Option Bx} {x : Wd} {cv : Value} (h : BoxC col w P c x cv) (hk : Kept w w1) (hi : 11 < i) : BoxC (paint col i w w1) w1 P c x cv:=by
 cases c with
 | none=>exact ⟨h.1,h.2.paint hk (by omega)⟩
 | some B =>
  obtain ⟨M,C,e,A,vn,vw,h0⟩:=h
  exact ⟨M,C,e,A,vn,vw,h0.paintI hk hi⟩
def Bo.newB (n : Nat) (seed : BitVec 64) (ideal : Bool) : Bx:=(Wd.new n seed ideal).boot.fresh (List.replicate n Lf.zero)
def Bo.new (n : Nat) (seed : BitVec 64) (ideal : Bool) : Bo:=⟨(Bo.newB n seed ideal).x,some (Bo.newB n seed ideal),[]⟩
theorem opens_new (n : Nat) (seed : BitVec 64) (ideal : Bool) : (Wd.new n seed ideal).opens = (0,(Bo.new n seed ideal).x,(Bo.new n seed ideal).c):=by
 have h1 : (Wd.new n seed ideal).boot.loadO = some (List.replicate n Lf.zero):=by
  unfold Wd.loadO
  rw [if_pos (show (Wd.new n seed ideal).boot.c.value = 0#64 from rfl)]
  rfl
 have h2 : (Wd.new n seed ideal).boot.loadX = (Wd.new n seed ideal).boot:=by
  unfold Wd.loadX
  rw [if_pos (show (Wd.new n seed ideal).boot.c.value = 0#64 from rfl)]
 unfold Wd.opens
 rw [if_neg (show ¬ (Wd.new n seed ideal).p.gone = true by show ¬ false = true;decide),if_neg (show ¬ (Wd.new n seed ideal).p.spend.1 = false by show ¬ true = false;decide),h1]
 show Bx.openR ((Wd.new n seed ideal).boot.loadX.fresh (List.replicate n Lf.zero)).finish = _
 rw [h2]
 have h3 : ((Wd.new n seed ideal).boot.fresh (List.replicate n Lf.zero)).finish = (0,(Wd.new n seed ideal).boot.fresh (List.replicate n Lf.zero)):=by
  unfold Bx.finish
  rw [if_pos (show ((Wd.new n seed ideal).boot.fresh (List.replicate n Lf.zero)).x.eps.length < 2 by show [1#32].length < 2;decide)]
 rw [h3]
 rfl
theorem Bo.new_good (n : Nat) (seed : BitVec 64) (ideal : Bool) (hs : isSl (n : Int) = true) : (Bo.new n seed ideal).good 17:=by
 have hn:=isSl_nat hs
 have f:=(Wd.new_fine n seed ideal hs).boot
 have g : (Bo.newB n seed ideal).good (0 + 1 + 16):=fresh_good f (by show 0#32 < nowOf [1#32];decide) (by show (List.replicate n Lf.zero).length = n;exact List.length_replicate) (zeros_ok n (by omega))
 exact ⟨f.up (by omega),by show 0#32 < nowOf [1#32];decide,fun B hB=>(by cases hB;exact g),fun s h=>(by cases h),Nat.zero_le _⟩
theorem play_new (n : Nat) (hsl : isSl (n : Int) = true) (seed : BitVec 64) (ideal : Bool) (w : World) :
 Calls Tryz.prog 9 #[.int .i64 (n : Int),U seed,.bool ideal] w fun e w'=>∃ P X col',e = .returned (.tuple #[.pointer (some ⟨X,0,none⟩),.int .i64 0]) ∧ BoxIn col' w' P X (Bo.new n seed ideal) ∧ Ext 12 (fun _=>0) col' w w':=by
 have CW:=world_new n hsl seed ideal w
 have ff:=Wd.new_fine n seed ideal hsl
 have hop:=opens_new n seed ideal
 obtain ⟨x,hx⟩ : ∃ x,x = Wd.new n seed ideal:=⟨_,rfl⟩
 have hp : 0#32 < nowOf x.eps:=by rw [hx];show 0#32 < nowOf [1#32];decide
 rw [← hx] at CW ff hop
 obtain ⟨o,ho⟩ : ∃ o,o = Bo.new n seed ideal:=⟨_,rfl⟩
 have hos : o.snaps = []:=by rw [ho];rfl
 have hoc : o.c = some (Bo.newB n seed ideal):=by rw [ho];rfl
 rw [← ho] at hop ⊢
 replace hop:=Lib.hid hop
 replace hos:=Lib.hid hos
 replace hoc:=Lib.hid hoc
 clear hx ho
 go_enter Tryz.func9,Tryz.ntmps9
 go_wp2_with fail
 refine CW.mono ?_
 rintro e w1 ⟨P,col1,rfl,h1,e1⟩
 have CO:=ca_open h1 ff (by omega) hp
 rw [hop.out] at CO
 go_wp2_with fail
 refine CO.mono ?_
 rintro e w2 ⟨v,col2,rfl,h2,e2⟩
 have hv : ∃ C,v = .pointer (some ⟨C,0,none⟩):=by rw [hoc.out] at h2;obtain ⟨M,C,e,_⟩:=h2;exact ⟨C,e⟩
 obtain ⟨C,rfl⟩:=hv
 go_wp2_with fail
 have hk : Kept w2 (w2.alloc (.cells #[.pointer (some ⟨P.W,0,none⟩),.pointer (some ⟨C,0,none⟩),.slice none 0 0] 83)):=(Below.refl _ _).alloc (Nat.le_refl _) _
 have bX:=Blk.new w2 #[.pointer (some ⟨P.W,0,none⟩),.pointer (some ⟨C,0,none⟩),.slice none 0 0] 83
 refine bodyPost_ret (v:=.tuple #[.pointer (some ⟨w2.heap.size,0,none⟩),.int .i64 0]) (by simp [results,Tryz.results9,go_sem];done) rfl ⟨P,w2.heap.size,paint col2 12 w2 _,rfl,⟨_,_,[],bX,paint_new (Nat.le_refl _) bX.lt,h2.paintI hk (by decide),by rw [hos.out];exact SnapC.nil⟩,((e1.mono (show 7 ≤ 12 by decide)).trans (e2.mono (show 11 ≤ 12 by decide))).trans (Ext.paint e2.top hk (by decide))⟩
theorem CaAt.chgI {col : Nat → Nat} {w w' : World} {P : Ptrs} {M C A g : Nat} {vn vw : Value} {b : Bx} (h : CaAt col w P M C A vn vw b) (hc : Chg [g] w w') (hg : 11 < col g) : CaAt col w' P M C A vn vw b:=by
 have hb : ∀ x ∈ [g],11 < col x:=fun x hx=>by rw [List.mem_singleton.1 hx];exact hg
 have s : ∀ j,j ≤ 11 → Same j col col w w':=fun j hj=>Same.chg hc fun x hx=>by have:=hb x hx;omega
 obtain ⟨b9,d9⟩:=(s 9 (by decide)).blk h.blk h.cC
 exact ⟨⟨h.wm.wd.chg hc (fun x hx=>.inr (by have:=hb x hx;omega)),((s 8 (by decide)).blk h.wm.mkr h.wm.cM).1,h.wm.cM⟩,b9,d9,(s 10 (by decide)).own h.now h.cn,(s 10 (by decide)).own h.was h.cw,h.cn,h.cw,h.ne,h.age.frame (s 11 (by decide))⟩
section
variable {col col' : Nat → Nat} {w w1 w' : World} {P : Ptrs} {X : Nat} {cv sv : Value} {us : List Value} {o : Bo}
theorem BoxC.chgI {c : Option Bx} {x : Wd} {g : Nat} (h : BoxC col w P c x cv) (hc : Chg [g] w w') (hg : 11 < col g) : BoxC col w' P c x cv:=by
 cases c with
 | none=>exact ⟨h.1,h.2.chg hc (fun b hb=>by rw [List.mem_singleton] at hb;subst hb;exact .inr (by omega))⟩
 | some B =>
  obtain ⟨M,C,e,A,vn,vw,h0⟩:=h
  exact ⟨M,C,e,A,vn,vw,h0.chgI hc hg⟩
theorem BoxC.ptr {c : Option Bx} {x : Wd} (h : BoxC col w P c x cv) : ∃ p,cv = .pointer p:=by
 cases c with
 | none=>exact ⟨_,h.1⟩
 | some B =>
  obtain ⟨M,C,e,_⟩:=h
  exact ⟨_,e⟩
theorem ext12 (ht : Top col w) (hX : col X = 12) (hc : Chg [X] w w') : Ext 12 col col w w' :=
 ⟨hc.os,hc.tape,hc.output,hc.size,fun _ _=>rfl,fun k hk=>by rw [ht k hk];omega,fun k hk=>ht k (Nat.le_trans hc.size hk),fun k hk hcc=>hc.block k hk (by rw [List.mem_singleton];intro e;rw [e,hX] at hcc;omega)⟩
theorem BoxAt.setC (h : BoxAt col w P X cv sv us o) {c : Option Bx} {x : Wd} {p : Option Addr} (hb : BoxC col' w1 P c x (.pointer p)) (e : Ext 11 col col' w w1) :
 BoxAt col' (w1.setCell ⟨X,1,none⟩ (.pointer p)) P X (.pointer p) sv us ⟨x,c,o.snaps⟩ ∧ Ext 12 col col' w (w1.setCell ⟨X,1,none⟩ (.pointer p)):=by
 obtain ⟨b1,d1⟩:=(e.same (i:=12) (by decide)).blk h.blk h.cX
 have hc : Chg [X] w1 (w1.setCell ⟨X,1,none⟩ (.pointer p)):=(Chg.refl _ _).set (List.mem_singleton.2 rfl) 1 _
 have b2:=b1.set 1 (.pointer p)
 simp only [qqA,qq0,qq1] at b2
 have ht : Top col' w1:=BoxC.wd hb |>.top
 have e2:=ext12 ht d1 hc
 have sn:=h.sn.frame (e.same (i:=12) (by decide))
 refine ⟨⟨b2,d1,hb.chgI hc (by rw [d1];decide),⟨sn.len,own_kind sn.row hc b1 (by decide),sn.one,sn.cs,fun i bs u hb hu=>?_⟩⟩,(e.mono (show 11 ≤ 12 by decide)).trans e2⟩
 obtain ⟨h1,h2⟩:=sn.each i bs u hb hu
 exact ⟨own_kind h1 hc b1 (by decide),h2⟩
end
theorem box_crash {col : Nat → Nat} {w : World} {P : Ptrs} {X : Nat} {o : Bo} (h : BoxIn col w P X o) {m : Nat} (g : o.good m) (hm : m ≤ 37000) (v : Value) (ks : List Bool) (kl : ks.length ≤ 100000) (hks : Sl w v ks.length (kcells ks)) (hu : ∀ a c,v = .slice (some a) ks.length c → 0 < (kcells ks).length → col a.block = 0) :
 Calls Tryz.prog 27 #[.pointer (some ⟨X,0,none⟩),v] w fun e w'=>∃ col',e = .returned (.int .i64 (o.crash ks).1.1) ∧ BoxIn col' w' P X (o.crash ks).2 ∧ Ext 12 col col' w w':=by
 obtain ⟨cv,sv,us,h0⟩:=h
 have q0:=h0.blk.cell 0
 have CC:=wd_crash h0.wd g.f (by omega) v ks kl hks hu
 have fc:=g.f.crash ks
 have hep : 0#32 < nowOf (o.cur.crash ks).eps:=g.ep
 obtain ⟨R,hR⟩ : ∃ R,R = o.crash ks:=⟨_,rfl⟩
 rw [← hR]
 have hr : R = Bo.open_ o.snaps (o.cur.crash ks).opens:=hR
 obtain ⟨y,hy⟩ : ∃ y,y = o.cur.crash ks:=⟨_,rfl⟩
 rw [← hy] at CC fc hep hr
 replace hr:=Lib.hid hr
 clear hR hy hks hu
 go_enter Tryz.func27,Tryz.ntmps27
 go_wp2_with fail
 refine CC.mono ?_
 rintro e w1 ⟨rfl,col1,hW1,e1⟩
 have h1:=h0.next hW1 e1
 have p0:=h1.blk.cell 0
 have CO:=ca_open hW1 fc (by omega) hep
 obtain ⟨F,hF⟩ : ∃ F,F = y.opens:=⟨_,rfl⟩
 rw [← hF] at CO
 have hr1 : R = Bo.open_ o.snaps F:=by rw [hr.out,hF]
 obtain ⟨E,x2,c2⟩:=F
 simp only at CO
 have hr2 : R = ((E,[]),⟨x2,c2,o.snaps⟩):=hr1
 replace hr2:=Lib.hid hr2
 clear q0 hr1 hF
 go_wp2_with fail
 refine CO.mono ?_
 rintro e w2 ⟨v2,col2,rfl,hb2,e2⟩
 obtain ⟨p,rfl⟩:=hb2.ptr
 obtain ⟨h3,e3⟩:=h1.setC hb2 e2
 obtain ⟨b1,d1⟩:=(e2.same (i:=12) (by decide)).blk h1.blk h1.cX
 have y1:=b1.free 1
 have x1:=b1.cell 1
 clear p0
 go_wp2_with fail
 refine bodyPost_ret (v:=.int .i64 E) (by simp [results,Tryz.results27,go_sem];done) rfl ⟨col2,by rw [hr2.out],by rw [hr2.out];exact ⟨_,_,_,h3⟩,(e1.mono (show 6 ≤ 12 by decide)).trans e3⟩
theorem box_back_no {col : Nat → Nat} {w : World} {P : Ptrs} {X : Nat} {o : Bo} (h : BoxIn col w P X o) (n : Int) (hn : ¬ (0 ≤ n ∧ n < (o.snaps.length : Int))) :
 Calls Tryz.prog 30 #[.pointer (some ⟨X,0,none⟩),.int .i64 n] w fun e w'=>∃ col',e = .returned (.int .i64 (o.back n).1.1) ∧ BoxIn col' w' P X (o.back n).2 ∧ Ext 12 col col' w w':=by
 obtain ⟨cv,sv,us,h0⟩:=h
 have hr : o.back n = ((1,[]),o):=by unfold Bo.back;rw [if_neg hn]
 rw [hr]
 replace hr:=Lib.hid hr
 obtain ⟨sa,sc,rfl⟩:=(Sl.of_own h0.sn.row).len
 obtain ⟨L,hL⟩ : ∃ L,L = o.snaps.length:=⟨_,rfl⟩
 rw [← hL] at h0 hn
 replace hL:=Lib.hid hL
 by_cases hn0 : n < 0
 · clear hn
   go_enter Tryz.func30,Tryz.ntmps30
   go_wp2_with fail
   refine wp_region_chainK [(0,0),(1,0),(2,0),(3,0),(4,0),(5,0),(6,0),(7,0),(8,0),(9,0),(10,0),(11,0),(12,0),(13,0),(14,0),(15,0),(16,0),(17,0),(18,0),(19,0),(20,0),(21,0),(22,0),(23,0),(24,0),(25,0),(26,1),(27,0),(28,0)] (by kernel_rfl) (by kernel_rfl) ?_
   intro z1 hz1
   repeat
    refine chain_light _ rfl (fun K hK=>?_)
    first
     | (refine qqP (by rfl) ?_;apply Exists.intro;refine ⟨fun w' hw'=>?_,hK _ ?_⟩;(have b:=h0.blk.kept (hz1.of hw');have b0:=Blk.cell b 0;have b2:=Blk.cell b 2;clear b;first | (go_simp;done) | (go_simp;rfl)))
     | refine qqN (by rfl) (hK _ ?_)
    clear hK K;simp only [Act.put,qqA,qq0,qq1]
   refine chain_heavy _ rfl (fun K hK=>?_)
   refine qqN (by rfl) ?_
   intro hK'
   refine hK' _ _ ?_
   clear hK hK' K
   simp only [Act.put,qqA,qq0,qq1]
   repeat
    refine chain_light _ rfl (fun K hK=>?_)
    first
     | (refine qqP (by rfl) ?_;apply Exists.intro;refine ⟨fun w' hw'=>?_,hK _ ?_⟩;(first | (go_simp;done) | (go_simp;rfl)))
     | refine qqN (by rfl) (hK _ ?_)
    clear hK K;simp only [Act.put,qqA,qq0,qq1]
   refine chain_nil ?_
   go_wp2_with fail
   refine bodyPost_ret (v:=.int .i64 1) (by simp [results,Tryz.results30,go_sem];done) rfl ⟨col,rfl,⟨_,_,_,h0.kept hz1⟩,Ext.kept h0.top hz1⟩
 · have hn1 : (L : Int) ≤ n:=by omega
   have e1 : decide (n < 0) = false:=by simpa using hn0
   have e2 : decide ((L : Int) ≤ n) = true:=by simpa using hn1
   clear hn
   go_enter Tryz.func30,Tryz.ntmps30
   go_wp2_with fail
   refine wp_region_chainK [(0,0),(1,0),(2,0),(3,0),(4,0),(5,0),(6,0),(7,0),(8,0),(9,0),(10,0),(11,0),(12,0),(13,0),(14,0),(15,0),(16,0),(17,0),(18,0),(19,0),(20,0),(21,0),(22,0),(23,0),(24,0),(25,0),(26,1),(27,0),(28,0)] (by kernel_rfl) (by kernel_rfl) ?_
   intro z1 hz1
   repeat
    refine chain_light _ rfl (fun K hK=>?_)
    first
     | (refine qqP (by rfl) ?_;apply Exists.intro;refine ⟨fun w' hw'=>?_,hK _ ?_⟩;(have b:=h0.blk.kept (hz1.of hw');have b0:=Blk.cell b 0;have b2:=Blk.cell b 2;clear b;first | (go_simp;done) | (go_simp;rfl)))
     | refine qqN (by rfl) (hK _ ?_)
    clear hK K;simp only [Act.put,qqA,qq0,qq1]
   refine chain_heavy _ rfl (fun K hK=>?_)
   refine qqN (by rfl) ?_
   intro hK'
   refine hK' _ _ ?_
   clear hK hK' K
   simp only [Act.put,qqA,qq0,qq1]
   repeat
    refine chain_light _ rfl (fun K hK=>?_)
    first
     | (refine qqP (by rfl) ?_;apply Exists.intro;refine ⟨fun w' hw'=>?_,hK _ ?_⟩;(first | (go_simp;done) | (go_simp;rfl)))
     | refine qqN (by rfl) (hK _ ?_)
    clear hK K;simp only [Act.put,qqA,qq0,qq1]
   refine chain_nil ?_
   go_wp2_with fail
   refine bodyPost_ret (v:=.int .i64 1) (by simp [results,Tryz.results30,go_sem];done) rfl ⟨col,rfl,⟨_,_,_,h0.kept hz1⟩,Ext.kept h0.top hz1⟩
theorem box_back_yes {col : Nat → Nat} {w : World} {P : Ptrs} {X : Nat} {o : Bo} (h : BoxIn col w P X o) {m : Nat} (g : o.good m) (k : Nat) (hk : k < o.snaps.length) (hl9 : o.snaps.length ≤ 100000) :
 Calls Tryz.prog 30 #[.pointer (some ⟨X,0,none⟩),.int .i64 (k : Int)] w fun e w'=>∃ col',e = .returned (.int .i64 (o.back (k : Int)).1.1) ∧ BoxIn col' w' P X (o.back (k : Int)).2 ∧ Ext 12 col col' w w':=by
 obtain ⟨cv,sv,us,h0⟩:=h
 obtain ⟨bs,hbs⟩ : ∃ bs,bs = o.snaps[k]:=⟨_,rfl⟩
 have hsk : o.snaps[k]? = some bs:=by rw [List.getElem?_eq_getElem hk,hbs]
 have hr : o.back (k : Int) = ((0,[]),o.setX (o.cur.sBack bs)):=by
  unfold Bo.back
  rw [if_pos ⟨by omega,by omega⟩]
  simp only [Int.toNat_natCast]
  rw [hsk]
  rfl
 rw [hr]
 replace hr:=Lib.hid hr
 have hbl : bs.length = gSize o.cur.n:=g.sn bs (by rw [hbs];exact List.getElem_mem hk)
 have hku : k < us.length:=by rw [h0.sn.len];exact hk
 obtain ⟨u,hu⟩ : ∃ u,u = us[k]:=⟨_,rfl⟩
 have huk : us[k]? = some u:=by rw [List.getElem?_eq_getElem hku,hu]
 have hus:=(h0.sn.each k bs u hsk huk).1
 obtain ⟨g1,c1,hsv⟩:=own_some h0.sn.row (by omega)
 subst hsv
 have hcu : w.cell? ⟨g1,k,none⟩ = some u:=by
  obtain ⟨b',off',cap',e,_,_,_,hx⟩:=(Sl.of_own h0.sn.row).at (by rw [h0.sn.len];omega)
  cases e
  have:=hx k u huk
  simpa using this
 obtain ⟨L,hL⟩ : ∃ L,L = o.snaps.length:=⟨_,rfl⟩
 rw [← hL] at h0 hk
 have i1 : (k : Int) < (L : Int):=by omega
 have i2 : ¬ (k : Int) < 0:=by omega
 have i3 : ¬ (L : Int) ≤ (k : Int):=by omega
 have i4 : (0 : Int) ≤ (k : Int):=by omega
 have e1 : decide ((k : Int) < 0) = false:=decide_eq_false i2
 have e2 : decide ((L : Int) ≤ (k : Int)) = false:=decide_eq_false i3
 have e3 : decide (L ≤ k) = false:=decide_eq_false (by omega)
 have i5 : ¬ L ≤ k:=by omega
 have i6 : k < L:=by omega
 obtain ⟨cur,hgb⟩:=own_blkOf h0.sn.row rfl
 have hck : cur[k]? = some u:=(hgb.cell k).symm.trans hcu
 replace hL:=Lib.hid hL
 replace hbl':=Lib.hid hbl
 clear hsk hbs hku hu huk hl9 hk
 go_enter Tryz.func30,Tryz.ntmps30
 go_wp2_with fail
 refine wp_region_chainRel (SameOn (fun k=>k < w.heap.size ∧ (col k = 0 ∨ 6 < col k))) [(0,0),(1,0),(2,0),(3,0),(4,0),(5,0),(6,0),(7,0),(8,0),(9,0),(10,0),(11,0),(12,0),(13,0),(14,0),(15,0),(16,0),(17,0),(18,0),(19,0),(20,0),(21,0),(22,0),(23,0),(24,0),(25,0),(26,1),(27,0),(28,0)] (by kernel_rfl) (by kernel_rfl) ?_ ?_ ?_
 · exact fun _=>SameOn.refl _
 · exact fun _ _ _ h1 h2=>h1.trans h2
 intro z1 hz1
 have hbz:=h0.blk.kept hz1
 have hdz:=h0.wd.blk.kept hz1
 have hgz:=hgb.kept hz1
 repeat
  refine chain_light _ rfl (fun K hK=>?_)
  first
   | (refine qqP (by rfl) ?_;apply Exists.intro;refine ⟨fun w' hw'=>?_,hK _ ?_⟩;(have b:=(hw'.block _ hbz.lt ⟨h0.blk.lt,.inr (by rw [h0.cX];decide)⟩).trans hbz;have b0:=Blk.cell b 0;have b2:=Blk.cell b 2;clear b;have d:=(hw'.block _ hdz.lt ⟨h0.wd.blk.lt,.inr (by rw [h0.wd.cW];decide)⟩).trans hdz;have d2:=Blk.cell d 2;clear d;have v:=(hw'.block _ hgz.lt ⟨hgb.lt,.inr (by rw [h0.sn.cs g1 rfl];decide)⟩).trans hgz;have u0:=(Blk.cell v k).trans hck;clear v;first | (go_simp;done) | (go_simp;rfl)))
   | refine qqN (by rfl) (hK _ ?_)
  clear hK K;simp only [Act.put,qqA,qq0,qq1]
 refine chain_heavy _ rfl (fun K hK=>?_)
 refine qqP (by rfl) ?_
 go_wp2_with fail
 refine (wd_back (h0.wd.kept hz1) g.f.ok u bs hbl (Sl.of_own (own_kept hus hz1))).mono ?_
 rintro e w2 ⟨rfl,col2,hW2,e2⟩
 have S2:=e2.sameOn (w0:=w) (col0:=col) (fun k hk=>rfl)
 go_wp2
 refine hK _ _ (S2) ?_
 clear hK K
 try simp only [Act.put,qqA,qq0,qq1]
 repeat
  refine chain_light _ rfl (fun K hK=>?_)
  first
   | (refine qqP (by rfl) ?_;apply Exists.intro;refine ⟨fun w' hw'=>?_,hK _ ?_⟩;(first | (go_simp;done) | (go_simp;rfl)))
   | refine qqN (by rfl) (hK _ ?_)
  clear hK K;simp only [Act.put,qqA,qq0,qq1]
 refine chain_nil ?_
 have h2:=(h0.kept hz1).next hW2 e2
 go_wp2_with fail
 refine bodyPost_ret (v:=.int .i64 0) (by simp [results,Tryz.results30,go_sem];done) rfl ⟨col2,rfl,⟨_,_,_,h2⟩,(Ext.kept (m:=12) h0.top hz1).trans (e2.mono (show 6 ≤ 12 by decide))⟩
structure AcAt (col : Nat → Nat) (w : World) (a : Ac) (v1 v2 v3 : Value) : Prop where
 s1 : SlC col w v1 a.call.data
 s2 : SlC col w v2 a.data
 s3 : Sl w v3 a.keep.length (kcells a.keep)
 c3 : ∀ a' c,v3 = .slice (some a') a.keep.length c → 0 < (kcells a.keep).length → col a'.block = 0
 l1 : a.call.data.length ≤ 1000
 l2 : a.data.length ≤ 1000
 l3 : a.keep.length ≤ 1000
theorem AcAt.ext {m : Nat} {col col' : Nat → Nat} {w w' : World} {a : Ac} {v1 v2 v3 : Value} (h : AcAt col w a v1 v2 v3) (e : Ext m col col' w w') : AcAt col' w' a v1 v2 v3 :=
 ⟨h.s1.ext e,h.s2.ext e,(e.sl0c h.s3 h.c3).1,(e.sl0c h.s3 h.c3).2,h.l1,h.l2,h.l3⟩
theorem BoxIn.kept {col : Nat → Nat} {w w' : World} {P : Ptrs} {X : Nat} {o : Bo} (h : BoxIn col w P X o) (hk : Kept w w') : BoxIn col w' P X o:=by
 obtain ⟨cv,sv,us,h0⟩:=h
 exact ⟨cv,sv,us,h0.kept hk⟩
theorem BoxIn.chg0 {col : Nat → Nat} {w w' : World} {P : Ptrs} {X g : Nat} {o : Bo} (h : BoxIn col w P X o) (hc : Chg [g] w w') (hg : col g = 0) : BoxIn col w' P X o:=by
 obtain ⟨cv,sv,us,h0⟩:=h
 exact ⟨cv,sv,us,h0.chg0 hc hg⟩
theorem BoxIn.top {col : Nat → Nat} {w : World} {P : Ptrs} {X : Nat} {o : Bo} (h : BoxIn col w P X o) : Top col w:=by
 obtain ⟨cv,sv,us,h0⟩:=h
 exact h0.top
theorem box_do0 {col : Nat → Nat} {w : World} {P : Ptrs} {X : Nat} {o : Bo} (h : BoxIn col w P X o) {m : Nat} (g : o.good m) (hm : m ≤ 36000) (a : Ac) (kd : Int) (hnk : kd ≠ 1 ∧ kd ≠ 2 ∧ kd ≠ 3 ∧ kd ≠ 4 ∧ kd ≠ 5 ∧ kd ≠ 6 ∧ kd ≠ 7) (hkd : a.kind = kd) (a1 a2 a3 : Option Addr) (c1 c2 c3 : Nat) (ha : AcAt col w a (.slice a1 a.call.data.length c1) (.slice a2 a.data.length c2) (.slice a3 a.keep.length c3)) : Calls Tryz.prog 11 #[.pointer (some ⟨X,0,none⟩),.agg #[.int .i64 a.kind,.int .i64 a.call.kind,.int .i64 a.call.lba,.slice a1 a.call.data.length c1,.int .i64 a.n,.int .i64 a.off,.slice a2 a.data.length c2,.slice a3 a.keep.length c3]] w fun e w'=>∃ v col',e = .returned (.agg #[.int .i64 (o.act a).1.1,v]) ∧ RowC col' w' w.heap.size v (o.act a).1.2 ∧ BoxIn col' w' P X (o.act a).2 ∧ Ext 12 col col' w w':=by
 obtain ⟨ck,hck⟩ : ∃ k,k = a.call.kind:=⟨_,rfl⟩
 obtain ⟨lba,hlba⟩ : ∃ k,k = a.call.lba:=⟨_,rfl⟩
 obtain ⟨n1,hn1⟩ : ∃ k,k = a.call.data.length:=⟨_,rfl⟩
 obtain ⟨n2,hn2⟩ : ∃ k,k = a.data.length:=⟨_,rfl⟩
 obtain ⟨n3,hn3⟩ : ∃ k,k = a.keep.length:=⟨_,rfl⟩
 obtain ⟨an,han⟩ : ∃ k,k = a.n:=⟨_,rfl⟩
 obtain ⟨off,hoff⟩ : ∃ k,k = a.off:=⟨_,rfl⟩
 obtain ⟨R,hR⟩ : ∃ R,R = o.act a:=⟨_,rfl⟩
 obtain ⟨wA,hwA⟩ : ∃ y,y = ((w.alloc (.cells #[.int .i64 kd,.int .i64 ck,.int .i64 lba,.slice a1 n1 c1,.int .i64 an,.int .i64 off,.slice a2 n2 c2,.slice a3 n3 c3] 37)).alloc (.cells #[.int .i64 0,.slice none 0 0] 39)):=⟨_,rfl⟩
 have hkA : Kept w wA:=by rw [hwA];exact ((Below.refl _ _).alloc (Nat.le_refl _) _).alloc (by simp) _
 have bX : Blk wA w.heap.size #[.int .i64 kd,.int .i64 ck,.int .i64 lba,.slice a1 n1 c1,.int .i64 an,.int .i64 off,.slice a2 n2 c2,.slice a3 n3 c3] 37:=by
  rw [hwA]
  exact (Blk.new w _ _).kept ((Below.refl _ _).alloc (by simp) _)
 have bT : Blk wA (w.heap.size + 1) #[.int .i64 0,.slice none 0 0] 39:=by
  rw [hwA]
  have:=Blk.new (w.alloc (.cells #[.int .i64 kd,.int .i64 ck,.int .i64 lba,.slice a1 n1 c1,.int .i64 an,.int .i64 off,.slice a2 n2 c2,.slice a3 n3 c3] 37)) #[.int .i64 0,.slice none 0 0] 39
  rw [World.size_alloc] at this
  exact this
 have hA:=h.kept hkA
 have exA : Ext 12 col col w wA:=Ext.kept h.top hkA
 have cX : col w.heap.size = 0:=h.top _ (Nat.le_refl _)
 have cT : col (w.heap.size + 1) = 0:=h.top _ (by omega)
 have hszA:=bT.lt
 have hr : R = ((1,[]),o):=by
  rw [hR];unfold Bo.act;rw [if_neg (by rw [hkd];omega),if_neg (by rw [hkd];omega),if_neg (by rw [hkd];omega),if_neg (by rw [hkd];omega),if_neg (by rw [hkd];omega),if_neg (by rw [hkd];omega),if_neg (by rw [hkd];omega)]
 rw [hkd,← hck,← hlba,← hn1,← hn2,← hn3,← han,← hoff,← hR]
 replace hr:=Lib.hid hr
 clear hck hlba hn1 hn2 hn3 han hoff hR
 have e1 : (kd == 1) = false:=by simp;omega
 have e2 : (kd == 2) = false:=by simp;omega
 have e3 : (kd == 3) = false:=by simp;omega
 have e4 : (kd == 4) = false:=by simp;omega
 have e5 : (kd == 5) = false:=by simp;omega
 have e6 : (kd == 6) = false:=by simp;omega
 have e7 : (kd == 7) = false:=by simp;omega
 clear hnk
 go_enter Tryz.func11,Tryz.ntmps11
 go_wp2_with fail
 have hk8 : Kept w ((w.alloc (.cells #[.int .i64 kd,.int .i64 ck,.int .i64 lba,.slice a1 n1 c1,.int .i64 an,.int .i64 off,.slice a2 n2 c2,.slice a3 n3 c3] 37)).alloc (.cells #[.int .i64 1,.slice none 0 0] 39)):=((Below.refl _ _).alloc (Nat.le_refl _) _).alloc (by simp) _
 refine bodyPost_ret (v:=.agg #[.int .i64 1,.slice none 0 0]) (by simp [results,Tryz.results11,go_sem];try exact ⟨rfl,rfl⟩) rfl ⟨_,col,by rw [hr.out],by rw [hr.out];exact RowC.nil,by rw [hr.out];exact h.kept hk8,Ext.kept h.top hk8⟩
theorem box_do1 {col : Nat → Nat} {w : World} {P : Ptrs} {X : Nat} {o : Bo} (h : BoxIn col w P X o) {m : Nat} (g : o.good m) (hm : m ≤ 36000) (a : Ac) (hkd : a.kind = 1) (a1 a2 a3 : Option Addr) (c1 c2 c3 : Nat) (ha : AcAt col w a (.slice a1 a.call.data.length c1) (.slice a2 a.data.length c2) (.slice a3 a.keep.length c3)) : Calls Tryz.prog 11 #[.pointer (some ⟨X,0,none⟩),.agg #[.int .i64 a.kind,.int .i64 a.call.kind,.int .i64 a.call.lba,.slice a1 a.call.data.length c1,.int .i64 a.n,.int .i64 a.off,.slice a2 a.data.length c2,.slice a3 a.keep.length c3]] w fun e w'=>∃ v col',e = .returned (.agg #[.int .i64 (o.act a).1.1,v]) ∧ RowC col' w' w.heap.size v (o.act a).1.2 ∧ BoxIn col' w' P X (o.act a).2 ∧ Ext 12 col col' w w':=by
 obtain ⟨ck,hck⟩ : ∃ k,k = a.call.kind:=⟨_,rfl⟩
 obtain ⟨lba,hlba⟩ : ∃ k,k = a.call.lba:=⟨_,rfl⟩
 obtain ⟨n1,hn1⟩ : ∃ k,k = a.call.data.length:=⟨_,rfl⟩
 obtain ⟨n2,hn2⟩ : ∃ k,k = a.data.length:=⟨_,rfl⟩
 obtain ⟨n3,hn3⟩ : ∃ k,k = a.keep.length:=⟨_,rfl⟩
 obtain ⟨an,han⟩ : ∃ k,k = a.n:=⟨_,rfl⟩
 obtain ⟨off,hoff⟩ : ∃ k,k = a.off:=⟨_,rfl⟩
 obtain ⟨R,hR⟩ : ∃ R,R = o.act a:=⟨_,rfl⟩
 obtain ⟨wA,hwA⟩ : ∃ y,y = ((w.alloc (.cells #[.int .i64 1,.int .i64 ck,.int .i64 lba,.slice a1 n1 c1,.int .i64 an,.int .i64 off,.slice a2 n2 c2,.slice a3 n3 c3] 37)).alloc (.cells #[.int .i64 0,.slice none 0 0] 39)):=⟨_,rfl⟩
 have hkA : Kept w wA:=by rw [hwA];exact ((Below.refl _ _).alloc (Nat.le_refl _) _).alloc (by simp) _
 have bX : Blk wA w.heap.size #[.int .i64 1,.int .i64 ck,.int .i64 lba,.slice a1 n1 c1,.int .i64 an,.int .i64 off,.slice a2 n2 c2,.slice a3 n3 c3] 37:=by
  rw [hwA]
  exact (Blk.new w _ _).kept ((Below.refl _ _).alloc (by simp) _)
 have bT : Blk wA (w.heap.size + 1) #[.int .i64 0,.slice none 0 0] 39:=by
  rw [hwA]
  have:=Blk.new (w.alloc (.cells #[.int .i64 1,.int .i64 ck,.int .i64 lba,.slice a1 n1 c1,.int .i64 an,.int .i64 off,.slice a2 n2 c2,.slice a3 n3 c3] 37)) #[.int .i64 0,.slice none 0 0] 39
  rw [World.size_alloc] at this
  exact this
 have hA:=h.kept hkA
 have exA : Ext 12 col col w wA:=Ext.kept h.top hkA
 have cX : col w.heap.size = 0:=h.top _ (Nat.le_refl _)
 have cT : col (w.heap.size + 1) = 0:=h.top _ (by omega)
 have hszA:=bT.lt
 have CB:=box_call hA g (by omega) a.call a1 c1 (by have:=ha.l1;omega) ((ha.ext (Ext.kept (m:=12) h.top hkA)).s1)
 have hr : R = o.call a.call:=by rw [hR];unfold Bo.act;rw [if_pos hkd]
 rw [hkd,← hck,← hlba,← hn1,← hn2,← hn3,← han,← hoff,← hR]
 rw [← hr,← hck,← hlba,← hn1] at CB
 replace hr:=Lib.hid hr
 rw [hwA] at CB
 clear hck hlba hn1 hn2 hn3 han hoff hR
 obtain ⟨⟨E,D⟩,o2⟩:=R
 simp only at CB ⊢
 go_enter Tryz.func11,Tryz.ntmps11
 go_wp2_with fail
 refine CB.mono ?_
 rintro e w2 ⟨v,col2,rfl,hv,h2,e2⟩
 rw [← hwA] at e2 hv
 obtain ⟨va,vc,rfl⟩:=(Sl.of_own hv.1).len
 obtain ⟨bT2,cT2⟩:=e2.blk0 bT cT
 have hrr : Hid (((E,D),o2) = ((E,D),o2)):=Lib.hid rfl
 have f0:=(bT2).free 0
 have f1:=(bT2).free 1
 have y0:=(bT2).cell 0
 have y1:=(bT2).cell 1
 go_wp2_with fail
 have bR:=((bT2).set 0 (.int .i64 (E))).set 1 (.slice va D.length vc)
 have hcE : Chg [w.heap.size + 1] w2 ((w2.setCell ⟨w.heap.size + 1,0,none⟩ (.int .i64 (E))).setCell ⟨w.heap.size + 1,1,none⟩ (.slice va D.length vc)):=((Chg.refl _ _).set (List.mem_singleton.2 rfl) 0 _).set (List.mem_singleton.2 rfl) 1 _
 have r0:=bR.cell 0
 have r1:=bR.cell 1
 clear f0 f1 y0 y1
 generalize ((w2.setCell ⟨w.heap.size + 1,0,none⟩ (.int .i64 (E))).setCell ⟨w.heap.size + 1,1,none⟩ (.slice va D.length vc)) = wE at *
 refine bodyPost_ret (v:=.agg #[.int .i64 (E),.slice va D.length vc]) (by simp [results,Tryz.results11,go_sem,r0,r1];try exact ⟨rfl,rfl⟩) rfl ⟨_,col2,rfl,(hv.chg hcE (by omega)).base (by omega),BoxIn.chg0 h2 hcE cT2,(exA.trans e2).newset hcE (by omega)⟩
theorem box_do2 {col : Nat → Nat} {w : World} {P : Ptrs} {X : Nat} {o : Bo} (h : BoxIn col w P X o) {m : Nat} (g : o.good m) (hm : m ≤ 36000) (a : Ac) (hkd : a.kind = 2) (a1 a2 a3 : Option Addr) (c1 c2 c3 : Nat) (ha : AcAt col w a (.slice a1 a.call.data.length c1) (.slice a2 a.data.length c2) (.slice a3 a.keep.length c3)) : Calls Tryz.prog 11 #[.pointer (some ⟨X,0,none⟩),.agg #[.int .i64 a.kind,.int .i64 a.call.kind,.int .i64 a.call.lba,.slice a1 a.call.data.length c1,.int .i64 a.n,.int .i64 a.off,.slice a2 a.data.length c2,.slice a3 a.keep.length c3]] w fun e w'=>∃ v col',e = .returned (.agg #[.int .i64 (o.act a).1.1,v]) ∧ RowC col' w' w.heap.size v (o.act a).1.2 ∧ BoxIn col' w' P X (o.act a).2 ∧ Ext 12 col col' w w':=by
 obtain ⟨ck,hck⟩ : ∃ k,k = a.call.kind:=⟨_,rfl⟩
 obtain ⟨lba,hlba⟩ : ∃ k,k = a.call.lba:=⟨_,rfl⟩
 obtain ⟨n1,hn1⟩ : ∃ k,k = a.call.data.length:=⟨_,rfl⟩
 obtain ⟨n2,hn2⟩ : ∃ k,k = a.data.length:=⟨_,rfl⟩
 obtain ⟨n3,hn3⟩ : ∃ k,k = a.keep.length:=⟨_,rfl⟩
 obtain ⟨an,han⟩ : ∃ k,k = a.n:=⟨_,rfl⟩
 obtain ⟨off,hoff⟩ : ∃ k,k = a.off:=⟨_,rfl⟩
 obtain ⟨R,hR⟩ : ∃ R,R = o.act a:=⟨_,rfl⟩
 obtain ⟨wA,hwA⟩ : ∃ y,y = ((w.alloc (.cells #[.int .i64 2,.int .i64 ck,.int .i64 lba,.slice a1 n1 c1,.int .i64 an,.int .i64 off,.slice a2 n2 c2,.slice a3 n3 c3] 37)).alloc (.cells #[.int .i64 0,.slice none 0 0] 39)):=⟨_,rfl⟩
 have hkA : Kept w wA:=by rw [hwA];exact ((Below.refl _ _).alloc (Nat.le_refl _) _).alloc (by simp) _
 have bX : Blk wA w.heap.size #[.int .i64 2,.int .i64 ck,.int .i64 lba,.slice a1 n1 c1,.int .i64 an,.int .i64 off,.slice a2 n2 c2,.slice a3 n3 c3] 37:=by
  rw [hwA]
  exact (Blk.new w _ _).kept ((Below.refl _ _).alloc (by simp) _)
 have bT : Blk wA (w.heap.size + 1) #[.int .i64 0,.slice none 0 0] 39:=by
  rw [hwA]
  have:=Blk.new (w.alloc (.cells #[.int .i64 2,.int .i64 ck,.int .i64 lba,.slice a1 n1 c1,.int .i64 an,.int .i64 off,.slice a2 n2 c2,.slice a3 n3 c3] 37)) #[.int .i64 0,.slice none 0 0] 39
  rw [World.size_alloc] at this
  exact this
 have hA:=h.kept hkA
 have exA : Ext 12 col col w wA:=Ext.kept h.top hkA
 have cX : col w.heap.size = 0:=h.top _ (Nat.le_refl _)
 have cT : col (w.heap.size + 1) = 0:=h.top _ (by omega)
 have hszA:=bT.lt
 obtain ⟨cv,sv,us,hb0⟩:=hA
 have hr : R = ((0,[]),o.setX (o.cur.setP (o.cur.p.setFuse an))):=by
  rw [hR];unfold Bo.act;rw [if_neg (by rw [hkd];decide),if_pos hkd,← han]
 rw [hkd,← hck,← hlba,← hn1,← hn2,← hn3,← han,← hoff,← hR]
 replace hr:=Lib.hid hr
 clear hck hlba hn1 hn2 hn3 han hoff hR
 go_enter Tryz.func11,Tryz.ntmps11
 go_wp2_with fail
 rw [← hwA]
 clear hwA
 refine wp_region_chainRel (SameOn (fun k=>k < wA.heap.size ∧ (col k = 0 ∨ 6 < col k))) [(0,0),(1,0),(2,0),(3,0),(4,0),(5,0),(6,0),(7,0),(8,0),(9,1)] (by kernel_rfl) (by kernel_rfl) ?_ ?_ ?_
 · exact fun _=>SameOn.refl _
 · exact fun _ _ _ h1 h2=>h1.trans h2
 intro z1 hz1
 have hbz:=hb0.blk.kept hz1
 have hdz:=hb0.wd.blk.kept hz1
 have hxz:=bX.kept hz1
 repeat
  refine chain_light _ rfl (fun K hK=>?_)
  first
   | (refine qqP (by rfl) ?_;apply Exists.intro;refine ⟨fun w' hw'=>?_,hK _ ?_⟩;(have b:=(hw'.block _ hbz.lt ⟨hb0.blk.lt,.inr (by rw [hb0.cX];decide)⟩).trans hbz;have b0:=Blk.cell b 0;clear b;have d:=(hw'.block _ hdz.lt ⟨hb0.wd.blk.lt,.inr (by rw [hb0.wd.cW];decide)⟩).trans hdz;have d1:=Blk.cell d 1;clear d;have x:=(hw'.block _ hxz.lt ⟨bX.lt,.inl cX⟩).trans hxz;have x4:=Blk.cell x 4;clear x;first | (go_simp;done) | (go_simp;rfl)))
   | refine qqN (by rfl) (hK _ ?_)
  clear hK K;simp only [Act.put,qqA,qq0,qq1]
 refine chain_heavy _ rfl (fun K hK=>?_)
 refine qqP (by rfl) ?_
 go_wp2_with fail
 refine (wd_fuse (hb0.wd.kept hz1) an).mono ?_
 rintro e w2 ⟨rfl,col2,hW2,e2⟩
 have S2:=e2.sameOn (w0:=wA) (col0:=col) (fun k hk=>rfl)
 go_wp2
 refine hK _ _ (S2) ?_
 clear hK K
 try simp only [Act.put,qqA,qq0,qq1]
 refine chain_nil ?_
 have h2 : BoxIn col2 w2 P X (o.setX (o.cur.setP (o.cur.p.setFuse an))):=⟨_,_,_,(hb0.kept hz1).next hW2 e2⟩
 have ex2:=(exA.trans (Ext.kept (m:=12) hb0.top hz1)).trans (e2.mono (show 6 ≤ 12 by decide))
 have hz1s:=hz1.size
 obtain ⟨bT2,cT2⟩:=e2.blk0 (bT.kept hz1) cT
 have f0:=(bT2).free 0
 have f1:=(bT2).free 1
 have y0:=(bT2).cell 0
 have y1:=(bT2).cell 1
 go_wp2_with fail
 have bR:=((bT2).set 0 (.int .i64 (0))).set 1 (.slice none 0 0)
 have hcE : Chg [w.heap.size + 1] w2 ((w2.setCell ⟨w.heap.size + 1,0,none⟩ (.int .i64 (0))).setCell ⟨w.heap.size + 1,1,none⟩ (.slice none 0 0)):=((Chg.refl _ _).set (List.mem_singleton.2 rfl) 0 _).set (List.mem_singleton.2 rfl) 1 _
 have r0:=bR.cell 0
 have r1:=bR.cell 1
 clear f0 f1 y0 y1
 generalize ((w2.setCell ⟨w.heap.size + 1,0,none⟩ (.int .i64 (0))).setCell ⟨w.heap.size + 1,1,none⟩ (.slice none 0 0)) = wE at *
 refine bodyPost_ret (v:=.agg #[.int .i64 (0),.slice none 0 0]) (by simp [results,Tryz.results11,go_sem,r0,r1];try exact ⟨rfl,rfl⟩) rfl ⟨_,col2,by rw [hr.out],by rw [hr.out];exact RowC.nil,by rw [hr.out];exact BoxIn.chg0 h2 hcE cT2,(ex2).newset hcE (by omega)⟩
theorem box_do3 {col : Nat → Nat} {w : World} {P : Ptrs} {X : Nat} {o : Bo} (h : BoxIn col w P X o) {m : Nat} (g : o.good m) (hm : m ≤ 36000) (a : Ac) (hkd : a.kind = 3) (a1 a2 a3 : Option Addr) (c1 c2 c3 : Nat) (ha : AcAt col w a (.slice a1 a.call.data.length c1) (.slice a2 a.data.length c2) (.slice a3 a.keep.length c3)) : Calls Tryz.prog 11 #[.pointer (some ⟨X,0,none⟩),.agg #[.int .i64 a.kind,.int .i64 a.call.kind,.int .i64 a.call.lba,.slice a1 a.call.data.length c1,.int .i64 a.n,.int .i64 a.off,.slice a2 a.data.length c2,.slice a3 a.keep.length c3]] w fun e w'=>∃ v col',e = .returned (.agg #[.int .i64 (o.act a).1.1,v]) ∧ RowC col' w' w.heap.size v (o.act a).1.2 ∧ BoxIn col' w' P X (o.act a).2 ∧ Ext 12 col col' w w':=by
 obtain ⟨ck,hck⟩ : ∃ k,k = a.call.kind:=⟨_,rfl⟩
 obtain ⟨lba,hlba⟩ : ∃ k,k = a.call.lba:=⟨_,rfl⟩
 obtain ⟨n1,hn1⟩ : ∃ k,k = a.call.data.length:=⟨_,rfl⟩
 obtain ⟨n2,hn2⟩ : ∃ k,k = a.data.length:=⟨_,rfl⟩
 obtain ⟨n3,hn3⟩ : ∃ k,k = a.keep.length:=⟨_,rfl⟩
 obtain ⟨an,han⟩ : ∃ k,k = a.n:=⟨_,rfl⟩
 obtain ⟨off,hoff⟩ : ∃ k,k = a.off:=⟨_,rfl⟩
 obtain ⟨R,hR⟩ : ∃ R,R = o.act a:=⟨_,rfl⟩
 obtain ⟨wA,hwA⟩ : ∃ y,y = ((w.alloc (.cells #[.int .i64 3,.int .i64 ck,.int .i64 lba,.slice a1 n1 c1,.int .i64 an,.int .i64 off,.slice a2 n2 c2,.slice a3 n3 c3] 37)).alloc (.cells #[.int .i64 0,.slice none 0 0] 39)):=⟨_,rfl⟩
 have hkA : Kept w wA:=by rw [hwA];exact ((Below.refl _ _).alloc (Nat.le_refl _) _).alloc (by simp) _
 have bX : Blk wA w.heap.size #[.int .i64 3,.int .i64 ck,.int .i64 lba,.slice a1 n1 c1,.int .i64 an,.int .i64 off,.slice a2 n2 c2,.slice a3 n3 c3] 37:=by
  rw [hwA]
  exact (Blk.new w _ _).kept ((Below.refl _ _).alloc (by simp) _)
 have bT : Blk wA (w.heap.size + 1) #[.int .i64 0,.slice none 0 0] 39:=by
  rw [hwA]
  have:=Blk.new (w.alloc (.cells #[.int .i64 3,.int .i64 ck,.int .i64 lba,.slice a1 n1 c1,.int .i64 an,.int .i64 off,.slice a2 n2 c2,.slice a3 n3 c3] 37)) #[.int .i64 0,.slice none 0 0] 39
  rw [World.size_alloc] at this
  exact this
 have hA:=h.kept hkA
 have exA : Ext 12 col col w wA:=Ext.kept h.top hkA
 have cX : col w.heap.size = 0:=h.top _ (Nat.le_refl _)
 have cT : col (w.heap.size + 1) = 0:=h.top _ (by omega)
 have hszA:=bT.lt
 have hs3:=(ha.ext (Ext.kept (m:=12) h.top hkA))
 have CB:=box_crash hA g (by omega) (.slice a3 a.keep.length c3) a.keep (by have:=ha.l3;omega) hs3.s3 hs3.c3
 obtain ⟨E,hE⟩ : ∃ E,E = (o.crash a.keep).1.1:=⟨_,rfl⟩
 obtain ⟨o2,ho2⟩ : ∃ o2,o2 = (o.crash a.keep).2:=⟨_,rfl⟩
 rw [← hE,← ho2] at CB
 have hnil : (o.crash a.keep).1.2 = []:=by unfold Bo.crash Bo.open_;rfl
 have hr : R = ((E,[]),o2):=by
  rw [hR,hE,ho2];unfold Bo.act;rw [if_neg (by rw [hkd];decide),if_neg (by rw [hkd];decide)];rw [if_pos hkd,← hnil]
 rw [hkd,← hck,← hlba,← hn1,← hn2,← hn3,← han,← hoff,← hR]
 replace hr:=Lib.hid hr
 rw [← hn3] at CB
 rw [hwA] at CB
 clear hE ho2 hnil
 clear hck hlba hn1 hn2 hn3 han hoff hR
 go_enter Tryz.func11,Tryz.ntmps11
 go_wp2_with fail
 refine CB.mono ?_
 rintro e w2 ⟨col2,rfl,h2,e2⟩
 rw [← hwA] at e2
 obtain ⟨bT2,cT2⟩:=e2.blk0 bT cT
 have f0:=(bT2).free 0
 have f1:=(bT2).free 1
 have y0:=(bT2).cell 0
 have y1:=(bT2).cell 1
 go_wp2_with fail
 have bR:=((bT2).set 0 (.int .i64 (E))).set 1 (.slice none 0 0)
 have hcE : Chg [w.heap.size + 1] w2 ((w2.setCell ⟨w.heap.size + 1,0,none⟩ (.int .i64 (E))).setCell ⟨w.heap.size + 1,1,none⟩ (.slice none 0 0)):=((Chg.refl _ _).set (List.mem_singleton.2 rfl) 0 _).set (List.mem_singleton.2 rfl) 1 _
 have r0:=bR.cell 0
 have r1:=bR.cell 1
 clear f0 f1 y0 y1
 generalize ((w2.setCell ⟨w.heap.size + 1,0,none⟩ (.int .i64 (E))).setCell ⟨w.heap.size + 1,1,none⟩ (.slice none 0 0)) = wE at *
 refine bodyPost_ret (v:=.agg #[.int .i64 (E),.slice none 0 0]) (by simp [results,Tryz.results11,go_sem,r0,r1];try exact ⟨rfl,rfl⟩) rfl ⟨_,col2,by rw [hr.out],by rw [hr.out];exact RowC.nil,by rw [hr.out];exact BoxIn.chg0 h2 hcE cT2,(exA.trans e2).newset hcE (by omega)⟩
theorem box_do4 {col : Nat → Nat} {w : World} {P : Ptrs} {X : Nat} {o : Bo} (h : BoxIn col w P X o) {m : Nat} (g : o.good m) (hm : m ≤ 36000) (a : Ac) (hkd : a.kind = 4) (a1 a2 a3 : Option Addr) (c1 c2 c3 : Nat) (ha : AcAt col w a (.slice a1 a.call.data.length c1) (.slice a2 a.data.length c2) (.slice a3 a.keep.length c3)) : Calls Tryz.prog 11 #[.pointer (some ⟨X,0,none⟩),.agg #[.int .i64 a.kind,.int .i64 a.call.kind,.int .i64 a.call.lba,.slice a1 a.call.data.length c1,.int .i64 a.n,.int .i64 a.off,.slice a2 a.data.length c2,.slice a3 a.keep.length c3]] w fun e w'=>∃ v col',e = .returned (.agg #[.int .i64 (o.act a).1.1,v]) ∧ RowC col' w' w.heap.size v (o.act a).1.2 ∧ BoxIn col' w' P X (o.act a).2 ∧ Ext 12 col col' w w':=by
 obtain ⟨ck,hck⟩ : ∃ k,k = a.call.kind:=⟨_,rfl⟩
 obtain ⟨lba,hlba⟩ : ∃ k,k = a.call.lba:=⟨_,rfl⟩
 obtain ⟨n1,hn1⟩ : ∃ k,k = a.call.data.length:=⟨_,rfl⟩
 obtain ⟨n2,hn2⟩ : ∃ k,k = a.data.length:=⟨_,rfl⟩
 obtain ⟨n3,hn3⟩ : ∃ k,k = a.keep.length:=⟨_,rfl⟩
 obtain ⟨an,han⟩ : ∃ k,k = a.n:=⟨_,rfl⟩
 obtain ⟨off,hoff⟩ : ∃ k,k = a.off:=⟨_,rfl⟩
 obtain ⟨R,hR⟩ : ∃ R,R = o.act a:=⟨_,rfl⟩
 obtain ⟨wA,hwA⟩ : ∃ y,y = ((w.alloc (.cells #[.int .i64 4,.int .i64 ck,.int .i64 lba,.slice a1 n1 c1,.int .i64 an,.int .i64 off,.slice a2 n2 c2,.slice a3 n3 c3] 37)).alloc (.cells #[.int .i64 0,.slice none 0 0] 39)):=⟨_,rfl⟩
 have hkA : Kept w wA:=by rw [hwA];exact ((Below.refl _ _).alloc (Nat.le_refl _) _).alloc (by simp) _
 have bX : Blk wA w.heap.size #[.int .i64 4,.int .i64 ck,.int .i64 lba,.slice a1 n1 c1,.int .i64 an,.int .i64 off,.slice a2 n2 c2,.slice a3 n3 c3] 37:=by
  rw [hwA]
  exact (Blk.new w _ _).kept ((Below.refl _ _).alloc (by simp) _)
 have bT : Blk wA (w.heap.size + 1) #[.int .i64 0,.slice none 0 0] 39:=by
  rw [hwA]
  have:=Blk.new (w.alloc (.cells #[.int .i64 4,.int .i64 ck,.int .i64 lba,.slice a1 n1 c1,.int .i64 an,.int .i64 off,.slice a2 n2 c2,.slice a3 n3 c3] 37)) #[.int .i64 0,.slice none 0 0] 39
  rw [World.size_alloc] at this
  exact this
 have hA:=h.kept hkA
 have exA : Ext 12 col col w wA:=Ext.kept h.top hkA
 have cX : col w.heap.size = 0:=h.top _ (Nat.le_refl _)
 have cT : col (w.heap.size + 1) = 0:=h.top _ (by omega)
 have hszA:=bT.lt
 obtain ⟨cv,sv,us,hb0⟩:=hA
 have hr0 : R = o.smash off a.data:=by
  rw [hR];unfold Bo.act;rw [if_neg (by rw [hkd];decide),if_neg (by rw [hkd];decide),if_neg (by rw [hkd];decide),if_pos hkd,← hoff]
 have has:=ha.ext (Ext.kept (m:=12) h.top hkA)
 rw [hkd,← hck,← hlba,← hn1,← hn2,← hn3,← han,← hoff,← hR]
 cases his : isB (gSize o.cur.n) off (n2 : Int) with
 | false =>
  have hr : R = ((1,[]),o):=by rw [hr0];unfold Bo.smash;rw [← hn2,his];rfl
  replace hr:=Lib.hid hr
  clear hr0 hck hlba hn1 hn2 hn3 han hoff hR
  go_enter Tryz.func11,Tryz.ntmps11
  go_wp2_with fail
  rw [← hwA]
  clear hwA
  refine wp_region_chainRel (SameOn (fun k=>k < wA.heap.size ∧ (col k = 0 ∨ 6 < col k))) [(0,0),(1,0),(2,0),(3,0),(4,0),(5,0),(6,0),(7,0),(8,0),(9,0),(10,0),(11,1),(12,0)] (by kernel_rfl) (by kernel_rfl) ?_ ?_ ?_
  · exact fun _=>SameOn.refl _
  · exact fun _ _ _ h1 h2=>h1.trans h2
  intro z1 hz1
  have hbz:=hb0.blk.kept hz1
  have hdz:=hb0.wd.blk.kept hz1
  have hxz:=bX.kept hz1
  repeat
   refine chain_light _ rfl (fun K hK=>?_)
   first
    | (refine qqP (by rfl) ?_;apply Exists.intro;refine ⟨fun w' hw'=>?_,hK _ ?_⟩;(have b:=(hw'.block _ hbz.lt ⟨hb0.blk.lt,.inr (by rw [hb0.cX];decide)⟩).trans hbz;have b0:=Blk.cell b 0;clear b;have d:=(hw'.block _ hdz.lt ⟨hb0.wd.blk.lt,.inr (by rw [hb0.wd.cW];decide)⟩).trans hdz;have d2:=Blk.cell d 2;clear d;have x:=(hw'.block _ hxz.lt ⟨bX.lt,.inl cX⟩).trans hxz;have x5:=Blk.cell x 5;have x6:=Blk.cell x 6;clear x;first | (go_simp;done) | (go_simp;rfl)))
    | refine qqN (by rfl) (hK _ ?_)
   clear hK K;simp only [Act.put,qqA,qq0,qq1]
  refine chain_heavy _ rfl (fun K hK=>?_)
  refine qqP (by rfl) ?_
  go_wp2_with fail
  refine (wd_smash_no (hb0.wd.kept hz1) g.f.ok off a2 n2 c2 his).mono ?_
  rintro e w2 ⟨rfl,rfl⟩
  go_wp2
  refine hK _ _ (SameOn.refl _) ?_
  clear hK K
  try simp only [Act.put,qqA,qq0,qq1]
  repeat
   refine chain_light _ rfl (fun K hK=>?_)
   first
    | (refine qqP (by rfl) ?_;apply Exists.intro;refine ⟨fun w' hw'=>?_,hK _ ?_⟩;(first | (go_simp;done) | (go_simp;rfl)))
    | refine qqN (by rfl) (hK _ ?_)
   clear hK K;simp only [Act.put,qqA,qq0,qq1]
  refine chain_nil ?_
  have h2 : BoxIn col z1 P X o:=⟨_,_,_,hb0.kept hz1⟩
  have ex2:=exA.trans (Ext.kept (m:=12) hb0.top hz1)
  have hz1s:=hz1.size
  have bT2:=bT.kept hz1
  have f0:=(bT2).free 0
  have f1:=(bT2).free 1
  have y0:=(bT2).cell 0
  have y1:=(bT2).cell 1
  go_wp2_with fail
  have bR:=((bT2).set 0 (.int .i64 (1))).set 1 (.slice none 0 0)
  have hcE : Chg [w.heap.size + 1] z1 ((z1.setCell ⟨w.heap.size + 1,0,none⟩ (.int .i64 (1))).setCell ⟨w.heap.size + 1,1,none⟩ (.slice none 0 0)):=((Chg.refl _ _).set (List.mem_singleton.2 rfl) 0 _).set (List.mem_singleton.2 rfl) 1 _
  have r0:=bR.cell 0
  have r1:=bR.cell 1
  clear f0 f1 y0 y1
  generalize ((z1.setCell ⟨w.heap.size + 1,0,none⟩ (.int .i64 (1))).setCell ⟨w.heap.size + 1,1,none⟩ (.slice none 0 0)) = wE at *
  refine bodyPost_ret (v:=.agg #[.int .i64 (1),.slice none 0 0]) (by simp [results,Tryz.results11,go_sem,r0,r1];try exact ⟨rfl,rfl⟩) rfl ⟨_,col,by rw [hr.out],by rw [hr.out];exact RowC.nil,by rw [hr.out];exact BoxIn.chg0 h2 hcE cT,(ex2).newset hcE (by omega)⟩
 | true =>
  have hr : R = ((0,[]),o.setX (o.cur.sSmash (off,a.data))):=by rw [hr0];unfold Bo.smash;rw [← hn2,his];rfl
  have CS : ∀ z,Kept wA z → Calls Tryz.prog 28 #[.pointer (some ⟨P.s,0,none⟩),.int .i64 off,.slice a2 n2 c2] z fun e w'=>e = .returned (.bool true) ∧ Next 6 col z P (o.cur.sSmash (off,a.data)) w':=fun z hz=>by
   have sz:=has.s2.ext (Ext.kept (m:=12) hb0.top hz)
   by_cases h0 : 0 < n2 ∨ off < (gSize o.cur.n : Int)
   · obtain ⟨hin,hof⟩:=isB_inB hn2.symm h0 his
     have:=wd_smash (hb0.wd.kept hz) g.f.ok (by omega) off.toNat (.slice a2 a.data.length c2) a.data (by rw [← hof];exact hin) sz.1 (fun a c e hl=>sz.2 a _ c e (by rw [bcells_length] at hl;exact hl))
     rw [← hof,← hn2] at this
     exact this
   · have hn0 : n2 = 0:=by omega
     have hoe : off = (gSize o.cur.n : Int):=by
      unfold isB at his
      simp only [Bool.and_eq_true,decide_eq_true_eq] at his
      omega
     have hd0 : a.data = []:=List.eq_nil_of_length_eq_zero (by omega)
     subst hn0
     have s1:=sz.1
     rw [hd0] at s1 ⊢
     rw [hoe]
     exact wd_smash_end (hb0.wd.kept hz) g.f.ok (by omega) a2 c2 s1
  replace hr:=Lib.hid hr
  clear his hr0 hck hlba hn1 hn2 hn3 han hoff hR
  go_enter Tryz.func11,Tryz.ntmps11
  go_wp2_with fail
  rw [← hwA]
  clear hwA
  refine wp_region_chainRel (SameOn (fun k=>k < wA.heap.size ∧ (col k = 0 ∨ 6 < col k))) [(0,0),(1,0),(2,0),(3,0),(4,0),(5,0),(6,0),(7,0),(8,0),(9,0),(10,0),(11,1),(12,0)] (by kernel_rfl) (by kernel_rfl) ?_ ?_ ?_
  · exact fun _=>SameOn.refl _
  · exact fun _ _ _ h1 h2=>h1.trans h2
  intro z1 hz1
  have hbz:=hb0.blk.kept hz1
  have hdz:=hb0.wd.blk.kept hz1
  have hxz:=bX.kept hz1
  repeat
   refine chain_light _ rfl (fun K hK=>?_)
   first
    | (refine qqP (by rfl) ?_;apply Exists.intro;refine ⟨fun w' hw'=>?_,hK _ ?_⟩;(have b:=(hw'.block _ hbz.lt ⟨hb0.blk.lt,.inr (by rw [hb0.cX];decide)⟩).trans hbz;have b0:=Blk.cell b 0;clear b;have d:=(hw'.block _ hdz.lt ⟨hb0.wd.blk.lt,.inr (by rw [hb0.wd.cW];decide)⟩).trans hdz;have d2:=Blk.cell d 2;clear d;have x:=(hw'.block _ hxz.lt ⟨bX.lt,.inl cX⟩).trans hxz;have x5:=Blk.cell x 5;have x6:=Blk.cell x 6;clear x;first | (go_simp;done) | (go_simp;rfl)))
    | refine qqN (by rfl) (hK _ ?_)
   clear hK K;simp only [Act.put,qqA,qq0,qq1]
  refine chain_heavy _ rfl (fun K hK=>?_)
  refine qqP (by rfl) ?_
  go_wp2_with fail
  refine (CS z1 hz1).mono ?_
  rintro e w2 ⟨rfl,col2,hW2,e2⟩
  have S2:=e2.sameOn (w0:=wA) (col0:=col) (fun k hk=>rfl)
  go_wp2
  refine hK _ _ (S2) ?_
  clear hK K
  try simp only [Act.put,qqA,qq0,qq1]
  repeat
   refine chain_light _ rfl (fun K hK=>?_)
   first
    | (refine qqP (by rfl) ?_;apply Exists.intro;refine ⟨fun w' hw'=>?_,hK _ ?_⟩;(first | (go_simp;done) | (go_simp;rfl)))
    | refine qqN (by rfl) (hK _ ?_)
   clear hK K;simp only [Act.put,qqA,qq0,qq1]
  refine chain_nil ?_
  have h2 : BoxIn col2 w2 P X (o.setX (o.cur.sSmash (off,a.data))):=⟨_,_,_,(hb0.kept hz1).next hW2 e2⟩
  have ex2:=(exA.trans (Ext.kept (m:=12) hb0.top hz1)).trans (e2.mono (show 6 ≤ 12 by decide))
  have hz1s:=hz1.size
  obtain ⟨bT2,cT2⟩:=e2.blk0 (bT.kept hz1) cT
  have f0:=(bT2).free 0
  have f1:=(bT2).free 1
  have y0:=(bT2).cell 0
  have y1:=(bT2).cell 1
  go_wp2_with fail
  have bR:=((bT2).set 0 (.int .i64 (0))).set 1 (.slice none 0 0)
  have hcE : Chg [w.heap.size + 1] w2 ((w2.setCell ⟨w.heap.size + 1,0,none⟩ (.int .i64 (0))).setCell ⟨w.heap.size + 1,1,none⟩ (.slice none 0 0)):=((Chg.refl _ _).set (List.mem_singleton.2 rfl) 0 _).set (List.mem_singleton.2 rfl) 1 _
  have r0:=bR.cell 0
  have r1:=bR.cell 1
  clear f0 f1 y0 y1
  generalize ((w2.setCell ⟨w.heap.size + 1,0,none⟩ (.int .i64 (0))).setCell ⟨w.heap.size + 1,1,none⟩ (.slice none 0 0)) = wE at *
  refine bodyPost_ret (v:=.agg #[.int .i64 (0),.slice none 0 0]) (by simp [results,Tryz.results11,go_sem,r0,r1];try exact ⟨rfl,rfl⟩) rfl ⟨_,col2,by rw [hr.out],by rw [hr.out];exact RowC.nil,by rw [hr.out];exact BoxIn.chg0 h2 hcE cT2,(ex2).newset hcE (by omega)⟩
section
variable {col col' : Nat → Nat} {w w' : World} {P : Ptrs} {X : Nat} {cv sv : Value} {us : List Value} {o : Bo}
theorem CaAt.same {M C A : Nat} {vn vw : Value} {b : Bx} (h : CaAt col w P M C A vn vw b) (hs : ∀ j,1 ≤ j → j ≤ 11 → Same j col col' w w') (ht : Top col' w') (h6 : ∀ k,k < w'.heap.size → col' k = 6 → k < w.heap.size ∧ col k = 6) : CaAt col' w' P M C A vn vw b:=by
 obtain ⟨b9,d9⟩:=(hs 9 (by decide) (by decide)).blk h.blk h.cC
 obtain ⟨b8,d8⟩:=(hs 8 (by decide) (by decide)).blk h.wm.mkr h.wm.cM
 have s10:=hs 10 (by decide) (by decide)
 exact ⟨⟨h.wm.wd.free (fun j h1 h7=>hs j h1 (by omega)) ht h6,b8,d8⟩,b9,d9,s10.own h.now h.cn,s10.own h.was h.cw,fun g hg=>s10.old g (own_ltV h.now hg) (h.cn g hg),fun g hg=>s10.old g (own_ltV h.was hg) (h.cw g hg),h.ne,h.age.frame (hs 11 (by decide) (by decide))⟩
theorem BoxC.same {c : Option Bx} {x : Wd} (h : BoxC col w P c x cv) (hs : ∀ j,1 ≤ j → j ≤ 11 → Same j col col' w w') (ht : Top col' w') (h6 : ∀ k,k < w'.heap.size → col' k = 6 → k < w.heap.size ∧ col k = 6) : BoxC col' w' P c x cv:=by
 cases c with
 | none=>exact ⟨h.1,h.2.free (fun j h1 h7=>hs j h1 (by omega)) ht h6⟩
 | some B =>
  obtain ⟨M,C,e,A,vn,vw,h0⟩:=h
  exact ⟨M,C,e,A,vn,vw,h0.same hs ht h6⟩
theorem snap_frame {z2 z3 z4 : World} {ob : Obj} {v u : Value} {s : List UInt8} (h : BoxAt col w P X cv sv us o) (k2 : Kept w z2) (h3 : z3 = z2.alloc ob) (hu : z2.ownsRow w.heap.size 5 1 u s.length (bcells s))
 (hown : z4.ownsRow 0 32 1 v (o.snaps.length + 1) (us ++ [u])) (hg : z3.grownBy z4 sv.ownBlock) (hv : v.ownBlock = sv.ownBlock ∨ v.ownBlock = some z3.heap.size) :
 BoxAt (paint col 12 w z4) (z4.setCell ⟨X,2,none⟩ v) P X cv v (us ++ [u]) ⟨o.x,o.c,o.snaps ++ [s]⟩ ∧ Ext 12 col (paint col 12 w z4) w (z4.setCell ⟨X,2,none⟩ v):=by
 have k3 : Kept w z3:=by rw [h3];exact k2.of ((Below.refl _ _).alloc (Nat.le_refl _) _)
 have sz3:=k3.size
 have sz4:=hg.size
 have hX:=h.blk.lt
 have hXs : ∀ g,sv.ownBlock = some g → g ≠ X:=fun g hg e=>by
  obtain ⟨a,c,hsv⟩:=(Sl.of_own h.sn.row).len
  subst hsv
  rcases h.sn.row.2 with ⟨h0,_⟩ | ⟨g',cap',cur,hv',_,hb,_⟩
  · rw [h0] at hg;cases hg
  · cases hv'
    have e2 : g' = g:=by simpa [Value.ownBlock] using hg
    subst e2
    subst e
    have h4:=h.blk
    unfold Blk at h4
    rw [hb] at h4
    cases h4
 have b4 : ∀ k,k < w.heap.size → sv.ownBlock ≠ some k → z4.heap[k]? = w.heap[k]?:=fun k hk hn=>(hg.block k (by omega) (fun e=>hn e.symm)).trans (k3.block k hk)
 have bX : Blk z4 X #[.pointer (some ⟨P.W,0,none⟩),cv,sv] 83:=(b4 X hX (fun e=>hXs X e rfl)).trans h.blk
 have hcS : Chg [X] z4 (z4.setCell ⟨X,2,none⟩ v):=(Chg.refl _ _).set (List.mem_singleton.2 rfl) 2 _
 have sz5:=hcS.size
 have szz : (z4.setCell ⟨X,2,none⟩ v).heap.size = z4.heap.size:=by simp
 have b5 : ∀ k,k < w.heap.size → sv.ownBlock ≠ some k → k ≠ X → (z4.setCell ⟨X,2,none⟩ v).heap[k]? = w.heap[k]?:=fun k hk hn hx=>(hcS.block k (by omega) (by rw [List.mem_singleton];exact hx)).trans (b4 k hk hn)
 have hss : ∀ j,1 ≤ j → j ≤ 11 → Same j col (paint col 12 w z4) w (z4.setCell ⟨X,2,none⟩ v):=fun j h1 h11 =>
  ⟨by omega,fun k hk hc=>by rw [paint_old hk];exact hc,fun k hk hc=>b5 k hk (fun e=>by have:=h.sn.cs k e;omega) (fun e=>by have:=h.cX;rw [e] at hc;omega)⟩
 have ht : Top (paint col 12 w z4) (z4.setCell ⟨X,2,none⟩ v):=fun k hk=>by
  rw [szz] at hk
  unfold paint
  rw [if_neg (by omega)]
  exact h.top k (by omega)
 have h6 : ∀ k,k < (z4.setCell ⟨X,2,none⟩ v).heap.size → paint col 12 w z4 k = 6 → k < w.heap.size ∧ col k = 6:=fun k hk hc=>by
  by_cases hkw : k < w.heap.size
  · rw [paint_old hkw] at hc;exact ⟨hkw,hc⟩
  · rw [paint_new (by omega) (by rw [szz] at hk;exact hk)] at hc;cases hc
 have b2:=bX.set 2 v
 simp only [qqA,qq0,qq1] at b2
 have kk : ∀ {B : Nat} {x : Value} {bs : List UInt8},z2.ownsRow B 5 1 x bs.length (bcells bs) → z4.ownsRow B 5 1 x bs.length (bcells bs):=fun {B x bs} hx=>by
  have h9 : z3.ownsRow B 5 1 x bs.length (bcells bs):=by rw [h3];exact own_kept hx ((Below.refl _ _).alloc (Nat.le_refl _) _)
  refine ⟨h9.1,?_⟩
  rcases h9.2 with h0 | ⟨g',cap',cur,rfl,hB,hb,r⟩
  · exact .inl h0
  · refine .inr ⟨g',cap',cur,rfl,hB,?_,r⟩
    refine (hg.block g' (Blk.lt hb) (fun e=>?_)).trans hb
    rcases h.sn.row.2 with ⟨h0,_⟩ | ⟨g2,cap2,cur2,hv2,_,hb2,_⟩
    · rw [h0] at e;cases e
    · rw [hv2] at e
      have e2 : g' = g2:=by simpa [Value.ownBlock] using e
      subst e2
      have h4 : z3.heap[g']? = w.heap[g']?:=k3.block g' (Blk.lt hb2)
      rw [hb] at h4
      have h5 : w.heap[g']? = _:=hb2
      rw [h5] at h4
      cases h4
 refine ⟨⟨b2,by rw [paint_old hX];exact h.cX,h.bc.same hss ht h6,⟨by simp [h.sn.len],?_,?_,?_,?_⟩⟩,⟨hcS.os.trans (hg.os.trans k3.os),hcS.tape.trans (hg.tape.trans k3.tape),hcS.output.trans (hg.output.trans k3.output),by omega,fun k hk=>paint_old hk,fun k hk=>?_,ht,fun k hk hc=>?_⟩⟩
 · rw [List.length_append]
   exact own_kind hown hcS bX (by decide)
 · intro x hx
   rcases List.mem_append.1 hx with hx | hx
   · exact h.sn.one x hx
   · rw [List.mem_singleton.1 hx];exact own_oneCell hu
 · intro g hg2
   rcases hv with e | e
   · rw [e] at hg2
     rw [paint_old (own_ltV h.sn.row hg2)]
     exact h.sn.cs g hg2
   · rw [e] at hg2
     cases hg2
     refine paint_new (by omega) ?_
     have:=own_ltV hown e
     exact this
 · intro i bs x hb hx
   by_cases hi : i < o.snaps.length
   · rw [List.getElem?_append_left hi] at hb
     rw [List.getElem?_append_left (by rw [h.sn.len];exact hi)] at hx
     obtain ⟨h1,h2⟩:=h.sn.each i bs x hb hx
     refine ⟨own_kind (kk (own_kept h1 k2)) hcS bX (by decide),fun g hg2=>?_⟩
     rw [paint_old (own_ltV h1 hg2)]
     exact h2 g hg2
   · have hie : i = o.snaps.length:=by
      have:=(List.getElem?_eq_some_iff.1 hb).1
      simp at this
      omega
     subst hie
     rw [List.getElem?_append_right (Nat.le_refl _)] at hb
     rw [← h.sn.len,List.getElem?_append_right (Nat.le_refl _)] at hx
     simp at hb hx
     subst hb
     subst hx
     refine ⟨own_base (own_kind (kk hu) hcS bX (by decide)) (Nat.zero_le _),fun g hg2=>paint_new (own_geV hu hg2) ?_⟩
     have:=own_ltV hu hg2
     have : z2.heap.size ≤ z3.heap.size:=by rw [h3];simp
     omega
 · unfold paint
   split
   · decide
   · rw [h.top k hk];decide
 · exact b5 k hk (fun e=>by have:=h.sn.cs k e;omega) (fun e=>by have:=h.cX;rw [e] at hc;omega)
end
theorem box_do5 {col : Nat → Nat} {w : World} {P : Ptrs} {X : Nat} {o : Bo} (h : BoxIn col w P X o) {m : Nat} (g : o.good m) (hm : m ≤ 36000) (a : Ac) (hkd : a.kind = 5) (a1 a2 a3 : Option Addr) (c1 c2 c3 : Nat) (ha : AcAt col w a (.slice a1 a.call.data.length c1) (.slice a2 a.data.length c2) (.slice a3 a.keep.length c3)) : Calls Tryz.prog 11 #[.pointer (some ⟨X,0,none⟩),.agg #[.int .i64 a.kind,.int .i64 a.call.kind,.int .i64 a.call.lba,.slice a1 a.call.data.length c1,.int .i64 a.n,.int .i64 a.off,.slice a2 a.data.length c2,.slice a3 a.keep.length c3]] w fun e w'=>∃ v col',e = .returned (.agg #[.int .i64 (o.act a).1.1,v]) ∧ RowC col' w' w.heap.size v (o.act a).1.2 ∧ BoxIn col' w' P X (o.act a).2 ∧ Ext 12 col col' w w':=by
 obtain ⟨ck,hck⟩ : ∃ k,k = a.call.kind:=⟨_,rfl⟩
 obtain ⟨lba,hlba⟩ : ∃ k,k = a.call.lba:=⟨_,rfl⟩
 obtain ⟨n1,hn1⟩ : ∃ k,k = a.call.data.length:=⟨_,rfl⟩
 obtain ⟨n2,hn2⟩ : ∃ k,k = a.data.length:=⟨_,rfl⟩
 obtain ⟨n3,hn3⟩ : ∃ k,k = a.keep.length:=⟨_,rfl⟩
 obtain ⟨an,han⟩ : ∃ k,k = a.n:=⟨_,rfl⟩
 obtain ⟨off,hoff⟩ : ∃ k,k = a.off:=⟨_,rfl⟩
 obtain ⟨R,hR⟩ : ∃ R,R = o.act a:=⟨_,rfl⟩
 obtain ⟨wA,hwA⟩ : ∃ y,y = ((w.alloc (.cells #[.int .i64 5,.int .i64 ck,.int .i64 lba,.slice a1 n1 c1,.int .i64 an,.int .i64 off,.slice a2 n2 c2,.slice a3 n3 c3] 37)).alloc (.cells #[.int .i64 0,.slice none 0 0] 39)):=⟨_,rfl⟩
 have hkA : Kept w wA:=by rw [hwA];exact ((Below.refl _ _).alloc (Nat.le_refl _) _).alloc (by simp) _
 have bX : Blk wA w.heap.size #[.int .i64 5,.int .i64 ck,.int .i64 lba,.slice a1 n1 c1,.int .i64 an,.int .i64 off,.slice a2 n2 c2,.slice a3 n3 c3] 37:=by
  rw [hwA]
  exact (Blk.new w _ _).kept ((Below.refl _ _).alloc (by simp) _)
 have bT : Blk wA (w.heap.size + 1) #[.int .i64 0,.slice none 0 0] 39:=by
  rw [hwA]
  have:=Blk.new (w.alloc (.cells #[.int .i64 5,.int .i64 ck,.int .i64 lba,.slice a1 n1 c1,.int .i64 an,.int .i64 off,.slice a2 n2 c2,.slice a3 n3 c3] 37)) #[.int .i64 0,.slice none 0 0] 39
  rw [World.size_alloc] at this
  exact this
 have hA:=h.kept hkA
 have exA : Ext 12 col col w wA:=Ext.kept h.top hkA
 have cX : col w.heap.size = 0:=h.top _ (Nat.le_refl _)
 have cT : col (w.heap.size + 1) = 0:=h.top _ (by omega)
 have hszA:=bT.lt
 obtain ⟨cv,sv,us,hb0⟩:=hA
 have hr : R = ((0,[]),o.snap):=by
  rw [hR];unfold Bo.act;rw [if_neg (by rw [hkd];decide),if_neg (by rw [hkd];decide),if_neg (by rw [hkd];decide),if_neg (by rw [hkd];decide),if_pos hkd]
 rw [hkd,← hck,← hlba,← hn1,← hn2,← hn3,← han,← hoff,← hR]
 replace hr:=Lib.hid hr
 clear hck hlba hn1 hn2 hn3 han hoff hR
 have hsx : sv.ownBlock ≠ some X ∧ sv.ownBlock ≠ some P.W:=by
  obtain ⟨a,c,hsv⟩:=(Sl.of_own hb0.sn.row).len
  refine ⟨fun e=>?_,fun e=>by have:=hb0.sn.cs _ e;rw [hb0.wd.cW] at this;cases this⟩
  rcases hb0.sn.row.2 with ⟨h0,_⟩ | ⟨g',cap',cur,hv',_,hb,_⟩
  · rw [h0] at e;cases e
  · rw [hv'] at e
    have e2 : g' = X:=by simpa [Value.ownBlock] using e
    subst e2
    have h4:=hb0.blk
    unfold Blk at h4
    rw [hb] at h4
    cases h4
 have hXs:=hsx.1
 have hWs:=hsx.2
 have hfew:=g.few
 have hsl : o.cur.sd.snap.length = gSize o.cur.n:=Sd.snap_length g.f.ok.s
 replace hsl:=Lib.hid hsl
 go_enter Tryz.func11,Tryz.ntmps11
 go_wp2_with fail
 rw [← hwA]
 clear hwA
 refine wp_region_chainRel (SameOn (fun k=>k < wA.heap.size ∧ sv.ownBlock ≠ some k)) [(0,0),(1,0),(2,0),(3,0),(4,0),(5,0),(6,0),(7,0),(8,0),(9,0),(10,0),(11,0),(12,1),(13,1),(14,1),(15,2),(16,2),(17,2)] (by kernel_rfl) (by kernel_rfl) ?_ ?_ ?_
 · exact fun _=>SameOn.refl _
 · exact fun _ _ _ h1 h2=>h1.trans h2
 intro z1 hz1
 have hbz:=hb0.blk.kept hz1
 have hdz:=hb0.wd.blk.kept hz1
 repeat
  refine chain_light _ rfl (fun K hK=>?_)
  first
   | (refine qqP (by rfl) ?_;apply Exists.intro;refine ⟨fun w' hw'=>?_,hK _ ?_⟩;(have b:=(hw'.block _ hbz.lt ⟨hb0.blk.lt,hXs⟩).trans hbz;have b0:=Blk.cell b 0;have b2:=Blk.cell b 2;clear b;have d:=(hw'.block _ hdz.lt ⟨hb0.wd.blk.lt,hWs⟩).trans hdz;have d2:=Blk.cell d 2;clear d;first | (go_simp;done) | (go_simp;rfl)))
   | refine qqN (by rfl) (hK _ ?_)
  clear hK K;simp only [Act.put,qqA,qq0,qq1]
 refine chain_heavy _ rfl (fun K hK=>?_)
 refine qqP (by rfl) ?_
 go_wp2_with fail
 refine (wd_snap (hb0.wd.kept hz1) g.f.ok (by omega)).mono ?_
 rintro e z2 ⟨g1,c1,rfl,hu,hk2⟩
 go_wp2
 refine hK _ _ (SameOn.of_kept hk2) ?_
 clear hK K
 try simp only [Act.put,qqA,qq0,qq1]
 refine chain_heavy _ rfl (fun K hK=>?_)
 refine qqP (by rfl) ?_
 go_wp2
 refine hK _ _ (SameOn.of_kept ((Below.refl _ _).alloc (Nat.le_refl _) _)) ?_
 clear hK K
 try simp only [Act.put,qqA,qq0,qq1]
 refine chain_heavy _ rfl (fun K hK=>?_)
 refine qqP (by rfl) ?_
 refine wp_append sl_rows (by rfl) (by rfl) (by rfl) ((own_kept (own_kept hb0.sn.row hz1) hk2).alloc _) (Sl.one _ _ _) (by rfl) (fun x hx=>by rw [List.mem_singleton.1 hx];rfl) (by unfold maxLen;omega) (by omega) (Nat.zero_le _) ?_
 intro v z4 hown hg hv
 refine hK _ _ ((⟨hg.os,hg.tape,hg.output,hg.size,fun k hk hA=>hg.block k hk (fun e=>hA.2 e.symm)⟩ : SameOn (fun k=>k < wA.heap.size ∧ sv.ownBlock ≠ some k) _ z4)) ?_
 clear hK K
 try simp only [Act.put,qqA,qq0,qq1]
 refine chain_last _ rfl (fun K hK=>?_)
 refine qqP (by rfl) ?_
 go_wp2
 refine chain_last _ rfl (fun K hK=>?_)
 refine qqP (by rfl) ?_
 go_wp2
 refine chain_last _ rfl (fun K hK=>?_)
 refine qqP (by rfl) ?_
 have hbx : Blk z4 X #[.pointer (some ⟨P.W,0,none⟩),cv,sv] 83:=(hg.block X ((((hb0.blk.kept hz1).kept hk2).kept ((Below.refl _ _).alloc (Nat.le_refl _) _)).lt) (fun e=>hXs e.symm)).trans (((hb0.blk.kept hz1).kept hk2).kept ((Below.refl _ _).alloc (Nat.le_refl _) _))
 have hfr:=snap_frame (hb0.kept hz1) hk2 rfl (s:=o.cur.sd.snap) (by rw [hsl.out];exact hu) hown hg hv
 have f2:=hbx.free 2
 have y2:=hbx.cell 2
 obtain ⟨gv,cv2,rfl⟩:=own_some hown (by omega)
 go_wp2
 refine chain_nil ?_
 generalize (z4.setCell ⟨X,2,none⟩ (.slice (some ⟨gv,0,none⟩) (o.snaps.length + 1) cv2)) = z5 at *
 have h2 : BoxIn (paint col 12 z1 z4) z5 P X o.snap:=⟨_,_,_,hfr.1⟩
 have ex2:=(exA.trans (Ext.kept (m:=12) hb0.top hz1)).trans hfr.2
 have hz1s:=hz1.size
 obtain ⟨bT2,cT2⟩:=hfr.2.blk0 (bT.kept hz1) cT
 have f0:=(bT2).free 0
 have f1:=(bT2).free 1
 have y0:=(bT2).cell 0
 have y1:=(bT2).cell 1
 go_wp2_with fail
 have bR:=((bT2).set 0 (.int .i64 (0))).set 1 (.slice none 0 0)
 have hcE : Chg [w.heap.size + 1] z5 ((z5.setCell ⟨w.heap.size + 1,0,none⟩ (.int .i64 (0))).setCell ⟨w.heap.size + 1,1,none⟩ (.slice none 0 0)):=((Chg.refl _ _).set (List.mem_singleton.2 rfl) 0 _).set (List.mem_singleton.2 rfl) 1 _
 have r0:=bR.cell 0
 have r1:=bR.cell 1
 clear f0 f1 y0 y1
 generalize ((z5.setCell ⟨w.heap.size + 1,0,none⟩ (.int .i64 (0))).setCell ⟨w.heap.size + 1,1,none⟩ (.slice none 0 0)) = wE at *
 refine bodyPost_ret (v:=.agg #[.int .i64 (0),.slice none 0 0]) (by simp [results,Tryz.results11,go_sem,r0,r1];try exact ⟨rfl,rfl⟩) rfl ⟨_,(paint col 12 z1 z4),by rw [hr.out],by rw [hr.out];exact RowC.nil,by rw [hr.out];exact BoxIn.chg0 h2 hcE cT2,(ex2).newset hcE (by omega)⟩
theorem box_do6 {col : Nat → Nat} {w : World} {P : Ptrs} {X : Nat} {o : Bo} (h : BoxIn col w P X o) {m : Nat} (g : o.good m) (hm : m ≤ 36000) (a : Ac) (hkd : a.kind = 6) (a1 a2 a3 : Option Addr) (c1 c2 c3 : Nat) (ha : AcAt col w a (.slice a1 a.call.data.length c1) (.slice a2 a.data.length c2) (.slice a3 a.keep.length c3)) : Calls Tryz.prog 11 #[.pointer (some ⟨X,0,none⟩),.agg #[.int .i64 a.kind,.int .i64 a.call.kind,.int .i64 a.call.lba,.slice a1 a.call.data.length c1,.int .i64 a.n,.int .i64 a.off,.slice a2 a.data.length c2,.slice a3 a.keep.length c3]] w fun e w'=>∃ v col',e = .returned (.agg #[.int .i64 (o.act a).1.1,v]) ∧ RowC col' w' w.heap.size v (o.act a).1.2 ∧ BoxIn col' w' P X (o.act a).2 ∧ Ext 12 col col' w w':=by
 obtain ⟨ck,hck⟩ : ∃ k,k = a.call.kind:=⟨_,rfl⟩
 obtain ⟨lba,hlba⟩ : ∃ k,k = a.call.lba:=⟨_,rfl⟩
 obtain ⟨n1,hn1⟩ : ∃ k,k = a.call.data.length:=⟨_,rfl⟩
 obtain ⟨n2,hn2⟩ : ∃ k,k = a.data.length:=⟨_,rfl⟩
 obtain ⟨n3,hn3⟩ : ∃ k,k = a.keep.length:=⟨_,rfl⟩
 obtain ⟨an,han⟩ : ∃ k,k = a.n:=⟨_,rfl⟩
 obtain ⟨off,hoff⟩ : ∃ k,k = a.off:=⟨_,rfl⟩
 obtain ⟨R,hR⟩ : ∃ R,R = o.act a:=⟨_,rfl⟩
 obtain ⟨wA,hwA⟩ : ∃ y,y = ((w.alloc (.cells #[.int .i64 6,.int .i64 ck,.int .i64 lba,.slice a1 n1 c1,.int .i64 an,.int .i64 off,.slice a2 n2 c2,.slice a3 n3 c3] 37)).alloc (.cells #[.int .i64 0,.slice none 0 0] 39)):=⟨_,rfl⟩
 have hkA : Kept w wA:=by rw [hwA];exact ((Below.refl _ _).alloc (Nat.le_refl _) _).alloc (by simp) _
 have bX : Blk wA w.heap.size #[.int .i64 6,.int .i64 ck,.int .i64 lba,.slice a1 n1 c1,.int .i64 an,.int .i64 off,.slice a2 n2 c2,.slice a3 n3 c3] 37:=by
  rw [hwA]
  exact (Blk.new w _ _).kept ((Below.refl _ _).alloc (by simp) _)
 have bT : Blk wA (w.heap.size + 1) #[.int .i64 0,.slice none 0 0] 39:=by
  rw [hwA]
  have:=Blk.new (w.alloc (.cells #[.int .i64 6,.int .i64 ck,.int .i64 lba,.slice a1 n1 c1,.int .i64 an,.int .i64 off,.slice a2 n2 c2,.slice a3 n3 c3] 37)) #[.int .i64 0,.slice none 0 0] 39
  rw [World.size_alloc] at this
  exact this
 have hA:=h.kept hkA
 have exA : Ext 12 col col w wA:=Ext.kept h.top hkA
 have cX : col w.heap.size = 0:=h.top _ (Nat.le_refl _)
 have cT : col (w.heap.size + 1) = 0:=h.top _ (by omega)
 have hszA:=bT.lt
 have CB : Calls Tryz.prog 30 #[.pointer (some ⟨X,0,none⟩),.int .i64 a.n] wA fun e w'=>∃ col',e = .returned (.int .i64 (o.back a.n).1.1) ∧ BoxIn col' w' P X (o.back a.n).2 ∧ Ext 12 col col' wA w':=by
  by_cases hb : 0 ≤ a.n ∧ a.n < (o.snaps.length : Int)
  · have hbn : a.n = ((a.n.toNat : Nat) : Int):=by omega
    have:=box_back_yes hA g a.n.toNat (by omega) (by have:=g.few;omega)
    rw [← hbn] at this
    exact this
  · exact box_back_no hA a.n hb
 obtain ⟨E,hE⟩ : ∃ E,E = (o.back a.n).1.1:=⟨_,rfl⟩
 obtain ⟨o2,ho2⟩ : ∃ o2,o2 = (o.back a.n).2:=⟨_,rfl⟩
 rw [← hE,← ho2] at CB
 have hnil : (o.back a.n).1.2 = []:=by unfold Bo.back;split <;> rfl
 have hr : R = ((E,[]),o2):=by
  rw [hR,hE,ho2];unfold Bo.act;rw [if_neg (by rw [hkd];decide),if_neg (by rw [hkd];decide),if_neg (by rw [hkd];decide),if_neg (by rw [hkd];decide),if_neg (by rw [hkd];decide)];rw [if_pos hkd,← hnil]
 rw [hkd,← hck,← hlba,← hn1,← hn2,← hn3,← han,← hoff,← hR]
 replace hr:=Lib.hid hr
 rw [← han] at CB
 rw [hwA] at CB
 clear hE ho2 hnil
 clear hck hlba hn1 hn2 hn3 han hoff hR
 go_enter Tryz.func11,Tryz.ntmps11
 go_wp2_with fail
 refine CB.mono ?_
 rintro e w2 ⟨col2,rfl,h2,e2⟩
 rw [← hwA] at e2
 obtain ⟨bT2,cT2⟩:=e2.blk0 bT cT
 have f0:=(bT2).free 0
 have f1:=(bT2).free 1
 have y0:=(bT2).cell 0
 have y1:=(bT2).cell 1
 go_wp2_with fail
 have bR:=((bT2).set 0 (.int .i64 (E))).set 1 (.slice none 0 0)
 have hcE : Chg [w.heap.size + 1] w2 ((w2.setCell ⟨w.heap.size + 1,0,none⟩ (.int .i64 (E))).setCell ⟨w.heap.size + 1,1,none⟩ (.slice none 0 0)):=((Chg.refl _ _).set (List.mem_singleton.2 rfl) 0 _).set (List.mem_singleton.2 rfl) 1 _
 have r0:=bR.cell 0
 have r1:=bR.cell 1
 clear f0 f1 y0 y1
 generalize ((w2.setCell ⟨w.heap.size + 1,0,none⟩ (.int .i64 (E))).setCell ⟨w.heap.size + 1,1,none⟩ (.slice none 0 0)) = wE at *
 refine bodyPost_ret (v:=.agg #[.int .i64 (E),.slice none 0 0]) (by simp [results,Tryz.results11,go_sem,r0,r1];try exact ⟨rfl,rfl⟩) rfl ⟨_,col2,by rw [hr.out],by rw [hr.out];exact RowC.nil,by rw [hr.out];exact BoxIn.chg0 h2 hcE cT2,(exA.trans e2).newset hcE (by omega)⟩
theorem box_do7 {col : Nat → Nat} {w : World} {P : Ptrs} {X : Nat} {o : Bo} (h : BoxIn col w P X o) {m : Nat} (g : o.good m) (hm : m ≤ 36000) (a : Ac) (hkd : a.kind = 7) (a1 a2 a3 : Option Addr) (c1 c2 c3 : Nat) (ha : AcAt col w a (.slice a1 a.call.data.length c1) (.slice a2 a.data.length c2) (.slice a3 a.keep.length c3)) : Calls Tryz.prog 11 #[.pointer (some ⟨X,0,none⟩),.agg #[.int .i64 a.kind,.int .i64 a.call.kind,.int .i64 a.call.lba,.slice a1 a.call.data.length c1,.int .i64 a.n,.int .i64 a.off,.slice a2 a.data.length c2,.slice a3 a.keep.length c3]] w fun e w'=>∃ v col',e = .returned (.agg #[.int .i64 (o.act a).1.1,v]) ∧ RowC col' w' w.heap.size v (o.act a).1.2 ∧ BoxIn col' w' P X (o.act a).2 ∧ Ext 12 col col' w w':=by
 obtain ⟨ck,hck⟩ : ∃ k,k = a.call.kind:=⟨_,rfl⟩
 obtain ⟨lba,hlba⟩ : ∃ k,k = a.call.lba:=⟨_,rfl⟩
 obtain ⟨n1,hn1⟩ : ∃ k,k = a.call.data.length:=⟨_,rfl⟩
 obtain ⟨n2,hn2⟩ : ∃ k,k = a.data.length:=⟨_,rfl⟩
 obtain ⟨n3,hn3⟩ : ∃ k,k = a.keep.length:=⟨_,rfl⟩
 obtain ⟨an,han⟩ : ∃ k,k = a.n:=⟨_,rfl⟩
 obtain ⟨off,hoff⟩ : ∃ k,k = a.off:=⟨_,rfl⟩
 obtain ⟨R,hR⟩ : ∃ R,R = o.act a:=⟨_,rfl⟩
 obtain ⟨wA,hwA⟩ : ∃ y,y = ((w.alloc (.cells #[.int .i64 7,.int .i64 ck,.int .i64 lba,.slice a1 n1 c1,.int .i64 an,.int .i64 off,.slice a2 n2 c2,.slice a3 n3 c3] 37)).alloc (.cells #[.int .i64 0,.slice none 0 0] 39)):=⟨_,rfl⟩
 have hkA : Kept w wA:=by rw [hwA];exact ((Below.refl _ _).alloc (Nat.le_refl _) _).alloc (by simp) _
 have bX : Blk wA w.heap.size #[.int .i64 7,.int .i64 ck,.int .i64 lba,.slice a1 n1 c1,.int .i64 an,.int .i64 off,.slice a2 n2 c2,.slice a3 n3 c3] 37:=by
  rw [hwA]
  exact (Blk.new w _ _).kept ((Below.refl _ _).alloc (by simp) _)
 have bT : Blk wA (w.heap.size + 1) #[.int .i64 0,.slice none 0 0] 39:=by
  rw [hwA]
  have:=Blk.new (w.alloc (.cells #[.int .i64 7,.int .i64 ck,.int .i64 lba,.slice a1 n1 c1,.int .i64 an,.int .i64 off,.slice a2 n2 c2,.slice a3 n3 c3] 37)) #[.int .i64 0,.slice none 0 0] 39
  rw [World.size_alloc] at this
  exact this
 have hA:=h.kept hkA
 have exA : Ext 12 col col w wA:=Ext.kept h.top hkA
 have cX : col w.heap.size = 0:=h.top _ (Nat.le_refl _)
 have cT : col (w.heap.size + 1) = 0:=h.top _ (by omega)
 have hszA:=bT.lt
 obtain ⟨cv,sv,us,hb0⟩:=hA
 have hr : R = ((0,[]),o.setX (o.cur.dRefuse (an != 0))):=by
  rw [hR];unfold Bo.act;rw [if_neg (by rw [hkd];decide),if_neg (by rw [hkd];decide),if_neg (by rw [hkd];decide),if_neg (by rw [hkd];decide),if_neg (by rw [hkd];decide),if_neg (by rw [hkd];decide),if_pos hkd,← han,show decide (an ≠ 0) = (an != 0) by by_cases h : an = 0 <;> simp [h]]
 rw [hkd,← hck,← hlba,← hn1,← hn2,← hn3,← han,← hoff,← hR]
 replace hr:=Lib.hid hr
 clear hck hlba hn1 hn2 hn3 han hoff hR
 go_enter Tryz.func11,Tryz.ntmps11
 go_wp2_with fail
 rw [← hwA]
 clear hwA
 refine wp_region_chainRel (SameOn (fun k=>k < wA.heap.size ∧ (col k = 0 ∨ 6 < col k))) [(0,0),(1,0),(2,0),(3,0),(4,0),(5,0),(6,0),(7,0),(8,0),(9,0),(10,1)] (by kernel_rfl) (by kernel_rfl) ?_ ?_ ?_
 · exact fun _=>SameOn.refl _
 · exact fun _ _ _ h1 h2=>h1.trans h2
 intro z1 hz1
 have hbz:=hb0.blk.kept hz1
 have hdz:=hb0.wd.blk.kept hz1
 have hxz:=bX.kept hz1
 repeat
  refine chain_light _ rfl (fun K hK=>?_)
  first
   | (refine qqP (by rfl) ?_;apply Exists.intro;refine ⟨fun w' hw'=>?_,hK _ ?_⟩;(have b:=(hw'.block _ hbz.lt ⟨hb0.blk.lt,.inr (by rw [hb0.cX];decide)⟩).trans hbz;have b0:=Blk.cell b 0;clear b;have d:=(hw'.block _ hdz.lt ⟨hb0.wd.blk.lt,.inr (by rw [hb0.wd.cW];decide)⟩).trans hdz;have d3:=Blk.cell d 3;clear d;have x:=(hw'.block _ hxz.lt ⟨bX.lt,.inl cX⟩).trans hxz;have x4:=Blk.cell x 4;clear x;first | (go_simp;done) | (go_simp;rfl)))
   | refine qqN (by rfl) (hK _ ?_)
  clear hK K;simp only [Act.put,qqA,qq0,qq1]
 refine chain_heavy _ rfl (fun K hK=>?_)
 refine qqP (by rfl) ?_
 go_wp2_with fail
 refine (wd_drefuse (hb0.wd.kept hz1) g.f.ok (an != 0)).mono ?_
 rintro e w2 ⟨rfl,col2,hW2,e2⟩
 have S2:=e2.sameOn (w0:=wA) (col0:=col) (fun k hk=>rfl)
 go_wp2
 refine hK _ _ (S2) ?_
 clear hK K
 try simp only [Act.put,qqA,qq0,qq1]
 refine chain_nil ?_
 have h2 : BoxIn col2 w2 P X (o.setX (o.cur.dRefuse (an != 0))):=⟨_,_,_,(hb0.kept hz1).next hW2 e2⟩
 have ex2:=(exA.trans (Ext.kept (m:=12) hb0.top hz1)).trans (e2.mono (show 6 ≤ 12 by decide))
 have hz1s:=hz1.size
 obtain ⟨bT2,cT2⟩:=e2.blk0 (bT.kept hz1) cT
 have f0:=(bT2).free 0
 have f1:=(bT2).free 1
 have y0:=(bT2).cell 0
 have y1:=(bT2).cell 1
 go_wp2_with fail
 have bR:=((bT2).set 0 (.int .i64 (0))).set 1 (.slice none 0 0)
 have hcE : Chg [w.heap.size + 1] w2 ((w2.setCell ⟨w.heap.size + 1,0,none⟩ (.int .i64 (0))).setCell ⟨w.heap.size + 1,1,none⟩ (.slice none 0 0)):=((Chg.refl _ _).set (List.mem_singleton.2 rfl) 0 _).set (List.mem_singleton.2 rfl) 1 _
 have r0:=bR.cell 0
 have r1:=bR.cell 1
 clear f0 f1 y0 y1
 generalize ((w2.setCell ⟨w.heap.size + 1,0,none⟩ (.int .i64 (0))).setCell ⟨w.heap.size + 1,1,none⟩ (.slice none 0 0)) = wE at *
 refine bodyPost_ret (v:=.agg #[.int .i64 (0),.slice none 0 0]) (by simp [results,Tryz.results11,go_sem,r0,r1];try exact ⟨rfl,rfl⟩) rfl ⟨_,col2,by rw [hr.out],by rw [hr.out];exact RowC.nil,by rw [hr.out];exact BoxIn.chg0 h2 hcE cT2,(ex2).newset hcE (by omega)⟩
theorem box_do {col : Nat → Nat} {w : World} {P : Ptrs} {X : Nat} {o : Bo} (h : BoxIn col w P X o) {m : Nat} (g : o.good m) (hm : m ≤ 36000) (a : Ac) (a1 a2 a3 : Option Addr) (c1 c2 c3 : Nat) (ha : AcAt col w a (.slice a1 a.call.data.length c1) (.slice a2 a.data.length c2) (.slice a3 a.keep.length c3)) : Calls Tryz.prog 11 #[.pointer (some ⟨X,0,none⟩),.agg #[.int .i64 a.kind,.int .i64 a.call.kind,.int .i64 a.call.lba,.slice a1 a.call.data.length c1,.int .i64 a.n,.int .i64 a.off,.slice a2 a.data.length c2,.slice a3 a.keep.length c3]] w fun e w'=>∃ v col',e = .returned (.agg #[.int .i64 (o.act a).1.1,v]) ∧ RowC col' w' w.heap.size v (o.act a).1.2 ∧ BoxIn col' w' P X (o.act a).2 ∧ Ext 12 col col' w w':=by
 by_cases k1 : a.kind = 1
 · exact box_do1 h g hm a k1 a1 a2 a3 c1 c2 c3 ha
 by_cases k2 : a.kind = 2
 · exact box_do2 h g hm a k2 a1 a2 a3 c1 c2 c3 ha
 by_cases k3 : a.kind = 3
 · exact box_do3 h g hm a k3 a1 a2 a3 c1 c2 c3 ha
 by_cases k4 : a.kind = 4
 · exact box_do4 h g hm a k4 a1 a2 a3 c1 c2 c3 ha
 by_cases k5 : a.kind = 5
 · exact box_do5 h g hm a k5 a1 a2 a3 c1 c2 c3 ha
 by_cases k6 : a.kind = 6
 · exact box_do6 h g hm a k6 a1 a2 a3 c1 c2 c3 ha
 by_cases k7 : a.kind = 7
 · exact box_do7 h g hm a k7 a1 a2 a3 c1 c2 c3 ha
 exact box_do0 h g hm a a.kind ⟨k1,k2,k3,k4,k5,k6,k7⟩ rfl a1 a2 a3 c1 c2 c3 ha
theorem Bx.good.doC {b : Bx} {m : Nat} (g : b.good m) (hm : m ≤ 100000) (c : Cl) : (b.doC c).2.good (m + 97):=by
 unfold Bx.doC
 split
 · exact g.up (by omega)
 split
 · exact g.up (by omega)
 split
 · exact g.up (by omega)
 rename_i h1 h2 h3
 have his : c.is = true:=by simpa using h3
 unfold Cl.is at his
 split
 · rename_i hk
   rw [if_pos hk] at his
   have hl : c.lba.toNat < 32:=by
    unfold isD at his
    simp at his
    omega
   exact (g.read his (Dk.read_length g.f.x.ok.d hl)).up (by omega)
 rename_i hk1
 rw [if_neg hk1] at his
 split
 · rename_i hk2
   rw [if_neg (by omega),if_pos hk2] at his
   simp only [Bool.and_eq_true,decide_eq_true_eq] at his
   exact (g.write his.2 his.1).up (by omega)
 rename_i hk2
 split
 · exact g.commit.up (by omega)
 split
 · rename_i hk3 hk4
   rw [if_pos hk4] at his
   exact (g.discard his).up (by omega)
 · exact (g.rotate (by omega)).up (by omega)
theorem openR_cur (F : Int × Bx) : Bo.cur ⟨(Bx.openR F).2.1,(Bx.openR F).2.2,[]⟩ = F.2.x ∧ ∀ B,(Bx.openR F).2.2 = some B → B = F.2:=by
 unfold Bx.openR
 split
 · exact ⟨rfl,fun B h=>(by cases h)⟩
 · exact ⟨rfl,fun B h=>(by cases h;rfl)⟩
theorem spill_n (b : Bx) (s : Nat) : (b.spillX s).x.n = b.x.n:=by
 unfold Bx.spillX
 cases b.valD s with
 | none=>rfl
 | some d =>
  show (b.x.dPut _ d).n = _
  unfold Wd.dPut;split <;> rfl
theorem commit_n (b : Bx) : b.commit.2.x.n = b.x.n:=commitX_same
theorem empF_n : ∀ (k s : Nat) (b : Bx) (d : Bool),(Bx.empF k s b d).2.1.x.n = b.x.n
 | 0,_,_,_=>rfl
 | k + 1,s,b,d=>by
  unfold Bx.empF
  split
  · split
    · exact spill_n b s
    · rw [empF_n k (s + 1)];exact spill_n b s
  · exact empF_n k (s + 1) b d
theorem empty_n (b : Bx) : b.empty.2.x.n = b.x.n:=by
 unfold Bx.empty Bx.empR
 split
 · exact empF_n _ _ _ _
 · unfold Bx.empD
   split
   · exact empF_n _ _ _ _
   · show (if _ then _ else _ : Bx).x.n = _
     split
     · exact empF_n _ _ _ _
     · exact empF_n _ _ _ _
theorem forget_n (b : Bx) : b.forget.2.x.n = b.x.n:=by
 unfold Bx.forget
 split
 · exact commit_n b
 · exact commit_n b
theorem finish_n (b : Bx) : b.finish.2.x.n = b.x.n:=by
 unfold Bx.finish
 split
 · rfl
 split
 · exact empty_n b
 · rw [forget_n];exact empty_n b
theorem puts_x (b : Bx) (s : Nat) (l : Lf) : (b.puts s l).x = b.x:=by
 unfold Bx.puts;split <;> rfl
theorem lays_n (b : Bx) (lba : Int) (d : List UInt8) (y : Bool) : (b.lays lba d y).2.x.n = b.x.n:=by
 unfold Bx.lays
 split
 · rfl
 split
 · rw [puts_x];rfl
 · rfl
theorem evict_n (b : Bx) : b.evict.2.x.n = b.x.n:=by
 unfold Bx.evict
 split
 · split
   · exact spill_n _ _
   split
   · exact spill_n _ _
   · rw [commit_n];exact spill_n b b.oldest
 · rw [commit_n];rfl
theorem room_n (b : Bx) : b.room.2.x.n = b.x.n:=by
 unfold Bx.room
 split
 · rfl
 split
 · exact commit_n b
 split
 · exact commit_n b
 · rw [evict_n];exact commit_n b
theorem doC_n (b : Bx) (c : Cl) : (b.doC c).2.x.n = b.x.n:=by
 unfold Bx.doC
 split
 · rfl
 split
 · rfl
 split
 · rfl
 split
 · unfold Bx.read
   cases b.c.slot c.lba with
   | some s =>
    show (b.readV s (b.valD s)).2.x.n = _
    cases b.valD s <;> rfl
   | none =>
    show (b.readD c.lba _).2.x.n = _
    unfold Bx.readD
    split
    · rfl
    · unfold Bx.readN
      split <;> exact lays_n _ _ _ _
 split
 · show (b.write c.lba c.data).2.x.n = _
   unfold Bx.write
   split
   · exact room_n b
   · rw [lays_n];exact room_n b
 split
 · exact commit_n b
 split
 · show (b.discard c.lba).2.x.n = _
   unfold Bx.discard
   split
   · exact room_n b
   · show (Bx.puts _ _ _).x.n = _
     rw [puts_x];exact room_n b
 · show b.rotate.2.x.n = _
   unfold Bx.rotate
   split
   · exact commit_n b
   · unfold Bx.rotE
     split
     · rw [empty_n];exact commit_n b
     split
     · show b.commit.2.empty.2.x.n = _
       rw [empty_n];exact commit_n b
     · rw [forget_n]
       show b.commit.2.empty.2.x.n = _
       rw [empty_n];exact commit_n b
theorem Wd.opens_good {x : Wd} {m : Nat} (f : x.fine m) (hp : 0#32 < nowOf x.eps) : ∀ r,r = x.opens → (Bo.cur ⟨r.2.1,r.2.2,[]⟩).fine (m + 106) ∧ 0#32 < nowOf (Bo.cur ⟨r.2.1,r.2.2,[]⟩).eps ∧ (Bo.cur ⟨r.2.1,r.2.2,[]⟩).n = x.n ∧ ∀ B,r.2.2 = some B → B.good (m + 106):=by
 rintro r rfl
 unfold Wd.opens
 split
 · exact ⟨f.up (by omega),hp,rfl,fun B h=>(by cases h)⟩
 split
 · exact ⟨f.boot.up (by omega),hp,rfl,fun B h=>(by cases h)⟩
 have hn:=isSl_nat f.ok.sl
 cases hl : x.boot.loadO with
 | none =>
  refine ⟨f.boot.loadX.up (by omega),?_,?_,fun B h=>(by cases h)⟩
  · show 0#32 < nowOf x.boot.loadX.eps
    rw [loadX_same.2.1];exact hp
  · show x.boot.loadX.n = x.n
    rw [loadX_same.1];rfl
 | some ls =>
  have h1:=loadO_ok (x:=x.boot) (by show x.n ≤ 16;omega) hl
  have g:=fresh_good (x:=x.boot.loadX) f.boot.loadX (by rw [loadX_same.2.1];exact hp) (by rw [loadX_same.1];exact h1.1) h1.2
  have gf:=g.finish
  have hnf : (x.boot.loadX.fresh ls).finish.2.x.n = x.n:=by
   rw [finish_n]
   show x.boot.loadX.n = x.n
   rw [loadX_same.1];rfl
  obtain ⟨h2,h3⟩:=openR_cur (x.boot.loadX.fresh ls).finish
  have h4 : ∀ (r : Int × Wd × Option Bx),r = Bx.openR (x.boot.loadX.fresh ls).finish → (Bo.cur ⟨r.2.1,r.2.2,[]⟩).fine (m + 106) ∧ 0#32 < nowOf (Bo.cur ⟨r.2.1,r.2.2,[]⟩).eps ∧ (Bo.cur ⟨r.2.1,r.2.2,[]⟩).n = x.n ∧ ∀ B,r.2.2 = some B → B.good (m + 106):=by
   rintro r rfl
   rw [h2]
   exact ⟨gf.f.x.up (by omega),gf.ep,hnf,fun B hB=>by rw [h3 B hB];exact gf.up (by omega)⟩
  exact h4 _ rfl
theorem Wd.fine.sBack {x : Wd} {m : Nat} (f : x.fine m) {bs : List UInt8} (hb : bs.length = gSize x.n) : (x.sBack bs).fine (m + 1):=by
 refine f.setS ?_
 exact ⟨hb,fun y hy=>(by cases hy),fun y hy=>f.ok.s.fitp y hy,Nat.zero_le _,Nat.le_succ_of_le f.ok.s.done,ok_mono f.ok.s.pw (by omega)⟩
theorem Wd.fine.sSmash {x : Wd} {m : Nat} (f : x.fine m) {off : Int} {bs : List UInt8} (hb : isB (gSize x.n) off (bs.length : Int) = true) : (x.sSmash (off,bs)).fine (m + 1):=by
 refine f.setS ?_
 refine ⟨?_,fun y hy=>(by cases hy),fun y hy=>f.ok.s.fitp y hy,Nat.zero_le _,Nat.le_succ_of_le f.ok.s.done,ok_mono f.ok.s.pw (by omega)⟩
 show (layB x.sd.snap (off,bs)).length = _
 have hs : x.sd.snap.length = gSize x.n:=Sd.snap_length f.ok.s
 unfold isB at hb
 simp only [Bool.and_eq_true,decide_eq_true_eq] at hb
 unfold layB
 simp only [List.length_append,List.length_take,List.length_drop,hs]
 omega
theorem Bo.good.act {o : Bo} {m : Nat} (g : o.good m) (hm : m ≤ 90000) (a : Ac) (hl : a.n ≤ 9223372036854775807) : (o.act a).2.good (m + 110):=by
 unfold Bo.act
 split
 · unfold Bo.call
   cases hc : o.c with
   | none=>exact g.up (by omega)
   | some B =>
    have gB:=g.bx B hc
    have g2:=gB.doC (by omega) a.call
    have hcu : o.cur = B.x:=by unfold Bo.cur;rw [hc]
    exact ⟨g2.f.x.up (by omega),g2.ep,fun B2 h2=>(by cases h2;exact g2.up (by omega)),fun s hs=>by
     show s.length = gSize (B.doC a.call).2.x.n
     rw [doC_n,← hcu]
     exact g.sn s hs,Nat.le_trans g.few (by omega)⟩
 split
 · refine g.setX ((g.f.setP ?_).up (by omega)) (by omega) rfl rfl
   obtain ⟨h1,h2,h3⟩:=g.f.ok.s.pw
   refine ⟨h1,?_,fun hf=>?_⟩
   · show o.cur.p.steps ≤ _
     have : o.cur.p.steps ≤ (m : Int):=h2
     omega
   · have hf2 : decide (0 ≤ a.n) = true:=hf
     exact ⟨of_decide_eq_true hf2,hl⟩
 split
 · unfold Bo.crash Bo.open_
   obtain ⟨h1,h2,h3,h4⟩:=Wd.opens_good (g.f.crash a.keep) (show 0#32 < nowOf (o.cur.crash a.keep).eps from g.ep) _ rfl
   exact ⟨h1.up (by omega),h2,fun B hB=>(h4 B hB).up (by omega),fun s hs=>by
    show s.length = gSize (Bo.cur ⟨(o.cur.crash a.keep).opens.2.1,(o.cur.crash a.keep).opens.2.2,[]⟩).n
    rw [h3]
    exact g.sn s hs,Nat.le_trans g.few (by omega)⟩
 split
 · unfold Bo.smash
   split
   · rename_i h1
     exact g.setX ((g.f.sSmash h1).up (by omega)) (by omega) rfl rfl
   · exact g.up (by omega)
 split
 · have hs : o.cur.sd.snap.length = gSize o.cur.n:=Sd.snap_length g.f.ok.s
   exact ⟨g.f.up (by omega),g.ep,fun B hB=>(g.bx B hB).up (by omega),fun s h=>by
    rcases List.mem_append.1 h with h | h
    · exact g.sn s h
    · rw [List.mem_singleton.1 h];exact hs,by
    show (o.snaps ++ [o.cur.sd.snap]).length ≤ _
    have:=g.few
    simp;omega⟩
 split
 · unfold Bo.back
   split
   · rename_i h1
     refine g.setX ((g.f.sBack ?_).up (by omega)) (by omega) rfl rfl
     have hlt : a.n.toNat < o.snaps.length:=by omega
     rw [List.getElem?_eq_getElem hlt]
     exact g.sn _ (List.getElem_mem hlt)
   · exact g.up (by omega)
 split
 · exact g.setX ((g.f.dRefuse _).up (by omega)) (by omega) rfl rfl
 · exact g.up (by omega)
def Lk.numb : Lk → Prop
 | .real=>True
 | .ideal iss _=>∀ (i : Nat) (x : Iss),iss[i]? = some x → x.tag = (18446744073709551615#64,BitVec.ofNat 64 (i + 1))
theorem find_none_tag {iss : List Iss} {key : Pair} {n : Nn} {head out : List UInt8} {tag : Pair} (h : ∀ x ∈ iss,x.tag ≠ tag) : iss.find? (fun x=>x.opens key n head out tag) = none:=by
 rw [List.find?_eq_none]
 intro x hx ho
 unfold Iss.opens at ho
 simp only [Bool.and_eq_true,beq_iff_eq] at ho
 exact h x hx ho.2.2.1
theorem Lk.open_seal {l : Lk} (h : l.numb) (hf : l.few 1000000) (key : Pair) (n : Nn) (head data : List UInt8) : (l.sealL key n head data).openP key n head (l.sealP key n head data).1 (l.sealP key n head data).2 = some data:=by
 cases l with
 | real =>
  show (if openK key n head (ciph key n data) ((sealT key n head data).1,(sealT key n head data).2) then some (ciph key n (ciph key n data)) else none) = some data
  rw [openK_seal,if_pos rfl,ciph_ciph]
 | ideal iss sums =>
  show openI (iss ++ [issNew iss key n head data]) key n head (sealB (iss.length + 1) data.length) (18446744073709551615#64,BitVec.ofNat 64 (iss.length + 1)) = some data
  unfold openI
  have hn:=find_none_tag (iss:=iss) (key:=key) (n:=n) (head:=head) (out:=sealB (iss.length + 1) data.length) (tag:=(18446744073709551615#64,BitVec.ofNat 64 (iss.length + 1))) (fun x hx e=>by
   obtain ⟨i,hi,hxi⟩:=List.getElem_of_mem hx
   have h1:=h i x (by rw [List.getElem?_eq_getElem hi,hxi])
   rw [h1] at e
   have e2 : BitVec.ofNat 64 (i + 1) = BitVec.ofNat 64 (iss.length + 1):=(Prod.mk.inj e).2
   have e3:=congrArg BitVec.toNat e2
   have hf1 : iss.length ≤ 1000000:=hf.1
   rw [BitVec.toNat_ofNat,BitVec.toNat_ofNat,Nat.mod_eq_of_lt (by omega),Nat.mod_eq_of_lt (by omega)] at e3
   omega)
  rw [List.find?_append,hn]
  have ho : (issNew iss key n head data).opens key n head (sealB (iss.length + 1) data.length) (18446744073709551615#64,BitVec.ofNat 64 (iss.length + 1)) = true:=by
   unfold Iss.opens issNew
   simp
  simp [ho]
  rfl
theorem layB_get (b : List UInt8) (x : Wr) (h : inB b.length x) : ((layB b x).drop x.1.toNat).take x.2.length = x.2:=by
 obtain ⟨h0,h1,h2⟩:=h
 unfold layB
 rw [List.append_assoc,List.drop_append_of_le_length (by rw [List.length_take];omega)]
 rw [List.drop_of_length_le (by rw [List.length_take];omega),List.nil_append,List.take_left]
theorem eps_now {l : List (BitVec 32)} (h : 0 < l.length) : l.contains (nowOf l) = true:=by
 have:=nowOf_get l h
 rw [List.contains_iff_mem]
 exact List.mem_of_getElem? this
theorem lay_value {b : Bx} {m : Nat} (f : b.fine m) (hm : m ≤ 1000000) (hnb : b.x.l.numb) (s : Nat) (hs : s < b.c.now.length) (lba : Int) (data : List UInt8) (hd : data.length = 32) (hsp : b.x.p.spend.1 = true) (c : Bx) (hx : c.x = b.layX s lba data) (dirty : Bool) (hl : c.leaf s = b.layF s lba data dirty) : c.valD s = some data:=by
 have hn : s < b.x.n:=by have:=f.nl;omega
 have hin:=layX_in b s lba data hn hd
 have hlen : b.x.sd.snap.length = gSize b.x.n:=Sd.snap_length f.x.ok.s
 have hsn : c.x.sd.snap = layB b.x.sd.snap ((gData b.x.n s : Nat),(b.layS s lba data).1):=by
  rw [hx]
  show ((b.layL s lba data).sd.wrote (b.layL s lba data).p.spend.1 _ _).snap = _
  rw [show (b.layL s lba data).p.spend.1 = true from hsp]
  show layAll b.x.s.lasts (b.x.s.waits ++ [_]) = _
  rw [layAll_snoc]
  rfl
 have hda : c.dataAt s = (b.layS s lba data).1:=by
  unfold Bx.dataAt
  rw [hsn,show c.x.n = b.x.n by rw [hx];rfl]
  have:=layB_get b.x.sd.snap ((gData b.x.n s : Nat),(b.layS s lba data).1) (by rw [hlen];exact hin)
  rw [show (((gData b.x.n s : Nat),(b.layS s lba data).1) : Wr).2.length = 32 by show (b.layS s lba data).1.length = 32;rw [layS_length];exact hd] at this
  simpa using this
 unfold Bx.valD
 rw [hl,if_neg (show ¬ (b.layF s lba data dirty).kind = 2 by show ¬ (1 : Int) = 2;decide),hda]
 unfold Bx.openL
 have he : c.x.eps = b.x.eps:=by rw [hx];rfl
 rw [he,if_pos (show b.x.eps.contains (b.layF s lba data dirty).ep = true from eps_now f.x.ok.ep)]
 have hll : c.x.l = b.x.l.sealL b.x.logK (b.layN s) (headB lba) data:=by rw [hx];rfl
 have hk : keyP c.x.seed b.x.eps (b.layF s lba data dirty).ep = b.x.logK:=by rw [hx];rfl
 rw [hll,hk]
 exact Lk.open_seal hnb (Lk.few_mono f.x.few hm) b.x.logK (b.layN s) (headB lba) data
def kW : Ac:=⟨1,⟨2,3,List.replicate 32 5⟩,0,0,[],[]⟩
def kR : Ac:=⟨1,⟨1,3,[]⟩,0,0,[],[]⟩
def kB (ideal : Bool) : Bx:=(((Bo.newB 4 1#64 ideal).lay 0 3 (List.replicate 32 5)).puts 0 ((Bo.newB 4 1#64 ideal).layF 0 3 (List.replicate 32 5) true))
theorem known_write (ideal : Bool) : ((Bo.new 4 1#64 ideal).act kW) = ((0,[]),⟨(kB ideal).x,some (kB ideal),[]⟩):=by
 have hw : (Bo.newB 4 1#64 ideal).doC ⟨2,3,List.replicate 32 5⟩ = ((0,[]),kB ideal):=by
  have h1 : (Bo.newB 4 1#64 ideal).write 3 (List.replicate 32 5) = (0,kB ideal):=by
   unfold Bx.write
   have hr : (Bo.newB 4 1#64 ideal).room = (0,Bo.newB 4 1#64 ideal):=by
    unfold Bx.room
    rw [if_pos (show (Bo.newB 4 1#64 ideal).c.free.isSome = true from rfl)]
   rw [hr,if_neg (fun e=>e rfl)]
   unfold Bx.lays
   rw [if_neg (show ¬ (Bo.newB 4 1#64 ideal).k = 100 by show ¬ (0 : Nat) = 100;decide),if_pos (show (Bo.newB 4 1#64 ideal).x.p.spend.1 = true from rfl)]
   rfl
  unfold Bx.doC
  rw [if_neg (show ¬ (Bo.newB 4 1#64 ideal).x.p.gone = true by show ¬ false = true;decide),if_neg (show ¬ (Bo.newB 4 1#64 ideal).c.bad = true by show ¬ false = true;decide),if_neg (by decide),if_neg (by decide),if_pos rfl]
  rw [h1]
 show (Bo.new 4 1#64 ideal).call ⟨2,3,List.replicate 32 5⟩ = _
 unfold Bo.call
 show ((Bx.doC _ _).1,(⟨(Bx.doC _ _).2.x,some (Bx.doC _ _).2,_⟩ : Bo)) = _
 rw [hw]
 rfl
theorem known_read (ideal : Bool) : ((⟨(kB ideal).x,some (kB ideal),[]⟩ : Bo).act kR).1 = (0,List.replicate 32 5):=by
 have g:=(Bo.new_good 4 1#64 ideal (by decide)).bx (Bo.newB 4 1#64 ideal) rfl
 have hput : kB ideal = ((Bo.newB 4 1#64 ideal).lay 0 3 (List.replicate 32 5)).put1 0 ((Bo.newB 4 1#64 ideal).layF 0 3 (List.replicate 32 5) true):=by
  unfold kB Bx.puts
  rw [show ((Bo.newB 4 1#64 ideal).lay 0 3 (List.replicate 32 5)).c.slot ((Bo.newB 4 1#64 ideal).layF 0 3 (List.replicate 32 5) true).lba = none from rfl]
 have hnb : (Bo.newB 4 1#64 ideal).x.l.numb:=by
  cases ideal
  · trivial
  · intro i x hx
    cases hx
 have hv : (kB ideal).valD 0 = some (List.replicate 32 5) :=
  lay_value g.f (by decide) hnb 0 (by show 0 < 4;decide) 3 (List.replicate 32 5) (by decide) rfl (kB ideal) (by rw [hput];rfl) true (by rw [hput];rfl)
 have hr : (kB ideal).read 3 = ((0,List.replicate 32 5),(kB ideal).touch 0):=by
  unfold Bx.read
  rw [show (kB ideal).c.slot 3 = some 0 by rw [hput];rfl]
  show (kB ideal).readV 0 ((kB ideal).valD 0) = _
  rw [hv]
  rfl
 have hw : ((kB ideal).doC ⟨1,3,[]⟩).1 = (0,List.replicate 32 5):=by
  unfold Bx.doC
  rw [if_neg (show ¬ (kB ideal).x.p.gone = true by rw [hput];show ¬ false = true;decide),if_neg (show ¬ (kB ideal).c.bad = true by rw [hput];show ¬ false = true;decide),if_neg (by decide),if_pos rfl]
  rw [hr]
 exact hw
theorem told_err (a b : Value) (w : World) : (Instr.field 39 (.agg #[a,b]) 0).run Tryz.prog w = .ok a w:=by kernel_rfl
theorem Ext.kept0 {m : Nat} {col' : Nat → Nat} {w w' : World} (e : Ext m (fun _=>0) col' w w') : Kept w w':=⟨e.os,e.tape,e.output,e.size,fun k hk=>e.block k hk (.inl rfl)⟩
theorem AcAt.nil {col : Nat → Nat} {w : World} (k ck lba n off : Int) : AcAt col w ⟨k,⟨ck,lba,[]⟩,n,off,[],[]⟩ (.slice none 0 0) (.slice none 0 0) (.slice none 0 0) :=
 ⟨SlC.nil,SlC.nil,.inl ⟨rfl,rfl,rfl⟩,fun a c e=>(by cases e),Nat.zero_le _,Nat.zero_le _,Nat.zero_le _⟩
theorem AcAt.wr {col : Nat → Nat} {w : World} (ck lba : Int) {v : Value} {d : List UInt8} (h : SlC col w v d) (hl : d.length ≤ 1000) : AcAt col w ⟨1,⟨ck,lba,d⟩,0,0,[],[]⟩ v (.slice none 0 0) (.slice none 0 0) :=
 ⟨h,SlC.nil,.inl ⟨rfl,rfl,rfl⟩,fun a c e=>(by cases e),hl,by show (0 : Nat) ≤ 1000;decide,by show (0 : Nat) ≤ 1000;decide⟩
theorem known_round (ideal : Bool) {col : Nat → Nat} {w : World} {P : Ptrs} {X : Nat} (h : BoxIn col w P X (Bo.new 4 1#64 ideal)) (w1 : World) (k1 : Kept w w1) (hd : SlC col w1 (.slice (some ⟨w.heap.size,0,none⟩) 32 32) (List.replicate 32 5)) :
 Calls Tryz.prog 11 #[.pointer (some ⟨X,0,none⟩),.agg #[.int .i64 1,.int .i64 2,.int .i64 3,.slice (some ⟨w.heap.size,0,none⟩) 32 32,.int .i64 0,.int .i64 0,.slice none 0 0,.slice none 0 0]] w1 fun e w'=>∃ v col',e = .returned (.agg #[.int .i64 0,v]) ∧ BoxIn col' w' P X ⟨(kB ideal).x,some (kB ideal),[]⟩ ∧ Ext 12 col col' w1 w':=by
 have g:=Bo.new_good 4 1#64 ideal (by decide)
 have:=box_do (h.kept k1) g (by decide) kW (some ⟨w.heap.size,0,none⟩) none none 32 0 0 (AcAt.wr 2 3 hd (by decide))
 rw [known_write] at this
 refine this.mono ?_
 rintro e w' ⟨v,col',h1,_,h3,h4⟩
 exact ⟨v,col',h1,h3,h4⟩
theorem known_round2 (ideal : Bool) {col : Nat → Nat} {w : World} {P : Ptrs} {X : Nat} (h : BoxIn col w P X ⟨(kB ideal).x,some (kB ideal),[]⟩) :
 Calls Tryz.prog 11 #[.pointer (some ⟨X,0,none⟩),.agg #[.int .i64 1,.int .i64 1,.int .i64 3,.slice none 0 0,.int .i64 0,.int .i64 0,.slice none 0 0,.slice none 0 0]] w fun e w'=>∃ v col',e = .returned (.agg #[.int .i64 0,v]) ∧ w'.ownsRow w.heap.size 5 1 v (List.replicate 32 (5 : UInt8)).length (bcells (List.replicate 32 5)) ∧ Ext 12 col col' w w':=by
 have g0:=(Bo.new_good 4 1#64 ideal (by decide)).act (by decide) kW (by decide)
 rw [known_write] at g0
 have:=box_do h g0 (by decide) kR none none none 0 0 0 (AcAt.nil 1 1 3 0 0)
 rw [known_read] at this
 refine this.mono ?_
 rintro e w' ⟨v,col',h1,h2,h3,h4⟩
 exact ⟨v,col',h1,h2.1,h4⟩
theorem known_any (w : World) : Calls Tryz.prog 12 #[] w fun e w'=>e = .returned (.bool true) ∧ Kept w w':=by
 go_enter Tryz.func12,Tryz.ntmps12
 go_wp2_with fail
 go_loopw [1] (fun i wr=>∃ k : Nat,i = .int .i64 k ∧ k ≤ 2 ∧ Kept w wr) (fun i _=>2 - (intOf i).toNat)
 case atStart=>exact ⟨0,rfl,by omega,Below.refl _ _⟩
 case round =>
  obtain ⟨k,rfl,hk,hkr⟩:=hrel
  match k,hk with
  | 0,_ =>
   have CN : Calls Tryz.prog 9 #[.int .i64 4,.int .u64 1,.bool true] wr fun e w'=>∃ P X col',e = .returned (.tuple #[.pointer (some ⟨X,0,none⟩),.int .i64 0]) ∧ BoxIn col' w' P X (Bo.new 4 1#64 true) ∧ Ext 12 (fun _=>0) col' wr w':=play_new 4 rfl 1#64 true wr
   go_wp2_with fail
   refine CN.mono ?_
   rintro e w1 ⟨P,X,col1,rfl,h1,e1⟩
   go_wp2_with fail
   refine (tblock_any 5 w1).mono ?_
   rintro e w2 ⟨rfl,ho,k2⟩
   go_wp2_with fail
   refine (tcall_any 2 3 (some ⟨w1.heap.size,0,none⟩) 32 32 w2).mono ?_
   rintro e w3 ⟨rfl,k3⟩
   have CW:=known_round true h1 w3 (k2.of k3) (SlC.of_own (own_kept ho k3) h1.top (Nat.le_refl _))
   go_wp2_with fail
   refine CW.mono ?_
   rintro e w4 ⟨v,col4,rfl,h4,e4⟩
   have hfd:=told_err (.int .i64 0) v w4
   go_wp2_with fail
   refine (tcall_any 1 3 none 0 0 w4).mono ?_
   rintro e w5 ⟨rfl,k5⟩
   have CR:=known_round2 true (h4.kept k5)
   go_wp2_with fail
   refine CR.mono ?_
   rintro e w6 ⟨v6,col6,rfl,hv6,e6⟩
   obtain ⟨va,vc,rfl⟩:=(Sl.of_own hv6).len
   have kk6 : Kept wr w6:=by
    have e7:=((e1.trans (Ext.kept (m:=12) h1.top (k2.of k3))).trans (e4.trans (Ext.kept (m:=12) h4.top k5))).trans e6
    exact e7.kept0
   have bR:=Blk.new w6 #[.int .i64 0,.slice va (List.replicate 32 (5 : UInt8)).length vc] 39
   have hkR : Kept w6 (w6.alloc (.cells #[.int .i64 0,.slice va (List.replicate 32 (5 : UInt8)).length vc] 39)):=(Below.refl _ _).alloc (Nat.le_refl _) _
   have hv4:=own_kept hv6 hkR
   obtain ⟨dd,hdd⟩ : ∃ d,d = List.replicate 32 (5 : UInt8):=⟨_,rfl⟩
   have hd32 : dd.length = 32:=by rw [hdd];rfl
   rw [← hdd] at hv4 bR hkR
   rw [hd32] at hv4 bR hkR
   replace hdd:=Lib.hid hdd
   replace hd32:=Lib.hid hd32
   go_wp2_with fail
   obtain ⟨w7,hw7⟩ : ∃ y,y = (w6.alloc (.cells #[.int .i64 0,.slice va 32 vc] 39)):=⟨_,rfl⟩
   rw [← hw7] at hv4 bR hkR ⊢
   clear hw7
   refine wp_region_chainK [(0,0),(1,0),(2,0),(3,0),(4,0),(5,0),(6,0),(7,1),(8,0),(9,0),(10,0)] (by kernel_rfl) (by kernel_rfl) ?_
   intro z1 hz1
   repeat
    refine chain_light _ rfl (fun K hK=>?_)
    first
     | (refine qqP (by rfl) ?_;apply Exists.intro;refine ⟨fun w' hw'=>?_,hK _ ?_⟩;(have hb:=(bR.kept (hz1.of hw'));have b0:=Blk.cell hb 0;have b1:=Blk.cell hb 1;clear hb;have s1:=str_of (v:=.slice va 32 vc) (bs:=dd) (by rw [hd32.out];exact Sl.of_own (own_kept hv4 (hz1.of hw')));first | (go_simp;done) | (go_simp;rfl)))
     | refine qqN (by rfl) (hK _ ?_)
    clear hK K;simp only [Act.put,qqA,qq0,qq1]
   refine chain_heavy _ rfl (fun K hK=>?_)
   refine qqP (by rfl) ?_
   go_wp2_with fail
   refine (tblock_any 5 z1).mono ?_
   rintro e z2 ⟨rfl,ho5,k5⟩
   go_wp2
   refine hK _ _ (k5) ?_
   clear hK K
   try simp only [Act.put,qqA,qq0,qq1]
   repeat
    refine chain_light _ rfl (fun K hK=>?_)
    first
     | (refine qqP (by rfl) ?_;apply Exists.intro;refine ⟨fun w' hw'=>?_,hK _ ?_⟩;(have s2:=str_of (v:=.slice (some ⟨z1.heap.size,0,none⟩) 32 32) (bs:=List.replicate 32 5) (Sl.of_own (own_kept ho5 hw'));rw [← hdd.out] at s2;first | (go_simp;done) | (go_simp;rfl)))
     | refine qqN (by rfl) (hK _ ?_)
    clear hK K;simp only [Act.put,qqA,qq0,qq1]
   refine chain_nil ?_
   go_wp2_with fail
   have kz:=(kk6.of hkR).of (hz1.of k5)
   exact ⟨⟨1,rfl,by omega,hkr.of kz⟩,by simp [intOf]⟩
  | 1,_ =>
   have CN : Calls Tryz.prog 9 #[.int .i64 4,.int .u64 1,.bool false] wr fun e w'=>∃ P X col',e = .returned (.tuple #[.pointer (some ⟨X,0,none⟩),.int .i64 0]) ∧ BoxIn col' w' P X (Bo.new 4 1#64 false) ∧ Ext 12 (fun _=>0) col' wr w':=play_new 4 rfl 1#64 false wr
   go_wp2_with fail
   refine CN.mono ?_
   rintro e w1 ⟨P,X,col1,rfl,h1,e1⟩
   go_wp2_with fail
   refine (tblock_any 5 w1).mono ?_
   rintro e w2 ⟨rfl,ho,k2⟩
   go_wp2_with fail
   refine (tcall_any 2 3 (some ⟨w1.heap.size,0,none⟩) 32 32 w2).mono ?_
   rintro e w3 ⟨rfl,k3⟩
   have CW:=known_round false h1 w3 (k2.of k3) (SlC.of_own (own_kept ho k3) h1.top (Nat.le_refl _))
   go_wp2_with fail
   refine CW.mono ?_
   rintro e w4 ⟨v,col4,rfl,h4,e4⟩
   have hfd:=told_err (.int .i64 0) v w4
   go_wp2_with fail
   refine (tcall_any 1 3 none 0 0 w4).mono ?_
   rintro e w5 ⟨rfl,k5⟩
   have CR:=known_round2 false (h4.kept k5)
   go_wp2_with fail
   refine CR.mono ?_
   rintro e w6 ⟨v6,col6,rfl,hv6,e6⟩
   obtain ⟨va,vc,rfl⟩:=(Sl.of_own hv6).len
   have kk6 : Kept wr w6:=by
    have e7:=((e1.trans (Ext.kept (m:=12) h1.top (k2.of k3))).trans (e4.trans (Ext.kept (m:=12) h4.top k5))).trans e6
    exact e7.kept0
   have bR:=Blk.new w6 #[.int .i64 0,.slice va (List.replicate 32 (5 : UInt8)).length vc] 39
   have hkR : Kept w6 (w6.alloc (.cells #[.int .i64 0,.slice va (List.replicate 32 (5 : UInt8)).length vc] 39)):=(Below.refl _ _).alloc (Nat.le_refl _) _
   have hv4:=own_kept hv6 hkR
   obtain ⟨dd,hdd⟩ : ∃ d,d = List.replicate 32 (5 : UInt8):=⟨_,rfl⟩
   have hd32 : dd.length = 32:=by rw [hdd];rfl
   rw [← hdd] at hv4 bR hkR
   rw [hd32] at hv4 bR hkR
   replace hdd:=Lib.hid hdd
   replace hd32:=Lib.hid hd32
   go_wp2_with fail
   obtain ⟨w7,hw7⟩ : ∃ y,y = (w6.alloc (.cells #[.int .i64 0,.slice va 32 vc] 39)):=⟨_,rfl⟩
   rw [← hw7] at hv4 bR hkR ⊢
   clear hw7
   refine wp_region_chainK [(0,0),(1,0),(2,0),(3,0),(4,0),(5,0),(6,0),(7,1),(8,0),(9,0),(10,0)] (by kernel_rfl) (by kernel_rfl) ?_
   intro z1 hz1
   repeat
    refine chain_light _ rfl (fun K hK=>?_)
    first
     | (refine qqP (by rfl) ?_;apply Exists.intro;refine ⟨fun w' hw'=>?_,hK _ ?_⟩;(have hb:=(bR.kept (hz1.of hw'));have b0:=Blk.cell hb 0;have b1:=Blk.cell hb 1;clear hb;have s1:=str_of (v:=.slice va 32 vc) (bs:=dd) (by rw [hd32.out];exact Sl.of_own (own_kept hv4 (hz1.of hw')));first | (go_simp;done) | (go_simp;rfl)))
     | refine qqN (by rfl) (hK _ ?_)
    clear hK K;simp only [Act.put,qqA,qq0,qq1]
   refine chain_heavy _ rfl (fun K hK=>?_)
   refine qqP (by rfl) ?_
   go_wp2_with fail
   refine (tblock_any 5 z1).mono ?_
   rintro e z2 ⟨rfl,ho5,k5⟩
   go_wp2
   refine hK _ _ (k5) ?_
   clear hK K
   try simp only [Act.put,qqA,qq0,qq1]
   repeat
    refine chain_light _ rfl (fun K hK=>?_)
    first
     | (refine qqP (by rfl) ?_;apply Exists.intro;refine ⟨fun w' hw'=>?_,hK _ ?_⟩;(have s2:=str_of (v:=.slice (some ⟨z1.heap.size,0,none⟩) 32 32) (bs:=List.replicate 32 5) (Sl.of_own (own_kept ho5 hw'));rw [← hdd.out] at s2;first | (go_simp;done) | (go_simp;rfl)))
     | refine qqN (by rfl) (hK _ ?_)
    clear hK K;simp only [Act.put,qqA,qq0,qq1]
   refine chain_nil ?_
   go_wp2_with fail
   have kz:=(kk6.of hkR).of (hz1.of k5)
   exact ⟨⟨2,rfl,by omega,hkr.of kz⟩,by simp [intOf]⟩
  | 2,_ =>
   go_wp2_with fail
   refine bodyPost_ret (v:=.bool true) (by simp [results,Tryz.results12,go_sem];done) rfl ⟨rfl,hkr⟩
end Go.Proofs.YtldmebjnklmpfaaGreat
namespace Go.Proofs.YtldmebjnklmpfaaGreat
open Go Go.RowKit Go.ChangeShapes Go.WideShapes Go.ChangeAt Go.Deep
def acCells (x : Ac) (r : Value × Value × Value) : List Value:=[.int .i64 x.kind,.int .i64 x.call.kind,.int .i64 x.call.lba,r.1,.int .i64 x.n,.int .i64 x.off,r.2.1,r.2.2]
structure AcRows (w : World) (x : Ac) (r : Value × Value × Value) : Prop where
 s1 : Sl w r.1 x.call.data.length (bcells x.call.data)
 s2 : Sl w r.2.1 x.data.length (bcells x.data)
 s3 : Sl w r.2.2 x.keep.length (kcells x.keep)
 hn : x.n ≤ 9223372036854775807
structure ActsAt (w : World) (v : Value) (l : List Ac) (rs : List (Value × Value × Value)) : Prop where
 len : rs.length = l.length
 sl : ∃ a cap,v = .slice a l.length cap ∧ ∀ (i : Nat) (x : Ac) (r : Value × Value × Value),l[i]? = some x → rs[i]? = some r → ∃ b off,a = some ⟨b,off,none⟩ ∧ b < w.heap.size ∧ ∀ (j : Nat) (u : Value),(acCells x r)[j]? = some u → w.cell? ⟨b,off + i * 8 + j,none⟩ = some u
 each : ∀ (i : Nat) (x : Ac) (r : Value × Value × Value),l[i]? = some x → rs[i]? = some r → AcRows w x r
section
variable {H : Type} {enc : TypeId × Value → H} {w : World} {base : Nat} {spare : Nat → Bool} {held : Bool} {r : Reach} {b0 : Nat}
theorem part_K' {m : Nat} {v : Value} {y : DataW H × List MemPlace} (h : DataW.trod enc Tryz.prog w base spare held m 35 [v] = some y) : ∃ ks : List Bool,Sl w v ks.length (kcells ks):=by
 rcases open_slice Tryz.underlying35 h with ⟨hcs,_⟩ | ⟨a,len,cap,m,n,D,Pl,hcs,hb,hl,hm,hmm,hx,hi⟩
 · simp at hcs
   subst hcs
   exact ⟨[],.inl ⟨rfl,rfl,rfl⟩⟩
 · simp at hcs
   subst hcs
   have hlm : len ≤ m:=by rw [hmm];split <;> omega
   obtain ⟨ks,hk,hkl⟩:=bools_of (w:=w) (a:=a) hl hm (fun i h=>by
    obtain ⟨cs',hc,ht'⟩:=hi i (by omega)
    rw [show Tryz.prog.cellsOf 4 = 1 by kernel_rfl,Nat.mul_one] at hc
    obtain ⟨_,hcl,_⟩:=World.cells?_some hc
    match cs',hcl with
    | [v],_ =>
     obtain ⟨q,hq⟩:=part_B' Tryz.underlying4 ht'
     exact ⟨q,by rw [← hq];exact cell_of_cells?_one hc⟩)
   exact ⟨ks,hk⟩
theorem part_act {fuel : Nat} {cs : List Value} {y : DataW H × List MemPlace} (hl : cs.length = 8) (h : DataW.trod enc Tryz.prog w base spare held fuel 37 cs = some y) : ∃ (x : Ac) (r : Value × Value × Value),cs = acCells x r ∧ AcRows w x r:=by
 have hu:=Tryz.underlying37
 have hc:=Tryz.underlying34
 have c8 : Tryz.prog.cellsOf 37 = 8:=by kernel_rfl
 match cs,hl with
 | [c0,c1,c2,c3,c4,c5,c6,c7],_ =>
  have len : ([c0,c1,c2,c3,c4,c5,c6,c7] : List Value).length ≤ Tryz.prog.cellsOf 37:=by rw [c8];simp
  have k0 : Part Tryz.prog 37 0 3:=Part.field (j:=0) hu rfl .here (by kernel_rfl)
  have k1 : Part Tryz.prog 37 1 3:=Part.field (j:=1) (i:=0) hu rfl (Part.field (j:=0) hc rfl .here (by kernel_rfl)) (by kernel_rfl)
  have k2 : Part Tryz.prog 37 2 3:=Part.field (j:=1) (i:=1) hu rfl (Part.field (j:=1) hc rfl .here (by kernel_rfl)) (by kernel_rfl)
  have k3 : Part Tryz.prog 37 3 32:=Part.field (j:=1) (i:=2) hu rfl (Part.field (j:=2) hc rfl .here (by kernel_rfl)) (by kernel_rfl)
  have k4 : Part Tryz.prog 37 4 3:=Part.field (j:=2) hu rfl .here (by kernel_rfl)
  have k5 : Part Tryz.prog 37 5 3:=Part.field (j:=3) hu rfl .here (by kernel_rfl)
  have k6 : Part Tryz.prog 37 6 32:=Part.field (j:=4) hu rfl .here (by kernel_rfl)
  have k7 : Part Tryz.prog 37 7 35:=Part.field (j:=5) hu rfl .here (by kernel_rfl)
  obtain ⟨m0,y0,g0⟩:=k0.get fuel _ _ len h
  obtain ⟨m1,y1,g1⟩:=k1.get fuel _ _ len h
  obtain ⟨m2,y2,g2⟩:=k2.get fuel _ _ len h
  obtain ⟨m3,y3,g3⟩:=k3.get fuel _ _ len h
  obtain ⟨m4,y4,g4⟩:=k4.get fuel _ _ len h
  obtain ⟨m5,y5,g5⟩:=k5.get fuel _ _ len h
  obtain ⟨m6,y6,g6⟩:=k6.get fuel _ _ len h
  obtain ⟨m7,y7,g7⟩:=k7.get fuel _ _ len h
  have si : Tryz.prog.cellsOf 3 = 1:=by kernel_rfl
  have sb : Tryz.prog.cellsOf 32 = 1:=by kernel_rfl
  have sk : Tryz.prog.cellsOf 35 = 1:=by kernel_rfl
  rw [si] at g0 g1 g2 g4 g5
  rw [sb] at g3 g6
  rw [sk] at g7
  obtain ⟨x0,rfl,_⟩:=part_I' Tryz.underlying3 g0
  obtain ⟨x1,rfl,_⟩:=part_I' Tryz.underlying3 g1
  obtain ⟨x2,rfl,_⟩:=part_I' Tryz.underlying3 g2
  obtain ⟨x4,rfl,_,h4⟩:=part_I' Tryz.underlying3 g4
  obtain ⟨x5,rfl,_⟩:=part_I' Tryz.underlying3 g5
  obtain ⟨b3,hb3⟩:=part_S' Tryz.underlying32 Tryz.underlying5 (by kernel_rfl) g3
  obtain ⟨b6,hb6⟩:=part_S' Tryz.underlying32 Tryz.underlying5 (by kernel_rfl) g6
  obtain ⟨b7,hb7⟩:=part_K' g7
  exact ⟨⟨x0,⟨x1,x2,b3⟩,x4,x5,b6,b7⟩,(c3,c6,c7),rfl,⟨hb3,hb6,hb7,h4⟩⟩
theorem open_topacts {v : Value} {d : DataW H} {ps : List MemPlace} (hval : Value.okWide Tryz.prog w r b0 22 v) (hd : DataW.Trod enc Tryz.prog w base spare held 22 v d ps) : ∃ l rs,ActsAt w v l rs:=by
 obtain ⟨a0,len0,cap0,rfl⟩:=okWide_slice Tryz.underlying22 hval
 obtain ⟨fuel,hf⟩:=hd
 rcases open_slice Tryz.underlying22 hf with ⟨hcs,_⟩ | ⟨a,len,cap,m,n,D,Pl,hcs,hb,hl,hm,hmm,hx,hi⟩
 · simp [Value.cells] at hcs
   obtain ⟨rfl,rfl,rfl⟩:=hcs
   exact ⟨[],[],rfl,⟨none,0,rfl,fun i x r h=>(by cases i <;> cases h)⟩,fun i x r h=>(by cases i <;> cases h)⟩
 · simp [Value.cells] at hcs
   obtain ⟨rfl,rfl,rfl⟩:=hcs
   have hlm : len0 ≤ m:=by rw [hmm];split <;> omega
   have c8 : Tryz.prog.cellsOf 37 = 8:=by kernel_rfl
   have each : ∀ i,∃ p : Ac × (Value × Value × Value),i < len0 → (∃ b off,a = ⟨b,off,none⟩ ∧ b < w.heap.size ∧ ∀ (j : Nat) (u : Value),(acCells p.1 p.2)[j]? = some u → w.cell? ⟨b,off + i * 8 + j,none⟩ = some u) ∧ AcRows w p.1 p.2:=by
    intro i
    by_cases h : i < len0
    · obtain ⟨cs',hc,ht'⟩:=hi i (by omega)
      rw [c8] at hc
      obtain ⟨_,hcl,hat⟩:=World.cells?_some hc
      obtain ⟨x,q,he,hr⟩:=part_act hcl ht'
      refine ⟨(x,q),fun _=>⟨?_,hr⟩⟩
      obtain ⟨b,off,spot⟩:=a
      have h0:=hat 0 (by omega)
      rw [he] at h0
      have h0' : w.cell? ((⟨b,off,spot⟩ : Addr).add (i * 8)) = some (.int .i64 x.kind):=by
       have:=h0
       rw [Addr.add_zero'] at this
       exact this
      have hs : spot = none:=by
       obtain ⟨cs0,hc0,ht0⟩:=hi 0 (by omega)
       rw [c8] at hc0
       obtain ⟨_,hcl0,hat0⟩:=World.cells?_some hc0
       have h9:=hat0 0 (by omega)
       rw [Nat.zero_mul,Addr.add_zero',Addr.add_zero'] at h9
       rw [List.getElem?_eq_getElem (by omega)] at h9
       exact World.cell?_spot h9
      subst hs
      rw [add_off] at h0'
      refine ⟨b,off,rfl,World.block_lt_of_cell? w _ h0',fun j u hj=>?_⟩
      have hj8 : j < 8:=(List.getElem?_eq_some_iff.1 hj).1
      have h1:=hat j hj8
      rw [he,add_off,add_off] at h1
      rw [h1]
      exact hj
    · exact ⟨(⟨0,⟨0,0,[]⟩,0,0,[],[]⟩,(undef,undef,undef)),fun h'=>absurd h' h⟩
   refine ⟨(List.range len0).map fun i=>(each i).choose.1,(List.range len0).map fun i=>(each i).choose.2,by simp,⟨some a,cap0,by simp,fun i x q hx hq=>?_⟩,fun i x q hx hq=>?_⟩
   · obtain ⟨k1,k2⟩:=List.getElem?_eq_some_iff.1 hx
     obtain ⟨k3,k4⟩:=List.getElem?_eq_some_iff.1 hq
     simp at k1 k2 k4
     obtain ⟨⟨b,off,e,hlt,hc⟩,_⟩:=(each i).choose_spec k1
     rw [← k2,← k4]
     exact ⟨b,off,by rw [e],hlt,hc⟩
   · obtain ⟨k1,k2⟩:=List.getElem?_eq_some_iff.1 hx
     obtain ⟨k3,k4⟩:=List.getElem?_eq_some_iff.1 hq
     simp at k1 k2 k4
     rw [← k2,← k4]
     exact ((each i).choose_spec k1).2
end
end Go.Proofs.YtldmebjnklmpfaaGreat
namespace Go.Proofs.YtldmebjnklmpfaaGreat
open Go Go.RowKit
def shortA (x : Ac) : Prop:=x.data.length ≤ 300 ∧ x.call.data.length ≤ 100 ∧ x.keep.length ≤ 100
def shortL (l : List Ac) : Prop:=l.length ≤ 200 ∧ ∀ (i : Nat) (x : Ac),l[i]? = some x → shortA x
theorem ActsAt.at {w : World} {a : Option Addr} {n cap : Nat} {l : List Ac} {rs : List (Value × Value × Value)} (h : ActsAt w (.slice a n cap) l rs) (hn : n = l.length) (k : Nat) (hk : k < l.length) :
 ∃ x r b off,l[k]? = some x ∧ rs[k]? = some r ∧ a = some ⟨b,off,none⟩ ∧ b < w.heap.size ∧ (∀ (j : Nat) (u : Value),(acCells x r)[j]? = some u → w.cell? ⟨b,off + k * 8 + j,none⟩ = some u) ∧ AcRows w x r:=by
 have h1 : l[k]? = some l[k]:=List.getElem?_eq_getElem hk
 have h2 : rs[k]? = some (rs[k]'(by rw [h.len];exact hk)):=List.getElem?_eq_getElem (by rw [h.len];exact hk)
 obtain ⟨a',cap',e,h3⟩:=h.sl
 cases e
 obtain ⟨b,off,e2,h4,h5⟩:=h3 k _ _ h1 h2
 exact ⟨_,_,b,off,h1,h2,e2,h4,h5,h.each k _ _ h1 h2⟩
theorem long_any (a : Option Addr) (cap : Nat) (l : List Ac) (rs : List (Value × Value × Value)) (w : World) (h : ActsAt w (.slice a l.length cap) l rs) : Calls Tryz.prog 8 #[.slice a l.length cap] w fun e w'=>((e = .returned (.bool false) ∧ shortL l) ∨ (e = .returned (.bool true) ∧ ¬ shortL l)) ∧ w = w':=by
 obtain ⟨N,hN⟩ : ∃ N,N = l.length:=⟨_,rfl⟩
 rw [← hN] at h ⊢
 have HN:=Lib.hid hN
 clear hN
 go_enter Tryz.func8,Tryz.ntmps8
 go_wp2_with fail
 go_loopw [3] (fun i wr=>∃ k : Nat,i = .int .i64 k ∧ k ≤ N ∧ k ≤ 200 ∧ w = wr ∧ ∀ (j : Nat) (x : Ac),j < k → l[j]? = some x → shortA x) (fun i _=>N - (intOf i).toNat)
 case atStart=>exact ⟨0,rfl,by omega,by omega,(by first | trivial | rfl),fun j x hj=>absurd hj (by omega)⟩
 case round =>
  obtain ⟨k,rfl,hk,hk2,rfl,hs⟩:=hrel
  replace hs:=Lib.hid hs
  by_cases hlt : k < N
  · have m1 : (k : Int) < (N : Int):=by omega
    by_cases h200 : k < 200
    · have m2 : (k : Int) < 200:=by omega
      have m3 : (0 : Int) ≤ (k : Int):=by omega
      obtain ⟨x,r,b,off,hx,hr,rfl,hbl,hc,hR⟩:=h.at HN.out k (by rw [← HN.out];exact hlt)
      obtain ⟨a1,c1,e1⟩:=hR.s1.len
      obtain ⟨a2,c2,e2⟩:=hR.s2.len
      obtain ⟨a3,c3,e3⟩:=hR.s3.len
      have d3 : w.cell? ⟨b,off + k * 8 + 3,none⟩ = some (.slice a1 x.call.data.length c1):=by rw [← e1];exact hc 3 _ rfl
      have d6 : w.cell? ⟨b,off + k * 8 + 6,none⟩ = some (.slice a2 x.data.length c2):=by rw [← e2];exact hc 6 _ rfl
      have d7 : w.cell? ⟨b,off + k * 8 + 7,none⟩ = some (.slice a3 x.keep.length c3):=by rw [← e3];exact hc 7 _ rfl
      obtain ⟨L1,hL1⟩ : ∃ n,n = x.call.data.length:=⟨_,rfl⟩
      obtain ⟨L2,hL2⟩ : ∃ n,n = x.data.length:=⟨_,rfl⟩
      obtain ⟨L3,hL3⟩ : ∃ n,n = x.keep.length:=⟨_,rfl⟩
      rw [← hL1] at d3
      rw [← hL2] at d6
      rw [← hL3] at d7
      replace hx:=Lib.hid hx
      replace hL1:=Lib.hid hL1
      replace hL2:=Lib.hid hL2
      replace hL3:=Lib.hid hL3
      clear hc e1 e2 e3 hR hr h
      by_cases g2 : 300 < L2
      · have n2 : (300 : Int) < (L2 : Int):=by omega
        go_wp2_with fail
        refine bodyPost_ret (v:=.bool true) (by simp [results,Tryz.results8,go_sem];done) rfl ⟨.inr ⟨rfl,fun hs2=>absurd (hs2.2 k x hx.out).1 (by rw [← hL2.out];omega)⟩,rfl⟩
      · have n2 : ¬ (300 : Int) < (L2 : Int):=by omega
        by_cases g1 : 100 < L1
        · have n1 : (100 : Int) < (L1 : Int):=by omega
          go_wp2_with fail
          refine bodyPost_ret (v:=.bool true) (by simp [results,Tryz.results8,go_sem];done) rfl ⟨.inr ⟨rfl,fun hs2=>absurd (hs2.2 k x hx.out).2.1 (by rw [← hL1.out];omega)⟩,rfl⟩
        · have n1 : ¬ (100 : Int) < (L1 : Int):=by omega
          by_cases g3 : 100 < L3
          · have n3 : (100 : Int) < (L3 : Int):=by omega
            go_wp2_with fail
            refine bodyPost_ret (v:=.bool true) (by simp [results,Tryz.results8,go_sem];done) rfl ⟨.inr ⟨rfl,fun hs2=>absurd (hs2.2 k x hx.out).2.2 (by rw [← hL3.out];omega)⟩,rfl⟩
          · have n3 : ¬ (100 : Int) < (L3 : Int):=by omega
            go_wp2_with fail
            refine ⟨⟨k + 1,rfl,by omega,by omega,(by first | trivial | rfl),fun j y hj hy=>?_⟩,by simp [intOf];omega⟩
            by_cases hjk : j = k
            · subst hjk
              have : y = x:=Option.some.inj (hy.symm.trans hx.out)
              subst this
              exact ⟨by rw [← hL2.out];omega,by rw [← hL1.out];omega,by rw [← hL3.out];omega⟩
            · exact hs.out j y (by omega) hy
    · have m2 : ¬ (k : Int) < 200:=by omega
      have m4 : ¬ N = 200 ∨ True:=.inr trivial
      clear m4
      by_cases g : 200 < N
      · have n2 : (200 : Int) < (N : Int):=by omega
        go_wp2_with fail
        refine bodyPost_ret (v:=.bool true) (by simp [results,Tryz.results8,go_sem];done) rfl ⟨.inr ⟨rfl,fun hs2=>absurd hs2.1 (by rw [← HN.out];omega)⟩,rfl⟩
      · exact absurd hlt (by omega)
  · have m1 : ¬ (k : Int) < (N : Int):=by omega
    have n2 : ¬ (200 : Int) < (N : Int):=by omega
    have hfin : shortL l:=⟨by rw [← HN.out];omega,fun i x hx=>hs.out i x (by have:=(List.getElem?_eq_some_iff.1 hx).1;rw [← HN.out] at this;omega) hx⟩
    replace hfin:=Lib.hid hfin
    go_wp2_with fail
    refine bodyPost_ret (v:=.bool false) (by simp [results,Tryz.results8,go_sem];done) rfl ⟨.inl ⟨rfl,hfin.out⟩,rfl⟩
theorem long_no {a : Option Addr} {cap : Nat} {l : List Ac} {rs : List (Value × Value × Value)} {w : World} (h : ActsAt w (.slice a l.length cap) l rs) (hs : shortL l) : Calls Tryz.prog 8 #[.slice a l.length cap] w fun e w'=>e = .returned (.bool false) ∧ w = w' :=
 (long_any a cap l rs w h).mono (by
  rintro e w' ⟨⟨h1,_⟩ | ⟨_,h2⟩,h3⟩
  · exact ⟨h1,h3⟩
  · exact absurd hs h2)
theorem long_yes {a : Option Addr} {cap : Nat} {l : List Ac} {rs : List (Value × Value × Value)} {w : World} (h : ActsAt w (.slice a l.length cap) l rs) (hs : ¬ shortL l) : Calls Tryz.prog 8 #[.slice a l.length cap] w fun e w'=>e = .returned (.bool true) ∧ w = w' :=
 (long_any a cap l rs w h).mono (by
  rintro e w' ⟨⟨_,h2⟩ | ⟨h1,_⟩,h3⟩
  · exact absurd h2 hs
  · exact ⟨h1,h3⟩)
end Go.Proofs.YtldmebjnklmpfaaGreat
