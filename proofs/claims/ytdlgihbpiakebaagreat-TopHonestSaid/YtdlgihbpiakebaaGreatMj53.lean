import Derived.Test.YtdlgihbpiakebaaGreatMj51
import Derived.Test.YtdlgihbpiakebaaGreatMj52
set_option maxRecDepth 100000
set_option maxHeartbeats 4000000
namespace Go.Proofs.YtdlgihbpiakebaaGreat
open Go Go.RowKit Tryz
theorem qQ8 {w : World} {X : Nat} {B : Nat → List UInt8} (h : MoAt w X B) (h32 : ∀ i,i < 32 → (B i).length = 32) (c : Cl) (a : Option Addr) (cap : Nat) (hs : Sl w (.slice a c.data.length cap) c.data.length (qA1 c.data)) (hl : c.data.length ≤ 1000000) : Calls prog 14 #[.pointer (some ⟨X,0,none⟩),.agg #[.int .i64 c.kind,.int .i64 c.lba,.slice a c.data.length cap]] w fun e w'=>∃ v,e = .returned (.agg #[.int .i64 (mdo B c).1.1,v]) ∧ MoAt w' X (mdo B c).2 ∧ Sl w' v (mdo B c).1.2.length (qA1 (mdo B c).1.2) ∧ Chg [X] w w':=by
 obtain ⟨k,lb,dt⟩:=c
 cases his : Cl.is ⟨k,lb,dt⟩ with
 | false =>
  have e : mdo B ⟨k,lb,dt⟩ = ((1,[]),B):=by unfold mdo;rw [if_pos his]
  rw [e]
  exact qMy h k lb dt his a cap hs hl
 | true =>
  have h0 : ¬ Cl.is ⟨k,lb,dt⟩ = false:=by rw [his];decide
  by_cases k1 : k = 1
  · subst k1
    have hd : isD lb = true:=by unfold Cl.is at his;rw [if_pos rfl] at his;exact his
    have e : mdo B ⟨1,lb,dt⟩ = ((0,B lb.toNat),B):=by unfold mdo;rw [if_neg h0,if_pos rfl]
    rw [e]
    exact qJ5 h lb hd (h32 _ (by simp [isD] at hd;omega)) dt a cap hs hl
  by_cases k2 : k = 2
  · subst k2
    have h2 : (isD lb && decide (dt.length = 32)) = true:=by unfold Cl.is at his;rw [if_neg (show ¬ (2 : Int) = 1 by decide),if_neg (show ¬ (2 : Int) = 4 by decide),if_pos rfl] at his;exact his
    rw [Bool.and_eq_true] at h2
    have e : mdo B ⟨2,lb,dt⟩ = ((0,[]),upd B lb.toNat dt):=by unfold mdo;rw [if_neg h0,if_neg (show ¬ (2 : Int) = 1 by decide),if_pos rfl]
    rw [e]
    exact qI1 h lb h2.1 dt (by simpa using h2.2) a cap hs hl
  by_cases k4 : k = 4
  · subst k4
    have hd : isD lb = true:=by unfold Cl.is at his;rw [if_neg (show ¬ (4 : Int) = 1 by decide),if_pos rfl] at his;exact his
    have e : mdo B ⟨4,lb,dt⟩ = ((0,[]),upd B lb.toNat (List.replicate 32 0)):=by unfold mdo;rw [if_neg h0,if_neg (show ¬ (4 : Int) = 1 by decide),if_neg (show ¬ (4 : Int) = 2 by decide),if_pos rfl]
    rw [e]
    exact qFJ h lb hd dt a cap hs hl
  · have hk : k = 3 ∨ k = 5:=by
     unfold Cl.is at his
     rw [if_neg k1,if_neg k4,if_neg k2] at his
     simpa using his
    have e : mdo B ⟨k,lb,dt⟩ = ((0,[]),B):=by unfold mdo;rw [if_neg h0,if_neg k1,if_neg k2,if_neg k4]
    rw [e]
    exact qJ6 h k lb hk dt a cap hs hl
theorem qPd (B : Nat → List UInt8) (c : Cl) : (mdo B c).1.1 = 0 ∨ (mdo B c).1.1 = 1:=by
 unfold mdo
 split
 · exact .inr rfl
 split
 · exact .inl rfl
 split
 · exact .inl rfl
 split
 · exact .inl rfl
 · exact .inl rfl
theorem qQ9 {B : Nat → List UInt8} (h : ∀ i,i < 32 → (B i).length = 32) (c : Cl) : ∀ i,i < 32 → ((mdo B c).2 i).length = 32:=by
 have hup : ∀ (j : Nat) (d : List UInt8),d.length = 32 → ∀ i,i < 32 → (upd B j d i).length = 32:=fun j d hd i hi=>by
  unfold upd
  split
  · exact hd
  · exact h i hi
 unfold mdo
 split
 · exact h
 rename_i his
 split
 · exact h
 rename_i k1
 split
 · rename_i k2
   refine hup _ _ ?_
   unfold Cl.is at his
   rw [if_neg k1,if_neg (by omega),if_pos k2] at his
   have h2 : (isD c.lba && decide (c.data.length = 32)) = true:=by simpa using his
   rw [Bool.and_eq_true] at h2
   simpa using h2.2
 split
 · exact hup _ _ (by simp)
 · exact h
theorem qNT {o : Bo} {b : Bx} (hc : o.c = some b) (a : Ac) (hk : a.kind = 1) : (o.act a).1 = (b.doC a.call).1 ∧ (o.act a).2.c = some (b.doC a.call).2:=by
 unfold Bo.act Bo.call
 rw [if_pos hk,hc]
 exact ⟨rfl,rfl⟩
theorem qI3 (log : Int) (ideal : Bool) (a : Option Addr) (cap : Nat) (l : List Ac) (rs : List (Value × Value × Value)) (w : World) (h : ActsAt w (.slice a l.length cap) l rs) (hlog : 2 ≤ log ∧ log ≤ 4) (hsh : qFB l) (CL : Calls prog 8 #[.slice a l.length cap] w fun e w'=>e = .returned (.bool false) ∧ w = w') : Calls prog 3 #[.int .i64 log,.bool ideal,.slice a l.length cap] w fun e w'=>e = .returned (.bool true) ∧ Kept w w':=by
 obtain ⟨n,hn,hsl⟩:=qNS hlog
 have CN:=qH3 n hsl 1#64 ideal w
 rw [← hn] at CN
 have g0:=Bo.new_good n 1#64 ideal hsl
 have H0:=Hon.new n hsl ideal
 obtain ⟨N,hN⟩ : ∃ N,N = l.length:=⟨_,rfl⟩
 rw [← hN] at h CL ⊢
 have l1 : ¬ log < 2:=by omega
 have l2 : ¬ 4 < log:=by omega
 have HN:=qh hN
 replace hn:=qh hn
 have hN2 : N ≤ 200:=by rw [hN];exact hsh.1
 clear hN hlog
 go_enter func3,ntmps3
 go_wp2_with fail
 refine CL.mono ?_
 rintro e w1 ⟨rfl,rfl⟩
 go_wp2_with fail
 refine CN.mono ?_
 rintro e w1 ⟨P,X,col1,rfl,h1,e1⟩
 have CNr:=qPa w1
 go_wp2_with fail
 refine CNr.mono ?_
 rintro e w2 ⟨Y,rfl,hM1,kM1,hY1⟩
 have e1':=e1.trans (Ext.kept (m:=12) h1.top kM1)
 have hYw : w.heap.size ≤ Y:=Nat.le_trans e1.size hY1
 have hc0 : col1 Y = 0:=h1.top Y hY1
 have h1':=h1.kept kM1
 replace H0:=qh H0
 clear kM1 h1 e1 hY1
 go_wp2_with fail
 go_loopw [10] (fun i wr=>∃ (k : Nat) (o : Bo) (b : Bx) (ck : Nat → Nat) (B : Nat → List UInt8),i = .int .i64 k ∧ k ≤ N ∧ BoxIn ck wr P X o ∧ Ext 12 (fun _=>0) ck w wr ∧ o.good (17 + 110 * k) ∧ o.c = some b ∧ Hon b B ∧ MoAt wr Y B ∧ ck Y = 0 ∧ ∀ i,i < 32 → (B i).length = 32) (fun i _=>N - (intOf i).toNat)
 case atStart=>exact ⟨0,_,_,col1,_,rfl,by omega,h1',e1',g0,rfl,H0.out,hM1,hc0,fun i hi=>by simp⟩
 case round =>
  obtain ⟨k,o,bo,ck,B,rfl,hk,hb,eb,g,hoc,H,hM,hY0,h32⟩:=hrel
  clear h1' e1' hM1 hc0 g0 H0 CL CN CNr
  replace h32:=qh h32
  by_cases hlt : k < N
  · have m1 : (k : Int) < (N : Int):=by omega
    have m3 : (0 : Int) ≤ (k : Int):=by omega
    obtain ⟨x,r,b,off,hx,hr,rfl,hbl,hc,hR⟩:=h.at HN.out k (by rw [← HN.out];exact hlt)
    have hsx:=hsh.2 k x hx
    have hAA:=hR.at hsx eb
    have hxn:=hR.hn
    obtain ⟨r1,r2,r3⟩:=r
    obtain ⟨a1,c1,e1'⟩:=hR.s1.len
    obtain ⟨a2,c2,e2'⟩:=hR.s2.len
    obtain ⟨a3,c3,e3'⟩:=hR.s3.len
    simp only at e1' e2' e3'
    subst e1'
    subst e2'
    subst e3'
    have hkw:=eb.kept0
    have cc : ∀ (j : Nat) (u : Value),(qEq x (.slice a1 x.call.data.length c1,.slice a2 x.data.length c2,.slice a3 x.keep.length c3))[j]? = some u → w.cell? ⟨b,off + k * 8 + j,none⟩ = some u:=fun j u hj=>hc j u hj
    have dd : ∀ (j : Nat) (u : Value),(qEq x (.slice a1 x.call.data.length c1,.slice a2 x.data.length c2,.slice a3 x.keep.length c3))[j]? = some u → wr.cell? ⟨b,off + k * 8 + j,none⟩ = some u:=fun j u hj=>hkw.at (hc j u hj)
    have d0 : wr.cell? ⟨b,off + k * 8,none⟩ = some (.int .i64 x.kind):=dd 0 _ rfl
    by_cases hkk : x.kind = 1
    · have d1 : wr.cell? ⟨b,off + k * 8 + 1,none⟩ = some (.int .i64 x.call.kind):=dd 1 _ rfl
      have d2 : wr.cell? ⟨b,off + k * 8 + 2,none⟩ = some (.int .i64 x.call.lba):=dd 2 _ rfl
      have d3 : wr.cell? ⟨b,off + k * 8 + 3,none⟩ = some (.slice a1 x.call.data.length c1):=dd 3 _ rfl
      have d4 : wr.cell? ⟨b,off + k * 8 + 4,none⟩ = some (.int .i64 x.n):=dd 4 _ rfl
      have d5 : wr.cell? ⟨b,off + k * 8 + 5,none⟩ = some (.int .i64 x.off):=dd 5 _ rfl
      have d6 : wr.cell? ⟨b,off + k * 8 + 6,none⟩ = some (.slice a2 x.data.length c2):=dd 6 _ rfl
      have d7 : wr.cell? ⟨b,off + k * 8 + 7,none⟩ = some (.slice a3 x.keep.length c3):=dd 7 _ rfl
      have t1 : w.cell? ⟨b,off + k * 8 + 1,none⟩ = some (.int .i64 x.call.kind):=cc 1 _ rfl
      have t2 : w.cell? ⟨b,off + k * 8 + 2,none⟩ = some (.int .i64 x.call.lba):=cc 2 _ rfl
      have t3 : w.cell? ⟨b,off + k * 8 + 3,none⟩ = some (.slice a1 x.call.data.length c1):=cc 3 _ rfl
      have CB:=qMm hb g (by omega) x a1 a2 a3 c1 c2 c3 hAA
      have g2:=g.act (by omega) x hxn
      have hac:=qNT hoc x hkk
      have hH:=Hon.doC H (g.bx bo hoc) (by omega) x.call
      have hS1 : Sl w (.slice a1 x.call.data.length c1) x.call.data.length (qA1 x.call.data):=hR.s1
      have hln : x.call.data.length ≤ 1000000:=by obtain ⟨h1,h2,h3⟩:=hsx;omega
      obtain ⟨F,hF⟩ : ∃ F,F = o.act x:=⟨_,rfl⟩
      rw [← hF] at CB g2 hac
      obtain ⟨⟨E,D⟩,o2⟩:=F
      simp only at CB g2 hac
      have hAll : E = 6 ∨ ((mdo B x.call).1 = (E,D) ∧ ∃ b2,o2.c = some b2 ∧ Hon b2 (mdo B x.call).2):=by
       rw [← hac.1] at hH
       rcases hH with h6 | ⟨he,hh⟩
       · exact .inl h6
       · exact .inr ⟨he.symm,_,hac.2,hh⟩
      have g3:=g2.up (k:=17 + 110 * (k + 1)) (by omega)
      have hbw : b < w.heap.size:=hbl
      rw [hkk] at CB d0
      replace hx:=qh hx
      replace hAll:=qh hAll
      clear hF dd cc hc hR hsx hAA hr hH hac hkk g2 H hoc
      go_wp2_with fail
      refine CB.mono ?_
      rintro e w2 ⟨v,c4,rfl,hv,h2,e2⟩
      obtain ⟨va,vc,rfl⟩:=(Sl.of_own hv.1).len
      have eb2:=eb.trans e2
      have hM2 : MoAt w2 Y B ∧ c4 Y = 0:=by
       obtain ⟨L,hL⟩:=hM
       have:=e2.blk0 hL hY0
       exact ⟨⟨L,this.1⟩,this.2⟩
      have hYlt : Y < wr.heap.size:=by
       obtain ⟨L,hL⟩:=hM
       exact hL.lt
      have hk3 : Kept w2 (w2.alloc (.cells #[.int .i64 E,.slice va D.length vc] 39)):=qal _
      have h3:=h2.kept hk3
      have eb3:=eb2.trans (Ext.kept (m:=12) h2.top hk3)
      have hM3:=hM2.1.kept hk3
      have bt3:=Blk.new w2 #[.int .i64 E,.slice va D.length vc] 39
      have hvs:=(⟨qA4 hv.1 hk3,hv.2⟩ : RowC c4 _ wr.heap.size (.slice va D.length vc) D)
      have hws:=e2.size
      clear d0 d1 d2 d3 d4 d5 d6 d7 hb eb g hM hv h2 e2 eb2
      by_cases hE : E = 6
      · subst hE
        have CK:=qHZ (w2.alloc (.cells #[.int .i64 6,.slice va D.length vc] 39))
        go_wp2_with fail
        refine CK.mono ?_
        rintro e w9 ⟨rfl,k9⟩
        go_wp2_with fail
        refine bodyPost_ret (v:=.bool true) (by simp [results,results3,go_sem];done) rfl ⟨rfl,eb3.kept0.of k9⟩
      · obtain ⟨hm,b2,hoc2,H2⟩:=hAll.out.resolve_left hE
        have he01 : E = 0 ∨ E = 1:=by
         have:=qPd B x.call
         rw [hm] at this
         exact this
        have e6 : (E == 6) = false:=by simpa using hE
        have e3 : (E == 3) = false:=by rcases he01 with rfl | rfl <;> rfl
        have e4 : (E == 4) = false:=by rcases he01 with rfl | rfl <;> rfl
        have CR0:=fun (z : World) (hz : MoAt z Y B) (hs : Sl z (.slice a1 x.call.data.length c1) x.call.data.length (qA1 x.call.data))=>qQ8 hz h32.out x.call a1 c1 hs hln
        rw [hm] at CR0
        simp only at CR0
        have h32':=qQ9 h32.out x.call
        have CS : ∀ (v2 : Value) (z : World),Sl z (.slice va D.length vc) D.length (qA1 D) → Sl z v2 D.length (qA1 D) → Calls prog 13 #[.agg #[.int .i64 E,.slice va D.length vc],.agg #[.int .i64 E,v2]] z fun e w'=>e = .returned (.bool true) ∧ Kept z w':=fun v2 z h1 h2=>by
         have:=qN6 E E _ v2 D D z h1 h2
         rw [show (decide (E = E) && (D == D)) = true by simp] at this
         exact this
        clear hAll he01 hm hE
        obtain ⟨B2,hB2⟩ : ∃ B2,B2 = (mdo B x.call).2:=⟨_,rfl⟩
        rw [← hB2] at CR0 H2 h32'
        replace h32':=qh h32'
        replace hB2:=qh hB2
        have hYt : w2.heap.size ∉ [Y]:=by rw [List.mem_singleton];omega
        have hYb : b ∉ [Y]:=by rw [List.mem_singleton];omega
        have hcY:=hM2.2
        generalize hw3 : w2.alloc (.cells #[.int .i64 E,.slice va D.length vc] 39) = w3 at *
        have kw3:=eb3.kept0
        have d1:=kw3.at t1
        have d2:=kw3.at t2
        have d3:=kw3.at t3
        have p0:=bt3.cell 0
        have p1:=bt3.cell 1
        go_wp2_with fail
        refine qA9 [Y] [(0,0),(1,0),(2,0),(3,0),(4,0),(5,0),(6,0),(7,0),(8,0),(9,0),(10,0),(11,0),(12,0),(13,0),(14,0),(15,0),(16,1),(17,1),(18,0),(19,0)] (by kernel_rfl) (by kernel_rfl) ?_
        intro z1 hz1
        replace bt3:=bt3.kept hz1
        replace d1:=hz1.at d1
        replace d2:=hz1.at d2
        replace d3:=hz1.at d3
        replace hvs:=(⟨qA4 hvs.1 hz1,hvs.2⟩ : RowC c4 _ wr.heap.size (.slice va D.length vc) D)
        have CR:=CR0 z1 (hM3.kept hz1) (hS1.kept (kw3.of hz1))
        clear CR0
        repeat
         refine qA0 _ rfl (fun K hK=>?_)
         first
          | (refine qqP (by rfl) ?_;apply Exists.intro;refine ⟨fun w' hw'=>?_,hK _ ?_⟩;(have u0:=(hw'.blk bt3 hYt).cell 0;have u1:=(hw'.blk bt3 hYt).cell 1;have y1:=hw'.cell d1 hYb;have y2:=hw'.cell d2 hYb;have y3:=hw'.cell d3 hYb;go_simp;first|done|rfl))
          | refine qqN (by rfl) (hK _ ?_)
         clear hK K;simp only [Act.put,qqB]
        refine qqH _ rfl (by rfl) (fun K hK=>?_)
        go_wp2_with fail
        refine (CR).mono ?_
        rintro e z2 ⟨v2,rfl,hMn,s2,c2'⟩
        obtain ⟨v2a,v2c,rfl⟩:=s2.len
        go_wp2
        refine hK _ _ (c2') ?_
        clear hK K
        try simp only [Act.put,qqB]
        refine qqH _ rfl (by rfl) (fun K hK=>?_)
        go_wp2_with fail
        refine (CS _ z2 (Sl.of_own (RowC.chg hvs c2' hYlt).1) s2).mono ?_
        rintro e z3 ⟨rfl,k3⟩
        go_wp2
        refine hK _ _ (Chg.of_kept k3) ?_
        clear hK K
        try simp only [Act.put,qqB]
        repeat
         refine qA0 _ rfl (fun K hK=>?_)
         first
          | (refine qqP (by rfl) ?_;apply Exists.intro;refine ⟨fun w' hw'=>?_,hK _ ?_⟩;go_simp;first|done|rfl)
          | refine qqN (by rfl) (hK _ ?_)
         clear hK K;simp only [Act.put,qqB]
        refine qA6 ?_
        go_wp2_with fail
        have hcc:=(Chg.of_kept hz1).trans c2'
        exact ⟨⟨k + 1,o2,b2,c4,B2,rfl,by omega,(h3.chg0 hcc hcY).kept k3,(eb3.newset hcc hYw).trans (Ext.kept (m:=12) (h3.chg0 hcc hcY).top k3),g3,hoc2,H2,hMn.kept k3,hcY,h32'.out⟩,by simp [intOf];omega⟩
    · have e1 : (x.kind == 1) = false:=by simpa using hkk
      clear dd cc hc hR hsx hAA hr
      have g3:=g.up (k:=17 + 110 * (k + 1)) (by omega)
      go_wp2_with fail
      exact ⟨⟨k + 1,o,bo,ck,B,rfl,by omega,hb,eb,g3,hoc,H,hM,hY0,h32.out⟩,by simp [intOf];omega⟩
  · have m1 : ¬ (k : Int) < (N : Int):=by omega
    go_wp2_with fail
    refine (qHZ wr).mono ?_
    rintro e w9 ⟨rfl,k9⟩
    go_wp2_with fail
    refine bodyPost_ret (v:=.bool true) (by simp [results,results3,go_sem];done) rfl ⟨rfl,eb.kept0.of k9⟩
theorem qFK (log : Int) (ideal : Bool) (v : Value) (l : List Ac) (rs : List (Value × Value × Value)) (w : World) (h : ActsAt w v l rs) : Calls prog 3 #[.int .i64 log,.bool ideal,v] w fun e w'=>e = .returned (.bool true) ∧ Kept w w':=by
 obtain ⟨a,cap,rfl⟩ : ∃ a cap,v = .slice a l.length cap:=by
  obtain ⟨a,cap,e,_⟩:=h.sl
  exact ⟨a,cap,e⟩
 by_cases l1 : log < 2
 · go_enter func3,ntmps3
   go_wp2_with fail
   refine bodyPost_ret (v:=.bool true) (by simp [results,results3,go_sem];done) rfl ⟨rfl,Below.refl _ _⟩
 by_cases l2 : 4 < log
 · go_enter func3,ntmps3
   go_wp2_with fail
   refine bodyPost_ret (v:=.bool true) (by simp [results,results3,go_sem];done) rfl ⟨rfl,Below.refl _ _⟩
 by_cases hs : qFB l
 · exact qI3 log ideal a cap l rs w h (by omega) hs (qPc h hs)
 · have CL:=qNR h hs
   go_enter func3,ntmps3
   go_wp2_with fail
   refine CL.mono ?_
   rintro e w1 ⟨rfl,rfl⟩
   go_wp2_with fail
   refine bodyPost_ret (v:=.bool true) (by simp [results,results3,go_sem];done) rfl ⟨rfl,Below.refl _ _⟩
end Go.Proofs.YtdlgihbpiakebaaGreat
