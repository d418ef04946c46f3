import Derived.Test.YtldmebjnklmpfaaGreatMh52
set_option maxRecDepth 100000
set_option maxHeartbeats 4000000
namespace Go.Proofs.YtldmebjnklmpfaaGreat
open Go Go.RowKit
theorem erase_one {l : List (BitVec 32)} (hr : Rising l) (h0 : 0 < l.length) : (eraseL l (nowOf l)).length = 1:=by
 obtain ⟨m,hm⟩ : ∃ m,l = m ++ [nowOf l]:=by
  refine ⟨l.dropLast,?_⟩
  have hne : l ≠ []:=fun e=>by rw [e] at h0;exact absurd h0 (by decide)
  have h1:=List.dropLast_concat_getLast hne
  have h2 : l.getLast hne = nowOf l:=by
   unfold nowOf
   rw [List.getLast_eq_getElem,List.getElem?_eq_getElem (by omega)]
   rfl
  rw [h2] at h1
  exact h1.symm
 have hlt : ∀ e ∈ m,e < nowOf l:=by
  unfold Rising at hr
  rw [hm,List.pairwise_append] at hr
  intro e he
  have:=hr.2.2 e he (nowOf (m ++ [nowOf l])) (by simp [nowOf])
  rw [← hm] at this
  exact this
 unfold eraseL
 have h3 : ∀ now,l.filter (fun e=>!gone now now e) = (m.filter (fun e=>!gone now now e)) ++ ([nowOf l].filter (fun e=>!gone now now e)):=fun now=>by
  conv=>lhs;rw [hm]
  rw [List.filter_append]
 rw [h3]
 have h4 : m.filter (fun e=>!gone (nowOf l) (nowOf l) e) = []:=by
  rw [List.filter_eq_nil_iff]
  intro e he
  have:=hlt e he
  have hne : e ≠ nowOf l:=fun h=>by rw [h] at this;exact absurd this (by simp [BitVec.lt_def])
  unfold gone
  simp [this,hne]
 have h5 : [nowOf l].filter (fun e=>!gone (nowOf l) (nowOf l) e) = [nowOf l]:=by
  unfold gone
  simp
 rw [h4,h5]
 rfl
theorem forget_one {b : Bx} {m : Nat} (g : b.good m) (h : b.forget.1 = 0) : b.forget.2.x.eps.length = 1:=by
 unfold Bx.forget at h ⊢
 split
 · rename_i h1
   rw [if_pos h1] at h
   exact absurd h h1
 · rename_i h1
   rw [if_neg h1] at h
   have hs : b.commit.2.x.p.spend.1 = true:=by
    cases hsp : b.commit.2.x.p.spend.1 with
    | true=>rfl
    | false=>rw [hsp] at h;cases h
   show (delL b.commit.2.x.p.spend.1 b.commit.2.x.eps (nowOf b.commit.2.x.eps)).length = 1
   rw [hs]
   exact erase_one g.commit.f.x.ok.er g.commit.f.x.ok.ep
theorem finish_one {b : Bx} {m : Nat} (g : b.good m) (h : b.finish.1 = 0) : b.finish.2.x.eps.length = 1:=by
 unfold Bx.finish at h ⊢
 split
 · have:=g.f.x.ok.ep
   show b.x.eps.length = 1
   omega
 · rename_i h1
   rw [if_neg h1] at h
   split
   · rename_i h2
     rw [if_pos h2] at h
     exact absurd h h2
   · rename_i h2
     rw [if_neg h2] at h
     exact forget_one g.empty h
theorem opens_one {x : Wd} {m : Nat} (f : x.fine m) (hp : 0#32 < nowOf x.eps) : ∀ r,r = x.opens → r.1 = 0 → (Bo.cur ⟨r.2.1,r.2.2,[]⟩).eps.length = 1:=by
 rintro r rfl
 unfold Wd.opens
 split
 · intro h;cases h
 split
 · intro h;cases h
 have hn:=isSl_nat f.ok.sl
 cases hl : x.boot.loadO with
 | none=>intro h;cases h
 | some ls =>
  have h1:=loadO_ok (x:=x.boot) (by show x.n ≤ 16;omega) hl
  have g:=fresh_good (x:=x.boot.loadX) f.boot.loadX (by rw [loadX_same.2.1];exact hp) (by rw [loadX_same.1];exact h1.1) h1.2
  have h4 : ∀ (r : Int × Wd × Option Bx),r = Bx.openR (x.boot.loadX.fresh ls).finish → r.1 = 0 → (Bo.cur ⟨r.2.1,r.2.2,[]⟩).eps.length = 1:=by
   rintro r rfl h0
   rw [(openR_cur _).1]
   refine finish_one g ?_
   unfold Bx.openR at h0
   split at h0
   · rename_i h5;exact absurd h0 h5
   · rename_i h5;omega
  exact h4 _ rfl
theorem act_one {o : Bo} {m : Nat} (g : o.good m) (a : Ac) (hk : a.kind = 3) (h : (o.act a).1.1 = 0) : (o.act a).2.cur.eps.length = 1:=by
 have ha : o.act a = o.crash a.keep:=by
  unfold Bo.act
  rw [if_neg (by rw [hk];decide),if_neg (by rw [hk];decide),if_pos hk]
 rw [ha] at h ⊢
 exact opens_one (g.f.crash a.keep) (show 0#32 < nowOf (o.cur.crash a.keep).eps from g.ep) _ rfl h
theorem box_world {col : Nat → Nat} {w : World} {P : Ptrs} {X : Nat} {o : Bo} (h : BoxIn col w P X o) : Calls Tryz.prog 17 #[.pointer (some ⟨X,0,none⟩)] w fun e w'=>e = .returned (.pointer (some ⟨P.W,0,none⟩)) ∧ w = w':=by
 obtain ⟨cv,sv,us,h0⟩:=h
 have q0:=h0.blk.cell 0
 go_enter Tryz.func17,Tryz.ntmps17
 go_wp2_with fail
 refine bodyPost_ret (v:=.pointer (some ⟨P.W,0,none⟩)) (by simp [results,Tryz.results17,go_sem];done) rfl ⟨rfl,rfl⟩
theorem slots_of {log : Int} (h : 2 ≤ log ∧ log ≤ 4) : ∃ n : Nat,wrap64 (2 ^ log.toNat) = (n : Int) ∧ isSl (n : Int) = true:=by
 have : log = 2 ∨ log = 3 ∨ log = 4:=by omega
 rcases this with rfl | rfl | rfl
 · exact ⟨4,by first | kernel_rfl | (unfold wrap64;decide) | simp [wrap64],rfl⟩
 · exact ⟨8,by first | kernel_rfl | (unfold wrap64;decide) | simp [wrap64],rfl⟩
 · exact ⟨16,by first | kernel_rfl | (unfold wrap64;decide) | simp [wrap64],rfl⟩
theorem AcRows.at {col' : Nat → Nat} {w w' : World} {m : Nat} {x : Ac} {r : Value × Value × Value} (h : AcRows w x r) (hs : shortA x) (e : Ext m (fun _=>0) col' w w') : AcAt col' w' x r.1 r.2.1 r.2.2 :=
 (⟨⟨h.s1,fun _ _ _ _ _=>rfl⟩,⟨h.s2,fun _ _ _ _ _=>rfl⟩,h.s3,fun _ _ _ _=>rfl,by have:=hs.2.1;omega,by have:=hs.1;omega,by have:=hs.2.2;omega⟩ : AcAt (fun _=>0) w x r.1 r.2.1 r.2.2).ext e
theorem topEpochs_in (log : Int) (a : Option Addr) (cap : Nat) (l : List Ac) (rs : List (Value × Value × Value)) (w : World) (h : ActsAt w (.slice a l.length cap) l rs) (hlog : 2 ≤ log ∧ log ≤ 4) (hsh : shortL l) (CL : Calls Tryz.prog 8 #[.slice a l.length cap] w fun e w'=>e = .returned (.bool false) ∧ w = w') : Calls Tryz.prog 7 #[.int .i64 log,.slice a l.length cap] w fun e w'=>e = .returned (.bool true) ∧ Kept w w':=by
 obtain ⟨n,hn,hsl⟩:=slots_of hlog
 have CN:=play_new n hsl 1#64 true w
 rw [← hn] at CN
 have g0:=Bo.new_good n 1#64 true hsl
 obtain ⟨N,hN⟩ : ∃ N,N = l.length:=⟨_,rfl⟩
 rw [← hN] at h CL ⊢
 have l1 : ¬ log < 2:=by omega
 have l2 : ¬ 4 < log:=by omega
 have HN:=Lib.hid hN
 replace hn:=Lib.hid hn
 have hN2 : N ≤ 200:=by rw [hN];exact hsh.1
 clear hN hlog
 go_enter Tryz.func7,Tryz.ntmps7
 go_wp2_with fail
 refine CL.mono ?_
 rintro e w1 ⟨rfl,rfl⟩
 go_wp2_with fail
 refine CN.mono ?_
 rintro e w1 ⟨P,X,col1,rfl,h1,e1⟩
 go_wp2_with fail
 refine (box_world h1).mono ?_
 rintro e w2 ⟨rfl,rfl⟩
 go_wp2_with fail
 go_loopw [7] (fun i wr=>∃ (k : Nat) (o : Bo) (ck : Nat → Nat),i = .int .i64 k ∧ k ≤ N ∧ BoxIn ck wr P X o ∧ Ext 12 (fun _=>0) ck w wr ∧ o.good (17 + 110 * k)) (fun i _=>N - (intOf i).toNat)
 case atStart=>exact ⟨0,_,col1,rfl,by omega,h1,e1,g0⟩
 case round =>
  obtain ⟨k,o,ck,rfl,hk,hb,eb,g⟩:=hrel
  by_cases hlt : k < N
  · have m1 : (k : Int) < (N : Int):=by omega
    have m3 : (0 : Int) ≤ (k : Int):=by omega
    obtain ⟨x,r,b,off,hx,hr,rfl,hbl,hc,hR⟩:=h.at HN.out k (by rw [← HN.out];exact hlt)
    have hsx:=hsh.2 k x hx
    have hAA:=hR.at hsx eb
    have hxn:=hR.hn
    obtain ⟨r1,r2,r3⟩:=r
    obtain ⟨a1,c1,e1'⟩:=hR.s1.len
    obtain ⟨a2,c2,e2'⟩:=hR.s2.len
    obtain ⟨a3,c3,e3'⟩:=hR.s3.len
    simp only at e1' e2' e3'
    subst e1'
    subst e2'
    subst e3'
    have hkw:=eb.kept0
    have dd : ∀ (j : Nat) (u : Value),(acCells x (.slice a1 x.call.data.length c1,.slice a2 x.data.length c2,.slice a3 x.keep.length c3))[j]? = some u → wr.cell? ⟨b,off + k * 8 + j,none⟩ = some u:=fun j u hj=>hkw.at (hc j u hj)
    have d0 : wr.cell? ⟨b,off + k * 8,none⟩ = some (.int .i64 x.kind):=dd 0 _ rfl
    have d1 : wr.cell? ⟨b,off + k * 8 + 1,none⟩ = some (.int .i64 x.call.kind):=dd 1 _ rfl
    have d2 : wr.cell? ⟨b,off + k * 8 + 2,none⟩ = some (.int .i64 x.call.lba):=dd 2 _ rfl
    have d3 : wr.cell? ⟨b,off + k * 8 + 3,none⟩ = some (.slice a1 x.call.data.length c1):=dd 3 _ rfl
    have d4 : wr.cell? ⟨b,off + k * 8 + 4,none⟩ = some (.int .i64 x.n):=dd 4 _ rfl
    have d5 : wr.cell? ⟨b,off + k * 8 + 5,none⟩ = some (.int .i64 x.off):=dd 5 _ rfl
    have d6 : wr.cell? ⟨b,off + k * 8 + 6,none⟩ = some (.slice a2 x.data.length c2):=dd 6 _ rfl
    have d7 : wr.cell? ⟨b,off + k * 8 + 7,none⟩ = some (.slice a3 x.keep.length c3):=dd 7 _ rfl
    have c0 : w.cell? ⟨b,off + k * 8,none⟩ = some (.int .i64 x.kind):=hc 0 _ rfl
    have CB:=box_do hb g (by omega) x a1 a2 a3 c1 c2 c3 hAA
    have g2:=g.act (by omega) x hxn
    have hone : x.kind = 3 → (o.act x).1.1 = 0 → (o.act x).2.cur.eps.length = 1:=fun h1 h2=>act_one g x h1 h2
    obtain ⟨F,hF⟩ : ∃ F,F = o.act x:=⟨_,rfl⟩
    rw [← hF] at CB g2 hone
    obtain ⟨⟨E,D⟩,o2⟩:=F
    simp only at CB g2 hone
    have g3:=g2.up (k:=17 + 110 * (k + 1)) (by omega)
    replace hx:=Lib.hid hx
    replace hone:=Lib.hid hone
    clear hF dd hc hR hsx hAA hr
    go_wp2_with fail
    refine CB.mono ?_
    rintro e w2 ⟨v,c4,rfl,hv,h2,e2⟩
    obtain ⟨va,vc,rfl⟩:=(Sl.of_own hv.1).len
    have eb2:=eb.trans e2
    have hkw2:=eb2.kept0
    have hk3 : Kept w2 (w2.alloc (.cells #[.int .i64 E,.slice va D.length vc] 39)):=(Below.refl _ _).alloc (Nat.le_refl _) _
    have f0:=(hkw2.of hk3).at c0
    have h3:=h2.kept hk3
    have eb3:=eb2.trans (Ext.kept (m:=12) h2.top hk3)
    clear d0 d1 d2 d3 d4 d5 d6 d7 c0
    by_cases hk3k : x.kind = 3
    · rw [hk3k] at f0
      by_cases hE : E = 0
      · have h1e : o2.cur.eps.length = 1:=hone.out hk3k hE
        subst hE
        have CWo:=box_world h3
        have CEp : ∀ z,w2.alloc (.cells #[.int .i64 0,.slice va D.length vc] 39) = z → z.cell? ⟨P.W,5,none⟩ = some (.pointer (some ⟨P.k,0,none⟩)) ∧ Calls Tryz.prog 22 #[.pointer (some ⟨P.k,0,none⟩)] z fun r w'=>∃ v,r = .returned v ∧ w'.ownsRow z.heap.size 94 1 v 1 (wcells o2.cur.eps) ∧ Kept z w':=fun z hz=>by
         subst hz
         obtain ⟨cv,sv,us,h9⟩:=h3
         refine ⟨h9.wd.blk.cell 5,?_⟩
         have:=wd_epochs h9.wd g2.f.ok (by omega)
         rw [h1e] at this
         exact this
        obtain ⟨q5,CE⟩:=CEp _ rfl
        clear CEp
        go_wp2_with fail
        refine CWo.mono ?_
        rintro e w4 ⟨rfl,rfl⟩
        go_wp2_with fail
        refine CE.mono ?_
        rintro e w5 ⟨ve,rfl,hve,k5⟩
        obtain ⟨ea,ec,rfl⟩:=(Sl.of_own hve).len
        go_wp2_with fail
        exact ⟨⟨k + 1,o2,c4,rfl,by omega,h3.kept k5,eb3.trans (Ext.kept (m:=12) h3.top k5),g3⟩,by simp [intOf];omega⟩
      · have e1 : (E == 0) = false:=by simpa using hE
        go_wp2_with fail
        exact ⟨⟨k + 1,o2,c4,rfl,by omega,h3,eb3,g3⟩,by simp [intOf];omega⟩
    · have e1 : (x.kind == 3) = false:=by simpa using hk3k
      go_wp2_with fail
      exact ⟨⟨k + 1,o2,c4,rfl,by omega,h3,eb3,g3⟩,by simp [intOf];omega⟩
  · have m1 : ¬ (k : Int) < (N : Int):=by omega
    go_wp2_with fail
    refine (known_any wr).mono ?_
    rintro e w9 ⟨rfl,k9⟩
    go_wp2_with fail
    refine bodyPost_ret (v:=.bool true) (by simp [results,Tryz.results7,go_sem];done) rfl ⟨rfl,eb.kept0.of k9⟩
theorem topEpochs_walk (log : Int) (v : Value) (l : List Ac) (rs : List (Value × Value × Value)) (w : World) (h : ActsAt w v l rs) : Calls Tryz.prog 7 #[.int .i64 log,v] w fun e w'=>e = .returned (.bool true) ∧ Kept w w':=by
 obtain ⟨a,cap,rfl⟩ : ∃ a cap,v = .slice a l.length cap:=by
  obtain ⟨a,cap,e,_⟩:=h.sl
  exact ⟨a,cap,e⟩
 by_cases l1 : log < 2
 · go_enter Tryz.func7,Tryz.ntmps7
   go_wp2_with fail
   refine bodyPost_ret (v:=.bool true) (by simp [results,Tryz.results7,go_sem];done) rfl ⟨rfl,Below.refl _ _⟩
 by_cases l2 : 4 < log
 · go_enter Tryz.func7,Tryz.ntmps7
   go_wp2_with fail
   refine bodyPost_ret (v:=.bool true) (by simp [results,Tryz.results7,go_sem];done) rfl ⟨rfl,Below.refl _ _⟩
 by_cases hs : shortL l
 · exact topEpochs_in log a cap l rs w h (by omega) hs (long_no h hs)
 · have CL:=long_yes h hs
   go_enter Tryz.func7,Tryz.ntmps7
   go_wp2_with fail
   refine CL.mono ?_
   rintro e w1 ⟨rfl,rfl⟩
   go_wp2_with fail
   refine bodyPost_ret (v:=.bool true) (by simp [results,Tryz.results7,go_sem];done) rfl ⟨rfl,Below.refl _ _⟩
end Go.Proofs.YtldmebjnklmpfaaGreat
