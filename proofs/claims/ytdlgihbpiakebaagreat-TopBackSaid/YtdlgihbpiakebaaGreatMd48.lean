import Derived.Test.YtdlgihbpiakebaaGreatMd07
import Derived.Test.YtdlgihbpiakebaaGreatMd20
import Derived.Test.YtdlgihbpiakebaaGreatMd31
import Derived.Test.YtdlgihbpiakebaaGreatMd47
set_option maxRecDepth 100000
set_option maxHeartbeats 4000000
namespace Go.Proofs.YtdlgihbpiakebaaGreat
open Go Go.RowKit Tryz
structure qHG (w : World) (A Q : Nat) (v : Value) (a : Ag) : Prop where
 len : a.last.length = 16
 slots : ∀ x ∈ a.q,x < 16
 age : Blk w A (qC6 a.last a.ticks Q).toArray 157
 que : Blk w Q #[v,.func (.func 71) #[.pointer (some ⟨A,0,none⟩)] #[]] 160
 row : w.ownsRow 0 3 1 v a.q.length (qBr a.q)
theorem qEa.in {w : World} {A Q g cap : Nat} {a : Ag} (h : qEa w A Q g cap a) : qHG w A Q (.slice (some ⟨g,0,none⟩) a.q.length cap) a:=⟨h.len,h.slots,h.age,h.que,h.row⟩
theorem qHG.hp {w : World} {A Q : Nat} {v : Value} {a : Ag} (h : qHG w A Q v a) (hq : 0 < a.q.length) : ∃ g cap,v = .slice (some ⟨g,0,none⟩) a.q.length cap ∧ qEa w A Q g cap a:=by
 obtain ⟨g,cap,rfl⟩:=qAx h.row hq
 exact ⟨g,cap,rfl,h.len,h.slots,h.age,h.que,h.row⟩
theorem qMY {v : Value} {w w' : World} (h : w.grownBy w' v.ownBlock) : Chg v.ownBlock.toList w w':=⟨h.os,h.tape,h.output,h.size,fun k hk hn=>h.block k hk fun e=>hn (by rw [qAs];exact e.symm)⟩
theorem qLt (x : Int) (w : World) : (Instr.typeAssert (.iface 3 (.int .i64 x)) 20 3 true).run prog w = .ok (.tuple #[.int .i64 x,.bool true]) w:=by kernel_rfl
theorem qMZ (l : List Nat) : ∀ u ∈ qBr l,u.oneCell' = true:=by
 intro u hu;simp [qBr] at hu;obtain ⟨x,_,rfl⟩:=hu;rfl
theorem qN0 (A Q : Nat) (v : Value) (a : Ag) (w : World) (h0 : qHG w A Q v a) (x : Nat) (hx : x < 16) (hm : a.q.length ≤ 1000) : Calls prog 213 #[.pointer (some ⟨Q,0,none⟩),.iface 3 (.int .i64 (x : Int))] w fun e w'=>∃ v',e = .returned (.tuple #[]) ∧ qHG w' A Q v' (a.setq (a.q ++ [x])) ∧ Chg (Q :: v.ownBlock.toList) w w' ∧ (∀ g,v'.ownBlock = some g → v.ownBlock = some g ∨ w.heap.size ≤ g):=by
 have c0:=h0.que.cell 0
 have hta:=qLt (x : Int)
 have hk0 : qA4 w (w.alloc (.cells #[.int .i64 (x : Int)] 3)):=qal _
 have ho:=qA3 h0.row hk0
 go_enter func213,ntmps213
 go_wp2_with (at_builtin;refine qAv qPY rfl (by rfl) (by rfl) (by rfl) ho (Sl.one _ _ _) (by rfl) (qMZ [x]) (by unfold maxLen;omega) (by omega) (Nat.zero_le _) ?_;intro v5 w5 hown5 hg5 hat5;obtain ⟨g5,cap5,rfl⟩:=qAx hown5 (by omega);have hc5:=qMY hg5;have bQ5:=hc5.blk (h0.que.kept hk0) (qBS ho (h0.que.kept hk0) (by decide));have e5:=bQ5.cell 0;have f5:=bQ5.free 0;clear c0)
 refine bodyPost_end (results_none rfl _ _ _) rfl ⟨.slice (some ⟨g5,0,none⟩) (a.q.length + 1) cap5,rfl,?_,?_,?_⟩
 · have hq : Chg [Q] w5 (w5.setCell ⟨Q,0,none⟩ (.slice (some ⟨g5,0,none⟩) (a.q.length + 1) cap5)):=Chg.step (by simp) _
   have hb:=bQ5.set 0 (.slice (some ⟨g5,0,none⟩) (a.q.length + 1) cap5)
   have hage:=hq.blk (hc5.blk (h0.age.kept hk0) (qBS ho (h0.age.kept hk0) (by decide))) (by simpa using qAC h0.age h0.que (by decide))
   have hrow:=qAt hown5 hq bQ5 (by decide)
   have hl : (a.q ++ [x]).length = a.q.length + 1:=by simp
   refine ⟨h0.len,?_,hage,by simpa using hb,?_⟩
   · intro y hy
     rcases List.mem_append.1 hy with hy | hy
     · exact h0.slots y hy
     · simp at hy;omega
   · show World.ownsRow _ _ _ _ _ (a.q ++ [x]).length (qBr (a.q ++ [x]))
     rw [hl,qHE]
     exact hrow
 · have hq : Chg [Q] w5 (w5.setCell ⟨Q,0,none⟩ (.slice (some ⟨g5,0,none⟩) (a.q.length + 1) cap5)):=Chg.step (by simp) _
   exact (Chg.of_kept hk0).trans ((hc5.mono (fun b hb=>List.mem_cons_of_mem _ hb)).trans (hq.mono (by simp)))
 · intro g hg
   rcases hat5 with h | h
   · exact .inl (h ▸ hg)
   · rw [h] at hg
     exact .inr (by have:=Option.some.inj hg;have:=hk0.size;simp at *;omega)
theorem qHH (A Q g cap : Nat) (a : Ag) (w : World) (h0 : qEa w A Q g cap a) (hq : 0 < a.q.length) (hm : a.q.length ≤ 1000) : Calls prog 212 #[.pointer (some ⟨Q,0,none⟩)] w fun e w'=>∃ x,e = .returned x ∧ qEa w' A Q g cap (a.setq a.q.dropLast) ∧ Chg [Q] w w':=by
 obtain ⟨n,hn⟩ : ∃ n,a.q.length = n + 1:=⟨a.q.length - 1,by omega⟩
 have c0:=h0.que.cell 0
 have f0:=h0.que.free 0
 have c1:=h0.cell n (by omega)
 have hrow:=h0.row
 have hle:=h0.sl.le
 obtain ⟨L,hL⟩ : ∃ L,L = a.q.length:=⟨_,rfl⟩
 rw [← hL] at c0 hrow hn hm hle
 have HL:=qh hL
 clear hL hq
 have hcap : n + 1 ≤ cap:=by
  rcases hrow.2 with ⟨h,_⟩ | ⟨_,_,_,h,_,_,h2,_⟩
  · cases h
  · cases h;omega
 subst hn
 have i1 : (n : Int) + 1 ≤ 1000:=by omega
 have i2 : ((n + 1 : Nat) : Int) - 1 = (n : Int):=by omega
 go_enter func212,ntmps212
 go_wp2_with fail
 go_ret
 have hq : Chg [Q] w (w.setCell ⟨Q,0,none⟩ (.slice (some ⟨g,0,none⟩) n cap)):=Chg.step (by simp) _
 have hb:=h0.que.set 0 (.slice (some ⟨g,0,none⟩) n cap)
 have hr:=qAt (qMg hrow (Nat.le_succ n)) hq h0.que (by decide)
 have hd : a.q.dropLast = a.q.take n:=by rw [List.dropLast_eq_take,hn];rfl
 have hdl : (a.q.take n).length = n:=by rw [List.length_take,hn];omega
 have hdc : qBr (a.q.take n) = (qBr a.q).take n:=by simp [qBr,List.map_take]
 refine ⟨_,rfl,?_,hq⟩
 refine ⟨h0.len,fun y hy=>h0.slots y ((List.dropLast_subset _) hy),hq.blk h0.age (by simpa using qAC h0.age h0.que (by decide)),?_,?_⟩
 · show Blk _ Q #[.slice (some ⟨g,0,none⟩) a.q.dropLast.length cap,_] _
   rw [hd,hdl]
   simpa using hb
 · show World.ownsRow _ _ _ _ (.slice (some ⟨g,0,none⟩) a.q.dropLast.length cap) a.q.dropLast.length (qBr a.q.dropLast)
   rw [hd,hdl,hdc]
   exact hr
def qLu (l : List Int) (q : List Nat) (x : Nat) : List Nat:=upQ l (q ++ [x]) q.length
theorem qLv (l : List Int) (q : List Nat) (x : Nat) : (qLu l q x).Perm (x :: q) :=
 (qKt l _ _ (by simp)).trans (List.perm_append_singleton x q)
def rmQ (l : List Int) (q : List Nat) (i : Nat) : List Nat :=
 (if q.length - 1 = i then q
  else if i < (qB4 l (swp q i (q.length - 1)) i (q.length - 1)).2 then (qB4 l (swp q i (q.length - 1)) i (q.length - 1)).1
  else upQ l (qB4 l (swp q i (q.length - 1)) i (q.length - 1)).1 i).dropLast
theorem qG4 {q r : List Nat} {x : Nat} (h : r.Perm q) (hl : r[r.length - 1]? = some x) : (x :: r.dropLast).Perm q:=by
 have hne : r ≠ []:=fun e=>by subst e;simp at hl
 have e : r = r.dropLast ++ [x]:=by
  have h2:=List.dropLast_concat_getLast hne
  have h3 : r.getLast hne = x:=by
   rw [List.getLast_eq_getElem]
   have:=List.getElem?_eq_some_iff.1 hl
   exact this.2
  rw [h3] at h2
  exact h2.symm
 have h4 : (x :: r.dropLast).Perm (r.dropLast ++ [x]):=(List.perm_append_singleton x _).symm
 rw [← e] at h4
 exact h4.trans h
theorem qKu (l : List Int) (q : List Nat) (i : Nat) (hi : i < q.length) : (q[i] :: rmQ l q i).Perm q:=by
 unfold rmQ
 split
 · rename_i h
   exact qG4 (.refl _) (by rw [h];exact List.getElem?_eq_getElem hi)
 · rename_i h
   have hlt : i < q.length - 1:=by omega
   have hsl : (swp q i (q.length - 1)).length = q.length:=qB0 _ _ _
   have hsp:=qFC q i (q.length - 1) hi (by omega)
   have hs : (swp q i (q.length - 1))[q.length - 1]? = some q[i]:=by
    unfold swp
    rw [List.getElem?_set_self (by simp;omega),List.getElem?_eq_getElem hi];rfl
   have hd:=qGX l (swp q i (q.length - 1)) i (q.length - 1) hlt (by rw [hsl];omega)
   have hdl:=hd.length_eq
   have hdx:=qLr l (swp q i (q.length - 1)) i (q.length - 1) hlt
   split
   · exact qG4 (hd.trans hsp) (by rw [hdl,hsl,hdx,hs])
   · have hu:=qKt l (qB4 l (swp q i (q.length - 1)) i (q.length - 1)).1 i (by rw [hdl,hsl];exact hi)
     exact qG4 (hu.trans (hd.trans hsp)) (by rw [qF2,hdl,hsl,qOI _ _ _ _ hlt,hdx,hs])
theorem qN1 (A Q : Nat) (v : Value) (a : Ag) (w : World) (h0 : qHG w A Q v a) (x : Nat) (hx : x < 16) (hm : a.q.length ≤ 900) : Calls prog 73 #[.iface 155 (.pointer (some ⟨Q,0,none⟩)),.iface 3 (.int .i64 (x : Int))] w fun e w'=>∃ v',e = .returned (.tuple #[]) ∧ qHG w' A Q v' (a.setq (qLu a.last a.q x)) ∧ Chg (Q :: v.ownBlock.toList) w w' ∧ (∀ g,v'.ownBlock = some g → v.ownBlock = some g ∨ w.heap.size ≤ g):=by
 go_enter func73,ntmps73
 go_wp2_with fail
 refine (qN0 A Q v a w h0 x hx (by omega)).mono ?_
 rintro e w1 ⟨v1,rfl,h1,hc1,hv1⟩
 have hql : (a.q ++ [x]).length = a.q.length + 1:=by simp
 obtain ⟨g,cap,rfl,H1⟩:=h1.hp (by show 0 < (a.q ++ [x]).length;omega)
 go_wp2_with fail
 refine (qKs A Q g cap _ w1 H1).mono ?_
 rintro e w2 ⟨rfl,rfl⟩
 have hl : (((a.setq (a.q ++ [x])).q.length : Nat) : Int) = (a.q.length : Int) + 1:=by show (((a.q ++ [x]).length : Nat) : Int) = _;rw [hql];omega
 rw [hl]
 have i1 : (a.q.length : Int) ≤ 900:=by omega
 have CU:=qPk A Q g cap _ w1 H1 a.q.length (by show a.q.length < (a.q ++ [x]).length;omega) (by show (a.q ++ [x]).length ≤ 1000;omega)
 have HX:=qh hl
 have HQL:=qh hql
 clear hl hql
 go_wp2_with fail
 refine CU.mono ?_
 rintro e w3 ⟨rfl,H3,hc3⟩
 go_wp2
 have e3 : (a.setq (a.q ++ [x])).setq (upQ (a.setq (a.q ++ [x])).last (a.setq (a.q ++ [x])).q a.q.length) = a.setq (qLu a.last a.q x):=rfl
 rw [e3] at H3
 have hl3 : (a.setq (qLu a.last a.q x)).q.length = (a.q ++ [x]).length:=qF2 _ _ _
 refine bodyPost_end (results_none rfl _ _ _) rfl ⟨_,rfl,H3.in,?_,?_⟩
 · rcases hv1 g rfl with hg | hg
   · exact hc1.trans (hc3.mono (by intro b hb;rw [List.mem_singleton] at hb;subst hb;exact List.mem_cons_of_mem _ (qAs.2 hg)))
   · exact qDg hc1 hc3 hg
 · intro g' hg'
   cases hg'
   exact hv1 g rfl
theorem qOK (A Q g cap : Nat) (a : Ag) (w : World) (h0 : qEa w A Q g cap a) (i : Nat) (hi : i < a.q.length) (hm : a.q.length ≤ 1000) : Calls prog 109 #[.iface 155 (.pointer (some ⟨Q,0,none⟩)),.int .i64 (i : Int)] w fun e w'=>∃ x,e = .returned x ∧ qEa w' A Q g cap (a.setq (rmQ a.last a.q i)) ∧ Chg [Q,g] w w':=by
 obtain ⟨n,hn⟩ : ∃ n,a.q.length = n + 1:=⟨a.q.length - 1,by omega⟩
 have hn1 : a.q.length - 1 = n:=by omega
 have hcast : ((a.q.length : Nat) : Int) - 1 = (n : Int):=by omega
 have i1 : (a.q.length : Int) ≤ 1000:=by omega
 have i3 : (n : Int) < 1000:=by omega
 have CLen:=qKs A Q g cap a w h0
 have HC:=qh hcast
 have HN:=qh hn
 have HN1:=qh hn1
 have HM:=qh hm
 go_enter func109,ntmps109
 go_wp2_with fail
 refine CLen.mono ?_
 rintro e w1 ⟨rfl,rfl⟩
 rw [show ((a.q.length : Nat) : Int) = (n : Int) + 1 by omega]
 clear hcast hn hn1 i1
 by_cases hin : i = n
 · have e1 : (i : Int) = (n : Int):=by omega
   subst hin
   go_wp2_with fail
   refine (qHH A Q g cap a w h0 (by omega) (by omega)).mono ?_
   rintro e w2 ⟨x,rfl,H2,hc2⟩
   go_wp2
   go_ret
   refine ⟨_,rfl,?_,hc2.mono (by simp)⟩
   rw [show rmQ a.last a.q i = a.q.dropLast by unfold rmQ;rw [if_pos HN1.out]]
   exact H2
 · have hlt : i < n:=by have:=HN.out;omega
   have n1 : ¬ (n : Int) = (i : Int):=by omega
   have n2 : ((n : Int) == (i : Int)) = false:=by simpa using n1
   have hql:=HN.out
   have hsl : (swp a.q i n).length = a.q.length:=qB0 _ _ _
   have CS:=qDv A Q g cap a w h0 i n hi (by omega)
   have HSL:=qh hsl
   have HQ:=qh hql
   clear hsl hql
   go_wp2_with fail
   refine CS.mono ?_
   rintro e w2 ⟨rfl,H2,hc2⟩
   have CD:=qOJ A Q g cap (a.setq (swp a.q i n)) w2 H2 i n hlt (by show n ≤ (swp a.q i n).length;rw [HSL.out];have:=HQ.out;omega) (by show (swp a.q i n).length ≤ 1000;rw [HSL.out];exact HM.out)
   go_wp2_with fail
   refine CD.mono ?_
   rintro e w3 ⟨rfl,H3,hc3⟩
   obtain ⟨B,hB⟩ : ∃ B,B = decide (i < (qB4 a.last (swp a.q i n) i n).2):=⟨_,rfl⟩
   have hB' : decide (i < (qB4 (a.setq (swp a.q i n)).last (a.setq (swp a.q i n)).q i n).2) = B:=hB.symm
   rw [hB']
   have HB:=qh hB
   clear hB hB'
   have hdl : (qB4 a.last (swp a.q i n) i n).1.length = a.q.length:=(qIx _ _ _ _ hlt (by rw [HSL.out];have:=HQ.out;omega)).trans HSL.out
   have HDL:=qh hdl
   clear hdl
   cases B
   · have CU:=qPk A Q g cap (a.setq (qB4 a.last (swp a.q i n) i n).1) w3 H3 i (by show i < (qB4 a.last (swp a.q i n) i n).1.length;rw [HDL.out];exact hi) (by show (qB4 a.last (swp a.q i n) i n).1.length ≤ 1000;rw [HDL.out];exact HM.out)
     go_wp2_with fail
     refine CU.mono ?_
     rintro e w4 ⟨rfl,H4,hc4⟩
     have hul : (upQ a.last (qB4 a.last (swp a.q i n) i n).1 i).length = a.q.length:=(qF2 _ _ _).trans HDL.out
     have CP:=qHH A Q g cap (a.setq (upQ a.last (qB4 a.last (swp a.q i n) i n).1 i)) w4 H4 (by show 0 < (upQ a.last (qB4 a.last (swp a.q i n) i n).1 i).length;omega) (by show (upQ a.last (qB4 a.last (swp a.q i n) i n).1 i).length ≤ 1000;have:=HM.out;omega)
     have HUL:=qh hul
     clear hul
     go_wp2_with fail
     refine CP.mono ?_
     rintro e w5 ⟨x,rfl,H5,hc5⟩
     go_wp2
     go_ret
     refine ⟨_,rfl,?_,((((hc2.trans hc3).trans hc4).mono (by simp))).trans (hc5.mono (by simp))⟩
     rw [show rmQ a.last a.q i = (upQ a.last (qB4 a.last (swp a.q i n) i n).1 i).dropLast by
      unfold rmQ
      rw [HN1.out,if_neg (fun e=>hin e.symm),if_neg (by intro h;have h2:=HB.out;rw [decide_eq_true h] at h2;cases h2)]]
     exact H5
   · have CP:=qHH A Q g cap (a.setq (qB4 a.last (swp a.q i n) i n).1) w3 H3 (by show 0 < (qB4 a.last (swp a.q i n) i n).1.length;rw [HDL.out];omega) (by show (qB4 a.last (swp a.q i n) i n).1.length ≤ 1000;rw [HDL.out];exact HM.out)
     go_wp2_with fail
     refine CP.mono ?_
     rintro e w5 ⟨x,rfl,H5,hc5⟩
     go_wp2
     go_ret
     refine ⟨_,rfl,?_,((hc2.trans hc3).mono (by simp)).trans (hc5.mono (by simp))⟩
     rw [show rmQ a.last a.q i = (qB4 a.last (swp a.q i n) i n).1.dropLast by
      unfold rmQ
      rw [HN1.out,if_neg (fun e=>hin e.symm),if_pos (of_decide_eq_true HB.out.symm)]]
     exact H5
theorem qR8 {q : List Nat} {x k : Nat} (hk : k < q.length) (h1 : x ∉ q.take k) (h2 : q[k] = x) : q.idxOf x = k:=by
 have e : q = q.take k ++ (x :: q.drop (k + 1)):=by
  rw [← h2,← List.drop_eq_getElem_cons hk,List.take_append_drop]
 rw [e,List.idxOf_append,if_neg h1]
 simp;omega
def qR9 (q : List Nat) (x : Nat) : Int:=if x ∈ q then (q.idxOf x : Int) else -1
theorem qLw (a : Option Addr) (cap : Nat) (q : List Nat) (x : Nat) (hl : q.length ≤ 100000) (w : World) (hs : Sl w (.slice a q.length cap) q.length (qBr q)) : Calls prog 108 #[.slice a q.length cap,.int .i64 (x : Int)] w fun e w'=>e = .returned (.int .i64 (qR9 q x)) ∧ w = w':=by
 obtain ⟨L,hL⟩ : ∃ L,L = q.length:=⟨_,rfl⟩
 rw [← hL] at hs hl ⊢
 have i0 : (L : Int) ≤ 100000:=by omega
 have HL:=qh hL
 clear hL
 go_enter func108,ntmps108
 go_wp2_with fail
 go_loopw [8] (fun i wr=>∃ k : Nat,k ≤ L ∧ i = .int .i64 k ∧ x ∉ q.take k ∧ w = wr) (fun i _=>L - (intOf i).toNat)
 case atStart=>exact ⟨0,by omega,rfl,by simp,rfl⟩
 case round =>
  obtain ⟨k,hk,rfl,hc,rfl⟩:=hrel
  by_cases hlt : k < L
  · obtain ⟨b,off,cap',e',_,_,_,hx⟩:=hs.at (by rw [qED,← HL.out];omega)
    cases e'
    have hkl : k < q.length:=by rw [← HL.out];exact hlt
    obtain ⟨y,hy⟩ : ∃ y,y = q[k]:=⟨_,rfl⟩
    have c0:=hx k (.int .i64 (y : Int)) (by rw [hy];exact qGV q k hkl)
    have hts : q.take (k + 1) = q.take k ++ [y]:=by rw [List.take_succ_eq_append_getElem hkl,hy]
    have n3 : (k : Int) < (L : Int):=by omega
    have HY:=qh hy
    have HC:=qh hc
    have HTS:=qh hts
    have HX:=qh hx
    clear hc hy hts hx
    by_cases hxy : x = y
    · have HXY:=qh hxy
      have hxi : ((x : Int) == (y : Int)) = true:=by simp [hxy]
      have hxi2 : (x : Int) = (y : Int):=by omega
      clear hxy
      go_wp2
      try rw [Exit.noGoto_ret]
      go_ret
      refine ⟨?_,rfl⟩
      have hid:=qR8 hkl HC.out (HY.out.symm.trans HXY.out.symm)
      have hmem : x ∈ q:=by rw [HXY.out,HY.out];exact List.getElem_mem hkl
      unfold qR9
      rw [if_pos hmem,hid]
      rfl
    · have hxi : ((x : Int) == (y : Int)) = false:=by simp;omega
      have hxi2 : ¬ (x : Int) = (y : Int):=by omega
      go_wp2
      refine ⟨⟨k + 1,by omega,by go_num,?_,trivial⟩,by simp [intOf];omega⟩
      rw [HTS.out]
      simp only [List.mem_append,List.mem_singleton,not_or]
      exact ⟨HC.out,hxy⟩
  · have : k = L:=by omega
    have HK:=qh this
    have HC:=qh hc
    clear this hc
    go_wp2
    go_ret
    refine ⟨?_,rfl⟩
    have:=HC.out
    rw [List.take_of_length_le (by rw [HK.out,HL.out];exact Nat.le_refl _)] at this
    unfold qR9
    rw [if_neg this]
    rfl
theorem qEE {l : List Int} (h : l.length = 16) (t Q : Nat) : (qC6 l t Q).toArray[17]? = some (.pointer (some ⟨Q,0,none⟩)):=by
 rw [List.getElem?_toArray,qC6,List.getElem?_append_right (by rw [qB3];omega),qB3,h];rfl
theorem qIz {l : List Int} (h : l.length = 16) (t Q : Nat) : (qC6 l t Q).toArray[16]? = some (.int .i64 (t : Int)):=by
 rw [List.getElem?_toArray,qC6,List.getElem?_append_right (by rw [qB3];omega),qB3,h];rfl
theorem qJL {l : List Int} (h : l.length = 16) (t Q : Nat) : (qC6 l t Q).toArray.setIfInBounds 16 (.int .i64 ((t : Int) + 1)) = (qC6 l (t + 1) Q).toArray:=by
 rw [List.setIfInBounds_toArray,qC6,List.set_append,if_neg (by rw [qB3];omega),qB3,h];rfl
theorem qLx {l : List Int} (t Q x : Nat) (v : Int) (hx : x < l.length) : (qC6 l t Q).toArray.setIfInBounds x (.int .i64 v) = (qC6 (l.set x v) t Q).toArray:=by
 rw [List.setIfInBounds_toArray,qC6,List.set_append,if_pos (by rw [qB3];omega)]
 simp [qC6,qBb,List.map_set]
def Ag.drop (a : Ag) (x : Nat) : Ag:=if x ∈ a.q then a.setq (rmQ a.last a.q (a.q.idxOf x)) else a
def Ag.tick (a : Ag) (x : Nat) : Ag:=⟨a.last.set x ((a.ticks : Int) + 1),a.ticks + 1,a.q⟩
def Ag.touch (a : Ag) (x : Nat) : Ag:=((a.drop x).tick x).setq (qLu ((a.drop x).tick x).last (a.drop x).q x)
theorem qQ2 (w : World) : Calls prog 48 #[] w fun e w'=>∃ A Q,e = .returned (.pointer (some ⟨A,0,none⟩)) ∧ qHG w' A Q (.slice none 0 0) ⟨List.replicate 16 0,0,[]⟩ ∧ qA4 w w' ∧ w.heap.size ≤ A ∧ w.heap.size ≤ Q:=by
 go_enter func48,ntmps48
 go_wp2_with fail
 go_ret
 have hA:=Blk.new w #[.int .i64 0,.int .i64 0,.int .i64 0,.int .i64 0,.int .i64 0,.int .i64 0,.int .i64 0,.int .i64 0,.int .i64 0,.int .i64 0,.int .i64 0,.int .i64 0,.int .i64 0,.int .i64 0,.int .i64 0,.int .i64 0,.int .i64 0,.pointer (some ⟨w.heap.size + 1,0,none⟩)] 157
 have hk1 : qA4 w (w.alloc (.cells #[.int .i64 0,.int .i64 0,.int .i64 0,.int .i64 0,.int .i64 0,.int .i64 0,.int .i64 0,.int .i64 0,.int .i64 0,.int .i64 0,.int .i64 0,.int .i64 0,.int .i64 0,.int .i64 0,.int .i64 0,.int .i64 0,.int .i64 0,.pointer (some ⟨w.heap.size + 1,0,none⟩)] 157)):=qal _
 have hk2:=hk1.alloc (o:=.cells #[.slice none 0 0,.func (.func 71) #[.pointer (some ⟨w.heap.size,0,none⟩)] #[]] 160) (by simp)
 have hQ:=Blk.new (w.alloc (.cells #[.int .i64 0,.int .i64 0,.int .i64 0,.int .i64 0,.int .i64 0,.int .i64 0,.int .i64 0,.int .i64 0,.int .i64 0,.int .i64 0,.int .i64 0,.int .i64 0,.int .i64 0,.int .i64 0,.int .i64 0,.int .i64 0,.int .i64 0,.pointer (some ⟨w.heap.size + 1,0,none⟩)] 157)) #[.slice none 0 0,.func (.func 71) #[.pointer (some ⟨w.heap.size,0,none⟩)] #[]] 160
 have hz : (w.alloc (.cells #[.int .i64 0,.int .i64 0,.int .i64 0,.int .i64 0,.int .i64 0,.int .i64 0,.int .i64 0,.int .i64 0,.int .i64 0,.int .i64 0,.int .i64 0,.int .i64 0,.int .i64 0,.int .i64 0,.int .i64 0,.int .i64 0,.int .i64 0,.pointer (some ⟨w.heap.size + 1,0,none⟩)] 157)).heap.size = w.heap.size + 1:=by simp
 have hA2:=Blk.kept hA (qal (.cells #[.slice none 0 0,.func (.func 71) #[.pointer (some ⟨w.heap.size,0,none⟩)] #[]] 160))
 rw [hz] at hQ
 exact ⟨w.heap.size,w.heap.size + 1,rfl,⟨by simp,by simp,hA2,hQ,⟨rfl,.inl ⟨rfl,rfl⟩⟩⟩,hk2,Nat.le_refl _,by omega⟩
theorem qKv (A Q : Nat) (v : Value) (a : Ag) (w : World) (h0 : qHG w A Q v a) (x : Nat) (hm : a.q.length ≤ 900) : Calls prog 72 #[.pointer (some ⟨A,0,none⟩),.int .i64 (x : Int)] w fun e w'=>∃ v',e = .returned (.bool (decide (x ∈ a.q))) ∧ qHG w' A Q v' (a.drop x) ∧ Chg (Q :: v.ownBlock.toList) w w' ∧ v'.ownBlock = v.ownBlock:=by
 have c17:=h0.age.cell 17
 rw [qEE h0.len] at c17
 have q0:=h0.que.cell 0
 obtain ⟨va,vc,rfl⟩:=(Sl.of_own h0.row).len
 have CI:=qLw va vc a.q x (by omega) w (Sl.of_own h0.row)
 go_enter func72,ntmps72
 go_wp2_with fail
 refine CI.mono ?_
 rintro e w1 ⟨rfl,rfl⟩
 by_cases hx : x ∈ a.q
 · have hi : a.q.idxOf x < a.q.length:=List.idxOf_lt_length_iff.2 hx
   have hid : qR9 a.q x = (a.q.idxOf x : Int):=if_pos hx
   rw [hid]
   obtain ⟨g,cap,e,H⟩:=h0.hp (by omega)
   obtain ⟨rfl,rfl⟩ : va = some ⟨g,0,none⟩ ∧ vc = cap:=by cases e;exact ⟨rfl,rfl⟩
   have CR:=qOK A Q g vc a w H (a.q.idxOf x) hi (by omega)
   have n1 : ¬ ((a.q.idxOf x : Nat) : Int) < 0:=by omega
   have HX:=qh hx
   have HM:=qh hm
   clear hid CI
   go_wp2_with fail
   refine CR.mono ?_
   rintro e w2 ⟨y,rfl,H2,hc2⟩
   go_wp2
   go_ret
   have hsub : ∀ b ∈ [Q,g],b ∈ Q :: (Value.slice (some ⟨g,0,none⟩) a.q.length vc).ownBlock.toList:=by
    intro b hb
    simp only [List.mem_cons,List.not_mem_nil,or_false] at hb
    rcases hb with rfl | rfl
    · exact List.mem_cons_self
    · exact List.mem_cons_of_mem _ (qAs.2 rfl)
   refine ⟨.slice (some ⟨g,0,none⟩) (rmQ a.last a.q (a.q.idxOf x)).length vc,?_,?_,hc2.mono hsub,?_⟩
   · show Ending.returned (Value.bool true) = _
     rw [decide_eq_true hx]
   · rw [show a.drop x = a.setq (rmQ a.last a.q (a.q.idxOf x)) from if_pos hx]
     exact H2.in
   · rfl
 · have hid : qR9 a.q x = -1:=if_neg hx
   rw [hid]
   clear hid CI
   go_wp2
   go_ret
   refine ⟨.slice va a.q.length vc,?_,?_,Chg.refl _ _,rfl⟩
   · show Ending.returned (Value.bool false) = _
     rw [decide_eq_false hx]
   · rw [show a.drop x = a from if_neg hx]
     exact h0
theorem qQ3 (A Q : Nat) (v : Value) (a : Ag) (w : World) (h0 : qHG w A Q v a) : Calls prog 188 #[.pointer (some ⟨A,0,none⟩)] w fun e w'=>e = .returned (.int .i64 a.q.length) ∧ w = w':=by
 have c17:=h0.age.cell 17
 rw [qEE h0.len] at c17
 have q0:=h0.que.cell 0
 obtain ⟨va,vc,rfl⟩:=(Sl.of_own h0.row).len
 have CQ : Calls prog 190 #[.pointer (some ⟨Q,0,none⟩)] w fun e w'=>e = .returned (.int .i64 a.q.length) ∧ w = w':=by
  clear c17
  go_enter func190,ntmps190
  go_wp2
  go_ret
  exact ⟨rfl,rfl⟩
 go_enter func188,ntmps188
 go_wp2_with fail
 refine CQ.mono ?_
 rintro e w1 ⟨rfl,rfl⟩
 go_wp2
 go_ret
 exact ⟨rfl,rfl⟩
theorem qLy (A Q : Nat) (v : Value) (a : Ag) (w : World) (h0 : qHG w A Q v a) (hq : 0 < a.q.length) : Calls prog 180 #[.pointer (some ⟨A,0,none⟩)] w fun e w'=>e = .returned (.tuple #[.int .i64 ((a.q[0] : Nat) : Int),.bool true]) ∧ w = w':=by
 have c17:=h0.age.cell 17
 rw [qEE h0.len] at c17
 have q0:=h0.que.cell 0
 obtain ⟨g,cap,rfl,H⟩:=h0.hp hq
 have c0:=H.cell 0 hq
 have CN:=qQ3 A Q _ a w h0
 have n1 : ¬ ((a.q.length : Nat) : Int) = 0:=by omega
 have n2 : (((a.q.length : Nat) : Int) == 0) = false:=by simpa using n1
 have n3 : (0 : Int) < (a.q.length : Int):=by omega
 go_enter func180,ntmps180
 go_wp2_with fail
 refine CN.mono ?_
 rintro e w1 ⟨rfl,rfl⟩
 go_wp2
 go_ret2
 exact ⟨rfl,rfl⟩
theorem qN2 (A Q : Nat) (v : Value) (a : Ag) (w : World) (h0 : qHG w A Q v a) (x : Nat) (hx : x < 16) (hm : a.q.length ≤ 800) (ht : a.ticks ≤ 1000000000) : Calls prog 49 #[.pointer (some ⟨A,0,none⟩),.int .i64 (x : Int)] w fun e w'=>∃ v',e = .returned (.bool true) ∧ qHG w' A Q v' (a.touch x) ∧ Chg (A :: Q :: v.ownBlock.toList) w w' ∧ (∀ g,v'.ownBlock = some g → v.ownBlock = some g ∨ w.heap.size ≤ g):=by
 have n1 : ¬ (x : Int) < 0:=by omega
 have n2 : ¬ 16 ≤ (x : Int):=by omega
 have n3 : (x : Int) < 16:=by omega
 have n4 : (0 : Int) ≤ (x : Int):=by omega
 have i1 : (a.ticks : Int) ≤ 1000000000:=by omega
 have HT:=qh ht
 have HM:=qh hm
 go_enter func49,ntmps49
 go_wp2_with fail
 refine (qKv A Q v a w h0 x (by omega)).mono ?_
 rintro e w1 ⟨v1,rfl,h1,hc1,hv1⟩
 have hl1 : (a.drop x).last = a.last:=by unfold Ag.drop;split <;> rfl
 have ht1 : (a.drop x).ticks = a.ticks:=by unfold Ag.drop;split <;> rfl
 have hlen1 : (a.drop x).q.length ≤ a.q.length:=by
  unfold Ag.drop
  split
  · rename_i hx
    have:=(qKu a.last a.q (a.q.idxOf x) (List.idxOf_lt_length_iff.2 hx)).length_eq
    simp only [List.length_cons] at this
    show (rmQ a.last a.q (a.q.idxOf x)).length ≤ _
    omega
  · exact Nat.le_refl _
 obtain ⟨b,hb⟩ : ∃ b,b = a.drop x:=⟨_,rfl⟩
 rw [← hb] at h1 hl1 ht1 hlen1
 have HB:=qh hb
 have HL1:=qh hl1
 have HLN:=qh hlen1
 clear hb hl1 hlen1
 have i2 : (b.ticks : Int) ≤ 1000000000:=by rw [ht1];exact i1
 have HT1:=qh ht1
 clear ht1
 have c16:=h1.age.cell 16
 rw [qIz h1.len] at c16
 have f16:=h1.age.free 16
 go_wp2_with fail
 have hq1 : Chg [A] w1 (w1.setCell ⟨A,16,none⟩ (.int .i64 ((b.ticks : Int) + 1))):=Chg.step (by simp) _
 have hA3:=h1.age.set 16 (.int .i64 ((b.ticks : Int) + 1))
 rw [qJL h1.len] at hA3
 have hl3:=h1.len
 have hQ3:=hq1.blk h1.que (by simpa using qAC h1.que h1.age (by decide))
 have hr3:=qAt h1.row hq1 h1.age (by decide)
 clear c16 f16
 generalize (w1.setCell ⟨A,16,none⟩ (.int .i64 ((b.ticks : Int) + 1))) = w3 at *
 refine qA5 [(0,0),(1,0),(2,0),(3,0),(4,0),(5,0),(6,1),(7,1),(8,0),(9,2)] (by kernel_rfl) (by kernel_rfl) ?_
 intro w4 hk4
 repeat
  refine qA0 _ rfl (fun K hK=>?_)
  first
   | (refine qqP (by rfl) ?_;apply Exists.intro;refine ⟨fun w' hw'=>?_,hK _ ?_⟩;(have c16:=((hA3.kept hk4).kept hw').cell 16;rw [qIz hl3] at c16;go_simp;first|done|rfl))
   | refine qqN (by rfl) (hK _ ?_)
  clear hK K;simp only [Act.put,qqB]
 refine qqH _ rfl (by rfl) (fun K hK=>?_)
 go_wp2
 refine hK _ _ (Below.refl _ _) ?_
 clear hK K
 try simp only [Act.put,qqB]
 refine qqH _ rfl (by rfl) (fun K hK=>?_)
 go_wp2
 refine hK _ _ (Below.refl _ _) ?_
 clear hK K
 try simp only [Act.put,qqB]
 repeat
  refine qA0 _ rfl (fun K hK=>?_)
  first
   | (refine qqP (by rfl) ?_;apply Exists.intro;refine ⟨fun w' hw'=>?_,hK _ ?_⟩;go_simp;first|done|rfl)
   | refine qqN (by rfl) (hK _ ?_)
  clear hK K;simp only [Act.put,qqB]
 refine qAh _ rfl (fun K hK=>?_)
 refine qqP (by rfl) ?_
 have fx:=(hA3.kept hk4).free x
 obtain ⟨u,hu⟩ : ∃ u,w4.cell? ⟨A,x,none⟩ = some u:=⟨_,by rw [(hA3.kept hk4).cell x];exact qF1 _ _ _ x (by rw [hl3];exact hx)⟩
 go_wp2
 refine qA7 ?_
 have hq5 : Chg [A] w4 (w4.setCell ⟨A,x,none⟩ (.int .i64 ((b.ticks : Int) + 1))):=Chg.step (by simp) _
 have hA5:=(hA3.kept hk4).set x (.int .i64 ((b.ticks : Int) + 1))
 rw [qLx _ _ _ _ (by rw [hl3];exact hx)] at hA5
 have hQ5:=hq5.blk (hQ3.kept hk4) (by simpa using qAC h1.que h1.age (by decide))
 have hr5:=qAt (qA3 hr3 hk4) hq5 (hA3.kept hk4) (by decide)
 have H5 : qHG (w4.setCell ⟨A,x,none⟩ (.int .i64 ((b.ticks : Int) + 1))) A Q v1 (b.tick x):=⟨by simp [Ag.tick,hl3],h1.slots,hA5,hQ5,hr5⟩
 clear hu fx
 generalize (w4.setCell ⟨A,x,none⟩ (.int .i64 ((b.ticks : Int) + 1))) = w5 at *
 have c17:=H5.age.cell 17
 rw [qEE H5.len] at c17
 have hqb : (b.tick x).q = b.q:=rfl
 have CP:=qN1 A Q v1 (b.tick x) w5 H5 x hx (by rw [hqb];have:=HLN.out;have:=HM.out;omega)
 have HQB:=qh hqb
 clear hqb
 go_wp2_with fail
 refine CP.mono ?_
 rintro e w6 ⟨v6,rfl,H6,hc6,hv6⟩
 go_wp2
 go_ret
 have hw15 : Chg [A] w1 w5:=(hq1.trans (Chg.of_kept hk4)).trans hq5
 refine ⟨v6,rfl,?_,?_,?_⟩
 · have e6 : (b.tick x).setq (qLu (b.tick x).last (b.tick x).q x) = a.touch x:=by unfold Ag.touch;rw [← HB.out];rfl
   rw [e6] at H6
   exact H6
 · have hc1' : Chg (A :: Q :: v.ownBlock.toList) w w1:=hc1.mono (fun b hb=>List.mem_cons_of_mem _ hb)
   have hc6' : Chg (A :: Q :: v.ownBlock.toList) w5 w6:=by rw [← hv1];exact hc6.mono (fun b hb=>List.mem_cons_of_mem _ hb)
   exact (hc1'.trans (hw15.mono (by intro b hb;rw [List.mem_singleton] at hb;subst hb;exact List.mem_cons_self))).trans hc6'
 · intro g hg
   rcases hv6 g hg with h | h
   · exact .inl (hv1 ▸ h)
   · exact .inr (Nat.le_trans (Nat.le_trans hc1.size hw15.size) h)
end Go.Proofs.YtdlgihbpiakebaaGreat
