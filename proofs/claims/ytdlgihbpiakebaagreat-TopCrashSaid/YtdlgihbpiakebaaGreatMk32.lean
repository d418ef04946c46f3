import Derived.Test.YtdlgihbpiakebaaGreatMk20
import Derived.Test.YtdlgihbpiakebaaGreatMk21
import Derived.Test.YtdlgihbpiakebaaGreatMk31
import Derived.StringKeys
import Derived.Maps.OwnOps
set_option maxRecDepth 100000
set_option maxHeartbeats 4000000
namespace Go.Proofs.YtdlgihbpiakebaaGreat
open Go Go.RowKit Tryz
open Go.Maps in
def qB1 (sums:List (List UInt8))(row:List UInt8):List (List UInt8):=if sums.contains row then sums else sums++ [row]
theorem qJ0 {sums:List (List UInt8)}{row:List UInt8}(h:sums.contains row=false):sumNo (sums++ [row]) row=sums.length+1:=by
 unfold sumNo
 rw[List.findIdx_append]
 have:sums.findIdx (· == row)=sums.length:=by
  rw[List.findIdx_eq_length]
  intro x c
  cases hxr:(x==row) with
  | false=>rfl
  | true =>
   have e:x=row:=by simpa using hxr
   subst e
   rw[List.contains_iff_mem.2 c]at h
   cases h
 rw[this,if_neg (Nat.lt_irrefl _)]
 simp
theorem qNx {sums:List (List UInt8)}{row r:List UInt8}(h:sums.contains r=true):sumNo (sums++ [row]) r=sumNo sums r:=by
 unfold sumNo
 rw[List.findIdx_append,if_pos]
 rw[List.findIdx_lt_length]
 exact⟨r,List.contains_iff_mem.1 h,by simp⟩
theorem qPo {D:DataW Unit}{sums:List (List UInt8)}{row:List UInt8}(hT:Maps.Tidy D)(hs:Maps.size D=sums.length)(hrow:sums.contains row=false)
 (h:∀r:List UInt8,Maps.has D (.string r)=sums.contains r∧(sums.contains r=true→D.atKey (.string r) (.lit (.int .u64 0))= .lit (.int .u64 (sumNo sums r:Nat)))) :
 Maps.size (D.put (.string row) (.lit (.int .u64 ((sums.length+1:Nat):Int))))=(sums++ [row]).length ∧
 ∀r:List UInt8,Maps.has (D.put (.string row) (.lit (.int .u64 ((sums.length+1:Nat):Int)))) (.string r)=(sums++ [row]).contains r∧((sums++ [row]).contains r=true→(D.put (.string row) (.lit (.int .u64 ((sums.length+1:Nat):Int)))).atKey (.string r) (.lit (.int .u64 0))= .lit (.int .u64 (sumNo (sums++ [row]) r:Nat))):=by
 have j:WideAt.IsKeyLit (.string row):=trivial
 refine⟨?_,fun r=>?_⟩
 · rw[Maps.size_put hT,(h row).1,hrow,if_neg (by simp),hs];simp
 · by_cases f:r=row
   · subst f
     refine⟨?_,fun _=>?_⟩
     · rw[Maps.has_put_same hT.isMap j];simp
     · rw[Maps.atKey_put_same hT.isMap j,qJ0 hrow]
   · have c:(Lit.string r)≠ .string row:=fun e=>f (by injection e)
     have q:(sums++ [row]).contains r=sums.contains r:=by
      rw[List.contains_append];simp[f]
     rw[q]
     refine⟨?_,fun l=>?_⟩
     · rw[Maps.has_put_other c];exact(h r).1
     · rw[Maps.atKey_put_other c,(h r).2 l,qNx l]
theorem qSa (w:World):(zeroValue 29).run prog w= .ok (.int .u64 0) w:=by kernel_rfl
theorem qPp (sums:List (List UInt8))(row:List UInt8):sumNo sums row≤sums.length+1:=by
 unfold sumNo;have:=List.findIdx_le_length (p:=(· == row)) (xs:=sums);omega
theorem qSb (n:Int)(h:0≤n∧n≤10000000):(Lit.int .u64 n).wf=true:=WalkArith.wf_u64 (by omega)
theorem qHS (n:Nat)(h:n<18446744073709551616):Value.int .u64 (n:Int)=U (BitVec.ofNat 64 n):=by
 unfold U;rw[BitVec.toNat_ofNat,Nat.mod_eq_of_lt h]
theorem qM9 (O m:Nat)(v uv:Value)(sums:List (List UInt8))(rows:List (List UInt8))(hn:rows.length≤1000)(hl:rows.flatten.length≤70000)(hsl:sums.length≤1000000)(w:World)(hO:Blk w O #[v,.map (some m)] 182)(hS:qCe w m sums)(hr:qBG w uv rows) :
 Calls prog 66 #[.pointer (some ⟨O,0,none⟩),uv] w fun e w'=>e= .returned (.agg #[U 17216961135462248174#64,U (BitVec.ofNat 64 (sumNo (qB1 sums rows.flatten) rows.flatten))])∧Blk w' O #[v,.map (some m)] 182∧qCe w' m (qB1 sums rows.flatten)∧Chg [m] w w':=by
 obtain⟨row,N⟩:∃row,row=rows.flatten:=⟨_,rfl⟩
 have a2:qA4 w (w.alloc (.cells #[U 0#64,U 0#64] 115)):=qal _
 have hZ:=Blk.new w #[U 0#64,U 0#64] 115
 have CC:=qCj uv rows hn hl (w.alloc (.cells #[U 0#64,U 0#64] 115)) (hr.kept a2)
 rw[←N]at CC hl ⊢
 clear N hr hn
 go_enter func66,ntmps66
 go_wp2_with fail
 refine CC.mono ?_
 rintro e w1 ⟨r,rfl,ho,a4⟩
 have hk:=a2.of a4
 have b5:m<w.heap.size:=by obtain⟨D,h1,_⟩:=hS;exact h1.lt
 have b4:O≠m:=by
  obtain⟨D,⟨es,h,hb,_⟩,_⟩:=hS
  intro e;subst e;exact absurd (hO.symm.trans hb) (by simp)
 have a1:=hO.kept hk
 have a7:=hS.kept hk
 have q:=hZ.kept a4
 obtain⟨D,f,hT,a6,hD⟩:=a7
 have b6:=qDM (P:=prog) w1 (src:=32) (dst:=9) underlying32 underlying5 underlying9 (Sl.of_own ho)
 have F:_root_.Go.keyOf prog 9 (Str row)=some (.string row):=by
  have:=WideMaps.keyOf_string_mk (P:=prog) (k:=9) underlying9 (s:=⟨row.toArray⟩) (by show row.toArray.size≤_;unfold maxLen;simp;omega)
  simpa [Str] using this
 have q0:=a1.cell 1
 have J:=hD row
 have y0:=q.free 0
 have y1:=q.free 1
 have x0:=q.cell 0
 have x1:=q.cell 1
 have HD:=qh hD
 have HT:=qh hT
 have HS:=qh a6
 have i1:(sums.length:Int)≤1000000:=by omega
 clear hD hT
 cases hB:sums.contains row
 · have hh:=J.1
   rw[hB]at hh
   have Y:=qh hB
   clear J hB
   go_wp2_with (first|(at_lookup;refine wpList_lookup_own_ok_int _ rfl _ _ 180 rfl 9 29 .u64 (Maps.string_keyed underlying9) underlying180 underlying29 (qSa _) m sums.length D rfl f _ _ rfl F ?_;intro c a3 a5)|(at_len;refine wpList_len_own _ rfl _ _ rfl 9 29 underlying180 _ m _ D rfl f ?_)|(at_mapUpdate;refine wpList_mapUpdate_own _ rfl _ _ _ 180 rfl 9 29 (Maps.string_keyed underlying9) underlying180 _ m _ D rfl f (by unfold maxLen;omega) _ _ _ rfl rfl F _ [] (plainElem_int underlying29 (qSb _ (by omega))) ?_;intro w2 j b3;have a0:=Chg.of_grown b3;have I:=a0.blk q (by simp;omega);have u0:=I.free 0;have u1:=I.free 1;have v0:=I.cell 0;have v1:=I.cell 1;clear x0 x1 y0 y1))
   clear u0 u1 v0 v1
   have a9:=j.tidy (Maps.string_keyed underlying9)
   have bR:=(I.set 0 (U 17216961135462248174#64)).set 1 (.int .u64 ((sums.length:Int)+1))
   have l:Chg [w.heap.size] w2 ((w2.setCell ⟨w.heap.size,0,none⟩ (U 17216961135462248174#64)).setCell ⟨w.heap.size,1,none⟩ (.int .u64 ((sums.length:Int)+1))):=((Chg.refl _ _).set qsm 0 _).set qsm 1 _
   have r0:=bR.cell 0
   have r1:=bR.cell 1
   generalize ((w2.setCell ⟨w.heap.size,0,none⟩ (U 17216961135462248174#64)).setCell ⟨w.heap.size,1,none⟩ (.int .u64 ((sums.length:Int)+1)))=w3 at *
   refine bodyPost_ret (v:=.agg #[U 17216961135462248174#64,.int .u64 ((sums.length:Int)+1)]) (by simp[results,results66,go_sem,r0,r1];try exact⟨rfl,rfl⟩) rfl ⟨?_,?_,?_,?_⟩
   · have Z:sumNo (qB1 sums row) row=sums.length+1:=by unfold qB1;rw[if_neg (by rw[Y.out];simp),qJ0 Y.out]
     rw[Z,←qHS (sums.length+1) (by omega)];rfl
   · exact l.blk (a0.blk a1 (by simpa using b4)) (by simp;have:=hO.lt;omega)
   · have hp:=qPo HT.out HS.out Y.out HD.out
     rw[show qB1 sums row=sums++ [row] by unfold qB1;rw[if_neg (by rw[Y.out];simp)]]
     have G:=j.lt
     obtain⟨es,h,hb,hr⟩:=j
     refine⟨_,⟨es,h,(l.block m G (by simp;omega)).trans hb,?_⟩,?_,hp.1,hp.2⟩
     · rw[List.length_append];exact hr
     · exact a9
   · exact qDt ((Chg.of_kept hk).trans a0) l qle
 · have hh:=J.1
   rw[hB]at hh
   have V:=J.2 hB
   have Y:=qh hB
   have HA:=qh V
   clear J hB V
   go_wp2_with (at_lookup;refine wpList_lookup_own_ok_int _ rfl _ _ 180 rfl 9 29 .u64 (Maps.string_keyed underlying9) underlying180 underlying29 (qSa _) m sums.length D rfl f _ _ rfl F ?_;intro c a3 a5)
   have a8:c=(sumNo sums row:Nat):=by
    have:=a3.symm.trans HA.out
    injection this with h1
    injection h1
   subst a8
   clear x0 x1 y0 y1
   have bR:=(q.set 0 (U 17216961135462248174#64)).set 1 (.int .u64 ((sumNo sums row:Nat):Int))
   have l:Chg [w.heap.size] w1 ((w1.setCell ⟨w.heap.size,0,none⟩ (U 17216961135462248174#64)).setCell ⟨w.heap.size,1,none⟩ (.int .u64 ((sumNo sums row:Nat):Int))):=((Chg.refl _ _).set qsm 0 _).set qsm 1 _
   have r0:=bR.cell 0
   have r1:=bR.cell 1
   generalize ((w1.setCell ⟨w.heap.size,0,none⟩ (U 17216961135462248174#64)).setCell ⟨w.heap.size,1,none⟩ (.int .u64 ((sumNo sums row:Nat):Int)))=w3 at *
   refine bodyPost_ret (v:=.agg #[U 17216961135462248174#64,.int .u64 ((sumNo sums row:Nat):Int)]) (by simp[results,results66,go_sem,r0,r1];try exact⟨rfl,rfl⟩) rfl ⟨?_,?_,?_,?_⟩
   · have Z:qB1 sums row=sums:=by unfold qB1;rw[if_pos Y.out]
     rw[Z,←qHS (sumNo sums row) (by have:=qPp sums row;omega)]
   · exact l.blk a1 (by simp;have:=hO.lt;omega)
   · rw[show qB1 sums row=sums by unfold qB1;rw[if_pos Y.out]]
     have G:=f.lt
     obtain⟨es,h,hb,hr⟩:=f
     exact⟨D,⟨es,h,(l.block m G (by simp;omega)).trans hb,hr⟩,HT.out,HS.out,HD.out⟩
   · exact qDt (Chg.of_kept hk) l qle
def Lk.sumP (l:Lk)(row:List UInt8):qAD:=match l with
 | .real=>qRG row
 | .ideal _ sums=>(17216961135462248174#64,BitVec.ofNat 64 (sumNo (qB1 sums row) row))
def Lk.sumL (l:Lk)(row:List UInt8):Lk:=match l with
 | .real=>.real
 | .ideal iss sums=>.ideal iss (qB1 sums row)
def Lk.few (l:Lk)(m:Nat):Prop:=match l with
 | .real=>True
 | .ideal iss sums=>iss.length≤m∧sums.length≤m
theorem qEf.chg {w w':World}{m clock:Nat}{es:Array MapEntry}{v:Value}{l:List Iss}{rs:List (Value×Value×Value)}(h:qEf w v l rs)(hc:Chg [m] w w')(hne:∀(g:Nat) (cs:Array Value) (t:TypeId),Blk w g cs t→g∉ [m])(hm:w.heap[m]? = some (.map es clock)):qEf w' v l rs:=by
 have sl:∀(u:Value) (bs:List UInt8),Sl w u bs.length (qA1 bs)→Sl w' u bs.length (qA1 bs):=fun u bs F=>Chg.sl F hc fun a c e hl f=>by
  obtain⟨b,off,cap,q,_,_,_,j⟩:=F.at hl
  rw[e]at q
  cases q
  have I:=j 0 _ (List.getElem?_eq_getElem hl)
  rw[List.mem_singleton]at f
  subst f
  simp[World.cell?,hm]at I
 exact⟨qAO h.row hc fun g N=>by obtain⟨cur,V⟩:=qAq h.row N;exact hne g cur _ V,h.len,fun i x r j O=>by
  obtain⟨G,J,Y⟩:=h.each i x r j O
  exact⟨sl _ _ G,sl _ _ J,sl _ _ Y⟩,h.apart⟩
theorem qLd (col:Nat→Nat)(L:Nat)(l:Lk)(uv:Value)(rows:List (List UInt8))(hn:rows.length≤1000)(hl:rows.flatten.length≤60000)(hf:l.few 1000000)(w:World)(h:LkC col w L l)(_:Top col w)(hr:qBG w uv rows) :
 Calls prog 172 #[.pointer (some ⟨L,0,none⟩),uv] w fun e w'=>e= .returned (Pr (l.sumP rows.flatten))∧LkC col w' L (l.sumL rows.flatten)∧∃bs,Chg bs w w'∧∀b∈bs,col b=5:=by
 have j:qA4 w (w.alloc (.cells #[U 0#64,U 0#64] 115)):=qal _
 have hZ:=Blk.new w #[U 0#64,U 0#64] 115
 cases l with
 | real =>
  have h':=h
  obtain⟨f3,f4,hb,hc⟩:=h
  have q2:=(hb.kept j).cell 2
  obtain⟨s,hs⟩:∃s,s=qRG rows.flatten:=⟨_,rfl⟩
  have CC:=qQM uv rows hn hl (w.alloc (.cells #[U 0#64,U 0#64] 115)) (hr.kept j)
  rw[←hs]at CC
  show Calls _ _ _ _ fun e w'=>e= .returned (Pr (qRG rows.flatten))∧_
  rw[←hs]
  obtain⟨s1,s2⟩:=s
  clear hs
  go_enter func172,ntmps172
  go_wp2_with fail
  refine CC.mono ?_
  rintro e w1 ⟨rfl,a2⟩
  have c:=hZ.kept a2
  have y0:=c.free 0
  have y1:=c.free 1
  have x0:=c.cell 0
  have x1:=c.cell 1
  unfold Pr
  go_wp2
  have N:=(c.set 0 (U s1)).set 1 (U s2)
  have r0:=N.cell 0
  have r1:=N.cell 1
  have V:qA4 w ((w1.setCell ⟨w.heap.size,0,none⟩ (U s1)).setCell ⟨w.heap.size,1,none⟩ (U s2)):=qAa (qAa (j.of a2) 0 _) 1 _
  generalize ((w1.setCell ⟨w.heap.size,0,none⟩ (U s1)).setCell ⟨w.heap.size,1,none⟩ (U s2))=w3 at *
  refine bodyPost_ret (v:=.agg #[U s1,U s2]) (by simp[results,results172,go_sem,r0,r1];try exact⟨rfl,rfl⟩) rfl ⟨rfl,h'.frame (qB0.kept V 5),[],Chg.of_kept V,by simp⟩
 | ideal iss sums =>
  obtain⟨O,f3,f4,hb,hc,v,rs,m,h1,h2,h3,c1,c2,c3⟩:=h
  have q2:=(hb.kept j).cell 2
  have CC:=qM9 O m v uv sums rows hn (by omega) hf.2 (w.alloc (.cells #[U 0#64,U 0#64] 115)) (h1.kept j) (h3.kept j) (hr.kept j)
  go_enter func172,ntmps172
  go_wp2_with fail
  refine CC.mono ?_
  rintro e w1 ⟨rfl,b1,s1,a1⟩
  have a5:m<w.heap.size:=by obtain⟨D,J,_⟩:=h3;exact J.lt
  obtain⟨es,f,Y⟩:∃es f,w.heap[m]? = some (.map es f):=by
   obtain⟨D,⟨es,f,J,_⟩,_⟩:=h3
   exact⟨es,f,J⟩
  have Z:∀(g:Nat) (cs:Array Value) (t:TypeId),Blk w g cs t→g∉ [m]:=fun g cs t q hm=>by
   rw[List.mem_singleton]at hm;subst hm;exact absurd (q.symm.trans Y) (by simp)
  have c:=a1.blk hZ (by simp;omega)
  have y0:=c.free 0
  have y1:=c.free 1
  have x0:=c.cell 0
  have x1:=c.cell 1
  obtain⟨z,hz⟩:∃z,z=BitVec.ofNat 64 (sumNo (qB1 sums rows.flatten) rows.flatten):=⟨_,rfl⟩
  rw[←hz]
  have HZ:=qh hz
  clear hz
  go_wp2
  have N:=(c.set 0 (U 17216961135462248174#64)).set 1 (U z)
  have r0:=N.cell 0
  have r1:=N.cell 1
  have I:Chg [w.heap.size] w1 ((w1.setCell ⟨w.heap.size,0,none⟩ (U 17216961135462248174#64)).setCell ⟨w.heap.size,1,none⟩ (U z)):=((Chg.refl _ _).set qsm 0 _).set qsm 1 _
  generalize ((w1.setCell ⟨w.heap.size,0,none⟩ (U 17216961135462248174#64)).setCell ⟨w.heap.size,1,none⟩ (U z))=w3 at *
  have G:Chg [m] w w3:=qDt ((Chg.of_kept j).trans a1) I qle
  refine bodyPost_ret (v:=.agg #[U 17216961135462248174#64,U z]) (by simp[results,results172,go_sem,r0,r1];try exact⟨rfl,rfl⟩) rfl ⟨?_,?_,[m],G,by simpa using c2⟩
  · rw[HZ.out];rfl
  · refine⟨O,f3,f4,G.blk hb (Z _ _ _ hb),hc,v,rs,m,I.blk b1 (by simp;have:=h1.lt;omega),h2.chg G (fun g cs t q=>Z g cs t q) Y,?_,c1,c2,c3⟩
    obtain⟨D,J,k2,k3,k4⟩:=s1
    have a0:=J.lt
    obtain⟨a3,F,q,a4⟩:=J
    exact⟨D,⟨a3,F,(I.block m a0 (by simp;omega)).trans q,a4⟩,k2,k3,k4⟩
theorem qHf (v1 v2:Value)(d1 d2:List UInt8)(w:World)(h1:Sl w v1 d1.length (qA1 d1))(h2:Sl w v2 d2.length (qA1 d2)):Calls prog 98 #[v1,v2] w fun e w'=>e= .returned (.bool (d1==d2))∧w=w':=by
 have c:=qDM (P:=prog) w (src:=32) (dst:=9) underlying32 underlying5 underlying9 h1
 have f:=qDM (P:=prog) w (src:=32) (dst:=9) underlying32 underlying5 underlying9 h2
 go_enter func98,ntmps98
 go_wp2
 go_ret
 exact⟨rfl,rfl⟩
def Iss.opens (x:Iss)(key:qAD)(n:Nn)(head out:List UInt8)(tag:qAD):Bool:=x.key==key&&(x.nonce==n&&(x.tag==tag&&(x.head==head&&x.out==out)))
def qEL (iss:List Iss)(key:qAD)(n:Nn)(head out:List UInt8)(tag:qAD):Option (List UInt8):=(iss.find? fun x=>x.opens key n head out tag).map (·.data)
end Go.Proofs.YtdlgihbpiakebaaGreat
