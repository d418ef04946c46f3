import Derived.Test.YtdlgihbpiakebaaGreatMd21
import Derived.Test.YtdlgihbpiakebaaGreatMd22
import Derived.Test.YtdlgihbpiakebaaGreatMd32
import Derived.StringKeys
import Derived.Maps.OwnOps
set_option maxRecDepth 100000
set_option maxHeartbeats 4000000
namespace Go.Proofs.YtdlgihbpiakebaaGreat
open Go Go.RowKit Tryz
open Go.Maps in
def qAW (sums : List (List UInt8)) (row : List UInt8) : List (List UInt8):=if sums.contains row then sums else sums ++ [row]
theorem qIm {sums : List (List UInt8)} {row : List UInt8} (h : sums.contains row = false) : sumNo (sums ++ [row]) row = sums.length + 1:=by
 unfold sumNo
 rw [List.findIdx_append]
 have : sums.findIdx (· == row) = sums.length:=by
  rw [List.findIdx_eq_length]
  intro x hx
  cases hxr : (x == row) with
  | false=>rfl
  | true =>
   have e : x = row:=by simpa using hxr
   subst e
   rw [List.contains_iff_mem.2 hx] at h
   cases h
 rw [this,if_neg (Nat.lt_irrefl _)]
 simp
theorem qME {sums : List (List UInt8)} {row r : List UInt8} (h : sums.contains r = true) : sumNo (sums ++ [row]) r = sumNo sums r:=by
 unfold sumNo
 rw [List.findIdx_append,if_pos]
 rw [List.findIdx_lt_length]
 exact ⟨r,List.contains_iff_mem.1 h,by simp⟩
theorem qOr {D : DataW Unit} {sums : List (List UInt8)} {row : List UInt8} (hT : Maps.Tidy D) (hs : Maps.size D = sums.length) (hrow : sums.contains row = false)
 (h : ∀ r : List UInt8,Maps.has D (.string r) = sums.contains r ∧ (sums.contains r = true → D.atKey (.string r) (.lit (.int .u64 0)) = .lit (.int .u64 (sumNo sums r : Nat)))) :
 Maps.size (D.put (.string row) (.lit (.int .u64 ((sums.length + 1 : Nat) : Int)))) = (sums ++ [row]).length ∧
 ∀ r : List UInt8,Maps.has (D.put (.string row) (.lit (.int .u64 ((sums.length + 1 : Nat) : Int)))) (.string r) = (sums ++ [row]).contains r ∧ ((sums ++ [row]).contains r = true → (D.put (.string row) (.lit (.int .u64 ((sums.length + 1 : Nat) : Int)))).atKey (.string r) (.lit (.int .u64 0)) = .lit (.int .u64 (sumNo (sums ++ [row]) r : Nat))):=by
 have hk : WideAt.IsKeyLit (.string row):=trivial
 refine ⟨?_,fun r=>?_⟩
 · rw [Maps.size_put hT,(h row).1,hrow,if_neg (by simp),hs];simp
 · by_cases hr : r = row
   · subst hr
     refine ⟨?_,fun _=>?_⟩
     · rw [Maps.has_put_same hT.isMap hk];simp
     · rw [Maps.atKey_put_same hT.isMap hk,qIm hrow]
   · have hne : (Lit.string r) ≠ .string row:=fun e=>hr (by injection e)
     have hc : (sums ++ [row]).contains r = sums.contains r:=by
      rw [List.contains_append];simp [hr]
     rw [hc]
     refine ⟨?_,fun h2=>?_⟩
     · rw [Maps.has_put_other hne];exact (h r).1
     · rw [Maps.atKey_put_other hne,(h r).2 h2,qME h2]
theorem qQY (w : World) : (zeroValue 29).run prog w = .ok (.int .u64 0) w:=by kernel_rfl
theorem qOs (sums : List (List UInt8)) (row : List UInt8) : sumNo sums row ≤ sums.length + 1:=by
 unfold sumNo;have:=List.findIdx_le_length (p:=(· == row)) (xs:=sums);omega
theorem qQZ (n : Int) (h : 0 ≤ n ∧ n ≤ 10000000) : (Lit.int .u64 n).wf = true:=WalkArith.wf_u64 (by omega)
theorem qHn (n : Nat) (h : n < 18446744073709551616) : Value.int .u64 (n : Int) = U (BitVec.ofNat 64 n):=by
 unfold U;rw [BitVec.toNat_ofNat,Nat.mod_eq_of_lt h]
theorem qLh (O m : Nat) (v uv : Value) (sums : List (List UInt8)) (rows : List (List UInt8)) (hn : rows.length ≤ 1000) (hl : rows.flatten.length ≤ 70000) (hsl : sums.length ≤ 1000000) (w : World) (hO : Blk w O #[v,.map (some m)] 182) (hS : qC5 w m sums) (hr : qBE w uv rows) :
 Calls prog 66 #[.pointer (some ⟨O,0,none⟩),uv] w fun e w'=>e = .returned (.agg #[U 17216961135462248174#64,U (BitVec.ofNat 64 (sumNo (qAW sums rows.flatten) rows.flatten))]) ∧ Blk w' O #[v,.map (some m)] 182 ∧ qC5 w' m (qAW sums rows.flatten) ∧ Chg [m] w w':=by
 obtain ⟨row,hrow⟩ : ∃ row,row = rows.flatten:=⟨_,rfl⟩
 have hk0 : qA4 w (w.alloc (.cells #[U 0#64,U 0#64] 115)):=qal _
 have hZ:=Blk.new w #[U 0#64,U 0#64] 115
 have CC:=qCb uv rows hn hl (w.alloc (.cells #[U 0#64,U 0#64] 115)) (hr.kept hk0)
 rw [← hrow] at CC hl ⊢
 clear hrow hr hn
 go_enter func66,ntmps66
 go_wp2_with fail
 refine CC.mono ?_
 rintro e w1 ⟨r,rfl,ho,hk1⟩
 have hk:=hk0.of hk1
 have hml : m < w.heap.size:=by obtain ⟨D,h1,_⟩:=hS;exact h1.lt
 have hOm : O ≠ m:=by
  obtain ⟨D,⟨es,clock,hb,_⟩,_⟩:=hS
  intro e;subst e;exact absurd (hO.symm.trans hb) (by simp)
 have hO1:=hO.kept hk
 have hS1:=hS.kept hk
 have hZ1:=hZ.kept hk1
 obtain ⟨D,hown,hT,hsz,hD⟩:=hS1
 have hcv:=qDD (P:=prog) w1 (src:=32) (dst:=9) underlying32 underlying5 underlying9 (Sl.of_own ho)
 have hkey : _root_.Go.keyOf prog 9 (Str row) = some (.string row):=by
  have:=WideMaps.keyOf_string_mk (P:=prog) (k:=9) underlying9 (s:=⟨row.toArray⟩) (by show row.toArray.size ≤ _;unfold maxLen;simp;omega)
  simpa [Str] using this
 have q0:=hO1.cell 1
 have hDr:=hD row
 have y0:=hZ1.free 0
 have y1:=hZ1.free 1
 have x0:=hZ1.cell 0
 have x1:=hZ1.cell 1
 have HD:=qh hD
 have HT:=qh hT
 have HS:=qh hsz
 have i1 : (sums.length : Int) ≤ 1000000:=by omega
 clear hD hT
 cases hB : sums.contains row
 · have hh:=hDr.1
   rw [hB] at hh
   have HB:=qh hB
   clear hDr hB
   go_wp2_with (first | (at_lookup;refine wpList_lookup_own_ok_int _ rfl _ _ 180 rfl 9 29 .u64 (Maps.string_keyed underlying9) underlying180 underlying29 (qQY _) m sums.length D rfl hown _ _ rfl hkey ?_;intro c hat hwc) | (at_len;refine wpList_len_own _ rfl _ _ rfl 9 29 underlying180 _ m _ D rfl hown ?_) | (at_mapUpdate;refine wpList_mapUpdate_own _ rfl _ _ _ 180 rfl 9 29 (Maps.string_keyed underlying9) underlying180 _ m _ D rfl hown (by unfold maxLen;omega) _ _ _ rfl rfl hkey _ [] (plainElem_int underlying29 (qQZ _ (by omega))) ?_;intro w2 hown2 hg2;have hc2:=Chg.of_grown hg2;have bZ2:=hc2.blk hZ1 (by simp;omega);have u0:=bZ2.free 0;have u1:=bZ2.free 1;have v0:=bZ2.cell 0;have v1:=bZ2.cell 1;clear x0 x1 y0 y1))
   clear u0 u1 v0 v1
   have hT2:=hown2.tidy (Maps.string_keyed underlying9)
   have bR:=(bZ2.set 0 (U 17216961135462248174#64)).set 1 (.int .u64 ((sums.length : Int) + 1))
   have hcR : Chg [w.heap.size] w2 ((w2.setCell ⟨w.heap.size,0,none⟩ (U 17216961135462248174#64)).setCell ⟨w.heap.size,1,none⟩ (.int .u64 ((sums.length : Int) + 1))):=((Chg.refl _ _).set qsm 0 _).set qsm 1 _
   have r0:=bR.cell 0
   have r1:=bR.cell 1
   generalize ((w2.setCell ⟨w.heap.size,0,none⟩ (U 17216961135462248174#64)).setCell ⟨w.heap.size,1,none⟩ (.int .u64 ((sums.length : Int) + 1))) = w3 at *
   refine bodyPost_ret (v:=.agg #[U 17216961135462248174#64,.int .u64 ((sums.length : Int) + 1)]) (by simp [results,results66,go_sem,r0,r1];try exact ⟨rfl,rfl⟩) rfl ⟨?_,?_,?_,?_⟩
   · have hno : sumNo (qAW sums row) row = sums.length + 1:=by unfold qAW;rw [if_neg (by rw [HB.out];simp),qIm HB.out]
     rw [hno,← qHn (sums.length + 1) (by omega)];rfl
   · exact hcR.blk (hc2.blk hO1 (by simpa using hOm)) (by simp;have:=hO.lt;omega)
   · have hp:=qOr HT.out HS.out HB.out HD.out
     rw [show qAW sums row = sums ++ [row] by unfold qAW;rw [if_neg (by rw [HB.out];simp)]]
     have hlt2:=hown2.lt
     obtain ⟨es,clock,hb,hr⟩:=hown2
     refine ⟨_,⟨es,clock,(hcR.block m hlt2 (by simp;omega)).trans hb,?_⟩,?_,hp.1,hp.2⟩
     · rw [List.length_append];exact hr
     · exact hT2
   · exact qDg ((Chg.of_kept hk).trans hc2) hcR qle
 · have hh:=hDr.1
   rw [hB] at hh
   have hat2:=hDr.2 hB
   have HB:=qh hB
   have HA:=qh hat2
   clear hDr hB hat2
   go_wp2_with (at_lookup;refine wpList_lookup_own_ok_int _ rfl _ _ 180 rfl 9 29 .u64 (Maps.string_keyed underlying9) underlying180 underlying29 (qQY _) m sums.length D rfl hown _ _ rfl hkey ?_;intro c hat hwc)
   have hcc : c = (sumNo sums row : Nat):=by
    have:=hat.symm.trans HA.out
    injection this with h1
    injection h1
   subst hcc
   clear x0 x1 y0 y1
   have bR:=(hZ1.set 0 (U 17216961135462248174#64)).set 1 (.int .u64 ((sumNo sums row : Nat) : Int))
   have hcR : Chg [w.heap.size] w1 ((w1.setCell ⟨w.heap.size,0,none⟩ (U 17216961135462248174#64)).setCell ⟨w.heap.size,1,none⟩ (.int .u64 ((sumNo sums row : Nat) : Int))):=((Chg.refl _ _).set qsm 0 _).set qsm 1 _
   have r0:=bR.cell 0
   have r1:=bR.cell 1
   generalize ((w1.setCell ⟨w.heap.size,0,none⟩ (U 17216961135462248174#64)).setCell ⟨w.heap.size,1,none⟩ (.int .u64 ((sumNo sums row : Nat) : Int))) = w3 at *
   refine bodyPost_ret (v:=.agg #[U 17216961135462248174#64,.int .u64 ((sumNo sums row : Nat) : Int)]) (by simp [results,results66,go_sem,r0,r1];try exact ⟨rfl,rfl⟩) rfl ⟨?_,?_,?_,?_⟩
   · have hno : qAW sums row = sums:=by unfold qAW;rw [if_pos HB.out]
     rw [hno,← qHn (sumNo sums row) (by have:=qOs sums row;omega)]
   · exact hcR.blk hO1 (by simp;have:=hO.lt;omega)
   · rw [show qAW sums row = sums by unfold qAW;rw [if_pos HB.out]]
     have hlt2:=hown.lt
     obtain ⟨es,clock,hb,hr⟩:=hown
     exact ⟨D,⟨es,clock,(hcR.block m hlt2 (by simp;omega)).trans hb,hr⟩,HT.out,HS.out,HD.out⟩
   · exact qDg (Chg.of_kept hk) hcR qle
def Lk.sumP (l : Lk) (row : List UInt8) : qAB:=match l with
 | .real=>qQu row
 | .ideal _ sums=>(17216961135462248174#64,BitVec.ofNat 64 (sumNo (qAW sums row) row))
def Lk.sumL (l : Lk) (row : List UInt8) : Lk:=match l with
 | .real=>.real
 | .ideal iss sums=>.ideal iss (qAW sums row)
def Lk.few (l : Lk) (m : Nat) : Prop:=match l with
 | .real=>True
 | .ideal iss sums=>iss.length ≤ m ∧ sums.length ≤ m
theorem qE5.chg {w w' : World} {m clock : Nat} {es : Array MapEntry} {v : Value} {l : List Iss} {rs : List (Value × Value × Value)} (h : qE5 w v l rs) (hc : Chg [m] w w') (hne : ∀ (g : Nat) (cs : Array Value) (t : TypeId),Blk w g cs t → g ∉ [m]) (hm : w.heap[m]? = some (.map es clock)) : qE5 w' v l rs:=by
 have sl : ∀ (u : Value) (bs : List UInt8),Sl w u bs.length (qA1 bs) → Sl w' u bs.length (qA1 bs):=fun u bs hs=>Chg.sl hs hc fun a c e hl hmem=>by
  obtain ⟨b,off,cap,e2,_,_,_,hx⟩:=hs.at hl
  rw [e] at e2
  cases e2
  have h0:=hx 0 _ (List.getElem?_eq_getElem hl)
  rw [List.mem_singleton] at hmem
  subst hmem
  simp [World.cell?,hm] at h0
 exact ⟨qAK h.row hc fun g hg=>by obtain ⟨cur,hb⟩:=qAp h.row hg;exact hne g cur _ hb,h.len,fun i x r hx hr=>by
  obtain ⟨h1,h2,h3⟩:=h.each i x r hx hr
  exact ⟨sl _ _ h1,sl _ _ h2,sl _ _ h3⟩,h.apart⟩
theorem qKm (col : Nat → Nat) (L : Nat) (l : Lk) (uv : Value) (rows : List (List UInt8)) (hn : rows.length ≤ 1000) (hl : rows.flatten.length ≤ 60000) (hf : l.few 1000000) (w : World) (h : LkC col w L l) (_ : Top col w) (hr : qBE w uv rows) :
 Calls prog 172 #[.pointer (some ⟨L,0,none⟩),uv] w fun e w'=>e = .returned (Pr (l.sumP rows.flatten)) ∧ LkC col w' L (l.sumL rows.flatten) ∧ ∃ bs,Chg bs w w' ∧ ∀ b ∈ bs,col b = 5:=by
 have hk0 : qA4 w (w.alloc (.cells #[U 0#64,U 0#64] 115)):=qal _
 have hZ:=Blk.new w #[U 0#64,U 0#64] 115
 cases l with
 | real =>
  have h':=h
  obtain ⟨f3,f4,hb,hc⟩:=h
  have q2:=(hb.kept hk0).cell 2
  obtain ⟨s,hs⟩ : ∃ s,s = qQu rows.flatten:=⟨_,rfl⟩
  have CC:=qPK uv rows hn hl (w.alloc (.cells #[U 0#64,U 0#64] 115)) (hr.kept hk0)
  rw [← hs] at CC
  show Calls _ _ _ _ fun e w'=>e = .returned (Pr (qQu rows.flatten)) ∧ _
  rw [← hs]
  obtain ⟨s1,s2⟩:=s
  clear hs
  go_enter func172,ntmps172
  go_wp2_with fail
  refine CC.mono ?_
  rintro e w1 ⟨rfl,hk1⟩
  have hZ1:=hZ.kept hk1
  have y0:=hZ1.free 0
  have y1:=hZ1.free 1
  have x0:=hZ1.cell 0
  have x1:=hZ1.cell 1
  unfold Pr
  go_wp2
  have bR:=(hZ1.set 0 (U s1)).set 1 (U s2)
  have r0:=bR.cell 0
  have r1:=bR.cell 1
  have hk2 : qA4 w ((w1.setCell ⟨w.heap.size,0,none⟩ (U s1)).setCell ⟨w.heap.size,1,none⟩ (U s2)):=qA9 (qA9 (hk0.of hk1) 0 _) 1 _
  generalize ((w1.setCell ⟨w.heap.size,0,none⟩ (U s1)).setCell ⟨w.heap.size,1,none⟩ (U s2)) = w3 at *
  refine bodyPost_ret (v:=.agg #[U s1,U s2]) (by simp [results,results172,go_sem,r0,r1];try exact ⟨rfl,rfl⟩) rfl ⟨rfl,h'.frame (qAZ.kept hk2 5),[],Chg.of_kept hk2,by simp⟩
 | ideal iss sums =>
  obtain ⟨O,f3,f4,hb,hc,v,rs,m,h1,h2,h3,c1,c2,c3⟩:=h
  have q2:=(hb.kept hk0).cell 2
  have CC:=qLh O m v uv sums rows hn (by omega) hf.2 (w.alloc (.cells #[U 0#64,U 0#64] 115)) (h1.kept hk0) (h3.kept hk0) (hr.kept hk0)
  go_enter func172,ntmps172
  go_wp2_with fail
  refine CC.mono ?_
  rintro e w1 ⟨rfl,b1,s1,hc1⟩
  have hml : m < w.heap.size:=by obtain ⟨D,k1,_⟩:=h3;exact k1.lt
  obtain ⟨es,clock,hmb⟩ : ∃ es clock,w.heap[m]? = some (.map es clock):=by
   obtain ⟨D,⟨es,clock,k1,_⟩,_⟩:=h3
   exact ⟨es,clock,k1⟩
  have hne : ∀ (g : Nat) (cs : Array Value) (t : TypeId),Blk w g cs t → g ∉ [m]:=fun g cs t hb' hm=>by
   rw [List.mem_singleton] at hm;subst hm;exact absurd (hb'.symm.trans hmb) (by simp)
  have hZ1:=hc1.blk hZ (by simp;omega)
  have y0:=hZ1.free 0
  have y1:=hZ1.free 1
  have x0:=hZ1.cell 0
  have x1:=hZ1.cell 1
  obtain ⟨z,hz⟩ : ∃ z,z = BitVec.ofNat 64 (sumNo (qAW sums rows.flatten) rows.flatten):=⟨_,rfl⟩
  rw [← hz]
  have HZ:=qh hz
  clear hz
  go_wp2
  have bR:=(hZ1.set 0 (U 17216961135462248174#64)).set 1 (U z)
  have r0:=bR.cell 0
  have r1:=bR.cell 1
  have hcR : Chg [w.heap.size] w1 ((w1.setCell ⟨w.heap.size,0,none⟩ (U 17216961135462248174#64)).setCell ⟨w.heap.size,1,none⟩ (U z)):=((Chg.refl _ _).set qsm 0 _).set qsm 1 _
  generalize ((w1.setCell ⟨w.heap.size,0,none⟩ (U 17216961135462248174#64)).setCell ⟨w.heap.size,1,none⟩ (U z)) = w3 at *
  have hcw : Chg [m] w w3:=qDg ((Chg.of_kept hk0).trans hc1) hcR qle
  refine bodyPost_ret (v:=.agg #[U 17216961135462248174#64,U z]) (by simp [results,results172,go_sem,r0,r1];try exact ⟨rfl,rfl⟩) rfl ⟨?_,?_,[m],hcw,by simpa using c2⟩
  · rw [HZ.out];rfl
  · refine ⟨O,f3,f4,hcw.blk hb (hne _ _ _ hb),hc,v,rs,m,hcR.blk b1 (by simp;have:=h1.lt;omega),h2.chg hcw (fun g cs t hb'=>hne g cs t hb') hmb,?_,c1,c2,c3⟩
    obtain ⟨D,k1,k2,k3,k4⟩:=s1
    have hlt2:=k1.lt
    obtain ⟨es',clock',hb',hr'⟩:=k1
    exact ⟨D,⟨es',clock',(hcR.block m hlt2 (by simp;omega)).trans hb',hr'⟩,k2,k3,k4⟩
theorem qGO (v1 v2 : Value) (d1 d2 : List UInt8) (w : World) (h1 : Sl w v1 d1.length (qA1 d1)) (h2 : Sl w v2 d2.length (qA1 d2)) : Calls prog 98 #[v1,v2] w fun e w'=>e = .returned (.bool (d1 == d2)) ∧ w = w':=by
 have c1:=qDD (P:=prog) w (src:=32) (dst:=9) underlying32 underlying5 underlying9 h1
 have c2:=qDD (P:=prog) w (src:=32) (dst:=9) underlying32 underlying5 underlying9 h2
 go_enter func98,ntmps98
 go_wp2
 go_ret
 exact ⟨rfl,rfl⟩
def Iss.opens (x : Iss) (key : qAB) (n : Nn) (head out : List UInt8) (tag : qAB) : Bool:=x.key == key && (x.nonce == n && (x.tag == tag && (x.head == head && x.out == out)))
def qDS (iss : List Iss) (key : qAB) (n : Nn) (head out : List UInt8) (tag : qAB) : Option (List UInt8):=(iss.find? fun x=>x.opens key n head out tag).map (·.data)
end Go.Proofs.YtdlgihbpiakebaaGreat
