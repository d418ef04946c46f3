import Derived.Test.YtdlgihbpiakebaaGreatMd07
import Derived.Test.YtdlgihbpiakebaaGreatMd12
import Derived.Test.YtdlgihbpiakebaaGreatMd14
import Derived.Test.YtdlgihbpiakebaaGreatMd15
import Derived.Test.YtdlgihbpiakebaaGreatMd17
import Derived.Test.YtdlgihbpiakebaaGreatMd20
import Derived.Test.YtdlgihbpiakebaaGreatMd33
import Derived.Test.YtdlgihbpiakebaaGreatMd37
set_option maxRecDepth 100000
set_option maxHeartbeats 4000000
namespace Go.Proofs.YtdlgihbpiakebaaGreat
open Go Go.RowKit Tryz
theorem qDp (iss : List Iss) (p : Iss → Bool) (k : Nat) (x : Iss) (hx : iss[k]? = some x) (hf : (iss.take k).find? p = none) (hp : p x = false) : (iss.take (k + 1)).find? p = none:=by
 rw [List.take_add_one,List.find?_append,hf,hx]
 simp [hp]
theorem qOy (iss : List Iss) (p : Iss → Bool) (k : Nat) (x : Iss) (hx : iss[k]? = some x) (hf : (iss.take k).find? p = none) (hp : p x = true) : iss.find? p = some x:=by
 have hl:=(List.getElem?_eq_some_iff.1 hx).1
 conv=>lhs;rw [← List.take_append_drop k iss]
 rw [List.find?_append,hf,List.drop_eq_getElem_cons hl]
 have : iss[k] = x:=by rw [List.getElem?_eq_getElem hl] at hx;exact Option.some.inj hx
 rw [this]
 simp [hp]
theorem qJA (O m : Nat) (v vh vo : Value) (rs : List (Value × Value × Value)) (iss : List Iss) (key tag : qAB) (n : Nn) (head out : List UInt8) (hil : iss.length ≤ 100000) (hdl : ∀ x ∈ iss,x.data.length ≤ 4000) (w : World) (hO : Blk w O #[v,.map (some m)] 182) (hI : qE5 w v iss rs) (hh : Sl w vh head.length (qA1 head)) (ho : Sl w vo out.length (qA1 out)) :
 Calls prog 65 #[.pointer (some ⟨O,0,none⟩),.agg #[U key.1,U key.2],(.agg #[W n.epoch,W n.slot,U n.version]),vh,.agg #[vo,U tag.1,U tag.2]] w fun e w'=>∃ u,e = .returned (.tuple #[u,.bool (qDS iss key n head out tag).isSome]) ∧ (∀ d,qDS iss key n head out tag = some d → w'.ownsRow w.heap.size 5 1 u d.length (qA1 d)) ∧ qA4 w w':=by
 obtain ⟨ah,ch,rfl⟩:=hh.len
 obtain ⟨ao,co,rfl⟩:=ho.len
 obtain ⟨av,cv,hv⟩:=(Sl.of_own hI.row).len
 subst hv
 obtain ⟨w0,hw0⟩ : ∃ w0,w0 = ((w.alloc (.cells #[U key.1,U key.2] 115)).alloc (.cells #[W n.epoch,W n.slot,U n.version] 113)).alloc (.cells #[.slice ao out.length co,U tag.1,U tag.2] 165):=⟨_,rfl⟩
 have hk0 : qA4 w w0:=by rw [hw0];exact ((qal _).alloc (by simp) _).alloc (by simp;omega) _
 have bK : Blk w0 w.heap.size #[U key.1,U key.2] 115:=by rw [hw0];exact ((Blk.new w _ _).kept (qal _)).kept (qal _)
 have bN : Blk w0 (w.heap.size + 1) #[W n.epoch,W n.slot,U n.version] 113:=by
  rw [hw0]
  have:=Blk.new (w.alloc (.cells #[U key.1,U key.2] 115)) #[W n.epoch,W n.slot,U n.version] 113
  rw [World.size_alloc] at this
  exact this.kept (qal _)
 have bS : Blk w0 (w.heap.size + 1 + 1) #[.slice ao out.length co,U tag.1,U tag.2] 165:=by
  rw [hw0]
  have:=Blk.new ((w.alloc (.cells #[U key.1,U key.2] 115)).alloc (.cells #[W n.epoch,W n.slot,U n.version] 113)) #[.slice ao out.length co,U tag.1,U tag.2] 165
  rw [World.size_alloc,World.size_alloc] at this
  exact this
 have q0:=(hO.kept hk0).cell 0
 have i1 : (iss.length : Int) ≤ 100000:=by omega
 have q9:=q0
 rw [hw0] at q9
 clear q0
 go_enter func65,ntmps65
 go_wp2_with fail
 rw [← hw0]
 clear hw0 q9
 go_loopw [21] (fun i wr=>∃ k : Nat,i = .int .i64 k ∧ k ≤ iss.length ∧ (iss.take k).find? (fun x=>x.opens key n head out tag) = none ∧ qA4 w0 wr) (fun i _=>iss.length - (intOf i).toNat)
 case atStart=>exact ⟨0,rfl,by omega,by simp,Below.refl _ _⟩
 case round =>
  obtain ⟨k,rfl,hk,hf,hkr⟩:=hrel
  by_cases hlt : k < iss.length
  · have m1 : (k : Int) < (iss.length : Int):=by omega
    have m2 : (0 : Int) ≤ (k : Int):=by omega
    obtain ⟨g,cap,hsl⟩:=qAx hI.row (by omega)
    cases hsl
    have hxk:=List.getElem?_eq_getElem hlt
    obtain ⟨x,hx⟩ : ∃ x,x = iss[k]:=⟨_,rfl⟩
    rw [← hx] at hxk
    have hrk : k < rs.length:=by rw [hI.len];exact hlt
    obtain ⟨⟨r1,r2,r3⟩,hr⟩ : ∃ r,rs[k] = r:=⟨_,rfl⟩
    have hrr : rs[k]? = some (r1,r2,r3):=by rw [List.getElem?_eq_getElem hrk,hr]
    obtain ⟨s1,s2,s3⟩:=hI.each k x (r1,r2,r3) hxk hrr
    simp only at s1 s2 s3
    have hcell:=qFS iss rs k x (r1,r2,r3) hxk hrr
    obtain ⟨b,off,cap',e',_,_,_,hxc⟩:=((Sl.of_own hI.row).kept (hk0.of hkr)).at (by rw [qDY _ _ hI.len];omega)
    cases e'
    have hw : ∀ j u,[U x.key.1,U x.key.2,W x.nonce.epoch,W x.nonce.slot,U x.nonce.version,r1,r2,r3,U x.tag.1,U x.tag.2][j]? = some u → wr.cell? ⟨g,k * 10 + j,none⟩ = some u:=fun j u hj=>by
     have:=hxc _ u (hcell j u hj)
     simpa using this
    obtain ⟨a1,c1,rfl⟩:=s1.len
    obtain ⟨a2,c2,rfl⟩:=s2.len
    obtain ⟨a3,c3,rfl⟩:=s3.len
    have d0 : wr.cell? ⟨g,k * 10,none⟩ = some (U x.key.1):=hw 0 _ rfl
    have d1:=hw 1 _ rfl
    have d2:=hw 2 _ rfl
    have d3:=hw 3 _ rfl
    have d4:=hw 4 _ rfl
    have d5:=hw 5 _ rfl
    have d6:=hw 6 _ rfl
    have d7:=hw 7 _ rfl
    have d8:=hw 8 _ rfl
    have d9:=hw 9 _ rfl
    clear hw hxc hcell
    have HX:=qh hx
    clear hx
    have hka : qA4 wr (wr.alloc (.cells (qEZ x (.slice a1 x.head.length c1) (.slice a2 x.data.length c2) (.slice a3 x.out.length c3)) 184)):=qal _
    have bK2:=(bK.kept hkr).kept hka
    have bN2:=(bN.kept hkr).kept hka
    have bS2:=(bS.kept hkr).kept hka
    unfold qEZ at hka bK2 bN2 bS2
    have k0:=bK2.cell 0
    have k1:=bK2.cell 1
    have n0:=bN2.cell 0
    have n1:=bN2.cell 1
    have n2:=bN2.cell 2
    have t0:=bS2.cell 0
    have t1:=bS2.cell 1
    have t2:=bS2.cell 2
    cases e0 : ((x.key.1,x.key.2) == (key.1,key.2))
    · have E0 : (x.key == key) = false:=by rw [← e0]
      go_wp2_with fail
      exact ⟨⟨k + 1,rfl,by omega,qDp _ _ k x hxk hf (by unfold Iss.opens;simp [E0]),hkr.of hka⟩,by simp [intOf];omega⟩
    have E0 : (x.key == key) = true:=by rw [← e0]
    cases e1 : (qR0 ⟨x.nonce.epoch,x.nonce.slot,x.nonce.version⟩ ⟨n.epoch,n.slot,n.version⟩)
    · have E1 : (x.nonce == n) = false:=by rw [← e1];unfold qR0;rfl
      go_wp2_with fail
      exact ⟨⟨k + 1,rfl,by omega,qDp _ _ k x hxk hf (by unfold Iss.opens;simp [E1]),hkr.of hka⟩,by simp [intOf];omega⟩
    have E1 : (x.nonce == n) = true:=by rw [← e1];unfold qR0;rfl
    cases e2 : ((x.tag.1,x.tag.2) == (tag.1,tag.2))
    · have E2 : (x.tag == tag) = false:=by rw [← e2]
      go_wp2_with fail
      exact ⟨⟨k + 1,rfl,by omega,qDp _ _ k x hxk hf (by unfold Iss.opens;simp [E2]),hkr.of hka⟩,by simp [intOf];omega⟩
    have E2 : (x.tag == tag) = true:=by rw [← e2]
    obtain ⟨B0,hB0⟩ : ∃ b,b = (x.head == head):=⟨_,rfl⟩
    have CC0:=qGO _ _ _ _ _ (((s1).kept (hk0.of hkr)).kept hka) (((hh).kept (hk0.of hkr)).kept hka)
    rw [← hB0] at CC0
    have HB0:=qh hB0
    clear hB0
    obtain ⟨B1,hB1⟩ : ∃ b,b = (x.out == out):=⟨_,rfl⟩
    have CC1:=qGO _ _ _ _ _ (((s3).kept (hk0.of hkr)).kept hka) (((ho).kept (hk0.of hkr)).kept hka)
    rw [← hB1] at CC1
    have HB1:=qh hB1
    clear hB1
    have CL:=qAV _ x.data (by have:=hdl x (by rw [HX.out];exact List.getElem_mem hlt);omega) _ (((s2).kept (hk0.of hkr)).kept hka)
    rw [World.size_alloc] at CL
    go_wp2_with fail
    refine CC0.mono ?_
    rintro e w1 ⟨rfl,rfl⟩
    cases B0 with
    | false =>
     have E3 : (x.head == head) = false:=HB0.out.symm
     go_wp2_with fail
     exact ⟨⟨k + 1,rfl,by omega,qDp _ _ k x hxk hf (by unfold Iss.opens;simp [E3]),hkr.of hka⟩,by simp [intOf];omega⟩
    | true =>
     have E3 : (x.head == head) = true:=HB0.out.symm
     go_wp2_with fail
     refine CC1.mono ?_
     rintro e w1 ⟨rfl,rfl⟩
     cases B1 with
     | false =>
      have E4 : (x.out == out) = false:=HB1.out.symm
      go_wp2_with fail
      exact ⟨⟨k + 1,rfl,by omega,qDp _ _ k x hxk hf (by unfold Iss.opens;simp [E4]),hkr.of hka⟩,by simp [intOf];omega⟩
     | true =>
      have E4 : (x.out == out) = true:=HB1.out.symm
      go_wp2_with fail
      refine CL.mono ?_
      rintro e w1 ⟨u,rfl,ho1,hk1⟩
      go_wp2_with fail
      have hyes : qDS iss key n head out tag = some x.data:=by unfold qDS;rw [qOy _ _ k x hxk hf (by unfold Iss.opens;rw [E0,E1,E2,E3,E4];rfl)];rfl
      rw [hyes]
      refine bodyPost_ret (v:=.tuple #[u,.bool true]) (by simp [results,results65,go_sem]) rfl ⟨_,rfl,?_,(hk0.of hkr).of (hka.of hk1)⟩
      rintro d ⟨rfl⟩
      exact qAg ho1 (by have:=hk0.size;have:=hkr.size;omega)
  · go_wp2_with fail
    have hk' : k = iss.length:=by omega
    subst hk'
    rw [List.take_length] at hf
    have hno : qDS iss key n head out tag = none:=by unfold qDS;rw [hf];rfl
    rw [hno]
    refine bodyPost_ret (v:=.tuple #[.slice none 0 0,.bool false]) (by simp [results,results65,go_sem]) rfl ⟨_,rfl,by simp,hk0.of hkr⟩

theorem qOz (a b : List UInt8) (k : Nat) (ha : k < a.length) (hb : k < b.length) (h : k < (qFq a b).length) : (qFq a b)[k] = a[k] ^^^ b[k]:=by simp [qFq]
theorem qMH (va vb : Value) (a b : List UInt8) (ha : a.length ≤ 4000) (hb : b.length ≤ 4000) (w : World) (sa : Sl w va a.length (qA1 a)) (sb : Sl w vb b.length (qA1 b)) :
 Calls prog 88 #[va,vb] w fun e w'=>∃ r,e = .returned r ∧ w'.ownsRow w.heap.size 5 1 r (qFq a b).length (qA1 (qFq a b)) ∧ qA4 w w':=by
 obtain ⟨pa,ca,hva⟩:=sa.len
 obtain ⟨pb,cb,hvb⟩:=sb.len
 obtain ⟨n,hn⟩ : ∃ n,n = (qFq a b).length:=⟨_,rfl⟩
 have hna : n ≤ a.length:=by rw [hn,qCX];omega
 have hnb : n ≤ b.length:=by rw [hn,qCX];omega
 have hmk:=fun wx=>qBR (P:=prog) wx qAw .i64 .i64 n (by omega)
 have hmin : (if b.length < a.length then (b.length : Int) else (a.length : Int)) = (n : Int):=by rw [hn,qCX];split <;> omega
 subst hva hvb
 rw [← hn]
 have HN:=qh hn
 have HA:=qh hna
 have HB:=qh hnb
 have n0 : (n : Int) ≤ 4000:=by omega
 clear hn hna hnb
 go_enter func88,ntmps88
 go_wp2_with fail
 clear hmk hmin
 go_loopw [15,6] (fun i _ wr=>∃ k : Nat,k ≤ n ∧ i = .int .i64 k ∧ Blk wr w.heap.size (qA1 (qJ3 (qFq a b) 0 k)).toArray 5 ∧ Below w.heap.size w wr)
  (fun i _ _=>n - (intOf i).toNat)
 case atStart=>exact ⟨0,by omega,rfl,by rw [qI1,← HN.out];exact Blk.new _ _ _,qal _⟩
 case round =>
  obtain ⟨k,hk,rfl,ho,hb⟩:=hrel
  by_cases hlt : k < n
  · have hkL : k < (qFq a b).length:=by rw [← HN.out];exact hlt
    have hka : k < a.length:=by have:=HA.out;omega
    have hkb : k < b.length:=by have:=HB.out;omega
    have hset:=qK6 (qFq a b) 0 k hkL
    rw [qOz a b k hka hkb] at hset
    have c:=ho.cell k
    rw [show (qA1 (qJ3 (qFq a b) 0 k)).toArray[k]? = some (V8 0) by simp [qA1,qK7 _ _ _ hkL]] at c
    have f:=ho.free k
    obtain ⟨ba,oa,capa,ea,_,_,la,xa⟩:=(sa.kept hb).byte (by omega)
    obtain ⟨bb,ob,capb,eb,_,_,lb,xb⟩:=(sb.kept hb).byte (by omega)
    cases ea
    cases eb
    have ca:=xa k hka
    have cb:=xb k hkb
    have i2 : (k : Int) < (n : Int):=by omega
    have i3 : (0 : Int) ≤ (k : Int):=by omega
    have i4 : (k : Int) < (a.length : Int):=by omega
    have i5 : (k : Int) < (b.length : Int):=by omega
    have HS:=qh hset
    have XA:=qh xa
    have XB:=qh xb
    clear hset xa xb
    go_wp2
    refine qA5 [(0,0),(1,0),(2,0),(3,0),(4,0),(5,0),(6,0),(7,0),(8,0),(9,0),(10,0),(11,0),(12,2)] (by kernel_rfl) (by kernel_rfl) ?_
    intro w1 hw1
    repeat
     refine qA0 _ rfl (fun K hK=>?_)
     first
      | (refine qqP (by rfl) ?_;apply Exists.intro;refine ⟨fun w' hw'=>?_,hK _ ?_⟩;(have ca1:=hw'.at (hw1.at ca);have cb1:=hw'.at (hw1.at cb);go_simp;first|done|rfl))
      | refine qqN (by rfl) (hK _ ?_)
     clear hK K;simp only [Act.put,qqB]
    refine qAh _ rfl (fun K hK=>?_)
    refine qqP (by rfl) ?_
    have c1:=hw1.at c
    have f1:=(ho.kept hw1).free k
    go_wp2
    refine qA7 ?_
    go_wp2
    refine ⟨⟨k + 1,by omega,by go_num,?_,(qA4.of hb hw1).setCell qle _⟩,by simp [intOf];omega⟩
    have:=(ho.kept hw1).set k (V8 (a[k] ^^^ b[k]))
    rw [qEN,HS.out] at this
    exact this
  · have : k = n:=by omega
    subst this
    have hf : qJ3 (qFq a b) 0 k = qFq a b:=by have:=qK5 (qFq a b) 0;rwa [← HN.out] at this
    rw [hf] at ho
    clear hf
    go_wp2
    go_ret
    exact ⟨_,rfl,qCv k (by unfold maxLen;omega) 5 _ HN.out.symm ho qle,hb⟩
theorem qJB (s1 s2 : BitVec 64) (vh vb : Value) (head bytes : List UInt8) (hl : head.length ≤ 4000) (bl : bytes.length ≤ 4000) (w : World) (hh : Sl w vh head.length (qA1 head)) (hb : Sl w vb bytes.length (qA1 bytes)) :
 Calls prog 90 #[.agg #[U s1,U s2],vh,vb] w fun e w'=>e = .returned (Pr (qLT (s1,s2) head bytes)) ∧ qA4 w w':=by
 obtain ⟨ha,hc,hv⟩:=hh.len
 subst hv
 obtain ⟨ba,bc,hv⟩:=hb.len
 subst hv
 have hk0 : qA4 w ((w.alloc (.cells #[U s1,U s2] 115)).alloc (.cells #[U 0#64,U 0#64] 115)):=(qal _).alloc (by simp) _
 have hS : Blk ((w.alloc (.cells #[U s1,U s2] 115)).alloc (.cells #[U 0#64,U 0#64] 115)) w.heap.size #[U s1,U s2] 115:=(Blk.new _ _ _).alloc _
 have hR : Blk ((w.alloc (.cells #[U s1,U s2] 115)).alloc (.cells #[U 0#64,U 0#64] 115)) (w.heap.size + 1) #[U 0#64,U 0#64] 115:=by simpa using Blk.new (w.alloc (.cells #[U s1,U s2] 115)) #[U 0#64,U 0#64] 115
 have hh0:=hh
 have hb0:=hb
 obtain ⟨H,hH⟩ : ∃ H,H = head.length:=⟨_,rfl⟩
 obtain ⟨B,hB⟩ : ∃ B,B = bytes.length:=⟨_,rfl⟩
 rw [← hH] at hl hh
 rw [← hB] at bl hb
 rw [← hH,← hB]
 have i0 : (H : Int) ≤ 4000:=by omega
 have i1 : (B : Int) ≤ 4000:=by omega
 have HH:=qh hH
 have HB:=qh hB
 have hsh : Sl w (.slice ha H hc) head.length (qA1 head):=by rw [hH];exact hh0
 have hsb : Sl w (.slice ba B bc) bytes.length (qA1 bytes):=by rw [hB];exact hb0
 have hp1 : nP head.length ≤ 260:=by rw [← hH];unfold nP;omega
 have hp2 : nP bytes.length ≤ 260:=by rw [← hB];unfold nP;omega
 clear hH hB hh hb hh0 hb0
 have q0:=hS.cell 0
 have q1:=hS.cell 1
 go_enter func90,ntmps90
 go_wp2_with fail
 generalize ((w.alloc (.cells #[U s1,U s2] 115)).alloc (.cells #[U 0#64,U 0#64] 115)) = w0 at *
 clear q0 q1
 refine (qIb _ head (by rw [← HH.out];omega) _ (hsh.kept hk0)).mono ?_
 rintro e w6 ⟨r1,rfl,o1,hk6⟩
 go_wp2_with fail
 refine (qIb _ bytes (by rw [← HB.out];omega) _ (hsb.kept (hk0.of hk6))).mono ?_
 rintro e w7 ⟨r2,rfl,o2,hk7⟩
 have o1':=qA3 o1 hk7
 have s2:=Sl.of_own o2
 have hz7 : w0.heap.size ≤ w7.heap.size:=Nat.le_trans hk6.size hk7.size
 go_wp2_with (at_builtin;refine qAv qJh rfl (by rfl) (by rfl) (by rfl) o1' s2 (by rw [qEh,qBM]) (qI0 _) (by unfold maxLen;omega) (by omega) hz7 ?_;intro v8 w8 o8 hg8 hat8;refine hold ?_)
 have hk8 : qA4 w0 w8:=qAD (hk6.of hk7) o1' hg8 hz7
 rw [← qCT] at o8
 clear hg8 hat8 o1' o1 o2 s2 hk6 hk7 hz7
 unfold qRo
 have hk9 : qA4 w8 (w8.alloc (.cells #[.int .u64 (H : Int),.int .u64 (B : Int)] 115)):=qal _
 have o9:=qA3 o8 hk9
 have hL9:=Sl.lit w8 #[.int .u64 (H : Int),.int .u64 (B : Int)] 115 1 (by decide)
 have hka:=qA4.of hk8 hk9
 have hza:=hka.size
 clear hk8 hk9 o8
 go_wp2_with (at_builtin;refine qAv qJh rfl (by rfl) (by rfl) (by rfl) o9 hL9 (by rfl) (by intro u hu;simp at hu;rcases hu with rfl | rfl <;> rfl) (by unfold maxLen;omega) (by omega) hza ?_;intro va wa oa hga hata;refine hold ?_)
 have hkb : qA4 w0 wa:=qAD hka o9 hga hza
 have sa : Sl wa va (qOa head bytes).length (qAz (qOa head bytes)):=by
  have e1 : (qOa head bytes).length = nP head.length + nP bytes.length + 1:=by simp [qOa,qBM];omega
  have e2 : qAz (qCj head ++ qCj bytes) ++ #[.int .u64 (H : Int),.int .u64 (B : Int)].toList = qAz (qOa head bytes):=by
   unfold qOa
   rw [qCT (qCj head ++ qCj bytes),qGG,← HH.out,← HB.out,← qHn H (by omega),← qHn B (by omega)]
  rw [e1,← e2]
  exact Sl.of_own oa
 have htl : (qOa head bytes).length ≤ 1000:=by simp [qOa,qBM];omega
 replace hS:=hS.kept hkb
 replace hR:=hR.kept hkb
 replace hk0:=qA4.of hk0 hkb
 clear hga hata o9 hL9 hka hza oa hkb
 unfold qRo
 have q0:=hS.cell 0
 have q1:=hS.cell 1
 go_wp2_with fail
 refine (qET _ _ _ _ _).mono ?_
 rintro e w3 ⟨rfl,hk3⟩
 obtain ⟨E,hE⟩ : ∃ E,E = qKQ (s1,s2) (0#64,1#64):=⟨_,rfl⟩
 rw [← hE]
 have HE:=qh hE
 clear hE
 have hT:=Blk.new w3 #[U E.1,U E.2] 115
 have hk4 : qA4 wa (w3.alloc (.cells #[U E.1,U E.2] 115)):=qA4.of hk3 (qal _)
 replace hS:=hS.kept hk4
 replace hR:=hR.kept hk4
 replace hk0:=qA4.of hk0 hk4
 replace sa:=sa.kept hk4
 clear hk3 hk4 q0 q1
 go_wp2_with fail
 generalize w3.alloc (.cells #[U E.1,U E.2] 115) = w5 at *
 refine qA5 [(0,0),(1,0),(3,0),(4,0),(2,1),(5,1),(6,1),(7,2)] (by kernel_rfl) (by kernel_rfl) ?_
 intro wb hwb
 replace hS:=hS.kept hwb
 replace hT:=hT.kept hwb
 replace hR:=hR.kept hwb
 repeat
  refine qA0 _ rfl (fun K hK=>?_)
  first
   | (refine qqP (by rfl) ?_;apply Exists.intro;refine ⟨fun w' hw'=>?_,hK _ ?_⟩;(have c:=hS.kept hw';have c0:=c.cell 0;have c1:=c.cell 1;have d:=hT.kept hw';have d0:=d.cell 0;have d1:=d.cell 1;clear c d;go_simp;first|done|rfl))
   | refine qqN (by rfl) (hK _ ?_)
  clear hK K;simp only [Act.put,qqB]
 refine qqH _ rfl (by rfl) (fun K hK=>?_)
 go_wp2_with fail
 refine (qPG _ _ _ _ htl (sa.kept hwb)).mono ?_
 rintro e wc ⟨rfl,hkc⟩
 replace hR:=hR.kept hkc
 go_wp2
 refine hK _ _ (hkc) ?_
 clear hK K
 try simp only [Act.put,qqB]
 refine qqH _ rfl (by rfl) (fun K hK=>?_)
 go_wp2_with fail
 refine (qET _ _ _ _ _).mono ?_
 rintro e wd ⟨rfl,hkd⟩
 replace hR:=hR.kept hkd
 go_wp2
 refine hK _ _ (hkd) ?_
 clear hK K
 try simp only [Act.put,qqB]
 refine qqH _ rfl (by rfl) (fun K hK=>?_)
 go_wp2_with fail
 refine (qJb _ _ _ _ _).mono ?_
 rintro e we ⟨rfl,hke⟩
 replace hR:=hR.kept hke
 go_wp2
 refine hK _ _ (hke) ?_
 clear hK K
 try simp only [Act.put,qqB]
 refine qAh _ rfl (fun K hK=>?_)
 refine qqP (by rfl) ?_
 have r0:=hR.cell 0
 have r1:=hR.cell 1
 have rf0:=hR.free 0
 have rf1:=hR.free 1
 go_wp2
 refine qA7 ?_
 have hkz:=(((hk0.of hwb).of hkc).of hkd).of hke
 go_wp2
 refine bodyPost_ret (v:=Pr (qLT (s1,s2) head bytes)) (by simp [results,results90,go_sem,r0,r1,qLT,← HE.out];done) rfl ⟨rfl,?_⟩
 exact (hkz.setCell (by show _ ≤ w.heap.size + 1;omega) _).setCell (by show _ ≤ w.heap.size + 1;omega) _
end Go.Proofs.YtdlgihbpiakebaaGreat
