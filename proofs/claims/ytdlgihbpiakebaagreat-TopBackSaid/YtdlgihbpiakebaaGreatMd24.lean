import Derived.Test.YtdlgihbpiakebaaGreatMd05
import Derived.Test.YtdlgihbpiakebaaGreatMd06
import Derived.Test.YtdlgihbpiakebaaGreatMd07
import Derived.Test.YtdlgihbpiakebaaGreatMd13
import Derived.Lib.SliceRun
set_option maxRecDepth 100000
set_option maxHeartbeats 4000000
namespace Go.Proofs.YtdlgihbpiakebaaGreat
open Go Go.RowKit Tryz
theorem qHh : SlT prog 74 94 1 4 (.int .u32 0):=SlT.mk' underlying74 (by kernel_rfl) rfl (by omega)
@[go_sem] theorem qRx (t : TypeId) (x y : BitVec 32) : binOp .lss t (W x) (W y) = pure (.bool (decide (x < y))):=(binOp_lss ..).trans (by congr 2;simp [BitVec.lt_def])
theorem qKe (t : TypeId) (x y : BitVec 32) : binOp .add t (W x) (W y) = pure (W (x + y)):=by
 refine (binOp_add ..).trans ?_
 show pure (Value.int .u32 (IntKind.u32.wrap _)) = _
 rw [qH8,W,BitVec.toNat_add];congr 2
theorem qGH (e below now : BitVec 32) (B1 B2 : Nat) (w : World) (h1 : w.cell? ⟨B1,0,none⟩ = some (W below)) (h2 : w.cell? ⟨B2,0,none⟩ = some (W now)) : Calls prog 151 #[W e,.pointer (some ⟨B1,0,none⟩),.pointer (some ⟨B2,0,none⟩)] w fun e' w'=>e' = .returned (.bool (gone below now e)) ∧ w = w':=by
 unfold gone
 cases hl : decide (e < below)
 · go_enter func151,ntmps151
   go_wp2
   go_ret
   exact ⟨rfl,rfl⟩
 · go_enter func151,ntmps151
   go_wp2
   go_ret
   exact ⟨rfl,rfl⟩
theorem qMj (a : Option Addr) (cap : Nat) (l : List (BitVec 32)) (x : BitVec 32) (hl : l.length ≤ 100000) (w : World) (hs : Sl w (.slice a l.length cap) l.length (qB9 l)) : Calls prog 183 #[.slice a l.length cap,W x] w fun e w'=>∃ n : Int,e = .returned (.int .i64 n) ∧ decide (0 ≤ n) = l.contains x ∧ w = w':=by
 obtain ⟨L,hL⟩ : ∃ L,L = l.length:=⟨_,rfl⟩
 rw [← hL] at hs hl ⊢
 have i0 : (L : Int) ≤ 100000:=by omega
 have HL:=qh hL
 clear hL
 go_enter func183,ntmps183
 go_wp2_with fail
 go_loopw [8] (fun i wr=>∃ k : Nat,k ≤ L ∧ i = .int .i64 k ∧ (l.take k).contains x = false ∧ w = wr) (fun i _=>L - (intOf i).toNat)
 case atStart=>exact ⟨0,by omega,rfl,by simp,rfl⟩
 case round =>
  obtain ⟨k,hk,rfl,hc,rfl⟩:=hrel
  by_cases hlt : k < L
  · obtain ⟨b,off,cap',e',_,_,_,hx⟩:=hs.at (by rw [qBL,← HL.out];omega)
    cases e'
    have hkl : k < l.length:=by rw [← HL.out];exact hlt
    obtain ⟨y,hy⟩ : ∃ y,y = l[k]:=⟨_,rfl⟩
    have c0:=hx k (W y) (by rw [hy];exact qDE l k hkl)
    have hts : l.take (k + 1) = l.take k ++ [y]:=by rw [List.take_succ_eq_append_getElem hkl,hy]
    have n3 : (k : Int) < (L : Int):=by omega
    have n4 : (0 : Int) ≤ (k : Int):=by omega
    have HC:=qh hc
    have HY:=qh hy
    have HTS:=qh hts
    have HX:=qh hx
    clear hc hy hts hx
    cases hxy : (x == y)
    · go_wp2
      refine ⟨⟨k + 1,by omega,by go_num,?_,trivial⟩,by simp [intOf];omega⟩
      rw [HTS.out]
      simp only [List.contains_append,HC.out,Bool.false_or]
      simpa using hxy
    · have hxy' : x = y:=by simpa using hxy
      have HXY:=qh hxy'
      clear hxy'
      go_wp2
      try rw [Exit.noGoto_ret]
      go_ret
      refine ⟨_,rfl,?_,rfl⟩
      have hmem : x ∈ l:=by rw [HXY.out,HY.out];exact List.getElem_mem hkl
      have : decide ((0 : Int) ≤ (k : Int)) = true:=decide_eq_true (by omega)
      rw [this]
      simpa using hmem
  · have : k = L:=by omega
    have HK:=qh this
    have HC:=qh hc
    clear this hc
    go_wp2
    go_ret
    refine ⟨_,rfl,?_,rfl⟩
    have:=HC.out
    rw [List.take_of_length_le (by rw [HK.out,HL.out];exact Nat.le_refl _)] at this
    rw [this];rfl
theorem qIc (a : Option Addr) (cap : Nat) (l : List (BitVec 32)) (x : BitVec 32) (hl : l.length ≤ 100000) (w : World) (hs : Sl w (.slice a l.length cap) l.length (qB9 l)) : Calls prog 169 #[.slice a l.length cap,W x] w fun e w'=>e = .returned (.bool (l.contains x)) ∧ w = w':=by
 go_enter func169,ntmps169
 go_wp2_with fail
 refine (qMj _ _ _ _ hl _ hs).mono ?_
 rintro e w' ⟨n,rfl,hn,rfl⟩
 have HN:=qh hn
 clear hn
 go_wp2
 go_ret
 refine ⟨?_,rfl⟩
 show Ending.returned (Value.bool (decide (0 ≤ n))) = _
 rw [HN.out]
theorem qL1 (v : Value) (l : List (BitVec 32)) (h0 : 0 < l.length) (hl : l.length ≤ 100000) (w : World) (hs : Sl w v l.length (qB9 l)) : Calls prog 32 #[v] w fun e w'=>∃ r,e = .returned r ∧ w'.ownsRow w.heap.size 94 1 r l.length (qB9 l) ∧ qA4 w w':=by
 obtain ⟨b,off,cap,e',_,_,_,hx⟩:=hs.at (by rw [qBL];exact h0)
 subst e'
 have hnil:=fun (wx : World) a n c=>Lib.run_eql_slice_nil (P:=prog) wx 74 94 a n c 0 0 underlying74
 have hk0 : qA4 w (w.alloc (.cells #[] 94)):=qal _
 have ho : (w.alloc (.cells #[] 94)).ownsRow w.heap.size 94 1 (.slice (some ⟨w.heap.size,0,none⟩) 0 0) 0 (qB9 []):=⟨rfl,.inr ⟨w.heap.size,0,#[],rfl,Nat.le_refl _,Blk.new w _ _,Nat.le_refl _,Nat.zero_le _,rfl,rfl⟩⟩
 go_enter func32,ntmps32
 go_wp2_with (at_builtin;refine qAv qHh rfl (by rfl) (by rfl) (by rfl) ho (hs.kept hk0) (by simp [qB9]) (qI4 l) (by unfold maxLen;omega) (by omega) (by simp) ?_;intro v0 w1 hown1 hg1 hat1)
 go_ret
 refine ⟨_,rfl,?_,qAD hk0 ho hg1 (by simp)⟩
 simpa [qB9] using hown1
theorem qL2 (below now : BitVec 32) (B1 B2 : Nat) (a : Option Addr) (cap : Nat) (l : List (BitVec 32)) (hl : l.length ≤ 100000) (w : World) (h1 : w.cell? ⟨B1,0,none⟩ = some (W below)) (h2 : w.cell? ⟨B2,0,none⟩ = some (W now)) (hs : Sl w (.slice a l.length cap) l.length (qB9 l)) :
 Calls prog 178 #[.slice a l.length cap,.func (.func 151) #[] #[.pointer (some ⟨B1,0,none⟩),.pointer (some ⟨B2,0,none⟩)]] w fun e w'=>((e = .returned (.int .i64 (-1)) ∧ ∀ x ∈ l,gone below now x = false) ∨ (∃ k : Nat,e = .returned (.int .i64 k) ∧ k < l.length ∧ (∀ x ∈ l.take k,gone below now x = false) ∧ ∀ x,l[k]? = some x → gone below now x = true)) ∧ w = w':=by
 obtain ⟨L,hL⟩ : ∃ L,L = l.length:=⟨_,rfl⟩
 rw [← hL] at hs hl ⊢
 have i0 : (L : Int) ≤ 100000:=by omega
 have HL:=qh hL
 clear hL
 go_enter func178,ntmps178
 go_wp2_with fail
 go_loopw [8] (fun i wr=>∃ k : Nat,k ≤ L ∧ i = .int .i64 k ∧ (∀ x ∈ l.take k,gone below now x = false) ∧ w = wr) (fun i _=>L - (intOf i).toNat)
 case atStart=>exact ⟨0,by omega,rfl,by simp,rfl⟩
 case round =>
  obtain ⟨k,hk,rfl,hc,rfl⟩:=hrel
  by_cases hlt : k < L
  · obtain ⟨b,off,cap',e',_,_,_,hx⟩:=hs.at (by rw [qBL,← HL.out];omega)
    cases e'
    have hkl : k < l.length:=by rw [← HL.out];exact hlt
    obtain ⟨y,hy⟩ : ∃ y,y = l[k]:=⟨_,rfl⟩
    have c0:=hx k (W y) (by rw [hy];exact qDE l k hkl)
    have hts : l.take (k + 1) = l.take k ++ [y]:=by rw [List.take_succ_eq_append_getElem hkl,hy]
    have n3 : (k : Int) < (L : Int):=by omega
    have n4 : (0 : Int) ≤ (k : Int):=by omega
    have HC:=qh hc
    have HY:=qh hy
    have HTS:=qh hts
    have HX:=qh hx
    clear hc hy hts hx
    go_wp2_with fail
    refine (qGH y below now B1 B2 _ h1 h2).mono ?_
    rintro e w' ⟨rfl,rfl⟩
    cases hg : gone below now y
    · have HG:=qh hg
      clear hg
      go_wp2
      refine ⟨⟨k + 1,by omega,by go_num,?_,trivial⟩,by simp [intOf];omega⟩
      rw [HTS.out]
      intro z hz
      rcases List.mem_append.1 hz with hz | hz
      · exact HC.out z hz
      · rw [List.mem_singleton.1 hz];exact HG.out
    · have HG:=qh hg
      clear hg
      go_wp2
      try rw [Exit.noGoto_ret]
      go_ret
      refine ⟨.inr ⟨k,rfl,hlt,HC.out,fun z hz=>?_⟩,rfl⟩
      rw [List.getElem?_eq_getElem hkl,← HY.out] at hz
      cases hz
      exact HG.out
  · have : k = L:=by omega
    have HK:=qh this
    have HC:=qh hc
    clear this hc
    go_wp2
    go_ret
    refine ⟨.inl ⟨rfl,fun x hx=>HC.out x ?_⟩,rfl⟩
    rw [List.take_of_length_le (by rw [HK.out,HL.out];exact Nat.le_refl _)]
    exact hx
theorem qD9 (below now : BitVec 32) (l : List (BitVec 32)) (j : Nat) (h : j < l.length) (hg : gone below now l[j] = true) : (l.take (j + 1)).filter (fun e=>!gone below now e) = (l.take j).filter (fun e=>!gone below now e):=by
 rw [List.take_succ_eq_append_getElem h,List.filter_append];simp [hg]
theorem qFr (below now : BitVec 32) (l : List (BitVec 32)) (j : Nat) (h : j < l.length) (hg : gone below now l[j] = false) : (l.take (j + 1)).filter (fun e=>!gone below now e) = (l.take j).filter (fun e=>!gone below now e) ++ [l[j]]:=by
 rw [List.take_succ_eq_append_getElem h,List.filter_append];simp [hg]
theorem qDk (below now : BitVec 32) (l : List (BitVec 32)) (h : ∀ x ∈ l,gone below now x = false) : l.filter (fun e=>!gone below now e) = l:=by
 rw [List.filter_eq_self];intro a ha;rw [h a ha];rfl
def Mid (w : World) (g : Nat) (cap : Nat) (orig : List Value) (i j : Nat) (A : List (BitVec 32)) : Prop :=
 ∃ C : List Value,Blk w g C.toArray 94 ∧ C.length = cap ∧ C.take i = qB9 A ∧ C.drop j = orig.drop j
theorem Mid.step {w : World} {g cap : Nat} {orig : List Value} {i j : Nat} {A : List (BitVec 32)} (h : Mid w g cap orig i j A) (hij : i ≤ j) (hj : j < cap) (y : BitVec 32) : Mid (w.setCell ⟨g,i,none⟩ (W y)) g cap orig (i + 1) (j + 1) (A ++ [y]):=by
 obtain ⟨C,hC,hl,ht,hd⟩:=h
 refine ⟨C.set i (W y),by simpa using Blk.set hC i (W y),by rw [List.length_set,hl],?_,?_⟩
 · rw [List.take_succ_eq_append_getElem (by rw [List.length_set];omega),List.getElem_set_self,List.take_set_of_le qle,ht,qEi];rfl
 · rw [List.drop_set_of_lt (by omega),← List.drop_drop,← List.drop_drop,hd]
theorem Mid.skip {w : World} {g cap : Nat} {orig : List Value} {i j : Nat} {A : List (BitVec 32)} (h : Mid w g cap orig i j A) : Mid w g cap orig i (j + 1) A:=by
 obtain ⟨C,hC,hl,ht,hd⟩:=h
 refine ⟨C,hC,hl,ht,?_⟩
 rw [← List.drop_drop,← List.drop_drop,hd]
theorem Mid.read {w : World} {g cap : Nat} {orig : List Value} {i j : Nat} {A : List (BitVec 32)} (h : Mid w g cap orig i j A) {v : Value} (hv : orig[j]? = some v) : w.cell? ⟨g,j,none⟩ = some v:=by
 obtain ⟨C,hC,hl,ht,hd⟩:=h
 have : C[j]? = some v:=by
  have h1 : (C.drop j)[0]? = (orig.drop j)[0]?:=by rw [hd]
  rw [List.getElem?_drop,List.getElem?_drop,Nat.add_zero] at h1
  rw [h1,hv]
 have hj : j < C.length:=(List.getElem?_eq_some_iff.1 this).1
 rw [Blk.cell hC j]
 simpa using this
theorem Mid.free {w : World} {g cap : Nat} {orig : List Value} {i j : Nat} {A : List (BitVec 32)} (h : Mid w g cap orig i j A) (o : Nat) : w.frozen? ⟨g,o,none⟩ = false:=by
 obtain ⟨C,hC,hl,ht,hd⟩:=h
 exact Blk.free hC o
theorem Mid.cell {w : World} {g cap : Nat} {orig : List Value} {i j : Nat} {A : List (BitVec 32)} (h : Mid w g cap orig i j A) (o : Nat) (ho : o < cap) : (w.cell? ⟨g,o,none⟩).isSome = true:=by
 obtain ⟨C,hC,hl,ht,hd⟩:=h
 rw [Blk.cell hC o]
 simpa [hl] using ho
theorem Mid.clear {w : World} {g cap : Nat} {orig : List Value} {i j : Nat} {A : List (BitVec 32)} (h : Mid w g cap orig i j A) (hA : A.length = i) (m : Nat) (him : i + m ≤ cap) (hm : cap ≤ maxLen) (z : Value) :
 (w.setCells g i (List.replicate m z)).ownsRow 0 94 1 (.slice (some ⟨g,0,none⟩) i cap) i (qB9 A) ∧ Chg [g] w (w.setCells g i (List.replicate m z)):=by
 obtain ⟨C,hC,hl,ht,hd⟩:=h
 obtain ⟨h1,h2⟩:=qFc (List.replicate m z) C i w hC (by simp;omega)
 refine ⟨⟨by rw [qBL,hA,Nat.mul_one],.inr ⟨g,cap,_,rfl,Nat.zero_le _,h1,by omega,hm,?_,?_⟩⟩,h2⟩
 · simp;omega
 · simp only [Nat.mul_one]
   rw [List.append_assoc,List.take_append_of_le_length (by simp;omega),List.take_take,Nat.min_self,ht]
theorem qJn (below now : BitVec 32) (B1 B2 g cap : Nat) (l : List (BitVec 32)) (hl : l.length ≤ 100000) (w : World) (h1 : w.cell? ⟨B1,0,none⟩ = some (W below)) (h2 : w.cell? ⟨B2,0,none⟩ = some (W now)) (d1 : B1 ≠ g) (d2 : B2 ≠ g)
 (hs : w.ownsRow 0 94 1 (.slice (some ⟨g,0,none⟩) l.length cap) l.length (qB9 l)) :
 Calls prog 150 #[.slice (some ⟨g,0,none⟩) l.length cap,.func (.func 151) #[] #[.pointer (some ⟨B1,0,none⟩),.pointer (some ⟨B2,0,none⟩)]] w fun e w'=>e = .returned (.slice (some ⟨g,0,none⟩) (l.filter fun e=>!gone below now e).length cap) ∧
  w'.ownsRow 0 94 1 (.slice (some ⟨g,0,none⟩) (l.filter fun e=>!gone below now e).length cap) (l.filter fun e=>!gone below now e).length (qB9 (l.filter fun e=>!gone below now e)) ∧ Chg [g] w w':=by
 have hsl : Sl w (.slice (some ⟨g,0,none⟩) l.length cap) l.length (qB9 l):=Sl.of_own hs
 obtain ⟨R,hR⟩ : ∃ R,R = l.filter fun e=>!gone below now e:=⟨_,rfl⟩
 rw [← hR]
 go_enter func150,ntmps150
 go_wp2_with fail
 refine (qL2 below now B1 B2 _ _ l hl _ h1 h2 hsl).mono ?_
 rintro e w' ⟨hcase,rfl⟩
 rcases hcase with ⟨rfl,hall⟩ | ⟨k,rfl,hk,hno,hyes⟩
 · have hf:=qDk below now l hall
   rw [hf] at hR
   clear hf hall
   subst hR
   go_wp2
   go_ret
   exact ⟨rfl,hs,Chg.refl _ _⟩
 · obtain ⟨L,hL⟩ : ∃ L,L = l.length:=⟨_,rfl⟩
   have hcap : cap ≤ maxLen:=by
    rcases hs.2 with ⟨h0,_⟩ | ⟨_,_,_,e',_,_,_,h,_⟩
    · cases h0
    · cases e';exact h
   obtain ⟨_,hs'⟩:=hs
   rcases hs' with ⟨h0,_⟩ | ⟨g',cap',cur,e',_,hblk,hnc,hcm,hcs,htake⟩
   · cases h0
   cases e'
   rw [Nat.mul_one] at hcs htake
   have hcurl : cur.toList.length = cap:=by simpa using hcs
   have horig : ∀ (j : Nat) (y : BitVec 32),l[j]? = some y → cur.toList[j]? = some (W y):=by
    intro j y hy
    obtain ⟨hj,rfl⟩:=List.getElem?_eq_some_iff.1 hy
    rw [← qDE l j hj,← htake,List.getElem?_take_of_lt hj]
   have hmid0 : Mid w g cap cur.toList k (k + 1) (l.take k):=by
    refine ⟨cur.toList,hblk,hcurl,?_,rfl⟩
    have:=congrArg (List.take k) htake
    rw [List.take_take,Nat.min_eq_left (by omega)] at this
    rw [this]
    simp [qB9,List.map_take]
   have hk0 : (l.take (k + 1)).filter (fun e=>!gone below now e) = l.take k:=by
    rw [qD9 below now l k hk (hyes _ (List.getElem?_eq_getElem hk)),qDk below now _ hno]
   have hlk : (l.take k).length = k:=by simp;omega
   simp only [← hL] at hl hk hnc hsl ⊢
   have i0 : (L : Int) ≤ 100000:=by omega
   have i1 : (k : Int) < L:=by omega
   have HL:=qh hL
   have HT:=qh htake
   have HC:=qh hcs
   have HR:=qh horig
   have HK0:=qh hk0
   have HLK:=qh hlk
   clear hL htake hcs horig hk0 hlk hyes hno hcurl
   have hch : Chg [g] w w:=Chg.refl _ _
   go_wp2_with fail
   go_loopw [5,6,7] (fun i j _ wr=>∃ (a b : Nat) (A : List (BitVec 32)),i = .int .i64 a ∧ j = .int .i64 b ∧ a < b ∧ b ≤ L ∧ A = (l.take b).filter (fun e=>!gone below now e) ∧ A.length = a ∧ Mid wr g cap cur.toList a b A ∧ Chg [g] w wr) (fun _ j _ _=>L - (intOf j).toNat)
   case atStart=>exact ⟨k,k + 1,l.take k,rfl,by go_num,by omega,by omega,HK0.out.symm,HLK.out,hmid0,hch⟩
   case round =>
    obtain ⟨a,b,A,rfl,rfl,hab,hbL,hA,hAl,hmid,hchg⟩:=hrel
    have n1 : (a : Int) < b:=by omega
    have n2 : (0 : Int) ≤ a:=by omega
    have hA':=qh hA
    have hAl':=qh hAl
    clear hA hAl hmid0 hch
    have c1:=hchg.cell h1 (by simpa using d1)
    have c2:=hchg.cell h2 (by simpa using d2)
    by_cases hlt : b < L
    · have n3 : (b : Int) < L:=by omega
      have hbl : b < l.length:=by rw [← HL.out];exact hlt
      obtain ⟨y,hy⟩ : ∃ y,y = l[b]:=⟨_,rfl⟩
      have r0:=hmid.read (HR.out b y (by rw [hy];exact List.getElem?_eq_getElem hbl))
      have f0:=hmid.free a
      obtain ⟨u0,s0⟩:=Option.isSome_iff_exists.1 (hmid.cell a (by omega))
      have HY:=qh hy
      clear hy
      go_wp2_with fail
      refine (qGH y below now B1 B2 _ c1 c2).mono ?_
      rintro e w' ⟨rfl,rfl⟩
      cases hg : gone below now y
      · have HG:=qh hg
        clear hg
        go_wp2
        refine ⟨⟨_,_,_,_,_,_,_,_,_,_,_,_,_,_,_,_,_,_,_,_,_,_,_,⟨a + 1,b + 1,A ++ [y],by go_num,by go_num,by omega,by omega,?_,by simp [hAl'.out],hmid.step (by omega) (by omega) y,hchg.set qsm a _⟩,rfl⟩,by simp [intOf];omega⟩
        rw [qFr below now l b hbl (by rw [← HY.out];exact HG.out),← hA'.out,← HY.out]
      · have HG:=qh hg
        clear hg
        go_wp2
        refine ⟨⟨_,_,_,_,_,_,_,_,_,_,_,_,_,_,_,_,_,_,_,_,_,_,_,⟨a,b + 1,A,rfl,by go_num,by omega,by omega,?_,hAl'.out,hmid.skip,hchg⟩,rfl⟩,by simp [intOf];omega⟩
        rw [qD9 below now l b hbl (by rw [← HY.out];exact HG.out),← hA'.out]
    · have hbe : b = L:=by omega
      have HBE:=qh hbe
      clear hbe
      have haL : a < L:=by omega
      have hz32 : ∀ wx : World,(zeroValue 94).run prog wx = .ok (.int .u32 0) wx:=fun wx=>by
       obtain ⟨i,hi,hz,_,_⟩:=qHh.info
       simp [zeroValue,typeInfo,hi,hz]
      have hclr:=Lib.run_clear_slice (P:=prog) wr 74 94 0 (.int .u32 0) underlying74 hz32 rfl rfl g a (L - a) (cap - a) (by omega) (fun j hj=>hmid.cell _ (by omega)) (fun j _=>hmid.free _)
      obtain ⟨q1,q2⟩:=hmid.clear hAl'.out (L - a) (by omega) hcap (.int .u32 0)
      generalize hw2 : wr.setCells g a (List.replicate (L - a) (.int .u32 0)) = w2 at *
      have hAR : A = R:=by rw [hA'.out,hR,HBE.out,HL.out,List.take_length]
      rw [hAR] at q1
      have haR : R.length = a:=by rw [← hAR,hAl'.out]
      have HaR:=qh haR
      have HAR:=qh hAR
      have n5 : (a : Int) ≤ L:=by omega
      have n6 : (L : Int) ≤ cap:=by omega
      clear haR hAR hw2
      go_wp2
      go_ret
      rw [HaR.out]
      exact ⟨rfl,q1,hchg.trans q2⟩
end Go.Proofs.YtdlgihbpiakebaaGreat
