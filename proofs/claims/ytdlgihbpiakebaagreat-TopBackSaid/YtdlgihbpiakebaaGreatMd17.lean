import Derived.Test.YtdlgihbpiakebaaGreatMd06
import Derived.Test.YtdlgihbpiakebaaGreatMd07
import Derived.Test.YtdlgihbpiakebaaGreatMd08
import Derived.Test.YtdlgihbpiakebaaGreatMd09
import Derived.Test.YtdlgihbpiakebaaGreatMd14
import Derived.Test.YtdlgihbpiakebaaGreatMd16
set_option maxRecDepth 100000
set_option maxHeartbeats 4000000
namespace Go.Proofs.YtdlgihbpiakebaaGreat
open Go Go.RowKit Tryz
theorem qJh : SlT prog 198 115 2 16 (.agg #[.int .u64 0,.int .u64 0]):=SlT.mk' underlying198 (by kernel_rfl) rfl (by omega)
def qRN : Value → Nat | .slice _ n _=>n | _=>0
theorem qGG (p : qAB) : qAz [p] = [U p.1,U p.2]:=by simp [qAz]
theorem qIb (v : Value) (bs : List UInt8) (hl : bs.length ≤ 5000) (w : World) (hb : Sl w v bs.length (qA1 bs)) :
 Calls prog 129 #[v] w fun e w'=>∃ r,e = .returned r ∧ w'.ownsRow w.heap.size 115 2 r (nP bs.length) (qAz (qCj bs)) ∧ qA4 w w':=by
 obtain ⟨va,vc,hv⟩:=hb.len
 subst hv
 obtain ⟨N,hN⟩ : ∃ N,N = bs.length:=⟨_,rfl⟩
 rw [← hN] at hl
 have hb0 : Sl w (.slice va N vc) (bs.drop (16 * 0)).length (qA1 (bs.drop (16 * 0))):=by rw [hN];exact hb
 rw [← hN]
 have HN:=qh hN
 clear hN hb
 obtain ⟨Z,hZ⟩ : ∃ Z,Z = List.replicate 16 (0 : UInt8):=⟨_,rfl⟩
 have HZ:=qh hZ
 clear hZ
 go_enter func129,ntmps129
 go_wp2_with fail
 go_loopw [0,3] (fun bv lv wr=>∃ k : Nat,k ≤ nP N ∧ Sl w bv (bs.drop (16 * k)).length (qA1 (bs.drop (16 * k))) ∧ wr.ownsRow w.heap.size 115 2 lv k (qAz ((qCj bs).take k)) ∧ qA4 w wr) (fun bv _ _=>qRN bv)
 case atStart=>exact ⟨0,Nat.zero_le _,hb0,World.ownsRow_nil _ _ _ _,Below.refl _ _⟩
 case round =>
  obtain ⟨k,hk,hs,hown,hkw⟩:=hrel
  clear hb0
  obtain ⟨S,hS⟩ : ∃ S,S = bs.drop (16 * k):=⟨_,rfl⟩
  rw [← hS] at hs
  obtain ⟨ba,bc,eb⟩:=hs.len
  subst eb
  obtain ⟨n,hn⟩ : ∃ n,n = S.length:=⟨_,rfl⟩
  have hnk : n = N - 16 * k:=by rw [hn,hS,List.length_drop,HN.out]
  rw [← hn] at hs ⊢
  have HS:=qh hS
  have HNN:=qh hn
  have HNK:=qh hnk
  have hsz:=hkw.size
  clear hS hn hnk
  by_cases hlt : k < nP N
  · have j0 : (0 : Int) < (n : Int):=by have:=qPH _ _ hlt;have:=HNK.out;omega
    have hmk : (Instr.makeSlice 32 (.int .i64 16) (.int .i64 16)).run prog wr = .ok (.slice (some ⟨wr.heap.size,0,none⟩) 16 16) (wr.alloc (.cells (qA1 Z).toArray 5)):=by rw [HZ.out];exact qBR (P:=prog) wr qAw .i64 .i64 16 (by omega)
    have hB1:=Blk.new wr (qA1 Z).toArray 5
    have hk1 : qA4 wr (wr.alloc (.cells (qA1 Z).toArray 5)):=qal _
    have hs1:=hs.kept (hkw.of hk1)
    have ho1:=qA3 hown hk1
    obtain ⟨M,hM⟩ : ∃ M,M = min n 16:=⟨_,rfl⟩
    have HM:=qh hM
    clear hM
    go_wp2_with (refine qI5 (o:=⟨some 14,_,_,_,_,_⟩) qAw rfl (by rfl) (by rfl) (by rfl) hB1 hs1 (by rw [qA6,HNN.out]) (qAI _) (by rw [qA6,HZ.out,List.length_replicate];omega) ?_;intro w2 hB2 hc2;rw [← HM.out] at hB2 ⊢;refine hold ?_)
    have hrow : (bs.drop (16 * k)).take 16 = S.take M:=by
     rw [← HS.out]
     by_cases h16 : 16 ≤ n
     · congr 1;have:=HM.out;omega
     · rw [List.take_of_length_le (by rw [← HNN.out];omega),List.take_of_length_le (by rw [← HNN.out];have:=HM.out;omega)]
    have hBr : Blk w2 wr.heap.size (qA1 (qLS bs k)).toArray 5:=by
     have e : (qA1 Z).take 0 ++ (qA1 S).take M ++ (qA1 Z).drop (0 + M) = qA1 (qLS bs k):=by
      unfold qLS qRv
      rw [hrow,qBf,List.take_zero,List.nil_append,Nat.zero_add,qE2,qE3,HZ.out,List.drop_replicate,List.length_take,← HNN.out]
      congr 3
      have:=HM.out;omega
     rw [← e];exact hB2
    have hk2 : qA4 wr w2:=hk1.trans (hc2.below (B:=wr.heap.size) (by simp) (by simp))
    have hs2 : Sl w (.slice ba n bc) S.length (qA1 S):=by rw [← HNN.out];exact hs
    obtain ⟨v2,hcut,hs3⟩:=qKa (P:=prog) (w:=w) qAw hs2 (k:=M) (by rw [← HNN.out,HM.out];exact Nat.min_le_left _ _) .i64
    have hS3 : S.drop M = bs.drop (16 * (k + 1)):=by
     rw [HS.out,List.drop_drop]
     by_cases h16 : 16 ≤ n
     · congr 1;have:=HM.out;omega
     · have e1:=HM.out
       have e2:=HNK.out
       rw [List.drop_of_length_le (by rw [← HN.out];omega),List.drop_of_length_le (by rw [← HN.out];omega)]
    rw [hS3] at hs3
    have hrl : (qLS bs k).length = 16:=qJe bs k
    have hsr : Sl w2 (.slice (some ⟨wr.heap.size,0,none⟩) 16 16) (qLS bs k).length (qA1 (qLS bs k)):=by
     rw [hrl]
     exact Sl.of_own (qCv 16 (by decide) 5 (qLS bs k) hrl hBr qle)
    obtain ⟨v2a,v2c,hv2⟩:=hs3.len
    subst hv2
    obtain ⟨q,hq⟩ : ∃ q,q = (bs.drop (16 * (k + 1))).length:=⟨_,rfl⟩
    rw [← hq] at hs3 hcut
    have HQ:=qh hq
    have HRL:=qh hrl
    have HCU:=qh hS3
    have ho2:=qA3 hown hk2
    have hkw2:=qA4.of hkw hk2
    clear hq hrl hS3 hs2 hmk hB1 hk1 hs1 ho1 hc2 hB2 hBr hrow hown hs hk2
    unfold qRo
    go_wp2_with fail
    refine (qCh _ (qLS bs k) _ hsr HRL.out).mono ?_
    rintro e w3 ⟨rfl,hk3⟩
    obtain ⟨X,hX⟩ : ∃ X,X = qAq (qLS bs k):=⟨_,rfl⟩
    rw [← hX]
    have HX:=qh hX
    clear hX
    have hP:=Blk.new w3 #[U X.1,U X.2] 115
    have hk4 : qA4 w2 (w3.alloc (.cells #[U X.1,U X.2] 115)):=qA4.of hk3 (qal _)
    have p0:=hP.cell 0
    have p1:=hP.cell 1
    replace ho2:=qA3 ho2 hk4
    replace hkw2:=qA4.of hkw2 hk4
    have hk5 : qA4 (w3.alloc (.cells #[U X.1,U X.2] 115)) ((w3.alloc (.cells #[U X.1,U X.2] 115)).alloc (.cells #[U X.1,U X.2] 115)):=qal _
    replace ho2:=qA3 ho2 hk5
    replace hkw2:=qA4.of hkw2 hk5
    have hz2:=hkw2.size
    have hkb : k ≤ 400:=by have:=qPH _ _ hlt;omega
    have hL : Sl ((w3.alloc (.cells #[U X.1,U X.2] 115)).alloc (.cells #[U X.1,U X.2] 115)) (.slice (some ⟨w3.heap.size + 1,0,none⟩) 1 1) 1 [U X.1,U X.2]:=by simpa using Sl.lit (w3.alloc (.cells #[U X.1,U X.2] 115)) #[U X.1,U X.2] 115 1 (by decide)
    clear hsr hk3 hk4 hk5
    go_wp2_with (at_builtin;refine qAv qJh rfl (by rfl) (by rfl) (by rfl) ho2 hL (by rfl) (by intro u hu;simp at hu;rcases hu with rfl | rfl <;> rfl) (by unfold maxLen;omega) (by omega) hz2 ?_;intro v6 w6 hown6 hg6 hat6)
    refine ⟨⟨k + 1,by omega,by rw [← HQ.out];exact hs3,?_,qAD hkw2 ho2 hg6 hz2⟩,?_⟩
    · rw [qJf bs k (by rw [← HN.out];omega),qCT,qGG,← HX.out]
      exact hown6
    · show q < n
      rw [HQ.out,List.length_drop,← HN.out,HNK.out]
      have:=qPH _ _ hlt
      omega
  · have hkN : k = nP N:=by omega
    have hn0 : n = 0:=by have:=qRL N k (by omega);have:=HNK.out;omega
    subst hn0
    have HK:=qh hkN
    clear hkN
    go_wp2
    go_ret
    refine ⟨_,rfl,?_,hkw⟩
    rw [← HK.out,show qAz (qCj bs) = qAz ((qCj bs).take k) by rw [List.take_of_length_le (by rw [qBM,← HN.out,HK.out];exact Nat.le_refl _)]]
    exact hown
theorem qAV (v : Value) (bs : List UInt8) (hl : bs.length ≤ 70000) (w : World) (h : Sl w v bs.length (qA1 bs)) :
 Calls prog 56 #[v] w fun e w'=>∃ r,e = .returned r ∧ w'.ownsRow w.heap.size 5 1 r bs.length (qA1 bs) ∧ qA4 w w':=by
 have hnil:=fun (wx : World) a n c=>Lib.run_eql_slice_nil (P:=prog) wx 32 5 a n c 0 0 underlying32
 rcases h.form with ⟨rfl,h0,h1⟩ | ⟨a,cap,hv⟩
 · rw [h0,h1]
   go_enter func56,ntmps56
   go_wp2
   go_ret
   exact ⟨_,rfl,World.ownsRow_nil _ _ _ _,Below.refl _ _⟩
 · subst hv
   have hk : qA4 w (w.alloc (.cells #[] 5)):=qal _
   have ho : (w.alloc (.cells #[] 5)).ownsRow w.heap.size 5 1 (.slice (some ⟨w.heap.size,0,none⟩) 0 0) 0 (qA1 []):=qCv 0 (by decide) 5 [] rfl (Blk.new _ _ _) qle
   have h2:=h.kept hk
   go_enter func56,ntmps56
   go_wp2_with (at_builtin;refine qAv qAw rfl (by rfl) (by rfl) (by rfl) ho h2 (by simp [qA1]) (qAI bs) (by unfold maxLen;omega) (by omega) (by simp) ?_;intro v' w1 hown1 hg1 hat1)
   go_ret
   exact ⟨_,rfl,by simpa [qA1] using hown1,qAD hk ho hg1 (by simp)⟩
end Go.Proofs.YtdlgihbpiakebaaGreat
