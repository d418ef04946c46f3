import Derived.Test.YtdlgihbpiakebaaGreatMd06
import Derived.Test.YtdlgihbpiakebaaGreatMd29
import Derived.Test.YtdlgihbpiakebaaGreatProg
import Derived.Lib.Hide
import Derived.IntWalk
set_option maxRecDepth 100000
set_option maxHeartbeats 4000000
namespace Go.Proofs.YtdlgihbpiakebaaGreat
open Go Go.RowKit Tryz
def gData (_ slot : Nat) : Nat:=slot * 32
def gLeaf (n area slot : Nat) : Nat:=n * 32 + area * (n * 64) + slot * 32
def gNode (n area i : Nat) : Nat:=n * 32 + area * (n * 64) + n * 32 + i * 16
def gRec (n i : Nat) : Nat:=n * 32 + 2 * (n * 64) + i * 60
def gSize (n : Nat) : Nat:=n * 32 + 2 * (n * 64) + 120
theorem qAm {n : Nat} (h : qDR (n : Int) = true) : n = 4 ∨ n = 8 ∨ n = 16:=by
 have:=qLa h;omega
theorem qE4 (n : Int) (w : World) : Calls prog 33 #[.int .i64 n] w fun e w'=>e = .returned (.bool (qDR n)) ∧ w = w':=by
 by_cases h4 : n = 4
 · subst h4
   go_enter func33,ntmps33
   go_wp2
   go_ret
   exact ⟨rfl,rfl⟩
 by_cases h8 : n = 8
 · subst h8
   go_enter func33,ntmps33
   go_wp2
   go_ret
   exact ⟨rfl,rfl⟩
 by_cases h16 : n = 16
 · subst h16
   go_enter func33,ntmps33
   go_wp2
   go_ret
   exact ⟨rfl,rfl⟩
 have e4 : (n == 4) = false:=by simpa using h4
 have e8 : (n == 8) = false:=by simpa using h8
 have e16 : (n == 16) = false:=by simpa using h16
 rw [show qDR n = false by simp [qDR,h4,h8,h16]]
 go_enter func33,ntmps33
 go_wp2
 go_ret
 exact ⟨rfl,rfl⟩
theorem qLc (n : Nat) (hn : qDR (n : Int) = true) (i many : Int) (w : World) : Calls prog 99 #[.agg #[.int .i64 (n : Int)],.int .i64 i,.int .i64 many] w fun e w'=>e = .returned (.bool (decide (0 ≤ i) && decide (i < many))) ∧ qA4 w w':=by
 have hk : qA4 w (w.alloc (.cells #[.int .i64 (n : Int)] 59)):=qal _
 have hb:=(Blk.new w #[.int .i64 (n : Int)] 59).cell 0
 by_cases h1 : 0 ≤ i
 · by_cases h2 : i < many
   · rw [show (decide (0 ≤ i) && decide (i < many)) = true by simp [h1,h2]]
     go_enter func99,ntmps99
     go_wp2_with fail
     refine (qE4 n _).mono ?_
     rintro e w1 ⟨rfl,rfl⟩
     rw [hn]
     go_wp2
     go_ret
     exact ⟨rfl,hk⟩
   · rw [show (decide (0 ≤ i) && decide (i < many)) = false by simp [h2]]
     have h2' : decide (i < many) = false:=by simpa using h2
     go_enter func99,ntmps99
     go_wp2_with fail
     refine (qE4 n _).mono ?_
     rintro e w1 ⟨rfl,rfl⟩
     rw [hn]
     go_wp2
     go_ret
     exact ⟨rfl,hk⟩
 · rw [show (decide (0 ≤ i) && decide (i < many)) = false by simp [h1]]
   have h1' : decide (0 ≤ i) = false:=by simpa using h1
   by_cases h2 : i < many
   · have h2' : decide (i < many) = true:=by simpa using h2
     go_enter func99,ntmps99
     go_wp2_with fail
     refine (qE4 n _).mono ?_
     rintro e w1 ⟨rfl,rfl⟩
     rw [hn]
     go_wp2
     go_ret
     exact ⟨rfl,hk⟩
   · have h2' : decide (i < many) = false:=by simpa using h2
     go_enter func99,ntmps99
     go_wp2_with fail
     refine (qE4 n _).mono ?_
     rintro e w1 ⟨rfl,rfl⟩
     rw [hn]
     go_wp2
     go_ret
     exact ⟨rfl,hk⟩
theorem qEY (n : Nat) (hn : qDR (n : Int) = true) (i many : Int) (h0 : 0 ≤ i) (h1 : i < many) (w : World) : Calls prog 99 #[.agg #[.int .i64 (n : Int)],.int .i64 i,.int .i64 many] w fun e w'=>e = .returned (.bool true) ∧ qA4 w w':=by
 have:=qLc n hn i many w
 rw [show (decide (0 ≤ i) && decide (i < many)) = true by simp [h0,h1]] at this
 exact this
theorem qIf (n : Nat) (hn : n ≤ 16) (w : World) : Calls prog 100 #[.agg #[.int .i64 (n : Int)]] w fun e w'=>e = .returned (.int .i64 ((n * 64 : Nat) : Int)) ∧ qA4 w w':=by
 have hk : qA4 w (w.alloc (.cells #[.int .i64 (n : Int)] 59)):=qal _
 have hb:=(Blk.new w #[.int .i64 (n : Int)] 59).cell 0
 have e1 : ((n * 64 : Nat) : Int) = (n : Int) * 64:=by omega
 rw [e1]
 have HE:=qh e1
 clear e1
 go_enter func100,ntmps100
 go_wp2
 go_ret
 exact ⟨rfl,hk⟩
theorem qIg (n : Nat) (hn : qDR (n : Int) = true) (s : Nat) (hs : s < n) (w : World) : Calls prog 154 #[.agg #[.int .i64 (n : Int)],.int .i64 s] w fun e w'=>e = .returned (.int .i64 (gData n s : Nat)) ∧ qA4 w w':=by
 have hk : qA4 w (w.alloc (.cells #[.int .i64 (n : Int)] 59)):=qal _
 have hB:=(Blk.new w #[.int .i64 (n : Int)] 59)
 have hb:=hB.cell 0
 have h16:=qAm hn
 have s16 : (s : Int) < 16:=by omega
 have e1 : ((gData n s : Nat) : Int) = (s : Int) * 32:=by unfold gData;omega
 rw [e1]
 have HE:=qh e1
 have H16:=qh h16
 clear e1 h16
 go_enter func154,ntmps154
 go_wp2_with fail
 generalize (w.alloc (.cells #[.int .i64 (n : Int)] 59)) = w0 at *
 refine (qEY n hn s n (by omega) (by omega) _).mono ?_
 rintro e w1 ⟨rfl,hk1⟩
 go_wp2
 go_ret
 exact ⟨rfl,qA4.of hk hk1⟩
theorem qFR (n : Nat) (hn : qDR (n : Int) = true) (a s : Nat) (ha : a < 2) (hs : s < n) (w : World) : Calls prog 105 #[.agg #[.int .i64 (n : Int)],.int .i64 a,.int .i64 s] w fun e w'=>e = .returned (.int .i64 (gLeaf n a s : Nat)) ∧ qA4 w w':=by
 have hk : qA4 w (w.alloc (.cells #[.int .i64 (n : Int)] 59)):=qal _
 have hB:=(Blk.new w #[.int .i64 (n : Int)] 59)
 have hb:=hB.cell 0
 have h16:=qAm hn
 have s16 : (s : Int) < 16:=by omega
 have n16 : (n : Int) ≤ 16:=by omega
 have a2 : (a : Int) < 2:=by omega
 obtain ⟨A,hA⟩ : ∃ A : Nat,A = n * 64:=⟨_,rfl⟩
 obtain ⟨M,hM⟩ : ∃ M : Nat,M = a * A:=⟨_,rfl⟩
 have hm : (a : Int) * (A : Int) = (M : Int):=by rw [hM];simp
 have hM2 : M ≤ 1024:=by rw [hM,hA];rcases h16 with rfl | rfl | rfl <;> omega
 have e1 : ((gLeaf n a s : Nat) : Int) = (n : Int) * 32 + (M : Int) + (s : Int) * 32:=by unfold gLeaf;rw [← hA,← hM];omega
 rw [e1]
 have w1 : IntKind.i64.wrap ((a : Int) * (A : Int)) = (M : Int):=by rw [hm];exact IntWalk.i64_in _ (by omega)
 have u1 : IntKind.i64.wrap ((n : Int) * 32) = (n : Int) * 32:=IntWalk.i64_in _ (by omega)
 have u2 : IntKind.i64.wrap (M : Int) = (M : Int):=IntWalk.i64_in _ (by omega)
 have u3 : IntKind.i64.wrap ((n : Int) * 32 + (M : Int)) = (n : Int) * 32 + (M : Int):=IntWalk.i64_in _ (by omega)
 have u4 : IntKind.i64.wrap ((s : Int) * 32) = (s : Int) * 32:=IntWalk.i64_in _ (by omega)
 have u5 : IntKind.i64.wrap ((n : Int) * 32 + (M : Int) + (s : Int) * 32) = (n : Int) * 32 + (M : Int) + (s : Int) * 32:=IntWalk.i64_in _ (by omega)
 have HE:=qh e1
 have H16:=qh h16
 have HA:=qh hA
 have HM:=qh hM
 clear e1 h16 hA hM
 go_enter func105,ntmps105
 go_wp2_with fail
 generalize (w.alloc (.cells #[.int .i64 (n : Int)] 59)) = w0 at *
 refine (qEY n hn a 2 (by omega) (by omega) _).mono ?_
 rintro e w1 ⟨rfl,hk1⟩
 have hb1:=hk1.at hb
 go_wp2_with fail
 refine (qEY n hn s n (by omega) (by omega) _).mono ?_
 rintro e w2 ⟨rfl,hk2⟩
 have hb2:=hk2.at hb1
 go_wp2_with fail
 refine qA5 [(0,0),(1,0),(2,0),(3,0),(4,0),(8,0),(9,0),(5,1),(6,0),(7,0),(10,0),(11,0)] (by kernel_rfl) (by kernel_rfl) ?_
 intro w3 hw3
 repeat
  refine qA0 _ rfl (fun K hK=>?_)
  first
   | (refine qqP (by rfl) ?_;apply Exists.intro;refine ⟨fun w' hw'=>?_,hK _ ?_⟩;(have q:=hw'.at (hw3.at hb2);go_simp;first|done|rfl))
   | refine qqN (by rfl) (hK _ ?_)
  clear hK K;simp only [Act.put,qqB]
 refine qqH _ rfl (by rfl) (fun K hK=>?_)
 go_wp2_with fail
 refine (qIf n (by omega) _).mono ?_
 rintro e w4 ⟨rfl,hk4⟩
 rw [← HA.out]
 go_wp2
 refine hK _ _ (hk4) ?_
 clear hK K
 try simp only [Act.put,qqB]
 repeat
  refine qA0 _ rfl (fun K hK=>?_)
  first
   | (refine qqP (by rfl) ?_;apply Exists.intro;refine ⟨fun w' hw'=>?_,hK _ ?_⟩;go_simp;first|done|rfl)
   | refine qqN (by rfl) (hK _ ?_)
  clear hK K;simp only [Act.put,qqB]
 refine qA7 ?_
 go_wp2
 go_ret
 exact ⟨rfl,qA4.of (qA4.of (qA4.of (qA4.of hk hk1) hk2) hw3) hk4⟩
theorem qJv (n : Nat) (hn : qDR (n : Int) = true) (a : Nat) (ha : a < 2) (w : World) : Calls prog 189 #[.agg #[.int .i64 (n : Int)],.func (.func 105) #[] #[],.int .i64 a] w fun e w'=>e = .returned (.int .i64 ((gLeaf n a (n - 1) + 32 : Nat) : Int)) ∧ qA4 w w':=by
 have hk : qA4 w (w.alloc (.cells #[.int .i64 (n : Int)] 59)):=qal _
 have hb:=(Blk.new w #[.int .i64 (n : Int)] 59).cell 0
 have h16:=qAm hn
 have n16 : (n : Int) ≤ 16:=by omega
 have n1 : 1 ≤ (n : Int):=by omega
 have hl : gLeaf n a (n - 1) ≤ 100000:=by
  unfold gLeaf
  have : a * (n * 64) ≤ 1 * (n * 64):=Nat.mul_le_mul_right _ (by omega)
  omega
 have e1 : ((gLeaf n a (n - 1) + 32 : Nat) : Int) = (gLeaf n a (n - 1) : Int) + 32:=by omega
 have e2 : ((n - 1 : Nat) : Int) = (n : Int) - 1:=by omega
 rw [e1]
 have HC:=qh (fun w=>qFR n hn a (n - 1) ha (by omega) w)
 have HE2:=qh e2
 generalize gLeaf n a (n - 1) = GL at *
 have HE:=qh e1
 have H16:=qh h16
 clear e1 h16 e2
 have hli : (GL : Int) ≤ 100000:=by omega
 go_enter func189,ntmps189
 go_wp2_with fail
 generalize (w.alloc (.cells #[.int .i64 (n : Int)] 59)) = w0 at *
 rw [← HE2.out]
 refine (HC.out _).mono ?_
 rintro e w1 ⟨rfl,hk1⟩
 go_wp2
 go_ret
 exact ⟨rfl,qA4.of hk hk1⟩
theorem qMx (n : Nat) (hn : qDR (n : Int) = true) (a i : Nat) (ha : a < 2) (hi : i < 2 * n) (w : World) : Calls prog 185 #[.agg #[.int .i64 (n : Int)],.int .i64 a,.int .i64 i] w fun e w'=>e = .returned (.int .i64 (gNode n a i : Nat)) ∧ qA4 w w':=by
 have hk : qA4 w (w.alloc (.cells #[.int .i64 (n : Int)] 59)):=qal _
 have hb:=(Blk.new w #[.int .i64 (n : Int)] 59).cell 0
 have h16:=qAm hn
 have n16 : (n : Int) ≤ 16:=by omega
 have n0 : 0 ≤ (n : Int):=by omega
 have i32 : (i : Int) < 32:=by omega
 have hl : gLeaf n a (n - 1) ≤ 100000:=by
  unfold gLeaf
  have : a * (n * 64) ≤ 1 * (n * 64):=Nat.mul_le_mul_right _ (by omega)
  omega
 have e1 : ((gNode n a i : Nat) : Int) = ((gLeaf n a (n - 1) + 32 : Nat) : Int) + (i : Int) * 16:=by unfold gNode gLeaf;omega
 rw [e1]
 have HC:=qh (fun w=>qJv n hn a ha w)
 have hl2 : gLeaf n a (n - 1) + 32 ≤ 200000:=by omega
 generalize gLeaf n a (n - 1) + 32 = GL at *
 have HE:=qh e1
 have H16:=qh h16
 clear e1 h16 hl
 have hli : (GL : Int) ≤ 200000:=by omega
 go_enter func185,ntmps185
 go_wp2_with fail
 generalize (w.alloc (.cells #[.int .i64 (n : Int)] 59)) = w0 at *
 refine (qEY n hn a 2 (by omega) (by omega) _).mono ?_
 rintro e w1 ⟨rfl,hk1⟩
 have hb1:=hk1.at hb
 go_wp2_with fail
 refine (qEY n hn i _ (by omega) (by omega) _).mono ?_
 rintro e w2 ⟨rfl,hk2⟩
 have hb2:=hk2.at hb1
 go_wp2_with fail
 refine (HC.out _).mono ?_
 rintro e w3 ⟨rfl,hk3⟩
 go_wp2
 go_ret
 exact ⟨rfl,qA4.of (qA4.of (qA4.of hk hk1) hk2) hk3⟩
theorem qKj (n : Nat) (hn : qDR (n : Int) = true) (i : Nat) (hi : i < 2) (w : World) : Calls prog 67 #[.agg #[.int .i64 (n : Int)],.int .i64 i] w fun e w'=>e = .returned (.int .i64 (gRec n i : Nat)) ∧ qA4 w w':=by
 have hk : qA4 w (w.alloc (.cells #[.int .i64 (n : Int)] 59)):=qal _
 have hb:=(Blk.new w #[.int .i64 (n : Int)] 59).cell 0
 have h16:=qAm hn
 have n16 : (n : Int) ≤ 16:=by omega
 have i2 : (i : Int) < 2:=by omega
 obtain ⟨A,hA⟩ : ∃ A : Nat,A = n * 64:=⟨_,rfl⟩
 have hA2 : (A : Int) ≤ 1024:=by omega
 have u1 : IntKind.i64.wrap ((n : Int) * 32) = (n : Int) * 32:=IntWalk.i64_in _ (by omega)
 have u2 : IntKind.i64.wrap (2 * (A : Int)) = 2 * (A : Int):=IntWalk.i64_in _ (by omega)
 have u3 : IntKind.i64.wrap ((n : Int) * 32 + 2 * (A : Int)) = (n : Int) * 32 + 2 * (A : Int):=IntWalk.i64_in _ (by omega)
 have u4 : IntKind.i64.wrap ((i : Int) * 60) = (i : Int) * 60:=IntWalk.i64_in _ (by omega)
 have u5 : IntKind.i64.wrap ((n : Int) * 32 + 2 * (A : Int) + (i : Int) * 60) = (n : Int) * 32 + 2 * (A : Int) + (i : Int) * 60:=IntWalk.i64_in _ (by omega)
 have e1 : ((gRec n i : Nat) : Int) = (n : Int) * 32 + 2 * (A : Int) + (i : Int) * 60:=by unfold gRec;rw [← hA];omega
 rw [e1]
 have HE:=qh e1
 have H16:=qh h16
 have HA:=qh hA
 clear e1 h16 hA
 go_enter func67,ntmps67
 go_wp2_with fail
 generalize (w.alloc (.cells #[.int .i64 (n : Int)] 59)) = w0 at *
 refine (qEY n hn i 2 (by omega) (by omega) _).mono ?_
 rintro e w2 ⟨rfl,hk2⟩
 have hb2:=hk2.at hb
 go_wp2_with fail
 refine qA5 [(0,0),(1,0),(2,0),(3,0),(7,0),(8,0),(4,1),(5,0),(6,0),(9,0),(10,0)] (by kernel_rfl) (by kernel_rfl) ?_
 intro w3 hw3
 repeat
  refine qA0 _ rfl (fun K hK=>?_)
  first
   | (refine qqP (by rfl) ?_;apply Exists.intro;refine ⟨fun w' hw'=>?_,hK _ ?_⟩;(have q:=hw'.at (hw3.at hb2);go_simp;first|done|rfl))
   | refine qqN (by rfl) (hK _ ?_)
  clear hK K;simp only [Act.put,qqB]
 refine qqH _ rfl (by rfl) (fun K hK=>?_)
 go_wp2_with fail
 refine (qIf n (by omega) _).mono ?_
 rintro e w4 ⟨rfl,hk4⟩
 rw [← HA.out]
 go_wp2
 refine hK _ _ (hk4) ?_
 clear hK K
 try simp only [Act.put,qqB]
 repeat
  refine qA0 _ rfl (fun K hK=>?_)
  first
   | (refine qqP (by rfl) ?_;apply Exists.intro;refine ⟨fun w' hw'=>?_,hK _ ?_⟩;go_simp;first|done|rfl)
   | refine qqN (by rfl) (hK _ ?_)
  clear hK K;simp only [Act.put,qqB]
 refine qA7 ?_
 go_wp2
 go_ret
 exact ⟨rfl,qA4.of (qA4.of (qA4.of hk hk2) hw3) hk4⟩
theorem qIh (n : Nat) (hn : qDR (n : Int) = true) (w : World) : Calls prog 38 #[.agg #[.int .i64 (n : Int)]] w fun e w'=>e = .returned (.int .i64 (gSize n : Nat)) ∧ qA4 w w':=by
 have hk : qA4 w (w.alloc (.cells #[.int .i64 (n : Int)] 59)):=qal _
 have hb:=(Blk.new w #[.int .i64 (n : Int)] 59).cell 0
 have h16:=qAm hn
 have hr : gRec n 1 ≤ 100000:=by unfold gRec;omega
 have e1 : ((gSize n : Nat) : Int) = (gRec n 1 : Int) + 60:=by unfold gSize gRec;omega
 rw [e1]
 have HC:=qh (fun w=>qKj n hn 1 (by omega) w)
 generalize gRec n 1 = R at *
 have hri : (R : Int) ≤ 100000:=by omega
 have HE:=qh e1
 have H16:=qh h16
 clear e1 h16
 go_enter func38,ntmps38
 go_wp2_with fail
 refine (qE4 n _).mono ?_
 rintro e w1 ⟨rfl,rfl⟩
 rw [hn]
 go_wp2_with fail
 refine (HC.out _).mono ?_
 rintro e w2 ⟨rfl,hk2⟩
 go_wp2
 go_ret
 exact ⟨rfl,qA4.of hk hk2⟩
end Go.Proofs.YtdlgihbpiakebaaGreat
