import Derived.Test.YtdlgihbpiakebaaGreatMk06
import Derived.Test.YtdlgihbpiakebaaGreatMk28
import Derived.Test.YtdlgihbpiakebaaGreatProg
import Derived.Lib.Hide
import Derived.IntWalk
set_option maxRecDepth 100000
set_option maxHeartbeats 4000000
namespace Go.Proofs.YtdlgihbpiakebaaGreat
open Go Go.RowKit Tryz
def gData (_ slot:Nat):Nat:=slot*32
def gLeaf (n area slot:Nat):Nat:=n*32+area*(n*64)+slot*32
def gNode (n area i:Nat):Nat:=n*32+area*(n*64)+n*32+i*16
def gRec (n i:Nat):Nat:=n*32+2*(n*64)+i*60
def gSize (n:Nat):Nat:=n*32+2*(n*64)+120
theorem qAo {n:Nat}(h:qD9 (n:Int)=true):n=4∨n=8∨n=16:=by
 have:=qHc h;omega
theorem qEe (n:Int)(w:World):Calls prog 33 #[.int .i64 n] w fun e w'=>e= .returned (.bool (qD9 n))∧w=w':=by
 by_cases h:n=4
 · subst h
   go_enter func33,ntmps33
   go_wp2
   go_ret
   exact⟨rfl,rfl⟩
 by_cases f:n=8
 · subst f
   go_enter func33,ntmps33
   go_wp2
   go_ret
   exact⟨rfl,rfl⟩
 by_cases c:n=16
 · subst c
   go_enter func33,ntmps33
   go_wp2
   go_ret
   exact⟨rfl,rfl⟩
 have l:(n==4)=false:=by simpa using h
 have q:(n==8)=false:=by simpa using f
 have j:(n==16)=false:=by simpa using c
 rw[show qD9 n=false by simp[qD9,h,f,c]]
 go_enter func33,ntmps33
 go_wp2
 go_ret
 exact⟨rfl,rfl⟩
theorem qM4 (n:Nat)(hn:qD9 (n:Int)=true)(i many:Int)(w:World):Calls prog 99 #[.agg #[.int .i64 (n:Int)],.int .i64 i,.int .i64 many] w fun e w'=>e= .returned (.bool (decide (0≤i)&&decide (i<many)))∧qA4 w w':=by
 have h:qA4 w (w.alloc (.cells #[.int .i64 (n:Int)] 59)):=qal _
 have q:=(Blk.new w #[.int .i64 (n:Int)] 59).cell 0
 by_cases j:0≤i
 · by_cases c:i<many
   · rw[show(decide (0≤i)&&decide (i<many))=true by simp[j,c]]
     go_enter func99,ntmps99
     go_wp2_with fail
     refine(qEe n _).mono ?_
     rintro e w1 ⟨rfl,rfl⟩
     rw[hn]
     go_wp2
     go_ret
     exact⟨rfl,h⟩
   · rw[show(decide (0≤i)&&decide (i<many))=false by simp[c]]
     have f:decide (i<many)=false:=by simpa using c
     go_enter func99,ntmps99
     go_wp2_with fail
     refine(qEe n _).mono ?_
     rintro e w1 ⟨rfl,rfl⟩
     rw[hn]
     go_wp2
     go_ret
     exact⟨rfl,h⟩
 · rw[show(decide (0≤i)&&decide (i<many))=false by simp[j]]
   have l:decide (0≤i)=false:=by simpa using j
   by_cases c:i<many
   · have f:decide (i<many)=true:=by simpa using c
     go_enter func99,ntmps99
     go_wp2_with fail
     refine(qEe n _).mono ?_
     rintro e w1 ⟨rfl,rfl⟩
     rw[hn]
     go_wp2
     go_ret
     exact⟨rfl,h⟩
   · have f:decide (i<many)=false:=by simpa using c
     go_enter func99,ntmps99
     go_wp2_with fail
     refine(qEe n _).mono ?_
     rintro e w1 ⟨rfl,rfl⟩
     rw[hn]
     go_wp2
     go_ret
     exact⟨rfl,h⟩
theorem qFh (n:Nat)(hn:qD9 (n:Int)=true)(i many:Int)(h0:0≤i)(h1:i<many)(w:World):Calls prog 99 #[.agg #[.int .i64 (n:Int)],.int .i64 i,.int .i64 many] w fun e w'=>e= .returned (.bool true)∧qA4 w w':=by
 have:=qM4 n hn i many w
 rw[show(decide (0≤i)&&decide (i<many))=true by simp[h0,h1]]at this
 exact this
theorem qIT (n:Nat)(hn:n≤16)(w:World):Calls prog 100 #[.agg #[.int .i64 (n:Int)]] w fun e w'=>e= .returned (.int .i64 ((n*64:Nat):Int))∧qA4 w w':=by
 have f:qA4 w (w.alloc (.cells #[.int .i64 (n:Int)] 59)):=qal _
 have h:=(Blk.new w #[.int .i64 (n:Int)] 59).cell 0
 have c:((n*64:Nat):Int)=(n:Int)*64:=by omega
 rw[c]
 have j:=qh c
 clear c
 go_enter func100,ntmps100
 go_wp2
 go_ret
 exact⟨rfl,f⟩
theorem qIU (n:Nat)(hn:qD9 (n:Int)=true)(s:Nat)(hs:s<n)(w:World):Calls prog 154 #[.agg #[.int .i64 (n:Int)],.int .i64 s] w fun e w'=>e= .returned (.int .i64 (gData n s:Nat))∧qA4 w w':=by
 have F:qA4 w (w.alloc (.cells #[.int .i64 (n:Int)] 59)):=qal _
 have l:=(Blk.new w #[.int .i64 (n:Int)] 59)
 have I:=l.cell 0
 have c:=qAo hn
 have q:(s:Int)<16:=by omega
 have f:((gData n s:Nat):Int)=(s:Int)*32:=by unfold gData;omega
 rw[f]
 have G:=qh f
 have j:=qh c
 clear f c
 go_enter func154,ntmps154
 go_wp2_with fail
 generalize (w.alloc (.cells #[.int .i64 (n:Int)] 59))=w0 at *
 refine(qFh n hn s n (by omega) (by omega) _).mono ?_
 rintro e w1 ⟨rfl,h⟩
 go_wp2
 go_ret
 exact⟨rfl,qA4.of F h⟩
theorem qGc (n:Nat)(hn:qD9 (n:Int)=true)(a s:Nat)(ha:a<2)(hs:s<n)(w:World):Calls prog 105 #[.agg #[.int .i64 (n:Int)],.int .i64 a,.int .i64 s] w fun e w'=>e= .returned (.int .i64 (gLeaf n a s:Nat))∧qA4 w w':=by
 have hk:qA4 w (w.alloc (.cells #[.int .i64 (n:Int)] 59)):=qal _
 have Y:=(Blk.new w #[.int .i64 (n:Int)] 59)
 have hb:=Y.cell 0
 have f:=qAo hn
 have a1:(s:Int)<16:=by omega
 have n16:(n:Int)≤16:=by omega
 have a2:(a:Int)<2:=by omega
 obtain⟨A,J⟩:∃A:Nat,A=n*64:=⟨_,rfl⟩
 obtain⟨M,j⟩:∃M:Nat,M=a*A:=⟨_,rfl⟩
 have hm:(a:Int)*(A:Int)=(M:Int):=by rw[j];simp
 have a3:M≤1024:=by rw[j,J];rcases f with rfl|rfl|rfl<;>omega
 have O:((gLeaf n a s:Nat):Int)=(n:Int)*32+(M:Int)+(s:Int)*32:=by unfold gLeaf;rw[←J,←j];omega
 rw[O]
 have w1:IntKind.i64.wrap ((a:Int)*(A:Int))=(M:Int):=by rw[hm];exact IntWalk.i64_in _ (by omega)
 have u1:IntKind.i64.wrap ((n:Int)*32)=(n:Int)*32:=IntWalk.i64_in _ (by omega)
 have u2:IntKind.i64.wrap (M:Int)=(M:Int):=IntWalk.i64_in _ (by omega)
 have u3:IntKind.i64.wrap ((n:Int)*32+(M:Int))=(n:Int)*32+(M:Int):=IntWalk.i64_in _ (by omega)
 have u4:IntKind.i64.wrap ((s:Int)*32)=(s:Int)*32:=IntWalk.i64_in _ (by omega)
 have u5:IntKind.i64.wrap ((n:Int)*32+(M:Int)+(s:Int)*32)=(n:Int)*32+(M:Int)+(s:Int)*32:=IntWalk.i64_in _ (by omega)
 have HE:=qh O
 have a0:=qh f
 have Z:=qh J
 have HM:=qh j
 clear O f J j
 go_enter func105,ntmps105
 go_wp2_with fail
 generalize (w.alloc (.cells #[.int .i64 (n:Int)] 59))=w0 at *
 refine(qFh n hn a 2 (by omega) (by omega) _).mono ?_
 rintro e w1 ⟨rfl,I⟩
 have N:=I.at hb
 go_wp2_with fail
 refine(qFh n hn s n (by omega) (by omega) _).mono ?_
 rintro e w2 ⟨rfl,h⟩
 have V:=h.at N
 go_wp2_with fail
 refine qA3 [(0,0),(1,0),(2,0),(3,0),(4,0),(8,0),(9,0),(5,1),(6,0),(7,0),(10,0),(11,0)] (by kernel_rfl) (by kernel_rfl) ?_
 intro w3 l
 repeat
  refine qA0 _ rfl (fun K c=>?_)
  first
   | (refine qqP (by rfl) ?_;apply Exists.intro;refine⟨fun w' G=>?_,c _ ?_⟩;(have q:=G.at (l.at V);go_simp;first|done|rfl))
   | refine qqN (by rfl) (c _ ?_)
  clear c K;simp only[Act.put,qqB]
 refine qqH _ rfl (by rfl) (fun K c=>?_)
 go_wp2_with fail
 refine(qIT n (by omega) _).mono ?_
 rintro e w4 ⟨rfl,F⟩
 rw[←Z.out]
 go_wp2
 refine c _ _ (F) ?_
 clear c K
 try simp only[Act.put,qqB]
 repeat
  refine qA0 _ rfl (fun K c=>?_)
  first
   | (refine qqP (by rfl) ?_;apply Exists.intro;refine⟨fun w' G=>?_,c _ ?_⟩;go_simp;first|done|rfl)
   | refine qqN (by rfl) (c _ ?_)
  clear c K;simp only[Act.put,qqB]
 refine qA6 ?_
 go_wp2
 go_ret
 exact⟨rfl,qA4.of (qA4.of (qA4.of (qA4.of hk I) h) l) F⟩
theorem qKi (n:Nat)(hn:qD9 (n:Int)=true)(a:Nat)(ha:a<2)(w:World):Calls prog 189 #[.agg #[.int .i64 (n:Int)],.func (.func 105) #[] #[],.int .i64 a] w fun e w'=>e= .returned (.int .i64 ((gLeaf n a (n - 1)+32:Nat):Int))∧qA4 w w':=by
 have q:qA4 w (w.alloc (.cells #[.int .i64 (n:Int)] 59)):=qal _
 have N:=(Blk.new w #[.int .i64 (n:Int)] 59).cell 0
 have c:=qAo hn
 have n16:(n:Int)≤16:=by omega
 have O:1≤(n:Int):=by omega
 have hl:gLeaf n a (n - 1)≤100000:=by
  unfold gLeaf
  have:a*(n*64)≤1*(n*64):=Nat.mul_le_mul_right _ (by omega)
  omega
 have h:((gLeaf n a (n - 1)+32:Nat):Int)=(gLeaf n a (n - 1):Int)+32:=by omega
 have l:((n - 1:Nat):Int)=(n:Int) - 1:=by omega
 rw[h]
 have F:=qh (fun w=>qGc n hn a (n - 1) ha (by omega) w)
 have f:=qh l
 generalize gLeaf n a (n - 1)=GL at *
 have J:=qh h
 have G:=qh c
 clear h c l
 have I:(GL:Int)≤100000:=by omega
 go_enter func189,ntmps189
 go_wp2_with fail
 generalize (w.alloc (.cells #[.int .i64 (n:Int)] 59))=w0 at *
 rw[←f.out]
 refine(F.out _).mono ?_
 rintro e w1 ⟨rfl,j⟩
 go_wp2
 go_ret
 exact⟨rfl,qA4.of q j⟩
theorem qNq (n:Nat)(hn:qD9 (n:Int)=true)(a i:Nat)(ha:a<2)(hi:i<2*n)(w:World):Calls prog 185 #[.agg #[.int .i64 (n:Int)],.int .i64 a,.int .i64 i] w fun e w'=>e= .returned (.int .i64 (gNode n a i:Nat))∧qA4 w w':=by
 have F:qA4 w (w.alloc (.cells #[.int .i64 (n:Int)] 59)):=qal _
 have V:=(Blk.new w #[.int .i64 (n:Int)] 59).cell 0
 have h:=qAo hn
 have n16:(n:Int)≤16:=by omega
 have Z:0≤(n:Int):=by omega
 have O:(i:Int)<32:=by omega
 have hl:gLeaf n a (n - 1)≤100000:=by
  unfold gLeaf
  have:a*(n*64)≤1*(n*64):=Nat.mul_le_mul_right _ (by omega)
  omega
 have q:((gNode n a i:Nat):Int)=((gLeaf n a (n - 1)+32:Nat):Int)+(i:Int)*16:=by unfold gNode gLeaf;omega
 rw[q]
 have G:=qh (fun w=>qKi n hn a ha w)
 have I:gLeaf n a (n - 1)+32≤200000:=by omega
 generalize gLeaf n a (n - 1)+32=GL at *
 have HE:=qh q
 have J:=qh h
 clear q h hl
 have N:(GL:Int)≤200000:=by omega
 go_enter func185,ntmps185
 go_wp2_with fail
 generalize (w.alloc (.cells #[.int .i64 (n:Int)] 59))=w0 at *
 refine(qFh n hn a 2 (by omega) (by omega) _).mono ?_
 rintro e w1 ⟨rfl,f⟩
 have l:=f.at V
 go_wp2_with fail
 refine(qFh n hn i _ (by omega) (by omega) _).mono ?_
 rintro e w2 ⟨rfl,c⟩
 have Y:=c.at l
 go_wp2_with fail
 refine(G.out _).mono ?_
 rintro e w3 ⟨rfl,j⟩
 go_wp2
 go_ret
 exact⟨rfl,qA4.of (qA4.of (qA4.of F f) c) j⟩
theorem qLa (n:Nat)(hn:qD9 (n:Int)=true)(i:Nat)(hi:i<2)(w:World):Calls prog 67 #[.agg #[.int .i64 (n:Int)],.int .i64 i] w fun e w'=>e= .returned (.int .i64 (gRec n i:Nat))∧qA4 w w':=by
 have N:qA4 w (w.alloc (.cells #[.int .i64 (n:Int)] 59)):=qal _
 have Z:=(Blk.new w #[.int .i64 (n:Int)] 59).cell 0
 have F:=qAo hn
 have n16:(n:Int)≤16:=by omega
 have i2:(i:Int)<2:=by omega
 obtain⟨A,J⟩:∃A:Nat,A=n*64:=⟨_,rfl⟩
 have Y:(A:Int)≤1024:=by omega
 have u1:IntKind.i64.wrap ((n:Int)*32)=(n:Int)*32:=IntWalk.i64_in _ (by omega)
 have u2:IntKind.i64.wrap (2*(A:Int))=2*(A:Int):=IntWalk.i64_in _ (by omega)
 have u3:IntKind.i64.wrap ((n:Int)*32+2*(A:Int))=(n:Int)*32+2*(A:Int):=IntWalk.i64_in _ (by omega)
 have u4:IntKind.i64.wrap ((i:Int)*60)=(i:Int)*60:=IntWalk.i64_in _ (by omega)
 have u5:IntKind.i64.wrap ((n:Int)*32+2*(A:Int)+(i:Int)*60)=(n:Int)*32+2*(A:Int)+(i:Int)*60:=IntWalk.i64_in _ (by omega)
 have G:((gRec n i:Nat):Int)=(n:Int)*32+2*(A:Int)+(i:Int)*60:=by unfold gRec;rw[←J];omega
 rw[G]
 have HE:=qh G
 have V:=qh F
 have O:=qh J
 clear G F J
 go_enter func67,ntmps67
 go_wp2_with fail
 generalize (w.alloc (.cells #[.int .i64 (n:Int)] 59))=w0 at *
 refine(qFh n hn i 2 (by omega) (by omega) _).mono ?_
 rintro e w2 ⟨rfl,f⟩
 have I:=f.at Z
 go_wp2_with fail
 refine qA3 [(0,0),(1,0),(2,0),(3,0),(7,0),(8,0),(4,1),(5,0),(6,0),(9,0),(10,0)] (by kernel_rfl) (by kernel_rfl) ?_
 intro w3 j
 repeat
  refine qA0 _ rfl (fun K c=>?_)
  first
   | (refine qqP (by rfl) ?_;apply Exists.intro;refine⟨fun w' l=>?_,c _ ?_⟩;(have q:=l.at (j.at I);go_simp;first|done|rfl))
   | refine qqN (by rfl) (c _ ?_)
  clear c K;simp only[Act.put,qqB]
 refine qqH _ rfl (by rfl) (fun K c=>?_)
 go_wp2_with fail
 refine(qIT n (by omega) _).mono ?_
 rintro e w4 ⟨rfl,h⟩
 rw[←O.out]
 go_wp2
 refine c _ _ (h) ?_
 clear c K
 try simp only[Act.put,qqB]
 repeat
  refine qA0 _ rfl (fun K c=>?_)
  first
   | (refine qqP (by rfl) ?_;apply Exists.intro;refine⟨fun w' l=>?_,c _ ?_⟩;go_simp;first|done|rfl)
   | refine qqN (by rfl) (c _ ?_)
  clear c K;simp only[Act.put,qqB]
 refine qA6 ?_
 go_wp2
 go_ret
 exact⟨rfl,qA4.of (qA4.of (qA4.of N f) j) h⟩
theorem qIV (n:Nat)(hn:qD9 (n:Int)=true)(w:World):Calls prog 38 #[.agg #[.int .i64 (n:Int)]] w fun e w'=>e= .returned (.int .i64 (gSize n:Nat))∧qA4 w w':=by
 have q:qA4 w (w.alloc (.cells #[.int .i64 (n:Int)] 59)):=qal _
 have N:=(Blk.new w #[.int .i64 (n:Int)] 59).cell 0
 have c:=qAo hn
 have G:gRec n 1≤100000:=by unfold gRec;omega
 have h:((gSize n:Nat):Int)=(gRec n 1:Int)+60:=by unfold gSize gRec;omega
 rw[h]
 have F:=qh (fun w=>qLa n hn 1 (by omega) w)
 generalize gRec n 1=R at *
 have l:(R:Int)≤100000:=by omega
 have I:=qh h
 have j:=qh c
 clear h c
 go_enter func38,ntmps38
 go_wp2_with fail
 refine(qEe n _).mono ?_
 rintro e w1 ⟨rfl,rfl⟩
 rw[hn]
 go_wp2_with fail
 refine(F.out _).mono ?_
 rintro e J ⟨rfl,f⟩
 go_wp2
 go_ret
 exact⟨rfl,qA4.of q f⟩
end Go.Proofs.YtdlgihbpiakebaaGreat
