import Derived.Test.YtdlgihbpiakebaaGreatMd06
import Derived.Test.YtdlgihbpiakebaaGreatMd16
import Derived.Test.YtdlgihbpiakebaaGreatMd28
import Derived.Test.YtdlgihbpiakebaaGreatProg
import Derived.Lib.Hide
import Derived.IntWalk
import Derived.Handy
set_option maxRecDepth 100000
set_option maxHeartbeats 4000000
namespace Go.Proofs.YtdlgihbpiakebaaGreat
open Go Go.RowKit Tryz
structure Ag where
 last : List Int
 ticks : Nat
 q : List Nat
def qEC (l : List Int) (x y : Nat) : Bool:=decide (l[x]?.getD 0 < l[y]?.getD 0)
def qC6 (l : List Int) (t : Nat) (Q : Nat) : List Value:=qBb l ++ [.int .i64 (t : Int),.pointer (some ⟨Q,0,none⟩)]
def qBr (q : List Nat) : List Value:=q.map fun (n : Nat)=>Value.int .i64 (n : Int)
theorem qB3 (l : List Int) : (qBb l).length = l.length:=by simp [qBb]
theorem qED (q : List Nat) : (qBr q).length = q.length:=by simp [qBr]
theorem qGV (q : List Nat) (i : Nat) (h : i < q.length) : (qBr q)[i]? = some (.int .i64 ((q[i] : Nat) : Int)):=by simp [qBr,h]
theorem qHE (a b : List Nat) : qBr (a ++ b) = qBr a ++ qBr b:=by simp [qBr]
theorem qF1 (l : List Int) (t Q x : Nat) (h : x < l.length) : (qC6 l t Q).toArray[x]? = some (.int .i64 (l[x]?.getD 0)):=by
 rw [List.getElem?_toArray,qC6,List.getElem?_append_left (by rw [qB3];exact h)]
 simp [qBb,h]
structure qEa (w : World) (A Q g cap : Nat) (a : Ag) : Prop where
 len : a.last.length = 16
 slots : ∀ x ∈ a.q,x < 16
 age : Blk w A (qC6 a.last a.ticks Q).toArray 157
 que : Blk w Q #[.slice (some ⟨g,0,none⟩) a.q.length cap,.func (.func 71) #[.pointer (some ⟨A,0,none⟩)] #[]] 160
 row : w.ownsRow 0 3 1 (.slice (some ⟨g,0,none⟩) a.q.length cap) a.q.length (qBr a.q)
theorem qEa.kept {w w' : World} {A Q g cap : Nat} {a : Ag} (h : qEa w A Q g cap a) (hk : qA4 w w') : qEa w' A Q g cap a :=
 ⟨h.len,h.slots,h.age.kept hk,h.que.kept hk,qA3 h.row hk⟩
theorem qEa.sl {w : World} {A Q g cap : Nat} {a : Ag} (h : qEa w A Q g cap a) : Sl w (.slice (some ⟨g,0,none⟩) a.q.length cap) a.q.length (qBr a.q):=Sl.of_own h.row
theorem qEa.cell {w : World} {A Q g cap : Nat} {a : Ag} (h : qEa w A Q g cap a) (i : Nat) (hi : i < a.q.length) : w.cell? ⟨g,i,none⟩ = some (.int .i64 ((a.q[i] : Nat) : Int)):=by
 obtain ⟨b,off,cap',e,_,_,_,hx⟩:=h.sl.at (by rw [qED];omega)
 cases e
 have:=hx i _ (qGV a.q i hi)
 simpa using this
theorem qMU (A : Nat) (l : List Int) (t Q : Nat) (x y : Nat) (hl : l.length = 16) (hx : x < 16) (hy : y < 16) (w : World) (h : Blk w A (qC6 l t Q).toArray 157) : Calls prog 71 #[.pointer (some ⟨A,0,none⟩),.int .i64 (x : Int),.int .i64 (y : Int)] w fun e w'=>e = .returned (.bool (qEC l x y)) ∧ qA4 w w':=by
 have n1 : (0 : Int) ≤ (x : Int):=by omega
 have n2 : (x : Int) < 16:=by omega
 have n3 : (0 : Int) ≤ (y : Int):=by omega
 have n4 : (y : Int) < 16:=by omega
 go_enter func71,ntmps71
 go_wp2_with fail
 have h0:=h
 refine qA5 [(0,0),(1,0),(2,0),(3,0),(4,0),(5,0),(6,0),(7,0),(8,0),(9,0),(10,0),(11,0),(12,0),(13,0)] (by kernel_rfl) (by kernel_rfl) ?_
 intro w1 hk1
 replace h:=h.kept hk1
 repeat
  refine qA0 _ rfl (fun K hK=>?_)
  first
   | (refine qqP (by rfl) ?_;apply Exists.intro;refine ⟨fun w' hw'=>?_,hK _ ?_⟩;(have q1:=(h.kept hw').cell x;have q2:=(h.kept hw').cell y;rw [qF1 _ _ _ x (by rw [hl];exact hx)] at q1;rw [qF1 _ _ _ y (by rw [hl];exact hy)] at q2;go_simp;first|done|rfl))
   | refine qqN (by rfl) (hK _ ?_)
  clear hK K;simp only [Act.put,qqB]
 refine qA7 ?_
 go_wp2
 go_ret
 refine ⟨?_,hk1⟩
 have l1 : x < l.length:=by rw [hl];exact hx
 have l2 : y < l.length:=by rw [hl];exact hy
 rw [show qEC l x y = decide (l[x] < l[y]) by unfold qEC;rw [List.getElem?_eq_getElem l1,List.getElem?_eq_getElem l2];rfl]
 rfl
theorem qKs (A Q g cap : Nat) (a : Ag) (w : World) (h : qEa w A Q g cap a) : Calls prog 190 #[.pointer (some ⟨Q,0,none⟩)] w fun e w'=>e = .returned (.int .i64 a.q.length) ∧ w = w':=by
 have c0:=h.que.cell 0
 clear h
 go_enter func190,ntmps190
 go_wp2
 go_ret
 exact ⟨rfl,rfl⟩
theorem qIw (A Q g cap : Nat) (a : Ag) (w : World) (h0 : qEa w A Q g cap a) (i j : Nat) (hi : i < a.q.length) (hj : j < a.q.length) : Calls prog 211 #[.pointer (some ⟨Q,0,none⟩),.int .i64 (i : Int),.int .i64 (j : Int)] w fun e w'=>e = .returned (.bool (qEC a.last a.q[i] a.q[j])) ∧ qA4 w w':=by
 have n1 : (0 : Int) ≤ (i : Int):=by omega
 have n2 : (i : Int) < (a.q.length : Int):=by omega
 have n3 : (0 : Int) ≤ (j : Int):=by omega
 have n4 : (j : Int) < (a.q.length : Int):=by omega
 go_enter func211,ntmps211
 go_wp2_with fail
 refine qA5 [(0,0),(1,0),(2,0),(3,0),(4,0),(5,0),(6,0),(7,0),(8,0),(9,0),(10,0),(11,0),(12,0),(13,0),(14,0),(15,0),(16,0),(17,0),(18,1),(19,0)] (by kernel_rfl) (by kernel_rfl) ?_
 intro w1 hk1
 replace h0:=h0.kept hk1
 repeat
  refine qA0 _ rfl (fun K hK=>?_)
  first
   | (refine qqP (by rfl) ?_;apply Exists.intro;refine ⟨fun w' hw'=>?_,hK _ ?_⟩;(have H:=h0.kept hw';have q0:=H.que.cell 0;have q1:=H.que.cell 1;have q2:=H.cell i hi;have q3:=H.cell j hj;clear H;go_simp;first|done|rfl))
   | refine qqN (by rfl) (hK _ ?_)
  clear hK K;simp only [Act.put,qqB]
 refine qqH _ rfl (by rfl) (fun K hK=>?_)
 go_wp2_with fail
 refine (qMU A a.last a.ticks Q (a.q[i]) (a.q[j]) h0.len (h0.slots _ (List.getElem_mem hi)) (h0.slots _ (List.getElem_mem hj)) _ h0.age).mono ?_
 rintro e w2 ⟨rfl,hk2⟩
 go_wp2
 refine hK _ _ (hk2) ?_
 clear hK K
 try simp only [Act.put,qqB]
 repeat
  refine qA0 _ rfl (fun K hK=>?_)
  first
   | (refine qqP (by rfl) ?_;apply Exists.intro;refine ⟨fun w' hw'=>?_,hK _ ?_⟩;go_simp;first|done|rfl)
   | refine qqN (by rfl) (hK _ ?_)
  clear hK K;simp only [Act.put,qqB]
 refine qA7 ?_
 go_wp2
 go_ret
 exact ⟨rfl,hk1.of hk2⟩
end Go.Proofs.YtdlgihbpiakebaaGreat
