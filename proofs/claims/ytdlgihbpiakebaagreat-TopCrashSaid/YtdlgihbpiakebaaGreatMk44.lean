import Derived.Test.YtdlgihbpiakebaaGreatMk06
import Derived.Test.YtdlgihbpiakebaaGreatMk16
import Derived.Test.YtdlgihbpiakebaaGreatMk27
import Derived.Test.YtdlgihbpiakebaaGreatProg
import Derived.Lib.Hide
import Derived.IntWalk
import Derived.Handy
set_option maxRecDepth 100000
set_option maxHeartbeats 4000000
namespace Go.Proofs.YtdlgihbpiakebaaGreat
open Go Go.RowKit Tryz
structure Ag where
 last:List Int
 ticks:Nat
 q:List Nat
def qET (l:List Int)(x y:Nat):Bool:=decide (l[x]?.getD 0<l[y]?.getD 0)
def qCf (l:List Int)(t:Nat)(Q:Nat):List Value:=qBg l++ [.int .i64 (t:Int),.pointer (some ⟨Q,0,none⟩)]
def qBw (q:List Nat):List Value:=q.map fun (n:Nat)=>Value.int .i64 (n:Int)
theorem qB8 (l:List Int):(qBg l).length=l.length:=by simp[qBg]
theorem qEU (q:List Nat):(qBw q).length=q.length:=by simp[qBw]
theorem qHm (q:List Nat)(i:Nat)(h:i<q.length):(qBw q)[i]? = some (.int .i64 ((q[i]:Nat):Int)):=by simp[qBw,h]
theorem qIb (a b:List Nat):qBw (a++b)=qBw a++qBw b:=by simp[qBw]
theorem qFk (l:List Int)(t Q x:Nat)(h:x<l.length):(qCf l t Q).toArray[x]? = some (.int .i64 (l[x]?.getD 0)):=by
 rw[List.getElem?_toArray,qCf,List.getElem?_append_left (by rw[qB8];exact h)]
 simp[qBg,h]
structure qEl (w:World)(A Q g cap:Nat)(a:Ag):Prop where
 len:a.last.length=16
 slots:∀x∈a.q,x<16
 age:Blk w A (qCf a.last a.ticks Q).toArray 157
 que:Blk w Q #[.slice (some ⟨g,0,none⟩) a.q.length cap,.func (.func 71) #[.pointer (some ⟨A,0,none⟩)] #[]] 160
 row:w.ownsRow 0 3 1 (.slice (some ⟨g,0,none⟩) a.q.length cap) a.q.length (qBw a.q)
theorem qEl.kept {w w':World}{A Q g cap:Nat}{a:Ag}(h:qEl w A Q g cap a)(hk:qA4 w w'):qEl w' A Q g cap a:=
 ⟨h.len,h.slots,h.age.kept hk,h.que.kept hk,qA5 h.row hk⟩
theorem qEl.sl {w:World}{A Q g cap:Nat}{a:Ag}(h:qEl w A Q g cap a):Sl w (.slice (some ⟨g,0,none⟩) a.q.length cap) a.q.length (qBw a.q):=Sl.of_own h.row
theorem qEl.cell {w:World}{A Q g cap:Nat}{a:Ag}(h:qEl w A Q g cap a)(i:Nat)(hi:i<a.q.length):w.cell? ⟨g,i,none⟩=some (.int .i64 ((a.q[i]:Nat):Int)):=by
 obtain⟨b,off,c,e,_,_,_,f⟩:=h.sl.at (by rw[qEU];omega)
 cases e
 have:=f i _ (qHm a.q i hi)
 simpa using this
theorem qNN (A:Nat)(l:List Int)(t Q:Nat)(x y:Nat)(hl:l.length=16)(hx:x<16)(hy:y<16)(w:World)(h:Blk w A (qCf l t Q).toArray 157):Calls prog 71 #[.pointer (some ⟨A,0,none⟩),.int .i64 (x:Int),.int .i64 (y:Int)] w fun e w'=>e= .returned (.bool (qET l x y))∧qA4 w w':=by
 have J:(0:Int)≤(x:Int):=by omega
 have N:(x:Int)<16:=by omega
 have I:(0:Int)≤(y:Int):=by omega
 have O:(y:Int)<16:=by omega
 go_enter func71,ntmps71
 go_wp2_with fail
 have G:=h
 refine qA3 [(0,0),(1,0),(2,0),(3,0),(4,0),(5,0),(6,0),(7,0),(8,0),(9,0),(10,0),(11,0),(12,0),(13,0)] (by kernel_rfl) (by kernel_rfl) ?_
 intro w1 f
 replace h:=h.kept f
 repeat
  refine qA0 _ rfl (fun K j=>?_)
  first
   | (refine qqP (by rfl) ?_;apply Exists.intro;refine⟨fun w' c=>?_,j _ ?_⟩;(have F:=(h.kept c).cell x;have q:=(h.kept c).cell y;rw[qFk _ _ _ x (by rw[hl];exact hx)]at F;rw[qFk _ _ _ y (by rw[hl];exact hy)]at q;go_simp;first|done|rfl))
   | refine qqN (by rfl) (j _ ?_)
  clear j K;simp only[Act.put,qqB]
 refine qA6 ?_
 go_wp2
 go_ret
 refine⟨?_,f⟩
 have l1:x<l.length:=by rw[hl];exact hx
 have l2:y<l.length:=by rw[hl];exact hy
 rw[show qET l x y=decide (l[x]<l[y]) by unfold qET;rw[List.getElem?_eq_getElem l1,List.getElem?_eq_getElem l2];rfl]
 rfl
theorem qLi (A Q g cap:Nat)(a:Ag)(w:World)(h:qEl w A Q g cap a):Calls prog 190 #[.pointer (some ⟨Q,0,none⟩)] w fun e w'=>e= .returned (.int .i64 a.q.length)∧w=w':=by
 have c:=h.que.cell 0
 clear h
 go_enter func190,ntmps190
 go_wp2
 go_ret
 exact⟨rfl,rfl⟩
theorem qJa (A Q g cap:Nat)(a:Ag)(w:World)(f:qEl w A Q g cap a)(i j:Nat)(hi:i<a.q.length)(hj:j<a.q.length):Calls prog 211 #[.pointer (some ⟨Q,0,none⟩),.int .i64 (i:Int),.int .i64 (j:Int)] w fun e w'=>e= .returned (.bool (qET a.last a.q[i] a.q[j]))∧qA4 w w':=by
 have N:(0:Int)≤(i:Int):=by omega
 have O:(i:Int)<(a.q.length:Int):=by omega
 have J:(0:Int)≤(j:Int):=by omega
 have V:(j:Int)<(a.q.length:Int):=by omega
 go_enter func211,ntmps211
 go_wp2_with fail
 refine qA3 [(0,0),(1,0),(2,0),(3,0),(4,0),(5,0),(6,0),(7,0),(8,0),(9,0),(10,0),(11,0),(12,0),(13,0),(14,0),(15,0),(16,0),(17,0),(18,1),(19,0)] (by kernel_rfl) (by kernel_rfl) ?_
 intro w1 F
 replace f:=f.kept F
 repeat
  refine qA0 _ rfl (fun K c=>?_)
  first
   | (refine qqP (by rfl) ?_;apply Exists.intro;refine⟨fun w' l=>?_,c _ ?_⟩;(have H:=f.kept l;have G:=H.que.cell 0;have Y:=H.que.cell 1;have Z:=H.cell i hi;have q3:=H.cell j hj;clear H;go_simp;first|done|rfl))
   | refine qqN (by rfl) (c _ ?_)
  clear c K;simp only[Act.put,qqB]
 refine qqH _ rfl (by rfl) (fun K c=>?_)
 go_wp2_with fail
 refine(qNN A a.last a.ticks Q (a.q[i]) (a.q[j]) f.len (f.slots _ (List.getElem_mem hi)) (f.slots _ (List.getElem_mem hj)) _ f.age).mono ?_
 rintro e I ⟨rfl,h⟩
 go_wp2
 refine c _ _ (h) ?_
 clear c K
 try simp only[Act.put,qqB]
 repeat
  refine qA0 _ rfl (fun K c=>?_)
  first
   | (refine qqP (by rfl) ?_;apply Exists.intro;refine⟨fun w' l=>?_,c _ ?_⟩;go_simp;first|done|rfl)
   | refine qqN (by rfl) (c _ ?_)
  clear c K;simp only[Act.put,qqB]
 refine qA6 ?_
 go_wp2
 go_ret
 exact⟨rfl,F.of h⟩
end Go.Proofs.YtdlgihbpiakebaaGreat
